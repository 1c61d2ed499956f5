/-
  A calculus for walks, part 15: functions that write what they are handed.
-/
import Derived.Test.YtmfkmifkkplidaaVn
namespace Go.Proofs.Ytmfkmifkkplidaa
open Go.ChangeShapes Go.WideShapes Go.ChangeAt Go.RowKit Go.BigFrame Go.Deep
set_option linter.unusedVariables false

set_option linter.unusedSimpArgs false
def AV.ren (g : Nat → Nat) : AV → AV
  | .ptr id sz i j => .ptr (g id) sz i j
  | .own id sz n => .own (g id) sz n
  | .fn f m caps => .fn f m fun j => (caps j).ren g
  | .tre id i => .tre (g id) i
  | x => x
def Rho.ren (ρ : Rho) (g : Nat → Nat) : Rho := ⟨fun id => ρ.m (g id), ρ.base, fun id => ρ.tv (g id), fun id => ρ.tb (g id), fun id => ρ.tn (g id)⟩
theorem R.ren {ρ : Rho} {g : Nat → Nat} {w : World} {S : Nat → Prop} : ∀ {x : AV} {v : Value}, R ρ w S (x.ren g) v → R (ρ.ren g) w S x v
  | .int _ _, _, h => h
  | .bool _, _, h => h
  | .str _, _, h => h
  | .con _, _, h => h
  | .lst _ _ _, _, h => by unfold AV.ren R at h; unfold R; exact h
  | .ref _ _, _, h => by unfold AV.ren R at h; unfold R; exact h
  | .ptr _ _ _ _, _, h => by unfold AV.ren R at h; unfold R; exact h
  | .own _ _ _, _, h => by unfold AV.ren R at h; unfold R; exact h
  | .frs _, _, h => by unfold AV.ren R at h; unfold R; exact h
  | .tre _ _, _, h => by unfold AV.ren R at h; unfold R; exact h
  | .fn f m caps, _, h => by
    unfold AV.ren R at h
    unfold R
    obtain ⟨vs, e, hm, hc⟩ := h
    refine ⟨vs, e, hm, fun j hj => ?_⟩
    obtain ⟨u, hu, hr⟩ := hc j hj
    exact ⟨u, hu, R.ren hr⟩
def SV.ren (g : Nat → Nat) : SV → SV
  | .one x => .one (x.ren g)
  | .agg l => .agg (l.map (AV.ren g))
  | .tup2 x y => .tup2 (x.ren g) (y.ren g)
  | .tup3 x y z => .tup3 (x.ren g) (y.ren g) (z.ren g)
  | .gd b s => .gd b (s.ren g)
theorem RL.ren {ρ : Rho} {g : Nat → Nat} {w : World} {S : Nat → Prop} : ∀ {l : List AV} {us : List Value}, RL ρ w S (l.map (AV.ren g)) us → RL (ρ.ren g) w S l us
  | [], _, h => h
  | _ :: _, _, ⟨u, us, e, h1, h2⟩ => ⟨u, us, e, R.ren h1, RL.ren h2⟩
theorem RS.ren {ρ : Rho} {g : Nat → Nat} {w : World} {S : Nat → Prop} : ∀ {s : SV} {v : Value}, RS ρ w S (s.ren g) v → RS (ρ.ren g) w S s v
  | .one _, _, h => R.ren h
  | .agg _, _, ⟨us, e, h⟩ => ⟨us, e, RL.ren h⟩
  | .tup2 _ _, _, ⟨a, b, e, h1, h2⟩ => ⟨a, b, e, RS.ren h1, RS.ren h2⟩
  | .tup3 _ _ _, _, ⟨a, b, c, e, h1, h2, h3⟩ => ⟨a, b, c, e, RS.ren h1, RS.ren h2, RS.ren h3⟩
  | .gd _ _, _, h => ⟨fun hb => RS.ren (h.1 hb), h.2⟩
/-- Values without memory of their own: what they are hangs on no world. -/
def AV.sc : AV → Bool
  | .int _ _ => true
  | .bool _ => true
  | .str _ => true
  | .con _ => true
  | .lst _ n _ => n == 0
  | _ => false
theorem AV.sc_r {ρ ρ' : Rho} {w w' : World} {S S' : Nat → Prop} {x : AV} {v : Value} (h : x.sc = true) (hr : R ρ w S x v) : R ρ' w' S' x v := by
  cases x <;> first | (cases h; done) | exact hr | skip
  obtain ⟨A, c, e, h1, h2, h3, h4⟩ := hr
  simp only [AV.sc, beq_iff_eq] at h
  subst h
  exact ⟨A, c, e, h1, h2, h3, fun i hi => absurd hi (by omega)⟩
def RSs (ρ : Rho) (w : World) (S : Nat → Prop) : List SV → List Value → Prop
  | [], us => us = []
  | s :: l, us => ∃ u us', us = u :: us' ∧ RS ρ w S s u ∧ RSs ρ w S l us'
theorem RSs.len {ρ : Rho} {w : World} {S : Nat → Prop} : ∀ {l : List SV} {us : List Value}, RSs ρ w S l us → us.length = l.length
  | [], us, h => by rw [show us = [] from h]; rfl
  | _ :: _, _, ⟨_, _, e, _, h2⟩ => by rw [e]; simp [RSs.len h2]
theorem RSs.get {ρ : Rho} {w : World} {S : Nat → Prop} : ∀ {l : List SV} {us : List Value} {i t : Nat} {s : SV}, RSs ρ w S l us → (enumE i l).lookup t = some s → ∃ j u, t = i + j ∧ us[j]? = some u ∧ RS ρ w S s u
  | [], _, _, _, _, _, h => by simp [enumE] at h
  | x :: l, _, i, t, s, ⟨u, us, e, h1, h2⟩, h => by
    subst e
    simp only [enumE, List.lookup_cons] at h
    by_cases e : t = i
    · subst e
      simp at h
      subst h
      exact ⟨0, u, rfl, rfl, h1⟩
    · have : (t == i) = false := by simpa using e
      rw [this] at h
      obtain ⟨j, u', e1, e2, e3⟩ := RSs.get h2 h
      exact ⟨j + 1, u', by omega, by simpa using e2, e3⟩
/-- The contract of a function that is handed the objects H (names from 1000000 on) and leaves H' and r. -/
def FnG (P : Program) (f : FuncId) (args : List SV) (H : Heap) (r : SV) (H' : Heap) : Prop :=
  ∀ (ρ : Rho) (S : Nat → Prop) (w : World) (vs : List Value), MemOk ρ.base ρ S H w → RSs ρ w S args vs → Calls P f vs.toArray w fun e w' => ∃ v ρ' S', e = .returned v ∧ Below ρ.base w w' ∧ Same S w S' w' ∧ ρ'.base = ρ.base ∧ (∀ id, 1000000 ≤ id → Rho.At ρ ρ' id) ∧ MemOk ρ.base ρ' S' H' w' ∧ RS ρ' w' S' r v
def RetG (P : Program) (fn : Func) (r : SV) (H' : Heap) : Exit → Sig → Prop
  | .ret, σ => ResL P σ fn.results.toList r ∧ HeapLe σ.heap H'
  | .normal, σ => ResL P σ fn.results.toList r ∧ HeapLe σ.heap H'
  | _, _ => False
theorem FnG.of_body {P : Program} {f : FuncId} {fn : Func} {c : Code} {args : List SV} {r : SV} {H H' : Heap} (hf : P.funcs[f]? = some fn) (hb : fn.body = some c) (hle : args.length ≤ fn.ntmps)
    (h : ∀ w0, AW P fn.ntmps w0 c (RetG P fn r H') ⟨enumE 0 args, H⟩) : FnG P f args H r H' := by
  intro ρ0 S w vs hm hd
  have hl := hd.len
  refine calls_of_wp hf hb ?_
  refine h ⟨ρ0.base, w, S, w, ρ0⟩ ρ0 S _ w _ (fun e ρ S' σ a w' hs hq => ?_) ⟨?_, rfl, ⟨Below.refl _ _, Same.refl _ _, fun _ _ => .refl _ _⟩, hm, ?_⟩
  · have fin : ResL P σ fn.results.toList r ∧ HeapLe σ.heap H' → a.defers = [] ∧ ∃ v, (results fn a.tmps).run P w' = .ok v w' ∧ (∃ v' ρ' S'', Ending.returned v = .returned v' ∧ Below ρ0.base w w' ∧ Same S w S'' w' ∧ ρ'.base = ρ0.base ∧ (∀ id, 1000000 ≤ id → Rho.At ρ0 ρ' id) ∧ MemOk ρ0.base ρ' S'' H' w' ∧ RS ρ' w' S'' r v') := fun ⟨hr, hh⟩ => by
      obtain ⟨v, hv, hrun⟩ := hr.run hs
      exact ⟨hs.defers, v, hrun, v, ρ, S', rfl, hs.below.old, hs.below.same, hs.mem.base, hs.below.ids, hs.mem.le hh, hv⟩
    cases e
    case ret => exact fin hq
    case normal => exact fin hq
    all_goals exact hq.elim
  · simp [hl]; omega
  · intro t s ht
    obtain ⟨j, u, e1, e2, e3⟩ := hd.get ht
    have hj : j < vs.length := (List.getElem?_eq_some_iff.1 e2).1
    have : ((vs.toArray ++ Array.replicate (fn.ntmps - vs.toArray.size) undef).getD t undef) = u := by
      rw [Array.getD_eq_getD_getElem?, Array.getElem?_append_left (by simp; omega)]
      simp [show t = j by omega, e2]
    show RS _ w S s ((vs.toArray ++ Array.replicate (fn.ntmps - vs.toArray.size) undef).getD t undef)
    rw [this]
    exact e3
theorem SV.Plain.r' {s : SV} (h : s.Plain) {ρ : Rho} {w : World} {S : Nat → Prop} {v : Value} (hr : RS ρ w S s v) : v = s.val := h.eq hr
theorem Rn.of_eq {ρ ρ' : Rho} {p : Nat → Prop} (h : ρ'.base = ρ.base) (he : ∀ id, Rho.At ρ ρ' id) : Rn ρ ρ' p := ⟨h, fun id => .inl (he id)⟩
section
variable {P : Program} {N : Nat} {w0 : Start} {σ : Sig} {ops : Array Oper} {rest : List Oper} {o : Oper} {Q : Sig → Prop}
/-- What is known of the arguments of a call that is handed objects: the rest of the memory is only read. -/
def KnG (σ : Sig) (Hr : Heap) (g : Nat → Nat) : List Operand → List SV → Prop
  | [], [] => True
  | x :: xs, y :: ys => ((∃ s, Kn σ x s ∧ VS Hr s y) ∨ Kn σ x (y.ren g)) ∧ KnG σ Hr g xs ys
  | _, _ => False
theorem KnG.sound {ρ : Rho} {S : Nat → Prop} {a : Act} {w : World} {Hr : Heap} {g : Nat → Nat} (hs : St N w0 ρ S σ a w) (hm : MemOk w0.base ρ S Hr w) (hsame : Same S w (withOwn ρ Hr S) w) : ∀ {xs : List Operand} {ys : List SV}, KnG σ Hr g xs ys → RSs (ρ.ren g) w (withOwn ρ Hr S) ys (xs.map a.eval)
  | [], [], _ => rfl
  | _ :: _, _ :: _, ⟨h1, h2⟩ => by
    refine ⟨_, _, rfl, ?_, KnG.sound hs hm hsame h2⟩
    rcases h1 with ⟨s, k, h⟩ | h
    · exact (h.sound hm (k.sound hs)).toRS
    · exact RS.keep hsame (Rn.refl _ _) (RS.ren (h.sound hs))
  | [], _ :: _, h => h.elim
  | _ :: _, [], h => h.elim
/-- Values that speak of nothing but handed objects. -/
def AV.hd : AV → Bool
  | .ptr id _ _ _ => Nat.ble 1000000 id
  | .own id _ _ => Nat.ble 1000000 id
  | x => x.sc
def SV.hd : SV → Bool
  | .one x => x.hd
  | .agg l => l.all AV.hd
  | .tup2 x y => x.hd && y.hd
  | .tup3 x y z => x.hd && y.hd && z.hd
  | .gd _ _ => false
theorem AV.hd_r {ρ ρ' : Rho} {g : Nat → Nat} {w : World} {S S' : Nat → Prop} (hids : ∀ id, 1000000 ≤ id → Rho.At (ρ.ren g) ρ' id) {x : AV} {v : Value} (h : x.hd = true) (hr : R ρ' w S' x v) : R ρ w S (x.ren g) v := by
  cases x with
  | ptr id sz i j =>
    have e := (hids id (Nat.le_of_ble_eq_true h)).m
    have hr : v = .pointer (some ⟨(ρ'.m id).1, i * sz + j, none⟩) := hr
    rw [e] at hr
    exact hr
  | own id sz n =>
    have e := (hids id (Nat.le_of_ble_eq_true h)).m
    have hr : ∃ A, v = .slice A n (ρ'.m id).2 ∧ n ≤ (ρ'.m id).2 ∧ (ρ'.m id).2 ≤ maxLen ∧ (A = some ⟨(ρ'.m id).1, 0, none⟩ ∨ (A = none ∧ (ρ'.m id).2 = 0)) := hr
    rw [e] at hr
    exact hr
  | int k n => exact hr
  | bool b => exact hr
  | str s => exact hr
  | con c => exact hr
  | lst sz n f => exact AV.sc_r (x := .lst sz n f) h hr
  | ref _ _ => cases h
  | fn _ _ _ => cases h
  | frs _ => cases h
  | tre _ _ => cases h
theorem RL.hd_r {ρ ρ' : Rho} {g : Nat → Nat} {w : World} {S S' : Nat → Prop} (hids : ∀ id, 1000000 ≤ id → Rho.At (ρ.ren g) ρ' id) : ∀ {l : List AV} {us : List Value}, l.all AV.hd = true → RL ρ' w S' l us → RL ρ w S (l.map (AV.ren g)) us
  | [], _, _, h => h
  | _ :: _, _, hh, ⟨u, us, e, h1, h2⟩ => by
    rw [List.all_cons, Bool.and_eq_true] at hh
    exact ⟨u, us, e, AV.hd_r hids hh.1 h1, RL.hd_r hids hh.2 h2⟩
theorem SV.hd_r {ρ ρ' : Rho} {g : Nat → Nat} {w : World} {S S' : Nat → Prop} (hids : ∀ id, 1000000 ≤ id → Rho.At (ρ.ren g) ρ' id) : ∀ {s : SV} {v : Value}, s.hd = true → RS ρ' w S' s v → RS ρ w S (s.ren g) v
  | .one _, _, h, hr => AV.hd_r hids h hr
  | .agg _, _, h, ⟨us, e, hl⟩ => ⟨us, e, RL.hd_r hids h hl⟩
  | .tup2 _ _, _, h, ⟨a, b, e, h1, h2⟩ => by
    rw [SV.hd, Bool.and_eq_true] at h
    exact ⟨a, b, e, SV.hd_r hids h.1 h1, SV.hd_r hids h.2 h2⟩
  | .tup3 _ _ _, _, h, ⟨a, b, c, e, h1, h2, h3⟩ => by
    rw [SV.hd, Bool.and_eq_true, Bool.and_eq_true] at h
    exact ⟨a, b, c, e, SV.hd_r hids h.1.1 h1, SV.hd_r hids h.1.2 h2, SV.hd_r hids h.2 h3⟩
  | .gd _ _, _, h, _ => by cases h
/-- A call that writes what it is handed, and yields a plain value or what it was handed. -/
theorem ARun.mut {f d : Nat} {xs : List Operand} {ts : Array TypeId} {args : List SV} {H H' Hr : Heap} {r : SV} {g : Nat → Nat} (ho : o.op = .call { callee := .value (.func f), args := xs.toArray, argTypes := ts })
    (hF : FnG P f args H r H') (hB : callB P f = true) (hp : r.hd = true) (hk : KnG σ Hr g xs args)
    (hH : ∀ id p, H.lookup id = some p → σ.heap.lookup (g id) = some p ∧ p.isT = false ∧ ∀ i j, (p.f i j).sc = true)
    (hr : ∀ id p, Hr.lookup id = some p → σ.heap.lookup id = some p ∧ ∀ k q, H.lookup k = some q → g k ≠ id)
    (hg : ∀ k k' q q', H.lookup k = some q → H.lookup k' = some q' → k ≠ k' → g k ≠ g k')
    (hH' : ∀ id p, H'.lookup id = some p → 1000000 ≤ id ∧ (∃ q, H.lookup id = some q) ∧ p.isT = false ∧ ∀ i j, (p.f i j).sc = true)
    {Hn : Heap} (hn : ∀ id p, Hn.lookup id = some p → Hr.lookup id = some p ∨ ∃ k, g k = id ∧ H'.lookup k = some p)
    (hgd : o.guard = none) (hd : o.dst = some d) (hdN : d < N) (h : ARun P N w0 ops Q rest ⟨(d, r.ren g) :: σ.env, Hn⟩) : ARun P N w0 ops Q (o :: rest) σ := by
  intro ρ S a w Q' hQ hs
  refine wpList_plain hgd fun K hK => ?_
  have hmr : MemOk w0.base ρ S Hr w := hs.mem.le' fun k p hk => HLe.refl (hr k p hk).1
  have hsame : Same S w (withOwn ρ Hr S) w := ⟨fun _ h => .inl h, fun _ _ => rfl⟩
  have hm : MemOk (ρ.ren g).base (ρ.ren g) (withOwn ρ Hr S) H w := by
    refine ⟨rfl, by rw [show (ρ.ren g).base = w0.base from hs.mem.base]; exact hs.mem.low, ?_, ?_, ?_, ?_, ?_⟩
    · rintro b (hb | ⟨id, p, hp, hc, rfl⟩ | ⟨id, n, X, i, hX, hi, hb⟩)
      · exact hs.mem.lt b hb
      · exact hs.mem.blk (hr id p hp).1 hc
      · exact ((hs.mem.tree id n X (hr id _ hX).1 i hi).2 b hb).2.1
    · exact fun id p hp => hs.mem.cap (g id) p (hH id p hp).1
    · intro id p hp hc
      obtain ⟨cs, e, h1, h2, h3, h4, h5, h6, h7⟩ := hs.mem.obj (g id) p (hH id p hp).1 hc
      refine ⟨cs, e, h1, h2, h3, h4, by rw [show (ρ.ren g).base = w0.base from hs.mem.base]; exact h5, ?_, fun i j hi hj => ?_⟩
      · rintro (hb | ⟨id', p', hp', hc', e'⟩ | ⟨id', n', X', i', hX', hi', hb'⟩)
        · exact h6 hb
        · exact hs.mem.inj id' (g id) p' p (hr id' p' hp').1 (hH id p hp).1 (fun e => (hr id' p' hp').2 id p hp e.symm) hc' hc e'
        · exact ((hs.mem.tree id' n' X' (hr id' _ hX').1 i' hi').2 _ hb').2.2.2.1 (g id) p (hH id p hp).1 hc rfl
      · obtain ⟨u, hu, hru⟩ := h7 i j hi hj
        exact ⟨u, hu, AV.sc_r ((hH id p hp).2.2 i j) hru⟩
    · exact fun k k' q q' hq hq' hne hc hc' => hs.mem.inj _ _ q q' (hH k q hq).1 (hH k' q' hq').1 (hg k k' q q' hq hq' hne) hc hc'
    · intro id n X hX
      cases (hH id _ hX).2.1
  have h2 := hF (ρ.ren g) (withOwn ρ Hr S) w _ hm (hk.sound hs hmr hsame)
  have e : (execOp a.eval o).run P w = .ok (.enter f (xs.map a.eval).toArray) w := by
    have := execCall (P := P) (ev := a.eval) (caps := #[]) ho rfl hB w
    simpa using this
  unfold Oper.wp
  rw [e]
  refine Calls.mono h2 fun e w' ⟨v, ρ', S', he, hb, hsm, hbase, hids, hm', hv⟩ => ?_
  subst he
  have hbb : (ρ.ren g).base = w0.base := hs.mem.base
  rw [hbb] at hb hm'
  have hkeep : Same S w S w' := ⟨fun _ h => h, fun b hb' => hsm.blk b (.inl hb')⟩
  rw [hd]
  refine hK _ _ (h ρ S _ w' Q' hQ ?_)
  have hst : St N w0 ρ S ⟨σ.env, Hn⟩ a w' := by
    refine ⟨hs.size, hs.defers, hs.below.step hb hkeep, ⟨hs.mem.base, Nat.le_trans hs.mem.low hb.size, fun b hb' => Nat.lt_of_lt_of_le (hs.mem.lt b hb') hb.size, ?_, ?_, ?_, ?_⟩, fun t s ht => (hs.env t s ht).keep hkeep (Rn.refl _ _)⟩
    · intro id p hp
      rcases hn id p hp with hp2 | ⟨k, rfl, hp2⟩
      · exact hmr.cap id p hp2
      · have := hm'.cap k p hp2
        rw [(hids k (hH' k p hp2).1).m] at this; exact this
    · intro id p hp hc
      rcases hn id p hp with hp2 | ⟨k, rfl, hp2⟩
      · obtain ⟨cs, e, h1, h2, h3, h4, h5, h6, h7⟩ := hmr.obj id p hp2 hc
        refine ⟨cs, e, by rw [hsm.blk _ (.inr (.inl ⟨id, p, hp2, hc, rfl⟩))]; exact h1, h2, h3, h4, h5, h6, fun i j hi hj => ?_⟩
        obtain ⟨u, hu, hru⟩ := h7 i j hi hj
        exact ⟨u, hu, hru.keep hkeep (Rn.refl _ _)⟩
      · obtain ⟨hk1, _, _, hsc⟩ := hH' k p hp2
        have e1 : ρ' k = ρ (g k) := (hids k hk1).m
        obtain ⟨cs, e, h1, h2, h3, h4, h5, h6, h7⟩ := hm'.obj k p hp2 (by rw [e1]; exact hc)
        rw [e1] at h1 h2 h3 h4 h5 h6
        refine ⟨cs, e, h1, h2, h3, h4, h5, fun hb' => h6 (hsm.sub _ (.inl hb')), fun i j hi hj => ?_⟩
        obtain ⟨u, hu, hru⟩ := h7 i j hi hj
        exact ⟨u, hu, AV.sc_r (hsc i j) hru⟩
    · intro id id' p p' hp hp' hne hc hc'
      have old : ∀ id p, Hn.lookup id = some p → ∃ q, σ.heap.lookup id = some q := by
        intro id p hp
        rcases hn id p hp with hp2 | ⟨k, rfl, hp2⟩
        · exact ⟨p, (hr id p hp2).1⟩
        · obtain ⟨_, ⟨q, hq⟩, _⟩ := hH' k p hp2
          exact ⟨q, (hH k q hq).1⟩
      obtain ⟨q, hq⟩ := old id p hp
      obtain ⟨q', hq'⟩ := old id' p' hp'
      exact hs.mem.inj id id' q q' hq hq' hne hc hc'
    · refine hmr.treeOf (Nat.le_refl _) (fun id n X hX => ?_) (fun id n X i b hX hi hb' => ?_) (fun id p hp hc => ?_)
      · rcases hn id _ hX with hX2 | ⟨k, rfl, hX2⟩
        · exact ⟨X, hX2, fun _ _ => rfl, rfl, rfl, rfl⟩
        · cases (hH' k _ hX2).2.2.1
      · obtain ⟨q1, q2, q3, _⟩ := (hmr.tree id n X hX i hi).2 b hb'
        exact ⟨hsm.blk b (.inr (.inr ⟨id, n, X, i, hX, hi, hb'⟩)), Nat.lt_of_lt_of_le q2 hb.size, q3⟩
      · rcases hn id p hp with hp2 | ⟨k, rfl, hp2⟩
        · exact .inl ⟨p, hp2, rfl⟩
        · obtain ⟨_, ⟨q, hq⟩, _⟩ := hH' k p hp2
          exact .inr fun k2 n X i hX hi hb' => ((hs.mem.tree k2 n X (hr k2 _ hX).1 i hi).2 _ hb').2.2.2.1 (g k) q (hH k q hq).1 hc rfl
  exact hst.put hdN (SV.hd_r hids hp hv)
end
end Go.Proofs.Ytmfkmifkkplidaa
