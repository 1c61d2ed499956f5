/-
  Part 2 of the proof: the texts of a seat's own library, joined.
-/
import Derived.Deep.AppendSrc
import Derived.Laws.AppendOwn
import Derived.Lib.SliceRun
import Derived.Great.BuildSlice
import Derived.Lib.Bytealg
import Derived.Test.YticinemcmgggpabDoorM1
/-
  A calculus for walks, part 15: functions that write what they are handed.
-/
namespace Go.Proofs.YticinemcmgggpabDoor
open Go.ChangeShapes Go.WideShapes Go.ChangeAt Go.RowKit Go.BigFrame Go.Deep
set_option linter.unusedVariables false

set_option linter.unusedSimpArgs false
def AV.ren (g : Nat → Nat) : AV → AV
  | .ptr id sz i j => .ptr (g id) sz i j
  | .own id sz n => .own (g id) sz n
  | .fn f m caps => .fn f m fun j => (caps j).ren g
  | .tre id i => .tre (g id) i
  | .tl id sz q n => .tl (g id) sz q n
  | x => x
def Rho.ren (ρ : Rho) (g : Nat → Nat) : Rho := ⟨fun id => ρ.m (g id), ρ.base, fun id => ρ.tv (g id), fun id => ρ.tb (g id), fun id => ρ.tn (g id)⟩
theorem R.ren {ρ : Rho} {g : Nat → Nat} {w : World} {S : Nat → Prop} : ∀ {x : AV} {v : Value}, R ρ w S (x.ren g) v → R (ρ.ren g) w S x v
  | .int _ _, _, h => h
  | .bool _, _, h => h
  | .str _, _, h => h
  | .con _, _, h => h
  | .lst _ _ _, _, h => by unfold AV.ren R at h; unfold R; exact h
  | .ref _ _, _, h => by unfold AV.ren R at h; unfold R; exact h
  | .ptr _ _ _ _, _, h => by unfold AV.ren R at h; unfold R; exact h
  | .own _ _ _, _, h => by unfold AV.ren R at h; unfold R; exact h
  | .frs _, _, h => by unfold AV.ren R at h; unfold R; exact h
  | .tre _ _, _, h => by unfold AV.ren R at h; unfold R; exact h
  | .tl _ _ _ _, _, h => by unfold AV.ren R at h; unfold R; exact h
  | .cv _ _, _, h => by unfold AV.ren R at h; unfold R; exact h
  | .fn f m caps, _, h => by
    unfold AV.ren R at h
    unfold R
    obtain ⟨vs, e, hm, hc⟩ := h
    refine ⟨vs, e, hm, fun j hj => ?_⟩
    obtain ⟨u, hu, hr⟩ := hc j hj
    exact ⟨u, hu, R.ren hr⟩
def SV.ren (g : Nat → Nat) : SV → SV
  | .one x => .one (x.ren g)
  | .agg l => .agg (l.map (AV.ren g))
  | .tup2 x y => .tup2 (x.ren g) (y.ren g)
  | .tup3 x y z => .tup3 (x.ren g) (y.ren g) (z.ren g)
  | .tup4 x y z u => .tup4 (x.ren g) (y.ren g) (z.ren g) (u.ren g)
  | .gd b s => .gd b (s.ren g)
theorem RL.ren {ρ : Rho} {g : Nat → Nat} {w : World} {S : Nat → Prop} : ∀ {l : List AV} {us : List Value}, RL ρ w S (l.map (AV.ren g)) us → RL (ρ.ren g) w S l us
  | [], _, h => h
  | _ :: _, _, ⟨u, us, e, h1, h2⟩ => ⟨u, us, e, R.ren h1, RL.ren h2⟩
theorem RS.ren {ρ : Rho} {g : Nat → Nat} {w : World} {S : Nat → Prop} : ∀ {s : SV} {v : Value}, RS ρ w S (s.ren g) v → RS (ρ.ren g) w S s v
  | .one _, _, h => R.ren h
  | .agg _, _, ⟨us, e, h⟩ => ⟨us, e, RL.ren h⟩
  | .tup2 _ _, _, ⟨a, b, e, h1, h2⟩ => ⟨a, b, e, RS.ren h1, RS.ren h2⟩
  | .tup3 _ _ _, _, ⟨a, b, c, e, h1, h2, h3⟩ => ⟨a, b, c, e, RS.ren h1, RS.ren h2, RS.ren h3⟩
  | .tup4 _ _ _ _, _, ⟨a, b, c, d, e, h1, h2, h3, h4⟩ => ⟨a, b, c, d, e, RS.ren h1, RS.ren h2, RS.ren h3, RS.ren h4⟩
  | .gd _ _, _, h => ⟨fun hb => RS.ren (h.1 hb), h.2⟩
/-- Values without memory of their own: what they are hangs on no world. -/
def AV.sc : AV → Bool
  | .int _ _ => true
  | .bool _ => true
  | .str _ => true
  | .con _ => true
  | .lst _ n _ => n == 0
  | _ => false
theorem AV.sc_r {ρ ρ' : Rho} {w w' : World} {S S' : Nat → Prop} {x : AV} {v : Value} (h : x.sc = true) (hr : R ρ w S x v) : R ρ' w' S' x v := by
  cases x <;> first | (cases h; done) | exact hr | skip
  obtain ⟨A, c, e, h1, h2, h3, h4⟩ := hr
  simp only [AV.sc, beq_iff_eq] at h
  subst h
  exact ⟨A, c, e, h1, h2, h3, fun i hi => absurd hi (by omega)⟩
def RSs (ρ : Rho) (w : World) (S : Nat → Prop) : List SV → List Value → Prop
  | [], us => us = []
  | s :: l, us => ∃ u us', us = u :: us' ∧ RS ρ w S s u ∧ RSs ρ w S l us'
theorem RSs.len {ρ : Rho} {w : World} {S : Nat → Prop} : ∀ {l : List SV} {us : List Value}, RSs ρ w S l us → us.length = l.length
  | [], us, h => by rw [show us = [] from h]; rfl
  | _ :: _, _, ⟨_, _, e, _, h2⟩ => by rw [e]; simp [RSs.len h2]
theorem RSs.get {ρ : Rho} {w : World} {S : Nat → Prop} : ∀ {l : List SV} {us : List Value} {i t : Nat} {s : SV}, RSs ρ w S l us → (enumE i l).lookup t = some s → ∃ j u, t = i + j ∧ us[j]? = some u ∧ RS ρ w S s u
  | [], _, _, _, _, _, h => by simp [enumE] at h
  | x :: l, _, i, t, s, ⟨u, us, e, h1, h2⟩, h => by
    subst e
    simp only [enumE, List.lookup_cons] at h
    by_cases e : t = i
    · subst e
      simp at h
      subst h
      exact ⟨0, u, rfl, rfl, h1⟩
    · have : (t == i) = false := by simpa using e
      rw [this] at h
      obtain ⟨j, u', e1, e2, e3⟩ := RSs.get h2 h
      exact ⟨j + 1, u', by omega, by simpa using e2, e3⟩
/-- The contract of a function that is handed the objects H (names from 1000000 on) and leaves H' and r. -/
def FnG (P : Program) (f : FuncId) (args : List SV) (H : Heap) (r : SV) (H' : Heap) : Prop :=
  ∀ (ρ : Rho) (S : Nat → Prop) (w : World) (vs : List Value), MemOk ρ.base ρ S H w → Pre ρ.base w → RSs ρ w S args vs → Calls P f vs.toArray w fun e w' => ∃ v ρ' S', e = .returned v ∧ Below ρ.base w w' ∧ Same S w S' w' ∧ ρ'.base = ρ.base ∧ (∀ id, 1000000 ≤ id → Rho.At ρ ρ' id) ∧ MemOk ρ.base ρ' S' H' w' ∧ RS ρ' w' S' r v
def RetG (P : Program) (fn : Func) (r : SV) (H' : Heap) : Exit → Sig → Prop
  | .ret, σ => ResL P σ fn.results.toList r ∧ HeapLe σ.heap H'
  | .normal, σ => ResL P σ fn.results.toList r ∧ HeapLe σ.heap H'
  | _, _ => False
theorem FnG.of_body {P : Program} {f : FuncId} {fn : Func} {c : Code} {args : List SV} {r : SV} {H H' : Heap} (hf : P.funcs[f]? = some fn) (hb : fn.body = some c) (hle : args.length ≤ fn.ntmps)
    (h : ∀ w0, AW P fn.ntmps w0 c (RetG P fn r H') ⟨enumE 0 args, H⟩) : FnG P f args H r H' := by
  intro ρ0 S w vs hm hpre hd
  have hl := hd.len
  refine calls_of_wp hf hb ?_
  refine h ⟨ρ0.base, w, S, w, ρ0, hpre⟩ ρ0 S _ w _ (fun e ρ S' σ a w' hs hq => ?_) ⟨?_, rfl, ⟨Below.refl _ _, Same.refl _ _, fun _ _ => .refl _ _⟩, hm, ?_⟩
  · have fin : ResL P σ fn.results.toList r ∧ HeapLe σ.heap H' → a.defers = [] ∧ ∃ v, (results fn a.tmps).run P w' = .ok v w' ∧ (∃ v' ρ' S'', Ending.returned v = .returned v' ∧ Below ρ0.base w w' ∧ Same S w S'' w' ∧ ρ'.base = ρ0.base ∧ (∀ id, 1000000 ≤ id → Rho.At ρ0 ρ' id) ∧ MemOk ρ0.base ρ' S'' H' w' ∧ RS ρ' w' S'' r v') := fun ⟨hr, hh⟩ => by
      obtain ⟨v, hv, hrun⟩ := hr.run hs
      exact ⟨hs.defers, v, hrun, v, ρ, S', rfl, hs.below.old, hs.below.same, hs.mem.base, hs.below.ids, hs.mem.le hh, hv⟩
    cases e
    case ret => exact fin hq
    case normal => exact fin hq
    all_goals exact hq.elim
  · simp [hl]; omega
  · intro t s ht
    obtain ⟨j, u, e1, e2, e3⟩ := hd.get ht
    have hj : j < vs.length := (List.getElem?_eq_some_iff.1 e2).1
    have : ((vs.toArray ++ Array.replicate (fn.ntmps - vs.toArray.size) undef).getD t undef) = u := by
      rw [Array.getD_eq_getD_getElem?, Array.getElem?_append_left (by simp; omega)]
      simp [show t = j by omega, e2]
    show RS _ w S s ((vs.toArray ++ Array.replicate (fn.ntmps - vs.toArray.size) undef).getD t undef)
    rw [this]
    exact e3
theorem SV.Plain.r' {s : SV} (h : s.Plain) {ρ : Rho} {w : World} {S : Nat → Prop} {v : Value} (hr : RS ρ w S s v) : v = s.val := h.eq hr
theorem Rn.of_eq {ρ ρ' : Rho} {p : Nat → Prop} (h : ρ'.base = ρ.base) (he : ∀ id, Rho.At ρ ρ' id) : Rn ρ ρ' p := ⟨h, fun id => .inl (he id)⟩
section
variable {P : Program} {N : Nat} {w0 : Start} {σ : Sig} {ops : Array Oper} {rest : List Oper} {o : Oper} {Q : Sig → Prop}
/-- What is known of the arguments of a call that is handed objects: the rest of the memory is only read. -/
def KnG (σ : Sig) (Hr : Heap) (g : Nat → Nat) : List Operand → List SV → Prop
  | [], [] => True
  | x :: xs, y :: ys => ((∃ s, Kn σ x s ∧ VS Hr s y) ∨ Kn σ x (y.ren g)) ∧ KnG σ Hr g xs ys
  | _, _ => False
theorem KnG.sound {ρ : Rho} {S : Nat → Prop} {a : Act} {w : World} {Hr : Heap} {g : Nat → Nat} (hs : St N w0 ρ S σ a w) (hm : MemOk w0.base ρ S Hr w) (hsame : Same S w (withOwn ρ Hr S) w) : ∀ {xs : List Operand} {ys : List SV}, KnG σ Hr g xs ys → RSs (ρ.ren g) w (withOwn ρ Hr S) ys (xs.map a.eval)
  | [], [], _ => rfl
  | _ :: _, _ :: _, ⟨h1, h2⟩ => by
    refine ⟨_, _, rfl, ?_, KnG.sound hs hm hsame h2⟩
    rcases h1 with ⟨s, k, h⟩ | h
    · exact (h.sound hm (k.sound hs)).toRS
    · exact RS.keep hsame (Rn.refl _ _) (RS.ren (h.sound hs))
  | [], _ :: _, h => h.elim
  | _ :: _, [], h => h.elim
/-- Values that speak of nothing but handed objects. -/
def AV.hd : AV → Bool
  | .ptr id _ _ _ => Nat.ble 1000000 id
  | .own id _ _ => Nat.ble 1000000 id
  | x => x.sc
def SV.hd : SV → Bool
  | .one x => x.hd
  | .agg l => l.all AV.hd
  | .tup2 x y => x.hd && y.hd
  | .tup3 x y z => x.hd && y.hd && z.hd
  | .tup4 _ _ _ _ => false
  | .gd _ _ => false
theorem AV.hd_r {ρ ρ' : Rho} {g : Nat → Nat} {w : World} {S S' : Nat → Prop} (hids : ∀ id, 1000000 ≤ id → Rho.At (ρ.ren g) ρ' id) {x : AV} {v : Value} (h : x.hd = true) (hr : R ρ' w S' x v) : R ρ w S (x.ren g) v := by
  cases x with
  | ptr id sz i j =>
    have e := (hids id (Nat.le_of_ble_eq_true h)).m
    have hr : v = .pointer (some ⟨(ρ'.m id).1, i * sz + j, none⟩) := hr
    rw [e] at hr
    exact hr
  | own id sz n =>
    have e := (hids id (Nat.le_of_ble_eq_true h)).m
    have hr : ∃ A, v = .slice A n (ρ'.m id).2 ∧ n ≤ (ρ'.m id).2 ∧ (ρ'.m id).2 ≤ maxLen ∧ (A = some ⟨(ρ'.m id).1, 0, none⟩ ∨ (A = none ∧ (ρ'.m id).2 = 0)) := hr
    rw [e] at hr
    exact hr
  | int k n => exact hr
  | bool b => exact hr
  | str s => exact hr
  | con c => exact hr
  | lst sz n f => exact AV.sc_r (x := .lst sz n f) h hr
  | ref _ _ => cases h
  | fn _ _ _ => cases h
  | frs _ => cases h
  | tre _ _ => cases h
  | tl _ _ _ _ => cases h
  | cv _ _ => cases h
theorem RL.hd_r {ρ ρ' : Rho} {g : Nat → Nat} {w : World} {S S' : Nat → Prop} (hids : ∀ id, 1000000 ≤ id → Rho.At (ρ.ren g) ρ' id) : ∀ {l : List AV} {us : List Value}, l.all AV.hd = true → RL ρ' w S' l us → RL ρ w S (l.map (AV.ren g)) us
  | [], _, _, h => h
  | _ :: _, _, hh, ⟨u, us, e, h1, h2⟩ => by
    rw [List.all_cons, Bool.and_eq_true] at hh
    exact ⟨u, us, e, AV.hd_r hids hh.1 h1, RL.hd_r hids hh.2 h2⟩
theorem SV.hd_r {ρ ρ' : Rho} {g : Nat → Nat} {w : World} {S S' : Nat → Prop} (hids : ∀ id, 1000000 ≤ id → Rho.At (ρ.ren g) ρ' id) : ∀ {s : SV} {v : Value}, s.hd = true → RS ρ' w S' s v → RS ρ w S (s.ren g) v
  | .one _, _, h, hr => AV.hd_r hids h hr
  | .agg _, _, h, ⟨us, e, hl⟩ => ⟨us, e, RL.hd_r hids h hl⟩
  | .tup2 _ _, _, h, ⟨a, b, e, h1, h2⟩ => by
    rw [SV.hd, Bool.and_eq_true] at h
    exact ⟨a, b, e, SV.hd_r hids h.1 h1, SV.hd_r hids h.2 h2⟩
  | .tup4 _ _ _ _, _, h, _ => by cases h
  | .tup3 _ _ _, _, h, ⟨a, b, c, e, h1, h2, h3⟩ => by
    rw [SV.hd, Bool.and_eq_true, Bool.and_eq_true] at h
    exact ⟨a, b, c, e, SV.hd_r hids h.1.1 h1, SV.hd_r hids h.1.2 h2, SV.hd_r hids h.2 h3⟩
  | .gd _ _, _, h, _ => by cases h
/-- A call that writes what it is handed, and yields a plain value or what it was handed. -/
theorem ARun.mut {f d : Nat} {xs : List Operand} {ts : Array TypeId} {args : List SV} {H H' Hr : Heap} {r : SV} {g : Nat → Nat} (ho : o.op = .call { callee := .value (.func f), args := xs.toArray, argTypes := ts })
    (hF : FnG P f args H r H') (hB : callB P f = true) (hp : r.hd = true) (hk : KnG σ Hr g xs args)
    (hH : ∀ id p, H.lookup id = some p → σ.heap.lookup (g id) = some p ∧ p.isT = false ∧ ∀ i j, (p.f i j).sc = true)
    (hr : ∀ id p, Hr.lookup id = some p → σ.heap.lookup id = some p ∧ ∀ k q, H.lookup k = some q → g k ≠ id)
    (hg : ∀ k k' q q', H.lookup k = some q → H.lookup k' = some q' → k ≠ k' → g k ≠ g k')
    (hH' : ∀ id p, H'.lookup id = some p → 1000000 ≤ id ∧ (∃ q, H.lookup id = some q) ∧ p.isT = false ∧ ∀ i j, (p.f i j).sc = true)
    {Hn : Heap} (hn : ∀ id p, Hn.lookup id = some p → Hr.lookup id = some p ∨ ∃ k, g k = id ∧ H'.lookup k = some p)
    (hgd : o.guard = none) (hd : o.dst = some d) (hdN : d < N) (h : ARun P N w0 ops Q rest ⟨(d, r.ren g) :: σ.env, Hn⟩) : ARun P N w0 ops Q (o :: rest) σ := by
  intro ρ S a w Q' hQ hs
  refine wpList_plain hgd fun K hK => ?_
  have hmr : MemOk w0.base ρ S Hr w := hs.mem.le' fun k p hk => HLe.refl (hr k p hk).1
  have hsame : Same S w (withOwn ρ Hr S) w := ⟨fun _ h => .inl h, fun _ _ => rfl⟩
  have hm : MemOk (ρ.ren g).base (ρ.ren g) (withOwn ρ Hr S) H w := by
    refine ⟨rfl, by rw [show (ρ.ren g).base = w0.base from hs.mem.base]; exact hs.mem.low, ?_, ?_, ?_, ?_, ?_⟩
    · rintro b (hb | ⟨id, p, hp, hc, rfl⟩ | ⟨id, n, X, i, hX, hi, hb⟩)
      · exact hs.mem.lt b hb
      · exact hs.mem.blk (hr id p hp).1 hc
      · exact ((hs.mem.tree id n X (hr id _ hX).1 i hi).2 b hb).2.1
    · exact fun id p hp => hs.mem.cap (g id) p (hH id p hp).1
    · intro id p hp hc
      obtain ⟨cs, e, h1, h2, h3, h4, h5, h6, h7⟩ := hs.mem.obj (g id) p (hH id p hp).1 hc
      refine ⟨cs, e, h1, h2, h3, h4, by rw [show (ρ.ren g).base = w0.base from hs.mem.base]; exact h5, ?_, fun i j hi hj => ?_⟩
      · rintro (hb | ⟨id', p', hp', hc', e'⟩ | ⟨id', n', X', i', hX', hi', hb'⟩)
        · exact h6 hb
        · exact hs.mem.inj id' (g id) p' p (hr id' p' hp').1 (hH id p hp).1 (fun e => (hr id' p' hp').2 id p hp e.symm) hc' hc e'
        · exact ((hs.mem.tree id' n' X' (hr id' _ hX').1 i' hi').2 _ hb').2.2.2.1 (g id) p (hH id p hp).1 hc rfl
      · obtain ⟨u, hu, hru⟩ := h7 i j hi hj
        exact ⟨u, hu, AV.sc_r ((hH id p hp).2.2 i j) hru⟩
    · exact fun k k' q q' hq hq' hne hc hc' => hs.mem.inj _ _ q q' (hH k q hq).1 (hH k' q' hq').1 (hg k k' q q' hq hq' hne) hc hc'
    · intro id n X hX
      cases (hH id _ hX).2.1
  have h2 := hF (ρ.ren g) (withOwn ρ Hr S) w _ hm (show Pre ρ.base w by rw [hs.mem.base]; exact hs.preB) (hk.sound hs hmr hsame)
  have e : (execOp a.eval o).run P w = .ok (.enter f (xs.map a.eval).toArray) w := by
    have := execCall (P := P) (ev := a.eval) (caps := #[]) ho rfl hB w
    simpa using this
  unfold Oper.wp
  rw [e]
  refine Calls.mono h2 fun e w' ⟨v, ρ', S', he, hb, hsm, hbase, hids, hm', hv⟩ => ?_
  subst he
  have hbb : (ρ.ren g).base = w0.base := hs.mem.base
  rw [hbb] at hb hm'
  have hkeep : Same S w S w' := ⟨fun _ h => h, fun b hb' => hsm.blk b (.inl hb')⟩
  rw [hd]
  refine hK _ _ (h ρ S _ w' Q' hQ ?_)
  have hst : St N w0 ρ S ⟨σ.env, Hn⟩ a w' := by
    refine ⟨hs.size, hs.defers, hs.below.step hb hkeep, ⟨hs.mem.base, Nat.le_trans hs.mem.low hb.size, fun b hb' => Nat.lt_of_lt_of_le (hs.mem.lt b hb') hb.size, ?_, ?_, ?_, ?_⟩, fun t s ht => (hs.env t s ht).keep hkeep (Rn.refl _ _)⟩
    · intro id p hp
      rcases hn id p hp with hp2 | ⟨k, rfl, hp2⟩
      · exact hmr.cap id p hp2
      · have := hm'.cap k p hp2
        rw [(hids k (hH' k p hp2).1).m] at this; exact this
    · intro id p hp hc
      rcases hn id p hp with hp2 | ⟨k, rfl, hp2⟩
      · obtain ⟨cs, e, h1, h2, h3, h4, h5, h6, h7⟩ := hmr.obj id p hp2 hc
        refine ⟨cs, e, by rw [hsm.blk _ (.inr (.inl ⟨id, p, hp2, hc, rfl⟩))]; exact h1, h2, h3, h4, h5, h6, fun i j hi hj => ?_⟩
        obtain ⟨u, hu, hru⟩ := h7 i j hi hj
        exact ⟨u, hu, hru.keep hkeep (Rn.refl _ _)⟩
      · obtain ⟨hk1, _, _, hsc⟩ := hH' k p hp2
        have e1 : ρ' k = ρ (g k) := (hids k hk1).m
        obtain ⟨cs, e, h1, h2, h3, h4, h5, h6, h7⟩ := hm'.obj k p hp2 (by rw [e1]; exact hc)
        rw [e1] at h1 h2 h3 h4 h5 h6
        refine ⟨cs, e, h1, h2, h3, h4, h5, fun hb' => h6 (hsm.sub _ (.inl hb')), fun i j hi hj => ?_⟩
        obtain ⟨u, hu, hru⟩ := h7 i j hi hj
        exact ⟨u, hu, AV.sc_r (hsc i j) hru⟩
    · intro id id' p p' hp hp' hne hc hc'
      have old : ∀ id p, Hn.lookup id = some p → ∃ q, σ.heap.lookup id = some q := by
        intro id p hp
        rcases hn id p hp with hp2 | ⟨k, rfl, hp2⟩
        · exact ⟨p, (hr id p hp2).1⟩
        · obtain ⟨_, ⟨q, hq⟩, _⟩ := hH' k p hp2
          exact ⟨q, (hH k q hq).1⟩
      obtain ⟨q, hq⟩ := old id p hp
      obtain ⟨q', hq'⟩ := old id' p' hp'
      exact hs.mem.inj id id' q q' hq hq' hne hc hc'
    · refine hmr.treeOf (Nat.le_refl _) (fun id n X hX => ?_) (fun id n X i b hX hi hb' => ?_) (fun id p hp hc => ?_)
      · rcases hn id _ hX with hX2 | ⟨k, rfl, hX2⟩
        · exact ⟨X, hX2, fun _ _ => rfl, rfl, rfl, rfl⟩
        · cases (hH' k _ hX2).2.2.1
      · obtain ⟨q1, q2, q3, _⟩ := (hmr.tree id n X hX i hi).2 b hb'
        exact ⟨hsm.blk b (.inr (.inr ⟨id, n, X, i, hX, hi, hb'⟩)), Nat.lt_of_lt_of_le q2 hb.size, q3⟩
      · rcases hn id p hp with hp2 | ⟨k, rfl, hp2⟩
        · exact .inl ⟨p, hp2, rfl⟩
        · obtain ⟨_, ⟨q, hq⟩, _⟩ := hH' k p hp2
          exact .inr fun k2 n X i hX hi hb' => ((hs.mem.tree k2 n X (hr k2 _ hX).1 i hi).2 _ hb').2.2.2.1 (g k) q (hH k q hq).1 hc rfl
  exact hst.put hdN (SV.hd_r hids hp hv)
end
end Go.Proofs.YticinemcmgggpabDoor

/-
  A calculus for walks, part 17: rows of the walk's own that begin as nil.
-/
namespace Go.Proofs.YticinemcmgggpabDoor
open Go.ChangeShapes Go.WideShapes Go.ChangeAt Go.RowKit Go.BigFrame Go.Deep
set_option linter.unusedVariables false

set_option linter.unusedSimpArgs false
section
variable {P : Program} {N : Nat} {w0 : Start} {σ : Sig} {ops : Array Oper} {rest : List Oper} {o : Oper} {Q : Sig → Prop}
/-- An object without a block: a row of nothing. -/
theorem St.phantomAt (b0 : Nat) {ρ : Rho} {S : Nat → Prop} {a : Act} {w : World} (hs : St N w0 ρ S σ a w) {id : Nat} (hf : Fr id σ) (sz : Nat) (f : Nat → Nat → AV) :
    ∃ ρ' : Rho, ρ' id = (b0, 0) ∧ St N w0 ρ' S (σ.set id (.arr sz 0 f)) a w := by
  refine ⟨⟨fun k => if k = id then (b0, 0) else ρ k, ρ.base, ρ.tv, ρ.tb, ρ.tn⟩, by simp, ?_⟩
  have hρ : ∀ k, k ≠ id → (if k = id then (b0, 0) else ρ k) = ρ k := fun k hk => if_neg hk
  have hsame : Same S w S w := Same.refl _ _
  have hρA : ∀ k, k ≠ id → Rho.At ρ ⟨fun k => if k = id then (b0, 0) else ρ k, ρ.base, ρ.tv, ρ.tb, ρ.tn⟩ k := fun k hk => ⟨hρ k hk, rfl, rfl, rfl⟩
  refine ⟨hs.size, hs.defers, ⟨hs.below.old, hs.below.same, fun k hk => (hs.below.ids k hk).trans (hρA k (fun e => by have := hf.small; omega))⟩, ⟨hs.mem.base, hs.mem.low, hs.mem.lt, ?_, ?_, ?_, ?_⟩, ?_⟩
  · intro k p hp
    rcases lookup_put hp with ⟨rfl, rfl⟩ | ⟨hne, hp⟩
    · simp [AObj.n]
    · simp only [hρ k hne]; exact hs.mem.cap k p hp
  · intro k p hp hc
    rcases lookup_put hp with ⟨rfl, rfl⟩ | ⟨hne, hp⟩
    · simp at hc
    · obtain ⟨_, hno⟩ := hf.heap.get hp
      simp only [hρ k hne] at hc
      obtain ⟨cs', e', g1, g2, g3, g4, g5, g6, g7⟩ := hs.mem.obj k p hp hc
      simp only [hρ k hne]
      refine ⟨cs', e', g1, g2, g3, g4, g5, g6, fun i j hi hj => ?_⟩
      obtain ⟨u, hu, hr⟩ := g7 i j hi hj
      exact ⟨u, hu, hr.keep (ρ := ρ) hsame ⟨rfl, fun q => by
        by_cases hq : q = id
        · subst hq; exact .inr (hno.at_ i j)
        · exact .inl (hρA q hq)⟩⟩
  · intro k k' p p' hp hp' hne hc hc'
    rcases lookup_put hp with ⟨rfl, rfl⟩ | ⟨q1, hp2⟩ <;> rcases lookup_put hp' with ⟨rfl, rfl⟩ | ⟨q2, hp2'⟩
    · exact absurd rfl hne
    · simp at hc
    · simp at hc'
    · simp only [hρ k q1] at hc
      simp only [hρ k' q2] at hc'
      simp only [hρ k q1, hρ k' q2]
      exact hs.mem.inj k k' p p' hp2 hp2' hne hc hc'
  · refine hs.mem.treeOf (Nat.le_refl _) (fun k n X hX => ?_) (fun k n X i b hX hi hb' => ?_) (fun k p hp hc => ?_)
    · rcases lookup_put hX with ⟨rfl, e⟩ | ⟨hne, hX⟩
      · cases e
      · exact ⟨X, hX, fun _ _ => rfl, rfl, rfl, rfl⟩
    · obtain ⟨q1, q2, q3, _⟩ := (hs.mem.tree k n X hX i hi).2 b hb'
      exact ⟨rfl, q2, q3⟩
    · rcases lookup_put hp with ⟨rfl, rfl⟩ | ⟨hne, hp⟩
      · simp at hc
      · exact .inl ⟨p, hp, hρ k hne⟩
  · intro t s ht
    refine (hs.env t s ht).keep (ρ := ρ) hsame ⟨rfl, fun q => ?_⟩
    by_cases hq : q = id
    · subst hq
      exact .inr (List.all_eq_true.1 hf.env _ (lookup_mem ht))
    · exact .inl (hρA q hq)
theorem St.phantom {ρ : Rho} {S : Nat → Prop} {a : Act} {w : World} (hs : St N w0 ρ S σ a w) {id : Nat} (hf : Fr id σ) (sz : Nat) (f : Nat → Nat → AV) :
    ∃ ρ' : Rho, ρ' id = (0, 0) ∧ St N w0 ρ' S (σ.set id (.arr sz 0 f)) a w := hs.phantomAt 0 hf sz f
/-- The nil slice, as a row of the walk's own. -/
theorem ARun.nilOwn {d id sz : Nat} {f : Nat → Nat → AV} (ho : o.op = .assign (.const (.slice none 0 0))) (hf : Fr id σ) (hg : o.guard = none) (hd : o.dst = some d) (hN : d < N)
    (h : ARun P N w0 ops Q rest ((σ.set id (.arr sz 0 f)).put d (.one (.own id sz 0)))) : ARun P N w0 ops Q (o :: rest) σ := by
  intro ρ S a w Q' hQ hs
  refine wpList_plain hg fun K hK => ?_
  obtain ⟨ρ', e1, hs'⟩ := hs.phantom hf sz f
  have hrun : (execOp a.eval o).run P w = .ok (.value (.slice none 0 0)) w := by
    generalize ev_ : a.eval = ev
    have hc : ev (.const (.slice none 0 0)) = .slice none 0 0 := by rw [← ev_]; rfl
    simp [execOp, ho, hc, go_sem]
  unfold Oper.wp
  rw [hrun]
  simp only [Oper.upon, hd]
  refine hK _ _ (h ρ' S _ _ Q' hQ (hs'.put hN ?_))
  show ∃ A, Value.slice _ _ _ = .slice A 0 (ρ' id).2 ∧ 0 ≤ (ρ' id).2 ∧ (ρ' id).2 ≤ maxLen ∧ (A = some ⟨(ρ' id).1, 0, none⟩ ∨ (A = none ∧ (ρ' id).2 = 0))
  rw [e1]
  exact ⟨none, rfl, Nat.le_refl _, by decide, .inr ⟨rfl, rfl⟩⟩
end
end Go.Proofs.YticinemcmgggpabDoor

/-
  A calculus for walks, part 18: data that one holder has for himself (trees): functions that make it, functions that write it.
-/
namespace Go.Proofs.YticinemcmgggpabDoor
open Go.ChangeShapes Go.WideShapes Go.ChangeAt Go.RowKit Go.BigFrame Go.Deep
set_option linter.unusedVariables false

set_option linter.unusedSimpArgs false
theorem Vw.cast {H : Heap} {x y z : AV} (h : Vw H x y) (e : y = z) : Vw H x z := e ▸ h
/-! The leaves of a slot's value. -/
def SV.leaves : SV → List AV
  | .one x => [x]
  | .agg l => l
  | .tup2 x y => x.leaves ++ y.leaves
  | .tup3 x y z => x.leaves ++ (y.leaves ++ z.leaves)
  | .tup4 _ _ _ _ => []
  | .gd _ s => s.leaves
def Shape : SV → List Value → Value → Prop
  | .one _, us, v => us = [v]
  | .agg l, us, v => v = .agg us.toArray ∧ us.length = l.length
  | .tup2 x y, us, v => ∃ a b us1 us2, v = .tuple #[a, b] ∧ us = us1 ++ us2 ∧ Shape x us1 a ∧ Shape y us2 b
  | .tup3 x y z, us, v => ∃ a b c us1 us2 us3, v = .tuple #[a, b, c] ∧ us = us1 ++ (us2 ++ us3) ∧ Shape x us1 a ∧ Shape y us2 b ∧ Shape z us3 c
  | .tup4 _ _ _ _, _, _ => False
  | .gd _ _, _, _ => False
theorem RL.append {ρ : Rho} {w : World} {S : Nat → Prop} : ∀ {l m : List AV} {us vs : List Value}, RL ρ w S l us → RL ρ w S m vs → RL ρ w S (l ++ m) (us ++ vs)
  | [], _, _, _, h, k => by rw [show _ = [] from h]; exact k
  | _ :: _, _, _, _, ⟨u, us, e, h1, h2⟩, k => ⟨u, _, by rw [e]; rfl, h1, RL.append h2 k⟩
theorem RL.split {ρ : Rho} {w : World} {S : Nat → Prop} : ∀ {l m : List AV} {us vs : List Value}, us.length = l.length → RL ρ w S (l ++ m) (us ++ vs) → RL ρ w S l us ∧ RL ρ w S m vs
  | [], _, [], _, _, h => ⟨rfl, h⟩
  | [], _, _ :: _, _, e, _ => by simp at e
  | _ :: _, _, [], _, e, _ => by simp at e
  | x :: l, m, u :: us, vs, e, ⟨u', us', e1, h1, h2⟩ => by
    simp only [List.cons_append, List.cons.injEq] at e1
    obtain ⟨rfl, rfl⟩ := e1
    obtain ⟨k1, k2⟩ := RL.split (by simpa using e) h2
    exact ⟨⟨_, _, rfl, h1, k1⟩, k2⟩
theorem Shape.len : ∀ {s : SV} {us : List Value} {v : Value}, Shape s us v → us.length = s.leaves.length
  | .one _, _, _, h => by rw [show _ = [_] from h]; rfl
  | .agg _, _, _, h => h.2
  | .tup2 x y, _, _, ⟨a, b, us1, us2, _, e, h1, h2⟩ => by rw [e]; simp [SV.leaves, h1.len, h2.len]
  | .tup3 x y z, _, _, ⟨a, b, c, us1, us2, us3, _, e, h1, h2, h3⟩ => by rw [e]; simp [SV.leaves, h1.len, h2.len, h3.len]
  | .tup4 _ _ _ _, _, _, h => h.elim
  | .gd _ _, _, _, h => h.elim
def SV.ng : SV → Bool
  | .tup2 x y => x.ng && y.ng
  | .tup3 x y z => x.ng && (y.ng && z.ng)
  | .tup4 _ _ _ _ => false
  | .gd _ _ => false
  | _ => true
theorem RS.shape {ρ : Rho} {w : World} {S : Nat → Prop} : ∀ {s : SV} {v : Value}, s.ng = true → RS ρ w S s v → ∃ us, Shape s us v ∧ RL ρ w S s.leaves us
  | .one _, v, _, h => ⟨[v], rfl, v, [], rfl, h, rfl⟩
  | .agg _, _, _, ⟨us, e, h⟩ => ⟨us.toList, ⟨by rw [e], h.len⟩, h⟩
  | .tup2 x y, _, n, ⟨a, b, e, h1, h2⟩ => by
    rw [SV.ng, Bool.and_eq_true] at n
    obtain ⟨us, k1, k2⟩ := RS.shape n.1 h1
    obtain ⟨vs, j1, j2⟩ := RS.shape n.2 h2
    exact ⟨us ++ vs, ⟨a, b, us, vs, e, rfl, k1, j1⟩, k2.append j2⟩
  | .tup4 _ _ _ _, _, n, _ => by cases n
  | .tup3 x y z, _, n, ⟨a, b, c, e, h1, h2, h3⟩ => by
    rw [SV.ng, Bool.and_eq_true, Bool.and_eq_true] at n
    obtain ⟨us, k1, k2⟩ := RS.shape n.1 h1
    obtain ⟨vs, j1, j2⟩ := RS.shape n.2.1 h2
    obtain ⟨ts, i1, i2⟩ := RS.shape n.2.2 h3
    exact ⟨us ++ (vs ++ ts), ⟨a, b, c, us, vs, ts, e, rfl, k1, j1, i1⟩, k2.append (j2.append i2)⟩
  | .gd _ _, _, n, _ => by cases n
theorem Shape.rs {ρ : Rho} {w : World} {S : Nat → Prop} : ∀ {s : SV} {us : List Value} {v : Value}, Shape s us v → RL ρ w S s.leaves us → RS ρ w S s v
  | .one _, _, _, e, h => by
    obtain ⟨u, us, e1, h1, _⟩ := h
    rw [show _ = [_] from e] at e1
    simp only [List.cons.injEq] at e1
    obtain ⟨rfl, _⟩ := e1
    exact h1
  | .agg _, us, _, ⟨e, _⟩, h => ⟨us.toArray, e, by simpa [SV.leaves] using h⟩
  | .tup2 x y, _, _, ⟨a, b, us1, us2, e, e2, h1, h2⟩, h => by
    rw [e2] at h
    obtain ⟨k1, k2⟩ := RL.split h1.len h
    exact ⟨a, b, e, h1.rs k1, h2.rs k2⟩
  | .tup4 _ _ _ _, _, _, h, _ => h.elim
  | .tup3 x y z, _, _, ⟨a, b, c, us1, us2, us3, e, e2, h1, h2, h3⟩, h => by
    rw [e2] at h
    obtain ⟨k1, k2⟩ := RL.split h1.len h
    obtain ⟨k3, k4⟩ := RL.split h2.len k2
    exact ⟨a, b, c, e, h1.rs k1, h2.rs k3, h3.rs k4⟩
  | .gd _ _, _, _, h, _ => h.elim
/-! Names of leaves. -/
def nmA (id p : Nat) : AV → AV
  | .lst _ _ _ => .tre id p
  | x => x
def nmL (id : Nat) : Nat → List AV → List AV
  | _, [] => []
  | p, x :: l => nmA id p x :: nmL id (p + 1) l
def SV.nm (id : Nat) : Nat → SV → SV
  | p, .one x => .one (nmA id p x)
  | p, .agg l => .agg (nmL id p l)
  | p, .tup2 x y => .tup2 (x.nm id p) (y.nm id (p + x.leaves.length))
  | _, .tup4 x y z u => .tup4 x y z u
  | p, .tup3 x y z => .tup3 (x.nm id p) (y.nm id (p + x.leaves.length)) (z.nm id (p + x.leaves.length + y.leaves.length))
  | p, .gd b s => .gd b (s.nm id p)
theorem nmL_len {id : Nat} : ∀ {l : List AV} {p : Nat}, (nmL id p l).length = l.length
  | [], _ => rfl
  | _ :: l, p => by simp [nmL, nmL_len (l := l)]
theorem nmL_append {id : Nat} : ∀ {l m : List AV} {p : Nat}, nmL id p (l ++ m) = nmL id p l ++ nmL id (p + l.length) m
  | [], _, _ => by simp [nmL]
  | _ :: l, m, p => by
    simp only [List.cons_append, nmL, nmL_append (l := l), List.length_cons]
    rw [show p + (l.length + 1) = p + 1 + l.length by omega]
theorem leaves_nm {id : Nat} : ∀ {s : SV} {p : Nat}, (s.nm id p).leaves = nmL id p s.leaves
  | .one _, _ => rfl
  | .agg _, _ => rfl
  | .tup2 x y, p => by simp only [SV.nm, SV.leaves, nmL_append, leaves_nm (s := x), leaves_nm (s := y)]
  | .tup4 _ _ _ _, _ => rfl
  | .tup3 x y z, p => by simp only [SV.nm, SV.leaves, nmL_append, leaves_nm (s := x), leaves_nm (s := y), leaves_nm (s := z)]
  | .gd _ s, p => by simp only [SV.nm, SV.leaves, leaves_nm (s := s)]
theorem Shape.nm {id : Nat} : ∀ {s : SV} {p : Nat} {us : List Value} {v : Value}, Shape (s.nm id p) us v ↔ Shape s us v
  | .one _, _, _, _ => Iff.rfl
  | .agg _, _, _, _ => by simp only [SV.nm, Shape, nmL_len]
  | .tup2 x y, p, _, _ => by simp only [SV.nm, Shape, Shape.nm (s := x), Shape.nm (s := y)]
  | .tup4 _ _ _ _, _, _, _ => Iff.rfl
  | .tup3 x y z, p, _, _ => by simp only [SV.nm, Shape, Shape.nm (s := x), Shape.nm (s := y), Shape.nm (s := z)]
  | .gd _ _, _, _, _ => Iff.rfl
theorem ng_nm {id : Nat} : ∀ {s : SV} {p : Nat}, (s.nm id p).ng = s.ng
  | .one _, _ => rfl
  | .agg _, _ => rfl
  | .tup2 x y, p => by simp only [SV.nm, SV.ng, ng_nm (s := x), ng_nm (s := y)]
  | .tup4 _ _ _ _, _ => rfl
  | .tup3 x y z, p => by simp only [SV.nm, SV.ng, ng_nm (s := x), ng_nm (s := y), ng_nm (s := z)]
  | .gd _ _, _ => rfl
/-! Trees in a row: the leaf p lies in the blocks G p. -/
def TLs (w : World) (G : Nat → Nat → Prop) : Nat → List AV → List Value → Prop
  | _, [], us => us = []
  | p, x :: l, us => ∃ u us', us = u :: us' ∧ Tr w x u (G p) ∧ TLs w G (p + 1) l us'
def Dj (G : Nat → Nat → Prop) (n : Nat) : Prop := ∀ p q b, p < n → q < n → p ≠ q → G p b → ¬ G q b
def TRf (w : World) (G : Nat → Nat → Prop) (x : SV) (v : Value) : Prop := ∃ us, Shape x us v ∧ TLs w G 0 x.leaves us
theorem TLs.len {w : World} {G : Nat → Nat → Prop} : ∀ {l : List AV} {p : Nat} {us : List Value}, TLs w G p l us → us.length = l.length
  | [], _, _, h => by rw [show _ = [] from h]; rfl
  | _ :: l, _, _, ⟨u, us, e, _, h⟩ => by rw [e]; simp [h.len]
theorem TLs.get {w : World} {G : Nat → Nat → Prop} : ∀ {l : List AV} {p : Nat} {us : List Value}, TLs w G p l us → ∀ {k : Nat}, k < l.length → Tr w (l.getD k (.con undef)) (us.getD k undef) (G (p + k))
  | [], _, _, _, k, hk => absurd hk (by simp)
  | x :: l, p, _, ⟨u, us, e, h1, h2⟩, k, hk => by
    subst e
    cases k with
    | zero => simpa using h1
    | succ k =>
      have := TLs.get h2 (k := k) (by simpa using hk)
      rw [show p + (k + 1) = p + 1 + k by omega]
      simpa using this
theorem TLs.mk {w : World} {G : Nat → Nat → Prop} : ∀ {l : List AV} {p : Nat} {us : List Value}, us.length = l.length → (∀ k, k < l.length → Tr w (l.getD k (.con undef)) (us.getD k undef) (G (p + k))) → TLs w G p l us
  | [], _, us, e, _ => List.eq_nil_of_length_eq_zero e
  | x :: l, p, [], e, _ => by simp at e
  | x :: l, p, u :: us, e, h => by
    refine ⟨u, us, rfl, by simpa using h 0 (by simp), TLs.mk (by simpa using e) fun k hk => ?_⟩
    have := h (k + 1) (by simpa using hk)
    rw [show p + 1 + k = p + (k + 1) by omega]
    simpa using this
theorem Tr.slice {w : World} {sz n : Nat} {f : Nat → Nat → AV} {v : Value} {B : Nat → Prop} (h : Tr w (.lst sz n f) v B) : ∃ A m c, v = .slice A m c := by
  unfold Tr at h
  obtain ⟨A, c, e, _⟩ := h
  exact ⟨A, n, c, e⟩
theorem nmA_r {ρ : Rho} {w : World} {S B : Nat → Prop} {id p : Nat} {x : AV} {u : Value} (h : Tr w x u B) (hv : ρ.tv id p = u) (hn : p < ρ.tn id) : R ρ w S (nmA id p x) u := by
  cases x with
  | lst sz n f => exact ⟨hv.symm, hn, h.slice⟩
  | int _ _ => exact h
  | bool _ => exact h
  | str _ => exact h
  | con _ => exact h
  | ref _ _ => exact h.elim
  | ptr _ _ _ _ => exact h.elim
  | own _ _ _ => exact h.elim
  | fn _ _ _ => exact h.elim
  | frs _ => exact h.elim
  | tre _ _ => exact h.elim
  | tl _ _ _ _ => exact h.elim
  | cv _ _ => exact h.elim
theorem nmL_r {ρ : Rho} {w : World} {S : Nat → Prop} {id : Nat} {G : Nat → Nat → Prop} : ∀ {l : List AV} {p q : Nat} {us : List Value}, TLs w G p l us → (∀ k, k < l.length → ρ.tv id (q + k) = us.getD k undef ∧ q + k < ρ.tn id) → RL ρ w S (nmL id q l) us
  | [], _, _, _, h, _ => h
  | x :: l, p, q, _, ⟨u, us, e, h1, h2⟩, hv => by
    subst e
    obtain ⟨a, b⟩ := hv 0 (by simp)
    refine ⟨u, us, rfl, nmA_r h1 (by simpa using a) (by simpa using b), nmL_r h2 fun k hk => ?_⟩
    obtain ⟨a, b⟩ := hv (k + 1) (by simpa using hk)
    rw [show q + 1 + k = q + (k + 1) by omega]
    exact ⟨by simpa using a, b⟩
/-- What may stand as a leaf. -/
def AV.lf : AV → Bool
  | .int _ _ => true
  | .bool _ => true
  | .str _ => true
  | .con _ => true
  | .lst _ _ _ => true
  | _ => false
def AV.isL : AV → Bool
  | .lst _ _ _ => true
  | _ => false
theorem nmL_tls {ρ : Rho} {w : World} {S : Nat → Prop} {id : Nat} {G : Nat → Nat → Prop} : ∀ {l : List AV} {q p : Nat} {us : List Value}, l.all AV.lf = true → (∀ k, k < l.length → (l.getD k (.con undef)).isL = true → Tr w (l.getD k (.con undef)) (ρ.tv id (q + k)) (G (p + k))) →
    RL ρ w S (nmL id q l) us → TLs w G p l us
  | [], _, _, _, _, _, h => h
  | x :: l, q, p, _, hf, hT, ⟨u, us, e, h1, h2⟩ => by
    rw [List.all_cons, Bool.and_eq_true] at hf
    refine ⟨u, us, e, ?_, nmL_tls (q := q + 1) hf.2 (fun k hk hl => ?_) h2⟩
    · have hT0 := hT 0 (by simp)
      cases x with
      | lst sz n f =>
        obtain ⟨e, _⟩ := h1
        rw [e]
        exact hT0 rfl
      | int _ _ => exact h1
      | bool _ => exact h1
      | str _ => exact h1
      | con _ => exact h1
      | ref _ _ => cases hf.1
      | ptr _ _ _ _ => cases hf.1
      | own _ _ _ => cases hf.1
      | fn _ _ _ => cases hf.1
      | frs _ => cases hf.1
      | tre _ _ => cases hf.1
      | tl _ _ _ _ => cases hf.1
      | cv _ _ => cases hf.1
    · have := hT (k + 1) (by simpa using hk) (by simpa using hl)
      rw [show q + 1 + k = q + (k + 1) by omega, show p + 1 + k = p + (k + 1) by omega]
      simpa using this
theorem nmL_tv {ρ : Rho} {w : World} {S : Nat → Prop} {id : Nat} : ∀ {l : List AV} {q : Nat} {us : List Value}, RL ρ w S (nmL id q l) us → ∀ k, k < l.length → (l.getD k (.con undef)).isL = true → us.getD k undef = ρ.tv id (q + k)
  | [], _, _, _, k, hk, _ => absurd hk (by simp)
  | x :: l, q, _, ⟨u, us, e, h1, h2⟩, k, hk, hl => by
    subst e
    cases k with
    | zero =>
      cases x with
      | lst sz n f => obtain ⟨e, _⟩ := h1; simpa using e
      | int _ _ => cases hl
      | bool _ => cases hl
      | str _ => cases hl
      | con _ => cases hl
      | ref _ _ => cases hl
      | ptr _ _ _ _ => cases hl
      | own _ _ _ => cases hl
      | fn _ _ _ => cases hl
      | frs _ => cases hl
      | tre _ _ => cases hl
      | tl _ _ _ _ => cases hl
      | cv _ _ => cases hl
    | succ k =>
      have := nmL_tv h2 k (by simpa using hk) (by simpa using hl)
      rw [show q + (k + 1) = q + 1 + k by omega]
      simpa using this
/-! Functions that make trees. -/
def FnT (P : Program) (f : FuncId) (args : List SV) (y : SV) : Prop :=
  ∀ (w : World) (S : Nat → Prop) (vs : List Value), Rd S w → DSs w S args vs → Calls P f vs.toArray w fun e w' => ∃ v G, e = .returned v ∧ Below w.heap.size w w' ∧ TRf w' G y v ∧ Dj G y.leaves.length ∧ ∀ p b, p < y.leaves.length → G p b → newS w w' b
theorem TLs.dl {w : World} {G : Nat → Nat → Prop} {S : Nat → Prop} : ∀ {l : List AV} {p : Nat} {us : List Value}, (∀ k b, k < l.length → G (p + k) b → S b) → TLs w G p l us → DL w S l us
  | [], _, _, _, h => h
  | x :: l, p, _, hS, ⟨u, us, e, h1, h2⟩ => ⟨u, us, e, h1.d fun b hb => hS 0 b (by simp) hb, TLs.dl (fun k b hk hb => hS (k + 1) b (by simpa using hk) (by rw [show p + (k + 1) = p + 1 + k by omega]; exact hb)) h2⟩
theorem DL.split {w : World} {S : Nat → Prop} : ∀ {l m : List AV} {us vs : List Value}, us.length = l.length → DL w S (l ++ m) (us ++ vs) → DL w S l us ∧ DL w S m vs
  | [], _, [], _, _, h => ⟨rfl, h⟩
  | [], _, _ :: _, _, e, _ => by simp at e
  | _ :: _, _, [], _, e, _ => by simp at e
  | x :: l, m, u :: us, vs, e, ⟨u', us', e1, h1, h2⟩ => by
    simp only [List.cons_append, List.cons.injEq] at e1
    obtain ⟨rfl, rfl⟩ := e1
    obtain ⟨k1, k2⟩ := DL.split (by simpa using e) h2
    exact ⟨⟨_, _, rfl, h1, k1⟩, k2⟩
theorem Shape.dr {w : World} {S : Nat → Prop} : ∀ {s : SV} {us : List Value} {v : Value}, Shape s us v → DL w S s.leaves us → DR w S s v
  | .one _, _, _, e, h => by
    obtain ⟨u, us, e1, h1, _⟩ := h
    rw [show _ = [_] from e] at e1
    simp only [List.cons.injEq] at e1
    obtain ⟨rfl, _⟩ := e1
    exact h1
  | .agg _, us, _, ⟨e, _⟩, h => ⟨us.toArray, e, by simpa [SV.leaves] using h⟩
  | .tup2 x y, _, _, ⟨a, b, us1, us2, e, e2, h1, h2⟩, h => by
    rw [e2] at h
    obtain ⟨k1, k2⟩ := DL.split h1.len h
    exact ⟨a, b, e, h1.dr k1, h2.dr k2⟩
  | .tup4 _ _ _ _, _, _, h, _ => h.elim
  | .tup3 x y z, _, _, ⟨a, b, c, us1, us2, us3, e, e2, h1, h2, h3⟩, h => by
    rw [e2] at h
    obtain ⟨k1, k2⟩ := DL.split h1.len h
    obtain ⟨k3, k4⟩ := DL.split h2.len k2
    exact ⟨a, b, c, e, h1.dr k1, h2.dr k3, h3.dr k4⟩
  | .gd _ _, _, _, h, _ => h.elim
theorem FnT.toF {P : Program} {f : FuncId} {args : List SV} {y : SV} (h : FnT P f args y) : FnF P f args y := by
  intro w S vs hS hd
  refine (h w S vs hS hd).mono fun e w' ⟨v, G, he, hb, ⟨us, h1, h2⟩, _, h4⟩ => ⟨v, he, h1.dr (h2.dl fun k b hk hb => ?_), hb⟩
  rw [Nat.zero_add] at hb
  exact h4 k b hk hb
section
variable {P : Program} {N : Nat} {w0 : Start} {σ : Sig} {ops : Array Oper} {rest : List Oper} {o : Oper} {Q : Sig → Prop}
/-- New trees join a family. -/
theorem St.absorb {ρ : Rho} {S : Nat → Prop} {a : Act} {w w' : World} (hs : St N w0 ρ S σ a w) {K n : Nat} {X : Nat → AV} (hK : σ.heap.lookup K = some (.trees n X)) (hlt : K < 1000000) (hb : Below w.heap.size w w') {y : SV} {v : Value} {G : Nat → Nat → Prop}
    (hy : TRf w' G y v) (hD : Dj G y.leaves.length) (hG : ∀ p b, p < y.leaves.length → G p b → newS w w' b) {X' : Nat → AV} (hX1 : ∀ q, q < n → X' q = X q) (hX2 : ∀ p, p < y.leaves.length → X' (n + p) = y.leaves.getD p (.con undef)) :
    ∃ ρ', St N w0 ρ' S ⟨σ.env, (K, .trees (n + y.leaves.length) X') :: σ.heap⟩ a w' ∧ RS ρ' w' S (y.nm K n) v := by
  obtain ⟨us, hsh, htl⟩ := hy
  have htn : ρ.tn K = n := (hs.mem.tree0 K n X hK).1
  let ρ' : Rho := ⟨ρ.m, ρ.base, fun k q => if k = K ∧ n ≤ q then us.getD (q - n) undef else ρ.tv k q, fun k q => if k = K ∧ n ≤ q then G (q - n) else ρ.tb k q, fun k => if k = K then n + y.leaves.length else ρ.tn k⟩
  have hsame : Same S w S w' := hs.mem.same hb
  have hsz := hb.size
  have hAt : ∀ id, id ≠ K → Rho.At ρ ρ' id := fun id hid => ⟨rfl, by funext q; simp [ρ', hid], by funext q; simp [ρ', hid], by simp [ρ', hid]⟩
  have hkeep : ∀ {x : AV} {u : Value}, R ρ w S x u → R ρ' w' S x u := by
    intro x
    induction x with
    | tre id i =>
      rintro u ⟨e, hi, hsl⟩
      by_cases hid : id = K
      · subst hid
        refine ⟨?_, ?_, hsl⟩
        · rw [e]; show _ = (if id = id ∧ n ≤ i then _ else _); rw [if_neg (by omega)]
        · show i < (if id = id then _ else _); rw [if_pos rfl]; omega
      · have h1 := hAt id hid
        exact ⟨by rw [h1.v]; exact e, by rw [h1.n]; exact hi, hsl⟩
    | fn g m caps ih =>
      rintro u ⟨vs, e, hm, hc⟩
      refine ⟨vs, e, hm, fun j hj => ?_⟩
      obtain ⟨u, hu, hr⟩ := hc j hj
      exact ⟨u, hu, ih j hr⟩
    | frs x => intro u h; exact D.keep (hsame.fresh (ρ := ρ) (ρ' := ρ') rfl) h
    | lst _ _ _ => intro u h; exact D.keep hsame h
    | ref _ _ => intro u h; exact D.keep hsame h
    | int _ _ => exact fun h => h
    | bool _ => exact fun h => h
    | str _ => exact fun h => h
    | con _ => exact fun h => h
    | tl _ _ _ _ => exact fun h => h
    | cv _ _ => intro u h; exact ⟨h.1, D.keep hsame h.2⟩
    | ptr _ _ _ _ => exact fun h => h
    | own _ _ _ => exact fun h => h
  have hkeepL : ∀ {l : List AV} {us : List Value}, RL ρ w S l us → RL ρ' w' S l us := by
    intro l
    induction l with
    | nil => exact fun h => h
    | cons x l ih => rintro us ⟨u, us', e, h1, h2⟩; exact ⟨u, us', e, hkeep h1, ih h2⟩
  have hkeepS : ∀ {s : SV} {u : Value}, RS ρ w S s u → RS ρ' w' S s u := by
    intro s
    induction s with
    | one x => exact hkeep
    | agg l => rintro u ⟨us, e, h⟩; exact ⟨us, e, hkeepL h⟩
    | tup2 x y ih1 ih2 => rintro u ⟨a, b, e, h1, h2⟩; exact ⟨a, b, e, ih1 h1, ih2 h2⟩
    | tup4 x y z t ih1 ih2 ih3 ih4 => rintro u ⟨a, b, c, d, e, h1, h2, h3, h4⟩; exact ⟨a, b, c, d, e, ih1 h1, ih2 h2, ih3 h3, ih4 h4⟩
    | tup3 x y z ih1 ih2 ih3 => rintro u ⟨a, b, c, e, h1, h2, h3⟩; exact ⟨a, b, c, e, ih1 h1, ih2 h2, ih3 h3⟩
    | gd b s ih => rintro u ⟨h1, h2⟩; exact ⟨fun hb => ih (h1 hb), h2⟩
  refine ⟨ρ', ⟨hs.size, hs.defers, ⟨hs.below.old.trans (hb.mono hs.mem.low), hs.below.same.trans hsame, fun k hk => (hs.below.ids k hk).trans (hAt k (by omega))⟩, ⟨hs.mem.base, Nat.le_trans hs.mem.low hsz, fun b h => Nat.lt_of_lt_of_le (hs.mem.lt b h) hsz, ?_, ?_, ?_, ?_⟩, fun t s ht => hkeepS (hs.env t s ht)⟩, ?_⟩
  · intro id p hp
    rcases lookup_put hp with ⟨rfl, rfl⟩ | ⟨_, hp⟩
    · exact Nat.zero_le _
    · exact hs.mem.cap id p hp
  · intro id p hp hc
    rcases lookup_put hp with ⟨rfl, rfl⟩ | ⟨_, hp⟩
    · obtain ⟨cs, e, h1, h2, h3, h4, h5, h6, h7⟩ := hs.mem.obj id _ hK hc
      exact ⟨cs, e, by rw [hb.block _ (hs.mem.blk hK hc)]; exact h1, h2, h3, h4, h5, h6, fun i j hi => absurd hi (Nat.not_lt_zero _)⟩
    · obtain ⟨cs, e, h1, h2, h3, h4, h5, h6, h7⟩ := hs.mem.obj id p hp hc
      refine ⟨cs, e, by rw [hb.block _ (hs.mem.blk hp hc)]; exact h1, h2, h3, h4, h5, h6, fun i j hi hj => ?_⟩
      obtain ⟨u, hu, hr⟩ := h7 i j hi hj
      exact ⟨u, hu, hkeep hr⟩
  · have conv : ∀ {id p}, ((K, AObj.trees (n + y.leaves.length) X') :: σ.heap).lookup id = some p → ∃ p', σ.heap.lookup id = some p' := fun {id p} hp => by
      rcases lookup_put hp with ⟨rfl, rfl⟩ | ⟨_, hp⟩
      · exact ⟨_, hK⟩
      · exact ⟨p, hp⟩
    intro id id' p p' hp hp' hne hc hc'
    obtain ⟨q, hq⟩ := conv hp
    obtain ⟨q', hq'⟩ := conv hp'
    exact hs.mem.inj id id' q q' hq hq' hne hc hc'
  · -- the trees
    have cell : ∀ id m Y, ((K, AObj.trees (n + y.leaves.length) X') :: σ.heap).lookup id = some (.trees m Y) → ∀ i, i < m → (∃ m' Y', σ.heap.lookup id = some (.trees m' Y') ∧ i < m' ∧ Y i = Y' i ∧ ρ'.tv id i = ρ.tv id i ∧ ρ'.tb id i = ρ.tb id i ∧ (id = K → i < n)) ∨ (id = K ∧ ∃ p, p < y.leaves.length ∧ i = n + p ∧ Y i = y.leaves.getD p (.con undef) ∧ ρ'.tv id i = us.getD p undef ∧ ρ'.tb id i = G p) := by
      intro id m Y hY i hi
      rcases lookup_put hY with ⟨rfl, e⟩ | ⟨hne, hY⟩
      · cases e
        by_cases hin : i < n
        · exact .inl ⟨n, X, hK, hin, hX1 i hin, by simp only [ρ']; rw [if_neg (by omega)], by simp only [ρ']; rw [if_neg (by omega)], fun _ => hin⟩
        · refine .inr ⟨rfl, i - n, by omega, by omega, ?_, if_pos ⟨rfl, by omega⟩, if_pos ⟨rfl, by omega⟩⟩
          have := hX2 (i - n) (by omega)
          rwa [show n + (i - n) = i by omega] at this
      · exact .inl ⟨m, Y, hY, hi, rfl, by rw [(hAt id hne).v], by rw [(hAt id hne).b], fun e => absurd e hne⟩
    intro id m Y hY
    refine ⟨?_, fun i hi => ?_⟩
    · rcases lookup_put hY with ⟨rfl, e⟩ | ⟨hne, hY⟩
      · cases e
        show (if id = id then _ else _) = _
        rw [if_pos rfl]
      · rw [(hAt id hne).n]; exact (hs.mem.tree0 id m Y hY).1
    rcases cell id m Y hY i hi with ⟨m', Y', g1, g2, g3, g4, g5, g6⟩ | ⟨rfl, p, g1, g2, g3, g4, g5⟩
    · obtain ⟨k1, k2⟩ := hs.mem.tree id m' Y' g1 i g2
      rw [g3, g4, g5]
      refine ⟨k1.keep fun b hb' => hb.block b (k2 b hb').2.1, fun b hb' => ?_⟩
      obtain ⟨q1, q2, q3, q4, q5⟩ := k2 b hb'
      refine ⟨q1, by omega, q3, fun id' o ho hc => ?_, fun id' m2 Y2 i' hY2 hi2 hne => ?_⟩
      · rcases lookup_put ho with ⟨rfl, rfl⟩ | ⟨_, ho⟩
        · exact q4 id' _ hK hc
        · exact q4 id' o ho hc
      · rcases cell id' m2 Y2 hY2 i' hi2 with ⟨m3, Y3, f1, f2, f3, f4, f5, f6⟩ | ⟨rfl, p2, f1, f2, f3, f4, f5⟩
        · rw [f5]; exact q5 id' m3 Y3 i' f1 f2 hne
        · rw [f5]
          intro hg
          have := (hG p2 b f1 hg).1
          omega
    · have hT := htl.get (k := p) g1
      rw [Nat.zero_add] at hT
      rw [g3, g4, g5]
      refine ⟨hT, fun b hb' => ?_⟩
      obtain ⟨q1, q2⟩ := hG p b g1 hb'
      refine ⟨Nat.le_trans hs.mem.low q1, q2, fun h => absurd (hs.mem.lt b h) (by omega), fun id' o ho hc => ?_, fun id' m2 Y2 i' hY2 hi2 hne => ?_⟩
      · have : ∃ o', σ.heap.lookup id' = some o' := by
          rcases lookup_put ho with ⟨rfl, rfl⟩ | ⟨_, ho⟩
          · exact ⟨_, hK⟩
          · exact ⟨_, ho⟩
        obtain ⟨o', ho'⟩ := this
        have := hs.mem.blk ho' hc
        intro e
        have : (ρ id').1 = b := e
        omega
      · rcases cell id' m2 Y2 hY2 i' hi2 with ⟨m3, Y3, f1, f2, f3, f4, f5, f6⟩ | ⟨rfl, p2, f1, f2, f3, f4, f5⟩
        · rw [f5]
          intro hg
          have := ((hs.mem.tree id' m3 Y3 f1 i' f2).2 b hg).2.1
          omega
        · rw [f5]
          exact hD p p2 b g1 f1 (fun e => hne ⟨rfl, by omega⟩) hb'
  · refine Shape.rs (Shape.nm.2 hsh) ?_
    rw [leaves_nm]
    refine nmL_r htl fun k hk => ⟨?_, ?_⟩
    · show (if K = K ∧ n ≤ n + k then us.getD (n + k - n) undef else _) = _
      rw [if_pos ⟨rfl, by omega⟩, show n + k - n = k by omega]
    · show n + k < (if K = K then _ else _)
      rw [if_pos rfl]; omega
/-- An empty family. -/
theorem St.fam {ρ : Rho} {S : Nat → Prop} {a : Act} {w : World} (hs : St N w0 ρ S σ a w) {id : Nat} (hf : Fr id σ) (X : Nat → AV) : ∃ ρ' : Rho, St N w0 ρ' S (σ.set id (.trees 0 X)) a w := by
  refine ⟨⟨fun k => if k = id then (0, 0) else ρ k, ρ.base, ρ.tv, ρ.tb, fun k => if k = id then 0 else ρ.tn k⟩, ?_⟩
  have hρ : ∀ k, k ≠ id → (if k = id then (0, 0) else ρ k) = ρ k := fun k hk => if_neg hk
  have hsame : Same S w S w := Same.refl _ _
  have hρA : ∀ k, k ≠ id → Rho.At ρ ⟨fun k => if k = id then (0, 0) else ρ k, ρ.base, ρ.tv, ρ.tb, fun k => if k = id then 0 else ρ.tn k⟩ k := fun k hk => ⟨hρ k hk, rfl, rfl, if_neg hk⟩
  refine ⟨hs.size, hs.defers, ⟨hs.below.old, hs.below.same, fun k hk => (hs.below.ids k hk).trans (hρA k (fun e => by have := hf.small; omega))⟩, ⟨hs.mem.base, hs.mem.low, hs.mem.lt, ?_, ?_, ?_, ?_⟩, ?_⟩
  · intro k p hp
    rcases lookup_put hp with ⟨rfl, rfl⟩ | ⟨hne, hp⟩
    · exact Nat.zero_le _
    · simp only [hρ k hne]; exact hs.mem.cap k p hp
  · intro k p hp hc
    rcases lookup_put hp with ⟨rfl, rfl⟩ | ⟨hne, hp⟩
    · simp at hc
    · obtain ⟨_, hno⟩ := hf.heap.get hp
      simp only [hρ k hne] at hc
      obtain ⟨cs', e', g1, g2, g3, g4, g5, g6, g7⟩ := hs.mem.obj k p hp hc
      simp only [hρ k hne]
      refine ⟨cs', e', g1, g2, g3, g4, g5, g6, fun i j hi hj => ?_⟩
      obtain ⟨u, hu, hr⟩ := g7 i j hi hj
      exact ⟨u, hu, hr.keep (ρ := ρ) hsame ⟨rfl, fun q => by
        by_cases hq : q = id
        · subst hq; exact .inr (hno.at_ i j)
        · exact .inl (hρA q hq)⟩⟩
  · intro k k' p p' hp hp' hne hc hc'
    rcases lookup_put hp with ⟨rfl, rfl⟩ | ⟨q1, hp2⟩ <;> rcases lookup_put hp' with ⟨rfl, rfl⟩ | ⟨q2, hp2'⟩
    · exact absurd rfl hne
    · simp at hc
    · simp at hc'
    · simp only [hρ k q1] at hc
      simp only [hρ k' q2] at hc'
      simp only [hρ k q1, hρ k' q2]
      exact hs.mem.inj k k' p p' hp2 hp2' hne hc hc'
  · intro k n Y hY
    rcases lookup_put hY with ⟨rfl, e⟩ | ⟨hne, hY⟩
    · cases e
      exact ⟨if_pos rfl, fun i hi => absurd hi (Nat.not_lt_zero _)⟩
    · refine ⟨(if_neg hne).trans (hs.mem.tree0 k n Y hY).1, fun i hi => ?_⟩
      obtain ⟨k1, k2⟩ := hs.mem.tree k n Y hY i hi
      refine ⟨k1, fun b hb => ?_⟩
      obtain ⟨q1, q2, q3, q4, q5⟩ := k2 b hb
      refine ⟨q1, q2, q3, fun id' o ho hc => ?_, fun id' m Z i' hZ hi' hne' => ?_⟩
      · rcases lookup_put ho with ⟨rfl, rfl⟩ | ⟨hne2, ho⟩
        · simp at hc
        · simp only [hρ id' hne2] at hc ⊢
          exact q4 id' o ho hc
      · rcases lookup_put hZ with ⟨rfl, e⟩ | ⟨hne2, hZ⟩
        · cases e; exact absurd hi' (Nat.not_lt_zero _)
        · exact q5 id' m Z i' hZ hi' hne'
  · intro t s ht
    refine (hs.env t s ht).keep (ρ := ρ) hsame ⟨rfl, fun q => ?_⟩
    by_cases hq : q = id
    · subst hq
      exact .inr (List.all_eq_true.1 hf.env _ (lookup_mem ht))
    · exact .inl (hρA q hq)
theorem AW.fam {c : Code} {Q2 : Exit → Sig → Prop} {id : Nat} (X : Nat → AV) (hf : Fr id σ) (h : AW P N w0 c Q2 (σ.set id (.trees 0 X))) : AW P N w0 c Q2 σ := by
  intro ρ S a w Q' hQ hs
  obtain ⟨ρ', hs'⟩ := hs.fam hf X
  exact h ρ' S a w Q' hQ hs'
theorem ARun.fam {id : Nat} (X : Nat → AV) (hf : Fr id σ) (h : ARun P N w0 ops Q rest (σ.set id (.trees 0 X))) : ARun P N w0 ops Q rest σ := by
  intro ρ S a w Q' hQ hs
  obtain ⟨ρ', hs'⟩ := hs.fam hf X
  exact h ρ' S a w Q' hQ hs'
/-- A call that makes trees, for a family. -/
theorem ARun.prodTo {f d K n : Nat} {xs : List Operand} {ts : Array TypeId} {args : List SV} {y s' : SV} {X X' : Nat → AV} {m : Nat} (ho : o.op = .call { callee := .value (.func f), args := xs.toArray, argTypes := ts })
    (hF : FnT P f args y) (hk : KnA σ xs args) (hB : callB P f = true) (hK : σ.heap.lookup K = some (.trees n X)) (hlt : Nat.blt K 1000000 = true) (hX1 : ∀ q, q < n → X' q = X q) (hX2 : ∀ p, p < y.leaves.length → X' (n + p) = y.leaves.getD p (.con undef))
    (hs' : y.nm K n = s') (hm : n + y.leaves.length = m) (hg : o.guard = none) (hd : o.dst = some d) (hN : d < N) (h : ARun P N w0 ops Q rest ⟨(d, s') :: σ.env, (K, .trees m X') :: σ.heap⟩) : ARun P N w0 ops Q (o :: rest) σ := by
  subst hs' hm
  intro ρ S a w Q' hQ hs
  refine wpList_plain hg fun K' hK' => ?_
  have h2 := hF w _ _ ⟨withOwn_lt hs, hs.pre⟩ (KnA.sound hs hk)
  have e : (execOp a.eval o).run P w = .ok (.enter f (xs.map a.eval).toArray) w := by
    have := execCall (P := P) (ev := a.eval) (caps := #[]) ho rfl hB w
    simpa using this
  unfold Oper.wp
  rw [e]
  refine Calls.mono h2 fun e w' ⟨v, G, he, hb, hy, hD, hG⟩ => ?_
  subst he
  obtain ⟨ρ', hst, hv⟩ := hs.absorb hK (by simpa [Nat.blt_eq] using hlt) hb hy hD hG hX1 hX2
  rw [hd]
  exact hK' _ _ (h ρ' S _ w' Q' hQ (hst.put hN hv))
/-- .. for a family of its own. -/
theorem ARun.prod {f d K : Nat} {xs : List Operand} {ts : Array TypeId} {args : List SV} {y s' : SV} {m : Nat} {X' : Nat → AV} (ho : o.op = .call { callee := .value (.func f), args := xs.toArray, argTypes := ts })
    (hF : FnT P f args y) (hf : Fr K σ) (hk : KnA (σ.set K (.trees 0 X')) xs args) (hB : callB P f = true) (hX' : (fun p => y.leaves.getD p (.con undef)) = X')
    (hs' : y.nm K 0 = s') (hm : y.leaves.length = m) (hg : o.guard = none) (hd : o.dst = some d) (hN : d < N) (h : ARun P N w0 ops Q rest ⟨(d, s') :: σ.env, (K, .trees m X') :: (K, .trees 0 X') :: σ.heap⟩) : ARun P N w0 ops Q (o :: rest) σ := by
  refine ARun.fam X' hf ?_
  refine ARun.prodTo (K := K) (n := 0) (X := X') (X' := X') ho hF hk hB (by simp [Sig.set]) (by have := hf.small; simpa [Nat.blt_eq] using this) (fun _ _ => rfl) (fun p _ => by rw [← hX', Nat.zero_add]) hs' (by rw [Nat.zero_add]; exact hm) hg hd hN h
end
end Go.Proofs.YticinemcmgggpabDoor

/-
  A calculus for walks, part 19: bodies that hand back trees; functions that write trees.
-/
namespace Go.Proofs.YticinemcmgggpabDoor
open Go.ChangeShapes Go.WideShapes Go.ChangeAt Go.RowKit Go.BigFrame Go.Deep
set_option linter.unusedVariables false

set_option linter.unusedSimpArgs false
/-- What the walk holds, seen as a tree; U: the names that it takes. -/
inductive Tv (H : Heap) : AV → AV → (Nat → Nat → Prop) → Prop
  | int {k : IntKind} {n : Int} {U : Nat → Nat → Prop} : Tv H (.int k n) (.int k n) U
  | bool {b : Bool} {U : Nat → Nat → Prop} : Tv H (.bool b) (.bool b) U
  | str {s : ByteArray} {U : Nat → Nat → Prop} : Tv H (.str s) (.str s) U
  | con {v : Value} {U : Nat → Nat → Prop} : Tv H (.con v) (.con v) U
  | nil {sz : Nat} {g : Nat → Nat → AV} {U : Nat → Nat → Prop} : Tv H (.con (.slice none 0 0)) (.lst sz 0 g) U
  | tre {id i n : Nat} {X : Nat → AV} {U : Nat → Nat → Prop} : H.lookup id = some (.trees n X) → i < n → U id i → Tv H (.tre id i) (X i) U
  | own {id sz n : Nat} {o : AObj} {g : Nat → Nat → AV} {U : Nat → Nat → Prop} (F : Nat → Nat → Nat → Nat → Prop) : H.lookup id = some o → o.isT = false → o.sz = sz → n ≤ o.n → U id 0 → (∀ i j, i < n → j < sz → Tv H (o.f i j) (g i j) (F i j)) →
      (∀ i j a b, i < n → j < sz → F i j a b → U a b ∧ a ≠ id) → (∀ i j i' j', i < n → j < sz → i' < n → j' < sz → ¬ (i = i' ∧ j = j') → ∀ a b, F i j a b → ¬ F i' j' a b) → Tv H (.own id sz n) (.lst sz n g) U
theorem Tv.cast {H : Heap} {x y z : AV} {U : Nat → Nat → Prop} (h : Tv H x y U) (e : y = z) : Tv H x z U := e ▸ h
def fp (ρ : Rho) (H : Heap) (U : Nat → Nat → Prop) (b : Nat) : Prop := ∃ a c, U a c ∧ ((c = 0 ∧ ∃ o, H.lookup a = some o ∧ o.isT = false ∧ (ρ a).2 ≠ 0 ∧ (ρ a).1 = b) ∨ ∃ n X, H.lookup a = some (.trees n X) ∧ c < n ∧ ρ.tb a c b)
theorem fp_mono {ρ : Rho} {H : Heap} {U U' : Nat → Nat → Prop} (h : ∀ a c, U a c → U' a c) {b : Nat} (hb : fp ρ H U b) : fp ρ H U' b := by
  obtain ⟨a, c, h1, h2⟩ := hb
  exact ⟨a, c, h a c h1, h2⟩
section
variable {B : Nat} {ρ : Rho} {S : Nat → Prop} {H : Heap} {w : World}
theorem fp_in (hm : MemOk B ρ S H w) {U : Nat → Nat → Prop} {b : Nat} (hb : fp ρ H U b) : B ≤ b ∧ b < w.heap.size ∧ ¬ S b := by
  obtain ⟨a, c, _, ⟨_, o, ho, _, hc, rfl⟩ | ⟨n, X, hX, hi, hb⟩⟩ := hb
  · have h0 := hm.blk ho hc
    obtain ⟨cs, e, h1, h2, h3, h4, h5, h6, h7⟩ := hm.obj a o ho hc
    exact ⟨h5, h0, h6⟩
  · obtain ⟨q1, q2, q3, _⟩ := (hm.tree a n X hX c hi).2 b hb
    exact ⟨q1, q2, q3⟩
theorem fp_disj (hm : MemOk B ρ S H w) {U U' : Nat → Nat → Prop} (hd : ∀ a c, U a c → ¬ U' a c) {b : Nat} (hb : fp ρ H U b) : ¬ fp ρ H U' b := by
  intro hb'
  obtain ⟨a, c, hu, hb⟩ := hb
  obtain ⟨a', c', hu', hb'⟩ := hb'
  rcases hb with ⟨h0, o, ho, hT, hc, e⟩ | ⟨n, X, hX, hi, hb⟩ <;> rcases hb' with ⟨h0', o', ho', hT', hc', e'⟩ | ⟨n', X', hX', hi', hb'⟩
  · by_cases ha : a = a'
    · subst ha; subst h0; subst h0'; exact hd _ _ hu hu'
    · exact hm.inj a a' o o' ho ho' ha hc hc' (e.trans e'.symm)
  · exact ((hm.tree a' n' X' hX' c' hi').2 b hb').2.2.2.1 a o ho hc e
  · exact ((hm.tree a n X hX c hi).2 b hb).2.2.2.1 a' o' ho' hc' e'
  · by_cases ha : a' = a ∧ c' = c
    · obtain ⟨rfl, rfl⟩ := ha; exact hd _ _ hu hu'
    · exact ((hm.tree a n X hX c hi).2 b hb).2.2.2.2 a' n' X' c' hX' hi' ha hb'
theorem Tv.sound (hm : MemOk B ρ S H w) {x y : AV} {U : Nat → Nat → Prop} (h : Tv H x y U) : ∀ {v : Value}, R ρ w S x v → Tr w y v (fp ρ H U) := by
  induction h with
  | int => exact fun h => h
  | bool => exact fun h => h
  | str => exact fun h => h
  | con => exact fun h => h
  | nil =>
    intro v hv
    have e : v = Value.slice none 0 0 := hv
    unfold Tr
    exact ⟨none, 0, e, Nat.le_refl _, by decide, .inl ⟨rfl, .inl rfl⟩⟩
  | @tre id i n X U hX hi hU =>
    intro v hv
    obtain ⟨e, _⟩ := hv
    rw [e]
    exact ((hm.tree id n X hX i hi).1).mono fun b hb => ⟨id, i, hU, .inr ⟨n, X, hX, hi, hb⟩⟩
  | @own id sz n o g U F ho hT hsz hn hU _ hF hFd ih =>
    intro v hv
    subst hsz
    obtain ⟨A, hv, hn1, hn2, hA⟩ := hv
    unfold Tr
    refine ⟨A, _, hv, hn1, hn2, ?_⟩
    by_cases hc : (ρ id).2 = 0
    · refine .inl ⟨hc, ?_⟩
      rcases hA with h | ⟨h, _⟩
      · exact .inr ⟨_, h⟩
      · exact .inl h
    · right
      obtain ⟨cs, e, h1, h2, h3, h4, h5, h6, h7⟩ := hm.obj id o ho hc
      refine ⟨(ρ id).1, cs, e, by rcases hA with h | ⟨_, h⟩; (· exact h); (· exact absurd h hc), ⟨id, 0, hU, .inl ⟨rfl, o, ho, hT, hc, rfl⟩⟩, h1, h2, fun i j => fp ρ H (F i j), fun i j hi hj => ⟨fun q hq => ⟨fp_mono (fun a c h => (hF i j a c hi hj h).1) hq, fun e => ?_⟩, ?_⟩, fun i j i' j' hi hj hi' hj' hne q hq => fp_disj hm (hFd i j i' j' hi hj hi' hj' hne) hq⟩
      · have hone : fp ρ H (fun a c => a = id ∧ c = 0) q := ⟨id, 0, ⟨rfl, rfl⟩, .inl ⟨rfl, o, ho, hT, hc, e.symm⟩⟩
        exact fp_disj hm (fun a c h h' => (hF i j a c hi hj h).2 h'.1) hq hone
      · obtain ⟨u, hu, hr⟩ := h7 i j (by omega) hj
        exact ⟨u, hu, ih i j hi hj hr⟩
def TvL (H : Heap) (V : Nat → Nat → Nat → Prop) : Nat → List AV → List AV → Prop
  | _, [], [] => True
  | p, x :: l, y :: m => Tv H x y (V p) ∧ TvL H V (p + 1) l m
  | _, _, _ => False
def TvS (H : Heap) (V : Nat → Nat → Nat → Prop) : Nat → SV → SV → Prop
  | p, .one x, .one y => Tv H x y (V p)
  | p, .agg l, .agg m => TvL H V p l m
  | p, .tup2 a b, .tup2 c d => TvS H V p a c ∧ TvS H V (p + c.leaves.length) b d
  | p, .tup3 a b e, .tup3 c d f => TvS H V p a c ∧ TvS H V (p + c.leaves.length) b d ∧ TvS H V (p + c.leaves.length + d.leaves.length) e f
  | _, _, _ => False
theorem TLs.append {G : Nat → Nat → Prop} : ∀ {l m : List AV} {p : Nat} {us vs : List Value}, TLs w G p l us → TLs w G (p + l.length) m vs → TLs w G p (l ++ m) (us ++ vs)
  | [], _, _, _, _, h, k => by rw [show _ = [] from h]; exact k
  | x :: l, m, p, _, vs, ⟨u, us, e, h1, h2⟩, k => by
    subst e
    refine ⟨u, us ++ vs, rfl, h1, TLs.append h2 ?_⟩
    rw [show p + 1 + l.length = p + (x :: l).length by simp; omega]
    exact k
theorem TvL.sound (hm : MemOk B ρ S H w) {V : Nat → Nat → Nat → Prop} : ∀ {l m : List AV} {p : Nat} {us : List Value}, TvL H V p l m → RL ρ w S l us → TLs w (fun p => fp ρ H (V p)) p m us ∧ us.length = m.length
  | [], [], _, _, _, h => ⟨h, by rw [show _ = [] from h]; rfl⟩
  | _ :: _, _ :: _, _, _, ⟨h1, h2⟩, ⟨u, us, e, g1, g2⟩ => by
    obtain ⟨k1, k2⟩ := TvL.sound hm h2 g2
    exact ⟨⟨u, us, e, h1.sound hm g1, k1⟩, by rw [e]; simp [k2]⟩
  | [], _ :: _, _, _, h, _ => h.elim
  | _ :: _, [], _, _, h, _ => h.elim
theorem TvS.sound (hm : MemOk B ρ S H w) {V : Nat → Nat → Nat → Prop} : ∀ {s y : SV} {p : Nat} {v : Value}, TvS H V p s y → RS ρ w S s v → ∃ us, Shape y us v ∧ TLs w (fun p => fp ρ H (V p)) p y.leaves us
  | .one _, .one _, _, v, h, hr => ⟨[v], rfl, v, [], rfl, Tv.sound hm h hr, rfl⟩
  | .agg _, .agg _, _, _, h, ⟨us, e, hl⟩ => by
    obtain ⟨k1, k2⟩ := TvL.sound hm h hl
    exact ⟨us.toList, ⟨by rw [e], k2⟩, k1⟩
  | .tup2 _ _, .tup2 c d, _, _, ⟨h1, h2⟩, ⟨a, b, e, g1, g2⟩ => by
    obtain ⟨us, k1, k2⟩ := TvS.sound hm h1 g1
    obtain ⟨vs, j1, j2⟩ := TvS.sound hm h2 g2
    exact ⟨us ++ vs, ⟨a, b, us, vs, e, rfl, k1, j1⟩, k2.append j2⟩
  | .tup3 _ _ _, .tup3 c d f, p, _, ⟨h1, h2, h3⟩, ⟨a, b, c', e, g1, g2, g3⟩ => by
    obtain ⟨us, k1, k2⟩ := TvS.sound hm h1 g1
    obtain ⟨vs, j1, j2⟩ := TvS.sound hm h2 g2
    obtain ⟨ts, i1, i2⟩ := TvS.sound hm h3 g3
    exact ⟨us ++ (vs ++ ts), ⟨a, b, c', us, vs, ts, e, rfl, k1, j1, i1⟩, k2.append (j2.append i2)⟩
  | .one _, .tup4 _ _ _ _, _, _, h, _ => h.elim
  | .agg _, .tup4 _ _ _ _, _, _, h, _ => h.elim
  | .tup2 _ _, .tup4 _ _ _ _, _, _, h, _ => h.elim
  | .tup3 _ _ _, .tup4 _ _ _ _, _, _, h, _ => h.elim
  | .gd _ _, .tup4 _ _ _ _, _, _, h, _ => h.elim
  | .tup4 _ _ _ _, .one _, _, _, h, _ => h.elim
  | .tup4 _ _ _ _, .agg _, _, _, h, _ => h.elim
  | .tup4 _ _ _ _, .tup2 _ _, _, _, h, _ => h.elim
  | .tup4 _ _ _ _, .tup3 _ _ _, _, _, h, _ => h.elim
  | .tup4 _ _ _ _, .gd _ _, _, _, h, _ => h.elim
  | .tup4 _ _ _ _, .tup4 _ _ _ _, _, _, h, _ => h.elim
  | .one _, .agg _, _, _, h, _ => h.elim
  | .one _, .tup2 _ _, _, _, h, _ => h.elim
  | .one _, .tup3 _ _ _, _, _, h, _ => h.elim
  | .one _, .gd _ _, _, _, h, _ => h.elim
  | .agg _, .one _, _, _, h, _ => h.elim
  | .agg _, .tup2 _ _, _, _, h, _ => h.elim
  | .agg _, .tup3 _ _ _, _, _, h, _ => h.elim
  | .agg _, .gd _ _, _, _, h, _ => h.elim
  | .tup2 _ _, .one _, _, _, h, _ => h.elim
  | .tup2 _ _, .agg _, _, _, h, _ => h.elim
  | .tup2 _ _, .tup3 _ _ _, _, _, h, _ => h.elim
  | .tup2 _ _, .gd _ _, _, _, h, _ => h.elim
  | .tup3 _ _ _, .one _, _, _, h, _ => h.elim
  | .tup3 _ _ _, .agg _, _, _, h, _ => h.elim
  | .tup3 _ _ _, .tup2 _ _, _, _, h, _ => h.elim
  | .tup3 _ _ _, .gd _ _, _, _, h, _ => h.elim
  | .gd _ _, .one _, _, _, h, _ => h.elim
  | .gd _ _, .agg _, _, _, h, _ => h.elim
  | .gd _ _, .tup2 _ _, _, _, h, _ => h.elim
  | .gd _ _, .tup3 _ _ _, _, _, h, _ => h.elim
  | .gd _ _, .gd _ _, _, _, h, _ => h.elim
end
/-- Which leaf a name goes to. -/
abbrev ofLeaf (t : Nat → Nat → Nat) : Nat → Nat → Nat → Prop := fun p a b => t a b = p
def RetT (P : Program) (fn : Func) (y : SV) : Exit → Sig → Prop
  | .ret, σ => ∃ s t, ResL P σ fn.results.toList s ∧ TvS σ.heap (ofLeaf t) 0 s y
  | .normal, σ => ∃ s t, ResL P σ fn.results.toList s ∧ TvS σ.heap (ofLeaf t) 0 s y
  | _, _ => False
theorem FnT.of_body {P : Program} {f : FuncId} {fn : Func} {c : Code} {args : List SV} {y : SV} (hf : P.funcs[f]? = some fn) (hb : fn.body = some c) (hle : args.length ≤ fn.ntmps)
    (h : ∀ w0, AW P fn.ntmps w0 c (RetT P fn y) ⟨enumE 0 args, []⟩) : FnT P f args y := by
  intro w S vs hS hd
  have hl := hd.len
  refine calls_of_wp hf hb ?_
  refine h ⟨w.heap.size, w, S, w, ⟨fun _ => (0, 0), w.heap.size, fun _ _ => undef, fun _ _ _ => False, fun _ => 0⟩, hS.pre⟩ ⟨fun _ => (0, 0), w.heap.size, fun _ _ => undef, fun _ _ _ => False, fun _ => 0⟩ S _ w _ (fun e ρ S' σ a w' hs hq => ?_) ⟨?_, rfl, ⟨Below.refl _ _, Same.refl _ _, fun _ _ => .refl _ _⟩, ⟨rfl, Nat.le_refl _, hS, fun id o ho => by simp at ho, fun id o ho => by simp at ho, fun id id' o o' ho => by simp at ho, fun id n X ho => by simp at ho⟩, ?_⟩
  · have fin : (∃ s t, ResL P σ fn.results.toList s ∧ TvS σ.heap (ofLeaf t) 0 s y) → a.defers = [] ∧ ∃ v, (results fn a.tmps).run P w' = .ok v w' ∧ (∃ v' G, Ending.returned v = .returned v' ∧ Below w.heap.size w w' ∧ TRf w' G y v' ∧ Dj G y.leaves.length ∧ ∀ p b, p < y.leaves.length → G p b → newS w w' b) := fun ⟨s, t, hr, hfv⟩ => by
      obtain ⟨v, hv, hrun⟩ := hr.run hs
      obtain ⟨us, k1, k2⟩ := hfv.sound hs.mem hv
      refine ⟨hs.defers, v, hrun, v, _, rfl, hs.below.old, ⟨us, k1, k2⟩, fun p q b _ _ hne hp => fp_disj hs.mem (fun a c h h' => hne (h.symm.trans h')) hp, fun p b _ hb => ?_⟩
      obtain ⟨q1, q2, _⟩ := fp_in hs.mem hb
      exact ⟨q1, q2⟩
    cases e
    case ret => exact fin hq
    case normal => exact fin hq
    all_goals exact hq.elim
  · simp [hl]; omega
  · intro t s ht
    obtain ⟨j, u, e1, e2, e3⟩ := hd.get ht
    have hj : j < vs.length := (List.getElem?_eq_some_iff.1 e2).1
    have : ((vs.toArray ++ Array.replicate (fn.ntmps - vs.toArray.size) undef).getD t undef) = u := by
      rw [Array.getD_eq_getD_getElem?, Array.getElem?_append_left (by simp; omega)]
      simp [show t = j by omega, e2]
    show RS _ w S s ((vs.toArray ++ Array.replicate (fn.ntmps - vs.toArray.size) undef).getD t undef)
    rw [this]
    exact e3.toRS
def SameSh : SV → SV → Prop
  | .one _, .one _ => True
  | .agg l, .agg m => l.length = m.length
  | .tup2 a b, .tup2 c d => SameSh a c ∧ SameSh b d
  | .tup3 a b e, .tup3 c d f => SameSh a c ∧ SameSh b d ∧ SameSh e f
  | _, _ => False
theorem shape_eq : ∀ {x y : SV} {us vs : List Value} {v : Value}, Shape x us v → Shape y vs v → SameSh x y → vs = us
  | .one _, .one _, _, _, _, h, k, _ => by rw [show _ = [_] from h, show _ = [_] from k]
  | .agg _, .agg _, _, _, _, ⟨h, _⟩, ⟨k, _⟩, _ => by rw [h] at k; simpa using k.symm
  | .tup2 _ _, .tup2 _ _, _, _, _, ⟨a, b, us1, us2, e, e2, h1, h2⟩, ⟨a', b', vs1, vs2, e', e2', k1, k2⟩, ⟨s1, s2⟩ => by
    rw [e] at e'
    simp at e'
    obtain ⟨rfl, rfl⟩ := e'
    rw [e2, e2', shape_eq h1 k1 s1, shape_eq h2 k2 s2]
  | .tup3 _ _ _, .tup3 _ _ _, _, _, _, ⟨a, b, c, us1, us2, us3, e, e2, h1, h2, h3⟩, ⟨a', b', c', vs1, vs2, vs3, e', e2', k1, k2, k3⟩, ⟨s1, s2, s3⟩ => by
    rw [e] at e'
    simp at e'
    obtain ⟨rfl, rfl, rfl⟩ := e'
    rw [e2, e2', shape_eq h1 k1 s1, shape_eq h2 k2 s2, shape_eq h3 k3 s3]
  | .gd _ _, _, _, _, _, h, _, _ => h.elim
  | .tup4 _ _ _ _, _, _, _, _, h, _, _ => h.elim
  | .one _, .tup4 _ _ _ _, _, _, _, _, _, s => s.elim
  | .agg _, .tup4 _ _ _ _, _, _, _, _, _, s => s.elim
  | .tup2 _ _, .tup4 _ _ _ _, _, _, _, _, _, s => s.elim
  | .tup3 _ _ _, .tup4 _ _ _ _, _, _, _, _, _, s => s.elim
  | .one _, .agg _, _, _, _, _, _, s => s.elim
  | .one _, .tup2 _ _, _, _, _, _, _, s => s.elim
  | .one _, .tup3 _ _ _, _, _, _, _, _, s => s.elim
  | .one _, .gd _ _, _, _, _, _, _, s => s.elim
  | .agg _, .one _, _, _, _, _, _, s => s.elim
  | .agg _, .tup2 _ _, _, _, _, _, _, s => s.elim
  | .agg _, .tup3 _ _ _, _, _, _, _, _, s => s.elim
  | .agg _, .gd _ _, _, _, _, _, _, s => s.elim
  | .tup2 _ _, .one _, _, _, _, _, _, s => s.elim
  | .tup2 _ _, .agg _, _, _, _, _, _, s => s.elim
  | .tup2 _ _, .tup3 _ _ _, _, _, _, _, _, s => s.elim
  | .tup2 _ _, .gd _ _, _, _, _, _, _, s => s.elim
  | .tup3 _ _ _, .one _, _, _, _, _, _, s => s.elim
  | .tup3 _ _ _, .agg _, _, _, _, _, _, s => s.elim
  | .tup3 _ _ _, .tup2 _ _, _, _, _, _, _, s => s.elim
  | .tup3 _ _ _, .gd _ _, _, _, _, _, _, s => s.elim
/-! Functions that write trees. -/
def lonly : AV → AV
  | .lst sz n f => .lst sz n f
  | _ => .int .i64 0
/-- The contract of a function that is handed the tree x (its first argument; it lies in the blocks G) and leaves x'. -/
def FnM (P : Program) (f : FuncId) (x : SV) (args : List SV) (r x' : SV) : Prop :=
  ∀ (w : World) (G : Nat → Nat → Prop) (base : Nat) (v : Value), base ≤ w.heap.size → Pre base w → (∀ p b, p < x.leaves.length → G p b → base ≤ b ∧ b < w.heap.size) → Dj G x.leaves.length → TRf w G x v →
    Calls P f (v :: args.map SV.val).toArray w fun e w' => e = .returned r.val ∧ Below base w w' ∧ (∀ b, b < w.heap.size → (∀ p, p < x.leaves.length → ¬ G p b) → w'.heap[b]? = w.heap[b]?) ∧ TRf w' G x' v
theorem plain_rss {ρ : Rho} {w : World} {S : Nat → Prop} : ∀ {args : List SV}, (∀ s ∈ args, s.Plain) → RSs ρ w S args (args.map SV.val)
  | [], _ => rfl
  | s :: l, h => ⟨_, _, rfl, (h s (List.mem_cons_self ..)).r ρ w S, plain_rss fun x hx => h x (List.mem_cons_of_mem _ hx)⟩
/-- What is known of plain arguments. -/
def KnV (σ : Sig) : List Operand → List SV → Prop
  | [], [] => True
  | x :: xs, y :: ys => Kn σ x y ∧ y.Plain ∧ KnV σ xs ys
  | _, _ => False
theorem KnV.sound {N : Nat} {w0 : Start} {ρ : Rho} {S : Nat → Prop} {σ : Sig} {a : Act} {w : World} (hs : St N w0 ρ S σ a w) : ∀ {xs : List Operand} {ys : List SV}, KnV σ xs ys → xs.map a.eval = ys.map SV.val
  | [], [], _ => rfl
  | _ :: _, _ :: _, ⟨h1, h2, h3⟩ => by
    simp only [List.map_cons, KnV.sound hs h3, List.cons.injEq, and_true]
    exact h2.eq (h1.sound hs)
  | [], _ :: _, h => h.elim
  | _ :: _, [], h => h.elim
theorem FnM.ofAgg {P : Program} {f : FuncId} {x x' r : SV} {args : List SV} (hp : r.Plain) (ha : ∀ s ∈ args, s.Plain) (hl : x'.leaves.length = x.leaves.length) (hsh : ∀ us v, Shape x us v → Shape x' us v)
    (h : FnG P f (x.nm 1000000 0 :: args) [(1000000, .trees x.leaves.length fun p => x.leaves.getD p (.con undef))] r [(1000000, .trees x.leaves.length fun p => x'.leaves.getD p (.con undef))]) : FnM P f x args r x' := by
  intro w G base v hbase hpre hG hD ⟨us, hx, ht⟩
  let ρ : Rho := ⟨fun _ => (0, 0), base, fun _ p => us.getD p undef, fun _ p => G p, fun _ => x.leaves.length⟩
  let S : Nat → Prop := fun b => b < w.heap.size ∧ ∀ p, p < x.leaves.length → ¬ G p b
  have hlk : ∀ id o, (List.lookup id [(1000000, AObj.trees x.leaves.length fun p => x.leaves.getD p (.con undef))]) = some o → id = 1000000 ∧ o = AObj.trees x.leaves.length fun p => x.leaves.getD p (.con undef) := by
    intro id o ho
    rcases lookup_put ho with h | ⟨_, h⟩
    · exact h
    · simp at h
  have hm : MemOk ρ.base ρ S [(1000000, .trees x.leaves.length fun p => x.leaves.getD p (.con undef))] w := by
    refine ⟨rfl, hbase, fun b hb => hb.1, fun id o ho => ?_, fun id o _ hc => absurd rfl hc, fun id id' o o' _ _ _ hc => absurd rfl hc, fun id n X hX => ?_⟩
    · obtain ⟨_, rfl⟩ := hlk id o ho; exact Nat.zero_le _
    · obtain ⟨rfl, e⟩ := hlk id _ hX
      cases e
      refine ⟨rfl, fun i hi => ⟨?_, fun b hb => ?_⟩⟩
      · have := ht.get (k := i) hi
        rwa [Nat.zero_add] at this
      · obtain ⟨q1, q2⟩ := hG i b hi hb
        refine ⟨q1, q2, fun hS => hS.2 i hi hb, fun _ _ _ hc => absurd rfl hc, fun id' n' X' i' hX' hi' hne => ?_⟩
        obtain ⟨rfl, e⟩ := hlk id' _ hX'
        cases e
        exact hD i i' b hi hi' (fun e => hne ⟨rfl, e.symm⟩) hb
  have hr : RSs ρ w S (x.nm 1000000 0 :: args) (v :: args.map SV.val) := by
    refine ⟨v, _, rfl, Shape.rs (Shape.nm.2 hx) ?_, plain_rss ha⟩
    rw [leaves_nm]
    exact nmL_r ht fun k hk => ⟨by show us.getD (0 + k) undef = _; rw [Nat.zero_add], by show 0 + k < x.leaves.length; omega⟩
  refine (h ρ S w _ hm hpre hr).mono fun e w' ⟨v', ρ', S', he, hb, hs, hbase', hids, hm', hv'⟩ => ?_
  refine ⟨by rw [he, hp.eq hv'], hb, fun b hb1 hb2 => hs.blk b ⟨hb1, hb2⟩, us, hsh us v hx, TLs.mk (by rw [hl]; exact ht.len) fun k hk => ?_⟩
  obtain ⟨k1, _⟩ := hm'.tree 1000000 x.leaves.length (fun p => x'.leaves.getD p (.con undef)) (by simp) k (by omega)
  have hat := hids 1000000 (Nat.le_refl _)
  rw [hat.v, hat.b] at k1
  rw [Nat.zero_add]
  exact k1
theorem nmA_r' {ρ : Rho} {w : World} {S B : Nat → Prop} {id p : Nat} {x : AV} {u : Value} (h : Tr w x u B) (hv : x.isL = true → ρ.tv id p = u) (hn : p < ρ.tn id) : R ρ w S (nmA id p x) u := by
  cases x with
  | lst sz n f => exact nmA_r h (hv rfl) hn
  | int _ _ => exact h
  | bool _ => exact h
  | str _ => exact h
  | con _ => exact h
  | ref _ _ => exact h.elim
  | ptr _ _ _ _ => exact h.elim
  | own _ _ _ => exact h.elim
  | fn _ _ _ => exact h.elim
  | frs _ => exact h.elim
  | tre _ _ => exact h.elim
  | tl _ _ _ _ => exact h.elim
  | cv _ _ => exact h.elim
theorem FnM.ofRow {P : Program} {f : FuncId} {sz n : Nat} {g g' fo fo' : Nat → Nat → AV} {X X' : Nat → AV} {r : SV} {args : List SV} (hp : r.Plain) (ha : ∀ s ∈ args, s.Plain) (hsz : 0 < sz)
    (hfo : ∀ i j, i < n → j < sz → fo i j = nmA 1000001 (i * sz + j) (g i j) ∧ X (i * sz + j) = lonly (g i j)) (hfo' : ∀ i j, i < n → j < sz → fo' i j = nmA 1000001 (i * sz + j) (g' i j) ∧ ((g' i j).isL = true → X' (i * sz + j) = g' i j))
    (hlf : ∀ i j, i < n → j < sz → (g' i j).lf = true)
    (h : FnG P f (.one (.own 1000000 sz n) :: args) [(1000000, .arr sz n fo), (1000001, .trees (n * sz) X)] r [(1000000, .arr sz n fo'), (1000001, .trees (n * sz) X')]) : FnM P f (.one (.lst sz n g)) args r (.one (.lst sz n g')) := by
  intro w G base v hbase hpre hG hD ⟨us, hx, u0, us', e0, ht, _⟩
  obtain rfl : us = [v] := hx
  simp only [List.cons.injEq] at e0
  obtain ⟨rfl, _⟩ := e0
  unfold Tr at ht
  obtain ⟨A, c, ev, hn, hc, hcase⟩ := ht
  let S : Nat → Prop := fun b => b < w.heap.size ∧ ∀ p, p < 1 → ¬ G p b
  -- the opened row
  obtain ⟨b, cs, F, hA, hblk, hcsz, hcell, hF⟩ : ∃ (b : Nat) (cs : Array Value) (F : Nat → Nat → Nat → Prop), (A = some ⟨b, 0, none⟩ ∨ (A = none ∧ c = 0)) ∧ (c ≠ 0 → G 0 b ∧ ∃ e, w.heap[b]? = some (.cells cs e (0, 0))) ∧ cs.size = c * sz ∧
      (∀ i j, i < n → j < sz → (∀ q, F i j q → G 0 q ∧ q ≠ b) ∧ ∃ u, cs[i * sz + j]? = some u ∧ Tr w (g i j) u (F i j)) ∧ (∀ i j i' j', i < n → j < sz → i' < n → j' < sz → ¬ (i = i' ∧ j = j') → ∀ q, F i j q → ¬ F i' j' q) := by
    rcases hcase with ⟨rfl, hA⟩ | ⟨b, cs, e, g1, g2, g3, g4, F, g5, g6⟩
    · rcases hA with hA | ⟨b, hA⟩
      · exact ⟨0, #[], fun _ _ _ => False, .inr ⟨hA, rfl⟩, fun h => absurd rfl h, by simp, fun i j hi => absurd hi (by omega), fun i j i' j' hi => absurd hi (by omega)⟩
      · exact ⟨b, #[], fun _ _ _ => False, .inl hA, fun h => absurd rfl h, by simp, fun i j hi => absurd hi (by omega), fun i j i' j' hi => absurd hi (by omega)⟩
    · exact ⟨b, cs, F, .inl g1, fun _ => ⟨g2, e, g3⟩, g4, g5, g6⟩
  have hdm : ∀ i j, j < sz → (i * sz + j) / sz = i ∧ (i * sz + j) % sz = j := fun i j hj => by
    rw [Nat.mul_comm, Nat.mul_add_div (by omega), Nat.div_eq_of_lt hj, Nat.mul_add_mod, Nat.mod_eq_of_lt hj]
    exact ⟨by omega, rfl⟩
  have hqr : ∀ q, q < n * sz → q / sz < n ∧ q % sz < sz ∧ q / sz * sz + q % sz = q := fun q hq => ⟨(Nat.div_lt_iff_lt_mul hsz).2 hq, Nat.mod_lt _ hsz, by rw [Nat.mul_comm]; exact Nat.div_add_mod q sz⟩
  let ρ : Rho := ⟨fun id => if id = 1000000 then (b, c) else (0, 0), base, fun _ q => if (g (q / sz) (q % sz)).isL then cs.getD q undef else .int .i64 0, fun _ q => F (q / sz) (q % sz), fun _ => n * sz⟩
  have hρ0 : ρ.m 1000000 = (b, c) := by show (if (1000000 : Nat) = 1000000 then (b, c) else (0, 0)) = _; rw [if_pos rfl]
  have hρ1 : ∀ id, id ≠ 1000000 → ρ.m id = (0, 0) := fun id h => by show (if id = 1000000 then (b, c) else (0, 0)) = _; rw [if_neg h]
  have hlk : ∀ {fo : Nat → Nat → AV} {X : Nat → AV} id o, (List.lookup id [(1000000, AObj.arr sz n fo), (1000001, AObj.trees (n * sz) X)]) = some o → (id = 1000000 ∧ o = AObj.arr sz n fo) ∨ (id = 1000001 ∧ o = AObj.trees (n * sz) X) := by
    intro fo X id o ho
    rcases lookup_put ho with h | ⟨_, h⟩
    · exact .inl h
    · rcases lookup_put h with h | ⟨_, h⟩
      · exact .inr h
      · simp at h
  have hm : MemOk ρ.base ρ S [(1000000, .arr sz n fo), (1000001, .trees (n * sz) X)] w := by
    refine ⟨rfl, hbase, fun b hb => hb.1, fun id o ho => ?_, fun id o ho hc0 => ?_, fun id id' o o' ho ho' hne hc1 hc2 => ?_, fun id m Y hY => ?_⟩
    · rcases hlk id o ho with ⟨rfl, rfl⟩ | ⟨rfl, rfl⟩
      · rw [hρ0]; exact hn
      · exact Nat.zero_le _
    · rcases hlk id o ho with ⟨rfl, rfl⟩ | ⟨rfl, rfl⟩
      · rw [hρ0] at hc0 ⊢
        obtain ⟨hg, e, hb⟩ := hblk hc0
        refine ⟨cs, e, hb, hcsz, hn, hc, (hG 0 b (by simp [SV.leaves]) hg).1, fun hS => hS.2 0 (by omega) hg, fun i j hi hj => ?_⟩
        obtain ⟨_, u, hu, hT⟩ := hcell i j hi hj
        refine ⟨u, hu, ?_⟩
        show R ρ w S (fo i j) u
        rw [(hfo i j hi hj).1]
        have hi : i < n := hi
        have hj : j < sz := hj
        obtain ⟨a1, a2⟩ := hdm i j hj
        refine nmA_r' hT (fun hL => ?_) ?_
        · show (if (g ((i * sz + j) / sz) ((i * sz + j) % sz)).isL then cs.getD (i * sz + j) undef else .int .i64 0) = u
          rw [a1, a2, if_pos hL, Array.getD_eq_getD_getElem?, hu]; rfl
        · show i * sz + j < n * sz
          have : (i + 1) * sz ≤ n * sz := Nat.mul_le_mul_right _ hi
          rw [Nat.succ_mul] at this
          omega
      · exact absurd (by rw [hρ1 _ (by omega)]) hc0
    · exfalso
      rcases hlk id o ho with ⟨rfl, rfl⟩ | ⟨rfl, rfl⟩
      · rcases hlk id' o' ho' with ⟨rfl, rfl⟩ | ⟨rfl, rfl⟩
        · exact hne rfl
        · exact hc2 (by rw [hρ1 _ (by omega)])
      · exact hc1 (by rw [hρ1 _ (by omega)])
    · rcases hlk id _ hY with ⟨_, e⟩ | ⟨rfl, e⟩
      · cases e
      · cases e
        refine ⟨rfl, fun q hq => ?_⟩
        obtain ⟨h1, h2, h3⟩ := hqr q hq
        obtain ⟨k1, u, hu, hT⟩ := hcell _ _ h1 h2
        have hX := (hfo _ _ h1 h2).2
        rw [h3] at hu hX
        refine ⟨?_, fun b' hb' => ?_⟩
        · rw [hX]
          show Tr w _ (if (g (q / sz) (q % sz)).isL then cs.getD q undef else .int .i64 0) _
          rw [Array.getD_eq_getD_getElem?, hu]
          generalize g (q / sz) (q % sz) = y at hT
          cases y <;> first | exact hT | rfl
        · obtain ⟨q1, q2⟩ := k1 b' hb'
          obtain ⟨q3, q4⟩ := hG 0 b' (by simp [SV.leaves]) q1
          refine ⟨q3, q4, fun hS => hS.2 0 (by omega) q1, fun id' o ho hc0 => ?_, fun id' m' Y' q' hY' hq' hne => ?_⟩
          · rcases hlk id' o ho with ⟨rfl, rfl⟩ | ⟨rfl, rfl⟩
            · rw [hρ0]; exact fun e => q2 e.symm
            · exact absurd (by rw [hρ1 _ (by omega)]) hc0
          · rcases hlk id' _ hY' with ⟨_, e⟩ | ⟨rfl, e⟩
            · cases e
            · cases e
              obtain ⟨h1', h2', h3'⟩ := hqr q' hq'
              refine hF _ _ _ _ h1 h2 h1' h2' (fun e => hne ⟨rfl, ?_⟩) b' hb'
              rw [← h3, ← h3', e.1, e.2]
  have hr : RSs ρ w S (.one (.own 1000000 sz n) :: args) (v :: args.map SV.val) := by
    refine ⟨v, _, rfl, ⟨A, ?_, ?_, ?_, ?_⟩, plain_rss ha⟩
    · rw [hρ0]; exact ev
    · rw [hρ0]; exact hn
    · rw [hρ0]; exact hc
    · rw [hρ0]; exact hA
  refine (h ρ S w _ hm hpre hr).mono fun e w' ⟨v', ρ', S', he, hb, hs, hbase', hids, hm', hv'⟩ => ?_
  refine ⟨by rw [he, hp.eq hv'], hb, fun b hb1 hb2 => hs.blk b ⟨hb1, hb2⟩, [v], rfl, v, [], rfl, ?_, rfl⟩
  have hat := hids 1000000 (Nat.le_refl _)
  have hat1 := hids 1000001 (by omega)
  unfold Tr
  refine ⟨A, c, ev, hn, hc, ?_⟩
  by_cases hc0 : c = 0
  · refine .inl ⟨hc0, ?_⟩
    rcases hA with h | ⟨h, _⟩
    · exact .inr ⟨_, h⟩
    · exact .inl h
  · right
    have hm1 : ρ' 1000000 = (b, c) := hat.m.trans hρ0
    obtain ⟨cs', e', h1, h2, h3, h4, h5, h6, h7⟩ := hm'.obj 1000000 (.arr sz n fo') rfl (by rw [hm1]; exact hc0)
    rw [hm1] at h1 h2 h3 h4 h5 h6
    refine ⟨b, cs', e', by rcases hA with h | ⟨_, h⟩; (· exact h); (· exact absurd h hc0), (hblk hc0).1, h1, h2, F, fun i j hi hj => ⟨(hcell i j hi hj).1, ?_⟩, hF⟩
    obtain ⟨u, hu, hru⟩ := h7 i j hi hj
    refine ⟨u, hu, ?_⟩
    have hru : R ρ' w' S' (fo' i j) u := hru
    obtain ⟨e1, e2⟩ := hfo' i j hi hj
    rw [e1] at hru
    have hl := hlf i j hi hj
    have hlt : i * sz + j < n * sz := by
      have : (i + 1) * sz ≤ n * sz := Nat.mul_le_mul_right _ hi
      rw [Nat.succ_mul] at this
      omega
    obtain ⟨k1, _⟩ := hm'.tree 1000001 (n * sz) X' rfl (i * sz + j) hlt
    rw [hat1.b] at k1
    have k2 (hL : (g' i j).isL = true) : Tr w' (g' i j) (ρ'.tv 1000001 (i * sz + j)) (F i j) := by
      have : ρ.tb 1000001 (i * sz + j) = F i j := by
        show F ((i * sz + j) / sz) ((i * sz + j) % sz) = F i j
        obtain ⟨a1, a2⟩ := hdm i j hj
        rw [a1, a2]
      rw [this, e2 hL] at k1
      exact k1
    generalize g' i j = y at hru k2 hl
    cases y with
    | lst _ _ _ => obtain ⟨e, _⟩ := hru; rw [e]; exact k2 rfl
    | int _ _ => exact hru
    | bool _ => exact hru
    | str _ => exact hru
    | con _ => exact hru
    | ref _ _ => cases hl
    | ptr _ _ _ _ => cases hl
    | own _ _ _ => cases hl
    | fn _ _ _ => cases hl
    | frs _ => cases hl
    | tre _ _ => cases hl
    | tl _ _ _ _ => cases hl
    | cv _ _ => cases hl
section
variable {P : Program} {N : Nat} {w0 : Start} {σ : Sig} {ops : Array Oper} {rest : List Oper} {o : Oper} {Q : Sig → Prop}
/-- A call that writes trees of a family. -/
theorem ARun.mark {f d id q0 n : Nat} {x0 : Operand} {xs : List Operand} {ts : Array TypeId} {args : List SV} {r x x' : SV} {X X' : Nat → AV} (ho : o.op = .call { callee := .value (.func f), args := (x0 :: xs).toArray, argTypes := ts })
    (hF : FnM P f x args r x') (hB : callB P f = true) (hp : r.Plain) (hx : Kn σ x0 (x.nm id q0)) (hng : x.ng = true) (hlf : x.leaves.all AV.lf = true) (hK : σ.heap.lookup id = some (.trees n X)) (hle : q0 + x.leaves.length ≤ n)
    (hX : ∀ p, p < x.leaves.length → (x.leaves.getD p (.con undef)).isL = true → X (q0 + p) = x.leaves.getD p (.con undef)) (hl : x'.leaves.length = x.leaves.length) (hss : SameSh x x')
    (hX1 : ∀ p, p < x.leaves.length → (x.leaves.getD p (.con undef)).isL = true → X' (q0 + p) = x'.leaves.getD p (.con undef))
    (hX2 : ∀ q, q < n → (∀ p, p < x.leaves.length → (x.leaves.getD p (.con undef)).isL = true → q ≠ q0 + p) → X' q = X q)
    (hk : KnV σ xs args) (hg : o.guard = none) (hd : o.dst = some d) (hN : d < N) (h : ARun P N w0 ops Q rest ⟨(d, r) :: σ.env, (id, .trees n X') :: σ.heap⟩) : ARun P N w0 ops Q (o :: rest) σ := by
  intro ρ S a w Q' hQ hs
  refine wpList_plain hg fun K' hK' => ?_
  let G : Nat → Nat → Prop := fun p b => (x.leaves.getD p (.con undef)).isL = true ∧ ρ.tb id (q0 + p) b
  have hv := hx.sound hs
  obtain ⟨us, hsh, hrl⟩ := RS.shape (by rw [ng_nm]; exact hng) hv
  rw [leaves_nm] at hrl
  have htree : ∀ p, p < x.leaves.length → _ := fun p (hp' : p < x.leaves.length) => hs.mem.tree id n X hK (q0 + p) (by omega)
  have hT : TRf w G x (a.eval x0) := by
    refine ⟨us, Shape.nm.1 hsh, nmL_tls (q := q0) hlf (fun k hk hL => ?_) hrl⟩
    have := (htree k hk).1
    rw [hX k hk hL] at this
    rw [Nat.zero_add]
    exact this.mono fun b hb => ⟨hL, hb⟩
  have hD : Dj G x.leaves.length := fun p q b hp' hq' hne h1 h2 => ((htree p hp').2 b h1.2).2.2.2.2 id n X (q0 + q) hK (by omega) (by omega) h2.2
  have hGin : ∀ p b, p < x.leaves.length → G p b → w0.base ≤ b ∧ b < w.heap.size := fun p b hp' hb => ⟨((htree p hp').2 b hb.2).1, ((htree p hp').2 b hb.2).2.1⟩
  have h2 := hF w G w0.base (a.eval x0) hs.mem.low hs.preB hGin hD hT
  have e : (execOp a.eval o).run P w = .ok (.enter f (a.eval x0 :: args.map SV.val).toArray) w := by
    have := execCall (P := P) (ev := a.eval) (caps := #[]) ho rfl hB w
    rw [List.map_cons, hk.sound hs] at this
    simpa using this
  unfold Oper.wp
  rw [e]
  refine Calls.mono h2 fun e w' ⟨he, hb, hout, hT'⟩ => ?_
  subst he
  rw [hd]
  have hsz := hb.size
  have hS : ∀ b, S b → w'.heap[b]? = w.heap[b]? := fun b hb' => hout b (hs.mem.lt b hb') fun p hp' hg' => ((htree p hp').2 b hg'.2).2.2.1 hb'
  have hsame : Same S w S w' := ⟨fun _ h => h, hS⟩
  obtain ⟨us', hsh', ht'⟩ := hT'
  have husl : ∀ p, p < x.leaves.length → (x.leaves.getD p (.con undef)).isL = true → us'.getD p undef = ρ.tv id (q0 + p) := by
    intro p hp' hL
    exact shape_eq (Shape.nm.1 hsh) hsh' hss ▸ nmL_tv hrl p hp' hL
  have hst : St N w0 ρ S ⟨σ.env, (id, .trees n X') :: σ.heap⟩ a w' := by
    refine ⟨hs.size, hs.defers, hs.below.step hb hsame, ⟨hs.mem.base, Nat.le_trans hs.mem.low hsz, fun b hb' => Nat.lt_of_lt_of_le (hs.mem.lt b hb') hsz, ?_, ?_, ?_, ?_⟩, fun t s ht => (hs.env t s ht).keep hsame (Rn.refl _ _)⟩
    · intro k p hp'
      rcases lookup_put hp' with ⟨rfl, rfl⟩ | ⟨_, hp'⟩
      · exact Nat.zero_le _
      · exact hs.mem.cap k p hp'
    · intro k p hp' hc
      have conv : ∀ {p'}, σ.heap.lookup k = some p' → w'.heap[(ρ k).1]? = w.heap[(ρ k).1]? := fun {p'} hp2 => hout _ (hs.mem.blk hp2 hc) fun q hq hg' => ((htree q hq).2 _ hg'.2).2.2.2.1 k p' hp2 hc rfl
      rcases lookup_put hp' with ⟨rfl, rfl⟩ | ⟨_, hp'⟩
      · obtain ⟨cs, e, h1, h2, h3, h4, h5, h6, h7⟩ := hs.mem.obj k _ hK hc
        exact ⟨cs, e, by rw [conv hK]; exact h1, h2, h3, h4, h5, h6, fun i j hi => absurd hi (Nat.not_lt_zero _)⟩
      · obtain ⟨cs, e, h1, h2, h3, h4, h5, h6, h7⟩ := hs.mem.obj k p hp' hc
        refine ⟨cs, e, by rw [conv hp']; exact h1, h2, h3, h4, h5, h6, fun i j hi hj => ?_⟩
        obtain ⟨u, hu, hr⟩ := h7 i j hi hj
        exact ⟨u, hu, hr.keep hsame (Rn.refl _ _)⟩
    · have conv : ∀ {k p}, ((id, AObj.trees n X') :: σ.heap).lookup k = some p → ∃ p', σ.heap.lookup k = some p' := fun {k p} hp' => by
        rcases lookup_put hp' with ⟨rfl, rfl⟩ | ⟨_, hp'⟩
        · exact ⟨_, hK⟩
        · exact ⟨p, hp'⟩
      intro k k' p p' hp1 hp2 hne hc hc'
      obtain ⟨q, hq⟩ := conv hp1
      obtain ⟨q', hq'⟩ := conv hp2
      exact hs.mem.inj k k' q q' hq hq' hne hc hc'
    · have conv : ∀ {k m Y}, ((id, AObj.trees n X') :: σ.heap).lookup k = some (.trees m Y) → ∃ Y', σ.heap.lookup k = some (.trees m Y') ∧ (k ≠ id → Y' = Y) ∧ (k = id → m = n ∧ Y = X') := fun {k m Y} hY => by
        rcases lookup_put hY with ⟨rfl, e⟩ | ⟨hne, hY⟩
        · cases e; exact ⟨X, hK, fun h => absurd rfl h, fun _ => ⟨rfl, rfl⟩⟩
        · exact ⟨Y, hY, fun _ => rfl, fun h => absurd h hne⟩
      intro k m Y hY
      obtain ⟨Y', hY', hk1, hk2⟩ := conv hY
      refine ⟨(hs.mem.tree0 k m Y' hY').1, fun i hi => ?_⟩
      obtain ⟨t1, t2⟩ := hs.mem.tree k m Y' hY' i hi
      have hrest : ∀ b, ρ.tb k i b → w0.base ≤ b ∧ b < w'.heap.size ∧ ¬ S b ∧ (∀ id' o, ((id, AObj.trees n X') :: σ.heap).lookup id' = some o → (ρ id').2 ≠ 0 → (ρ id').1 ≠ b) ∧ ∀ id' n' X2 i', ((id, AObj.trees n X') :: σ.heap).lookup id' = some (.trees n' X2) → i' < n' → ¬ (id' = k ∧ i' = i) → ¬ ρ.tb id' i' b := by
        intro b hb'
        obtain ⟨q1, q2, q3, q4, q5⟩ := t2 b hb'
        refine ⟨q1, by omega, q3, fun id' o ho hc => ?_, fun id' n' X2 i' hX2' hi' hne => ?_⟩
        · rcases lookup_put ho with ⟨rfl, rfl⟩ | ⟨_, ho⟩
          · exact q4 id' _ hK hc
          · exact q4 id' o ho hc
        · obtain ⟨Y2, hY2, _⟩ := conv hX2'
          exact q5 id' n' Y2 i' hY2 hi' hne
      refine ⟨?_, hrest⟩
      by_cases hin : k = id ∧ ∃ p, p < x.leaves.length ∧ (x.leaves.getD p (.con undef)).isL = true ∧ i = q0 + p
      · obtain ⟨rfl, p, hp', hL, rfl⟩ := hin
        obtain ⟨rfl, rfl⟩ := hk2 rfl
        rw [hX1 p hp' hL, ← husl p hp' hL]
        have := ht'.get (k := p) (by omega)
        rw [Nat.zero_add] at this
        exact this.mono fun b hb' => hb'.2
      · have hY2 : Y i = Y' i := by
          by_cases hki : k = id
          · subst hki
            obtain ⟨rfl, rfl⟩ := hk2 rfl
            rw [hX2 i hi fun p hp' hL e => hin ⟨rfl, p, hp', hL, e⟩]
            rw [hK] at hY'
            cases hY'; rfl
          · rw [hk1 hki]
        rw [hY2]
        refine t1.keep fun b hb' => hout b (t2 b hb').2.1 fun p hp' hg' => ?_
        refine (t2 b hb').2.2.2.2 id n X (q0 + p) hK (by omega) (fun e => hin ⟨e.1.symm, p, hp', hg'.1, e.2.symm⟩) hg'.2
  exact hK' _ _ (h ρ S _ w' Q' hQ (hst.put hN (hp.r _ _ _)))
end
end Go.Proofs.YticinemcmgggpabDoor

/-
  A calculus for walks, part 20: families of trees in rows; what marks write; remainders.
-/
namespace Go.Proofs.YticinemcmgggpabDoor
open Go.ChangeShapes Go.WideShapes Go.ChangeAt Go.RowKit Go.BigFrame Go.Deep
set_option linter.unusedVariables false

set_option linter.unusedSimpArgs false
/-- The family of a row's cells, one behind the other. -/
def famX (sz : Nat) (g : Nat → Nat → AV) : Nat → AV := fun q => g (q / sz) (q % sz)
theorem dm_at {sz i j : Nat} (hj : j < sz) : (i * sz + j) / sz = i ∧ (i * sz + j) % sz = j := by
  rw [Nat.mul_comm, Nat.mul_add_div (by omega), Nat.div_eq_of_lt hj, Nat.mul_add_mod, Nat.mod_eq_of_lt hj]
  exact ⟨by omega, rfl⟩
theorem famX_at {sz i j : Nat} {g : Nat → Nat → AV} (hj : j < sz) : famX sz g (i * sz + j) = g i j := by
  unfold famX
  rw [(dm_at hj).1, (dm_at hj).2]
theorem famX_ext {sz n : Nat} {X : Nat → AV} {g : Nat → Nat → AV} (hsz : 0 < sz) (h : ∀ i j, i < n → j < sz → X (i * sz + j) = g i j) : ∀ q, q < n * sz → X q = famX sz g q := by
  intro q hq
  have h1 := h (q / sz) (q % sz) ((Nat.div_lt_iff_lt_mul hsz).2 hq) (Nat.mod_lt _ hsz)
  rw [show q / sz * sz + q % sz = q by rw [Nat.mul_comm]; exact Nat.div_add_mod q sz] at h1
  exact h1
theorem upd_at {sz i j k c : Nat} {l : AV} {X : Nat → AV} (hj : j < sz) (hc : c < sz) : (if i * sz + j = k * sz + c then l else X (i * sz + j)) = if i = k ∧ j = c then l else X (i * sz + j) := by
  by_cases h : i = k ∧ j = c
  · rw [if_pos h, if_pos (by rw [h.1, h.2])]
  · rw [if_neg h, if_neg (fun e => h (ix_inj hj hc e))]
theorem cell_lt {sz n i j : Nat} (hi : i < n) (hj : j < sz) : i * sz + j < n * sz := by
  have : (i + 1) * sz ≤ n * sz := Nat.mul_le_mul_right _ hi
  rw [Nat.succ_mul] at this
  omega
theorem cell_le {sz n i m : Nat} (hi : i < n) (hm : m ≤ sz) : i * sz + m ≤ n * sz := by
  have : (i + 1) * sz ≤ n * sz := Nat.mul_le_mul_right _ hi
  rw [Nat.succ_mul] at this
  omega
def AV.scl : AV → Bool
  | .int _ _ => true
  | .bool _ => true
  | .str _ => true
  | .con _ => true
  | _ => false
theorem Tv.scl {H : Heap} {x : AV} {U : Nat → Nat → Prop} (h : x.scl = true) : Tv H x x U := by
  cases x <;> first | (cases h; done) | constructor
/-- A row of scalars. -/
theorem Tv.flat {H : Heap} {id sz n : Nat} {o : AObj} {g : Nat → Nat → AV} {U : Nat → Nat → Prop} (ho : H.lookup id = some o) (hT : o.isT = false) (hs : o.sz = sz) (hn : n ≤ o.n) (hU : U id 0) (hf : ∀ i j, i < n → j < sz → o.f i j = g i j) (hg : ∀ i j, i < n → j < sz → (g i j).scl = true) :
    Tv H (.own id sz n) (.lst sz n g) U :=
  .own (fun _ _ _ _ => False) ho hT hs hn hU (fun i j hi hj => by rw [hf i j hi hj]; exact Tv.scl (hg i j hi hj)) (fun _ _ _ _ _ _ h => h.elim) (fun _ _ _ _ _ _ _ _ _ _ _ h => h.elim)
/-- A row whose lists lie in a family. -/
theorem Tv.rowN {H : Heap} {id K sz n : Nat} {o : AObj} {g : Nat → Nat → AV} {U : Nat → Nat → Prop} (ho : H.lookup id = some o) (hT : o.isT = false) (hs : o.sz = sz) (hn : n ≤ o.n) (hU : U id 0) (hf : ∀ i j, i < n → j < sz → o.f i j = nmA K (i * sz + j) (g i j)) (hK : H.lookup K = some (.trees (n * sz) (famX sz g)))
    (hne : K ≠ id) (hUK : ∀ b, U K b) (hg : ∀ i j, i < n → j < sz → (g i j).lf = true) : Tv H (.own id sz n) (.lst sz n g) U := by
  refine .own (fun i j a b => a = K ∧ b = i * sz + j) ho hT hs hn hU (fun i j hi hj => ?_) (fun i j a b _ _ h => ⟨h.1 ▸ hUK b, h.1 ▸ hne⟩) (fun i j i' j' hi hj hi' hj' hne' a b h h' => hne' (ix_inj hj hj' (h.2.symm.trans h'.2)))
  rw [hf i j hi hj]
  have hl := hg i j hi hj
  have ht : Tv H (.tre K (i * sz + j)) (g i j) (fun a b => a = K ∧ b = i * sz + j) := (Tv.tre hK (cell_lt hi hj) ⟨rfl, rfl⟩).cast (famX_at hj)
  generalize g i j = y at hl ht
  cases y <;> first | exact ht | exact Tv.scl rfl | cases hl
theorem lonly_L {x : AV} (h : x.isL = true) : lonly x = x := by cases x <;> first | rfl | cases h
/-- What marks write. -/
def mI (k : Nat) : Int := (k : Int)
def mB (k : Nat) : Bool := decide (((k % 3 : Nat) : Int) = 0)
def mkL {α : Type} (ct : α → Nat) (mk : α → Nat → α) : List α → Nat → List α
  | [], _ => []
  | x :: l, k => mk x k :: mkL ct mk l (k + ct x)
def ctL {α : Type} (ct : α → Nat) (l : List α) : Nat := (l.map ct).sum
theorem mkL_len {α : Type} {ct : α → Nat} {mk : α → Nat → α} : ∀ {l : List α} {k : Nat}, (mkL ct mk l k).length = l.length
  | [], _ => rfl
  | _ :: l, _ => by simp [mkL, mkL_len (l := l)]
theorem mkL_get {α : Type} {ct : α → Nat} {mk : α → Nat → α} (d : α) : ∀ {l : List α} {k i : Nat}, i < l.length → (mkL ct mk l k).getD i d = mk (l.getD i d) (k + ((l.take i).map ct).sum)
  | [], _, _, h => absurd h (by simp)
  | x :: l, k, 0, _ => by simp [mkL]
  | x :: l, k, i + 1, h => by
    have := mkL_get (ct := ct) (mk := mk) d (l := l) (k := k + ct x) (i := i) (by simpa using h)
    simp only [mkL, List.getD_cons_succ, this, List.take_succ_cons, List.map_cons, List.sum_cons]
    rw [Nat.add_assoc]
/-- A list whose first i are marked. -/
def mixL {α : Type} (ct : α → Nat) (mk : α → Nat → α) (l : List α) (k i : Nat) : List α := (mkL ct mk l k).take i ++ l.drop i
theorem mix_zero {α : Type} {ct : α → Nat} {mk : α → Nat → α} {l : List α} {k : Nat} : mixL ct mk l k 0 = l := by simp [mixL]
theorem mix_all {α : Type} {ct : α → Nat} {mk : α → Nat → α} {l : List α} {k i : Nat} (h : ¬ i < l.length) : mixL ct mk l k i = mkL ct mk l k := by
  unfold mixL
  rw [List.take_of_length_le (by rw [mkL_len]; omega), List.drop_of_length_le (by omega), List.append_nil]
theorem mix_get {α : Type} {ct : α → Nat} {mk : α → Nat → α} (d : α) {l : List α} {k i j : Nat} (hi : i ≤ l.length) : (mixL ct mk l k i).getD j d = if j < i then (mkL ct mk l k).getD j d else l.getD j d := by
  unfold mixL
  have hlen : ((mkL ct mk l k).take i).length = i := by rw [List.length_take, mkL_len]; omega
  by_cases h : j < i
  · rw [if_pos h, List.getD_eq_getElem?_getD, List.getElem?_append_left (by omega), List.getElem?_take, if_pos h, ← List.getD_eq_getElem?_getD]
  · rw [if_neg h, List.getD_eq_getElem?_getD, List.getElem?_append_right (by omega), hlen, List.getElem?_drop, show i + (j - i) = j by omega, ← List.getD_eq_getElem?_getD]
theorem mix_at {α : Type} {ct : α → Nat} {mk : α → Nat → α} (d : α) {l : List α} {k i : Nat} (hi : i < l.length) : (mixL ct mk l k i).getD i d = l.getD i d := by
  rw [mix_get d (by omega), if_neg (by omega)]
theorem mix_new {α : Type} {ct : α → Nat} {mk : α → Nat → α} (d : α) {l : List α} {k i : Nat} (hi : i < l.length) : (mixL ct mk l k (i + 1)).getD i d = mk (l.getD i d) (k + ((l.take i).map ct).sum) := by
  rw [mix_get d (by omega), if_pos (by omega), mkL_get d hi]
theorem mix_old {α : Type} {ct : α → Nat} {mk : α → Nat → α} (d : α) {l : List α} {k i j : Nat} (hi : i < l.length) (hj : ¬ j = i) : (mixL ct mk l k (i + 1)).getD j d = (mixL ct mk l k i).getD j d := by
  rw [mix_get d (by omega), mix_get d (by omega)]
  by_cases h : j < i
  · rw [if_pos h, if_pos (by omega)]
  · rw [if_neg h, if_neg (by omega)]
theorem ct_step {α : Type} {ct : α → Nat} (d : α) {l : List α} {k : Nat} (h : k < l.length) : ((l.take (k + 1)).map ct).sum = ((l.take k).map ct).sum + ct (l.getD k d) ∧ ((l.take (k + 1)).map ct).sum ≤ ctL ct l := ⟨wt_take d h, wt_le ct l (k + 1)⟩
theorem ct_end {α : Type} {ct : α → Nat} {l : List α} {k : Nat} (h : ¬ k < l.length) : ((l.take k).map ct).sum = ctL ct l := by
  rw [List.take_of_length_le (by omega)]; rfl
theorem PureOp.rem {P : Program} {σ : Sig} {o : Oper} {t t' : TypeId} {x y : Operand} {a b : Nat} {c : Int} (ho : o.op = .binOp .rem t x y t') (hx : Kn σ x (.one (.int .i64 (a : Int)))) (hy : Kn σ y (.one (.int .i64 c))) (hc : c = (b : Int)) (hb : 0 < b) (ha : a ≤ 9223372036854775807) : PureOp P o σ (.one (.int .i64 ((a % b : Nat) : Int))) := by
  subst hc
  refine PureOp.val fun N w0 ρ S ac w hs => ?_
  have e1 : ac.eval x = .int .i64 (a : Int) := hx.sound hs
  have e2 : ac.eval y = .int .i64 (b : Int) := hy.sound hs
  refine ⟨_, rfl, fun w' _ => ?_⟩
  generalize ac.eval = ev at e1 e2 ⊢
  have hw : ((a : Int).tmod (b : Int)) = (a : Int) % (b : Int) := Int.tmod_eq_emod_of_nonneg (by omega)
  simp only [execOp, ho, e1, e2, Sem.run_bind, eqGuard_int, Result.andThen_ok]
  have hb0 : b ≠ 0 := by omega
  simp [binOp, Op.intArith, go_sem, hb0, hw]
theorem AW.boundO {P : Program} {N : Nat} {w0 : Start} {σ : Sig} {Q2 : Exit → Sig → Prop} {t id sz n : Nat} {c : Code} (h : σ.env.lookup t = some (.one (.own id sz n))) (k : n ≤ 9223372036854775807 → AW P N w0 c Q2 σ) : AW P N w0 c Q2 σ := by
  intro ρ S a w Q' hQ hs
  obtain ⟨A, _, h1, h2, _⟩ := hs.env _ _ h
  exact k (by unfold maxLen at h2; omega) ρ S a w Q' hQ hs
theorem PureOp.loadPtrE {P : Program} {σ : Sig} {o : Oper} {t : Nat} {x : Operand} {id sz i j : Nat} {ob : AObj} {y : AV} (ho : o.op = .load t x) (h : Kn σ x (.one (.ptr id sz i j))) (hT : plainB P t = true) (hob : σ.heap.lookup id = some ob) (hsz : ob.sz = sz) (hi : i < ob.n) (hj : j < ob.sz) (he : ob.f i j = y) :
    PureOp P o σ (.one y) := by
  subst he
  exact PureOp.loadPtr ho h hT hob hsz hi hj
theorem Tv.flatN {H : Heap} {id sz n n' : Nat} {o : AObj} {g : Nat → Nat → AV} {U : Nat → Nat → Prop} (hn' : n' = n) (ho : H.lookup id = some o) (hT : o.isT = false) (hs : o.sz = sz) (hn : n ≤ o.n) (hU : U id 0) (hf : ∀ i j, i < n → j < sz → o.f i j = g i j) (hg : ∀ i j, i < n → j < sz → (g i j).scl = true) :
    Tv H (.own id sz n) (.lst sz n' g) U := by
  subst hn'; exact Tv.flat ho hT hs hn hU hf hg
/-- A row of nils. -/
theorem Tv.nilsN {H : Heap} {id n n' : Nat} {o : AObj} {g : Nat → Nat → AV} {U : Nat → Nat → Prop} (hn' : n' = n) (ho : H.lookup id = some o) (hT : o.isT = false) (hs : o.sz = 1) (hn : n ≤ o.n) (hU : U id 0) (hf : ∀ i, i < n → o.f i 0 = .con (.slice none 0 0)) (hg : ∀ i, i < n → ∃ s f, g i 0 = .lst s 0 f) :
    Tv H (.own id 1 n) (.lst 1 n' g) U := by
  subst hn'
  refine .own (fun _ _ _ _ => False) ho hT hs hn hU (fun i j hi hj => ?_) (fun _ _ _ _ _ _ h => h.elim) (fun _ _ _ _ _ _ _ _ _ _ _ h => h.elim)
  obtain rfl : j = 0 := by omega
  obtain ⟨s, f, e⟩ := hg i hi
  rw [hf i hi, e]
  exact .nil
theorem getD_rep {α : Type} {a d : α} {n i : Nat} (h : i < n) : (List.replicate n a).getD i d = a := by
  rw [List.getD_eq_getElem?_getD, List.getElem?_replicate, if_pos h]; rfl
end Go.Proofs.YticinemcmgggpabDoor

/-
  A calculus for walks, part 21: regions that draw their order, make objects of their own, and end in a fixed order.
-/
namespace Go.Proofs.YticinemcmgggpabDoor
open Go.ChangeShapes Go.WideShapes Go.ChangeAt Go.RowKit Go.BigFrame Go.Deep
set_option linter.unusedVariables false

set_option linter.unusedSimpArgs false
/-- A row of one entry, or none. -/
def oH : Option (Nat × AObj) → Heap
  | none => []
  | some p => [p]
/-- An operation that yields s, and may make one object. -/
structure OpStepC (P : Program) (ops : Array Oper) (o : Oper) (σ : Sig) (s : SV) (C : Option (Nat × AObj)) : Prop where
  run : ∀ (N : Nat) (w0 : Start) (ρ : Rho) (S : Nat → Prop) (a : Act) (w : World) (K : Act → World → Prop) (Q' : Exit → Act → World → Prop), St N w0 ρ S σ a w →
    (∀ v ρ' S' w', Same S w S' w' → Below w.heap.size w w' → (∀ b, S' b → S b ∨ w.heap.size ≤ b) → ρ'.base = ρ.base → (∀ id, (∀ p, C = some p → p.1 ≠ id) → Rho.At ρ ρ' id) → (∀ p, C = some p → (ρ' p.1).2 ≠ 0 → w.heap.size ≤ (ρ' p.1).1) →
      (∀ p n X i b, C = some p → p.2 = .trees n X → i < n → ρ'.tb p.1 i b → w.heap.size ≤ b) → St N w0 ρ' S' ⟨σ.env, oH C ++ σ.heap⟩ a w' → RS ρ' w' S' s v → K (a.put o.dst v) w') →
    if Region.wanted o (yielded ops a.tmps) then o.wp P a w K Q' else K (a.put o.dst undef) w
theorem OpStep.toC {P : Program} {ops : Array Oper} {o : Oper} {σ : Sig} {s : SV} (h : OpStep P ops o σ s) : OpStepC P ops o σ s none := by
  constructor
  intro N w0 ρ S a w K Q' hs hK
  exact h.run N w0 ρ S a w K Q' hs fun v S' w' h1 h2 h3 h4 h5 => hK v ρ S' w' h1 h2 h3 rfl (fun _ _ => .refl _ _) (fun p h => by cases h) (fun p _ _ _ _ h => by cases h) h4 h5
/-- What is new in s comes out of what is looked at. -/
def mentB (ids : List Nat) (e : Env) (s : SV) : Bool := ids.all fun id => s.no id || e.any fun p => !p.2.no id
def AObj.Scl : AObj → Prop
  | .trees _ _ => True
  | o => ∀ i j, (o.f i j).scl = true
theorem scl_no {x : AV} (h : x.scl = true) (id : Nat) : x.no id = true := by cases x <;> first | rfl | cases h
theorem scl_r {ρ ρ' : Rho} {w w' : World} {S S' : Nat → Prop} {x : AV} {v : Value} (h : x.scl = true) (hr : R ρ w S x v) : R ρ' w' S' x v := by
  cases x <;> first | exact hr | cases h
inductive ADsC (P : Program) (N : Nat) (ops : Array Oper) (H0 : Heap) : List Oper → Sig → Sig → Prop
  | nil {σ : Sig} : ADsC P N ops H0 [] σ σ
  | cons {o : Oper} {rest : List Oper} {σ τ : Sig} {d : Nat} {s : SV} {C : Option (Nat × AObj)} : o.dst = some d → d < N → OpStepC P ops o (Sig.only ⟨σ.env, H0⟩ (o.looksAt ops)) s C → (∀ p, C = some p → Fr p.1 σ ∧ p.2.Scl) →
      mentB (σ.heap.map (·.1)) (σ.env.filter fun p => (o.looksAt ops).contains p.1) s = true → ADsC P N ops H0 rest ⟨(d, s) :: σ.env, oH C ++ σ.heap⟩ τ → ADsC P N ops H0 (o :: rest) σ τ
def ordC (md : Region.Mode) (ops : Array Oper) (m : Nat) : Bool :=
  (List.range ops.size).all (fun i => match ops[i]? with
    | none => true
    | some oi => oi.after.all fun e => !Region.binds md e || decide (e.on < i)) &&
  ((List.range m).all (fun i => match ops[i]? with
    | none => true
    | some oi => (List.range m).all fun j => match ops[j]? with
        | none => true
        | some oj => (i == j || oi.dst != oj.dst) && (match oj.dst with
          | none => true
          | some d => !(oi.looksAt ops).contains d || i == j || (if j < i then oi.after.any (fun e => Region.binds md e && e.on == j) else oj.after.any (fun e => Region.binds md e && e.on == i)))) &&
  (List.range ops.size).all (fun k => Nat.blt k m || match ops[k]? with
    | none => true
    | some o => (List.range k).all fun j => o.after.any fun e => Region.binds md e && e.on == j))
theorem ordC_after {md : Region.Mode} {ops : Array Oper} {m : Nat} (h : ordC md ops m = true) {i : Nat} {o : Oper} (hi : ops[i]? = some o) : ∀ e ∈ o.after, Region.binds md e = true → e.on < i := by
  have hlt : i < ops.size := (Array.getElem?_eq_some_iff.1 hi).1
  unfold ordC at h
  rw [Bool.and_eq_true] at h
  have h1 := List.all_eq_true.1 h.1 i (List.mem_range.2 hlt)
  simp only [hi] at h1
  intro e he hb
  have := Array.all_eq_true_iff_forall_mem.1 h1 e he
  rw [hb] at this
  simpa using this
theorem ordC_pair {md : Region.Mode} {ops : Array Oper} {m : Nat} (h : ordC md ops m = true) {i j : Nat} {oi oj : Oper} (him : i < m) (hjm : j < m) (hi : ops[i]? = some oi) (hj : ops[j]? = some oj) :
    (i ≠ j → oi.dst ≠ oj.dst) ∧ ∀ d, oj.dst = some d → d ∈ oi.looksAt ops → i = j ∨ (j < i ∧ ∃ e ∈ oi.after, Region.binds md e = true ∧ e.on = j) ∨ (¬ j < i ∧ ∃ e ∈ oj.after, Region.binds md e = true ∧ e.on = i) := by
  unfold ordC at h
  rw [Bool.and_eq_true, Bool.and_eq_true] at h
  have h1 := List.all_eq_true.1 h.2.1 i (List.mem_range.2 him)
  simp only [hi] at h1
  have h2 := List.all_eq_true.1 h1 j (List.mem_range.2 hjm)
  simp only [hj, Bool.and_eq_true] at h2
  obtain ⟨h3, h4⟩ := h2
  refine ⟨fun hne e => ?_, fun d hd hm => ?_⟩
  · simp [hne, e] at h3
  · simp only [hd] at h4
    by_cases hij : i = j
    · exact .inl hij
    · right
      have hc : (oi.looksAt ops).contains d = true := by simpa using hm
      rw [hc] at h4
      simp only [Bool.not_true, Bool.false_or, show (i == j) = false by simpa using hij] at h4
      by_cases hlt : j < i
      · left
        rw [if_pos hlt] at h4
        obtain ⟨e, he, hb⟩ := Array.any_eq_true'.1 h4
        rw [Bool.and_eq_true, beq_iff_eq] at hb
        exact ⟨hlt, e, he, hb.1, hb.2⟩
      · right
        rw [if_neg hlt] at h4
        obtain ⟨e, he, hb⟩ := Array.any_eq_true'.1 h4
        rw [Bool.and_eq_true, beq_iff_eq] at hb
        exact ⟨hlt, e, he, hb.1, hb.2⟩
theorem ordC_tail {md : Region.Mode} {ops : Array Oper} {m : Nat} (h : ordC md ops m = true) {k j : Nat} {o : Oper} (hk : ops[k]? = some o) (hm : m ≤ k) (hj : j < k) : ∃ e ∈ o.after, Region.binds md e = true ∧ e.on = j := by
  have hlt : k < ops.size := (Array.getElem?_eq_some_iff.1 hk).1
  unfold ordC at h
  rw [Bool.and_eq_true, Bool.and_eq_true] at h
  have h1 := List.all_eq_true.1 h.2.2 k (List.mem_range.2 hlt)
  simp only [hk, show Nat.blt k m = false by rw [Bool.eq_false_iff, ne_eq, Nat.blt_eq]; omega, Bool.false_or] at h1
  have h2 := List.all_eq_true.1 h1 j (List.mem_range.2 hj)
  obtain ⟨e, he, hb⟩ := Array.any_eq_true'.1 h2
  rw [Bool.and_eq_true, beq_iff_eq] at hb
  exact ⟨e, he, hb.1, hb.2⟩
section
variable {P : Program} {N : Nat} {w0 : Start} {ops : Array Oper} {md : Region.Mode} {H0 : Heap}
theorem oH_lookup {C : Option (Nat × AObj)} {H : Heap} {id : Nat} {o : AObj} (h : (oH C ++ H).lookup id = some o) : C = some (id, o) ∨ ((∀ p, C = some p → p.1 ≠ id) ∧ H.lookup id = some o) := by
  cases C with
  | none => exact .inr ⟨(fun p h => by cases h), h⟩
  | some p =>
    obtain ⟨k, x⟩ := p
    rcases lookup_put (show ((k, x) :: H).lookup id = some o from h) with ⟨rfl, rfl⟩ | ⟨hne, h⟩
    · exact .inl rfl
    · refine .inr ⟨fun p hp => ?_, h⟩
      obtain rfl := Option.some.inj hp
      exact fun e => hne e.symm
theorem oH_new {p : Nat × AObj} {H : Heap} : (oH (some p) ++ H).lookup p.1 = some p.2 := by obtain ⟨a, b⟩ := p; simp [oH]
theorem oH_old {C : Option (Nat × AObj)} {H : Heap} {id : Nat} (hC : ∀ p, C = some p → p.1 ≠ id) : (oH C ++ H).lookup id = H.lookup id := by
  cases C with
  | none => rfl
  | some p =>
    show (p :: H).lookup id = _
    rw [List.lookup_cons, show (id == p.1) = false by simpa using fun e : id = p.1 => hC p rfl e.symm]
/-- The walk laid out. -/
theorem ADsC.lay {l : List Oper} {σ τ : Sig} (h : ADsC P N ops H0 l σ τ) : ∃ (d : Nat → Nat) (s : Nat → SV) (e : Nat → Env) (C : Nat → Option (Nat × AObj)) (Hs : Nat → Heap), e 0 = σ.env ∧ Hs 0 = σ.heap ∧ τ = ⟨e l.length, Hs l.length⟩ ∧
    ∀ k o, l[k]? = some o → o.dst = some (d k) ∧ d k < N ∧ e (k + 1) = (d k, s k) :: e k ∧ Hs (k + 1) = oH (C k) ++ Hs k ∧ OpStepC P ops o (Sig.only ⟨e k, H0⟩ (o.looksAt ops)) (s k) (C k) ∧ (∀ p, C k = some p → Fr p.1 ⟨e k, Hs k⟩ ∧ p.2.Scl) ∧
      mentB ((Hs k).map (·.1)) ((e k).filter fun p => (o.looksAt ops).contains p.1) (s k) = true := by
  induction h with
  | @nil σ => exact ⟨fun _ => 0, fun _ => .one (.con undef), fun _ => σ.env, fun _ => none, fun _ => σ.heap, rfl, rfl, rfl, fun k o hk => by simp at hk⟩
  | @cons o rest σ τ d0 s0 C0 hd hN hs hC hm _ ih =>
    obtain ⟨d, s, e, C, Hs, h1, h2, h3, h4⟩ := ih
    refine ⟨fun k => if k = 0 then d0 else d (k - 1), fun k => if k = 0 then s0 else s (k - 1), fun k => if k = 0 then σ.env else e (k - 1), fun k => if k = 0 then C0 else C (k - 1), fun k => if k = 0 then σ.heap else Hs (k - 1), rfl, rfl, ?_, fun k o' hk => ?_⟩
    · rw [h3]; simp
    · cases k with
      | zero =>
        simp at hk
        subst hk
        exact ⟨by simpa using hd, by simpa using hN, by simp [h1], by simp [h2], by simpa using hs, by simpa using hC, by simpa using hm⟩
      | succ k =>
        obtain ⟨g1, g2, g3, g4, g5, g6, g7⟩ := h4 k o' (by simpa using hk)
        exact ⟨by simpa using g1, by simpa using g2, by simpa using g3, by simpa using g4, by simpa using g5, by simpa using g6, by simpa using g7⟩
/-- An object that an operation made joins the others. -/
theorem St.join {ρ ρ' : Rho} {S S' : Nat → Prop} {a : Act} {w w' : World} {C : Option (Nat × AObj)} {H H1 : Heap} (hs : St N w0 ρ S ⟨[], H⟩ a w) (hb : Below w.heap.size w w') (hS : ∀ b, S' b → S b ∨ w.heap.size ≤ b) (hsame : Same S w S' w') (hbase : ρ'.base = ρ.base)
    (hat : ∀ id, (∀ p, C = some p → p.1 ≠ id) → Rho.At ρ ρ' id) (hnew : ∀ p, C = some p → (ρ' p.1).2 ≠ 0 → w.heap.size ≤ (ρ' p.1).1) (hnewT : ∀ p n X i b, C = some p → p.2 = .trees n X → i < n → ρ'.tb p.1 i b → w.heap.size ≤ b)
    (h1 : St N w0 ρ' S' ⟨[], oH C ++ H1⟩ a w') (hno : ∀ p, C = some p → ∀ id o, H.lookup id = some o → id ≠ p.1 ∧ o.No p.1) : St N w0 ρ' S' ⟨[], oH C ++ H⟩ a w' := by
  have hC1 : ∀ {id o}, C = some (id, o) → (oH C ++ H1).lookup id = some o := fun {id o} h => by rw [h]; simp [oH]
  have key : ∀ {id o}, H.lookup id = some o → Rho.At ρ ρ' id ∧ ∀ i j u, R ρ w S (o.f i j) u → R ρ' w' S' (o.f i j) u := fun {id o} ho => by
    refine ⟨hat id fun p hp e => (hno p hp id o ho).1 e.symm, fun i j u hr => hr.keep hsame ⟨hbase, fun q => ?_⟩⟩
    by_cases hq : ∀ p, C = some p → p.1 ≠ q
    · exact .inl (hat q hq)
    · right
      simp only [Classical.not_forall, Classical.not_not] at hq
      obtain ⟨p, hp, rfl⟩ := hq
      exact (hno p hp id o ho).2.at_ i j
  refine ⟨hs.size, hs.defers, h1.below, ⟨h1.mem.base, h1.mem.low, h1.mem.lt, ?_, ?_, ?_, ?_⟩, fun t s ht => by simp at ht⟩
  · intro id o ho
    rcases oH_lookup ho with h | ⟨_, h⟩
    · exact h1.mem.cap id o (hC1 h)
    · rw [(key h).1.m]; exact hs.mem.cap id o h
  · intro id o ho hc
    rcases oH_lookup ho with h | ⟨_, h⟩
    · exact h1.mem.obj id o (hC1 h) hc
    · obtain ⟨k1, k2⟩ := key h
      rw [k1.m] at hc ⊢
      have hlt := hs.mem.blk h hc
      obtain ⟨cs, e, g1, g2, g3, g4, g5, g6, g7⟩ := hs.mem.obj id o h hc
      refine ⟨cs, e, by rw [hb.block _ hlt]; exact g1, g2, g3, g4, g5, fun hS' => ?_, fun i j hi hj => ?_⟩
      · rcases hS _ hS' with h | h
        · exact g6 h
        · omega
      · obtain ⟨u, hu, hr⟩ := g7 i j hi hj
        exact ⟨u, hu, k2 i j u hr⟩
  · intro id id' o o' ho ho' hne hc hc'
    rcases oH_lookup ho with h | ⟨_, h⟩ <;> rcases oH_lookup ho' with h' | ⟨_, h'⟩
    · rw [h] at h'; cases h'; exact absurd rfl hne
    · have e1 := hnew _ h hc
      have k1 := (key h').1
      rw [k1.m] at hc' ⊢
      have := hs.mem.blk h' hc'
      intro e
      have e1 : w.heap.size ≤ (ρ' id).1 := e1
      omega
    · have e1 := hnew _ h' hc'
      have k1 := (key h).1
      rw [k1.m] at hc ⊢
      have := hs.mem.blk h hc
      intro e
      have e1 : w.heap.size ≤ (ρ' id').1 := e1
      omega
    · rw [(key h).1.m] at hc ⊢
      rw [(key h').1.m] at hc' ⊢
      exact hs.mem.inj id id' o o' h h' hne hc hc'
  · intro id n X hX
    rcases oH_lookup hX with h | ⟨_, h⟩
    · obtain ⟨t1, t2⟩ := h1.mem.tree0 id n X (hC1 h)
      refine ⟨t1, fun i hi => ⟨(t2 i hi).1, fun b hb' => ?_⟩⟩
      obtain ⟨q1, q2, q3, q4, q5⟩ := (t2 i hi).2 b hb'
      have hge : w.heap.size ≤ b := hnewT _ n X i b h rfl hi hb'
      refine ⟨q1, q2, q3, fun id' o ho hc => ?_, fun id' m Y i' hY hi' hne => ?_⟩
      · rcases oH_lookup ho with g | ⟨_, g⟩
        · exact q4 id' o (hC1 g) hc
        · have k1 := (key g).1
          rw [k1.m] at hc ⊢
          have := hs.mem.blk g hc
          omega
      · rcases oH_lookup hY with g | ⟨_, g⟩
        · exact q5 id' m Y i' (hC1 g) hi' hne
        · have k1 := (key g).1
          rw [k1.b]
          intro hg
          have := ((hs.mem.tree id' m Y g i' hi').2 b hg).2.1
          omega
    · obtain ⟨k1, _⟩ := key h
      refine ⟨k1.n.trans (hs.mem.tree0 id n X h).1, fun i hi => ?_⟩
      obtain ⟨t1, t2⟩ := hs.mem.tree id n X h i hi
      rw [k1.v, k1.b]
      refine ⟨t1.keep fun b hb' => hb.block b (t2 b hb').2.1, fun b hb' => ?_⟩
      obtain ⟨q1, q2, q3, q4, q5⟩ := t2 b hb'
      refine ⟨q1, Nat.lt_of_lt_of_le q2 hb.size, fun hS' => ?_, fun id' o ho hc => ?_, fun id' m Y i' hY hi' hne => ?_⟩
      · rcases hS _ hS' with h | h
        · exact q3 h
        · omega
      · rcases oH_lookup ho with g | ⟨_, g⟩
        · have := hnew _ g hc
          have this : w.heap.size ≤ (ρ' id').1 := this
          omega
        · have k2 := (key g).1
          rw [k2.m] at hc ⊢
          exact q4 id' o g hc
      · rcases oH_lookup hY with g | ⟨_, g⟩
        · intro hg
          have := hnewT _ m Y i' b g rfl hi' hg
          omega
        · have k2 := (key g).1
          rw [k2.b]
          exact q5 id' m Y i' g hi' hne
/-- What stands listed. -/
structure MidC (P : Program) (N : Nat) (w0 : Start) (ops : Array Oper) (m : Nat) (md : Region.Mode) (d : Nat → Nat) (s : Nat → SV) (C : Nat → Option (Nat × AObj)) (σ : Sig) (listed : Array Bool) (ρ : Rho) (S : Nat → Prop) (a : Act) (w : World) : Prop where
  len : listed.size = ops.size
  closed : ∀ j o, ops[j]? = some o → listed.getD j false = true → ∀ e ∈ o.after, Region.binds md e = true → listed.getD e.on false = true
  tail : ∀ j, m ≤ j → j < ops.size → listed.getD j false = false
  mem : ∃ H, St N w0 ρ S ⟨[], H⟩ a w ∧ (∀ id o, σ.heap.lookup id = some o → H.lookup id = some o) ∧ (∀ j p, j < m → listed.getD j false = true → C j = some p → H.lookup p.1 = some p.2) ∧ (∀ id o, H.lookup id = some o → σ.heap.lookup id = some o ∨ ∃ j, j < m ∧ listed.getD j false = true ∧ C j = some (id, o))
  done : ∀ j, j < m → listed.getD j false = true → RS ρ w S (s j) (a.tmps.getD (d j) undef)
  old : ∀ t x, σ.env.lookup t = some x → (∀ j, j < m → d j = t → listed.getD j false = false) → RS ρ w S x (a.tmps.getD t undef)
theorem SV.no_keep {ρ ρ' : Rho} {w w' : World} {S S' : Nat → Prop} (hsame : Same S w S' w') (hbase : ρ'.base = ρ.base) {C : Option (Nat × AObj)} (hat : ∀ id, (∀ p, C = some p → p.1 ≠ id) → Rho.At ρ ρ' id) {s : SV} {v : Value} (hno : ∀ p, C = some p → s.no p.1 = true) (h : RS ρ w S s v) : RS ρ' w' S' s v :=
  h.keep hsame ⟨hbase, fun q => by
    by_cases hq : ∀ p, C = some p → p.1 ≠ q
    · exact .inl (hat q hq)
    · right
      simp only [Classical.not_forall, Classical.not_not] at hq
      obtain ⟨p, hp, rfl⟩ := hq
      exact hno p hp⟩
/-- The end, in a fixed order. -/
theorem tail_run {m : Nat} (hord : ordC md ops m = true) {Q : Exit → Act → World → Prop} : ∀ (f k : Nat) (listed : Array Bool) (a : Act) (w : World), f + k = ops.size → m ≤ k → listed.size = ops.size → (∀ j, j < k → listed.getD j false = true) → (∀ j, k ≤ j → j < ops.size → listed.getD j false = false) →
    wpList P ops Q (ops.toList.drop k) a w → wpAny P md ops Q f listed a w
  | 0, k, listed, a, w, hf, _, hsz, hl, _, h => by
    refine ⟨?_, ?_⟩
    · unfold Region.ready
      rw [List.filter_eq_nil_iff]
      intro i hi
      have := List.mem_range.1 hi
      have h1 := hl i (by omega)
      rw [← getD_tf (by omega)] at h1
      rw [h1]; simp
    · rw [List.drop_of_length_le (by simp; omega)] at h
      exact h
  | f + 1, k, listed, a, w, hf, hm, hsz, hl, hu, h => by
    have hk : k < ops.size := by omega
    have hko : ops[k]? = some ops[k] := Array.getElem?_eq_getElem hk
    have hrdy : k ∈ Region.ready md ops listed := by
      refine mem_ready.2 ⟨by rw [getD_tf (by omega)]; exact hu k (Nat.le_refl _) hk, _, hko, fun ed hed hbd => ?_⟩
      have := ordC_after hord hko ed hed hbd
      exact hl ed.on this
    refine ⟨(fun hnil => by rw [hnil] at hrdy; cases hrdy), fun i hi => ?_⟩
    obtain ⟨hun, o, ho, hpre⟩ := mem_ready.1 hi
    have hilt : i < ops.size := (Array.getElem?_eq_some_iff.1 ho).1
    have hik : i = k := by
      rcases Nat.lt_trichotomy i k with hlt | heq | hgt
      · rw [getD_tf (by omega), hl i hlt] at hun; cases hun
      · exact heq
      · obtain ⟨ed, hed, hb, hon⟩ := ordC_tail hord ho (by omega) hgt
        have := hpre ed hed hb
        rw [hon, hu k (Nat.le_refl _) hk] at this
        cases this
    subst hik
    rw [hko] at ho
    obtain rfl := Option.some.inj ho
    have hdrop : ops.toList.drop i = ops[i] :: ops.toList.drop (i + 1) := by
      rw [List.drop_eq_getElem_cons (by simpa using hk)]; simp
    rw [hdrop] at h
    have hrec : ∀ a' w', wpList P ops Q (ops.toList.drop (i + 1)) a' w' → wpAny P md ops Q f (listed.setIfInBounds i true) a' w' := fun a' w' h' =>
      tail_run hord f (i + 1) _ a' w' (by omega) (by omega) (by simp [hsz]) (fun j hj => by
        by_cases hji : j = i
        · subst hji; simp [hsz, hk]
        · exact getD_set_true (hl j (by omega))) (fun j hj hj2 => by rw [getD_set_ne false (by omega)]; exact hu j (by omega) hj2) h'
    unfold wpOp
    simp only [hko]
    unfold wpList at h
    split
    · rename_i hw
      rw [if_pos hw] at h
      rcases h with h | h
      · exact .inl (Oper.wp_mono hrec h)
      · exact .inr h
    · rename_i hw
      rw [if_neg hw] at h
      exact hrec _ _ h
theorem any_orderC {m : Nat} {σ τ : Sig} {Q : Exit → Act → World → Prop} (hle : m ≤ ops.size) (hord : ordC md ops m = true) (h : ADsC P N ops σ.heap (ops.toList.take m) σ τ)
    (hQ : ∀ ρ S a w, St N w0 ρ S τ a w → wpList P ops Q (ops.toList.drop m) a w) :
    ∀ (ρ : Rho) (S : Nat → Prop) (a : Act) (w : World), St N w0 ρ S σ a w → wpAny P md ops Q ops.size (Array.replicate ops.size false) a w := by
  obtain ⟨d, s, e, C, Hs, he0, hH0, hτ, hst⟩ := h.lay
  have hops : ∀ k, k < m → (ops.toList.take m)[k]? = ops[k]? := fun k hk => by rw [List.getElem?_take, if_pos hk]; first | rfl | exact Array.getElem?_toList | simp
  have hlen : (ops.toList.take m).length = m := by simp; omega
  have hstep : ∀ k o, k < m → ops[k]? = some o → _ := fun k o hkm hk => hst k o (by rw [hops k hkm]; exact hk)
  have hget0 : ∀ k (hk : k < m), ops[k]? = some (ops[k]'(by omega)) := fun k hk => Array.getElem?_eq_getElem (by omega)
  have hinj : ∀ i j, i < m → j < m → i ≠ j → d i ≠ d j := fun i j hi hj hne heq => by
    have g1 := hstep i _ hi (hget0 i hi)
    have g2 := hstep j _ hj (hget0 j hj)
    exact (ordC_pair hord hi hj (hget0 i hi) (hget0 j hj)).1 hne (by rw [g1.1, g2.1, heq])
  have hget := lay_get (fun k hk => (hstep k _ hk (hget0 k hk)).2.2.1) hinj
  -- what the laid heap holds
  have hHs : ∀ k, k ≤ m → ∀ id o, (Hs k).lookup id = some o → (σ.heap.lookup id = some o) ∨ ∃ j, j < k ∧ C j = some (id, o) := by
    intro k
    induction k with
    | zero => intro _ id o ho; rw [hH0] at ho; exact .inl ho
    | succ k ih =>
      intro hk id o ho
      obtain ⟨_, _, _, g4, _⟩ := hstep k _ (by omega) (hget0 k (by omega))
      rw [g4] at ho
      rcases oH_lookup ho with h | ⟨_, h⟩
      · exact .inr ⟨k, by omega, h⟩
      · rcases ih (by omega) id o h with h | ⟨j, hj, h⟩
        · exact .inl h
        · exact .inr ⟨j, by omega, h⟩
  have hFr : ∀ k p, k < m → C k = some p → (∀ q ∈ e k, q.2.no p.1 = true) ∧ (∀ id o, (Hs k).lookup id = some o → id ≠ p.1 ∧ o.No p.1) := by
    intro k p hk hp
    obtain ⟨_, _, _, _, _, g6, _⟩ := hstep k _ hk (hget0 k hk)
    obtain ⟨f1, _⟩ := g6 p hp
    refine ⟨fun q hq => ?_, fun id o ho => f1.heap.get ho⟩
    exact List.all_eq_true.1 f1.env q hq
  -- keys of the heap ahead stay keys
  have hkeys : ∀ k, k ≤ m → ∀ id, (∃ o, σ.heap.lookup id = some o) ∨ (∃ j o, j < k ∧ C j = some (id, o)) → ∃ o, (Hs k).lookup id = some o := by
    intro k
    induction k with
    | zero => intro _ id h; rw [hH0]; rcases h with h | ⟨j, o, hj, _⟩; (· exact h); (· omega)
    | succ k ih =>
      intro hk id h
      obtain ⟨_, _, _, g4, _⟩ := hstep k _ (by omega) (hget0 k (by omega))
      rw [g4]
      by_cases hc : ∀ p, C k = some p → p.1 ≠ id
      · rw [oH_old hc]
        refine ih (by omega) id ?_
        rcases h with h | ⟨j, o, hj, h⟩
        · exact .inl h
        · by_cases hjk : j = k
          · subst hjk; exact absurd rfl (hc _ h)
          · exact .inr ⟨j, o, by omega, h⟩
      · simp only [Classical.not_forall, Classical.not_not] at hc
        obtain ⟨p, hp, rfl⟩ := hc
        exact ⟨p.2, by rw [hp]; exact oH_new⟩
  have hcid : ∀ j k p q, j < m → k < m → C j = some p → C k = some q → p.1 = q.1 → j = k := by
    have one : ∀ j k p q, j < k → k < m → C j = some p → C k = some q → p.1 ≠ q.1 := fun j k p q hjk hk hp hq => by
      obtain ⟨o, ho⟩ := hkeys k (by omega) p.1 (.inr ⟨j, p.2, hjk, hp⟩)
      exact ((hFr k q hk hq).2 p.1 o ho).1
    intro j k p q hj hk hp hq he
    rcases Nat.lt_trichotomy j k with h | h | h
    · exact absurd he (one j k p q h hk hp hq)
    · exact h
    · exact absurd he.symm (one k j q p h hj hq hp)
  have hbase : ∀ k p, k < m → C k = some p → (∀ id o, σ.heap.lookup id = some o → id ≠ p.1) ∧ (∀ q ∈ σ.env, q.2.no p.1 = true) ∧ (∀ id o, σ.heap.lookup id = some o → o.No p.1) := by
    intro k p hk hp
    obtain ⟨f1, f2⟩ := hFr k p hk hp
    have hkeep : ∀ i, i ≤ k → (∀ q ∈ e i, q.2.no p.1 = true) → ∀ q ∈ e 0, q.2.no p.1 = true := by
      intro i
      induction i with
      | zero => intro _ h; exact h
      | succ i ih =>
        intro hi h
        obtain ⟨_, _, g3, _⟩ := hstep i _ (by omega) (hget0 i (by omega))
        rw [g3] at h
        exact ih (by omega) fun q hq => h q (List.mem_cons_of_mem _ hq)
    have hlook : ∀ id o, σ.heap.lookup id = some o → (Hs k).lookup id = some o := by
      have : ∀ i, i ≤ k → ∀ id o, σ.heap.lookup id = some o → (Hs i).lookup id = some o := by
        intro i
        induction i with
        | zero => intro _ id o ho; rw [hH0]; exact ho
        | succ i ih =>
          intro hi id o ho
          obtain ⟨_, _, _, g4, _⟩ := hstep i _ (by omega) (hget0 i (by omega))
          rw [g4, oH_old fun q hq => ?_]
          · exact ih (by omega) id o ho
          · have := ((hFr i q (by omega) hq).2 id o (ih (by omega) id o ho)).1
            exact fun e => this e.symm
      exact this k (Nat.le_refl _)
    refine ⟨fun id o ho => (f2 id o (hlook id o ho)).1, fun q hq => hkeep k (Nat.le_refl _) f1 q (by rw [he0]; exact hq), fun id o ho => (f2 id o (hlook id o ho)).2⟩
  have hscl : ∀ j k p q, j < m → k < m → C j = some p → C k = some q → q.2.No p.1 := by
    intro j k p q _ hk _ hq
    obtain ⟨_, _, _, _, _, g6, _⟩ := hstep k _ hk (hget0 k hk)
    obtain ⟨_, h⟩ := g6 q hq
    obtain ⟨id, o⟩ := q
    cases o with
    | trees n X => trivial
    | arr sz n f => exact fun i j => scl_no (h i j) _
    | cells l =>
      show l.all (AV.no p.1) = true
      rw [List.all_eq_true]
      intro x hx
      obtain ⟨i, hi, rfl⟩ := List.mem_iff_getElem.1 hx
      have := h 0 i
      rw [show (AObj.cells l).f 0 i = l[i] by show l.getD i (.con undef) = _; rw [List.getD_eq_getElem?_getD, List.getElem?_eq_getElem hi]; rfl] at this
      exact scl_no this _
  -- mention: what a listed slot speaks of is listed
  have hment : ∀ (listed : Array Bool) (_ : ∀ j o, ops[j]? = some o → listed.getD j false = true → ∀ e ∈ o.after, Region.binds md e = true → listed.getD e.on false = true) (k : Nat), k < m → listed.getD k false = true → ∀ j p, j < m → C j = some p → (s k).no p.1 = false → listed.getD j false = true := by
    intro listed hcl k
    induction k using Nat.strongRecOn with
    | _ k ih =>
      intro hk hlk j p hj hp hn
      by_cases hjk : j = k
      · subst hjk; exact hlk
      · have hlt : j < k := by
          apply Classical.byContradiction
          intro hge
          have hkj : k < j := by omega
          -- a later creation is not spoken of
          have hin : (d k, s k) ∈ e j := by
            have : ∀ i, k < i → i ≤ j → (d k, s k) ∈ e i := by
              intro i
              induction i with
              | zero => intro h; omega
              | succ i ihi =>
                intro h1 h2
                obtain ⟨_, _, g3, _⟩ := hstep i _ (by omega) (hget0 i (by omega))
                rw [g3]
                by_cases hik : i = k
                · subst hik; exact List.mem_cons_self ..
                · exact List.mem_cons_of_mem _ (ihi (by omega) (by omega))
            exact this j hkj (Nat.le_refl _)
          have := (hFr j p hj hp).1 _ hin
          rw [hn] at this; cases this
        obtain ⟨_, _, _, _, _, _, g7⟩ := hstep k _ hk (hget0 k hk)
        obtain ⟨o, ho⟩ := hkeys k (by omega) p.1 (.inr ⟨j, p.2, hlt, hp⟩)
        have hkey : p.1 ∈ (Hs k).map (·.1) := List.mem_map.2 ⟨_, lookup_mem ho, rfl⟩
        have h8 := List.all_eq_true.1 g7 p.1 hkey
        rw [hn, Bool.false_or] at h8
        obtain ⟨q, hq, hqn⟩ := List.any_eq_true.1 h8
        obtain ⟨hqe, hql⟩ := List.mem_filter.1 hq
        simp only [Bool.not_eq_true'] at hqn
        have : (∃ i, i < k ∧ q = (d i, s i)) ∨ q ∈ e 0 := by
          have : ∀ i, i ≤ k → q ∈ e i → (∃ i', i' < i ∧ q = (d i', s i')) ∨ q ∈ e 0 := by
            intro i
            induction i with
            | zero => intro _ h; exact .inr h
            | succ i ihi =>
              intro hi h
              obtain ⟨_, _, g3, _⟩ := hstep i _ (by omega) (hget0 i (by omega))
              rw [g3] at h
              rcases List.mem_cons.1 h with h | h
              · exact .inl ⟨i, by omega, h⟩
              · rcases ihi (by omega) h with ⟨i', hi', h⟩ | h
                · exact .inl ⟨i', by omega, h⟩
                · exact .inr h
          exact this k (Nat.le_refl _) hqe
        rcases this with ⟨i, hik, rfl⟩ | h0
        · have hli : listed.getD i false = true := by
            obtain ⟨g1, _⟩ := hstep i _ (by omega) (hget0 i (by omega))
            rcases (ordC_pair hord hk (by omega) (hget0 k hk) (hget0 i (by omega))).2 _ g1 (by simpa using hql) with e1 | ⟨_, ed, hed, hb, hon⟩ | ⟨hn', _⟩
            · omega
            · rw [← hon]; exact hcl k _ (hget0 k hk) hlk ed hed hb
            · omega
          exact ih i hik (by omega) hli j p hj hp hqn
        · have := (hbase j p hj hp).2.1 q (by rw [← he0]; exact h0)
          rw [hqn] at this; cases this
  have key : ∀ fuel listed ρ S a w, unl listed ops.size = fuel → MidC P N w0 ops m md d s C σ listed ρ S a w → wpAny P md ops Q fuel listed a w := by
    intro fuel
    induction fuel with
    | zero =>
      intro listed ρ S a w hf hm
      have hall : ∀ j, j < ops.size → listed.getD j true = true := unl_zero _ hf
      have hmn : m = ops.size := by
        apply Classical.byContradiction
        intro hne
        have h1 := hm.tail m (Nat.le_refl _) (by omega)
        rw [← getD_tf (by rw [hm.len]; omega), hall m (by omega)] at h1
        cases h1
      have hfin := tail_run (P := P) hord (Q := Q) 0 m listed a w (by omega) (Nat.le_refl _) hm.len (fun j hj => by rw [← getD_tf (by rw [hm.len]; omega)]; exact hall j (by omega)) (fun j hj hj2 => by omega)
      refine hfin (hQ ρ S a w ?_)
      obtain ⟨H, hH1, hH2, hH3, hH4⟩ := hm.mem
      have hallF : ∀ j, j < m → listed.getD j false = true := fun j hj => by rw [← getD_tf (by rw [hm.len]; omega)]; exact hall j (by omega)
      refine ⟨hH1.size, hH1.defers, hH1.below, ?_, fun t x ht => ?_⟩
      · rw [hτ]
        refine hH1.mem.le' fun id o ho => HLe.refl ?_
        rw [hlen] at ho
        rcases hHs m (Nat.le_refl _) id o ho with h | ⟨j, hj, h⟩
        · exact hH2 id o h
        · exact hH3 j _ hj (hallF j hj) h
      · rw [hτ, hlen] at ht
        rcases hget m (Nat.le_refl _) t x ht with ⟨j, hj, rfl, rfl⟩ | ⟨h1, h2⟩
        · exact hm.done j hj (hallF j hj)
        · exact hm.old t x (by rw [← he0]; exact h2) fun j hj hd => absurd hd (h1 j hj)
    | succ fuel ih =>
      intro listed ρ S a w hf hm
      by_cases hpre : ∀ j, j < m → listed.getD j false = true
      · -- the prefix is done
        have hcnt : ∀ k, k ≤ ops.size → unl listed k + min k m = k := by
          intro k
          induction k with
          | zero => intro _; simp [unl]
          | succ k ihk =>
            intro hk
            have h1 := ihk (by omega)
            simp only [unl]
            by_cases hkm : k < m
            · have := hpre k hkm
              rw [getD_tf (by rw [hm.len]; omega), this]
              simp only [if_true]; omega
            · have := hm.tail k (by omega) (by omega)
              rw [getD_tf (by rw [hm.len]; omega), this]
              simp only [Bool.false_eq_true, if_false]; omega
        have h0 := hcnt ops.size (Nat.le_refl _)
        refine tail_run (P := P) hord (Q := Q) (fuel + 1) m listed a w (by omega) (Nat.le_refl _) hm.len hpre (fun j h1 h2 => hm.tail j h1 h2) (hQ ρ S a w ?_)
        obtain ⟨H, hH1, hH2, hH3, hH4⟩ := hm.mem
        refine ⟨hH1.size, hH1.defers, hH1.below, ?_, fun t x ht => ?_⟩
        · rw [hτ]
          refine hH1.mem.le' fun id o ho => HLe.refl ?_
          rw [hlen] at ho
          rcases hHs m (Nat.le_refl _) id o ho with h | ⟨j, hj, h⟩
          · exact hH2 id o h
          · exact hH3 j _ hj (hpre j hj) h
        · rw [hτ, hlen] at ht
          rcases hget m (Nat.le_refl _) t x ht with ⟨j, hj, rfl, rfl⟩ | ⟨h1, h2⟩
          · exact hm.done j hj (hpre j hj)
          · exact hm.old t x (by rw [← he0]; exact h2) fun j hj hd => absurd hd (h1 j hj)
      · have hex : ∃ j, j < m ∧ listed.getD j false = false := by
          apply Classical.byContradiction
          intro hno
          exact hpre fun j hj => by
            cases hb : listed.getD j false with
            | true => rfl
            | false => exact absurd ⟨j, hj, hb⟩ hno
        refine ⟨fun hnil => ?_, fun i hi => ?_⟩
        · exfalso
          obtain ⟨j0, hj0⟩ := hex
          obtain ⟨j, ⟨hj, hb⟩, hmin⟩ := exists_min (p := fun j => j < m ∧ listed.getD j false = false) j0 hj0
          have : j ∈ Region.ready md ops listed := by
            refine mem_ready.2 ⟨by rw [getD_tf (by rw [hm.len]; omega)]; exact hb, _, hget0 j hj, fun ed hed hbd => ?_⟩
            have hlt := ordC_after hord (hget0 j hj) ed hed hbd
            cases hc : listed.getD ed.on false with
            | true => rfl
            | false => have := hmin ed.on ⟨by omega, hc⟩; omega
          rw [hnil] at this
          cases this
        · obtain ⟨hun, o, ho, hprei⟩ := mem_ready.1 hi
          have hilt : i < ops.size := (Array.getElem?_eq_some_iff.1 ho).1
          have hunf : listed.getD i false = false := by rw [← getD_tf (by rw [hm.len]; exact hilt)]; exact hun
          have him : i < m := by
            apply Classical.byContradiction
            intro hge
            obtain ⟨j, hj, hb⟩ := hex
            obtain ⟨ed, hed, hbd, hon⟩ := ordC_tail hord ho (by omega) (show j < i by omega)
            have := hprei ed hed hbd
            rw [hon, hb] at this; cases this
          obtain ⟨hd, hN, hen, hHn, hop, hfr, _⟩ := hstep i o him ho
          obtain ⟨H, hH1, hH2, hH3, hH4⟩ := hm.mem
          have hpre' : St N w0 ρ S (Sig.only ⟨e i, σ.heap⟩ (o.looksAt ops)) a w := by
            refine ⟨hH1.size, hH1.defers, hH1.below, hH1.mem.le' fun id ob hob => HLe.refl (hH2 id ob hob), fun t x ht => ?_⟩
            obtain ⟨htl, ht⟩ := lookup_filter ht
            rcases hget i (by omega) t x ht with ⟨j, hj, rfl, rfl⟩ | ⟨h1, h2⟩
            · have hjm : j < m := by omega
              obtain ⟨g1, _⟩ := hstep j _ hjm (hget0 j hjm)
              rcases (ordC_pair hord him hjm ho (hget0 j hjm)).2 _ g1 htl with e1 | ⟨_, ed, hed, hb, hon⟩ | ⟨hn, _⟩
              · omega
              · exact hm.done j hjm (by rw [← hon]; exact hprei ed hed hb)
              · exact absurd hj hn
            · refine hm.old t x (by rw [← he0]; exact h2) fun j hj hdj => ?_
              obtain ⟨g1, _⟩ := hstep j _ hj (hget0 j hj)
              rw [hdj] at g1
              rcases (ordC_pair hord him hj ho (hget0 j hj)).2 _ g1 htl with e1 | ⟨hlt, _⟩ | ⟨hn, ed, hed, hb, hon⟩
              · subst e1; exact hunf
              · exact absurd hdj (h1 j hlt)
              · cases hc : listed.getD j false with
                | false => rfl
                | true =>
                  have := hm.closed j _ (hget0 j hj) hc ed hed hb
                  rw [hon, hunf] at this
                  cases this
          have hnoH : ∀ p, C i = some p → ∀ id ob, H.lookup id = some ob → id ≠ p.1 ∧ ob.No p.1 := by
            intro p hp id ob hob
            rcases hH4 id ob hob with h | ⟨j, hj, hlj, h⟩
            · exact ⟨(hbase i p him hp).1 id ob h, (hbase i p him hp).2.2 id ob h⟩
            · refine ⟨fun e => ?_, hscl i j p _ him hj hp h⟩
              have := hcid j i _ p hj him h hp e
              subst this
              rw [hunf] at hlj; cases hlj
          have hnext : ∀ v ρ' S' w', Same S w S' w' → Below w.heap.size w w' → (∀ b, S' b → S b ∨ w.heap.size ≤ b) → ρ'.base = ρ.base → (∀ id, (∀ p, C i = some p → p.1 ≠ id) → Rho.At ρ ρ' id) → (∀ p, C i = some p → (ρ' p.1).2 ≠ 0 → w.heap.size ≤ (ρ' p.1).1) →
              (∀ p n X k b, C i = some p → p.2 = .trees n X → k < n → ρ'.tb p.1 k b → w.heap.size ≤ b) → St N w0 ρ' S' ⟨(Sig.only ⟨e i, σ.heap⟩ (o.looksAt ops)).env, oH (C i) ++ σ.heap⟩ a w' → RS ρ' w' S' (s i) v → wpAny P md ops Q fuel (listed.setIfInBounds i true) (a.put o.dst v) w' := by
            intro v ρ' S' w' hsame hbel hSS hbs hat hnew hnewT hs' hv
            have hj1 : St N w0 ρ' S' ⟨[], oH (C i) ++ H⟩ a w' := St.join hH1 hbel hSS hsame hbs hat hnew hnewT ⟨hs'.size, hs'.defers, hs'.below, hs'.mem, fun t s hs => by simp at hs⟩ hnoH
            refine ih _ ρ' S' _ w' ?_ ⟨by simp [hm.len], ?_, ?_, ?_, ?_, ?_⟩
            · have := unl_set hun ops.size
              rw [if_pos hilt] at this
              omega
            · intro j oj hoj hl ed hed hb
              by_cases hji : j = i
              · subst hji
                rw [ho] at hoj
                obtain rfl := Option.some.inj hoj
                exact getD_set_true (hprei ed hed hb)
              · rw [getD_set_ne false (Ne.symm hji)] at hl
                exact getD_set_true (hm.closed j oj hoj hl ed hed hb)
            · intro j h1 h2
              rw [getD_set_ne false (by omega)]
              exact hm.tail j h1 h2
            · refine ⟨oH (C i) ++ H, ?_, fun id ob hob => ?_, fun j p hj hl hp => ?_, fun id ob hob => ?_⟩
              · rw [hd]
                exact (hj1.put hN hv).memOnly
              · rw [oH_old fun p hp e => (hnoH p hp id ob (hH2 id ob hob)).1 e.symm]
                exact hH2 id ob hob
              · by_cases hji : j = i
                · subst hji; rw [hp]; exact oH_new
                · rw [getD_set_ne false (Ne.symm hji)] at hl
                  have h3 := hH3 j p hj hl hp
                  rw [oH_old fun q hq e => (hnoH q hq p.1 p.2 h3).1 e.symm]
                  exact h3
              · rcases oH_lookup hob with h | ⟨_, h⟩
                · exact .inr ⟨i, him, by simp [hm.len, hilt], h⟩
                · rcases hH4 id ob h with h | ⟨j, hj, hl, h⟩
                  · exact .inl h
                  · exact .inr ⟨j, hj, getD_set_true hl, h⟩
            · intro j hj hl
              have hsz : d i < a.tmps.size := by rw [hH1.size]; exact hN
              rw [hd, getD_put hsz]
              by_cases hji : j = i
              · subst hji; rw [if_pos rfl]; exact hv
              · rw [if_neg (hinj j i hj him hji)]
                rw [getD_set_ne false (Ne.symm hji)] at hl
                refine SV.no_keep hsame hbs hat (fun p hp => ?_) (hm.done j hj hl)
                cases hn : (s j).no p.1 with
                | true => rfl
                | false =>
                  have := hment listed hm.closed j hj hl i p him hp hn
                  rw [hunf] at this; cases this
            · intro t x ht hno
              have hsz : d i < a.tmps.size := by rw [hH1.size]; exact hN
              have hti : t ≠ d i := fun e => by
                have := hno i him e.symm
                rw [show (listed.setIfInBounds i true).getD i false = true by simp [hm.len, hilt]] at this
                cases this
              rw [hd, getD_put hsz, if_neg hti]
              refine SV.no_keep hsame hbs hat (fun p hp => (hbase i p him hp).2.1 _ (lookup_mem ht)) (hm.old t x ht fun j hj hdj => ?_)
              have hji : i ≠ j := fun e => hti (by rw [← hdj, e])
              have := hno j hj hdj
              rwa [getD_set_ne false hji] at this
          have h1 := hop.run N w0 ρ S a w (wpAny P md ops Q fuel (listed.setIfInBounds i true)) Q hpre' hnext
          unfold wpOp
          simp only [ho]
          split
          · rename_i hw; rw [if_pos hw] at h1; exact .inl h1
          · rename_i hw; rw [if_neg hw] at h1; exact h1
  intro ρ S a w hs
  refine key ops.size _ ρ S a w ?_ ⟨by simp, fun j o ho hl => ?_, fun j h1 h2 => by simp [h2], ⟨σ.heap, hs.memOnly, fun _ _ h => h, fun j p hj hl => ?_, fun _ _ h => .inl h⟩, fun j hj hl => ?_, fun t x ht _ => hs.env t x ht⟩
  · have : ∀ k, k ≤ ops.size → unl (Array.replicate ops.size false) k = k := by
      intro k
      induction k with
      | zero => intro _; rfl
      | succ k ihk => intro hk; simp only [unl]; rw [ihk (by omega)]; simp [show k < ops.size by omega]
    exact this _ (Nat.le_refl _)
  · exfalso
    by_cases hj : j < ops.size <;> simp [hj] at hl
  · exfalso
    simp [show j < ops.size by omega] at hl
  · exfalso
    simp [show j < ops.size by omega] at hl
/-- A region that draws its order, and ends in a fixed one. -/
def ADC (P : Program) (N : Nat) (w0 : Start) (ops : Array Oper) (H0 : Heap) (Q : Sig → Prop) (l : List Oper) (m : Nat) (σ : Sig) : Prop := ∃ τ, ADsC P N ops H0 (l.take m) σ τ ∧ ARun P N w0 ops Q (l.drop m) τ
theorem AW.anyC (m : Nat) {i : Nat} {l : List Oper} {Q : Exit → Sig → Prop} {σ : Sig} (hm : P.follows .mixedOrders = true) (hle : m ≤ l.length) (hord : ordC .any l.toArray m = true) (h : ADC P N w0 l.toArray σ.heap (fun σ => Q .normal σ) l m σ) : AW P N w0 (.region i l.toArray true) Q σ := by
  intro ρ S a w Q' hQ hs
  obtain ⟨τ, h1, h2⟩ := h
  refine wp_region_any hm ?_
  exact any_orderC (w0 := w0) (by simpa using hle) hord (by simpa using h1) (fun ρ S a w hs' => by simpa using h2 ρ S a w Q' (fun ρ S σ a w hs hq => hQ _ ρ S σ a w hs hq) hs') ρ S a _ (hs.world ((Below.refl _ _).drew))
variable {Q : Sig → Prop} {σ : Sig} {o : Oper} {rest : List Oper} {m : Nat}
theorem ADC.tail {l : List Oper} (h : ARun P N w0 ops Q l σ) : ADC P N w0 ops H0 Q l 0 σ := ⟨σ, .nil, h⟩
theorem ADC.cons {s : SV} {d : Nat} {C : Option (Nat × AObj)} (hp : OpStepC P ops o (Sig.only ⟨σ.env, H0⟩ (o.looksAt ops)) s C) (hC : ∀ p, C = some p → Fr p.1 σ ∧ p.2.Scl) (hm : mentB (σ.heap.map (·.1)) (σ.env.filter fun p => (o.looksAt ops).contains p.1) s = true) (hd : o.dst = some d) (hN : d < N)
    (h : ADC P N w0 ops H0 Q rest m ⟨(d, s) :: σ.env, oH C ++ σ.heap⟩) : ADC P N w0 ops H0 Q (o :: rest) (m + 1) σ :=
  let ⟨τ, h1, h2⟩ := h
  ⟨τ, .cons hd hN hp hC hm h1, h2⟩
theorem ADC.pure {s : SV} {d : Nat} (hp : PureOp P o (Sig.only ⟨σ.env, H0⟩ (o.looksAt ops)) s) (hg : o.guard = none) (hd : o.dst = some d) (hN : d < N) (hm : mentB (σ.heap.map (·.1)) (σ.env.filter fun p => (o.looksAt ops).contains p.1) s = true) (h : ADC P N w0 ops H0 Q rest m (σ.put d s)) : ADC P N w0 ops H0 Q (o :: rest) (m + 1) σ :=
  ADC.cons (hp.fresh.step hg).toC (fun p h => by cases h) hm hd hN h
theorem ADC.fresh {s : SV} {d : Nat} (hp : FreshOp P o (Sig.only ⟨σ.env, H0⟩ (o.looksAt ops)) s) (hg : o.guard = none) (hd : o.dst = some d) (hN : d < N) (hm : mentB (σ.heap.map (·.1)) (σ.env.filter fun p => (o.looksAt ops).contains p.1) s = true) (h : ADC P N w0 ops H0 Q rest m (σ.put d s)) : ADC P N w0 ops H0 Q (o :: rest) (m + 1) σ :=
  ADC.cons (hp.step hg).toC (fun p h => by cases h) hm hd hN h
theorem ADC.gpure {s : SV} {d g t : Nat} {want c : Bool} (hgate : Gate (Sig.only ⟨σ.env, H0⟩ (o.looksAt ops)) t want c) (hp : c = true → PureOp P o (Sig.only ⟨σ.env, H0⟩ (o.looksAt ops)) s) (hg : o.guard = some (g, want)) (hgd : (ops[g]?).bind (·.dst) = some t) (hd : o.dst = some d) (hN : d < N)
    (hm : mentB (σ.heap.map (·.1)) (σ.env.filter fun p => (o.looksAt ops).contains p.1) (.gd c s) = true) (h : ADC P N w0 ops H0 Q rest m (σ.put d (.gd c s))) : ADC P N w0 ops H0 Q (o :: rest) (m + 1) σ :=
  ADC.cons (FreshOp.gstep hgate (fun hc => (hp hc).fresh) hg hgd fun N _ _ _ _ _ _ => by omega).toC (fun p h => by cases h) hm hd hN h
end
end Go.Proofs.YticinemcmgggpabDoor

/-
  A calculus for walks, part 22: make in a drawn region, structs built, rows appended to, loops whose objects are renamed.
-/
namespace Go.Proofs.YticinemcmgggpabDoor
open Go.ChangeShapes Go.WideShapes Go.ChangeAt Go.RowKit Go.BigFrame Go.Deep
set_option linter.unusedVariables false

set_option linter.unusedSimpArgs false
section
variable {P : Program} {N : Nat} {w0 : Start} {σ : Sig} {ops : Array Oper} {rest : List Oper} {o : Oper} {Q : Sig → Prop}
theorem OpStepC.make {t id n by_ : Nat} {m c : Int} {k k' : IntKind} {x y : Operand} {z : Value} {l : List AV} (ho : o.op = .makeSlice t x y) (hz : elemZ P t = some (some z, l.length, by_)) (hl : ∀ ρ w S, RL ρ w S l z.cells.toList)
    (hx : Kn σ x (.one (.int k m))) (hy : Kn σ y (.one (.int k' c))) (hm : m = (n : Int)) (hc : c = (n : Int)) (hn : by_ * n ≤ 281474976710656) (h63 : n ≤ 9223372036854775807) (hsz : 0 < l.length)
    (hf : Fr id σ) (hno : l.all AV.scl = true) (hg : o.guard = none) : OpStepC P ops o σ (.one (.own id l.length n)) (some (id, .arr l.length n fun _ j => l.getD j (.con undef))) := by
  subst hm hc
  constructor
  intro N w0 ρ S a w K Q' hs hK
  rw [if_pos (by simp [Region.wanted, hg])]
  obtain ⟨e, i, hu, hi, hz0, hz1, hz2⟩ := elemZ_spec hz
  have hzl := hl ρ w S
  have hzlen : z.cells.size = l.length := by have := hzl.len; simpa using this
  have hb : Below w.heap.size w (w.alloc (.cells (madeCells z.cells (n * i.size)) e)) := (Below.refl _ _).alloc (Nat.le_refl _) _
  obtain ⟨ρ', e1, e2, e3, hs'⟩ := hs.newA hf (o := .arr l.length n fun _ j => l.getD j (.con undef)) (cs := madeCells z.cells (n * i.size)) (e := e) (cap := n) rfl (by rw [size_madeCells, hz1]; rfl) (Nat.le_refl _) (by unfold maxLen; omega)
    (fun i' j hi' hj => by
      have hj' : j < l.length := hj
      have hi'' : i' < n := hi'
      obtain ⟨u, hu', hr⟩ := hzl.getD hj'
      refine ⟨u, ?_, hr⟩
      show (madeCells z.cells (n * i.size))[i' * l.length + j]? = some u
      have hlt : i' * l.length + j < n * i.size := by
        rw [hz1]
        exact cell_lt hi'' hj'
      have hmod : (i' * l.length + j) % z.cells.size = j := by rw [hzlen, Nat.mul_comm, Nat.mul_add_mod, Nat.mod_eq_of_lt hj']
      have hjz : j < z.cells.size := by rw [hzlen]; exact hj'
      have : z.cells[j]? = some u := by simpa using hu'
      rw [Array.getElem?_eq_getElem hjz] at this
      simp only [madeCells, Array.getElem?_map, Array.getElem?_range, hlt, if_true, Option.map_some, hmod]
      rw [show z.cells[j]! = z.cells[j] from getElem!_pos z.cells j hjz]
      exact this)
    (fun i' j => by
      show (l.getD j (.con undef)).no id = true
      rw [List.getD_eq_getElem?_getD]
      cases hl : l[j]? with
      | none => rfl
      | some x => exact scl_no (List.all_eq_true.1 hno x (List.mem_of_getElem? hl)) id)
  have h1 : a.eval x = .int k (n : Int) := hx.sound hs
  have h2 : a.eval y = .int k' (n : Int) := hy.sound hs
  have hmk := run_make_rowN (P := P) t e i z hu hi hz0 k k' n n (Nat.le_refl _) (by rw [hz2]; exact hn) h63 w
  have hrun : (execOp a.eval o).run P w = .ok (.value (.slice (some ⟨w.heap.size, 0, none⟩) n n)) (w.alloc (.cells (madeCells z.cells (n * i.size)) e)) := by
    generalize a.eval = ev at h1 h2
    simp only [execOp, ho, h1, h2, Sem.run_bind, hmk]
    simp [go_sem]
  unfold Oper.wp
  rw [hrun]
  have hone : ∀ {q : Nat × AObj} {o}, some (id, o) = some q → q.1 = id := fun h => by cases h; rfl
  refine hK _ ρ' S _ (hs.mem.same hb) hb (fun b h => .inl h) e2 (fun k hk => e3 k fun e => hk _ rfl e.symm) (fun p hp _ => ?_) (fun p n' X i' b hp hX => ?_) hs' ?_
  · rw [hone hp, e1]; exact Nat.le_refl _
  · cases hp; cases hX
  · show ∃ A, Value.slice _ _ _ = .slice A n (ρ' id).2 ∧ n ≤ (ρ' id).2 ∧ (ρ' id).2 ≤ maxLen ∧ (A = some ⟨(ρ' id).1, 0, none⟩ ∨ (A = none ∧ (ρ' id).2 = 0))
    rw [e1]
    exact ⟨_, rfl, Nat.le_refl _, by unfold maxLen; omega, .inl rfl⟩
theorem OpStepC.alloc {t id : Nat} {z : Value} {l : List AV} (ho : o.op = .alloc t) (hz : (P.info? t).bind (·.zero) = some z) (hl : ∀ ρ w S, RL ρ w S l z.cells.toList) (hf : Fr id σ) (hn : l.all AV.scl = true) (hg : o.guard = none) : OpStepC P ops o σ (.one (.ptr id l.length 0 0)) (some (id, .cells l)) := by
  constructor
  intro N w0 ρ S a w K Q' hs hK
  rw [if_pos (by simp [Region.wanted, hg])]
  have hzl := hl ρ w S
  have hlen : z.cells.size = l.length := by have := hzl.len; simpa using this
  have hb : Below w.heap.size w (w.alloc (.cells z.cells t)) := (Below.refl _ _).alloc (Nat.le_refl _) _
  obtain ⟨ρ', e1, e2, e3, hs'⟩ := hs.newA hf (o := .cells l) (cs := z.cells) (e := t) (cap := 1) rfl (by simpa [AObj.sz] using hlen) (Nat.le_refl _) (by unfold maxLen; omega) (fun i j hi hj => by
    have hi0 : i = 0 := by have : i < 1 := hi; omega
    subst hi0
    have hj' : j < l.length := hj
    obtain ⟨u, hu, hr⟩ := hzl.get (j := j) (x := l[j]) (List.getElem?_eq_getElem hj')
    refine ⟨u, by simpa using hu, ?_⟩
    show R ρ w S (l.getD j (.con undef)) u
    rw [List.getD_eq_getElem?_getD, List.getElem?_eq_getElem hj']
    exact hr) (by
    show l.all (AV.no id) = true
    rw [List.all_eq_true] at hn ⊢
    exact fun x hx => scl_no (hn x hx) id)
  have hrun : (execOp a.eval o).run P w = .ok (.value (.pointer (some ⟨w.heap.size, 0, none⟩))) (w.alloc (.cells z.cells t)) := by
    generalize a.eval = ev
    cases hi : P.info? t with
    | none => rw [hi] at hz; cases hz
    | some inf =>
      rw [hi] at hz
      have hz' : inf.zero = some z := hz
      simp [execOp, ho, Instr.alloc, newVar, newRow, newObj, go_sem, zeroValue, typeInfo, hi, hz']
      rfl
  unfold Oper.wp
  rw [hrun]
  have hone : ∀ {q : Nat × AObj} {o}, some (id, o) = some q → q.1 = id := fun h => by cases h; rfl
  refine hK _ ρ' S _ (hs.mem.same hb) hb (fun b h => .inl h) e2 (fun k hk => e3 k fun e => hk _ rfl e.symm) (fun p hp _ => ?_) (fun p n' X i' b hp hX => ?_) hs' ?_
  · rw [hone hp, e1]; exact Nat.le_refl _
  · cases hp; cases hX
  · show Value.pointer _ = .pointer (some ⟨(ρ' id).1, 0 * _ + 0, none⟩)
    rw [e1]; simp
/-! Structs built of parts. -/
def placesOf (P : Program) (t : TypeId) : Option (List (Nat × Nat)) :=
  match P.underlying t with
  | some (.struct fs) => fs.toList.mapM fun f => (P.info? f.type).map fun i => (f.offset, i.size)
  | _ => none
theorem RL.set {ρ : Rho} {w : World} {S : Nat → Prop} : ∀ {l : List AV} {us : List Value} {j : Nat} {x : AV} {u : Value}, RL ρ w S l us → R ρ w S x u → RL ρ w S (l.set j x) (us.set j u)
  | [], _, _, _, _, h, _ => by rw [show _ = [] from h]; rfl
  | y :: l, _, 0, _, _, ⟨v, vs, e, h1, h2⟩, hx => by subst e; exact ⟨_, _, rfl, hx, h2⟩
  | y :: l, _, j + 1, _, _, ⟨v, vs, e, h1, h2⟩, hx => by subst e; exact ⟨_, _, rfl, h1, RL.set h2 hx⟩
def setP (pl : List (Nat × Nat)) : List AV → List (Nat × Operand) → List AV → List AV
  | l, (i, _) :: xs, y :: ys => setP pl (l.set ((pl.getD i (0, 0)).1) y) xs ys
  | l, _, _ => l
def KnP (σ : Sig) (pl : List (Nat × Nat)) (n : Nat) : List (Nat × Operand) → List AV → Prop
  | [], [] => True
  | (i, x) :: xs, y :: ys => Kn σ x (.one y) ∧ y.Cell ∧ (match pl[i]? with | some (off, 1) => Nat.blt off n | _ => false) = true ∧ KnP σ pl n xs ys
  | _, _ => False
theorem mapM_opt_run {w : World} : ∀ {fs : List Field} {ps : List (Nat × Nat)}, (fs.mapM fun f => (P.info? f.type).map fun i => (f.offset, i.size)) = some ps → (fs.mapM (fun f => do pure (f.offset, ← sizeOf f.type) : Field → Sem (Nat × Nat))).run P w = .ok ps w
  | [], ps, h => by simp at h; subst h; simp [go_sem]
  | f :: fs, ps, h => by
    simp only [List.mapM_cons, Option.bind_eq_bind, Option.bind_eq_some_iff, Option.pure_def, Option.some.injEq] at h
    obtain ⟨p, hp, qs, hq, rfl⟩ := h
    obtain ⟨i, hi, rfl⟩ := Option.map_eq_some_iff.1 hp
    simp only [List.mapM_cons, Sem.run_bind, run_sizeOf' hi, Result.andThen_ok, Sem.run_pure, mapM_opt_run hq]
theorem fill_run {N : Nat} {w0 : Start} {ρ : Rho} {S : Nat → Prop} {a : Act} {w : World} (hs : St N w0 ρ S σ a w) {pl : List (Nat × Nat)} {n : Nat} : ∀ {xs : List (Nat × Operand)} {ys l : List AV} {cells : Array Value}, KnP σ pl n xs ys → RL ρ w S l cells.toList → cells.size = n →
    ∃ cells', Instr.fill (pl.toArray[·]?) cells (xs.map fun p => (p.1, a.eval p.2)) = some cells' ∧ RL ρ w S (setP pl l xs ys) cells'.toList
  | [], [], l, cells, _, h, _ => ⟨cells, rfl, h⟩
  | (i, x) :: xs, y :: ys, l, cells, ⟨h1, h2, h3, h4⟩, h, hn => by
    have hr : R ρ w S y (a.eval x) := h1.sound hs
    obtain ⟨c1, _, _⟩ := h2.cells hr
    cases hp : pl[i]? with
    | none => rw [hp] at h3; cases h3
    | some p =>
      obtain ⟨off, s⟩ := p
      rw [hp] at h3
      have hs1 : s = 1 ∧ off < n := by
        match s, h3 with
        | 1, h3 => exact ⟨rfl, by simpa [Nat.blt_eq] using h3⟩
        | 0, h3 => cases h3
        | _ + 2, h3 => cases h3
      obtain ⟨rfl, hoff⟩ := hs1
      have hg : pl.getD i (0, 0) = (off, 1) := by rw [List.getD_eq_getElem?_getD, hp]; rfl
      obtain ⟨cells', k1, k2⟩ := fill_run hs (cells := cells.setIfInBounds off (a.eval x)) (l := l.set off y) h4 (by rw [Array.toList_setIfInBounds]; exact RL.set h hr) (by rw [Array.size_setIfInBounds]; exact hn)
      refine ⟨cells', ?_, ?_⟩
      · rw [List.map_cons, Instr.fill]
        simp only [List.getElem?_toArray, hp, c1]
        rw [if_neg (by simp; omega)]
        simpa using k1
      · rw [setP, hg]; exact k2
  | [], _ :: _, _, _, h, _, _ => h.elim
  | _ :: _, [], _, _, h, _, _ => h.elim
theorem PureOp.build {t : TypeId} {xs : List (Nat × Operand)} {ys l l' : List AV} {pl : List (Nat × Nat)} {z : Value} (ho : o.op = .build t xs.toArray) (hpl : placesOf P t = some pl) (hz : (P.info? t).bind (·.zero) = some z) (hl : ∀ ρ w S, RL ρ w S l z.cells.toList) (hk : KnP σ pl l.length xs ys) (hl' : setP pl l xs ys = l') : PureOp P o σ (.agg l') := by
  subst hl'
  refine PureOp.val fun N w0 ρ S a w hs => ?_
  have hzl := hl ρ w S
  have hzlen : z.cells.size = l.length := by have := hzl.len; simpa using this
  obtain ⟨cells', k1, k2⟩ := fill_run hs hk hzl hzlen
  refine ⟨.agg cells', ⟨cells', rfl, k2⟩, fun w' _ => ?_⟩
  unfold placesOf at hpl
  split at hpl
  · rename_i fs hu
    have hm := mapM_opt_run (P := P) (w := w') hpl
    cases hi : P.info? t with
    | none => rw [hi] at hz; cases hz
    | some inf =>
      rw [hi] at hz
      have hz' : inf.zero = some z := hz
      obtain ⟨fl⟩ := fs
      generalize a.eval = ev at k1
      have hmA : (fl.toArray.mapM (fun f => do pure (f.offset, ← sizeOf f.type) : Field → Sem (Nat × Nat))).run P w' = .ok pl.toArray w' := by
        rw [List.mapM_toArray, map_eq_pure_bind, Sem.run_bind, hm]; rfl
      have hzv : (zeroValue t).run P w' = .ok z w' := by simp [zeroValue, typeInfo, hi, hz', go_sem]
      have hu' : P.underlying t = some (.struct fl.toArray) := hu
      simp only [execOp, ho, Instr.build, Sem.run_bind, hzv, Result.andThen_ok, run_underlying hu', hmA, List.map_toArray, k1]
      simp [go_sem]
  · cases hpl
/-! Slices compared with nil, parts of rows. -/
theorem ARun.nilEq {t t' : TypeId} {x : Operand} {d sz n : Nat} {f : Nat → Nat → AV} (ho : o.op = .binOp .eql t x (.const (.slice none 0 0)) t') (hx : Kn σ x (.one (.lst sz n f))) (ht : sliceB P t = true) (hg : o.guard = none) (hd : o.dst = some d) (hN : d < N)
    (h : ∀ b : Bool, (b = true → n = 0) → ARun P N w0 ops Q rest (σ.put d (.one (.bool b)))) : ARun P N w0 ops Q (o :: rest) σ := by
  intro ρ S a w Q' hQ hs
  refine wpList_plain hg fun K hK => ?_
  obtain ⟨A, c, e1, h1, h2, h3, _⟩ := hx.sound hs
  obtain ⟨e, he⟩ := sliceB_spec ht
  have hrun : (execOp a.eval o).run P w = .ok (.value (.bool A.isNone)) w := by
    generalize hev : a.eval = ev at e1
    have hc : ev (.const (.slice none 0 0)) = .slice none 0 0 := by rw [← hev]; rfl
    have := Lib.run_eql_slice_nil (P := P) w t e A n c 0 0 he
    simp only [execOp, ho, e1, hc, Sem.run_bind, eqGuard]
    simp [go_sem]
    rw [this]
    rfl
  unfold Oper.wp
  rw [hrun]
  simp only [Oper.upon, hd]
  refine hK _ _ (h A.isNone (fun hb => ?_) ρ S _ _ Q' hQ (hs.put hN rfl))
  have := h3 (by cases A <;> first | rfl | cases hb)
  omega
end
end Go.Proofs.YticinemcmgggpabDoor

/-
  A calculus for walks, part 23: rows appended to.
-/
namespace Go.Proofs.YticinemcmgggpabDoor
open Go.ChangeShapes Go.WideShapes Go.ChangeAt Go.RowKit Go.BigFrame Go.Deep
set_option linter.unusedVariables false

set_option linter.unusedSimpArgs false
/-- Values of one cell, whatever they read as. -/
def AV.oc : AV → Bool
  | .int _ _ => true
  | .bool _ => true
  | .str _ => true
  | .lst _ _ _ => true
  | .own _ _ _ => true
  | .tre _ _ => true
  | .tl _ _ _ _ => true
  | .con v => v.oneCell'
  | .frs (.lst _ _ _) => true
  | _ => false
theorem AV.oc_r {ρ : Rho} {w : World} {S : Nat → Prop} {x : AV} {u : Value} (h : x.oc = true) (hr : R ρ w S x u) : u.oneCell' = true := by
  cases x with
  | int _ _ => rw [show u = _ from hr]; rfl
  | bool _ => rw [show u = _ from hr]; rfl
  | str _ => rw [hr.1]; rfl
  | lst sz n f => obtain ⟨A, c, e, _⟩ := hr; rw [e]; rfl
  | own id sz n => obtain ⟨A, e, _⟩ := hr; rw [e]; rfl
  | tre id i => obtain ⟨_, _, A, n, c, e⟩ := hr; rw [e]; rfl
  | tl id sz q n => obtain ⟨A, e, _⟩ := hr; rw [e]; rfl
  | cv _ _ => cases h
  | con v => rw [show u = v from hr]; exact h
  | frs x =>
    cases x with
    | lst sz n f => obtain ⟨A, c, e, _⟩ := hr; rw [e]; rfl
    | _ => cases h
  | ref _ _ => cases h
  | ptr _ _ _ _ => cases h
  | fn _ _ _ => cases h
theorem heap_setCells_other {b : Nat} : ∀ {vs : List Value} {o : Nat} {w : World} {k : Nat}, k ≠ b → (w.setCells b o vs).heap[k]? = w.heap[k]?
  | [], _, _, _, _ => rfl
  | v :: r, o, w, k, h => by rw [World.setCells, heap_setCells_other h]; exact Below.heap_setCell _ _ _ _ h
theorem below_setCells {B b : Nat} (hb : B ≤ b) : ∀ {vs : List Value} {o : Nat} {w : World}, Below B w (w.setCells b o vs) ∧ (w.setCells b o vs).heap.size = w.heap.size
  | [], _, w => ⟨Below.refl _ _, rfl⟩
  | v :: r, o, w => by
    obtain ⟨h1, h2⟩ := below_setCells hb (vs := r) (o := o + 1) (w := w.setCell ⟨b, o, none⟩ v)
    rw [World.setCells]
    refine ⟨Below.trans (Below.setCell (Below.refl _ _) hb _) h1, h2.trans ?_⟩
    simp [World.setCell]
theorem heap_setCells_at {b : Nat} {e : TypeId} {fr : Nat × Nat} : ∀ {vs : List Value} {o : Nat} {w : World} {cs : Array Value}, w.heap[b]? = some (.cells cs e fr) → ∃ cs' : Array Value, (w.setCells b o vs).heap[b]? = some (.cells cs' e fr) ∧ cs'.size = cs.size ∧
    (∀ k, k < o → cs'[k]? = cs[k]?) ∧ (∀ j u, vs[j]? = some u → o + j < cs.size → cs'[o + j]? = some u)
  | [], o, w, cs, h => ⟨cs, h, rfl, fun _ _ => rfl, fun j u hj => by simp at hj⟩
  | v :: r, o, w, cs, h => by
    have h1 : (w.setCell ⟨b, o, none⟩ v).heap[b]? = some (.cells (cs.setIfInBounds o v) e fr) := by
      simp [World.setCell, Array.getElem?_modify, h]
    obtain ⟨cs', k1, k2, k3, k4⟩ := heap_setCells_at (vs := r) (o := o + 1) h1
    refine ⟨cs', k1, by rw [k2]; simp, fun k hk => ?_, fun j u hj hlt => ?_⟩
    · rw [k3 k (by omega), Array.getElem?_setIfInBounds, if_neg (by omega)]
    · cases j with
      | zero =>
        simp at hj
        subst hj
        rw [Nat.add_zero, k3 o (by omega), Array.getElem?_setIfInBounds, if_pos rfl, if_pos (by simpa using hlt)]
      | succ j =>
        have := k4 j u (by simpa using hj) (by simp; omega)
        rw [show o + (j + 1) = o + 1 + j by omega]; exact this
section
variable {P : Program} {N : Nat} {w0 : Start} {σ : Sig} {ops : Array Oper} {rest : List Oper} {o : Oper} {Q : Sig → Prop}
/-- A row that is read: of the walk's own, or data. -/
inductive KnR (σ : Sig) (y : Operand) (sz m : Nat) (g : Nat → Nat → AV) : Prop
  | own {id : Nat} {ob : AObj} : Kn σ y (.one (.own id sz m)) → σ.heap.lookup id = some ob → ob.sz = sz → m ≤ ob.n → (∀ i j, i < m → j < sz → ob.f i j = g i j) → KnR σ y sz m g
  | lst : Kn σ y (.one (.lst sz m g)) → KnR σ y sz m g
  | gen : (∀ (N : Nat) (w0 : Start) (ρ : Rho) (S : Nat → Prop) (a : Act) (w : World), St N w0 ρ S σ a w → ∃ A c, a.eval y = .slice A m c ∧ (0 < m → ∃ b off, A = some ⟨b, off, none⟩ ∧ ∀ i j, i < m → j < sz → ∃ u, w.cell? ⟨b, off + (i * sz + j), none⟩ = some u ∧ R ρ w S (g i j) u)) → KnR σ y sz m g
theorem news_of {w : World} {b off n : Nat} (h : ∀ q, q < n → ∃ u, w.cell? ⟨b, off + q, none⟩ = some u) : ∃ news : List Value, news.length = n ∧ ∀ q u, news[q]? = some u → w.cell? ⟨b, off + q, none⟩ = some u := by
  refine ⟨(List.range n).map fun q => (w.cell? ⟨b, off + q, none⟩).getD undef, by simp, fun q u hq => ?_⟩
  have hlt : q < n := by have := (List.getElem?_eq_some_iff.1 hq).1; simpa using this
  obtain ⟨v, hv⟩ := h q hlt
  simp [hlt, hv] at hq
  rw [hv, hq]
theorem KnR.src {ρ : Rho} {S : Nat → Prop} {a : Act} {w : World} {y : Operand} {sz m : Nat} {g : Nat → Nat → AV} (h : KnR σ y sz m g) (hs : St N w0 ρ S σ a w) (hsz : 0 < sz) (hoc : ∀ i j, i < m → j < sz → (g i j).oc = true) {t2 : TypeId} (ht : sliceB P t2 = true) :
    ∃ news : List Value, Src P sz t2 (a.eval y) m news w ∧ ∀ i j, i < m → j < sz → ∃ u, news[i * sz + j]? = some u ∧ R ρ w S (g i j) u := by
  obtain ⟨e', he⟩ := sliceB_spec ht
  have key : ∀ (b off c : Nat), (∀ i j, i < m → j < sz → ∃ u, w.cell? ⟨b, off + (i * sz + j), none⟩ = some u ∧ R ρ w S (g i j) u) → a.eval y = .slice (some ⟨b, off, none⟩) m c →
      ∃ news : List Value, Src P sz t2 (a.eval y) m news w ∧ ∀ i j, i < m → j < sz → ∃ u, news[i * sz + j]? = some u ∧ R ρ w S (g i j) u := by
    intro b off c hc ev
    have hq : ∀ q, q < m * sz → q / sz < m ∧ q % sz < sz ∧ q / sz * sz + q % sz = q := fun q hq => ⟨(Nat.div_lt_iff_lt_mul hsz).2 hq, Nat.mod_lt _ hsz, by rw [Nat.mul_comm]; exact Nat.div_add_mod q sz⟩
    obtain ⟨news, hl, hn⟩ := news_of (w := w) (b := b) (off := off) (n := m * sz) fun q hq' => by
      obtain ⟨h1, h2, h3⟩ := hq q hq'
      obtain ⟨u, hu, _⟩ := hc _ _ h1 h2
      rw [h3] at hu; exact ⟨u, hu⟩
    have hget : ∀ i j, i < m → j < sz → ∃ u, news[i * sz + j]? = some u ∧ R ρ w S (g i j) u := fun i j hi hj => by
      obtain ⟨u, hu, hr⟩ := hc i j hi hj
      have hlt : i * sz + j < news.length := by rw [hl]; exact cell_lt hi hj
      refine ⟨u, ?_, hr⟩
      have := hn _ _ (List.getElem?_eq_getElem hlt)
      rw [hu] at this
      rw [List.getElem?_eq_getElem hlt, this]
    refine ⟨news, ?_, hget⟩
    rw [ev]
    refine Src.ofSlice w he ⟨b, off, none⟩ m c news hl (fun j u hj => by rw [Addr.add_lit]; exact hn j u hj) fun u hu => ?_
    obtain ⟨q, hq1, rfl⟩ := List.mem_iff_getElem.1 hu
    obtain ⟨h1, h2, h3⟩ := hq q (by omega)
    obtain ⟨u', hu', hr⟩ := hget _ _ h1 h2
    rw [h3, List.getElem?_eq_getElem hq1] at hu'
    obtain rfl := Option.some.inj hu'
    exact AV.oc_r (hoc _ _ h1 h2) hr
  have nil : ∀ (A : Option Addr) (c : Nat), m = 0 → a.eval y = .slice A m c → ∃ news : List Value, Src P sz t2 (a.eval y) m news w ∧ ∀ i j, i < m → j < sz → ∃ u, news[i * sz + j]? = some u ∧ R ρ w S (g i j) u := by
    intro A c hm ev
    subst hm
    refine ⟨[], ?_, fun i j hi => absurd hi (by omega)⟩
    rw [ev]
    cases A with
    | none => exact Src.ofNil w he c
    | some ad => exact Src.ofSlice w he ad 0 c [] (by simp) (fun j u hj => by simp at hj) (fun u hu => by cases hu)
  cases h with
  | @own id ob k1 k2 k3 k4 k5 =>
    subst k3
    obtain ⟨A, ev, hn1, hn2, hA⟩ := k1.sound hs
    by_cases hm : m = 0
    · exact nil A _ hm ev
    · have hc : (ρ id).2 ≠ 0 := by omega
      obtain ⟨cs, e, h1, h2, h3, h4, h5, h6, h7⟩ := hs.mem.obj id ob k2 hc
      have hA' : A = some ⟨(ρ id).1, 0, none⟩ := by rcases hA with h | ⟨_, h⟩; (· exact h); (· exact absurd h hc)
      subst hA'
      refine key (ρ id).1 0 _ (fun i j hi hj => ?_) ev
      obtain ⟨u, hu, hr⟩ := h7 i j (by omega) hj
      rw [k5 i j hi hj] at hr
      exact ⟨u, by simp [World.cell?, h1, hu], hr⟩
  | gen k1 =>
    obtain ⟨A, c, ev, h1⟩ := k1 _ _ _ _ _ _ hs
    by_cases hm : m = 0
    · exact nil A c hm ev
    · obtain ⟨b, off, hA, hc⟩ := h1 (by omega)
      subst hA
      exact key b off c hc ev
  | lst k1 =>
    obtain ⟨A, c, ev, h1, h2, h3, h4⟩ := k1.sound hs
    by_cases hm : m = 0
    · exact nil A c hm ev
    · obtain ⟨b, off, hA, _, _⟩ := h4 0 (by omega)
      subst hA
      refine key b off c (fun i j hi hj => ?_) ev
      obtain ⟨b', off', hA', _, hc⟩ := h4 i hi
      cases hA'
      obtain ⟨u, hu, hd⟩ := hc j hj
      exact ⟨u, hu, hd.toR⟩
/-- What is appended to: a row of the walk's own, or nil. -/
inductive KnF (σ : Sig) (x : Operand) (sz n : Nat) (f : Nat → Nat → AV) : Heap → Prop
  | own {id : Nat} {ob : AObj} : Kn σ x (.one (.own id sz n)) → σ.heap.lookup id = some ob → ob.isT = false → ob.sz = sz → n ≤ ob.n → (∀ i j, i < n → j < sz → ob.f i j = f i j) → KnF σ x sz n f (σ.heap.filter fun p => p.1 != id)
  | nil : Kn σ x (.one (.con (.slice none 0 0))) → n = 0 → KnF σ x sz n f σ.heap
theorem filter_lookup {α : Type} {id : Nat} : ∀ {l : List (Nat × α)} {k : Nat} {p : α}, (l.filter fun q => q.1 != id).lookup k = some p → k ≠ id ∧ l.lookup k = some p
  | [], _, _, h => by simp at h
  | (k', q) :: l, k, p, h => by
    by_cases hk : k' = id
    · subst hk
      rw [List.filter_cons_of_neg (by simp)] at h
      obtain ⟨h1, h2⟩ := filter_lookup h
      refine ⟨h1, ?_⟩
      rw [List.lookup_cons, show (k == k') = false by simpa using h1]; exact h2
    · rw [List.filter_cons_of_pos (by simpa using hk)] at h
      rcases lookup_put h with ⟨rfl, rfl⟩ | ⟨hne, h⟩
      · exact ⟨hk, by simp⟩
      · obtain ⟨h1, h2⟩ := filter_lookup h
        refine ⟨h1, ?_⟩
        rw [List.lookup_cons, show (k == k') = false by simpa using hne]; exact h2
theorem KnF.sub {x : Operand} {sz n : Nat} {f : Nat → Nat → AV} {Hn : Heap} (h : KnF σ x sz n f Hn) : ∀ {k p}, Hn.lookup k = some p → σ.heap.lookup k = some p := by
  intro k p hk
  cases h with
  | own => exact (filter_lookup hk).2
  | nil => exact hk
theorem ARun.append {t t2 : TypeId} {x y : Operand} {d id sz n m by_ : Nat} {z : Value} {f g h : Nat → Nat → AV} {Hn : Heap} (ho : o.op = .call { callee := .builtin .append, args := #[x, y], argTypes := #[t, t2] })
    (hz : elemZ P t = some (some z, sz, by_)) (hzc : z.cells.size = sz) (ht : sliceB P t2 = true) (hx : KnF σ x sz n f Hn) (hy : KnR σ y sz m g) (hsz : 0 < sz) (hoc : ∀ i j, i < m → j < sz → (g i j).oc = true)
    (hh : ∀ i j, i < n + m → j < sz → h i j = if i < n then f i j else g (i - n) j) (hlim : (n + m) * by_ ≤ 140737488355328) (h63 : n + m ≤ 9223372036854775807) (hf : Fr id σ) (hno : ∀ i j, (h i j).no id = true)
    (hg : o.guard = none) (hd : o.dst = some d) (hN : d < N) (hk : ARun P N w0 ops Q rest ⟨(d, .one (.own id sz (n + m))) :: σ.env, (id, .arr sz (n + m) h) :: Hn⟩) : ARun P N w0 ops Q (o :: rest) σ := by
  intro ρ S a w Q' hQ hs
  refine wpList_plain hg fun K hK => ?_
  obtain ⟨e, i, hu, hi, hz0, hz1, hz2⟩ := elemZ_spec hz
  subst hz1 hz2
  obtain ⟨news, hsrc, hnews⟩ := hy.src (P := P) hs hsz hoc ht
  have hnl : news.length = m * i.size := hsrc.newsLen
  -- the row that is appended to
  obtain ⟨A, c, b, cs, ev, hnc, hcm, hA, hold, hHn⟩ : ∃ (A : Option Addr) (c b : Nat) (cs : Array Value), a.eval x = .slice A n c ∧ n ≤ c ∧ c ≤ maxLen ∧ (A = some ⟨b, 0, none⟩ ∨ (A = none ∧ c = 0)) ∧
      (c ≠ 0 → (∃ e', w.heap[b]? = some (.cells cs e' (0, 0))) ∧ cs.size = c * i.size ∧ w0.base ≤ b ∧ ¬ S b ∧ b < w.heap.size ∧ ∀ k j, k < n → j < i.size → ∃ u, cs[k * i.size + j]? = some u ∧ R ρ w S (f k j) u) ∧
      (c ≠ 0 → (∀ k p, Hn.lookup k = some p → (ρ k).2 ≠ 0 → (ρ k).1 ≠ b) ∧ ∀ k n' X q b', Hn.lookup k = some (.trees n' X) → q < n' → ρ.tb k q b' → b' ≠ b) := by
    cases hx with
    | @own k ob k1 k2 k3 k4 k5 k6 =>
      obtain ⟨A, ev, q1, q2, q3⟩ := k1.sound hs
      by_cases hc : (ρ k).2 = 0
      · exact ⟨A, _, (ρ k).1, #[], ev, q1, q2, q3, fun h => absurd hc h, fun h => absurd hc h⟩
      · obtain ⟨cs, e', h1, h2, h3, h4, h5, h6, h7⟩ := hs.mem.obj k ob k2 hc
        refine ⟨A, _, (ρ k).1, cs, ev, q1, q2, q3, fun _ => ⟨⟨e', h1⟩, by rw [← k4]; exact h2, h5, h6, hs.mem.blk k2 hc, fun r j hr hj => ?_⟩, fun _ => ⟨fun k' p hp hc' => ?_, fun k' n' X q b' hX hq hb' e => ?_⟩⟩
        · obtain ⟨u, hu, hru⟩ := h7 r j (by omega) (by rw [k4]; exact hj)
          rw [k6 r j hr hj, k4] at *
          exact ⟨u, hu, hru⟩
        · obtain ⟨g1, g2⟩ := filter_lookup hp
          exact hs.mem.inj k' k p ob g2 k2 g1 hc' hc
        · obtain ⟨g1, g2⟩ := filter_lookup hX
          exact ((hs.mem.tree k' n' X g2 q hq).2 b' hb').2.2.2.1 k ob k2 hc e.symm
    | nil k1 k2 =>
      have ev : a.eval x = .slice none 0 0 := k1.sound hs
      exact ⟨none, 0, 0, #[], by rw [ev, k2], by omega, by decide, .inr ⟨rfl, rfl⟩, fun h => absurd rfl h, fun h => absurd rfl h⟩
  have hHsub : ∀ {k p}, Hn.lookup k = some p → σ.heap.lookup k = some p := fun hk => hx.sub hk
  have fin : ∀ (v : Value) (w' : World) (ρ' : Rho), (Builtin.append_ #[t, t2] o.type #[a.eval x, a.eval y]).run P w = .ok v w' → St N w0 ρ' S ⟨σ.env, (id, .arr i.size (n + m) h) :: Hn⟩ a w' → R ρ' w' S (.own id i.size (n + m)) v → o.wp P a w K Q' := by
    intro v w' ρ' hrun hst hv
    have hr2 : (execOp a.eval o).run P w = .ok (.value v) w' := by
      generalize a.eval = ev at hrun
      simp only [execOp, ho, resolve, Sem.run_bind, Sem.run_pure, Result.andThen_ok, invoke, builtin, List.map_toArray, List.map_cons, List.map_nil, Array.empty_append, hrun]
    unfold Oper.wp
    rw [hr2]
    simp only [Oper.upon, hd]
    exact hK _ _ (hk ρ' S _ _ Q' hQ (hst.put hN hv))
  by_cases hroom : n + m ≤ c
  · -- there is room
    by_cases hc0 : c = 0
    · -- nothing at all
      obtain ⟨rfl, rfl⟩ : n = 0 ∧ m = 0 := by omega
      have hnews0 : news = [] := List.eq_nil_of_length_eq_zero (by rw [hnl]; omega)
      subst hnews0
      subst hc0
      obtain ⟨ρ', e1, hs'⟩ := hs.phantomAt b hf i.size h
      have hrun : (Builtin.append_ #[t, t2] o.type #[a.eval x, a.eval y]).run P w = .ok (.slice A 0 0) w := by
        rw [ev]
        have hcl := hsrc.cells
        have hln := hsrc.len w
        generalize a.eval y = vy at hcl hln
        rcases hsrc.kind with ⟨e', hk⟩ | hk <;> rcases hA with rfl | ⟨rfl, _⟩ <;> simp [Builtin.append_, run_underlying hu, run_underlying hk, sizeOf, typeInfo, hi, hln, hcl, storeCells]
      refine fin _ w ρ' hrun ⟨hs'.size, hs'.defers, hs'.below, hs'.mem.le' fun k p hp => ?_, hs'.env⟩ ?_
      · rcases lookup_put hp with ⟨rfl, rfl⟩ | ⟨hne, hp⟩
        · exact HLe.refl (by simp [Sig.set])
        · exact HLe.refl (by simp only [Sig.set]; rw [List.lookup_cons, show (k == id) = false by simpa using hne]; exact hHsub hp)
      · show ∃ B, Value.slice A 0 0 = .slice B 0 (ρ' id).2 ∧ 0 ≤ (ρ' id).2 ∧ (ρ' id).2 ≤ maxLen ∧ (B = some ⟨(ρ' id).1, 0, none⟩ ∨ (B = none ∧ (ρ' id).2 = 0))
        rw [e1]
        exact ⟨A, rfl, Nat.le_refl _, Nat.zero_le _, hA⟩
    · obtain ⟨⟨e', hblk⟩, hcsz, hbb, hbS, hblt, hcells⟩ := hold hc0
      obtain ⟨hn1, hn2⟩ := hHn hc0
      have hA' : A = some ⟨b, 0, none⟩ := by rcases hA with h | ⟨_, h⟩; (· exact h); (· exact absurd h hc0)
      subst hA'
      have hin : ∀ j, j < news.length → n * i.size + j < cs.size := fun j hj => by
        rw [hnl] at hj
        have : (n + m) * i.size ≤ c * i.size := Nat.mul_le_mul_right _ hroom
        rw [Nat.add_mul] at this
        omega
      have hrun := run_append_room_src (P := P) w t t2 o.type e i hu hi b 0 n c (a.eval y) m news hsrc hroom (fun j hj => by
          have := hin j hj
          simp [World.cell?, hblk, this]) (fun j hj => by simp [World.frozen?, hblk])
      simp only [Nat.zero_add] at hrun
      obtain ⟨hb1, hb2⟩ := below_setCells hbb (vs := news) (o := n * i.size) (w := w)
      obtain ⟨cs', g1, g2, g3, g4⟩ := heap_setCells_at (vs := news) (o := n * i.size) hblk
      have hother : ∀ k, k ≠ b → (w.setCells b (n * i.size) news).heap[k]? = w.heap[k]? := fun k hk => heap_setCells_other hk
      have hsame : Same S w S (w.setCells b (n * i.size) news) := ⟨fun _ h => h, fun k hk => hother k fun e => hbS (e ▸ hk)⟩
      refine fin _ _ ⟨fun k => if k = id then (b, c) else ρ k, ρ.base, ρ.tv, ρ.tb, ρ.tn⟩ (by rw [ev]; exact hrun) ?_ ?_
      · have hρ : ∀ k, k ≠ id → (if k = id then (b, c) else ρ k) = ρ k := fun k hk => if_neg hk
        have hρA : ∀ k, k ≠ id → Rho.At ρ ⟨fun k => if k = id then (b, c) else ρ k, ρ.base, ρ.tv, ρ.tb, ρ.tn⟩ k := fun k hk => ⟨hρ k hk, rfl, rfl, rfl⟩
        have hkeep : ∀ {x : AV} {u : Value}, x.no id = true → R ρ w S x u → R ⟨fun k => if k = id then (b, c) else ρ k, ρ.base, ρ.tv, ρ.tb, ρ.tn⟩ (w.setCells b (n * i.size) news) S x u := fun {x u} hx hr => hr.keep (ρ := ρ) hsame ⟨rfl, fun q => by
          by_cases hq : q = id
          · subst hq; exact .inr hx
          · exact .inl (hρA q hq)⟩
        refine ⟨hs.size, hs.defers, ⟨hs.below.old.trans hb1, hs.below.same.trans hsame, fun k hk => (hs.below.ids k hk).trans (hρA k (fun e => by have := hf.small; omega))⟩, ⟨hs.mem.base, by rw [hb2]; exact hs.mem.low, fun k hk => by rw [hb2]; exact hs.mem.lt k hk, ?_, ?_, ?_, ?_⟩, fun t s ht => (hs.env t s ht).keep (ρ := ρ) hsame ⟨rfl, fun q => by
          by_cases hq : q = id
          · subst hq; exact .inr (List.all_eq_true.1 hf.env _ (lookup_mem ht))
          · exact .inl (hρA q hq)⟩⟩
        · intro k p hp
          rcases lookup_put hp with ⟨rfl, rfl⟩ | ⟨hne, hp⟩
          · simpa [AObj.n] using hroom
          · simp only [hρ k hne]; exact hs.mem.cap k p (hHsub hp)
        · intro k p hp hc
          rcases lookup_put hp with ⟨rfl, rfl⟩ | ⟨hne, hp⟩
          · simp only [if_true]
            refine ⟨cs', e', g1, by rw [g2]; exact hcsz, hroom, hcm, hbb, hbS, fun r j hr hj => ?_⟩
            have hr : r < n + m := hr
            have hj : j < i.size := hj
            show ∃ u, cs'[r * i.size + j]? = some u ∧ R _ _ S (h r j) u
            have hnn := hno r j
            rw [hh r j hr hj] at hnn ⊢
            by_cases hrn : r < n
            · rw [if_pos hrn] at hnn ⊢
              obtain ⟨u, hu1, hr1⟩ := hcells r j hrn hj
              exact ⟨u, by rw [g3 _ (cell_lt hrn hj)]; exact hu1, hkeep hnn hr1⟩
            · rw [if_neg hrn] at hnn ⊢
              obtain ⟨u, hu1, hr1⟩ := hnews (r - n) j (by omega) hj
              have hq : n * i.size + ((r - n) * i.size + j) = r * i.size + j := by
                rw [← Nat.add_assoc, ← Nat.add_mul]
                rw [show n + (r - n) = r by omega]
              have := g4 _ u hu1 (hin _ (List.getElem?_eq_some_iff.1 hu1).1)
              rw [hq] at this
              exact ⟨u, this, hkeep hnn hr1⟩
          · obtain ⟨_, hno'⟩ := hf.heap.get (hHsub hp)
            simp only [hρ k hne] at hc ⊢
            obtain ⟨cs2, e2, q1, q2, q3, q4, q5, q6, q7⟩ := hs.mem.obj k p (hHsub hp) hc
            refine ⟨cs2, e2, by rw [hother _ (hn1 k p hp hc)]; exact q1, q2, q3, q4, q5, q6, fun r j hr hj => ?_⟩
            obtain ⟨u, hu1, hr1⟩ := q7 r j hr hj
            exact ⟨u, hu1, hkeep (hno'.at_ r j) hr1⟩
        · intro k k' p p' hp hp' hne hc hc'
          rcases lookup_put hp with ⟨rfl, rfl⟩ | ⟨q1, hp2⟩ <;> rcases lookup_put hp' with ⟨rfl, rfl⟩ | ⟨q2, hp2'⟩
          · exact absurd rfl hne
          · simp only [hρ k' q2] at hc'
            simp only [if_true, hρ k' q2]
            exact fun e => hn1 k' p' hp2' hc' e.symm
          · simp only [hρ k q1] at hc
            simp only [if_true, hρ k q1]
            exact hn1 k p hp2 hc
          · simp only [hρ k q1] at hc
            simp only [hρ k' q2] at hc'
            simp only [hρ k q1, hρ k' q2]
            exact hs.mem.inj k k' p p' (hHsub hp2) (hHsub hp2') hne hc hc'
        · have hmn : MemOk w0.base ρ S Hn w := hs.mem.le' fun k p hp => HLe.refl (hHsub hp)
          refine hmn.treeOf (Nat.le_refl _) (fun k n' X hX => ?_) (fun k n' X q b' hX hq hb' => ?_) (fun k p hp hc => ?_)
          · rcases lookup_put hX with ⟨rfl, e⟩ | ⟨hne, hX⟩
            · cases e
            · exact ⟨X, hX, fun _ _ => rfl, rfl, rfl, rfl⟩
          · obtain ⟨q1, q2, q3, _⟩ := (hmn.tree k n' X hX q hq).2 b' hb'
            exact ⟨hother b' (hn2 k n' X q b' hX hq hb'), by rw [hb2]; exact q2, q3⟩
          · rcases lookup_put hp with ⟨rfl, rfl⟩ | ⟨hne, hp⟩
            · refine .inr fun k2 n' X q hX hq hb' => ?_
              simp only [if_true] at hb'
              exact hn2 k2 n' X q b hX hq hb' rfl
            · exact .inl ⟨p, hp, hρ k hne⟩
      · show ∃ A, Value.slice _ _ _ = .slice A (n + m) (if id = id then (b, c) else ρ id).2 ∧ _
        simp only [if_true]
        exact ⟨_, rfl, hroom, hcm, .inl rfl⟩
  · -- a new row
    have hold2 : ∃ olds : List Value, (Builtin.firstCells i.size n (.slice A n c)).run P w.drew = .ok olds.toArray w.drew ∧ olds.length = n * i.size ∧ ∀ k j, k < n → j < i.size → ∃ u, olds[k * i.size + j]? = some u ∧ R ρ w S (f k j) u := by
      by_cases hn0 : n = 0
      · subst hn0
        refine ⟨[], ?_, by simp, fun k j hk => absurd hk (by omega)⟩
        rcases hA with rfl | ⟨rfl, _⟩
        · exact run_firstCells_some w.drew i.size 0 _ 0 c [] (by simp) (fun j u hj => by simp at hj)
        · exact run_firstCells_none w.drew i.size 0 0 c
      · have hc0 : c ≠ 0 := by omega
        obtain ⟨⟨e', hblk⟩, hcsz, hbb, hbS, hblt, hcells⟩ := hold hc0
        have hA' : A = some ⟨b, 0, none⟩ := by rcases hA with h | ⟨_, h⟩; (· exact h); (· exact absurd h hc0)
        subst hA'
        have hle : n * i.size ≤ cs.size := by rw [hcsz]; exact Nat.mul_le_mul_right _ hnc
        refine ⟨cs.toList.take (n * i.size), run_firstCells_some w.drew i.size n _ n c _ (by simp; omega) (fun j u hj => ?_), by simp; omega, fun k j hk hj => ?_⟩
        · rw [List.getElem?_take] at hj
          split at hj
          · rw [Addr.add_lit]
            have : cs[j]? = some u := by simpa using hj
            show w.cell? ⟨b, 0 + j, none⟩ = some u
            simp [World.cell?, hblk, this]
          · cases hj
        · obtain ⟨u, hu1, hr1⟩ := hcells k j hk hj
          refine ⟨u, ?_, hr1⟩
          rw [List.getElem?_take, if_pos (cell_lt hk hj)]
          simpa using hu1
    obtain ⟨olds, ho1, ho2, ho3⟩ := hold2
    have hrun := run_append_grow_src (P := P) w t t2 o.type e i z hu hi hz0 A n c olds ho1 (a.eval y) m news hsrc (by omega) (by omega) (growslice_fits (by omega) hlim)
    have hsw := hs.world (w' := w.drew) ((Below.refl _ _).drew)
    have hcapge := grownCap_ge w (n + m) c e
    have hcaple := grownCap_le_maxLen w (n + m) c e (by unfold maxLen; omega)
    generalize hcap : grownCap w (n + m) c e = cap' at hrun hcapge hcaple
    have hcsz : ((olds ++ news).toArray ++ Builtin.zeroCells z.cells (cap' - (n + m))).size = cap' * i.size := by
      rw [Array.size_append, size_zeroCells, hzc]
      simp only [List.size_toArray, List.length_append, ho2, hnl]
      rw [← Nat.add_mul, ← Nat.add_mul]
      congr 1; omega
    obtain ⟨ρ', e1, e2, e3, hs'⟩ := hsw.newA hf (o := .arr i.size (n + m) h) (cs := (olds ++ news).toArray ++ Builtin.zeroCells z.cells (cap' - (n + m))) (e := e) (cap := cap') rfl hcsz hcapge hcaple (fun r j hr hj => by
      have hr : r < n + m := hr
      have hj : j < i.size := hj
      show ∃ u, ((olds ++ news).toArray ++ Builtin.zeroCells z.cells (cap' - (n + m)))[r * i.size + j]? = some u ∧ R ρ w.drew S (h r j) u
      have hlt : r * i.size + j < (olds ++ news).length := by
        rw [List.length_append, ho2, hnl, ← Nat.add_mul]; exact cell_lt hr hj
      rw [Array.getElem?_append_left (by simpa using hlt), hh r j hr hj]
      have hkeep : ∀ {x : AV} {u : Value}, R ρ w S x u → R ρ w.drew S x u := fun hr => hr.keep (hs.mem.same ((Below.refl _ _).drew)) (Rn.refl _ _)
      by_cases hrn : r < n
      · rw [if_pos hrn]
        obtain ⟨u, hu1, hr1⟩ := ho3 r j hrn hj
        refine ⟨u, ?_, hkeep hr1⟩
        simp only [List.getElem?_toArray]
        rw [List.getElem?_append_left (by rw [ho2]; exact cell_lt hrn hj)]; exact hu1
      · rw [if_neg hrn]
        obtain ⟨u, hu1, hr1⟩ := hnews (r - n) j (by omega) hj
        refine ⟨u, ?_, hkeep hr1⟩
        have hq : n * i.size + ((r - n) * i.size + j) = r * i.size + j := by
          rw [← Nat.add_assoc, ← Nat.add_mul]
          rw [show n + (r - n) = r by omega]
        simp only [List.getElem?_toArray]
        rw [List.getElem?_append_right (by rw [ho2]; omega), ho2, show r * i.size + j - n * i.size = (r - n) * i.size + j by omega]; exact hu1) hno
    refine fin _ _ ρ' (by rw [ev]; exact hrun) ?_ ?_
    · refine ⟨hs'.size, hs'.defers, hs'.below, hs'.mem.le' fun k p hp => ?_, hs'.env⟩
      rcases lookup_put hp with ⟨rfl, rfl⟩ | ⟨hne, hp⟩
      · exact HLe.refl (by simp [Sig.set])
      · exact HLe.refl (by simp only [Sig.set]; rw [List.lookup_cons, show (k == id) = false by simpa using hne]; exact hHsub hp)
    · show ∃ A, Value.slice _ _ _ = .slice A (n + m) (ρ' id).2 ∧ n + m ≤ (ρ' id).2 ∧ (ρ' id).2 ≤ maxLen ∧ (A = some ⟨(ρ' id).1, 0, none⟩ ∨ (A = none ∧ (ρ' id).2 = 0))
      rw [e1]
      exact ⟨_, rfl, hcapge, hcaple, .inl rfl⟩
end
end Go.Proofs.YticinemcmgggpabDoor

/-
  A calculus for walks, part 24: slice literals of one element; loops whose objects are renamed.
-/
namespace Go.Proofs.YticinemcmgggpabDoor
open Go.ChangeShapes Go.WideShapes Go.ChangeAt Go.RowKit Go.BigFrame Go.Deep
set_option linter.unusedVariables false

set_option linter.unusedSimpArgs false
theorem foldl_set : ∀ (l : List Value) (k : Nat) (a : Array Value), ((l.zipIdx k).foldl (fun cs (p : Value × Nat) => cs.setIfInBounds (0 + p.2) p.1) a).size = a.size ∧ ∀ q, q < a.size → ((l.zipIdx k).foldl (fun cs (p : Value × Nat) => cs.setIfInBounds (0 + p.2) p.1) a)[q]? = if k ≤ q ∧ q < k + l.length then l[q - k]? else a[q]?
  | [], k, a => ⟨rfl, fun q _ => by rw [if_neg (by simp only [List.length_nil]; omega)]; rfl⟩
  | v :: l, k, a => by
    obtain ⟨h1, h2⟩ := foldl_set l (k + 1) (a.setIfInBounds (0 + k) v)
    rw [List.zipIdx_cons, List.foldl_cons]
    refine ⟨by rw [h1]; simp, fun q hq => ?_⟩
    rw [h2 q (by simpa using hq)]
    by_cases hqk : q = k
    · subst hqk
      rw [if_neg (by omega)]; simp [hq]
    · by_cases hin : k + 1 ≤ q ∧ q < k + 1 + l.length
      · rw [if_pos hin, if_pos (by simp; omega), show q - k = (q - (k + 1)) + 1 by omega]; rfl
      · rw [if_neg hin, if_neg (by simp; omega), Array.getElem?_setIfInBounds, if_neg (by omega)]
theorem fill_one {zero cs : Array Value} {sz : Nat} {v : Value} (hv : v.cells = cs) (h1 : cs.size = sz) (h2 : zero.size = sz) : Instr.fill (fun i => some (i * sz, sz)) zero [(0, v)] = some cs := by
  subst hv
  rw [Instr.fill]
  simp only [Nat.zero_mul, Nat.zero_add]
  rw [if_neg (by simp; omega), Instr.fill]
  congr 1
  have e : v.cells.zipIdx.foldl (fun cs (x : Value × Nat) => match x with | (c, j) => cs.setIfInBounds j c) zero = (v.cells.toList.zipIdx 0).foldl (fun cs (p : Value × Nat) => cs.setIfInBounds (0 + p.2) p.1) zero := by
    rw [← Array.foldl_toList, Array.toList_zipIdx]
    simp only [Nat.zero_add]
  obtain ⟨k1, k2⟩ := foldl_set v.cells.toList 0 zero
  refine Eq.trans e (Array.ext (by rw [k1, h2, h1]) fun q hq1 hq2 => ?_)
  have hq : q < zero.size := by rw [k1] at hq1; exact hq1
  have := k2 q hq
  rw [if_pos ⟨Nat.zero_le _, by simp; omega⟩, Array.getElem?_eq_getElem hq1] at this
  simp only [Nat.sub_zero] at this
  have h3 : v.cells.toList[q]? = some v.cells[q] := by simp [hq2]
  rw [h3] at this
  exact Option.some.inj this
section
variable {P : Program} {N : Nat} {w0 : Start} {σ : Sig} {ops : Array Oper} {rest : List Oper} {o : Oper} {Q : Sig → Prop}
theorem ARun.slice1 {t d id sz by_ : Nat} {x : Operand} {s : SV} {z : Value} (ho : o.op = .buildSlice t 1 #[(0, x)]) (hx : Kn σ x s) (hc : s.Cells) (hz : elemZ P t = some (some z, sz, by_)) (hzc : z.cells.size = sz) (hlen : s.cs.length = sz) (hsz : 0 < sz) (hbig : sz ≤ 16777216)
    (hf : Fr id σ) (hno : s.cs.all (AV.no id) = true) (hg : o.guard = none) (hd : o.dst = some d) (hN : d < N)
    (h : ARun P N w0 ops Q rest ((σ.set id (.arr sz 1 fun _ j => s.cs.getD j (.con undef))).put d (.one (.own id sz 1)))) : ARun P N w0 ops Q (o :: rest) σ := by
  intro ρ S a w Q' hQ hs
  refine wpList_plain hg fun K hK => ?_
  obtain ⟨e, i, hu, hi, hz0, hz1, hz2⟩ := elemZ_spec hz
  subst hz1
  have hrl := hc.rl (hx.sound hs)
  have hcl : (a.eval x).cells.size = i.size := by have := hrl.len; rw [hlen] at this; simpa using this
  have hrun : (execOp a.eval o).run P w = .ok (.value (.slice (some ⟨w.heap.size, 0, none⟩) 1 1)) (w.alloc (.cells (a.eval x).cells e)) := by
    have hfl := fill_one (zero := (Array.range (1 * i.size)).map (z.cells[· % z.cells.size]!)) (v := a.eval x) rfl hcl (by simp)
    have := Go.run_buildSlice (P := P) w t e 1 #[(0, a.eval x)] (a.eval x).cells i z hu hi hz0 (by omega) (by omega) (by simpa using hfl)
    generalize a.eval = ev at this
    simp only [execOp, ho, Sem.run_bind, List.map_toArray, List.map_cons, List.map_nil, this, Result.andThen_ok]
    simp [go_sem]
  obtain ⟨ρ', e1, hs'⟩ := hs.new hf (o := .arr i.size 1 fun _ j => s.cs.getD j (.con undef)) (cs := (a.eval x).cells) (e := e) (cap := 1) rfl (by rw [hcl]; show _ = 1 * i.size; omega) (Nat.le_refl _) (by unfold maxLen; omega) (fun r j hr hj => by
    have hr0 : r = 0 := by have : r < 1 := hr; omega
    subst hr0
    have hj' : j < s.cs.length := by rw [hlen]; exact hj
    obtain ⟨u, hu1, hr1⟩ := hrl.getD hj'
    exact ⟨u, by simpa [AObj.sz] using hu1, hr1⟩) (fun r j => getD_no hno)
  unfold Oper.wp
  rw [hrun]
  simp only [Oper.upon, hd]
  refine hK _ _ (h ρ' S _ _ Q' hQ (hs'.put hN ?_))
  show ∃ A, Value.slice _ _ _ = .slice A 1 (ρ' id).2 ∧ 1 ≤ (ρ' id).2 ∧ (ρ' id).2 ≤ maxLen ∧ (A = some ⟨(ρ' id).1, 0, none⟩ ∨ (A = none ∧ (ρ' id).2 = 0))
  rw [e1]
  exact ⟨_, rfl, Nat.le_refl _, by unfold maxLen; omega, .inl rfl⟩
end
/-! Renaming. -/
def AObj.ren (g : Nat → Nat) : AObj → AObj
  | .cells l => .cells (l.map (AV.ren g))
  | .arr sz n f => .arr sz n fun i j => (f i j).ren g
  | .trees n X => .trees n X
def Sig.ren (σ : Sig) (g : Nat → Nat) : Sig := ⟨σ.env.map fun p => (p.1, p.2.ren g), σ.heap.map fun p => (g p.1, p.2.ren g)⟩
theorem AObj.ren_f {g : Nat → Nat} (o : AObj) (i j : Nat) : (o.ren g).f i j = (o.f i j).ren g := by
  cases o with
  | cells l =>
    show (l.map (AV.ren g)).getD j (.con undef) = (l.getD j (.con undef)).ren g
    rw [List.getD_eq_getElem?_getD, List.getD_eq_getElem?_getD, List.getElem?_map]
    cases l[j]? <;> rfl
  | arr _ _ _ => rfl
  | trees _ _ => rfl
theorem AObj.ren_n {g : Nat → Nat} (o : AObj) : (o.ren g).n = o.n := by cases o <;> rfl
theorem AObj.ren_sz {g : Nat → Nat} (o : AObj) : (o.ren g).sz = o.sz := by
  cases o with
  | cells l => simp [AObj.ren, AObj.sz]
  | _ => rfl
theorem ren_lookupH {g : Nat → Nat} (hg : ∀ a b, g a = g b → a = b) : ∀ {H : Heap} {id : Nat} {o : AObj}, H.lookup id = some o → (H.map fun p => (g p.1, p.2.ren g)).lookup (g id) = some (o.ren g)
  | [], _, _, h => by simp at h
  | (k, p) :: H, id, o, h => by
    rcases lookup_put h with ⟨rfl, rfl⟩ | ⟨hne, h⟩
    · simp
    · rw [List.map_cons, List.lookup_cons, show (g id == g k) = false by simpa using fun e => hne (hg _ _ e)]
      exact ren_lookupH hg h
theorem ren_lookupE {g : Nat → Nat} : ∀ {E : Env} {t : Nat} {s : SV}, E.lookup t = some s → (E.map fun p => (p.1, p.2.ren g)).lookup t = some (s.ren g)
  | [], _, _, h => by simp at h
  | (k, p) :: E, t, s, h => by
    rcases lookup_put h with ⟨rfl, rfl⟩ | ⟨hne, h⟩
    · simp
    · rw [List.map_cons, List.lookup_cons, show (t == k) = false by simpa using hne]
      exact ren_lookupE h
theorem St.ren {N : Nat} {w0 : Start} {ρ : Rho} {S : Nat → Prop} {σ : Sig} {a : Act} {w : World} {g : Nat → Nat} (hg : ∀ a b, g a = g b → a = b) (hfix : ∀ id, 1000000 ≤ id → g id = id) (hs : St N w0 ρ S (σ.ren g) a w) : St N w0 (ρ.ren g) S σ a w := by
  have hb : (ρ.ren g).base = ρ.base := rfl
  refine ⟨hs.size, hs.defers, ⟨hs.below.old, hs.below.same, fun id hid => ?_⟩, ⟨hs.mem.base, hs.mem.low, hs.mem.lt, fun id o ho => ?_, fun id o ho hc => ?_, fun id id' o o' ho ho' hne hc hc' => ?_, fun id n X hX => ?_⟩, fun t s ht => RS.ren (hs.env t _ (ren_lookupE ht))⟩
  · have h := hs.below.ids id hid
    have e := hfix id hid
    exact ⟨by show ρ.m (g id) = _; rw [e]; exact h.m, by show ρ.tv (g id) = _; rw [e]; exact h.v, by show ρ.tb (g id) = _; rw [e]; exact h.b, by show ρ.tn (g id) = _; rw [e]; exact h.n⟩
  · have := hs.mem.cap (g id) _ (ren_lookupH hg ho)
    rw [AObj.ren_n] at this; exact this
  · obtain ⟨cs, e, h1, h2, h3, h4, h5, h6, h7⟩ := hs.mem.obj (g id) _ (ren_lookupH hg ho) hc
    rw [AObj.ren_sz] at h2
    rw [AObj.ren_n] at h3
    refine ⟨cs, e, h1, h2, h3, h4, h5, h6, fun i j hi hj => ?_⟩
    obtain ⟨u, hu, hr⟩ := h7 i j (by rw [AObj.ren_n]; exact hi) (by rw [AObj.ren_sz]; exact hj)
    rw [AObj.ren_sz] at hu
    rw [AObj.ren_f] at hr
    exact ⟨u, hu, R.ren hr⟩
  · exact hs.mem.inj (g id) (g id') _ _ (ren_lookupH hg ho) (ren_lookupH hg ho') (fun e => hne (hg _ _ e)) hc hc'
  · obtain ⟨t1, t2⟩ := hs.mem.tree0 (g id) n X (ren_lookupH hg hX)
    refine ⟨t1, fun i hi => ⟨(t2 i hi).1, fun b hb => ?_⟩⟩
    obtain ⟨q1, q2, q3, q4, q5⟩ := (t2 i hi).2 b hb
    exact ⟨q1, q2, q3, fun id' o ho hc => q4 (g id') _ (ren_lookupH hg ho) hc, fun id' n' X' i' hX' hi' hne => q5 (g id') n' X' i' (ren_lookupH hg hX') hi' (fun e => hne ⟨hg _ _ e.1, e.2⟩)⟩
def LoopQR (Q : Exit → Sig → Prop) {ι : Type} (L : ι → Sig) (I : ι → Prop) (μ : ι → Nat) (i : ι) : Exit → Sig → Prop
  | .normal, σ => ∃ i' g, I i' ∧ μ i' < μ i ∧ (∀ a b, g a = g b → a = b) ∧ (∀ id, 1000000 ≤ id → g id = id) ∧ SigLe σ ((L i').ren g)
  | e, σ => Q e σ
theorem AW.loopR {P : Program} {N : Nat} {w0 : Start} {σ : Sig} {Q : Exit → Sig → Prop} {ι : Type} {c : Code} (L : ι → Sig) (I : ι → Prop) (μ : ι → Nat) (i0 : ι) (h0 : I i0) (hl : SigLe σ (L i0)) (hb : ∀ i, I i → AW P N w0 c (LoopQR Q L I μ i) (L i)) : AW P N w0 (.loop c) Q σ := by
  intro ρ S a w Q' hQ hs
  let p : Act → World → Nat → Prop := fun a w n => ∃ i ρ S, I i ∧ St N w0 ρ S (L i) a w ∧ μ i = n
  refine wp_loop (fun a w => ∃ n, p a w n) (fun a w => minOf (p a w)) ⟨_, i0, ρ, S, h0, hs.le hl, rfl⟩ fun a w hI => ?_
  obtain ⟨⟨i, ρ, S, hi, hst, hn⟩, hmin⟩ := minOf_spec hI
  refine hb i hi ρ S a w _ (fun e ρ' S' σ' a' w' hs' hq => ?_) hst
  cases e
  case normal =>
    obtain ⟨i', g, hi', hlt, hg, hfix, hle⟩ := hq
    have hp : p a' w' (μ i') := ⟨i', _, S', hi', St.ren hg hfix (hs'.le hle), rfl⟩
    refine ⟨⟨_, hp⟩, ?_⟩
    have := (minOf_spec ⟨_, hp⟩).2 _ hp
    omega
  all_goals exact hQ _ ρ' S' σ' a' w' hs' hq
def swp (a b k : Nat) : Nat := if k = a then b else if k = b then a else k
theorem swp_inj {a b : Nat} : ∀ x y, swp a b x = swp a b y → x = y := by
  intro x y h
  unfold swp at h
  split at h <;> split at h <;> (try split at h) <;> (try split at h) <;> omega
theorem swp_fix {a b : Nat} (ha : Nat.blt a 1000000 = true) (hb : Nat.blt b 1000000 = true) : ∀ id, 1000000 ≤ id → swp a b id = id := by
  intro id hid
  rw [Nat.blt_eq] at ha hb
  unfold swp
  rw [if_neg (by omega), if_neg (by omega)]
theorem id_inj : ∀ x y : Nat, id x = id y → x = y := fun _ _ h => h
theorem comp_inj {f g : Nat → Nat} (hf : ∀ x y, f x = f y → x = y) (hg : ∀ x y, g x = g y → x = y) : ∀ x y, f (g x) = f (g y) → x = y := fun _ _ h => hg _ _ (hf _ _ h)
theorem comp_fix {f g : Nat → Nat} (hf : ∀ id, 1000000 ≤ id → f id = id) (hg : ∀ id, 1000000 ≤ id → g id = id) : ∀ id, 1000000 ≤ id → f (g id) = id := fun id h => by rw [hg id h, hf id h]
theorem ren_scl {g : Nat → Nat} {x : AV} (h : x.scl = true) : x.ren g = x := by cases x <;> first | rfl | cases h
/-! Nil, seen as a row of the walk's own. -/
theorem MemOk.reob {B : Nat} {ρ : Rho} {S : Nat → Prop} {H : Heap} {w : World} (h : MemOk B ρ S H w) {id : Nat} {o o' : AObj} (ho : H.lookup id = some o) (hT : o'.isT = false) (hsz : o'.sz = o.sz) (hn : o'.n = o.n) (hr : ∀ i j u, i < o.n → j < o.sz → R ρ w S (o.f i j) u → R ρ w S (o'.f i j) u) :
    MemOk B ρ S ((id, o') :: H) w := by
  have conv : ∀ {k p}, ((id, o') :: H).lookup k = some p → ∃ p', H.lookup k = some p' := fun {k p} hp => by
    rcases lookup_put hp with ⟨rfl, rfl⟩ | ⟨_, hp⟩
    · exact ⟨o, ho⟩
    · exact ⟨p, hp⟩
  refine ⟨h.base, h.low, h.lt, fun k p hp => ?_, fun k p hp hc => ?_, fun k k' p p' hp hp' hne hc hc' => ?_, h.treeOf (Nat.le_refl _) (fun k n X hX => ?_) (fun k n X i b hX hi hb => ⟨rfl, (((h.tree k n X hX i hi).2) b hb).2.1, (((h.tree k n X hX i hi).2) b hb).2.2.1⟩) (fun k p hp _ => ?_)⟩
  · rcases lookup_put hp with ⟨rfl, rfl⟩ | ⟨_, hp⟩
    · rw [hn]; exact h.cap k o ho
    · exact h.cap k p hp
  · rcases lookup_put hp with ⟨rfl, rfl⟩ | ⟨_, hp⟩
    · obtain ⟨cs, e, h1, h2, h3, h4, h5, h6, h7⟩ := h.obj k o ho hc
      refine ⟨cs, e, h1, by rw [hsz]; exact h2, by rw [hn]; exact h3, h4, h5, h6, fun i j hi hj => ?_⟩
      rw [hn] at hi
      rw [hsz] at hj ⊢
      obtain ⟨u, hu, hru⟩ := h7 i j hi hj
      exact ⟨u, hu, hr i j u hi hj hru⟩
    · exact h.obj k p hp hc
  · obtain ⟨q, hq⟩ := conv hp
    obtain ⟨q', hq'⟩ := conv hp'
    exact h.inj k k' q q' hq hq' hne hc hc'
  · rcases lookup_put hX with ⟨rfl, rfl⟩ | ⟨hne, hX⟩
    · cases hT
    · exact ⟨X, hX, fun _ _ => rfl, rfl, rfl, rfl⟩
  · obtain ⟨q, hq⟩ := conv hp
    exact .inl ⟨q, hq, rfl⟩
theorem nil_own {ρ : Rho} {w : World} {S : Nat → Prop} {id sz : Nat} {u : Value} (h : ρ id = (0, 0)) (hu : u = .slice none 0 0) : R ρ w S (.own id sz 0) u := by
  show ∃ A, u = .slice A 0 (ρ id).2 ∧ 0 ≤ (ρ id).2 ∧ (ρ id).2 ≤ maxLen ∧ (A = some ⟨(ρ id).1, 0, none⟩ ∨ (A = none ∧ (ρ id).2 = 0))
  rw [h]
  exact ⟨none, hu, Nat.le_refl _, Nat.zero_le _, .inr ⟨rfl, rfl⟩⟩
section
variable {P : Program} {N : Nat} {w0 : Start} {σ : Sig} {Q2 : Exit → Sig → Prop} {c : Code}
theorem AW.nilSlot (t id sz : Nat) (f : Nat → Nat → AV) (ht : σ.env.lookup t = some (.one (.con (.slice none 0 0)))) (hf : Fr id σ) (h : AW P N w0 c Q2 ⟨(t, .one (.own id sz 0)) :: σ.env, (id, .arr sz 0 f) :: σ.heap⟩) : AW P N w0 c Q2 σ := by
  intro ρ S a w Q' hQ hs
  obtain ⟨ρ', e1, hs'⟩ := hs.phantom hf sz f
  refine h ρ' S a w Q' hQ ⟨hs'.size, hs'.defers, hs'.below, hs'.mem, fun t' s ht' => ?_⟩
  rcases lookup_put ht' with ⟨rfl, rfl⟩ | ⟨_, ht'⟩
  · exact nil_own e1 (hs.env _ _ ht)
  · exact hs'.env t' s ht'
theorem AW.nilCell (v j id sz : Nat) (l : List AV) (f : Nat → Nat → AV) (hv : σ.heap.lookup v = some (.cells l)) (hj : l[j]? = some (.con (.slice none 0 0))) (hf : Fr id σ) (h : AW P N w0 c Q2 ⟨σ.env, (v, .cells (l.set j (.own id sz 0))) :: (id, .arr sz 0 f) :: σ.heap⟩) : AW P N w0 c Q2 σ := by
  intro ρ S a w Q' hQ hs
  obtain ⟨ρ', e1, hs'⟩ := hs.phantom hf sz f
  have hne : v ≠ id := (hf.heap.get hv).1
  have hv' : (σ.set id (.arr sz 0 f)).heap.lookup v = some (.cells l) := by
    simp only [Sig.set]
    rw [List.lookup_cons, show (v == id) = false by simpa using hne]; exact hv
  refine h ρ' S a w Q' hQ ⟨hs'.size, hs'.defers, hs'.below, hs'.mem.reob hv' rfl (by simp [AObj.sz]) rfl (fun i q u _ hq hr => ?_), hs'.env⟩
  have hq : q < l.length := hq
  have hr : R ρ' w S (l.getD q (.con undef)) u := hr
  show R ρ' w S ((l.set j (.own id sz 0)).getD q (.con undef)) u
  by_cases hqj : q = j
  · subst hqj
    rw [List.getD_eq_getElem?_getD, hj] at hr
    rw [List.getD_eq_getElem?_getD, List.getElem?_set, if_pos rfl, if_pos hq]
    exact nil_own e1 hr
  · rw [List.getD_eq_getElem?_getD, List.getElem?_set, if_neg (fun e => hqj e.symm), ← List.getD_eq_getElem?_getD]; exact hr
end
/-- A row whose cells are scalars, or nil. -/
theorem Tv.partN {H : Heap} {id sz n n' : Nat} {o : AObj} {g : Nat → Nat → AV} {U : Nat → Nat → Prop} (hn' : n' = n) (ho : H.lookup id = some o) (hT : o.isT = false) (hs : o.sz = sz) (hn : n ≤ o.n) (hU : U id 0)
    (hc : ∀ i j, i < n → j < sz → (o.f i j = g i j ∧ (g i j).scl = true) ∨ (o.f i j = .con (.slice none 0 0) ∧ ∃ s f, g i j = .lst s 0 f)) : Tv H (.own id sz n) (.lst sz n' g) U := by
  subst hn'
  refine .own (fun _ _ _ _ => False) ho hT hs hn hU (fun i j hi hj => ?_) (fun _ _ _ _ _ _ h => h.elim) (fun _ _ _ _ _ _ _ _ _ _ _ h => h.elim)
  rcases hc i j hi hj with ⟨h1, h2⟩ | ⟨h1, s, f, h2⟩
  · rw [h1]; exact Tv.scl h2
  · rw [h1, h2]; exact .nil
/-! What is kept of a list. -/
def cntP {α : Type} (p : α → Bool) (l : List α) (k : Nat) : Nat := ((l.take k).filter p).length
theorem cntP_yes {α : Type} {p : α → Bool} (d : α) {l : List α} {k : Nat} (h : k < l.length) (hp : p (l.getD k d) = true) : cntP p l (k + 1) = cntP p l k + 1 ∧ (l.filter p).getD (cntP p l k) d = l.getD k d := by
  rw [getD_at d h] at hp ⊢
  refine ⟨by unfold cntP; rw [List.take_succ_eq_append_getElem h, List.filter_append, List.length_append]; simp [hp], ?_⟩
  have e : l.filter p = (l.take k).filter p ++ l[k] :: (l.drop (k + 1)).filter p := by
    conv => lhs; rw [← List.take_append_drop k l, List.filter_append, List.drop_eq_getElem_cons h, List.filter_cons_of_pos hp]
  unfold cntP
  rw [e, List.getD_eq_getElem?_getD, List.getElem?_append_right (Nat.le_refl _)]
  simp
theorem cntP_no {α : Type} {p : α → Bool} (d : α) {l : List α} {k : Nat} (h : k < l.length) (hp : p (l.getD k d) = false) : cntP p l (k + 1) = cntP p l k := by
  rw [getD_at d h] at hp
  unfold cntP; rw [List.take_succ_eq_append_getElem h, List.filter_append, List.length_append]; simp [hp]
theorem cntP_end {α : Type} {p : α → Bool} {l : List α} {k : Nat} (h : ¬ k < l.length) : cntP p l k = (l.filter p).length := by
  unfold cntP; rw [List.take_of_length_le (by omega)]
theorem cntP_le {α : Type} (p : α → Bool) (l : List α) (k : Nat) : cntP p l k ≤ l.length := by
  unfold cntP
  refine Nat.le_trans (List.length_filter_le ..) ?_
  rw [List.length_take]; omega
theorem app_at {α : Type} {i k : Nat} {a b c : α} (hi : i < k + 1) (h1 : i < k → a = c) (h2 : i = k → b = c) : (if i < k then a else b) = c := by
  by_cases h : i < k
  · rw [if_pos h]; exact h1 h
  · rw [if_neg h]; exact h2 (by omega)
theorem cast_neg (n : Nat) : decide ((n : Int) < 0) = false := decide_eq_false (by omega)
theorem ctL_one {α : Type} {ct : α → Nat} (h : ∀ x, ct x = 1) (l : List α) : ctL ct l = l.length := by
  induction l with
  | nil => rfl
  | cons a l ih => unfold ctL at ih ⊢; rw [List.map_cons, List.sum_cons, ih, h, List.length_cons]; omega
/-- A count against a weight. -/
theorem ctL_wtl {α : Type} {ct f : α → Nat} {c : Nat} (h : ∀ x, ct x ≤ c * (1 + f x)) (l : List α) : ctL ct l ≤ c * wtl f l := by
  induction l with
  | nil => exact Nat.zero_le _
  | cons a l ih =>
    have e1 : ctL ct (a :: l) = ct a + ctL ct l := by simp [ctL]
    have e2 : wtl f (a :: l) = (1 + f a) + wtl f l := by simp [wtl]; omega
    rw [e1, e2, Nat.mul_add]
    exact Nat.add_le_add (h a) ih
theorem ctL_len {α : Type} {ct : α → Nat} {c : Nat} (h : ∀ x, ct x ≤ c) (l : List α) : ctL ct l ≤ c * l.length := by
  induction l with
  | nil => exact Nat.zero_le _
  | cons a l ih =>
    have e1 : ctL ct (a :: l) = ct a + ctL ct l := by simp [ctL]
    rw [e1, List.length_cons, Nat.mul_succ, Nat.add_comm]
    exact Nat.add_le_add ih (h a)
end Go.Proofs.YticinemcmgggpabDoor

/-
  A calculus for walks, part 25: rows opened and closed, parts of rows, the rest of a row cleared.
-/
namespace Go.Proofs.YticinemcmgggpabDoor
open Go.ChangeShapes Go.WideShapes Go.ChangeAt Go.RowKit Go.BigFrame Go.Deep
set_option linter.unusedVariables false

set_option linter.unusedSimpArgs false
section
variable {P : Program} {N : Nat} {w0 : Start} {σ : Sig} {ops : Array Oper} {rest : List Oper} {o : Oper} {Q : Sig → Prop}
theorem ARun.slice0 {t d id sz by_ : Nat} {z : Value} (ho : o.op = .buildSlice t 0 #[]) (hz : elemZ P t = some (some z, sz, by_)) (f : Nat → Nat → AV) (hno : ∀ i j, (f i j).no id = true)
    (hf : Fr id σ) (hg : o.guard = none) (hd : o.dst = some d) (hN : d < N) (h : ARun P N w0 ops Q rest ((σ.set id (.arr sz 0 f)).put d (.one (.own id sz 0)))) : ARun P N w0 ops Q (o :: rest) σ := by
  intro ρ S a w Q' hQ hs
  refine wpList_plain hg fun K hK => ?_
  obtain ⟨e, i, hu, hi, hz0, hz1, hz2⟩ := elemZ_spec hz
  subst hz1
  have hrun : (execOp a.eval o).run P w = .ok (.value (.slice (some ⟨w.heap.size, 0, none⟩) 0 0)) (w.alloc (.cells #[] e)) := by
    generalize a.eval = ev
    simp [execOp, ho, Instr.buildSlice, run_underlying hu, sizeOf, typeInfo, hi, Instr.fill, newRow, go_sem]
  obtain ⟨ρ', e1, hs'⟩ := hs.new hf (o := .arr i.size 0 f) (cs := #[]) (e := e) (cap := 0) rfl (by simp) (Nat.le_refl _) (Nat.zero_le _) (fun r j hr => absurd hr (Nat.not_lt_zero _)) hno
  unfold Oper.wp
  rw [hrun]
  simp only [Oper.upon, hd]
  refine hK _ _ (h ρ' S _ _ Q' hQ (hs'.put hN ?_))
  show ∃ A, Value.slice _ _ _ = .slice A 0 (ρ' id).2 ∧ 0 ≤ (ρ' id).2 ∧ (ρ' id).2 ≤ maxLen ∧ (A = some ⟨(ρ' id).1, 0, none⟩ ∨ (A = none ∧ (ρ' id).2 = 0))
  rw [e1]
  exact ⟨_, rfl, Nat.le_refl _, Nat.zero_le _, .inl rfl⟩
/-- A tree of a family becomes a row of the walk's own. -/
theorem St.openRow {ρ : Rho} {S : Nat → Prop} {a : Act} {w : World} (hs : St N w0 ρ S σ a w) {t K q m sz n id : Nat} {X : Nat → AV} {f : Nat → Nat → AV} (ht : σ.env.lookup t = some (.one (.tre K q))) (hK : σ.heap.lookup K = some (.trees m X)) (hq : q < m) (hX : X q = .lst sz n f)
    (hsc : ∀ i j, i < n → j < sz → (f i j).scl = true) (hno : ∀ i j, (f i j).no id = true) (hf : Fr id σ) : ∃ ρ', St N w0 ρ' S ⟨(t, .one (.own id sz n)) :: σ.env, (id, .arr sz n f) :: σ.heap.filter fun p => p.1 != K⟩ a w := by
  obtain ⟨ev, _⟩ := hs.env _ _ ht
  obtain ⟨t1, t2⟩ := hs.mem.tree K m X hK q hq
  rw [hX] at t1
  rw [← ev] at t1
  unfold Tr at t1
  obtain ⟨A, c, e, hnc, hcm, hcase⟩ := t1
  obtain ⟨b, cs, hA, hblk⟩ : ∃ (b : Nat) (cs : Array Value), (A = some ⟨b, 0, none⟩ ∨ (A = none ∧ c = 0)) ∧ (c ≠ 0 → ρ.tb K q b ∧ (∃ e, w.heap[b]? = some (.cells cs e (0, 0))) ∧ cs.size = c * sz ∧ ∀ i j, i < n → j < sz → ∃ u, cs[i * sz + j]? = some u ∧ R ρ w S (f i j) u) := by
    rcases hcase with ⟨rfl, hA⟩ | ⟨b, cs, e', g1, g2, g3, g4, F, g5, g6⟩
    · rcases hA with hA | ⟨b, hA⟩
      · exact ⟨0, #[], .inr ⟨hA, rfl⟩, fun h => absurd rfl h⟩
      · exact ⟨b, #[], .inl hA, fun h => absurd rfl h⟩
    · refine ⟨b, cs, .inl g1, fun _ => ⟨g2, ⟨e', g3⟩, g4, fun i j hi hj => ?_⟩⟩
      obtain ⟨_, u, hu, hT⟩ := g5 i j hi hj
      refine ⟨u, hu, ?_⟩
      have hl := hsc i j hi hj
      generalize f i j = y at hT hl
      cases y <;> first | exact hT | cases hl
  refine ⟨⟨fun k => if k = id then (b, c) else ρ k, ρ.base, ρ.tv, ρ.tb, ρ.tn⟩, ?_⟩
  have hρ : ∀ k, k ≠ id → (if k = id then (b, c) else ρ k) = ρ k := fun k hk => if_neg hk
  have hρA : ∀ k, k ≠ id → Rho.At ρ ⟨fun k => if k = id then (b, c) else ρ k, ρ.base, ρ.tv, ρ.tb, ρ.tn⟩ k := fun k hk => ⟨hρ k hk, rfl, rfl, rfl⟩
  have hkeep : ∀ {x : AV} {u : Value}, x.no id = true → R ρ w S x u → R ⟨fun k => if k = id then (b, c) else ρ k, ρ.base, ρ.tv, ρ.tb, ρ.tn⟩ w S x u := fun {x u} hx hr => hr.keep (ρ := ρ) (Same.refl _ _) ⟨rfl, fun q => by
    by_cases hq : q = id
    · subst hq; exact .inr hx
    · exact .inl (hρA q hq)⟩
  have hlow : Nat.blt id 1000000 = true := by have := hf.small; simpa [Nat.blt_eq] using this
  refine ⟨hs.size, hs.defers, ⟨hs.below.old, hs.below.same, fun k hk => (hs.below.ids k hk).trans (hρA k (fun e => by have := hf.small; omega))⟩, ⟨hs.mem.base, hs.mem.low, hs.mem.lt, ?_, ?_, ?_, ?_⟩, fun t' s ht' => ?_⟩
  · intro k p hp
    rcases lookup_put hp with ⟨rfl, rfl⟩ | ⟨hne, hp⟩
    · simpa [AObj.n] using hnc
    · simp only [hρ k hne]; exact hs.mem.cap k p (filter_lookup hp).2
  · intro k p hp hc
    rcases lookup_put hp with ⟨rfl, rfl⟩ | ⟨hne, hp⟩
    · simp only [if_true] at hc ⊢
      obtain ⟨g1, ⟨e', g2⟩, g3, g4⟩ := hblk hc
      obtain ⟨q1, q2, q3, _⟩ := t2 b g1
      refine ⟨cs, e', g2, g3, hnc, hcm, q1, q3, fun i j hi hj => ?_⟩
      obtain ⟨u, hu, hr⟩ := g4 i j hi hj
      exact ⟨u, hu, hkeep (hno i j) hr⟩
    · obtain ⟨f1, f2⟩ := filter_lookup hp
      obtain ⟨_, hno'⟩ := hf.heap.get f2
      simp only [hρ k hne] at hc ⊢
      obtain ⟨cs2, e2, g1, g2, g3, g4, g5, g6, g7⟩ := hs.mem.obj k p f2 hc
      refine ⟨cs2, e2, g1, g2, g3, g4, g5, g6, fun i j hi hj => ?_⟩
      obtain ⟨u, hu, hr⟩ := g7 i j hi hj
      exact ⟨u, hu, hkeep (hno'.at_ i j) hr⟩
  · intro k k' p p' hp hp' hne hc hc'
    rcases lookup_put hp with ⟨rfl, rfl⟩ | ⟨q1, hp2⟩ <;> rcases lookup_put hp' with ⟨rfl, rfl⟩ | ⟨q2, hp2'⟩
    · exact absurd rfl hne
    · simp only [if_true] at hc
      simp only [hρ k' q2] at hc'
      simp only [if_true, hρ k' q2]
      obtain ⟨g1, _⟩ := hblk hc
      exact fun e => (t2 b g1).2.2.2.1 k' p' (filter_lookup hp2').2 hc' e.symm
    · simp only [hρ k q1] at hc
      simp only [if_true] at hc'
      simp only [if_true, hρ k q1]
      obtain ⟨g1, _⟩ := hblk hc'
      exact (t2 b g1).2.2.2.1 k p (filter_lookup hp2).2 hc
    · simp only [hρ k q1] at hc
      simp only [hρ k' q2] at hc'
      simp only [hρ k q1, hρ k' q2]
      exact hs.mem.inj k k' p p' (filter_lookup hp2).2 (filter_lookup hp2').2 hne hc hc'
  · have hmn : MemOk w0.base ρ S (σ.heap.filter fun p => p.1 != K) w := hs.mem.le' fun k p hp => HLe.refl (filter_lookup hp).2
    refine hmn.treeOf (Nat.le_refl _) (fun k n' Y hY => ?_) (fun k n' Y i b' hY hi hb' => ⟨rfl, (((hmn.tree k n' Y hY i hi).2) b' hb').2.1, (((hmn.tree k n' Y hY i hi).2) b' hb').2.2.1⟩) (fun k p hp hc => ?_)
    · rcases lookup_put hY with ⟨rfl, e⟩ | ⟨hne, hY⟩
      · cases e
      · exact ⟨Y, hY, fun _ _ => rfl, rfl, rfl, rfl⟩
    · rcases lookup_put hp with ⟨rfl, rfl⟩ | ⟨hne, hp⟩
      · refine .inr fun k2 n' Y i hY hi hb' => ?_
        simp only [if_true] at hc hb'
        obtain ⟨g1, _⟩ := hblk hc
        obtain ⟨f1, f2⟩ := filter_lookup hY
        exact (t2 b g1).2.2.2.2 k2 n' Y i f2 hi (fun e => f1 e.1) hb'
      · exact .inl ⟨p, hp, hρ k hne⟩
  · rcases lookup_put ht' with ⟨rfl, rfl⟩ | ⟨_, ht2⟩
    · show ∃ B, _ = Value.slice B n (if id = id then (b, c) else ρ id).2 ∧ n ≤ (if id = id then (b, c) else ρ id).2 ∧ (if id = id then (b, c) else ρ id).2 ≤ maxLen ∧ (B = some ⟨(if id = id then (b, c) else ρ id).1, 0, none⟩ ∨ (B = none ∧ (if id = id then (b, c) else ρ id).2 = 0))
      simp only [if_true]
      exact ⟨A, e, hnc, hcm, hA⟩
    · exact (hs.env t' s ht2).keep (ρ := ρ) (Same.refl _ _) ⟨rfl, fun q => by
        by_cases hq : q = id
        · subst hq; exact .inr (List.all_eq_true.1 hf.env _ (lookup_mem ht2))
        · exact .inl (hρA q hq)⟩
theorem ARun.openRow (t K q m sz n id : Nat) (X : Nat → AV) (f : Nat → Nat → AV) (ht : σ.env.lookup t = some (.one (.tre K q))) (hK : σ.heap.lookup K = some (.trees m X)) (hq : q < m) (hX : X q = .lst sz n f)
    (hsc : ∀ i j, i < n → j < sz → (f i j).scl = true) (hno : ∀ i j, (f i j).no id = true) (hf : Fr id σ) (h : ARun P N w0 ops Q rest ⟨(t, .one (.own id sz n)) :: σ.env, (id, .arr sz n f) :: σ.heap.filter fun p => p.1 != K⟩) : ARun P N w0 ops Q rest σ := by
  intro ρ S a w Q' hQ hs
  obtain ⟨ρ', hs'⟩ := hs.openRow ht hK hq hX hsc hno hf
  exact h ρ' S a w Q' hQ hs'
/-- The first k of a row of the walk's own. -/
theorem PureOp.takeOwn {t : TypeId} {x y : Operand} {id sz n k : Nat} {m : Int} {kd : IntKind} (ho : o.op = .slice t x none (some y) none) (hx : Kn σ x (.one (.own id sz n))) (hy : Kn σ y (.one (.int kd m))) (hm : m = (k : Int)) (hk : k ≤ n) (ht : elemB P t sz = true) : PureOp P o σ (.one (.own id sz k)) := by
  subst hm
  refine PureOp.val fun N w0 ρ S ac w hs => ?_
  obtain ⟨A, e1, h1, h2, h3⟩ := hx.sound hs
  have e2 : ac.eval y = .int kd (k : Int) := hy.sound hs
  obtain ⟨e, i, hu, hi, hsz⟩ := elemB_spec ht
  refine ⟨.slice A k (ρ id).2, ⟨A, rfl, by omega, h2, h3⟩, fun w' _ => ?_⟩
  generalize ac.eval = ev at e1 e2 ⊢
  have hle : (0 : Int) ≤ (k : Int) ∧ (k : Int) ≤ ((ρ id).2 : Int) := by omega
  simp only [execOp, ho, e1, e2, Option.map_some, Option.map_none]
  have hr : (Instr.sliceAt t (.slice A n (ρ id).2) none (some (.int kd (k : Int))) none).run P w' = .ok (.slice A k (ρ id).2) w' := by
    have hA : (if (ρ id).2 = 0 then A else A.map (·.add (0 * i.size))) = A := by
      rcases h3 with rfl | ⟨rfl, h0⟩
      · simp [Addr.add]
      · simp
    have hk2 : (k : Int) ≤ ((ρ id).2 : Int) := hle.2
    simp only [Nat.zero_mul] at hA
    simp [Instr.sliceAt, Instr.slice, run_underlying hu, Instr.sliceBounds, Instr.sliceBound, asIntOf, hk2, run_sizeOf' hi, go_sem]
    try exact hA
    try (intro hlt; omega)
  rw [Sem.run_bind, hr]
  rfl
end
section
variable {P : Program} {N : Nat} {w0 : Start} {σ : Sig} {ops : Array Oper} {rest : List Oper} {Q : Sig → Prop}
/-- What lies behind the first k of a row turns: the first k stand. -/
theorem St.setTail {ρ : Rho} {S : Nat → Prop} {a : Act} {w : World} (hs : St N w0 ρ S σ a w) {id sz n k : Nat} {f : Nat → Nat → AV} {vs : List Value} (hob : σ.heap.lookup id = some (.arr sz n f)) (hk : k ≤ n) (hc : (ρ id).2 ≠ 0) :
    St N w0 ρ S ⟨σ.env, (id, .arr sz k f) :: σ.heap⟩ a (w.setCells (ρ id).1 (k * sz) vs) := by
  obtain ⟨cs, e, h1, h2, h3, h4, h5, h6, h7⟩ := hs.mem.obj id _ hob hc
  obtain ⟨hb1, hb2⟩ := below_setCells h5 (vs := vs) (o := k * sz) (w := w)
  obtain ⟨cs', g1, g2, g3, g4⟩ := heap_setCells_at (vs := vs) (o := k * sz) h1
  have hother : ∀ q, q ≠ (ρ id).1 → (w.setCells (ρ id).1 (k * sz) vs).heap[q]? = w.heap[q]? := fun q hq => heap_setCells_other hq
  have hsame : Same S w S (w.setCells (ρ id).1 (k * sz) vs) := ⟨fun _ h => h, fun q hq => hother q fun e => h6 (e ▸ hq)⟩
  have conv : ∀ {q p}, ((id, AObj.arr sz k f) :: σ.heap).lookup q = some p → ∃ p', σ.heap.lookup q = some p' := fun {q p} hp => by
    rcases lookup_put hp with ⟨rfl, rfl⟩ | ⟨_, hp⟩
    · exact ⟨_, hob⟩
    · exact ⟨p, hp⟩
  refine ⟨hs.size, hs.defers, hs.below.step hb1 hsame, ⟨hs.mem.base, by rw [hb2]; exact hs.mem.low, fun q hq => by rw [hb2]; exact hs.mem.lt q hq, ?_, ?_, ?_, ?_⟩, fun t s ht => (hs.env t s ht).keep hsame (Rn.refl _ _)⟩
  · intro q p hp
    rcases lookup_put hp with ⟨rfl, rfl⟩ | ⟨_, hp⟩
    · exact Nat.le_trans hk h3
    · exact hs.mem.cap q p hp
  · intro q p hp hc'
    rcases lookup_put hp with ⟨rfl, rfl⟩ | ⟨hne, hp⟩
    · refine ⟨cs', e, g1, by rw [g2]; exact h2, Nat.le_trans hk h3, h4, h5, h6, fun i j hi hj => ?_⟩
      have hi : i < k := hi
      have hj : j < sz := hj
      obtain ⟨u, hu, hr⟩ := h7 i j (show i < n by omega) hj
      exact ⟨u, by show cs'[i * sz + j]? = some u; rw [g3 _ (cell_lt hi hj)]; exact hu, hr.keep hsame (Rn.refl _ _)⟩
    · obtain ⟨cs2, e2, q1, q2, q3, q4, q5, q6, q7⟩ := hs.mem.obj q p hp hc'
      refine ⟨cs2, e2, by rw [hother _ (hs.mem.inj q id p _ hp hob hne hc' hc)]; exact q1, q2, q3, q4, q5, q6, fun i j hi hj => ?_⟩
      obtain ⟨u, hu, hr⟩ := q7 i j hi hj
      exact ⟨u, hu, hr.keep hsame (Rn.refl _ _)⟩
  · intro q q' p p' hp hp' hne hc1 hc2
    obtain ⟨r, hr⟩ := conv hp
    obtain ⟨r', hr'⟩ := conv hp'
    exact hs.mem.inj q q' r r' hr hr' hne hc1 hc2
  · refine hs.mem.treeOf (Nat.le_refl _) (fun q n' X hX => ?_) (fun q n' X i b hX hi hb => ?_) (fun q p hp _ => ?_)
    · rcases lookup_put hX with ⟨rfl, e⟩ | ⟨_, hX⟩
      · cases e
      · exact ⟨X, hX, fun _ _ => rfl, rfl, rfl, rfl⟩
    · obtain ⟨q1, q2, q3, q4, _⟩ := (hs.mem.tree q n' X hX i hi).2 b hb
      exact ⟨hother b fun e => q4 id _ hob hc e.symm, by rw [hb2]; exact q2, q3⟩
    · obtain ⟨r, hr⟩ := conv hp
      exact .inl ⟨r, hr, rfl⟩
theorem ARun.clearTail {o1 o2 : Oper} {t : TypeId} {x y : Operand} {id sz n k d by_ : Nat} {m : Int} {kd : IntKind} {z : Value} {f : Nat → Nat → AV} (ho1 : o1.op = .slice t x (some y) none none) (ho2 : o2.op = .call { callee := .builtin .clear, args := #[.tmp d], argTypes := #[t] })
    (hx : Kn σ x (.one (.own id sz n))) (hob : σ.heap.lookup id = some (.arr sz n f)) (hy : Kn σ y (.one (.int kd m))) (hm : m = (k : Int)) (hk : k ≤ n) (hz : elemZ P t = some (some z, sz, by_)) (hzc : z.cells.size = sz) (hz1 : z.cells.all Value.oneCell' = true)
    (hg1 : o1.guard = none) (hg2 : o2.guard = none) (hd1 : o1.dst = some d) (hd2 : o2.dst = none) (hN : d < N) (h : ARun P N w0 ops Q rest ⟨σ.env.filter fun p => p.1 != d, (id, .arr sz k f) :: σ.heap⟩) : ARun P N w0 ops Q (o1 :: o2 :: rest) σ := by
  subst hm
  intro ρ S a w Q' hQ hs
  obtain ⟨e, i, hu, hi, hz0, hzs, _⟩ := elemZ_spec hz
  subst hzs
  obtain ⟨A, e1, h1, h2, h3⟩ := hx.sound hs
  have e2 : a.eval y = .int kd (k : Int) := hy.sound hs
  have hle : (0 : Int) ≤ (k : Int) ∧ (k : Int) ≤ (n : Int) := by omega
  refine wpList_plain hg1 fun K1 hK1 => ?_
  have hrun1 : (execOp a.eval o1).run P w = .ok (.value (.slice (if (ρ id).2 = k then A else A.map (·.add (k * i.size))) (n - k) ((ρ id).2 - k))) w := by
    generalize a.eval = ev at e1 e2 ⊢
    simp only [execOp, ho1, e1, e2, Option.map_some, Option.map_none]
    have hr : (Instr.sliceAt t (.slice A n (ρ id).2) (some (.int kd (k : Int))) none none).run P w = .ok (.slice (if (ρ id).2 = k then A else A.map (·.add (k * i.size))) (n - k) ((ρ id).2 - k)) w := by
      have hk2 : (k : Int) ≤ (n : Int) := hle.2
      simp [Instr.sliceAt, Instr.slice, run_underlying hu, Instr.sliceBounds, Instr.sliceBound, asIntOf, hk2, run_sizeOf' hi, go_sem]
      try (intro hlt; omega)
    rw [Sem.run_bind, hr]
    rfl
  unfold Oper.wp
  rw [hrun1]
  simp only [Oper.upon, hd1]
  refine hK1 _ _ (wpList_plain hg2 fun K hK => ?_)
  have hev : ∀ v : Value, (a.put (some d) v).eval (.tmp d) = v := fun v => by
    show (a.put (some d) v).tmps.getD d undef = v
    rw [getD_put (by rw [hs.size]; exact hN), if_pos rfl]
  have henv : ∀ (v : Value) (w' : World) (S' : Nat → Prop), St N w0 ρ S' ⟨σ.env, (id, .arr i.size k f) :: σ.heap⟩ a w' → St N w0 ρ S' ⟨σ.env.filter fun p => p.1 != d, (id, .arr i.size k f) :: σ.heap⟩ (a.put (some d) v) w' := fun v w' S' h' => by
    refine ⟨by simp only [Act.put, Array.size_setIfInBounds]; exact h'.size, h'.defers, h'.below, h'.mem, fun t s ht => ?_⟩
    obtain ⟨f1, f2⟩ := filter_lookup ht
    rw [getD_put (by rw [h'.size]; exact hN), if_neg f1]
    exact h'.env t s f2
  have fin : ∀ (w' : World), (execOp (a.put (some d) (.slice (if (ρ id).2 = k then A else A.map (·.add (k * i.size))) (n - k) ((ρ id).2 - k))).eval o2).run P w = .ok (.value (.tuple #[])) w' → St N w0 ρ S ⟨σ.env, (id, .arr i.size k f) :: σ.heap⟩ a w' → o2.wp P (a.put (some d) (.slice (if (ρ id).2 = k then A else A.map (·.add (k * i.size))) (n - k) ((ρ id).2 - k))) w K Q' := fun w' hr h' => by
    unfold Oper.wp
    rw [hr]
    simp only [Oper.upon, hd2, Act.put]
    exact hK _ _ (h ρ S _ w' Q' hQ (henv _ w' S h'))
  by_cases hnk : n - k = 0
  · obtain rfl : k = n := by omega
    refine fin w ?_ ⟨hs.size, hs.defers, hs.below, hs.mem.le' fun q p hp => ?_, hs.env⟩
    · have hv := hev (.slice (if (ρ id).2 = k then A else A.map (·.add (k * i.size))) (k - k) ((ρ id).2 - k))
      generalize (a.put (some d) (.slice (if (ρ id).2 = k then A else A.map (·.add (k * i.size))) (k - k) ((ρ id).2 - k))).eval = ev at hv ⊢
      simp only [execOp, ho2, resolve, Sem.run_bind, Sem.run_pure, Result.andThen_ok, invoke, builtin, List.map_toArray, List.map_cons, List.map_nil, Array.empty_append, hv, Nat.sub_self]
      simp [Builtin.clear_, run_underlying hu, go_sem]
      split <;> simp_all
    · rcases lookup_put hp with ⟨rfl, rfl⟩ | ⟨_, hp⟩
      · exact HLe.refl hob
      · exact HLe.refl hp
  · have hc : (ρ id).2 ≠ 0 := by omega
    obtain ⟨cs, e', q1, q2, q3, q4, q5, q6, q7⟩ := hs.mem.obj id _ hob hc
    have hA : A = some ⟨(ρ id).1, 0, none⟩ := by rcases h3 with h | ⟨_, h⟩; (· exact h); (· exact absurd h hc)
    subst hA
    have hzl : (Builtin.zeroCells z.cells (n - k)).toList.length = (n - k) * i.size := by simp [Builtin.zeroCells, hzc]
    have hin : ∀ j, j < (Builtin.zeroCells z.cells (n - k)).toList.length → k * i.size + j < cs.size := fun j hj => by
      rw [hzl] at hj
      have q2' : cs.size = (ρ id).2 * i.size := q2
      rw [q2']
      have hmul : n * i.size ≤ (ρ id).2 * i.size := Nat.mul_le_mul_right _ h1
      have : n * i.size = k * i.size + (n - k) * i.size := by rw [← Nat.add_mul]; congr 1; omega
      omega
    have hst := run_storeCells_cells (P := P) (ρ id).1 (k * i.size) (Builtin.zeroCells z.cells (n - k)).toList 0 w (fun j hj => by
      have := hin j hj
      simp [World.cell?, q1, this]) (fun j hj => by simp [World.frozen?, q1]) (fun u hu => by
      simp only [Builtin.zeroCells, Array.toList_map, List.mem_map] at hu
      obtain ⟨q, _, rfl⟩ := hu
      by_cases h0 : z.cells.size = 0
      · exfalso
        rw [hzc] at h0
        rw [h0] at hzl
        simp only [Nat.mul_zero] at hzl
        simp_all
      · have hlt : q % z.cells.size < z.cells.size := Nat.mod_lt _ (by omega)
        rw [getElem!_pos z.cells _ hlt]
        exact Array.all_eq_true_iff_forall_mem.1 hz1 _ (Array.getElem_mem hlt))
    refine fin (w.setCells (ρ id).1 (k * i.size) (Builtin.zeroCells z.cells (n - k)).toList) ?_ (hs.setTail hob hk hc)
    have hv := hev (.slice (if (ρ id).2 = k then some ⟨(ρ id).1, 0, none⟩ else (some ⟨(ρ id).1, 0, none⟩ : Option Addr).map (·.add (k * i.size))) (n - k) ((ρ id).2 - k))
    generalize (a.put (some d) (.slice (if (ρ id).2 = k then some ⟨(ρ id).1, 0, none⟩ else (some ⟨(ρ id).1, 0, none⟩ : Option Addr).map (·.add (k * i.size))) (n - k) ((ρ id).2 - k))).eval = ev at hv ⊢
    rw [if_neg (by omega)] at hv
    have hzv : (zeroValue e).run P w = .ok z w := by simp [zeroValue, typeInfo, hi, hz0, go_sem]
    simp only [execOp, ho2, resolve, Sem.run_bind, Sem.run_pure, Result.andThen_ok, invoke, builtin, List.map_toArray, List.map_cons, List.map_nil, Array.empty_append, hv, Option.map_some, Addr.add_lit]
    obtain ⟨r, hr⟩ : ∃ r, n - k = r + 1 := ⟨n - k - 1, by omega⟩
    rw [hr] at hst ⊢
    simp only [Nat.add_zero, Nat.zero_add] at hst ⊢
    simp [Builtin.clear_, run_underlying hu, hzv, go_sem]
    exact congrArg (fun r : Result Unit => (Result.andThen (Result.andThen r fun _ w' => Result.ok (Value.tuple #[]) w') fun a w' => Result.ok (Next.value a) w')) hst
end
theorem resO {P : Program} {σ : Sig} {t id sz n m : Nat} (h : σ.env.lookup t = some (.one (.own id sz n))) (e : n = m) : ResL P σ [.tmp t] (.one (.own id sz m)) := by subst e; exact .inl ⟨_, rfl, .tmp h⟩
theorem PureOp.loadPtrAggE {P : Program} {σ : Sig} {o : Oper} {t n : Nat} {x : Operand} {id sz i q : Nat} {ob : AObj} {l : List AV} (ho : o.op = .load t x) (h : Kn σ x (.one (.ptr id sz i q))) (hT : aggB P t n = true) (hob : σ.heap.lookup id = some ob) (hsz : ob.sz = sz) (hi : i < ob.n) (hle : q + n ≤ ob.sz) (he : (List.range' q n).map (ob.f i) = l) :
    PureOp P o σ (.agg l) := by subst he; exact PureOp.loadPtrAgg ho h hT hob hsz hi hle
/-! A list of which some are kept, in place. -/
theorem cntP_leK {α : Type} (p : α → Bool) (l : List α) (k : Nat) : cntP p l k ≤ k := by
  unfold cntP
  refine Nat.le_trans (List.length_filter_le ..) ?_
  rw [List.length_take]; omega
def stF {α : Type} (q : α → Bool) (d : α) (l : List α) : Nat → Nat → α
  | 0, a => l.getD a d
  | j + 1, a => if q (l.getD j d) = true ∧ a = cntP q l j then l.getD j d else stF q d l j a
theorem stF_hi {α : Type} {q : α → Bool} {d : α} {l : List α} : ∀ {j a : Nat}, j ≤ a → stF q d l j a = l.getD a d
  | 0, _, _ => rfl
  | j + 1, a, h => by
    have := cntP_leK q l j
    rw [stF, if_neg (fun e => by omega)]
    exact stF_hi (by omega)
theorem stF_lo {α : Type} {q : α → Bool} {d : α} {l : List α} : ∀ {j a : Nat}, j ≤ l.length → a < cntP q l j → stF q d l j a = (l.filter q).getD a d
  | 0, a, _, h => absurd h (by simp [cntP])
  | j + 1, a, hj, h => by
    rw [stF]
    cases hq : q (l.getD j d) with
    | true =>
      obtain ⟨h1, h2⟩ := cntP_yes d (show j < l.length by omega) hq
      by_cases ha : a = cntP q l j
      · rw [if_pos ⟨rfl, ha⟩, ha, h2]
      · rw [if_neg (fun e => ha e.2)]
        exact stF_lo (by omega) (by omega)
    | false =>
      rw [if_neg (fun e => by cases e.1)]
      have h1 := cntP_no d (show j < l.length by omega) hq
      exact stF_lo (by omega) (by omega)
theorem stF_yes {α : Type} {q : α → Bool} {d : α} {l : List α} {k : Nat} (hq : q (l.getD k d) = true) (a : Nat) : stF q d l (k + 1) a = if a = cntP q l k then l.getD k d else stF q d l k a := by
  rw [stF]
  by_cases h : a = cntP q l k
  · rw [if_pos h, if_pos ⟨hq, h⟩]
  · rw [if_neg h, if_neg (fun e => h e.2)]
theorem stF_no {α : Type} {q : α → Bool} {d : α} {l : List α} {k : Nat} (hq : q (l.getD k d) = false) (a : Nat) : stF q d l (k + 1) a = stF q d l k a := by
  rw [stF, if_neg (fun e => by rw [hq] at e; cases e.1)]
theorem cntP_all {α : Type} {q : α → Bool} (d : α) {l : List α} : ∀ {k : Nat}, k ≤ l.length → (∀ j, j < k → q (l.getD j d) = true) → cntP q l k = k ∧ ∀ a, stF q d l k a = l.getD a d
  | 0, _, _ => ⟨by simp [cntP], fun _ => rfl⟩
  | k + 1, hk, h => by
    obtain ⟨h1, h2⟩ := cntP_all d (k := k) (by omega) (fun j hj => h j (by omega))
    have hq := h k (by omega)
    refine ⟨by rw [(cntP_yes d (by omega) hq).1, h1], fun a => ?_⟩
    rw [stF_yes hq, h1]
    by_cases ha : a = k
    · rw [if_pos ha, ha]
    · rw [if_neg ha]; exact h2 a
theorem idxF_some {α : Type} {p : α → Bool} (d : α) {l : List α} (h : ¬ idxF p l = -1) : ∃ i : Nat, idxF p l = (i : Int) ∧ i < l.length ∧ p (l.getD i d) = true ∧ ∀ j : Nat, j < i → p (l.getD j d) = false := by
  unfold idxF at h ⊢
  by_cases ha : l.any p = true
  · rw [if_pos ha] at h ⊢
    have hlt : l.findIdx p < l.length := List.findIdx_lt_length.2 (by simpa [List.any_eq_true] using ha)
    refine ⟨_, rfl, hlt, by rw [getD_at d hlt]; exact List.findIdx_getElem, fun j hj => ?_⟩
    rw [getD_at d (by omega)]
    have := List.not_of_lt_findIdx hj
    simpa using this
  · rw [if_neg ha] at h; exact absurd rfl h
theorem idxF_nil {α : Type} {p : α → Bool} {l : List α} (h : idxF p l = -1) : l.filter (fun x => !p x) = l := by
  have ha : l.any p = false := by rw [← idxF_any p l, h]; rfl
  rw [List.filter_eq_self]
  intro x hx
  have := List.any_eq_false.1 ha x hx
  simpa using this
theorem ce_ite {α : Type} {ce : α → Nat → AV} {c : Nat → AV} {x y : α} {a C b sz : Nat} (h : ∀ b, b < sz → c b = ce x b) (hb : b < sz) : (if a = C then c b else ce y b) = ce (if a = C then x else y) b := by
  by_cases ha : a = C
  · rw [if_pos ha, if_pos ha]; exact h b hb
  · rw [if_neg ha, if_neg ha]
theorem getD_sc {j : Nat} {l : List AV} (h : l.all AV.sc = true) : (l.getD j (.con undef)).sc = true := by
  rw [List.getD_eq_getElem?_getD]
  cases hl : l[j]? with
  | none => rfl
  | some x => exact List.all_eq_true.1 h x (List.mem_of_getElem? hl)
theorem ARun.mut1 {P : Program} {N : Nat} {w0 : Start} {σ : Sig} {ops : Array Oper} {rest : List Oper} {o : Oper} {Q : Sig → Prop} {f d A sz n n' : Nat} {xs : List Operand} {ts : Array TypeId} {args : List SV} {F F' : Nat → Nat → AV} {r s' : SV} (ho : o.op = .call { callee := .value (.func f), args := xs.toArray, argTypes := ts })
    (hF : FnG P f args [(1000000, .arr sz n F)] r [(1000000, .arr sz n' F')]) (hB : callB P f = true) (hp : r.hd = true) (hk : KnG σ (σ.heap.filter fun p => p.1 != A) (fun _ => A) xs args) (hA : σ.heap.lookup A = some (.arr sz n F)) (hsc : ∀ i j, (F i j).sc = true) (hsc' : ∀ i j, (F' i j).sc = true)
    (hs' : r.ren (fun _ => A) = s') (hgd : o.guard = none) (hd : o.dst = some d) (hdN : d < N) (h : ARun P N w0 ops Q rest ⟨(d, s') :: σ.env, (A, .arr sz n' F') :: σ.heap.filter fun p => p.1 != A⟩) : ARun P N w0 ops Q (o :: rest) σ := by
  subst hs'
  have one : ∀ {G : Nat → Nat → AV} {m id : Nat} {p : AObj}, List.lookup id [(1000000, AObj.arr sz m G)] = some p → id = 1000000 ∧ p = .arr sz m G := fun hp => by
    rcases lookup_put hp with h | ⟨_, h⟩
    · exact h
    · simp at h
  refine ARun.mut (g := fun _ => A) ho hF hB hp hk (fun id p hp => ?_) (fun id p hp => ?_) (fun k k' q q' hq hq' hne => ?_) (fun id p hp => ?_) (Hn := (A, .arr sz n' F') :: σ.heap.filter fun p => p.1 != A) (fun id p hp => ?_) hgd hd hdN h
  · obtain ⟨rfl, rfl⟩ := one hp; exact ⟨hA, rfl, hsc⟩
  · obtain ⟨h1, h2⟩ := filter_lookup hp; exact ⟨h2, fun _ _ _ => fun e => h1 e.symm⟩
  · exact absurd ((one hq).1.trans (one hq').1.symm) hne
  · obtain ⟨rfl, rfl⟩ := one hp; exact ⟨Nat.le_refl _, ⟨_, rfl⟩, rfl, hsc'⟩
  · rcases lookup_put hp with ⟨rfl, rfl⟩ | ⟨_, h⟩
    · exact .inr ⟨1000000, rfl, rfl⟩
    · exact .inl h
theorem deep_no {id : Nat} : ∀ {x : AV}, x.Deep → x.no id = true
  | .int _ _, _ => rfl
  | .bool _, _ => rfl
  | .str _, _ => rfl
  | .con _, _ => rfl
  | .lst _ _ _, _ => rfl
  | .ref _ _, _ => rfl
  | .ptr _ _ _ _, h => h.elim
  | .own _ _ _, h => h.elim
  | .frs _, h => h.elim
  | .fn _ _ _, h => h.elim
  | .tre _ _, h => h.elim
  | .tl _ _ _ _, h => h.elim
  | .cv _ _, h => h.elim
theorem fn_no {id g m : Nat} {caps : Nat → AV} (hd : ∀ j, j < m → (caps j).Deep) : (SV.one (.fn g m caps)).no id = true := by
  show (List.range m).all (fun j => (caps j).no id) = true
  rw [List.all_eq_true]
  exact fun j hj => deep_no (hd j (List.mem_range.1 hj))
theorem app0 {α : Type} {i : Nat} {a b : α} : (if i < 0 then a else b) = b := if_neg (Nat.not_lt_zero i)
end Go.Proofs.YticinemcmgggpabDoor

/-
  A calculus for walks, part 26: rows of the walk's own that become trees; three results.
-/
namespace Go.Proofs.YticinemcmgggpabDoor
open Go.ChangeShapes Go.WideShapes Go.ChangeAt Go.RowKit Go.BigFrame Go.Deep
set_option linter.unusedVariables false

set_option linter.unusedSimpArgs false
section
variable {P : Program} {N : Nat} {w0 : Start} {σ : Sig} {ops : Array Oper} {rest : List Oper} {o : Oper} {Q : Sig → Prop}
theorem St.closeRow {ρ : Rho} {S : Nat → Prop} {a : Act} {w : World} (hs : St N w0 ρ S σ a w) {t id K n sz m m' : Nat} {ob : AObj} {X : Nat → AV} {g : Nat → Nat → AV} (ht : σ.env.lookup t = some (.one (.own id sz m))) (hob : σ.heap.lookup id = some ob) (hT : ob.isT = false) (hsz : ob.sz = sz) (hm : m ≤ ob.n)
    (hK : σ.heap.lookup K = some (.trees n X)) (hlt : Nat.blt K 1000000 = true) (hX : X n = .lst sz m' g) (hm' : m' = m) (hf : ∀ i j, i < m → j < sz → ob.f i j = g i j) (hg : ∀ i j, i < m → j < sz → (g i j).scl = true) :
    ∃ ρ', St N w0 ρ' S ⟨(t, .one (.tre K n)) :: σ.env, (K, .trees (n + 1) X) :: σ.heap.filter fun p => p.1 != id⟩ a w := by
  have hne : K ≠ id := fun e => by subst e; rw [hK] at hob; cases hob; cases hT
  have hv : R ρ w S (.own id sz m) (a.tmps.getD t undef) := hs.env _ _ ht
  generalize hvv : a.tmps.getD t undef = v at hv
  have hTr : Tr w (X n) v (fp ρ σ.heap fun a _ => a = id) := by
    rw [hX]
    exact Tv.sound hs.mem (Tv.flatN hm' hob hT hsz hm rfl hf hg) hv
  have hlt' : K < 1000000 := by simpa [Nat.blt_eq] using hlt
  have htn : ρ.tn K = n := (hs.mem.tree0 K n X hK).1
  have hbin : ∀ b, fp ρ σ.heap (fun a _ => a = id) b → (ρ id).2 ≠ 0 ∧ (ρ id).1 = b := fun b hb => by
    obtain ⟨a', c', ha, ⟨_, o', ho', _, hc, e⟩ | ⟨n', X', hX', _⟩⟩ := hb
    · subst ha; exact ⟨hc, e⟩
    · subst ha; rw [hob] at hX'; cases hX'; cases hT
  let ρ' : Rho := ⟨ρ.m, ρ.base, fun k q => if k = K ∧ q = n then v else ρ.tv k q, fun k q => if k = K ∧ q = n then fp ρ σ.heap (fun a _ => a = id) else ρ.tb k q, fun k => if k = K then n + 1 else ρ.tn k⟩
  have hAt : ∀ k, k ≠ K → Rho.At ρ ρ' k := fun k hk => ⟨rfl, by funext q; simp [ρ', hk], by funext q; simp [ρ', hk], by simp [ρ', hk]⟩
  have hkeep : ∀ {x : AV} {u : Value}, R ρ w S x u → R ρ' w S x u := by
    intro x
    induction x with
    | tre k i =>
      rintro u ⟨e, hi, hsl⟩
      by_cases hk : k = K
      · subst hk
        refine ⟨?_, ?_, hsl⟩
        · rw [e]; show _ = (if k = k ∧ i = n then _ else _); rw [if_neg (by omega)]
        · show i < (if k = k then _ else _); rw [if_pos rfl]; omega
      · have h1 := hAt k hk
        exact ⟨by rw [h1.v]; exact e, by rw [h1.n]; exact hi, hsl⟩
    | fn g m caps ih =>
      rintro u ⟨vs, e, hm, hc⟩
      refine ⟨vs, e, hm, fun j hj => ?_⟩
      obtain ⟨u, hu, hr⟩ := hc j hj
      exact ⟨u, hu, ih j hr⟩
    | frs x => intro u h; exact h
    | lst _ _ _ => intro u h; exact h
    | ref _ _ => intro u h; exact h
    | int _ _ => exact fun h => h
    | bool _ => exact fun h => h
    | str _ => exact fun h => h
    | con _ => exact fun h => h
    | tl _ _ _ _ => exact fun h => h
    | cv _ _ => intro u h; exact h
    | ptr _ _ _ _ => exact fun h => h
    | own _ _ _ => exact fun h => h
  have hkeepL : ∀ {l : List AV} {us : List Value}, RL ρ w S l us → RL ρ' w S l us := by
    intro l
    induction l with
    | nil => exact fun h => h
    | cons x l ih => rintro us ⟨u, us', e, h1, h2⟩; exact ⟨u, us', e, hkeep h1, ih h2⟩
  have hkeepS : ∀ {s : SV} {u : Value}, RS ρ w S s u → RS ρ' w S s u := by
    intro s
    induction s with
    | one x => exact hkeep
    | agg l => rintro u ⟨us, e, h⟩; exact ⟨us, e, hkeepL h⟩
    | tup2 x y ih1 ih2 => rintro u ⟨a, b, e, h1, h2⟩; exact ⟨a, b, e, ih1 h1, ih2 h2⟩
    | tup4 x y z t ih1 ih2 ih3 ih4 => rintro u ⟨a, b, c, d, e, h1, h2, h3, h4⟩; exact ⟨a, b, c, d, e, ih1 h1, ih2 h2, ih3 h3, ih4 h4⟩
    | tup3 x y z ih1 ih2 ih3 => rintro u ⟨a, b, c, e, h1, h2, h3⟩; exact ⟨a, b, c, e, ih1 h1, ih2 h2, ih3 h3⟩
    | gd b s ih => rintro u ⟨h1, h2⟩; exact ⟨fun hb => ih (h1 hb), h2⟩
  have conv : ∀ {k p}, ((K, AObj.trees (n + 1) X) :: σ.heap.filter fun p => p.1 != id).lookup k = some p → k ≠ id ∧ ∃ p', σ.heap.lookup k = some p' ∧ (k ≠ K → p' = p) := fun {k p} hp => by
    rcases lookup_put hp with ⟨rfl, rfl⟩ | ⟨hk, hp⟩
    · exact ⟨hne, _, hK, fun h => absurd rfl h⟩
    · obtain ⟨f1, f2⟩ := filter_lookup hp
      exact ⟨f1, p, f2, fun _ => rfl⟩
  refine ⟨ρ', ⟨hs.size, hs.defers, ⟨hs.below.old, hs.below.same, fun k hk => (hs.below.ids k hk).trans (hAt k (by omega))⟩, ⟨hs.mem.base, hs.mem.low, hs.mem.lt, ?_, ?_, ?_, ?_⟩, fun t' s ht' => ?_⟩⟩
  · intro k p hp
    rcases lookup_put hp with ⟨rfl, rfl⟩ | ⟨_, hp⟩
    · exact Nat.zero_le _
    · exact hs.mem.cap k p (filter_lookup hp).2
  · intro k p hp hc
    rcases lookup_put hp with ⟨rfl, rfl⟩ | ⟨_, hp⟩
    · obtain ⟨cs, e, h1, h2, h3, h4, h5, h6, h7⟩ := hs.mem.obj k _ hK hc
      exact ⟨cs, e, h1, h2, h3, h4, h5, h6, fun i j hi => absurd hi (Nat.not_lt_zero _)⟩
    · obtain ⟨cs, e, h1, h2, h3, h4, h5, h6, h7⟩ := hs.mem.obj k p (filter_lookup hp).2 hc
      refine ⟨cs, e, h1, h2, h3, h4, h5, h6, fun i j hi hj => ?_⟩
      obtain ⟨u, hu, hr⟩ := h7 i j hi hj
      exact ⟨u, hu, hkeep hr⟩
  · intro k k' p p' hp hp' hne' hc hc'
    obtain ⟨_, q, hq, _⟩ := conv hp
    obtain ⟨_, q', hq', _⟩ := conv hp'
    exact hs.mem.inj k k' q q' hq hq' hne' hc hc'
  · intro k m2 Y hY
    have cell : ∀ k m2 Y, ((K, AObj.trees (n + 1) X) :: σ.heap.filter fun p => p.1 != id).lookup k = some (.trees m2 Y) → ∀ i, i < m2 → (∃ m3 Y3, σ.heap.lookup k = some (.trees m3 Y3) ∧ i < m3 ∧ Y i = Y3 i ∧ ρ'.tv k i = ρ.tv k i ∧ ρ'.tb k i = ρ.tb k i ∧ k ≠ id) ∨ (k = K ∧ i = n ∧ Y i = X n ∧ ρ'.tv k i = v ∧ ρ'.tb k i = fp ρ σ.heap (fun a _ => a = id)) := by
      intro k m2 Y hY i hi
      rcases lookup_put hY with ⟨rfl, e⟩ | ⟨hk, hY⟩
      · cases e
        by_cases hin : i < n
        · exact .inl ⟨n, X, hK, hin, rfl, if_neg (by omega), if_neg (by omega), hne⟩
        · obtain rfl : i = n := by omega
          exact .inr ⟨rfl, rfl, rfl, if_pos ⟨rfl, rfl⟩, if_pos ⟨rfl, rfl⟩⟩
      · obtain ⟨f1, f2⟩ := filter_lookup hY
        exact .inl ⟨m2, Y, f2, hi, rfl, by rw [(hAt k hk).v], by rw [(hAt k hk).b], f1⟩
    refine ⟨?_, fun i hi => ?_⟩
    · rcases lookup_put hY with ⟨rfl, e⟩ | ⟨hk, hY⟩
      · cases e
        show (if k = k then _ else _) = _
        rw [if_pos rfl]
      · rw [(hAt k hk).n]; exact (hs.mem.tree0 k m2 Y (filter_lookup hY).2).1
    rcases cell k m2 Y hY i hi with ⟨m3, Y3, g1, g2, g3, g4, g5, g6⟩ | ⟨rfl, rfl, g3, g4, g5⟩
    · obtain ⟨t1, t2⟩ := hs.mem.tree k m3 Y3 g1 i g2
      rw [g3, g4, g5]
      refine ⟨t1, fun b hb => ?_⟩
      obtain ⟨q1, q2, q3, q4, q5⟩ := t2 b hb
      refine ⟨q1, q2, q3, fun k' p hp hc => ?_, fun k' m4 Y4 i' hY4 hi' hne' => ?_⟩
      · obtain ⟨_, p', hp', _⟩ := conv hp
        exact q4 k' p' hp' hc
      · rcases cell k' m4 Y4 hY4 i' hi' with ⟨m5, Y5, f1, f2, f3, f4, f5, f6⟩ | ⟨rfl, rfl, f3, f4, f5⟩
        · rw [f5]; exact q5 k' m5 Y5 i' f1 f2 hne'
        · rw [f5]
          intro hb'
          obtain ⟨c1, c2⟩ := hbin b hb'
          exact q4 id ob hob c1 c2
    · rw [g3, g4, g5]
      refine ⟨hTr, fun b hb => ?_⟩
      obtain ⟨q1, q2, q3⟩ := fp_in hs.mem hb
      obtain ⟨c1, c2⟩ := hbin b hb
      refine ⟨q1, q2, q3, fun k' p hp hc => ?_, fun k' m4 Y4 i' hY4 hi' hne' => ?_⟩
      · obtain ⟨f1, p', hp', _⟩ := conv hp
        rw [← c2]
        exact hs.mem.inj k' id p' ob hp' hob f1 hc c1
      · rcases cell k' m4 Y4 hY4 i' hi' with ⟨m5, Y5, f1, f2, f3, f4, f5, f6⟩ | ⟨rfl, rfl, f3, f4, f5⟩
        · rw [f5]
          intro hb'
          exact ((hs.mem.tree k' m5 Y5 f1 i' f2).2 b hb').2.2.2.1 id ob hob c1 c2
        · exact absurd ⟨rfl, rfl⟩ hne'
  · rcases lookup_put ht' with ⟨rfl, rfl⟩ | ⟨_, ht2⟩
    · refine ⟨?_, ?_, ?_⟩
      · show a.tmps.getD _ undef = (if K = K ∧ n = n then v else _)
        rw [if_pos ⟨rfl, rfl⟩]; exact hvv
      · show n < (if K = K then n + 1 else _)
        rw [if_pos rfl]; omega
      · obtain ⟨A, e, _⟩ := hv
        exact ⟨A, _, _, hvv.trans e⟩
    · exact hkeepS (hs.env t' s ht2)
theorem ARun.closeRow (t id K n sz m : Nat) {m' : Nat} {ob : AObj} {X : Nat → AV} {g : Nat → Nat → AV} (ht : σ.env.lookup t = some (.one (.own id sz m))) (hob : σ.heap.lookup id = some ob) (hT : ob.isT = false) (hsz : ob.sz = sz) (hm : m ≤ ob.n)
    (hK : σ.heap.lookup K = some (.trees n X)) (hlt : Nat.blt K 1000000 = true) (hX : X n = .lst sz m' g) (hm' : m' = m) (hf : ∀ i j, i < m → j < sz → ob.f i j = g i j) (hg : ∀ i j, i < m → j < sz → (g i j).scl = true)
    (h : ARun P N w0 ops Q rest ⟨(t, .one (.tre K n)) :: σ.env, (K, .trees (n + 1) X) :: σ.heap.filter fun p => p.1 != id⟩) : ARun P N w0 ops Q rest σ := by
  intro ρ S a w Q' hQ hs
  obtain ⟨ρ', hs'⟩ := hs.closeRow ht hob hT hsz hm hK hlt hX hm' hf hg
  exact h ρ' S a w Q' hQ hs'
theorem PureOp.ext4a {x : Operand} {s u v t : SV} (ho : o.op = .extract x 0) (hx : Kn σ x (.tup4 s u v t)) : PureOp P o σ s := by
  refine PureOp.val fun N w0 ρ S ac w hs => ?_
  obtain ⟨a, b, c, d, e1, h1, h2, h3, h4⟩ := hx.sound hs
  refine ⟨a, h1, fun w' _ => ?_⟩
  generalize ac.eval = ev at e1 ⊢
  simp [execOp, ho, e1, Instr.extract, go_sem]
theorem PureOp.ext4b {x : Operand} {s u v t : SV} (ho : o.op = .extract x 1) (hx : Kn σ x (.tup4 s u v t)) : PureOp P o σ u := by
  refine PureOp.val fun N w0 ρ S ac w hs => ?_
  obtain ⟨a, b, c, d, e1, h1, h2, h3, h4⟩ := hx.sound hs
  refine ⟨b, h2, fun w' _ => ?_⟩
  generalize ac.eval = ev at e1 ⊢
  simp [execOp, ho, e1, Instr.extract, go_sem]
theorem PureOp.ext4c {x : Operand} {s u v t : SV} (ho : o.op = .extract x 2) (hx : Kn σ x (.tup4 s u v t)) : PureOp P o σ v := by
  refine PureOp.val fun N w0 ρ S ac w hs => ?_
  obtain ⟨a, b, c, d, e1, h1, h2, h3, h4⟩ := hx.sound hs
  refine ⟨c, h3, fun w' _ => ?_⟩
  generalize ac.eval = ev at e1 ⊢
  simp [execOp, ho, e1, Instr.extract, go_sem]
theorem PureOp.ext4d {x : Operand} {s u v t : SV} (ho : o.op = .extract x 3) (hx : Kn σ x (.tup4 s u v t)) : PureOp P o σ t := by
  refine PureOp.val fun N w0 ρ S ac w hs => ?_
  obtain ⟨a, b, c, d, e1, h1, h2, h3, h4⟩ := hx.sound hs
  refine ⟨d, h4, fun w' _ => ?_⟩
  generalize ac.eval = ev at e1 ⊢
  simp [execOp, ho, e1, Instr.extract, go_sem]
theorem PureOp.ext3a {x : Operand} {s u v : SV} (ho : o.op = .extract x 0) (hx : Kn σ x (.tup3 s u v)) : PureOp P o σ s := by
  refine PureOp.val fun N w0 ρ S ac w hs => ?_
  obtain ⟨a, b, c, e1, h1, h2, h3⟩ := hx.sound hs
  refine ⟨a, h1, fun w' _ => ?_⟩
  generalize ac.eval = ev at e1 ⊢
  simp [execOp, ho, e1, Instr.extract, go_sem]
theorem PureOp.ext3b {x : Operand} {s u v : SV} (ho : o.op = .extract x 1) (hx : Kn σ x (.tup3 s u v)) : PureOp P o σ u := by
  refine PureOp.val fun N w0 ρ S ac w hs => ?_
  obtain ⟨a, b, c, e1, h1, h2, h3⟩ := hx.sound hs
  refine ⟨b, h2, fun w' _ => ?_⟩
  generalize ac.eval = ev at e1 ⊢
  simp [execOp, ho, e1, Instr.extract, go_sem]
theorem PureOp.ext3c {x : Operand} {s u v : SV} (ho : o.op = .extract x 2) (hx : Kn σ x (.tup3 s u v)) : PureOp P o σ v := by
  refine PureOp.val fun N w0 ρ S ac w hs => ?_
  obtain ⟨a, b, c, e1, h1, h2, h3⟩ := hx.sound hs
  refine ⟨c, h3, fun w' _ => ?_⟩
  generalize ac.eval = ev at e1 ⊢
  simp [execOp, ho, e1, Instr.extract, go_sem]
end
/-- A row whose column c lies in a family, one tree a row. -/
theorem Tv.colK {H : Heap} {id K sz n n' c : Nat} {o : AObj} {g : Nat → Nat → AV} {X : Nat → AV} {U : Nat → Nat → Prop} (hn' : n' = n) (ho : H.lookup id = some o) (hT : o.isT = false) (hs : o.sz = sz) (hn : n ≤ o.n) (hU : U id 0)
    (hc : ∀ i j, i < n → j < sz → j ≠ c → o.f i j = g i j ∧ (g i j).scl = true) (hk : ∀ i, i < n → o.f i c = .tre K i ∧ X i = g i c) (hK : H.lookup K = some (.trees n X)) (hne : K ≠ id) (hUK : ∀ b, U K b) : Tv H (.own id sz n) (.lst sz n' g) U := by
  subst hn'
  refine .own (fun i j a b => j = c ∧ a = K ∧ b = i) ho hT hs hn hU (fun i j hi hj => ?_) (fun i j a b _ _ h => ⟨h.2.1 ▸ hUK b, h.2.1 ▸ hne⟩) (fun i j i' j' _ _ _ _ hne' a b h h' => hne' ⟨h.2.2.symm.trans h'.2.2, h.1.trans h'.1.symm⟩)
  by_cases hjc : j = c
  · subst hjc
    obtain ⟨h1, h2⟩ := hk i hi
    rw [h1, ← h2]
    exact .tre hK hi ⟨rfl, rfl, rfl⟩
  · obtain ⟨h1, h2⟩ := hc i j hi hj hjc
    rw [h1]; exact Tv.scl h2
end Go.Proofs.YticinemcmgggpabDoor

/-
  A calculus for walks, part 27: conversions between int and uint64, a shift by one; how strings compare.
-/
namespace Go.Proofs.YticinemcmgggpabDoor
open Go.ChangeShapes Go.WideShapes Go.ChangeAt Go.RowKit Go.BigFrame Go.Deep
set_option linter.unusedVariables false

set_option linter.unusedSimpArgs false
def convB (P : Program) (s t : Nat) (k : IntKind) : Bool := (P.underlying s).isSome && match P.underlying t with | some (.int k') => decide (k' = k) | _ => false
theorem convB_spec {P : Program} {s t : Nat} {k : IntKind} (h : convB P s t k = true) : (P.underlying s).isSome = true ∧ P.underlying t = some (.int k) := by
  unfold convB at h
  rw [Bool.and_eq_true] at h
  refine ⟨h.1, ?_⟩
  have h2 := h.2
  split at h2
  · rename_i k' e; rw [e, of_decide_eq_true h2]
  · cases h2
theorem PureOp.conv {P : Program} {σ : Sig} {o : Oper} {s t : TypeId} {x : Operand} {k k' : IntKind} {a b : Int} (ho : o.op = .convert s t x) (hx : Kn σ x (.one (.int k a))) (hT : convB P s t k' = true) (hb : k'.wrap a = b) : PureOp P o σ (.one (.int k' b)) := by
  refine PureOp.val fun N w0 ρ S ac w hs => ?_
  have e1 : ac.eval x = .int k a := hx.sound hs
  obtain ⟨h1, h2⟩ := convB_spec hT
  have hk : P.intKind t = k' := by simp only [Program.intKind, h2]
  refine ⟨_, rfl, fun w' _ => ?_⟩
  generalize ac.eval = ev at e1 ⊢
  simp only [execOp, ho, e1, Sem.run_bind, Result.andThen_ok]
  have := run_convert_int (P := P) w' s t k a h1 (by rw [h2, hk])
  rw [this, hk, hb]; rfl
theorem wrap_u64 {n : Int} (h1 : 0 ≤ n) (h2 : n ≤ 9223372036854775807) : IntKind.u64.wrap n = n := by rw [IntKind.wrap_u64]; omega
theorem PureOp.shr1 {P : Program} {σ : Sig} {o : Oper} {t t' : TypeId} {x y : Operand} {k : IntKind} {a : Nat} (ho : o.op = .binOp .shr t x y t') (hx : Kn σ x (.one (.int .u64 (a : Int)))) (hy : Kn σ y (.one (.int k 1))) : PureOp P o σ (.one (.int .u64 ((a / 2 : Nat) : Int))) := by
  refine PureOp.val fun N w0 ρ S ac w hs => ?_
  have e1 : ac.eval x = .int .u64 (a : Int) := hx.sound hs
  have e2 : ac.eval y = .int k 1 := hy.sound hs
  refine ⟨_, rfl, fun w' _ => ?_⟩
  generalize ac.eval = ev at e1 e2 ⊢
  simp only [execOp, ho, e1, e2, Sem.run_bind, eqGuard_int, Result.andThen_ok, binOp_shr]
  rw [shift_shr_u64 k (a : Int) 1 (by decide) (by decide)]
  simp [go_sem]
open Go.Op in
theorem cmp_lt : ∀ a b : List UInt8, Lib.compareBytes a b < 0 ↔ bytesLess a b = true
  | [], [] => by simp [Lib.compareBytes, bytesLess]
  | [], _ :: _ => by simp [Lib.compareBytes, bytesLess]
  | _ :: _, [] => by simp [Lib.compareBytes, bytesLess]
  | x :: a, y :: b => by
    have ih := cmp_lt a b
    simp only [Lib.compareBytes, bytesLess]
    by_cases h : x < y
    · simp [h]
    · by_cases h2 : y < x
      · simp [h, h2]
        intro e; subst e; exact absurd h2 h
      · have e : x = y := UInt8.le_antisymm (UInt8.not_lt.1 h2) (UInt8.not_lt.1 h)
        subst e
        simp [h, ih]
theorem cmp_zero : ∀ a b : List UInt8, Lib.compareBytes a b = 0 ↔ a = b
  | [], [] => by simp [Lib.compareBytes]
  | [], _ :: _ => by simp [Lib.compareBytes]
  | _ :: _, [] => by simp [Lib.compareBytes]
  | x :: a, y :: b => by
    have ih := cmp_zero a b
    simp only [Lib.compareBytes]
    by_cases h : x < y
    · simp [h]; intro e; subst e; exact absurd h (UInt8.lt_irrefl _)
    · by_cases h2 : y < x
      · simp [h, h2]; intro e; subst e; exact absurd h2 h
      · have e : x = y := UInt8.le_antisymm (UInt8.not_lt.1 h2) (UInt8.not_lt.1 h)
        subst e
        simp [h, ih]
open Go.Op in
theorem less_trans : ∀ {a b c : List UInt8}, bytesLess a b = true → bytesLess b c = true → bytesLess a c = true
  | [], [], _, h, _ => by cases h
  | _ :: _, [], _, h, _ => by cases h
  | [], _ :: _, [], _, h => by cases h
  | _ :: _, _ :: _, [], _, h => by cases h
  | [], _ :: _, _ :: _, _, _ => rfl
  | x :: a, y :: b, z :: c, h1, h2 => by
    simp only [bytesLess, Bool.or_eq_true, Bool.and_eq_true, decide_eq_true_eq, beq_iff_eq] at h1 h2 ⊢
    rcases h1 with h1 | ⟨rfl, h1⟩ <;> rcases h2 with h2 | ⟨rfl, h2⟩
    · exact .inl (UInt8.lt_trans h1 h2)
    · exact .inl h1
    · exact .inl h2
    · exact .inr ⟨rfl, less_trans h1 h2⟩
open Go.Op in
theorem less_irrefl : ∀ a : List UInt8, bytesLess a a = false
  | [] => rfl
  | x :: a => by simp [bytesLess, less_irrefl a]
/-- The order of two strings as Go's Compare tells it. -/
def cmpS (a b : ByteArray) : Int := Lib.compareBytes a.data.toList b.data.toList
theorem cmpS_lt (a b : ByteArray) : cmpS a b < 0 ↔ Op.bytesLess a.toList b.toList = true := by
  rw [ByteArray.toList_eq, ByteArray.toList_eq]; exact cmp_lt _ _
theorem cmpS_zero (a b : ByteArray) : cmpS a b = 0 ↔ a = b := by
  unfold cmpS; rw [cmp_zero]
  constructor
  · intro h; cases a; cases b; simp at h; subst h; rfl
  · intro h; rw [h]
end Go.Proofs.YticinemcmgggpabDoor

/-
  A calculus for walks, part 28: the tail of a row of the walk's own (a queue).
-/
namespace Go.Proofs.YticinemcmgggpabDoor
open Go.ChangeShapes Go.WideShapes Go.ChangeAt Go.RowKit Go.BigFrame Go.Deep
set_option linter.unusedVariables false

set_option linter.unusedSimpArgs false
section
variable {P : Program} {σ : Sig} {o : Oper}
/-- Behind the first entries. -/
theorem PureOp.dropOwn {t : TypeId} {x y : Operand} {id sz n k : Nat} {m : Int} {kd : IntKind} (ho : o.op = .slice t x (some y) none none) (hx : Kn σ x (.one (.own id sz n))) (hy : Kn σ y (.one (.int kd m))) (hm : m = (k : Int)) (hk : k ≤ n) (ht : elemB P t sz = true) : PureOp P o σ (.one (.tl id sz k n)) := by
  subst hm
  refine PureOp.val fun N w0 ρ S ac w hs => ?_
  obtain ⟨A, e1, h1, h2, h3⟩ := hx.sound hs
  have e2 : ac.eval y = .int kd (k : Int) := hy.sound hs
  obtain ⟨e, i, hu, hi, hsz⟩ := elemB_spec ht
  refine ⟨.slice (if (ρ id).2 = k then A else A.map (·.add (k * i.size))) (n - k) ((ρ id).2 - k), ⟨_, rfl, hk, h1, h2, ?_⟩, fun w' _ => ?_⟩
  · by_cases hc : (ρ id).2 = k
    · exact .inr (by omega)
    · left
      rw [if_neg hc]
      rcases h3 with rfl | ⟨rfl, h0⟩
      · rw [← hsz]; simp [Addr.add]; try (intro h; exact h.symm)
      · omega
  generalize ac.eval = ev at e1 e2 ⊢
  have hle : (0 : Int) ≤ (k : Int) ∧ (k : Int) ≤ (n : Int) := by omega
  have hk2 : (k : Int) ≤ (n : Int) := hle.2
  have hr : (Instr.sliceAt t (.slice A n (ρ id).2) (some (.int kd (k : Int))) none none).run P w' = .ok (.slice (if (ρ id).2 = k then A else A.map (·.add (k * i.size))) (n - k) ((ρ id).2 - k)) w' := by
    simp [Instr.sliceAt, Instr.slice, run_underlying hu, Instr.sliceBounds, Instr.sliceBound, asIntOf, hk2, hk, run_sizeOf' hi, go_sem]
    try (intro hlt; omega)
  simp only [execOp, ho, e1, e2, Option.map_some, Option.map_none]
  rw [Sem.run_bind, hr]
  rfl
theorem PureOp.dropTl {t : TypeId} {x y : Operand} {id sz q n k : Nat} {m : Int} {kd : IntKind} (ho : o.op = .slice t x (some y) none none) (hx : Kn σ x (.one (.tl id sz q n))) (hy : Kn σ y (.one (.int kd m))) (hm : m = (k : Int)) (hk : q + k ≤ n) (ht : elemB P t sz = true) : PureOp P o σ (.one (.tl id sz (q + k) n)) := by
  subst hm
  refine PureOp.val fun N w0 ρ S ac w hs => ?_
  obtain ⟨A, e1, h0, h1, h2, h3⟩ := hx.sound hs
  have e2 : ac.eval y = .int kd (k : Int) := hy.sound hs
  obtain ⟨e, i, hu, hi, hsz⟩ := elemB_spec ht
  refine ⟨.slice (if (ρ id).2 - q = k then A else A.map (·.add (k * i.size))) (n - q - k) ((ρ id).2 - q - k), ⟨_, by rw [Nat.sub_sub, Nat.sub_sub], hk, h1, h2, ?_⟩, fun w' _ => ?_⟩
  · by_cases hc : (ρ id).2 - q = k
    · exact .inr (by omega)
    · left
      rw [if_neg hc]
      rcases h3 with rfl | h3
      · rw [← hsz]; simp [Addr.add, Nat.add_mul]; try (intro h; omega)
      · omega
  generalize ac.eval = ev at e1 e2 ⊢
  have hle : (0 : Int) ≤ (k : Int) ∧ (k : Int) ≤ ((n - q : Nat) : Int) := by omega
  have hk2 : (k : Int) ≤ ((n - q : Nat) : Int) := hle.2
  have hr : (Instr.sliceAt t (.slice A (n - q) ((ρ id).2 - q)) (some (.int kd (k : Int))) none none).run P w' = .ok (.slice (if (ρ id).2 - q = k then A else A.map (·.add (k * i.size))) (n - q - k) ((ρ id).2 - q - k)) w' := by
    simp [Instr.sliceAt, Instr.slice, run_underlying hu, Instr.sliceBounds, Instr.sliceBound, asIntOf, hk2, hk, show k ≤ n - q by omega, run_sizeOf' hi, go_sem]
    try (intro hlt; omega)
  simp only [execOp, ho, e1, e2, Option.map_some, Option.map_none]
  rw [Sem.run_bind, hr]
  rfl
theorem PureOp.lenTl {t : TypeId} {x : Operand} {id sz q n : Nat} (ho : o.op = .call { callee := .builtin .len, args := #[x], argTypes := #[t] }) (hx : Kn σ x (.one (.tl id sz q n))) (ht : sliceB P t = true) : PureOp P o σ (.one (.int .i64 ((n - q : Nat) : Int))) := by
  refine PureOp.val fun N w0 ρ S ac w hs => ?_
  obtain ⟨A, e1, _⟩ := hx.sound hs
  obtain ⟨e, he⟩ := sliceB_spec ht
  refine ⟨_, rfl, fun w' _ => ?_⟩
  generalize ac.eval = ev at e1 ⊢
  simp [execOp, ho, e1, resolve, invoke, builtin, Builtin.len_, run_underlying he, goInt, go_sem]
theorem PureOp.indexTl {t : Nat} {x y : Operand} {k : IntKind} {id sz q n i : Nat} {m : Int} (ho : o.op = .indexAddr t x y) (h : Kn σ x (.one (.tl id sz q n))) (hE : elemB P t sz = true) (hy : Kn σ y (.one (.int k m)))
    (hm : m = (i : Int)) (hlt : q + i < n) : PureOp P o σ (.one (.ptr id sz (q + i) 0)) := by
  refine PureOp.val fun N w0 ρ S a w hs => ?_
  obtain ⟨A, e, hq, hn1, _, hA⟩ := h.sound hs
  obtain rfl : A = some ⟨(ρ id).1, q * sz, none⟩ := by rcases hA with hA | hA; (· exact hA); (· omega)
  have e2 : a.eval y = _ := hy.sound hs
  refine ⟨.pointer (some ⟨(ρ id).1, (q + i) * sz + 0, none⟩), rfl, fun w' _ => ?_⟩
  subst hm
  generalize a.eval = ev at e e2 ⊢
  simp only [execOp, ho, e, e2, Sem.run_bind, indexAt_run hE _ (show i < n - q by omega)]
  simp [go_sem, Result.andThen, Addr.add, Nat.add_mul]
/-- A whole row as a tail. -/
theorem R.asTl {ρ : Rho} {w : World} {S : Nat → Prop} {id sz n : Nat} {v : Value} (h : R ρ w S (.own id sz n) v) : R ρ w S (.tl id sz 0 n) v := by
  obtain ⟨A, e, h1, h2, h3⟩ := h
  refine ⟨A, by rw [e]; rfl, Nat.zero_le _, h1, h2, ?_⟩
  rcases h3 with h3 | ⟨_, h3⟩
  · left; rw [h3, Nat.zero_mul]
  · exact .inr h3
end
section
variable {P : Program} {N : Nat} {w0 : Start} {σ : Sig} {ops : Array Oper} {rest : List Oper} {o : Oper} {Q : Sig → Prop}
/-- An own row in a slot, read as a tail. -/
theorem AW.asTl {c : Code} {Q2 : Exit → Sig → Prop} (t id sz n : Nat) (ht : σ.env.lookup t = some (.one (.own id sz n))) (hk : AW P N w0 c Q2 ⟨(t, .one (.tl id sz 0 n)) :: σ.env, σ.heap⟩) : AW P N w0 c Q2 σ := by
  intro ρ S a w Q' hQ hs
  refine hk ρ S a w Q' hQ ⟨hs.size, hs.defers, hs.below, hs.mem, fun t' s ht' => ?_⟩
  rcases lookup_put ht' with ⟨rfl, rfl⟩ | ⟨_, ht'⟩
  · exact R.asTl (hs.env _ _ ht)
  · exact hs.env t' s ht'
theorem ARun.appendTl {t t2 : TypeId} {x y : Operand} {d id k sz q n m by_ : Nat} {z : Value} {ob : AObj} {g h : Nat → Nat → AV} (ho : o.op = .call { callee := .builtin .append, args := #[x, y], argTypes := #[t, t2] })
    (hz : elemZ P t = some (some z, sz, by_)) (hzc : z.cells.size = sz) (ht : sliceB P t2 = true) (hx : Kn σ x (.one (.tl k sz q n))) (hob : σ.heap.lookup k = some ob) (hT : ob.isT = false) (hs0 : ob.sz = sz) (hn0 : n ≤ ob.n) (hy : KnR σ y sz m g) (hsz : 0 < sz) (hoc : ∀ i j, i < m → j < sz → (g i j).oc = true)
    (hsc : ∀ i j, (ob.f i j).scl = true) (hscg : ∀ i j, (g i j).scl = true)
    (hh : ∀ i j, i < n - q + m → j < sz → h i j = if i < n - q then ob.f (q + i) j else g (i - (n - q)) j) (hlim : (n + m) * by_ ≤ 140737488355328) (h63 : n + m ≤ 9223372036854775807) (hf : Fr id σ) (hno : ∀ i j, (h i j).no id = true)
    (hg : o.guard = none) (hd : o.dst = some d) (hN : d < N) (hk : ∀ (q' : Nat) (h' : Nat → Nat → AV), (∀ i j, (h' i j).scl = true) → q' ≤ q → (∀ i j, i < n - q + m → j < sz → h' (q' + i) j = h i j) → ARun P N w0 ops Q rest ⟨(d, .one (.tl id sz q' (q' + (n - q + m)))) :: σ.env, (id, .arr sz (q' + (n - q + m)) h') :: σ.heap.filter fun p => p.1 != k⟩) : ARun P N w0 ops Q (o :: rest) σ := by
  intro ρ S a w Q' hQ hs
  refine wpList_plain hg fun K hK => ?_
  obtain ⟨e, i, hu, hi, hz0, hz1, hz2⟩ := elemZ_spec hz
  subst hz1 hz2
  obtain ⟨news, hsrc, hnews⟩ := hy.src (P := P) hs hsz hoc ht
  have hnl : news.length = m * i.size := hsrc.newsLen
  obtain ⟨A, ev, hq, hnc, hcm, hA⟩ := hx.sound hs
  generalize hHn' : σ.heap.filter (fun p => p.1 != k) = Hn at hk
  have hHsub : ∀ {k' p}, Hn.lookup k' = some p → σ.heap.lookup k' = some p ∧ k' ≠ k := fun hk' => by
    rw [← hHn'] at hk'
    exact ⟨(filter_lookup hk').2, (filter_lookup hk').1⟩
  have fin : ∀ (q' : Nat) (h' : Nat → Nat → AV) (v : Value) (w' : World) (ρ' : Rho), (∀ i j, (h' i j).scl = true) → q' ≤ q → (∀ r j, r < n - q + m → j < i.size → h' (q' + r) j = h r j) → (Builtin.append_ #[t, t2] o.type #[a.eval x, a.eval y]).run P w = .ok v w' →
      St N w0 ρ' S ⟨σ.env, (id, .arr i.size (q' + (n - q + m)) h') :: Hn⟩ a w' → R ρ' w' S (.tl id i.size q' (q' + (n - q + m))) v → o.wp P a w K Q' := by
    intro q' h' v w' ρ' h0 h1 h2 hrun hst hv
    have hr2 : (execOp a.eval o).run P w = .ok (.value v) w' := by
      generalize a.eval = ev at hrun
      simp only [execOp, ho, resolve, Sem.run_bind, Sem.run_pure, Result.andThen_ok, invoke, builtin, List.map_toArray, List.map_cons, List.map_nil, Array.empty_append, hrun]
    unfold Oper.wp
    rw [hr2]
    simp only [Oper.upon, hd]
    exact hK _ _ (hk q' h' h0 h1 h2 ρ' S _ _ Q' hQ (hst.put hN hv))
  have hnoS : ∀ {x : AV}, x.scl = true → x.no id = true := fun hx => scl_no hx id
  have hscH : ∀ (i0 : Nat) (f0 : Nat → Nat → AV) (hf0 : ∀ i j, (f0 i j).scl = true) r j, ((if r < i0 then f0 r j else g (r - i0) j) : AV).scl = true := fun i0 f0 hf0 r j => by split; (· exact hf0 r j); (· exact hscg _ _)
  by_cases hroom : n - q + m ≤ (ρ k).2 - q ∧ q < (ρ k).2
  · -- there is room
    have hc : (ρ k).2 ≠ 0 := by omega
    have hA' : A = some ⟨(ρ k).1, q * i.size, none⟩ := by rcases hA with h | h; (· exact h); (· omega)
    subst hA'
    obtain ⟨cs, e', hblk, hcsz, h3, h4, hbb, hbS, hcells⟩ := hs.mem.obj k ob hob hc
    rw [hs0] at hcsz hcells
    have hroom' : n + m ≤ (ρ k).2 := by omega
    have hin : ∀ j, j < news.length → n * i.size + j < cs.size := fun j hj => by
      rw [hnl] at hj
      have : (n + m) * i.size ≤ (ρ k).2 * i.size := Nat.mul_le_mul_right _ hroom'
      rw [Nat.add_mul] at this
      omega
    have hoff : q * i.size + (n - q) * i.size = n * i.size := by rw [← Nat.add_mul]; congr 1; omega
    have hrun := run_append_room_src (P := P) w t t2 o.type e i hu hi (ρ k).1 (q * i.size) (n - q) ((ρ k).2 - q) (a.eval y) m news hsrc hroom.1 (fun j hj => by
        rw [hoff]
        have := hin j hj
        simp [World.cell?, hblk, this]) (fun j hj => by simp [World.frozen?, hblk])
    rw [hoff] at hrun
    obtain ⟨hb1, hb2⟩ := below_setCells hbb (vs := news) (o := n * i.size) (w := w)
    obtain ⟨cs', g1, g2, g3, g4⟩ := heap_setCells_at (vs := news) (o := n * i.size) hblk
    have hother : ∀ k', k' ≠ (ρ k).1 → (w.setCells (ρ k).1 (n * i.size) news).heap[k']? = w.heap[k']? := fun k' hk' => heap_setCells_other hk'
    have hsame : Same S w S (w.setCells (ρ k).1 (n * i.size) news) := ⟨fun _ h => h, fun k' hk' => hother k' fun e => hbS (e ▸ hk')⟩
    have hin1 : ∀ k' p, Hn.lookup k' = some p → (ρ k').2 ≠ 0 → (ρ k').1 ≠ (ρ k).1 := fun k' p hp hc' => hs.mem.inj k' k p ob (hHsub hp).1 hob (hHsub hp).2 hc' hc
    have hin2 : ∀ k' n' X r b', Hn.lookup k' = some (.trees n' X) → r < n' → ρ.tb k' r b' → b' ≠ (ρ k).1 := fun k' n' X r b' hX hr hb' e => ((hs.mem.tree k' n' X (hHsub hX).1 r hr).2 b' hb').2.2.2.1 k ob hob hc e.symm
    generalize hbk : (ρ k).1 = b at *
    generalize hck : (ρ k).2 = c at *
    have hid : ∀ {k'}, (∃ p, Hn.lookup k' = some p) → k' ≠ id := fun ⟨p, hp⟩ e => (hf.heap.get (hHsub hp).1).1 e
    refine fin q (fun r j => if r < n then ob.f r j else g (r - n) j) _ _ ⟨fun k' => if k' = id then (b, c) else ρ k', ρ.base, ρ.tv, ρ.tb, ρ.tn⟩ (hscH n _ hsc) (Nat.le_refl _) (fun r j hr hj => by
        rw [hh r j hr hj]
        by_cases h1 : r < n - q
        · rw [if_pos h1, if_pos (by omega)]
        · rw [if_neg h1, if_neg (by omega)]; congr 1; omega) (by rw [ev]; exact hrun) ?_ ?_
    · have hρ : ∀ k', k' ≠ id → (if k' = id then (b, c) else ρ k') = ρ k' := fun k' hk' => if_neg hk'
      have hρA : ∀ k', k' ≠ id → Rho.At ρ ⟨fun k' => if k' = id then (b, c) else ρ k', ρ.base, ρ.tv, ρ.tb, ρ.tn⟩ k' := fun k' hk' => ⟨hρ k' hk', rfl, rfl, rfl⟩
      have hkeep : ∀ {x : AV} {u : Value}, x.no id = true → R ρ w S x u → R ⟨fun k' => if k' = id then (b, c) else ρ k', ρ.base, ρ.tv, ρ.tb, ρ.tn⟩ (w.setCells b (n * i.size) news) S x u := fun {x u} hx hr => hr.keep (ρ := ρ) hsame ⟨rfl, fun r => by
        by_cases hq : r = id
        · subst hq; exact .inr hx
        · exact .inl (hρA r hq)⟩
      refine ⟨hs.size, hs.defers, ⟨hs.below.old.trans hb1, hs.below.same.trans hsame, fun k' hk' => (hs.below.ids k' hk').trans (hρA k' (fun e => by have := hf.small; omega))⟩, ⟨hs.mem.base, by rw [hb2]; exact hs.mem.low, fun k' hk' => by rw [hb2]; exact hs.mem.lt k' hk', ?_, ?_, ?_, ?_⟩, fun t s ht => (hs.env t s ht).keep (ρ := ρ) hsame ⟨rfl, fun r => by
        by_cases hq : r = id
        · subst hq; exact .inr (List.all_eq_true.1 hf.env _ (lookup_mem ht))
        · exact .inl (hρA r hq)⟩⟩
      · intro k' p hp
        rcases lookup_put hp with ⟨rfl, rfl⟩ | ⟨hne, hp⟩
        · simp only [AObj.n, if_true]; omega
        · simp only [hρ k' hne]; exact hs.mem.cap k' p (hHsub hp).1
      · intro k' p hp hc'
        rcases lookup_put hp with ⟨rfl, rfl⟩ | ⟨hne, hp⟩
        · simp only [if_true]
          refine ⟨cs', e', g1, by rw [g2]; exact hcsz, by simp only [AObj.n]; omega, hcm, hbb, hbS, fun r j hr hj => ?_⟩
          have hr : r < q + (n - q + m) := hr
          have hj : j < i.size := hj
          show ∃ u, cs'[r * i.size + j]? = some u ∧ R _ _ S (if r < n then ob.f r j else g (r - n) j) u
          by_cases hrn : r < n
          · rw [if_pos hrn]
            obtain ⟨u, hu1, hr1⟩ := hcells r j (by omega) hj
            exact ⟨u, by rw [g3 _ (cell_lt hrn hj)]; exact hu1, hkeep (hnoS (hsc r j)) hr1⟩
          · rw [if_neg hrn]
            obtain ⟨u, hu1, hr1⟩ := hnews (r - n) j (by omega) hj
            have hq' : n * i.size + ((r - n) * i.size + j) = r * i.size + j := by
              rw [← Nat.add_assoc, ← Nat.add_mul]
              rw [show n + (r - n) = r by omega]
            have := g4 _ u hu1 (hin _ (List.getElem?_eq_some_iff.1 hu1).1)
            rw [hq'] at this
            exact ⟨u, this, hkeep (hnoS (hscg _ _)) hr1⟩
        · obtain ⟨_, hno'⟩ := hf.heap.get (hHsub hp).1
          simp only [hρ k' hne] at hc' ⊢
          obtain ⟨cs2, e2, q1, q2, q3, q4, q5, q6, q7⟩ := hs.mem.obj k' p (hHsub hp).1 hc'
          refine ⟨cs2, e2, by rw [hother _ (hin1 k' p hp hc')]; exact q1, q2, q3, q4, q5, q6, fun r j hr hj => ?_⟩
          obtain ⟨u, hu1, hr1⟩ := q7 r j hr hj
          exact ⟨u, hu1, hkeep (hno'.at_ r j) hr1⟩
      · intro k1 k2 p p' hp hp' hne hc1 hc2
        rcases lookup_put hp with ⟨rfl, rfl⟩ | ⟨q1, hp2⟩ <;> rcases lookup_put hp' with ⟨rfl, rfl⟩ | ⟨q2, hp2'⟩
        · exact absurd rfl hne
        · simp only [hρ k2 q2] at hc2
          simp only [if_true, hρ k2 q2]
          exact fun e => hin1 k2 p' hp2' hc2 e.symm
        · simp only [hρ k1 q1] at hc1
          simp only [if_true, hρ k1 q1]
          exact hin1 k1 p hp2 hc1
        · simp only [hρ k1 q1] at hc1
          simp only [hρ k2 q2] at hc2
          simp only [hρ k1 q1, hρ k2 q2]
          exact hs.mem.inj k1 k2 p p' (hHsub hp2).1 (hHsub hp2').1 hne hc1 hc2
      · have hmn : MemOk w0.base ρ S Hn w := hs.mem.le' fun k' p hp => HLe.refl (hHsub hp).1
        refine hmn.treeOf (Nat.le_refl _) (fun k' n' X hX => ?_) (fun k' n' X r b' hX hr hb' => ?_) (fun k' p hp hc' => ?_)
        · rcases lookup_put hX with ⟨rfl, e⟩ | ⟨hne, hX⟩
          · cases e
          · exact ⟨X, hX, fun _ _ => rfl, rfl, rfl, rfl⟩
        · obtain ⟨q1, q2, q3, _⟩ := (hmn.tree k' n' X hX r hr).2 b' hb'
          exact ⟨hother b' (hin2 k' n' X r b' hX hr hb'), by rw [hb2]; exact q2, q3⟩
        · rcases lookup_put hp with ⟨rfl, rfl⟩ | ⟨hne, hp⟩
          · refine .inr fun k2 n' X r hX hr hb' => ?_
            simp only [if_true] at hb'
            exact hin2 k2 n' X r b hX hr hb' rfl
          · exact .inl ⟨p, hp, hρ k' hne⟩
    · show ∃ A, Value.slice _ _ _ = .slice A (q + (n - q + m) - q) ((if id = id then (b, c) else ρ id).2 - q) ∧ _
      simp only [if_true]
      refine ⟨_, by rw [show q + (n - q + m) - q = n - q + m by omega], by omega, by omega, hcm, .inl rfl⟩
  · -- a new row
    have hold2 : ∃ olds : List Value, (Builtin.firstCells i.size (n - q) (.slice A (n - q) ((ρ k).2 - q))).run P w.drew = .ok olds.toArray w.drew ∧ olds.length = (n - q) * i.size ∧ ∀ r j, r < n - q → j < i.size → ∃ u, olds[r * i.size + j]? = some u ∧ R ρ w S (ob.f (q + r) j) u := by
      by_cases hn0' : n - q = 0
      · rw [hn0']
        refine ⟨[], ?_, by simp, fun r j hr => absurd hr (by omega)⟩
        cases A with
        | some ad => obtain ⟨b', o', s'⟩ := ad; exact run_firstCells_some w.drew i.size 0 _ 0 _ [] (by simp) (fun j u hj => by simp at hj)
        | none => exact run_firstCells_none w.drew i.size 0 0 _
      · have hc : (ρ k).2 ≠ 0 := by omega
        have hA' : A = some ⟨(ρ k).1, q * i.size, none⟩ := by rcases hA with h | h; (· exact h); (· omega)
        subst hA'
        obtain ⟨cs, e', hblk, hcsz, h3, h4, hbb, hbS, hcells⟩ := hs.mem.obj k ob hob hc
        rw [hs0] at hcsz hcells
        have hle : n * i.size ≤ cs.size := by rw [hcsz]; exact Nat.mul_le_mul_right _ hnc
        have hoff : q * i.size + (n - q) * i.size = n * i.size := by rw [← Nat.add_mul]; congr 1; omega
        refine ⟨(cs.toList.drop (q * i.size)).take ((n - q) * i.size), run_firstCells_some w.drew i.size (n - q) _ (n - q) _ _ (by simp; omega) (fun j u hj => ?_), by simp; omega, fun r j hr hj => ?_⟩
        · rw [List.getElem?_take] at hj
          split at hj
          · rw [Addr.add_lit]
            rw [List.getElem?_drop] at hj
            have : cs[q * i.size + j]? = some u := by simpa using hj
            show w.cell? ⟨(ρ k).1, q * i.size + j, none⟩ = some u
            simp [World.cell?, hblk, this]
          · cases hj
        · obtain ⟨u, hu1, hr1⟩ := hcells (q + r) j (by omega) hj
          refine ⟨u, ?_, hr1⟩
          rw [List.getElem?_take, if_pos (cell_lt hr hj), List.getElem?_drop]
          have : q * i.size + (r * i.size + j) = (q + r) * i.size + j := by rw [Nat.add_mul]; omega
          rw [this]
          simpa using hu1
    obtain ⟨olds, ho1, ho2, ho3⟩ := hold2
    by_cases hz00 : n - q + m ≤ (ρ k).2 - q
    · -- nothing appended to nothing
      obtain ⟨hn00, rfl⟩ : n - q = 0 ∧ m = 0 := by omega
      have hc0 : (ρ k).2 - q = 0 := by omega
      have hnews0 : news = [] := List.eq_nil_of_length_eq_zero (by rw [hnl]; omega)
      subst hnews0
      obtain ⟨ρ', e1, hs'⟩ := hs.phantomAt 0 hf i.size h
      have hrun : (Builtin.append_ #[t, t2] o.type #[a.eval x, a.eval y]).run P w = .ok (.slice A 0 0) w := by
        rw [ev, hn00, hc0]
        have hcl := hsrc.cells
        have hln := hsrc.len w
        generalize a.eval y = vy at hcl hln
        rcases hsrc.kind with ⟨e', hk⟩ | hk <;> cases A <;> simp [Builtin.append_, run_underlying hu, run_underlying hk, sizeOf, typeInfo, hi, hln, hcl, storeCells]
      refine fin 0 (fun _ _ => .int .i64 0) _ w ρ' (fun _ _ => rfl) (Nat.zero_le _) (fun r j hr => by omega) hrun ⟨hs'.size, hs'.defers, hs'.below, hs'.mem.le' fun k' p hp => ?_, hs'.env⟩ ?_
      · rcases lookup_put hp with ⟨rfl, rfl⟩ | ⟨hne, hp⟩
        · exact HLe.mk (o' := .arr i.size 0 h) (by simp [Sig.set]) rfl rfl (by simp only [AObj.n]; omega) (fun r j hr => by simp only [AObj.n] at hr; omega)
        · exact HLe.refl (by simp only [Sig.set]; rw [List.lookup_cons, show (k' == id) = false by simpa using hne]; exact (hHsub hp).1)
      · show ∃ B, Value.slice A 0 0 = .slice B (0 + (n - q + 0) - 0) ((ρ' id).2 - 0) ∧ 0 ≤ 0 + (n - q + 0) ∧ 0 + (n - q + 0) ≤ (ρ' id).2 ∧ (ρ' id).2 ≤ maxLen ∧ (B = _ ∨ (ρ' id).2 = 0)
        rw [e1, hn00]
        exact ⟨A, rfl, Nat.zero_le _, Nat.le_refl _, Nat.zero_le _, .inr rfl⟩
    have hrun := run_append_grow_src (P := P) w t t2 o.type e i z hu hi hz0 A (n - q) ((ρ k).2 - q) olds ho1 (a.eval y) m news hsrc (by omega) (by omega) (growslice_fits (by omega) (Nat.le_trans (Nat.mul_le_mul_right _ (by omega)) hlim))
    have hsw := hs.world (w' := w.drew) ((Below.refl _ _).drew)
    have hcapge := grownCap_ge w (n - q + m) ((ρ k).2 - q) e
    have hcaple := grownCap_le_maxLen w (n - q + m) ((ρ k).2 - q) e (by unfold maxLen; omega)
    generalize hcap : grownCap w (n - q + m) ((ρ k).2 - q) e = cap' at hrun hcapge hcaple
    generalize hnq : n - q = nq at *
    have hcsz : ((olds ++ news).toArray ++ Builtin.zeroCells z.cells (cap' - (nq + m))).size = cap' * i.size := by
      rw [Array.size_append, size_zeroCells, hzc]
      simp only [List.size_toArray, List.length_append, ho2, hnl]
      rw [← Nat.add_mul, ← Nat.add_mul]
      congr 1; omega
    obtain ⟨ρ', e1, e2, e3, hs'⟩ := hsw.newA hf (o := .arr i.size (nq + m) fun r j => if r < nq then ob.f (q + r) j else g (r - nq) j) (cs := (olds ++ news).toArray ++ Builtin.zeroCells z.cells (cap' - (nq + m))) (e := e) (cap := cap') rfl hcsz hcapge hcaple (fun r j hr hj => by
      have hr : r < nq + m := hr
      have hj : j < i.size := hj
      show ∃ u, ((olds ++ news).toArray ++ Builtin.zeroCells z.cells (cap' - (nq + m)))[r * i.size + j]? = some u ∧ R ρ w.drew S (if r < nq then ob.f (q + r) j else g (r - nq) j) u
      have hlt : r * i.size + j < (olds ++ news).length := by
        rw [List.length_append, ho2, hnl, ← Nat.add_mul]; exact cell_lt hr hj
      rw [Array.getElem?_append_left (by simpa using hlt)]
      have hkeep : ∀ {x : AV} {u : Value}, R ρ w S x u → R ρ w.drew S x u := fun hr => hr.keep (hs.mem.same ((Below.refl _ _).drew)) (Rn.refl _ _)
      by_cases hrn : r < nq
      · rw [if_pos hrn]
        obtain ⟨u, hu1, hr1⟩ := ho3 r j hrn hj
        refine ⟨u, ?_, hkeep hr1⟩
        simp only [List.getElem?_toArray]
        rw [List.getElem?_append_left (by rw [ho2]; exact cell_lt hrn hj)]; exact hu1
      · rw [if_neg hrn]
        obtain ⟨u, hu1, hr1⟩ := hnews (r - nq) j (by omega) hj
        refine ⟨u, ?_, hkeep hr1⟩
        have hq : nq * i.size + ((r - nq) * i.size + j) = r * i.size + j := by
          rw [← Nat.add_assoc, ← Nat.add_mul]
          rw [show nq + (r - nq) = r by omega]
        simp only [List.getElem?_toArray]
        rw [List.getElem?_append_right (by rw [ho2]; omega), ho2, show r * i.size + j - nq * i.size = (r - nq) * i.size + j by omega]; exact hu1) (fun r j => hnoS (hscH nq (fun r j => ob.f (q + r) j) (fun r j => hsc _ _) r j))
    refine fin 0 (fun r j => if r < nq then ob.f (q + r) j else g (r - nq) j) _ _ ρ' (hscH nq (fun r j => ob.f (q + r) j) (fun r j => hsc _ _)) (Nat.zero_le _) (fun r j hr hj => by rw [Nat.zero_add, hh r j hr hj]) (by rw [ev]; exact hrun) ?_ ?_
    · refine ⟨hs'.size, hs'.defers, hs'.below, hs'.mem.le' fun k' p hp => ?_, hs'.env⟩
      rcases lookup_put hp with ⟨rfl, rfl⟩ | ⟨hne, hp⟩
      · exact HLe.refl (by simp [Sig.set])
      · exact HLe.refl (by simp only [Sig.set]; rw [List.lookup_cons, show (k' == id) = false by simpa using hne]; exact (hHsub hp).1)
    · show ∃ A, Value.slice _ _ _ = .slice A (0 + (nq + m) - 0) ((ρ' id).2 - 0) ∧ 0 ≤ 0 + (nq + m) ∧ 0 + (nq + m) ≤ (ρ' id).2 ∧ (ρ' id).2 ≤ maxLen ∧ (A = some ⟨(ρ' id).1, 0 * i.size, none⟩ ∨ (ρ' id).2 = 0)
      rw [e1]
      refine ⟨some ⟨w.heap.size, 0, none⟩, by rw [Nat.zero_add, Nat.sub_zero, Nat.sub_zero], Nat.zero_le _, by omega, hcaple, .inl (by rw [Nat.zero_mul]; rfl)⟩
end
end Go.Proofs.YticinemcmgggpabDoor
