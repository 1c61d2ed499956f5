/-
  A calculus for walks, part 2: operations that leave memory alone.
-/
import Derived.Test.YtmfkmifkkplidaaVa
namespace Go.Proofs.Ytmfkmifkkplidaa
open Go.ChangeShapes Go.WideShapes Go.ChangeAt Go.RowKit Go.BigFrame Go.Deep
set_option linter.unusedVariables false

set_option linter.unusedSimpArgs false
/-- What is known of an operand. -/
inductive Kn (σ : Sig) : Operand → SV → Prop
  | tmp {t : Nat} {s : SV} : σ.env.lookup t = some s → Kn σ (.tmp t) s
  | gtmp {t : Nat} {b : Bool} {s : SV} : σ.env.lookup t = some (.gd b s) → b = true → Kn σ (.tmp t) s
  | int {k : IntKind} {n : Int} : Kn σ (.const (.int k n)) (.one (.int k n))
  | bool {b : Bool} : Kn σ (.const (.bool b)) (.one (.bool b))
  | str {x : ByteArray} : x.size ≤ maxLen → Kn σ (.const (.string x)) (.one (.str x))
  | con {v : Value} : Kn σ (.const v) (.one (.con v))
  | func {f : FuncId} : Kn σ (.func f) (.one (.fn f 0 fun _ => .con undef))
  | nil (sz : Nat) (f : Nat → Nat → AV) : Kn σ (.const (.slice none 0 0)) (.one (.lst sz 0 f))
  | frs {x : Operand} {y : AV} : Kn σ x (.one (.frs y)) → Kn σ x (.one y)
  | unnil {x : Operand} (sz : Nat) (f : Nat → Nat → AV) : Kn σ x (.one (.con (.slice none 0 0))) → Kn σ x (.one (.lst sz 0 f))
section
variable {P : Program} {N : Nat} {w0 : Start} {ρ : Rho} {S : Nat → Prop} {σ : Sig} {a : Act} {w : World}
theorem R.unfrs {y : AV} {v : Value} (h : R ρ w S (.frs y) v) : R ρ w S y v := D.toR (D.keep (S := freshS ρ S) ⟨fun _ hb => hb.1, fun _ _ => rfl⟩ (by unfold R at h; exact h))
theorem Kn.sound {x : Operand} {s : SV} (h : Kn σ x s) (hs : St N w0 ρ S σ a w) : RS ρ w S s (a.eval x) := by
  induction h with
  | tmp h => exact hs.env _ _ h
  | gtmp h hb => exact (hs.env _ _ h).1 hb
  | int => rfl
  | bool => rfl
  | str h => exact ⟨rfl, h⟩
  | con => rfl
  | func => exact ⟨#[], rfl, rfl, fun j hj => absurd hj (by omega)⟩
  | nil sz f => exact ⟨none, 0, rfl, Nat.le_refl _, by decide, fun _ => rfl, fun i hi => absurd hi (by omega)⟩
  | frs _ ih => exact R.unfrs ih
  | unnil sz f _ ih =>
    have e : _ = Value.slice none 0 0 := ih
    exact ⟨none, 0, e, Nat.le_refl _, by decide, fun _ => rfl, fun i hi => absurd hi (by omega)⟩

/-- An operation that leaves memory alone but for new blocks, and yields s. -/
def PureOp (P : Program) (o : Oper) (σ : Sig) (s : SV) : Prop :=
  ∀ (N : Nat) (w0 : Start) (ρ : Rho) (S : Nat → Prop) (a : Act) (w : World), St N w0 ρ S σ a w →
    ∃ v, RS ρ w S s v ∧ ∀ w', Below w.heap.size w w' → Oper.quietUpon P (fun w'' => Below w.heap.size w w'') w' v ((execOp a.eval o).run P w')
theorem PureOp.val {o : Oper} {s : SV}
    (h : ∀ (N : Nat) (w0 : Start) (ρ : Rho) (S : Nat → Prop) (a : Act) (w : World), St N w0 ρ S σ a w → ∃ v, RS ρ w S s v ∧ ∀ w', Below w.heap.size w w' → (execOp a.eval o).run P w' = .ok (.value v) w') : PureOp P o σ s := by
  intro N w0 ρ S a w hs
  obtain ⟨v, h1, h2⟩ := h N w0 ρ S a w hs
  refine ⟨v, h1, fun w' hb => ?_⟩
  rw [h2 w' hb]
  exact ⟨rfl, rfl⟩
theorem PureOp.move {o : Oper} {x : Operand} {s : SV} (ho : o.op = .move x) (h : Kn σ x s) : PureOp P o σ s := by
  refine PureOp.val fun N w0 ρ S a w hs => ⟨_, h.sound hs, fun w' _ => ?_⟩
  simp [execOp, ho, go_sem]
theorem PureOp.assign {o : Oper} {x : Operand} {s : SV} (ho : o.op = .assign x) (h : Kn σ x s) : PureOp P o σ s := by
  refine PureOp.val fun N w0 ρ S a w hs => ⟨_, h.sound hs, fun w' _ => ?_⟩
  simp [execOp, ho, go_sem]
theorem PureOp.pick {o : Oper} {c x y : Operand} {p u v : Bool} (ho : o.op = .pick c x y) (hc : Kn σ c (.one (.bool p))) (hx : p = true → Kn σ x (.one (.bool u))) (hy : p = false → Kn σ y (.one (.bool v))) :
    PureOp P o σ (.one (.bool (cond p u v))) := by
  refine PureOp.val fun N w0 ρ S a w hs => ?_
  have h1 : a.eval c = .bool p := hc.sound hs
  cases p with
  | true =>
    have h2 : a.eval x = .bool u := (hx rfl).sound hs
    exact ⟨.bool u, rfl, fun w' _ => by (generalize a.eval = ev at h1 h2 ⊢; simp [execOp, ho, go_sem, h1, h2, asBool])⟩
  | false =>
    have h2 : a.eval y = .bool v := (hy rfl).sound hs
    exact ⟨.bool v, rfl, fun w' _ => by (generalize a.eval = ev at h1 h2 ⊢; simp [execOp, ho, go_sem, h1, h2, asBool])⟩
theorem PureOp.nilRef {o : Oper} {x : Operand} {sz : Nat} {f : Nat → AV} (ho : o.op = .nilCheck x) (h : Kn σ x (.one (.ref sz f))) : PureOp P o σ (.one (.ref sz f)) := by
  refine PureOp.val fun N w0 ρ S a w hs => ⟨_, h.sound hs, fun w' _ => ?_⟩
  obtain ⟨b, off, e, _⟩ := h.sound hs
  generalize a.eval = ev at e ⊢
  simp [execOp, ho, go_sem, e]
theorem PureOp.nilPtr {o : Oper} {x : Operand} {id sz i j : Nat} (ho : o.op = .nilCheck x) (h : Kn σ x (.one (.ptr id sz i j))) : PureOp P o σ (.one (.ptr id sz i j)) := by
  refine PureOp.val fun N w0 ρ S a w hs => ⟨_, h.sound hs, fun w' _ => ?_⟩
  have e : a.eval x = _ := h.sound hs
  generalize a.eval = ev at e ⊢
  simp [execOp, ho, go_sem, e]

/-! Facts about types, as Bools that the kernel computes. -/
def fieldB (P : Program) (t fld off : Nat) : Bool :=
  match P.underlying t with
  | some (.struct fs) => match fs[fld]? with
    | some f => f.offset == off && (match P.info? f.type with | some i => i.size != 0 | none => false)
    | none => false
  | _ => false
def elemB (P : Program) (t sz : Nat) : Bool :=
  match P.underlying t with
  | some (.slice e) => (match P.info? e with | some i => i.size == sz | none => false)
  | _ => false
def plainB (P : Program) (t : Nat) : Bool :=
  match P.underlying t with
  | some (.struct _) => false
  | some (.array _ _) => false
  | some _ => true
  | none => false
def aggB (P : Program) (t n : Nat) : Bool :=
  match P.underlying t with
  | some (.struct _) => (match P.info? t with | some i => i.size == n | none => false)
  | _ => false
theorem fieldB_spec {t fld off : Nat} (h : fieldB P t fld off = true) : ∃ fs f i, P.underlying t = some (.struct fs) ∧ fs[fld]? = some f ∧ f.offset = off ∧ P.info? f.type = some i ∧ i.size ≠ 0 := by
  unfold fieldB at h
  split at h
  · rename_i fs hu
    split at h
    · rename_i f hf
      rw [Bool.and_eq_true] at h
      obtain ⟨h1, h2⟩ := h
      split at h2
      · rename_i i hi
        exact ⟨fs, f, i, hu, hf, by simpa using h1, hi, by simpa using h2⟩
      · cases h2
    · cases h
  · cases h
theorem elemB_spec {t sz : Nat} (h : elemB P t sz = true) : ∃ e i, P.underlying t = some (.slice e) ∧ P.info? e = some i ∧ i.size = sz := by
  unfold elemB at h
  split at h
  · rename_i e hu
    split at h
    · rename_i i hi
      exact ⟨e, i, hu, hi, by simpa using h⟩
    · cases h
  · cases h
theorem plainB_run {t : Nat} (h : plainB P t = true) (w : World) : (isAgg t).run P w = .ok false w := by
  unfold plainB at h
  split at h
  · cases h
  · cases h
  · rename_i d h1 h2 hu
    simp only [isAgg, Sem.run_bind, run_underlying hu, Result.andThen_ok]
    cases d <;> first | rfl | (exact absurd rfl (h1 _)) | (exact absurd rfl (h2 _ _))
  · cases h
theorem aggB_spec {t n : Nat} (h : aggB P t n = true) : ∃ fs i, P.underlying t = some (.struct fs) ∧ P.info? t = some i ∧ i.size = n := by
  unfold aggB at h
  split at h
  · rename_i fs hu
    split at h
    · rename_i i hi
      exact ⟨fs, i, hu, hi, by simpa using h⟩
    · cases h
  · cases h
end
section
variable {P : Program} {σ : Sig}
theorem run_sizeOf' {t : TypeId} {i : TypeInfo} (h : P.info? t = some i) (w : World) : (sizeOf t).run P w = .ok i.size w := by
  simp only [sizeOf, typeInfo, Sem.run_bind]
  simp [Sem.run, h, Result.andThen, go_sem]
theorem fieldAt_run {t fld off : Nat} (h : fieldB P t fld off = true) (ad : Addr) (w : World) : (Instr.fieldAt t (.pointer (some ad)) fld).run P w = .ok (.pointer (some (ad.add off))) w := by
  obtain ⟨fs, f, i, hu, hf, rfl, hi, hz⟩ := fieldB_spec h
  simp only [Instr.fieldAt, Sem.run_bind, run_underlying hu, Result.andThen_ok, hf, Instr.sureAddr, fieldPlace]
  simp [run_sizeOf' hi, hz, go_sem, Result.andThen]
theorem indexAt_run {t sz : Nat} (h : elemB P t sz = true) {k : IntKind} (ad : Addr) {n c i : Nat} (hi : i < n) (w : World) : (Instr.indexAt t (.slice (some ad) n c) (.int k (i : Int))).run P w = .ok (.pointer (some (ad.add (i * sz)))) w := by
  obtain ⟨e, inf, hu, hf, rfl⟩ := elemB_spec h
  have h1 : (0 : Int) ≤ i ∧ (i : Int) < n := ⟨by omega, by omega⟩
  simp only [Instr.indexAt, Sem.run_bind, run_underlying hu, Result.andThen_ok, asIntOf]
  simp [run_sizeOf' hf, h1, go_sem, Result.andThen]
theorem loadAt_one {t : Nat} (h : plainB P t = true) {ad : Addr} {u : Value} {w : World} (hc : w.cell? ad = some u) : (Instr.loadAt t (.pointer (some ad))).run P w = .ok u w := by
  simp only [Instr.loadAt, Instr.sureAddr, loadVar, Sem.run_bind, plainB_run h]
  simp [go_sem, Result.andThen, hc, load, Sem.run]
theorem PureOp.fieldRef {o : Oper} {t : Nat} {x : Operand} {fld off sz : Nat} {f : Nat → AV} (ho : o.op = .fieldAddr t x fld) (h : Kn σ x (.one (.ref sz f))) (hF : fieldB P t fld off = true) (hlt : off < sz) :
    PureOp P o σ (.one (.ref (sz - off) fun j => f (off + j))) := by
  refine PureOp.val fun N w0 ρ S a w hs => ?_
  obtain ⟨b, o', e, hS, hc⟩ := h.sound hs
  refine ⟨.pointer (some ⟨b, o' + off, none⟩), ⟨b, o' + off, rfl, hS, fun j hj => ?_⟩, fun w' _ => ?_⟩
  · obtain ⟨u, hu, hr⟩ := hc (off + j) (by omega)
    exact ⟨u, by rw [Nat.add_assoc]; exact hu, hr⟩
  · generalize a.eval = ev at e ⊢
    simp only [execOp, ho, e, Sem.run_bind, fieldAt_run hF]
    simp [go_sem, Result.andThen, Addr.add]
theorem PureOp.fieldPtr {o : Oper} {t : Nat} {x : Operand} {fld off id sz i j : Nat} (ho : o.op = .fieldAddr t x fld) (h : Kn σ x (.one (.ptr id sz i j))) (hF : fieldB P t fld off = true) :
    PureOp P o σ (.one (.ptr id sz i (j + off))) := by
  refine PureOp.val fun N w0 ρ S a w hs => ?_
  have e : a.eval x = _ := h.sound hs
  refine ⟨.pointer (some ⟨(ρ id).1, i * sz + (j + off), none⟩), rfl, fun w' _ => ?_⟩
  generalize a.eval = ev at e ⊢
  simp only [execOp, ho, e, Sem.run_bind, fieldAt_run hF]
  simp [go_sem, Result.andThen, Addr.add, Nat.add_assoc]
theorem PureOp.indexLst {o : Oper} {t : Nat} {x y : Operand} {k : IntKind} {sz n i : Nat} {m : Int} {f : Nat → Nat → AV} (ho : o.op = .indexAddr t x y) (h : Kn σ x (.one (.lst sz n f))) (hE : elemB P t sz = true) (hy : Kn σ y (.one (.int k m)))
    (hm : m = (i : Int)) (hlt : i < n) : PureOp P o σ (.one (.ref sz (f i))) := by
  refine PureOp.val fun N w0 ρ S a w hs => ?_
  obtain ⟨A, c, e, h1, h2, h3, h4⟩ := h.sound hs
  have e2 : a.eval y = _ := hy.sound hs
  obtain ⟨b, off, rfl, hS, hc⟩ := h4 i hlt
  refine ⟨.pointer (some ⟨b, off + i * sz, none⟩), ⟨b, off + i * sz, rfl, hS, fun j hj => ?_⟩, fun w' _ => ?_⟩
  · obtain ⟨u, hu, hr⟩ := hc j hj
    exact ⟨u, by rw [Nat.add_assoc]; exact hu, hr⟩
  · subst hm
    generalize a.eval = ev at e e2 ⊢
    simp only [execOp, ho, e, e2, Sem.run_bind, indexAt_run hE _ hlt]
    simp [go_sem, Result.andThen, Addr.add]
theorem PureOp.indexOwn {o : Oper} {t : Nat} {x y : Operand} {k : IntKind} {id sz n i : Nat} {m : Int} (ho : o.op = .indexAddr t x y) (h : Kn σ x (.one (.own id sz n))) (hE : elemB P t sz = true) (hy : Kn σ y (.one (.int k m)))
    (hm : m = (i : Int)) (hlt : i < n) : PureOp P o σ (.one (.ptr id sz i 0)) := by
  refine PureOp.val fun N w0 ρ S a w hs => ?_
  obtain ⟨A, e, hn1, _, hA⟩ := h.sound hs
  obtain rfl : A = some ⟨(ρ id).1, 0, none⟩ := by rcases hA with hA | ⟨_, hA⟩; (· exact hA); (· omega)
  have e2 : a.eval y = _ := hy.sound hs
  refine ⟨.pointer (some ⟨(ρ id).1, i * sz + 0, none⟩), rfl, fun w' _ => ?_⟩
  subst hm
  generalize a.eval = ev at e e2 ⊢
  simp only [execOp, ho, e, e2, Sem.run_bind, indexAt_run hE _ hlt]
  simp [go_sem, Result.andThen, Addr.add]
  try omega
theorem PureOp.loadRef {o : Oper} {t : Nat} {x : Operand} {sz : Nat} {f : Nat → AV} (ho : o.op = .load t x) (h : Kn σ x (.one (.ref sz f))) (hT : plainB P t = true) (hlt : 0 < sz) : PureOp P o σ (.one (f 0)) := by
  refine PureOp.val fun N w0 ρ S a w hs => ?_
  obtain ⟨b, o', e, hS, hc⟩ := h.sound hs
  obtain ⟨u, hu, hr⟩ := hc 0 hlt
  refine ⟨u, hr.toR, fun w' hb => ?_⟩
  have hu' := ((hs.mem.same hb).cell hS).trans hu
  simp only [Nat.add_zero] at hu'
  generalize a.eval = ev at e ⊢
  simp only [execOp, ho, e, Sem.run_bind, loadAt_one hT hu']
  simp [go_sem, Result.andThen]
theorem St.cell {N : Nat} {w0 : Start} {ρ : Rho} {S : Nat → Prop} {a : Act} {w : World} (hs : St N w0 ρ S σ a w) {id i j : Nat} {o : AObj} (ho : σ.heap.lookup id = some o) (hi : i < o.n) (hj : j < o.sz) :
    ∃ u, w.cell? ⟨(ρ id).1, i * o.sz + j, none⟩ = some u ∧ R ρ w S (o.f i j) u := by
  obtain ⟨cs, e, h1, h2, h3, h4, h5, h6, h7⟩ := hs.mem.obj id o ho (hs.mem.pos ho hi)
  obtain ⟨u, hu, hr⟩ := h7 i j hi hj
  refine ⟨u, ?_, hr⟩
  simp [World.cell?, h1, hu]
theorem PureOp.loadPtr {o : Oper} {t : Nat} {x : Operand} {id sz i j : Nat} {ob : AObj} (ho : o.op = .load t x) (h : Kn σ x (.one (.ptr id sz i j))) (hT : plainB P t = true) (hob : σ.heap.lookup id = some ob) (hsz : ob.sz = sz) (hi : i < ob.n) (hj : j < ob.sz) :
    PureOp P o σ (.one (ob.f i j)) := by
  refine PureOp.val fun N w0 ρ S a w hs => ?_
  have e : a.eval x = _ := h.sound hs
  obtain ⟨u, hu, hr⟩ := hs.cell hob hi hj
  refine ⟨u, hr, fun w' hb => ?_⟩
  have hu' : w'.cell? ⟨(ρ id).1, i * sz + j, none⟩ = some u := by rw [← hsz]; exact (hb.cell (hs.mem.blk hob (hs.mem.pos hob hi))).trans hu
  generalize a.eval = ev at e ⊢
  simp only [execOp, ho, e, Sem.run_bind, loadAt_one hT hu']
  simp [go_sem, Result.andThen]

/-! Loads of structs. -/
theorem loadCellsFrom_run {ad : Addr} {w : World} : ∀ {us : List Value} {i : Nat} {acc : Array Value}, (∀ j u, us[j]? = some u → w.cell? (ad.add (i + j)) = some u) → (loadCellsFrom ad i us.length acc).run P w = .ok (acc ++ us.toArray) w
  | [], i, acc, _ => by simp [loadCellsFrom, go_sem]
  | u :: us, i, acc, h => by
    have h0 := h 0 u rfl
    have h1 := loadCellsFrom_run (us := us) (i := i + 1) (acc := acc.push u) fun j v hv => by
      have := h (j + 1) v (by simpa using hv)
      rw [show i + 1 + j = i + (j + 1) by omega]; exact this
    simp only [Nat.add_zero] at h0
    simp only [List.length_cons, loadCellsFrom, Sem.run_bind, load, Sem.run, h0, Result.andThen_ok, h1]
    simp
theorem loadAt_agg {t : Nat} {us : List Value} (h : aggB P t us.length = true) {ad : Addr} {w : World} (hc : ∀ j u, us[j]? = some u → w.cell? (ad.add j) = some u) : (Instr.loadAt t (.pointer (some ad))).run P w = .ok (.agg us.toArray) w := by
  obtain ⟨fs, i, hu, hi, hn⟩ := aggB_spec h
  have h1 := loadCellsFrom_run (P := P) (ad := ad) (us := us) (i := 0) (acc := #[]) (w := w) (by simpa using hc)
  simp only [Instr.loadAt, Instr.sureAddr, loadVar, isAgg, Sem.run_bind, run_underlying hu, Result.andThen_ok]
  simp [go_sem, Result.andThen, run_sizeOf' hi, hn, loadCells, h1]
theorem RL.of_fun {ρ : Rho} {w : World} {S : Nat → Prop} {g : Nat → AV} {c : Nat → Option Value} : ∀ (n i : Nat), (∀ j, j < n → ∃ u, c (i + j) = some u ∧ R ρ w S (g (i + j)) u) → ∃ us, RL ρ w S ((List.range' i n).map g) us ∧ us.length = n ∧ ∀ j u, us[j]? = some u → c (i + j) = some u
  | 0, i, _ => ⟨[], rfl, rfl, fun j u h => by simp at h⟩
  | n + 1, i, h => by
    obtain ⟨u, hu, hr⟩ := h 0 (by omega)
    obtain ⟨us, h1, h2, h3⟩ := RL.of_fun (g := g) (c := c) n (i + 1) fun j hj => by
      have := h (j + 1) (by omega)
      rw [show i + 1 + j = i + (j + 1) by omega]; exact this
    refine ⟨u :: us, ⟨u, us, rfl, hr, h1⟩, by simp [h2], fun j v hv => ?_⟩
    cases j with
    | zero => simp at hv; subst hv; exact hu
    | succ j =>
      have := h3 j v (by simpa using hv)
      rw [show i + (j + 1) = i + 1 + j by omega]; exact this
theorem PureOp.loadRefAgg {o : Oper} {t n : Nat} {x : Operand} {sz : Nat} {f : Nat → AV} (ho : o.op = .load t x) (h : Kn σ x (.one (.ref sz f))) (hT : aggB P t n = true) (hle : n ≤ sz) : PureOp P o σ (.agg ((List.range' 0 n).map f)) := by
  refine PureOp.val fun N w0 ρ S a w hs => ?_
  obtain ⟨b, o', e, hS, hc⟩ := h.sound hs
  obtain ⟨us, h1, h2, h3⟩ := RL.of_fun (ρ := ρ) (w := w) (S := S) (g := f) (c := fun j => w.cell? ⟨b, o' + j, none⟩) n 0 fun j hj => by
    obtain ⟨u, hu, hr⟩ := hc j (by omega)
    exact ⟨u, by simpa using hu, by simpa using hr.toR⟩
  refine ⟨.agg us.toArray, ⟨us.toArray, rfl, h1⟩, fun w' hb => ?_⟩
  subst h2
  have hl := loadAt_agg (P := P) (ad := ⟨b, o', none⟩) (w := w') hT fun j u hu => by
    have := h3 j u hu
    simp only [Nat.zero_add] at this
    rw [Addr.add_lit]
    exact ((hs.mem.same hb).cell hS).trans this
  generalize a.eval = ev at e ⊢
  simp only [execOp, ho, e, Sem.run_bind, hl]
  simp [go_sem, Result.andThen]
theorem PureOp.loadPtrAgg {o : Oper} {t n : Nat} {x : Operand} {id sz i q : Nat} {ob : AObj} (ho : o.op = .load t x) (h : Kn σ x (.one (.ptr id sz i q))) (hT : aggB P t n = true) (hob : σ.heap.lookup id = some ob) (hsz : ob.sz = sz) (hi : i < ob.n) (hle : q + n ≤ ob.sz) :
    PureOp P o σ (.agg ((List.range' q n).map (ob.f i))) := by
  refine PureOp.val fun N w0 ρ S a w hs => ?_
  have e : a.eval x = _ := h.sound hs
  obtain ⟨us, h1, h2, h3⟩ := RL.of_fun (ρ := ρ) (w := w) (S := S) (g := ob.f i) (c := fun j => w.cell? ⟨(ρ id).1, i * ob.sz + j, none⟩) n q fun j hj => by
    obtain ⟨u, hu, hr⟩ := hs.cell hob hi (j := q + j) (by omega)
    exact ⟨u, hu, hr⟩
  refine ⟨.agg us.toArray, ⟨us.toArray, rfl, h1⟩, fun w' hb => ?_⟩
  subst h2 hsz
  have hl := loadAt_agg (P := P) (ad := ⟨(ρ id).1, i * ob.sz + q, none⟩) (w := w') hT fun j u hu => by
    have := h3 j u hu
    rw [Addr.add_lit, Nat.add_assoc]
    exact (hb.cell (hs.mem.blk hob (hs.mem.pos hob hi))).trans this
  generalize a.eval = ev at e ⊢
  simp only [execOp, ho, e, Sem.run_bind, hl]
  simp [go_sem, Result.andThen]
end
end Go.Proofs.Ytmfkmifkkplidaa
