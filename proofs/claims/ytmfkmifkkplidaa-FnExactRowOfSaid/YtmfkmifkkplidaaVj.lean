/-
  A calculus for walks, part 10: bodies that hand back fresh data; make.
-/
import Derived.Test.YtmfkmifkkplidaaVi
namespace Go.Proofs.Ytmfkmifkkplidaa
open Go.ChangeShapes Go.WideShapes Go.ChangeAt Go.RowKit Go.BigFrame Go.Deep
set_option linter.unusedVariables false

set_option linter.unusedSimpArgs false
/-- What the walk holds, seen as fresh data. -/
inductive Fv (H : Heap) : AV → AV → Prop
  | int {k : IntKind} {n : Int} : Fv H (.int k n) (.int k n)
  | bool {b : Bool} : Fv H (.bool b) (.bool b)
  | str {s : ByteArray} : Fv H (.str s) (.str s)
  | con {v : Value} : Fv H (.con v) (.con v)
  | frs {x : AV} : Fv H (.frs x) x
  | nil {sz : Nat} {f g : Nat → Nat → AV} : Fv H (.lst sz 0 f) (.lst sz 0 g)
  | cnil {sz : Nat} {g : Nat → Nat → AV} : Fv H (.con (.slice none 0 0)) (.lst sz 0 g)
  | tre {id i n : Nat} {X : Nat → AV} : H.lookup id = some (.trees n X) → i < n → Fv H (.tre id i) (X i)
  | own {id sz n : Nat} {g : Nat → Nat → AV} {o : AObj} : H.lookup id = some o → o.sz = sz → n ≤ o.n → (∀ i j, i < n → j < sz → Fv H (o.f i j) (g i j)) → Fv H (.own id sz n) (.lst sz n g)
def freshTo (B : Nat) (w : World) (b : Nat) : Prop := B ≤ b ∧ b < w.heap.size
theorem Fv.sound {B : Nat} {ρ : Rho} {S : Nat → Prop} {H : Heap} {w : World} (hm : MemOk B ρ S H w) {x y : AV} (h : Fv H x y) : ∀ {v : Value}, R ρ w S x v → D w (freshTo B w) y v := by
  induction h with
  | int => exact fun h => h
  | bool => exact fun h => h
  | str => exact fun h => h
  | con => exact fun h => h
  | frs => exact fun h => D.keep (S := freshS ρ S) ⟨fun b hb => ⟨by rw [← hm.base]; exact hb.2, hm.lt b hb.1⟩, fun _ _ => rfl⟩ h
  | nil =>
    intro v hv
    obtain ⟨A, c, e, h1, h2, h3, _⟩ := hv
    exact ⟨A, c, e, h1, h2, h3, fun i hi => absurd hi (by omega)⟩
  | cnil =>
    intro v hv
    have e : v = Value.slice none 0 0 := hv
    exact ⟨none, 0, e, Nat.le_refl _, by decide, fun _ => rfl, fun i hi => absurd hi (by omega)⟩
  | @tre id i n X hX hi =>
    intro v hv
    obtain ⟨e, _⟩ := hv
    rw [e]
    refine ((hm.tree id n X hX i hi).1).d fun b hb => ?_
    obtain ⟨q1, q2, _⟩ := (hm.tree id n X hX i hi).2 b hb
    exact ⟨q1, q2⟩
  | @own id sz n g o ho hsz hn _ ih =>
    intro v hv
    subst hsz
    obtain ⟨A, hv, hn1, hn2, hA⟩ := hv
    refine ⟨A, _, hv, hn1, hn2, (fun e => by rcases hA with h | ⟨_, h⟩; (· rw [h] at e; cases e); (· exact h)), fun i hi => ?_⟩
    have hc : (ρ id).2 ≠ 0 := by omega
    have hlt := hm.blk ho hc
    obtain ⟨cs, e, h1, h2, h3, h4, h5, h6, h7⟩ := hm.obj id o ho hc
    refine ⟨(ρ id).1, 0, by rcases hA with h | ⟨_, h⟩; (· exact h); (· exact absurd h hc), ⟨h5, hlt⟩, fun j hj => ?_⟩
    obtain ⟨u, hu, hr⟩ := h7 i j (by omega) hj
    refine ⟨u, ?_, ih i j hi hj hr⟩
    simp [World.cell?, h1, hu]
def FvL (H : Heap) : List AV → List AV → Prop
  | [], [] => True
  | x :: l, y :: m => Fv H x y ∧ FvL H l m
  | _, _ => False
def FvS (H : Heap) : SV → SV → Prop
  | .one x, .one y => Fv H x y
  | .agg l, .agg m => FvL H l m
  | .tup2 a b, .tup2 c d => FvS H a c ∧ FvS H b d
  | .tup3 a b e, .tup3 c d f => FvS H a c ∧ FvS H b d ∧ FvS H e f
  | _, _ => False
theorem FvL.sound {B : Nat} {ρ : Rho} {S : Nat → Prop} {H : Heap} {w : World} (hm : MemOk B ρ S H w) : ∀ {l m : List AV} {us : List Value}, FvL H l m → RL ρ w S l us → DL w (freshTo B w) m us
  | [], [], _, _, h => h
  | _ :: _, _ :: _, _, ⟨h1, h2⟩, ⟨u, us, e, g1, g2⟩ => ⟨u, us, e, h1.sound hm g1, FvL.sound hm h2 g2⟩
  | [], _ :: _, _, h, _ => h.elim
  | _ :: _, [], _, h, _ => h.elim
theorem FvS.sound {B : Nat} {ρ : Rho} {S : Nat → Prop} {H : Heap} {w : World} (hm : MemOk B ρ S H w) : ∀ {s t : SV} {v : Value}, FvS H s t → RS ρ w S s v → DR w (freshTo B w) t v
  | .one _, .one _, _, h, hr => Fv.sound hm h hr
  | .agg _, .agg _, _, h, ⟨us, e, hl⟩ => ⟨us, e, FvL.sound hm h hl⟩
  | .tup2 _ _, .tup2 _ _, _, ⟨h1, h2⟩, ⟨a, b, e, g1, g2⟩ => ⟨a, b, e, FvS.sound hm h1 g1, FvS.sound hm h2 g2⟩
  | .tup3 _ _ _, .tup3 _ _ _, _, ⟨h1, h2, h3⟩, ⟨a, b, c, e, g1, g2, g3⟩ => ⟨a, b, c, e, FvS.sound hm h1 g1, FvS.sound hm h2 g2, FvS.sound hm h3 g3⟩
  | .one _, .agg _, _, h, _ => h.elim
  | .one _, .tup2 _ _, _, h, _ => h.elim
  | .one _, .tup3 _ _ _, _, h, _ => h.elim
  | .one _, .gd _ _, _, h, _ => h.elim
  | .agg _, .one _, _, h, _ => h.elim
  | .agg _, .tup2 _ _, _, h, _ => h.elim
  | .agg _, .tup3 _ _ _, _, h, _ => h.elim
  | .agg _, .gd _ _, _, h, _ => h.elim
  | .tup2 _ _, .one _, _, h, _ => h.elim
  | .tup2 _ _, .agg _, _, h, _ => h.elim
  | .tup2 _ _, .tup3 _ _ _, _, h, _ => h.elim
  | .tup2 _ _, .gd _ _, _, h, _ => h.elim
  | .tup3 _ _ _, .one _, _, h, _ => h.elim
  | .tup3 _ _ _, .agg _, _, h, _ => h.elim
  | .tup3 _ _ _, .tup2 _ _, _, h, _ => h.elim
  | .tup3 _ _ _, .gd _ _, _, h, _ => h.elim
  | .gd _ _, .one _, _, h, _ => h.elim
  | .gd _ _, .agg _, _, h, _ => h.elim
  | .gd _ _, .tup2 _ _, _, h, _ => h.elim
  | .gd _ _, .tup3 _ _ _, _, h, _ => h.elim
  | .gd _ _, .gd _ _, _, h, _ => h.elim
section
variable {P : Program} {N : Nat} {w0 : Start} {σ : Sig}
def RetF (P : Program) (fn : Func) (r : SV) : Exit → Sig → Prop
  | .ret, σ => ∃ s, ResL P σ fn.results.toList s ∧ FvS σ.heap s r
  | .normal, σ => ∃ s, ResL P σ fn.results.toList s ∧ FvS σ.heap s r
  | _, _ => False
theorem FnF.of_body {f : FuncId} {fn : Func} {c : Code} {args : List SV} {r : SV} (hf : P.funcs[f]? = some fn) (hb : fn.body = some c) (hle : args.length ≤ fn.ntmps)
    (h : ∀ w0, AW P fn.ntmps w0 c (RetF P fn r) ⟨enumE 0 args, []⟩) : FnF P f args r := by
  intro w S vs hS hd
  have hl := hd.len
  refine calls_of_wp hf hb ?_
  refine h ⟨w.heap.size, w, S, w, ⟨fun _ => (0, 0), w.heap.size, fun _ _ => undef, fun _ _ _ => False, fun _ => 0⟩⟩ ⟨fun _ => (0, 0), w.heap.size, fun _ _ => undef, fun _ _ _ => False, fun _ => 0⟩ S _ w _ (fun e ρ S' σ a w' hs hq => ?_) ⟨?_, rfl, ⟨Below.refl _ _, Same.refl _ _, fun _ _ => .refl _ _⟩, ⟨rfl, Nat.le_refl _, hS, fun id o ho => by simp at ho, fun id o ho => by simp at ho, fun id id' o o' ho => by simp at ho, fun id n X ho => by simp at ho⟩, ?_⟩
  · have fin : (∃ s, ResL P σ fn.results.toList s ∧ FvS σ.heap s r) → a.defers = [] ∧ ∃ v, (results fn a.tmps).run P w' = .ok v w' ∧ (∃ v', Ending.returned v = .returned v' ∧ DR w' (newS w w') r v' ∧ Below w.heap.size w w') := fun ⟨s, hr, hfv⟩ => by
      obtain ⟨v, hv, hrun⟩ := hr.run hs
      exact ⟨hs.defers, v, hrun, v, rfl, hfv.sound hs.mem hv, hs.below.old⟩
    cases e
    case ret => exact fin hq
    case normal => exact fin hq
    all_goals exact hq.elim
  · simp [hl]; omega
  · intro t s ht
    obtain ⟨j, u, e1, e2, e3⟩ := hd.get ht
    have hj : j < vs.length := (List.getElem?_eq_some_iff.1 e2).1
    have : ((vs.toArray ++ Array.replicate (fn.ntmps - vs.toArray.size) undef).getD t undef) = u := by
      rw [Array.getD_eq_getD_getElem?, Array.getElem?_append_left (by simp; omega)]
      simp [show t = j by omega, e2]
    show RS _ w S s ((vs.toArray ++ Array.replicate (fn.ntmps - vs.toArray.size) undef).getD t undef)
    rw [this]
    exact e3.toRS

/-! make -/
/-- The slice type t has elements of sz cells and 'by' bytes whose zero is z. -/
def elemZ (P : Program) (t : TypeId) : Option (Option Value × Nat × Nat) :=
  match P.underlying t with
  | some (.slice e) => (P.info? e).map fun i => (i.zero, i.size, i.bytes)
  | _ => none
theorem elemZ_spec {t : TypeId} {z : Value} {sz by_ : Nat} (h : elemZ P t = some (some z, sz, by_)) : ∃ e i, P.underlying t = some (.slice e) ∧ P.info? e = some i ∧ i.zero = some z ∧ i.size = sz ∧ i.bytes = by_ := by
  unfold elemZ at h
  split at h
  · rename_i e hu
    cases hi : P.info? e with
    | none => rw [hi] at h; cases h
    | some i =>
      rw [hi] at h
      simp only [Option.map_some, Option.some.injEq, Prod.mk.injEq] at h
      exact ⟨e, i, hu, hi, h.1, h.2.1, h.2.2⟩
  · cases h
variable {ops : Array Oper} {rest : List Oper} {o : Oper} {Q : Sig → Prop}
theorem RL.getD {ρ : Rho} {w : World} {S : Nat → Prop} {l : List AV} {us : List Value} (h : RL ρ w S l us) {j : Nat} (hj : j < l.length) : ∃ u, us[j]? = some u ∧ R ρ w S (l.getD j (.con undef)) u := by
  obtain ⟨u, hu, hr⟩ := h.get (List.getElem?_eq_getElem hj)
  exact ⟨u, hu, by rw [List.getD_eq_getElem?_getD, List.getElem?_eq_getElem hj]; exact hr⟩
theorem ARun.make {t d id n by_ : Nat} {m c : Int} {k k' : IntKind} {x y : Operand} {z : Value} {l : List AV} (ho : o.op = .makeSlice t x y) (hz : elemZ P t = some (some z, l.length, by_)) (hl : ∀ ρ w S, RL ρ w S l z.cells.toList)
    (hx : Kn σ x (.one (.int k m))) (hy : Kn σ y (.one (.int k' c))) (hm : m = (n : Int)) (hc : c = (n : Int)) (hn : by_ * n ≤ 281474976710656) (h63 : n ≤ 9223372036854775807) (hsz : 0 < l.length)
    (hf : Fr id σ) (hno : l.all (AV.no id) = true) (hg : o.guard = none) (hd : o.dst = some d) (hN : d < N)
    (h : ARun P N w0 ops Q rest ((σ.set id (.arr l.length n fun _ j => l.getD j (.con undef))).put d (.one (.own id l.length n)))) : ARun P N w0 ops Q (o :: rest) σ := by
  subst hm hc
  intro ρ S a w Q' hQ hs
  refine wpList_plain hg fun K hK => ?_
  obtain ⟨e, i, hu, hi, hz0, hz1, hz2⟩ := elemZ_spec hz
  have hzl := hl ρ w S
  have hzlen : z.cells.size = l.length := by have := hzl.len; simpa using this
  obtain ⟨ρ', e1, hs'⟩ := hs.new hf (o := .arr l.length n fun _ j => l.getD j (.con undef)) (cs := madeCells z.cells (n * i.size)) (e := e) (cap := n) rfl (by rw [size_madeCells, hz1]; rfl) (Nat.le_refl _) (by unfold maxLen; omega)
    (fun i' j hi' hj => by
      have hj' : j < l.length := hj
      have hi'' : i' < n := hi'
      obtain ⟨u, hu', hr⟩ := hzl.getD hj'
      refine ⟨u, ?_, hr⟩
      show (madeCells z.cells (n * i.size))[i' * l.length + j]? = some u
      have hlt : i' * l.length + j < n * i.size := by
        rw [hz1]
        have : (i' + 1) * l.length ≤ n * l.length := Nat.mul_le_mul_right _ hi''
        rw [Nat.succ_mul] at this
        omega
      have hmod : (i' * l.length + j) % z.cells.size = j := by rw [hzlen, Nat.mul_comm, Nat.mul_add_mod, Nat.mod_eq_of_lt hj']
      have hjz : j < z.cells.size := by rw [hzlen]; exact hj'
      have : z.cells[j]? = some u := by simpa using hu'
      rw [Array.getElem?_eq_getElem hjz] at this
      simp only [madeCells, Array.getElem?_map, Array.getElem?_range, hlt, if_true, Option.map_some, hmod]
      rw [show z.cells[j]! = z.cells[j] from getElem!_pos z.cells j hjz]
      exact this)
    (fun i' j => by
      show (l.getD j (.con undef)).no id = true
      rw [List.getD_eq_getElem?_getD]
      cases hl : l[j]? with
      | none => rfl
      | some x => exact List.all_eq_true.1 hno x (List.mem_of_getElem? hl))
  have h1 : a.eval x = .int k (n : Int) := hx.sound hs
  have h2 : a.eval y = .int k' (n : Int) := hy.sound hs
  have hmk := run_make_rowN (P := P) t e i z hu hi hz0 k k' n n (Nat.le_refl _) (by rw [hz2]; exact hn) h63 w
  have hrun : (execOp a.eval o).run P w = .ok (.value (.slice (some ⟨w.heap.size, 0, none⟩) n n)) (w.alloc (.cells (madeCells z.cells (n * i.size)) e)) := by
    generalize a.eval = ev at h1 h2
    simp only [execOp, ho, h1, h2, Sem.run_bind, hmk]
    simp [go_sem]
  unfold Oper.wp
  rw [hrun]
  simp only [Oper.upon, hd]
  refine hK _ _ (h ρ' S _ _ Q' hQ (hs'.put hN ?_))
  show ∃ A, Value.slice _ _ _ = .slice A n (ρ' id).2 ∧ n ≤ (ρ' id).2 ∧ (ρ' id).2 ≤ maxLen ∧ (A = some ⟨(ρ' id).1, 0, none⟩ ∨ (A = none ∧ (ρ' id).2 = 0))
  rw [e1]
  exact ⟨_, rfl, Nat.le_refl _, by unfold maxLen; omega, .inl rfl⟩
end
end Go.Proofs.Ytmfkmifkkplidaa
