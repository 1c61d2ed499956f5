/-
  Part 3 of the proof: the texts of a seat's own library, joined.
-/
import Derived.Deep.Fields
import Derived.Laws.BitsLemmas
import Derived.Maps.AppendAt
import Derived.Lib.AppendZerosOnto
import Derived.Lib.AppendZeros
import Derived.WalkSpells
import Derived.Shelf.Abstract
import Derived.Test.YtgcliipdkoefaaaMf1
import Derived.Test.YtgcliipdkoefaaaMf2
/-
  How a law's statement follows from its walk: the arguments are opened to Lean values ('Opens'), and behind a call that leaves old memory alone each argument reads as before ('law_post').
-/
namespace Go.Proofs.Ytgcliipdkoefaaa
open Go.ChangeShapes Go.WideShapes Go.ChangeAt Go.RowKit Go.Deep
set_option linter.unusedVariables false

theorem own : ownKnob Try.prog.godebug = none := by kernel_rfl
theorem laidOut : laidOutB Try.prog = true := by kernel_rfl

section
variable {H : Type} {enc : TypeId × Value → H} {P : Program}
theorem trodAll_stays {W W' : World} {sp : Nat → Bool} (hl : laidOutB P = true) : ∀ {ts : List TypeId} {vs : List Value} {ds : List (DataW H)} {ps : List MemPlace}, (ts.all fun t => P.readableRec t && decide (t < P.types.size)) = true →
    DataW.TrodAll enc P W 0 (fun _ => true) true ts vs ds ps → (∀ p ∈ ps, W.sameAt W' p) → (∀ p ∈ ps, sp p.block = true) → DataW.TrodAll enc P W' 0 sp true ts vs ds ps := by
  intro ts
  induction ts with
  | nil =>
    intro vs ds ps _ h _ _
    cases vs <;> cases ds <;> first | exact h | exact h.elim
  | cons t ts ih =>
    intro vs ds ps ht h hs hsp
    cases vs with
    | nil => cases ds <;> exact h.elim
    | cons v vs =>
      cases ds with
      | nil => exact h.elim
      | cons d ds =>
        obtain ⟨p, q, h1, h2, rfl⟩ := h
        simp only [List.all_cons, Bool.and_eq_true, decide_eq_true_eq] at ht
        exact ⟨p, q, WideElems.Trod_stays hl ht.1.1 ht.1.2 h1 (fun x hx => hs x (List.mem_append_left _ hx)) (fun x hx => hsp x (List.mem_append_left _ hx)),
          ih ht.2 h2 (fun x hx => hs x (List.mem_append_right _ hx)) (fun x hx => hsp x (List.mem_append_right _ hx)), rfl⟩

/-- The row's last step: the call returned true and left old memory alone. -/
theorem law_post {f : Func} {s : ChangeSpec} {W W' : World} {args : Array Value} {ds gs : List (DataW H)} {before : List MemPlace} {tb : TypeId}
    (hW : DataW.Whole enc P f.params.toList s.vars false W args.toList ds gs before) (hvars : s.vars = []) (hl : laidOutB P = true) (hts : (f.params.toList.all fun t => P.readableRec t && decide (t < P.types.size)) = true)
    (hb : Below W.heap.size W W') (hfn : s.fn H (ds ++ gs) = { results := [.lit (.bool true)], args := ds }) (hrt : f.resultTypes = #[tb]) (hu : P.underlying tb = some .bool) :
    s.post enc P f false true false false W args (.bool true) W' := by
  have hlt : ∀ p ∈ before, p.block < W.heap.size := fun p hp => hW.lt p hp
  have hW' := hW
  obtain ⟨p, q, hA, hV, rfl, hz, hn⟩ := hW
  rw [hvars] at hV
  have hV' := hV
  obtain ⟨rfl, rfl⟩ := trodVars_none hV
  have hargs : ∀ sp : Nat → Bool, (∀ x ∈ p ++ [], sp x.block = true) → DataW.TrodAll enc P W' 0 sp true f.params.toList args.toList (s.fn H (ds ++ [])).args p := fun sp hsp => by
    rw [hfn]
    exact trodAll_stays hl hts hA (fun x hx => hb.same (hlt x (by simpa using hx))) (fun x hx => hsp x (by simpa using hx))
  have hvs : ∀ sp : Nat → Bool, DataW.TrodVars enc P W' sp s.vars (s.fn H (ds ++ [])).vars [] := fun sp => by
    rw [hvars, hfn]
    rfl
  have hres : ∀ (b : Nat) (sp : Nat → Bool) (hd : Bool), DataW.TrodAll enc P W' b sp hd f.resultTypes.toList ((Value.bool true).resultList f.resultTypes.size) (s.fn H (ds ++ [])).results [] := fun b sp hd => by
    rw [hfn, hrt]
    exact trodAll_cons_mk (shut_bool hu _) trodAll_mk0
  have hold : ∀ x ∈ p ++ [], (fun b => decide (b < W.heap.size)) x.block = true := fun x hx => by simpa using hlt x hx
  refine ⟨ds, [], p ++ [], [], p, [], hW', hres _ _ _, hargs _ hold, hvs _, World.keptBut_mono (fun x hx => ⟨hx, ?_⟩) (hb.frame (· ∈ p ++ [])), fun h => by cases h⟩
  exact Or.inr (by simpa using hx)

/-- A value of type t reads as an α. -/
def Opens (P : Program) (t : TypeId) (α : Type) [Rep α] : Prop :=
  ∀ (H : Type) (enc : TypeId × Value → H) (w : World) (fuel : Nat) (cs : List Value) (x : DataW H × List MemPlace), DataW.trod enc P w 0 (fun _ => true) true fuel t cs = some x → ∃ a : α, Rep.rep w (· < w.heap.size) a cs

theorem i64_of_wf {n : Int} (h : (Lit.int .i64 n).wf = true) : I64 n := by
  simpa [Lit.wf, IntKind.min, IntKind.max, IntKind.signed, IntKind.bits, I64] using h
theorem Opens.int {t : TypeId} (ht : P.underlying t = some (.int .i64)) : Opens P t Int := fun _ _ _ _ _ _ h => by
  obtain ⟨n, rfl, _, hw⟩ := DataW.trod_int ht h
  exact ⟨n, rfl, i64_of_wf hw⟩
theorem Opens.bool {t : TypeId} (ht : P.underlying t = some .bool) : Opens P t Bool := fun _ _ _ _ _ _ h => by
  obtain ⟨n, rfl, _⟩ := DataW.trod_bool ht h
  exact ⟨n, rfl, trivial⟩
theorem Opens.string {t : TypeId} (ht : P.underlying t = some .string) : Opens P t ByteArray := fun _ _ _ _ _ _ h => by
  obtain ⟨s, rfl, _, hs⟩ := DataW.trod_string ht h
  exact ⟨s, rfl, hs⟩
theorem list_of_fun {α : Type} (f : Nat → Option α) (len : Nat) (hf : ∀ i, i < len → ∃ y, f i = some y) : ∃ l : List α, l.length = len ∧ ∀ i (h : i < l.length), f i = some l[i] := by
  induction len with
  | zero => exact ⟨[], rfl, fun i h => absurd h (by simp)⟩
  | succ k ih =>
    obtain ⟨l, hl, hl2⟩ := ih (fun i hi => hf i (by omega))
    obtain ⟨y, hy⟩ := hf k (by omega)
    refine ⟨l ++ [y], by simp [hl], fun i h => ?_⟩
    by_cases hik : i < l.length
    · rw [List.getElem_append_left hik]; exact hl2 i hik
    · have : i = l.length := by simp at h; omega
      subst this
      rw [List.getElem_append_right (Nat.le_refl _)]
      simp [hl, hy]
theorem Opens.slice {α : Type} [Rep α] {t e : TypeId} (ht : P.underlying t = some (.slice e)) (hC : P.cellsOf e = Rep.size α) (hp : 0 < Rep.size α) (he : Opens P e α) : Opens P t (List α) := fun H enc w fuel cs x h => by
  rcases open_slice ht h with ⟨rfl, _⟩ | ⟨a, len, cap, m, n, D, Pl, rfl, _, hl, hm, hmm, _, hi⟩
  · exact ⟨[], none, 0, rfl, Nat.le_refl _, by simp [maxLen], fun _ => rfl, fun i hi => absurd hi (by simp)⟩
  · have hlm : len ≤ m := by rw [hmm]; simpa using hl
    have hx : ∀ i, i < len → ∃ (y : α) (xs : List Value), Rep.rep w (· < w.heap.size) y xs ∧ xs.length = Rep.size α ∧ ∀ j, j < Rep.size α → w.cell? (a.add (i * Rep.size α + j)) = xs[j]? := fun i hil => by
      obtain ⟨cs', hc, ht'⟩ := hi i (by omega)
      rw [hC] at hc
      obtain ⟨_, hcl, hat⟩ := World.cells?_some hc
      obtain ⟨y, hy⟩ := he H enc w n cs' _ ht'
      exact ⟨y, cs', hy, hcl, fun j hj => by rw [← hat j hj, add_add]⟩
    have hch : ∃ f : Nat → Option α, ∀ i, i < len → ∃ (y : α) (xs : List Value), f i = some y ∧ Rep.rep w (· < w.heap.size) y xs ∧ xs.length = Rep.size α ∧ ∀ j, j < Rep.size α → w.cell? (a.add (i * Rep.size α + j)) = xs[j]? := by
      classical
      refine ⟨fun i => if hil : i < len then some (hx i hil).choose else none, fun i hil => ⟨(hx i hil).choose, (hx i hil).choose_spec.choose, by simp [hil], (hx i hil).choose_spec.choose_spec⟩⟩
    obtain ⟨f, hf⟩ := hch
    have hlist := list_of_fun f len fun i hil => let ⟨y, _, hy, _⟩ := hf i hil; ⟨y, hy⟩
    obtain ⟨l, hl1, hl2⟩ := hlist
    subst hl1
    refine ⟨l, some a, cap, rfl, hl, hm, (fun e => by cases e), fun i hil => ?_⟩
    obtain ⟨y, xs, hy, hr, hxl, hc⟩ := hf i hil
    rw [hl2 i hil] at hy
    obtain rfl := Option.some.inj hy
    have hspot : a.spot = none := by
      obtain ⟨y, xs, _, _, hxl, hc⟩ := hf 0 (by omega)
      have h0 := hc 0 hp
      rw [List.getElem?_eq_getElem (by omega)] at h0
      simp only [Nat.zero_mul, Nat.add_zero] at h0
      have e : a.add 0 = a := rfl
      rw [e] at h0
      unfold World.cell? at h0
      split at h0
      · split at h0
        · cases h0
        · rename_i hs; simpa using hs
      · cases h0
    obtain ⟨b, off, sp⟩ := a
    obtain rfl : sp = none := hspot
    have h0 := hc 0 hp
    rw [List.getElem?_eq_getElem (by omega), Addr.add_lit] at h0
    refine ⟨b, off, xs, rfl, World.block_lt_of_cell? w _ h0, fun j u hu => ?_, hr⟩
    have hj : j < Rep.size α := by rw [← hxl]; exact (List.getElem?_eq_some_iff.1 hu).1
    rw [← hu, ← hc j hj, Addr.add_lit]

theorem Opens.int2 {t t0 t1 : TypeId} {f0 f1 : Field} (ht : P.underlying t = some (.struct #[f0, f1])) (hone : oneCellFields P #[f0, f1] = true) (hC : P.cellsOf t = 2) (e0 : f0.type = t0) (e1 : f1.type = t1)
    (h0 : P.underlying t0 = some (.int .i64)) (h1 : P.underlying t1 = some (.int .i64)) : Opens P t P2 := fun H enc w fuel cs x h => by
  obtain ⟨y0, y1, n, _, hl, g0, g1⟩ := trod_struct2 ht h
  rw [hC] at hl
  match cs, hl with
  | [c0, c1], _ =>
    obtain ⟨o0, k0⟩ := hone_of hone 0 f0 rfl
    obtain ⟨o1, k1⟩ := hone_of hone 1 f1 rfl
    rw [o0, k0, e0] at g0
    rw [o1, k1, e1] at g1
    obtain ⟨a, ea, wa⟩ := Opens.int h0 H enc w n _ _ g0
    obtain ⟨b, eb, wb⟩ := Opens.int h1 H enc w n _ _ g1
    exact ⟨⟨a, b⟩, by simp [Flat.enc] at ea eb ⊢; exact ⟨ea, eb⟩, wa, wb⟩

theorem Opens.intstr {t t0 t1 : TypeId} {f0 f1 : Field} (ht : P.underlying t = some (.struct #[f0, f1])) (hone : oneCellFields P #[f0, f1] = true) (hC : P.cellsOf t = 2) (e0 : f0.type = t0) (e1 : f1.type = t1)
    (h0 : P.underlying t0 = some (.int .i64)) (h1 : P.underlying t1 = some .string) : Opens P t IS := fun H enc w fuel cs x h => by
  obtain ⟨y0, y1, n, _, hl, g0, g1⟩ := trod_struct2 ht h
  rw [hC] at hl
  match cs, hl with
  | [c0, c1], _ =>
    obtain ⟨o0, k0⟩ := hone_of hone 0 f0 rfl
    obtain ⟨o1, k1⟩ := hone_of hone 1 f1 rfl
    rw [o0, k0, e0] at g0
    rw [o1, k1, e1] at g1
    obtain ⟨a, ea, wa⟩ := Opens.int h0 H enc w n _ _ g0
    obtain ⟨b, eb, wb⟩ := Opens.string h1 H enc w n _ _ g1
    exact ⟨⟨a, b⟩, by simp [Flat.enc] at ea eb ⊢; exact ⟨ea, eb⟩, wa, wb⟩

/-- An argument that is a slice. -/
theorem Opens.arg {α : Type} [Rep α] {t : TypeId} (h : Opens P t (List α)) {W : World} {v : Value} {d : DataW H} {p : List MemPlace} (hv : ∃ a n c, v = .slice a n c) (ht : DataW.Trod enc P W 0 (fun _ => true) true t v d p) :
    ∃ (l : List α) (A : Option Addr) (n c : Nat), v = .slice A n c ∧ RepL W (· < W.heap.size) l A n c := by
  obtain ⟨fuel, hf⟩ := ht
  obtain ⟨a, n, c, rfl⟩ := hv
  obtain ⟨l, hl⟩ := h H enc W fuel _ _ hf
  have hl' := hl
  obtain ⟨A, c', e, h1, h2, h4, h3⟩ := hl'
  simp only [Value.cells, List.cons.injEq, Value.slice.injEq, and_true] at e
  obtain ⟨rfl, rfl, rfl⟩ := e
  exact ⟨l, a, _, c, rfl, rfl, hl⟩
end
end Go.Proofs.Ytgcliipdkoefaaa

/-
  How the arguments of a law are opened to data of the calculus.
-/
namespace Go.Proofs.Ytgcliipdkoefaaa
open Go.ChangeShapes Go.WideShapes Go.ChangeAt Go.RowKit Go.BigFrame Go.Deep
set_option linter.unusedVariables false

set_option linter.unusedSimpArgs false
section
variable {P : Program}
/-- Cells of type t read as an α. -/
def OpensC (P : Program) (t : TypeId) {α : Type} (enc : α → List AV) : Prop :=
  ∀ (H : Type) (eh : TypeId × Value → H) (w : World) (fuel : Nat) (cs : List Value) (x : DataW H × List MemPlace), DataW.trod eh P w 0 (fun _ => true) true fuel t cs = some x → ∃ a : α, DL w (· < w.heap.size) (enc a) cs
theorem OpensC.int {t : TypeId} (ht : P.underlying t = some (.int .i64)) : OpensC P t (fun n : Int => [.int .i64 n]) := fun _ _ _ _ _ _ h => by
  obtain ⟨n, rfl, _, hw⟩ := DataW.trod_int ht h
  exact ⟨n, _, _, rfl, rfl, rfl⟩
theorem OpensC.bool {t : TypeId} (ht : P.underlying t = some .bool) : OpensC P t (fun b : Bool => [.bool b]) := fun _ _ _ _ _ _ h => by
  obtain ⟨n, rfl, _⟩ := DataW.trod_bool ht h
  exact ⟨n, _, _, rfl, rfl, rfl⟩
theorem OpensC.string {t : TypeId} (ht : P.underlying t = some .string) : OpensC P t (fun s : ByteArray => [.str s]) := fun _ _ _ _ _ _ h => by
  obtain ⟨s, rfl, _, hs⟩ := DataW.trod_string ht h
  exact ⟨s, _, _, rfl, ⟨rfl, hs⟩, rfl⟩
theorem DL.len {w : World} {S : Nat → Prop} : ∀ {l : List AV} {us : List Value}, DL w S l us → us.length = l.length
  | [], us, h => by rw [show us = [] from h]; rfl
  | _ :: _, _, ⟨_, _, e, _, h2⟩ => by rw [e]; simp [DL.len h2]
theorem DL.get {w : World} {S : Nat → Prop} : ∀ {l : List AV} {us : List Value}, DL w S l us → ∀ {j : Nat} {x : AV}, l[j]? = some x → ∃ u, us[j]? = some u ∧ D w S x u
  | [], _, _, j, x, hx => by simp at hx
  | y :: l, _, ⟨u, us, e, h1, h2⟩, j, x, hx => by
    subst e
    cases j with
    | zero => simp at hx; subst hx; exact ⟨u, rfl, h1⟩
    | succ j => simp at hx ⊢; exact DL.get h2 hx
theorem DL.append {w : World} {S : Nat → Prop} : ∀ {l m : List AV} {us vs : List Value}, DL w S l us → DL w S m vs → DL w S (l ++ m) (us ++ vs)
  | [], _, us, _, h, k => by rw [show us = [] from h]; exact k
  | _ :: _, _, _, _, ⟨u, us, e, h1, h2⟩, k => ⟨u, _, by rw [e]; rfl, h1, DL.append h2 k⟩
theorem DL.part {w : World} {S : Nat → Prop} {l m : List AV} {cs : List Value} {o s : Nat} (h : DL w S l ((cs.drop o).take s)) (k : DL w S m (cs.drop (o + s))) : DL w S (l ++ m) (cs.drop o) := by
  have := DL.append h k
  rwa [← List.drop_drop, List.take_append_drop] at this
theorem OpensC.slice {α : Type} {t e : TypeId} {sz : Nat} {en : α → List AV} {f : List α → Nat → Nat → AV} (d : α) (ht : P.underlying t = some (.slice e)) (hC : P.cellsOf e = sz) (hp : 0 < sz) (he : OpensC P e en) (hlen : ∀ a, (en a).length = sz)
    (hf : ∀ l i j, i < l.length → j < sz → f l i j = (en (l.getD i d)).getD j (.con undef)) : OpensC P t (fun l : List α => [.lst sz l.length (f l)]) := fun H eh w fuel cs x h => by
  rcases open_slice ht h with ⟨rfl, _⟩ | ⟨a, len, cap, m, n, D, Pl, rfl, _, hl, hm, hmm, _, hi⟩
  · exact ⟨[], _, _, rfl, ⟨none, 0, rfl, Nat.le_refl _, by simp [maxLen], fun _ => rfl, fun i hi => absurd hi (by simp)⟩, rfl⟩
  · have hlm : len ≤ m := by rw [hmm]; simpa using hl
    have hx : ∀ i, i < len → ∃ (y : α) (xs : List Value), DL w (· < w.heap.size) (en y) xs ∧ ∀ j, j < sz → w.cell? (a.add (i * sz + j)) = xs[j]? := fun i hil => by
      obtain ⟨cs', hc, ht'⟩ := hi i (by omega)
      rw [hC] at hc
      obtain ⟨_, hcl, hat⟩ := World.cells?_some hc
      obtain ⟨y, hy⟩ := he H eh w n cs' _ ht'
      exact ⟨y, cs', hy, fun j hj => by rw [← hat j hj, add_add]⟩
    have hch : ∃ g : Nat → Option α, ∀ i, i < len → ∃ (y : α) (xs : List Value), g i = some y ∧ DL w (· < w.heap.size) (en y) xs ∧ ∀ j, j < sz → w.cell? (a.add (i * sz + j)) = xs[j]? := by
      classical
      refine ⟨fun i => if hil : i < len then some (hx i hil).choose else none, fun i hil => ⟨(hx i hil).choose, (hx i hil).choose_spec.choose, by simp [hil], (hx i hil).choose_spec.choose_spec⟩⟩
    obtain ⟨g, hg⟩ := hch
    obtain ⟨l, hl1, hl2⟩ := list_of_fun g len fun i hil => let ⟨y, _, hy, _⟩ := hg i hil; ⟨y, hy⟩
    subst hl1
    have hspot : 0 < l.length → a.spot = none := fun h0l => by
      obtain ⟨y, xs, _, hr, hc⟩ := hg 0 h0l
      have h0 := hc 0 hp
      have hxl : xs.length = sz := by rw [hr.len, hlen]
      rw [List.getElem?_eq_getElem (by omega)] at h0
      simp only [Nat.zero_mul, Nat.add_zero] at h0
      have e : a.add 0 = a := rfl
      rw [e] at h0
      unfold World.cell? at h0
      split at h0
      · split at h0
        · cases h0
        · rename_i hs; simpa using hs
      · cases h0
    refine ⟨l, _, _, rfl, ⟨some a, cap, rfl, hl, hm, (fun e => by cases e), fun i hil => ?_⟩, rfl⟩
    obtain ⟨y, xs, hy, hr, hc⟩ := hg i hil
    have hsp := hspot (by omega)
    obtain ⟨b, off, sp⟩ := a
    obtain rfl : sp = none := hsp
    rw [hl2 i hil] at hy
    obtain rfl := Option.some.inj hy
    have hxl : xs.length = sz := by rw [hr.len, hlen]
    have h0 := hc 0 hp
    rw [List.getElem?_eq_getElem (by omega), Addr.add_lit] at h0
    refine ⟨b, off, rfl, World.block_lt_of_cell? w _ h0, fun j hj => ?_⟩
    have hget : l.getD i d = l[i] := by rw [List.getD_eq_getElem?_getD, List.getElem?_eq_getElem hil]; rfl
    have hjl : j < (en l[i]).length := by rw [hlen]; exact hj
    obtain ⟨u, hu, hd⟩ := hr.get (List.getElem?_eq_getElem hjl)
    refine ⟨u, ?_, ?_⟩
    · have := hc j hj
      rw [Addr.add_lit, hu] at this
      exact this
    · rw [hf l i j hil hj, hget, List.getD_eq_getElem?_getD, List.getElem?_eq_getElem hjl]
      exact hd
/-- An argument. -/
theorem OpensC.arg {H : Type} {eh : TypeId × Value → H} {t : TypeId} {α : Type} {en : α → List AV} (h : OpensC P t en) {W : World} {v : Value} {d : DataW H} {p : List MemPlace} (ht : DataW.Trod eh P W 0 (fun _ => true) true t v d p) : ∃ a, DL W (· < W.heap.size) (en a) v.cells.toList := by
  obtain ⟨fuel, hf⟩ := ht
  exact h H eh W fuel _ _ hf
theorem DS.one_of {w : World} {S : Nat → Prop} {x : AV} {v : Value} (hv : v.cells = #[v]) (h : DL w S [x] v.cells.toList) : DS w S (.one x) v := by
  obtain ⟨u, us, e, h1, h2⟩ := h
  rw [hv] at e
  simp at e
  rw [e.1]; exact h1
theorem DS.agg_of {w : World} {S : Nat → Prop} {l : List AV} {v : Value} (hv : ∃ cs, v = .agg cs) (h : DL w S l v.cells.toList) : DS w S (.agg l) v := by
  obtain ⟨cs, rfl⟩ := hv
  exact ⟨cs, rfl, h⟩
end
end Go.Proofs.Ytgcliipdkoefaaa

/-
  A calculus for walks, part 31: functions that draw out of a cursor: what they yield is not told, only bounded.
-/
namespace Go.Proofs.Ytgcliipdkoefaaa
open Go.ChangeShapes Go.WideShapes Go.ChangeAt Go.RowKit Go.BigFrame Go.Deep
set_option linter.unusedVariables false

set_option linter.unusedSimpArgs false
section
variable {P : Program} {σ : Sig} {o : Oper}
theorem PureOp.shr40 {t t' : TypeId} {x y : Operand} {k : IntKind} {a : Nat} (ho : o.op = .binOp .shr t x y t') (hx : Kn σ x (.one (.int .u64 (a : Int)))) (hy : Kn σ y (.one (.int k 40))) : PureOp P o σ (.one (.int .u64 ((a / 1099511627776 : Nat) : Int))) := by
  refine PureOp.val fun N w0 ρ S ac w hs => ?_
  have e1 : ac.eval x = .int .u64 (a : Int) := hx.sound hs
  have e2 : ac.eval y = .int k 40 := hy.sound hs
  refine ⟨_, rfl, fun w' _ => ?_⟩
  generalize ac.eval = ev at e1 e2 ⊢
  simp only [execOp, ho, e1, e2, Sem.run_bind, eqGuard_int, Result.andThen_ok, binOp_shr]
  rw [shift_shr_u64 k (a : Int) 40 (by decide) (by decide)]
  simp [go_sem]
theorem and_255 {x : Int} (h₀ : 0 ≤ x) (h₁ : x < 18446744073709551616) : bits .and .u64 x 255 = x % 256 := bits_mask .u64 64 (by decide) (fun n h0 h1 => by rw [IntKind.wrap_u64]; omega) 8 (by decide) x h₀ h₁
theorem PureOp.and255 {t t' : TypeId} {x y : Operand} {a : Nat} (ho : o.op = .binOp .and t x y t') (hx : Kn σ x (.one (.int .u64 (a : Int)))) (hy : Kn σ y (.one (.int .u64 255))) (ha : a < 18446744073709551616) : PureOp P o σ (.one (.int .u64 ((a % 256 : Nat) : Int))) := by
  refine PureOp.val fun N w0 ρ S ac w hs => ?_
  have e1 : ac.eval x = .int .u64 (a : Int) := hx.sound hs
  have e2 : ac.eval y = .int .u64 255 := hy.sound hs
  refine ⟨_, rfl, fun w' _ => ?_⟩
  generalize ac.eval = ev at e1 e2 ⊢
  simp only [execOp, ho, e1, e2, Sem.run_bind, eqGuard_int, Result.andThen_ok, binOp_and, intBits_and]
  rw [and_255 (by omega) (by omega)]
  rfl
theorem PureOp.mulU {t t' : TypeId} {x y : Operand} {a b c : Int} (ho : o.op = .binOp .mul t x y t') (hx : Kn σ x (.one (.int .u64 a))) (hy : Kn σ y (.one (.int .u64 b))) (hc : IntKind.u64.wrap (a * b) = c) : PureOp P o σ (.one (.int .u64 c)) := by
  subst hc; exact PureOp.intOp ho hx hy rfl
theorem PureOp.addU {t t' : TypeId} {x y : Operand} {a b c : Int} (ho : o.op = .binOp .add t x y t') (hx : Kn σ x (.one (.int .u64 a))) (hy : Kn σ y (.one (.int .u64 b))) (hc : IntKind.u64.wrap (a + b) = c) : PureOp P o σ (.one (.int .u64 c)) := by
  subst hc; exact PureOp.intOp ho hx hy rfl
/-- A row of three numbers. -/
theorem FreshOp.trip {t e : Nat} {x y z : Operand} {a1 a2 a3 : Int} (ho : o.op = .buildSlice t 3 #[(0, x), (1, y), (2, z)]) (hx : Kn σ x (.one (.int .i64 a1))) (hy : Kn σ y (.one (.int .i64 a2))) (hz3 : Kn σ z (.one (.int .i64 a3)))
    (ht : P.underlying t = some (.slice e)) (hz : (P.info? e).map (fun i => (i.size, i.zero)) = some (1, some (.int .i64 0))) : FreshOp P o σ (.one (.frs (.lst 1 3 fun i _ => .int .i64 (([a1, a2, a3] : List Int).getD i 0)))) := by
  constructor
  intro N w0 ρ S a w K Q' hs hK
  have e1 : a.eval x = .int .i64 a1 := hx.sound hs
  have e2 : a.eval y = .int .i64 a2 := hy.sound hs
  have e3 : a.eval z = .int .i64 a3 := hz3.sound hs
  obtain ⟨i, hi, hi2⟩ := Option.map_eq_some_iff.1 hz
  simp only [Prod.mk.injEq] at hi2
  obtain ⟨z1, z2⟩ := hi2
  have er : (execOp a.eval o).run P w = .ok (.value (.slice (some ⟨w.heap.size, 0, none⟩) 3 3)) (w.alloc (.cells #[.int .i64 a1, .int .i64 a2, .int .i64 a3] e)) := by
    generalize a.eval = ev at e1 e2 e3 ⊢
    simp [execOp, ho, Instr.buildSlice, run_underlying ht, sizeOf, typeInfo, hi, z1, z2, zeroValue, e1, e2, e3, go_sem]
  unfold Oper.wp
  rw [er]
  have hb : Below w.heap.size w (w.alloc (.cells #[.int .i64 a1, .int .i64 a2, .int .i64 a3] e)) := (Below.refl _ _).alloc (Nat.le_refl _) _
  obtain ⟨g1, g2⟩ := hs.grow hb
  have hlt : ρ.base ≤ w.heap.size := by rw [hs.mem.base]; exact hs.mem.low
  refine hK _ _ _ g1 hb (fun b h => h.imp (fun h => h) (fun h => h.1)) g2 ⟨_, _, rfl, Nat.le_refl _, by decide, (fun h => by cases h), fun j hj => ⟨w.heap.size, 0, rfl, ⟨.inr ⟨Nat.le_refl _, by rw [World.heap_alloc, Array.size_push]; omega⟩, hlt⟩, fun q hq => ?_⟩⟩
  obtain rfl : q = 0 := by omega
  have hcell : ∀ p, (w.alloc (.cells #[.int .i64 a1, .int .i64 a2, .int .i64 a3] e)).cell? ⟨w.heap.size, p, none⟩ = (#[Value.int .i64 a1, .int .i64 a2, .int .i64 a3])[p]? := fun p => by simp [World.cell?, World.heap_alloc]
  match j, hj with
  | 0, _ => exact ⟨.int .i64 a1, by rw [hcell]; rfl, rfl⟩
  | 1, _ => exact ⟨.int .i64 a2, by rw [hcell]; rfl, rfl⟩
  | 2, _ => exact ⟨.int .i64 a3, by rw [hcell]; rfl, rfl⟩
end
/-- A cursor: the code that it reads, its place, its seed. -/
abbrev curO (c : Value) (n : Nat) (F : Nat → Nat) (p s : Nat) : AObj := .cells [.cv c (.lst 1 n fun i _ => .int .u8 ((F i : Nat) : Int)), .int .i64 (p : Int), .int .u64 (s : Int)]
/-- Where a cursor stands behind at most k draws. -/
structure CurOk (p k p' s' : Nat) : Prop where
  ge : p ≤ p'
  le : p' ≤ p + k
  sd : s' < 18446744073709551616
theorem CurOk.gd {p k p' s s' : Nat} {b : Bool} (hs : s < 18446744073709551616) (h1 : b = true → CurOk p k p' s') (h2 : b = false → p' = p ∧ s' = s) : CurOk p k p' s' := by
  cases b with
  | true => exact h1 rfl
  | false => obtain ⟨rfl, rfl⟩ := h2 rfl; exact ⟨Nat.le_refl _, Nat.le_add_right _ _, hs⟩
/-- The contract of a function that is handed a cursor and draws. -/
def FnC (P : Program) (f : FuncId) (n : Nat) (F : Nat → Nat) (args : List SV) (p s : Nat) {X : Type} (φ : X → Nat → Nat → Prop) (r : X → SV) : Prop :=
  ∀ (c : Value) (ρ : Rho) (S : Nat → Prop) (w : World) (vs : List Value), MemOk ρ.base ρ S [(1000000, curO c n F p s)] w → Pre ρ.base w → RSs ρ w S (.one (.ptr 1000000 3 0 0) :: args) vs →
    Calls P f vs.toArray w fun e w' => ∃ x p' s' v, φ x p' s' ∧ e = .returned v ∧ Below ρ.base w w' ∧ Same S w S w' ∧ MemOk ρ.base ρ S [(1000000, curO c n F p' s')] w' ∧ DR w' (newS w w') (r x) v
/-- The contract of a function that yields fresh data of which only bounds are told. -/
def FnE (P : Program) (f : FuncId) (args : List SV) {X : Type} (φ : X → Prop) (r : X → SV) : Prop :=
  ∀ (w : World) (S : Nat → Prop) (vs : List Value), Rd S w → DSs w S args vs → Calls P f vs.toArray w fun e w' => ∃ x v, φ x ∧ e = .returned v ∧ DR w' (newS w w') (r x) v ∧ Below w.heap.size w w'
/-- What a walk holds, seen as fresh data: rows of its own, plain values. -/
inductive Fw (H : Heap) : AV → AV → Prop
  | int {k : IntKind} {n : Int} : Fw H (.int k n) (.int k n)
  | bool {b : Bool} : Fw H (.bool b) (.bool b)
  | str {s : ByteArray} : Fw H (.str s) (.str s)
  | cnil {sz : Nat} {g : Nat → Nat → AV} : Fw H (.con (.slice none 0 0)) (.lst sz 0 g)
  | own {id sz n : Nat} {g : Nat → Nat → AV} {o : AObj} : (id == 1000000) = false → H.lookup id = some o → o.sz = sz → n ≤ o.n → (∀ i j, i < n → j < sz → Fw H (o.f i j) (g i j)) → Fw H (.own id sz n) (.lst sz n g)
theorem Fw.sound {B L hb : Nat} {ρ : Rho} {S : Nat → Prop} {H : Heap} {w : World} {o0 : AObj} (hm : MemOk B ρ S H w) (hS : ∀ b, b < L → b ≠ hb → S b) (h0 : H.lookup 1000000 = some o0) (hn0 : 0 < o0.n) (h1 : (ρ 1000000).1 = hb) {x y : AV} (h : Fw H x y) : ∀ {v : Value}, R ρ w S x v → D w (freshTo L w) y v := by
  induction h with
  | int => exact fun h => h
  | bool => exact fun h => h
  | str => exact fun h => h
  | cnil =>
    intro v hv
    have e : v = Value.slice none 0 0 := hv
    exact ⟨none, 0, e, Nat.le_refl _, by decide, fun _ => rfl, fun i hi => absurd hi (by omega)⟩
  | @own id sz n g o hid ho hsz hn _ ih =>
    intro v hv
    subst hsz
    obtain ⟨A, hv, hn1, hn2, hA⟩ := hv
    refine ⟨A, _, hv, hn1, hn2, (fun e => by rcases hA with h | ⟨_, h⟩; (· rw [h] at e; cases e); (· exact h)), fun i hi => ?_⟩
    have hc : (ρ id).2 ≠ 0 := by omega
    have hlt := hm.blk ho hc
    obtain ⟨cs, e, k1, k2, k3, k4, k5, k6, k7⟩ := hm.obj id o ho hc
    have hne : (ρ id).1 ≠ hb := by
      rw [← h1]
      exact hm.inj id 1000000 o o0 ho h0 (by simpa using hid) hc (hm.pos h0 hn0)
    have hL : L ≤ (ρ id).1 := by
      rcases Nat.lt_or_ge (ρ id).1 L with h | h
      · exact absurd (hS _ h hne) k6
      · exact h
    refine ⟨(ρ id).1, 0, by rcases hA with h | ⟨_, h⟩; (· exact h); (· exact absurd h hc), ⟨hL, hlt⟩, fun j hj => ?_⟩
    obtain ⟨u, hu, hr⟩ := k7 i j (by omega) hj
    refine ⟨u, ?_, ih i j hi hj hr⟩
    simp [World.cell?, k1, hu]
def FwL (H : Heap) : List AV → List AV → Prop
  | [], [] => True
  | x :: l, y :: m => Fw H x y ∧ FwL H l m
  | _, _ => False
def FwS (H : Heap) : SV → SV → Prop
  | .one x, .one y => Fw H x y
  | .agg l, .agg m => FwL H l m
  | .tup2 (.one a) (.one b), .tup2 (.one c) (.one d) => Fw H a c ∧ Fw H b d
  | .tup3 (.one a) (.one b) (.one e), .tup3 (.one c) (.one d) (.one f) => Fw H a c ∧ Fw H b d ∧ Fw H e f
  | _, _ => False
theorem FwL.sound {B L hb : Nat} {ρ : Rho} {S : Nat → Prop} {H : Heap} {w : World} {o0 : AObj} (hm : MemOk B ρ S H w) (hS : ∀ b, b < L → b ≠ hb → S b) (h0 : H.lookup 1000000 = some o0) (hn0 : 0 < o0.n) (h1 : (ρ 1000000).1 = hb) : ∀ {l m : List AV} {us : List Value}, FwL H l m → RL ρ w S l us → DL w (freshTo L w) m us
  | [], [], _, _, h => h
  | _ :: _, _ :: _, _, ⟨g1, g2⟩, ⟨u, us, e, k1, k2⟩ => ⟨u, us, e, g1.sound hm hS h0 hn0 h1 k1, FwL.sound hm hS h0 hn0 h1 g2 k2⟩
  | [], _ :: _, _, h, _ => h.elim
  | _ :: _, [], _, h, _ => h.elim
theorem FwS.sound {B L hb : Nat} {ρ : Rho} {S : Nat → Prop} {H : Heap} {w : World} {o0 : AObj} (hm : MemOk B ρ S H w) (hS : ∀ b, b < L → b ≠ hb → S b) (h0 : H.lookup 1000000 = some o0) (hn0 : 0 < o0.n) (h1 : (ρ 1000000).1 = hb) {s t : SV} {v : Value} (h : FwS H s t) (hr : RS ρ w S s v) : DR w (freshTo L w) t v := by
  unfold FwS at h
  split at h
  · exact h.sound hm hS h0 hn0 h1 hr
  · obtain ⟨us, e, hl⟩ := hr
    exact ⟨us, e, FwL.sound hm hS h0 hn0 h1 h hl⟩
  · obtain ⟨a, b, e, g1, g2⟩ := hr
    exact ⟨a, b, e, h.1.sound hm hS h0 hn0 h1 g1, h.2.sound hm hS h0 hn0 h1 g2⟩
  · obtain ⟨a, b, c, e, g1, g2, g3⟩ := hr
    exact ⟨a, b, c, e, h.1.sound hm hS h0 hn0 h1 g1, h.2.1.sound hm hS h0 hn0 h1 g2, h.2.2.sound hm hS h0 hn0 h1 g3⟩
  · exact h.elim
/-- How a body that draws ends. -/
def RetC (P : Program) (fn : Func) (c : Value) (n : Nat) (F : Nat → Nat) {X : Type} (φ : X → Nat → Nat → Prop) (r : X → SV) : Exit → Sig → Prop
  | .ret, σ => ∃ x p' s' t, φ x p' s' ∧ ResL P σ fn.results.toList t ∧ FwS σ.heap t (r x) ∧ σ.heap.lookup 1000000 = some (curO c n F p' s')
  | .normal, σ => ∃ x p' s' t, φ x p' s' ∧ ResL P σ fn.results.toList t ∧ FwS σ.heap t (r x) ∧ σ.heap.lookup 1000000 = some (curO c n F p' s')
  | _, _ => False
theorem cur_view {ρ : Rho} {w : World} {S S' : Nat → Prop} {c : Value} {n : Nat} {F : Nat → Nat} {p s p' s' : Nat} (h : ∀ u, R ρ w S (.cv c (.lst 1 n fun i _ => .int .u8 ((F i : Nat) : Int))) u → R ρ w S' (.cv c (.lst 1 n fun i _ => .int .u8 ((F i : Nat) : Int))) u) {i j : Nat} {u : Value} (hr : R ρ w S ((curO c n F p s).f i j) u) : R ρ w S' ((curO c n F p s).f i j) u := by
  unfold curO AObj.f at hr ⊢
  match j with
  | 0 => exact h u hr
  | 1 => exact hr
  | 2 => exact hr
  | k + 3 => exact hr
theorem FnC.of_body {P : Program} {f : FuncId} {fn : Func} {b : Code} {n : Nat} {F : Nat → Nat} {args : List SV} {p s : Nat} {X : Type} {φ : X → Nat → Nat → Prop} {r : X → SV} (hf : P.funcs[f]? = some fn) (hb : fn.body = some b) (hle : args.length + 1 ≤ fn.ntmps)
    (h : ∀ w0 c, AW P fn.ntmps w0 b (RetC P fn c n F φ r) ⟨enumE 0 (.one (.ptr 1000000 3 0 0) :: args), [(1000000, curO c n F p s)]⟩) : FnC P f n F args p s φ r := by
  intro c ρ0 S w vs hm hpre hd
  have hl := hd.len
  have hlk : ([(1000000, curO c n F p s)] : Heap).lookup 1000000 = some (curO c n F p s) := by simp
  have hpos : (ρ0 1000000).2 ≠ 0 := hm.pos hlk (i := 0) Nat.zero_lt_one
  obtain ⟨cs0, e0, k1, k2, k3, k4, k5, k6, k7⟩ := hm.obj _ _ hlk hpos
  obtain ⟨u0, hu0, hr0⟩ := k7 0 0 Nat.zero_lt_one (Nat.zero_lt_succ 2)
  have hcv : u0 = c ∧ D w S (.lst 1 n fun i _ => .int .u8 ((F i : Nat) : Int)) c := by
    have hr0 : u0 = c ∧ D w S (.lst 1 n fun i _ => .int .u8 ((F i : Nat) : Int)) u0 := hr0
    exact ⟨hr0.1, hr0.1 ▸ hr0.2⟩
  let S0 : Nat → Prop := fun q => q < w.heap.size ∧ q ≠ (ρ0 1000000).1
  have hsub : ∀ q, S q → S0 q := fun q hq => ⟨hm.lt q hq, fun e => k6 (e ▸ hq)⟩
  have hsame0 : Same S w S0 w := ⟨hsub, fun _ _ => rfl⟩
  have only : ∀ id o, ([(1000000, curO c n F p s)] : Heap).lookup id = some o → id = 1000000 ∧ o = curO c n F p s := by
    intro id o ho
    rcases lookup_put ho with ⟨rfl, rfl⟩ | ⟨_, ho⟩
    · exact ⟨rfl, rfl⟩
    · simp at ho
  have hm0 : MemOk ρ0.base ρ0 S0 [(1000000, curO c n F p s)] w := by
    refine ⟨rfl, hm.low, fun q hq => hq.1, hm.cap, ?_, hm.inj, ?_⟩
    · intro id o ho hc
      obtain ⟨rfl, rfl⟩ := only id o ho
      refine ⟨cs0, e0, k1, k2, k3, k4, k5, fun hq => hq.2 rfl, fun i j hi hj => ?_⟩
      obtain ⟨u, hu, hr⟩ := k7 i j hi hj
      exact ⟨u, hu, hr.keep hsame0 (Rn.refl _ _)⟩
    · intro id m X hX
      have := (only id _ hX).2
      cases this
  refine calls_of_wp hf hb ?_
  refine h ⟨ρ0.base, w, S0, w, ρ0, hpre⟩ c ρ0 S0 _ w _ (fun e ρ S' σ a w' hs hq => ?_) ⟨?_, rfl, ⟨Below.refl _ _, Same.refl _ _, fun _ _ => .refl _ _⟩, hm0, ?_⟩
  · have fin : (∃ x p' s' t, φ x p' s' ∧ ResL P σ fn.results.toList t ∧ FwS σ.heap t (r x) ∧ σ.heap.lookup 1000000 = some (curO c n F p' s')) → a.defers = [] ∧ ∃ v, (results fn a.tmps).run P w' = .ok v w' ∧
        (∃ x p' s' v', φ x p' s' ∧ Ending.returned v = .returned v' ∧ Below ρ0.base w w' ∧ Same S w S w' ∧ MemOk ρ0.base ρ0 S [(1000000, curO c n F p' s')] w' ∧ DR w' (newS w w') (r x) v') := fun ⟨x, p', s', t, hφ, hr, hfw, hcur⟩ => by
      obtain ⟨v, hv, hrun⟩ := hr.run hs
      have hid := hs.below.ids 1000000 (Nat.le_refl _)
      have e1 : (ρ 1000000) = (ρ0 1000000) := hid.m
      have hS0 : Same S0 w S' w' := hs.below.same
      have hbl := hs.below.old
      have hsz : w.heap.size ≤ w'.heap.size := hbl.size
      have hSS : Same S w S w' := ⟨fun _ h => h, fun q hq => hS0.blk q (hsub q hq)⟩
      have hpos' : (ρ 1000000).2 ≠ 0 := by rw [e1]; exact hpos
      obtain ⟨cs, e, g1, g2, g3, g4, g5, g6, g7⟩ := hs.mem.obj _ _ hcur hpos'
      rw [e1] at g1 g2 g3 g4 g5 g6
      refine ⟨hs.defers, v, hrun, x, p', s', v, hφ, rfl, hbl, hSS, ?_, ?_⟩
      · have only' : ∀ id o, ([(1000000, curO c n F p' s')] : Heap).lookup id = some o → id = 1000000 ∧ o = curO c n F p' s' := by
          intro id o ho
          rcases lookup_put ho with ⟨rfl, rfl⟩ | ⟨_, ho⟩
          · exact ⟨rfl, rfl⟩
          · simp at ho
        refine ⟨rfl, Nat.le_trans hm.low hsz, fun q hq => Nat.lt_of_lt_of_le (hm.lt q hq) hsz, fun id o ho => ?_, fun id o ho hc => ?_, fun id id' o o' ho ho' hne => ?_, fun id m X hX => ?_⟩
        · obtain ⟨rfl, rfl⟩ := only' id o ho; exact g3
        · obtain ⟨rfl, rfl⟩ := only' id o ho
          refine ⟨cs, e, g1, g2, g3, g4, k5, k6, fun i j hi hj => ?_⟩
          obtain ⟨u, hu, hr⟩ := g7 i j hi hj
          refine ⟨u, hu, ?_⟩
          unfold curO AObj.f at hr ⊢
          match j with
          | 0 =>
            have hr : u = c ∧ D w' S' _ u := hr
            exact ⟨hr.1, by rw [hr.1]; exact hcv.2.keep hSS⟩
          | 1 => exact hr
          | 2 => exact hr
          | k + 3 => exact hr
        · obtain ⟨rfl, rfl⟩ := only' id o ho; exact absurd (only' id' o' ho').1.symm hne
        · cases (only' id _ hX).2
      · exact hfw.sound hs.mem (L := w.heap.size) (hb := (ρ0 1000000).1) (fun q h1 h2 => hS0.sub q ⟨h1, h2⟩) hcur Nat.zero_lt_one (by rw [e1]) hv
    cases e
    case ret => exact fin hq
    case normal => exact fin hq
    all_goals exact hq.elim
  · simp [hl]; omega
  · intro t s' ht
    obtain ⟨j, u, e1, e2, e3⟩ := hd.get ht
    have hj : j < vs.length := (List.getElem?_eq_some_iff.1 e2).1
    have : ((vs.toArray ++ Array.replicate (fn.ntmps - vs.toArray.size) undef).getD t undef) = u := by
      rw [Array.getD_eq_getD_getElem?, Array.getElem?_append_left (by simp; omega)]
      simp [show t = j by omega, e2]
    show RS _ w S0 s' ((vs.toArray ++ Array.replicate (fn.ntmps - vs.toArray.size) undef).getD t undef)
    rw [this]
    exact e3.keep hsame0 (Rn.refl _ _)
def RetE (P : Program) (fn : Func) {X : Type} (φ : X → Prop) (r : X → SV) : Exit → Sig → Prop
  | .ret, σ => ∃ x s, φ x ∧ ResL P σ fn.results.toList s ∧ FvS σ.heap s (r x)
  | .normal, σ => ∃ x s, φ x ∧ ResL P σ fn.results.toList s ∧ FvS σ.heap s (r x)
  | _, _ => False
theorem FnE.of_body {P : Program} {f : FuncId} {fn : Func} {c : Code} {args : List SV} {X : Type} {φ : X → Prop} {r : X → SV} (hf : P.funcs[f]? = some fn) (hb : fn.body = some c) (hle : args.length ≤ fn.ntmps)
    (h : ∀ w0, AW P fn.ntmps w0 c (RetE P fn φ r) ⟨enumE 0 args, []⟩) : FnE P f args φ r := by
  intro w S vs hS hd
  have hl := hd.len
  refine calls_of_wp hf hb ?_
  refine h ⟨w.heap.size, w, S, w, ⟨fun _ => (0, 0), w.heap.size, fun _ _ => undef, fun _ _ _ => False, fun _ => 0⟩, hS.pre⟩ ⟨fun _ => (0, 0), w.heap.size, fun _ _ => undef, fun _ _ _ => False, fun _ => 0⟩ S _ w _ (fun e ρ S' σ a w' hs hq => ?_) ⟨?_, rfl, ⟨Below.refl _ _, Same.refl _ _, fun _ _ => .refl _ _⟩, ⟨rfl, Nat.le_refl _, hS, fun id o ho => by simp at ho, fun id o ho => by simp at ho, fun id id' o o' ho => by simp at ho, fun id n X ho => by simp at ho⟩, ?_⟩
  · have fin : (∃ x s, φ x ∧ ResL P σ fn.results.toList s ∧ FvS σ.heap s (r x)) → a.defers = [] ∧ ∃ v, (results fn a.tmps).run P w' = .ok v w' ∧ (∃ x v', φ x ∧ Ending.returned v = .returned v' ∧ DR w' (newS w w') (r x) v' ∧ Below w.heap.size w w') := fun ⟨x, s, hφ, hr, hfv⟩ => by
      obtain ⟨v, hv, hrun⟩ := hr.run hs
      exact ⟨hs.defers, v, hrun, x, v, hφ, rfl, hfv.sound hs.mem hv, hs.below.old⟩
    cases e
    case ret => exact fin hq
    case normal => exact fin hq
    all_goals exact hq.elim
  · simp [hl]; omega
  · intro t s ht
    obtain ⟨j, u, e1, e2, e3⟩ := hd.get ht
    have hj : j < vs.length := (List.getElem?_eq_some_iff.1 e2).1
    have : ((vs.toArray ++ Array.replicate (fn.ntmps - vs.toArray.size) undef).getD t undef) = u := by
      rw [Array.getD_eq_getD_getElem?, Array.getElem?_append_left (by simp; omega)]
      simp [show t = j by omega, e2]
    show RS _ w S s ((vs.toArray ++ Array.replicate (fn.ntmps - vs.toArray.size) undef).getD t undef)
    rw [this]
    exact e3.toRS
section
variable {P : Program} {N : Nat} {w0 : Start} {σ : Sig} {ops : Array Oper} {rest : List Oper} {o : Oper} {Q : Sig → Prop}
theorem lookup_drop {id : Nat} : ∀ {H : Heap} {k : Nat} {q : AObj}, (H.filter fun p => p.1 != id).lookup k = some q → H.lookup k = some q ∧ k ≠ id
  | [], _, _, h => by simp at h
  | (a, b) :: l, k, q, h => by
    by_cases e : a = id
    · subst e
      rw [List.filter_cons_of_neg (by simp)] at h
      obtain ⟨h1, h2⟩ := lookup_drop h
      exact ⟨by rw [List.lookup_cons, show (k == a) = false by simpa using h2]; exact h1, h2⟩
    · rw [List.filter_cons_of_pos (by simpa using e)] at h
      rcases lookup_put h with ⟨rfl, rfl⟩ | ⟨hne, h⟩
      · exact ⟨by simp, e⟩
      · obtain ⟨h1, h2⟩ := lookup_drop h
        exact ⟨by rw [List.lookup_cons, show (k == a) = false by simpa using hne]; exact h1, h2⟩
/-- More blocks are read, of which no object is one. -/
theorem St.widen {ρ : Rho} {S T : Nat → Prop} {a : Act} {w : World} (hs : St N w0 ρ S σ a w) (hT : ∀ b, T b → b < w.heap.size) (ho : ∀ id o, σ.heap.lookup id = some o → (ρ id).2 ≠ 0 → ¬ T (ρ id).1) (ht : ∀ id n X i b, σ.heap.lookup id = some (.trees n X) → i < n → ρ.tb id i b → ¬ T b) :
    Same S w (fun b => S b ∨ T b) w ∧ St N w0 ρ (fun b => S b ∨ T b) σ a w := by
  have hsame : Same S w (fun b => S b ∨ T b) w := ⟨fun b h => .inl h, fun b h => rfl⟩
  refine ⟨hsame, hs.size, hs.defers, hs.below.step (Below.refl _ _) hsame, ⟨hs.mem.base, hs.mem.low, ?_, hs.mem.cap, ?_, hs.mem.inj, ?_⟩, fun t s ht => (hs.env t s ht).keep hsame (Rn.refl _ _)⟩
  · rintro b (h | h)
    · exact hs.mem.lt b h
    · exact hT b h
  · intro id o hl hc
    obtain ⟨cs, e, h1, h2, h3, h4, h5, h6, h7⟩ := hs.mem.obj id o hl hc
    refine ⟨cs, e, h1, h2, h3, h4, h5, ?_, fun i j hi hj => ?_⟩
    · rintro (h | h)
      · exact h6 h
      · exact ho id o hl hc h
    · obtain ⟨u, hu, hr⟩ := h7 i j hi hj
      exact ⟨u, hu, hr.keep hsame (Rn.refl _ _)⟩
  · refine hs.mem.treeOf (Nat.le_refl _) (fun k n X hX => ⟨X, hX, fun _ _ => rfl, rfl, rfl, rfl⟩) (fun k n X i b hX hi hb' => ?_) (fun k p hp hc => .inl ⟨p, hp, rfl⟩)
    obtain ⟨q1, q2, q3, _⟩ := (hs.mem.tree k n X hX i hi).2 b hb'
    refine ⟨rfl, q2, ?_⟩
    rintro (h | h)
    · exact q3 h
    · exact ht k n X i b hX hi hb' h
/-- A call that is handed the cursor. -/
theorem St.curCall {ρ : Rho} {S : Nat → Prop} {a : Act} {w : World} (hs : St N w0 ρ S σ a w) {f id p s n : Nat} {c : Value} {F : Nat → Nat} {xs : List Operand} {ts : Array TypeId} {args : List SV} {Hr : Heap} {X : Type} {φ : X → Nat → Nat → Prop} {r : X → SV} (ho : o.op = .call { callee := .value (.func f), args := xs.toArray, argTypes := ts })
    (hF : FnC P f n F args p s φ r) (hB : callB P f = true) (hk : KnG σ Hr (fun _ => id) xs (.one (.ptr 1000000 3 0 0) :: args))
    (hH : σ.heap.lookup id = some (curO c n F p s))
    (hr : ∀ k q, Hr.lookup k = some q → σ.heap.lookup k = some q ∧ k ≠ id) {K : Act → World → Prop} {Q' : Exit → Act → World → Prop}
    (h : ∀ x p' s' v S' w', φ x p' s' → St N w0 ρ S' ⟨σ.env, (id, curO c n F p' s') :: Hr⟩ a w' → RS ρ w' S' (r x).fr v → K (a.put o.dst v) w') : o.wp P a w K Q' := by
  let g : Nat → Nat := fun _ => id
  have hpos : (ρ id).2 ≠ 0 := hs.mem.pos hH (i := 0) Nat.zero_lt_one
  obtain ⟨cs0, e0, k1, k2, k3, k4, k5, k6, k7⟩ := hs.mem.obj _ _ hH hpos
  have hmr : MemOk w0.base ρ S Hr w := hs.mem.le' fun k q hq => HLe.refl (hr k q hq).1
  have hsame : Same S w (withOwn ρ Hr S) w := ⟨fun _ h => .inl h, fun _ _ => rfl⟩
  have only : ∀ {p s : Nat} k q, ([(1000000, curO c n F p s)] : Heap).lookup k = some q → k = 1000000 ∧ q = curO c n F p s := by
    intro p s k q ho
    rcases lookup_put ho with ⟨rfl, rfl⟩ | ⟨_, ho⟩
    · exact ⟨rfl, rfl⟩
    · simp at ho
  have hnot : ¬ withOwn ρ Hr S (ρ id).1 := by
    rintro (hb | ⟨id', p', hp', hc', e'⟩ | ⟨id', n', X', i', hX', hi', hb'⟩)
    · exact k6 hb
    · exact hs.mem.inj id' id p' _ (hr id' p' hp').1 hH (hr id' p' hp').2 hc' hpos e'
    · exact ((hs.mem.tree id' n' X' (hr id' _ hX').1 i' hi').2 _ hb').2.2.2.1 id _ hH hpos rfl
  have hm : MemOk (ρ.ren g).base (ρ.ren g) (withOwn ρ Hr S) [(1000000, curO c n F p s)] w := by
    refine ⟨rfl, by rw [show (ρ.ren g).base = w0.base from hs.mem.base]; exact hs.mem.low, ?_, ?_, ?_, ?_, ?_⟩
    · rintro b (hb | ⟨id, p, hp, hc, rfl⟩ | ⟨id, n, X, i, hX, hi, hb⟩)
      · exact hs.mem.lt b hb
      · exact hs.mem.blk (hr id p hp).1 hc
      · exact ((hs.mem.tree id n X (hr id _ hX).1 i hi).2 b hb).2.1
    · intro k q hq
      obtain ⟨rfl, rfl⟩ := only k q hq
      exact k3
    · intro k q hq hc
      obtain ⟨rfl, rfl⟩ := only k q hq
      refine ⟨cs0, e0, k1, k2, k3, k4, by rw [show (ρ.ren g).base = w0.base from hs.mem.base]; exact k5, hnot, fun i j hi hj => ?_⟩
      obtain ⟨u, hu, hru⟩ := k7 i j hi hj
      refine ⟨u, hu, ?_⟩
      unfold curO AObj.f at hru ⊢
      match j with
      | 0 =>
        have hru : u = c ∧ D w S _ u := hru
        exact ⟨hru.1, hru.2.keep hsame⟩
      | 1 => exact hru
      | 2 => exact hru
      | k + 3 => exact hru
    · intro k k' q q' hq hq' hne
      exact absurd ((only k q hq).1.trans (only k' q' hq').1.symm) hne
    · intro k m X hX
      cases (only k _ hX).2
  have h2 := hF c (ρ.ren g) (withOwn ρ Hr S) w _ hm (show Pre ρ.base w by rw [hs.mem.base]; exact hs.preB) (hk.sound hs hmr hsame)
  have e : (execOp a.eval o).run P w = .ok (.enter f (xs.map a.eval).toArray) w := by
    have := execCall (P := P) (ev := a.eval) (caps := #[]) ho rfl hB w
    simpa using this
  unfold Oper.wp
  rw [e]
  refine Calls.mono h2 fun e w' ⟨x, p', s', v, hφ, he, hb, hsm, hm', hv⟩ => ?_
  subst he
  have hbb : (ρ.ren g).base = w0.base := hs.mem.base
  rw [hbb] at hb hm'
  have hkeep : Same S w S w' := ⟨fun _ h => h, fun b hb' => hsm.blk b (.inl hb')⟩
  have hl' : ([(1000000, curO c n F p' s')] : Heap).lookup 1000000 = some (curO c n F p' s') := by simp
  obtain ⟨cs, e1, g1, g2, g3, g4, g5, g6, g7⟩ := hm'.obj 1000000 _ hl' hpos
  have hheap : ∀ k q, ((id, curO c n F p' s') :: Hr : Heap).lookup k = some q → (k = id ∧ q = curO c n F p' s') ∨ (k ≠ id ∧ Hr.lookup k = some q) := by
    intro k q hq
    rcases lookup_put hq with ⟨rfl, rfl⟩ | ⟨h1, h2⟩
    · exact .inl ⟨rfl, rfl⟩
    · exact .inr ⟨h1, h2⟩
  have hst : St N w0 ρ S ⟨σ.env, (id, curO c n F p' s') :: Hr⟩ a w' := by
    refine ⟨hs.size, hs.defers, hs.below.step hb hkeep, ⟨hs.mem.base, Nat.le_trans hs.mem.low hb.size, fun b hb' => Nat.lt_of_lt_of_le (hs.mem.lt b hb') hb.size, ?_, ?_, ?_, ?_⟩, fun t s ht => (hs.env t s ht).keep hkeep (Rn.refl _ _)⟩
    · intro k q hq
      rcases hheap k q hq with ⟨rfl, rfl⟩ | ⟨_, hq⟩
      · exact g3
      · exact hmr.cap k q hq
    · intro k q hq hc
      rcases hheap k q hq with ⟨rfl, rfl⟩ | ⟨_, hq⟩
      · refine ⟨cs, e1, g1, g2, g3, g4, k5, k6, fun i j hi hj => ?_⟩
        obtain ⟨u, hu, hru⟩ := g7 i j hi hj
        refine ⟨u, hu, ?_⟩
        obtain ⟨u0, hu0, hr0⟩ := k7 0 0 Nat.zero_lt_one (Nat.zero_lt_succ 2)
        have hr0 : u0 = c ∧ D w S (.lst 1 n fun i _ => .int .u8 ((F i : Nat) : Int)) u0 := hr0
        unfold curO AObj.f at hru ⊢
        match j with
        | 0 =>
          have hru : u = c ∧ D w' _ _ u := hru
          exact ⟨hru.1, by rw [hru.1, ← hr0.1]; exact hr0.2.keep hkeep⟩
        | 1 => exact hru
        | 2 => exact hru
        | k + 3 => exact hru
      · obtain ⟨cs, e, h1, h2, h3, h4, h5, h6, h7⟩ := hmr.obj k q hq hc
        refine ⟨cs, e, by rw [hsm.blk _ (.inr (.inl ⟨k, q, hq, hc, rfl⟩))]; exact h1, h2, h3, h4, h5, h6, fun i j hi hj => ?_⟩
        obtain ⟨u, hu, hru⟩ := h7 i j hi hj
        exact ⟨u, hu, hru.keep hkeep (Rn.refl _ _)⟩
    · intro k k' q q' hq hq' hne hc hc'
      have old : ∀ k q, ((id, curO c n F p' s') :: Hr : Heap).lookup k = some q → ∃ q, σ.heap.lookup k = some q := by
        intro k q hq
        rcases hheap k q hq with ⟨rfl, rfl⟩ | ⟨_, hq⟩
        · exact ⟨_, hH⟩
        · exact ⟨q, (hr k q hq).1⟩
      obtain ⟨z, hz⟩ := old k q hq
      obtain ⟨z', hz'⟩ := old k' q' hq'
      exact hs.mem.inj k k' z z' hz hz' hne hc hc'
    · refine hmr.treeOf (Nat.le_refl _) (fun k m X hX => ?_) (fun k m X i b hX hi hb' => ?_) (fun k q hq hc => ?_)
      · rcases hheap k _ hX with ⟨_, h⟩ | ⟨_, h⟩
        · cases h
        · exact ⟨X, h, fun _ _ => rfl, rfl, rfl, rfl⟩
      · obtain ⟨q1, q2, q3, _⟩ := (hmr.tree k m X hX i hi).2 b hb'
        exact ⟨hsm.blk b (.inr (.inr ⟨k, m, X, i, hX, hi, hb'⟩)), Nat.lt_of_lt_of_le q2 hb.size, q3⟩
      · rcases hheap k q hq with ⟨rfl, rfl⟩ | ⟨_, hq⟩
        · exact .inr fun k2 m X i hX hi hb' => ((hs.mem.tree k2 m X (hr k2 _ hX).1 i hi).2 _ hb').2.2.2.1 k _ hH hc rfl
        · exact .inl ⟨q, hq, rfl⟩
  have hblk : ∀ k q, ((id, curO c n F p' s') :: Hr : Heap).lookup k = some q → (ρ k).2 ≠ 0 → (ρ k).1 < w.heap.size := by
    intro k q hq hc
    rcases hheap k q hq with ⟨rfl, rfl⟩ | ⟨_, hq⟩
    · exact hs.mem.blk hH hc
    · exact hmr.blk hq hc
  obtain ⟨w1, w2⟩ := hst.widen (T := newS w w') (fun b hb => hb.2) (fun k q hq hc hn => by have := hblk k q hq hc; have := hn.1; omega) (fun k m X i b hX hi hb' hn => by
    rcases hheap k _ hX with ⟨_, h⟩ | ⟨_, h⟩
    · cases h
    · have := ((hmr.tree k m X h i hi).2 b hb').2.1
      have := hn.1
      omega)
  exact h x p' s' v _ w' hφ w2 (hv.fr fun b hb => ⟨.inr hb, by rw [hs.mem.base]; exact Nat.le_trans hs.mem.low hb.1⟩)
theorem ARun.cur {f id d p s n : Nat} {c : Value} {F : Nat → Nat} {xs : List Operand} {ts : Array TypeId} {args : List SV} {X : Type} {φ : X → Nat → Nat → Prop} {r : X → SV} (ho : o.op = .call { callee := .value (.func f), args := xs.toArray, argTypes := ts })
    (hF : FnC P f n F args p s φ r) (hB : callB P f = true) (hk : KnG σ (σ.heap.filter fun p => p.1 != id) (fun _ => id) xs (.one (.ptr 1000000 3 0 0) :: args))
    (hH : σ.heap.lookup id = some (curO c n F p s))
    (hg : o.guard = none) (hd : o.dst = some d) (hN : d < N) (h : ∀ x p' s', φ x p' s' → ARun P N w0 ops Q rest ⟨(d, (r x).fr) :: σ.env, (id, curO c n F p' s') :: σ.heap.filter fun p => p.1 != id⟩) : ARun P N w0 ops Q (o :: rest) σ := by
  intro ρ S a w Q' hQ hs
  refine wpList_plain hg fun K hK => ?_
  refine hs.curCall ho hF hB hk hH (fun _ _ h => lookup_drop h) fun x p' s' v S' w' hφ hst hv => ?_
  rw [hd]
  exact hK _ _ (h x p' s' hφ ρ S' _ w' Q' hQ (hst.put hN hv))
theorem ARun.gcur {f id d p s n g t : Nat} {want b : Bool} {c : Value} {F : Nat → Nat} {xs : List Operand} {ts : Array TypeId} {args : List SV} {X : Type} [Inhabited X] {φ : X → Nat → Nat → Prop} {r : X → SV} (hgate : Gate σ t want b) (ho : o.op = .call { callee := .value (.func f), args := xs.toArray, argTypes := ts })
    (hF : FnC P f n F args p s φ r) (hB : callB P f = true) (hk : b = true → KnG σ (σ.heap.filter fun p => p.1 != id) (fun _ => id) xs (.one (.ptr 1000000 3 0 0) :: args))
    (hH : σ.heap.lookup id = some (curO c n F p s))
    (hg : o.guard = some (g, want)) (hgd : (ops[g]?).bind (·.dst) = some t) (ht : t < N) (hd : o.dst = some d) (hN : d < N) (h : ∀ x p' s', (b = true → φ x p' s') → (b = false → p' = p ∧ s' = s) → ARun P N w0 ops Q rest ⟨(d, .gd b (r x).fr) :: σ.env, (id, curO c n F p' s') :: σ.heap.filter fun p => p.1 != id⟩) : ARun P N w0 ops Q (o :: rest) σ := by
  intro ρ S a w Q' hQ hs
  have hw := hgate.sound (ops := ops) hs ht hg hgd
  refine wpList_step fun K hK => ?_
  cases b with
  | true =>
    rw [if_pos hw]
    refine hs.curCall ho hF hB (hk rfl) hH (fun _ _ h => lookup_drop h) fun x p' s' v S' w' hφ hst hv => ?_
    rw [hd]
    exact hK _ _ (h x p' s' (fun _ => hφ) (fun e => by cases e) ρ S' _ w' Q' hQ (hst.put hN (s := .gd true _) ⟨fun _ => hv, (fun e => by cases e)⟩))
  | false =>
    rw [if_neg (by rw [hw]; simp), hd]
    have hst : St N w0 ρ S ⟨σ.env, (id, curO c n F p s) :: σ.heap.filter fun p => p.1 != id⟩ a w := ⟨hs.size, hs.defers, hs.below, hs.mem.le' (fun k q hq => HLe.refl (by
      rcases lookup_put hq with ⟨rfl, rfl⟩ | ⟨_, hq⟩
      · exact hH
      · exact (lookup_drop hq).1)), hs.env⟩
    exact hK _ _ (h default p s (fun e => by cases e) (fun _ => ⟨rfl, rfl⟩) ρ S _ w Q' hQ (hst.put hN (s := .gd false _) ⟨(fun e => by cases e), fun _ => rfl⟩))
/-- A call of a function that yields fresh data of which only bounds are told. -/
theorem ARun.draw {f d : Nat} {xs : List Operand} {ts : Array TypeId} {args : List SV} {X : Type} {φ : X → Prop} {r : X → SV} (ho : o.op = .call { callee := .value (.func f), args := xs.toArray, argTypes := ts })
    (hF : FnE P f args φ r) (hB : callB P f = true) (hk : KnA σ xs args)
    (hg : o.guard = none) (hd : o.dst = some d) (hN : d < N) (h : ∀ x, φ x → ARun P N w0 ops Q rest ⟨(d, (r x).fr) :: σ.env, σ.heap⟩) : ARun P N w0 ops Q (o :: rest) σ := by
  intro ρ S a w Q' hQ hs
  refine wpList_plain hg fun K hK => ?_
  have h2 := hF w _ _ ⟨withOwn_lt hs, hs.pre⟩ (KnA.sound hs hk)
  have e : (execOp a.eval o).run P w = .ok (.enter f (xs.map a.eval).toArray) w := by
    have := execCall (P := P) (ev := a.eval) (caps := #[]) ho rfl hB w
    simpa using this
  unfold Oper.wp
  rw [e]
  refine Calls.mono h2 fun e w' ⟨x, v, hφ, he, hv, hb⟩ => ?_
  subst he
  obtain ⟨g1, g2⟩ := hs.grow hb
  have hlow := hs.mem.low
  have hbase := hs.mem.base
  rw [hd]
  exact hK _ _ (h x hφ ρ _ _ w' Q' hQ (g2.put hN (hv.fr fun b hb' => ⟨.inr hb', by have := hb'.1; omega⟩)))
/-- The value in a slot, named. -/
theorem AW.cv {b : Code} {Q2 : Exit → Sig → Prop} {t sz n : Nat} {F : Nat → Nat → AV} (ht : σ.env.lookup t = some (.one (.lst sz n F))) (hk : ∀ c, AW P N w0 b Q2 ⟨(t, .one (.cv c (.lst sz n F))) :: σ.env, σ.heap⟩) : AW P N w0 b Q2 σ := by
  intro ρ S a w Q' hQ hs
  have h0 := hs.env _ _ ht
  refine hk (a.tmps.getD t undef) ρ S a w Q' hQ ⟨hs.size, hs.defers, hs.below, hs.mem, fun u s hu => ?_⟩
  rcases lookup_put hu with ⟨rfl, rfl⟩ | ⟨_, hu⟩
  · exact ⟨rfl, h0⟩
  · exact hs.env u s hu
end
theorem OpensC.byte {P : Program} {t : TypeId} (ht : P.underlying t = some (.int .u8)) : OpensC P t (fun x : UInt8 => [.int .u8 ((x.toNat : Nat) : Int)]) := fun _ _ _ _ _ _ h => by
  obtain ⟨n, rfl, _, hw⟩ := DataW.trod_int ht h
  have hw2 : 0 ≤ n ∧ n ≤ 255 := by simpa [Lit.wf, IntKind.min, IntKind.max, IntKind.bits, IntKind.signed] using hw
  refine ⟨UInt8.ofNat n.toNat, _, _, rfl, ?_, rfl⟩
  show Value.int .u8 n = Value.int .u8 _
  rw [UInt8.toNat_ofNat']
  congr 1
  omega
end Go.Proofs.Ytgcliipdkoefaaa

/-
  A calculus for walks, part 35: rows built of two or three strings, of four numbers.
-/
namespace Go.Proofs.Ytgcliipdkoefaaa
open Go.ChangeShapes Go.WideShapes Go.ChangeAt Go.RowKit Go.BigFrame Go.Deep
set_option linter.unusedVariables false

set_option linter.unusedSimpArgs false
section
variable {P : Program} {σ : Sig} {o : Oper}
theorem FreshOp.strs2 {t e : Nat} {x y : Operand} {a1 a2 : ByteArray} (ho : o.op = .buildSlice t 2 #[(0, x), (1, y)]) (kx : Kn σ x (.one (.str a1))) (ky : Kn σ y (.one (.str a2)))
    (ht : P.underlying t = some (.slice e)) (hz : (P.info? e).map (fun i => (i.size, i.zero)) = some (1, some (.string ByteArray.empty))) : FreshOp P o σ (.one (.frs (.lst 1 2 fun i _ => .str (([a1, a2] : List ByteArray).getD i ByteArray.empty)))) := by
  constructor
  intro N w0 ρ S a w K Q' hs hK
  have e1 : a.eval x = .string a1 := (kx.sound hs).1
  have be1 := (kx.sound hs).2
  have e2 : a.eval y = .string a2 := (ky.sound hs).1
  have be2 := (ky.sound hs).2
  obtain ⟨i, hi, hi2⟩ := Option.map_eq_some_iff.1 hz
  simp only [Prod.mk.injEq] at hi2
  obtain ⟨z1, z2⟩ := hi2
  have er : (execOp a.eval o).run P w = .ok (.value (.slice (some ⟨w.heap.size, 0, none⟩) 2 2)) (w.alloc (.cells #[.string a1, .string a2] e)) := by
    generalize a.eval = ev at e1 e2 ⊢
    simp [execOp, ho, Instr.buildSlice, run_underlying ht, sizeOf, typeInfo, hi, z1, z2, zeroValue, e1, e2, go_sem]
  unfold Oper.wp
  rw [er]
  have hb : Below w.heap.size w (w.alloc (.cells #[.string a1, .string a2] e)) := (Below.refl _ _).alloc (Nat.le_refl _) _
  obtain ⟨g1, g2⟩ := hs.grow hb
  have hlt : ρ.base ≤ w.heap.size := by rw [hs.mem.base]; exact hs.mem.low
  refine hK _ _ _ g1 hb (fun b h => h.imp (fun h => h) (fun h => h.1)) g2 ⟨_, _, rfl, Nat.le_refl _, by decide, (fun h => by cases h), fun j hj => ⟨w.heap.size, 0, rfl, ⟨.inr ⟨Nat.le_refl _, by rw [World.heap_alloc, Array.size_push]; omega⟩, hlt⟩, fun q hq => ?_⟩⟩
  obtain rfl : q = 0 := by omega
  have hcell : ∀ p, (w.alloc (.cells #[.string a1, .string a2] e)).cell? ⟨w.heap.size, p, none⟩ = (#[Value.string a1, .string a2])[p]? := fun p => by simp [World.cell?, World.heap_alloc]
  match j, hj with
  | 0, _ => exact ⟨.string a1, by rw [hcell]; rfl, rfl, be1⟩
  | 1, _ => exact ⟨.string a2, by rw [hcell]; rfl, rfl, be2⟩
theorem FreshOp.strs3 {t e : Nat} {x y z : Operand} {a1 a2 a3 : ByteArray} (ho : o.op = .buildSlice t 3 #[(0, x), (1, y), (2, z)]) (kx : Kn σ x (.one (.str a1))) (ky : Kn σ y (.one (.str a2))) (kz : Kn σ z (.one (.str a3)))
    (ht : P.underlying t = some (.slice e)) (hz : (P.info? e).map (fun i => (i.size, i.zero)) = some (1, some (.string ByteArray.empty))) : FreshOp P o σ (.one (.frs (.lst 1 3 fun i _ => .str (([a1, a2, a3] : List ByteArray).getD i ByteArray.empty)))) := by
  constructor
  intro N w0 ρ S a w K Q' hs hK
  have e1 : a.eval x = .string a1 := (kx.sound hs).1
  have be1 := (kx.sound hs).2
  have e2 : a.eval y = .string a2 := (ky.sound hs).1
  have be2 := (ky.sound hs).2
  have e3 : a.eval z = .string a3 := (kz.sound hs).1
  have be3 := (kz.sound hs).2
  obtain ⟨i, hi, hi2⟩ := Option.map_eq_some_iff.1 hz
  simp only [Prod.mk.injEq] at hi2
  obtain ⟨z1, z2⟩ := hi2
  have er : (execOp a.eval o).run P w = .ok (.value (.slice (some ⟨w.heap.size, 0, none⟩) 3 3)) (w.alloc (.cells #[.string a1, .string a2, .string a3] e)) := by
    generalize a.eval = ev at e1 e2 e3 ⊢
    simp [execOp, ho, Instr.buildSlice, run_underlying ht, sizeOf, typeInfo, hi, z1, z2, zeroValue, e1, e2, e3, go_sem]
  unfold Oper.wp
  rw [er]
  have hb : Below w.heap.size w (w.alloc (.cells #[.string a1, .string a2, .string a3] e)) := (Below.refl _ _).alloc (Nat.le_refl _) _
  obtain ⟨g1, g2⟩ := hs.grow hb
  have hlt : ρ.base ≤ w.heap.size := by rw [hs.mem.base]; exact hs.mem.low
  refine hK _ _ _ g1 hb (fun b h => h.imp (fun h => h) (fun h => h.1)) g2 ⟨_, _, rfl, Nat.le_refl _, by decide, (fun h => by cases h), fun j hj => ⟨w.heap.size, 0, rfl, ⟨.inr ⟨Nat.le_refl _, by rw [World.heap_alloc, Array.size_push]; omega⟩, hlt⟩, fun q hq => ?_⟩⟩
  obtain rfl : q = 0 := by omega
  have hcell : ∀ p, (w.alloc (.cells #[.string a1, .string a2, .string a3] e)).cell? ⟨w.heap.size, p, none⟩ = (#[Value.string a1, .string a2, .string a3])[p]? := fun p => by simp [World.cell?, World.heap_alloc]
  match j, hj with
  | 0, _ => exact ⟨.string a1, by rw [hcell]; rfl, rfl, be1⟩
  | 1, _ => exact ⟨.string a2, by rw [hcell]; rfl, rfl, be2⟩
  | 2, _ => exact ⟨.string a3, by rw [hcell]; rfl, rfl, be3⟩
theorem FreshOp.quad {t e : Nat} {x y z u : Operand} {a1 a2 a3 a4 : Int} (ho : o.op = .buildSlice t 4 #[(0, x), (1, y), (2, z), (3, u)]) (kx : Kn σ x (.one (.int .i64 a1))) (ky : Kn σ y (.one (.int .i64 a2))) (kz : Kn σ z (.one (.int .i64 a3))) (ku : Kn σ u (.one (.int .i64 a4)))
    (ht : P.underlying t = some (.slice e)) (hz : (P.info? e).map (fun i => (i.size, i.zero)) = some (1, some (.int .i64 0))) : FreshOp P o σ (.one (.frs (.lst 1 4 fun i _ => .int .i64 (([a1, a2, a3, a4] : List Int).getD i 0)))) := by
  constructor
  intro N w0 ρ S a w K Q' hs hK
  have e1 : a.eval x = .int .i64 a1 := kx.sound hs
  have e2 : a.eval y = .int .i64 a2 := ky.sound hs
  have e3 : a.eval z = .int .i64 a3 := kz.sound hs
  have e4 : a.eval u = .int .i64 a4 := ku.sound hs
  obtain ⟨i, hi, hi2⟩ := Option.map_eq_some_iff.1 hz
  simp only [Prod.mk.injEq] at hi2
  obtain ⟨z1, z2⟩ := hi2
  have er : (execOp a.eval o).run P w = .ok (.value (.slice (some ⟨w.heap.size, 0, none⟩) 4 4)) (w.alloc (.cells #[.int .i64 a1, .int .i64 a2, .int .i64 a3, .int .i64 a4] e)) := by
    generalize a.eval = ev at e1 e2 e3 e4 ⊢
    simp [execOp, ho, Instr.buildSlice, run_underlying ht, sizeOf, typeInfo, hi, z1, z2, zeroValue, e1, e2, e3, e4, go_sem]
  unfold Oper.wp
  rw [er]
  have hb : Below w.heap.size w (w.alloc (.cells #[.int .i64 a1, .int .i64 a2, .int .i64 a3, .int .i64 a4] e)) := (Below.refl _ _).alloc (Nat.le_refl _) _
  obtain ⟨g1, g2⟩ := hs.grow hb
  have hlt : ρ.base ≤ w.heap.size := by rw [hs.mem.base]; exact hs.mem.low
  refine hK _ _ _ g1 hb (fun b h => h.imp (fun h => h) (fun h => h.1)) g2 ⟨_, _, rfl, Nat.le_refl _, by decide, (fun h => by cases h), fun j hj => ⟨w.heap.size, 0, rfl, ⟨.inr ⟨Nat.le_refl _, by rw [World.heap_alloc, Array.size_push]; omega⟩, hlt⟩, fun q hq => ?_⟩⟩
  obtain rfl : q = 0 := by omega
  have hcell : ∀ p, (w.alloc (.cells #[.int .i64 a1, .int .i64 a2, .int .i64 a3, .int .i64 a4] e)).cell? ⟨w.heap.size, p, none⟩ = (#[Value.int .i64 a1, .int .i64 a2, .int .i64 a3, .int .i64 a4])[p]? := fun p => by simp [World.cell?, World.heap_alloc]
  match j, hj with
  | 0, _ => exact ⟨.int .i64 a1, by rw [hcell]; rfl, rfl⟩
  | 1, _ => exact ⟨.int .i64 a2, by rw [hcell]; rfl, rfl⟩
  | 2, _ => exact ⟨.int .i64 a3, by rw [hcell]; rfl, rfl⟩
  | 3, _ => exact ⟨.int .i64 a4, by rw [hcell]; rfl, rfl⟩
end
end Go.Proofs.Ytgcliipdkoefaaa

/-
  What the reference's cursor draws: numbers, one of some texts, one of some numbers.
-/
namespace Go.Proofs.Ytgcliipdkoefaaa
open Go.ChangeShapes Go.WideShapes Go.ChangeAt Go.RowKit Go.BigFrame Go.Deep
set_option linter.unusedVariables false
set_option linter.unusedSimpArgs false
theorem vd1_ca_69 : callB Try.prog 69 = true := by kernel_rfl
theorem vd1_ca_82 : callB Try.prog 82 = true := by kernel_rfl
theorem vd1_cv_3_78_.u64 : convB Try.prog 3 78 .u64 = true := by kernel_rfl
theorem vd1_cv_5_3_.i64 : convB Try.prog 5 3 .i64 = true := by kernel_rfl
theorem vd1_cv_78_3_.i64 : convB Try.prog 78 3 .i64 = true := by kernel_rfl
theorem vd1_el_45_1 : elemB Try.prog 45 1 = true := by kernel_rfl
theorem vd1_el_94_1 : elemB Try.prog 94 1 = true := by kernel_rfl
theorem vd1_el_96_1 : elemB Try.prog 96 1 = true := by kernel_rfl
theorem vd1_fi_80_0_0 : fieldB Try.prog 80 0 0 = true := by kernel_rfl
theorem vd1_fi_80_1_1 : fieldB Try.prog 80 1 1 = true := by kernel_rfl
theorem vd1_fi_80_2_2 : fieldB Try.prog 80 2 2 = true := by kernel_rfl
theorem vd1_pl_3 : plainB Try.prog 3 = true := by kernel_rfl
theorem vd1_pl_45 : plainB Try.prog 45 = true := by kernel_rfl
theorem vd1_pl_5 : plainB Try.prog 5 = true := by kernel_rfl
theorem vd1_pl_78 : plainB Try.prog 78 = true := by kernel_rfl
theorem vd1_pl_9 : plainB Try.prog 9 = true := by kernel_rfl
theorem vd1_sl_45 : sliceB Try.prog 45 = true := by kernel_rfl
theorem vd1_sl_94 : sliceB Try.prog 94 = true := by kernel_rfl
theorem vd1_sl_96 : sliceB Try.prog 96 = true := by kernel_rfl
theorem vd1_sz_3_1 : sizeB Try.prog 3 1 = true := by kernel_rfl
theorem vd1_sz_78_1 : sizeB Try.prog 78 1 = true := by kernel_rfl
theorem v_Next (n : Nat) (F : Nat → Nat) (hF : ∀ i, F i < 256) (p s : Nat) (hp : p ≤ 2000000000) (hs : s < 18446744073709551616) : FnC Try.prog 82 n F [] p s (fun (x : Nat) p' s' => x < 256 ∧ CurOk p 1 p' s') (fun (x : Nat) => .one (.int .i64 (x : Int))) := by
  have hF' := hF p
  refine FnC.of_body (fn := Try.f82) Try.func82 rfl (Nat.le_of_ble_eq_true rfl) ?_
  intro w0 c
  show AW _ 62 _ _ _ _
  refine AW.seq ?_
  refine AW.region ?_
  refine ARun.pure (PureOp.assign rfl .int) rfl rfl (Nat.le_of_ble_eq_true rfl) ?_
  refine ARun.nil ?_
  refine AW.seq ?_
  refine AW.region ?_
  refine ARun.pure (PureOp.assign rfl .int) rfl rfl (Nat.le_of_ble_eq_true rfl) ?_
  refine ARun.nil ?_
  refine AW.seq ?_
  refine AW.seq ?_
  refine AW.any (by kernel_rfl) (by kernel_rfl) ?_
  refine AD.pure (PureOp.move rfl (.tmp rfl)) rfl rfl (Nat.le_of_ble_eq_true rfl) ?_
  refine AD.pure (PureOp.nilPtr rfl (.tmp rfl)) rfl rfl (Nat.le_of_ble_eq_true rfl) ?_
  refine AD.pure (PureOp.fieldPtr rfl (.tmp rfl) vd1_fi_80_1_1) rfl rfl (Nat.le_of_ble_eq_true rfl) ?_
  refine AD.pure (PureOp.loadPtr rfl (.tmp rfl) vd1_pl_3 rfl rfl (Nat.le_of_ble_eq_true rfl) (Nat.le_of_ble_eq_true rfl)) rfl rfl (Nat.le_of_ble_eq_true rfl) ?_
  refine AD.pure (PureOp.move rfl (.tmp rfl)) rfl rfl (Nat.le_of_ble_eq_true rfl) ?_
  refine AD.pure (PureOp.nilPtr rfl (.tmp rfl)) rfl rfl (Nat.le_of_ble_eq_true rfl) ?_
  refine AD.pure (PureOp.fieldPtr rfl (.tmp rfl) vd1_fi_80_0_0) rfl rfl (Nat.le_of_ble_eq_true rfl) ?_
  refine AD.pure (PureOp.loadPtr rfl (.tmp rfl) vd1_pl_45 rfl rfl (Nat.le_of_ble_eq_true rfl) (Nat.le_of_ble_eq_true rfl)) rfl rfl (Nat.le_of_ble_eq_true rfl) ?_
  refine AD.pure (PureOp.lenLst rfl (.cv (.tmp rfl)) vd1_sl_45) rfl rfl (Nat.le_of_ble_eq_true rfl) ?_
  refine AD.pure (PureOp.intOp rfl (.tmp rfl) (.tmp rfl) rfl) rfl rfl (Nat.le_of_ble_eq_true rfl) ?_
  refine AD.nil ?_
  refine AW.cond (.tmp rfl) (fun hb1 => ?_) (fun hb1 => ?_)
  · have _u := True.intro
    replace hb1 := of_decide_eq_true hb1
    refine AW.any (by kernel_rfl) (by kernel_rfl) ?_
    refine AD.pure (PureOp.move rfl (.tmp rfl)) rfl rfl (Nat.le_of_ble_eq_true rfl) ?_
    refine AD.pure (PureOp.nilPtr rfl (.tmp rfl)) rfl rfl (Nat.le_of_ble_eq_true rfl) ?_
    refine AD.pure (PureOp.fieldPtr rfl (.tmp rfl) vd1_fi_80_0_0) rfl rfl (Nat.le_of_ble_eq_true rfl) ?_
    refine AD.pure (PureOp.loadPtr rfl (.tmp rfl) vd1_pl_45 rfl rfl (Nat.le_of_ble_eq_true rfl) (Nat.le_of_ble_eq_true rfl)) rfl rfl (Nat.le_of_ble_eq_true rfl) ?_
    refine AD.pure (PureOp.move rfl (.tmp rfl)) rfl rfl (Nat.le_of_ble_eq_true rfl) ?_
    refine AD.pure (PureOp.nilPtr rfl (.tmp rfl)) rfl rfl (Nat.le_of_ble_eq_true rfl) ?_
    refine AD.pure (PureOp.fieldPtr rfl (.tmp rfl) vd1_fi_80_1_1) rfl rfl (Nat.le_of_ble_eq_true rfl) ?_
    refine AD.pure (PureOp.loadPtr rfl (.tmp rfl) vd1_pl_3 rfl rfl (Nat.le_of_ble_eq_true rfl) (Nat.le_of_ble_eq_true rfl)) rfl rfl (Nat.le_of_ble_eq_true rfl) ?_
    refine AD.pure (PureOp.indexLst (i := p) rfl (.cv (.tmp rfl)) vd1_el_45_1 (.tmp rfl) rfl (by omega)) rfl rfl (Nat.le_of_ble_eq_true rfl) ?_
    refine AD.pure (PureOp.loadRef rfl (.tmp rfl) vd1_pl_5 (Nat.le_of_ble_eq_true rfl)) rfl rfl (Nat.le_of_ble_eq_true rfl) ?_
    refine AD.pure (PureOp.conv (b := ((F p : Nat) : Int)) rfl (.tmp rfl) vd1_cv_5_3_.i64 (wrap_id (by omega) (by omega))) rfl rfl (Nat.le_of_ble_eq_true rfl) ?_
    refine AD.pure (PureOp.assign rfl (.tmp rfl)) rfl rfl (Nat.le_of_ble_eq_true rfl) ?_
    refine AD.nil ?_
    refine AW.seq ?_
    refine AW.region ?_
    refine ARun.pure (PureOp.move rfl (.tmp rfl)) rfl rfl (Nat.le_of_ble_eq_true rfl) ?_
    refine ARun.pure (PureOp.nilPtr rfl (.tmp rfl)) rfl rfl (Nat.le_of_ble_eq_true rfl) ?_
    refine ARun.pure (PureOp.fieldPtr rfl (.tmp rfl) vd1_fi_80_1_1) rfl rfl (Nat.le_of_ble_eq_true rfl) ?_
    refine ARun.pure (PureOp.loadPtr rfl (.tmp rfl) vd1_pl_3 rfl rfl (Nat.le_of_ble_eq_true rfl) (Nat.le_of_ble_eq_true rfl)) rfl rfl (Nat.le_of_ble_eq_true rfl) ?_
    refine ARun.pure (PureOp.add (c := ((p + 1 : Nat) : Int)) rfl (.tmp rfl) .int (by rw [wrap_id (by omega) (by omega)]; omega)) rfl rfl (Nat.le_of_ble_eq_true rfl) ?_
    refine ARun.pure (PureOp.nilPtr rfl (.tmp rfl)) rfl rfl (Nat.le_of_ble_eq_true rfl) ?_
    refine ARun.pure (PureOp.fieldPtr rfl (.tmp rfl) vd1_fi_80_1_1) rfl rfl (Nat.le_of_ble_eq_true rfl) ?_
    refine ARun.store rfl (.tmp rfl) (.tmp rfl) trivial rfl (Nat.le_of_ble_eq_true rfl) vd1_sz_3_1 rfl rfl ?_
    refine ARun.nil ?_
    refine AW.seq ?_
    refine AW.region ?_
    refine ARun.pure (PureOp.move rfl (.tmp rfl)) rfl rfl (Nat.le_of_ble_eq_true rfl) ?_
    refine ARun.pure (PureOp.move rfl (.tmp rfl)) rfl rfl (Nat.le_of_ble_eq_true rfl) ?_
    refine ARun.pure (PureOp.nilPtr rfl (.tmp rfl)) rfl rfl (Nat.le_of_ble_eq_true rfl) ?_
    refine ARun.pure (PureOp.fieldPtr rfl (.tmp rfl) vd1_fi_80_2_2) rfl rfl (Nat.le_of_ble_eq_true rfl) ?_
    refine ARun.pure (PureOp.loadPtr rfl (.tmp rfl) vd1_pl_78 rfl rfl (Nat.le_of_ble_eq_true rfl) (Nat.le_of_ble_eq_true rfl)) rfl rfl (Nat.le_of_ble_eq_true rfl) ?_
    refine ARun.pure (PureOp.mulU (c := (((s * 6364136223846793005) % 18446744073709551616 : Nat) : Int)) rfl (.tmp rfl) .int (by rw [IntKind.wrap_u64]; omega)) rfl rfl (Nat.le_of_ble_eq_true rfl) ?_
    refine ARun.pure (PureOp.move rfl (.tmp rfl)) rfl rfl (Nat.le_of_ble_eq_true rfl) ?_
    refine ARun.pure (PureOp.conv (b := ((F p : Nat) : Int)) rfl (.tmp rfl) vd1_cv_3_78_.u64 (by rw [IntKind.wrap_u64]; omega)) rfl rfl (Nat.le_of_ble_eq_true rfl) ?_
    refine ARun.pure (PureOp.addU (c := (((((s * 6364136223846793005) % 18446744073709551616) + (F p)) % 18446744073709551616 : Nat) : Int)) rfl (.tmp rfl) (.tmp rfl) (by rw [IntKind.wrap_u64]; omega)) rfl rfl (Nat.le_of_ble_eq_true rfl) ?_
    refine ARun.pure (PureOp.addU (c := (((((((s * 6364136223846793005) % 18446744073709551616) + (F p)) % 18446744073709551616) + 1442695040888963407) % 18446744073709551616 : Nat) : Int)) rfl (.tmp rfl) .int (by rw [IntKind.wrap_u64]; omega)) rfl rfl (Nat.le_of_ble_eq_true rfl) ?_
    refine ARun.pure (PureOp.nilPtr rfl (.tmp rfl)) rfl rfl (Nat.le_of_ble_eq_true rfl) ?_
    refine ARun.pure (PureOp.fieldPtr rfl (.tmp rfl) vd1_fi_80_2_2) rfl rfl (Nat.le_of_ble_eq_true rfl) ?_
    refine ARun.store rfl (.tmp rfl) (.tmp rfl) trivial rfl (Nat.le_of_ble_eq_true rfl) vd1_sz_78_1 rfl rfl ?_
    refine ARun.nil ?_
    refine AW.seq ?_
    refine AW.seq ?_
    refine AW.any (by kernel_rfl) (by kernel_rfl) ?_
    refine AD.pure (PureOp.move rfl (.tmp rfl)) rfl rfl (Nat.le_of_ble_eq_true rfl) ?_
    refine AD.pure (PureOp.nilPtr rfl (.tmp rfl)) rfl rfl (Nat.le_of_ble_eq_true rfl) ?_
    refine AD.pure (PureOp.fieldPtr rfl (.tmp rfl) vd1_fi_80_1_1) rfl rfl (Nat.le_of_ble_eq_true rfl) ?_
    refine AD.pure (PureOp.loadPtr rfl (.tmp rfl) vd1_pl_3 rfl rfl (Nat.le_of_ble_eq_true rfl) (Nat.le_of_ble_eq_true rfl)) rfl rfl (Nat.le_of_ble_eq_true rfl) ?_
    refine AD.pure (PureOp.move rfl (.tmp rfl)) rfl rfl (Nat.le_of_ble_eq_true rfl) ?_
    refine AD.pure (PureOp.nilPtr rfl (.tmp rfl)) rfl rfl (Nat.le_of_ble_eq_true rfl) ?_
    refine AD.pure (PureOp.fieldPtr rfl (.tmp rfl) vd1_fi_80_0_0) rfl rfl (Nat.le_of_ble_eq_true rfl) ?_
    refine AD.pure (PureOp.loadPtr rfl (.tmp rfl) vd1_pl_45 rfl rfl (Nat.le_of_ble_eq_true rfl) (Nat.le_of_ble_eq_true rfl)) rfl rfl (Nat.le_of_ble_eq_true rfl) ?_
    refine AD.pure (PureOp.lenLst rfl (.cv (.tmp rfl)) vd1_sl_45) rfl rfl (Nat.le_of_ble_eq_true rfl) ?_
    refine AD.pure (PureOp.intOp rfl (.tmp rfl) (.tmp rfl) rfl) rfl rfl (Nat.le_of_ble_eq_true rfl) ?_
    refine AD.nil ?_
    refine AW.cond (.tmp rfl) (fun hb2 => ?_) (fun hb2 => ?_)
    · have _u := True.intro
      replace hb2 := of_decide_eq_true hb2
      refine AW.seq ?_
      refine AW.region ?_
      refine ARun.pure (PureOp.move rfl (.tmp rfl)) rfl rfl (Nat.le_of_ble_eq_true rfl) ?_
      refine ARun.pure (PureOp.assign rfl (.tmp rfl)) rfl rfl (Nat.le_of_ble_eq_true rfl) ?_
      refine ARun.nil ?_
      exact AW.ret (show ∃ x p' s' t, _ ∧ ResL _ _ [.tmp 2] t ∧ _ ∧ _ from ⟨(F p), (p + 1), ((((((s * 6364136223846793005) % 18446744073709551616) + (F p)) % 18446744073709551616) + 1442695040888963407) % 18446744073709551616), _, ⟨by first | omega | exact Nat.mod_lt _ (by decide), ⟨by omega, by omega, Nat.mod_lt _ (by decide)⟩⟩, .inl ⟨_, rfl, .tmp rfl⟩, .int, rfl⟩)
    · have _u := True.intro
      replace hb2 := of_decide_eq_false hb2
      refine AW.skip ?_
      refine AW.seq ?_
      refine AW.region ?_
      refine ARun.pure (PureOp.move rfl (.tmp rfl)) rfl rfl (Nat.le_of_ble_eq_true rfl) ?_
      refine ARun.pure (PureOp.nilPtr rfl (.tmp rfl)) rfl rfl (Nat.le_of_ble_eq_true rfl) ?_
      refine ARun.pure (PureOp.fieldPtr rfl (.tmp rfl) vd1_fi_80_2_2) rfl rfl (Nat.le_of_ble_eq_true rfl) ?_
      refine ARun.pure (PureOp.loadPtr rfl (.tmp rfl) vd1_pl_78 rfl rfl (Nat.le_of_ble_eq_true rfl) (Nat.le_of_ble_eq_true rfl)) rfl rfl (Nat.le_of_ble_eq_true rfl) ?_
      refine ARun.pure (PureOp.shr40 (a := (((((s * 6364136223846793005) % 18446744073709551616) + (F p)) % 18446744073709551616) + 1442695040888963407) % 18446744073709551616) rfl (.tmp rfl) .int) rfl rfl (Nat.le_of_ble_eq_true rfl) ?_
      refine ARun.pure (PureOp.and255 (a := ((((((s * 6364136223846793005) % 18446744073709551616) + (F p)) % 18446744073709551616) + 1442695040888963407) % 18446744073709551616) / 1099511627776) rfl (.tmp rfl) .int (by omega)) rfl rfl (Nat.le_of_ble_eq_true rfl) ?_
      refine ARun.pure (PureOp.conv (b := (((((((((s * 6364136223846793005) % 18446744073709551616) + (F p)) % 18446744073709551616) + 1442695040888963407) % 18446744073709551616) / 1099511627776) % 256 : Nat) : Int)) rfl (.tmp rfl) vd1_cv_78_3_.i64 (wrap_id (by omega) (by omega))) rfl rfl (Nat.le_of_ble_eq_true rfl) ?_
      refine ARun.pure (PureOp.assign rfl (.tmp rfl)) rfl rfl (Nat.le_of_ble_eq_true rfl) ?_
      refine ARun.nil ?_
      exact AW.ret (show ∃ x p' s' t, _ ∧ ResL _ _ [.tmp 2] t ∧ _ ∧ _ from ⟨((((((((s * 6364136223846793005) % 18446744073709551616) + (F p)) % 18446744073709551616) + 1442695040888963407) % 18446744073709551616) / 1099511627776) % 256), (p + 1), ((((((s * 6364136223846793005) % 18446744073709551616) + (F p)) % 18446744073709551616) + 1442695040888963407) % 18446744073709551616), _, ⟨by first | omega | exact Nat.mod_lt _ (by decide), ⟨by omega, by omega, Nat.mod_lt _ (by decide)⟩⟩, .inl ⟨_, rfl, .tmp rfl⟩, .int, rfl⟩)
  · have _u := True.intro
    replace hb1 := of_decide_eq_false hb1
    refine AW.skip ?_
    refine AW.seq ?_
    refine AW.region ?_
    refine ARun.pure (PureOp.move rfl (.tmp rfl)) rfl rfl (Nat.le_of_ble_eq_true rfl) ?_
    refine ARun.pure (PureOp.nilPtr rfl (.tmp rfl)) rfl rfl (Nat.le_of_ble_eq_true rfl) ?_
    refine ARun.pure (PureOp.fieldPtr rfl (.tmp rfl) vd1_fi_80_1_1) rfl rfl (Nat.le_of_ble_eq_true rfl) ?_
    refine ARun.pure (PureOp.loadPtr rfl (.tmp rfl) vd1_pl_3 rfl rfl (Nat.le_of_ble_eq_true rfl) (Nat.le_of_ble_eq_true rfl)) rfl rfl (Nat.le_of_ble_eq_true rfl) ?_
    refine ARun.pure (PureOp.add (c := ((p + 1 : Nat) : Int)) rfl (.tmp rfl) .int (by rw [wrap_id (by omega) (by omega)]; omega)) rfl rfl (Nat.le_of_ble_eq_true rfl) ?_
    refine ARun.pure (PureOp.nilPtr rfl (.tmp rfl)) rfl rfl (Nat.le_of_ble_eq_true rfl) ?_
    refine ARun.pure (PureOp.fieldPtr rfl (.tmp rfl) vd1_fi_80_1_1) rfl rfl (Nat.le_of_ble_eq_true rfl) ?_
    refine ARun.store rfl (.tmp rfl) (.tmp rfl) trivial rfl (Nat.le_of_ble_eq_true rfl) vd1_sz_3_1 rfl rfl ?_
    refine ARun.nil ?_
    refine AW.seq ?_
    refine AW.region ?_
    refine ARun.pure (PureOp.move rfl (.tmp rfl)) rfl rfl (Nat.le_of_ble_eq_true rfl) ?_
    refine ARun.pure (PureOp.move rfl (.tmp rfl)) rfl rfl (Nat.le_of_ble_eq_true rfl) ?_
    refine ARun.pure (PureOp.nilPtr rfl (.tmp rfl)) rfl rfl (Nat.le_of_ble_eq_true rfl) ?_
    refine ARun.pure (PureOp.fieldPtr rfl (.tmp rfl) vd1_fi_80_2_2) rfl rfl (Nat.le_of_ble_eq_true rfl) ?_
    refine ARun.pure (PureOp.loadPtr rfl (.tmp rfl) vd1_pl_78 rfl rfl (Nat.le_of_ble_eq_true rfl) (Nat.le_of_ble_eq_true rfl)) rfl rfl (Nat.le_of_ble_eq_true rfl) ?_
    refine ARun.pure (PureOp.mulU (c := (((s * 6364136223846793005) % 18446744073709551616 : Nat) : Int)) rfl (.tmp rfl) .int (by rw [IntKind.wrap_u64]; omega)) rfl rfl (Nat.le_of_ble_eq_true rfl) ?_
    refine ARun.pure (PureOp.move rfl (.tmp rfl)) rfl rfl (Nat.le_of_ble_eq_true rfl) ?_
    refine ARun.pure (PureOp.conv (b := 0) rfl (.tmp rfl) vd1_cv_3_78_.u64 (by rw [IntKind.wrap_u64]; omega)) rfl rfl (Nat.le_of_ble_eq_true rfl) ?_
    refine ARun.pure (PureOp.addU (c := (((((s * 6364136223846793005) % 18446744073709551616) + 0) % 18446744073709551616 : Nat) : Int)) rfl (.tmp rfl) (.tmp rfl) (by rw [IntKind.wrap_u64]; omega)) rfl rfl (Nat.le_of_ble_eq_true rfl) ?_
    refine ARun.pure (PureOp.addU (c := (((((((s * 6364136223846793005) % 18446744073709551616) + 0) % 18446744073709551616) + 1442695040888963407) % 18446744073709551616 : Nat) : Int)) rfl (.tmp rfl) .int (by rw [IntKind.wrap_u64]; omega)) rfl rfl (Nat.le_of_ble_eq_true rfl) ?_
    refine ARun.pure (PureOp.nilPtr rfl (.tmp rfl)) rfl rfl (Nat.le_of_ble_eq_true rfl) ?_
    refine ARun.pure (PureOp.fieldPtr rfl (.tmp rfl) vd1_fi_80_2_2) rfl rfl (Nat.le_of_ble_eq_true rfl) ?_
    refine ARun.store rfl (.tmp rfl) (.tmp rfl) trivial rfl (Nat.le_of_ble_eq_true rfl) vd1_sz_78_1 rfl rfl ?_
    refine ARun.nil ?_
    refine AW.seq ?_
    refine AW.seq ?_
    refine AW.any (by kernel_rfl) (by kernel_rfl) ?_
    refine AD.pure (PureOp.move rfl (.tmp rfl)) rfl rfl (Nat.le_of_ble_eq_true rfl) ?_
    refine AD.pure (PureOp.nilPtr rfl (.tmp rfl)) rfl rfl (Nat.le_of_ble_eq_true rfl) ?_
    refine AD.pure (PureOp.fieldPtr rfl (.tmp rfl) vd1_fi_80_1_1) rfl rfl (Nat.le_of_ble_eq_true rfl) ?_
    refine AD.pure (PureOp.loadPtr rfl (.tmp rfl) vd1_pl_3 rfl rfl (Nat.le_of_ble_eq_true rfl) (Nat.le_of_ble_eq_true rfl)) rfl rfl (Nat.le_of_ble_eq_true rfl) ?_
    refine AD.pure (PureOp.move rfl (.tmp rfl)) rfl rfl (Nat.le_of_ble_eq_true rfl) ?_
    refine AD.pure (PureOp.nilPtr rfl (.tmp rfl)) rfl rfl (Nat.le_of_ble_eq_true rfl) ?_
    refine AD.pure (PureOp.fieldPtr rfl (.tmp rfl) vd1_fi_80_0_0) rfl rfl (Nat.le_of_ble_eq_true rfl) ?_
    refine AD.pure (PureOp.loadPtr rfl (.tmp rfl) vd1_pl_45 rfl rfl (Nat.le_of_ble_eq_true rfl) (Nat.le_of_ble_eq_true rfl)) rfl rfl (Nat.le_of_ble_eq_true rfl) ?_
    refine AD.pure (PureOp.lenLst rfl (.cv (.tmp rfl)) vd1_sl_45) rfl rfl (Nat.le_of_ble_eq_true rfl) ?_
    refine AD.pure (PureOp.intOp rfl (.tmp rfl) (.tmp rfl) rfl) rfl rfl (Nat.le_of_ble_eq_true rfl) ?_
    refine AD.nil ?_
    refine AW.cond (.tmp rfl) (fun hb3 => ?_) (fun hb3 => ?_)
    · have _u := True.intro
      replace hb3 := of_decide_eq_true hb3
      refine AW.seq ?_
      refine AW.region ?_
      refine ARun.pure (PureOp.move rfl (.tmp rfl)) rfl rfl (Nat.le_of_ble_eq_true rfl) ?_
      refine ARun.pure (PureOp.assign rfl (.tmp rfl)) rfl rfl (Nat.le_of_ble_eq_true rfl) ?_
      refine ARun.nil ?_
      exact AW.ret (show ∃ x p' s' t, _ ∧ ResL _ _ [.tmp 2] t ∧ _ ∧ _ from ⟨0, (p + 1), ((((((s * 6364136223846793005) % 18446744073709551616) + 0) % 18446744073709551616) + 1442695040888963407) % 18446744073709551616), _, ⟨by first | omega | exact Nat.mod_lt _ (by decide), ⟨by omega, by omega, Nat.mod_lt _ (by decide)⟩⟩, .inl ⟨_, rfl, .tmp rfl⟩, .int, rfl⟩)
    · have _u := True.intro
      replace hb3 := of_decide_eq_false hb3
      refine AW.skip ?_
      refine AW.seq ?_
      refine AW.region ?_
      refine ARun.pure (PureOp.move rfl (.tmp rfl)) rfl rfl (Nat.le_of_ble_eq_true rfl) ?_
      refine ARun.pure (PureOp.nilPtr rfl (.tmp rfl)) rfl rfl (Nat.le_of_ble_eq_true rfl) ?_
      refine ARun.pure (PureOp.fieldPtr rfl (.tmp rfl) vd1_fi_80_2_2) rfl rfl (Nat.le_of_ble_eq_true rfl) ?_
      refine ARun.pure (PureOp.loadPtr rfl (.tmp rfl) vd1_pl_78 rfl rfl (Nat.le_of_ble_eq_true rfl) (Nat.le_of_ble_eq_true rfl)) rfl rfl (Nat.le_of_ble_eq_true rfl) ?_
      refine ARun.pure (PureOp.shr40 (a := (((((s * 6364136223846793005) % 18446744073709551616) + 0) % 18446744073709551616) + 1442695040888963407) % 18446744073709551616) rfl (.tmp rfl) .int) rfl rfl (Nat.le_of_ble_eq_true rfl) ?_
      refine ARun.pure (PureOp.and255 (a := ((((((s * 6364136223846793005) % 18446744073709551616) + 0) % 18446744073709551616) + 1442695040888963407) % 18446744073709551616) / 1099511627776) rfl (.tmp rfl) .int (by omega)) rfl rfl (Nat.le_of_ble_eq_true rfl) ?_
      refine ARun.pure (PureOp.conv (b := (((((((((s * 6364136223846793005) % 18446744073709551616) + 0) % 18446744073709551616) + 1442695040888963407) % 18446744073709551616) / 1099511627776) % 256 : Nat) : Int)) rfl (.tmp rfl) vd1_cv_78_3_.i64 (wrap_id (by omega) (by omega))) rfl rfl (Nat.le_of_ble_eq_true rfl) ?_
      refine ARun.pure (PureOp.assign rfl (.tmp rfl)) rfl rfl (Nat.le_of_ble_eq_true rfl) ?_
      refine ARun.nil ?_
      exact AW.ret (show ∃ x p' s' t, _ ∧ ResL _ _ [.tmp 2] t ∧ _ ∧ _ from ⟨((((((((s * 6364136223846793005) % 18446744073709551616) + 0) % 18446744073709551616) + 1442695040888963407) % 18446744073709551616) / 1099511627776) % 256), (p + 1), ((((((s * 6364136223846793005) % 18446744073709551616) + 0) % 18446744073709551616) + 1442695040888963407) % 18446744073709551616), _, ⟨by first | omega | exact Nat.mod_lt _ (by decide), ⟨by omega, by omega, Nat.mod_lt _ (by decide)⟩⟩, .inl ⟨_, rfl, .tmp rfl⟩, .int, rfl⟩)

theorem v_Pick (n : Nat) (F : Nat → Nat) (hF : ∀ i, F i < 256) (p s : Nat) (hp : p ≤ 1900000000) (hs : s < 18446744073709551616) (m : Nat) (hm : m ≤ 1000000) : FnC Try.prog 69 n F [.one (.int .i64 (m : Int))] p s (fun (x : Nat) p' s' => (x < m ∨ x = 0) ∧ CurOk p 2 p' s') (fun (x : Nat) => .one (.int .i64 (x : Int))) := by
  refine FnC.of_body (fn := Try.f69) Try.func69 rfl (Nat.le_of_ble_eq_true rfl) ?_
  intro w0 c
  show AW _ 20 _ _ _ _
  refine AW.seq ?_
  refine AW.region ?_
  refine ARun.pure (PureOp.assign rfl .int) rfl rfl (Nat.le_of_ble_eq_true rfl) ?_
  refine ARun.nil ?_
  refine AW.seq ?_
  refine AW.seq ?_
  refine AW.region ?_
  refine ARun.pure (PureOp.move rfl (.tmp rfl)) rfl rfl (Nat.le_of_ble_eq_true rfl) ?_
  refine ARun.pure (PureOp.intOp rfl (.tmp rfl) .int rfl) rfl rfl (Nat.le_of_ble_eq_true rfl) ?_
  refine ARun.nil ?_
  refine AW.cond (.tmp rfl) (fun hb1 => ?_) (fun hb1 => ?_)
  · have _u := True.intro
    replace hb1 := of_decide_eq_true hb1
    refine AW.seq ?_
    refine AW.region ?_
    refine ARun.pure (PureOp.assign rfl .int) rfl rfl (Nat.le_of_ble_eq_true rfl) ?_
    refine ARun.nil ?_
    have _hm : 0 < m → ∀ y : Nat, y % m < m := fun h y => Nat.mod_lt _ h
    exact AW.ret (show ∃ x p' s' t, _ ∧ ResL _ _ [.tmp 4] t ∧ _ ∧ _ from ⟨0, p, s, _, ⟨by first | exact .inr rfl | exact .inl (Nat.mod_lt _ (by omega)), ⟨by omega, by omega, by omega⟩⟩, .inl ⟨_, rfl, .tmp rfl⟩, .int, rfl⟩)
  · have _u := True.intro
    replace hb1 := of_decide_eq_false hb1
    refine AW.skip ?_
    refine AW.seq ?_
    refine AW.region ?_
    refine ARun.pure (PureOp.move rfl (.tmp rfl)) rfl rfl (Nat.le_of_ble_eq_true rfl) ?_
    refine ARun.cur (id := 1000000) rfl (v_Next n F hF p s (by omega) (by omega)) vd1_ca_82 ⟨.inr (.tmp rfl), trivial⟩ rfl rfl rfl (Nat.le_of_ble_eq_true rfl) (fun x2 p3 sd4 hc5 => ?_)
    obtain ⟨hc5x, hc5c⟩ := hc5
    obtain ⟨hc51, hc52, hc53⟩ := hc5c
    refine ARun.pure (PureOp.assign rfl (.tmp rfl)) rfl rfl (Nat.le_of_ble_eq_true rfl) ?_
    refine ARun.nil ?_
    refine AW.seq ?_
    refine AW.seq ?_
    refine AW.region ?_
    refine ARun.pure (PureOp.move rfl (.tmp rfl)) rfl rfl (Nat.le_of_ble_eq_true rfl) ?_
    refine ARun.pure (PureOp.intOp rfl (.tmp rfl) .int rfl) rfl rfl (Nat.le_of_ble_eq_true rfl) ?_
    refine ARun.nil ?_
    refine AW.cond (.tmp rfl) (fun hb6 => ?_) (fun hb6 => ?_)
    · have _u := True.intro
      replace hb6 := of_decide_eq_true hb6
      refine AW.region ?_
      refine ARun.pure (PureOp.move rfl (.tmp rfl)) rfl rfl (Nat.le_of_ble_eq_true rfl) ?_
      refine ARun.pure (PureOp.mul (c := ((x2 * 256 : Nat) : Int)) rfl (.tmp rfl) .int (by rw [wrap_id (by omega) (by omega)]; omega)) rfl rfl (Nat.le_of_ble_eq_true rfl) ?_
      refine ARun.pure (PureOp.move rfl (.tmp rfl)) rfl rfl (Nat.le_of_ble_eq_true rfl) ?_
      refine ARun.cur (id := 1000000) rfl (v_Next n F hF p3 sd4 (by omega) (by omega)) vd1_ca_82 ⟨.inr (.tmp rfl), trivial⟩ rfl rfl rfl (Nat.le_of_ble_eq_true rfl) (fun x7 p8 sd9 hc10 => ?_)
      obtain ⟨hc10x, hc10c⟩ := hc10
      obtain ⟨hc101, hc102, hc103⟩ := hc10c
      refine ARun.pure (PureOp.add (c := ((x2 * 256 + x7 : Nat) : Int)) rfl (.tmp rfl) (.tmp rfl) (by rw [wrap_id (by omega) (by omega)]; omega)) rfl rfl (Nat.le_of_ble_eq_true rfl) ?_
      refine ARun.pure (PureOp.assign rfl (.tmp rfl)) rfl rfl (Nat.le_of_ble_eq_true rfl) ?_
      refine ARun.nil ?_
      refine AW.seq ?_
      refine AW.region ?_
      refine ARun.pure (PureOp.move rfl (.tmp rfl)) rfl rfl (Nat.le_of_ble_eq_true rfl) ?_
      refine ARun.pure (PureOp.move rfl (.tmp rfl)) rfl rfl (Nat.le_of_ble_eq_true rfl) ?_
      refine ARun.pure (PureOp.rem (a := x2 * 256 + x7) (b := m) rfl (.tmp rfl) (.tmp rfl) rfl (by omega) (by omega)) rfl rfl (Nat.le_of_ble_eq_true rfl) ?_
      refine ARun.pure (PureOp.assign rfl (.tmp rfl)) rfl rfl (Nat.le_of_ble_eq_true rfl) ?_
      refine ARun.nil ?_
      have _hm : 0 < m → ∀ y : Nat, y % m < m := fun h y => Nat.mod_lt _ h
      exact AW.ret (show ∃ x p' s' t, _ ∧ ResL _ _ [.tmp 4] t ∧ _ ∧ _ from ⟨((x2 * 256 + x7) % m), p8, sd9, _, ⟨by first | exact .inr rfl | exact .inl (Nat.mod_lt _ (by omega)), ⟨by omega, by omega, by omega⟩⟩, .inl ⟨_, rfl, .tmp rfl⟩, .int, rfl⟩)
    · have _u := True.intro
      replace hb6 := of_decide_eq_false hb6
      refine AW.skip ?_
      refine AW.seq ?_
      refine AW.region ?_
      refine ARun.pure (PureOp.move rfl (.tmp rfl)) rfl rfl (Nat.le_of_ble_eq_true rfl) ?_
      refine ARun.pure (PureOp.move rfl (.tmp rfl)) rfl rfl (Nat.le_of_ble_eq_true rfl) ?_
      refine ARun.pure (PureOp.rem (a := x2) (b := m) rfl (.tmp rfl) (.tmp rfl) rfl (by omega) (by omega)) rfl rfl (Nat.le_of_ble_eq_true rfl) ?_
      refine ARun.pure (PureOp.assign rfl (.tmp rfl)) rfl rfl (Nat.le_of_ble_eq_true rfl) ?_
      refine ARun.nil ?_
      have _hm : 0 < m → ∀ y : Nat, y % m < m := fun h y => Nat.mod_lt _ h
      exact AW.ret (show ∃ x p' s' t, _ ∧ ResL _ _ [.tmp 4] t ∧ _ ∧ _ from ⟨(x2 % m), p3, sd4, _, ⟨by first | exact .inr rfl | exact .inl (Nat.mod_lt _ (by omega)), ⟨by omega, by omega, by omega⟩⟩, .inl ⟨_, rfl, .tmp rfl⟩, .int, rfl⟩)

theorem v_One (n : Nat) (F : Nat → Nat) (hF : ∀ i, F i < 256) (p s : Nat) (hp : p ≤ 1800000000) (hs : s < 18446744073709551616) (m : Nat) (hm : m ≤ 1000000) : FnC Try.prog 71 n F [.one (.int .i64 (m : Int))] p s (fun (x : Bool) p' s' => CurOk p 2 p' s') (fun (x : Bool) => .one (.bool x)) := by
  refine FnC.of_body (fn := Try.f71) Try.func71 rfl (Nat.le_of_ble_eq_true rfl) ?_
  intro w0 c
  show AW _ 9 _ _ _ _
  refine AW.seq ?_
  refine AW.region ?_
  refine ARun.pure (PureOp.assign rfl .bool) rfl rfl (Nat.le_of_ble_eq_true rfl) ?_
  refine ARun.nil ?_
  refine AW.seq ?_
  refine AW.region ?_
  refine ARun.pure (PureOp.move rfl (.tmp rfl)) rfl rfl (Nat.le_of_ble_eq_true rfl) ?_
  refine ARun.pure (PureOp.move rfl (.tmp rfl)) rfl rfl (Nat.le_of_ble_eq_true rfl) ?_
  refine ARun.cur (id := 1000000) rfl (v_Pick n F hF p s (by omega) (by omega) m (by omega)) vd1_ca_69 ⟨.inr (.tmp rfl), .inl ⟨_, (.tmp rfl), .int⟩, trivial⟩ rfl rfl rfl (Nat.le_of_ble_eq_true rfl) (fun x1 p2 sd3 hc4 => ?_)
  obtain ⟨hc4x, hc4c⟩ := hc4
  obtain ⟨hc41, hc42, hc43⟩ := hc4c
  refine ARun.pure (PureOp.intOp rfl (.tmp rfl) .int rfl) rfl rfl (Nat.le_of_ble_eq_true rfl) ?_
  refine ARun.pure (PureOp.assign rfl (.tmp rfl)) rfl rfl (Nat.le_of_ble_eq_true rfl) ?_
  refine ARun.nil ?_
  exact AW.ret (show ∃ x p' s' t, _ ∧ ResL _ _ [.tmp 4] t ∧ _ ∧ _ from ⟨(decide ((x1 : Int) = 0)), p2, sd3, _, ⟨by omega, by omega, by omega⟩, .inl ⟨_, rfl, .tmp rfl⟩, .bool, rfl⟩)

theorem v_Of (n : Nat) (F : Nat → Nat) (hF : ∀ i, F i < 256) (p s : Nat) (hp : p ≤ 1800000000) (hs : s < 18446744073709551616) (l : List ByteArray) (hl : 1 ≤ l.length ∧ l.length ≤ 1000) : FnC Try.prog 79 n F [.one (.lst 1 l.length (fun i0 _ => .str (l.getD i0 ByteArray.empty)))] p s (fun (x : ByteArray) p' s' => x ∈ l ∧ CurOk p 2 p' s') (fun (x : ByteArray) => .one (.str x)) := by
  refine FnC.of_body (fn := Try.f79) Try.func79 rfl (Nat.le_of_ble_eq_true rfl) ?_
  intro w0 c
  show AW _ 12 _ _ _ _
  refine AW.seq ?_
  refine AW.region ?_
  refine ARun.pure (PureOp.assign rfl (.str (by decide))) rfl rfl (Nat.le_of_ble_eq_true rfl) ?_
  refine ARun.nil ?_
  refine AW.seq ?_
  refine AW.region ?_
  refine ARun.pure (PureOp.move rfl (.tmp rfl)) rfl rfl (Nat.le_of_ble_eq_true rfl) ?_
  refine ARun.pure (PureOp.move rfl (.tmp rfl)) rfl rfl (Nat.le_of_ble_eq_true rfl) ?_
  refine ARun.pure (PureOp.move rfl (.tmp rfl)) rfl rfl (Nat.le_of_ble_eq_true rfl) ?_
  refine ARun.pure (PureOp.lenLst rfl (.tmp rfl) vd1_sl_94) rfl rfl (Nat.le_of_ble_eq_true rfl) ?_
  refine ARun.cur (id := 1000000) rfl (v_Pick n F hF p s (by omega) (by omega) l.length (by omega)) vd1_ca_69 ⟨.inr (.tmp rfl), .inl ⟨_, (.tmp rfl), .int⟩, trivial⟩ rfl rfl rfl (Nat.le_of_ble_eq_true rfl) (fun x1 p2 sd3 hc4 => ?_)
  obtain ⟨hc4x, hc4c⟩ := hc4
  obtain ⟨hc41, hc42, hc43⟩ := hc4c
  refine ARun.pure (PureOp.indexLst (i := x1) rfl (.tmp rfl) vd1_el_94_1 (.tmp rfl) rfl (by rcases hc4x with hx | hx <;> omega)) rfl rfl (Nat.le_of_ble_eq_true rfl) ?_
  refine ARun.pure (PureOp.loadRef rfl (.tmp rfl) vd1_pl_9 (Nat.le_of_ble_eq_true rfl)) rfl rfl (Nat.le_of_ble_eq_true rfl) ?_
  refine ARun.pure (PureOp.assign rfl (.tmp rfl)) rfl rfl (Nat.le_of_ble_eq_true rfl) ?_
  refine ARun.nil ?_
  have hlt : x1 < l.length := by rcases hc4x with hx | hx <;> omega
  exact AW.ret (show ∃ x p' s' t, _ ∧ ResL _ _ [.tmp 4] t ∧ _ ∧ _ from ⟨(l.getD x1 ByteArray.empty), p2, sd3, _, ⟨by rw [List.getD_eq_getElem?_getD, List.getElem?_eq_getElem hlt]; exact List.getElem_mem _, ⟨by omega, by omega, by omega⟩⟩, .inl ⟨_, rfl, .tmp rfl⟩, .str, rfl⟩)

theorem v_Among (n : Nat) (F : Nat → Nat) (hF : ∀ i, F i < 256) (p s : Nat) (hp : p ≤ 1800000000) (hs : s < 18446744073709551616) (l : List Int) (hl : 1 ≤ l.length ∧ l.length ≤ 1000) : FnC Try.prog 81 n F [.one (.lst 1 l.length (fun i0 _ => .int .i64 (l.getD i0 0)))] p s (fun (x : Int) p' s' => x ∈ l ∧ CurOk p 2 p' s') (fun (x : Int) => .one (.int .i64 x)) := by
  refine FnC.of_body (fn := Try.f81) Try.func81 rfl (Nat.le_of_ble_eq_true rfl) ?_
  intro w0 c
  show AW _ 12 _ _ _ _
  refine AW.seq ?_
  refine AW.region ?_
  refine ARun.pure (PureOp.assign rfl .int) rfl rfl (Nat.le_of_ble_eq_true rfl) ?_
  refine ARun.nil ?_
  refine AW.seq ?_
  refine AW.region ?_
  refine ARun.pure (PureOp.move rfl (.tmp rfl)) rfl rfl (Nat.le_of_ble_eq_true rfl) ?_
  refine ARun.pure (PureOp.move rfl (.tmp rfl)) rfl rfl (Nat.le_of_ble_eq_true rfl) ?_
  refine ARun.pure (PureOp.move rfl (.tmp rfl)) rfl rfl (Nat.le_of_ble_eq_true rfl) ?_
  refine ARun.pure (PureOp.lenLst rfl (.tmp rfl) vd1_sl_96) rfl rfl (Nat.le_of_ble_eq_true rfl) ?_
  refine ARun.cur (id := 1000000) rfl (v_Pick n F hF p s (by omega) (by omega) l.length (by omega)) vd1_ca_69 ⟨.inr (.tmp rfl), .inl ⟨_, (.tmp rfl), .int⟩, trivial⟩ rfl rfl rfl (Nat.le_of_ble_eq_true rfl) (fun x1 p2 sd3 hc4 => ?_)
  obtain ⟨hc4x, hc4c⟩ := hc4
  obtain ⟨hc41, hc42, hc43⟩ := hc4c
  refine ARun.pure (PureOp.indexLst (i := x1) rfl (.tmp rfl) vd1_el_96_1 (.tmp rfl) rfl (by rcases hc4x with hx | hx <;> omega)) rfl rfl (Nat.le_of_ble_eq_true rfl) ?_
  refine ARun.pure (PureOp.loadRef rfl (.tmp rfl) vd1_pl_3 (Nat.le_of_ble_eq_true rfl)) rfl rfl (Nat.le_of_ble_eq_true rfl) ?_
  refine ARun.pure (PureOp.assign rfl (.tmp rfl)) rfl rfl (Nat.le_of_ble_eq_true rfl) ?_
  refine ARun.nil ?_
  have hlt : x1 < l.length := by rcases hc4x with hx | hx <;> omega
  exact AW.ret (show ∃ x p' s' t, _ ∧ ResL _ _ [.tmp 4] t ∧ _ ∧ _ from ⟨(l.getD x1 0), p2, sd3, _, ⟨by rw [List.getD_eq_getElem?_getD, List.getElem?_eq_getElem hlt]; exact List.getElem_mem _, ⟨by omega, by omega, by omega⟩⟩, .inl ⟨_, rfl, .tmp rfl⟩, .int, rfl⟩)
end Go.Proofs.Ytgcliipdkoefaaa

/-
  Contracts of the laws' own helpers over entries: to, eq, sz.
-/
namespace Go.Proofs.Ytgcliipdkoefaaa
open Go.ChangeShapes Go.WideShapes Go.ChangeAt Go.RowKit Go.BigFrame Go.Deep
set_option linter.unusedVariables false

theorem toEntry_any (e : IS) (w : World) :
    Calls Try.prog 45 #[.agg #[.int .i64 e.n, .string e.s]] w fun x w' => x = .returned (.agg #[.int .i64 e.n, .string e.s]) ∧ Below w.heap.size w w' := by
  go_enter Try.func45, Try.ntmps45
  go_wp2
  refine bodyPost_ret (v := .agg #[.int .i64 e.n, .string e.s]) (by simp [results, Try.results45, go_sem]) rfl ⟨rfl, ?_⟩
  repeat first | exact Below.refl _ _ | apply Below.drew | refine Below.alloc ?_ (by simp <;> omega) _ | refine Below.setCell ?_ (by simp) _

theorem infoEntry : (Try.prog.info? 52).map (fun i => (i.zero, i.size, i.bytes)) = some (some (.agg #[.int .i64 0, .string ByteArray.empty]), 2, 24) := by kernel_rfl

theorem toEntryS_any (l : List IS) (w : World) (S : Nat → Prop) (hS : ∀ b, S b → b < w.heap.size) (A : Option Addr) (n c : Nat) (h : RepL w S l A n c) (hn : n ≤ 1048576) :
    Calls Try.prog 11 #[.slice A n c] w fun e w' => ∃ A' c', e = .returned (.slice A' n c') ∧ w'.ownsRow w.heap.size 52 2 (.slice A' n c') n (encs l) ∧ RepL w' (fun b => w.heap.size ≤ b ∧ b < w'.heap.size) l A' n c' ∧ Below w.heap.size w w' := by
  obtain ⟨i0, hi, hz0, hz1, hz2⟩ := info_parts infoEntry
  have hbd := h.bd
  have hmk := fun W => run_make_rowN (P := Try.prog) 26 52 i0 _ Try.underlying26 hi hz0 .i64 .i64 n n (Nat.le_refl _) (by rw [hz2]; omega) (by omega) W
  go_enter Try.func11, Try.ntmps11
  go_wp2
  go_loopw [4] (fun i wr => ∃ k : Nat, k ≤ n ∧ i = .int .i64 k ∧ wr.ownsRow w.heap.size 52 2 (.slice (some ⟨w.heap.size, 0, none⟩) n n) n (fill l k) ∧ Below w.heap.size w wr) (fun i _ => n - (intOf i).toNat)
  case atStart => exact ⟨0, Nat.zero_le _, rfl, own_made w _ _ l rfl rfl h.1 (by omega), (Below.refl _ _).alloc (Nat.le_refl _) _⟩
  case round =>
    obtain ⟨k, hk, rfl, hown, hbel⟩ := hrel
    obtain ⟨rfl, -⟩ := id h
    by_cases hlt : k < l.length
    · obtain ⟨b, off, xs, rfl, hSb, hc, rfl, hi1⟩ := h.at_ hlt
      have hc0 : wr.cell? ⟨b, off + k * 2, none⟩ = some (.int .i64 l[k].n) := (hbel.cell (hS _ hSb)).trans (hc 0 _ rfl)
      have hc1 : wr.cell? ⟨b, off + k * 2 + 1, none⟩ = some (.string l[k].s) := (hbel.cell (hS _ hSb)).trans (hc 1 _ rfl)
      clear hc
      go_wp2_with (go_at_call 45; refine (toEntry_any l[k] _).mono ?_; rintro e w1 ⟨rfl, hb1⟩; (have hown1 := own_below hown hb1); (obtain ⟨u0, hu0⟩ := own_cell hown1 (j := k * 2) (by omega)); (obtain ⟨u1, hu1⟩ := own_cell hown1 (j := k * 2 + 1) (by omega)); (have hf0 := hown1.frozenAt (k * 2)); (have hf1 := hown1.frozenAt (k * 2 + 1)))
      go_roundw
      case rel =>
        have h2 := ((hown1.stored (k * 2) (.int .i64 l[k].n)).1.stored (k * 2 + 1) (.string l[k].s)).1
        refine ⟨k + 1, by omega, by go_num, ?_, ?_⟩
        · rw [← fill_step l k hlt]; exact h2
        · exact (((hbel.trans (hb1.mono hbel.size)).setCell (Nat.le_refl _) _).setCell (Nat.le_refl _) _)
      case measure => simp [intOf]; omega
    · go_wp2
      go_ret
      obtain rfl : k = l.length := by omega
      rw [fill_all] at hown
      obtain ⟨A', c', e, hr⟩ := RepL.of_own rfl hown h.ok
      simp only [Value.slice.injEq] at e
      obtain ⟨rfl, -, rfl⟩ := e
      exact ⟨_, _, rfl, hown, hr, hbel⟩

theorem eqEntry_any (e f : IS) (r : Bool) (hr : decide (e = f) = r) (w : World) :
    Calls Try.prog 48 #[.agg #[.int .i64 e.n, .string e.s], .agg #[.int .i64 f.n, .string f.s]] w fun x w' => x = .returned (.bool r) ∧ Below w.heap.size w w' := by
  obtain ⟨n0, s0⟩ := e
  obtain ⟨n1, s1⟩ := f
  subst hr
  go_enter Try.func48, Try.ntmps48
  go_wp2
  all_goals
    go_ret
    refine ⟨by simp_all [IS.mk.injEq, ba_inj], ?_⟩
    repeat first | exact Below.refl _ _ | apply Below.drew | refine Below.alloc ?_ (by simp <;> omega) _ | refine Below.setCell ?_ (by simp) _

theorem eqEntryS_any (l l' : List IS) (w : World) (S : Nat → Prop) (hS : ∀ b, S b → b < w.heap.size) (A A' : Option Addr) (n c n' c' : Nat) (h : RepL w S l A n c) (h' : RepL w S l' A' n' c') :
    Calls Try.prog 13 #[.slice A n c, .slice A' n' c'] w fun e w' => e = .returned (.bool (decide (l = l'))) ∧ Below w.heap.size w w' := by
  have hbd := h.bd
  have hbd' := h'.bd
  obtain ⟨hn, -⟩ := id h
  obtain ⟨hn', -⟩ := id h'
  by_cases hne : n = n'
  · have hne1 : ((n : Int) != (n' : Int)) = false := by simp [hne]
    have Hne := Lib.hid hne
    have Hn := Lib.hid hn
    have Hn' := Lib.hid hn'
    clear hne hn hn'
    go_enter Try.func13, Try.ntmps13
    go_wp2
    go_loopw [5] (fun i wr => ∃ k : Nat, k ≤ n ∧ i = .int .i64 k ∧ l.take k = l'.take k ∧ Below w.heap.size w wr) (fun i _ => n - (intOf i).toNat)
    case atStart => exact ⟨0, Nat.zero_le _, rfl, rfl, Below.refl _ _⟩
    case round =>
      obtain ⟨k, hk, rfl, hpre, hbel⟩ := hrel
      have Hpre := Lib.hid hpre
      clear hpre
      by_cases hlt : k < n
      · have hl1 : k < l.length := by have := Hn.out; omega
        have hl2 : k < l'.length := by have := Hn'.out; have := Hne.out; omega
        have hlt' : k < n' := by have := Hne.out; omega
        have hI : (k : Int) < (n : Int) := by omega
        have hI' : (k : Int) < (n' : Int) := by omega
        have hI0 : (0 : Int) ≤ (k : Int) := by omega
        obtain ⟨b, off, xs, rfl, hSb, hc, rfl, hi1⟩ := h.at_ hl1
        obtain ⟨b', off', xs', rfl, hSb', hc', rfl, hi1'⟩ := h'.at_ hl2
        have hc0 : ∀ p : Aft wr, p.world.cell? ⟨b, off + k * 2, none⟩ = some (.int .i64 l[k].n) := Aft.cell ((hbel.cell (hS _ hSb)).trans (hc 0 _ rfl))
        have hd0 : ∀ p : Aft wr, p.world.cell? ⟨b', off' + k * 2, none⟩ = some (.int .i64 l'[k].n) := Aft.cell ((hbel.cell (hS _ hSb')).trans (hc' 0 _ rfl))
        have hc1 : ∀ p : Aft wr, p.world.cell? ⟨b, off + k * 2 + 1, none⟩ = some (.string l[k].s) := Aft.cell ((hbel.cell (hS _ hSb)).trans (hc 1 _ rfl))
        have hd1 : ∀ p : Aft wr, p.world.cell? ⟨b', off' + k * 2 + 1, none⟩ = some (.string l'[k].s) := Aft.cell ((hbel.cell (hS _ hSb')).trans (hc' 1 _ rfl))
        clear hc hc' hi1 hi1'
        by_cases he : l[k] = l'[k]
        · have Hd := Lib.hid (decide_eq_true he)
          have He := Lib.hid he
          clear he
          go_wp2_with fail
          refine wp_region_aft (by kernel_rfl) (by kernel_rfl) ?_
          repeat (go_big_quiet_step ((go_at_call 48; exact Calls.aft (eqEntry_any _ _ _ Hd.out _))))
          refine wpQuiet_nil ?_
          rintro _ ⟨p, rfl⟩
          have hb2 : Below w.heap.size w p.world := hbel.trans (p.below.mono hbel.size)
          go_wp2
          go_roundw
          case rel => exact ⟨k + 1, by omega, by go_num, by rw [List.take_succ_eq_append_getElem hl1, List.take_succ_eq_append_getElem hl2, Hpre.out, He.out], hb2⟩
          case measure => simp [intOf]; omega
        · have Hd := Lib.hid (decide_eq_false he)
          have Hfin := Lib.hid (show decide (l = l') = false from decide_eq_false fun e => he (by subst e; rfl))
          clear he
          go_wp2_with fail
          refine wp_region_aft (by kernel_rfl) (by kernel_rfl) ?_
          repeat (go_big_quiet_step ((go_at_call 48; exact Calls.aft (eqEntry_any _ _ _ Hd.out _))))
          refine wpQuiet_nil ?_
          rintro _ ⟨p, rfl⟩
          have hb2 : Below w.heap.size w p.world := hbel.trans (p.below.mono hbel.size)
          go_wp2
          go_ret
          exact ⟨by rw [Hfin.out]; rfl, hb2⟩
      · go_wp2
        go_ret
        have e1 := Hn.out
        have e2 := Hn'.out
        have e3 := Hne.out
        have e4 := Hpre.out
        rw [List.take_of_length_le (by omega), List.take_of_length_le (by omega)] at e4
        exact ⟨by rw [decide_eq_true e4]; rfl, hbel⟩
  · have hne1 : ((n : Int) != (n' : Int)) = true := by simp; omega
    have Hfin := Lib.hid (show decide (l = l') = false from decide_eq_false fun e => hne (by rw [hn, hn', e]))
    clear hn hn' hne
    go_enter Try.func13, Try.ntmps13
    go_wp2
    go_ret
    exact ⟨by rw [Hfin.out]; rfl, Below.refl _ _⟩

theorem szEntry_any (e : IS) (left : Int) (w : World) (h1 : 0 ≤ left) (h2 : left ≤ 1048576) (hs0 : e.s.size ≤ maxLen) :
    Calls Try.prog 41 #[.agg #[.int .i64 e.n, .string e.s], .int .i64 left] w fun x w' => ∃ r : Int, x = .returned (.int .i64 r) ∧ -1 ≤ r ∧ r ≤ left ∧ (0 ≤ r → (e.s.size : Int) + r = left) ∧ Below w.heap.size w w' := by
  unfold maxLen at hs0
  go_enter Try.func41, Try.ntmps41
  go_wp2
  all_goals
    go_ret
    refine ⟨_, rfl, by omega, by omega, by omega, ?_⟩
    repeat first | exact Below.refl _ _ | apply Below.drew | refine Below.alloc ?_ (by simp <;> omega) _ | refine Below.setCell ?_ (by simp) _

/-- The letters of a list. -/
def lettersEntry (l : List IS) : Nat := (l.map fun e => e.s.size).sum
theorem szEntryS_any (l : List IS) (w : World) (S : Nat → Prop) (hS : ∀ b, S b → b < w.heap.size) (A : Option Addr) (n c : Nat) (left : Int) (h : RepL w S l A n c) (h1 : 0 ≤ left) (h2 : left ≤ 1048576) :
    Calls Try.prog 9 #[.slice A n c, .int .i64 left] w fun e w' => ∃ r : Int, e = .returned (.int .i64 r) ∧ -1 ≤ r ∧ r ≤ left ∧ (0 ≤ r → (n : Int) + (lettersEntry l : Int) + r = left) ∧ Below w.heap.size w w' := by
  have hbd := h.bd
  obtain ⟨hn, -⟩ := id h
  have Hn := Lib.hid hn
  clear hn
  go_enter Try.func9, Try.ntmps9
  by_cases hbig : left - n < 0
  · go_wp2
    go_ret
    exact ⟨_, rfl, by omega, by omega, by omega, Below.refl _ _⟩
  · go_wp2
    go_loopw [1, 5] (fun r i wr => ∃ (k : Nat) (q : Int), k ≤ n ∧ i = .int .i64 k ∧ r = .int .i64 q ∧ 0 ≤ q ∧ (n : Int) + (lettersEntry (l.take k) : Int) + q = left ∧ Below w.heap.size w wr) (fun _ i _ => n - (intOf i).toNat)
    case atStart => exact ⟨0, _, Nat.zero_le _, rfl, rfl, by omega, by simp [lettersEntry]; omega, Below.refl _ _⟩
    case round =>
      obtain ⟨k, q, hk, rfl, rfl, hq, hsum, hbel⟩ := hrel
      have hq2 : q ≤ 1048576 := by omega
      have Hsum := Lib.hid hsum
      clear hsum
      by_cases hlt : k < n
      · have hl1 : k < l.length := by have := Hn.out; omega
        obtain ⟨b, off, xs, rfl, hSb, hc, rfl, hi1⟩ := h.at_ hl1
        have hc0 : wr.cell? ⟨b, off + k * 2, none⟩ = some (.int .i64 l[k].n) := (hbel.cell (hS _ hSb)).trans (hc 0 _ rfl)
        have hc1 : wr.cell? ⟨b, off + k * 2 + 1, none⟩ = some (.string l[k].s) := (hbel.cell (hS _ hSb)).trans (hc 1 _ rfl)
        clear hc
        have hs0 : l[k].s.size ≤ maxLen := hi1.2
        clear hi1
        have Hst := Lib.hid (show lettersEntry (l.take (k + 1)) = lettersEntry (l.take k) + (l[k].s.size) by unfold lettersEntry; rw [List.take_succ_eq_append_getElem hl1, List.map_append, List.sum_append]; simp only [List.map_cons, List.map_nil, List.sum_cons, List.sum_nil, Nat.add_zero])
        go_wp2_with (go_at_call 41; refine (szEntry_any l[k] _ _ hq hq2 hs0).mono ?_; rintro e w1 ⟨r, rfl, hr1, hr2, hr3, hb1⟩)
        · go_ret
          exact ⟨_, rfl, by omega, by omega, by omega, hbel.trans (hb1.mono hbel.size)⟩
        · go_roundw
          case rel =>
            have e1 := Hst.out
            have e2 := Hsum.out
            have e3 := hr3 (by omega)
            exact ⟨k + 1, r, by omega, by go_num, rfl, by omega, by rw [e1]; omega, hbel.trans (hb1.mono hbel.size)⟩
          case measure => simp [intOf]; omega
      · go_wp2
        go_ret
        have e1 := Hn.out
        have e2 := Hsum.out
        rw [List.take_of_length_le (by omega)] at e2
        exact ⟨_, rfl, by omega, by omega, fun _ => e2, hbel⟩

end Go.Proofs.Ytgcliipdkoefaaa

/-
  Contracts: within of the program, l1In of the reference.
-/
namespace Go.Proofs.Ytgcliipdkoefaaa
open Go.ChangeShapes Go.WideShapes Go.ChangeAt Go.RowKit Go.BigFrame
set_option linter.unusedVariables false

theorem l1In_any (n lo hi : Int) (r : Bool) (hr : decide (lo ≤ n ∧ n ≤ hi) = r) (w : World) :
    Calls Try.prog 64 #[.int .i64 n, .int .i64 lo, .int .i64 hi] w fun x w' => x = .returned (.bool r) ∧ Below w.heap.size w w' := by
  have Hr := Lib.hid hr
  clear hr
  by_cases h1 : lo ≤ n
  · by_cases h2 : n ≤ hi
    · go_enter Try.func64, Try.ntmps64
      go_wp2
      go_ret
      exact ⟨by rw [← Hr.out, decide_eq_true ⟨h1, h2⟩]; rfl, Below.refl _ _⟩
    · go_enter Try.func64, Try.ntmps64
      go_wp2
      go_ret
      exact ⟨by rw [← Hr.out, decide_eq_false (by omega)]; rfl, Below.refl _ _⟩
  · go_enter Try.func64, Try.ntmps64
    go_wp2
    go_ret
    exact ⟨by rw [← Hr.out, decide_eq_false (by omega)]; rfl, Below.refl _ _⟩

theorem within_any (n lo hi : Int) (r : Bool) (hr : decide (lo ≤ n ∧ n ≤ hi) = r) (w : World) :
    Calls Try.prog 66 #[.int .i64 n, .int .i64 lo, .int .i64 hi] w fun x w' => x = .returned (.bool r) ∧ Below w.heap.size w w' := by
  have Hr := Lib.hid hr
  clear hr
  by_cases h1 : lo ≤ n
  · by_cases h2 : n ≤ hi
    · go_enter Try.func66, Try.ntmps66
      go_wp2
      go_ret
      exact ⟨by rw [← Hr.out, decide_eq_true ⟨h1, h2⟩]; rfl, Below.refl _ _⟩
    · go_enter Try.func66, Try.ntmps66
      go_wp2
      go_ret
      exact ⟨by rw [← Hr.out, decide_eq_false (by omega)]; rfl, Below.refl _ _⟩
  · go_enter Try.func66, Try.ntmps66
    go_wp2
    go_ret
    exact ⟨by rw [← Hr.out, decide_eq_false (by omega)]; rfl, Below.refl _ _⟩

end Go.Proofs.Ytgcliipdkoefaaa

/-
  Contracts: GoodEntries of the reference and areEntries, GoodEntries of the program: each answers 'goodEn'.
-/
namespace Go.Proofs.Ytgcliipdkoefaaa
open Go.ChangeShapes Go.WideShapes Go.ChangeAt Go.RowKit Go.BigFrame
set_option linter.unusedVariables false

/-- Entry number i is as the document asks. -/
def enOk (l : List IS) (i : Nat) : Prop :=
  ∀ e, l[i]? = some e → 1 ≤ e.n ∧ e.n ≤ 1000 ∧ e.s.size ≤ 20 ∧ (0 < i → ∀ f, l[i - 1]? = some f → f.n ≤ e.n)
open Classical in
noncomputable def goodEn (l : List IS) : Bool := decide (l.length ≤ 40 ∧ ∀ i, i < l.length → enOk l i)

theorem enOk_succ {l : List IS} {k : Nat} {x : Int} {s : ByteArray} (h : ∀ i, i < k → enOk l i) (he : l[k]? = some ⟨x, s⟩) (h1 : 1 ≤ x) (h2 : x ≤ 1000) (h3 : s.size ≤ 20)
    (h4 : 0 < k → ∀ f, l[k - 1]? = some f → f.n ≤ x) : ∀ i, i < k + 1 → enOk l i := by
  intro i hi
  by_cases hik : i = k
  · subst hik
    intro e he'
    rw [he] at he'
    obtain rfl := Option.some.inj he'
    exact ⟨h1, h2, h3, h4⟩
  · exact h i (by omega)
theorem enOk_not_A {l : List IS} {k : Nat} {x : Int} {s : ByteArray} (he : l[k]? = some ⟨x, s⟩) (h : ¬ (1 ≤ x ∧ x ≤ 1000)) : ¬ enOk l k := fun hh => h ⟨(hh _ he).1, (hh _ he).2.1⟩
theorem enOk_not_B {l : List IS} {k : Nat} {x : Int} {s : ByteArray} (he : l[k]? = some ⟨x, s⟩) (h : ¬ s.size ≤ 20) : ¬ enOk l k := fun hh => h (hh _ he).2.2.1
theorem enOk_not_D {l : List IS} {k : Nat} {x : Int} {s : ByteArray} {f : IS} (he : l[k]? = some ⟨x, s⟩) (hk : 0 < k) (hf : l[k - 1]? = some f) (h : x < f.n) : ¬ enOk l k := fun hh => by
  have := (hh _ he).2.2.2 hk f hf
  simp only at this
  omega
open Classical in
theorem goodEn_bad {l : List IS} {k : Nat} (hk : k < l.length) (h : ¬ enOk l k) : goodEn l = false := by
  unfold goodEn
  rw [decide_eq_false]
  exact fun hh => h (hh.2 k hk)
open Classical in
theorem goodEn_long {l : List IS} (h : ¬ l.length ≤ 40) : goodEn l = false := by
  unfold goodEn
  rw [decide_eq_false]
  exact fun hh => h hh.1
open Classical in
theorem goodEn_yes {l : List IS} {n : Nat} (hn : n = l.length) (hL : n ≤ 40) (h : ∀ i, i < n → enOk l i) : goodEn l = true := by
  unfold goodEn
  rw [decide_eq_true]
  subst hn
  exact ⟨hL, h⟩

theorem spec_GoodEntries_any (l : List IS) (w : World) (S : Nat → Prop) (hS : ∀ b, S b → b < w.heap.size) (A : Option Addr) (n c : Nat) (hl0 : RepL w S l A n c) :
    Calls Try.prog 33 #[.slice A n c] w fun x w' => x = .returned (.bool (goodEn l)) ∧ Below w.heap.size w w' := by
  have hbd := hl0.bd
  obtain ⟨hn, -⟩ := id hl0
  have Hn := Lib.hid hn
  clear hn
  go_enter Try.func33, Try.ntmps33
  go_wp2
  go_loopw [7] (fun i wr => ∃ k : Nat, k ≤ n ∧ i = .int .i64 k ∧ (∀ i, i < k → enOk l i) ∧ Below w.heap.size w wr) (fun i _ => n - (intOf i).toNat)
  case atStart => exact ⟨0, Nat.zero_le _, rfl, fun i hi => absurd hi (by omega), Below.refl _ _⟩
  case round =>
    obtain ⟨k, hk, rfl, hpre, hbel⟩ := hrel
    have Hpre := Lib.hid hpre
    clear hpre
    by_cases hlt : k < n
    · have hl1 : k < l.length := by have := Hn.out; omega
      obtain ⟨b, off, xs, rfl, hSb, hc, rfl, hi1, hi2⟩ := hl0.at_ hl1
      have hc0 := hc 0 _ rfl
      have hc1 := hc 1 _ rfl
      clear hc
      generalize hek : l[k] = ek at hc0 hc1 hi1 hi2
      obtain ⟨x, s⟩ := ek
      have Hek := Lib.hid (show l[k]? = some ⟨x, s⟩ by rw [List.getElem?_eq_getElem hl1, hek])
      clear hek
      have hc0' : wr.cell? ⟨b, off + k * 2, none⟩ = some (.int .i64 x) := (hbel.cell (hS _ hSb)).trans hc0
      have hc1' : wr.cell? ⟨b, off + k * 2 + 1, none⟩ = some (.string s) := (hbel.cell (hS _ hSb)).trans hc1
      clear hc0 hc1
      obtain ⟨hx1, hx2⟩ : I64 x := hi1
      have hs2 : s.size ≤ 9223372036854775807 := by have : s.size ≤ maxLen := hi2; unfold maxLen at this; exact this
      clear hi2
      have hI : (k : Int) < (n : Int) := by omega
      have hI0 : (0 : Int) ≤ (k : Int) := by omega
      obtain ⟨W, hW⟩ : ∃ W, W = wr.alloc (.cells #[.int .i64 x, .string s] 52) := ⟨_, rfl⟩
      have hbW : Below w.heap.size w W := by subst hW; exact hbel.alloc hbel.size _
      have e0 : ∀ p : Aft W, p.world.cell? ⟨wr.heap.size, 0, none⟩ = some (.int .i64 x) := Aft.cell (by subst hW; simp)
      have e1 : ∀ p : Aft W, p.world.cell? ⟨wr.heap.size, 1, none⟩ = some (.string s) := Aft.cell (by subst hW; simp)
      have HW := Lib.hid hW
      clear hW
      go_wp2_with fail
      rw [← HW.out]
      by_cases hA : 1 ≤ x ∧ x ≤ 1000
      · have Hd := Lib.hid (decide_eq_true hA)
        by_cases hB : s.size ≤ 20
        · have hBd : decide ((20 : Int) < (s.size : Int)) = false := decide_eq_false (by omega)
          by_cases hz : k = 0
          · have hgt : decide (0 < k) = false := decide_eq_false (by omega)
            have Hz := Lib.hid hz
            clear hz
            refine wp_region_aft (by kernel_rfl) (by kernel_rfl) ?_
            repeat (go_big_quiet_step ((go_at_call 64; exact Calls.aft (l1In_any _ _ _ _ Hd.out _))))
            refine wpQuiet_nil ?_
            rintro _ ⟨p, rfl⟩
            have hb2 : Below w.heap.size w p.world := hbW.trans (p.below.mono hbW.size)
            go_wp2
            go_roundw
            case rel => exact ⟨k + 1, by omega, by go_num, enOk_succ Hpre.out Hek.out hA.1 hA.2 hB (fun h => absurd Hz.out (by omega)), hb2⟩
            case measure => simp [intOf]; omega
          · obtain ⟨j, hj⟩ : ∃ j, k = j + 1 := ⟨k - 1, by omega⟩
            have hgt : decide (0 < k) = true := decide_eq_true (by omega)
            have hl2 : j < l.length := by omega
            obtain ⟨b', off', xs', e, hSb', hc, rfl, hj1, hj2⟩ := hl0.at_ hl2
            obtain ⟨rfl, rfl⟩ : b = b' ∧ off = off' := by simpa using e
            have e2 : ∀ p : Aft W, p.world.cell? ⟨b, off + j * 2, none⟩ = some (.int .i64 l[j].n) := Aft.cell ((hbW.cell (hS _ hSb)).trans (hc 0 _ rfl))
            have Hj := Lib.hid (show l[k - 1]? = some l[j] by rw [hj]; exact List.getElem?_eq_getElem hl2)
            have hsub : IntKind.i64.wrap ((k : Int) - 1) = (j : Int) := by rw [IntKind.wrap_i64]; omega
            have hsub0 : (0 : Int) ≤ (j : Int) := by omega
            have hsub1 : (j : Int) < (n : Int) := by omega
            have Hkj := Lib.hid hj
            clear hc e hj1 hj2 hj hz
            by_cases hD : x < l[j].n
            · have hDd : decide (x < l[j].n) = true := decide_eq_true hD
              refine wp_region_aft (by kernel_rfl) (by kernel_rfl) ?_
              repeat (go_big_quiet_step ((go_at_call 64; exact Calls.aft (l1In_any _ _ _ _ Hd.out _))))
              refine wpQuiet_nil ?_
              rintro _ ⟨p, rfl⟩
              have hb2 : Below w.heap.size w p.world := hbW.trans (p.below.mono hbW.size)
              go_wp2
              go_ret
              exact ⟨by rw [goodEn_bad hl1 (enOk_not_D Hek.out (by have := Hkj.out; omega) Hj.out hD)]; rfl, hb2⟩
            · have hDd : decide (x < l[j].n) = false := decide_eq_false hD
              refine wp_region_aft (by kernel_rfl) (by kernel_rfl) ?_
              repeat (go_big_quiet_step ((go_at_call 64; exact Calls.aft (l1In_any _ _ _ _ Hd.out _))))
              refine wpQuiet_nil ?_
              rintro _ ⟨p, rfl⟩
              have hb2 : Below w.heap.size w p.world := hbW.trans (p.below.mono hbW.size)
              go_wp2
              go_roundw
              case rel => exact ⟨k + 1, by omega, by go_num, enOk_succ Hpre.out Hek.out hA.1 hA.2 hB (fun _ f hf => by rw [Hj.out] at hf; obtain rfl := Option.some.inj hf; omega), hb2⟩
              case measure => simp [intOf]; omega
        · have hBd : decide ((20 : Int) < (s.size : Int)) = true := decide_eq_true (by omega)
          refine wp_region_aft (by kernel_rfl) (by kernel_rfl) ?_
          repeat (go_big_quiet_step ((go_at_call 64; exact Calls.aft (l1In_any _ _ _ _ Hd.out _))))
          refine wpQuiet_nil ?_
          rintro _ ⟨p, rfl⟩
          have hb2 : Below w.heap.size w p.world := hbW.trans (p.below.mono hbW.size)
          go_wp2
          go_ret
          exact ⟨by rw [goodEn_bad hl1 (enOk_not_B Hek.out hB)]; rfl, hb2⟩
      · have Hd := Lib.hid (decide_eq_false hA)
        refine wp_region_aft (by kernel_rfl) (by kernel_rfl) ?_
        repeat (go_big_quiet_step ((go_at_call 64; exact Calls.aft (l1In_any _ _ _ _ Hd.out _))))
        refine wpQuiet_nil ?_
        rintro _ ⟨p, rfl⟩
        have hb2 : Below w.heap.size w p.world := hbW.trans (p.below.mono hbW.size)
        go_wp2
        go_ret
        exact ⟨by rw [goodEn_bad hl1 (enOk_not_A Hek.out hA)]; rfl, hb2⟩
    · obtain rfl : k = n := by omega
      by_cases hL : k ≤ 40
      · have hLd : decide ((k : Int) ≤ 40) = true := decide_eq_true (by omega)
        go_wp2
        go_ret
        exact ⟨by rw [goodEn_yes Hn.out hL Hpre.out]; rfl, hbel⟩
      · have hLd : decide ((k : Int) ≤ 40) = false := decide_eq_false (by omega)
        go_wp2
        go_ret
        exact ⟨by rw [goodEn_long (Hn.out ▸ hL)]; rfl, hbel⟩

theorem areEntries_any (l : List IS) (w : World) (S : Nat → Prop) (hS : ∀ b, S b → b < w.heap.size) (A : Option Addr) (n c : Nat) (hl0 : RepL w S l A n c) :
    Calls Try.prog 46 #[.slice A n c] w fun x w' => x = .returned (.bool (goodEn l)) ∧ Below w.heap.size w w' := by
  have hbd := hl0.bd
  obtain ⟨hn, -⟩ := id hl0
  have Hn := Lib.hid hn
  clear hn
  go_enter Try.func46, Try.ntmps46
  go_wp2
  go_loopw [7] (fun i wr => ∃ k : Nat, k ≤ n ∧ i = .int .i64 k ∧ (∀ i, i < k → enOk l i) ∧ Below w.heap.size w wr) (fun i _ => n - (intOf i).toNat)
  case atStart => exact ⟨0, Nat.zero_le _, rfl, fun i hi => absurd hi (by omega), Below.refl _ _⟩
  case round =>
    obtain ⟨k, hk, rfl, hpre, hbel⟩ := hrel
    have Hpre := Lib.hid hpre
    clear hpre
    by_cases hlt : k < n
    · have hl1 : k < l.length := by have := Hn.out; omega
      obtain ⟨b, off, xs, rfl, hSb, hc, rfl, hi1, hi2⟩ := hl0.at_ hl1
      have hc0 := hc 0 _ rfl
      have hc1 := hc 1 _ rfl
      clear hc
      generalize hek : l[k] = ek at hc0 hc1 hi1 hi2
      obtain ⟨x, s⟩ := ek
      have Hek := Lib.hid (show l[k]? = some ⟨x, s⟩ by rw [List.getElem?_eq_getElem hl1, hek])
      clear hek
      have hc0' : wr.cell? ⟨b, off + k * 2, none⟩ = some (.int .i64 x) := (hbel.cell (hS _ hSb)).trans hc0
      have hc1' : wr.cell? ⟨b, off + k * 2 + 1, none⟩ = some (.string s) := (hbel.cell (hS _ hSb)).trans hc1
      clear hc0 hc1
      obtain ⟨hx1, hx2⟩ : I64 x := hi1
      have hs2 : s.size ≤ 9223372036854775807 := by have : s.size ≤ maxLen := hi2; unfold maxLen at this; exact this
      clear hi2
      have hI : (k : Int) < (n : Int) := by omega
      have hI0 : (0 : Int) ≤ (k : Int) := by omega
      obtain ⟨W, hW⟩ : ∃ W, W = wr.alloc (.cells #[.int .i64 x, .string s] 52) := ⟨_, rfl⟩
      have hbW : Below w.heap.size w W := by subst hW; exact hbel.alloc hbel.size _
      have e0 : ∀ p : Aft W, p.world.cell? ⟨wr.heap.size, 0, none⟩ = some (.int .i64 x) := Aft.cell (by subst hW; simp)
      have e1 : ∀ p : Aft W, p.world.cell? ⟨wr.heap.size, 1, none⟩ = some (.string s) := Aft.cell (by subst hW; simp)
      have HW := Lib.hid hW
      clear hW
      go_wp2_with fail
      rw [← HW.out]
      by_cases hA : 1 ≤ x ∧ x ≤ 1000
      · have Hd := Lib.hid (decide_eq_true hA)
        by_cases hB : s.size ≤ 20
        · have hBd : decide ((20 : Int) < (s.size : Int)) = false := decide_eq_false (by omega)
          by_cases hz : k = 0
          · have hgt : decide (0 < k) = false := decide_eq_false (by omega)
            have Hz := Lib.hid hz
            clear hz
            refine wp_region_aft (by kernel_rfl) (by kernel_rfl) ?_
            repeat (go_big_quiet_step ((go_at_call 66; exact Calls.aft (within_any _ _ _ _ Hd.out _))))
            refine wpQuiet_nil ?_
            rintro _ ⟨p, rfl⟩
            have hb2 : Below w.heap.size w p.world := hbW.trans (p.below.mono hbW.size)
            go_wp2
            go_roundw
            case rel => exact ⟨k + 1, by omega, by go_num, enOk_succ Hpre.out Hek.out hA.1 hA.2 hB (fun h => absurd Hz.out (by omega)), hb2⟩
            case measure => simp [intOf]; omega
          · obtain ⟨j, hj⟩ : ∃ j, k = j + 1 := ⟨k - 1, by omega⟩
            have hgt : decide (0 < k) = true := decide_eq_true (by omega)
            have hl2 : j < l.length := by omega
            obtain ⟨b', off', xs', e, hSb', hc, rfl, hj1, hj2⟩ := hl0.at_ hl2
            obtain ⟨rfl, rfl⟩ : b = b' ∧ off = off' := by simpa using e
            have e2 : ∀ p : Aft W, p.world.cell? ⟨b, off + j * 2, none⟩ = some (.int .i64 l[j].n) := Aft.cell ((hbW.cell (hS _ hSb)).trans (hc 0 _ rfl))
            have Hj := Lib.hid (show l[k - 1]? = some l[j] by rw [hj]; exact List.getElem?_eq_getElem hl2)
            have hsub : IntKind.i64.wrap ((k : Int) - 1) = (j : Int) := by rw [IntKind.wrap_i64]; omega
            have hsub0 : (0 : Int) ≤ (j : Int) := by omega
            have hsub1 : (j : Int) < (n : Int) := by omega
            have Hkj := Lib.hid hj
            clear hc e hj1 hj2 hj hz
            by_cases hD : x < l[j].n
            · have hDd : decide (x < l[j].n) = true := decide_eq_true hD
              refine wp_region_aft (by kernel_rfl) (by kernel_rfl) ?_
              repeat (go_big_quiet_step ((go_at_call 66; exact Calls.aft (within_any _ _ _ _ Hd.out _))))
              refine wpQuiet_nil ?_
              rintro _ ⟨p, rfl⟩
              have hb2 : Below w.heap.size w p.world := hbW.trans (p.below.mono hbW.size)
              go_wp2
              go_ret
              exact ⟨by rw [goodEn_bad hl1 (enOk_not_D Hek.out (by have := Hkj.out; omega) Hj.out hD)]; rfl, hb2⟩
            · have hDd : decide (x < l[j].n) = false := decide_eq_false hD
              refine wp_region_aft (by kernel_rfl) (by kernel_rfl) ?_
              repeat (go_big_quiet_step ((go_at_call 66; exact Calls.aft (within_any _ _ _ _ Hd.out _))))
              refine wpQuiet_nil ?_
              rintro _ ⟨p, rfl⟩
              have hb2 : Below w.heap.size w p.world := hbW.trans (p.below.mono hbW.size)
              go_wp2
              go_roundw
              case rel => exact ⟨k + 1, by omega, by go_num, enOk_succ Hpre.out Hek.out hA.1 hA.2 hB (fun _ f hf => by rw [Hj.out] at hf; obtain rfl := Option.some.inj hf; omega), hb2⟩
              case measure => simp [intOf]; omega
        · have hBd : decide ((20 : Int) < (s.size : Int)) = true := decide_eq_true (by omega)
          refine wp_region_aft (by kernel_rfl) (by kernel_rfl) ?_
          repeat (go_big_quiet_step ((go_at_call 66; exact Calls.aft (within_any _ _ _ _ Hd.out _))))
          refine wpQuiet_nil ?_
          rintro _ ⟨p, rfl⟩
          have hb2 : Below w.heap.size w p.world := hbW.trans (p.below.mono hbW.size)
          go_wp2
          go_ret
          exact ⟨by rw [goodEn_bad hl1 (enOk_not_B Hek.out hB)]; rfl, hb2⟩
      · have Hd := Lib.hid (decide_eq_false hA)
        refine wp_region_aft (by kernel_rfl) (by kernel_rfl) ?_
        repeat (go_big_quiet_step ((go_at_call 66; exact Calls.aft (within_any _ _ _ _ Hd.out _))))
        refine wpQuiet_nil ?_
        rintro _ ⟨p, rfl⟩
        have hb2 : Below w.heap.size w p.world := hbW.trans (p.below.mono hbW.size)
        go_wp2
        go_ret
        exact ⟨by rw [goodEn_bad hl1 (enOk_not_A Hek.out hA)]; rfl, hb2⟩
    · obtain rfl : k = n := by omega
      by_cases hL : k ≤ 40
      · have hLd : decide ((k : Int) ≤ 40) = true := decide_eq_true (by omega)
        go_wp2
        go_ret
        exact ⟨by rw [goodEn_yes Hn.out hL Hpre.out]; rfl, hbel⟩
      · have hLd : decide ((k : Int) ≤ 40) = false := decide_eq_false (by omega)
        go_wp2
        go_ret
        exact ⟨by rw [goodEn_long (Hn.out ▸ hL)]; rfl, hbel⟩

end Go.Proofs.Ytgcliipdkoefaaa

/-
  Contract: l7Both of the reference.
-/
namespace Go.Proofs.Ytgcliipdkoefaaa
open Go.ChangeShapes Go.WideShapes Go.ChangeAt Go.RowKit Go.BigFrame
set_option linter.unusedVariables false

theorem l7Both_any (l l' : List IS) (w : World) (S : Nat → Prop) (hS : ∀ b, S b → b < w.heap.size) (A A' : Option Addr) (n c n' c' : Nat) (hl0 : RepL w S l A n c) (hl1 : RepL w S l' A' n' c') :
    Calls Try.prog 42 #[.slice A n c, .slice A' n' c'] w fun x w' => x = .returned (.bool (goodEn l && goodEn l')) ∧ Below w.heap.size w w' := by
  have C1 := Lib.hid (spec_GoodEntries_any l w S hS A n c hl0)
  cases hg : goodEn l with
  | true =>
    have Hg := Lib.hid hg
    clear hg
    go_enter Try.func42, Try.ntmps42
    go_wp2_with fail
    refine C1.out.mono ?_
    rintro e w1 ⟨rfl, b1⟩
    rw [Hg.out]
    have h1 := hl1.keep (w' := w1) (fun p hp => b1.cell (hS _ hp))
    go_wp2_with fail
    refine (spec_GoodEntries_any l' w1 S (fun b hb => Nat.lt_of_lt_of_le (hS b hb) b1.size) A' n' c' h1).mono ?_
    rintro e w2 ⟨rfl, b2⟩
    go_wp2_with fail
    go_ret
    exact ⟨rfl, bnext b1 b2⟩
  | false =>
    have Hg := Lib.hid hg
    clear hg
    go_enter Try.func42, Try.ntmps42
    go_wp2_with fail
    refine C1.out.mono ?_
    rintro e w1 ⟨rfl, b1⟩
    rw [Hg.out]
    go_wp2_with fail
    go_ret
    exact ⟨rfl, b1⟩

end Go.Proofs.Ytgcliipdkoefaaa

/-
  Contracts: l7Both, l7Part, PartAt of the reference; partAt, GoodEntries, PartAt of the program.
-/
namespace Go.Proofs.Ytgcliipdkoefaaa
open Go.ChangeShapes Go.WideShapes Go.ChangeAt Go.RowKit Go.BigFrame
set_option linter.unusedVariables false

theorem eqGuardEntry : Try.prog.eqGuardType Try.prog.depth 52 = false := by kernel_rfl
theorem equalEntry (e f : IS) (r : Bool) (hr : decide (e = f) = r) (w : World) :
    (Op.equalIn 10000 52 (.agg #[.int .i64 e.n, .string e.s]) (.agg #[.int .i64 f.n, .string f.s])).run Try.prog w = .ok r w := by
  subst hr
  have u3 := Try.underlying3
  have a3 := Try.isAgg3
  have z3 := Try.sizeOf3
  have u9 := Try.underlying9
  have a9 := Try.isAgg9
  have z9 := Try.sizeOf9
  have hS : Try.prog.underlying 52 = some (.struct (Try.prog.fieldsOf 52)) := by kernel_rfl
  have hp : Try.prog.stoodInHeld 52 = false := by kernel_rfl
  rw [show (10000 : Nat) = 9999 + 1 from rfl, run_equalIn_agg w 9999 52 _ _ hS hp]
  simp only [Program.fieldsOf, Try.underlying52]
  obtain ⟨n, s⟩ := e
  obtain ⟨m, t⟩ := f
  go_simp
  by_cases h1 : n = m <;> by_cases h2 : s = t <;> simp [h1, h2, ba_inj]

/-- How far two lists agree. -/
def preE {α : Type} [DecidableEq α] : List α → List α → Nat
  | x :: xs, y :: ys => if x = y then preE xs ys + 1 else 0
  | _, _ => 0
theorem preE_le {α : Type} [DecidableEq α] : ∀ a b : List α, preE a b ≤ a.length ∧ preE a b ≤ b.length
  | [], _ => by simp [preE]
  | _ :: _, [] => by simp [preE]
  | x :: xs, y :: ys => by
    have := preE_le xs ys
    simp only [preE]
    split <;> simp <;> omega
theorem preE_eq {α : Type} [DecidableEq α] : ∀ (k : Nat) (a b : List α), a.take k = b.take k → k ≤ a.length → k ≤ b.length → (k = a.length ∨ k = b.length ∨ a[k]? ≠ b[k]?) → preE a b = k
  | 0, [], _, _, _, _, _ => by simp [preE]
  | 0, _ :: _, [], _, _, _, _ => by simp [preE]
  | 0, x :: xs, y :: ys, _, _, _, h => by
    simp at h
    simp [preE, h]
  | k + 1, x :: xs, y :: ys, h, h1, h2, h3 => by
    simp only [List.take_succ_cons, List.cons.injEq] at h
    obtain ⟨rfl, h⟩ := h
    have := preE_eq k xs ys h (by simpa using h1) (by simpa using h2) (by simpa using h3)
    simp [preE, this]
  | k + 1, [], _, _, h1, _, _ => absurd h1 (by simp)
  | k + 1, _ :: _, [], _, _, h2, _ => absurd h2 (by simp)

theorem l7Part_any (l l' : List IS) (w : World) (S : Nat → Prop) (hS : ∀ b, S b → b < w.heap.size) (A A' : Option Addr) (n c n' c' : Nat) (hl0 : RepL w S l A n c) (hl1 : RepL w S l' A' n' c') :
    Calls Try.prog 43 #[.slice A n c, .slice A' n' c'] w fun x w' => x = .returned (.int .i64 (preE l l')) ∧ Below w.heap.size w w' := by
  have hbd := hl0.bd
  have hbd' := hl1.bd
  have hg := eqGuardEntry
  obtain ⟨hn, -⟩ := id hl0
  obtain ⟨hn', -⟩ := id hl1
  have Hn := Lib.hid hn
  have Hn' := Lib.hid hn'
  clear hn hn'
  go_enter Try.func43, Try.ntmps43
  go_wp2
  go_loopw [5] (fun i wr => ∃ k : Nat, k ≤ n ∧ k ≤ n' ∧ i = .int .i64 k ∧ l.take k = l'.take k ∧ Below w.heap.size w wr) (fun i _ => n - (intOf i).toNat)
  case atStart => exact ⟨0, Nat.zero_le _, Nat.zero_le _, rfl, rfl, Below.refl _ _⟩
  case round =>
    obtain ⟨k, hk, hk', rfl, hpre, hbel⟩ := hrel
    have Hpre := Lib.hid hpre
    clear hpre
    have hI0 : (0 : Int) ≤ (k : Int) := by omega
    by_cases hlt : k < n
    · have hd1 : decide (k < n) = true := decide_eq_true (by omega)
      by_cases hlt' : k < n'
      · have hd2 : decide (k < n') = true := decide_eq_true (by omega)
        have hI1 : (k : Int) < (n : Int) := by omega
        have hI2 : (k : Int) < (n' : Int) := by omega
        have hk1 : k < l.length := by have := Hn.out; omega
        have hk2 : k < l'.length := by have := Hn'.out; omega
        obtain ⟨b, off, xs, rfl, hSb, hc, rfl, hi1, hi2⟩ := hl0.at_ hk1
        obtain ⟨b', off', xs', rfl, hSb', hc', rfl, hi1', hi2'⟩ := hl1.at_ hk2
        have hc0 : ∀ p : Aft wr, p.world.cell? ⟨b, off + k * 2, none⟩ = some (.int .i64 l[k].n) := Aft.cell ((hbel.cell (hS _ hSb)).trans (hc 0 _ rfl))
        have hc1 : ∀ p : Aft wr, p.world.cell? ⟨b, off + k * 2 + 1, none⟩ = some (.string l[k].s) := Aft.cell ((hbel.cell (hS _ hSb)).trans (hc 1 _ rfl))
        have hd0 : ∀ p : Aft wr, p.world.cell? ⟨b', off' + k * 2, none⟩ = some (.int .i64 l'[k].n) := Aft.cell ((hbel.cell (hS _ hSb')).trans (hc' 0 _ rfl))
        have hd1 : ∀ p : Aft wr, p.world.cell? ⟨b', off' + k * 2 + 1, none⟩ = some (.string l'[k].s) := Aft.cell ((hbel.cell (hS _ hSb')).trans (hc' 1 _ rfl))
        clear hc hc' hi1 hi2 hi1' hi2'
        by_cases he : l[k] = l'[k]
        · have heq := equalEntry l[k] l'[k] true (decide_eq_true he)
          have He := Lib.hid he
          clear he
          go_wp2_with fail
          refine wp_region_aft (by kernel_rfl) (by kernel_rfl) ?_
          repeat (go_big_quiet_step (fail))
          refine wpQuiet_nil ?_
          rintro _ ⟨p, rfl⟩
          have hb2 : Below w.heap.size w p.world := hbel.trans (p.below.mono hbel.size)
          go_wp2
          go_roundw
          case rel => exact ⟨k + 1, by omega, by omega, by go_num, by rw [List.take_succ_eq_append_getElem hk1, List.take_succ_eq_append_getElem hk2, Hpre.out, He.out], hb2⟩
          case measure => simp [intOf]; omega
        · have heq := equalEntry l[k] l'[k] false (decide_eq_false he)
          have Hfin := Lib.hid (preE_eq k l l' Hpre.out (by omega) (by omega) (.inr (.inr (by rw [List.getElem?_eq_getElem hk1, List.getElem?_eq_getElem hk2]; simpa using he))))
          clear he
          go_wp2_with fail
          refine wp_region_aft (by kernel_rfl) (by kernel_rfl) ?_
          repeat (go_big_quiet_step (fail))
          refine wpQuiet_nil ?_
          rintro _ ⟨p, rfl⟩
          have hb2 : Below w.heap.size w p.world := hbel.trans (p.below.mono hbel.size)
          go_wp2
          go_ret
          exact ⟨by rw [Hfin.out]; rfl, hb2⟩
      · have hd2 : decide (k < n') = false := decide_eq_false (by omega)
        have Hfin := Lib.hid (preE_eq k l l' Hpre.out (by have := Hn.out; omega) (by have := Hn'.out; omega) (.inr (.inl (by have := Hn'.out; omega))))
        go_wp2_with fail
        refine wp_region_aft (by kernel_rfl) (by kernel_rfl) ?_
        repeat (go_big_quiet_step (fail))
        refine wpQuiet_nil ?_
        rintro _ ⟨p, rfl⟩
        have hb2 : Below w.heap.size w p.world := hbel.trans (p.below.mono hbel.size)
        go_wp2
        go_ret
        exact ⟨by rw [Hfin.out]; rfl, hb2⟩
    · have hd1 : decide (k < n) = false := decide_eq_false (by omega)
      have Hfin := Lib.hid (preE_eq k l l' Hpre.out (by have := Hn.out; omega) (by have := Hn'.out; omega) (.inl (by have := Hn.out; omega)))
      go_wp2_with fail
      refine wp_region_aft (by kernel_rfl) (by kernel_rfl) ?_
      repeat (go_big_quiet_step (fail))
      refine wpQuiet_nil ?_
      rintro _ ⟨p, rfl⟩
      have hb2 : Below w.heap.size w p.world := hbel.trans (p.below.mono hbel.size)
      go_wp2
      go_ret
      exact ⟨by rw [Hfin.out]; rfl, hb2⟩

theorem partAt_any (l l' : List IS) (w : World) (S : Nat → Prop) (hS : ∀ b, S b → b < w.heap.size) (A A' : Option Addr) (n c n' c' : Nat) (hl0 : RepL w S l A n c) (hl1 : RepL w S l' A' n' c') :
    Calls Try.prog 61 #[.slice A n c, .slice A' n' c'] w fun x w' => x = .returned (.int .i64 (preE l l')) ∧ Below w.heap.size w w' := by
  have hbd := hl0.bd
  have hbd' := hl1.bd
  have hg := eqGuardEntry
  obtain ⟨hn, -⟩ := id hl0
  obtain ⟨hn', -⟩ := id hl1
  have Hn := Lib.hid hn
  have Hn' := Lib.hid hn'
  clear hn hn'
  go_enter Try.func61, Try.ntmps61
  go_wp2
  go_loopw [5] (fun i wr => ∃ k : Nat, k ≤ n ∧ k ≤ n' ∧ i = .int .i64 k ∧ l.take k = l'.take k ∧ Below w.heap.size w wr) (fun i _ => n - (intOf i).toNat)
  case atStart => exact ⟨0, Nat.zero_le _, Nat.zero_le _, rfl, rfl, Below.refl _ _⟩
  case round =>
    obtain ⟨k, hk, hk', rfl, hpre, hbel⟩ := hrel
    have Hpre := Lib.hid hpre
    clear hpre
    have hI0 : (0 : Int) ≤ (k : Int) := by omega
    by_cases hlt : k < n
    · have hd1 : decide (k < n) = true := decide_eq_true (by omega)
      by_cases hlt' : k < n'
      · have hd2 : decide (k < n') = true := decide_eq_true (by omega)
        have hI1 : (k : Int) < (n : Int) := by omega
        have hI2 : (k : Int) < (n' : Int) := by omega
        have hk1 : k < l.length := by have := Hn.out; omega
        have hk2 : k < l'.length := by have := Hn'.out; omega
        obtain ⟨b, off, xs, rfl, hSb, hc, rfl, hi1, hi2⟩ := hl0.at_ hk1
        obtain ⟨b', off', xs', rfl, hSb', hc', rfl, hi1', hi2'⟩ := hl1.at_ hk2
        have hc0 : ∀ p : Aft wr, p.world.cell? ⟨b, off + k * 2, none⟩ = some (.int .i64 l[k].n) := Aft.cell ((hbel.cell (hS _ hSb)).trans (hc 0 _ rfl))
        have hc1 : ∀ p : Aft wr, p.world.cell? ⟨b, off + k * 2 + 1, none⟩ = some (.string l[k].s) := Aft.cell ((hbel.cell (hS _ hSb)).trans (hc 1 _ rfl))
        have hd0 : ∀ p : Aft wr, p.world.cell? ⟨b', off' + k * 2, none⟩ = some (.int .i64 l'[k].n) := Aft.cell ((hbel.cell (hS _ hSb')).trans (hc' 0 _ rfl))
        have hd1 : ∀ p : Aft wr, p.world.cell? ⟨b', off' + k * 2 + 1, none⟩ = some (.string l'[k].s) := Aft.cell ((hbel.cell (hS _ hSb')).trans (hc' 1 _ rfl))
        clear hc hc' hi1 hi2 hi1' hi2'
        obtain ⟨m, hm⟩ : ∃ m : Int, (if n' < n then (n' : Int) else (n : Int)) = m := ⟨_, rfl⟩
        have hmn : decide ((k : Int) < m) = true := decide_eq_true (by rw [← hm]; split <;> omega)
        by_cases he : l[k] = l'[k]
        · have heq := equalEntry l[k] l'[k] true (decide_eq_true he)
          have He := Lib.hid he
          clear he
          go_wp2_with fail
          refine wp_region_aft (by kernel_rfl) (by kernel_rfl) ?_
          repeat (go_big_quiet_step (fail))
          refine wpQuiet_nil ?_
          rintro _ ⟨p, rfl⟩
          have hb2 : Below w.heap.size w p.world := hbel.trans (p.below.mono hbel.size)
          go_wp2
          go_roundw
          case rel => exact ⟨k + 1, by omega, by omega, by go_num, by rw [List.take_succ_eq_append_getElem hk1, List.take_succ_eq_append_getElem hk2, Hpre.out, He.out], hb2⟩
          case measure => simp [intOf]; omega
        · have heq := equalEntry l[k] l'[k] false (decide_eq_false he)
          have Hfin := Lib.hid (preE_eq k l l' Hpre.out (by omega) (by omega) (.inr (.inr (by rw [List.getElem?_eq_getElem hk1, List.getElem?_eq_getElem hk2]; simpa using he))))
          clear he
          go_wp2_with fail
          refine wp_region_aft (by kernel_rfl) (by kernel_rfl) ?_
          repeat (go_big_quiet_step (fail))
          refine wpQuiet_nil ?_
          rintro _ ⟨p, rfl⟩
          have hb2 : Below w.heap.size w p.world := hbel.trans (p.below.mono hbel.size)
          go_wp2
          go_ret
          exact ⟨by rw [Hfin.out]; rfl, hb2⟩
      · have hd2 : decide (k < n') = false := decide_eq_false (by omega)
        obtain ⟨m, hm⟩ : ∃ m : Int, (if n' < n then (n' : Int) else (n : Int)) = m := ⟨_, rfl⟩
        have hmn : decide ((k : Int) < m) = false := decide_eq_false (by rw [← hm]; split <;> omega)
        have Hfin := Lib.hid (preE_eq k l l' Hpre.out (by have := Hn.out; omega) (by have := Hn'.out; omega) (.inr (.inl (by have := Hn'.out; omega))))
        go_wp2_with fail
        refine wp_region_aft (by kernel_rfl) (by kernel_rfl) ?_
        repeat (go_big_quiet_step (fail))
        refine wpQuiet_nil ?_
        rintro _ ⟨p, rfl⟩
        have hb2 : Below w.heap.size w p.world := hbel.trans (p.below.mono hbel.size)
        go_wp2
        go_ret
        exact ⟨by rw [Hfin.out]; rfl, hb2⟩
    · have hd1 : decide (k < n) = false := decide_eq_false (by omega)
      obtain ⟨m, hm⟩ : ∃ m : Int, (if n' < n then (n' : Int) else (n : Int)) = m := ⟨_, rfl⟩
      have hmn : decide ((k : Int) < m) = false := decide_eq_false (by rw [← hm]; split <;> omega)
      have Hfin := Lib.hid (preE_eq k l l' Hpre.out (by have := Hn.out; omega) (by have := Hn'.out; omega) (.inl (by have := Hn.out; omega)))
      go_wp2_with fail
      refine wp_region_aft (by kernel_rfl) (by kernel_rfl) ?_
      repeat (go_big_quiet_step (fail))
      refine wpQuiet_nil ?_
      rintro _ ⟨p, rfl⟩
      have hb2 : Below w.heap.size w p.world := hbel.trans (p.below.mono hbel.size)
      go_wp2
      go_ret
      exact ⟨by rw [Hfin.out]; rfl, hb2⟩

/-- What PartAt answers. -/
noncomputable def partInt (l l' : List IS) : Int := if goodEn l && goodEn l' then preE l l' else 0

theorem spec_PartAt_any (l l' : List IS) (w : World) (S : Nat → Prop) (hS : ∀ b, S b → b < w.heap.size) (A A' : Option Addr) (n c n' c' : Nat) (hl0 : RepL w S l A n c) (hl1 : RepL w S l' A' n' c') :
    Calls Try.prog 29 #[.slice A n c, .slice A' n' c'] w fun x w' => x = .returned (.tuple #[.int .i64 (partInt l l'), .bool (goodEn l && goodEn l')]) ∧ Below w.heap.size w w' := by
  have C1 := Lib.hid (l7Both_any l l' w S hS A A' n c n' c' hl0 hl1)
  obtain ⟨r, hr⟩ : ∃ r, (goodEn l && goodEn l') = r := ⟨_, rfl⟩
  rw [hr] at C1 ⊢
  have Hr := Lib.hid hr
  clear hr
  cases r with
  | true =>
    have Hf := Lib.hid (show partInt l l' = preE l l' by unfold partInt; rw [Hr.out]; rfl)
    go_enter Try.func29, Try.ntmps29
    go_wp2_with fail
    refine C1.out.mono ?_
    rintro e w1 ⟨rfl, b1⟩
    go_wp2_with fail
    refine (l7Part_any l l' w1 S (fun b hb => Nat.lt_of_lt_of_le (hS b hb) b1.size) A A' n c n' c' (hl0.keep (fun p hp => b1.cell (hS _ hp))) (hl1.keep (fun p hp => b1.cell (hS _ hp)))).mono ?_
    rintro e w2 ⟨rfl, b2⟩
    go_wp2_with fail
    go_ret2
    exact ⟨by rw [Hf.out]; rfl, bnext b1 b2⟩
  | false =>
    have Hf := Lib.hid (show partInt l l' = 0 by unfold partInt; rw [Hr.out]; rfl)
    go_enter Try.func29, Try.ntmps29
    go_wp2_with fail
    refine C1.out.mono ?_
    rintro e w1 ⟨rfl, b1⟩
    go_wp2_with fail
    go_ret2
    exact ⟨by rw [Hf.out]; rfl, b1⟩

theorem impl_PartAt_any (l l' : List IS) (w : World) (S : Nat → Prop) (hS : ∀ b, S b → b < w.heap.size) (A A' : Option Addr) (n c n' c' : Nat) (hl0 : RepL w S l A n c) (hl1 : RepL w S l' A' n' c') :
    Calls Try.prog 28 #[.slice A n c, .slice A' n' c'] w fun x w' => x = .returned (.tuple #[.int .i64 (partInt l l'), .bool (goodEn l && goodEn l')]) ∧ Below w.heap.size w w' := by
  have C1 := Lib.hid (areEntries_any l w S hS A n c hl0)
  obtain ⟨r, hr⟩ : ∃ r, goodEn l = r := ⟨_, rfl⟩
  obtain ⟨q, hq⟩ : ∃ q, goodEn l' = q := ⟨_, rfl⟩
  rw [hr] at C1 ⊢
  rw [hq]
  have Hr := Lib.hid hr
  have Hq := Lib.hid hq
  clear hr hq
  cases r with
  | true =>
    cases q with
    | true =>
      have Hf := Lib.hid (show partInt l l' = preE l l' by unfold partInt; rw [Hr.out, Hq.out]; rfl)
      go_enter Try.func28, Try.ntmps28
      go_wp2_with fail
      refine C1.out.mono ?_
      rintro e w1 ⟨rfl, b1⟩
      have h1 := hl1.keep (w' := w1) (fun p hp => b1.cell (hS _ hp))
      have h0 := hl0.keep (w' := w1) (fun p hp => b1.cell (hS _ hp))
      go_wp2_with fail
      refine (areEntries_any l' w1 S (fun b hb => Nat.lt_of_lt_of_le (hS b hb) b1.size) A' n' c' h1).mono ?_
      rintro e w2 ⟨rfl, b2⟩
      rw [Hq.out]
      have b12 := bnext b1 b2
      go_wp2_with fail
      refine (partAt_any l l' w2 S (fun b hb => Nat.lt_of_lt_of_le (hS b hb) b12.size) A A' n c n' c' (hl0.keep (fun p hp => b12.cell (hS _ hp))) (hl1.keep (fun p hp => b12.cell (hS _ hp)))).mono ?_
      rintro e w3 ⟨rfl, b3⟩
      go_wp2_with fail
      go_ret2
      exact ⟨by rw [Hf.out]; rfl, bnext b12 b3⟩
    | false =>
      have Hf := Lib.hid (show partInt l l' = 0 by unfold partInt; rw [Hr.out, Hq.out]; rfl)
      go_enter Try.func28, Try.ntmps28
      go_wp2_with fail
      refine C1.out.mono ?_
      rintro e w1 ⟨rfl, b1⟩
      have h1 := hl1.keep (w' := w1) (fun p hp => b1.cell (hS _ hp))
      go_wp2_with fail
      refine (areEntries_any l' w1 S (fun b hb => Nat.lt_of_lt_of_le (hS b hb) b1.size) A' n' c' h1).mono ?_
      rintro e w2 ⟨rfl, b2⟩
      rw [Hq.out]
      go_wp2_with fail
      go_ret2
      exact ⟨by rw [Hf.out]; rfl, bnext b1 b2⟩
  | false =>
    have Hf := Lib.hid (show partInt l l' = 0 by unfold partInt; rw [Hr.out]; rfl)
    go_enter Try.func28, Try.ntmps28
    go_wp2_with fail
    refine C1.out.mono ?_
    rintro e w1 ⟨rfl, b1⟩
    go_wp2_with fail
    go_ret2
    exact ⟨by rw [Hf.out]; rfl, b1⟩

end Go.Proofs.Ytgcliipdkoefaaa

/-
  Contracts: EndOfEpoch of the reference and of the program.
-/
namespace Go.Proofs.Ytgcliipdkoefaaa
open Go.ChangeShapes Go.WideShapes Go.ChangeAt Go.RowKit Go.BigFrame
set_option linter.unusedVariables false

/-- How many entries have an epoch that is m or less. -/
def cntLe (m : Int) (l : List IS) : Nat := (l.filter fun e => decide (e.n ≤ m)).length
theorem cntLe_snoc (m : Int) (l : List IS) (e : IS) : cntLe m (l ++ [e]) = cntLe m l + if e.n ≤ m then 1 else 0 := by
  unfold cntLe
  rw [List.filter_append]
  by_cases h : e.n ≤ m <;> simp [h]
theorem cntLe_le (m : Int) (l : List IS) : cntLe m l ≤ l.length := List.length_filter_le _ _
theorem goodEn_spec {l : List IS} (h : goodEn l = true) : l.length ≤ 40 ∧ ∀ i, i < l.length → enOk l i := by
  classical
  unfold goodEn at h
  simpa using h
/-- The epochs of good entries rise. -/
theorem rises {l : List IS} (h : ∀ i, i < l.length → enOk l i) : ∀ (j i : Nat) (x y : IS), i ≤ j → l[i]? = some x → l[j]? = some y → x.n ≤ y.n := by
  intro j
  induction j with
  | zero =>
    intro i x y hij hx hy
    obtain rfl : i = 0 := by omega
    rw [hx] at hy
    obtain rfl := Option.some.inj hy
    exact Int.le_refl _
  | succ j ih =>
    intro i x y hij hx hy
    by_cases hi : i = j + 1
    · subst hi
      rw [hx] at hy
      obtain rfl := Option.some.inj hy
      exact Int.le_refl _
    · have hj : j + 1 < l.length := (List.getElem?_eq_some_iff.1 hy).1
      have hz : l[j]? = some l[j] := List.getElem?_eq_getElem (by omega)
      have h1 := ih i x l[j] (by omega) hx hz
      have h2 := (h (j + 1) hj y hy).2.2.2 (by omega) l[j] (by simp)
      omega
theorem cntLe_split {l : List IS} (h : ∀ i, i < l.length → enOk l i) {m : Int} {k : Nat} (hk : k ≤ l.length) (h1 : ∀ i e, i < k → l[i]? = some e → e.n ≤ m) (h2 : ∀ e, l[k]? = some e → ¬ e.n ≤ m) : cntLe m l = k := by
  unfold cntLe
  conv => lhs; rw [← List.take_append_drop k l]
  rw [List.filter_append, List.length_append]
  have e1 : (l.take k).filter (fun e => decide (e.n ≤ m)) = l.take k := by
    rw [List.filter_eq_self]
    intro a ha
    obtain ⟨i, hi, rfl⟩ := List.mem_iff_getElem.1 ha
    simp only [List.length_take] at hi
    have := h1 i l[i] (by omega) (List.getElem?_eq_getElem (by omega))
    simpa using this
  have e2 : (l.drop k).filter (fun e => decide (e.n ≤ m)) = [] := by
    rw [List.filter_eq_nil_iff]
    intro a ha
    obtain ⟨i, hi, rfl⟩ := List.mem_iff_getElem.1 ha
    simp only [List.length_drop] at hi
    have hk' : k < l.length := by omega
    have h3 := h2 l[k] (List.getElem?_eq_getElem hk')
    have h4 := rises h (k + i) k l[k] l[k + i] (by omega) (List.getElem?_eq_getElem hk') (List.getElem?_eq_getElem (by omega))
    simp only [List.getElem_drop, decide_eq_true_eq]
    omega
  rw [e1, e2, List.length_take]
  simp
  omega

theorem l7End_any (l : List IS) (m : Int) (hm : I64 m) (w : World) (S : Nat → Prop) (hS : ∀ b, S b → b < w.heap.size) (A : Option Addr) (n c : Nat) (hl0 : RepL w S l A n c) :
    Calls Try.prog 70 #[.slice A n c, .int .i64 m] w fun x w' => x = .returned (.int .i64 (cntLe m l)) ∧ Below w.heap.size w w' := by
  have hbd := hl0.bd
  obtain ⟨hm1, hm2⟩ := hm
  obtain ⟨hn, -⟩ := id hl0
  have Hn := Lib.hid hn
  clear hn
  go_enter Try.func70, Try.ntmps70
  go_wp2
  go_loopw [5, 10] (fun q i wr => ∃ k c : Nat, k ≤ n ∧ i = .int .i64 k ∧ q = .int .i64 c ∧ c = cntLe m (l.take k) ∧ c ≤ k ∧ Below w.heap.size w wr) (fun _ i _ => n - (intOf i).toNat)
  case atStart => exact ⟨0, 0, Nat.zero_le _, rfl, rfl, by simp [cntLe], Nat.le_refl _, Below.refl _ _⟩
  case round =>
    obtain ⟨k, q, hk, rfl, rfl, hq, hqk, hbel⟩ := hrel
    have Hq := Lib.hid hq
    clear hq
    by_cases hlt : k < n
    · have hl1 : k < l.length := by have := Hn.out; omega
      obtain ⟨b, off, xs, rfl, hSb, hc, rfl, hi1, hi2⟩ := hl0.at_ hl1
      have hc0 : wr.cell? ⟨b, off + k * 2, none⟩ = some (.int .i64 l[k].n) := (hbel.cell (hS _ hSb)).trans (hc 0 _ rfl)
      have hc1 : wr.cell? ⟨b, off + k * 2 + 1, none⟩ = some (.string l[k].s) := (hbel.cell (hS _ hSb)).trans (hc 1 _ rfl)
      clear hc hi1 hi2
      have Hs := Lib.hid (show cntLe m (l.take (k + 1)) = cntLe m (l.take k) + if l[k].n ≤ m then 1 else 0 by rw [List.take_succ_eq_append_getElem hl1, cntLe_snoc])
      by_cases hle : l[k].n ≤ m
      · go_wp2
        go_roundw
        case rel => exact ⟨k + 1, q + 1, by omega, by go_num, by go_num, by rw [Hs.out, if_pos hle, ← Hq.out], by omega, hbel.alloc hbel.size _⟩
        case measure => simp [intOf]; omega
      · go_wp2
        go_roundw
        case rel => exact ⟨k + 1, q, by omega, by go_num, rfl, by rw [Hs.out, if_neg hle, ← Hq.out]; rfl, by omega, hbel.alloc hbel.size _⟩
        case measure => simp [intOf]; omega
    · have Hf := Lib.hid (show cntLe m l = q by have e := Hq.out; rw [List.take_of_length_le (by have := Hn.out; omega)] at e; exact e.symm)
      go_wp2
      go_ret
      exact ⟨by rw [Hf.out]; rfl, hbel⟩

theorem endOfEpoch_any (l : List IS) (hg : goodEn l = true) (m : Int) (hm : I64 m) (w : World) (S : Nat → Prop) (hS : ∀ b, S b → b < w.heap.size) (A : Option Addr) (n c : Nat) (hl0 : RepL w S l A n c) :
    Calls Try.prog 67 #[.slice A n c, .int .i64 m] w fun x w' => x = .returned (.int .i64 (cntLe m l)) ∧ Below w.heap.size w w' := by
  have hbd := hl0.bd
  have Hg := Lib.hid (goodEn_spec hg).2
  clear hg
  obtain ⟨hm1, hm2⟩ := hm
  obtain ⟨hn, -⟩ := id hl0
  have Hn := Lib.hid hn
  clear hn
  go_enter Try.func67, Try.ntmps67
  go_wp2
  go_loopw [5] (fun i wr => ∃ k : Nat, k ≤ n ∧ i = .int .i64 k ∧ (∀ i e, i < k → l[i]? = some e → e.n ≤ m) ∧ Below w.heap.size w wr) (fun i _ => n - (intOf i).toNat)
  case atStart => exact ⟨0, Nat.zero_le _, rfl, fun i e hi => absurd hi (by omega), Below.refl _ _⟩
  case round =>
    obtain ⟨k, hk, rfl, hpre, hbel⟩ := hrel
    have Hpre := Lib.hid hpre
    clear hpre
    by_cases hlt : k < n
    · have hd : decide (k < n) = true := decide_eq_true hlt
      have hl1 : k < l.length := by have := Hn.out; omega
      obtain ⟨b, off, xs, rfl, hSb, hc, rfl, hi1, hi2⟩ := hl0.at_ hl1
      have hc0 : wr.cell? ⟨b, off + k * 2, none⟩ = some (.int .i64 l[k].n) := (hbel.cell (hS _ hSb)).trans (hc 0 _ rfl)
      clear hc hi1 hi2
      by_cases hle : l[k].n ≤ m
      · have hd2 : decide (l[k].n ≤ m) = true := decide_eq_true hle
        go_wp2
        go_roundw
        case rel =>
          refine ⟨k + 1, by omega, by go_num, fun i e hi he => ?_, hbel⟩
          by_cases hik : i = k
          · subst hik
            rw [List.getElem?_eq_getElem hl1] at he
            obtain rfl := Option.some.inj he
            exact hle
          · exact Hpre.out i e (by omega) he
        case measure => simp [intOf]; omega
      · have hd2 : decide (l[k].n ≤ m) = false := decide_eq_false hle
        have Hf := Lib.hid (cntLe_split Hg.out (by omega) Hpre.out (fun e he => by rw [List.getElem?_eq_getElem hl1] at he; obtain rfl := Option.some.inj he; exact hle))
        go_wp2
        go_ret
        exact ⟨by rw [Hf.out]; rfl, hbel⟩
    · have hd : decide (k < n) = false := decide_eq_false hlt
      have Hf := Lib.hid (cntLe_split Hg.out (by have := Hn.out; omega) Hpre.out (fun e he => by rw [List.getElem?_eq_none (by have := Hn.out; omega)] at he; cases he))
      go_wp2
      go_ret
      exact ⟨by rw [Hf.out]; rfl, hbel⟩

noncomputable def endOk (l : List IS) (m : Int) : Bool := goodEn l && decide (0 ≤ m ∧ m ≤ 1000)
noncomputable def endInt (l : List IS) (m : Int) : Int := if endOk l m then cntLe m l else 0

theorem spec_EndOfEpoch_any (l : List IS) (m : Int) (hm : I64 m) (w : World) (S : Nat → Prop) (hS : ∀ b, S b → b < w.heap.size) (A : Option Addr) (n c : Nat) (hl0 : RepL w S l A n c) :
    Calls Try.prog 38 #[.slice A n c, .int .i64 m] w fun x w' => x = .returned (.tuple #[.int .i64 (endInt l m), .bool (endOk l m)]) ∧ Below w.heap.size w w' := by
  have C1 := Lib.hid (spec_GoodEntries_any l w S hS A n c hl0)
  obtain ⟨r, hr⟩ : ∃ r, goodEn l = r := ⟨_, rfl⟩
  obtain ⟨q, hq⟩ : ∃ q, decide (0 ≤ m ∧ m ≤ 1000) = q := ⟨_, rfl⟩
  rw [hr] at C1
  have Hr := Lib.hid hr
  have Hq := Lib.hid hq
  clear hr hq
  cases r with
  | true =>
    cases q with
    | true =>
      have Hk := Lib.hid (show endOk l m = true by unfold endOk; rw [Hr.out, Hq.out]; rfl)
      have Hf := Lib.hid (show endInt l m = cntLe m l by unfold endInt; rw [Hk.out]; rfl)
      go_enter Try.func38, Try.ntmps38
      go_wp2_with fail
      refine C1.out.mono ?_
      rintro e w1 ⟨rfl, b1⟩
      go_wp2_with fail
      refine (l1In_any _ _ _ _ Hq.out _).mono ?_
      rintro e w2 ⟨rfl, b2⟩
      have b12 := bnext b1 b2
      go_wp2_with fail
      refine (l7End_any l m hm w2 S (fun b hb => Nat.lt_of_lt_of_le (hS b hb) b12.size) A n c (hl0.keep (fun p hp => b12.cell (hS _ hp)))).mono ?_
      rintro e w3 ⟨rfl, b3⟩
      go_wp2_with fail
      go_ret2
      exact ⟨by rw [Hf.out, Hk.out]; rfl, bnext b12 b3⟩
    | false =>
      have Hk := Lib.hid (show endOk l m = false by unfold endOk; rw [Hr.out, Hq.out]; rfl)
      have Hf := Lib.hid (show endInt l m = 0 by unfold endInt; rw [Hk.out]; rfl)
      go_enter Try.func38, Try.ntmps38
      go_wp2_with fail
      refine C1.out.mono ?_
      rintro e w1 ⟨rfl, b1⟩
      go_wp2_with fail
      refine (l1In_any _ _ _ _ Hq.out _).mono ?_
      rintro e w2 ⟨rfl, b2⟩
      go_wp2_with fail
      go_ret2
      exact ⟨by rw [Hf.out, Hk.out]; rfl, bnext b1 b2⟩
  | false =>
    have Hk := Lib.hid (show endOk l m = false by unfold endOk; rw [Hr.out]; rfl)
    have Hf := Lib.hid (show endInt l m = 0 by unfold endInt; rw [Hk.out]; rfl)
    go_enter Try.func38, Try.ntmps38
    go_wp2_with fail
    refine C1.out.mono ?_
    rintro e w1 ⟨rfl, b1⟩
    go_wp2_with fail
    go_ret2
    exact ⟨by rw [Hf.out, Hk.out]; rfl, b1⟩

theorem impl_EndOfEpoch_any (l : List IS) (m : Int) (hm : I64 m) (w : World) (S : Nat → Prop) (hS : ∀ b, S b → b < w.heap.size) (A : Option Addr) (n c : Nat) (hl0 : RepL w S l A n c) :
    Calls Try.prog 36 #[.slice A n c, .int .i64 m] w fun x w' => x = .returned (.tuple #[.int .i64 (endInt l m), .bool (endOk l m)]) ∧ Below w.heap.size w w' := by
  have C1 := Lib.hid (areEntries_any l w S hS A n c hl0)
  obtain ⟨r, hr⟩ : ∃ r, goodEn l = r := ⟨_, rfl⟩
  obtain ⟨q, hq⟩ : ∃ q, decide (0 ≤ m ∧ m ≤ 1000) = q := ⟨_, rfl⟩
  rw [hr] at C1
  have Hr := Lib.hid hr
  have Hq := Lib.hid hq
  clear hr hq
  cases r with
  | true =>
    cases q with
    | true =>
      have Hk := Lib.hid (show endOk l m = true by unfold endOk; rw [Hr.out, Hq.out]; rfl)
      have Hf := Lib.hid (show endInt l m = cntLe m l by unfold endInt; rw [Hk.out]; rfl)
      go_enter Try.func36, Try.ntmps36
      go_wp2_with fail
      refine C1.out.mono ?_
      rintro e w1 ⟨rfl, b1⟩
      go_wp2_with fail
      refine (within_any _ _ _ _ Hq.out _).mono ?_
      rintro e w2 ⟨rfl, b2⟩
      have b12 := bnext b1 b2
      go_wp2_with fail
      refine (endOfEpoch_any l Hr.out m hm w2 S (fun b hb => Nat.lt_of_lt_of_le (hS b hb) b12.size) A n c (hl0.keep (fun p hp => b12.cell (hS _ hp)))).mono ?_
      rintro e w3 ⟨rfl, b3⟩
      go_wp2_with fail
      go_ret2
      exact ⟨by rw [Hf.out, Hk.out]; rfl, bnext b12 b3⟩
    | false =>
      have Hk := Lib.hid (show endOk l m = false by unfold endOk; rw [Hr.out, Hq.out]; rfl)
      have Hf := Lib.hid (show endInt l m = 0 by unfold endInt; rw [Hk.out]; rfl)
      go_enter Try.func36, Try.ntmps36
      go_wp2_with fail
      refine C1.out.mono ?_
      rintro e w1 ⟨rfl, b1⟩
      go_wp2_with fail
      refine (within_any _ _ _ _ Hq.out _).mono ?_
      rintro e w2 ⟨rfl, b2⟩
      go_wp2_with fail
      go_ret2
      exact ⟨by rw [Hf.out, Hk.out]; rfl, bnext b1 b2⟩
  | false =>
    have Hk := Lib.hid (show endOk l m = false by unfold endOk; rw [Hr.out]; rfl)
    have Hf := Lib.hid (show endInt l m = 0 by unfold endInt; rw [Hk.out]; rfl)
    go_enter Try.func36, Try.ntmps36
    go_wp2_with fail
    refine C1.out.mono ?_
    rintro e w1 ⟨rfl, b1⟩
    go_wp2_with fail
    go_ret2
    exact ⟨by rw [Hf.out, Hk.out]; rfl, b1⟩

end Go.Proofs.Ytgcliipdkoefaaa

/-
  Contracts: IsNewer of the reference and of the program.
-/
namespace Go.Proofs.Ytgcliipdkoefaaa
open Go.ChangeShapes Go.WideShapes Go.ChangeAt Go.RowKit Go.BigFrame
set_option linter.unusedVariables false

/-- The last epoch, 0 for none. -/
def lastN (l : List IS) : Int := match l[l.length - 1]? with | some e => e.n | none => 0
theorem lastN_get {l : List IS} {k : Nat} {e : IS} (hk : k + 1 = l.length) (he : l[k]? = some e) : lastN l = e.n := by
  unfold lastN
  rw [show l.length - 1 = k by omega, he]
theorem lastN_nil {l : List IS} (h : l.length = 0) : lastN l = 0 := by
  obtain rfl := List.eq_nil_of_length_eq_zero h
  rfl
/-- The first list is newer. -/
def newer (a b : List IS) : Bool := decide (lastN b < lastN a) || (decide (lastN a = lastN b) && decide (b.length < a.length))

theorem l7Last_any (l : List IS) (r : Int) (hr : lastN l = r) (w : World) (S : Nat → Prop) (hS : ∀ b, S b → b < w.heap.size) (A : Option Addr) (n c : Nat) (hl0 : RepL w S l A n c) :
    Calls Try.prog 78 #[.slice A n c] w fun x w' => x = .returned (.int .i64 r) ∧ Below w.heap.size w w' := by
  have hbd := hl0.bd
  obtain ⟨hn, -⟩ := id hl0
  have Hn := Lib.hid hn
  have Hr := Lib.hid hr
  clear hn hr
  by_cases hz : n = 0
  · have hz1 : ((n : Int) == 0) = true := by simp [hz]
    have Hf := Lib.hid (show r = 0 by rw [← Hr.out]; exact lastN_nil (by have := Hn.out; omega))
    clear hz
    go_enter Try.func78, Try.ntmps78
    go_wp2
    go_ret
    exact ⟨by rw [Hf.out]; rfl, Below.refl _ _⟩
  · have hz1 : ((n : Int) == 0) = false := by simp [hz]
    obtain ⟨k, hk⟩ : ∃ k, k + 1 = n := ⟨n - 1, by omega⟩
    have hsub : IntKind.i64.wrap ((n : Int) - 1) = (k : Int) := by rw [IntKind.wrap_i64]; omega
    have hsub' : (n : Int) - 1 = (k : Int) := by omega
    have hk0 : k < n := by omega
    have hl1 : k < l.length := by have := Hn.out; omega
    obtain ⟨b, off, xs, rfl, hSb, hc, rfl, hi1, hi2⟩ := hl0.at_ hl1
    have hc0 : w.cell? ⟨b, off + k * 2, none⟩ = some (.int .i64 l[k].n) := hc 0 _ rfl
    have Hf := Lib.hid (show r = l[k].n by rw [← Hr.out]; exact lastN_get (by have := Hn.out; omega) (List.getElem?_eq_getElem hl1))
    clear hc hi1 hi2 hz hk
    go_enter Try.func78, Try.ntmps78
    go_wp2
    go_ret
    exact ⟨by rw [Hf.out]; rfl, Below.refl _ _⟩

theorem lastEpoch_any (l : List IS) (r : Int) (hr : lastN l = r) (w : World) (S : Nat → Prop) (hS : ∀ b, S b → b < w.heap.size) (A : Option Addr) (n c : Nat) (hl0 : RepL w S l A n c) :
    Calls Try.prog 80 #[.slice A n c] w fun x w' => x = .returned (.int .i64 r) ∧ Below w.heap.size w w' := by
  have hbd := hl0.bd
  obtain ⟨hn, -⟩ := id hl0
  have Hn := Lib.hid hn
  have Hr := Lib.hid hr
  clear hn hr
  by_cases hz : n = 0
  · have hz1 : ((n : Int) == 0) = true := by simp [hz]
    have Hf := Lib.hid (show r = 0 by rw [← Hr.out]; exact lastN_nil (by have := Hn.out; omega))
    clear hz
    go_enter Try.func80, Try.ntmps80
    go_wp2
    go_ret
    exact ⟨by rw [Hf.out]; rfl, Below.refl _ _⟩
  · have hz1 : ((n : Int) == 0) = false := by simp [hz]
    obtain ⟨k, hk⟩ : ∃ k, k + 1 = n := ⟨n - 1, by omega⟩
    have hsub : IntKind.i64.wrap ((n : Int) - 1) = (k : Int) := by rw [IntKind.wrap_i64]; omega
    have hsub' : (n : Int) - 1 = (k : Int) := by omega
    have hk0 : k < n := by omega
    have hl1 : k < l.length := by have := Hn.out; omega
    obtain ⟨b, off, xs, rfl, hSb, hc, rfl, hi1, hi2⟩ := hl0.at_ hl1
    have hc0 : w.cell? ⟨b, off + k * 2, none⟩ = some (.int .i64 l[k].n) := hc 0 _ rfl
    have Hf := Lib.hid (show r = l[k].n by rw [← Hr.out]; exact lastN_get (by have := Hn.out; omega) (List.getElem?_eq_getElem hl1))
    clear hc hi1 hi2 hz hk
    go_enter Try.func80, Try.ntmps80
    go_wp2
    go_ret
    exact ⟨by rw [Hf.out]; rfl, Below.refl _ _⟩

theorem l7Newer_any (l l' : List IS) (w : World) (S : Nat → Prop) (hS : ∀ b, S b → b < w.heap.size) (A A' : Option Addr) (n c n' c' : Nat) (hl0 : RepL w S l A n c) (hl1 : RepL w S l' A' n' c') :
    Calls Try.prog 63 #[.slice A n c, .slice A' n' c'] w fun x w' => x = .returned (.bool (newer l l')) ∧ Below w.heap.size w w' := by
  have hbd := hl0.bd
  have hbd' := hl1.bd
  obtain ⟨hn, -⟩ := id hl0
  obtain ⟨hn', -⟩ := id hl1
  obtain ⟨x, hx⟩ : ∃ x, lastN l = x := ⟨_, rfl⟩
  obtain ⟨y, hy⟩ : ∃ y, lastN l' = y := ⟨_, rfl⟩
  have Hn := Lib.hid (show newer l l' = (decide (y < x) || (decide (x = y) && decide (n' < n))) by unfold newer; rw [hx, hy, hn, hn'])
  have Hx := Lib.hid hx
  have Hy := Lib.hid hy
  clear hx hy hn hn'
  by_cases h1 : y < x
  · have d1 : decide (y < x) = true := decide_eq_true h1
    have Hf := Lib.hid (show newer l l' = true by rw [Hn.out, d1]; rfl)
    go_enter Try.func63, Try.ntmps63
    go_wp2_with fail
    refine (l7Last_any l x Hx.out w S (fun b hb => hS b hb) A n c hl0).mono ?_
    rintro e w1 ⟨rfl, b1⟩
    have bb1 := b1
    go_wp2_with fail
    refine (l7Last_any l' y Hy.out w1 S (fun b hb => Nat.lt_of_lt_of_le (hS b hb) bb1.size) A' n' c' (hl1.keep (fun p hp => bb1.cell (hS _ hp)))).mono ?_
    rintro e w2 ⟨rfl, b2⟩
    have bb2 := bnext bb1 b2
    go_wp2_with fail
    go_ret
    exact ⟨by rw [Hf.out]; rfl, bb2⟩
  · have d1 : decide (y < x) = false := decide_eq_false h1
    by_cases h2 : x = y
    · have d2 : (x == y) = true := by simp [h2]
      by_cases h3 : n' < n
      · have d3 : decide (n' < n) = true := decide_eq_true h3
        have Hf := Lib.hid (show newer l l' = true by rw [Hn.out, d1, d3, decide_eq_true h2]; rfl)
        clear h2
        go_enter Try.func63, Try.ntmps63
        go_wp2_with fail
        refine (l7Last_any l x Hx.out w S (fun b hb => hS b hb) A n c hl0).mono ?_
        rintro e w1 ⟨rfl, b1⟩
        have bb1 := b1
        go_wp2_with fail
        refine (l7Last_any l' y Hy.out w1 S (fun b hb => Nat.lt_of_lt_of_le (hS b hb) bb1.size) A' n' c' (hl1.keep (fun p hp => bb1.cell (hS _ hp)))).mono ?_
        rintro e w2 ⟨rfl, b2⟩
        have bb2 := bnext bb1 b2
        go_wp2_with fail
        refine (l7Last_any l x Hx.out w2 S (fun b hb => Nat.lt_of_lt_of_le (hS b hb) bb2.size) A n c (hl0.keep (fun p hp => bb2.cell (hS _ hp)))).mono ?_
        rintro e w3 ⟨rfl, b3⟩
        have bb3 := bnext bb2 b3
        go_wp2_with fail
        refine (l7Last_any l' y Hy.out w3 S (fun b hb => Nat.lt_of_lt_of_le (hS b hb) bb3.size) A' n' c' (hl1.keep (fun p hp => bb3.cell (hS _ hp)))).mono ?_
        rintro e w4 ⟨rfl, b4⟩
        have bb4 := bnext bb3 b4
        go_wp2_with fail
        go_ret
        exact ⟨by rw [Hf.out]; rfl, bb4⟩
      · have d3 : decide (n' < n) = false := decide_eq_false h3
        have Hf := Lib.hid (show newer l l' = false by rw [Hn.out, d1, d3, decide_eq_true h2]; rfl)
        clear h2
        go_enter Try.func63, Try.ntmps63
        go_wp2_with fail
        refine (l7Last_any l x Hx.out w S (fun b hb => hS b hb) A n c hl0).mono ?_
        rintro e w1 ⟨rfl, b1⟩
        have bb1 := b1
        go_wp2_with fail
        refine (l7Last_any l' y Hy.out w1 S (fun b hb => Nat.lt_of_lt_of_le (hS b hb) bb1.size) A' n' c' (hl1.keep (fun p hp => bb1.cell (hS _ hp)))).mono ?_
        rintro e w2 ⟨rfl, b2⟩
        have bb2 := bnext bb1 b2
        go_wp2_with fail
        refine (l7Last_any l x Hx.out w2 S (fun b hb => Nat.lt_of_lt_of_le (hS b hb) bb2.size) A n c (hl0.keep (fun p hp => bb2.cell (hS _ hp)))).mono ?_
        rintro e w3 ⟨rfl, b3⟩
        have bb3 := bnext bb2 b3
        go_wp2_with fail
        refine (l7Last_any l' y Hy.out w3 S (fun b hb => Nat.lt_of_lt_of_le (hS b hb) bb3.size) A' n' c' (hl1.keep (fun p hp => bb3.cell (hS _ hp)))).mono ?_
        rintro e w4 ⟨rfl, b4⟩
        have bb4 := bnext bb3 b4
        go_wp2_with fail
        go_ret
        exact ⟨by rw [Hf.out]; rfl, bb4⟩
    · have d2 : (x == y) = false := by simp [h2]
      have Hf := Lib.hid (show newer l l' = false by rw [Hn.out, d1, decide_eq_false h2]; rfl)
      clear h2
      go_enter Try.func63, Try.ntmps63
      go_wp2_with fail
      refine (l7Last_any l x Hx.out w S (fun b hb => hS b hb) A n c hl0).mono ?_
      rintro e w1 ⟨rfl, b1⟩
      have bb1 := b1
      go_wp2_with fail
      refine (l7Last_any l' y Hy.out w1 S (fun b hb => Nat.lt_of_lt_of_le (hS b hb) bb1.size) A' n' c' (hl1.keep (fun p hp => bb1.cell (hS _ hp)))).mono ?_
      rintro e w2 ⟨rfl, b2⟩
      have bb2 := bnext bb1 b2
      go_wp2_with fail
      refine (l7Last_any l x Hx.out w2 S (fun b hb => Nat.lt_of_lt_of_le (hS b hb) bb2.size) A n c (hl0.keep (fun p hp => bb2.cell (hS _ hp)))).mono ?_
      rintro e w3 ⟨rfl, b3⟩
      have bb3 := bnext bb2 b3
      go_wp2_with fail
      refine (l7Last_any l' y Hy.out w3 S (fun b hb => Nat.lt_of_lt_of_le (hS b hb) bb3.size) A' n' c' (hl1.keep (fun p hp => bb3.cell (hS _ hp)))).mono ?_
      rintro e w4 ⟨rfl, b4⟩
      have bb4 := bnext bb3 b4
      go_wp2_with fail
      go_ret
      exact ⟨by rw [Hf.out]; rfl, bb4⟩

theorem isNewer_any (l l' : List IS) (w : World) (S : Nat → Prop) (hS : ∀ b, S b → b < w.heap.size) (A A' : Option Addr) (n c n' c' : Nat) (hl0 : RepL w S l A n c) (hl1 : RepL w S l' A' n' c') :
    Calls Try.prog 62 #[.slice A n c, .slice A' n' c'] w fun x w' => x = .returned (.bool (newer l l')) ∧ Below w.heap.size w w' := by
  have hbd := hl0.bd
  have hbd' := hl1.bd
  obtain ⟨hn, -⟩ := id hl0
  obtain ⟨hn', -⟩ := id hl1
  obtain ⟨x, hx⟩ : ∃ x, lastN l = x := ⟨_, rfl⟩
  obtain ⟨y, hy⟩ : ∃ y, lastN l' = y := ⟨_, rfl⟩
  have Hn := Lib.hid (show newer l l' = (decide (y < x) || (decide (x = y) && decide (n' < n))) by unfold newer; rw [hx, hy, hn, hn'])
  have Hx := Lib.hid hx
  have Hy := Lib.hid hy
  clear hx hy hn hn'
  by_cases h1 : y < x
  · have d1 : decide (y < x) = true := decide_eq_true h1
    have Hf := Lib.hid (show newer l l' = true by rw [Hn.out, d1]; rfl)
    go_enter Try.func62, Try.ntmps62
    go_wp2_with fail
    refine (lastEpoch_any l x Hx.out w S (fun b hb => hS b hb) A n c hl0).mono ?_
    rintro e w1 ⟨rfl, b1⟩
    have bb1 := b1
    go_wp2_with fail
    refine (lastEpoch_any l' y Hy.out w1 S (fun b hb => Nat.lt_of_lt_of_le (hS b hb) bb1.size) A' n' c' (hl1.keep (fun p hp => bb1.cell (hS _ hp)))).mono ?_
    rintro e w2 ⟨rfl, b2⟩
    have bb2 := bnext bb1 b2
    go_wp2_with fail
    go_ret
    exact ⟨by rw [Hf.out]; rfl, bb2⟩
  · have d1 : decide (y < x) = false := decide_eq_false h1
    by_cases h2 : x = y
    · have d2 : (x == y) = true := by simp [h2]
      by_cases h3 : n' < n
      · have d3 : decide (n' < n) = true := decide_eq_true h3
        have Hf := Lib.hid (show newer l l' = true by rw [Hn.out, d1, d3, decide_eq_true h2]; rfl)
        clear h2
        go_enter Try.func62, Try.ntmps62
        go_wp2_with fail
        refine (lastEpoch_any l x Hx.out w S (fun b hb => hS b hb) A n c hl0).mono ?_
        rintro e w1 ⟨rfl, b1⟩
        have bb1 := b1
        go_wp2_with fail
        refine (lastEpoch_any l' y Hy.out w1 S (fun b hb => Nat.lt_of_lt_of_le (hS b hb) bb1.size) A' n' c' (hl1.keep (fun p hp => bb1.cell (hS _ hp)))).mono ?_
        rintro e w2 ⟨rfl, b2⟩
        have bb2 := bnext bb1 b2
        go_wp2_with fail
        go_ret
        exact ⟨by rw [Hf.out]; rfl, bb2⟩
      · have d3 : decide (n' < n) = false := decide_eq_false h3
        have Hf := Lib.hid (show newer l l' = false by rw [Hn.out, d1, d3, decide_eq_true h2]; rfl)
        clear h2
        go_enter Try.func62, Try.ntmps62
        go_wp2_with fail
        refine (lastEpoch_any l x Hx.out w S (fun b hb => hS b hb) A n c hl0).mono ?_
        rintro e w1 ⟨rfl, b1⟩
        have bb1 := b1
        go_wp2_with fail
        refine (lastEpoch_any l' y Hy.out w1 S (fun b hb => Nat.lt_of_lt_of_le (hS b hb) bb1.size) A' n' c' (hl1.keep (fun p hp => bb1.cell (hS _ hp)))).mono ?_
        rintro e w2 ⟨rfl, b2⟩
        have bb2 := bnext bb1 b2
        go_wp2_with fail
        go_ret
        exact ⟨by rw [Hf.out]; rfl, bb2⟩
    · have d2 : (x == y) = false := by simp [h2]
      have Hf := Lib.hid (show newer l l' = false by rw [Hn.out, d1, decide_eq_false h2]; rfl)
      clear h2
      go_enter Try.func62, Try.ntmps62
      go_wp2_with fail
      refine (lastEpoch_any l x Hx.out w S (fun b hb => hS b hb) A n c hl0).mono ?_
      rintro e w1 ⟨rfl, b1⟩
      have bb1 := b1
      go_wp2_with fail
      refine (lastEpoch_any l' y Hy.out w1 S (fun b hb => Nat.lt_of_lt_of_le (hS b hb) bb1.size) A' n' c' (hl1.keep (fun p hp => bb1.cell (hS _ hp)))).mono ?_
      rintro e w2 ⟨rfl, b2⟩
      have bb2 := bnext bb1 b2
      go_wp2_with fail
      go_ret
      exact ⟨by rw [Hf.out]; rfl, bb2⟩

theorem spec_IsNewer_any (l l' : List IS) (w : World) (S : Nat → Prop) (hS : ∀ b, S b → b < w.heap.size) (A A' : Option Addr) (n c n' c' : Nat) (hl0 : RepL w S l A n c) (hl1 : RepL w S l' A' n' c') :
    Calls Try.prog 31 #[.slice A n c, .slice A' n' c'] w fun x w' => x = .returned (.tuple #[.bool ((goodEn l && goodEn l') && newer l l'), .bool (goodEn l && goodEn l')]) ∧ Below w.heap.size w w' := by
  have C1 := Lib.hid (l7Both_any l l' w S hS A A' n c n' c' hl0 hl1)
  obtain ⟨r, hr⟩ : ∃ r, (goodEn l && goodEn l') = r := ⟨_, rfl⟩
  rw [hr] at C1 ⊢
  clear hr
  cases r with
  | true =>
    rw [Bool.true_and]
    go_enter Try.func31, Try.ntmps31
    go_wp2_with fail
    refine C1.out.mono ?_
    rintro e w1 ⟨rfl, b1⟩
    go_wp2_with fail
    refine (l7Newer_any l l' w1 S (fun b hb => Nat.lt_of_lt_of_le (hS b hb) b1.size) A A' n c n' c' (hl0.keep (fun p hp => b1.cell (hS _ hp))) (hl1.keep (fun p hp => b1.cell (hS _ hp)))).mono ?_
    rintro e w2 ⟨rfl, b2⟩
    go_wp2_with fail
    go_ret2
    exact ⟨rfl, bnext b1 b2⟩
  | false =>
    rw [Bool.false_and]
    go_enter Try.func31, Try.ntmps31
    go_wp2_with fail
    refine C1.out.mono ?_
    rintro e w1 ⟨rfl, b1⟩
    go_wp2_with fail
    go_ret2
    exact ⟨rfl, b1⟩

theorem impl_IsNewer_any (l l' : List IS) (w : World) (S : Nat → Prop) (hS : ∀ b, S b → b < w.heap.size) (A A' : Option Addr) (n c n' c' : Nat) (hl0 : RepL w S l A n c) (hl1 : RepL w S l' A' n' c') :
    Calls Try.prog 30 #[.slice A n c, .slice A' n' c'] w fun x w' => x = .returned (.tuple #[.bool ((goodEn l && goodEn l') && newer l l'), .bool (goodEn l && goodEn l')]) ∧ Below w.heap.size w w' := by
  have C1 := Lib.hid (areEntries_any l w S hS A n c hl0)
  obtain ⟨r, hr⟩ : ∃ r, goodEn l = r := ⟨_, rfl⟩
  obtain ⟨q, hq⟩ : ∃ q, goodEn l' = q := ⟨_, rfl⟩
  rw [hr] at C1 ⊢
  rw [hq]
  have Hq := Lib.hid hq
  clear hr hq
  cases r with
  | true =>
    cases q with
    | true =>
      rw [Bool.true_and, Bool.true_and]
      go_enter Try.func30, Try.ntmps30
      go_wp2_with fail
      refine C1.out.mono ?_
      rintro e w1 ⟨rfl, b1⟩
      have h1 := hl1.keep (w' := w1) (fun p hp => b1.cell (hS _ hp))
      go_wp2_with fail
      refine (areEntries_any l' w1 S (fun b hb => Nat.lt_of_lt_of_le (hS b hb) b1.size) A' n' c' h1).mono ?_
      rintro e w2 ⟨rfl, b2⟩
      rw [Hq.out]
      have b12 := bnext b1 b2
      go_wp2_with fail
      refine (isNewer_any l l' w2 S (fun b hb => Nat.lt_of_lt_of_le (hS b hb) b12.size) A A' n c n' c' (hl0.keep (fun p hp => b12.cell (hS _ hp))) (hl1.keep (fun p hp => b12.cell (hS _ hp)))).mono ?_
      rintro e w3 ⟨rfl, b3⟩
      go_wp2_with fail
      go_ret2
      exact ⟨rfl, bnext b12 b3⟩
    | false =>
      rw [Bool.and_false, Bool.false_and]
      go_enter Try.func30, Try.ntmps30
      go_wp2_with fail
      refine C1.out.mono ?_
      rintro e w1 ⟨rfl, b1⟩
      have h1 := hl1.keep (w' := w1) (fun p hp => b1.cell (hS _ hp))
      go_wp2_with fail
      refine (areEntries_any l' w1 S (fun b hb => Nat.lt_of_lt_of_le (hS b hb) b1.size) A' n' c' h1).mono ?_
      rintro e w2 ⟨rfl, b2⟩
      rw [Hq.out]
      go_wp2_with fail
      go_ret2
      exact ⟨rfl, bnext b1 b2⟩
  | false =>
    rw [Bool.false_and, Bool.false_and]
    go_enter Try.func30, Try.ntmps30
    go_wp2_with fail
    refine C1.out.mono ?_
    rintro e w1 ⟨rfl, b1⟩
    go_wp2_with fail
    go_ret2
    exact ⟨rfl, b1⟩

end Go.Proofs.Ytgcliipdkoefaaa

/-
  The plain law of starts; starts that a call has made.
-/
namespace Go.Proofs.Ytgcliipdkoefaaa
open Go.ChangeShapes Go.WideShapes Go.ChangeAt Go.RowKit Go.BigFrame
set_option linter.unusedVariables false

theorem infoStart : (Try.prog.info? 55).map (fun i => (i.zero, i.size, i.bytes)) = some (some (.agg #[.int .i64 0, .int .i64 0]), 2, 16) := by kernel_rfl
/-- Entry k begins an epoch. -/
def isStart (l : List IS) (k : Nat) : Bool := match l[k]? with | some e => k == 0 || (l[k - 1]?.map IS.n) != some e.n | none => false
/-- The starts among the first k entries. -/
def startsTo (l : List IS) : Nat → List P2
  | 0 => []
  | k + 1 => if isStart l k then startsTo l k ++ [⟨(l[k]?.map IS.n).getD 0, k⟩] else startsTo l k
theorem startsTo_len (l : List IS) (k : Nat) : (startsTo l k).length ≤ k := by
  induction k with
  | zero => exact Nat.le_refl _
  | succ k ih =>
    show (if isStart l k then _ else _ : List P2).length ≤ _
    split
    · rw [List.length_append]; show _ + 1 ≤ _; omega
    · omega
theorem startsTo_no {l : List IS} {k : Nat} (h : isStart l k = false) : startsTo l (k + 1) = startsTo l k := by
  show (if isStart l k then _ else _) = _
  rw [h]; rfl
theorem startsTo_yes {l : List IS} {k : Nat} {x : Int} {s : ByteArray} (he : l[k]? = some ⟨x, s⟩) (h : isStart l k = true) : startsTo l (k + 1) = startsTo l k ++ [⟨x, k⟩] := by
  show (if isStart l k then _ else _) = _
  rw [h, he]; rfl
theorem isStart_0 {l : List IS} {k : Nat} {e : IS} (he : l[k]? = some e) (h : k = 0) : isStart l k = true := by
  unfold isStart; rw [he]; simp [h]
theorem isStart_eq {l : List IS} {k : Nat} {x y : Int} {s t : ByteArray} {r : Bool} (he : l[k]? = some ⟨x, s⟩) (h : k ≠ 0) (hp : l[k - 1]? = some ⟨y, t⟩) (hr : (y != x) = r) : isStart l k = r := by
  unfold isStart
  rw [he, hp]
  have h0 : (k == 0) = false := by simpa using h
  show (k == 0 || (some y != some x)) = r
  rw [h0, ← hr]
  by_cases e : y = x
  · rw [e]; simp
  · have h1 : (y != x) = true := by simpa using e
    have h2 : (some y != some x) = true := by simpa using e
    rw [h1, h2]; rfl
theorem startsTo_ok {l : List IS} (hl : ∀ e ∈ l, (Flat.ok e : Prop)) (k : Nat) (hk : k ≤ 1000000) : ∀ x ∈ startsTo l k, (Flat.ok x : Prop) := by
  induction k with
  | zero => intro x hx; cases hx
  | succ k ih =>
    intro x hx
    unfold startsTo at hx
    split at hx
    · simp only [List.mem_append, List.mem_singleton] at hx
      rcases hx with hx | rfl
      · exact ih (by omega) x hx
      · cases he : l[k]? with
        | none => exact ⟨⟨by show (-9223372036854775808 : Int) ≤ 0; decide, by show (0 : Int) ≤ 9223372036854775807; decide⟩, ⟨by show _ ≤ ((k : Nat) : Int); omega, by show ((k : Nat) : Int) ≤ _; omega⟩⟩
        | some e => exact ⟨(hl e (List.mem_of_getElem? he)).1, ⟨by show _ ≤ ((k : Nat) : Int); omega, by show ((k : Nat) : Int) ≤ _; omega⟩⟩
    · exact ih (by omega) x hx
theorem news_two {w : World} {x y : Value} {e : TypeId} {g : Nat} (hg : g = w.heap.size) : ∀ j u, [x, y][j]? = some u → (w.alloc (.cells #[x, y] e)).cell? ((⟨g, 0, none⟩ : Addr).add j) = some u := by
  subst hg
  intro j u hj
  match j, hj with
  | 0, hj => simp at hj; subst hj; simp [Addr.add]
  | 1, hj => simp at hj; subst hj; simp [Addr.add]
/-- Starts that the call has made. -/
def MadeS (w w' : World) (T : TypeId) (l : List P2) (A : Option Addr) (n c : Nat) : Prop :=
  w'.ownsRow w.heap.size T 2 (.slice A n c) n (encs l) ∧ RepL w' (fun b => w.heap.size ≤ b ∧ b < w'.heap.size) l A n c
theorem MadeS.from_ {w w0 w' : World} {T : TypeId} {l : List P2} {A : Option Addr} {n c : Nat} (h : MadeS w w' T l A n c) (hs : w0.heap.size ≤ w.heap.size) : MadeS w0 w' T l A n c :=
  ⟨⟨h.1.1, h.1.2.imp id fun ⟨g, cap, cur, e1, e2, e3⟩ => ⟨g, cap, cur, e1, Nat.le_trans hs e2, e3⟩⟩, h.2.more fun b hb => ⟨Nat.le_trans hs hb.1, hb.2⟩⟩
theorem MadeS.nil_ (w w' : World) (T : TypeId) : MadeS w w' T [] none 0 0 :=
  ⟨World.ownsRow_nil _ _ _ _, RepL.of_own' (e := T) (base := w.heap.size) (s := 2) rfl rfl (World.ownsRow_nil _ _ _ _) (fun a ha => by cases ha)⟩

end Go.Proofs.Ytgcliipdkoefaaa

/-
  append onto a row of the call's own, the source nil, empty or not; grow a nil slice.
-/
namespace Go.Proofs.Ytgcliipdkoefaaa
open Go.ChangeShapes Go.WideShapes Go.ChangeAt Go.RowKit Go.BigFrame
set_option linter.unusedVariables false

section
variable {P : Program} (w : World)
theorem run_append_nil0 (base : Nat) (t ty e : TypeId) (i : TypeInfo) (size : Nat) (ht : P.underlying t = some (.slice e)) (hi : P.info? e = some i)
    (v : Value) (n : Nat) (xs : List Value) (hown : w.ownsRow base e size v n xs) (c : Nat) : (Builtin.append_ #[t, t] ty #[v, .slice none 0 c]).run P w = .ok v w := by
  rcases hown.2 with ⟨rfl, rfl⟩ | ⟨g, cap, cur, rfl, _, _, hnc, _⟩
  · simp [Builtin.append_, run_underlying ht, sizeOf, typeInfo, hi, Builtin.lenOf, Builtin.firstCells]
  · simp [Builtin.append_, run_underlying ht, sizeOf, typeInfo, hi, Builtin.lenOf, Builtin.firstCells, hnc, storeCells]

theorem run_append_rep (base : Nat) (t ty e : TypeId) (i : TypeInfo) (z : Value) (size bytes : Nat) (ht : P.underlying t = some (.slice e)) (hi : P.info? e = some i) (hz : i.zero = some z)
    (hsize : i.size = size) (hby : i.bytes = bytes) (hzs : z.cells.size = size) (hsz : 0 < size)
    (v : Value) (n : Nat) (xs : List Value) (hown : w.ownsRow base e size v n xs)
    (A : Option Addr) (m c : Nat) (news : List Value) (hl : news.length = m * size) (hnone : A = none → m = 0) (hcells : ∀ ad, A = some ad → ∀ j u, news[j]? = some u → w.cell? (ad.add j) = some u) (h1 : ∀ u ∈ news, u.oneCell' = true)
    (h63 : n + m ≤ maxLen) (hbytes : (n + m) * bytes ≤ 140737488355328) (hbase : base ≤ w.heap.size) :
    ∃ v' w', (Builtin.append_ #[t, t] ty #[v, .slice A m c]).run P w = .ok v' w' ∧ w'.ownsRow base e size v' (n + m) (xs ++ news) ∧ w.grownBy w' v.ownBlock ∧
      (v'.ownBlock = v.ownBlock ∨ v'.ownBlock = some w.heap.size) := by
  cases A with
  | none =>
    obtain rfl := hnone rfl
    have hn : news = [] := List.eq_nil_of_length_eq_zero (by simpa using hl)
    subst hn
    exact ⟨v, w, run_append_nil0 w base t ty e i size ht hi v n xs hown c, by simpa using hown, World.grownBy.refl w _, .inl rfl⟩
  | some ad =>
    obtain ⟨v', w', hrun, h2, h3, _, h5⟩ := run_append_own_at (P := P) w base t ty e i z size bytes ht hi hz hsize hby hzs hsz v n xs hown ad m c news hl (hcells ad rfl) h1 h63 hbytes hbase
    exact ⟨v', w', hrun, h2, h3, h5⟩

/-- 'append(v, x...)' in a plain region. -/
theorem wpList_append_rep {ops : Array Oper} {rest : List Oper} {o : Oper} {a : Act} {Q : Exit → Act → World → Prop} (hgd : o.guard = none) (s x : Operand) (t : TypeId)
    (ho : o.op = .call { callee := .builtin .append, args := #[s, x], argTypes := #[t, t] })
    (base : Nat) (e : TypeId) (i : TypeInfo) (z : Value) (size bytes : Nat) (ht : P.underlying t = some (.slice e)) (hi : P.info? e = some i) (hz : i.zero = some z)
    (hsize : i.size = size) (hby : i.bytes = bytes) (hzs : z.cells.size = size) (hsz : 0 < size)
    (v : Value) (n : Nat) (xs : List Value) (hs : a.eval s = v) (hown : w.ownsRow base e size v n xs)
    (A : Option Addr) (m c : Nat) (news : List Value) (hx : a.eval x = .slice A m c) (hl : news.length = m * size) (hnone : A = none → m = 0) (hcells : ∀ ad, A = some ad → ∀ j u, news[j]? = some u → w.cell? (ad.add j) = some u) (h1 : ∀ u ∈ news, u.oneCell' = true)
    (h63 : n + m ≤ maxLen) (hbytes : (n + m) * bytes ≤ 140737488355328) (hbase : base ≤ w.heap.size)
    (h : ∀ v' w', w'.ownsRow base e size v' (n + m) (xs ++ news) → w.grownBy w' v.ownBlock → (v'.ownBlock = v.ownBlock ∨ v'.ownBlock = some w.heap.size) → wpList P ops Q rest (a.put o.dst v') w') : wpList P ops Q (o :: rest) a w := by
  obtain ⟨v', w', hrun, h2, h3, h4⟩ := run_append_rep (P := P) w base t o.type e i z size bytes ht hi hz hsize hby hzs hsz v n xs hown A m c news hl hnone hcells h1 h63 hbytes hbase
  exact Lib.wpList_append_run w hgd s x t t ho v (.slice A m c) hs hx v' w' hrun (h v' w' h2 h3 h4)

/-- .. and the source reads as a list of flat values. -/
theorem wpList_append_list {α : Type} [Flat α] {ops : Array Oper} {rest : List Oper} {o : Oper} {a : Act} {Q : Exit → Act → World → Prop} (hgd : o.guard = none) (s x : Operand) (t : TypeId)
    (ho : o.op = .call { callee := .builtin .append, args := #[s, x], argTypes := #[t, t] })
    (base : Nat) (e : TypeId) (i : TypeInfo) (z : Value) (size bytes : Nat) (ht : P.underlying t = some (.slice e)) (hi : P.info? e = some i) (hz : i.zero = some z)
    (hsize : i.size = size) (hby : i.bytes = bytes) (hzs : z.cells.size = size) (hsz : 0 < size) (hfs : size = Flat.size α)
    (v : Value) (l : List α) (k : Nat) (hs : a.eval s = v) (hown : w.ownsRow base e size v k (encs l))
    (S : Nat → Prop) (A : Option Addr) (m c : Nat) (l' : List α) (hx : a.eval x = .slice A m c) (hr : RepL w S l' A m c)
    (hsm : k + m ≤ 1000000000) (hbm : bytes ≤ 100000) (hbase : base ≤ w.heap.size)
    (h : ∀ v' w', w'.ownsRow base e size v' (k + m) (encs (l ++ l')) → w.grownBy w' v.ownBlock → (v'.ownBlock = v.ownBlock ∨ v'.ownBlock = some w.heap.size) → wpList P ops Q rest (a.put o.dst v') w') : wpList P ops Q (o :: rest) a w :=
  wpList_append_rep w hgd s x t ho base e i z size bytes ht hi hz hsize hby hzs hsz v k (encs l) hs hown A m c (encs l') hx (by rw [encs_len, hfs, hr.1])
    (fun e => by subst e; exact hr.none_.1) (fun ad e => by subst e; exact hr.cells) (encs_one l') (by unfold maxLen; omega)
    (Nat.le_trans (Nat.mul_le_mul hsm hbm) (by omega)) hbase (fun v' w' h2 h3 h4 => h v' w' (by rw [encs_append]; exact h2) h3 h4)
end
theorem own_base {w w' : World} {base : Nat} {e : TypeId} {s n : Nat} {v : Value} {xs : List Value} {B : Nat} {a : World} (h : w.ownsRow base e s v n xs) (hb : Below B a w) (hB : B ≤ base) (hg : w.grownBy w' v.ownBlock) (hsz : B ≤ w.heap.size) : Below B a w' :=
  hb.grown hg hsz (fun k hk => Nat.le_trans hB (h.lt k hk).1)
end Go.Proofs.Ytgcliipdkoefaaa

/-
  Contracts: l7Starts of the reference, startsOf of the program.
-/
namespace Go.Proofs.Ytgcliipdkoefaaa
open Go.ChangeShapes Go.WideShapes Go.ChangeAt Go.RowKit Go.BigFrame
set_option linter.unusedVariables false

set_option maxHeartbeats 4000000

theorem l7Starts_any (l : List IS) (hlen : l.length ≤ 40) (w : World) (S : Nat → Prop) (hS : ∀ b, S b → b < w.heap.size) (A : Option Addr) (n c : Nat) (hl0 : RepL w S l A n c) :
    Calls Try.prog 49 #[.slice A n c] w fun x w' => ∃ A2 m c2, x = .returned (.slice A2 m c2) ∧ m ≤ 40 ∧ MadeS w w' 55 (startsTo l l.length) A2 m c2 ∧ Below w.heap.size w w' := by
  obtain ⟨i0, hi, hz0, hz1, hz2⟩ := info_parts infoStart
  have hbd := hl0.bd
  obtain ⟨hn, -⟩ := id hl0
  have Hn := Lib.hid hn
  have hn40 : n ≤ 40 := by omega
  clear hn
  go_enter Try.func49, Try.ntmps49
  go_wp2_with fail
  go_loopw [3, 8] (fun o i wr => ∃ (k m : Nat), k ≤ n ∧ i = .int .i64 k ∧ m = (startsTo l k).length ∧ wr.ownsRow w.heap.size 55 2 o m (encs (startsTo l k)) ∧ Below w.heap.size w wr) (fun _ i _ => n - (intOf i).toNat)
  case atStart => exact ⟨0, 0, Nat.zero_le _, rfl, rfl, World.ownsRow_nil _ _ _ _, Below.refl _ _⟩
  case round =>
    obtain ⟨k, m, hk, rfl, hm, hout, hbel⟩ := hrel
    obtain ⟨A2, c2, rfl⟩ := own_slice hout
    have hmk : m ≤ k := by rw [hm]; exact startsTo_len l k
    have Hm := Lib.hid hm
    clear hm
    by_cases hlt : k < n
    · have hl1 : k < l.length := by have := Hn.out; omega
      obtain ⟨b, off, xs, rfl, hSb, hc, rfl, hi1, hi2⟩ := hl0.at_ hl1
      have hc0 := hc 0 _ rfl
      have hc1 := hc 1 _ rfl
      clear hc
      generalize hek : l[k] = ek at hc0 hc1 hi1 hi2
      obtain ⟨x, s⟩ := ek
      have Hek := Lib.hid (show l[k]? = some ⟨x, s⟩ by rw [List.getElem?_eq_getElem hl1, hek])
      have hc0' : wr.cell? ⟨b, off + k * 2, none⟩ = some (.int .i64 x) := (hbel.cell (hS _ hSb)).trans hc0
      have hc1' : wr.cell? ⟨b, off + k * 2 + 1, none⟩ = some (.string s) := (hbel.cell (hS _ hSb)).trans hc1
      have hI : (k : Int) < (n : Int) := by omega
      have hI0 : (0 : Int) ≤ (k : Int) := by omega
      obtain ⟨W, hW⟩ : ∃ W, W = wr.alloc (.cells #[.int .i64 x, .string s] 52) := ⟨_, rfl⟩
      have hbW : Below w.heap.size w W := by subst hW; exact hbel.alloc hbel.size _
      have hoW : W.ownsRow w.heap.size 55 2 (.slice A2 m c2) m (encs (startsTo l k)) := by subst hW; exact hout.alloc _
      have e0 : ∀ p : Aft W, p.world.cell? ⟨wr.heap.size, 0, none⟩ = some (.int .i64 x) := Aft.cell (by subst hW; simp)
      have HW := Lib.hid hW
      clear hW hc0 hc1 hek hi1 hi2
      go_wp2_with fail
      rw [← HW.out]
      by_cases hz : k = 0
      · have d0 : ((k : Int) == 0) = true := by simp [hz]
        have Hz := Lib.hid hz
        clear hz
        refine wp_region_aft (by kernel_rfl) (by kernel_rfl) ?_
        repeat (go_big_quiet_step (fail))
        refine wpQuiet_nil ?_
        rintro _ ⟨p, rfl⟩
        have hb2 : Below w.heap.size w p.world := hbW.trans (p.below.mono hbW.size)
        have HU := Lib.hid (own_below hoW p.below)
        have x0 := e0 p
        go_wp2_with (at_builtin; refine wpList_append_own _ rfl (.tmp 26) (.tmp 31) _ rfl w.heap.size 55 i0 (.agg #[.int .i64 0, .int .i64 0]) 2 16 Try.underlying30 hi hz0 hz1 hz2 rfl (by decide) _ _ _ rfl (HU.out.alloc _) ⟨p.world.heap.size, 0, none⟩ 1 1 [.int .i64 x, .int .i64 k] rfl rfl (news_two rfl) (by intro u' hu'; simp at hu'; rcases hu' with rfl | rfl <;> rfl) (by unfold maxLen; omega) (by omega) (by have := hb2.size; simp; omega) ?_; intro v1 w3 hown1 hg1 hat1)
        go_roundw
        case rel =>
          refine ⟨k + 1, m + 1, by omega, by go_num, by rw [startsTo_yes Hek.out (isStart_0 Hek.out Hz.out)]; simp [Hm.out], ?_, ?_⟩
          · rw [startsTo_yes Hek.out (isStart_0 Hek.out Hz.out), encs_append]; exact hown1
          · exact own_base (HU.out.alloc _) (hb2.alloc hb2.size _) (Nat.le_refl _) hg1 (by have := hb2.size; simp; omega)
        case measure => simp [intOf]; omega
      · obtain ⟨j, hj⟩ : ∃ j, k = j + 1 := ⟨k - 1, by omega⟩
        have d0 : ((k : Int) == 0) = false := by simp [hz]
        have hl2 : j < l.length := by omega
        obtain ⟨b', off', xs', e, hSb', hc, rfl, hj1, hj2⟩ := hl0.at_ hl2
        obtain ⟨rfl, rfl⟩ : b = b' ∧ off = off' := by simpa using e
        generalize hej : l[j] = ej at hc
        obtain ⟨y, t⟩ := ej
        have e2 : ∀ p : Aft W, p.world.cell? ⟨b, off + j * 2, none⟩ = some (.int .i64 y) := Aft.cell ((hbW.cell (hS _ hSb)).trans (hc 0 _ rfl))
        have Hj := Lib.hid (show l[k - 1]? = some ⟨y, t⟩ by rw [hj, ← hej]; exact List.getElem?_eq_getElem hl2)
        have hsub : IntKind.i64.wrap ((k : Int) - 1) = (j : Int) := by rw [IntKind.wrap_i64]; omega
        have hsub0 : (0 : Int) ≤ (j : Int) := by omega
        have hsub1 : (j : Int) < (n : Int) := by omega
        have Hz := Lib.hid hz
        clear hc e hj1 hj2 hj hz hej
        by_cases hD : y = x
        · have dD : ((y : Int) != x) = false := by simpa using hD
          have HD := Lib.hid dD
          clear hD
          refine wp_region_aft (by kernel_rfl) (by kernel_rfl) ?_
          repeat (go_big_quiet_step (fail))
          refine wpQuiet_nil ?_
          rintro _ ⟨p, rfl⟩
          have hb2 : Below w.heap.size w p.world := hbW.trans (p.below.mono hbW.size)
          have HU := Lib.hid (own_below hoW p.below)
          have x0 := e0 p
          go_wp2_with fail
          go_roundw
          case rel => exact ⟨k + 1, m, by omega, by go_num, by rw [startsTo_no (isStart_eq Hek.out Hz.out Hj.out HD.out)]; exact Hm.out, by rw [startsTo_no (isStart_eq Hek.out Hz.out Hj.out HD.out)]; exact HU.out, hb2⟩
          case measure => simp [intOf]; omega
        · have dD : ((y : Int) != x) = true := by simpa using hD
          have HD := Lib.hid dD
          clear hD
          refine wp_region_aft (by kernel_rfl) (by kernel_rfl) ?_
          repeat (go_big_quiet_step (fail))
          refine wpQuiet_nil ?_
          rintro _ ⟨p, rfl⟩
          have hb2 : Below w.heap.size w p.world := hbW.trans (p.below.mono hbW.size)
          have HU := Lib.hid (own_below hoW p.below)
          have x0 := e0 p
          go_wp2_with (at_builtin; refine wpList_append_own _ rfl (.tmp 26) (.tmp 31) _ rfl w.heap.size 55 i0 (.agg #[.int .i64 0, .int .i64 0]) 2 16 Try.underlying30 hi hz0 hz1 hz2 rfl (by decide) _ _ _ rfl (HU.out.alloc _) ⟨p.world.heap.size, 0, none⟩ 1 1 [.int .i64 x, .int .i64 k] rfl rfl (news_two rfl) (by intro u' hu'; simp at hu'; rcases hu' with rfl | rfl <;> rfl) (by unfold maxLen; omega) (by omega) (by have := hb2.size; simp; omega) ?_; intro v1 w3 hown1 hg1 hat1)
          go_roundw
          case rel =>
            refine ⟨k + 1, m + 1, by omega, by go_num, by rw [startsTo_yes Hek.out (isStart_eq Hek.out Hz.out Hj.out HD.out)]; simp [Hm.out], ?_, ?_⟩
            · rw [startsTo_yes Hek.out (isStart_eq Hek.out Hz.out Hj.out HD.out), encs_append]; exact hown1
            · exact own_base (HU.out.alloc _) (hb2.alloc hb2.size _) (Nat.le_refl _) hg1 (by have := hb2.size; simp; omega)
          case measure => simp [intOf]; omega
    · obtain rfl : k = n := by omega
      go_wp2_with fail
      go_ret
      have e := Hn.out
      rw [← e]
      refine ⟨A2, m, c2, rfl, by omega, ⟨hout, RepL.of_own' rfl Hm.out hout (startsTo_ok hl0.ok _ (by omega))⟩, hbel⟩

theorem startsOf_any (l : List IS) (hlen : l.length ≤ 40) (w : World) (S : Nat → Prop) (hS : ∀ b, S b → b < w.heap.size) (A : Option Addr) (n c : Nat) (hl0 : RepL w S l A n c) :
    Calls Try.prog 50 #[.slice A n c] w fun x w' => ∃ A2 m c2, x = .returned (.slice A2 m c2) ∧ m ≤ 40 ∧ MadeS w w' 55 (startsTo l l.length) A2 m c2 ∧ Below w.heap.size w w' := by
  obtain ⟨i0, hi, hz0, hz1, hz2⟩ := info_parts infoStart
  have hbd := hl0.bd
  obtain ⟨hn, -⟩ := id hl0
  have Hn := Lib.hid hn
  have hn40 : n ≤ 40 := by omega
  clear hn
  go_enter Try.func50, Try.ntmps50
  go_wp2_with fail
  go_loopw [3, 8] (fun o i wr => ∃ (k m : Nat), k ≤ n ∧ i = .int .i64 k ∧ m = (startsTo l k).length ∧ wr.ownsRow w.heap.size 55 2 o m (encs (startsTo l k)) ∧ Below w.heap.size w wr) (fun _ i _ => n - (intOf i).toNat)
  case atStart => exact ⟨0, 0, Nat.zero_le _, rfl, rfl, World.ownsRow_nil _ _ _ _, Below.refl _ _⟩
  case round =>
    obtain ⟨k, m, hk, rfl, hm, hout, hbel⟩ := hrel
    obtain ⟨A2, c2, rfl⟩ := own_slice hout
    have hmk : m ≤ k := by rw [hm]; exact startsTo_len l k
    have Hm := Lib.hid hm
    clear hm
    by_cases hlt : k < n
    · have hl1 : k < l.length := by have := Hn.out; omega
      obtain ⟨b, off, xs, rfl, hSb, hc, rfl, hi1, hi2⟩ := hl0.at_ hl1
      have hc0 := hc 0 _ rfl
      have hc1 := hc 1 _ rfl
      clear hc
      generalize hek : l[k] = ek at hc0 hc1 hi1 hi2
      obtain ⟨x, s⟩ := ek
      have Hek := Lib.hid (show l[k]? = some ⟨x, s⟩ by rw [List.getElem?_eq_getElem hl1, hek])
      have hc0' : wr.cell? ⟨b, off + k * 2, none⟩ = some (.int .i64 x) := (hbel.cell (hS _ hSb)).trans hc0
      have hc1' : wr.cell? ⟨b, off + k * 2 + 1, none⟩ = some (.string s) := (hbel.cell (hS _ hSb)).trans hc1
      have hI : (k : Int) < (n : Int) := by omega
      have hI0 : (0 : Int) ≤ (k : Int) := by omega
      obtain ⟨W, hW⟩ : ∃ W, W = wr.alloc (.cells #[.int .i64 x, .string s] 52) := ⟨_, rfl⟩
      have hbW : Below w.heap.size w W := by subst hW; exact hbel.alloc hbel.size _
      have hoW : W.ownsRow w.heap.size 55 2 (.slice A2 m c2) m (encs (startsTo l k)) := by subst hW; exact hout.alloc _
      have e0 : ∀ p : Aft W, p.world.cell? ⟨wr.heap.size, 0, none⟩ = some (.int .i64 x) := Aft.cell (by subst hW; simp)
      have HW := Lib.hid hW
      clear hW hc0 hc1 hek hi1 hi2
      go_wp2_with fail
      rw [← HW.out]
      by_cases hz : k = 0
      · have d0 : ((k : Int) == 0) = true := by simp [hz]
        have Hz := Lib.hid hz
        clear hz
        refine wp_region_aft (by kernel_rfl) (by kernel_rfl) ?_
        repeat (go_big_quiet_step (fail))
        refine wpQuiet_nil ?_
        rintro _ ⟨p, rfl⟩
        have hb2 : Below w.heap.size w p.world := hbW.trans (p.below.mono hbW.size)
        have HU := Lib.hid (own_below hoW p.below)
        have x0 := e0 p
        go_wp2_with (at_builtin; refine wpList_append_own _ rfl (.tmp 26) (.tmp 31) _ rfl w.heap.size 55 i0 (.agg #[.int .i64 0, .int .i64 0]) 2 16 Try.underlying30 hi hz0 hz1 hz2 rfl (by decide) _ _ _ rfl (HU.out.alloc _) ⟨p.world.heap.size, 0, none⟩ 1 1 [.int .i64 x, .int .i64 k] rfl rfl (news_two rfl) (by intro u' hu'; simp at hu'; rcases hu' with rfl | rfl <;> rfl) (by unfold maxLen; omega) (by omega) (by have := hb2.size; simp; omega) ?_; intro v1 w3 hown1 hg1 hat1)
        go_roundw
        case rel =>
          refine ⟨k + 1, m + 1, by omega, by go_num, by rw [startsTo_yes Hek.out (isStart_0 Hek.out Hz.out)]; simp [Hm.out], ?_, ?_⟩
          · rw [startsTo_yes Hek.out (isStart_0 Hek.out Hz.out), encs_append]; exact hown1
          · exact own_base (HU.out.alloc _) (hb2.alloc hb2.size _) (Nat.le_refl _) hg1 (by have := hb2.size; simp; omega)
        case measure => simp [intOf]; omega
      · obtain ⟨j, hj⟩ : ∃ j, k = j + 1 := ⟨k - 1, by omega⟩
        have d0 : ((k : Int) == 0) = false := by simp [hz]
        have hl2 : j < l.length := by omega
        obtain ⟨b', off', xs', e, hSb', hc, rfl, hj1, hj2⟩ := hl0.at_ hl2
        obtain ⟨rfl, rfl⟩ : b = b' ∧ off = off' := by simpa using e
        generalize hej : l[j] = ej at hc
        obtain ⟨y, t⟩ := ej
        have e2 : ∀ p : Aft W, p.world.cell? ⟨b, off + j * 2, none⟩ = some (.int .i64 y) := Aft.cell ((hbW.cell (hS _ hSb)).trans (hc 0 _ rfl))
        have Hj := Lib.hid (show l[k - 1]? = some ⟨y, t⟩ by rw [hj, ← hej]; exact List.getElem?_eq_getElem hl2)
        have hsub : IntKind.i64.wrap ((k : Int) - 1) = (j : Int) := by rw [IntKind.wrap_i64]; omega
        have hsub0 : (0 : Int) ≤ (j : Int) := by omega
        have hsub1 : (j : Int) < (n : Int) := by omega
        have Hz := Lib.hid hz
        clear hc e hj1 hj2 hj hz hej
        by_cases hD : y = x
        · have dD : ((y : Int) != x) = false := by simpa using hD
          have HD := Lib.hid dD
          clear hD
          refine wp_region_aft (by kernel_rfl) (by kernel_rfl) ?_
          repeat (go_big_quiet_step (fail))
          refine wpQuiet_nil ?_
          rintro _ ⟨p, rfl⟩
          have hb2 : Below w.heap.size w p.world := hbW.trans (p.below.mono hbW.size)
          have HU := Lib.hid (own_below hoW p.below)
          have x0 := e0 p
          go_wp2_with fail
          go_roundw
          case rel => exact ⟨k + 1, m, by omega, by go_num, by rw [startsTo_no (isStart_eq Hek.out Hz.out Hj.out HD.out)]; exact Hm.out, by rw [startsTo_no (isStart_eq Hek.out Hz.out Hj.out HD.out)]; exact HU.out, hb2⟩
          case measure => simp [intOf]; omega
        · have dD : ((y : Int) != x) = true := by simpa using hD
          have HD := Lib.hid dD
          clear hD
          refine wp_region_aft (by kernel_rfl) (by kernel_rfl) ?_
          repeat (go_big_quiet_step (fail))
          refine wpQuiet_nil ?_
          rintro _ ⟨p, rfl⟩
          have hb2 : Below w.heap.size w p.world := hbW.trans (p.below.mono hbW.size)
          have HU := Lib.hid (own_below hoW p.below)
          have x0 := e0 p
          go_wp2_with (at_builtin; refine wpList_append_own _ rfl (.tmp 26) (.tmp 31) _ rfl w.heap.size 55 i0 (.agg #[.int .i64 0, .int .i64 0]) 2 16 Try.underlying30 hi hz0 hz1 hz2 rfl (by decide) _ _ _ rfl (HU.out.alloc _) ⟨p.world.heap.size, 0, none⟩ 1 1 [.int .i64 x, .int .i64 k] rfl rfl (news_two rfl) (by intro u' hu'; simp at hu'; rcases hu' with rfl | rfl <;> rfl) (by unfold maxLen; omega) (by omega) (by have := hb2.size; simp; omega) ?_; intro v1 w3 hown1 hg1 hat1)
          go_roundw
          case rel =>
            refine ⟨k + 1, m + 1, by omega, by go_num, by rw [startsTo_yes Hek.out (isStart_eq Hek.out Hz.out Hj.out HD.out)]; simp [Hm.out], ?_, ?_⟩
            · rw [startsTo_yes Hek.out (isStart_eq Hek.out Hz.out Hj.out HD.out), encs_append]; exact hown1
            · exact own_base (HU.out.alloc _) (hb2.alloc hb2.size _) (Nat.le_refl _) hg1 (by have := hb2.size; simp; omega)
          case measure => simp [intOf]; omega
    · obtain rfl : k = n := by omega
      go_wp2_with fail
      go_ret
      have e := Hn.out
      rw [← e]
      refine ⟨A2, m, c2, rfl, by omega, ⟨hout, RepL.of_own' rfl Hm.out hout (startsTo_ok hl0.ok _ (by omega))⟩, hbel⟩

end Go.Proofs.Ytgcliipdkoefaaa

/-
  Contract: l7Begin of the reference.
-/
namespace Go.Proofs.Ytgcliipdkoefaaa
open Go.ChangeShapes Go.WideShapes Go.ChangeAt Go.RowKit Go.BigFrame
set_option linter.unusedVariables false

set_option maxHeartbeats 4000000
/-- Two starts of one epoch at two places. -/
def clash (s t : P2) : Bool := s.a == t.a && s.b != t.b
/-- No start of the one log clashes with one of the other. -/
def begB (l l' : List IS) : Bool := (startsTo l l.length).all fun s => (startsTo l' l'.length).all fun t => !clash s t
theorem begB_no {l l' : List IS} {s t : P2} {i j : Nat} (hi : (startsTo l l.length)[i]? = some s) (hj : (startsTo l' l'.length)[j]? = some t) (h : clash s t = true) : begB l l' = false := by
  rw [← Bool.not_eq_true]
  intro h'
  unfold begB at h'
  rw [List.all_eq_true] at h'
  have h1 := h' s (List.mem_of_getElem? hi)
  rw [List.all_eq_true] at h1
  have h2 := h1 t (List.mem_of_getElem? hj)
  rw [h] at h2
  cases h2
theorem begB_yes {l l' : List IS} (h : ∀ i, i < (startsTo l l.length).length → ∀ s, (startsTo l l.length)[i]? = some s → ∀ (j : Nat) t, (startsTo l' l'.length)[j]? = some t → clash s t = false) : begB l l' = true := by
  unfold begB
  rw [List.all_eq_true]
  intro s hs
  rw [List.all_eq_true]
  intro t ht
  obtain ⟨i, hi⟩ := List.mem_iff_getElem?.1 hs
  obtain ⟨j, hj⟩ := List.mem_iff_getElem?.1 ht
  rw [h i (List.getElem?_eq_some_iff.1 hi).1 s hi j t hj]
  rfl
theorem l7Begin_any (l l' : List IS) (hlen : l.length ≤ 40) (hlen' : l'.length ≤ 40) (w : World) (S : Nat → Prop) (hS : ∀ b, S b → b < w.heap.size) (A A' : Option Addr) (n c n' c' : Nat) (hl0 : RepL w S l A n c) (hl1 : RepL w S l' A' n' c') :
    Calls Try.prog 44 #[.slice A n c, .slice A' n' c'] w fun x w' => x = .returned (.bool (begB l l')) ∧ Below w.heap.size w w' := by
  have hbd' := hl1.bd
  go_enter Try.func44, Try.ntmps44
  go_wp2_with fail
  refine (l7Starts_any l hlen w S hS A n c hl0).mono ?_
  rintro e w1 ⟨A2, m, c2, rfl, hm40, ⟨-, hr⟩, b1⟩
  have hrb := hr.bd
  have Hr := Lib.hid hr
  have Hmm := Lib.hid (show m = (startsTo l l.length).length from hr.1)
  clear hr
  go_wp2_with fail
  go_loopw [12] (fun i wr => ∃ k : Nat, k ≤ m ∧ i = .int .i64 k ∧ (∀ i, i < k → ∀ s, (startsTo l l.length)[i]? = some s → ∀ (j : Nat) t, (startsTo l' l'.length)[j]? = some t → clash s t = false) ∧ Below w1.heap.size w1 wr) (fun i _ => m - (intOf i).toNat)
  case atStart => exact ⟨0, Nat.zero_le _, rfl, fun i hi => absurd hi (by omega), Below.refl _ _⟩
  case round =>
    obtain ⟨k, hk, rfl, hpre, hbel⟩ := hrel
    have Hpre := Lib.hid hpre
    clear hpre
    by_cases hlt : k < m
    · have hk1 : k < (startsTo l l.length).length := by have := Hmm.out; omega
      obtain ⟨b, off, xs, rfl, hSb, hc, rfl, -⟩ := Hr.out.at_ hk1
      have hc0 := hc 0 _ rfl
      have hc1 := hc 1 _ rfl
      clear hc
      generalize hes : (startsTo l l.length)[k] = es at hc0 hc1
      obtain ⟨se, sa⟩ := es
      have Hs := Lib.hid (show (startsTo l l.length)[k]? = some ⟨se, sa⟩ by rw [List.getElem?_eq_getElem hk1, hes])
      have d0 : wr.cell? ⟨b, off + k * 2, none⟩ = some (.int .i64 se) := (hbel.cell hSb.2).trans hc0
      have d1 : wr.cell? ⟨b, off + k * 2 + 1, none⟩ = some (.int .i64 sa) := (hbel.cell hSb.2).trans hc1
      obtain ⟨gs, hgs⟩ : ∃ g, wr.heap.size = g := ⟨_, rfl⟩
      have hbx := hbel.alloc hbel.size (.cells #[.int .i64 se, .int .i64 sa] 55)
      have hb0 := bnext b1 hbx
      have Hbx := Lib.hid hbx
      clear hc0 hc1 hes
      go_wp2_with fail
      refine (l7Starts_any l' hlen' _ S (fun x hx => Nat.lt_of_lt_of_le (hS x hx) hb0.size) A' n' c' (hl1.keep (fun p hp => hb0.cell (hS _ hp)))).mono ?_
      rintro e w2 ⟨A3, m', c3, rfl, hm40', ⟨-, hr'⟩, b2⟩
      have hrb' := hr'.bd
      have x0 : w2.cell? ⟨gs, 0, none⟩ = some (.int .i64 se) := by
        have := b2.cell (p := ⟨gs, 0, none⟩) (by simp [hgs])
        rw [this, ← hgs]
        exact World.cell?_alloc_new _ _ _ 0
      have x1 : w2.cell? ⟨gs, 1, none⟩ = some (.int .i64 sa) := by
        have := b2.cell (p := ⟨gs, 1, none⟩) (by simp [hgs])
        rw [this, ← hgs]
        exact World.cell?_alloc_new _ _ _ 1
      have hgs2 : gs < w2.heap.size := by have := b2.size; simp at this; omega
      have B2 := bnext Hbx.out b2
      have HB2 := Lib.hid B2
      have Hr' := Lib.hid hr'
      have Hmm' := Lib.hid (show m' = (startsTo l' l'.length).length from hr'.1)
      clear hr' b2 hgs
      go_wp2_with fail
      go_loopw [19] (fun i wr => ∃ q : Nat, q ≤ m' ∧ i = .int .i64 q ∧ (∀ j, j < q → ∀ t, (startsTo l' l'.length)[j]? = some t → clash ⟨se, sa⟩ t = false) ∧ Below w2.heap.size w2 wr) (fun i _ => m' - (intOf i).toNat)
      case atStart => exact ⟨0, Nat.zero_le _, rfl, fun i hi => absurd hi (by omega), Below.refl _ _⟩
      case round =>
        obtain ⟨q, hq, rfl, hpre2, hbel2⟩ := hrel
        have Hpre2 := Lib.hid hpre2
        clear hpre2
        have y0 : wr.cell? ⟨gs, 0, none⟩ = some (.int .i64 se) := (hbel2.cell (show gs < _ from hgs2)).trans x0
        have y1 : wr.cell? ⟨gs, 1, none⟩ = some (.int .i64 sa) := (hbel2.cell (show gs < _ from hgs2)).trans x1
        have hbelT := bnext HB2.out hbel2
        by_cases hlt2 : q < m'
        · have hq1 : q < (startsTo l' l'.length).length := by have := Hmm'.out; omega
          obtain ⟨b', off', xs', rfl, hSb', hc, rfl, -⟩ := Hr'.out.at_ hq1
          have hc0 := hc 0 _ rfl
          have hc1 := hc 1 _ rfl
          clear hc
          generalize het : (startsTo l' l'.length)[q] = et at hc0 hc1
          obtain ⟨te, ta⟩ := et
          have Ht := Lib.hid (show (startsTo l' l'.length)[q]? = some ⟨te, ta⟩ by rw [List.getElem?_eq_getElem hq1, het])
          have z0 : wr.cell? ⟨b', off' + q * 2, none⟩ = some (.int .i64 te) := (hbel2.cell hSb'.2).trans hc0
          have z1 : wr.cell? ⟨b', off' + q * 2 + 1, none⟩ = some (.int .i64 ta) := (hbel2.cell hSb'.2).trans hc1
          have p0 : (wr.alloc (.cells #[.int .i64 te, .int .i64 ta] 55)).cell? ⟨gs, 0, none⟩ = some (.int .i64 se) := (World.cell?_alloc_lt _ _ _ (World.block_lt_of_cell? _ _ y0)).trans y0
          have p1 : (wr.alloc (.cells #[.int .i64 te, .int .i64 ta] 55)).cell? ⟨gs, 1, none⟩ = some (.int .i64 sa) := (World.cell?_alloc_lt _ _ _ (World.block_lt_of_cell? _ _ y1)).trans y1
          have HB := Lib.hid (hbel2.alloc hbel2.size (.cells #[.int .i64 te, .int .i64 ta] 55))
          have HBT := Lib.hid (hbelT.alloc hbelT.size (.cells #[.int .i64 te, .int .i64 ta] 55))
          clear hc0 hc1 het
          obtain ⟨r1, hr1⟩ : ∃ r, ((se : Int) == te) = r := ⟨_, rfl⟩
          obtain ⟨r2, hr2⟩ : ∃ r, ((sa : Int) != ta) = r := ⟨_, rfl⟩
          have Hcl := Lib.hid (show clash ⟨se, sa⟩ ⟨te, ta⟩ = (r1 && r2) by unfold clash; rw [hr1, hr2])
          cases r1 <;> cases r2
          case true.true =>
            go_wp2_with fail
            go_ret
            exact ⟨by rw [begB_no Hs.out Ht.out Hcl.out]; rfl, bnext b1 HBT.out⟩
          all_goals
            go_wp2_with fail
            go_roundw
            case rel =>
              refine ⟨q + 1, by omega, by go_num, fun j hj t ht => ?_, HB.out⟩
              by_cases e : j = q
              · subst e
                rw [Ht.out] at ht
                obtain rfl := Option.some.inj ht
                exact Hcl.out
              · exact Hpre2.out j (by omega) t ht
            case measure => simp [intOf]; omega
        · have HT := Lib.hid hbelT
          go_wp2_with fail
          go_roundw
          case rel =>
            refine ⟨k + 1, by omega, by go_num, fun i hi s hs j t ht => ?_, HT.out⟩
            by_cases e : i = k
            · subst e
              rw [Hs.out] at hs
              obtain rfl := Option.some.inj hs
              exact Hpre2.out j (by have := (List.getElem?_eq_some_iff.1 ht).1; have := Hmm'.out; omega) t ht
            · exact Hpre.out i (by omega) s hs j t ht
          case measure => simp [intOf]; omega
    · have e : k = m := by omega
      have Hok := Lib.hid (show begB l l' = true from begB_yes fun i hi => Hpre.out i (by have := Hmm.out; omega))
      go_wp2_with fail
      go_ret
      exact ⟨by rw [Hok.out]; rfl, bnext b1 hbel⟩

end Go.Proofs.Ytgcliipdkoefaaa

/-
  Contract: MatchLogs of the reference.
-/
namespace Go.Proofs.Ytgcliipdkoefaaa
open Go.ChangeShapes Go.WideShapes Go.ChangeAt Go.RowKit Go.BigFrame
set_option linter.unusedVariables false

set_option maxHeartbeats 4000000
/-- Entry i of both logs has one epoch, behind their common part. -/
def mlBad (l l' : List IS) (p i : Nat) : Bool := match l[i]?, l'[i]? with | some e, some f => decide (p ≤ i) && e.n == f.n | _, _ => false
def mlAns (l l' : List IS) : Bool := ((List.range l.length).all fun i => !mlBad l l' (preE l l') i) && begB l l'
theorem mlPre_succ {l l' : List IS} {p k : Nat} (h : ∀ i, i < k → mlBad l l' p i = false) (hk : mlBad l l' p k = false) : ∀ i, i < k + 1 → mlBad l l' p i = false := by
  intro i hi
  by_cases e : i = k
  · rw [e]; exact hk
  · exact h i (by omega)
theorem mlAns_no {l l' : List IS} {k : Nat} (hk : k < l.length) (h : mlBad l l' (preE l l') k = true) : mlAns l l' = false := by
  unfold mlAns
  have : ((List.range l.length).all fun i => !mlBad l l' (preE l l') i) = false := by
    rw [← Bool.not_eq_true, List.all_eq_true]
    intro h'
    have := h' k (List.mem_range.2 hk)
    rw [h] at this
    cases this
  rw [this]; rfl
theorem mlAns_end {l l' : List IS} {n : Nat} (hn : n = l.length) (h : ∀ i, i < n → mlBad l l' (preE l l') i = false) : mlAns l l' = begB l l' := by
  subst hn
  unfold mlAns
  have : ((List.range l.length).all fun i => !mlBad l l' (preE l l') i) = true := by
    rw [List.all_eq_true]
    intro i hi
    rw [h i (List.mem_range.1 hi)]
    rfl
  rw [this]; rfl
theorem mlBad_short {l l' : List IS} {p k : Nat} (h : l'.length ≤ k) : mlBad l l' p k = false := by
  unfold mlBad
  rw [List.getElem?_eq_none h]
  cases l[k]? <;> rfl
theorem mlBad_eq {l l' : List IS} {p k : Nat} {e f : IS} {r1 r2 : Bool} (he : l[k]? = some e) (hf : l'[k]? = some f) (h1 : decide (p ≤ k) = r1) (h2 : (e.n == f.n) = r2) : mlBad l l' p k = (r1 && r2) := by
  unfold mlBad
  rw [he, hf]
  show (decide (p ≤ k) && e.n == f.n) = _
  rw [h1, h2]
theorem goodEn_len {l : List IS} (h : goodEn l = true) : l.length ≤ 40 := by
  rcases Nat.lt_or_ge 40 l.length with h' | h'
  · rw [goodEn_long (by omega)] at h; cases h
  · exact h'
theorem spec_MatchLogs_any (l l' : List IS) (w : World) (S : Nat → Prop) (hS : ∀ b, S b → b < w.heap.size) (A A' : Option Addr) (n c n' c' : Nat) (hl0 : RepL w S l A n c) (hl1 : RepL w S l' A' n' c') :
    Calls Try.prog 10 #[.slice A n c, .slice A' n' c'] w fun x w' => x = .returned (.tuple #[.bool ((goodEn l && goodEn l') && mlAns l l'), .bool (goodEn l && goodEn l')]) ∧ Below w.heap.size w w' := by
  have hbd := hl0.bd
  have hbd' := hl1.bd
  obtain ⟨hn, -⟩ := id hl0
  obtain ⟨hn', -⟩ := id hl1
  have Hn := Lib.hid hn
  have Hn' := Lib.hid hn'
  clear hn hn'
  have C1 := Lib.hid (l7Both_any l l' w S hS A A' n c n' c' hl0 hl1)
  obtain ⟨r, hr⟩ : ∃ r, (goodEn l && goodEn l') = r := ⟨_, rfl⟩
  rw [hr] at C1 ⊢
  have Hr := Lib.hid hr
  clear hr
  cases r with
  | false =>
    go_enter Try.func10, Try.ntmps10
    go_wp2_with fail
    refine C1.out.mono ?_
    rintro e w1 ⟨rfl, b1⟩
    go_wp2_with fail
    go_ret2
    exact ⟨rfl, b1⟩
  | true =>
    have hg := Hr.out
    rw [Bool.and_eq_true] at hg
    have hlen := goodEn_len hg.1
    have hlen' := goodEn_len hg.2
    have hpl := (preE_le l l').1
    obtain ⟨pp, hpp⟩ : ∃ v, preE l l' = v := ⟨_, rfl⟩
    rw [hpp] at hpl
    have Hpp := Lib.hid hpp
    have CP := Lib.hid (fun W S hS A A' n c n' c' h1 h2 => l7Part_any l l' W S hS A A' n c n' c' h1 h2)
    rw [hpp] at CP
    clear hg hpp
    go_enter Try.func10, Try.ntmps10
    go_wp2_with fail
    refine C1.out.mono ?_
    rintro e w1 ⟨rfl, b1⟩
    go_wp2_with fail
    refine (CP.out w1 S (fun b hb => Nat.lt_of_lt_of_le (hS b hb) b1.size) A A' n c n' c' (hl0.keep (fun p hp => b1.cell (hS _ hp))) (hl1.keep (fun p hp => b1.cell (hS _ hp)))).mono ?_
    rintro e w2 ⟨rfl, b2⟩
    have B2 := bnext b1 b2
    go_wp2_with fail
    go_loopw [17] (fun i wr => ∃ k : Nat, k ≤ n ∧ i = .int .i64 k ∧ (∀ i, i < k → mlBad l l' pp i = false) ∧ Below w.heap.size w wr) (fun i _ => n - (intOf i).toNat)
    case atStart => exact ⟨0, Nat.zero_le _, rfl, fun i hi => absurd hi (by omega), B2⟩
    case round =>
      obtain ⟨k, hk, rfl, hpre, hbel⟩ := hrel
      have Hpre := Lib.hid hpre
      clear hpre
      by_cases hlt : k < n
      · have hl1' : k < l.length := by have := Hn.out; omega
        obtain ⟨b, off, xs, rfl, hSb, hc, rfl, -⟩ := hl0.at_ hl1'
        have f0 : ∀ p : Aft wr, p.world.cell? ⟨b, off + k * 2, none⟩ = some (.int .i64 l[k].n) := Aft.cell ((hbel.cell (hS _ hSb)).trans (hc 0 _ rfl))
        have He := Lib.hid (show l[k]? = some l[k] from List.getElem?_eq_getElem hl1')
        have hkI : (k : Int) < (n : Int) := by omega
        have hk0 : (0 : Int) ≤ (k : Int) := by omega
        clear hc
        by_cases hA : k < n'
        · have dA : decide (k < n') = true := decide_eq_true hA
          have hkI' : (k : Int) < (n' : Int) := by omega
          have hl2' : k < l'.length := by have := Hn'.out; omega
          obtain ⟨b', off', xs', rfl, hSb', hc, rfl, -⟩ := hl1.at_ hl2'
          have f1 : ∀ p : Aft wr, p.world.cell? ⟨b', off' + k * 2, none⟩ = some (.int .i64 l'[k].n) := Aft.cell ((hbel.cell (hS _ hSb')).trans (hc 0 _ rfl))
          have Hf := Lib.hid (show l'[k]? = some l'[k] from List.getElem?_eq_getElem hl2')
          clear hc
          by_cases hP : pp ≤ k
          · have dP : decide (pp ≤ k) = true := decide_eq_true hP
            obtain ⟨r2, hr2⟩ : ∃ r, ((l[k].n : Int) == l'[k].n) = r := ⟨_, rfl⟩
            have Hbad := Lib.hid (mlBad_eq He.out Hf.out dP hr2)
            cases r2 with
            | true =>
              go_wp2_with fail
              refine wp_region_aft (by kernel_rfl) (by kernel_rfl) ?_
              repeat (go_big_quiet_step (fail))
              refine wpQuiet_nil ?_
              rintro _ ⟨p, rfl⟩
              have hb2 : Below w.heap.size w p.world := hbel.trans (p.below.mono hbel.size)
              go_wp2
              go_ret2
              exact ⟨by rw [mlAns_no hl1' (by rw [Hpp.out]; exact Hbad.out)]; rfl, hb2⟩
            | false =>
              go_wp2_with fail
              refine wp_region_aft (by kernel_rfl) (by kernel_rfl) ?_
              repeat (go_big_quiet_step (fail))
              refine wpQuiet_nil ?_
              rintro _ ⟨p, rfl⟩
              have hb2 : Below w.heap.size w p.world := hbel.trans (p.below.mono hbel.size)
              go_wp2
              go_roundw
              case rel => exact ⟨k + 1, by omega, by go_num, mlPre_succ Hpre.out Hbad.out, hb2⟩
              case measure => simp [intOf]; omega
          · have dP : decide (pp ≤ k) = false := decide_eq_false hP
            have Hbad := Lib.hid (mlBad_eq He.out Hf.out dP (rfl : (l[k].n == l'[k].n) = _))
            go_wp2_with fail
            refine wp_region_aft (by kernel_rfl) (by kernel_rfl) ?_
            repeat (go_big_quiet_step (fail))
            refine wpQuiet_nil ?_
            rintro _ ⟨p, rfl⟩
            have hb2 : Below w.heap.size w p.world := hbel.trans (p.below.mono hbel.size)
            go_wp2
            go_roundw
            case rel => exact ⟨k + 1, by omega, by go_num, mlPre_succ Hpre.out Hbad.out, hb2⟩
            case measure => simp [intOf]; omega
        · have dA : decide (k < n') = false := decide_eq_false hA
          have Hbad := Lib.hid (mlBad_short (l := l) (p := pp) (show l'.length ≤ k by have := Hn'.out; omega))
          go_wp2_with fail
          refine wp_region_aft (by kernel_rfl) (by kernel_rfl) ?_
          repeat (go_big_quiet_step (fail))
          refine wpQuiet_nil ?_
          rintro _ ⟨p, rfl⟩
          have hb2 : Below w.heap.size w p.world := hbel.trans (p.below.mono hbel.size)
          go_wp2
          go_roundw
          case rel => exact ⟨k + 1, by omega, by go_num, mlPre_succ Hpre.out Hbad.out, hb2⟩
          case measure => simp [intOf]; omega
      · have e : k = n := by omega
        have Hend := Lib.hid (mlAns_end (l' := l') Hn.out (fun i hi => by rw [Hpp.out]; exact Hpre.out i (by omega)))
        clear e
        go_wp2_with fail
        refine (l7Begin_any l l' hlen hlen' wr S (fun b hb => Nat.lt_of_lt_of_le (hS b hb) hbel.size) A A' n c n' c' (hl0.keep (fun p hp => hbel.cell (hS _ hp))) (hl1.keep (fun p hp => hbel.cell (hS _ hp)))).mono ?_
        rintro e w3 ⟨rfl, b3⟩
        go_wp2_with fail
        go_ret2
        exact ⟨by rw [Hend.out]; rfl, bnext hbel b3⟩

end Go.Proofs.Ytgcliipdkoefaaa

/-
  Searching a list; function values that answer a test.
-/
namespace Go.Proofs.Ytgcliipdkoefaaa
open Go.ChangeShapes Go.WideShapes Go.ChangeAt Go.RowKit Go.BigFrame
set_option linter.unusedVariables false

/-- The first place at which p holds, or -1. -/
def idxP {α : Type} (p : α → Bool) (l : List α) : Int := match l.findIdx? p with | some k => (k : Int) | none => -1
theorem idxP_hit {α : Type} {p : α → Bool} {l : List α} {k : Nat} {x : α} (h : ∀ i y, i < k → l[i]? = some y → p y = false) (hx : l[k]? = some x) (hp : p x = true) : idxP p l = k := by
  have : l.findIdx? p = some k := by
    rw [List.findIdx?_eq_some_iff_getElem]
    obtain ⟨hk, e⟩ := List.getElem?_eq_some_iff.1 hx
    refine ⟨hk, by rw [e]; exact hp, fun j hj => ?_⟩
    simp [h j l[j] hj (List.getElem?_eq_getElem (by omega))]
  unfold idxP
  rw [this]
theorem idxP_miss {α : Type} {p : α → Bool} {l : List α} (h : ∀ i y, i < l.length → l[i]? = some y → p y = false) : idxP p l = -1 := by
  have : l.findIdx? p = none := by
    rw [List.findIdx?_eq_none_iff]
    intro x hx
    obtain ⟨i, hi, rfl⟩ := List.mem_iff_getElem.1 hx
    exact h i _ hi (List.getElem?_eq_getElem hi)
  unfold idxP
  rw [this]
theorem idxP_any {α : Type} (p : α → Bool) (l : List α) : decide (0 ≤ idxP p l) = l.any p := by
  unfold idxP
  cases h : l.findIdx? p with
  | none =>
    rw [List.findIdx?_eq_none_iff] at h
    have : l.any p = false := by rw [List.any_eq_false]; intro x hx; simp [h x hx]
    rw [this]
    simp
  | some k =>
    rw [List.findIdx?_eq_some_iff_getElem] at h
    obtain ⟨hk, hp, _⟩ := h
    have : l.any p = true := List.any_eq_true.2 ⟨_, List.getElem_mem hk, hp⟩
    rw [this]
    simp
theorem idxP_bd {α : Type} (p : α → Bool) (l : List α) : -1 ≤ idxP p l ∧ idxP p l < l.length := by
  unfold idxP
  cases h : l.findIdx? p with
  | none => exact ⟨Int.le_refl _, by simp only; omega⟩
  | some k =>
    rw [List.findIdx?_eq_some_iff_getElem] at h
    obtain ⟨hk, _⟩ := h
    constructor
    · simp only; omega
    · simp only; omega

/-- A function value of the program that answers p, in every world that is as w was below w's end. -/
def Pred {α : Type} (P : Program) (g : Nat) (lb : Array Value) (enc : α → Value) (ok : α → Prop) (p : α → Bool) (w : World) : Prop :=
  ∀ (W : World) (x : α), ok x → Below w.heap.size w W → Calls P g (#[enc x] ++ lb) W fun e w' => e = .returned (.bool (p x)) ∧ Below W.heap.size W w'
theorem Pred.up {α : Type} {P : Program} {g : Nat} {lb : Array Value} {enc : α → Value} {ok : α → Prop} {p : α → Bool} {w w' : World} (h : Pred P g lb enc ok p w) (hb : Below w.heap.size w w') : Pred P g lb enc ok p w' :=
  fun W x hx hW => h W x hx (bnext hb hW)

end Go.Proofs.Ytgcliipdkoefaaa

/-
  slices.IndexFunc, ContainsFunc at []Start.
-/
namespace Go.Proofs.Ytgcliipdkoefaaa
open Go.ChangeShapes Go.WideShapes Go.ChangeAt Go.RowKit Go.BigFrame
set_option linter.unusedVariables false


theorem indexFuncSta_any (p : P2 → Bool) (gg : Nat) (lb : Array Value) (eg : ∀ args w, (callFunc gg args).run Try.prog w = .ok (.enter gg args) w) (l : List P2) (w : World) (S : Nat → Prop) (hS : ∀ b, S b → b < w.heap.size) (A : Option Addr) (n c : Nat) (hl0 : RepL w S l A n c)
    (hp : Pred Try.prog gg lb (fun x : P2 => .agg #[.int .i64 x.a, .int .i64 x.b]) Flat.ok p w) :
    Calls Try.prog 75 #[.slice A n c, .func (.func gg) #[] lb] w fun x w' => x = .returned (.int .i64 (idxP p l)) ∧ Below w.heap.size w w' := by
  have hbd := hl0.bd
  obtain ⟨hn, -⟩ := id hl0
  have Hn := Lib.hid hn
  have Hp := Lib.hid hp
  clear hn hp
  go_enter Try.func75, Try.ntmps75
  go_wp2_with fail
  go_loopw [8] (fun i wr => ∃ k : Nat, k ≤ n ∧ i = .int .i64 k ∧ (∀ i y, i < k → l[i]? = some y → p y = false) ∧ Below w.heap.size w wr) (fun i _ => n - (intOf i).toNat)
  case atStart => exact ⟨0, Nat.zero_le _, rfl, fun i y hi => absurd hi (by omega), Below.refl _ _⟩
  case round =>
    obtain ⟨k, hk, rfl, hpre, hbel⟩ := hrel
    have Hpre := Lib.hid hpre
    clear hpre
    by_cases hlt : k < n
    · have hl1 : k < l.length := by have := Hn.out; omega
      obtain ⟨b, off, xs, rfl, hSb, hc, rfl, hok⟩ := hl0.at_ hl1
      have hc0 : wr.cell? ⟨b, off + k * 2, none⟩ = some (.int .i64 l[k].a) := (hbel.cell (hS _ hSb)).trans (hc 0 _ rfl)
      have hc1 : wr.cell? ⟨b, off + k * 2 + 1, none⟩ = some (.int .i64 l[k].b) := (hbel.cell (hS _ hSb)).trans (hc 1 _ rfl)
      have Hk := Lib.hid (show l[k]? = some l[k] from List.getElem?_eq_getElem hl1)
      have Hc := Lib.hid (Hp.out wr l[k] hok hbel)
      clear hc hok
      cases hq : p l[k] with
      | true =>
        rw [hq] at Hc
        have Hf := Lib.hid (idxP_hit Hpre.out Hk.out hq)
        clear hq
        go_wp2_with (go_at_fn gg; refine Hc.out.mono ?_; rintro e w1 ⟨rfl, b1⟩)
        go_ret
        exact ⟨by rw [Hf.out]; rfl, hbel.trans (b1.mono hbel.size)⟩
      | false =>
        rw [hq] at Hc
        have Hq := Lib.hid hq
        clear hq
        go_wp2_with (go_at_fn gg; refine Hc.out.mono ?_; rintro e w1 ⟨rfl, b1⟩)
        go_roundw
        case rel =>
          refine ⟨k + 1, by omega, by go_num, fun i y hi hy => ?_, hbel.trans (b1.mono hbel.size)⟩
          by_cases hik : i = k
          · subst hik
            rw [Hk.out] at hy
            obtain rfl := Option.some.inj hy
            exact Hq.out
          · exact Hpre.out i y (by omega) hy
        case measure => simp [intOf]; omega
    · have Hf := Lib.hid (idxP_miss (p := p) (l := l) fun i y hi hy => Hpre.out i y (by have := Hn.out; omega) hy)
      go_wp2_with fail
      go_ret
      exact ⟨by rw [Hf.out]; rfl, hbel⟩

theorem containsFuncSta_any (p : P2 → Bool) (gg : Nat) (lb : Array Value) (eg : ∀ args w, (callFunc gg args).run Try.prog w = .ok (.enter gg args) w) (l : List P2) (w : World) (S : Nat → Prop) (hS : ∀ b, S b → b < w.heap.size) (A : Option Addr) (n c : Nat) (hl0 : RepL w S l A n c)
    (hp : Pred Try.prog gg lb (fun x : P2 => .agg #[.int .i64 x.a, .int .i64 x.b]) Flat.ok p w) (r : Bool) (hr : l.any p = r) :
    Calls Try.prog 72 #[.slice A n c, .func (.func gg) #[] lb] w fun x w' => x = .returned (.bool r) ∧ Below w.heap.size w w' := by
  have C1 := Lib.hid (indexFuncSta_any p gg lb eg l w S hS A n c hl0 hp)
  obtain ⟨q, hq⟩ : ∃ q, idxP p l = q := ⟨_, rfl⟩
  rw [hq] at C1
  have hd : decide (0 ≤ q) = r := by rw [← hq, idxP_any, hr]
  clear hq hr hp
  go_enter Try.func72, Try.ntmps72
  go_wp2_with fail
  refine C1.out.mono ?_
  rintro e w1 ⟨rfl, b1⟩
  go_wp2_with fail
  go_ret
  exact ⟨rfl, b1⟩

end Go.Proofs.Ytgcliipdkoefaaa

/-
  The test in matchLogs; its plain law.
-/
namespace Go.Proofs.Ytgcliipdkoefaaa
open Go.ChangeShapes Go.WideShapes Go.ChangeAt Go.RowKit Go.BigFrame Go.Deep
set_option linter.unusedVariables false

set_option maxHeartbeats 4000000
/-- The test of matchLogs: x is a start of s's epoch at another place. -/
def clashP (s x : P2) : Bool := x.a == s.a && x.b != s.b
theorem beq_sym' (a b : Int) : (a == b) = (b == a) := by
  by_cases h : a = b
  · rw [h]
  · rw [beq_eq_false_iff_ne.2 h, beq_eq_false_iff_ne.2 (fun e => h e.symm)]
theorem clashP_eq (s x : P2) : clashP s x = clash s x := by
  unfold clashP clash bne
  rw [beq_sym' x.a s.a, beq_sym' x.b s.b]
theorem matchLogs1_pred (s : P2) (g : Nat) (w : World) (h0 : w.cell? ⟨g, 0, none⟩ = some (.int .i64 s.a)) (h1 : w.cell? ⟨g, 1, none⟩ = some (.int .i64 s.b)) :
    Pred Try.prog 73 #[.pointer (some ⟨g, 0, none⟩)] (fun x : P2 => .agg #[.int .i64 x.a, .int .i64 x.b]) Flat.ok (clashP s) w := by
  intro W x _ hW
  have hg := World.block_lt_of_cell? w _ h0
  have k0 : W.cell? ⟨g, 0, none⟩ = some (.int .i64 s.a) := (hW.cell (p := ⟨g, 0, none⟩) hg).trans h0
  have k1 : W.cell? ⟨g, 1, none⟩ = some (.int .i64 s.b) := (hW.cell (p := ⟨g, 1, none⟩) hg).trans h1
  have key : ∀ r1 r2, (x.a == s.a) = r1 → (x.b != s.b) = r2 → Calls Try.prog 73 #[.agg #[.int .i64 x.a, .int .i64 x.b], .pointer (some ⟨g, 0, none⟩)] W fun e w' => e = .returned (.bool (r1 && r2)) ∧ Below W.heap.size W w' := by
    intro r1 r2 hr1 hr2
    have k0' : (W.alloc (.cells #[.int .i64 x.a, .int .i64 x.b] 55)).cell? ⟨g, 0, none⟩ = some (.int .i64 s.a) := (World.cell?_alloc_lt _ _ _ (World.block_lt_of_cell? _ _ k0)).trans k0
    have k1' : (W.alloc (.cells #[.int .i64 x.a, .int .i64 x.b] 55)).cell? ⟨g, 1, none⟩ = some (.int .i64 s.b) := (World.cell?_alloc_lt _ _ _ (World.block_lt_of_cell? _ _ k1)).trans k1
    have HB := Lib.hid ((Below.refl W.heap.size W).alloc (Nat.le_refl _) (.cells #[.int .i64 x.a, .int .i64 x.b] 55))
    cases r1 <;> cases r2
    all_goals
      go_enter Try.func73, Try.ntmps73
      go_wp2_with fail
      go_ret
      exact ⟨rfl, HB.out⟩
  have h := key _ _ rfl rfl
  have e : (#[Value.agg #[.int .i64 x.a, .int .i64 x.b]] ++ #[.pointer (some ⟨g, 0, none⟩)] : Array Value) = #[.agg #[.int .i64 x.a, .int .i64 x.b], .pointer (some ⟨g, 0, none⟩)] := rfl
  rw [← e] at h
  exact h

theorem begB_no' {l l' : List IS} {s : P2} {i : Nat} (hi : (startsTo l l.length)[i]? = some s) (h : (startsTo l' l'.length).any (clashP s) = true) : begB l l' = false := by
  obtain ⟨t, ht, hc⟩ := List.any_eq_true.1 h
  obtain ⟨j, hj⟩ := List.mem_iff_getElem?.1 ht
  exact begB_no hi hj (by rw [← clashP_eq]; exact hc)
theorem begB_yes' {l l' : List IS} (h : ∀ i, i < (startsTo l l.length).length → ∀ s, (startsTo l l.length)[i]? = some s → (startsTo l' l'.length).any (clashP s) = false) : begB l l' = true := by
  refine begB_yes fun i hi s hs j t ht => ?_
  have h1 := h i hi s hs
  rw [List.any_eq_false] at h1
  have h2 := h1 t (List.mem_of_getElem? ht)
  rw [clashP_eq] at h2
  simpa using h2
theorem mlAns_yes {l l' : List IS} {n m : Nat} (hn : n = l.length) (hm : m = l'.length) (hb : begB l l' = true) (h : ∀ i, i < min n m → mlBad l l' (preE l l') i = false) : mlAns l l' = true := by
  rw [mlAns_end hn fun i hi => ?_, hb]
  by_cases hi2 : i < m
  · exact h i (by omega)
  · exact mlBad_short (by omega)
theorem mlBad_eq' {l l' : List IS} {p k : Nat} {e f : IS} {r1 r2 : Bool} (he : l[k]? = some e) (hf : l'[k]? = some f) (h1 : decide (p ≤ k) = r1) (h2 : (e.n == f.n) = r2) : mlBad l l' p k = (r2 && r1) := by
  rw [mlBad_eq he hf h1 h2, Bool.and_comm]
end Go.Proofs.Ytgcliipdkoefaaa

/-
  Contracts: matchLogs, MatchLogs of the program.
-/
namespace Go.Proofs.Ytgcliipdkoefaaa
open Go.ChangeShapes Go.WideShapes Go.ChangeAt Go.RowKit Go.BigFrame Go.Deep
set_option linter.unusedVariables false

set_option maxHeartbeats 4000000
theorem matchLogs_any (l l' : List IS) (hlen : l.length ≤ 40) (hlen' : l'.length ≤ 40) (w : World) (S : Nat → Prop) (hS : ∀ b, S b → b < w.heap.size) (A A' : Option Addr) (n c n' c' : Nat) (hl0 : RepL w S l A n c) (hl1 : RepL w S l' A' n' c') :
    Calls Try.prog 47 #[.slice A n c, .slice A' n' c'] w fun x w' => x = .returned (.bool (mlAns l l')) ∧ Below w.heap.size w w' := by
  have eg := enters_of Try.func73 (by kernel_rfl) rfl
  have hbd := hl0.bd
  have hbd' := hl1.bd
  have hn := hl0.1
  have hn' := hl1.1
  have Hn := Lib.hid hn
  have Hn' := Lib.hid hn'
  clear hn hn'
  have hpl := (preE_le l l').1
  obtain ⟨pp, hpp⟩ : ∃ v, preE l l' = v := ⟨_, rfl⟩
  rw [hpp] at hpl
  have CP := Lib.hid (fun W S hS A A' n c n' c' h1 h2 => partAt_any l l' W S hS A A' n c n' c' h1 h2)
  rw [hpp] at CP
  have Hpp := Lib.hid hpp
  clear hpp
  go_enter Try.func47, Try.ntmps47
  go_wp2_with fail
  refine (startsOf_any l' hlen' w S hS A' n' c' hl1).mono ?_
  rintro e w1 ⟨A3, m', c3, rfl, hm40', ⟨-, hr'⟩, b1⟩
  have hrb' := hr'.bd
  have Hr' := Lib.hid hr'
  clear hr'
  go_wp2_with fail
  refine (startsOf_any l hlen w1 S (fun b hb => Nat.lt_of_lt_of_le (hS b hb) b1.size) A n c (hl0.keep (fun p hp => b1.cell (hS _ hp)))).mono ?_
  rintro e w2 ⟨A2, m, c2, rfl, hm40, ⟨-, hr⟩, b2⟩
  have hrb := hr.bd
  have B2 := bnext b1 b2
  have Hmm := Lib.hid (show m = (startsTo l l.length).length from hr.1)
  have hz1 := b1.size
  have hz2 := b2.size
  have Hr2 := Lib.hid (Hr'.out.upR (Nat.le_refl _) b2)
  have Hr := Lib.hid hr
  clear hr
  go_wp2_with fail
  go_loopw [15] (fun i wr => ∃ k : Nat, k ≤ m ∧ i = .int .i64 k ∧ (∀ i, i < k → ∀ s, (startsTo l l.length)[i]? = some s → (startsTo l' l'.length).any (clashP s) = false) ∧ Below w2.heap.size w2 wr) (fun i _ => m - (intOf i).toNat)
  case atStart => exact ⟨0, Nat.zero_le _, rfl, fun i hi => absurd hi (by omega), Below.refl _ _⟩
  case round =>
    obtain ⟨k, hk, rfl, hpre, hbel⟩ := hrel
    have Hpre := Lib.hid hpre
    clear hpre
    have hz3 := hbel.size
    by_cases hlt : k < m
    · have hk1 : k < (startsTo l l.length).length := by have := Hmm.out; omega
      obtain ⟨b, off, xs, rfl, hSb, hc, rfl, -⟩ := Hr.out.at_ hk1
      have hc0 := hc 0 _ rfl
      have hc1 := hc 1 _ rfl
      clear hc
      generalize hes : (startsTo l l.length)[k] = es at hc0 hc1
      obtain ⟨se, sa⟩ := es
      have Hs := Lib.hid (show (startsTo l l.length)[k]? = some ⟨se, sa⟩ by rw [List.getElem?_eq_getElem hk1, hes])
      have d0 : wr.cell? ⟨b, off + k * 2, none⟩ = some (.int .i64 se) := (hbel.cell hSb.2).trans hc0
      have d1 : wr.cell? ⟨b, off + k * 2 + 1, none⟩ = some (.int .i64 sa) := (hbel.cell hSb.2).trans hc1
      obtain ⟨W, hW⟩ : ∃ W, W = wr.alloc (.cells #[.int .i64 se, .int .i64 sa] 55) := ⟨_, rfl⟩
      have hbx : Below wr.heap.size wr W := by rw [hW]; exact (Below.refl _ _).alloc (Nat.le_refl _) _
      have x0 : W.cell? ⟨wr.heap.size, 0, none⟩ = some (.int .i64 se) := by rw [hW]; exact World.cell?_alloc_new _ _ _ 0
      have x1 : W.cell? ⟨wr.heap.size, 1, none⟩ = some (.int .i64 sa) := by rw [hW]; exact World.cell?_alloc_new _ _ _ 1
      have hp := matchLogs1_pred ⟨se, sa⟩ wr.heap.size W x0 x1
      have hb0 := bnext hbel hbx
      have Hx := Lib.hid ((Hr2.out.upR (by omega) hb0).ltR (by have := hb0.size; omega))
      have Hp := Lib.hid hp
      have HW := Lib.hid hW
      have Hbx := Lib.hid hbx
      have Hb0 := Lib.hid hb0
      clear hp hW hbx hb0
      clear hc0 hc1 hes x0 x1
      obtain ⟨r, hr⟩ : ∃ r, (startsTo l' l'.length).any (clashP ⟨se, sa⟩) = r := ⟨_, rfl⟩
      have Hr := Lib.hid hr
      clear hr
      go_wp2_with fail
      rw [← HW.out]
      refine (containsFuncSta_any (clashP ⟨se, sa⟩) 73 _ eg (startsTo l' l'.length) W _ (fun x hx => hx) A3 m' c3 Hx.out Hp.out _ Hr.out).mono ?_
      rintro e w3 ⟨rfl, b3⟩
      have HB := Lib.hid (bnext Hb0.out b3)
      cases r with
      | true =>
        go_wp2_with fail
        go_ret
        exact ⟨by unfold mlAns; rw [begB_no' Hs.out Hr.out, Bool.and_false]; rfl, bnext B2 HB.out⟩
      | false =>
        go_wp2_with fail
        go_roundw
        case rel =>
          refine ⟨k + 1, by omega, by go_num, fun i hi s hs => ?_, HB.out⟩
          by_cases e : i = k
          · subst e
            rw [Hs.out] at hs
            obtain rfl := Option.some.inj hs
            exact Hr.out
          · exact Hpre.out i (by omega) s hs
        case measure => simp [intOf]; omega
    · have hbeg := begB_yes' (l := l) (l' := l') fun i hi => Hpre.out i (by have := Hmm.out; omega)
      have Hbeg := Lib.hid hbeg
      clear hbeg
      have B3 := bnext B2 hbel
      have h3 := hl0.keep (w' := wr) (fun p hp => B3.cell (hS _ hp))
      have h4 := hl1.keep (w' := wr) (fun p hp => B3.cell (hS _ hp))
      have H3 := Lib.hid h3
      have H4 := Lib.hid h4
      clear h3 h4
      go_wp2_with fail
      refine (CP.out wr S (fun b hb => Nat.lt_of_lt_of_le (hS b hb) B3.size) A A' n c n' c' H3.out H4.out).mono ?_
      rintro e w4 ⟨rfl, b4⟩
      have B4 := bnext B3 b4
      go_wp2_with fail
      · go_loopw [31] (fun i wr => ∃ k : Nat, k ≤ n' ∧ i = .int .i64 k ∧ (∀ i, i < k → mlBad l l' pp i = false) ∧ Below w.heap.size w wr) (fun i _ => n' - (intOf i).toNat)
        case atStart => exact ⟨0, Nat.zero_le _, rfl, fun i hi => absurd hi (by omega), B4⟩
        case round =>
          obtain ⟨j, hj, rfl, hpre2, hbel2⟩ := hrel
          have Hpre2 := Lib.hid hpre2
          clear hpre2
          by_cases hlt2 : j < n'
          · have hj1 : j < n := by omega
            have hj2 : j < n' := by omega
            have hl1' : j < l.length := by have := Hn.out; omega
            have hl2' : j < l'.length := by have := Hn'.out; omega
            obtain ⟨b, off, xs, rfl, hSb, hc, rfl, -⟩ := hl0.at_ hl1'
            have f0 : ∀ p : Aft wr, p.world.cell? ⟨b, off + j * 2, none⟩ = some (.int .i64 l[j].n) := Aft.cell ((hbel2.cell (hS _ hSb)).trans (hc 0 _ rfl))
            clear hc
            obtain ⟨b', off', xs', rfl, hSb', hc, rfl, -⟩ := hl1.at_ hl2'
            have f1 : ∀ p : Aft wr, p.world.cell? ⟨b', off' + j * 2, none⟩ = some (.int .i64 l'[j].n) := Aft.cell ((hbel2.cell (hS _ hSb')).trans (hc 0 _ rfl))
            clear hc
            have He := Lib.hid (show l[j]? = some l[j] from List.getElem?_eq_getElem hl1')
            have Hf := Lib.hid (show l'[j]? = some l'[j] from List.getElem?_eq_getElem hl2')
            have hjI : (j : Int) < (n : Int) := by omega
            have hjI' : (j : Int) < (n' : Int) := by omega
            have hj0 : (0 : Int) ≤ (j : Int) := by omega
            obtain ⟨r1, hr1⟩ : ∃ r, decide (pp ≤ j) = r := ⟨_, rfl⟩
            obtain ⟨r2, hr2⟩ : ∃ r, ((l[j].n : Int) == l'[j].n) = r := ⟨_, rfl⟩
            have Hbad := Lib.hid (mlBad_eq' He.out Hf.out hr1 hr2)
            cases r2 with
            | true =>
              cases r1 with
              | true =>
                go_wp2_with fail
                refine wp_region_aft (by kernel_rfl) (by kernel_rfl) ?_
                repeat (go_big_quiet_step (fail))
                refine wpQuiet_nil ?_
                rintro _ ⟨p, rfl⟩
                have hb2 : Below w.heap.size w p.world := hbel2.trans (p.below.mono hbel2.size)
                go_wp2
                go_ret
                exact ⟨by rw [mlAns_no hl1' (by rw [Hpp.out]; exact Hbad.out)]; rfl, hb2⟩
              | false =>
                go_wp2_with fail
                refine wp_region_aft (by kernel_rfl) (by kernel_rfl) ?_
                repeat (go_big_quiet_step (fail))
                refine wpQuiet_nil ?_
                rintro _ ⟨p, rfl⟩
                have hb2 : Below w.heap.size w p.world := hbel2.trans (p.below.mono hbel2.size)
                go_wp2
                go_roundw
                case rel => exact ⟨j + 1, by omega, by go_num, mlPre_succ Hpre2.out Hbad.out, hb2⟩
                case measure => simp [intOf]; omega
            | false =>
              have Hbad2 := Lib.hid (show mlBad l l' pp j = false from Hbad.out)
              go_wp2_with fail
              refine wp_region_aft (by kernel_rfl) (by kernel_rfl) ?_
              repeat (go_big_quiet_step (fail))
              refine wpQuiet_nil ?_
              rintro _ ⟨p, rfl⟩
              have hb2 : Below w.heap.size w p.world := hbel2.trans (p.below.mono hbel2.size)
              go_wp2
              go_roundw
              case rel => exact ⟨j + 1, by omega, by go_num, mlPre_succ Hpre2.out Hbad2.out, hb2⟩
              case measure => simp [intOf]; omega
          · have Hans := Lib.hid (mlAns_yes (l := l) (l' := l') Hn.out Hn'.out Hbeg.out fun i hi => by rw [Hpp.out]; exact Hpre2.out i (by omega))
            go_wp2_with fail
            go_ret
            exact ⟨by rw [Hans.out]; rfl, hbel2⟩
      · go_loopw [31] (fun i wr => ∃ k : Nat, k ≤ n ∧ i = .int .i64 k ∧ (∀ i, i < k → mlBad l l' pp i = false) ∧ Below w.heap.size w wr) (fun i _ => n - (intOf i).toNat)
        case atStart => exact ⟨0, Nat.zero_le _, rfl, fun i hi => absurd hi (by omega), B4⟩
        case round =>
          obtain ⟨j, hj, rfl, hpre2, hbel2⟩ := hrel
          have Hpre2 := Lib.hid hpre2
          clear hpre2
          by_cases hlt2 : j < n
          · have hj1 : j < n := by omega
            have hj2 : j < n' := by omega
            have hl1' : j < l.length := by have := Hn.out; omega
            have hl2' : j < l'.length := by have := Hn'.out; omega
            obtain ⟨b, off, xs, rfl, hSb, hc, rfl, -⟩ := hl0.at_ hl1'
            have f0 : ∀ p : Aft wr, p.world.cell? ⟨b, off + j * 2, none⟩ = some (.int .i64 l[j].n) := Aft.cell ((hbel2.cell (hS _ hSb)).trans (hc 0 _ rfl))
            clear hc
            obtain ⟨b', off', xs', rfl, hSb', hc, rfl, -⟩ := hl1.at_ hl2'
            have f1 : ∀ p : Aft wr, p.world.cell? ⟨b', off' + j * 2, none⟩ = some (.int .i64 l'[j].n) := Aft.cell ((hbel2.cell (hS _ hSb')).trans (hc 0 _ rfl))
            clear hc
            have He := Lib.hid (show l[j]? = some l[j] from List.getElem?_eq_getElem hl1')
            have Hf := Lib.hid (show l'[j]? = some l'[j] from List.getElem?_eq_getElem hl2')
            have hjI : (j : Int) < (n : Int) := by omega
            have hjI' : (j : Int) < (n' : Int) := by omega
            have hj0 : (0 : Int) ≤ (j : Int) := by omega
            obtain ⟨r1, hr1⟩ : ∃ r, decide (pp ≤ j) = r := ⟨_, rfl⟩
            obtain ⟨r2, hr2⟩ : ∃ r, ((l[j].n : Int) == l'[j].n) = r := ⟨_, rfl⟩
            have Hbad := Lib.hid (mlBad_eq' He.out Hf.out hr1 hr2)
            cases r2 with
            | true =>
              cases r1 with
              | true =>
                go_wp2_with fail
                refine wp_region_aft (by kernel_rfl) (by kernel_rfl) ?_
                repeat (go_big_quiet_step (fail))
                refine wpQuiet_nil ?_
                rintro _ ⟨p, rfl⟩
                have hb2 : Below w.heap.size w p.world := hbel2.trans (p.below.mono hbel2.size)
                go_wp2
                go_ret
                exact ⟨by rw [mlAns_no hl1' (by rw [Hpp.out]; exact Hbad.out)]; rfl, hb2⟩
              | false =>
                go_wp2_with fail
                refine wp_region_aft (by kernel_rfl) (by kernel_rfl) ?_
                repeat (go_big_quiet_step (fail))
                refine wpQuiet_nil ?_
                rintro _ ⟨p, rfl⟩
                have hb2 : Below w.heap.size w p.world := hbel2.trans (p.below.mono hbel2.size)
                go_wp2
                go_roundw
                case rel => exact ⟨j + 1, by omega, by go_num, mlPre_succ Hpre2.out Hbad.out, hb2⟩
                case measure => simp [intOf]; omega
            | false =>
              have Hbad2 := Lib.hid (show mlBad l l' pp j = false from Hbad.out)
              go_wp2_with fail
              refine wp_region_aft (by kernel_rfl) (by kernel_rfl) ?_
              repeat (go_big_quiet_step (fail))
              refine wpQuiet_nil ?_
              rintro _ ⟨p, rfl⟩
              have hb2 : Below w.heap.size w p.world := hbel2.trans (p.below.mono hbel2.size)
              go_wp2
              go_roundw
              case rel => exact ⟨j + 1, by omega, by go_num, mlPre_succ Hpre2.out Hbad2.out, hb2⟩
              case measure => simp [intOf]; omega
          · have Hans := Lib.hid (mlAns_yes (l := l) (l' := l') Hn.out Hn'.out Hbeg.out fun i hi => by rw [Hpp.out]; exact Hpre2.out i (by omega))
            go_wp2_with fail
            go_ret
            exact ⟨by rw [Hans.out]; rfl, hbel2⟩

theorem impl_MatchLogs_any (l l' : List IS) (w : World) (S : Nat → Prop) (hS : ∀ b, S b → b < w.heap.size) (A A' : Option Addr) (n c n' c' : Nat) (hl0 : RepL w S l A n c) (hl1 : RepL w S l' A' n' c') :
    Calls Try.prog 12 #[.slice A n c, .slice A' n' c'] w fun x w' => x = .returned (.tuple #[.bool ((goodEn l && goodEn l') && mlAns l l'), .bool (goodEn l && goodEn l')]) ∧ Below w.heap.size w w' := by
  obtain ⟨r, hr⟩ : ∃ r, goodEn l = r := ⟨_, rfl⟩
  obtain ⟨r', hr'⟩ : ∃ r, goodEn l' = r := ⟨_, rfl⟩
  have C1 := Lib.hid (fun w S hS h => areEntries_any l w S hS A n c h)
  have C2 := Lib.hid (fun w S hS h => areEntries_any l' w S hS A' n' c' h)
  rw [hr, hr']
  rw [hr] at C1
  rw [hr'] at C2
  have Hr := Lib.hid hr
  have Hr' := Lib.hid hr'
  clear hr hr'
  cases r with
  | false =>
    go_enter Try.func12, Try.ntmps12
    go_wp2_with fail
    refine (C1.out w S hS hl0).mono ?_
    rintro e w1 ⟨rfl, b1⟩
    go_wp2_with fail
    go_ret2
    exact ⟨rfl, b1⟩
  | true =>
    cases r' with
    | false =>
      go_enter Try.func12, Try.ntmps12
      go_wp2_with fail
      refine (C1.out w S hS hl0).mono ?_
      rintro e w1 ⟨rfl, b1⟩
      go_wp2_with fail
      refine (C2.out w1 S (fun b hb => Nat.lt_of_lt_of_le (hS b hb) b1.size) (hl1.keep (fun p hp => b1.cell (hS _ hp)))).mono ?_
      rintro e w2 ⟨rfl, b2⟩
      go_wp2_with fail
      go_ret2
      exact ⟨rfl, bnext b1 b2⟩
    | true =>
      go_enter Try.func12, Try.ntmps12
      go_wp2_with fail
      refine (C1.out w S hS hl0).mono ?_
      rintro e w1 ⟨rfl, b1⟩
      go_wp2_with fail
      refine (C2.out w1 S (fun b hb => Nat.lt_of_lt_of_le (hS b hb) b1.size) (hl1.keep (fun p hp => b1.cell (hS _ hp)))).mono ?_
      rintro e w2 ⟨rfl, b2⟩
      have B2 := bnext b1 b2
      go_wp2_with fail
      refine (matchLogs_any l l' (goodEn_len Hr.out) (goodEn_len Hr'.out) w2 S (fun b hb => Nat.lt_of_lt_of_le (hS b hb) B2.size) A A' n c n' c' (hl0.keep (fun p hp => B2.cell (hS _ hp))) (hl1.keep (fun p hp => B2.cell (hS _ hp)))).mono ?_
      rintro e w3 ⟨rfl, b3⟩
      go_wp2_with fail
      go_ret2
      exact ⟨rfl, bnext B2 b3⟩
end Go.Proofs.Ytgcliipdkoefaaa

/-
  Contracts: StartsOf of the reference and of the program.
-/
namespace Go.Proofs.Ytgcliipdkoefaaa
open Go.ChangeShapes Go.WideShapes Go.ChangeAt Go.RowKit Go.BigFrame
set_option linter.unusedVariables false

/-- What StartsOf answers. -/
noncomputable def ssOf (l : List IS) : List P2 := if goodEn l then startsTo l l.length else []

theorem spec_StartsOf_any (l : List IS) (w : World) (S : Nat → Prop) (hS : ∀ b, S b → b < w.heap.size) (A : Option Addr) (n c : Nat) (hl0 : RepL w S l A n c) :
    Calls Try.prog 14 #[.slice A n c] w fun x w' => ∃ A2 m c2, x = .returned (.tuple #[.slice A2 m c2, .bool (goodEn l)]) ∧ m ≤ 40 ∧ MadeS w w' 55 (ssOf l) A2 m c2 ∧ Below w.heap.size w w' := by
  obtain ⟨r0, hr0⟩ : ∃ r, goodEn l = r := ⟨_, rfl⟩
  have R0 := Lib.hid hr0
  clear hr0
  cases r0 with
  | false =>
    have Hf := Lib.hid (show ssOf l = [] by unfold ssOf; rw [R0.out]; rfl)
    go_enter Try.func14, Try.ntmps14
    go_wp2_with fail
    refine (spec_GoodEntries_any l w S hS A n c hl0).mono ?_
    rintro e w1 ⟨rfl, b1⟩
    rw [R0.out]
    go_wp2_with fail
    go_ret2
    exact ⟨none, 0, 0, by rw [R0.out]; rfl, by omega, by rw [Hf.out]; exact MadeS.nil_ _ _ _, b1⟩
  | true =>
    have Hf := Lib.hid (show ssOf l = startsTo l l.length by unfold ssOf; rw [R0.out]; rfl)
    have hlen : l.length ≤ 40 := by
      rcases Nat.lt_or_ge 40 l.length with h | h
      · have := R0.out; rw [goodEn_long (by omega)] at this; cases this
      · exact h
    go_enter Try.func14, Try.ntmps14
    go_wp2_with fail
    refine (spec_GoodEntries_any l w S hS A n c hl0).mono ?_
    rintro e w1 ⟨rfl, b1⟩
    rw [R0.out]
    go_wp2_with fail
    refine (l7Starts_any l hlen w1 S (fun x hx => Nat.lt_of_lt_of_le (hS x hx) b1.size) A n c (hl0.keep (fun p hp => b1.cell (hS _ hp)))).mono ?_
    rintro e w2 ⟨A2, m, c2, rfl, hm, hmade, b2⟩
    go_wp2_with fail
    go_ret2
    exact ⟨A2, m, c2, by rw [R0.out]; rfl, hm, by rw [Hf.out]; exact hmade.from_ b1.size, bnext b1 b2⟩

theorem impl_StartsOf_any (l : List IS) (w : World) (S : Nat → Prop) (hS : ∀ b, S b → b < w.heap.size) (A : Option Addr) (n c : Nat) (hl0 : RepL w S l A n c) :
    Calls Try.prog 15 #[.slice A n c] w fun x w' => ∃ A2 m c2, x = .returned (.tuple #[.slice A2 m c2, .bool (goodEn l)]) ∧ m ≤ 40 ∧ MadeS w w' 55 (ssOf l) A2 m c2 ∧ Below w.heap.size w w' := by
  obtain ⟨r0, hr0⟩ : ∃ r, goodEn l = r := ⟨_, rfl⟩
  have R0 := Lib.hid hr0
  clear hr0
  cases r0 with
  | false =>
    have Hf := Lib.hid (show ssOf l = [] by unfold ssOf; rw [R0.out]; rfl)
    go_enter Try.func15, Try.ntmps15
    go_wp2_with fail
    refine (areEntries_any l w S hS A n c hl0).mono ?_
    rintro e w1 ⟨rfl, b1⟩
    rw [R0.out]
    go_wp2_with fail
    go_ret2
    exact ⟨none, 0, 0, by rw [R0.out]; rfl, by omega, by rw [Hf.out]; exact MadeS.nil_ _ _ _, b1⟩
  | true =>
    have Hf := Lib.hid (show ssOf l = startsTo l l.length by unfold ssOf; rw [R0.out]; rfl)
    have hlen : l.length ≤ 40 := by
      rcases Nat.lt_or_ge 40 l.length with h | h
      · have := R0.out; rw [goodEn_long (by omega)] at this; cases this
      · exact h
    go_enter Try.func15, Try.ntmps15
    go_wp2_with fail
    refine (areEntries_any l w S hS A n c hl0).mono ?_
    rintro e w1 ⟨rfl, b1⟩
    rw [R0.out]
    go_wp2_with fail
    refine (startsOf_any l hlen w1 S (fun x hx => Nat.lt_of_lt_of_le (hS x hx) b1.size) A n c (hl0.keep (fun p hp => b1.cell (hS _ hp)))).mono ?_
    rintro e w2 ⟨A2, m, c2, rfl, hm, hmade, b2⟩
    go_wp2_with fail
    go_ret2
    exact ⟨A2, m, c2, by rw [R0.out]; rfl, hm, by rw [Hf.out]; exact hmade.from_ b1.size, bnext b1 b2⟩

end Go.Proofs.Ytgcliipdkoefaaa

/-
  Sub-slices; append in a region that draws its order.
-/
namespace Go.Proofs.Ytgcliipdkoefaaa
open Go.ChangeShapes Go.WideShapes Go.ChangeAt Go.RowKit Go.BigFrame Go.Deep
set_option linter.unusedVariables false

set_option maxHeartbeats 4000000
theorem RepL.take_ {α : Type} [Rep α] {w : World} {S : Nat → Prop} {l : List α} {A : Option Addr} {n c : Nat} (h : RepL w S l A n c) {k : Nat} (hk : k ≤ n) : RepL w S (l.take k) A k c := by
  obtain ⟨rfl, A', c', e, h1, h2, h4, h3⟩ := h
  simp only [List.cons.injEq, Value.slice.injEq, and_true] at e
  obtain ⟨rfl, -, rfl⟩ := e
  have hl : k = (l.take k).length := by rw [List.length_take]; omega
  refine ⟨hl, A, c, by rw [← hl], by rw [← hl]; omega, h2, h4, fun i hi => ?_⟩
  obtain ⟨b, off, xs, hA, hS, hc, hr⟩ := h3 i (by omega)
  exact ⟨b, off, xs, hA, hS, hc, by rw [List.getElem_take]; exact hr⟩
theorem RepL.drop_ {α : Type} [Rep α] {w : World} {S : Nat → Prop} {l : List α} {b off n c : Nat} (h : RepL w S l (some ⟨b, off, none⟩) n c) {k : Nat} (hk : k ≤ n) : RepL w S (l.drop k) (some ⟨b, off + k * Rep.size α, none⟩) (n - k) (c - k) := by
  obtain ⟨rfl, A', c', e, h1, h2, h4, h3⟩ := h
  simp only [List.cons.injEq, Value.slice.injEq, and_true] at e
  obtain ⟨rfl, -, rfl⟩ := e
  have hl : l.length - k = (l.drop k).length := by rw [List.length_drop]
  refine ⟨hl, _, c - k, by rw [← hl], by rw [← hl]; omega, by omega, (fun e => by cases e), fun i hi => ?_⟩
  rw [List.length_drop] at hi
  obtain ⟨b', off', xs, hA, hS, hc, hr⟩ := h3 (k + i) (by omega)
  simp only [Option.some.injEq, Addr.mk.injEq, and_true] at hA
  obtain ⟨rfl, rfl⟩ := hA
  refine ⟨b, off + k * Rep.size α, xs, rfl, hS, fun j u hu => ?_, by rw [List.getElem_drop]; exact hr⟩
  have := hc j u hu
  rw [Nat.add_mul] at this
  rw [show off + k * Rep.size α + (i * Rep.size α + j) = off + (k * Rep.size α + i * Rep.size α + j) by omega]
  exact this
theorem RepL.drop_if {α : Type} [Rep α] {w : World} {S : Nat → Prop} {l : List α} {A : Option Addr} {n c s : Nat} (h : RepL w S l A n c) {k : Nat} (hk : k ≤ n) (hs : s = Rep.size α) : RepL w S (l.drop k) (if c = k then A else A.map (fun x => x.add (k * s))) (n - k) (c - k) := by
  subst hs
  have hbd := h.bd
  by_cases e : n - k = 0
  · have hl : l.drop k = [] := List.drop_of_length_le (by rw [← h.1]; omega)
    rw [hl, e]
    refine ⟨rfl, _, c - k, rfl, Nat.zero_le _, by unfold maxLen; omega, fun hA => ?_, fun i hi => absurd hi (by simp)⟩
    split at hA
    · omega
    · cases A with
      | none => have := h.cap0; omega
      | some a => cases hA
  · have h0 : 0 < l.length := by have := h.1; omega
    obtain ⟨b, off, xs, rfl, -⟩ := h.at_ h0
    rw [if_neg (by omega)]
    have := h.drop_ hk
    simpa [Addr.add_lit] using this
theorem sliceL {α : Type} [Rep α] {w w' : World} {B : Nat} {S : Nat → Prop} {l : List α} {A : Option Addr} {n c : Nat} (h : RepL w S l A n c) (hS : ∀ b, S b → b < B) (hb : Below B w w') : RepL w' S l A n c := h.keep (fun p hp => hb.cell (hS _ hp))
/-- A row of two rows. -/
theorem RepL.two_ {α : Type} [Rep α] {W : World} {S : Nat → Prop} {a b : List α} {A A' : Option Addr} {n c n' c' g : Nat} {T : TypeId} (h : RepL W S a A n c) (h' : RepL W S b A' n' c') (hg : W.heap[g]? = some (.cells #[.slice A n c, .slice A' n' c'] T (0, 0))) :
    RepL W (fun x => S x ∨ x = g) [a, b] (some ⟨g, 0, none⟩) 2 2 := by
  refine ⟨rfl, some ⟨g, 0, none⟩, 2, rfl, Nat.le_refl _, by simp [maxLen], (fun e => by cases e), fun i hi => ?_⟩
  have hz : Rep.size (List α) = 1 := rfl
  match i, hi with
  | 0, _ =>
    obtain ⟨rfl, hr⟩ := h
    refine ⟨g, 0, [.slice A a.length c], rfl, .inr rfl, fun j u hu => ?_, Rep.more hr (fun _ hx => .inl hx)⟩
    cases j with
    | zero =>
      rw [cell_of_row W g _ _ T (0, 0) hg]
      simpa using hu
    | succ j => simp at hu
  | 1, _ =>
    obtain ⟨rfl, hr⟩ := h'
    refine ⟨g, 0, [.slice A' b.length c'], rfl, .inr rfl, fun j u hu => ?_, Rep.more hr (fun _ hx => .inl hx)⟩
    cases j with
    | zero =>
      rw [cell_of_row W g _ _ T (0, 0) hg]
      simpa [hz] using hu
    | succ j => simp at hu
section
variable {P : Program} (w : World)
theorem step_append_list {α : Type} [Flat α] {ops : Array Oper} {o : Oper} {a : Act} {K : Act → World → Prop} {Q : Exit → Act → World → Prop} {E : Prop} (hgd : o.guard = none) (s x : Operand) (t : TypeId)
    (ho : o.op = .call { callee := .builtin .append, args := #[s, x], argTypes := #[t, t] })
    (base : Nat) (e : TypeId) (i : TypeInfo) (z : Value) (size bytes : Nat) (ht : P.underlying t = some (.slice e)) (hi : P.info? e = some i) (hz : i.zero = some z)
    (hsize : i.size = size) (hby : i.bytes = bytes) (hzs : z.cells.size = size) (hsz : 0 < size) (hfs : size = Flat.size α)
    (v : Value) (l : List α) (k : Nat) (hs : a.eval s = v) (hown : w.ownsRow base e size v k (encs l))
    (S : Nat → Prop) (A : Option Addr) (m c : Nat) (l' : List α) (hx : a.eval x = .slice A m c) (hr : RepL w S l' A m c)
    (hsm : k + m ≤ 1000000000) (hbm : bytes ≤ 100000) (hbase : base ≤ w.heap.size)
    (h : ∀ v' w', w'.ownsRow base e size v' (k + m) (encs (l ++ l')) → w.grownBy w' v.ownBlock → (v'.ownBlock = v.ownBlock ∨ v'.ownBlock = some w.heap.size) → K (a.put o.dst v') w') :
    if Region.wanted o (yielded ops a.tmps) = true then Oper.wp P o a w K Q else E := by
  have hw : Region.wanted o (yielded ops a.tmps) = true := by simp [Region.wanted, hgd]
  rw [if_pos hw]
  obtain ⟨v', w', hrun, h2, h3, h4⟩ := run_append_rep (P := P) w base t o.type e i z size bytes ht hi hz hsize hby hzs hsz v k (encs l) hown A m c (encs l') (by rw [encs_len, hfs, hr.1])
    (fun e => by subst e; exact hr.none_.1) (fun ad e => by subst e; exact hr.cells) (encs_one l') (by unfold maxLen; omega)
    (Nat.le_trans (Nat.mul_le_mul hsm hbm) (by omega)) hbase
  unfold Oper.wp execOp
  simp only [ho, resolve, invoke, builtin, Sem.run_bind, Sem.run_pure, Result.andThen_ok, List.map_toArray, List.map_cons, List.map_nil, hs, hx, hrun]
  exact h v' w' (by rw [encs_append]; exact h2) h3 h4
end
end Go.Proofs.Ytgcliipdkoefaaa

/-
  Contract: slices.Reverse at []Start, a row of the call's own.
-/
namespace Go.Proofs.Ytgcliipdkoefaaa
open Go.ChangeShapes Go.WideShapes Go.ChangeAt Go.RowKit Go.BigFrame Go.Deep
set_option linter.unusedVariables false

set_option maxHeartbeats 4000000
/-- The first i and the last i elements have changed places. -/
def revTo {α : Type} (l : List α) (i : Nat) (L : List α) : Prop := L.length = l.length ∧ ∀ t, t < l.length → L[t]? = if t < i ∨ l.length ≤ t + i then l[l.length - 1 - t]? else l[t]?
theorem revTo_zero {α : Type} (l : List α) : revTo l 0 l := ⟨rfl, fun t ht => by rw [if_neg (by omega)]⟩
theorem revTo_end {α : Type} {l L : List α} {i : Nat} (h : revTo l i L) (hi : l.length ≤ i + i + 1) : L = l.reverse := by
  apply List.ext_getElem?
  intro t
  by_cases ht : t < l.length
  · rw [h.2 t ht, List.getElem?_reverse ht]
    split
    · rfl
    · congr 1; omega
  · rw [List.getElem?_eq_none (by rw [h.1]; omega), List.getElem?_eq_none (by rw [List.length_reverse]; omega)]
theorem revTo_step {α : Type} {l L : List α} {i j : Nat} {x y : α} (h : revTo l i L) (hj : j = l.length - 1 - i) (hij : i < j) (hx : L[i]? = some x) (hy : L[j]? = some y) : revTo l (i + 1) ((L.set i y).set j x) := by
  refine ⟨by simp [h.1], fun t ht => ?_⟩
  have e1 := h.2 i (by omega)
  have e2 := h.2 j (by omega)
  rw [if_neg (by omega)] at e1 e2
  rw [List.getElem?_set]
  by_cases h1 : j = t
  · subst h1
    rw [if_pos rfl, if_pos (by simp [h.1]; omega), if_pos (by omega), ← hx, e1]
    congr 1; omega
  · rw [if_neg h1, List.getElem?_set]
    by_cases h2 : i = t
    · subst h2
      rw [if_pos rfl, if_pos (by rw [h.1]; omega), if_pos (by omega), ← hy, e2]
      congr 1
    · rw [if_neg h2, h.2 t ht]
      by_cases h3 : t < i ∨ l.length ≤ t + i
      · rw [if_pos h3, if_pos (by omega)]
      · rw [if_neg h3, if_neg (by omega)]
theorem reverseSta_any (l : List P2) (w : World) (base : Nat) (A : Option Addr) (n c : Nat) (hn : n = l.length) (hsm : n ≤ 1048576) (h : w.ownsRow base 55 2 (.slice A n c) n (encs l)) :
    Calls Try.prog 74 #[.slice A n c] w fun e w' => (∃ v0, e = .returned v0) ∧ w'.ownsRow base 55 2 (.slice A n c) n (encs l.reverse) ∧ w.grownBy w' (Value.slice A n c).ownBlock ∧ w.heap.size = w'.heap.size := by
  have Hn := Lib.hid hn
  clear hn
  go_enter Try.func74, Try.ntmps74
  go_wp2_with fail
  go_loopw [2, 3] (fun p q wr => ∃ (i : Nat) (L : List P2), i ≤ n ∧ p = .int .i64 i ∧ q = .int .i64 ((n : Int) - 1 - i) ∧ revTo l i L ∧ wr.ownsRow base 55 2 (.slice A n c) n (encs L) ∧ w.grownBy wr (Value.slice A n c).ownBlock ∧ w.heap.size = wr.heap.size) (fun p _ _ => n - (intOf p).toNat)
  case atStart => exact ⟨0, l, Nat.zero_le _, rfl, by simp, revTo_zero l, h, World.grownBy.refl _ _, rfl⟩
  case round =>
    obtain ⟨i, L, hi, rfl, rfl, hrev, hown, hgr, hsz⟩ := hrel
    have Hsz := Lib.hid hsz
    have Hgr := Lib.hid hgr
    have Hrev := Lib.hid hrev
    clear hsz hgr hrev
    by_cases hlt : i + 1 + i < n
    · obtain ⟨j, hj⟩ : ∃ j : Nat, (n : Int) - 1 - (i : Int) = (j : Int) := ⟨n - 1 - i, by omega⟩
      rw [hj]
      have hjn : j = n - 1 - i := by omega
      have hij : (i : Int) < (j : Int) := by omega
      have hjI : (j : Int) < (n : Int) := by omega
      have hiI : (i : Int) < (n : Int) := by omega
      have hi0 : (0 : Int) ≤ (i : Int) := by omega
      have hj0 : (0 : Int) ≤ (j : Int) := by omega
      have dlt : decide (i < j) = true := decide_eq_true (by omega)
      obtain ⟨g, rfl⟩ : ∃ g, A = some ⟨g, 0, none⟩ := by
        rcases h.2 with ⟨_, e⟩ | ⟨g, cap, cur, e, _⟩
        · omega
        · simp only [Value.slice.injEq] at e
          exact ⟨g, e.1⟩
      have hLl : L.length = n := by rw [Hrev.out.1]; exact Hn.out.symm
      obtain ⟨x, hx⟩ : ∃ x, L[i]? = some x := ⟨_, List.getElem?_eq_getElem (by omega)⟩
      obtain ⟨y, hy⟩ : ∃ y, L[j]? = some y := ⟨_, List.getElem?_eq_getElem (by omega)⟩
      obtain ⟨xa, xb⟩ := x
      obtain ⟨ya, yb⟩ := y
      have ci : ∀ t, t < 2 → (encs L)[i * 2 + t]? = (Flat.enc (⟨xa, xb⟩ : P2))[t]? := fun t ht => by
        obtain ⟨hl, e⟩ := List.getElem?_eq_some_iff.1 hx
        rw [← e]; exact encs_get L hl ht
      have cj : ∀ t, t < 2 → (encs L)[j * 2 + t]? = (Flat.enc (⟨ya, yb⟩ : P2))[t]? := fun t ht => by
        obtain ⟨hl, e⟩ := List.getElem?_eq_some_iff.1 hy
        rw [← e]; exact encs_get L hl ht
      have f0 : wr.cell? ⟨g, i * 2, none⟩ = some (.int .i64 xa) := (hown.cellAt (i * 2) (by omega)).trans (ci 0 (by omega))
      have f1 : wr.cell? ⟨g, i * 2 + 1, none⟩ = some (.int .i64 xb) := (hown.cellAt (i * 2 + 1) (by omega)).trans (ci 1 (by omega))
      have f2 : wr.cell? ⟨g, j * 2, none⟩ = some (.int .i64 ya) := (hown.cellAt (j * 2) (by omega)).trans (cj 0 (by omega))
      have f3 : wr.cell? ⟨g, j * 2 + 1, none⟩ = some (.int .i64 yb) := (hown.cellAt (j * 2 + 1) (by omega)).trans (cj 1 (by omega))
      have z0 := hown.frozenAt (i * 2)
      have z1 := hown.frozenAt (i * 2 + 1)
      have z2 := hown.frozenAt (j * 2)
      have z3 := hown.frozenAt (j * 2 + 1)
      have hne0 : i * 2 ≠ j * 2 := by omega
      have hne1 : i * 2 ≠ j * 2 + 1 := by omega
      have hne2 : i * 2 + 1 ≠ j * 2 := by omega
      have hne3 : i * 2 + 1 ≠ j * 2 + 1 := by omega
      have Hx := Lib.hid hx
      have Hy := Lib.hid hy
      have Hown := Lib.hid hown
      have Hjn := Lib.hid hjn
      clear hx hy hown hjn
      go_wp2_with fail
      go_region
      have hown := Hown.out
      have o1 := hown.stored (i * 2) (.int .i64 ya)
      have o2 := o1.1.stored (i * 2 + 1) (.int .i64 yb)
      have o3 := o2.1.stored (j * 2) (.int .i64 xa)
      have o4 := o3.1.stored (j * 2 + 1) (.int .i64 xb)
      have hg4 := ((o1.2.trans o2.2).trans o3.2).trans o4.2
      have e1 := encs_set L i ⟨ya, yb⟩ (by omega)
      have e2 := encs_set (L.set i ⟨ya, yb⟩) j ⟨xa, xb⟩ (by simp; omega)
      have hs : Flat.size P2 = 2 := rfl
      rw [hs] at e1 e2
      have h2 := Lib.hid (show (wr.setCell ⟨g, i * 2, none⟩ (.int .i64 ya) |>.setCell ⟨g, i * 2 + 1, none⟩ (.int .i64 yb) |>.setCell ⟨g, j * 2, none⟩ (.int .i64 xa) |>.setCell ⟨g, j * 2 + 1, none⟩ (.int .i64 xb)).ownsRow base 55 2 (.slice (some ⟨g, 0, none⟩) n c) n (encs ((L.set i ⟨ya, yb⟩).set j ⟨xa, xb⟩)) by
        rw [← e2, ← e1]
        exact o4.1)
      have Hg4 := Lib.hid hg4
      have hi1 : IntKind.i64.wrap ((i : Int) + 1) = (i : Int) + 1 := by rw [IntKind.wrap_i64]; omega
      have hj1 : IntKind.i64.wrap ((j : Int) - 1) = (j : Int) - 1 := by rw [IntKind.wrap_i64]; omega
      have Hhj := Lib.hid hj
      clear o1 o2 o3 o4 hg4 e1 e2 hown hs hj
      go_wp2_with fail
      go_roundw
      case rel =>
        refine ⟨i + 1, (L.set i ⟨ya, yb⟩).set j ⟨xa, xb⟩, by omega, by go_num, ?_, revTo_step Hrev.out (by have := Hn.out; have := Hjn.out; omega) (by omega) Hx.out Hy.out, h2.out.drew, ?_, ?_⟩
        · have := Hhj.out
          simp only [Value.int.injEq, true_and]
          omega
        · have h := Hgr.out.trans Hg4.out; exact ⟨h.os, h.tape, h.output, h.size, h.block⟩
        · simpa [World.setCell] using Hsz.out
      case measure => simp [intOf]; omega
    · have dlt : decide ((i : Int) < (n : Int) - 1 - (i : Int)) = false := decide_eq_false (by omega)
      go_wp2_with fail
      go_end0
      refine ⟨⟨_, rfl⟩, ?_, Hgr.out, Hsz.out⟩
      rw [← revTo_end Hrev.out (by have := Hn.out; omega)]
      exact hown
end Go.Proofs.Ytgcliipdkoefaaa

/-
  The plain law of findPart: up to where a follower keeps its entries; its closure's test.
-/
namespace Go.Proofs.Ytgcliipdkoefaaa
open Go.ChangeShapes Go.WideShapes Go.ChangeAt Go.RowKit Go.BigFrame Go.Deep
set_option linter.unusedVariables false

set_option maxHeartbeats 4000000
def hitP (x : Int) (y : P2) : Bool := y.a == x
/-- The place that follows from the start k that was hit. -/
def nextAt (st : List P2) (e : Int) (k : Nat) : Int := match st[k + 1]? with | some t => t.b | none => e
def fpAt (l : List IS) (st : List P2) (e : Int) (x : Int) (k : Nat) : Int := min (cntLe x l : Int) (nextAt st e k)
/-- The own starts are tried one by one. -/
def findR (l : List IS) (st : List P2) (e : Int) : List P2 → Int → Int × Int
  | [], n => (0, n)
  | s :: R, n => if 0 ≤ idxP (hitP s.a) st then (fpAt l st e s.a (idxP (hitP s.a) st).toNat, n + 1) else findR l st e R (n + 1)
def findL (l : List IS) (st : List P2) (e : Int) : Int × Int := findR l st e (startsTo l l.length).reverse 0
theorem findR_hit {l : List IS} {st : List P2} {e n : Int} {R : List P2} {j k : Nat} {s : P2} (hs : R[j]? = some s) (hk : idxP (hitP s.a) st = (k : Int)) : findR l st e (R.drop j) n = (fpAt l st e s.a k, n + 1) := by
  obtain ⟨hj, e1⟩ := List.getElem?_eq_some_iff.1 hs
  rw [List.drop_eq_getElem_cons hj, e1]
  unfold findR
  rw [hk, if_pos (by omega), Int.toNat_natCast]
theorem findR_miss {l : List IS} {st : List P2} {e n : Int} {R : List P2} {j : Nat} {s : P2} (hs : R[j]? = some s) (hk : idxP (hitP s.a) st = -1) : findR l st e (R.drop j) n = findR l st e (R.drop (j + 1)) (n + 1) := by
  obtain ⟨hj, e1⟩ := List.getElem?_eq_some_iff.1 hs
  rw [List.drop_eq_getElem_cons hj, e1]
  conv => lhs; unfold findR
  rw [hk, if_neg (by omega)]
theorem findR_end {l : List IS} {st : List P2} {e n : Int} {R : List P2} {j : Nat} (hj : R.length ≤ j) : findR l st e (R.drop j) n = (0, n) := by
  rw [List.drop_of_length_le hj]
  rfl
theorem nextAt_some {st : List P2} {e : Int} {k : Nat} {t : P2} (h : st[k + 1]? = some t) : nextAt st e k = t.b := by unfold nextAt; rw [h]
theorem nextAt_none {st : List P2} {e : Int} {k : Nat} (h : st.length ≤ k + 1) : nextAt st e k = e := by unfold nextAt; rw [List.getElem?_eq_none h]
theorem startsTo_epoch {l : List IS} (hl : ∀ e ∈ l, (Flat.ok e : Prop)) (hlen : l.length ≤ 40) : ∀ x ∈ startsTo l l.length, I64 x.a ∧ I64 x.b := startsTo_ok hl l.length (by omega)

theorem findPart1_pred (s : P2) (g : Nat) (w : World) (h0 : w.cell? ⟨g, 0, none⟩ = some (.int .i64 s.a)) :
    Pred Try.prog 76 #[.pointer (some ⟨g, 0, none⟩)] (fun x : P2 => .agg #[.int .i64 x.a, .int .i64 x.b]) Flat.ok (hitP s.a) w := by
  intro W x _ hW
  have hg := World.block_lt_of_cell? w _ h0
  have k0 : W.cell? ⟨g, 0, none⟩ = some (.int .i64 s.a) := (hW.cell (p := ⟨g, 0, none⟩) hg).trans h0
  have key : ∀ r1, (x.a == s.a) = r1 → Calls Try.prog 76 #[.agg #[.int .i64 x.a, .int .i64 x.b], .pointer (some ⟨g, 0, none⟩)] W fun e w' => e = .returned (.bool r1) ∧ Below W.heap.size W w' := by
    intro r1 hr1
    have k0' : (W.alloc (.cells #[.int .i64 x.a, .int .i64 x.b] 55)).cell? ⟨g, 0, none⟩ = some (.int .i64 s.a) := (World.cell?_alloc_lt _ _ _ (World.block_lt_of_cell? _ _ k0)).trans k0
    have HB := Lib.hid ((Below.refl W.heap.size W).alloc (Nat.le_refl _) (.cells #[.int .i64 x.a, .int .i64 x.b] 55))
    go_enter Try.func76, Try.ntmps76
    go_wp2_with fail
    go_ret
    exact ⟨rfl, HB.out⟩
  have h := key _ rfl
  have e : (#[Value.agg #[.int .i64 x.a, .int .i64 x.b]] ++ #[.pointer (some ⟨g, 0, none⟩)] : Array Value) = #[.agg #[.int .i64 x.a, .int .i64 x.b], .pointer (some ⟨g, 0, none⟩)] := rfl
  rw [← e] at h
  exact h
end Go.Proofs.Ytgcliipdkoefaaa

/-
  The plain law of FollowLog: where the kept part ends.
-/
namespace Go.Proofs.Ytgcliipdkoefaaa
open Go.ChangeShapes Go.WideShapes Go.ChangeAt Go.RowKit Go.BigFrame Go.Deep
set_option linter.unusedVariables false

set_option maxHeartbeats 4000000
theorem startsTo_at {l : List IS} : ∀ k, ∀ x ∈ startsTo l k, 0 ≤ x.b ∧ x.b < k := by
  intro k
  induction k with
  | zero => intro x hx; cases hx
  | succ k ih =>
    intro x hx
    unfold startsTo at hx
    split at hx
    · simp only [List.mem_append, List.mem_singleton] at hx
      rcases hx with hx | rfl
      · have := ih x hx; omega
      · constructor
        · show (0 : Int) ≤ (k : Int); omega
        · show (k : Int) < ((k + 1 : Nat) : Int); omega
    · have := ih x hx; omega
theorem findR_bd {l : List IS} {st : List P2} {e : Int} {N : Nat} (hst : ∀ x ∈ st, 0 ≤ x.b ∧ x.b ≤ e) (he : 0 ≤ e) : ∀ (R : List P2) (n : Int), 0 ≤ (findR l st e R n).1 ∧ (findR l st e R n).1 ≤ l.length ∧ (findR l st e R n).1 ≤ e := by
  intro R
  induction R with
  | nil => intro n; exact ⟨Int.le_refl _, by show (0 : Int) ≤ (l.length : Int); omega, he⟩
  | cons s R ih =>
    intro n
    unfold findR
    split
    · have h1 := cntLe_le s.a l
      have h2 : 0 ≤ nextAt st e (idxP (hitP s.a) st).toNat ∧ nextAt st e (idxP (hitP s.a) st).toNat ≤ e := by
        unfold nextAt
        cases ht : st[(idxP (hitP s.a) st).toNat + 1]? with
        | none => exact ⟨he, Int.le_refl _⟩
        | some t => exact hst t (List.mem_of_getElem? ht)
      refine ⟨?_, ?_, ?_⟩ <;> simp only [fpAt] <;> omega
    · exact ih (n + 1)
/-- Up to where the follower keeps its entries. -/
def foAt (l l' : List IS) : Nat := (findL l (startsTo l' l'.length) l'.length).1.toNat
theorem foAt_bd (l l' : List IS) : (findL l (startsTo l' l'.length) l'.length).1 = (foAt l l' : Int) ∧ foAt l l' ≤ l.length ∧ foAt l l' ≤ l'.length := by
  have h := findR_bd (l := l) (st := startsTo l' l'.length) (e := l'.length) (N := 0) (fun x hx => by have := startsTo_at _ x hx; omega) (by omega) (startsTo l l.length).reverse 0
  have h' : 0 ≤ (findL l (startsTo l' l'.length) l'.length).1 ∧ (findL l (startsTo l' l'.length) l'.length).1 ≤ l.length ∧ (findL l (startsTo l' l'.length) l'.length).1 ≤ l'.length := h
  unfold foAt
  omega
/-- What FollowLog makes. -/
def foL (l l' : List IS) : List IS := l.take (foAt l l') ++ l'.drop (foAt l l')
theorem foL_len (l l' : List IS) : (foL l l').length = l'.length := by
  have := foAt_bd l l'
  unfold foL
  rw [List.length_append, List.length_take, List.length_drop]
  omega
end Go.Proofs.Ytgcliipdkoefaaa

/-
  Contract: l7Find of the reference.
-/
namespace Go.Proofs.Ytgcliipdkoefaaa
open Go.ChangeShapes Go.WideShapes Go.ChangeAt Go.RowKit Go.BigFrame Go.Deep
set_option linter.unusedVariables false

set_option maxHeartbeats 4000000
theorem l7Find_any (l : List IS) (hlen : l.length ≤ 40) (st : List P2) (e : Int) (he : I64 e) (w : World) (S : Nat → Prop) (hS : ∀ b, S b → b < w.heap.size) (A A' : Option Addr) (n c n' c' : Nat) (hl0 : RepL w S l A n c) (hl1 : RepL w S st A' n' c') :
    Calls Try.prog 54 #[.slice A n c, .slice A' n' c', .int .i64 e] w fun x w' => x = .returned (.tuple #[.int .i64 (findL l st e).1, .int .i64 (findL l st e).2]) ∧ Below w.heap.size w w' := by
  have hbd' := hl1.bd
  have hn' := hl1.1
  obtain ⟨he1, he2⟩ := he
  have Hok := Lib.hid (startsTo_epoch hl0.ok hlen)
  have Hn' := Lib.hid hn'
  clear hn'
  go_enter Try.func54, Try.ntmps54
  go_wp2_with fail
  refine (l7Starts_any l hlen w S hS A n c hl0).mono ?_
  rintro e w1 ⟨A2, m, c2, rfl, hm40, ⟨ho, hr⟩, b1⟩
  have Hm := Lib.hid (show m = (startsTo l l.length).length from hr.1)
  have hrb := hr.bd
  obtain ⟨R, hR⟩ : ∃ R, (startsTo l l.length).reverse = R := ⟨_, rfl⟩
  have Hfl := Lib.hid (show findL l st e = findR l st e R 0 by unfold findL; rw [hR])
  have HRl := Lib.hid (show m = R.length by rw [← hR, List.length_reverse]; exact Hm.out)
  have hz1 := b1.size
  have HR := Lib.hid hR
  have Hr := Lib.hid hr
  clear hR hr
  clear ho
  go_wp2_with fail
  go_loopw [9, 10] (fun q i wr => ∃ k : Nat, k ≤ m ∧ q = .int .i64 k ∧ i = .int .i64 ((m : Int) - 1 - k) ∧ findR l st e R 0 = findR l st e (R.drop k) k ∧ Below w1.heap.size w1 wr) (fun q _ _ => m - (intOf q).toNat)
  case atStart => exact ⟨0, Nat.zero_le _, rfl, by simp, by rw [List.drop_zero]; rfl, Below.refl _ _⟩
  case round =>
    obtain ⟨k, hk, rfl, rfl, hpre, hbel⟩ := hrel
    have Hpre := Lib.hid hpre
    clear hpre
    have hz3 := hbel.size
    have hbT := bnext b1 hbel
    by_cases hlt : k < m
    · obtain ⟨t, ht⟩ : ∃ t : Nat, (m : Int) - 1 - (k : Int) = (t : Int) := ⟨m - 1 - k, by omega⟩
      rw [ht]
      have Htm := Lib.hid (show t = m - 1 - k by omega)
      have Hsub := Lib.hid (show IntKind.i64.wrap ((t : Int) - 1) = (m : Int) - 1 - ((k + 1 : Nat) : Int) by rw [IntKind.wrap_i64]; omega)
      have htI : (t : Int) < (m : Int) := by omega
      have ht0 : (0 : Int) ≤ (t : Int) := by omega
      have hw9 : IntKind.i64.wrap ((k : Int) + 1) = (k : Int) + 1 := by rw [IntKind.wrap_i64]; omega
      have hk1 : t < (startsTo l l.length).length := by have := Hm.out; omega
      obtain ⟨b, off, xs, rfl, hSb, hc, rfl, -⟩ := Hr.out.at_ hk1
      have hc0 := hc 0 _ rfl
      clear hc
      have hok := Hok.out _ (List.getElem_mem hk1)
      generalize hes : (startsTo l l.length)[t] = es at hc0 hok
      obtain ⟨se, sa⟩ := es
      have Hs := Lib.hid (show R[k]? = some ⟨se, sa⟩ by
        rw [← HR.out, List.getElem?_reverse (by have := Hm.out; omega), ← hes]
        have e : (startsTo l l.length).length - 1 - k = t := by have := Hm.out; have := Htm.out; omega
        rw [e]
        exact List.getElem?_eq_getElem hk1)
      have d0 : ∀ W, Below wr.heap.size wr W → ∀ p : Aft W, p.world.cell? ⟨b, off + t * 2, none⟩ = some (.int .i64 se) := fun W hW => Aft.cell (((bnext hbel hW).cell hSb.2).trans hc0)
      have D0 := Lib.hid d0
      clear d0
      have Hht := Lib.hid ht
      clear hc0 hes ht
      go_wp2_with fail
      go_loopw [28] (fun i wr' => ∃ j : Nat, j ≤ n' ∧ i = .int .i64 j ∧ (∀ i y, i < j → st[i]? = some y → hitP se y = false) ∧ Below wr.heap.size wr wr') (fun i _ => n' - (intOf i).toNat)
      case atStart => exact ⟨0, Nat.zero_le _, rfl, fun i y hi => absurd hi (by omega), Below.refl _ _⟩
      case round =>
        obtain ⟨j, hj, rfl, hpre2, hbel2⟩ := hrel
        have Hpre2 := Lib.hid hpre2
        clear hpre2
        have hbT2 := bnext hbT hbel2
        by_cases hlt2 : j < n'
        · have hj1 : j < st.length := by have := Hn'.out; omega
          obtain ⟨b', off', xs', rfl, hSb', hc, rfl, hok2⟩ := hl1.at_ hj1
          have hc0 := hc 0 _ rfl
          have hc1 := hc 1 _ rfl
          clear hc
          generalize hes : st[j] = es at hc0 hc1 hok2
          obtain ⟨x, y⟩ := es
          have Hx := Lib.hid (show st[j]? = some ⟨x, y⟩ by rw [List.getElem?_eq_getElem hj1, hes])
          have z0 : wr.cell? ⟨b', off' + j * 2, none⟩ = some (.int .i64 x) := (hbT2.cell (hS _ hSb')).trans hc0
          have z1 : wr.cell? ⟨b', off' + j * 2 + 1, none⟩ = some (.int .i64 y) := (hbT2.cell (hS _ hSb')).trans hc1
          obtain ⟨W, hW⟩ : ∃ W, W = wr.alloc (.cells #[.int .i64 x, .int .i64 y] 55) := ⟨_, rfl⟩
          have hbx : Below wr.heap.size wr W := by rw [hW]; exact (Below.refl _ _).alloc (Nat.le_refl _) _
          have x0 : ∀ p : Aft W, p.world.cell? ⟨wr.heap.size, 0, none⟩ = some (.int .i64 x) := Aft.cell (by rw [hW]; exact World.cell?_alloc_new _ _ _ 0)
          have hbW := bnext hbel2 hbx
          have d0 := D0.out W hbW
          have hjI : (j : Int) < (n' : Int) := by omega
          have hj0 : (0 : Int) ≤ (j : Int) := by omega
          obtain ⟨r, hr⟩ : ∃ r, (x != se) = r := ⟨_, rfl⟩
          have Hh := Lib.hid (show hitP se ⟨x, y⟩ = !r by rw [← hr]; unfold hitP bne; rw [Bool.not_not])
          clear hc0 hc1 hes hbx
          have HW := Lib.hid hW
          clear hW
          go_wp2_with fail
          rw [← HW.out]
          cases r with
          | true =>
            refine wp_region_aft (by kernel_rfl) (by kernel_rfl) ?_
            repeat (go_big_quiet_step (fail))
            refine wpQuiet_nil ?_
            rintro _ ⟨p, rfl⟩
            have hb2 := bnext hbW p.below
            go_wp2_with fail
            go_roundw
            case rel =>
              refine ⟨j + 1, by omega, by go_num, fun i y' hi hy => ?_, hb2⟩
              by_cases hik : i = j
              · subst hik
                rw [Hx.out] at hy
                obtain rfl := Option.some.inj hy
                exact Hh.out
              · exact Hpre2.out i y' (by omega) hy
            case measure => simp [intOf]; omega
          | false =>
            have Hxe := Lib.hid (show x = se by simpa using hr)
            have Hq := Lib.hid (idxP_hit (p := hitP se) Hpre2.out Hx.out Hh.out)
            have Hans := Lib.hid (show findL l st e = (fpAt l st e se j, (k : Int) + 1) by rw [Hfl.out, Hpre.out, findR_hit Hs.out Hq.out])
            have CE := Lib.hid (fun W S hS h => l7End_any l x hok2.1 W S hS A n c h)
            obtain ⟨cc, hcc⟩ : ∃ cc, cntLe x l = cc := ⟨_, rfl⟩
            rw [hcc] at CE
            have hccb : cc ≤ 40 := by rw [← hcc]; exact Nat.le_trans (cntLe_le _ _) hlen
            have Hcc := Lib.hid (show cntLe se l = cc by rw [← Hxe.out]; exact hcc)
            clear hcc
            refine wp_region_aft (by kernel_rfl) (by kernel_rfl) ?_
            repeat (go_big_quiet_step (fail))
            refine wpQuiet_nil ?_
            rintro _ ⟨p, rfl⟩
            have hb2 := bnext hbW p.below
            have hbT3 := bnext hbT hb2
            have y0 := x0 p
            have H3 := Lib.hid (hl0.keep (w' := p.world) (fun q hq => hbT3.cell (hS _ hq)))
            by_cases hnx : j + 1 < n'
            · have ht2 : j + 1 < st.length := by have := Hn'.out; omega
              obtain ⟨bb, ob, xs, hA', hSb2, hc, rfl, hok3⟩ := hl1.at_ ht2
              simp only [Option.some.injEq, Addr.mk.injEq, and_true] at hA'
              obtain ⟨rfl, rfl⟩ := hA'
              have z0 : p.world.cell? ⟨b', off' + (j + 1) * 2 + 1, none⟩ = some (.int .i64 st[j + 1].b) := (hbT3.cell (hS _ hSb2)).trans (hc 1 _ rfl)
              have Hnx := Lib.hid (show nextAt st e j = st[j + 1].b from nextAt_some (List.getElem?_eq_getElem ht2))
              have hjI : ((j + 1 : Nat) : Int) < (n' : Int) := by omega
              have hw1 : IntKind.i64.wrap ((j : Int) + 1) = ((j + 1 : Nat) : Int) := by rw [IntKind.wrap_i64]; omega
              clear hc
              go_wp2_with fail
              refine (CE.out p.world S (fun b hb => Nat.lt_of_lt_of_le (hS b hb) hbT3.size) H3.out).mono ?_
              rintro e w4 ⟨rfl, b4⟩
              by_cases hmn : (cc : Int) < st[j + 1].b
              · go_wp2_with fail
                go_ret2
                exact ⟨by rw [Hans.out]; unfold fpAt; rw [Hnx.out, Hcc.out]; congr 3; simp; omega, bnext hbT3 b4⟩
              · go_wp2_with fail
                go_ret2
                exact ⟨by rw [Hans.out]; unfold fpAt; rw [Hnx.out, Hcc.out]; congr 3; simp; omega, bnext hbT3 b4⟩
            · have Hnx := Lib.hid (show nextAt st e j = e from nextAt_none (by have := Hn'.out; omega))
              have hw1 : IntKind.i64.wrap ((j : Int) + 1) = ((j + 1 : Nat) : Int) := by rw [IntKind.wrap_i64]; omega
              go_wp2_with fail
              refine (CE.out p.world S (fun b hb => Nat.lt_of_lt_of_le (hS b hb) hbT3.size) H3.out).mono ?_
              rintro e w4 ⟨rfl, b4⟩
              by_cases hmn : (cc : Int) < e
              · go_wp2_with fail
                go_ret2
                exact ⟨by rw [Hans.out]; unfold fpAt; rw [Hnx.out, Hcc.out]; congr 3; simp; omega, bnext hbT3 b4⟩
              · go_wp2_with fail
                go_ret2
                exact ⟨by rw [Hans.out]; unfold fpAt; rw [Hnx.out, Hcc.out]; congr 3; simp; omega, bnext hbT3 b4⟩
        · have Hq := Lib.hid (idxP_miss (p := hitP se) (l := st) fun i y hi hy => Hpre2.out i y (by have := Hn'.out; omega) hy)
          go_wp2_with fail
          go_roundw
          case rel =>
            refine ⟨k + 1, by omega, by go_num, ?_, ?_, bnext hbel hbel2⟩
            · have := Hht.out
              simp only [Value.int.injEq, true_and]
              omega
            · rw [show (((k + 1 : Nat)) : Int) = (k : Int) + 1 by omega, Hpre.out, findR_miss Hs.out Hq.out]
          case measure => simp [intOf]; omega
    · have e1 : decide (0 ≤ (m : Int) - 1 - (k : Int)) = false := decide_eq_false (by omega)
      obtain rfl : k = m := by omega
      have Hans := Lib.hid (show findL l st e = (0, (k : Int)) by rw [Hfl.out, Hpre.out, findR_end (by have := HRl.out; omega)])
      go_wp2_with fail
      go_ret2
      exact ⟨by rw [Hans.out]; rfl, hbT⟩
end Go.Proofs.Ytgcliipdkoefaaa
