/-
  Proved: the law FnExactReadSay returns true for every input: the program's ReadSay answers what the reference's does. Conditions: the listed variables of the library hold what the program's text lays in them (the card ties them).
-/
import Derived.Laws.Append
import Derived.Test.YticinemcmgggpabDoorTie
import Derived.Test.YticinemcmgggpabDoorCards
import Derived.LaidMore
import Derived.LaidSub
import Derived.MakeChecks
import Derived.SevenTiedAt
import Derived.Stop.Joined
import Derived.Stop.LaidErr
import Derived.Shelf.Vars
import Derived.Lay
import Derived.ChangeMaps5
import Derived.Test.YticinemcmgggpabDoorM1
import Derived.Test.YticinemcmgggpabDoorM3
/-
  A calculus for walks, part 36: drawn regions in which what conflicts is ordered; one lexical walk serves every order.
-/
namespace Go.Proofs.YticinemcmgggpabDoor
open Go.ChangeShapes Go.WideShapes Go.ChangeAt Go.RowKit Go.BigFrame Go.Deep
set_option linter.unusedVariables false

set_option linter.unusedSimpArgs false
/-- For each operation, the ones that it waits for. -/
def cloAt (md : Region.Mode) (ops : Array Oper) : Nat → List (List Nat)
  | 0 => []
  | k + 1 => let l := cloAt md ops k; l ++ [match ops[k]? with | some o => (o.after.toList.flatMap fun e => if Region.binds md e then e.on :: l.getD e.on [] else []).eraseDups | none => []]
def waitsB (md : Region.Mode) (ops : Array Oper) (x y : Nat) : Bool := ((cloAt md ops ops.size).getD x []).contains y
theorem cloAt_len {md : Region.Mode} {ops : Array Oper} : ∀ k, (cloAt md ops k).length = k
  | 0 => rfl
  | k + 1 => by simp [cloAt, cloAt_len k]
theorem cloAt_keep {md : Region.Mode} {ops : Array Oper} {x : Nat} : ∀ k, x < k → (cloAt md ops k).getD x [] = (cloAt md ops (x + 1)).getD x []
  | 0, h => absurd h (by omega)
  | k + 1, h => by
    by_cases hx : x = k
    · subst hx; rfl
    · have h1 : x < k := by omega
      rw [← cloAt_keep k h1]
      simp only [cloAt, List.getD_eq_getElem?_getD]
      rw [List.getElem?_append_left (by rw [cloAt_len]; exact h1)]
theorem cloAt_at {md : Region.Mode} {ops : Array Oper} (k : Nat) : (cloAt md ops (k + 1)).getD k [] = match ops[k]? with | some o => (o.after.toList.flatMap fun e => if Region.binds md e then e.on :: (cloAt md ops k).getD e.on [] else []).eraseDups | none => [] := by
  simp only [cloAt, List.getD_eq_getElem?_getD]
  rw [List.getElem?_append_right (by rw [cloAt_len]; exact Nat.le_refl _), cloAt_len, Nat.sub_self]
  rfl
theorem waits_listed {md : Region.Mode} {ops : Array Oper} {listed : Array Bool} (hord : ordB md ops = true) (hcl : ∀ j o, ops[j]? = some o → listed.getD j false = true → ∀ e ∈ o.after, Region.binds md e = true → listed.getD e.on false = true) :
    ∀ x y, waitsB md ops x y = true → (∀ o, ops[x]? = some o → ∀ e ∈ o.after, Region.binds md e = true → listed.getD e.on false = true) → listed.getD y false = true := by
  intro x
  induction x using Nat.strongRecOn with
  | _ x ih =>
    intro y hw hx
    unfold waitsB at hw
    by_cases hxs : x < ops.size
    · rw [cloAt_keep _ hxs, cloAt_at] at hw
      obtain ⟨o, ho⟩ : ∃ o, ops[x]? = some o := ⟨_, Array.getElem?_eq_getElem hxs⟩
      simp only [ho] at hw
      have hm := List.mem_eraseDups.1 (List.contains_iff_mem.1 hw)
      obtain ⟨e, he, hy⟩ := List.mem_flatMap.1 hm
      have he : e ∈ o.after := by simpa using he
      split at hy
      · rename_i hb
        have hlt := ordB_after hord ho e he hb
        have hle := hx o ho e he hb
        rcases List.mem_cons.1 hy with h | h
        · rw [h]; exact hle
        · refine ih e.on hlt y ?_ (fun o' ho' => hcl e.on o' ho' hle)
          unfold waitsB
          rw [cloAt_keep _ (Nat.lt_trans hlt hxs), ← cloAt_keep x hlt]
          exact List.contains_iff_mem.2 h
      · cases hy
    · rw [List.getD_eq_getElem?_getD, List.getElem?_eq_none (by rw [cloAt_len]; omega)] at hw
      cases hw
/-- A heap with each name once. -/
def nub : Heap → Heap
  | [] => []
  | (k, o) :: l => (k, o) :: (nub l).filter fun p => p.1 != k
theorem lookup_filter_ne {k : Nat} : ∀ {l : Heap} {t : Nat}, t ≠ k → (l.filter fun p => p.1 != k).lookup t = l.lookup t
  | [], _, _ => rfl
  | (a, b) :: l, t, h => by
    by_cases e : a = k
    · subst e
      rw [List.filter_cons_of_neg (by simp), List.lookup_cons, show (t == a) = false by simpa using h]
      exact lookup_filter_ne h
    · rw [List.filter_cons_of_pos (by simpa using e), List.lookup_cons, List.lookup_cons]
      split
      · rfl
      · exact lookup_filter_ne h
theorem lookup_filter_eq {k : Nat} : ∀ {l : Heap}, (l.filter fun p => p.1 != k).lookup k = none
  | [] => rfl
  | (a, b) :: l => by
    by_cases e : a = k
    · subst e
      rw [List.filter_cons_of_neg (by simp)]; exact lookup_filter_eq
    · rw [List.filter_cons_of_pos (by simpa using e), List.lookup_cons, show (k == a) = false by simpa using fun h : k = a => e h.symm]
      exact lookup_filter_eq
theorem nub_lookup : ∀ {l : Heap} {t : Nat}, (nub l).lookup t = l.lookup t
  | [], _ => rfl
  | (k, o) :: l, t => by
    show ((k, o) :: _).lookup t = _
    rw [List.lookup_cons, List.lookup_cons]
    cases hb : t == k with
    | true => rfl
    | false =>
      show ((nub l).filter _).lookup t = l.lookup t
      rw [lookup_filter_ne (by simpa using hb)]; exact nub_lookup
theorem nub_mem : ∀ {l : Heap} {p : Nat × AObj}, p ∈ nub l → l.lookup p.1 = some p.2
  | [], _, h => by cases h
  | (k, o) :: l, p, h => by
    rcases List.mem_cons.1 h with h | h
    · rw [h]; simp
    · obtain ⟨h1, h2⟩ := List.mem_filter.1 h
      rw [List.lookup_cons, show (p.1 == k) = false by simpa using h2]
      exact nub_mem h1
/-- What else is held beside the touched objects. -/
structure XOk (tk new : List Nat) (X : Heap) : Prop where
  off : ∀ p ∈ X, tk.contains p.1 = false
  no : ∀ p ∈ X, ∀ id ∈ new, p.2.No id
theorem XOk.none {tk new : List Nat} {X : Heap} (h : XOk tk new X) {id : Nat} (hid : tk.contains id = true) : ∀ o, X.lookup id = some o → False := fun o ho => by
  have := h.off _ (lookup_mem ho)
  rw [show (id, o).1 = id from rfl, hid] at this; cases this
def LkX (X H : Heap) : Prop := ∀ k o, X.lookup k = some o → H.lookup k = some o
theorem LkX.refl {X : Heap} : LkX X X := fun _ _ h => h
theorem LkX.cons {X H : Heap} {id : Nat} {p : AObj} (hX : ∀ o, X.lookup id = some o → False) (h : LkX X H) : LkX X ((id, p) :: H) := fun k o hk => by
  rw [List.lookup_cons]
  cases hb : k == id with
  | true => have : k = id := by simpa using hb
            subst this; exact (hX o hk).elim
  | false => exact h k o hk
theorem LkX.filter {X H : Heap} {id : Nat} (hX : ∀ o, X.lookup id = some o → False) (h : LkX X H) : LkX X (H.filter fun p => p.1 != id) := fun k o hk => by
  rw [lookup_filter_ne (fun e => by subst e; exact (hX o hk).elim)]
  exact h k o hk
theorem FrH.app {id : Nat} : ∀ {H X : Heap}, FrH id H → (∀ p ∈ X, p.1 ≠ id ∧ p.2.No id) → FrH id (H ++ X)
  | [], [], _, _ => trivial
  | [], (k, o) :: X, _, h => ⟨(h _ (List.mem_cons_self ..)).1, (h _ (List.mem_cons_self ..)).2, FrH.app (H := []) (X := X) trivial fun p hp => h p (List.mem_cons_of_mem _ hp)⟩
  | (k, o) :: H, X, ⟨h1, h2, h3⟩, h => ⟨h1, h2, FrH.app h3 h⟩
theorem Fr.ext2 {id : Nat} {env E : Env} {H X : Heap} {tk new : List Nat} (h1 : Fr id ⟨env, H⟩) (hE : (new.all fun id => E.all fun p => p.2.no id) = true) (hX : XOk tk new X) (hid : new.contains id = true) (ht : tk.contains id = true) : Fr id ⟨env ++ E, H ++ X⟩ := by
  have hm := List.contains_iff_mem.1 hid
  have h2 := Fr.ext h1 (List.all_eq_true.1 hE id hm)
  exact ⟨h2.envB, FrH.app h1.heap fun p hp => ⟨fun e => (by have := hX.off p hp; rw [e, ht] at this; cases this), hX.no p hp id hm⟩⟩
theorem ARun.hleX {P : Program} {N : Nat} {w0 : Start} {ops : Array Oper} {Q : Sig → Prop} {rest : List Oper} {e : Env} {H H' X : Heap} (h : HeapLe H H') (hx : LkX X H) (hk : ARun P N w0 ops Q rest ⟨e, H' ++ X⟩) : ARun P N w0 ops Q rest ⟨e, H⟩ :=
  fun ρ S a w Q' hQ hs => hk ρ S a w Q' hQ ⟨hs.size, hs.defers, hs.below, hs.mem.le' fun k p hp => by
    rcases lookup_app hp with h1 | ⟨_, h1⟩
    · exact h.get h1
    · exact HLe.refl (hx k p h1), hs.env⟩
/-- An operation that touches the objects tk alone, whatever else is held. -/
def EffStepX (P : Program) (N : Nat) (w0 : Start) (ops : Array Oper) (o : Oper) (env : Env) (tk new : List Nat) (Hin : Heap) (F : Env) (Hout : Heap) : Prop :=
  ∀ (E : Env) (X : Heap), (new.all fun id => E.all fun p => p.2.no id) = true → XOk tk new X → ∀ (Q : Sig → Prop) (rest : List Oper), ARun P N w0 ops Q rest ⟨F ++ (env ++ E), Hout ++ X⟩ → ARun P N w0 ops Q (o :: rest) ⟨env ++ E, Hin ++ X⟩
/-- What an operation leaves of a heap. -/
def outH (tk : List Nat) (Hout H : Heap) : Heap := Hout ++ H.filter fun p => !tk.contains p.1
/-- One operation of such a walk: what it reads, touches and makes. -/
structure Row where
  rk : List Nat
  tk : List Nat
  new : List Nat
  out : Heap
def AllFr : List Nat → Heap → Prop
  | [], _ => True
  | id :: l, H => FrH id H ∧ AllFr l H
theorem AllFr.get : ∀ {l : List Nat} {H : Heap}, AllFr l H → ∀ id ∈ l, FrH id H
  | [], _, _, _, h => by cases h
  | x :: l, _, ⟨h1, h2⟩, id, h => by
    rcases List.mem_cons.1 h with h | h
    · rw [h]; exact h1
    · exact AllFr.get h2 id h
inductive ADsX (P : Program) (N : Nat) (w0 : Start) (ops : Array Oper) : List Nat → List Oper → List Row → Sig → Sig → Prop
  | nil {nw : List Nat} {σ : Sig} : ADsX P N w0 ops nw [] [] σ σ
  | pure {nw : List Nat} {o : Oper} {rest : List Oper} {rows : List Row} {σ τ : Sig} {d : Nat} {s : SV} (Hp : Heap) : o.dst = some d → d < N → OpStep P ops o (Sig.only ⟨σ.env, Hp⟩ (o.looksAt ops)) s → Sub Hp σ.heap →
      mentB nw (σ.env.filter fun p => (o.looksAt ops).contains p.1) s = true → ADsX P N w0 ops nw rest rows ⟨(d, s) :: σ.env, σ.heap⟩ τ → ADsX P N w0 ops nw (o :: rest) (⟨Hp.map (·.1), [], [], []⟩ :: rows) σ τ
  | eff {nw tk new : List Nat} {o : Oper} {rest : List Oper} {rows : List Row} {σ τ : Sig} {s : SV} {F : Env} {Hin Hout : Heap} : (∀ d, o.dst = some d → d < N) → EffStepX P N w0 ops o (Sig.only σ (o.looksAt ops)).env tk new Hin F Hout → Sub Hin σ.heap → FOk o.dst F s →
      (Hin.all fun p => tk.contains p.1) = true → (Hout.all fun p => tk.contains p.1) = true → (new.all fun id => tk.contains id && !(Hin.map (·.1)).contains id) = true → (new.all fun id => σ.env.all fun p => p.2.no id) = true → AllFr new σ.heap →
      mentB nw (σ.env.filter fun p => (o.looksAt ops).contains p.1) s = true → ADsX P N w0 ops (new ++ nw) rest rows ⟨consO o.dst s σ.env, outH tk Hout σ.heap⟩ τ → ADsX P N w0 ops nw (o :: rest) (⟨[], tk, new, Hout⟩ :: rows) σ τ
/-- What conflicts is ordered. -/
def confB (md : Region.Mode) (ops : Array Oper) (rows : List Row) : Bool :=
  (List.range rows.length).all fun b => match rows[b]? with
    | none => true
    | some y => (List.range b).all fun a => match rows[a]? with
        | none => true
        | some x => !(x.tk.any (fun id => y.tk.contains id || y.rk.contains id) || x.rk.any (fun id => y.tk.contains id)) || waitsB md ops b a
def HNo (id : Nat) : Heap → Prop
  | [] => True
  | (_, o) :: l => o.No id ∧ HNo id l
theorem HNo.get {id : Nat} : ∀ {H : Heap}, HNo id H → ∀ p ∈ H, p.2.No id
  | [], _, _, h => by cases h
  | (k, o) :: l, ⟨h1, h2⟩, p, h => by
    rcases List.mem_cons.1 h with h | h
    · rw [h]; exact h1
    · exact HNo.get h2 p h
def AllNo : List Nat → Heap → Prop
  | [], _ => True
  | id :: l, H => HNo id H ∧ AllNo l H
theorem AllNo.get : ∀ {l : List Nat} {H : Heap}, AllNo l H → ∀ id ∈ l, HNo id H
  | [], _, _, _, h => by cases h
  | x :: l, _, ⟨h1, h2⟩, id, h => by
    rcases List.mem_cons.1 h with h | h
    · rw [h]; exact h1
    · exact AllNo.get h2 id h
def NoNewA (md : Region.Mode) (ops : Array Oper) (a : Nat) (x : Row) : Nat → List Row → Prop
  | _, [] => True
  | b, y :: l => (a = b ∨ waitsB md ops a b = true ∨ AllNo y.new x.out) ∧ NoNewA md ops a x (b + 1) l
def NoNewL (md : Region.Mode) (ops : Array Oper) (all : List Row) : Nat → List Row → Prop
  | _, [] => True
  | a, x :: l => NoNewA md ops a x 0 all ∧ NoNewL md ops all (a + 1) l
/-- What an operation leaves does not speak of what another makes, unless it waits for it. -/
def NoNew (md : Region.Mode) (ops : Array Oper) (rows : List Row) : Prop := NoNewL md ops rows 0 rows
theorem NoNewA.get {md : Region.Mode} {ops : Array Oper} {a : Nat} {x : Row} : ∀ {l : List Row} {k b : Nat} {y : Row}, NoNewA md ops a x k l → l[b]? = some y → a = k + b ∨ waitsB md ops a (k + b) = true ∨ AllNo y.new x.out
  | [], _, _, _, _, h => by simp at h
  | z :: l, k, b, y, ⟨h1, h2⟩, h => by
    cases b with
    | zero => simp at h; subst h; exact h1
    | succ b =>
      have := NoNewA.get h2 (show l[b]? = some y by simpa using h)
      rwa [show k + 1 + b = k + (b + 1) by omega] at this
theorem NoNewL.get {md : Region.Mode} {ops : Array Oper} {all : List Row} : ∀ {l : List Row} {k a : Nat} {x : Row}, NoNewL md ops all k l → l[a]? = some x → NoNewA md ops (k + a) x 0 all
  | [], _, _, _, _, h => by simp at h
  | z :: l, k, a, x, ⟨h1, h2⟩, h => by
    cases a with
    | zero => simp at h; subst h; exact h1
    | succ a =>
      have := NoNewL.get h2 (show l[a]? = some x by simpa using h)
      rwa [show k + 1 + a = k + (a + 1) by omega] at this
theorem NoNew.get {md : Region.Mode} {ops : Array Oper} {rows : List Row} (h : NoNew md ops rows) : ∀ (a b : Nat) (x y : Row), rows[a]? = some x → rows[b]? = some y → a ≠ b → ∀ id ∈ y.new, waitsB md ops a b = true ∨ ∀ p ∈ x.out, p.2.No id := fun a b x y hx hy hab id hid => by
  have := NoNewA.get (NoNewL.get h hx) hy
  rw [Nat.zero_add, Nat.zero_add] at this
  rcases this with e | e | e
  · exact absurd e hab
  · exact .inl e
  · exact .inr (e.get id hid).get
def RowsFr (H : Heap) : List Row → Prop
  | [] => True
  | r :: l => AllFr r.new H ∧ RowsFr H l
theorem RowsFr.get {H : Heap} : ∀ {l : List Row}, RowsFr H l → ∀ {k : Nat} {r : Row}, l[k]? = some r → ∀ id ∈ r.new, FrH id H
  | [], _, _, _, h => by simp at h
  | x :: l, ⟨h1, h2⟩, k, r, h => by
    cases k with
    | zero => simp at h; subst h; exact h1.get
    | succ k => exact RowsFr.get h2 (show l[k]? = some r by simpa using h)
section
variable {P : Program} {N : Nat} {w0 : Start} {ops : Array Oper} {md : Region.Mode}
theorem ADsX.lay {nw0 : List Nat} {l : List Oper} {rows : List Row} {σ τ : Sig} (h : ADsX P N w0 ops nw0 l rows σ τ) : rows.length = l.length ∧ ∃ (s : Nat → SV) (e : Nat → Env) (Hs : Nat → Heap) (nw : Nat → List Nat), e 0 = σ.env ∧ Hs 0 = σ.heap ∧ nw 0 = nw0 ∧ τ = ⟨e l.length, Hs l.length⟩ ∧
    ∀ k o, l[k]? = some o → ∃ r, rows[k]? = some r ∧ (∀ d, o.dst = some d → d < N) ∧ e (k + 1) = consO o.dst (s k) (e k) ∧ nw (k + 1) = r.new ++ nw k ∧ mentB (nw k) ((e k).filter fun p => (o.looksAt ops).contains p.1) (s k) = true ∧ (r.new.all fun id => (e k).all fun p => p.2.no id) = true ∧ (∀ id ∈ r.new, FrH id (Hs k)) ∧ (∀ id, r.tk.contains id = false → (Hs (k + 1)).lookup id = (Hs k).lookup id) ∧ (∀ id ∈ r.new, r.tk.contains id = true) ∧
      ((o.dst.isSome = true ∧ r.tk = [] ∧ r.out = [] ∧ ∃ Hp, r.rk = Hp.map (·.1) ∧ Sub Hp (Hs k) ∧ OpStep P ops o (Sig.only ⟨e k, Hp⟩ (o.looksAt ops)) (s k)) ∨
       (∃ F Hin, EffStepX P N w0 ops o (Sig.only ⟨e k, Hs k⟩ (o.looksAt ops)).env r.tk r.new Hin F r.out ∧ Sub Hin (Hs k) ∧ FOk o.dst F (s k) ∧ (Hin.all fun p => r.tk.contains p.1) = true ∧ (r.out.all fun p => r.tk.contains p.1) = true ∧ (∀ id ∈ r.new, (Hin.map (·.1)).contains id = false) ∧ Hs (k + 1) = outH r.tk r.out (Hs k))) := by
  induction h with
  | @nil nw σ => exact ⟨rfl, fun _ => .one (.con undef), fun _ => σ.env, fun _ => σ.heap, fun _ => nw, rfl, rfl, rfl, rfl, fun k o hk => by simp at hk⟩
  | @pure nw1 o rest rows σ τ d0 s0 Hp hd hN hs hsub hm _ ih =>
    obtain ⟨hl, s, e, Hs, nw, h1, h2, h3, h4, h5⟩ := ih
    refine ⟨by simp [hl], fun k => if k = 0 then s0 else s (k - 1), fun k => if k = 0 then σ.env else e (k - 1), fun k => if k = 0 then σ.heap else Hs (k - 1), fun k => if k = 0 then nw1 else nw (k - 1), rfl, rfl, rfl, by rw [h4]; simp, fun k o' hk' => ?_⟩
    cases k with
    | zero =>
      simp at hk'
      subst hk'
      exact ⟨_, rfl, fun d e => by rw [hd] at e; cases e; exact hN, by simp [h1, hd, consO], by simp [h3], by simpa using hm, by simp, by simp, by simp [h2], by simp, .inl ⟨by rw [hd]; rfl, rfl, rfl, Hp, rfl, by simpa using hsub, by simpa using hs⟩⟩
    | succ k =>
      obtain ⟨r, g0, g1, g2, g3, g4, g5, g6, g6b, g6c, g7⟩ := h5 k o' (by simpa using hk')
      exact ⟨r, by simpa using g0, g1, by simpa using g2, by simpa using g3, by simpa using g4, by simpa using g5, by simpa using g6, by simpa using g6b, g6c, by simpa using g7⟩
  | @eff nw1 tk new o rest rows σ τ s0 F Hin Hout hN hs hin hF hti hto hnew hno hfr hm _ ih =>
    obtain ⟨hl, s, e, Hs, nw, h1, h2, h3, h4, h5⟩ := ih
    refine ⟨by simp [hl], fun k => if k = 0 then s0 else s (k - 1), fun k => if k = 0 then σ.env else e (k - 1), fun k => if k = 0 then σ.heap else Hs (k - 1), fun k => if k = 0 then nw1 else nw (k - 1), rfl, rfl, rfl, by rw [h4]; simp, fun k o' hk' => ?_⟩
    have hnew' : ∀ id ∈ new, tk.contains id = true ∧ (Hin.map (·.1)).contains id = false := fun id hid => by
      have := List.all_eq_true.1 hnew id hid
      rw [Bool.and_eq_true, Bool.not_eq_true'] at this; exact this
    cases k with
    | zero =>
      simp at hk'
      subst hk'
      refine ⟨_, rfl, hN, by simp [h1], by simp [h3], by simpa using hm, by simpa using hno, by simpa using hfr.get, fun id hid => ?_, fun id hid => (hnew' id hid).1, .inr ⟨F, Hin, by simpa using hs, by simpa using hin, by simpa using hF, hti, hto, fun id hid => (hnew' id hid).2, by simp [h2]⟩⟩
      have hid : tk.contains id = false := hid
      simp only [Nat.zero_add, Nat.one_ne_zero, if_false, if_true, Nat.sub_self, h2]
      have hnone : Hout.lookup id = none := by
        cases hl2 : Hout.lookup id with
        | none => rfl
        | some p => have := List.all_eq_true.1 hto _ (lookup_mem hl2); rw [show (id, p).1 = id from rfl, hid] at this; cases this
      show (outH tk Hout σ.heap).lookup id = _
      unfold outH
      rw [lookup_none_app hnone]
      generalize σ.heap = H
      induction H with
      | nil => rfl
      | cons p H ihh =>
        obtain ⟨a, b⟩ := p
        by_cases ha : tk.contains a = true
        · rw [List.filter_cons_of_neg (by show ¬ (!tk.contains a) = true; rw [ha]; decide), List.lookup_cons, show (id == a) = false by simpa using fun e : id = a => by rw [e, ha] at hid; cases hid]
          exact ihh
        · rw [List.filter_cons_of_pos (by simpa using ha), List.lookup_cons, List.lookup_cons]
          split
          · rfl
          · exact ihh
    | succ k =>
      obtain ⟨r, g0, g1, g2, g3, g4, g5, g6, g6b, g6c, g7⟩ := h5 k o' (by simpa using hk')
      exact ⟨r, by simpa using g0, g1, by simpa using g2, by simpa using g3, by simpa using g4, by simpa using g5, by simpa using g6, by simpa using g6b, g6c, by simpa using g7⟩
theorem outH_in {tk : List Nat} {Hout H : Heap} {id : Nat} (h : tk.contains id = true) : (outH tk Hout H).lookup id = Hout.lookup id := by
  unfold outH
  cases hl : Hout.lookup id with
  | some p => exact lookup_some_app hl
  | none =>
    rw [lookup_none_app hl]
    induction H with
    | nil => rfl
    | cons p H ihh =>
      obtain ⟨a, b⟩ := p
      by_cases ha : tk.contains a = true
      · rw [List.filter_cons_of_neg (by show ¬ (!tk.contains a) = true; rw [ha]; decide)]; exact ihh
      · rw [List.filter_cons_of_pos (by simpa using ha), List.lookup_cons, show (id == a) = false by simpa using fun e : id = a => by rw [e] at h; exact ha h]
        exact ihh
theorem lookup_off {tk : List Nat} {H : Heap} {id : Nat} (h : tk.contains id = false) : (H.filter fun p => !tk.contains p.1).lookup id = H.lookup id := by
  induction H with
  | nil => rfl
  | cons p H ihh =>
    obtain ⟨a, b⟩ := p
    by_cases ha : tk.contains a = true
    · rw [List.filter_cons_of_neg (by show ¬ (!tk.contains a) = true; rw [ha]; decide), List.lookup_cons, show (id == a) = false by simpa using fun e : id = a => by rw [e, ha] at h; cases h]
      exact ihh
    · rw [List.filter_cons_of_pos (by simpa using ha), List.lookup_cons, List.lookup_cons]
      split
      · rfl
      · exact ihh
/-- In the midst of such a region. -/
structure MidX (P : Program) (N : Nat) (w0 : Start) (ops : Array Oper) (md : Region.Mode) (rows : List Row) (s : Nat → SV) (Hs : Nat → Heap) (σ : Sig) (listed : Array Bool) (ρ : Rho) (S : Nat → Prop) (a : Act) (w : World) : Prop where
  len : listed.size = ops.size
  closed : ∀ j o, ops[j]? = some o → listed.getD j false = true → ∀ e ∈ o.after, Region.binds md e = true → listed.getD e.on false = true
  mem : ∃ H, St N w0 ρ S ⟨[], H⟩ a w ∧ ∀ id n, n ≤ ops.size → (∀ j r, j < n → rows[j]? = some r → r.tk.contains id = true → listed.getD j false = true) → (∀ j r, n ≤ j → rows[j]? = some r → r.tk.contains id = true → listed.getD j false = false) → H.lookup id = (Hs n).lookup id
  done : ∀ j o d, ops[j]? = some o → o.dst = some d → listed.getD j false = true → RS ρ w S (s j) (a.tmps.getD d undef)
  old : ∀ t x, σ.env.lookup t = some x → (∀ j o, ops[j]? = some o → o.dst = some t → listed.getD j false = false) → RS ρ w S x (a.tmps.getD t undef)
theorem any_orderX {rows : List Row} {σ τ : Sig} {Q : Exit → Act → World → Prop} (hord : ordB md ops = true) (h : ADsX P N w0 ops [] ops.toList rows σ τ) (hconf : confB md ops rows = true) (hnn : NoNew md ops rows) (hs0 : RowsFr σ.heap rows)
    (hQ : ∀ ρ S a w, St N w0 ρ S τ a w → Q .normal a w) :
    ∀ (ρ : Rho) (S : Nat → Prop) (a : Act) (w : World), St N w0 ρ S σ a w → wpAny P md ops Q ops.size (Array.replicate ops.size false) a w := by
  obtain ⟨hrl, s, e, Hs, nw, he0, hH0, hnw0, hτ, hst⟩ := h.lay
  have hlen : ops.toList.length = ops.size := by simp
  rw [hlen] at hrl
  have hstep : ∀ k o, ops[k]? = some o → _ := fun k o hk => hst k o (by first | exact hk | (rw [Array.getElem?_toList]; exact hk) | simpa using hk)
  have hget0 : ∀ k (hk : k < ops.size), ops[k]? = some (ops[k]'hk) := fun k hk => Array.getElem?_eq_getElem hk
  have hdst : ∀ (i j : Nat) (oi oj : Oper) (d : Nat), ops[i]? = some oi → ops[j]? = some oj → oi.dst = some d → oj.dst = some d → i = j := fun i j oi oj d hi hj h1 h2 => by
    rcases Nat.decEq i j with hd | hd
    · exact absurd (by rw [h1, h2]) ((ordB_pair hord hi hj).1 hd (by rw [h2]; simp))
    · exact hd
  -- conflicts
  have hcf : ∀ a b x y, rows[a]? = some x → rows[b]? = some y → a < b → ∀ id, ((x.tk.contains id = true ∧ (y.tk.contains id = true ∨ y.rk.contains id = true)) ∨ (x.rk.contains id = true ∧ y.tk.contains id = true)) → waitsB md ops b a = true := by
    intro a b x y hx hy hab id hc
    have hb : b < rows.length := (List.getElem?_eq_some_iff.1 hy).1
    have h1 := List.all_eq_true.1 hconf b (List.mem_range.2 hb)
    simp only [hy] at h1
    have h2 := List.all_eq_true.1 h1 a (List.mem_range.2 hab)
    simp only [hx] at h2
    rw [Bool.or_eq_true] at h2
    rcases h2 with h2 | h2
    · exfalso
      rw [Bool.not_eq_true', Bool.or_eq_false_iff] at h2
      rcases hc with ⟨c1, c2⟩ | ⟨c1, c2⟩
      · have := List.any_eq_false.1 h2.1 id (List.contains_iff_mem.1 c1)
        apply this
        rw [Bool.or_eq_true]; exact c2
      · exact List.any_eq_false.1 h2.2 id (List.contains_iff_mem.1 c1) c2
    · exact h2
  have hget : ∀ k, k ≤ ops.size → ∀ t x, (e k).lookup t = some x → (∃ j o, j < k ∧ ops[j]? = some o ∧ o.dst = some t ∧ x = s j) ∨ ((∀ j o, j < k → ops[j]? = some o → o.dst ≠ some t) ∧ σ.env.lookup t = some x) := by
    intro k
    induction k with
    | zero => intro _ t x h; exact .inr ⟨fun j o hj => absurd hj (by omega), by rw [← he0]; exact h⟩
    | succ k ih =>
      intro hk t x h
      obtain ⟨_, _, _, g2, _⟩ := hstep k _ (hget0 k (by omega))
      rw [g2] at h
      rcases consO_get h with ⟨h1, rfl⟩ | ⟨h1, h2⟩
      · exact .inl ⟨k, _, by omega, hget0 k (by omega), h1, rfl⟩
      · rcases ih (by omega) t x h2 with ⟨j, o, hj, q1, q2, q3⟩ | ⟨q1, q2⟩
        · exact .inl ⟨j, o, by omega, q1, q2, q3⟩
        · refine .inr ⟨fun j o hj ho => ?_, q2⟩
          by_cases hjk : j = k
          · subst hjk; rw [hget0 j (by omega)] at ho; cases ho; exact h1
          · exact q1 j o (by omega) ho
  have hmem : ∀ k, k ≤ ops.size → ∀ q ∈ e k, (∃ j o t, j < k ∧ ops[j]? = some o ∧ o.dst = some t ∧ q = (t, s j)) ∨ q ∈ σ.env := by
    intro k
    induction k with
    | zero => intro _ q h; exact .inr (by rw [← he0]; exact h)
    | succ k ih =>
      intro hk q h
      obtain ⟨_, _, _, g2, _⟩ := hstep k _ (hget0 k (by omega))
      rw [g2] at h
      rcases consO_mem h with ⟨t, h1, h2⟩ | h
      · exact .inl ⟨k, _, t, by omega, hget0 k (by omega), h1, h2⟩
      · rcases ih (by omega) q h with ⟨j, o, t, hj, q1, q2, q3⟩ | h
        · exact .inl ⟨j, o, t, by omega, q1, q2, q3⟩
        · exact .inr h
  have hup : ∀ k, k ≤ ops.size → ∀ i, i ≤ k → ∀ q ∈ e i, q ∈ e k := by
    intro k
    induction k with
    | zero => intro _ i hi q h; obtain rfl : i = 0 := (by omega); exact h
    | succ k ih =>
      intro hk i hi q h
      by_cases hik : i = k + 1
      · subst hik; exact h
      · obtain ⟨_, _, _, g2, _⟩ := hstep k _ (hget0 k (by omega))
        rw [g2]
        exact consO_mem' (ih (by omega) i (by omega) q h)
  have hnwup : ∀ k, k ≤ ops.size → ∀ j r, j < k → rows[j]? = some r → ∀ id ∈ r.new, id ∈ nw k := by
    intro k
    induction k with
    | zero => intro _ j r hj; omega
    | succ k ih =>
      intro hk j r hj hr id hid
      obtain ⟨r', g0, _, _, g3, _⟩ := hstep k _ (hget0 k (by omega))
      rw [g3]
      by_cases hjk : j = k
      · subst hjk; rw [g0] at hr; cases hr; exact List.mem_append_left _ hid
      · exact List.mem_append_right _ (ih (by omega) j r (by omega) hr id hid)
  have hfr : ∀ j r, rows[j]? = some r → ∀ id ∈ r.new, (∀ q ∈ e j, q.2.no id = true) ∧ FrH id (Hs j) ∧ r.tk.contains id = true := fun j r hr id hid => by
    have hj : j < ops.size := by have := (List.getElem?_eq_some_iff.1 hr).1; omega
    obtain ⟨r', g0, _, _, _, _, g5, g6, _, g6c, _⟩ := hstep j _ (hget0 j hj)
    rw [g0] at hr; cases hr
    exact ⟨fun q hq => List.all_eq_true.1 (List.all_eq_true.1 g5 id hid) q hq, g6 id hid, g6c id hid⟩
  -- the lexical heaps
  have hsame : ∀ id n m, n ≤ m → m ≤ ops.size → (∀ j r, n ≤ j → j < m → rows[j]? = some r → r.tk.contains id = false) → (Hs m).lookup id = (Hs n).lookup id := by
    intro id n m
    induction m with
    | zero => intro h1 _ _; obtain rfl : n = 0 := (by omega); rfl
    | succ m ih =>
      intro h1 h2 h3
      by_cases hnm : n = m + 1
      · subst hnm; rfl
      · obtain ⟨r, g0, _, _, _, _, _, _, g6b, _⟩ := hstep m _ (hget0 m (by omega))
        rw [g6b id (h3 m r (by omega) (by omega) g0)]
        exact ih (by omega) (by omega) fun j r hj1 hj2 => h3 j r hj1 (by omega)
  have hvers : ∀ n, n ≤ ops.size → ∀ id ob, (Hs n).lookup id = some ob → (∃ j r, j < n ∧ rows[j]? = some r ∧ r.tk.contains id = true ∧ (id, ob) ∈ r.out) ∨ σ.heap.lookup id = some ob := by
    intro n
    induction n with
    | zero => intro _ id ob h; rw [hH0] at h; exact .inr h
    | succ n ih =>
      intro hn id ob h
      obtain ⟨r, g0, _, _, _, _, _, _, g6b, _, g7⟩ := hstep n _ (hget0 n (by omega))
      by_cases ht : r.tk.contains id = true
      · rcases g7 with ⟨_, g, _⟩ | ⟨_, _, _, _, _, _, _, _, g⟩
        · rw [g] at ht; cases ht
        · rw [g, outH_in ht] at h
          exact .inl ⟨n, r, by omega, g0, ht, lookup_mem h⟩
      · rw [g6b id (by simpa using ht)] at h
        rcases ih (by omega) id ob h with ⟨j, r', q1, q2, q3, q4⟩ | h
        · exact .inl ⟨j, r', by omega, q2, q3, q4⟩
        · exact .inr h
  have hment : ∀ (listed : Array Bool) (_ : ∀ j o, ops[j]? = some o → listed.getD j false = true → ∀ e ∈ o.after, Region.binds md e = true → listed.getD e.on false = true) (k : Nat) (ok : Oper) (d : Nat), ops[k]? = some ok → ok.dst = some d → listed.getD k false = true → ∀ j r id, rows[j]? = some r → id ∈ r.new → (s k).no id = false → listed.getD j false = true := by
    intro listed hcl k
    induction k using Nat.strongRecOn with
    | _ k ih =>
      intro ok dk hok hdk hlk j r id hr hid hn
      have hk : k < ops.size := (Array.getElem?_eq_some_iff.1 hok).1
      have hj : j < ops.size := by have := (List.getElem?_eq_some_iff.1 hr).1; omega
      by_cases hjk : j = k
      · subst hjk; exact hlk
      · have hlt : j < k := by
          apply Classical.byContradiction
          intro hge
          have hin' : (dk, s k) ∈ e (k + 1) := by
            obtain ⟨_, _, _, g2, _⟩ := hstep k _ hok
            rw [g2, hdk]; exact List.mem_cons_self ..
          have := (hfr j r hr id hid).1 _ (hup j (by omega) (k + 1) (by omega) _ hin')
          rw [hn] at this; cases this
        obtain ⟨_, _, _, _, _, g4, _⟩ := hstep k _ hok
        have h8 := List.all_eq_true.1 g4 id (hnwup k (by omega) j r hlt hr id hid)
        rw [hn, Bool.false_or] at h8
        obtain ⟨q, hq, hqn⟩ := List.any_eq_true.1 h8
        obtain ⟨hqe, hql⟩ := List.mem_filter.1 hq
        simp only [Bool.not_eq_true'] at hqn
        rcases hmem k (by omega) q hqe with ⟨i, oi, t, hik, q1, q2, rfl⟩ | h0
        · have hli : listed.getD i false = true := by
            rcases (ordB_pair hord hok q1).2 _ q2 (by simpa using hql) with e1 | ⟨_, ed, hed, hb, hon⟩ | ⟨hn', _⟩
            · omega
            · rw [← hon]; exact hcl k _ hok hlk ed hed hb
            · omega
          exact ih i hik oi t q1 q2 hli j r id hr hid hqn
        · have := (hfr j r hr id hid).1 q (hup j (by omega) 0 (Nat.zero_le _) q (by rw [he0]; exact h0))
          rw [hqn] at this; cases this
  have key : ∀ fuel listed ρ S a w, unl listed ops.size = fuel → MidX P N w0 ops md rows s Hs σ listed ρ S a w → wpAny P md ops Q fuel listed a w := by
    intro fuel
    induction fuel with
    | zero =>
      intro listed ρ S a w hf hm
      have hall : ∀ j, j < ops.size → listed.getD j true = true := unl_zero _ hf
      have hallF : ∀ j, j < ops.size → listed.getD j false = true := fun j hj => by rw [← getD_tf (by rw [hm.len]; exact hj)]; exact hall j hj
      refine ⟨?_, ?_⟩
      · unfold Region.ready
        rw [List.filter_eq_nil_iff]
        intro i hi
        rw [hall i (List.mem_range.1 hi)]; simp
      · obtain ⟨H, hH, hv⟩ := hm.mem
        refine hQ ρ S a w ⟨hH.size, hH.defers, hH.below, ?_, fun t x ht => ?_⟩
        · rw [hτ, hlen]
          refine hH.mem.le' fun id ob hob => HLe.refl ?_
          rw [hv id ops.size (Nat.le_refl _) (fun j r hj _ _ => hallF j hj) (fun j r hj hr _ => by have := (List.getElem?_eq_some_iff.1 hr).1; omega)]
          exact hob
        · rw [hτ, hlen] at ht
          rcases hget _ (Nat.le_refl _) t x ht with ⟨j, o, hj, q1, q2, rfl⟩ | ⟨h1, h2⟩
          · exact hm.done j o t q1 q2 (hallF j hj)
          · exact hm.old t x h2 fun j o ho hd => absurd hd (h1 j o (Array.getElem?_eq_some_iff.1 ho).1 ho)
    | succ fuel ih =>
      intro listed ρ S a w hf hm
      refine ⟨fun hnil => ?_, fun i hi => ?_⟩
      · exfalso
        have hex : ∃ j, j < ops.size ∧ listed.getD j true = false := by
          by_cases hall : ∀ j, j < ops.size → listed.getD j true = true
          · have : ∀ k, k ≤ ops.size → unl listed k = 0 := by
              intro k
              induction k with
              | zero => intro _; rfl
              | succ k ihk => intro hk; simp only [unl]; rw [ihk (by omega), hall k (by omega)]; rfl
            have := this _ (Nat.le_refl _)
            omega
          · apply Classical.byContradiction
            intro hno
            exact hall fun j hj => by
              cases hb : listed.getD j true with
              | true => rfl
              | false => exact absurd ⟨j, hj, hb⟩ hno
        obtain ⟨j0, hj0⟩ := hex
        obtain ⟨j, ⟨hj, hb⟩, hmin⟩ := exists_min (p := fun j => j < ops.size ∧ listed.getD j true = false) j0 hj0
        have : j ∈ Region.ready md ops listed := by
          refine mem_ready.2 ⟨hb, _, hget0 j hj, fun ed hed hbd => ?_⟩
          have hlt := ordB_after hord (hget0 j hj) ed hed hbd
          have h1 : listed.getD ed.on true = true := by
            cases hc : listed.getD ed.on true with
            | true => rfl
            | false => have := hmin ed.on ⟨by omega, hc⟩; omega
          rw [← getD_tf (by rw [hm.len]; omega)]; exact h1
        rw [hnil] at this
        cases this
      · obtain ⟨hun, o, ho, hpre⟩ := mem_ready.1 hi
        have hilt : i < ops.size := (Array.getElem?_eq_some_iff.1 ho).1
        have hunf : listed.getD i false = false := by rw [← getD_tf (by rw [hm.len]; exact hilt)]; exact hun
        obtain ⟨r, hr, hN, hen, hnwi, hmen, hnoi, hfri, hoff, hnt, hop⟩ := hstep i o ho
        obtain ⟨H, hH, hv⟩ := hm.mem
        have hwl : ∀ y, waitsB md ops i y = true → listed.getD y false = true := fun y hy => waits_listed hord hm.closed i y hy (fun o' ho' => by rw [ho] at ho'; cases ho'; exact hpre)
        have hwn : ∀ y, waitsB md ops y i = true → listed.getD y false = false := fun y hy => by
          cases hb : listed.getD y false with
          | false => rfl
          | true =>
            have := waits_listed hord hm.closed y i hy (fun o' ho' => hm.closed y o' ho' hb)
            rw [hunf] at this; cases this
        -- what it reads or touches stands as the lexical walk has it
        have hnow : ∀ id, (r.tk.contains id = true ∨ r.rk.contains id = true) → H.lookup id = (Hs i).lookup id := fun id hid => by
          refine hv id i (by omega) (fun j r' hj hr' ht => hwl j (hcf j i r' r hr' hr hj id (.inl ⟨ht, hid⟩))) (fun j r' hj hr' ht => ?_)
          by_cases hji : j = i
          · subst hji; exact hunf
          · refine hwn j (hcf i j r r' hr hr' (by omega) id ?_)
            rcases hid with h | h
            · exact .inl ⟨h, .inl ht⟩
            · exact .inr ⟨h, ht⟩
        have hlook : ∀ t x, ((e i).filter fun p => (o.looksAt ops).contains p.1).lookup t = some x → RS ρ w S x (a.tmps.getD t undef) ∧ ((∃ j oj, ops[j]? = some oj ∧ oj.dst = some t ∧ listed.getD j false = true ∧ x = s j) ∨ (∀ j oj, ops[j]? = some oj → oj.dst = some t → listed.getD j false = false) ∧ σ.env.lookup t = some x) := by
          intro t x ht
          obtain ⟨htl, ht⟩ := lookup_filter ht
          rcases hget i (by omega) t x ht with ⟨j, oj, hj, q1, q2, rfl⟩ | ⟨h1, h2⟩
          · rcases (ordB_pair hord ho q1).2 _ q2 htl with e1 | ⟨_, ed, hed, hb, hon⟩ | ⟨hn, _⟩
            · omega
            · have hlj : listed.getD j false = true := by rw [← hon]; exact hpre ed hed hb
              exact ⟨hm.done j oj t q1 q2 hlj, .inl ⟨j, oj, q1, q2, hlj, rfl⟩⟩
            · exact absurd hj hn
          · have hno : ∀ j oj, ops[j]? = some oj → oj.dst = some t → listed.getD j false = false := fun j oj hj hdj => by
              rcases (ordB_pair hord ho hj).2 _ hdj htl with e1 | ⟨hlt, _⟩ | ⟨hn, ed, hed, hb, hon⟩
              · subst e1; exact hunf
              · exact absurd hdj (h1 j oj hlt hj)
              · cases hc : listed.getD j false with
                | false => rfl
                | true =>
                  have := hm.closed j _ hj hc ed hed hb
                  rw [hon, hunf] at this
                  cases this
            exact ⟨hm.old t x h2 hno, .inr ⟨hno, h2⟩⟩
        have hclosed' : ∀ j oj, ops[j]? = some oj → (listed.setIfInBounds i true).getD j false = true → ∀ ed ∈ oj.after, Region.binds md ed = true → (listed.setIfInBounds i true).getD ed.on false = true := by
          intro j oj hoj hl ed hed hb
          by_cases hji : j = i
          · subst hji
            rw [ho] at hoj
            obtain rfl := Option.some.inj hoj
            exact getD_set_true (hpre ed hed hb)
          · rw [getD_set_ne false (Ne.symm hji)] at hl
            exact getD_set_true (hm.closed j oj hoj hl ed hed hb)
        have hunl' : unl (listed.setIfInBounds i true) ops.size = fuel := by
          have := unl_set hun ops.size
          rw [if_pos hilt] at this
          omega
        have hset : (listed.setIfInBounds i true).getD i false = true := by simp [hm.len, hilt]
        -- the versions behind it
        have hvers' : ∀ H' : Heap, (∀ id, r.tk.contains id = true → H'.lookup id = (Hs (i + 1)).lookup id) → (∀ id, r.tk.contains id = false → H'.lookup id = H.lookup id) → ∀ id n, n ≤ ops.size → (∀ j r', j < n → rows[j]? = some r' → r'.tk.contains id = true → (listed.setIfInBounds i true).getD j false = true) → (∀ j r', n ≤ j → rows[j]? = some r' → r'.tk.contains id = true → (listed.setIfInBounds i true).getD j false = false) → H'.lookup id = (Hs n).lookup id := by
          intro H' h1 h2 id n hn q1 q2
          by_cases ht : r.tk.contains id = true
          · rw [h1 id ht]
            have hin : i < n := by
              apply Classical.byContradiction
              intro hge
              have := q2 i r (by omega) hr ht
              rw [hset] at this; cases this
            refine (hsame id (i + 1) n (by omega) hn fun j r' hj1 hj2 hr' => ?_).symm
            cases hc : r'.tk.contains id with
            | false => rfl
            | true =>
              have hl1 := q1 j r' hj2 hr' hc
              rw [getD_set_ne false (by omega)] at hl1
              have := hwn j (hcf i j r r' hr hr' (by omega) id (.inl ⟨ht, .inl hc⟩))
              rw [hl1] at this; cases this
          · have ht' : r.tk.contains id = false := by simpa using ht
            rw [h2 id ht']
            have hne : ∀ j r', rows[j]? = some r' → r'.tk.contains id = true → i ≠ j := fun j r' hr' hc e => by
              subst e; rw [hr] at hr'; cases hr'; rw [ht'] at hc; cases hc
            refine hv id n hn (fun j r' hj hr' hc => ?_) (fun j r' hj hr' hc => ?_)
            · have := q1 j r' hj hr' hc
              rwa [getD_set_ne false (hne j r' hr' hc)] at this
            · have := q2 j r' hj hr' hc
              rwa [getD_set_ne false (hne j r' hr' hc)] at this
        rcases hop with ⟨hds, htk, hout, Hp, hrk, hsubp, hps⟩ | ⟨F, Hin, heff, hsubi, hF, hti, hto, hnewi, hHn⟩
        · obtain ⟨d, hd⟩ := Option.isSome_iff_exists.1 hds
          have hdN := hN d hd
          have hpre' : St N w0 ρ S (Sig.only ⟨e i, Hp⟩ (o.looksAt ops)) a w := ⟨hH.size, hH.defers, hH.below, hH.mem.le' fun id ob hob => HLe.refl (by
            rw [hnow id (.inr (by rw [hrk]; exact List.contains_iff_mem.2 (heap_key hob)))]
            exact hsubp.get hob), fun t x ht => (hlook t x ht).1⟩
          have hnext' : ∀ v S' w', Same S w S' w' → Below w.heap.size w w' → (∀ b, S' b → S b ∨ w.heap.size ≤ b) → St N w0 ρ S' (Sig.only ⟨e i, Hp⟩ (o.looksAt ops)) a w' → RS ρ w' S' (s i) v → wpAny P md ops Q fuel (listed.setIfInBounds i true) (a.put o.dst v) w' := by
            intro v S' w' hsame' hbel hSS hs' hv'
            have hj1 : St N w0 ρ S' ⟨[], oH none ++ H⟩ a w' := St.join (H1 := Hp) hH hbel hSS hsame' rfl (fun _ _ => .refl _ _) (fun p h => by cases h) (fun p _ _ _ _ h => by cases h) ⟨hs'.size, hs'.defers, hs'.below, hs'.mem, fun t s hs => by simp at hs⟩ (fun p h => by cases h)
            have hj1 : St N w0 ρ S' ⟨[], H⟩ a w' := hj1
            refine ih _ ρ S' _ w' hunl' ⟨by simp [hm.len], hclosed', ⟨H, ?_, hvers' H (fun id h => by rw [htk] at h; cases h) (fun _ _ => rfl)⟩, ?_, ?_⟩
            · rw [hd]; exact (hj1.put hdN hv').memOnly
            · intro j oj t hj hdj hl
              have hsz : d < a.tmps.size := by rw [hH.size]; exact hdN
              rw [hd, getD_put hsz]
              by_cases hji : j = i
              · subst hji
                rw [ho] at hj; cases hj
                rw [hd] at hdj; cases hdj
                rw [if_pos rfl]; exact hv'
              · rw [if_neg (fun e => hji (hdst j i oj o t hj ho hdj (by rw [e]; exact hd)))]
                rw [getD_set_ne false (Ne.symm hji)] at hl
                exact (hm.done j oj t hj hdj hl).keep hsame' (Rn.refl _ _)
            · intro t x ht hno
              have hsz : d < a.tmps.size := by rw [hH.size]; exact hdN
              have hti : t ≠ d := fun e => by
                have := hno i o ho (by rw [e]; exact hd)
                rw [hset] at this
                cases this
              rw [hd, getD_put hsz, if_neg hti]
              refine (hm.old t x ht fun j oj hj hdj => ?_).keep hsame' (Rn.refl _ _)
              have hji : i ≠ j := fun e => by
                subst e
                rw [ho] at hj; cases hj
                rw [hd] at hdj; exact hti (Option.some.inj hdj).symm
              have := hno j oj hj hdj
              rwa [getD_set_ne false hji] at this
          have h1 := hps.run N w0 ρ S a w (wpAny P md ops Q fuel (listed.setIfInBounds i true)) Q hpre' hnext'
          unfold wpOp
          simp only [ho]
          split
          · rename_i hw; rw [if_pos hw] at h1; exact .inl h1
          · rename_i hw; rw [if_neg hw] at h1; exact h1
        · let L : Env := (List.range ops.size).filterMap fun j => if listed.getD j false = true then ((ops[j]?).bind (·.dst)).map (fun d => (d, s j)) else none
          let O : Env := σ.env.filter fun p => (List.range ops.size).all fun j => !(listed.getD j false && ((ops[j]?).bind (·.dst)) == some p.1)
          have hL : ∀ q ∈ L, ∃ j oj, ops[j]? = some oj ∧ oj.dst = some q.1 ∧ listed.getD j false = true ∧ q.2 = s j := by
            intro q hq
            obtain ⟨j, hj, hjq⟩ := List.mem_filterMap.1 hq
            have hjl := List.mem_range.1 hj
            split at hjq
            · rename_i hl
              rw [hget0 j hjl] at hjq
              obtain ⟨d, hd, rfl⟩ := Option.map_eq_some_iff.1 hjq
              exact ⟨j, _, hget0 j hjl, hd, hl, rfl⟩
            · cases hjq
          have hLin : ∀ j oj d, ops[j]? = some oj → oj.dst = some d → listed.getD j false = true → (d, s j) ∈ L := by
            intro j oj d hj hd hl
            have hjl : j < ops.size := (Array.getElem?_eq_some_iff.1 hj).1
            refine List.mem_filterMap.2 ⟨j, List.mem_range.2 hjl, ?_⟩
            rw [if_pos hl, hj]
            show (oj.dst).map _ = _
            rw [hd]; rfl
          have hO : ∀ q ∈ O, q ∈ σ.env ∧ ∀ j oj, ops[j]? = some oj → oj.dst = some q.1 → listed.getD j false = false := by
            intro q hq
            obtain ⟨h1, h2⟩ := List.mem_filter.1 hq
            refine ⟨h1, fun j oj hj hd => ?_⟩
            have hjl : j < ops.size := (Array.getElem?_eq_some_iff.1 hj).1
            have := List.all_eq_true.1 h2 j (List.mem_range.2 hjl)
            rw [hj] at this
            cases hb : listed.getD j false with
            | false => rfl
            | true =>
              rw [hb] at this
              simp [hd] at this
          have hOlk : ∀ t x, O.lookup t = some x → σ.env.lookup t = some x := by
            intro t x
            show (σ.env.filter _).lookup t = some x → _
            generalize σ.env = en
            induction en with
            | nil => intro h; simp at h
            | cons p en ihh =>
              intro h
              obtain ⟨k, v⟩ := p
              by_cases hk : ((List.range ops.size).all fun j => !(listed.getD j false && ((ops[j]?).bind (·.dst)) == some k)) = true
              · rw [List.filter_cons_of_pos (by simpa using hk)] at h
                rcases lookup_put h with ⟨rfl, rfl⟩ | ⟨hne, h⟩
                · simp
                · rw [List.lookup_cons, show (t == k) = false by simpa using hne]; exact ihh h
              · rw [List.filter_cons_of_neg (by simpa using hk)] at h
                have hne : t ≠ k := by
                  intro e
                  subst e
                  obtain ⟨_, h2⟩ := List.mem_filter.1 (lookup_mem h)
                  exact hk (by simpa using h2)
                rw [List.lookup_cons, show (t == k) = false by simpa using hne]; exact ihh h
          have hOget : ∀ t x, σ.env.lookup t = some x → (∀ j oj, ops[j]? = some oj → oj.dst = some t → listed.getD j false = false) → O.lookup t = some x := by
            intro t x ht hno
            show (σ.env.filter _).lookup t = some x
            generalize σ.env = en at ht
            induction en with
            | nil => simp at ht
            | cons p en ihh =>
              obtain ⟨k, v⟩ := p
              rcases lookup_put ht with ⟨rfl, rfl⟩ | ⟨hne, ht⟩
              · rw [List.filter_cons_of_pos]
                · simp
                · rw [List.all_eq_true]
                  intro j hj
                  have hjl := List.mem_range.1 hj
                  rw [hget0 j hjl]
                  cases hb : listed.getD j false with
                  | false => rfl
                  | true =>
                    cases hd : decide (ops[j].dst = some t) with
                    | true => have := hno j _ (hget0 j hjl) (of_decide_eq_true hd); rw [hb] at this; cases this
                    | false => have := of_decide_eq_false hd; simp [this]
              · have hr := ihh ht
                by_cases hk : ((List.range ops.size).all fun j => !(listed.getD j false && ((ops[j]?).bind (·.dst)) == some k)) = true
                · rw [List.filter_cons_of_pos (by simpa using hk), List.lookup_cons, show (t == k) = false by simpa using hne]; exact hr
                · rw [List.filter_cons_of_neg (by simpa using hk)]; exact hr
          let E : Env := L ++ O
          have hLlk : ∀ j oj d, ops[j]? = some oj → oj.dst = some d → listed.getD j false = true → L.lookup d = some (s j) := by
            intro j oj d hj hd hl
            cases hlk : L.lookup d with
            | none =>
              exfalso
              have hm2 := hLin j oj d hj hd hl
              have : ∀ (l : Env), (d, s j) ∈ l → l.lookup d ≠ none := by
                intro l
                induction l with
                | nil => intro h; cases h
                | cons p l ihl =>
                  intro h
                  obtain ⟨k, v⟩ := p
                  rw [List.lookup_cons]
                  rcases List.mem_cons.1 h with h | h
                  · cases h; simp
                  · split
                    · simp
                    · exact ihl h
              exact this L hm2 hlk
            | some x =>
              obtain ⟨j', oj', q1, q2, q3, q4⟩ := hL _ (lookup_mem hlk)
              have : j' = j := hdst j' j oj' oj d q1 hj q2 hd
              subst this
              rw [show x = s j' from q4]
          have hLnone : ∀ t, (∀ j oj, ops[j]? = some oj → oj.dst = some t → listed.getD j false = false) → L.lookup t = none := by
            intro t hno
            cases hlk : L.lookup t with
            | none => rfl
            | some x =>
              obtain ⟨j', oj', q1, q2, q3, q4⟩ := hL _ (lookup_mem hlk)
              have := hno j' oj' q1 q2
              rw [q3] at this; cases this
          have hE : (r.new.all fun id => E.all fun p => p.2.no id) = true := by
            rw [List.all_eq_true]
            intro id hid
            rw [List.all_eq_true]
            intro q hq
            rcases List.mem_append.1 hq with hq | hq
            · obtain ⟨j, oj, q1, q2, q3, q4⟩ := hL q hq
              cases hn : q.2.no id with
              | true => rfl
              | false =>
                rw [q4] at hn
                have := hment listed hm.closed j oj _ q1 q2 q3 i r id hr hid hn
                rw [hunf] at this; cases this
            · have hq2 := (hO q hq).1
              exact (hfr i r hr id hid).1 q (hup i (by omega) 0 (Nat.zero_le _) q (by rw [he0]; exact hq2))
          -- what else is held
          let X : Heap := nub (H.filter fun p => !r.tk.contains p.1)
          have hX : XOk r.tk r.new X := by
            refine ⟨fun p hp => ?_, fun p hp id hid => ?_⟩
            · have h1 := lookup_mem (nub_mem hp)
              have := (List.mem_filter.1 h1).2
              simpa using this
            · have h1 := nub_mem hp
              have hoffp : r.tk.contains p.1 = false := by
                have := (List.mem_filter.1 (lookup_mem h1)).2
                simpa using this
              rw [lookup_off hoffp] at h1
              -- the version that stands
              have hex : ∀ m, m ≤ ops.size → ∃ n, n ≤ ops.size ∧ (∀ j r', j < n → rows[j]? = some r' → r'.tk.contains p.1 = true → listed.getD j false = true) ∧ (∀ j r', n ≤ j → j < m → rows[j]? = some r' → r'.tk.contains p.1 = true → listed.getD j false = false) ∧ n ≤ m := by
                intro m
                induction m with
                | zero => intro _; exact ⟨0, Nat.zero_le _, fun j r' hj => by omega, fun j r' h1 h2 => by omega, Nat.le_refl _⟩
                | succ m ihm =>
                  intro hms
                  obtain ⟨n, n1, n2, n3, n4⟩ := ihm (by omega)
                  obtain ⟨rm, hrm, _⟩ := hstep m _ (hget0 m (by omega))
                  by_cases hc : rm.tk.contains p.1 = true ∧ listed.getD m false = true
                  · refine ⟨m + 1, hms, fun j r' hj hr' ht => ?_, fun j r' h1 h2 => by omega, Nat.le_refl _⟩
                    by_cases hjm : j = m
                    · subst hjm; exact hc.2
                    · refine waits_listed hord hm.closed m j (hcf j m r' rm hr' hrm (by omega) p.1 (.inl ⟨ht, .inl hc.1⟩)) (fun o' ho' => hm.closed m o' ho' hc.2)
                  · refine ⟨n, n1, n2, fun j r' h1 h2 hr' ht => ?_, by omega⟩
                    by_cases hjm : j = m
                    · subst hjm
                      rw [hrm] at hr'; cases hr'
                      cases hb : listed.getD j false with
                      | false => rfl
                      | true => exact absurd ⟨ht, hb⟩ hc
                    · exact n3 j r' h1 (by omega) hr' ht
              obtain ⟨n, n1, n2, n3, _⟩ := hex ops.size (Nat.le_refl _)
              rw [hv p.1 n n1 n2 (fun j r' h1 hr' ht => n3 j r' h1 (by have := (List.getElem?_eq_some_iff.1 hr').1; omega) hr' ht)] at h1
              rcases hvers n n1 p.1 p.2 h1 with ⟨j, r', q1, q2, q3, q4⟩ | h0
              · have hlj := n2 j r' q1 q2 q3
                rcases hnn.get j i r' r q2 hr (fun e => by rw [e, hunf] at hlj; cases hlj) id hid with hw | hno
                · have := hwn j hw; rw [hlj] at this; cases this
                · exact hno _ q4
              · exact ((hs0.get hr id hid).get h0).2
          let pf : Env := (e i).filter fun p => (o.looksAt ops).contains p.1
          have hHX : ∀ id ob, (Hin ++ X).lookup id = some ob → H.lookup id = some ob := by
            intro id ob h
            rcases lookup_app h with h | ⟨_, h⟩
            · have ht : r.tk.contains id = true := List.all_eq_true.1 hti _ (lookup_mem h)
              rw [hnow id (.inl ht)]; exact hsubi.get h
            · have h2 : (nub (H.filter fun p => !r.tk.contains p.1)).lookup id = some ob := h
              rw [nub_lookup] at h2
              have hoffp : r.tk.contains id = false := by
                have := (List.mem_filter.1 (lookup_mem h2)).2
                simpa using this
              rwa [lookup_off hoffp] at h2
          have hpre' : St N w0 ρ S ⟨pf ++ E, Hin ++ X⟩ a w := by
            refine ⟨hH.size, hH.defers, hH.below, hH.mem.le' fun id ob hob => HLe.refl (hHX id ob hob), fun t x ht => ?_⟩
            rcases lookup_app ht with h1 | ⟨_, h1⟩
            · exact (hlook t x h1).1
            · rcases lookup_app h1 with h1 | ⟨_, h1⟩
              · obtain ⟨j, oj, q1, q2, q3, q4⟩ := hL _ (lookup_mem h1)
                rw [show x = s j from q4]
                exact hm.done j oj t q1 q2 q3
              · exact hm.old t x (hOlk t x h1) (hO _ (lookup_mem h1)).2
          let Q2 : Exit → Act → World → Prop := fun e a' w' => match e with | .normal => wpAny P md ops Q fuel (listed.setIfInBounds i true) a' w' | _ => False
          have hfin : ∀ ρ' S' σ' a' w', St N w0 ρ' S' σ' a' w' → σ' = ⟨F ++ (pf ++ E), r.out ++ X⟩ → Q2 .normal a' w' := by
            intro ρ' S' σ' a' w' hs' hσ
            subst hσ
            show wpAny P md ops Q fuel (listed.setIfInBounds i true) a' w'
            have hEt : ∀ j oj d, ops[j]? = some oj → oj.dst = some d → listed.getD j false = true → (pf ++ E).lookup d = some (s j) := by
              intro j oj d hj hd hl
              cases hp : pf.lookup d with
              | none => rw [lookup_none_app hp]; exact lookup_some_app (hLlk j oj d hj hd hl)
              | some x =>
                rw [lookup_some_app hp]
                rcases (hlook d x hp).2 with ⟨j', oj', q1, q2, q3, q4⟩ | ⟨q1, _⟩
                · have : j' = j := hdst j' j oj' oj d q1 hj q2 hd
                  subst this; rw [q4]
                · have := q1 j oj hj hd; rw [hl] at this; cases this
            have hOt : ∀ t x, σ.env.lookup t = some x → (∀ j oj, ops[j]? = some oj → oj.dst = some t → listed.getD j false = false) → (pf ++ E).lookup t = some x := by
              intro t x ht hno
              cases hp : pf.lookup t with
              | none => rw [lookup_none_app hp, lookup_none_app (hLnone t hno)]; exact hOget t x ht hno
              | some y =>
                rw [lookup_some_app hp]
                rcases (hlook t y hp).2 with ⟨j', oj', q1, q2, q3, q4⟩ | ⟨_, q2⟩
                · have := hno j' oj' q1 q2; rw [q3] at this; cases this
                · rw [← q2]; exact ht
            have hFo : ∀ t, o.dst ≠ some t → F.lookup t = none := by
              intro t ht
              cases hd : o.dst with
              | none => rw [hd] at hF; rw [hF.1]; rfl
              | some d =>
                rw [hd] at hF ht
                exact F_other hF.2 (fun e => ht (by rw [e]))
            have hXl : ∀ id, r.tk.contains id = false → X.lookup id = H.lookup id := fun id hid => by
              show (nub _).lookup id = _
              rw [nub_lookup, lookup_off hid]
            have hout0 : ∀ id, r.tk.contains id = false → r.out.lookup id = none := fun id hid => by
              cases hl2 : r.out.lookup id with
              | none => rfl
              | some p => have := List.all_eq_true.1 hto _ (lookup_mem hl2); rw [show (id, p).1 = id from rfl, hid] at this; cases this
            have hXn : ∀ id, r.tk.contains id = true → X.lookup id = none := fun id hid => by
              cases hl2 : X.lookup id with
              | none => rfl
              | some p => exact (hX.none hid p hl2).elim
            refine ih _ ρ' S' _ w' hunl' ⟨by simp [hm.len], hclosed', ⟨r.out ++ X, ⟨hs'.size, hs'.defers, hs'.below, hs'.mem, fun t s hs => by simp at hs⟩, hvers' _ (fun id hid => ?_) (fun id hid => ?_)⟩, ?_, ?_⟩
            · rw [hHn, outH_in hid]
              cases hl2 : r.out.lookup id with
              | some p => exact lookup_some_app hl2
              | none => rw [lookup_none_app hl2]; exact hXn id hid
            · rw [lookup_none_app (hout0 id hid)]; exact hXl id hid
            · intro j oj t hj hdj hl
              by_cases hji : j = i
              · subst hji
                rw [ho] at hj; cases hj
                rw [hdj] at hF
                exact hs'.env t _ (lookup_some_app hF.1)
              · rw [getD_set_ne false (Ne.symm hji)] at hl
                refine hs'.env t _ ?_
                rw [lookup_none_app (hFo t fun e => hji (hdst j i oj o t hj ho hdj e))]
                exact hEt j oj t hj hdj hl
            · intro t x ht hno
              have hti : o.dst ≠ some t := fun e => by
                have := hno i o ho e
                rw [hset] at this
                cases this
              refine hs'.env t _ ?_
              rw [lookup_none_app (hFo t hti)]
              refine hOt t x ht fun j oj hj hdj => ?_
              have hji : i ≠ j := fun e => by
                subst e
                rw [ho] at hj; cases hj
                exact hti hdj
              have := hno j oj hj hdj
              rwa [getD_set_ne false hji] at this
          have h1 := heff E X hE hX (fun σ' => σ' = ⟨F ++ (pf ++ E), r.out ++ X⟩) [] (fun ρ S a w Q'' hQ'' hs'' => hQ'' ρ S _ a w hs'' rfl) ρ S a w Q2 hfin hpre'
          unfold wpOp
          simp only [ho]
          unfold wpList at h1
          split
          · rename_i hw
            rw [if_pos hw] at h1
            rcases h1 with h1 | ⟨_, _, _, h1⟩
            · exact .inl (Oper.wp_only (Q2 := Q2) (fun _ _ _ h => h) (fun _ _ h => h) (Oper.wp_mono (fun a' w' h => h) h1))
            · exact h1.elim
          · rename_i hw
            rw [if_neg hw] at h1
            exact h1
  intro ρ S a w hs
  refine key ops.size _ ρ S a w ?_ ⟨by simp, fun j o ho hl => ?_, ⟨σ.heap, hs.memOnly, fun id n hn h1 h2 => ?_⟩, fun j o d hj hd hl => ?_, fun t x ht _ => hs.env t x ht⟩
  · have : ∀ k, k ≤ ops.size → unl (Array.replicate ops.size false) k = k := by
      intro k
      induction k with
      | zero => intro _; rfl
      | succ k ihk => intro hk; simp only [unl]; rw [ihk (by omega)]; simp [show k < ops.size by omega]
    exact this _ (Nat.le_refl _)
  · exfalso
    by_cases hj : j < ops.size <;> simp [hj] at hl
  · rw [hsame id 0 n (Nat.zero_le _) hn (fun j r _ hj hr => ?_), hH0]
    cases hc : r.tk.contains id with
    | false => rfl
    | true =>
      have := h1 j r hj hr hc
      simp [show j < ops.size by omega] at this
  · exfalso
    have hjl : j < ops.size := (Array.getElem?_eq_some_iff.1 hj).1
    simp [hjl] at hl
end
section
variable {P : Program} {N : Nat} {w0 : Start} {ops : Array Oper} {Q : Sig → Prop} {σ : Sig} {o : Oper} {rest : List Oper} {rows : List Row} {nw : List Nat}
/-- A drawn region in which what conflicts is ordered. -/
def ADX (P : Program) (N : Nat) (w0 : Start) (ops : Array Oper) (Q : Sig → Prop) (nw : List Nat) (l : List Oper) (rows : List Row) (σ : Sig) : Prop := ∃ τ H, ADsX P N w0 ops nw l rows σ τ ∧ HeapLe τ.heap H ∧ Q ⟨τ.env, H⟩
theorem AW.anyX (rows : List Row) {i : Nat} {l : List Oper} {Q : Exit → Sig → Prop} {σ : Sig} (hm : P.follows .mixedOrders = true) (hord : ordB .any l.toArray = true) (hconf : confB .any l.toArray rows = true) (hnn : NoNew .any l.toArray rows) (hs0 : RowsFr σ.heap rows)
    (h : ADX P N w0 l.toArray (fun σ => Q .normal σ) [] l rows σ) : AW P N w0 (.region i l.toArray true) Q σ := by
  intro ρ S a w Q' hQ hs
  obtain ⟨τ, H, h1, hH, h2⟩ := h
  refine wp_region_any hm ?_
  exact any_orderX (τ := τ) hord (by simpa using h1) hconf hnn hs0 (fun ρ S a w hs' => hQ _ ρ S ⟨τ.env, H⟩ a w ⟨hs'.size, hs'.defers, hs'.below, hs'.mem.le hH, hs'.env⟩ h2) ρ S a _ (hs.world ((Below.refl _ _).drew))
theorem ADX.nil {H : Heap} (hH : HeapLe σ.heap H) (h : Q ⟨σ.env, H⟩) : ADX P N w0 ops Q nw [] [] σ := ⟨σ, H, .nil, hH, h⟩
theorem ADX.step {s : SV} {d : Nat} (Hp : Heap) (hp : OpStep P ops o (Sig.only ⟨σ.env, Hp⟩ (o.looksAt ops)) s) (hd : o.dst = some d) (hN : d < N) (hsub : Sub Hp σ.heap) (hm : mentB nw (σ.env.filter fun p => (o.looksAt ops).contains p.1) s = true) (h : ADX P N w0 ops Q nw rest rows (σ.put d s)) : ADX P N w0 ops Q nw (o :: rest) (⟨Hp.map (·.1), [], [], []⟩ :: rows) σ :=
  let ⟨τ, H, h1, h2, h3⟩ := h
  ⟨τ, H, .pure Hp hd hN hp hsub hm h1, h2, h3⟩
theorem ADX.pure {s : SV} {d : Nat} (Hp : Heap) (hp : PureOp P o (Sig.only ⟨σ.env, Hp⟩ (o.looksAt ops)) s) (hg : o.guard = none) (hd : o.dst = some d) (hN : d < N) (hsub : Sub Hp σ.heap) (hm : mentB nw (σ.env.filter fun p => (o.looksAt ops).contains p.1) s = true) (h : ADX P N w0 ops Q nw rest rows (σ.put d s)) : ADX P N w0 ops Q nw (o :: rest) (⟨Hp.map (·.1), [], [], []⟩ :: rows) σ :=
  ADX.step Hp (hp.fresh.step hg) hd hN hsub hm h
theorem ADX.fresh {s : SV} {d : Nat} (Hp : Heap) (hp : FreshOp P o (Sig.only ⟨σ.env, Hp⟩ (o.looksAt ops)) s) (hg : o.guard = none) (hd : o.dst = some d) (hN : d < N) (hsub : Sub Hp σ.heap) (hm : mentB nw (σ.env.filter fun p => (o.looksAt ops).contains p.1) s = true) (h : ADX P N w0 ops Q nw rest rows (σ.put d s)) : ADX P N w0 ops Q nw (o :: rest) (⟨Hp.map (·.1), [], [], []⟩ :: rows) σ :=
  ADX.step Hp (hp.step hg) hd hN hsub hm h
theorem ADX.gpure {s : SV} {d g t : Nat} {want c : Bool} (Hp : Heap) (hgate : Gate (Sig.only ⟨σ.env, Hp⟩ (o.looksAt ops)) t want c) (hp : c = true → PureOp P o (Sig.only ⟨σ.env, Hp⟩ (o.looksAt ops)) s) (hg : o.guard = some (g, want)) (hgd : (ops[g]?).bind (·.dst) = some t) (hd : o.dst = some d) (hN : d < N) (hsub : Sub Hp σ.heap)
    (hm : mentB nw (σ.env.filter fun p => (o.looksAt ops).contains p.1) (.gd c s) = true) (h : ADX P N w0 ops Q nw rest rows (σ.put d (.gd c s))) : ADX P N w0 ops Q nw (o :: rest) (⟨Hp.map (·.1), [], [], []⟩ :: rows) σ :=
  ADX.step Hp (FreshOp.gstep hgate (fun hc => (hp hc).fresh) hg hgd fun N _ _ _ _ _ _ => by omega) hd hN hsub hm h
theorem ADX.eff {tk new : List Nat} {s : SV} {F : Env} {Hin Hout : Heap} (he : EffStepX P N w0 ops o (Sig.only σ (o.looksAt ops)).env tk new Hin F Hout) (hin : Sub Hin σ.heap) (hF : FOk o.dst F s) (hti : (Hin.all fun p => tk.contains p.1) = true) (hto : (Hout.all fun p => tk.contains p.1) = true)
    (hnew : (new.all fun id => tk.contains id && !(Hin.map (·.1)).contains id) = true) (hno : (new.all fun id => σ.env.all fun p => p.2.no id) = true) (hfr : AllFr new σ.heap) (hm : mentB nw (σ.env.filter fun p => (o.looksAt ops).contains p.1) s = true) (hN : ∀ d, o.dst = some d → d < N)
    (h : ADX P N w0 ops Q (new ++ nw) rest rows ⟨consO o.dst s σ.env, outH tk Hout σ.heap⟩) : ADX P N w0 ops Q nw (o :: rest) (⟨[], tk, new, Hout⟩ :: rows) σ :=
  let ⟨τ, H, h1, h2, h3⟩ := h
  ⟨τ, H, .eff hN he hin hF hti hto hnew hno hfr hm h1, h2, h3⟩
end
end Go.Proofs.YticinemcmgggpabDoor

/-
  ReadSay: the reference and the program read the same.
-/
namespace Go.Proofs.YticinemcmgggpabDoor
open Go.Proofs Go.Shelf
open Go.ChangeShapes Go.WideShapes Go.ChangeAt Go.RowKit Go.BigFrame Go.Deep
set_option linter.unusedVariables false
set_option linter.unusedSimpArgs false
theorem vrl_ag_23_3 : aggB Tryd.prog 23 3 = true := by kernel_rfl
theorem vrl_ca_10 : callB Tryd.prog 10 = true := by kernel_rfl
theorem vrl_ca_11 : callB Tryd.prog 11 = true := by kernel_rfl
theorem vrl_ca_7 : callB Tryd.prog 7 = true := by kernel_rfl
theorem vrl_ca_8 : callB Tryd.prog 8 = true := by kernel_rfl
theorem vrl_ca_9 : callB Tryd.prog 9 = true := by kernel_rfl
theorem vrl_el_28_1 : elemB Tryd.prog 28 1 = true := by kernel_rfl
theorem vrl_pl_9 : plainB Tryd.prog 9 = true := by kernel_rfl
theorem vrl_sl_28 : sliceB Tryd.prog 28 = true := by kernel_rfl
theorem vrl_sz_23_3 : sizeB Tryd.prog 23 3 = true := by kernel_rfl
theorem strs_get (L : List (List UInt8)) {i : Nat} (hi : i < L.length) : (strs L)[i]? = some (.string (bs (L.getD i []))) := by
  unfold strs
  rw [List.getElem?_map, List.getElem?_eq_getElem hi, List.getD_eq_getElem?_getD, List.getElem?_eq_getElem hi]
  rfl
theorem own_strs {w w' : World} {L : List (List UInt8)} {v : Value} (h : w'.ownsRow w.heap.size 9 1 v L.length (strs L)) (hb : ∀ i, i < L.length → (L.getD i []).length ≤ maxLen) : D w' (newS w w') (.lst 1 L.length fun i _ => .str (bs (L.getD i []))) v := by
  obtain ⟨A, c, rfl⟩ := own_slice h
  rcases h.2 with ⟨e, hn⟩ | ⟨g, cap, cur, e, hg, hblk, hle, hcap, _⟩
  · injection e with e1 e2 e3
    subst e1 e3
    have h0 : L = [] := List.eq_nil_of_length_eq_zero hn
    subst h0
    exact ⟨none, 0, rfl, Nat.le_refl _, by decide, fun _ => rfl, fun i hi => absurd hi (by simp)⟩
  · injection e with e1 e2 e3
    subst e1 e3
    refine ⟨_, _, rfl, hle, hcap, (fun e => by cases e), (fun i hi => ⟨g, 0, rfl, ⟨hg, (Array.getElem?_eq_some_iff.1 hblk).1⟩, fun j hj => ?_⟩)⟩
    obtain rfl : j = 0 := by omega
    have hc := h.cells (g := g) rfl i _ (strs_get L hi)
    have e : (⟨g, 0, none⟩ : Addr).add i = ⟨g, 0 + (i * 1 + 0), none⟩ := by unfold Addr.add; split <;> simp_all
    rw [e] at hc
    exact ⟨_, hc, rfl, hb i hi⟩
theorem cutL_len {c : UInt8} : ∀ {l w : List UInt8}, w ∈ Rd.cutL c l → w.length ≤ l.length
  | [], w, h => by
    have : w ∈ ([[]] : List (List UInt8)) := h
    simp at this
    rw [this]; exact Nat.le_refl _
  | b :: l, w, h => by
    by_cases hb : b = c
    · subst hb
      rw [Rd.cutL_hit] at h
      rcases List.mem_cons.1 h with rfl | h
      · exact Nat.zero_le _
      · exact Nat.le_trans (cutL_len h) (Nat.le_succ _)
    · rw [Rd.cutL_miss hb] at h
      have hne := Rd.cutL_ne c l
      rcases List.mem_cons.1 h with rfl | h
      · cases hc : Rd.cutL c l with
        | nil => exact absurd hc hne
        | cons x r =>
          have := cutL_len (c := c) (l := l) (w := x) (by rw [hc]; exact List.mem_cons_self ..)
          simp only [List.headD_cons, List.length_cons]
          omega
      · exact Nat.le_trans (cutL_len (List.mem_of_mem_tail h)) (Nat.le_succ _)
theorem cut_le {c : UInt8} {l : List UInt8} {i : Nat} (hi : i < (Rd.cutL c l).length) : ((Rd.cutL c l).getD i []).length ≤ l.length := by
  refine cutL_len (c := c) ?_
  rw [List.getD_eq_getElem?_getD, List.getElem?_eq_getElem hi]
  exact List.getElem_mem hi
theorem v_l3Split (s : ByteArray) (hs : s.size ≤ 1048576) : FnF Tryd.prog 9 [.one (.str s), .one (.int .u8 32)] (.one (.lst 1 (Rd.cutL 32 s.data.toList).length fun i _ => .str (bs ((Rd.cutL 32 s.data.toList).getD i [])))) := by
  intro w S vs hS hd
  obtain ⟨v, vs1, rfl, ⟨rfl, _⟩, v2, vs2, rfl, h2, h3⟩ := hd
  obtain rfl : vs2 = [] := h3
  obtain rfl : v2 = .int .u8 32 := h2
  refine (callCut s hs w).mono ?_
  rintro e w' ⟨v, rfl, h4, h5⟩
  refine ⟨v, rfl, own_strs h4 (fun i hi => ?_), h5⟩
  have h6 := cut_le hi
  rw [← Lib.size_eq] at h6
  exact Nat.le_trans h6 (Nat.le_trans hs (by decide))
theorem v_l13Int (s : ByteArray) (hs : s.size ≤ 1048576) : Fn Tryd.prog 10 [.one (.str s)] (.tup2 (.one (.int .i64 (Rd.intL s.data.toList).1)) (.one (.bool (Rd.intL s.data.toList).2))) := by
  intro w S vs hS hd
  obtain ⟨v, vs1, rfl, ⟨rfl, _⟩, h3⟩ := hd
  obtain rfl : vs1 = [] := h3
  exact callInt s hs hS.pre
/-- What l13Read answers. -/
def rdX (s : ByteArray) : GSay × Bool :=
  if (Rd.cutL 32 s.data.toList).length = 3 then
    (rdSay ((Rd.cutL 32 s.data.toList).getD 0 []) ((Rd.cutL 32 s.data.toList).getD 1 []) ((Rd.cutL 32 s.data.toList).getD 2 []),
      cond (cond (Rd.intL ((Rd.cutL 32 s.data.toList).getD 1 [])).2 (Rd.intL ((Rd.cutL 32 s.data.toList).getD 2 [])).2 false) (sayB (rdSay ((Rd.cutL 32 s.data.toList).getD 0 []) ((Rd.cutL 32 s.data.toList).getD 1 []) ((Rd.cutL 32 s.data.toList).getD 2 []))) false)
  else (zeroSay, false)
theorem rdX_read (s : ByteArray) : readV s = if (rdX s).2 = true then ((rdX s).1, true) else (zeroSay, false) := by
  unfold rdX
  by_cases h : (Rd.cutL 32 s.data.toList).length = 3
  · rw [if_pos h]
    obtain ⟨w0, w1, w2, hL⟩ : ∃ w0 w1 w2, Rd.cutL 32 s.data.toList = [w0, w1, w2] := by
      match hc : Rd.cutL 32 s.data.toList, h with
      | [w0, w1, w2], _ => exact ⟨w0, w1, w2, rfl⟩
    rw [readV_three hL, hL]
    show (if rdOk w0 w1 w2 = true then _ else _) = if (cond (cond (Rd.intL w1).2 (Rd.intL w2).2 false) (sayB (rdSay w0 w1 w2)) false) = true then (rdSay w0 w1 w2, true) else (zeroSay, false)
    have e : rdOk w0 w1 w2 = cond (cond (Rd.intL w1).2 (Rd.intL w2).2 false) (sayB (rdSay w0 w1 w2)) false := by
      unfold rdOk
      generalize (Rd.intL w1).2 = a
      generalize (Rd.intL w2).2 = b
      generalize sayB _ = c
      revert a b c; decide
    rw [e]
  · rw [if_neg h, readV_len h]; rfl
theorem rdX_name (s : ByteArray) (hs : s.size ≤ 1048576) : (rdX s).1.name.size ≤ 1048576 := by
  unfold rdX
  by_cases h : (Rd.cutL 32 s.data.toList).length = 3
  · rw [if_pos h]
    have h6 := cut_le (c := 32) (l := s.data.toList) (i := 0) (by omega)
    rw [← Lib.size_eq] at h6
    exact Nat.le_trans h6 hs
  · rw [if_neg h]; exact Nat.zero_le _
theorem readV_name (s : ByteArray) (hs : s.size ≤ 1048576) : (readV s).1.name.size ≤ 1048576 := by
  rw [rdX_read]
  by_cases h : (rdX s).2 = true
  · rw [if_pos h]; exact rdX_name s hs
  · rw [if_neg h]; exact Nat.zero_le _

set_option maxRecDepth 20000 in
theorem v_l13Read (s : ByteArray) (hs : s.size ≤ 1048576) : FnF Tryd.prog 7 [.one (.str s)] (.tup2 (.agg [.str ((rdX s).1.name), .int .i64 ((rdX s).1.at_), .int .i64 ((rdX s).1.value)]) (.one (.bool ((rdX s).2)))) := by
  refine FnF.of_body (fn := Tryd.f7) Tryd.func7 rfl (Nat.le_of_ble_eq_true rfl)  ?_
  intro w0
  show AW _ 45 _ _ _ _
  refine AW.seq ?_
  refine AW.region ?_
  refine ARun.alloc (id := 0) (l := [.str ByteArray.empty, .int .i64 0, .int .i64 0]) (z := (.agg #[.string ByteArray.empty, .int .i64 0, .int .i64 0])) rfl (by kernel_rfl) (fun _ _ _ => ⟨_, _, rfl, ⟨rfl, by decide⟩, ⟨_, _, rfl, rfl, ⟨_, _, rfl, rfl, rfl⟩⟩⟩) ⟨rfl, (by repeat first | exact trivial | refine ⟨by decide, by first | rfl | exact trivial | (intro i j; first | rfl | exact getD_no rfl | (dsimp only; split <;> first | rfl | exact getD_no rfl) | exact scl_no (by apply_assumption) _), ?_⟩)⟩ rfl rfl rfl (Nat.le_of_ble_eq_true rfl) ?_
  refine ARun.pure (PureOp.assign rfl .bool) rfl rfl (Nat.le_of_ble_eq_true rfl) ?_
  refine ARun.nil ?_
  refine AW.seq ?_
  refine AW.region ?_
  refine ARun.pure (PureOp.move rfl (.tmp rfl)) rfl rfl (Nat.le_of_ble_eq_true rfl) ?_
  refine ARun.fresh (FreshOp.callS rfl (v_l3Split s (by omega)) ⟨⟨_, (.tmp rfl), .str⟩, ⟨_, .int, .int⟩, trivial⟩ vrl_ca_9 rfl) rfl rfl (Nat.le_of_ble_eq_true rfl) ?_
  refine ARun.pure (PureOp.assign rfl (.tmp rfl)) rfl rfl (Nat.le_of_ble_eq_true rfl) ?_
  refine ARun.nil ?_
  refine AW.seq ?_
  refine AW.seq ?_
  refine AW.region ?_
  refine ARun.pure (PureOp.move rfl (.tmp rfl)) rfl rfl (Nat.le_of_ble_eq_true rfl) ?_
  refine ARun.pure (PureOp.lenLst rfl (.frs (.tmp rfl)) vrl_sl_28) rfl rfl (Nat.le_of_ble_eq_true rfl) ?_
  refine ARun.pure (PureOp.intOp rfl (.tmp rfl) .int rfl) rfl rfl (Nat.le_of_ble_eq_true rfl) ?_
  refine ARun.nil ?_
  refine AW.cond (.tmp rfl) (fun hb1 => ?_) (fun hb1 => ?_)
  · have _u := True.intro
    replace hb1 := of_decide_eq_false (of_not hb1)
    rw [show rdX s = (zeroSay, false) from if_neg (by omega)]
    refine AW.seq ?_
    refine AW.region ?_
    refine ARun.pure (PureOp.build (ys := []) (l := [.str ByteArray.empty, .int .i64 0, .int .i64 0]) (pl := [(0, 1), (1, 1), (2, 1)]) (z := (.agg #[.string ByteArray.empty, .int .i64 0, .int .i64 0])) rfl (by kernel_rfl) (by kernel_rfl) (fun _ _ _ => ⟨_, _, rfl, ⟨rfl, by decide⟩, ⟨_, _, rfl, rfl, ⟨_, _, rfl, rfl, rfl⟩⟩⟩) trivial rfl) rfl rfl (Nat.le_of_ble_eq_true rfl) ?_
    refine ARun.store rfl (.tmp rfl) (.tmp rfl) (SV.cells_of (by exact ⟨trivial, trivial, trivial, trivial⟩)) rfl (Nat.le_of_ble_eq_true rfl) vrl_sz_23_3 rfl rfl ?_
    refine ARun.pure (PureOp.assign rfl .bool) rfl rfl (Nat.le_of_ble_eq_true rfl) ?_
    refine ARun.nil ?_
    exact AW.ret (show ∃ s, ResL _ _ [.cell 2 23, .tmp 3] s ∧ FvS _ s _ from ⟨_, .inr (.inl ⟨_, _, _, _, rfl, .cells rfl vrl_ag_23_3 rfl rfl (Nat.le_of_ble_eq_true rfl) (Nat.le_of_ble_eq_true rfl), .tmp rfl, rfl⟩), ⟨.str, .int, .int, trivial⟩, .bool⟩)
  · have _u := True.intro
    replace hb1 := of_decide_eq_true (not_f hb1)
    have h3 : (Rd.cutL 32 s.data.toList).length = 3 := by omega
    have hw1 : (bs ((Rd.cutL 32 s.data.toList).getD 1 [])).size ≤ 1048576 := Nat.le_trans (cut_le (c := 32) (l := s.data.toList) (i := 1) (by omega)) (by rw [← Lib.size_eq]; exact hs)
    have hw2 : (bs ((Rd.cutL 32 s.data.toList).getD 2 [])).size ≤ 1048576 := Nat.le_trans (cut_le (c := 32) (l := s.data.toList) (i := 2) (by omega)) (by rw [← Lib.size_eq]; exact hs)
    unfold rdX
    rw [if_pos h3]
    refine AW.skip ?_
    refine AW.seq ?_
    refine AW.region ?_
    refine ARun.pure (PureOp.move rfl (.tmp rfl)) rfl rfl (Nat.le_of_ble_eq_true rfl) ?_
    refine ARun.pure (PureOp.indexLst (i := 1) rfl (.frs (.tmp rfl)) vrl_el_28_1 .int rfl (by omega)) rfl rfl (Nat.le_of_ble_eq_true rfl) ?_
    refine ARun.pure (PureOp.loadRef rfl (.tmp rfl) vrl_pl_9 (Nat.le_of_ble_eq_true rfl)) rfl rfl (Nat.le_of_ble_eq_true rfl) ?_
    refine ARun.pure (PureOp.call rfl (v_l13Int (bs ((Rd.cutL 32 s.data.toList).getD 1 [])) (by assumption)) ⟨⟨_, (.tmp rfl), .str⟩, trivial⟩ vrl_ca_10 ⟨trivial, trivial⟩) rfl rfl (Nat.le_of_ble_eq_true rfl) ?_
    refine ARun.pure (PureOp.move rfl (.tmp rfl)) rfl rfl (Nat.le_of_ble_eq_true rfl) ?_
    refine ARun.pure (PureOp.ext2a rfl (.tmp rfl)) rfl rfl (Nat.le_of_ble_eq_true rfl) ?_
    refine ARun.pure (PureOp.ext2b rfl (.tmp rfl)) rfl rfl (Nat.le_of_ble_eq_true rfl) ?_
    refine ARun.pure (PureOp.assign rfl (.tmp rfl)) rfl rfl (Nat.le_of_ble_eq_true rfl) ?_
    refine ARun.pure (PureOp.assign rfl (.tmp rfl)) rfl rfl (Nat.le_of_ble_eq_true rfl) ?_
    refine ARun.nil ?_
    refine AW.seq ?_
    refine AW.region ?_
    refine ARun.pure (PureOp.move rfl (.tmp rfl)) rfl rfl (Nat.le_of_ble_eq_true rfl) ?_
    refine ARun.pure (PureOp.indexLst (i := 2) rfl (.frs (.tmp rfl)) vrl_el_28_1 .int rfl (by omega)) rfl rfl (Nat.le_of_ble_eq_true rfl) ?_
    refine ARun.pure (PureOp.loadRef rfl (.tmp rfl) vrl_pl_9 (Nat.le_of_ble_eq_true rfl)) rfl rfl (Nat.le_of_ble_eq_true rfl) ?_
    refine ARun.pure (PureOp.call rfl (v_l13Int (bs ((Rd.cutL 32 s.data.toList).getD 2 [])) (by assumption)) ⟨⟨_, (.tmp rfl), .str⟩, trivial⟩ vrl_ca_10 ⟨trivial, trivial⟩) rfl rfl (Nat.le_of_ble_eq_true rfl) ?_
    refine ARun.pure (PureOp.move rfl (.tmp rfl)) rfl rfl (Nat.le_of_ble_eq_true rfl) ?_
    refine ARun.pure (PureOp.ext2a rfl (.tmp rfl)) rfl rfl (Nat.le_of_ble_eq_true rfl) ?_
    refine ARun.pure (PureOp.ext2b rfl (.tmp rfl)) rfl rfl (Nat.le_of_ble_eq_true rfl) ?_
    refine ARun.pure (PureOp.assign rfl (.tmp rfl)) rfl rfl (Nat.le_of_ble_eq_true rfl) ?_
    refine ARun.pure (PureOp.assign rfl (.tmp rfl)) rfl rfl (Nat.le_of_ble_eq_true rfl) ?_
    refine ARun.nil ?_
    refine AW.seq ?_
    refine AW.region ?_
    refine ARun.pure (PureOp.move rfl (.tmp rfl)) rfl rfl (Nat.le_of_ble_eq_true rfl) ?_
    refine ARun.pure (PureOp.indexLst (i := 0) rfl (.frs (.tmp rfl)) vrl_el_28_1 .int rfl (by omega)) rfl rfl (Nat.le_of_ble_eq_true rfl) ?_
    refine ARun.pure (PureOp.loadRef rfl (.tmp rfl) vrl_pl_9 (Nat.le_of_ble_eq_true rfl)) rfl rfl (Nat.le_of_ble_eq_true rfl) ?_
    refine ARun.pure (PureOp.move rfl (.tmp rfl)) rfl rfl (Nat.le_of_ble_eq_true rfl) ?_
    refine ARun.pure (PureOp.move rfl (.tmp rfl)) rfl rfl (Nat.le_of_ble_eq_true rfl) ?_
    refine ARun.pure (PureOp.build (ys := [.str (bs ((Rd.cutL 32 s.data.toList).getD 0 [])), .int .i64 ((Rd.intL (bs ((Rd.cutL 32 s.data.toList).getD 1 [])).data.toList).1), .int .i64 ((Rd.intL (bs ((Rd.cutL 32 s.data.toList).getD 2 [])).data.toList).1)]) (l := [.str ByteArray.empty, .int .i64 0, .int .i64 0]) (pl := [(0, 1), (1, 1), (2, 1)]) (z := (.agg #[.string ByteArray.empty, .int .i64 0, .int .i64 0])) rfl (by kernel_rfl) (by kernel_rfl) (fun _ _ _ => ⟨_, _, rfl, ⟨rfl, by decide⟩, ⟨_, _, rfl, rfl, ⟨_, _, rfl, rfl, rfl⟩⟩⟩) ⟨(.tmp rfl), trivial, rfl, ⟨(.tmp rfl), trivial, rfl, ⟨(.tmp rfl), trivial, rfl, trivial⟩⟩⟩ rfl) rfl rfl (Nat.le_of_ble_eq_true rfl) ?_
    refine ARun.alloc (id := 1) (l := [.str ByteArray.empty, .int .i64 0, .int .i64 0]) (z := (.agg #[.string ByteArray.empty, .int .i64 0, .int .i64 0])) rfl (by kernel_rfl) (fun _ _ _ => ⟨_, _, rfl, ⟨rfl, by decide⟩, ⟨_, _, rfl, rfl, ⟨_, _, rfl, rfl, rfl⟩⟩⟩) ⟨rfl, (by repeat first | exact trivial | refine ⟨by decide, by first | rfl | exact trivial | (intro i j; first | rfl | exact getD_no rfl | (dsimp only; split <;> first | rfl | exact getD_no rfl) | exact scl_no (by apply_assumption) _), ?_⟩)⟩ rfl rfl rfl (Nat.le_of_ble_eq_true rfl) ?_
    refine ARun.store rfl (.tmp rfl) (.tmp rfl) (SV.cells_of (by exact ⟨trivial, trivial, trivial, trivial⟩)) rfl (Nat.le_of_ble_eq_true rfl) vrl_sz_23_3 rfl rfl ?_
    refine ARun.nil ?_
    refine AW.seq ?_
    refine AW.anyX [⟨[1], [], [], []⟩, ⟨[], [], [], []⟩, ⟨[], [], [], []⟩, ⟨[], [], [], []⟩, ⟨[], [], [], []⟩, ⟨[], [], [], []⟩, ⟨[1], [], [], []⟩, ⟨[], [], [], []⟩, ⟨[], [], [], []⟩, ⟨[], [0], [], [(0, .cells [.str (bs ((Rd.cutL 32 s.data.toList).getD 0 [])), .int .i64 ((Rd.intL (bs ((Rd.cutL 32 s.data.toList).getD 1 [])).data.toList).1), .int .i64 ((Rd.intL (bs ((Rd.cutL 32 s.data.toList).getD 2 [])).data.toList).1)])]⟩, ⟨[], [], [], []⟩] (by kernel_rfl) (by kernel_rfl) (by kernel_rfl) ⟨⟨.inl rfl, .inr (.inr trivial), .inr (.inr trivial), .inr (.inr trivial), .inr (.inr trivial), .inr (.inr trivial), .inr (.inr trivial), .inr (.inr trivial), .inr (.inr trivial), .inr (.inr trivial), .inr (.inr trivial), trivial⟩, ⟨.inr (.inr trivial), .inl rfl, .inr (.inr trivial), .inr (.inr trivial), .inr (.inr trivial), .inr (.inr trivial), .inr (.inr trivial), .inr (.inr trivial), .inr (.inr trivial), .inr (.inr trivial), .inr (.inr trivial), trivial⟩, ⟨.inr (.inr trivial), .inr (.inr trivial), .inl rfl, .inr (.inr trivial), .inr (.inr trivial), .inr (.inr trivial), .inr (.inr trivial), .inr (.inr trivial), .inr (.inr trivial), .inr (.inr trivial), .inr (.inr trivial), trivial⟩, ⟨.inr (.inr trivial), .inr (.inr trivial), .inr (.inr trivial), .inl rfl, .inr (.inr trivial), .inr (.inr trivial), .inr (.inr trivial), .inr (.inr trivial), .inr (.inr trivial), .inr (.inr trivial), .inr (.inr trivial), trivial⟩, ⟨.inr (.inr trivial), .inr (.inr trivial), .inr (.inr trivial), .inr (.inr trivial), .inl rfl, .inr (.inr trivial), .inr (.inr trivial), .inr (.inr trivial), .inr (.inr trivial), .inr (.inr trivial), .inr (.inr trivial), trivial⟩, ⟨.inr (.inr trivial), .inr (.inr trivial), .inr (.inr trivial), .inr (.inr trivial), .inr (.inr trivial), .inl rfl, .inr (.inr trivial), .inr (.inr trivial), .inr (.inr trivial), .inr (.inr trivial), .inr (.inr trivial), trivial⟩, ⟨.inr (.inr trivial), .inr (.inr trivial), .inr (.inr trivial), .inr (.inr trivial), .inr (.inr trivial), .inr (.inr trivial), .inl rfl, .inr (.inr trivial), .inr (.inr trivial), .inr (.inr trivial), .inr (.inr trivial), trivial⟩, ⟨.inr (.inr trivial), .inr (.inr trivial), .inr (.inr trivial), .inr (.inr trivial), .inr (.inr trivial), .inr (.inr trivial), .inr (.inr trivial), .inl rfl, .inr (.inr trivial), .inr (.inr trivial), .inr (.inr trivial), trivial⟩, ⟨.inr (.inr trivial), .inr (.inr trivial), .inr (.inr trivial), .inr (.inr trivial), .inr (.inr trivial), .inr (.inr trivial), .inr (.inr trivial), .inr (.inr trivial), .inl rfl, .inr (.inr trivial), .inr (.inr trivial), trivial⟩, ⟨.inr (.inr trivial), .inr (.inr trivial), .inr (.inr trivial), .inr (.inr trivial), .inr (.inr trivial), .inr (.inr trivial), .inr (.inr trivial), .inr (.inr trivial), .inr (.inr trivial), .inl rfl, .inr (.inr trivial), trivial⟩, ⟨.inr (.inr trivial), .inr (.inr trivial), .inr (.inr trivial), .inr (.inr trivial), .inr (.inr trivial), .inr (.inr trivial), .inr (.inr trivial), .inr (.inr trivial), .inr (.inr trivial), .inr (.inr trivial), .inl rfl, trivial⟩, trivial⟩ ⟨trivial, trivial, trivial, trivial, trivial, trivial, trivial, trivial, trivial, trivial, trivial, trivial⟩ ?_
    refine ADX.pure [(1, .cells [.str (bs ((Rd.cutL 32 s.data.toList).getD 0 [])), .int .i64 ((Rd.intL (bs ((Rd.cutL 32 s.data.toList).getD 1 [])).data.toList).1), .int .i64 ((Rd.intL (bs ((Rd.cutL 32 s.data.toList).getD 2 [])).data.toList).1)])] (PureOp.loadPtrAgg rfl (.tmp rfl) vrl_ag_23_3 rfl rfl (Nat.le_of_ble_eq_true rfl) (Nat.le_of_ble_eq_true rfl)) rfl rfl (Nat.le_of_ble_eq_true rfl) ⟨rfl, trivial⟩ rfl ?_
    refine ADX.pure [] (PureOp.move rfl (.tmp rfl)) rfl rfl (Nat.le_of_ble_eq_true rfl) trivial rfl ?_
    refine ADX.pure [] (PureOp.move rfl (.tmp rfl)) rfl rfl (Nat.le_of_ble_eq_true rfl) trivial rfl ?_
    refine ADX.gpure (want := true) [] (.tt rfl) (fun hg2 => PureOp.move rfl (.tmp rfl)) rfl rfl rfl (Nat.le_of_ble_eq_true rfl) trivial rfl ?_
    refine ADX.pure [] (PureOp.pick rfl (.tmp rfl) (fun hp3 => .gtmp rfl hp3) (fun _ => .bool)) rfl rfl (Nat.le_of_ble_eq_true rfl) trivial rfl ?_
    refine ADX.pure [] (PureOp.move rfl (.tmp rfl)) rfl rfl (Nat.le_of_ble_eq_true rfl) trivial rfl ?_
    refine ADX.gpure (want := true) [(1, .cells [.str (bs ((Rd.cutL 32 s.data.toList).getD 0 [])), .int .i64 ((Rd.intL (bs ((Rd.cutL 32 s.data.toList).getD 1 [])).data.toList).1), .int .i64 ((Rd.intL (bs ((Rd.cutL 32 s.data.toList).getD 2 [])).data.toList).1)])] (.tt rfl) (fun hg5 => PureOp.loadPtrAgg rfl (.tmp rfl) vrl_ag_23_3 rfl rfl (Nat.le_of_ble_eq_true rfl) (Nat.le_of_ble_eq_true rfl)) rfl rfl rfl (Nat.le_of_ble_eq_true rfl) ⟨rfl, trivial⟩ rfl ?_
    refine ADX.gpure (want := true) [] (.tt rfl) (fun hg6 => PureOp.call rfl (v_l13Say (⟨bs ((Rd.cutL 32 s.data.toList).getD 0 []), (Rd.intL (bs ((Rd.cutL 32 s.data.toList).getD 1 [])).data.toList).1, (Rd.intL (bs ((Rd.cutL 32 s.data.toList).getD 2 [])).data.toList).1⟩ : GSay)) ⟨⟨_, (.gtmp rfl hg6), ⟨.str, .int, .int, trivial⟩⟩, trivial⟩ vrl_ca_11 trivial) rfl rfl rfl (Nat.le_of_ble_eq_true rfl) trivial rfl ?_
    refine ADX.pure [] (PureOp.pick rfl (.tmp rfl) (fun hp7 => .gtmp rfl hp7) (fun _ => .bool)) rfl rfl (Nat.le_of_ble_eq_true rfl) trivial rfl ?_
    refine ADX.eff (tk := [0]) (new := []) (s := .one (.con undef)) (F := []) (Hin := [(0, .cells [.str ByteArray.empty, .int .i64 0, .int .i64 0])]) (Hout := [(0, .cells [.str (bs ((Rd.cutL 32 s.data.toList).getD 0 [])), .int .i64 ((Rd.intL (bs ((Rd.cutL 32 s.data.toList).getD 1 [])).data.toList).1), .int .i64 ((Rd.intL (bs ((Rd.cutL 32 s.data.toList).getD 2 [])).data.toList).1)])]) (fun E X hE hX Q rest hk => ?_) ⟨rfl, trivial⟩ ⟨rfl, rfl⟩ rfl rfl rfl rfl trivial rfl (fun _ e => by cases e) ?_
    · refine ARun.store rfl (.tmp rfl) (.tmp rfl) (SV.cells_of (by exact ⟨trivial, trivial, trivial, trivial⟩)) rfl (Nat.le_of_ble_eq_true rfl) vrl_sz_23_3 rfl rfl ?_
      refine ARun.hleX ?_ ?_ hk
      · exact HeapLe.one rfl trivial
      · repeat (first | exact LkX.refl | refine LkX.cons (hX.none rfl) ?_ | refine LkX.filter (hX.none rfl) ?_)
    refine ADX.pure [] (PureOp.assign rfl (.tmp rfl)) rfl rfl (Nat.le_of_ble_eq_true rfl) trivial rfl ?_
    refine ADX.nil (H := [(0, .cells [.str (bs ((Rd.cutL 32 s.data.toList).getD 0 [])), .int .i64 ((Rd.intL (bs ((Rd.cutL 32 s.data.toList).getD 1 [])).data.toList).1), .int .i64 ((Rd.intL (bs ((Rd.cutL 32 s.data.toList).getD 2 [])).data.toList).1)]), (1, .cells [.str (bs ((Rd.cutL 32 s.data.toList).getD 0 [])), .int .i64 ((Rd.intL (bs ((Rd.cutL 32 s.data.toList).getD 1 [])).data.toList).1), .int .i64 ((Rd.intL (bs ((Rd.cutL 32 s.data.toList).getD 2 [])).data.toList).1)])]) ?_ ?_
    · exact HeapLe.one rfl (HeapLe.one rfl trivial)
    exact AW.ret (show ∃ s, ResL _ _ [.cell 2 23, .tmp 3] s ∧ FvS _ s _ from ⟨_, .inr (.inl ⟨_, _, _, _, rfl, .cells rfl vrl_ag_23_3 rfl rfl (Nat.le_of_ble_eq_true rfl) (Nat.le_of_ble_eq_true rfl), .tmp rfl, rfl⟩), ⟨.str, .int, .int, trivial⟩, .bool⟩)

theorem v_sReadSay (s : ByteArray) (hs : s.size ≤ 1048576) : FnF Tryd.prog 4 [.one (.str s)] (.tup2 (.agg [.str ((readV s).1.name), .int .i64 ((readV s).1.at_), .int .i64 ((readV s).1.value)]) (.one (.bool ((readV s).2)))) := by
  refine FnF.of_body (fn := Tryd.f4) Tryd.func4 rfl (Nat.le_of_ble_eq_true rfl)  ?_
  intro w0
  show AW _ 15 _ _ _ _
  refine AW.seq ?_
  refine AW.region ?_
  refine ARun.alloc (id := 0) (l := [.str ByteArray.empty, .int .i64 0, .int .i64 0]) (z := (.agg #[.string ByteArray.empty, .int .i64 0, .int .i64 0])) rfl (by kernel_rfl) (fun _ _ _ => ⟨_, _, rfl, ⟨rfl, by decide⟩, ⟨_, _, rfl, rfl, ⟨_, _, rfl, rfl, rfl⟩⟩⟩) ⟨rfl, (by repeat first | exact trivial | refine ⟨by decide, by first | rfl | exact trivial | (intro i j; first | rfl | exact getD_no rfl | (dsimp only; split <;> first | rfl | exact getD_no rfl) | exact scl_no (by apply_assumption) _), ?_⟩)⟩ rfl rfl rfl (Nat.le_of_ble_eq_true rfl) ?_
  refine ARun.pure (PureOp.assign rfl .bool) rfl rfl (Nat.le_of_ble_eq_true rfl) ?_
  refine ARun.nil ?_
  refine AW.seq ?_
  refine AW.region ?_
  refine ARun.pure (PureOp.move rfl (.tmp rfl)) rfl rfl (Nat.le_of_ble_eq_true rfl) ?_
  refine ARun.fresh (FreshOp.callS rfl (v_l13Read s (by omega)) ⟨⟨_, (.tmp rfl), .str⟩, trivial⟩ vrl_ca_7 rfl) rfl rfl (Nat.le_of_ble_eq_true rfl) ?_
  refine ARun.pure (PureOp.move rfl (.tmp rfl)) rfl rfl (Nat.le_of_ble_eq_true rfl) ?_
  refine ARun.pure (PureOp.ext2a rfl (.tmp rfl)) rfl rfl (Nat.le_of_ble_eq_true rfl) ?_
  refine ARun.pure (PureOp.ext2b rfl (.tmp rfl)) rfl rfl (Nat.le_of_ble_eq_true rfl) ?_
  refine ARun.alloc (id := 1) (l := [.str ByteArray.empty, .int .i64 0, .int .i64 0]) (z := (.agg #[.string ByteArray.empty, .int .i64 0, .int .i64 0])) rfl (by kernel_rfl) (fun _ _ _ => ⟨_, _, rfl, ⟨rfl, by decide⟩, ⟨_, _, rfl, rfl, ⟨_, _, rfl, rfl, rfl⟩⟩⟩) ⟨rfl, (by repeat first | exact trivial | refine ⟨by decide, by first | rfl | exact trivial | (intro i j; first | rfl | exact getD_no rfl | (dsimp only; split <;> first | rfl | exact getD_no rfl) | exact scl_no (by apply_assumption) _), ?_⟩)⟩ rfl rfl rfl (Nat.le_of_ble_eq_true rfl) ?_
  refine ARun.store rfl (.tmp rfl) (.tmp rfl) (SV.cells_of (by exact ⟨trivial, trivial, trivial, trivial⟩)) rfl (Nat.le_of_ble_eq_true rfl) vrl_sz_23_3 rfl rfl ?_
  refine ARun.pure (PureOp.assign rfl (.tmp rfl)) rfl rfl (Nat.le_of_ble_eq_true rfl) ?_
  refine ARun.nil ?_
  refine AW.seq ?_
  refine AW.seq ?_
  refine AW.region ?_
  refine ARun.pure (PureOp.move rfl (.tmp rfl)) rfl rfl (Nat.le_of_ble_eq_true rfl) ?_
  refine ARun.pure (PureOp.not rfl (.tmp rfl)) rfl rfl (Nat.le_of_ble_eq_true rfl) ?_
  refine ARun.nil ?_
  refine AW.cond (.tmp rfl) (fun hb1 => ?_) (fun hb1 => ?_)
  · have _u := True.intro
    replace hb1 := of_not hb1
    have hx2 : (rdX s).2 = false := by revert hb1; cases (rdX s).2 <;> decide
    rw [rdX_read, if_neg (by rw [hx2]; decide)]
    refine AW.seq ?_
    refine AW.region ?_
    refine ARun.pure (PureOp.build (ys := []) (l := [.str ByteArray.empty, .int .i64 0, .int .i64 0]) (pl := [(0, 1), (1, 1), (2, 1)]) (z := (.agg #[.string ByteArray.empty, .int .i64 0, .int .i64 0])) rfl (by kernel_rfl) (by kernel_rfl) (fun _ _ _ => ⟨_, _, rfl, ⟨rfl, by decide⟩, ⟨_, _, rfl, rfl, ⟨_, _, rfl, rfl, rfl⟩⟩⟩) trivial rfl) rfl rfl (Nat.le_of_ble_eq_true rfl) ?_
    refine ARun.store rfl (.tmp rfl) (.tmp rfl) (SV.cells_of (by exact ⟨trivial, trivial, trivial, trivial⟩)) rfl (Nat.le_of_ble_eq_true rfl) vrl_sz_23_3 rfl rfl ?_
    refine ARun.pure (PureOp.assign rfl .bool) rfl rfl (Nat.le_of_ble_eq_true rfl) ?_
    refine ARun.nil ?_
    exact AW.ret (show ∃ s, ResL _ _ [.cell 2 23, .tmp 3] s ∧ FvS _ s _ from ⟨_, .inr (.inl ⟨_, _, _, _, rfl, .cells rfl vrl_ag_23_3 rfl rfl (Nat.le_of_ble_eq_true rfl) (Nat.le_of_ble_eq_true rfl), .tmp rfl, rfl⟩), ⟨.str, .int, .int, trivial⟩, .bool⟩)
  · have _u := True.intro
    replace hb1 := not_f hb1
    have hx2 : (rdX s).2 = true := by revert hb1; cases (rdX s).2 <;> decide
    rw [rdX_read, if_pos hx2]
    refine AW.skip ?_
    refine AW.seq ?_
    refine AW.region ?_
    refine ARun.pure (PureOp.loadPtrAgg rfl (.tmp rfl) vrl_ag_23_3 rfl rfl (Nat.le_of_ble_eq_true rfl) (Nat.le_of_ble_eq_true rfl)) rfl rfl (Nat.le_of_ble_eq_true rfl) ?_
    refine ARun.store rfl (.tmp rfl) (.tmp rfl) (SV.cells_of (by exact ⟨trivial, trivial, trivial, trivial⟩)) rfl (Nat.le_of_ble_eq_true rfl) vrl_sz_23_3 rfl rfl ?_
    refine ARun.pure (PureOp.assign rfl .bool) rfl rfl (Nat.le_of_ble_eq_true rfl) ?_
    refine ARun.nil ?_
    exact AW.ret (show ∃ s, ResL _ _ [.cell 2 23, .tmp 3] s ∧ FvS _ s _ from ⟨_, .inr (.inl ⟨_, _, _, _, rfl, .cells rfl vrl_ag_23_3 rfl rfl (Nat.le_of_ble_eq_true rfl) (Nat.le_of_ble_eq_true rfl), .tmp rfl, rfl⟩), ⟨.str, .int, .int, trivial⟩, .bool⟩)

theorem gsay_plain {n : ByteArray} {a v : Int} {b : Bool} (h : n.size ≤ maxLen) : (SV.tup2 (.agg [.str n, .int .i64 a, .int .i64 v]) (.one (.bool b))).Plain := by
  refine ⟨fun x hx => ?_, trivial⟩
  simp only [List.mem_cons, List.not_mem_nil, or_false] at hx
  rcases hx with rfl | rfl | rfl
  · exact h
  · trivial
  · trivial
theorem v_iReadSay (s : ByteArray) (hs : s.size ≤ 1048576) : FnF Tryd.prog 5 [.one (.str s)] (.tup2 (.agg [.str ((readV s).1.name), .int .i64 ((readV s).1.at_), .int .i64 ((readV s).1.value)]) (.one (.bool ((readV s).2)))) := by
  refine FnF.of_body (fn := Tryd.f5) Tryd.func5 rfl (Nat.le_of_ble_eq_true rfl)  ?_
  intro w0
  show AW _ 8 _ _ _ _
  refine AW.seq ?_
  refine AW.region ?_
  refine ARun.alloc (id := 0) (l := [.str ByteArray.empty, .int .i64 0, .int .i64 0]) (z := (.agg #[.string ByteArray.empty, .int .i64 0, .int .i64 0])) rfl (by kernel_rfl) (fun _ _ _ => ⟨_, _, rfl, ⟨rfl, by decide⟩, ⟨_, _, rfl, rfl, ⟨_, _, rfl, rfl, rfl⟩⟩⟩) ⟨rfl, (by repeat first | exact trivial | refine ⟨by decide, by first | rfl | exact trivial | (intro i j; first | rfl | exact getD_no rfl | (dsimp only; split <;> first | rfl | exact getD_no rfl) | exact scl_no (by apply_assumption) _), ?_⟩)⟩ rfl rfl rfl (Nat.le_of_ble_eq_true rfl) ?_
  refine ARun.pure (PureOp.assign rfl .bool) rfl rfl (Nat.le_of_ble_eq_true rfl) ?_
  refine ARun.nil ?_
  refine AW.seq ?_
  refine AW.region ?_
  refine ARun.pure (PureOp.move rfl (.tmp rfl)) rfl rfl (Nat.le_of_ble_eq_true rfl) ?_
  refine ARun.pure (PureOp.call rfl (v_readSay s (by omega)) ⟨⟨_, (.tmp rfl), .str⟩, trivial⟩ vrl_ca_8 (gsay_plain (Nat.le_trans (readV_name _ (by omega)) (by decide)))) rfl rfl (Nat.le_of_ble_eq_true rfl) ?_
  refine ARun.pure (PureOp.ext2a rfl (.tmp rfl)) rfl rfl (Nat.le_of_ble_eq_true rfl) ?_
  refine ARun.pure (PureOp.ext2b rfl (.tmp rfl)) rfl rfl (Nat.le_of_ble_eq_true rfl) ?_
  refine ARun.store rfl (.tmp rfl) (.tmp rfl) (SV.cells_of (by exact ⟨trivial, trivial, trivial, trivial⟩)) rfl (Nat.le_of_ble_eq_true rfl) vrl_sz_23_3 rfl rfl ?_
  refine ARun.pure (PureOp.assign rfl (.tmp rfl)) rfl rfl (Nat.le_of_ble_eq_true rfl) ?_
  refine ARun.nil ?_
  exact AW.ret (show ∃ s, ResL _ _ [.cell 2 23, .tmp 3] s ∧ FvS _ s _ from ⟨_, .inr (.inl ⟨_, _, _, _, rfl, .cells rfl vrl_ag_23_3 rfl rfl (Nat.le_of_ble_eq_true rfl) (Nat.le_of_ble_eq_true rfl), .tmp rfl, rfl⟩), ⟨.str, .int, .int, trivial⟩, .bool⟩)
end Go.Proofs.YticinemcmgggpabDoor

/-
  The laws' own budgets (sz) over the data of this seat.
-/
namespace Go.Proofs.YticinemcmgggpabDoor
open Go.ChangeShapes Go.WideShapes Go.ChangeAt Go.RowKit Go.BigFrame Go.Deep
set_option linter.unusedVariables false
set_option linter.unusedSimpArgs false

end Go.Proofs.YticinemcmgggpabDoor

/-
  The laws' own comparisons (eq) over the data of this seat.
-/
namespace Go.Proofs.YticinemcmgggpabDoor
open Go.ChangeShapes Go.WideShapes Go.ChangeAt Go.RowKit Go.BigFrame Go.Deep
set_option linter.unusedVariables false
set_option linter.unusedSimpArgs false
theorem ve_fi_23_0_0 : fieldB Tryd.prog 23 0 0 = true := by kernel_rfl
theorem ve_fi_23_1_1 : fieldB Tryd.prog 23 1 1 = true := by kernel_rfl
theorem ve_fi_23_2_2 : fieldB Tryd.prog 23 2 2 = true := by kernel_rfl
theorem ve_pl_3 : plainB Tryd.prog 3 = true := by kernel_rfl
theorem ve_pl_9 : plainB Tryd.prog 9 = true := by kernel_rfl
theorem v_eqSay (x y : GSay) : Fn Tryd.prog 6 [.agg [.str x.name, .int .i64 x.at_, .int .i64 x.value], .agg [.str y.name, .int .i64 y.at_, .int .i64 y.value]] (.one (.bool (decide (x = y)))) := by
  refine Fn.of_body (fn := Tryd.f6) Tryd.func6 rfl (Nat.le_of_ble_eq_true rfl) trivial ?_
  intro w0
  show AW _ 20 _ _ _ _
  refine AW.seq ?_
  refine AW.region ?_
  refine ARun.box (id := 0) rfl (.tmp rfl) (SV.cells_of (by exact ⟨trivial, trivial, trivial, trivial⟩)) ⟨rfl, (by repeat first | exact trivial | refine ⟨by decide, by first | rfl | exact trivial | (intro i j; first | rfl | exact getD_no rfl | (dsimp only; split <;> first | rfl | exact getD_no rfl) | exact scl_no (by apply_assumption) _), ?_⟩)⟩ rfl rfl rfl (Nat.le_of_ble_eq_true rfl) ?_
  refine ARun.box (id := 1) rfl (.tmp rfl) (SV.cells_of (by exact ⟨trivial, trivial, trivial, trivial⟩)) ⟨rfl, (by repeat first | exact trivial | refine ⟨by decide, by first | rfl | exact trivial | (intro i j; first | rfl | exact getD_no rfl | (dsimp only; split <;> first | rfl | exact getD_no rfl) | exact scl_no (by apply_assumption) _), ?_⟩)⟩ rfl rfl rfl (Nat.le_of_ble_eq_true rfl) ?_
  refine ARun.pure (PureOp.assign rfl .bool) rfl rfl (Nat.le_of_ble_eq_true rfl) ?_
  refine ARun.nil ?_
  refine AW.seq ?_
  refine AW.seq ?_
  refine AW.region ?_
  refine ARun.pure (PureOp.fieldPtr rfl (.tmp rfl) ve_fi_23_0_0) rfl rfl (Nat.le_of_ble_eq_true rfl) ?_
  refine ARun.pure (PureOp.loadPtr rfl (.tmp rfl) ve_pl_9 rfl rfl (Nat.le_of_ble_eq_true rfl) (Nat.le_of_ble_eq_true rfl)) rfl rfl (Nat.le_of_ble_eq_true rfl) ?_
  refine ARun.pure (PureOp.fieldPtr rfl (.tmp rfl) ve_fi_23_0_0) rfl rfl (Nat.le_of_ble_eq_true rfl) ?_
  refine ARun.pure (PureOp.loadPtr rfl (.tmp rfl) ve_pl_9 rfl rfl (Nat.le_of_ble_eq_true rfl) (Nat.le_of_ble_eq_true rfl)) rfl rfl (Nat.le_of_ble_eq_true rfl) ?_
  refine ARun.pure (PureOp.strOp rfl (.tmp rfl) (.tmp rfl) rfl) rfl rfl (Nat.le_of_ble_eq_true rfl) ?_
  refine ARun.nil ?_
  refine AW.cond (.tmp rfl) (fun hb1 => ?_) (fun hb1 => ?_)
  · have _u := True.intro
    replace hb1 := of_decide_eq_false (of_not hb1)
    refine AW.seq ?_
    refine AW.region ?_
    refine ARun.pure (PureOp.assign rfl .bool) rfl rfl (Nat.le_of_ble_eq_true rfl) ?_
    refine ARun.nil ?_
    refine AW.ret (show ResL _ _ [.tmp 4] _ from resB rfl ?_)
    exact (decide_eq_false (fun e => hb1 (by rw [e]))).symm
  · have _u := True.intro
    replace hb1 := of_decide_eq_true (not_f hb1)
    refine AW.skip ?_
    refine AW.seq ?_
    refine AW.seq ?_
    refine AW.region ?_
    refine ARun.pure (PureOp.fieldPtr rfl (.tmp rfl) ve_fi_23_1_1) rfl rfl (Nat.le_of_ble_eq_true rfl) ?_
    refine ARun.pure (PureOp.loadPtr rfl (.tmp rfl) ve_pl_3 rfl rfl (Nat.le_of_ble_eq_true rfl) (Nat.le_of_ble_eq_true rfl)) rfl rfl (Nat.le_of_ble_eq_true rfl) ?_
    refine ARun.pure (PureOp.fieldPtr rfl (.tmp rfl) ve_fi_23_1_1) rfl rfl (Nat.le_of_ble_eq_true rfl) ?_
    refine ARun.pure (PureOp.loadPtr rfl (.tmp rfl) ve_pl_3 rfl rfl (Nat.le_of_ble_eq_true rfl) (Nat.le_of_ble_eq_true rfl)) rfl rfl (Nat.le_of_ble_eq_true rfl) ?_
    refine ARun.pure (PureOp.intOp rfl (.tmp rfl) (.tmp rfl) rfl) rfl rfl (Nat.le_of_ble_eq_true rfl) ?_
    refine ARun.nil ?_
    refine AW.cond (.tmp rfl) (fun hb2 => ?_) (fun hb2 => ?_)
    · have _u := True.intro
      replace hb2 := of_decide_eq_false (of_not hb2)
      refine AW.seq ?_
      refine AW.region ?_
      refine ARun.pure (PureOp.assign rfl .bool) rfl rfl (Nat.le_of_ble_eq_true rfl) ?_
      refine ARun.nil ?_
      refine AW.ret (show ResL _ _ [.tmp 4] _ from resB rfl ?_)
      exact (decide_eq_false (fun e => hb2 (by rw [e]))).symm
    · have _u := True.intro
      replace hb2 := of_decide_eq_true (not_f hb2)
      refine AW.skip ?_
      refine AW.seq ?_
      refine AW.seq ?_
      refine AW.region ?_
      refine ARun.pure (PureOp.fieldPtr rfl (.tmp rfl) ve_fi_23_2_2) rfl rfl (Nat.le_of_ble_eq_true rfl) ?_
      refine ARun.pure (PureOp.loadPtr rfl (.tmp rfl) ve_pl_3 rfl rfl (Nat.le_of_ble_eq_true rfl) (Nat.le_of_ble_eq_true rfl)) rfl rfl (Nat.le_of_ble_eq_true rfl) ?_
      refine ARun.pure (PureOp.fieldPtr rfl (.tmp rfl) ve_fi_23_2_2) rfl rfl (Nat.le_of_ble_eq_true rfl) ?_
      refine ARun.pure (PureOp.loadPtr rfl (.tmp rfl) ve_pl_3 rfl rfl (Nat.le_of_ble_eq_true rfl) (Nat.le_of_ble_eq_true rfl)) rfl rfl (Nat.le_of_ble_eq_true rfl) ?_
      refine ARun.pure (PureOp.intOp rfl (.tmp rfl) (.tmp rfl) rfl) rfl rfl (Nat.le_of_ble_eq_true rfl) ?_
      refine ARun.nil ?_
      refine AW.cond (.tmp rfl) (fun hb3 => ?_) (fun hb3 => ?_)
      · have _u := True.intro
        replace hb3 := of_decide_eq_false (of_not hb3)
        refine AW.seq ?_
        refine AW.region ?_
        refine ARun.pure (PureOp.assign rfl .bool) rfl rfl (Nat.le_of_ble_eq_true rfl) ?_
        refine ARun.nil ?_
        refine AW.ret (show ResL _ _ [.tmp 4] _ from resB rfl ?_)
        exact (decide_eq_false (fun e => hb3 (by rw [e]))).symm
      · have _u := True.intro
        replace hb3 := of_decide_eq_true (not_f hb3)
        refine AW.skip ?_
        refine AW.seq ?_
        refine AW.region ?_
        refine ARun.pure (PureOp.assign rfl .bool) rfl rfl (Nat.le_of_ble_eq_true rfl) ?_
        refine ARun.nil ?_
        refine AW.ret (show ResL _ _ [.tmp 4] _ from resB rfl ?_)
        exact (decide_eq_true (by cases x; cases y; simp_all)).symm
end Go.Proofs.YticinemcmgggpabDoor

/-
  The laws' own copies (to) over the data of this seat.
-/
namespace Go.Proofs.YticinemcmgggpabDoor
open Go.ChangeShapes Go.WideShapes Go.ChangeAt Go.RowKit Go.BigFrame Go.Deep
set_option linter.unusedVariables false
set_option linter.unusedSimpArgs false

end Go.Proofs.YticinemcmgggpabDoor

namespace Go.Proofs.YticinemcmgggpabDoor
open Go.ChangeShapes Go.WideShapes Go.ChangeAt Go.RowKit Go.BigFrame Go.Deep
set_option linter.unusedVariables false
set_option linter.unusedSimpArgs false
theorem vst_ag_23_3 : aggB Tryd.prog 23 3 = true := by kernel_rfl
theorem vst_bo_4 : boolB Tryd.prog 4 = true := by kernel_rfl
theorem vst_ca_4 : callB Tryd.prog 4 = true := by kernel_rfl
theorem vst_ca_5 : callB Tryd.prog 5 = true := by kernel_rfl
theorem vst_ca_6 : callB Tryd.prog 6 = true := by kernel_rfl
theorem vst_st_9 : stringB Tryd.prog 9 = true := by kernel_rfl
theorem vst_sz_23_3 : sizeB Tryd.prog 23 3 = true := by kernel_rfl
/-- What the row lists. -/
def laidD : List (String × DataW Unit) := [("math/bits.deBruijn32tab", Rows.laid_math_bits_deBruijn32tab), ("math/bits.deBruijn64tab", Rows.laid_math_bits_deBruijn64tab), ("internal/strconv.uint64pow10", Rows.laid_internal_strconv_uint64pow10), ("unicode/utf8.acceptRanges", Rows.laid_unicode_utf8_acceptRanges), ("strconv.ErrRange", Rows.laid_strconv_ErrRange), ("strconv.ErrSyntax", Rows.laid_strconv_ErrSyntax), ("unicode/utf8.first", Rows.laid_unicode_utf8_first)]
theorem gTenType : (Tryd.prog.globals[5]?).map (·.type) = some 88 := by kernel_rfl
theorem gSynType : (Tryd.prog.globals[0]?).map (·.type) = some 35 := by kernel_rfl
theorem gRanType : (Tryd.prog.globals[1]?).map (·.type) = some 35 := by kernel_rfl
theorem star_err : "*" ++ "errors.errorString" = "*errors.errorString" := by decide
theorem row_err (u : TypeId) (h : Tryd.prog.typeName? 3 u = some "*errors.errorString") : u = 72 :=
  typeName_ptr_named (nm := "errors.errorString") (by rw [star_err]; kernel_rfl) (by kernel_rfl) (by decide) u (by rw [star_err]; exact h)
theorem ten_only : (laidD.filter fun x => x.1 == "internal/strconv.uint64pow10") = [("internal/strconv.uint64pow10", Lib.tabData .u64 Lib.pow10Tab)] := by kernel_rfl
theorem syn_only : (laidD.filter fun x => x.1 == "strconv.ErrSyntax") = [("strconv.ErrSyntax", Rows.laid_strconv_ErrSyntax)] := by kernel_rfl
theorem ran_only : (laidD.filter fun x => x.1 == "strconv.ErrRange") = [("strconv.ErrRange", Rows.laid_strconv_ErrRange)] := by kernel_rfl
theorem cells_es : Tryd.prog.cellsOf 74 = 1 := by kernel_rfl
theorem cells_s : Tryd.prog.cellsOf 9 = 1 := by kernel_rfl
theorem pre_of_laid {W : World} (h : laidMetH Tryd.prog laidD W) (hsh : W.ShapedOpen Tryd.prog) : Pre W.heap.size W := by
  rw [MakeChecks.laidMetH_plain _ _ _ (by kernel_rfl)] at h
  have hL := laidMet.filter (fun x => x.1 == "internal/strconv.uint64pow10") h
  rw [ten_only] at hL
  have ht : Lib.TabIs Tryd.prog W "internal/strconv.uint64pow10" .u64 Lib.pow10Tab := Lib.tabIs_of_head gTen gTenType Tryd.underlying88 Tryd.underlying60 (by kernel_rfl) (by kernel_rfl) hL
  have hS := laidMet.filter (fun x => x.1 == "strconv.ErrSyntax") h
  rw [syn_only] at hS
  have hR := laidMet.filter (fun x => x.1 == "strconv.ErrRange") h
  rw [ran_only] at hR
  obtain ⟨a0, s0, hv0, _, _, _⟩ := laid_sentinel hS gSyn gSynType Tryd.underlying35 row_err Tryd.underlying72 Tryd.underlying74 rfl rfl Tryd.underlying9 cells_es cells_s
  obtain ⟨a1, s1, hv1, _, _, _⟩ := laid_sentinel hR gRan gRanType Tryd.underlying35 row_err Tryd.underlying72 Tryd.underlying74 rfl rfl Tryd.underlying9 cells_es cells_s
  refine ⟨?_, ht, ⟨_, _, hv0⟩, ⟨_, _, hv1⟩, cell_of_shapedOpen_int (zero := #[.int .i64 0]) (t := 3) hsh (of_decide_eq_true (by kernel_rfl)) (by kernel_rfl) rfl (by kernel_rfl) (by kernel_rfl) Tryd.underlying3⟩
  unfold Lib.TabIs World.var? at ht
  rw [gTen] at ht
  simp only [Option.bind_some] at ht
  by_cases h0 : 5 < W.heap.size
  · exact h0
  · rw [Array.getElem?_eq_none (by omega)] at ht; cases ht
theorem door_met (os : Os) (args : Array Value) : laidMetH Tryd.prog laidD ((World.laidAll Tryd.prog os laidD).forCall (fun _ _ => 0) ⟨#[], args, []⟩).memory := by
  rw [MakeChecks.laidMetH_plain _ _ _ (by kernel_rfl)]
  exact laidMet_laidAll _ (by kernel_rfl) (by kernel_rfl)
section
variable {H : Type} {enc : TypeId × Value → H}
/-- The wrap for a row that lists variables; the contract is told the world's shape. -/
theorem handed_shaped {a : Assume} {C : Checked} {os : Os} {f : FuncId} {fn : Func} {s : ChangeSpec} {conds : List PathCond} {apart fresh handsOn again : Bool} {X : World → Array Value → Prop}
    (hX : ∀ (w w' : World) (args : Array Value), w.heap = w'.heap → X w args → X w' args)
    (own : ownKnob C.prog.godebug = none) (started : os.Started) (noInit : C.prog.inits.idxOf? f = none) (hfn : C.prog.funcs[f]? = some fn)
    (witness : ∃ (w : World) (tape : Tape) (i : Input), w.os = os ∧ (w.forCall tape i).Shaped C.prog ∧ i.vars = [] ∧ Input.okWide C.prog (w.forCall tape i) .any w.heap.size f i ∧
      ((s.pre enc C.prog fn conds apart (w.forCall tape i).memory i.args ∧ X (w.forCall tape i).memory i.args) ∧ sizedMet enc C.prog fn (OpenSpec.ofChange s) apart (w.forCall tape i).memory i.args) ∧ a.holds C.prog (lone (Frame.enter C.prog f i.args .normal) [] (w.forCall tape i)))
    (contract : ∀ (W : World) (base : Nat) (args : Array Value) (ds gs : List (DataW H)) (before : List MemPlace), W.ShapedOpen C.prog →
      (∀ (j : Nat) t v, fn.params[j]? = some t → args[j]? = some v → Value.okWide C.prog W .any base t v) →
      DataW.Whole enc C.prog fn.params.toList s.vars apart W args.toList ds gs before →
      conds.all (PathCond.test C.prog ⟨fn.params.toList, ds, s.plain.varTypes C.prog, gs⟩) = true →
      (DataW.weightsEach C.prog (fn.params.toList ++ s.plain.varTypes C.prog) (ds ++ gs)).all (· ≤ reachBytes) = true → X W args →
      a.holds C.prog (lone (Frame.enter C.prog f args .normal) [] W) →
      Calls C.prog f args W fun e W' => ∃ v, e = .returned v ∧ s.post enc C.prog fn apart fresh handsOn again W args v W') :
    ReturnsInHanded a C os f .any (fun w args => (s.pre enc C.prog fn conds apart w args ∧ X w args) ∧ sizedMet enc C.prog fn (OpenSpec.ofChange s) apart w args) (s.post enc C.prog fn apart fresh handsOn again) := by
  refine returnsInHanded_of_calls own started noInit witness ?_
  intro w tape i _ hsh _ hok hpre hholds
  obtain ⟨_, _, _, fn', hfn', _, _, _, _, hval⟩ := hok
  have e : fn' = fn := Option.some.inj (hfn'.symm.trans hfn)
  subst e
  obtain ⟨⟨⟨ds, gs, before, hw, hc⟩, hx⟩, hz⟩ := hpre
  have hw' := DataW.Whole.of_heap (w' := w.forCall tape i) (by rfl) hw
  refine (contract (w.forCall tape i) w.heap.size i.args ds gs before hsh hval hw' hc (hz.weights hw) (hX _ _ _ (by rfl) hx) hholds).mono fun e W' ⟨v, he, hp⟩ => ?_
  subst he
  exact ChangeSpec.post_blind hp
end

theorem opensC_9 : OpensC Tryd.prog 9 (fun x : ByteArray => [.str x]) := OpensC.string Tryd.underlying9

theorem law_ReadSay (x0 : ByteArray) : Fn Tryd.prog 3 [.one (.str x0)] (.one (.bool true)) := by
  refine Fn.of_body (fn := Tryd.f3) Tryd.func3 rfl (Nat.le_of_ble_eq_true rfl) trivial ?_
  intro w0
  show AW _ 29 _ _ _ _
  refine AW.seq ?_
  refine AW.region ?_
  refine ARun.pure (PureOp.assign rfl .bool) rfl rfl (Nat.le_of_ble_eq_true rfl) ?_
  refine ARun.nil ?_
  refine AW.seq ?_
  refine AW.seq ?_
  refine AW.region ?_
  refine ARun.pure (PureOp.move rfl (.tmp rfl)) rfl rfl (Nat.le_of_ble_eq_true rfl) ?_
  refine ARun.pure (PureOp.lenStr rfl (.tmp rfl) vst_st_9) rfl rfl (Nat.le_of_ble_eq_true rfl) ?_
  refine ARun.pure (PureOp.intOp rfl (.tmp rfl) .int rfl) rfl rfl (Nat.le_of_ble_eq_true rfl) ?_
  refine ARun.nil ?_
  refine AW.cond (.tmp rfl) (fun hb1 => ?_) (fun hb1 => ?_)
  · have _u := True.intro
    replace hb1 := of_decide_eq_true hb1
    refine AW.seq ?_
    refine AW.region ?_
    refine ARun.pure (PureOp.assign rfl .bool) rfl rfl (Nat.le_of_ble_eq_true rfl) ?_
    refine ARun.nil ?_
    refine AW.ret (show ResL _ _ [.tmp 2] _ from resB rfl ?_)
    rfl
  · have _u := True.intro
    replace hb1 := of_decide_eq_false hb1
    refine AW.skip ?_
    refine AW.seq ?_
    refine AW.region ?_
    refine ARun.pure (PureOp.move rfl (.tmp rfl)) rfl rfl (Nat.le_of_ble_eq_true rfl) ?_
    refine ARun.fresh (FreshOp.callS rfl (v_sReadSay x0 (by omega)) ⟨⟨_, (.tmp rfl), .str⟩, trivial⟩ vst_ca_4 rfl) rfl rfl (Nat.le_of_ble_eq_true rfl) ?_
    refine ARun.pure (PureOp.move rfl (.tmp rfl)) rfl rfl (Nat.le_of_ble_eq_true rfl) ?_
    refine ARun.pure (PureOp.ext2a rfl (.tmp rfl)) rfl rfl (Nat.le_of_ble_eq_true rfl) ?_
    refine ARun.pure (PureOp.ext2b rfl (.tmp rfl)) rfl rfl (Nat.le_of_ble_eq_true rfl) ?_
    refine ARun.alloc (id := 0) (l := [.str ByteArray.empty, .int .i64 0, .int .i64 0]) (z := (.agg #[.string ByteArray.empty, .int .i64 0, .int .i64 0])) rfl (by kernel_rfl) (fun _ _ _ => ⟨_, _, rfl, ⟨rfl, by decide⟩, ⟨_, _, rfl, rfl, ⟨_, _, rfl, rfl, rfl⟩⟩⟩) ⟨rfl, (by repeat first | exact trivial | refine ⟨by decide, by first | rfl | exact trivial | (intro i j; first | rfl | exact getD_no rfl | (dsimp only; split <;> first | rfl | exact getD_no rfl) | exact scl_no (by apply_assumption) _), ?_⟩)⟩ rfl rfl rfl (Nat.le_of_ble_eq_true rfl) ?_
    refine ARun.store rfl (.tmp rfl) (.tmp rfl) (SV.cells_of (by exact ⟨trivial, trivial, trivial, trivial⟩)) rfl (Nat.le_of_ble_eq_true rfl) vst_sz_23_3 rfl rfl ?_
    refine ARun.pure (PureOp.assign rfl (.tmp rfl)) rfl rfl (Nat.le_of_ble_eq_true rfl) ?_
    refine ARun.nil ?_
    refine AW.seq ?_
    refine AW.region ?_
    refine ARun.pure (PureOp.move rfl (.tmp rfl)) rfl rfl (Nat.le_of_ble_eq_true rfl) ?_
    refine ARun.fresh (FreshOp.callS rfl (v_iReadSay x0 (by omega)) ⟨⟨_, (.tmp rfl), .str⟩, trivial⟩ vst_ca_5 rfl) rfl rfl (Nat.le_of_ble_eq_true rfl) ?_
    refine ARun.pure (PureOp.move rfl (.tmp rfl)) rfl rfl (Nat.le_of_ble_eq_true rfl) ?_
    refine ARun.pure (PureOp.ext2a rfl (.tmp rfl)) rfl rfl (Nat.le_of_ble_eq_true rfl) ?_
    refine ARun.pure (PureOp.ext2b rfl (.tmp rfl)) rfl rfl (Nat.le_of_ble_eq_true rfl) ?_
    refine ARun.alloc (id := 1) (l := [.str ByteArray.empty, .int .i64 0, .int .i64 0]) (z := (.agg #[.string ByteArray.empty, .int .i64 0, .int .i64 0])) rfl (by kernel_rfl) (fun _ _ _ => ⟨_, _, rfl, ⟨rfl, by decide⟩, ⟨_, _, rfl, rfl, ⟨_, _, rfl, rfl, rfl⟩⟩⟩) ⟨rfl, (by repeat first | exact trivial | refine ⟨by decide, by first | rfl | exact trivial | (intro i j; first | rfl | exact getD_no rfl | (dsimp only; split <;> first | rfl | exact getD_no rfl) | exact scl_no (by apply_assumption) _), ?_⟩)⟩ rfl rfl rfl (Nat.le_of_ble_eq_true rfl) ?_
    refine ARun.store rfl (.tmp rfl) (.tmp rfl) (SV.cells_of (by exact ⟨trivial, trivial, trivial, trivial⟩)) rfl (Nat.le_of_ble_eq_true rfl) vst_sz_23_3 rfl rfl ?_
    refine ARun.pure (PureOp.assign rfl (.tmp rfl)) rfl rfl (Nat.le_of_ble_eq_true rfl) ?_
    refine ARun.nil ?_
    refine AW.seq ?_
    refine AW.seq ?_
    refine AW.region ?_
    refine ARun.pure (PureOp.loadPtrAgg rfl (.tmp rfl) vst_ag_23_3 rfl rfl (Nat.le_of_ble_eq_true rfl) (Nat.le_of_ble_eq_true rfl)) rfl rfl (Nat.le_of_ble_eq_true rfl) ?_
    refine ARun.pure (PureOp.loadPtrAgg rfl (.tmp rfl) vst_ag_23_3 rfl rfl (Nat.le_of_ble_eq_true rfl) (Nat.le_of_ble_eq_true rfl)) rfl rfl (Nat.le_of_ble_eq_true rfl) ?_
    refine ARun.pure (PureOp.call rfl (v_eqSay ((readV x0).1) ((readV x0).1)) ⟨⟨_, (.tmp rfl), ⟨.str, .int, .int, trivial⟩⟩, ⟨_, (.tmp rfl), ⟨.str, .int, .int, trivial⟩⟩, trivial⟩ vst_ca_6 trivial) rfl rfl (Nat.le_of_ble_eq_true rfl) ?_
    refine ARun.pure (PureOp.not rfl (.tmp rfl)) rfl rfl (Nat.le_of_ble_eq_true rfl) ?_
    refine ARun.pure (PureOp.move rfl (.tmp rfl)) rfl rfl (Nat.le_of_ble_eq_true rfl) ?_
    refine ARun.gpure (want := false) (.tf rfl) (fun hg2 => PureOp.move rfl (.tmp rfl)) rfl rfl (Nat.le_of_ble_eq_true rfl) rfl (Nat.le_of_ble_eq_true rfl) ?_
    refine ARun.gpure (want := false) (.tf rfl) (fun hg3 => PureOp.move rfl (.tmp rfl)) rfl rfl (Nat.le_of_ble_eq_true rfl) rfl (Nat.le_of_ble_eq_true rfl) ?_
    refine ARun.gpure (want := false) (.tf rfl) (fun hg4 => PureOp.boolNe rfl (.gtmp rfl hg4) (.gtmp rfl hg4) vst_bo_4) rfl rfl (Nat.le_of_ble_eq_true rfl) rfl (Nat.le_of_ble_eq_true rfl) ?_
    refine ARun.pure (PureOp.pick rfl (.tmp rfl) (fun _ => .bool) (fun hp6 => .gtmp rfl (not_of hp6))) rfl rfl (Nat.le_of_ble_eq_true rfl) ?_
    refine ARun.nil ?_
    refine AW.cond (.tmp rfl) (fun hb7 => ?_) (fun hb7 => ?_)
    · have _u := True.intro
      exact absurd (show (cond (!(decide ((readV x0).1 = (readV x0).1))) true (!(((readV x0).2) == ((readV x0).2)))) = false by simp) (by rw [hb7]; simp)
      --end
    · have _u := True.intro
      refine AW.skip ?_
      refine AW.seq ?_
      refine AW.region ?_
      refine ARun.pure (PureOp.assign rfl .bool) rfl rfl (Nat.le_of_ble_eq_true rfl) ?_
      refine ARun.nil ?_
      refine AW.ret (show ResL _ _ [.tmp 2] _ from resB rfl ?_)
      rfl

set_option maxRecDepth 100000 in
theorem lifted_ReadSay (os : Os) (started : os.Started) (H : Type) (enc : TypeId × Value → H) :
    ReturnsInHanded {} Tryd.checked os 3 .any (fun w args => (Rows.fnExactReadSaySpec.pre enc Tryd.prog Tryd.f3 [] false w args ∧ laidMetH Tryd.prog laidD w) ∧ sizedMet enc Tryd.prog Tryd.f3 (OpenSpec.ofChange Rows.fnExactReadSaySpec) false w args) (Rows.fnExactReadSaySpec.post enc Tryd.prog Tryd.f3 false true false false) := by
  refine handed_shaped (C := Tryd.checked) (X := fun w _ => laidMetH Tryd.prog laidD w) (fun _ _ _ hh h => h.of_heap hh) own started (by kernel_rfl) Tryd.func3
    (ChangeSpec.witness_shaped (enc := enc) (C := Tryd.checked) (os := os) (X := fun w _ => laidMetH Tryd.prog laidD w) false (World.laidAll Tryd.prog os laidD) #[.string ByteArray.empty] 8 (World.laidAll_os _ _ _) (World.shaped_of_ZipB (by kernel_rfl) (by kernel_rfl)) (by kernel_rfl) (by kernel_rfl) (by kernel_rfl) (door_met os _)) ?_
  intro W base args ds gs before hsh hval0 hW _ _ hL _
  have hval : ∀ (j : Nat) t v, Tryd.f3.params[j]? = some t → args[j]? = some v → Value.okWide Tryd.prog W .any base t v := hval0
  have hW' := hW
  obtain ⟨p, q, hA0, hV, rfl, hfz, hnd⟩ := hW
  have hA : DataW.TrodAll enc Tryd.prog W 0 (fun _ => true) true Tryd.f3.params.toList args.toList ds p := hA0
  rw [Tryd.params3] at hA hval
  obtain ⟨v0, vs0, d0, ds0, p0, q0, hargs, rfl, rfl, h0, r0⟩ := trodAll_cons hA
  obtain ⟨rfl, rfl, rfl⟩ := trodAll_nil r0
  obtain rfl : args = #[v0] := by cases args; simp_all
  obtain ⟨rfl, rfl⟩ := trodVars_none hV
  obtain ⟨x0, rfl, rfl, rfl, w0⟩ := Go.ChangeMaps.open_string Tryd.underlying9 (hval 0 9 v0 rfl rfl) h0
  have E0 : DS W (· < W.heap.size) (.one (.str x0)) _ := ⟨rfl, w0⟩
  clear hA0 hval0
  refine (law_ReadSay x0 W (· < W.heap.size) _ ⟨fun _ h => h, pre_of_laid hL hsh⟩ ⟨_, _, rfl, E0, rfl⟩).mono fun e W' ⟨he, hg⟩ => ?_
  subst he
  exact ⟨_, rfl, law_post hW' rfl laidOut (by kernel_rfl) hg rfl rfl Tryd.underlying4⟩
/-- The statement. -/
theorem said_ReadSay : Rows.FnExactReadSaySaid :=
  OpenClaim.holds_of_wide 3 Tryd.f3 rfl rfl rfl rfl rfl rfl rfl ⟨rfl, rfl, rfl, rfl, rfl⟩ rfl rfl rfl rfl rfl (by kernel_rfl) Tryd.func3 (by kernel_rfl)
    (of_decide_eq_true (by kernel_rfl)) (by unfold Func.isWrapper; first | (rw [if_pos (by decide +kernel)]; kernel_rfl) | (rw [if_neg (by decide +kernel)]; exact ⟨rfl, rfl⟩))
    (fun os started H enc _ => lifted_ReadSay os started H enc)

/-- The tied card. -/
theorem proved_ReadSay : Rows.FnExactReadSayCardSaid :=
  Claim7.holds_tied_plain_at .later [] [.data, .data, .data, .data, .sentinel, .sentinel, .pinned] true (true, "2aae16a30e33fbccd0d9534a05d6bfef6188951185b801c2e567203e7f291b64") true
    said_ReadSay (fun _ h => by cases h) (by kernel_rfl) (fun _ h => by cases h) fnExactReadSay_row_tie rfl ⟨rfl, rfl⟩ (by kernel_rfl) rfl
    (fun f fn hf hfn => by
      obtain rfl : f = 3 := Option.some.inj ((show Tryd.prog.funcNamed "loop.example/g00522/laws.FnExactReadSay" = some 3 by kernel_rfl).symm.trans hf) |>.symm
      obtain rfl : fn = Tryd.f3 := (Option.some.inj (Tryd.func3.symm.trans hfn)).symm
      exact ⟨by kernel_rfl, fun j t ht => by
        rw [Tryd.params3] at ht
        have hm : t ∈ [9] := by simpa using Array.mem_of_getElem? ht
        have hall : ([9].all fun u => !Tryd.prog.wantsStandIn u) = true := by kernel_rfl
        exact (show Tryd.prog.wantsStandIn t = false by simpa using List.all_eq_true.1 hall t hm)⟩)
    (by kernel_rfl)
#print axioms proved_ReadSay
end Go.Proofs.YticinemcmgggpabDoor
