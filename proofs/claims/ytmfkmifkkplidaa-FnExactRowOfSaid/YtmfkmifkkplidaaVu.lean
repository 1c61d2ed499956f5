/-
  A calculus for walks, part 18: data that one holder has for himself (trees): functions that make it, functions that write it.
-/
import Derived.Test.YtmfkmifkkplidaaVt
namespace Go.Proofs.Ytmfkmifkkplidaa
open Go.ChangeShapes Go.WideShapes Go.ChangeAt Go.RowKit Go.BigFrame Go.Deep
set_option linter.unusedVariables false

set_option linter.unusedSimpArgs false
theorem Vw.cast {H : Heap} {x y z : AV} (h : Vw H x y) (e : y = z) : Vw H x z := e ▸ h
/-! The leaves of a slot's value. -/
def SV.leaves : SV → List AV
  | .one x => [x]
  | .agg l => l
  | .tup2 x y => x.leaves ++ y.leaves
  | .tup3 x y z => x.leaves ++ (y.leaves ++ z.leaves)
  | .gd _ s => s.leaves
def Shape : SV → List Value → Value → Prop
  | .one _, us, v => us = [v]
  | .agg l, us, v => v = .agg us.toArray ∧ us.length = l.length
  | .tup2 x y, us, v => ∃ a b us1 us2, v = .tuple #[a, b] ∧ us = us1 ++ us2 ∧ Shape x us1 a ∧ Shape y us2 b
  | .tup3 x y z, us, v => ∃ a b c us1 us2 us3, v = .tuple #[a, b, c] ∧ us = us1 ++ (us2 ++ us3) ∧ Shape x us1 a ∧ Shape y us2 b ∧ Shape z us3 c
  | .gd _ _, _, _ => False
theorem RL.append {ρ : Rho} {w : World} {S : Nat → Prop} : ∀ {l m : List AV} {us vs : List Value}, RL ρ w S l us → RL ρ w S m vs → RL ρ w S (l ++ m) (us ++ vs)
  | [], _, _, _, h, k => by rw [show _ = [] from h]; exact k
  | _ :: _, _, _, _, ⟨u, us, e, h1, h2⟩, k => ⟨u, _, by rw [e]; rfl, h1, RL.append h2 k⟩
theorem RL.split {ρ : Rho} {w : World} {S : Nat → Prop} : ∀ {l m : List AV} {us vs : List Value}, us.length = l.length → RL ρ w S (l ++ m) (us ++ vs) → RL ρ w S l us ∧ RL ρ w S m vs
  | [], _, [], _, _, h => ⟨rfl, h⟩
  | [], _, _ :: _, _, e, _ => by simp at e
  | _ :: _, _, [], _, e, _ => by simp at e
  | x :: l, m, u :: us, vs, e, ⟨u', us', e1, h1, h2⟩ => by
    simp only [List.cons_append, List.cons.injEq] at e1
    obtain ⟨rfl, rfl⟩ := e1
    obtain ⟨k1, k2⟩ := RL.split (by simpa using e) h2
    exact ⟨⟨_, _, rfl, h1, k1⟩, k2⟩
theorem Shape.len : ∀ {s : SV} {us : List Value} {v : Value}, Shape s us v → us.length = s.leaves.length
  | .one _, _, _, h => by rw [show _ = [_] from h]; rfl
  | .agg _, _, _, h => h.2
  | .tup2 x y, _, _, ⟨a, b, us1, us2, _, e, h1, h2⟩ => by rw [e]; simp [SV.leaves, h1.len, h2.len]
  | .tup3 x y z, _, _, ⟨a, b, c, us1, us2, us3, _, e, h1, h2, h3⟩ => by rw [e]; simp [SV.leaves, h1.len, h2.len, h3.len]
  | .gd _ _, _, _, h => h.elim
def SV.ng : SV → Bool
  | .tup2 x y => x.ng && y.ng
  | .tup3 x y z => x.ng && (y.ng && z.ng)
  | .gd _ _ => false
  | _ => true
theorem RS.shape {ρ : Rho} {w : World} {S : Nat → Prop} : ∀ {s : SV} {v : Value}, s.ng = true → RS ρ w S s v → ∃ us, Shape s us v ∧ RL ρ w S s.leaves us
  | .one _, v, _, h => ⟨[v], rfl, v, [], rfl, h, rfl⟩
  | .agg _, _, _, ⟨us, e, h⟩ => ⟨us.toList, ⟨by rw [e], h.len⟩, h⟩
  | .tup2 x y, _, n, ⟨a, b, e, h1, h2⟩ => by
    rw [SV.ng, Bool.and_eq_true] at n
    obtain ⟨us, k1, k2⟩ := RS.shape n.1 h1
    obtain ⟨vs, j1, j2⟩ := RS.shape n.2 h2
    exact ⟨us ++ vs, ⟨a, b, us, vs, e, rfl, k1, j1⟩, k2.append j2⟩
  | .tup3 x y z, _, n, ⟨a, b, c, e, h1, h2, h3⟩ => by
    rw [SV.ng, Bool.and_eq_true, Bool.and_eq_true] at n
    obtain ⟨us, k1, k2⟩ := RS.shape n.1 h1
    obtain ⟨vs, j1, j2⟩ := RS.shape n.2.1 h2
    obtain ⟨ts, i1, i2⟩ := RS.shape n.2.2 h3
    exact ⟨us ++ (vs ++ ts), ⟨a, b, c, us, vs, ts, e, rfl, k1, j1, i1⟩, k2.append (j2.append i2)⟩
  | .gd _ _, _, n, _ => by cases n
theorem Shape.rs {ρ : Rho} {w : World} {S : Nat → Prop} : ∀ {s : SV} {us : List Value} {v : Value}, Shape s us v → RL ρ w S s.leaves us → RS ρ w S s v
  | .one _, _, _, e, h => by
    obtain ⟨u, us, e1, h1, _⟩ := h
    rw [show _ = [_] from e] at e1
    simp only [List.cons.injEq] at e1
    obtain ⟨rfl, _⟩ := e1
    exact h1
  | .agg _, us, _, ⟨e, _⟩, h => ⟨us.toArray, e, by simpa [SV.leaves] using h⟩
  | .tup2 x y, _, _, ⟨a, b, us1, us2, e, e2, h1, h2⟩, h => by
    rw [e2] at h
    obtain ⟨k1, k2⟩ := RL.split h1.len h
    exact ⟨a, b, e, h1.rs k1, h2.rs k2⟩
  | .tup3 x y z, _, _, ⟨a, b, c, us1, us2, us3, e, e2, h1, h2, h3⟩, h => by
    rw [e2] at h
    obtain ⟨k1, k2⟩ := RL.split h1.len h
    obtain ⟨k3, k4⟩ := RL.split h2.len k2
    exact ⟨a, b, c, e, h1.rs k1, h2.rs k3, h3.rs k4⟩
  | .gd _ _, _, _, h, _ => h.elim
/-! Names of leaves. -/
def nmA (id p : Nat) : AV → AV
  | .lst _ _ _ => .tre id p
  | x => x
def nmL (id : Nat) : Nat → List AV → List AV
  | _, [] => []
  | p, x :: l => nmA id p x :: nmL id (p + 1) l
def SV.nm (id : Nat) : Nat → SV → SV
  | p, .one x => .one (nmA id p x)
  | p, .agg l => .agg (nmL id p l)
  | p, .tup2 x y => .tup2 (x.nm id p) (y.nm id (p + x.leaves.length))
  | p, .tup3 x y z => .tup3 (x.nm id p) (y.nm id (p + x.leaves.length)) (z.nm id (p + x.leaves.length + y.leaves.length))
  | p, .gd b s => .gd b (s.nm id p)
theorem nmL_len {id : Nat} : ∀ {l : List AV} {p : Nat}, (nmL id p l).length = l.length
  | [], _ => rfl
  | _ :: l, p => by simp [nmL, nmL_len (l := l)]
theorem nmL_append {id : Nat} : ∀ {l m : List AV} {p : Nat}, nmL id p (l ++ m) = nmL id p l ++ nmL id (p + l.length) m
  | [], _, _ => by simp [nmL]
  | _ :: l, m, p => by
    simp only [List.cons_append, nmL, nmL_append (l := l), List.length_cons]
    rw [show p + (l.length + 1) = p + 1 + l.length by omega]
theorem leaves_nm {id : Nat} : ∀ {s : SV} {p : Nat}, (s.nm id p).leaves = nmL id p s.leaves
  | .one _, _ => rfl
  | .agg _, _ => rfl
  | .tup2 x y, p => by simp only [SV.nm, SV.leaves, nmL_append, leaves_nm (s := x), leaves_nm (s := y)]
  | .tup3 x y z, p => by simp only [SV.nm, SV.leaves, nmL_append, leaves_nm (s := x), leaves_nm (s := y), leaves_nm (s := z)]
  | .gd _ s, p => by simp only [SV.nm, SV.leaves, leaves_nm (s := s)]
theorem Shape.nm {id : Nat} : ∀ {s : SV} {p : Nat} {us : List Value} {v : Value}, Shape (s.nm id p) us v ↔ Shape s us v
  | .one _, _, _, _ => Iff.rfl
  | .agg _, _, _, _ => by simp only [SV.nm, Shape, nmL_len]
  | .tup2 x y, p, _, _ => by simp only [SV.nm, Shape, Shape.nm (s := x), Shape.nm (s := y)]
  | .tup3 x y z, p, _, _ => by simp only [SV.nm, Shape, Shape.nm (s := x), Shape.nm (s := y), Shape.nm (s := z)]
  | .gd _ _, _, _, _ => Iff.rfl
theorem ng_nm {id : Nat} : ∀ {s : SV} {p : Nat}, (s.nm id p).ng = s.ng
  | .one _, _ => rfl
  | .agg _, _ => rfl
  | .tup2 x y, p => by simp only [SV.nm, SV.ng, ng_nm (s := x), ng_nm (s := y)]
  | .tup3 x y z, p => by simp only [SV.nm, SV.ng, ng_nm (s := x), ng_nm (s := y), ng_nm (s := z)]
  | .gd _ _, _ => rfl
/-! Trees in a row: the leaf p lies in the blocks G p. -/
def TLs (w : World) (G : Nat → Nat → Prop) : Nat → List AV → List Value → Prop
  | _, [], us => us = []
  | p, x :: l, us => ∃ u us', us = u :: us' ∧ Tr w x u (G p) ∧ TLs w G (p + 1) l us'
def Dj (G : Nat → Nat → Prop) (n : Nat) : Prop := ∀ p q b, p < n → q < n → p ≠ q → G p b → ¬ G q b
def TRf (w : World) (G : Nat → Nat → Prop) (x : SV) (v : Value) : Prop := ∃ us, Shape x us v ∧ TLs w G 0 x.leaves us
theorem TLs.len {w : World} {G : Nat → Nat → Prop} : ∀ {l : List AV} {p : Nat} {us : List Value}, TLs w G p l us → us.length = l.length
  | [], _, _, h => by rw [show _ = [] from h]; rfl
  | _ :: l, _, _, ⟨u, us, e, _, h⟩ => by rw [e]; simp [h.len]
theorem TLs.get {w : World} {G : Nat → Nat → Prop} : ∀ {l : List AV} {p : Nat} {us : List Value}, TLs w G p l us → ∀ {k : Nat}, k < l.length → Tr w (l.getD k (.con undef)) (us.getD k undef) (G (p + k))
  | [], _, _, _, k, hk => absurd hk (by simp)
  | x :: l, p, _, ⟨u, us, e, h1, h2⟩, k, hk => by
    subst e
    cases k with
    | zero => simpa using h1
    | succ k =>
      have := TLs.get h2 (k := k) (by simpa using hk)
      rw [show p + (k + 1) = p + 1 + k by omega]
      simpa using this
theorem TLs.mk {w : World} {G : Nat → Nat → Prop} : ∀ {l : List AV} {p : Nat} {us : List Value}, us.length = l.length → (∀ k, k < l.length → Tr w (l.getD k (.con undef)) (us.getD k undef) (G (p + k))) → TLs w G p l us
  | [], _, us, e, _ => List.eq_nil_of_length_eq_zero e
  | x :: l, p, [], e, _ => by simp at e
  | x :: l, p, u :: us, e, h => by
    refine ⟨u, us, rfl, by simpa using h 0 (by simp), TLs.mk (by simpa using e) fun k hk => ?_⟩
    have := h (k + 1) (by simpa using hk)
    rw [show p + 1 + k = p + (k + 1) by omega]
    simpa using this
theorem Tr.slice {w : World} {sz n : Nat} {f : Nat → Nat → AV} {v : Value} {B : Nat → Prop} (h : Tr w (.lst sz n f) v B) : ∃ A m c, v = .slice A m c := by
  unfold Tr at h
  obtain ⟨A, c, e, _⟩ := h
  exact ⟨A, n, c, e⟩
theorem nmA_r {ρ : Rho} {w : World} {S B : Nat → Prop} {id p : Nat} {x : AV} {u : Value} (h : Tr w x u B) (hv : ρ.tv id p = u) (hn : p < ρ.tn id) : R ρ w S (nmA id p x) u := by
  cases x with
  | lst sz n f => exact ⟨hv.symm, hn, h.slice⟩
  | int _ _ => exact h
  | bool _ => exact h
  | str _ => exact h
  | con _ => exact h
  | ref _ _ => exact h.elim
  | ptr _ _ _ _ => exact h.elim
  | own _ _ _ => exact h.elim
  | fn _ _ _ => exact h.elim
  | frs _ => exact h.elim
  | tre _ _ => exact h.elim
theorem nmL_r {ρ : Rho} {w : World} {S : Nat → Prop} {id : Nat} {G : Nat → Nat → Prop} : ∀ {l : List AV} {p q : Nat} {us : List Value}, TLs w G p l us → (∀ k, k < l.length → ρ.tv id (q + k) = us.getD k undef ∧ q + k < ρ.tn id) → RL ρ w S (nmL id q l) us
  | [], _, _, _, h, _ => h
  | x :: l, p, q, _, ⟨u, us, e, h1, h2⟩, hv => by
    subst e
    obtain ⟨a, b⟩ := hv 0 (by simp)
    refine ⟨u, us, rfl, nmA_r h1 (by simpa using a) (by simpa using b), nmL_r h2 fun k hk => ?_⟩
    obtain ⟨a, b⟩ := hv (k + 1) (by simpa using hk)
    rw [show q + 1 + k = q + (k + 1) by omega]
    exact ⟨by simpa using a, b⟩
/-- What may stand as a leaf. -/
def AV.lf : AV → Bool
  | .int _ _ => true
  | .bool _ => true
  | .str _ => true
  | .con _ => true
  | .lst _ _ _ => true
  | _ => false
def AV.isL : AV → Bool
  | .lst _ _ _ => true
  | _ => false
theorem nmL_tls {ρ : Rho} {w : World} {S : Nat → Prop} {id : Nat} {G : Nat → Nat → Prop} : ∀ {l : List AV} {q p : Nat} {us : List Value}, l.all AV.lf = true → (∀ k, k < l.length → (l.getD k (.con undef)).isL = true → Tr w (l.getD k (.con undef)) (ρ.tv id (q + k)) (G (p + k))) →
    RL ρ w S (nmL id q l) us → TLs w G p l us
  | [], _, _, _, _, _, h => h
  | x :: l, q, p, _, hf, hT, ⟨u, us, e, h1, h2⟩ => by
    rw [List.all_cons, Bool.and_eq_true] at hf
    refine ⟨u, us, e, ?_, nmL_tls (q := q + 1) hf.2 (fun k hk hl => ?_) h2⟩
    · have hT0 := hT 0 (by simp)
      cases x with
      | lst sz n f =>
        obtain ⟨e, _⟩ := h1
        rw [e]
        exact hT0 rfl
      | int _ _ => exact h1
      | bool _ => exact h1
      | str _ => exact h1
      | con _ => exact h1
      | ref _ _ => cases hf.1
      | ptr _ _ _ _ => cases hf.1
      | own _ _ _ => cases hf.1
      | fn _ _ _ => cases hf.1
      | frs _ => cases hf.1
      | tre _ _ => cases hf.1
    · have := hT (k + 1) (by simpa using hk) (by simpa using hl)
      rw [show q + 1 + k = q + (k + 1) by omega, show p + 1 + k = p + (k + 1) by omega]
      simpa using this
theorem nmL_tv {ρ : Rho} {w : World} {S : Nat → Prop} {id : Nat} : ∀ {l : List AV} {q : Nat} {us : List Value}, RL ρ w S (nmL id q l) us → ∀ k, k < l.length → (l.getD k (.con undef)).isL = true → us.getD k undef = ρ.tv id (q + k)
  | [], _, _, _, k, hk, _ => absurd hk (by simp)
  | x :: l, q, _, ⟨u, us, e, h1, h2⟩, k, hk, hl => by
    subst e
    cases k with
    | zero =>
      cases x with
      | lst sz n f => obtain ⟨e, _⟩ := h1; simpa using e
      | int _ _ => cases hl
      | bool _ => cases hl
      | str _ => cases hl
      | con _ => cases hl
      | ref _ _ => cases hl
      | ptr _ _ _ _ => cases hl
      | own _ _ _ => cases hl
      | fn _ _ _ => cases hl
      | frs _ => cases hl
      | tre _ _ => cases hl
    | succ k =>
      have := nmL_tv h2 k (by simpa using hk) (by simpa using hl)
      rw [show q + (k + 1) = q + 1 + k by omega]
      simpa using this
/-! Functions that make trees. -/
def FnT (P : Program) (f : FuncId) (args : List SV) (y : SV) : Prop :=
  ∀ (w : World) (S : Nat → Prop) (vs : List Value), (∀ b, S b → b < w.heap.size) → DSs w S args vs → Calls P f vs.toArray w fun e w' => ∃ v G, e = .returned v ∧ Below w.heap.size w w' ∧ TRf w' G y v ∧ Dj G y.leaves.length ∧ ∀ p b, p < y.leaves.length → G p b → newS w w' b
theorem TLs.dl {w : World} {G : Nat → Nat → Prop} {S : Nat → Prop} : ∀ {l : List AV} {p : Nat} {us : List Value}, (∀ k b, k < l.length → G (p + k) b → S b) → TLs w G p l us → DL w S l us
  | [], _, _, _, h => h
  | x :: l, p, _, hS, ⟨u, us, e, h1, h2⟩ => ⟨u, us, e, h1.d fun b hb => hS 0 b (by simp) hb, TLs.dl (fun k b hk hb => hS (k + 1) b (by simpa using hk) (by rw [show p + (k + 1) = p + 1 + k by omega]; exact hb)) h2⟩
theorem DL.split {w : World} {S : Nat → Prop} : ∀ {l m : List AV} {us vs : List Value}, us.length = l.length → DL w S (l ++ m) (us ++ vs) → DL w S l us ∧ DL w S m vs
  | [], _, [], _, _, h => ⟨rfl, h⟩
  | [], _, _ :: _, _, e, _ => by simp at e
  | _ :: _, _, [], _, e, _ => by simp at e
  | x :: l, m, u :: us, vs, e, ⟨u', us', e1, h1, h2⟩ => by
    simp only [List.cons_append, List.cons.injEq] at e1
    obtain ⟨rfl, rfl⟩ := e1
    obtain ⟨k1, k2⟩ := DL.split (by simpa using e) h2
    exact ⟨⟨_, _, rfl, h1, k1⟩, k2⟩
theorem Shape.dr {w : World} {S : Nat → Prop} : ∀ {s : SV} {us : List Value} {v : Value}, Shape s us v → DL w S s.leaves us → DR w S s v
  | .one _, _, _, e, h => by
    obtain ⟨u, us, e1, h1, _⟩ := h
    rw [show _ = [_] from e] at e1
    simp only [List.cons.injEq] at e1
    obtain ⟨rfl, _⟩ := e1
    exact h1
  | .agg _, us, _, ⟨e, _⟩, h => ⟨us.toArray, e, by simpa [SV.leaves] using h⟩
  | .tup2 x y, _, _, ⟨a, b, us1, us2, e, e2, h1, h2⟩, h => by
    rw [e2] at h
    obtain ⟨k1, k2⟩ := DL.split h1.len h
    exact ⟨a, b, e, h1.dr k1, h2.dr k2⟩
  | .tup3 x y z, _, _, ⟨a, b, c, us1, us2, us3, e, e2, h1, h2, h3⟩, h => by
    rw [e2] at h
    obtain ⟨k1, k2⟩ := DL.split h1.len h
    obtain ⟨k3, k4⟩ := DL.split h2.len k2
    exact ⟨a, b, c, e, h1.dr k1, h2.dr k3, h3.dr k4⟩
  | .gd _ _, _, _, h, _ => h.elim
theorem FnT.toF {P : Program} {f : FuncId} {args : List SV} {y : SV} (h : FnT P f args y) : FnF P f args y := by
  intro w S vs hS hd
  refine (h w S vs hS hd).mono fun e w' ⟨v, G, he, hb, ⟨us, h1, h2⟩, _, h4⟩ => ⟨v, he, h1.dr (h2.dl fun k b hk hb => ?_), hb⟩
  rw [Nat.zero_add] at hb
  exact h4 k b hk hb
section
variable {P : Program} {N : Nat} {w0 : Start} {σ : Sig} {ops : Array Oper} {rest : List Oper} {o : Oper} {Q : Sig → Prop}
/-- New trees join a family. -/
theorem St.absorb {ρ : Rho} {S : Nat → Prop} {a : Act} {w w' : World} (hs : St N w0 ρ S σ a w) {K n : Nat} {X : Nat → AV} (hK : σ.heap.lookup K = some (.trees n X)) (hlt : K < 1000000) (hb : Below w.heap.size w w') {y : SV} {v : Value} {G : Nat → Nat → Prop}
    (hy : TRf w' G y v) (hD : Dj G y.leaves.length) (hG : ∀ p b, p < y.leaves.length → G p b → newS w w' b) {X' : Nat → AV} (hX1 : ∀ q, q < n → X' q = X q) (hX2 : ∀ p, p < y.leaves.length → X' (n + p) = y.leaves.getD p (.con undef)) :
    ∃ ρ', St N w0 ρ' S ⟨σ.env, (K, .trees (n + y.leaves.length) X') :: σ.heap⟩ a w' ∧ RS ρ' w' S (y.nm K n) v := by
  obtain ⟨us, hsh, htl⟩ := hy
  have htn : ρ.tn K = n := (hs.mem.tree0 K n X hK).1
  let ρ' : Rho := ⟨ρ.m, ρ.base, fun k q => if k = K ∧ n ≤ q then us.getD (q - n) undef else ρ.tv k q, fun k q => if k = K ∧ n ≤ q then G (q - n) else ρ.tb k q, fun k => if k = K then n + y.leaves.length else ρ.tn k⟩
  have hsame : Same S w S w' := hs.mem.same hb
  have hsz := hb.size
  have hAt : ∀ id, id ≠ K → Rho.At ρ ρ' id := fun id hid => ⟨rfl, by funext q; simp [ρ', hid], by funext q; simp [ρ', hid], by simp [ρ', hid]⟩
  have hkeep : ∀ {x : AV} {u : Value}, R ρ w S x u → R ρ' w' S x u := by
    intro x
    induction x with
    | tre id i =>
      rintro u ⟨e, hi, hsl⟩
      by_cases hid : id = K
      · subst hid
        refine ⟨?_, ?_, hsl⟩
        · rw [e]; show _ = (if id = id ∧ n ≤ i then _ else _); rw [if_neg (by omega)]
        · show i < (if id = id then _ else _); rw [if_pos rfl]; omega
      · have h1 := hAt id hid
        exact ⟨by rw [h1.v]; exact e, by rw [h1.n]; exact hi, hsl⟩
    | fn g m caps ih =>
      rintro u ⟨vs, e, hm, hc⟩
      refine ⟨vs, e, hm, fun j hj => ?_⟩
      obtain ⟨u, hu, hr⟩ := hc j hj
      exact ⟨u, hu, ih j hr⟩
    | frs x => intro u h; exact D.keep (hsame.fresh (ρ := ρ) (ρ' := ρ') rfl) h
    | lst _ _ _ => intro u h; exact D.keep hsame h
    | ref _ _ => intro u h; exact D.keep hsame h
    | int _ _ => exact fun h => h
    | bool _ => exact fun h => h
    | str _ => exact fun h => h
    | con _ => exact fun h => h
    | ptr _ _ _ _ => exact fun h => h
    | own _ _ _ => exact fun h => h
  have hkeepL : ∀ {l : List AV} {us : List Value}, RL ρ w S l us → RL ρ' w' S l us := by
    intro l
    induction l with
    | nil => exact fun h => h
    | cons x l ih => rintro us ⟨u, us', e, h1, h2⟩; exact ⟨u, us', e, hkeep h1, ih h2⟩
  have hkeepS : ∀ {s : SV} {u : Value}, RS ρ w S s u → RS ρ' w' S s u := by
    intro s
    induction s with
    | one x => exact hkeep
    | agg l => rintro u ⟨us, e, h⟩; exact ⟨us, e, hkeepL h⟩
    | tup2 x y ih1 ih2 => rintro u ⟨a, b, e, h1, h2⟩; exact ⟨a, b, e, ih1 h1, ih2 h2⟩
    | tup3 x y z ih1 ih2 ih3 => rintro u ⟨a, b, c, e, h1, h2, h3⟩; exact ⟨a, b, c, e, ih1 h1, ih2 h2, ih3 h3⟩
    | gd b s ih => rintro u ⟨h1, h2⟩; exact ⟨fun hb => ih (h1 hb), h2⟩
  refine ⟨ρ', ⟨hs.size, hs.defers, ⟨hs.below.old.trans (hb.mono hs.mem.low), hs.below.same.trans hsame, fun k hk => (hs.below.ids k hk).trans (hAt k (by omega))⟩, ⟨hs.mem.base, Nat.le_trans hs.mem.low hsz, fun b h => Nat.lt_of_lt_of_le (hs.mem.lt b h) hsz, ?_, ?_, ?_, ?_⟩, fun t s ht => hkeepS (hs.env t s ht)⟩, ?_⟩
  · intro id p hp
    rcases lookup_put hp with ⟨rfl, rfl⟩ | ⟨_, hp⟩
    · exact Nat.zero_le _
    · exact hs.mem.cap id p hp
  · intro id p hp hc
    rcases lookup_put hp with ⟨rfl, rfl⟩ | ⟨_, hp⟩
    · obtain ⟨cs, e, h1, h2, h3, h4, h5, h6, h7⟩ := hs.mem.obj id _ hK hc
      exact ⟨cs, e, by rw [hb.block _ (hs.mem.blk hK hc)]; exact h1, h2, h3, h4, h5, h6, fun i j hi => absurd hi (Nat.not_lt_zero _)⟩
    · obtain ⟨cs, e, h1, h2, h3, h4, h5, h6, h7⟩ := hs.mem.obj id p hp hc
      refine ⟨cs, e, by rw [hb.block _ (hs.mem.blk hp hc)]; exact h1, h2, h3, h4, h5, h6, fun i j hi hj => ?_⟩
      obtain ⟨u, hu, hr⟩ := h7 i j hi hj
      exact ⟨u, hu, hkeep hr⟩
  · have conv : ∀ {id p}, ((K, AObj.trees (n + y.leaves.length) X') :: σ.heap).lookup id = some p → ∃ p', σ.heap.lookup id = some p' := fun {id p} hp => by
      rcases lookup_put hp with ⟨rfl, rfl⟩ | ⟨_, hp⟩
      · exact ⟨_, hK⟩
      · exact ⟨p, hp⟩
    intro id id' p p' hp hp' hne hc hc'
    obtain ⟨q, hq⟩ := conv hp
    obtain ⟨q', hq'⟩ := conv hp'
    exact hs.mem.inj id id' q q' hq hq' hne hc hc'
  · -- the trees
    have cell : ∀ id m Y, ((K, AObj.trees (n + y.leaves.length) X') :: σ.heap).lookup id = some (.trees m Y) → ∀ i, i < m → (∃ m' Y', σ.heap.lookup id = some (.trees m' Y') ∧ i < m' ∧ Y i = Y' i ∧ ρ'.tv id i = ρ.tv id i ∧ ρ'.tb id i = ρ.tb id i ∧ (id = K → i < n)) ∨ (id = K ∧ ∃ p, p < y.leaves.length ∧ i = n + p ∧ Y i = y.leaves.getD p (.con undef) ∧ ρ'.tv id i = us.getD p undef ∧ ρ'.tb id i = G p) := by
      intro id m Y hY i hi
      rcases lookup_put hY with ⟨rfl, e⟩ | ⟨hne, hY⟩
      · cases e
        by_cases hin : i < n
        · exact .inl ⟨n, X, hK, hin, hX1 i hin, by simp only [ρ']; rw [if_neg (by omega)], by simp only [ρ']; rw [if_neg (by omega)], fun _ => hin⟩
        · refine .inr ⟨rfl, i - n, by omega, by omega, ?_, if_pos ⟨rfl, by omega⟩, if_pos ⟨rfl, by omega⟩⟩
          have := hX2 (i - n) (by omega)
          rwa [show n + (i - n) = i by omega] at this
      · exact .inl ⟨m, Y, hY, hi, rfl, by rw [(hAt id hne).v], by rw [(hAt id hne).b], fun e => absurd e hne⟩
    intro id m Y hY
    refine ⟨?_, fun i hi => ?_⟩
    · rcases lookup_put hY with ⟨rfl, e⟩ | ⟨hne, hY⟩
      · cases e
        show (if id = id then _ else _) = _
        rw [if_pos rfl]
      · rw [(hAt id hne).n]; exact (hs.mem.tree0 id m Y hY).1
    rcases cell id m Y hY i hi with ⟨m', Y', g1, g2, g3, g4, g5, g6⟩ | ⟨rfl, p, g1, g2, g3, g4, g5⟩
    · obtain ⟨k1, k2⟩ := hs.mem.tree id m' Y' g1 i g2
      rw [g3, g4, g5]
      refine ⟨k1.keep fun b hb' => hb.block b (k2 b hb').2.1, fun b hb' => ?_⟩
      obtain ⟨q1, q2, q3, q4, q5⟩ := k2 b hb'
      refine ⟨q1, by omega, q3, fun id' o ho hc => ?_, fun id' m2 Y2 i' hY2 hi2 hne => ?_⟩
      · rcases lookup_put ho with ⟨rfl, rfl⟩ | ⟨_, ho⟩
        · exact q4 id' _ hK hc
        · exact q4 id' o ho hc
      · rcases cell id' m2 Y2 hY2 i' hi2 with ⟨m3, Y3, f1, f2, f3, f4, f5, f6⟩ | ⟨rfl, p2, f1, f2, f3, f4, f5⟩
        · rw [f5]; exact q5 id' m3 Y3 i' f1 f2 hne
        · rw [f5]
          intro hg
          have := (hG p2 b f1 hg).1
          omega
    · have hT := htl.get (k := p) g1
      rw [Nat.zero_add] at hT
      rw [g3, g4, g5]
      refine ⟨hT, fun b hb' => ?_⟩
      obtain ⟨q1, q2⟩ := hG p b g1 hb'
      refine ⟨Nat.le_trans hs.mem.low q1, q2, fun h => absurd (hs.mem.lt b h) (by omega), fun id' o ho hc => ?_, fun id' m2 Y2 i' hY2 hi2 hne => ?_⟩
      · have : ∃ o', σ.heap.lookup id' = some o' := by
          rcases lookup_put ho with ⟨rfl, rfl⟩ | ⟨_, ho⟩
          · exact ⟨_, hK⟩
          · exact ⟨_, ho⟩
        obtain ⟨o', ho'⟩ := this
        have := hs.mem.blk ho' hc
        intro e
        have : (ρ id').1 = b := e
        omega
      · rcases cell id' m2 Y2 hY2 i' hi2 with ⟨m3, Y3, f1, f2, f3, f4, f5, f6⟩ | ⟨rfl, p2, f1, f2, f3, f4, f5⟩
        · rw [f5]
          intro hg
          have := ((hs.mem.tree id' m3 Y3 f1 i' f2).2 b hg).2.1
          omega
        · rw [f5]
          exact hD p p2 b g1 f1 (fun e => hne ⟨rfl, by omega⟩) hb'
  · refine Shape.rs (Shape.nm.2 hsh) ?_
    rw [leaves_nm]
    refine nmL_r htl fun k hk => ⟨?_, ?_⟩
    · show (if K = K ∧ n ≤ n + k then us.getD (n + k - n) undef else _) = _
      rw [if_pos ⟨rfl, by omega⟩, show n + k - n = k by omega]
    · show n + k < (if K = K then _ else _)
      rw [if_pos rfl]; omega
/-- An empty family. -/
theorem St.fam {ρ : Rho} {S : Nat → Prop} {a : Act} {w : World} (hs : St N w0 ρ S σ a w) {id : Nat} (hf : Fr id σ) (X : Nat → AV) : ∃ ρ' : Rho, St N w0 ρ' S (σ.set id (.trees 0 X)) a w := by
  refine ⟨⟨fun k => if k = id then (0, 0) else ρ k, ρ.base, ρ.tv, ρ.tb, fun k => if k = id then 0 else ρ.tn k⟩, ?_⟩
  have hρ : ∀ k, k ≠ id → (if k = id then (0, 0) else ρ k) = ρ k := fun k hk => if_neg hk
  have hsame : Same S w S w := Same.refl _ _
  have hρA : ∀ k, k ≠ id → Rho.At ρ ⟨fun k => if k = id then (0, 0) else ρ k, ρ.base, ρ.tv, ρ.tb, fun k => if k = id then 0 else ρ.tn k⟩ k := fun k hk => ⟨hρ k hk, rfl, rfl, if_neg hk⟩
  refine ⟨hs.size, hs.defers, ⟨hs.below.old, hs.below.same, fun k hk => (hs.below.ids k hk).trans (hρA k (fun e => by have := hf.small; omega))⟩, ⟨hs.mem.base, hs.mem.low, hs.mem.lt, ?_, ?_, ?_, ?_⟩, ?_⟩
  · intro k p hp
    rcases lookup_put hp with ⟨rfl, rfl⟩ | ⟨hne, hp⟩
    · exact Nat.zero_le _
    · simp only [hρ k hne]; exact hs.mem.cap k p hp
  · intro k p hp hc
    rcases lookup_put hp with ⟨rfl, rfl⟩ | ⟨hne, hp⟩
    · simp at hc
    · obtain ⟨_, hno⟩ := hf.heap.get hp
      simp only [hρ k hne] at hc
      obtain ⟨cs', e', g1, g2, g3, g4, g5, g6, g7⟩ := hs.mem.obj k p hp hc
      simp only [hρ k hne]
      refine ⟨cs', e', g1, g2, g3, g4, g5, g6, fun i j hi hj => ?_⟩
      obtain ⟨u, hu, hr⟩ := g7 i j hi hj
      exact ⟨u, hu, hr.keep (ρ := ρ) hsame ⟨rfl, fun q => by
        by_cases hq : q = id
        · subst hq; exact .inr (hno.at_ i j)
        · exact .inl (hρA q hq)⟩⟩
  · intro k k' p p' hp hp' hne hc hc'
    rcases lookup_put hp with ⟨rfl, rfl⟩ | ⟨q1, hp2⟩ <;> rcases lookup_put hp' with ⟨rfl, rfl⟩ | ⟨q2, hp2'⟩
    · exact absurd rfl hne
    · simp at hc
    · simp at hc'
    · simp only [hρ k q1] at hc
      simp only [hρ k' q2] at hc'
      simp only [hρ k q1, hρ k' q2]
      exact hs.mem.inj k k' p p' hp2 hp2' hne hc hc'
  · intro k n Y hY
    rcases lookup_put hY with ⟨rfl, e⟩ | ⟨hne, hY⟩
    · cases e
      exact ⟨if_pos rfl, fun i hi => absurd hi (Nat.not_lt_zero _)⟩
    · refine ⟨(if_neg hne).trans (hs.mem.tree0 k n Y hY).1, fun i hi => ?_⟩
      obtain ⟨k1, k2⟩ := hs.mem.tree k n Y hY i hi
      refine ⟨k1, fun b hb => ?_⟩
      obtain ⟨q1, q2, q3, q4, q5⟩ := k2 b hb
      refine ⟨q1, q2, q3, fun id' o ho hc => ?_, fun id' m Z i' hZ hi' hne' => ?_⟩
      · rcases lookup_put ho with ⟨rfl, rfl⟩ | ⟨hne2, ho⟩
        · simp at hc
        · simp only [hρ id' hne2] at hc ⊢
          exact q4 id' o ho hc
      · rcases lookup_put hZ with ⟨rfl, e⟩ | ⟨hne2, hZ⟩
        · cases e; exact absurd hi' (Nat.not_lt_zero _)
        · exact q5 id' m Z i' hZ hi' hne'
  · intro t s ht
    refine (hs.env t s ht).keep (ρ := ρ) hsame ⟨rfl, fun q => ?_⟩
    by_cases hq : q = id
    · subst hq
      exact .inr (List.all_eq_true.1 hf.env _ (lookup_mem ht))
    · exact .inl (hρA q hq)
theorem AW.fam {c : Code} {Q2 : Exit → Sig → Prop} {id : Nat} (X : Nat → AV) (hf : Fr id σ) (h : AW P N w0 c Q2 (σ.set id (.trees 0 X))) : AW P N w0 c Q2 σ := by
  intro ρ S a w Q' hQ hs
  obtain ⟨ρ', hs'⟩ := hs.fam hf X
  exact h ρ' S a w Q' hQ hs'
theorem ARun.fam {id : Nat} (X : Nat → AV) (hf : Fr id σ) (h : ARun P N w0 ops Q rest (σ.set id (.trees 0 X))) : ARun P N w0 ops Q rest σ := by
  intro ρ S a w Q' hQ hs
  obtain ⟨ρ', hs'⟩ := hs.fam hf X
  exact h ρ' S a w Q' hQ hs'
/-- A call that makes trees, for a family. -/
theorem ARun.prodTo {f d K n : Nat} {xs : List Operand} {ts : Array TypeId} {args : List SV} {y s' : SV} {X X' : Nat → AV} {m : Nat} (ho : o.op = .call { callee := .value (.func f), args := xs.toArray, argTypes := ts })
    (hF : FnT P f args y) (hk : KnA σ xs args) (hB : callB P f = true) (hK : σ.heap.lookup K = some (.trees n X)) (hlt : Nat.blt K 1000000 = true) (hX1 : ∀ q, q < n → X' q = X q) (hX2 : ∀ p, p < y.leaves.length → X' (n + p) = y.leaves.getD p (.con undef))
    (hs' : y.nm K n = s') (hm : n + y.leaves.length = m) (hg : o.guard = none) (hd : o.dst = some d) (hN : d < N) (h : ARun P N w0 ops Q rest ⟨(d, s') :: σ.env, (K, .trees m X') :: σ.heap⟩) : ARun P N w0 ops Q (o :: rest) σ := by
  subst hs' hm
  intro ρ S a w Q' hQ hs
  refine wpList_plain hg fun K' hK' => ?_
  have h2 := hF w _ _ (withOwn_lt hs) (KnA.sound hs hk)
  have e : (execOp a.eval o).run P w = .ok (.enter f (xs.map a.eval).toArray) w := by
    have := execCall (P := P) (ev := a.eval) (caps := #[]) ho rfl hB w
    simpa using this
  unfold Oper.wp
  rw [e]
  refine Calls.mono h2 fun e w' ⟨v, G, he, hb, hy, hD, hG⟩ => ?_
  subst he
  obtain ⟨ρ', hst, hv⟩ := hs.absorb hK (by simpa [Nat.blt_eq] using hlt) hb hy hD hG hX1 hX2
  rw [hd]
  exact hK' _ _ (h ρ' S _ w' Q' hQ (hst.put hN hv))
/-- .. for a family of its own. -/
theorem ARun.prod {f d K : Nat} {xs : List Operand} {ts : Array TypeId} {args : List SV} {y s' : SV} {m : Nat} {X' : Nat → AV} (ho : o.op = .call { callee := .value (.func f), args := xs.toArray, argTypes := ts })
    (hF : FnT P f args y) (hf : Fr K σ) (hk : KnA (σ.set K (.trees 0 X')) xs args) (hB : callB P f = true) (hX' : (fun p => y.leaves.getD p (.con undef)) = X')
    (hs' : y.nm K 0 = s') (hm : y.leaves.length = m) (hg : o.guard = none) (hd : o.dst = some d) (hN : d < N) (h : ARun P N w0 ops Q rest ⟨(d, s') :: σ.env, (K, .trees m X') :: (K, .trees 0 X') :: σ.heap⟩) : ARun P N w0 ops Q (o :: rest) σ := by
  refine ARun.fam X' hf ?_
  refine ARun.prodTo (K := K) (n := 0) (X := X') (X' := X') ho hF hk hB (by simp [Sig.set]) (by have := hf.small; simpa [Nat.blt_eq] using this) (fun _ _ => rfl) (fun p _ => by rw [← hX', Nat.zero_add]) hs' (by rw [Nat.zero_add]; exact hm) hg hd hN h
end
end Go.Proofs.Ytmfkmifkkplidaa
