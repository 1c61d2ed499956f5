/-
  A calculus for walks, part 20: families of trees in rows; what marks write; remainders.
-/
import Derived.Test.YtmfkmifkkplidaaVv
namespace Go.Proofs.Ytmfkmifkkplidaa
open Go.ChangeShapes Go.WideShapes Go.ChangeAt Go.RowKit Go.BigFrame Go.Deep
set_option linter.unusedVariables false

set_option linter.unusedSimpArgs false
/-- The family of a row's cells, one behind the other. -/
def famX (sz : Nat) (g : Nat → Nat → AV) : Nat → AV := fun q => g (q / sz) (q % sz)
theorem dm_at {sz i j : Nat} (hj : j < sz) : (i * sz + j) / sz = i ∧ (i * sz + j) % sz = j := by
  rw [Nat.mul_comm, Nat.mul_add_div (by omega), Nat.div_eq_of_lt hj, Nat.mul_add_mod, Nat.mod_eq_of_lt hj]
  exact ⟨by omega, rfl⟩
theorem famX_at {sz i j : Nat} {g : Nat → Nat → AV} (hj : j < sz) : famX sz g (i * sz + j) = g i j := by
  unfold famX
  rw [(dm_at hj).1, (dm_at hj).2]
theorem famX_ext {sz n : Nat} {X : Nat → AV} {g : Nat → Nat → AV} (hsz : 0 < sz) (h : ∀ i j, i < n → j < sz → X (i * sz + j) = g i j) : ∀ q, q < n * sz → X q = famX sz g q := by
  intro q hq
  have h1 := h (q / sz) (q % sz) ((Nat.div_lt_iff_lt_mul hsz).2 hq) (Nat.mod_lt _ hsz)
  rw [show q / sz * sz + q % sz = q by rw [Nat.mul_comm]; exact Nat.div_add_mod q sz] at h1
  exact h1
theorem upd_at {sz i j k c : Nat} {l : AV} {X : Nat → AV} (hj : j < sz) (hc : c < sz) : (if i * sz + j = k * sz + c then l else X (i * sz + j)) = if i = k ∧ j = c then l else X (i * sz + j) := by
  by_cases h : i = k ∧ j = c
  · rw [if_pos h, if_pos (by rw [h.1, h.2])]
  · rw [if_neg h, if_neg (fun e => h (ix_inj hj hc e))]
theorem cell_lt {sz n i j : Nat} (hi : i < n) (hj : j < sz) : i * sz + j < n * sz := by
  have : (i + 1) * sz ≤ n * sz := Nat.mul_le_mul_right _ hi
  rw [Nat.succ_mul] at this
  omega
theorem cell_le {sz n i m : Nat} (hi : i < n) (hm : m ≤ sz) : i * sz + m ≤ n * sz := by
  have : (i + 1) * sz ≤ n * sz := Nat.mul_le_mul_right _ hi
  rw [Nat.succ_mul] at this
  omega
def AV.scl : AV → Bool
  | .int _ _ => true
  | .bool _ => true
  | .str _ => true
  | .con _ => true
  | _ => false
theorem Tv.scl {H : Heap} {x : AV} {U : Nat → Nat → Prop} (h : x.scl = true) : Tv H x x U := by
  cases x <;> first | (cases h; done) | constructor
/-- A row of scalars. -/
theorem Tv.flat {H : Heap} {id sz n : Nat} {o : AObj} {g : Nat → Nat → AV} {U : Nat → Nat → Prop} (ho : H.lookup id = some o) (hT : o.isT = false) (hs : o.sz = sz) (hn : n ≤ o.n) (hU : U id 0) (hf : ∀ i j, i < n → j < sz → o.f i j = g i j) (hg : ∀ i j, i < n → j < sz → (g i j).scl = true) :
    Tv H (.own id sz n) (.lst sz n g) U :=
  .own (fun _ _ _ _ => False) ho hT hs hn hU (fun i j hi hj => by rw [hf i j hi hj]; exact Tv.scl (hg i j hi hj)) (fun _ _ _ _ _ _ h => h.elim) (fun _ _ _ _ _ _ _ _ _ _ _ h => h.elim)
/-- A row whose lists lie in a family. -/
theorem Tv.rowN {H : Heap} {id K sz n : Nat} {o : AObj} {g : Nat → Nat → AV} {U : Nat → Nat → Prop} (ho : H.lookup id = some o) (hT : o.isT = false) (hs : o.sz = sz) (hn : n ≤ o.n) (hU : U id 0) (hf : ∀ i j, i < n → j < sz → o.f i j = nmA K (i * sz + j) (g i j)) (hK : H.lookup K = some (.trees (n * sz) (famX sz g)))
    (hne : K ≠ id) (hUK : ∀ b, U K b) (hg : ∀ i j, i < n → j < sz → (g i j).lf = true) : Tv H (.own id sz n) (.lst sz n g) U := by
  refine .own (fun i j a b => a = K ∧ b = i * sz + j) ho hT hs hn hU (fun i j hi hj => ?_) (fun i j a b _ _ h => ⟨h.1 ▸ hUK b, h.1 ▸ hne⟩) (fun i j i' j' hi hj hi' hj' hne' a b h h' => hne' (ix_inj hj hj' (h.2.symm.trans h'.2)))
  rw [hf i j hi hj]
  have hl := hg i j hi hj
  have ht : Tv H (.tre K (i * sz + j)) (g i j) (fun a b => a = K ∧ b = i * sz + j) := (Tv.tre hK (cell_lt hi hj) ⟨rfl, rfl⟩).cast (famX_at hj)
  generalize g i j = y at hl ht
  cases y <;> first | exact ht | exact Tv.scl rfl | cases hl
theorem lonly_L {x : AV} (h : x.isL = true) : lonly x = x := by cases x <;> first | rfl | cases h
/-- What marks write. -/
def mI (k : Nat) : Int := (k : Int)
def mB (k : Nat) : Bool := decide (((k % 3 : Nat) : Int) = 0)
def mkL {α : Type} (ct : α → Nat) (mk : α → Nat → α) : List α → Nat → List α
  | [], _ => []
  | x :: l, k => mk x k :: mkL ct mk l (k + ct x)
def ctL {α : Type} (ct : α → Nat) (l : List α) : Nat := (l.map ct).sum
theorem mkL_len {α : Type} {ct : α → Nat} {mk : α → Nat → α} : ∀ {l : List α} {k : Nat}, (mkL ct mk l k).length = l.length
  | [], _ => rfl
  | _ :: l, _ => by simp [mkL, mkL_len (l := l)]
theorem mkL_get {α : Type} {ct : α → Nat} {mk : α → Nat → α} (d : α) : ∀ {l : List α} {k i : Nat}, i < l.length → (mkL ct mk l k).getD i d = mk (l.getD i d) (k + ((l.take i).map ct).sum)
  | [], _, _, h => absurd h (by simp)
  | x :: l, k, 0, _ => by simp [mkL]
  | x :: l, k, i + 1, h => by
    have := mkL_get (ct := ct) (mk := mk) d (l := l) (k := k + ct x) (i := i) (by simpa using h)
    simp only [mkL, List.getD_cons_succ, this, List.take_succ_cons, List.map_cons, List.sum_cons]
    rw [Nat.add_assoc]
/-- A list whose first i are marked. -/
def mixL {α : Type} (ct : α → Nat) (mk : α → Nat → α) (l : List α) (k i : Nat) : List α := (mkL ct mk l k).take i ++ l.drop i
theorem mix_zero {α : Type} {ct : α → Nat} {mk : α → Nat → α} {l : List α} {k : Nat} : mixL ct mk l k 0 = l := by simp [mixL]
theorem mix_all {α : Type} {ct : α → Nat} {mk : α → Nat → α} {l : List α} {k i : Nat} (h : ¬ i < l.length) : mixL ct mk l k i = mkL ct mk l k := by
  unfold mixL
  rw [List.take_of_length_le (by rw [mkL_len]; omega), List.drop_of_length_le (by omega), List.append_nil]
theorem mix_get {α : Type} {ct : α → Nat} {mk : α → Nat → α} (d : α) {l : List α} {k i j : Nat} (hi : i ≤ l.length) : (mixL ct mk l k i).getD j d = if j < i then (mkL ct mk l k).getD j d else l.getD j d := by
  unfold mixL
  have hlen : ((mkL ct mk l k).take i).length = i := by rw [List.length_take, mkL_len]; omega
  by_cases h : j < i
  · rw [if_pos h, List.getD_eq_getElem?_getD, List.getElem?_append_left (by omega), List.getElem?_take, if_pos h, ← List.getD_eq_getElem?_getD]
  · rw [if_neg h, List.getD_eq_getElem?_getD, List.getElem?_append_right (by omega), hlen, List.getElem?_drop, show i + (j - i) = j by omega, ← List.getD_eq_getElem?_getD]
theorem mix_at {α : Type} {ct : α → Nat} {mk : α → Nat → α} (d : α) {l : List α} {k i : Nat} (hi : i < l.length) : (mixL ct mk l k i).getD i d = l.getD i d := by
  rw [mix_get d (by omega), if_neg (by omega)]
theorem mix_new {α : Type} {ct : α → Nat} {mk : α → Nat → α} (d : α) {l : List α} {k i : Nat} (hi : i < l.length) : (mixL ct mk l k (i + 1)).getD i d = mk (l.getD i d) (k + ((l.take i).map ct).sum) := by
  rw [mix_get d (by omega), if_pos (by omega), mkL_get d hi]
theorem mix_old {α : Type} {ct : α → Nat} {mk : α → Nat → α} (d : α) {l : List α} {k i j : Nat} (hi : i < l.length) (hj : ¬ j = i) : (mixL ct mk l k (i + 1)).getD j d = (mixL ct mk l k i).getD j d := by
  rw [mix_get d (by omega), mix_get d (by omega)]
  by_cases h : j < i
  · rw [if_pos h, if_pos (by omega)]
  · rw [if_neg h, if_neg (by omega)]
theorem ct_step {α : Type} {ct : α → Nat} (d : α) {l : List α} {k : Nat} (h : k < l.length) : ((l.take (k + 1)).map ct).sum = ((l.take k).map ct).sum + ct (l.getD k d) ∧ ((l.take (k + 1)).map ct).sum ≤ ctL ct l := ⟨wt_take d h, wt_le ct l (k + 1)⟩
theorem ct_end {α : Type} {ct : α → Nat} {l : List α} {k : Nat} (h : ¬ k < l.length) : ((l.take k).map ct).sum = ctL ct l := by
  rw [List.take_of_length_le (by omega)]; rfl
theorem PureOp.rem {P : Program} {σ : Sig} {o : Oper} {t t' : TypeId} {x y : Operand} {a b : Nat} {c : Int} (ho : o.op = .binOp .rem t x y t') (hx : Kn σ x (.one (.int .i64 (a : Int)))) (hy : Kn σ y (.one (.int .i64 c))) (hc : c = (b : Int)) (hb : 0 < b) (ha : a ≤ 9223372036854775807) : PureOp P o σ (.one (.int .i64 ((a % b : Nat) : Int))) := by
  subst hc
  refine PureOp.val fun N w0 ρ S ac w hs => ?_
  have e1 : ac.eval x = .int .i64 (a : Int) := hx.sound hs
  have e2 : ac.eval y = .int .i64 (b : Int) := hy.sound hs
  refine ⟨_, rfl, fun w' _ => ?_⟩
  generalize ac.eval = ev at e1 e2 ⊢
  have hw : ((a : Int).tmod (b : Int)) = (a : Int) % (b : Int) := Int.tmod_eq_emod_of_nonneg (by omega)
  simp only [execOp, ho, e1, e2, Sem.run_bind, eqGuard_int, Result.andThen_ok]
  have hb0 : b ≠ 0 := by omega
  simp [binOp, Op.intArith, go_sem, hb0, hw]
theorem AW.boundO {P : Program} {N : Nat} {w0 : Start} {σ : Sig} {Q2 : Exit → Sig → Prop} {t id sz n : Nat} {c : Code} (h : σ.env.lookup t = some (.one (.own id sz n))) (k : n ≤ 9223372036854775807 → AW P N w0 c Q2 σ) : AW P N w0 c Q2 σ := by
  intro ρ S a w Q' hQ hs
  obtain ⟨A, _, h1, h2, _⟩ := hs.env _ _ h
  exact k (by unfold maxLen at h2; omega) ρ S a w Q' hQ hs
theorem PureOp.loadPtrE {P : Program} {σ : Sig} {o : Oper} {t : Nat} {x : Operand} {id sz i j : Nat} {ob : AObj} {y : AV} (ho : o.op = .load t x) (h : Kn σ x (.one (.ptr id sz i j))) (hT : plainB P t = true) (hob : σ.heap.lookup id = some ob) (hsz : ob.sz = sz) (hi : i < ob.n) (hj : j < ob.sz) (he : ob.f i j = y) :
    PureOp P o σ (.one y) := by
  subst he
  exact PureOp.loadPtr ho h hT hob hsz hi hj
theorem Tv.flatN {H : Heap} {id sz n n' : Nat} {o : AObj} {g : Nat → Nat → AV} {U : Nat → Nat → Prop} (hn' : n' = n) (ho : H.lookup id = some o) (hT : o.isT = false) (hs : o.sz = sz) (hn : n ≤ o.n) (hU : U id 0) (hf : ∀ i j, i < n → j < sz → o.f i j = g i j) (hg : ∀ i j, i < n → j < sz → (g i j).scl = true) :
    Tv H (.own id sz n) (.lst sz n' g) U := by
  subst hn'; exact Tv.flat ho hT hs hn hU hf hg
/-- A row of nils. -/
theorem Tv.nilsN {H : Heap} {id n n' : Nat} {o : AObj} {g : Nat → Nat → AV} {U : Nat → Nat → Prop} (hn' : n' = n) (ho : H.lookup id = some o) (hT : o.isT = false) (hs : o.sz = 1) (hn : n ≤ o.n) (hU : U id 0) (hf : ∀ i, i < n → o.f i 0 = .con (.slice none 0 0)) (hg : ∀ i, i < n → ∃ s f, g i 0 = .lst s 0 f) :
    Tv H (.own id 1 n) (.lst 1 n' g) U := by
  subst hn'
  refine .own (fun _ _ _ _ => False) ho hT hs hn hU (fun i j hi hj => ?_) (fun _ _ _ _ _ _ h => h.elim) (fun _ _ _ _ _ _ _ _ _ _ _ h => h.elim)
  obtain rfl : j = 0 := by omega
  obtain ⟨s, f, e⟩ := hg i hi
  rw [hf i hi, e]
  exact .nil
theorem getD_rep {α : Type} {a d : α} {n i : Nat} (h : i < n) : (List.replicate n a).getD i d = a := by
  rw [List.getD_eq_getElem?_getD, List.getElem?_replicate, if_pos h]; rfl
end Go.Proofs.Ytmfkmifkkplidaa
