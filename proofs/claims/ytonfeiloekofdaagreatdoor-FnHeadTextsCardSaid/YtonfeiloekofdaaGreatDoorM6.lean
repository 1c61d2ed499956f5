/-
  Proved: the law FnHeadTexts returns true for every input: what the program writes of a head or a measurement it reads back, it answers as the reference does, and a trimmed head holds just the measurements from the given time on. Conditions: the listed variables of the library hold what the program's text lays in them (the card ties them).
-/
import Derived.Shelf.Small.Strs
import Derived.Test.YtonfeiloekofdaaGreatDoorTie
import Derived.Test.YtonfeiloekofdaaGreatDoorCards
import Derived.LaidMore
import Derived.LaidSub
import Derived.MakeChecks
import Derived.SevenTiedAt
import Derived.Stop.Joined
import Derived.Stop.LaidErr
import Derived.Shelf.Vars
import Derived.Lay
import Derived.ChangeMaps5
import Derived.Test.YtonfeiloekofdaaGreatDoorM1
import Derived.Test.YtonfeiloekofdaaGreatDoorM2
import Derived.Test.YtonfeiloekofdaaGreatDoorM3
import Derived.Test.YtonfeiloekofdaaGreatDoorM5
namespace Go.Proofs.YtonfeiloekofdaaGreatDoor
open Go.ChangeShapes Go.WideShapes Go.ChangeAt Go.RowKit Go.BigFrame Go.Deep
set_option linter.unusedVariables false
set_option linter.unusedSimpArgs false
theorem FreshOp.hexa {P : Program} {σ : Sig} {o : Oper} {t e : Nat} {x y z u x5 x6 : Operand} {a1 a2 a3 a4 a5 a6 : Int} (ho : o.op = .buildSlice t 6 #[(0, x), (1, y), (2, z), (3, u), (4, x5), (5, x6)]) (kx : Kn σ x (.one (.int .i64 a1))) (ky : Kn σ y (.one (.int .i64 a2))) (kz : Kn σ z (.one (.int .i64 a3))) (ku : Kn σ u (.one (.int .i64 a4))) (k5 : Kn σ x5 (.one (.int .i64 a5))) (k6 : Kn σ x6 (.one (.int .i64 a6)))
    (ht : P.underlying t = some (.slice e)) (hz : (P.info? e).map (fun i => (i.size, i.zero)) = some (1, some (.int .i64 0))) : FreshOp P o σ (.one (.frs (.lst 1 6 fun i _ => .int .i64 (([a1, a2, a3, a4, a5, a6] : List Int).getD i 0)))) := by
  constructor
  intro N w0 ρ S a w K Q' hs hK
  have e1 : a.eval x = .int .i64 a1 := kx.sound hs
  have e2 : a.eval y = .int .i64 a2 := ky.sound hs
  have e3 : a.eval z = .int .i64 a3 := kz.sound hs
  have e4 : a.eval u = .int .i64 a4 := ku.sound hs
  have e5 : a.eval x5 = .int .i64 a5 := k5.sound hs
  have e6 : a.eval x6 = .int .i64 a6 := k6.sound hs
  obtain ⟨i, hi, hi2⟩ := Option.map_eq_some_iff.1 hz
  simp only [Prod.mk.injEq] at hi2
  obtain ⟨z1, z2⟩ := hi2
  have er : (execOp a.eval o).run P w = .ok (.value (.slice (some ⟨w.heap.size, 0, none⟩) 6 6)) (w.alloc (.cells #[.int .i64 a1, .int .i64 a2, .int .i64 a3, .int .i64 a4, .int .i64 a5, .int .i64 a6] e)) := by
    generalize a.eval = ev at e1 e2 e3 e4 e5 e6 ⊢
    simp [execOp, ho, Instr.buildSlice, run_underlying ht, sizeOf, typeInfo, hi, z1, z2, zeroValue, e1, e2, e3, e4, e5, e6, go_sem]
  unfold Oper.wp
  rw [er]
  have hb : Below w.heap.size w (w.alloc (.cells #[.int .i64 a1, .int .i64 a2, .int .i64 a3, .int .i64 a4, .int .i64 a5, .int .i64 a6] e)) := (Below.refl _ _).alloc (Nat.le_refl _) _
  obtain ⟨g1, g2⟩ := hs.grow hb
  have hlt : ρ.base ≤ w.heap.size := by rw [hs.mem.base]; exact hs.mem.low
  refine hK _ _ _ g1 hb (fun b h => h.imp (fun h => h) (fun h => h.1)) g2 ⟨_, _, rfl, Nat.le_refl _, by decide, (fun h => by cases h), fun j hj => ⟨w.heap.size, 0, rfl, ⟨.inr ⟨Nat.le_refl _, by rw [World.heap_alloc, Array.size_push]; omega⟩, hlt⟩, fun q hq => ?_⟩⟩
  obtain rfl : q = 0 := by omega
  have hcell : ∀ p, (w.alloc (.cells #[.int .i64 a1, .int .i64 a2, .int .i64 a3, .int .i64 a4, .int .i64 a5, .int .i64 a6] e)).cell? ⟨w.heap.size, p, none⟩ = (#[Value.int .i64 a1, .int .i64 a2, .int .i64 a3, .int .i64 a4, .int .i64 a5, .int .i64 a6])[p]? := fun p => by simp [World.cell?, World.heap_alloc]
  match j, hj with
  | 0, _ => exact ⟨.int .i64 a1, by rw [hcell]; rfl, rfl⟩
  | 1, _ => exact ⟨.int .i64 a2, by rw [hcell]; rfl, rfl⟩
  | 2, _ => exact ⟨.int .i64 a3, by rw [hcell]; rfl, rfl⟩
  | 3, _ => exact ⟨.int .i64 a4, by rw [hcell]; rfl, rfl⟩
  | 4, _ => exact ⟨.int .i64 a5, by rw [hcell]; rfl, rfl⟩
  | 5, _ => exact ⟨.int .i64 a6, by rw [hcell]; rfl, rfl⟩
theorem PureOp.dropStr {P : Program} {σ : Sig} {o : Oper} {t : TypeId} {x y : Operand} {s : ByteArray} {k : Nat} {m : Int} {kd : IntKind} (ho : o.op = .slice t x (some y) none none) (hx : Kn σ x (.one (.str s))) (hy : Kn σ y (.one (.int kd m))) (hm : m = (k : Int)) (hk : k ≤ s.size) (ht : stringB P t = true) : PureOp P o σ (.one (.str (s.extract k s.size))) := by
  subst hm
  refine PureOp.val fun N w0 ρ S ac w hs => ?_
  obtain ⟨e1, hl⟩ : ac.eval x = .string s ∧ _ := hx.sound hs
  have e2 : ac.eval y = .int kd (k : Int) := hy.sound hs
  have hu := stringB_spec ht
  refine ⟨.string (s.extract k s.size), ⟨rfl, ?_⟩, fun w' _ => ?_⟩
  · rw [ByteArray.size_extract]; omega
  generalize ac.eval = ev at e1 e2 ⊢
  have hk2 : (k : Int) ≤ (s.size : Int) := by omega
  have hr : (Instr.sliceAt t (.string s) (some (.int kd (k : Int))) none none).run P w' = .ok (.string (s.extract k s.size)) w' := by
    simp [Instr.sliceAt, Instr.slice, run_underlying hu, Instr.sliceBounds, Instr.sliceBound, asIntOf, hk2, go_sem]
    try (intro hlt; omega)
  simp only [execOp, ho, e1, e2, Option.map_some, Option.map_none]
  rw [Sem.run_bind, hr]
  rfl
theorem byte_of (s : ByteArray) (k : Nat) : ∃ c : UInt8, (c.toNat : Int) = byteAt s k := by
  unfold byteAt
  by_cases h : k < s.size
  · exact ⟨s.get k h, by rw [dif_pos h]⟩
  · exact ⟨0, by rw [dif_neg h]; rfl⟩
theorem cond_both {a b : Prop} [Decidable a] [Decidable b] (e : cond (decide a) (decide b) false = true) : a ∧ b := by
  by_cases h1 : a
  · rw [decide_eq_true h1] at e
    exact ⟨h1, of_decide_eq_true e⟩
  · rw [decide_eq_false h1] at e; cases e
theorem accS_size8 {t nm : ByteArray} {l : List GSample} (hn : nm.size ≤ 8) (hs : ∀ j, j < l.length → SayOk ⟨nm, (l.getD j default).at_, (l.getD j default).value⟩) : ∀ j, j ≤ l.length → (accS t nm l j).size ≤ t.size + j * 53
  | 0, _ => by simp [accS]
  | j + 1, hj => by
    have ih := accS_size8 (t := t) hn hs j (by omega)
    have h1 := sayT_size (hs j (by omega))
    have h3 : (⟨#[10]⟩ : ByteArray).size = 1 := rfl
    unfold accS
    simp only [ByteArray.size_append]
    simp only at h1
    omega
theorem accH_size8 {h : GHead} (hg : goodHead h = true) : ∀ i, i ≤ h.rows.length → (accH h i).size ≤ 22 + i * 2120
  | 0, _ => by
    have hok := good_ok hg
    have h1 := itoaB_size (z := h.offset) (by have := hok.o0; omega) (by have := hok.o1; omega)
    have h3 : (⟨#[10]⟩ : ByteArray).size = 1 := rfl
    unfold accH
    simp only [ByteArray.size_append]
    omega
  | i + 1, hi => by
    have hok := good_ok hg
    have ih := accH_size8 hg i (by omega)
    have h1 := accS_size8 (t := accH h i) (name_8 (good_at hg (show i < h.rows.length by omega)).1) (fun j hj => hok.say i j (by omega) hj) _ (Nat.le_refl _)
    have h2 := hok.m i (by omega)
    unfold accH
    have h4 : (h.rows.getD i default).samples.length * 53 ≤ 40 * 53 := Nat.mul_le_mul_right _ h2
    have h1 : (accS (accH h i) (h.rows.getD i default).name (h.rows.getD i default).samples (h.rows.getD i default).samples.length).size ≤ (accH h i).size + (h.rows.getD i default).samples.length * 53 := h1
    omega
theorem headT_20000 {h : GHead} (hg : goodHead h = true) : (headT h).size ≤ 17000 := by
  have h1 := accH_size8 hg _ (Nat.le_refl _)
  have h2 := (good_ok hg).n
  unfold headT; omega
theorem headV_size (h : GHead) : (headV h).1.size ≤ 17000 := by
  unfold headV
  by_cases hg : goodHead h = true
  · rw [if_pos hg]; exact headT_20000 hg
  · rw [if_neg hg]; exact Nat.zero_le _
theorem sayV_size (x : GSay) : (sayV x).1.size ≤ 60 := by
  unfold sayV
  by_cases h : sayB x = true
  · rw [if_pos h]
    have h1 := sayT_size (sayB_ok h)
    have h2 := name_8 (sayB_name h)
    show (sayT x).size ≤ 60
    omega
  · rw [if_neg h]; exact Nat.zero_le _
structure SpS where
  t : ByteArray
  m : Nat
  p : Nat
  s : Nat
theorem v_Spoilt (n : Nat) (F : Nat → Nat) (hF : ∀ i, F i < 256) (p s : Nat) (hp : p ≤ 1700000000) (hs : s < 18446744073709551616) (t0 q : ByteArray) (ht : t0.size ≤ 500000) (hq : 1 ≤ q.size ∧ q.size ≤ 1000) : FnC Tryz.prog 36 n F [.one (.str t0), .one (.str q)] p s (fun (x : ByteArray) p' s' => x.size ≤ t0.size + 3 ∧ CurOk p 30 p' s') (fun (x : ByteArray) => .one (.str x)) := by
 refine FnC.of_body (fn := Tryz.f36) Tryz.func36 rfl (nB rfl) ?_
 intro w0 c
 show AW _ 67 _ _ _ _
 refine AW.seq ?_
 refine AW.region ?_
 refine pu (.assign rfl (.str (by decide))) rfl rfl rfl ?_
 refine ARun.nil ?_
 refine AW.seq ?_
 refine AW.seq ?_
 refine AW.region ?_
 refine pu (.move rfl (.tmp rfl)) rfl rfl rfl ?_
 refine ARun.cur (id := 1000000) rfl (v_Pick n F hF p s (by omega) (by omega) 3 (by omega)) f0_ ⟨.inr (.tmp rfl), .inl ⟨_, .int, .int⟩, trivial⟩ rfl rfl rfl (nB rfl) (fun x1 p2 sd3 hc4 => ?_)
 obtain ⟨hc4x, hc4c⟩ := hc4
 obtain ⟨hc41, hc42, hc43⟩ := hc4c
 refine pu (.assign rfl (.tmp rfl)) rfl rfl rfl ?_
 refine ARun.nil ?_
 refine AW.block ?_
 have hX3 : x1 ≤ 2 := by rcases hc4x with hx | hx <;> omega
 refine AW.loop (ι := SpS) (fun v => ⟨[(0, .one (.ptr 1000000 3 0 0)), (1, .one (.str v.t)), (2, .one (.str q)), (7, .one (.int .i64 (v.m : Int)))], [(1000000, .cells [.cv c (.lst 1 n (fun i _ => .int .u8 ((F i : Nat) : Int))), .int .i64 (v.p : Int), .int .u64 ((v.s : Nat) : Int)])]⟩) (fun v => v.t.size + v.m ≤ t0.size + x1 ∧ v.m ≤ x1 ∧ v.p + 8 * v.m ≤ p2 + 8 * x1 ∧ v.s < 18446744073709551616 ∧ p2 ≤ v.p) (fun v => v.m) ⟨t0, x1, p2, sd3⟩ ⟨Nat.le_refl _, Nat.le_refl _, Nat.le_refl _, by show sd3 < 18446744073709551616; omega, Nat.le_refl _⟩ ⟨⟨⟨_, rfl, rfl⟩, ⟨_, rfl, rfl⟩, ⟨_, rfl, rfl⟩, ⟨_, rfl, rfl⟩, trivial⟩, HeapLe.one rfl trivial⟩ ?_
 intro v hv
 obtain ⟨hv1, hv2, hv3, hv4, hv5⟩ := hv
 refine AW.seq ?_
 refine AW.seq ?_
 refine AW.region ?_
 refine pu (.move rfl (.tmp rfl)) rfl rfl rfl ?_
 refine pu (.intOp rfl (.tmp rfl) .int rfl) rfl rfl rfl ?_
 refine pu (.move rfl (.tmp rfl)) rfl rfl rfl ?_
 refine ARun.gpure (want := true) (.tt rfl) (fun hg5 => PureOp.move rfl (.tmp rfl)) rfl rfl (nB rfl) rfl (nB rfl) ?_
 refine ARun.gpure (want := true) (.tt rfl) (fun hg6 => PureOp.lenStr rfl (.gtmp rfl hg6) f20_) rfl rfl (nB rfl) rfl (nB rfl) ?_
 refine ARun.gpure (want := true) (.tt rfl) (fun hg7 => PureOp.intOp rfl (.gtmp rfl hg7) .int rfl) rfl rfl (nB rfl) rfl (nB rfl) ?_
 refine pu (.pick rfl (.tmp rfl) (fun hp8 => .gtmp rfl hp8) (fun _ => .bool)) rfl rfl rfl ?_
 refine ARun.nil ?_
 refine AW.cond (.tmp rfl) (fun hb10 => ?_) (fun hb10 => ?_)
 ·
  obtain ⟨hm0, hm1⟩ := cond_both hb10
  have hm2 : 0 < v.m := by omega
  have hm3 : 0 < v.t.size := by omega
  refine AW.skip ?_
  refine AW.seq ?_
  refine AW.block ?_
  refine AW.seq ?_
  refine AW.region ?_
  refine pu (.move rfl (.tmp rfl)) rfl rfl rfl ?_
  refine pu (.move rfl (.tmp rfl)) rfl rfl rfl ?_
  refine pu (.lenStr rfl (.tmp rfl) f20_) rfl rfl rfl ?_
  refine ARun.cur (id := 1000000) rfl (v_Pick n F hF v.p v.s (by omega) (by omega) v.t.size (by omega)) f0_ ⟨.inr (.tmp rfl), .inl ⟨_, (.tmp rfl), .int⟩, trivial⟩ rfl rfl rfl (nB rfl) (fun x11 p12 sd13 hc14 => ?_)
  obtain ⟨hc14x, hc14c⟩ := hc14
  obtain ⟨hc141, hc142, hc143⟩ := hc14c
  refine pu (.assign rfl (.tmp rfl)) rfl rfl rfl ?_
  refine ARun.nil ?_
  refine AW.seq ?_
  refine AW.region ?_
  refine pu (.move rfl (.tmp rfl)) rfl rfl rfl ?_
  refine pu (.move rfl (.tmp rfl)) rfl rfl rfl ?_
  refine pu (.move rfl (.tmp rfl)) rfl rfl rfl ?_
  refine pu (.lenStr rfl (.tmp rfl) f20_) rfl rfl rfl ?_
  refine ARun.cur (id := 1000000) rfl (v_Pick n F hF p12 sd13 (by omega) (by omega) q.size (by omega)) f0_ ⟨.inr (.tmp rfl), .inl ⟨_, (.tmp rfl), .int⟩, trivial⟩ rfl rfl rfl (nB rfl) (fun x15 p16 sd17 hc18 => ?_)
  obtain ⟨hc18x, hc18c⟩ := hc18
  obtain ⟨hc181, hc182, hc183⟩ := hc18c
  refine pu (.indexStrAt (i := x15) rfl (.tmp rfl) f20_ (.tmp rfl) rfl (by rcases hc18x with hx | hx <;> omega)) rfl rfl rfl ?_
  obtain ⟨bc, hbc⟩ := byte_of q x15
  refine ARun.fresh (FreshOp.byte1 (a1 := byteAt q x15) rfl (.tmp rfl) Tryz.underlying22 (by kernel_rfl)) rfl rfl (nB rfl) ?_
  refine pu (.byteStr (c := bc) rfl (.frs (.tmp rfl)) (congrArg (fun z : Int => AV.int .u8 z) hbc.symm) Tryz.underlying22 Tryz.underlying5 Tryz.underlying9) rfl rfl rfl ?_
  refine pu (.assign rfl (.tmp rfl)) rfl rfl rfl ?_
  refine ARun.nil ?_
  refine AW.seq ?_
  refine AW.region ?_
  refine pu (.move rfl (.tmp rfl)) rfl rfl rfl ?_
  refine ARun.cur (id := 1000000) rfl (v_Pick n F hF p16 sd17 (by omega) (by omega) 3 (by omega)) f0_ ⟨.inr (.tmp rfl), .inl ⟨_, .int, .int⟩, trivial⟩ rfl rfl rfl (nB rfl) (fun x19 p20 sd21 hc22 => ?_)
  obtain ⟨hc22x, hc22c⟩ := hc22
  obtain ⟨hc221, hc222, hc223⟩ := hc22c
  refine ARun.nil ?_
  refine AW.block ?_
  refine AW.seq ?_
  refine AW.region ?_
  refine pu (.intOp rfl (.tmp rfl) .int rfl) rfl rfl rfl ?_
  refine pu (.assign rfl (.tmp rfl)) rfl rfl rfl ?_
  refine ARun.nil ?_
  refine AW.cond (.tmp rfl) (fun hb23 => ?_) (fun hb23 => ?_)
  ·
   replace hb23 := of_decide_eq_true hb23
   have hpl : x11 < v.t.size := by rcases hc18x with hx | hx <;> omega
   refine AW.any (by kernel_rfl) (by kernel_rfl) ?_
   refine AD.pure (PureOp.move rfl (.tmp rfl)) rfl rfl (nB rfl) ?_
   refine AD.pure (PureOp.move rfl (.tmp rfl)) rfl rfl (nB rfl) ?_
   refine AD.pure (PureOp.takeStr (k := x11) rfl (.tmp rfl) (.tmp rfl) rfl (show x11 ≤ v.t.size from by omega) f20_) rfl rfl (nB rfl) ?_
   refine AD.pure (PureOp.move rfl (.tmp rfl)) rfl rfl (nB rfl) ?_
   refine AD.pure (PureOp.strAdd rfl (.tmp rfl) (.tmp rfl) (by simp only [ByteArray.size_append, ByteArray.size_extract]; have h1_ : (⟨#[bc]⟩ : ByteArray).size = 1 := rfl; omega)) rfl rfl (nB rfl) ?_
   refine AD.pure (PureOp.move rfl (.tmp rfl)) rfl rfl (nB rfl) ?_
   refine AD.pure (PureOp.move rfl (.tmp rfl)) rfl rfl (nB rfl) ?_
   refine AD.pure (PureOp.dropStr (k := x11) rfl (.tmp rfl) (.tmp rfl) rfl (show x11 ≤ v.t.size from by omega) f20_) rfl rfl (nB rfl) ?_
   refine AD.pure (PureOp.strAdd rfl (.tmp rfl) (.tmp rfl) (by simp only [ByteArray.size_append, ByteArray.size_extract]; have h1_ : (⟨#[bc]⟩ : ByteArray).size = 1 := rfl; omega)) rfl rfl (nB rfl) ?_
   refine AD.pure (PureOp.assign rfl (.tmp rfl)) rfl rfl (nB rfl) ?_
   refine AD.nil ?_
   refine AW.region ?_
   refine pu (.move rfl (.tmp rfl)) rfl rfl rfl ?_
   refine pu (.sub (c := (((v.m - 1) : Nat) : Int)) rfl (.tmp rfl) .int (by rw [wrap_id (by omega) (by omega)]; omega)) rfl rfl rfl ?_
   refine pu (.assign rfl (.tmp rfl)) rfl rfl rfl ?_
   refine ARun.nil ?_
   exact ⟨⟨((v.t.extract 0 x11) ++ (⟨#[bc]⟩)) ++ (v.t.extract x11 v.t.size), v.m - 1, p20, sd21⟩, ⟨by show (((v.t.extract 0 x11) ++ (⟨#[bc]⟩)) ++ (v.t.extract x11 v.t.size)).size + (v.m - 1) ≤ _; simp only [ByteArray.size_append, ByteArray.size_extract]; have h1_ : (⟨#[bc]⟩ : ByteArray).size = 1 := rfl; omega, by show v.m - 1 ≤ _; omega, by show p20 + 8 * (v.m - 1) ≤ _; omega, by show sd21 < _; omega, by show _ ≤ p20; omega⟩, by show v.m - 1 < v.m; omega, ⟨⟨⟨_, rfl, rfl⟩, ⟨_, rfl, rfl⟩, ⟨_, rfl, rfl⟩, ⟨_, rfl, rfl⟩, trivial⟩, HeapLe.one rfl trivial⟩⟩
  ·
   replace hb23 := of_decide_eq_false hb23
   have hpl : x11 < v.t.size := by rcases hc18x with hx | hx <;> omega
   refine AW.seq ?_
   refine AW.region ?_
   refine pu (.intOp rfl (.tmp rfl) .int rfl) rfl rfl rfl ?_
   refine pu (.assign rfl (.tmp rfl)) rfl rfl rfl ?_
   refine ARun.nil ?_
   refine AW.cond (.tmp rfl) (fun hb24 => ?_) (fun hb24 => ?_)
   ·
    replace hb24 := of_decide_eq_true hb24
    have hpl : x11 < v.t.size := by rcases hc22x with hx | hx <;> omega
    refine AW.any (by kernel_rfl) (by kernel_rfl) ?_
    refine AD.pure (PureOp.move rfl (.tmp rfl)) rfl rfl (nB rfl) ?_
    refine AD.pure (PureOp.move rfl (.tmp rfl)) rfl rfl (nB rfl) ?_
    refine AD.pure (PureOp.takeStr (k := x11) rfl (.tmp rfl) (.tmp rfl) rfl (show x11 ≤ v.t.size from by omega) f20_) rfl rfl (nB rfl) ?_
    refine AD.pure (PureOp.move rfl (.tmp rfl)) rfl rfl (nB rfl) ?_
    refine AD.pure (PureOp.strAdd rfl (.tmp rfl) (.tmp rfl) (by simp only [ByteArray.size_append, ByteArray.size_extract]; have h1_ : (⟨#[bc]⟩ : ByteArray).size = 1 := rfl; omega)) rfl rfl (nB rfl) ?_
    refine AD.pure (PureOp.move rfl (.tmp rfl)) rfl rfl (nB rfl) ?_
    refine AD.pure (PureOp.move rfl (.tmp rfl)) rfl rfl (nB rfl) ?_
    refine AD.pure (PureOp.add (c := ((x11 + 1 : Nat) : Int)) rfl (.tmp rfl) .int (by rw [wrap_id (by omega) (by omega)]; omega)) rfl rfl (nB rfl) ?_
    refine AD.pure (PureOp.dropStr (k := x11 + 1) rfl (.tmp rfl) (.tmp rfl) rfl (show x11 + 1 ≤ v.t.size from by omega) f20_) rfl rfl (nB rfl) ?_
    refine AD.pure (PureOp.strAdd rfl (.tmp rfl) (.tmp rfl) (by simp only [ByteArray.size_append, ByteArray.size_extract]; have h1_ : (⟨#[bc]⟩ : ByteArray).size = 1 := rfl; omega)) rfl rfl (nB rfl) ?_
    refine AD.pure (PureOp.assign rfl (.tmp rfl)) rfl rfl (nB rfl) ?_
    refine AD.nil ?_
    refine AW.region ?_
    refine pu (.move rfl (.tmp rfl)) rfl rfl rfl ?_
    refine pu (.sub (c := (((v.m - 1) : Nat) : Int)) rfl (.tmp rfl) .int (by rw [wrap_id (by omega) (by omega)]; omega)) rfl rfl rfl ?_
    refine pu (.assign rfl (.tmp rfl)) rfl rfl rfl ?_
    refine ARun.nil ?_
    exact ⟨⟨((v.t.extract 0 x11) ++ (⟨#[bc]⟩)) ++ (v.t.extract (x11 + 1) v.t.size), v.m - 1, p20, sd21⟩, ⟨by show (((v.t.extract 0 x11) ++ (⟨#[bc]⟩)) ++ (v.t.extract (x11 + 1) v.t.size)).size + (v.m - 1) ≤ _; simp only [ByteArray.size_append, ByteArray.size_extract]; have h1_ : (⟨#[bc]⟩ : ByteArray).size = 1 := rfl; omega, by show v.m - 1 ≤ _; omega, by show p20 + 8 * (v.m - 1) ≤ _; omega, by show sd21 < _; omega, by show _ ≤ p20; omega⟩, by show v.m - 1 < v.m; omega, ⟨⟨⟨_, rfl, rfl⟩, ⟨_, rfl, rfl⟩, ⟨_, rfl, rfl⟩, ⟨_, rfl, rfl⟩, trivial⟩, HeapLe.one rfl trivial⟩⟩
   ·
    replace hb24 := of_decide_eq_false hb24
    have hpl : x11 < v.t.size := by rcases hc18x with hx | hx <;> omega
    refine AW.any (by kernel_rfl) (by kernel_rfl) ?_
    refine AD.pure (PureOp.move rfl (.tmp rfl)) rfl rfl (nB rfl) ?_
    refine AD.pure (PureOp.move rfl (.tmp rfl)) rfl rfl (nB rfl) ?_
    refine AD.pure (PureOp.takeStr (k := x11) rfl (.tmp rfl) (.tmp rfl) rfl (show x11 ≤ v.t.size from by omega) f20_) rfl rfl (nB rfl) ?_
    refine AD.pure (PureOp.move rfl (.tmp rfl)) rfl rfl (nB rfl) ?_
    refine AD.pure (PureOp.move rfl (.tmp rfl)) rfl rfl (nB rfl) ?_
    refine AD.pure (PureOp.add (c := ((x11 + 1 : Nat) : Int)) rfl (.tmp rfl) .int (by rw [wrap_id (by omega) (by omega)]; omega)) rfl rfl (nB rfl) ?_
    refine AD.pure (PureOp.dropStr (k := x11 + 1) rfl (.tmp rfl) (.tmp rfl) rfl (show x11 + 1 ≤ v.t.size from by omega) f20_) rfl rfl (nB rfl) ?_
    refine AD.pure (PureOp.strAdd rfl (.tmp rfl) (.tmp rfl) (by simp only [ByteArray.size_append, ByteArray.size_extract]; have h1_ : (⟨#[bc]⟩ : ByteArray).size = 1 := rfl; omega)) rfl rfl (nB rfl) ?_
    refine AD.pure (PureOp.assign rfl (.tmp rfl)) rfl rfl (nB rfl) ?_
    refine AD.nil ?_
    refine AW.region ?_
    refine pu (.move rfl (.tmp rfl)) rfl rfl rfl ?_
    refine pu (.sub (c := (((v.m - 1) : Nat) : Int)) rfl (.tmp rfl) .int (by rw [wrap_id (by omega) (by omega)]; omega)) rfl rfl rfl ?_
    refine pu (.assign rfl (.tmp rfl)) rfl rfl rfl ?_
    refine ARun.nil ?_
    exact ⟨⟨(v.t.extract 0 x11) ++ (v.t.extract (x11 + 1) v.t.size), v.m - 1, p20, sd21⟩, ⟨by show ((v.t.extract 0 x11) ++ (v.t.extract (x11 + 1) v.t.size)).size + (v.m - 1) ≤ _; simp only [ByteArray.size_append, ByteArray.size_extract]; have h1_ : (⟨#[bc]⟩ : ByteArray).size = 1 := rfl; omega, by show v.m - 1 ≤ _; omega, by show p20 + 8 * (v.m - 1) ≤ _; omega, by show sd21 < _; omega, by show _ ≤ p20; omega⟩, by show v.m - 1 < v.m; omega, ⟨⟨⟨_, rfl, rfl⟩, ⟨_, rfl, rfl⟩, ⟨_, rfl, rfl⟩, ⟨_, rfl, rfl⟩, trivial⟩, HeapLe.one rfl trivial⟩⟩
 ·
  have _h := hb10
  refine AW.exit ?_
  refine AW.seq ?_
  refine AW.region ?_
  refine pu (.move rfl (.tmp rfl)) rfl rfl rfl ?_
  refine pu (.assign rfl (.tmp rfl)) rfl rfl rfl ?_
  refine ARun.nil ?_
  exact AW.ret (show ∃ x p' s' t, _ ∧ ResL _ _ [.tmp 6] t ∧ _ ∧ _ from ⟨v.t, v.p, v.s, _, ⟨by show v.t.size ≤ _; omega, ⟨by omega, by omega, by omega⟩⟩, .inl ⟨_, rfl, .tmp rfl⟩, .str, rfl⟩)
end Go.Proofs.YtonfeiloekofdaaGreatDoor

namespace Go.Proofs.YtonfeiloekofdaaGreatDoor
open Go.Proofs Go.Shelf
open Go.ChangeShapes Go.WideShapes Go.ChangeAt Go.RowKit Go.BigFrame Go.Deep
set_option linter.unusedVariables false
set_option linter.unusedSimpArgs false
theorem f81_ : callB Tryz.prog 73 = true := by kernel_rfl
theorem f82_ : callB Tryz.prog 74 = true := by kernel_rfl
theorem f83_ : callB Tryz.prog 75 = true := by kernel_rfl
theorem vrc_cv_108_3_.i64 : convB Tryz.prog 108 3 .i64 = true := by kernel_rfl
theorem vrc_cv_3_108_.u64 : convB Tryz.prog 3 108 .u64 = true := by kernel_rfl
def ren_n106 : Shelf.Ren where
  f := fun x => match x with | 106 => 75 | 213 => 81 | 265 => 92 | n => n
  t := fun x => match x with | 9 => 9 | 3 => 3 | n => n
  g := fun x => x
theorem lays_n106 : Lays.n106 Tryz.prog ren_n106 where
  mixed := by kernel_rfl
  f106 := by kernel_rfl
  f213 := by kernel_rfl
  f265 := by kernel_rfl
  t3 := Tryz.underlying3
  a3 := Tryz.isAgg3
  z3 := Tryz.sizeOf3
  v3 := Tryz.zeroValue3
  t9 := Tryz.underlying9
  a9 := Tryz.isAgg9
  z9 := Tryz.sizeOf9
  v9 := Tryz.zeroValue9
theorem v_Compare (a b : ByteArray) : Fn Tryz.prog 75 [.one (.str a), .one (.str b)] (.one (.int .i64 (cmpS a b))) := by
  intro w S vs hS hd
  obtain ⟨v, vs1, rfl, ⟨rfl, _⟩, u, vs2, rfl, ⟨rfl, _⟩, h3⟩ := hd
  obtain rfl : vs2 = [] := h3
  exact (Any.strings_Compare lays_n106 a b w).mono fun e w' ⟨he, hw⟩ => ⟨he, hw ▸ Below.refl _ _⟩
theorem v_Find1 (x : GRow) (s : ByteArray) : Fn Tryz.prog 74 [.agg [.str x.name, .lst 2 x.samples.length (fun i0 j0 => ([.int .i64 ((x.samples.getD i0 (default : GSample)).at_), .int .i64 ((x.samples.getD i0 (default : GSample)).value)] : List AV).getD j0 (.con undef))], .one (.str s)] (.one (.int .i64 (cmpS x.name s))) := by
 refine Fn.of_body (fn := Tryz.f74) Tryz.func74 rfl (nB rfl) trivial ?_
 intro w0
 show AW _ 9 _ _ _ _
 refine AW.seq ?_
 refine AW.region ?_
 refine ARun.box (id := 0) rfl (.tmp rfl) (SV.cells_of (by exact ⟨trivial, trivial, trivial⟩)) ⟨rfl, (by repeat first | exact trivial | refine ⟨by decide, by first | rfl | exact trivial | (intro i j; first | rfl | exact getD_no rfl | (dsimp only; split <;> first | rfl | exact getD_no rfl) | exact scl_no (by apply_assumption) _), ?_⟩)⟩ rfl rfl rfl (nB rfl) ?_
 refine pu (.assign rfl .int) rfl rfl rfl ?_
 refine ARun.nil ?_
 refine AW.seq ?_
 refine AW.region ?_
 refine pu (.fieldPtr rfl (.tmp rfl) f31_) rfl rfl rfl ?_
 refine pu (.loadPtr rfl (.tmp rfl) f12_ rfl rfl (nB rfl) (nB rfl)) rfl rfl rfl ?_
 refine pu (.move rfl (.tmp rfl)) rfl rfl rfl ?_
 refine pu (.call rfl (v_Compare x.name s) ⟨⟨_, (.tmp rfl), .str⟩, ⟨_, (.tmp rfl), .str⟩, trivial⟩ f83_ trivial) rfl rfl rfl ?_
 refine pu (.assign rfl (.tmp rfl)) rfl rfl rfl ?_
 refine ARun.nil ?_
 refine AW.ret (show ResL _ _ [.tmp 4] _ from resI rfl ?_)
 rfl
theorem v_Bs (l : List GRow) (s : ByteArray) (lo : Nat) (hl : l.length ≤ 1048576) (hlo : lo ≤ l.length) (hlt : ∀ a, a < lo → cmpS (l.getD a (default : GRow)).name s < 0) (hge : ∀ a, lo ≤ a → a < l.length → ¬ cmpS (l.getD a (default : GRow)).name s < 0) : Fn Tryz.prog 73 [.one (.lst 2 l.length (fun i0 j0 => ([.str ((l.getD i0 (default : GRow)).name), .lst 2 (((l.getD i0 (default : GRow)).samples).length) (fun i1 j1 => ([.int .i64 ((((l.getD i0 (default : GRow)).samples).getD i1 (default : GSample)).at_), .int .i64 ((((l.getD i0 (default : GRow)).samples).getD i1 (default : GSample)).value)] : List AV).getD j1 (.con undef))] : List AV).getD j0 (.con undef))), .one (.str s), .one (.fn 74 0 (fun _ => .con undef))] (.tup2 (.one (.int .i64 (lo : Int))) (.one (.bool (decide (lo < l.length) && decide ((l.getD lo (default : GRow)).name = s))))) := by
 refine Fn.of_body (fn := Tryz.f73) Tryz.func73 rfl (nB rfl) ⟨trivial, trivial⟩ ?_
 intro w0
 show AW _ 49 _ _ _ _
 refine AW.bound (t := 0) rfl fun hx => ?_
 refine AW.seq ?_
 refine AW.region ?_
 refine pu (.assign rfl .int) rfl rfl rfl ?_
 refine pu (.assign rfl .bool) rfl rfl rfl ?_
 refine ARun.nil ?_
 refine AW.seq ?_
 refine AW.region ?_
 refine pu (.move rfl (.tmp rfl)) rfl rfl rfl ?_
 refine pu (.lenLst rfl (.tmp rfl) f35_) rfl rfl rfl ?_
 refine pu (.assign rfl (.tmp rfl)) rfl rfl rfl ?_
 refine ARun.nil ?_
 refine AW.seq ?_
 refine AW.region ?_
 refine pu (.move rfl (.tmp rfl)) rfl rfl rfl ?_
 refine pu (.assign rfl .int) rfl rfl rfl ?_
 refine pu (.assign rfl (.tmp rfl)) rfl rfl rfl ?_
 refine ARun.nil ?_
 refine AW.seq ?_
 refine AW.block ?_
 refine AW.loop (ι := Nat × Nat) (fun vv => ⟨[(0, .one (.lst 2 l.length (fun i0 j0 => ([.str ((l.getD i0 (default : GRow)).name), .lst 2 (((l.getD i0 (default : GRow)).samples).length) (fun i1 j1 => ([.int .i64 ((((l.getD i0 (default : GRow)).samples).getD i1 (default : GSample)).at_), .int .i64 ((((l.getD i0 (default : GRow)).samples).getD i1 (default : GSample)).value)] : List AV).getD j1 (.con undef))] : List AV).getD j0 (.con undef)))), (1, .one (.str s)), (2, .one (.fn 74 0 (fun _ => .con undef))), (8, .one (.int .i64 (l.length : Int))), (9, .one (.int .i64 (vv.1 : Int))), (10, .one (.int .i64 (vv.2 : Int)))], []⟩) (fun vv => vv.1 ≤ lo ∧ lo ≤ vv.2 ∧ vv.2 ≤ l.length) (fun vv => vv.2 - vv.1) (0, l.length) ⟨Nat.zero_le _, hlo, Nat.le_refl _⟩ ⟨⟨⟨_, rfl, rfl⟩, ⟨_, rfl, rfl⟩, ⟨_, rfl, rfl⟩, ⟨_, rfl, rfl⟩, ⟨_, rfl, rfl⟩, ⟨_, rfl, rfl⟩, trivial⟩, trivial⟩ ?_
 intro vv hI
 obtain ⟨hi1, hi2, hi3⟩ := hI
 refine AW.seq ?_
 refine AW.seq ?_
 refine AW.region ?_
 refine pu (.move rfl (.tmp rfl)) rfl rfl rfl ?_
 refine pu (.move rfl (.tmp rfl)) rfl rfl rfl ?_
 refine pu (.intOp rfl (.tmp rfl) (.tmp rfl) rfl) rfl rfl rfl ?_
 refine ARun.nil ?_
 refine AW.cond (.tmp rfl) (fun hb1 => ?_) (fun hb1 => ?_)
 ·
  replace hb1 := of_decide_eq_true hb1
  refine AW.skip ?_
  refine AW.block ?_
  refine AW.seq ?_
  refine AW.region ?_
  refine pu (.move rfl (.tmp rfl)) rfl rfl rfl ?_
  refine pu (.move rfl (.tmp rfl)) rfl rfl rfl ?_
  refine pu (.add (c := ((vv.1 + vv.2 : Nat) : Int)) rfl (.tmp rfl) (.tmp rfl) (by rw [wrap_id (by omega) (by omega)]; omega)) rfl rfl rfl ?_
  refine pu (.conv (b := ((vv.1 + vv.2 : Nat) : Int)) rfl (.tmp rfl) vrc_cv_3_108_.u64 (wrap_u64 (by omega) (by omega))) rfl rfl rfl ?_
  refine pu (.shr1 (a := vv.1 + vv.2) rfl (.tmp rfl) .int) rfl rfl rfl ?_
  refine pu (.conv (b := (((vv.1 + vv.2) / 2 : Nat) : Int)) rfl (.tmp rfl) vrc_cv_108_3_.i64 (wrap_id (by omega) (by omega))) rfl rfl rfl ?_
  refine pu (.assign rfl (.tmp rfl)) rfl rfl rfl ?_
  refine ARun.nil ?_
  refine AW.seq ?_
  refine AW.region ?_
  refine pu (.move rfl (.tmp rfl)) rfl rfl rfl ?_
  refine pu (.move rfl (.tmp rfl)) rfl rfl rfl ?_
  refine pu (.move rfl (.tmp rfl)) rfl rfl rfl ?_
  refine pu (.indexLst (i := (vv.1 + vv.2) / 2) rfl (.tmp rfl) f28_ (.tmp rfl) rfl (by omega)) rfl rfl rfl ?_
  refine pu (.loadRefAgg rfl (.tmp rfl) f27_ (nB rfl)) rfl rfl rfl ?_
  refine pu (.move rfl (.tmp rfl)) rfl rfl rfl ?_
  refine pu (.callv rfl (.tmp rfl) (show Fn Tryz.prog 74 ([.agg [.str ((l.getD ((vv.1 + vv.2) / 2) (default : GRow)).name), .lst 2 (((l.getD ((vv.1 + vv.2) / 2) (default : GRow)).samples).length) (fun i0 j0 => ([.int .i64 ((((l.getD ((vv.1 + vv.2) / 2) (default : GRow)).samples).getD i0 (default : GSample)).at_), .int .i64 ((((l.getD ((vv.1 + vv.2) / 2) (default : GRow)).samples).getD i0 (default : GSample)).value)] : List AV).getD j0 (.con undef))], .one (.str s)] ++ capL 0 (fun _ => .con undef)) _ from v_Find1 (l.getD ((vv.1 + vv.2) / 2) (default : GRow)) s) (fun j h => absurd h (by omega)) ⟨⟨_, (.tmp rfl), ⟨.str, .lst, trivial⟩⟩, ⟨_, (.tmp rfl), .str⟩, trivial⟩ f82_ trivial) rfl rfl rfl ?_
  refine pu (.intOp rfl (.tmp rfl) .int rfl) rfl rfl rfl ?_
  refine ARun.nil ?_
  refine AW.cond (.tmp rfl) (fun hb2 => ?_) (fun hb2 => ?_)
  ·
   replace hb2 := of_decide_eq_true hb2
   have hm : ((vv.1 + vv.2) / 2) < lo := (Nat.lt_or_ge ((vv.1 + vv.2) / 2) lo).elim id (fun hc => absurd hb2 (hge _ hc (by omega)))
   refine AW.region ?_
   refine pu (.move rfl (.tmp rfl)) rfl rfl rfl ?_
   refine pu (.add (c := (((vv.1 + vv.2) / 2 + 1 : Nat) : Int)) rfl (.tmp rfl) .int (by rw [wrap_id (by omega) (by omega)]; omega)) rfl rfl rfl ?_
   refine pu (.assign rfl (.tmp rfl)) rfl rfl rfl ?_
   refine ARun.nil ?_
   exact ⟨((vv.1 + vv.2) / 2 + 1, vv.2), (by dsimp only; omega), by dsimp only; omega, ⟨⟨⟨_, rfl, rfl⟩, ⟨_, rfl, rfl⟩, ⟨_, rfl, rfl⟩, ⟨_, rfl, rfl⟩, ⟨_, rfl, rfl⟩, ⟨_, rfl, rfl⟩, trivial⟩, trivial⟩⟩
  ·
   replace hb2 := of_decide_eq_false hb2
   have hm : ¬ ((vv.1 + vv.2) / 2) < lo := fun hc => hb2 (hlt _ hc)
   refine AW.region ?_
   refine pu (.move rfl (.tmp rfl)) rfl rfl rfl ?_
   refine pu (.assign rfl (.tmp rfl)) rfl rfl rfl ?_
   refine ARun.nil ?_
   exact ⟨(vv.1, (vv.1 + vv.2) / 2), (by dsimp only; omega), by dsimp only; omega, ⟨⟨⟨_, rfl, rfl⟩, ⟨_, rfl, rfl⟩, ⟨_, rfl, rfl⟩, ⟨_, rfl, rfl⟩, ⟨_, rfl, rfl⟩, ⟨_, rfl, rfl⟩, trivial⟩, trivial⟩⟩
 ·
  replace hb1 := of_decide_eq_false hb1
  refine AW.exit ?_
  refine AW.seq ?_
  refine AW.region ?_
  refine pu (.move rfl (.tmp rfl)) rfl rfl rfl ?_
  refine pu (.move rfl (.tmp rfl)) rfl rfl rfl ?_
  refine pu (.move rfl (.tmp rfl)) rfl rfl rfl ?_
  refine pu (.intOp rfl (.tmp rfl) (.tmp rfl) rfl) rfl rfl rfl ?_
  refine pu (.move rfl (.tmp rfl)) rfl rfl rfl ?_
  refine ARun.gpure (want := true) (.tt rfl) (fun hg3 => PureOp.move rfl (.tmp rfl)) rfl rfl (nB rfl) rfl (nB rfl) ?_
  refine ARun.gpure (want := true) (.tt rfl) (fun hg4 => PureOp.move rfl (.tmp rfl)) rfl rfl (nB rfl) rfl (nB rfl) ?_
  refine ARun.gpure (want := true) (.tt rfl) (fun hg5 => PureOp.move rfl (.tmp rfl)) rfl rfl (nB rfl) rfl (nB rfl) ?_
  refine ARun.gpure (want := true) (.tt rfl) (fun hg6 => PureOp.indexLst (i := vv.1) rfl (.gtmp rfl hg6) f28_ (.gtmp rfl hg6) rfl (by have q := hg6; simp only [Bool.cond_true_left, Bool.cond_false_right, Bool.not_eq_true', Bool.or_eq_false_iff, Bool.not_eq_false', Bool.and_eq_true, Bool.not_not, decide_eq_true_eq, decide_eq_false_iff_not, inB] at q; omega)) rfl rfl (nB rfl) rfl (nB rfl) ?_
  refine ARun.gpure (want := true) (.tt rfl) (fun hg7 => PureOp.loadRefAgg rfl (.gtmp rfl hg7) f27_ (nB rfl)) rfl rfl (nB rfl) rfl (nB rfl) ?_
  refine ARun.gpure (want := true) (.tt rfl) (fun hg8 => PureOp.move rfl (.tmp rfl)) rfl rfl (nB rfl) rfl (nB rfl) ?_
  refine ARun.gpure (want := true) (.tt rfl) (fun hg9 => PureOp.callv rfl (.gtmp rfl hg9) (show Fn Tryz.prog 74 ([.agg [.str ((l.getD vv.1 (default : GRow)).name), .lst 2 (((l.getD vv.1 (default : GRow)).samples).length) (fun i0 j0 => ([.int .i64 ((((l.getD vv.1 (default : GRow)).samples).getD i0 (default : GSample)).at_), .int .i64 ((((l.getD vv.1 (default : GRow)).samples).getD i0 (default : GSample)).value)] : List AV).getD j0 (.con undef))], .one (.str s)] ++ capL 0 (fun _ => .con undef)) _ from v_Find1 (l.getD vv.1 (default : GRow)) s) (fun j h => absurd h (by omega)) ⟨⟨_, (.gtmp rfl hg9), ⟨.str, .lst, trivial⟩⟩, ⟨_, (.gtmp rfl hg9), .str⟩, trivial⟩ f82_ trivial) rfl rfl (nB rfl) rfl (nB rfl) ?_
  refine ARun.gpure (want := true) (.tt rfl) (fun hg10 => PureOp.intOp rfl (.gtmp rfl hg10) .int rfl) rfl rfl (nB rfl) rfl (nB rfl) ?_
  refine pu (.pick rfl (.tmp rfl) (fun hp11 => .gtmp rfl hp11) (fun _ => .bool)) rfl rfl rfl ?_
  refine pu (.assign rfl (.tmp rfl)) rfl rfl rfl ?_
  refine pu (.assign rfl (.tmp rfl)) rfl rfl rfl ?_
  refine ARun.nil ?_
  refine AW.ret (show ResL _ _ [.tmp 6, .tmp 7] _ from res2I rfl rfl ?_)
  have he : vv.1 = lo := by omega
  rw [he]
  refine ⟨rfl, ?_⟩
  generalize (l.getD lo _) = rr
  by_cases hc : lo < l.length
  ·
   rw [decide_eq_true (show ((lo : Nat) : Int) < ((l.length : Nat) : Int) by omega), decide_eq_true hc]; exact decide_eq_decide.2 (cmpS_zero _ _)
  ·
   rw [decide_eq_false (show ¬ ((lo : Nat) : Int) < ((l.length : Nat) : Int) by omega), decide_eq_false hc]; rfl
theorem v_Find (h : GHead) (s : ByteArray) (hl : h.rows.length ≤ 1048576) (hg : goodHead h = true) : Fn Tryz.prog 53 [.one (.ref 2 (fun j => ([.lst 2 h.rows.length (fun i0 j0 => ([.str ((h.rows.getD i0 (default : GRow)).name), .lst 2 (((h.rows.getD i0 (default : GRow)).samples).length) (fun i1 j1 => ([.int .i64 ((((h.rows.getD i0 (default : GRow)).samples).getD i1 (default : GSample)).at_), .int .i64 ((((h.rows.getD i0 (default : GRow)).samples).getD i1 (default : GSample)).value)] : List AV).getD j1 (.con undef))] : List AV).getD j0 (.con undef)), .int .i64 h.offset] : List AV).getD j (.con undef))), .one (.str s)] (.tup2 (.one (.int .i64 (loF h s : Int))) (.one (.bool (isRow h s)))) := by
 refine Fn.of_body (fn := Tryz.f53) Tryz.func53 rfl (nB rfl) ⟨trivial, trivial⟩ ?_
 intro w0
 show AW _ 14 _ _ _ _
 refine AW.seq ?_
 refine AW.region ?_
 refine pu (.assign rfl .int) rfl rfl rfl ?_
 refine pu (.assign rfl .bool) rfl rfl rfl ?_
 refine ARun.nil ?_
 refine AW.seq ?_
 refine AW.region ?_
 refine pu (.move rfl (.tmp rfl)) rfl rfl rfl ?_
 refine pu (.nilRef rfl (.tmp rfl)) rfl rfl rfl ?_
 refine pu (.fieldRef rfl (.tmp rfl) f29_ (nB rfl)) rfl rfl rfl ?_
 refine pu (.loadRef rfl (.tmp rfl) f33_ (nB rfl)) rfl rfl rfl ?_
 refine pu (.move rfl (.tmp rfl)) rfl rfl rfl ?_
 refine pu (.call rfl (v_Bs h.rows s (loF h s) (by omega) (loF_le h s) (fun _ hq => loF_lt hq) (fun _ hq1 hq2 => loF_ge hg hq1 hq2)) ⟨⟨_, (.tmp rfl), .lst⟩, ⟨_, (.tmp rfl), .str⟩, ⟨_, .func, (.fn (fun j h => absurd h (by omega)))⟩, trivial⟩ f81_ ⟨trivial, trivial⟩) rfl rfl rfl ?_
 refine pu (.ext2a rfl (.tmp rfl)) rfl rfl rfl ?_
 refine pu (.ext2b rfl (.tmp rfl)) rfl rfl rfl ?_
 refine pu (.assign rfl (.tmp rfl)) rfl rfl rfl ?_
 refine pu (.assign rfl (.tmp rfl)) rfl rfl rfl ?_
 refine ARun.nil ?_
 refine AW.ret (show ResL _ _ [.tmp 4, .tmp 5] _ from res2I rfl rfl ?_)
 exact ⟨rfl, rfl⟩
end Go.Proofs.YtonfeiloekofdaaGreatDoor

namespace Go.Proofs.YtonfeiloekofdaaGreatDoor
open Go.ChangeShapes Go.WideShapes Go.ChangeAt Go.RowKit Go.BigFrame Go.Deep
set_option linter.unusedVariables false
set_option linter.unusedSimpArgs false
theorem f84_ : callB Tryz.prog 51 = true := by kernel_rfl
theorem f85_ : callB Tryz.prog 53 = true := by kernel_rfl
theorem rowV_no {h : GHead} {s : ByteArray} (hn : ∀ k, k < h.rows.length → (h.rows.getD k (default : GRow)).name ≠ s) : isRow h s = false := by
  unfold isRow
  by_cases hl : loF h s < h.rows.length
  · rw [decide_eq_false (hn _ hl), Bool.and_false]
  · rw [decide_eq_false hl, Bool.false_and]
theorem rowV_yes {h : GHead} {s : ByteArray} (hg : goodHead h = true) {k : Nat} (hk : k < h.rows.length) (he : (h.rows.getD k (default : GRow)).name = s) : rowV h s = ((h.rows.getD k (default : GRow)).samples, true) := by
  have e := loF_eq hg hk he
  have e2 : isRow h s = true := by unfold isRow; rw [e, decide_eq_true hk, decide_eq_true he]; rfl
  unfold rowV; rw [if_pos ⟨hg, e2⟩, e]
theorem smp_leW {h : GHead} {k : Nat} (hk : k < h.rows.length) : (h.rows.getD k (default : GRow)).samples.length ≤ wtHead h := by
  have h1 : wtRow (h.rows.getD k (default : GRow)) ≤ (h.rows.map wtRow).sum := wt_at (f := wtRow) (default : GRow) hk
  have h2 : wtRow (h.rows.getD k (default : GRow)) = (h.rows.getD k (default : GRow)).name.size + (h.rows.getD k (default : GRow)).samples.length := rfl
  have h3 : wtHead h = h.rows.length + (h.rows.map wtRow).sum := rfl
  omega
theorem v_sRow (h : GHead) (s : ByteArray) (hw : wtHead h ≤ 1048576) : FnT Tryz.prog 23 [.agg [.lst 2 h.rows.length (fun i0 j0 => ([.str ((h.rows.getD i0 (default : GRow)).name), .lst 2 (((h.rows.getD i0 (default : GRow)).samples).length) (fun i1 j1 => ([.int .i64 ((((h.rows.getD i0 (default : GRow)).samples).getD i1 (default : GSample)).at_), .int .i64 ((((h.rows.getD i0 (default : GRow)).samples).getD i1 (default : GSample)).value)] : List AV).getD j1 (.con undef))] : List AV).getD j0 (.con undef)), .int .i64 h.offset], .one (.str s)] (.tup2 (.one (.lst 2 (((rowV h s).1).length) (fun i0 j0 => ([.int .i64 ((((rowV h s).1).getD i0 (default : GSample)).at_), .int .i64 ((((rowV h s).1).getD i0 (default : GSample)).value)] : List AV).getD j0 (.con undef)))) (.one (.bool ((rowV h s).2)))) := by
 have hr0 : h.rows.length ≤ 1048576 := Nat.le_trans (Nat.le_add_right _ _) hw
 refine FnT.of_body (fn := Tryz.f23) Tryz.func23 rfl (nB rfl)  ?_
 intro w0
 show AW _ 27 _ _ _ _
 refine AW.seq ?_
 refine AW.region ?_
 refine ARun.box (id := 0) rfl (.tmp rfl) (SV.cells_of (by exact ⟨trivial, trivial, trivial⟩)) ⟨rfl, (by repeat first | exact trivial | refine ⟨by decide, by first | rfl | exact trivial | (intro i j; first | rfl | exact getD_no rfl | (dsimp only; split <;> first | rfl | exact getD_no rfl) | exact scl_no (by apply_assumption) _), ?_⟩)⟩ rfl rfl rfl (nB rfl) ?_
 refine pu (.assign rfl .con) rfl rfl rfl ?_
 refine pu (.assign rfl .bool) rfl rfl rfl ?_
 refine ARun.nil ?_
 refine AW.seq ?_
 refine AW.seq ?_
 refine AW.region ?_
 refine pu (.loadPtrAgg rfl (.tmp rfl) f26_ rfl rfl (nB rfl) (nB rfl)) rfl rfl rfl ?_
 refine pu (.call rfl (v_specGoodHead h) ⟨⟨_, (.tmp rfl), ⟨.lst, .int, trivial⟩⟩, trivial⟩ f55_ trivial) rfl rfl rfl ?_
 refine pu (.not rfl (.tmp rfl)) rfl rfl rfl ?_
 refine ARun.nil ?_
 refine AW.cond (.tmp rfl) (fun hb1 => ?_) (fun hb1 => ?_)
 ·
  have hg : goodHead h = false := by revert hb1; generalize goodHead h = a1; revert a1; decide
  refine AW.seq ?_
  refine AW.region ?_
  refine pu (.assign rfl .con) rfl rfl rfl ?_
  refine pu (.assign rfl .bool) rfl rfl rfl ?_
  refine ARun.nil ?_
  rw [show rowV h s = ([], false) from if_neg (by rw [hg]; simp)]
  exact AW.ret (show ∃ s t, ResL _ _ [.tmp 4, .tmp 5] s ∧ TvS _ (ofLeaf t) 0 s _ from ⟨_, fun a b => 1000, .inr (.inl ⟨_, _, _, _, rfl, .tmp rfl, .tmp rfl, rfl⟩), ⟨.nil, .bool⟩⟩)
 ·
  have hg : goodHead h = true := by revert hb1; generalize goodHead h = a1; revert a1; decide
  refine AW.skip ?_
  refine AW.seq ?_
  refine AW.seq ?_
  refine AW.region ?_
  refine pu (.fieldPtr rfl (.tmp rfl) f29_) rfl rfl rfl ?_
  refine pu (.loadPtr rfl (.tmp rfl) f33_ rfl rfl (nB rfl) (nB rfl)) rfl rfl rfl ?_
  refine pu (.lenLst rfl (.tmp rfl) f35_) rfl rfl rfl ?_
  refine pu (.move rfl .int) rfl rfl rfl ?_
  refine ARun.nil ?_
  refine AW.block ?_
  refine AW.loop (ι := Nat) (fun k => ⟨[(1, .one (.str s)), (12, .one (.lst 2 h.rows.length (fun i0 j0 => ([.str ((h.rows.getD i0 (default : GRow)).name), .lst 2 (((h.rows.getD i0 (default : GRow)).samples).length) (fun i1 j1 => ([.int .i64 ((((h.rows.getD i0 (default : GRow)).samples).getD i1 (default : GSample)).at_), .int .i64 ((((h.rows.getD i0 (default : GRow)).samples).getD i1 (default : GSample)).value)] : List AV).getD j1 (.con undef))] : List AV).getD j0 (.con undef)))), (13, .one (.int .i64 (h.rows.length : Int))), (14, .one (.int .i64 (k : Int)))], []⟩) (fun k => k ≤ h.rows.length ∧ ∀ j, j < k → (h.rows.getD j (default : GRow)).name ≠ s) (fun k => h.rows.length - k) 0 ⟨Nat.zero_le _, fun j hj => absurd hj (by omega)⟩ ⟨⟨⟨_, rfl, rfl⟩, ⟨_, rfl, rfl⟩, ⟨_, rfl, rfl⟩, ⟨_, rfl, rfl⟩, trivial⟩, trivial⟩ ?_
  intro k hI
  obtain ⟨hk, hq⟩ := hI
  refine AW.seq ?_
  refine AW.region ?_
  refine pu (.intOp rfl (.tmp rfl) (.tmp rfl) rfl) rfl rfl rfl ?_
  refine ARun.nil ?_
  refine AW.seq ?_
  refine AW.cond (.tmp rfl) (fun hb2 => ?_) (fun hb2 => ?_)
  ·
   replace hb2 := of_decide_eq_true hb2
   have hkl : k < h.rows.length := by omega
   have hsm := smp_leW hkl
   refine AW.skip ?_
   refine AW.seq ?_
   refine AW.block ?_
   refine AW.seq ?_
   refine AW.region ?_
   refine pu (.indexLst (i := k) rfl (.tmp rfl) f28_ (.tmp rfl) rfl (by omega)) rfl rfl rfl ?_
   refine pu (.loadRefAgg rfl (.tmp rfl) f27_ (nB rfl)) rfl rfl rfl ?_
   refine ARun.alloc (id := 1) (l := [.str ByteArray.empty, .con (.slice none 0 0)]) (z := (.agg #[.string ByteArray.empty, .slice none 0 0])) rfl (by kernel_rfl) (fun _ _ _ => ⟨_, _, rfl, ⟨rfl, by decide⟩, ⟨_, _, rfl, rfl, rfl⟩⟩) ⟨rfl, (by repeat first | exact trivial | refine ⟨by decide, by first | rfl | exact trivial | (intro i j; first | rfl | exact getD_no rfl | (dsimp only; split <;> first | rfl | exact getD_no rfl) | exact scl_no (by apply_assumption) _), ?_⟩)⟩ rfl rfl rfl (nB rfl) ?_
   refine ARun.store rfl (.tmp rfl) (.tmp rfl) (SV.cells_of (by exact ⟨trivial, trivial, trivial⟩)) rfl (nB rfl) f38_ rfl rfl ?_
   refine ARun.nil ?_
   refine AW.seq ?_
   refine AW.region ?_
   refine pu (.fieldPtr rfl (.tmp rfl) f31_) rfl rfl rfl ?_
   refine pu (.loadPtr rfl (.tmp rfl) f12_ rfl rfl (nB rfl) (nB rfl)) rfl rfl rfl ?_
   refine pu (.move rfl (.tmp rfl)) rfl rfl rfl ?_
   refine pu (.strOp rfl (.tmp rfl) (.tmp rfl) rfl) rfl rfl rfl ?_
   refine ARun.nil ?_
   refine AW.cond (.tmp rfl) (fun hb3 => ?_) (fun hb3 => ?_)
   ·
    replace hb3 := of_decide_eq_true hb3
    have hnm := hb3
    refine AW.seq ?_
    refine AW.region ?_
    refine ARun.slice0 (id := 2) (z := (.agg #[.int .i64 0, .int .i64 0])) (sz := 2) (by_ := 16) rfl (by kernel_rfl) (fun _ _ => .con undef) (fun _ _ => rfl) ⟨rfl, (by repeat first | exact trivial | refine ⟨by decide, by first | rfl | exact trivial | (intro i j; first | rfl | exact getD_no rfl | (dsimp only; split <;> first | rfl | exact getD_no rfl) | exact scl_no (by apply_assumption) _), ?_⟩)⟩ rfl rfl (nB rfl) ?_
    refine pu (.fieldPtr rfl (.tmp rfl) f32_) rfl rfl rfl ?_
    refine pu (.loadPtr rfl (.tmp rfl) f34_ rfl rfl (nB rfl) (nB rfl)) rfl rfl rfl ?_
    refine ARun.append (id := 3) (sz := 2) (n := 0) (m := ((h.rows.getD k (default : GRow)).samples).length) (by_ := 16) (z := (.agg #[.int .i64 0, .int .i64 0])) (f := fun _ _ => .con undef) (g := fun i0 j0 => ([.int .i64 ((((h.rows.getD k (default : GRow)).samples).getD i0 (default : GSample)).at_), .int .i64 ((((h.rows.getD k (default : GRow)).samples).getD i0 (default : GSample)).value)] : List AV).getD j0 (.con undef)) (h := fun ia ja => if ia < 0 then (fun _ _ => .con undef : Nat → Nat → AV) ia ja else (fun i0 j0 => ([.int .i64 ((((h.rows.getD k (default : GRow)).samples).getD i0 (default : GSample)).at_), .int .i64 ((((h.rows.getD k (default : GRow)).samples).getD i0 (default : GSample)).value)] : List AV).getD j0 (.con undef) : Nat → Nat → AV) (ia - 0) ja) rfl (by kernel_rfl) rfl f24_ (.own (.tmp rfl) rfl rfl rfl (Nat.le_refl _) (fun _ _ _ _ => rfl)) (.lst (.tmp rfl)) (by decide) (fun i j hi hj => match j, hj with | 0, _ => rfl | 1, _ => rfl | _ + 2, h => absurd h (by omega)) (fun _ _ _ _ => rfl) (by omega) (by omega) ⟨rfl, (by repeat first | exact trivial | refine ⟨by decide, by first | rfl | exact trivial | (intro i j; first | rfl | exact getD_no rfl | (dsimp only; split <;> first | rfl | exact getD_no rfl) | exact scl_no (by apply_assumption) _), ?_⟩)⟩ (fun i j => by dsimp only; (repeat' split) <;> first | rfl | exact getD_no rfl) rfl rfl (nB rfl) ?_
    refine pu (.assign rfl (.tmp rfl)) rfl rfl rfl ?_
    refine pu (.assign rfl .bool) rfl rfl rfl ?_
    refine ARun.nil ?_
    rw [rowV_yes hg hkl hb3]
    exact AW.ret (show ∃ s t, ResL _ _ [.tmp 4, .tmp 5] s ∧ TvS _ (ofLeaf t) 0 s _ from ⟨_, fun a b => if a = 3 then 0 else 1000, .inr (.inl ⟨_, _, _, _, rfl, .tmp rfl, .tmp rfl, rfl⟩), ⟨(Tv.flatN (Nat.zero_add _).symm rfl rfl rfl (Nat.le_refl _) (by rfl) (fun i j hi hj => by show (if i < 0 then AV.con undef else (fun i0 j0 => ([.int .i64 ((((h.rows.getD k (default : GRow)).samples).getD i0 (default : GSample)).at_), .int .i64 ((((h.rows.getD k (default : GRow)).samples).getD i0 (default : GSample)).value)] : List AV).getD j0 (.con undef)) i j) = _; exact app0) (fun i j hi hj => match j, hj with | 0, _ => rfl | 1, _ => rfl | _ + 2, h => absurd h (by omega))), .bool⟩⟩)
   ·
    replace hb3 := of_decide_eq_false hb3
    have hnm := hb3
    refine AW.skip ?_
    refine AW.region ?_
    refine pu (.add (c := ((k + 1 : Nat) : Int)) rfl (.tmp rfl) .int (by rw [wrap_id (by omega) (by omega)]; omega)) rfl rfl rfl ?_
    refine pu (.move rfl (.tmp rfl)) rfl rfl rfl ?_
    refine ARun.nil ?_
    exact ⟨k + 1, ⟨by omega, fun j hj => (Nat.lt_succ_iff_lt_or_eq.1 hj).elim (hq j) (fun e => e ▸ hnm)⟩, by dsimp only; omega, ⟨⟨⟨_, rfl, rfl⟩, ⟨_, rfl, rfl⟩, ⟨_, rfl, rfl⟩, ⟨_, rfl, rfl⟩, trivial⟩, trivial⟩⟩
  ·
   replace hb2 := of_decide_eq_false hb2
   have hkl : ¬ k < h.rows.length := by omega
   refine AW.exit ?_
   refine AW.seq ?_
   refine AW.region ?_
   refine pu (.assign rfl .con) rfl rfl rfl ?_
   refine pu (.assign rfl .bool) rfl rfl rfl ?_
   refine ARun.nil ?_
   rw [show rowV h s = ([], false) from if_neg (by rw [rowV_no (fun j hj => hq j (by omega))]; simp)]
   exact AW.ret (show ∃ s t, ResL _ _ [.tmp 4, .tmp 5] s ∧ TvS _ (ofLeaf t) 0 s _ from ⟨_, fun a b => 1000, .inr (.inl ⟨_, _, _, _, rfl, .tmp rfl, .tmp rfl, rfl⟩), ⟨.nil, .bool⟩⟩)
theorem v_iRow (h : GHead) (s : ByteArray) (hw : wtHead h ≤ 1048576) : FnT Tryz.prog 20 [.agg [.lst 2 h.rows.length (fun i0 j0 => ([.str ((h.rows.getD i0 (default : GRow)).name), .lst 2 (((h.rows.getD i0 (default : GRow)).samples).length) (fun i1 j1 => ([.int .i64 ((((h.rows.getD i0 (default : GRow)).samples).getD i1 (default : GSample)).at_), .int .i64 ((((h.rows.getD i0 (default : GRow)).samples).getD i1 (default : GSample)).value)] : List AV).getD j1 (.con undef))] : List AV).getD j0 (.con undef)), .int .i64 h.offset], .one (.str s)] (.tup2 (.one (.lst 2 (((rowV h s).1).length) (fun i0 j0 => ([.int .i64 ((((rowV h s).1).getD i0 (default : GSample)).at_), .int .i64 ((((rowV h s).1).getD i0 (default : GSample)).value)] : List AV).getD j0 (.con undef)))) (.one (.bool ((rowV h s).2)))) := by
 have hr0 : h.rows.length ≤ 1048576 := Nat.le_trans (Nat.le_add_right _ _) hw
 refine FnT.of_body (fn := Tryz.f20) Tryz.func20 rfl (nB rfl)  ?_
 intro w0
 show AW _ 25 _ _ _ _
 refine AW.seq ?_
 refine AW.region ?_
 refine ARun.box (id := 0) rfl (.tmp rfl) (SV.cells_of (by exact ⟨trivial, trivial, trivial⟩)) ⟨rfl, (by repeat first | exact trivial | refine ⟨by decide, by first | rfl | exact trivial | (intro i j; first | rfl | exact getD_no rfl | (dsimp only; split <;> first | rfl | exact getD_no rfl) | exact scl_no (by apply_assumption) _), ?_⟩)⟩ rfl rfl rfl (nB rfl) ?_
 refine pu (.assign rfl .con) rfl rfl rfl ?_
 refine pu (.assign rfl .bool) rfl rfl rfl ?_
 refine ARun.nil ?_
 refine AW.seq ?_
 refine AW.seq ?_
 refine AW.region ?_
 refine pu (.loadPtrAgg rfl (.tmp rfl) f26_ rfl rfl (nB rfl) (nB rfl)) rfl rfl rfl ?_
 refine pu (.call rfl (v_isHead h) ⟨⟨_, (.tmp rfl), ⟨.lst, .int, trivial⟩⟩, trivial⟩ f53_ trivial) rfl rfl rfl ?_
 refine pu (.not rfl (.tmp rfl)) rfl rfl rfl ?_
 refine ARun.nil ?_
 refine AW.cond (.tmp rfl) (fun hb1 => ?_) (fun hb1 => ?_)
 ·
  have hg : goodHead h = false := by revert hb1; generalize goodHead h = a1; revert a1; decide
  refine AW.seq ?_
  refine AW.region ?_
  refine pu (.assign rfl .con) rfl rfl rfl ?_
  refine pu (.assign rfl .bool) rfl rfl rfl ?_
  refine ARun.nil ?_
  rw [show rowV h s = ([], false) from if_neg (by rw [hg]; simp)]
  exact AW.ret (show ∃ s t, ResL _ _ [.tmp 4, .tmp 5] s ∧ TvS _ (ofLeaf t) 0 s _ from ⟨_, fun a b => 1000, .inr (.inl ⟨_, _, _, _, rfl, .tmp rfl, .tmp rfl, rfl⟩), ⟨.nil, .bool⟩⟩)
 ·
  have hg : goodHead h = true := by revert hb1; generalize goodHead h = a1; revert a1; decide
  refine AW.skip ?_
  refine AW.seq ?_
  refine AW.region ?_
  refine pu (.move rfl (.tmp rfl)) rfl rfl rfl ?_
  refine pu (.call rfl (v_Find h s (by omega) hg) ⟨⟨_, (.tmp rfl), (.ptr (m := 2) rfl rfl (nB rfl) (nB rfl) (fun | 0, _ => .lst | 1, _ => .int | _ + 2, h => absurd h (by omega)))⟩, ⟨_, (.tmp rfl), .str⟩, trivial⟩ f85_ ⟨trivial, trivial⟩) rfl rfl rfl ?_
  refine pu (.move rfl (.tmp rfl)) rfl rfl rfl ?_
  refine pu (.ext2a rfl (.tmp rfl)) rfl rfl rfl ?_
  refine pu (.ext2b rfl (.tmp rfl)) rfl rfl rfl ?_
  refine pu (.assign rfl (.tmp rfl)) rfl rfl rfl ?_
  refine pu (.assign rfl (.tmp rfl)) rfl rfl rfl ?_
  refine ARun.nil ?_
  refine AW.seq ?_
  refine AW.seq ?_
  refine AW.region ?_
  refine pu (.move rfl (.tmp rfl)) rfl rfl rfl ?_
  refine pu (.not rfl (.tmp rfl)) rfl rfl rfl ?_
  refine ARun.nil ?_
  refine AW.cond (.tmp rfl) (fun hb2 => ?_) (fun hb2 => ?_)
  ·
   have hir : isRow h s = false := by revert hb2; generalize isRow h s = a1; revert a1; decide
   refine AW.seq ?_
   refine AW.region ?_
   refine pu (.assign rfl .con) rfl rfl rfl ?_
   refine pu (.assign rfl .bool) rfl rfl rfl ?_
   refine ARun.nil ?_
   rw [show rowV h s = ([], false) from if_neg (by rw [hir]; simp)]
   exact AW.ret (show ∃ s t, ResL _ _ [.tmp 4, .tmp 5] s ∧ TvS _ (ofLeaf t) 0 s _ from ⟨_, fun a b => 1000, .inr (.inl ⟨_, _, _, _, rfl, .tmp rfl, .tmp rfl, rfl⟩), ⟨.nil, .bool⟩⟩)
  ·
   have hir : isRow h s = true := by revert hb2; generalize isRow h s = a1; revert a1; decide
   have hlo : loF h s < h.rows.length := by unfold isRow at hir; rw [Bool.and_eq_true] at hir; exact of_decide_eq_true hir.1
   have hsm := smp_leW hlo
   refine AW.skip ?_
   refine AW.seq ?_
   refine AW.region ?_
   refine pu (.fieldPtr rfl (.tmp rfl) f29_) rfl rfl rfl ?_
   refine pu (.loadPtr rfl (.tmp rfl) f33_ rfl rfl (nB rfl) (nB rfl)) rfl rfl rfl ?_
   refine pu (.move rfl (.tmp rfl)) rfl rfl rfl ?_
   refine pu (.indexLst (i := loF h s) rfl (.tmp rfl) f28_ (.tmp rfl) rfl (by omega)) rfl rfl rfl ?_
   refine pu (.fieldRef rfl (.tmp rfl) f32_ (nB rfl)) rfl rfl rfl ?_
   refine pu (.loadRef rfl (.tmp rfl) f34_ (nB rfl)) rfl rfl rfl ?_
   refine ARun.prod (K := 1) rfl (v_Clone_Sample ((h.rows.getD (loF h s) (default : GRow)).samples) (by omega)) ⟨rfl, (by repeat first | exact trivial | refine ⟨by decide, by first | rfl | exact trivial | (intro i j; first | rfl | exact getD_no rfl | (dsimp only; split <;> first | rfl | exact getD_no rfl) | exact scl_no (by apply_assumption) _), ?_⟩)⟩ ⟨⟨_, (.tmp rfl), .lst⟩, trivial⟩ f84_ rfl rfl rfl rfl rfl (nB rfl) ?_
   refine pu (.assign rfl (.tmp rfl)) rfl rfl rfl ?_
   refine pu (.assign rfl .bool) rfl rfl rfl ?_
   refine ARun.nil ?_
   rw [show rowV h s = _ from if_pos ⟨hg, hir⟩]
   exact AW.ret (show ∃ s t, ResL _ _ [.tmp 4, .tmp 5] s ∧ TvS _ (ofLeaf t) 0 s _ from ⟨_, fun a b => if a = 1 then 0 else 1000, .inr (.inl ⟨_, _, _, _, rfl, .tmp rfl, .tmp rfl, rfl⟩), ⟨(Tv.cast (Tv.tre rfl (nB rfl) (by rfl)) rfl), .bool⟩⟩)
end Go.Proofs.YtonfeiloekofdaaGreatDoor

namespace Go.Proofs.YtonfeiloekofdaaGreatDoor
open Go.ChangeShapes Go.WideShapes Go.ChangeAt Go.RowKit Go.BigFrame Go.Deep
set_option linter.unusedVariables false
set_option linter.unusedSimpArgs false
theorem f86_ : callB Tryz.prog 50 = true := by kernel_rfl
theorem f87_ : callB Tryz.prog 52 = true := by kernel_rfl
def late (x : Int) (s : GSample) : Bool := decide (x ≤ s.at_)
def trimS (x : Int) (r : GRow) : List GSample := r.samples.filter (late x)
def trimR (x : Int) (r : GRow) : GRow := ⟨r.name, trimS x r⟩
def trimP (x : Int) (r : GRow) : Bool := decide (0 < (trimS x r).length)
def trimL (h : GHead) (x : Int) : List GRow := (h.rows.filter (trimP x)).map (trimR x)
def trimD (h : GHead) (x : Int) : GHead := ⟨trimL h x, h.offset⟩
def trimC (h : GHead) (x : Int) (k : Nat) : Nat := ((h.rows.take k).map fun r => r.samples.length - (trimS x r).length).sum
def trimV (h : GHead) (x : Int) : GHead × Nat × Bool := if goodHead h = true then (trimD h x, trimC h x h.rows.length, true) else (⟨[], 0⟩, 0, false)
def rowC (h : GHead) (x : Int) (K i j : Nat) : AV := ([.str ((trimL h x).getD i (default : GRow)).name, .tre K i] : List AV).getD j (.con undef)
def rowX (h : GHead) (x : Int) (i : Nat) : AV := .lst 2 ((trimL h x).getD i (default : GRow)).samples.length (fun a b => ceSample (((trimL h x).getD i (default : GRow)).samples.getD a (default : GSample)) b)
theorem map_getD {α β : Type} (f : α → β) (d : α) (e : β) (l : List α) (i : Nat) (h : i < l.length) : (l.map f).getD i e = f (l.getD i d) := by
  rw [List.getD_eq_getElem?_getD, List.getElem?_map, List.getD_eq_getElem?_getD, List.getElem?_eq_getElem h]; rfl
theorem trim_at {h : GHead} {x : Int} {k : Nat} (hk : k < h.rows.length) (hp : trimP x (h.rows.getD k (default : GRow)) = true) : (trimL h x).getD (cntP (trimP x) h.rows k) (default : GRow) = trimR x (h.rows.getD k (default : GRow)) := by
  obtain ⟨h1, h2⟩ := cntP_yes (default : GRow) hk hp
  have hlt : cntP (trimP x) h.rows k < (h.rows.filter (trimP x)).length := by
    have h3 : cntP (trimP x) h.rows (k + 1) ≤ (h.rows.filter (trimP x)).length := by
      unfold cntP
      exact (List.Sublist.filter _ (List.take_sublist _ _)).length_le
    omega
  rw [trimL, map_getD (trimR x) (default : GRow) _ _ _ hlt, h2]
theorem trim_len {h : GHead} {x : Int} {k : Nat} (hk : ¬ k < h.rows.length) : (trimL h x).length = cntP (trimP x) h.rows k := by
  rw [cntP_end hk, trimL, List.length_map]
theorem trimS_le (x : Int) (r : GRow) : (trimS x r).length ≤ r.samples.length := List.length_filter_le ..
theorem trimC_succ {h : GHead} {x : Int} {k : Nat} (hk : k < h.rows.length) : trimC h x (k + 1) = trimC h x k + ((h.rows.getD k (default : GRow)).samples.length - (trimS x (h.rows.getD k (default : GRow))).length) := wt_take (f := fun r : GRow => r.samples.length - (trimS x r).length) (default : GRow) hk
theorem sum_mono {α : Type} {f g : α → Nat} (h : ∀ x, f x ≤ g x) (l : List α) : (l.map f).sum ≤ (l.map g).sum := by
  induction l with
  | nil => exact Nat.le_refl _
  | cons a l ih => rw [List.map_cons, List.map_cons, List.sum_cons, List.sum_cons]; exact Nat.add_le_add (h a) ih
theorem trimC_le (h : GHead) (x : Int) (k : Nat) : trimC h x k ≤ wtHead h := by
  refine Nat.le_trans (wt_le _ _ _) (Nat.le_trans (sum_mono (g := wtRow) (fun r => ?_) _) (Nat.le_add_left _ _))
  show r.samples.length - (trimS x r).length ≤ r.name.size + r.samples.length
  omega
theorem smp_le {h : GHead} {k : Nat} (hk : k < h.rows.length) : (h.rows.getD k (default : GRow)).samples.length ≤ wtHead h := by
  have h1 : wtRow (h.rows.getD k (default : GRow)) ≤ (h.rows.map wtRow).sum := wt_at (f := wtRow) (default : GRow) hk
  have h2 : wtRow (h.rows.getD k (default : GRow)) = (h.rows.getD k (default : GRow)).name.size + (h.rows.getD k (default : GRow)).samples.length := rfl
  have h3 : wtHead h = h.rows.length + (h.rows.map wtRow).sum := rfl
  omega
theorem rows_le (h : GHead) : h.rows.length ≤ wtHead h := Nat.le_add_right _ _
def early (x : Int) (s : GSample) : Bool := decide (s.at_ < x)
theorem del_eq (l : List GSample) (x : Int) : l.filter (fun el => !(early x) el) = l.filter (late x) := by
  congr 1; funext s; unfold late early; rw [← decide_not]; exact decide_eq_decide.2 (by omega)
theorem v_Trim1 (s : GSample) (x : Int) : Fn Tryz.prog 52 [.agg [.int .i64 s.at_, .int .i64 s.value], .one (.ref 1 (fun _ => .int .i64 x))] (.one (.bool (decide (s.at_ < x)))) := by
 refine Fn.of_body (fn := Tryz.f52) Tryz.func52 rfl (nB rfl) trivial ?_
 intro w0
 show AW _ 8 _ _ _ _
 refine AW.seq ?_
 refine AW.region ?_
 refine ARun.box (id := 0) rfl (.tmp rfl) (SV.cells_of (by exact ⟨trivial, trivial, trivial⟩)) ⟨rfl, (by repeat first | exact trivial | refine ⟨by decide, by first | rfl | exact trivial | (intro i j; first | rfl | exact getD_no rfl | (dsimp only; split <;> first | rfl | exact getD_no rfl) | exact scl_no (by apply_assumption) _), ?_⟩)⟩ rfl rfl rfl (nB rfl) ?_
 refine pu (.assign rfl .bool) rfl rfl rfl ?_
 refine ARun.nil ?_
 refine AW.seq ?_
 refine AW.region ?_
 refine pu (.fieldPtr rfl (.tmp rfl) f48_) rfl rfl rfl ?_
 refine pu (.loadPtr rfl (.tmp rfl) f9_ rfl rfl (nB rfl) (nB rfl)) rfl rfl rfl ?_
 refine pu (.loadRef rfl (.tmp rfl) f9_ (nB rfl)) rfl rfl rfl ?_
 refine pu (.intOp rfl (.tmp rfl) (.tmp rfl) rfl) rfl rfl rfl ?_
 refine pu (.assign rfl (.tmp rfl)) rfl rfl rfl ?_
 refine ARun.nil ?_
 refine AW.ret (show ResL _ _ [.tmp 3] _ from resB rfl ?_)
 rfl
theorem v_sTrim (h : GHead) (x : Int) (hw : wtHead h ≤ 1048576) (hx : I64 x) : FnT Tryz.prog 19 [.agg [.lst 2 h.rows.length (fun i0 j0 => ([.str ((h.rows.getD i0 (default : GRow)).name), .lst 2 (((h.rows.getD i0 (default : GRow)).samples).length) (fun i1 j1 => ([.int .i64 ((((h.rows.getD i0 (default : GRow)).samples).getD i1 (default : GSample)).at_), .int .i64 ((((h.rows.getD i0 (default : GRow)).samples).getD i1 (default : GSample)).value)] : List AV).getD j1 (.con undef))] : List AV).getD j0 (.con undef)), .int .i64 h.offset], .one (.int .i64 x)] (.tup3 (.agg [.lst 2 ((((trimV h x).1).rows).length) (fun i0 j0 => ([.str (((((trimV h x).1).rows).getD i0 (default : GRow)).name), .lst 2 ((((((trimV h x).1).rows).getD i0 (default : GRow)).samples).length) (fun i1 j1 => ([.int .i64 (((((((trimV h x).1).rows).getD i0 (default : GRow)).samples).getD i1 (default : GSample)).at_), .int .i64 (((((((trimV h x).1).rows).getD i0 (default : GRow)).samples).getD i1 (default : GSample)).value)] : List AV).getD j1 (.con undef))] : List AV).getD j0 (.con undef)), .int .i64 (((trimV h x).1).offset)]) (.one (.int .i64 (((trimV h x).2.1 : Nat) : Int))) (.one (.bool ((trimV h x).2.2)))) := by
 obtain ⟨hx0, hx1⟩ := hx
 have hr0 := rows_le h
 refine FnT.of_body (fn := Tryz.f19) Tryz.func19 rfl (nB rfl)  ?_
 intro w0
 show AW _ 61 _ _ _ _
 refine AW.seq ?_
 refine AW.region ?_
 refine ARun.box (id := 0) rfl (.tmp rfl) (SV.cells_of (by exact ⟨trivial, trivial, trivial⟩)) ⟨rfl, (by repeat first | exact trivial | refine ⟨by decide, by first | rfl | exact trivial | (intro i j; first | rfl | exact getD_no rfl | (dsimp only; split <;> first | rfl | exact getD_no rfl) | exact scl_no (by apply_assumption) _), ?_⟩)⟩ rfl rfl rfl (nB rfl) ?_
 refine ARun.alloc (id := 1) (l := [.con (.slice none 0 0), .int .i64 0]) (z := (.agg #[.slice none 0 0, .int .i64 0])) rfl (by kernel_rfl) (fun _ _ _ => ⟨_, _, rfl, rfl, ⟨_, _, rfl, rfl, rfl⟩⟩) ⟨rfl, (by repeat first | exact trivial | refine ⟨by decide, by first | rfl | exact trivial | (intro i j; first | rfl | exact getD_no rfl | (dsimp only; split <;> first | rfl | exact getD_no rfl) | exact scl_no (by apply_assumption) _), ?_⟩)⟩ rfl rfl rfl (nB rfl) ?_
 refine pu (.assign rfl .int) rfl rfl rfl ?_
 refine pu (.assign rfl .bool) rfl rfl rfl ?_
 refine ARun.nil ?_
 refine AW.seq ?_
 refine AW.seq ?_
 refine AW.region ?_
 refine pu (.loadPtrAgg rfl (.tmp rfl) f26_ rfl rfl (nB rfl) (nB rfl)) rfl rfl rfl ?_
 refine pu (.call rfl (v_specGoodHead h) ⟨⟨_, (.tmp rfl), ⟨.lst, .int, trivial⟩⟩, trivial⟩ f55_ trivial) rfl rfl rfl ?_
 refine pu (.not rfl (.tmp rfl)) rfl rfl rfl ?_
 refine ARun.nil ?_
 refine AW.cond (.tmp rfl) (fun hb1 => ?_) (fun hb1 => ?_)
 ·
  have hc0 : goodHead h = false := by revert hb1; generalize goodHead h = a1; revert a1; decide
  refine AW.seq ?_
  refine AW.region ?_
  refine pu (.build (ys := []) (l := [.con (.slice none 0 0), .int .i64 0]) (pl := [(0, 1), (1, 1)]) (z := (.agg #[.slice none 0 0, .int .i64 0])) rfl (by kernel_rfl) (by kernel_rfl) (fun _ _ _ => ⟨_, _, rfl, rfl, ⟨_, _, rfl, rfl, rfl⟩⟩) trivial rfl) rfl rfl rfl ?_
  refine ARun.store rfl (.tmp rfl) (.tmp rfl) (SV.cells_of (by exact ⟨⟨rfl, (fun _ e => by cases e), (fun _ e => by cases e)⟩, trivial, trivial⟩)) rfl (nB rfl) f37_ rfl rfl ?_
  refine pu (.assign rfl .int) rfl rfl rfl ?_
  refine pu (.assign rfl .bool) rfl rfl rfl ?_
  refine ARun.nil ?_
  rw [show trimV h x = (⟨[], 0⟩, 0, false) from if_neg (by rw [hc0]; decide)]
  exact AW.ret (show ∃ s t, ResL _ _ [.cell 4 25, .tmp 5, .tmp 6] s ∧ TvS _ (ofLeaf t) 0 s _ from ⟨_, fun a b => 1000, .inr (.inr (.inl ⟨_, _, _, _, _, _, rfl, .cells rfl f26_ rfl rfl (nB rfl) (nB rfl), .tmp rfl, .tmp rfl, rfl⟩)), ⟨⟨.nil, .int, trivial⟩, .int, .bool⟩⟩)
 ·
  have hc0 : goodHead h = true := by revert hb1; generalize goodHead h = a1; revert a1; decide
  refine AW.skip ?_
  refine AW.seq ?_
  refine AW.region ?_
  refine pu (.fieldPtr rfl (.tmp rfl) f30_) rfl rfl rfl ?_
  refine pu (.loadPtr rfl (.tmp rfl) f9_ rfl rfl (nB rfl) (nB rfl)) rfl rfl rfl ?_
  refine pu (.build (ys := [.int .i64 h.offset]) (l := [.con (.slice none 0 0), .int .i64 0]) (pl := [(0, 1), (1, 1)]) (z := (.agg #[.slice none 0 0, .int .i64 0])) rfl (by kernel_rfl) (by kernel_rfl) (fun _ _ _ => ⟨_, _, rfl, rfl, ⟨_, _, rfl, rfl, rfl⟩⟩) ⟨(.tmp rfl), trivial, rfl, trivial⟩ rfl) rfl rfl rfl ?_
  refine ARun.alloc (id := 2) (l := [.con (.slice none 0 0), .int .i64 0]) (z := (.agg #[.slice none 0 0, .int .i64 0])) rfl (by kernel_rfl) (fun _ _ _ => ⟨_, _, rfl, rfl, ⟨_, _, rfl, rfl, rfl⟩⟩) ⟨rfl, (by repeat first | exact trivial | refine ⟨by decide, by first | rfl | exact trivial | (intro i j; first | rfl | exact getD_no rfl | (dsimp only; split <;> first | rfl | exact getD_no rfl) | exact scl_no (by apply_assumption) _), ?_⟩)⟩ rfl rfl rfl (nB rfl) ?_
  refine ARun.store rfl (.tmp rfl) (.tmp rfl) (SV.cells_of (by exact ⟨⟨rfl, (fun _ e => by cases e), (fun _ e => by cases e)⟩, trivial, trivial⟩)) rfl (nB rfl) f37_ rfl rfl ?_
  refine ARun.nil ?_
  refine AW.seq ?_
  refine AW.region ?_
  refine pu (.assign rfl .int) rfl rfl rfl ?_
  refine ARun.nil ?_
  refine AW.seq ?_
  refine AW.seq ?_
  refine AW.region ?_
  refine pu (.fieldPtr rfl (.tmp rfl) f29_) rfl rfl rfl ?_
  refine pu (.loadPtr rfl (.tmp rfl) f33_ rfl rfl (nB rfl) (nB rfl)) rfl rfl rfl ?_
  refine pu (.lenLst rfl (.tmp rfl) f35_) rfl rfl rfl ?_
  refine pu (.move rfl .int) rfl rfl rfl ?_
  refine ARun.nil ?_
  refine AW.block ?_
  refine AW.fam (id := 4) (rowX h x) ⟨rfl, (by repeat first | exact trivial | refine ⟨by decide, by first | rfl | exact trivial | (intro i j; first | rfl | exact getD_no rfl | (dsimp only; split <;> first | rfl | exact getD_no rfl) | exact scl_no (by apply_assumption) _), ?_⟩)⟩ ?_
  refine AW.nilCell 2 0 3 2 _ (rowC h x 4) rfl rfl ⟨rfl, (by repeat first | exact trivial | refine ⟨by decide, by first | rfl | exact trivial | (intro i j; first | rfl | exact getD_no rfl | (dsimp only; split <;> first | rfl | exact getD_no rfl) | exact scl_no (by apply_assumption) _), ?_⟩)⟩ ?_
  -- objects are renamed
  refine AW.loopR (ι := Nat) (fun k => ⟨[(1, .one (.int .i64 x)), (4, .one (.ptr 1 2 0 0)), (7, .one (.ptr 2 2 0 0)), (8, .one (.int .i64 ((trimC h x k : Nat) : Int))), (22, .one (.lst 2 h.rows.length (fun i0 j0 => ([.str ((h.rows.getD i0 (default : GRow)).name), .lst 2 (((h.rows.getD i0 (default : GRow)).samples).length) (fun i1 j1 => ([.int .i64 ((((h.rows.getD i0 (default : GRow)).samples).getD i1 (default : GSample)).at_), .int .i64 ((((h.rows.getD i0 (default : GRow)).samples).getD i1 (default : GSample)).value)] : List AV).getD j1 (.con undef))] : List AV).getD j0 (.con undef)))), (23, .one (.int .i64 (h.rows.length : Int))), (24, .one (.int .i64 (k : Int)))], [(1, .cells [.con (.slice none 0 0), .int .i64 0]), (2, .cells [.own 3 2 (cntP (trimP x) h.rows k), .int .i64 h.offset]), (3, .arr 2 (cntP (trimP x) h.rows k) (rowC h x 4)), (4, .trees (cntP (trimP x) h.rows k) (rowX h x))]⟩) (fun k => k ≤ h.rows.length) (fun k => h.rows.length - k) 0 (Nat.zero_le _) ⟨⟨⟨_, rfl, rfl⟩, ⟨_, rfl, rfl⟩, ⟨_, rfl, rfl⟩, ⟨_, rfl, rfl⟩, ⟨_, rfl, rfl⟩, ⟨_, rfl, rfl⟩, ⟨_, rfl, rfl⟩, trivial⟩, ⟨⟨_, rfl, rfl, Nat.le_refl _, fun _ _ _ _ => rfl⟩, ⟨_, rfl, rfl, Nat.le_refl _, fun _ _ _ _ => rfl⟩, ⟨_, rfl, rfl, Nat.le_refl _, fun _ _ _ _ => rfl⟩, ⟨_, rfl, fun _ _ => rfl⟩, trivial⟩⟩ ?_
  intro k hk
  have hcl := cntP_le (trimP x) h.rows k
  have htc := trimC_le h x k
  refine AW.seq ?_
  refine AW.region ?_
  refine pu (.intOp rfl (.tmp rfl) (.tmp rfl) rfl) rfl rfl rfl ?_
  refine ARun.nil ?_
  refine AW.seq ?_
  refine AW.cond (.tmp rfl) (fun hb2 => ?_) (fun hb2 => ?_)
  ·
   replace hb2 := of_decide_eq_true hb2
   have hkl : k < h.rows.length := by omega
   have hsl := smp_le hkl
   have hsp := trimS_le x (h.rows.getD k (default : GRow))
   have hcs := trimC_succ (x := x) hkl
   refine AW.skip ?_
   refine AW.seq ?_
   refine AW.block ?_
   refine AW.seq ?_
   refine AW.region ?_
   refine pu (.indexLst (i := k) rfl (.tmp rfl) f28_ (.tmp rfl) rfl (by omega)) rfl rfl rfl ?_
   refine pu (.loadRefAgg rfl (.tmp rfl) f27_ (nB rfl)) rfl rfl rfl ?_
   refine ARun.alloc (id := 5) (l := [.str ByteArray.empty, .con (.slice none 0 0)]) (z := (.agg #[.string ByteArray.empty, .slice none 0 0])) rfl (by kernel_rfl) (fun _ _ _ => ⟨_, _, rfl, ⟨rfl, by decide⟩, ⟨_, _, rfl, rfl, rfl⟩⟩) ⟨rfl, (by repeat first | exact trivial | refine ⟨by decide, by first | rfl | exact trivial | (intro i j; first | rfl | exact getD_no rfl | (dsimp only; split <;> first | rfl | exact getD_no rfl) | exact scl_no (by apply_assumption) _), ?_⟩)⟩ rfl rfl rfl (nB rfl) ?_
   refine ARun.store rfl (.tmp rfl) (.tmp rfl) (SV.cells_of (by exact ⟨trivial, trivial, trivial⟩)) rfl (nB rfl) f38_ rfl rfl ?_
   refine ARun.nil ?_
   refine AW.seq ?_
   refine AW.region ?_
   refine pu (.assign rfl .con) rfl rfl rfl ?_
   refine ARun.nil ?_
   refine AW.seq ?_
   refine AW.seq ?_
   refine AW.region ?_
   refine pu (.fieldPtr rfl (.tmp rfl) f32_) rfl rfl rfl ?_
   refine pu (.loadPtr rfl (.tmp rfl) f34_ rfl rfl (nB rfl) (nB rfl)) rfl rfl rfl ?_
   refine pu (.lenLst rfl (.tmp rfl) f24_) rfl rfl rfl ?_
   refine pu (.move rfl .int) rfl rfl rfl ?_
   refine ARun.nil ?_
   refine AW.block ?_
   refine AW.nilSlot 11 6 2 (fun a b => ceSample ((trimS x (h.rows.getD k (default : GRow))).getD a (default : GSample)) b) rfl ⟨rfl, (by repeat first | exact trivial | refine ⟨by decide, by first | rfl | exact trivial | (intro i j; first | rfl | exact getD_no rfl | (dsimp only; split <;> first | rfl | exact getD_no rfl) | exact scl_no (by apply_assumption) _), ?_⟩)⟩ ?_
   -- objects are renamed
   refine AW.loopR (ι := Nat) (fun j => ⟨[(1, .one (.int .i64 x)), (4, .one (.ptr 1 2 0 0)), (7, .one (.ptr 2 2 0 0)), (8, .one (.int .i64 ((trimC h x k + (j - cntP (late x) (h.rows.getD k (default : GRow)).samples j) : Nat) : Int))), (10, .one (.ptr 5 2 0 0)), (11, .one (.own 6 2 (cntP (late x) (h.rows.getD k (default : GRow)).samples j))), (22, .one (.lst 2 h.rows.length (fun i0 j0 => ([.str ((h.rows.getD i0 (default : GRow)).name), .lst 2 (((h.rows.getD i0 (default : GRow)).samples).length) (fun i1 j1 => ([.int .i64 ((((h.rows.getD i0 (default : GRow)).samples).getD i1 (default : GSample)).at_), .int .i64 ((((h.rows.getD i0 (default : GRow)).samples).getD i1 (default : GSample)).value)] : List AV).getD j1 (.con undef))] : List AV).getD j0 (.con undef)))), (23, .one (.int .i64 (h.rows.length : Int))), (24, .one (.int .i64 (k : Int))), (29, .one (.lst 2 (((h.rows.getD k (default : GRow)).samples).length) (fun i0 j0 => ([.int .i64 ((((h.rows.getD k (default : GRow)).samples).getD i0 (default : GSample)).at_), .int .i64 ((((h.rows.getD k (default : GRow)).samples).getD i0 (default : GSample)).value)] : List AV).getD j0 (.con undef)))), (30, .one (.int .i64 ((((h.rows.getD k (default : GRow)).samples).length : Nat) : Int))), (31, .one (.int .i64 (j : Int)))], [(1, .cells [.con (.slice none 0 0), .int .i64 0]), (2, .cells [.own 3 2 (cntP (trimP x) h.rows k), .int .i64 h.offset]), (3, .arr 2 (cntP (trimP x) h.rows k) (rowC h x 4)), (4, .trees (cntP (trimP x) h.rows k) (rowX h x)), (5, .cells [.str ((h.rows.getD k (default : GRow)).name), .lst 2 (((h.rows.getD k (default : GRow)).samples).length) (fun i0 j0 => ([.int .i64 ((((h.rows.getD k (default : GRow)).samples).getD i0 (default : GSample)).at_), .int .i64 ((((h.rows.getD k (default : GRow)).samples).getD i0 (default : GSample)).value)] : List AV).getD j0 (.con undef))]), (6, .arr 2 (cntP (late x) (h.rows.getD k (default : GRow)).samples j) (fun a b => ceSample ((trimS x (h.rows.getD k (default : GRow))).getD a (default : GSample)) b))]⟩) (fun j => j ≤ (h.rows.getD k (default : GRow)).samples.length) (fun j => (h.rows.getD k (default : GRow)).samples.length - j) 0 (Nat.zero_le _) ⟨⟨⟨_, rfl, rfl⟩, ⟨_, rfl, rfl⟩, ⟨_, rfl, rfl⟩, ⟨_, rfl, rfl⟩, ⟨_, rfl, rfl⟩, ⟨_, rfl, rfl⟩, ⟨_, rfl, rfl⟩, ⟨_, rfl, rfl⟩, ⟨_, rfl, rfl⟩, ⟨_, rfl, rfl⟩, ⟨_, rfl, rfl⟩, ⟨_, rfl, rfl⟩, trivial⟩, ⟨⟨_, rfl, rfl, Nat.le_refl _, fun _ _ _ _ => rfl⟩, ⟨_, rfl, rfl, Nat.le_refl _, fun _ _ _ _ => rfl⟩, ⟨_, rfl, rfl, Nat.le_refl _, fun _ _ _ _ => rfl⟩, ⟨_, rfl, fun _ _ => rfl⟩, ⟨_, rfl, rfl, Nat.le_refl _, fun _ _ _ _ => rfl⟩, ⟨_, rfl, rfl, Nat.le_refl _, fun _ _ _ _ => rfl⟩, trivial⟩⟩ ?_
   intro j hj
   have hcj := cntP_le (late x) (h.rows.getD k (default : GRow)).samples j
   have hcj2 := cntP_leK (late x) (h.rows.getD k (default : GRow)).samples j
   refine AW.seq ?_
   refine AW.region ?_
   refine pu (.intOp rfl (.tmp rfl) (.tmp rfl) rfl) rfl rfl rfl ?_
   refine ARun.nil ?_
   refine AW.seq ?_
   refine AW.cond (.tmp rfl) (fun hb3 => ?_) (fun hb3 => ?_)
   ·
    replace hb3 := of_decide_eq_true hb3
    have hjl : j < (h.rows.getD k (default : GRow)).samples.length := by omega
    refine AW.skip ?_
    refine AW.seq ?_
    refine AW.block ?_
    refine AW.seq ?_
    refine AW.region ?_
    refine pu (.indexLst (i := j) rfl (.tmp rfl) f23_ (.tmp rfl) rfl (by omega)) rfl rfl rfl ?_
    refine pu (.loadRefAgg rfl (.tmp rfl) f21_ (nB rfl)) rfl rfl rfl ?_
    refine ARun.alloc (id := 7) (l := [.int .i64 0, .int .i64 0]) (z := (.agg #[.int .i64 0, .int .i64 0])) rfl (by kernel_rfl) (fun _ _ _ => ⟨_, _, rfl, rfl, ⟨_, _, rfl, rfl, rfl⟩⟩) ⟨rfl, (by repeat first | exact trivial | refine ⟨by decide, by first | rfl | exact trivial | (intro i j; first | rfl | exact getD_no rfl | (dsimp only; split <;> first | rfl | exact getD_no rfl) | exact scl_no (by apply_assumption) _), ?_⟩)⟩ rfl rfl rfl (nB rfl) ?_
    refine ARun.store rfl (.tmp rfl) (.tmp rfl) (SV.cells_of (by exact ⟨trivial, trivial, trivial⟩)) rfl (nB rfl) f25_ rfl rfl ?_
    refine ARun.nil ?_
    refine AW.seq ?_
    refine AW.region ?_
    refine pu (.fieldPtr rfl (.tmp rfl) f48_) rfl rfl rfl ?_
    refine pu (.loadPtr rfl (.tmp rfl) f9_ rfl rfl (nB rfl) (nB rfl)) rfl rfl rfl ?_
    refine pu (.move rfl (.tmp rfl)) rfl rfl rfl ?_
    refine pu (.intOp rfl (.tmp rfl) (.tmp rfl) rfl) rfl rfl rfl ?_
    refine ARun.nil ?_
    refine AW.cond (.tmp rfl) (fun hb4 => ?_) (fun hb4 => ?_)
    ·
     have hp : late x ((h.rows.getD k (default : GRow)).samples.getD j (default : GSample)) = true := hb4
     obtain ⟨hci, hati0⟩ := cntP_yes (default : GSample) hjl hp
     have hati : (trimS x (h.rows.getD k (default : GRow))).getD (cntP (late x) (h.rows.getD k (default : GRow)).samples j) (default : GSample) = _ := hati0
     refine AW.region ?_
     refine pu (.move rfl (.tmp rfl)) rfl rfl rfl ?_
     refine pu (.loadPtrAgg rfl (.tmp rfl) f21_ rfl rfl (nB rfl) (nB rfl)) rfl rfl rfl ?_
     refine ARun.slice1 (id := 8) (z := (.agg #[.int .i64 0, .int .i64 0])) (by_ := 16) rfl (.tmp rfl) (SV.cells_of (by exact ⟨trivial, trivial, trivial⟩)) (by kernel_rfl) rfl rfl (by decide) (by decide) ⟨rfl, (by repeat first | exact trivial | refine ⟨by decide, by first | rfl | exact trivial | (intro i j; first | rfl | exact getD_no rfl | (dsimp only; split <;> first | rfl | exact getD_no rfl) | exact scl_no (by apply_assumption) _), ?_⟩)⟩ rfl rfl rfl (nB rfl) ?_
     refine ARun.append (id := 9) (sz := 2) (n := (cntP (late x) (h.rows.getD k (default : GRow)).samples j)) (m := 1) (by_ := 16) (z := (.agg #[.int .i64 0, .int .i64 0])) (f := fun a b => ceSample ((trimS x (h.rows.getD k (default : GRow))).getD a (default : GSample)) b) (g := fun _ jc => ([.int .i64 ((((h.rows.getD k (default : GRow)).samples).getD j (default : GSample)).at_), .int .i64 ((((h.rows.getD k (default : GRow)).samples).getD j (default : GSample)).value)] : List AV).getD jc (.con undef)) (h := fun ia ja => if ia < (cntP (late x) (h.rows.getD k (default : GRow)).samples j) then (fun a b => ceSample ((trimS x (h.rows.getD k (default : GRow))).getD a (default : GSample)) b : Nat → Nat → AV) ia ja else (fun _ jc => ([.int .i64 ((((h.rows.getD k (default : GRow)).samples).getD j (default : GSample)).at_), .int .i64 ((((h.rows.getD k (default : GRow)).samples).getD j (default : GSample)).value)] : List AV).getD jc (.con undef) : Nat → Nat → AV) (ia - (cntP (late x) (h.rows.getD k (default : GRow)).samples j)) ja) rfl (by kernel_rfl) rfl f24_ (.own (.tmp rfl) rfl rfl rfl (Nat.le_refl _) (fun _ _ _ _ => rfl)) (.own (.tmp rfl) rfl rfl (Nat.le_refl _) (fun _ _ _ _ => rfl)) (by decide) (fun i j hi hj => match j, hj with | 0, _ => rfl | 1, _ => rfl | _ + 2, h => absurd h (by omega)) (fun _ _ _ _ => rfl) (by omega) (by omega) ⟨rfl, (by repeat first | exact trivial | refine ⟨by decide, by first | rfl | exact trivial | (intro i j; first | rfl | exact getD_no rfl | (dsimp only; split <;> first | rfl | exact getD_no rfl) | exact scl_no (by apply_assumption) _), ?_⟩)⟩ (fun i j => by dsimp only; (repeat' split) <;> first | rfl | exact getD_no rfl) rfl rfl (nB rfl) ?_
     refine pu (.assign rfl (.tmp rfl)) rfl rfl rfl ?_
     refine ARun.nil ?_
     refine AW.region ?_
     refine pu (.add (c := ((j + 1 : Nat) : Int)) rfl (.tmp rfl) .int (by rw [wrap_id (by omega) (by omega)]; omega)) rfl rfl rfl ?_
     refine pu (.move rfl (.tmp rfl)) rfl rfl rfl ?_
     refine ARun.nil ?_
     exact ⟨j + 1, (swp 6 9), by omega, by dsimp only; omega, swp_inj, (swp_fix rfl rfl), ⟨⟨⟨_, rfl, rfl⟩, ⟨_, rfl, rfl⟩, ⟨_, rfl, rfl⟩, ⟨_, rfl, congrArg (fun z : Nat => SV.one (.int .i64 (z : Int))) (by omega)⟩, ⟨_, rfl, rfl⟩, ⟨_, rfl, congrArg (fun n => SV.one (.own 9 2 n)) hci.symm⟩, ⟨_, rfl, rfl⟩, ⟨_, rfl, rfl⟩, ⟨_, rfl, rfl⟩, ⟨_, rfl, rfl⟩, ⟨_, rfl, rfl⟩, ⟨_, rfl, rfl⟩, trivial⟩, ⟨⟨_, rfl, rfl, Nat.le_refl _, fun _ _ _ _ => rfl⟩, ⟨_, rfl, rfl, Nat.le_refl _, fun _ _ _ _ => rfl⟩, ⟨_, rfl, rfl, Nat.le_refl _, fun i b _ (hj : b < 2) => match b, hj with | 0, _ => rfl | 1, _ => rfl | _ + 2, h => absurd h (by omega)⟩, ⟨_, rfl, fun _ _ => rfl⟩, ⟨_, rfl, rfl, Nat.le_refl _, fun _ _ _ _ => rfl⟩, ⟨_, rfl, rfl, Nat.le_of_eq hci, fun i b hi (hj : b < 2) => match b, hj with | 0, _ => app_at (show i < cntP (late x) (h.rows.getD k (default : GRow)).samples j + 1 from hci ▸ hi) (fun _ => rfl) (fun h => by subst h; exact congrArg (fun e : GSample => ceSample e 0) hati.symm) | 1, _ => app_at (show i < cntP (late x) (h.rows.getD k (default : GRow)).samples j + 1 from hci ▸ hi) (fun _ => rfl) (fun h => by subst h; exact congrArg (fun e : GSample => ceSample e 1) hati.symm) | _ + 2, h => absurd h (by omega)⟩, trivial⟩⟩⟩
    ·
     have hp : late x ((h.rows.getD k (default : GRow)).samples.getD j (default : GSample)) = false := hb4
     have hci := cntP_no (default : GSample) hjl hp
     refine AW.region ?_
     refine pu (.move rfl (.tmp rfl)) rfl rfl rfl ?_
     refine pu (.add (c := ((trimC h x k + (j - cntP (late x) (h.rows.getD k (default : GRow)).samples j) + 1 : Nat) : Int)) rfl (.tmp rfl) .int (by rw [wrap_id (by omega) (by omega)]; omega)) rfl rfl rfl ?_
     refine pu (.assign rfl (.tmp rfl)) rfl rfl rfl ?_
     refine ARun.nil ?_
     refine AW.region ?_
     refine pu (.add (c := ((j + 1 : Nat) : Int)) rfl (.tmp rfl) .int (by rw [wrap_id (by omega) (by omega)]; omega)) rfl rfl rfl ?_
     refine pu (.move rfl (.tmp rfl)) rfl rfl rfl ?_
     refine ARun.nil ?_
     exact ⟨j + 1, id, by omega, by dsimp only; omega, id_inj, (fun _ _ => rfl), ⟨⟨⟨_, rfl, rfl⟩, ⟨_, rfl, rfl⟩, ⟨_, rfl, rfl⟩, ⟨_, rfl, congrArg (fun z : Nat => SV.one (.int .i64 (z : Int))) (by omega)⟩, ⟨_, rfl, rfl⟩, ⟨_, rfl, congrArg (fun n => SV.one (.own 6 2 n)) hci.symm⟩, ⟨_, rfl, rfl⟩, ⟨_, rfl, rfl⟩, ⟨_, rfl, rfl⟩, ⟨_, rfl, rfl⟩, ⟨_, rfl, rfl⟩, ⟨_, rfl, rfl⟩, trivial⟩, ⟨⟨_, rfl, rfl, Nat.le_refl _, fun _ _ _ _ => rfl⟩, ⟨_, rfl, rfl, Nat.le_refl _, fun _ _ _ _ => rfl⟩, ⟨_, rfl, rfl, Nat.le_refl _, fun i b _ (hj : b < 2) => match b, hj with | 0, _ => rfl | 1, _ => rfl | _ + 2, h => absurd h (by omega)⟩, ⟨_, rfl, fun _ _ => rfl⟩, ⟨_, rfl, rfl, Nat.le_refl _, fun _ _ _ _ => rfl⟩, ⟨_, rfl, rfl, Nat.le_of_eq hci, fun i j _ (hj : j < 2) => match j, hj with | 0, _ => rfl | 1, _ => rfl | _ + 2, h => absurd h (by omega)⟩, trivial⟩⟩⟩
   ·
    replace hb3 := of_decide_eq_false hb3
    have hjl : ¬ j < (h.rows.getD k (default : GRow)).samples.length := by omega
    refine AW.exit ?_
    refine AW.seq ?_
    refine AW.region ?_
    refine pu (.move rfl (.tmp rfl)) rfl rfl rfl ?_
    refine pu (.lenOwn rfl (.tmp rfl) f24_) rfl rfl rfl ?_
    refine pu (.intOp rfl (.tmp rfl) .int rfl) rfl rfl rfl ?_
    refine ARun.nil ?_
    refine AW.cond (.tmp rfl) (fun hb5 => ?_) (fun hb5 => ?_)
    ·
     have hje : cntP (late x) (h.rows.getD k (default : GRow)).samples j = (trimS x (h.rows.getD k (default : GRow))).length := cntP_end hjl
     replace hb5 := of_decide_eq_true hb5
     have hp : trimP x (h.rows.getD k (default : GRow)) = true := by unfold trimP; exact decide_eq_true (by omega)
     have hc := (cntP_yes (default : GRow) hkl hp).1
     have hat := trim_at hkl hp
     have hcc : trimC h x k + (j - cntP (late x) (h.rows.getD k (default : GRow)).samples j) = trimC h x (k + 1) := by omega
     refine AW.region ?_
     refine ARun.closeRow 11 6 4 (cntP (trimP x) h.rows k) 2 (cntP (late x) (h.rows.getD k (default : GRow)).samples j) (m' := ((trimL h x).getD (cntP (trimP x) h.rows k) (default : GRow)).samples.length) (X := rowX h x) (g := fun a b => ceSample (((trimL h x).getD (cntP (trimP x) h.rows k) (default : GRow)).samples.getD a (default : GSample)) b) rfl rfl rfl rfl (Nat.le_refl _) rfl rfl rfl (by rw [hat]; exact hje.symm) (fun i b hi (hj : b < 2) => by
   show _ = ceSample (((trimL h x).getD (cntP (trimP x) h.rows k) (default : GRow)).samples.getD i (default : GSample)) b
   rw [hat]; show _ = ceSample ((trimS x (h.rows.getD k (default : GRow))).getD i (default : GSample)) b; exact (match b, hj with | 0, _ => rfl | 1, _ => rfl | _ + 2, h => absurd h (by omega))) (fun i b hi hj => match b, hj with | 0, _ => rfl | 1, _ => rfl | _ + 2, h => absurd h (by omega)) ?_
     refine pu (.fieldPtr rfl (.tmp rfl) f29_) rfl rfl rfl ?_
     refine pu (.loadPtr rfl (.tmp rfl) f33_ rfl rfl (nB rfl) (nB rfl)) rfl rfl rfl ?_
     refine pu (.fieldPtr rfl (.tmp rfl) f31_) rfl rfl rfl ?_
     refine pu (.loadPtr rfl (.tmp rfl) f12_ rfl rfl (nB rfl) (nB rfl)) rfl rfl rfl ?_
     refine pu (.move rfl (.tmp rfl)) rfl rfl rfl ?_
     refine pu (.build (ys := [.str ((h.rows.getD k (default : GRow)).name), .tre 4 (cntP (trimP x) h.rows k)]) (l := [.str ByteArray.empty, .con (.slice none 0 0)]) (pl := [(0, 1), (1, 1)]) (z := (.agg #[.string ByteArray.empty, .slice none 0 0])) rfl (by kernel_rfl) (by kernel_rfl) (fun _ _ _ => ⟨_, _, rfl, ⟨rfl, by decide⟩, ⟨_, _, rfl, rfl, rfl⟩⟩) ⟨(.tmp rfl), trivial, rfl, ⟨(.tmp rfl), trivial, rfl, trivial⟩⟩ rfl) rfl rfl rfl ?_
     refine ARun.slice1 (id := 10) (z := (.agg #[.string ByteArray.empty, .slice none 0 0])) (by_ := 40) rfl (.tmp rfl) (SV.cells_of (by exact ⟨trivial, trivial, trivial⟩)) (by kernel_rfl) rfl rfl (by decide) (by decide) ⟨rfl, (by repeat first | exact trivial | refine ⟨by decide, by first | rfl | exact trivial | (intro i j; first | rfl | exact getD_no rfl | (dsimp only; split <;> first | rfl | exact getD_no rfl) | exact scl_no (by apply_assumption) _), ?_⟩)⟩ rfl rfl rfl (nB rfl) ?_
     refine ARun.append (id := 11) (sz := 2) (n := (cntP (trimP x) h.rows k)) (m := 1) (by_ := 40) (z := (.agg #[.string ByteArray.empty, .slice none 0 0])) (f := rowC h x 4) (g := fun _ jc => ([.str ((h.rows.getD k (default : GRow)).name), .tre 4 (cntP (trimP x) h.rows k)] : List AV).getD jc (.con undef)) (h := fun ia ja => if ia < (cntP (trimP x) h.rows k) then (rowC h x 4 : Nat → Nat → AV) ia ja else (fun _ jc => ([.str ((h.rows.getD k (default : GRow)).name), .tre 4 (cntP (trimP x) h.rows k)] : List AV).getD jc (.con undef) : Nat → Nat → AV) (ia - (cntP (trimP x) h.rows k)) ja) rfl (by kernel_rfl) rfl f35_ (.own (.tmp rfl) rfl rfl rfl (Nat.le_refl _) (fun _ _ _ _ => rfl)) (.own (.tmp rfl) rfl rfl (Nat.le_refl _) (fun _ _ _ _ => rfl)) (by decide) (fun i j hi hj => match j, hj with | 0, _ => rfl | 1, _ => rfl | _ + 2, h => absurd h (by omega)) (fun _ _ _ _ => rfl) (by omega) (by omega) ⟨rfl, (by repeat first | exact trivial | refine ⟨by decide, by first | rfl | exact trivial | (intro i j; first | rfl | exact getD_no rfl | (dsimp only; split <;> first | rfl | exact getD_no rfl) | exact scl_no (by apply_assumption) _), ?_⟩)⟩ (fun i j => by dsimp only; (repeat' split) <;> first | rfl | exact getD_no rfl) rfl rfl (nB rfl) ?_
     refine pu (.fieldPtr rfl (.tmp rfl) f29_) rfl rfl rfl ?_
     refine ARun.store rfl (.tmp rfl) (.tmp rfl) trivial rfl (nB rfl) f36_ rfl rfl ?_
     refine ARun.nil ?_
     refine AW.region ?_
     refine pu (.add (c := ((k + 1 : Nat) : Int)) rfl (.tmp rfl) .int (by rw [wrap_id (by omega) (by omega)]; omega)) rfl rfl rfl ?_
     refine pu (.move rfl (.tmp rfl)) rfl rfl rfl ?_
     refine ARun.nil ?_
     exact ⟨k + 1, (swp 3 11), by omega, by dsimp only; omega, swp_inj, (swp_fix rfl rfl), ⟨⟨⟨_, rfl, rfl⟩, ⟨_, rfl, rfl⟩, ⟨_, rfl, rfl⟩, ⟨_, rfl, congrArg (fun z : Nat => SV.one (.int .i64 (z : Int))) hcc⟩, ⟨_, rfl, rfl⟩, ⟨_, rfl, rfl⟩, ⟨_, rfl, rfl⟩, trivial⟩, ⟨⟨_, rfl, rfl, Nat.le_refl _, fun _ _ _ _ => rfl⟩, ⟨_, rfl, rfl, Nat.le_refl _, fun i j _ _ => by rw [hc]; rfl⟩, ⟨_, rfl, rfl, Nat.le_of_eq hc, fun i j hi (hj : j < 2) => match j, hj with | 0, _ => app_at (show i < cntP (trimP x) h.rows k + 1 from hc ▸ hi) (fun _ => rfl) (fun hik => by subst hik; exact (show AV.str (trimR x (h.rows.getD k (default : GRow))).name = _ from congrArg (fun e : GRow => AV.str e.name) hat.symm)) | 1, _ => app_at (show i < cntP (trimP x) h.rows k + 1 from hc ▸ hi) (fun _ => rfl) (fun h => by subst h; rfl) | _ + 2, h => absurd h (by omega)⟩, ⟨rowX h x, by rw [hc]; rfl, fun _ _ => rfl⟩, trivial⟩⟩⟩
    ·
     have hje : cntP (late x) (h.rows.getD k (default : GRow)).samples j = (trimS x (h.rows.getD k (default : GRow))).length := cntP_end hjl
     replace hb5 := of_decide_eq_false hb5
     have hp : trimP x (h.rows.getD k (default : GRow)) = false := by unfold trimP; exact decide_eq_false (by omega)
     have hc := cntP_no (default : GRow) hkl hp
     have hcc : trimC h x k + (j - cntP (late x) (h.rows.getD k (default : GRow)).samples j) = trimC h x (k + 1) := by omega
     refine AW.skip ?_
     refine AW.region ?_
     refine pu (.add (c := ((k + 1 : Nat) : Int)) rfl (.tmp rfl) .int (by rw [wrap_id (by omega) (by omega)]; omega)) rfl rfl rfl ?_
     refine pu (.move rfl (.tmp rfl)) rfl rfl rfl ?_
     refine ARun.nil ?_
     exact ⟨k + 1, id, by omega, by dsimp only; omega, id_inj, (fun _ _ => rfl), ⟨⟨⟨_, rfl, rfl⟩, ⟨_, rfl, rfl⟩, ⟨_, rfl, rfl⟩, ⟨_, rfl, congrArg (fun z : Nat => SV.one (.int .i64 (z : Int))) hcc⟩, ⟨_, rfl, rfl⟩, ⟨_, rfl, rfl⟩, ⟨_, rfl, rfl⟩, trivial⟩, ⟨⟨_, rfl, rfl, Nat.le_refl _, fun _ _ _ _ => rfl⟩, ⟨_, rfl, rfl, Nat.le_refl _, fun i j _ _ => by rw [hc]; rfl⟩, ⟨_, rfl, rfl, Nat.le_of_eq hc, fun i j _ (hj : j < 2) => match j, hj with | 0, _ => rfl | 1, _ => rfl | _ + 2, h => absurd h (by omega)⟩, ⟨rowX h x, by rw [hc]; rfl, fun _ _ => rfl⟩, trivial⟩⟩⟩
  ·
   replace hb2 := of_decide_eq_false hb2
   have hkl : ¬ k < h.rows.length := by omega
   refine AW.exit ?_
   refine AW.seq ?_
   refine AW.region ?_
   refine pu (.loadPtrAgg rfl (.tmp rfl) f26_ rfl rfl (nB rfl) (nB rfl)) rfl rfl rfl ?_
   refine pu (.move rfl (.tmp rfl)) rfl rfl rfl ?_
   refine ARun.store rfl (.tmp rfl) (.tmp rfl) (SV.cells_of (by exact ⟨trivial, trivial, trivial⟩)) rfl (nB rfl) f37_ rfl rfl ?_
   refine pu (.assign rfl (.tmp rfl)) rfl rfl rfl ?_
   refine pu (.assign rfl .bool) rfl rfl rfl ?_
   refine ARun.nil ?_
   rw [show trimV h x = (trimD h x, trimC h x h.rows.length, true) from if_pos hc0, show h.rows.length = k from by omega]
   exact AW.ret (show ∃ s t, ResL _ _ [.cell 4 25, .tmp 5, .tmp 6] s ∧ TvS _ (ofLeaf t) 0 s _ from ⟨_, fun a b => if a = 3 then 0 else if a = 4 then 0 else 1000, .inr (.inr (.inl ⟨_, _, _, _, _, _, rfl, .cells rfl f26_ rfl rfl (nB rfl) (nB rfl), .tmp rfl, .tmp rfl, rfl⟩)), ⟨⟨(Tv.colK (K := 4) (c := 1) (X := rowX h x) (trim_len hkl) rfl rfl rfl (Nat.le_refl _) (by rfl) (fun i j hi hj hne => match j, hj, hne with | 0, _, _ => ⟨rfl, rfl⟩ | 1, _, h => absurd rfl h | _ + 2, h, _ => absurd h (by omega)) (fun i hi => ⟨rfl, rfl⟩) rfl (by decide) (fun _ => by rfl)), .int, trivial⟩, .int, .bool⟩⟩)
theorem v_iTrim (h : GHead) (x : Int) (hw : wtHead h ≤ 1048576) (hx : I64 x) : FnT Tryz.prog 18 [.agg [.lst 2 h.rows.length (fun i0 j0 => ([.str ((h.rows.getD i0 (default : GRow)).name), .lst 2 (((h.rows.getD i0 (default : GRow)).samples).length) (fun i1 j1 => ([.int .i64 ((((h.rows.getD i0 (default : GRow)).samples).getD i1 (default : GSample)).at_), .int .i64 ((((h.rows.getD i0 (default : GRow)).samples).getD i1 (default : GSample)).value)] : List AV).getD j1 (.con undef))] : List AV).getD j0 (.con undef)), .int .i64 h.offset], .one (.int .i64 x)] (.tup3 (.agg [.lst 2 ((((trimV h x).1).rows).length) (fun i0 j0 => ([.str (((((trimV h x).1).rows).getD i0 (default : GRow)).name), .lst 2 ((((((trimV h x).1).rows).getD i0 (default : GRow)).samples).length) (fun i1 j1 => ([.int .i64 (((((((trimV h x).1).rows).getD i0 (default : GRow)).samples).getD i1 (default : GSample)).at_), .int .i64 (((((((trimV h x).1).rows).getD i0 (default : GRow)).samples).getD i1 (default : GSample)).value)] : List AV).getD j1 (.con undef))] : List AV).getD j0 (.con undef)), .int .i64 (((trimV h x).1).offset)]) (.one (.int .i64 (((trimV h x).2.1 : Nat) : Int))) (.one (.bool ((trimV h x).2.2)))) := by
 obtain ⟨hx0, hx1⟩ := hx
 have hr0 := rows_le h
 refine FnT.of_body (fn := Tryz.f18) Tryz.func18 rfl (nB rfl)  ?_
 intro w0
 show AW _ 54 _ _ _ _
 refine AW.seq ?_
 refine AW.region ?_
 refine ARun.box (id := 0) rfl (.tmp rfl) (SV.cells_of (by exact ⟨trivial, trivial, trivial⟩)) ⟨rfl, (by repeat first | exact trivial | refine ⟨by decide, by first | rfl | exact trivial | (intro i j; first | rfl | exact getD_no rfl | (dsimp only; split <;> first | rfl | exact getD_no rfl) | exact scl_no (by apply_assumption) _), ?_⟩)⟩ rfl rfl rfl (nB rfl) ?_
 refine ARun.box (id := 1) rfl (.tmp rfl) trivial ⟨rfl, (by repeat first | exact trivial | refine ⟨by decide, by first | rfl | exact trivial | (intro i j; first | rfl | exact getD_no rfl | (dsimp only; split <;> first | rfl | exact getD_no rfl) | exact scl_no (by apply_assumption) _), ?_⟩)⟩ rfl rfl rfl (nB rfl) ?_
 refine ARun.alloc (id := 2) (l := [.con (.slice none 0 0), .int .i64 0]) (z := (.agg #[.slice none 0 0, .int .i64 0])) rfl (by kernel_rfl) (fun _ _ _ => ⟨_, _, rfl, rfl, ⟨_, _, rfl, rfl, rfl⟩⟩) ⟨rfl, (by repeat first | exact trivial | refine ⟨by decide, by first | rfl | exact trivial | (intro i j; first | rfl | exact getD_no rfl | (dsimp only; split <;> first | rfl | exact getD_no rfl) | exact scl_no (by apply_assumption) _), ?_⟩)⟩ rfl rfl rfl (nB rfl) ?_
 refine pu (.assign rfl .int) rfl rfl rfl ?_
 refine pu (.assign rfl .bool) rfl rfl rfl ?_
 refine ARun.nil ?_
 refine AW.seq ?_
 refine AW.seq ?_
 refine AW.region ?_
 refine pu (.loadPtrAgg rfl (.tmp rfl) f26_ rfl rfl (nB rfl) (nB rfl)) rfl rfl rfl ?_
 refine pu (.call rfl (v_isHead h) ⟨⟨_, (.tmp rfl), ⟨.lst, .int, trivial⟩⟩, trivial⟩ f53_ trivial) rfl rfl rfl ?_
 refine pu (.not rfl (.tmp rfl)) rfl rfl rfl ?_
 refine ARun.nil ?_
 refine AW.cond (.tmp rfl) (fun hb1 => ?_) (fun hb1 => ?_)
 ·
  have hc0 : goodHead h = false := by revert hb1; generalize goodHead h = a1; revert a1; decide
  refine AW.seq ?_
  refine AW.region ?_
  refine pu (.build (ys := []) (l := [.con (.slice none 0 0), .int .i64 0]) (pl := [(0, 1), (1, 1)]) (z := (.agg #[.slice none 0 0, .int .i64 0])) rfl (by kernel_rfl) (by kernel_rfl) (fun _ _ _ => ⟨_, _, rfl, rfl, ⟨_, _, rfl, rfl, rfl⟩⟩) trivial rfl) rfl rfl rfl ?_
  refine ARun.store rfl (.tmp rfl) (.tmp rfl) (SV.cells_of (by exact ⟨⟨rfl, (fun _ e => by cases e), (fun _ e => by cases e)⟩, trivial, trivial⟩)) rfl (nB rfl) f37_ rfl rfl ?_
  refine pu (.assign rfl .int) rfl rfl rfl ?_
  refine pu (.assign rfl .bool) rfl rfl rfl ?_
  refine ARun.nil ?_
  rw [show trimV h x = (⟨[], 0⟩, 0, false) from if_neg (by rw [hc0]; decide)]
  exact AW.ret (show ∃ s t, ResL _ _ [.cell 4 25, .tmp 5, .tmp 6] s ∧ TvS _ (ofLeaf t) 0 s _ from ⟨_, fun a b => 1000, .inr (.inr (.inl ⟨_, _, _, _, _, _, rfl, .cells rfl f26_ rfl rfl (nB rfl) (nB rfl), .tmp rfl, .tmp rfl, rfl⟩)), ⟨⟨.nil, .int, trivial⟩, .int, .bool⟩⟩)
 ·
  have hc0 : goodHead h = true := by revert hb1; generalize goodHead h = a1; revert a1; decide
  refine AW.skip ?_
  refine AW.seq ?_
  refine AW.region ?_
  refine pu (.fieldPtr rfl (.tmp rfl) f30_) rfl rfl rfl ?_
  refine pu (.loadPtr rfl (.tmp rfl) f9_ rfl rfl (nB rfl) (nB rfl)) rfl rfl rfl ?_
  refine pu (.build (ys := [.int .i64 h.offset]) (l := [.con (.slice none 0 0), .int .i64 0]) (pl := [(0, 1), (1, 1)]) (z := (.agg #[.slice none 0 0, .int .i64 0])) rfl (by kernel_rfl) (by kernel_rfl) (fun _ _ _ => ⟨_, _, rfl, rfl, ⟨_, _, rfl, rfl, rfl⟩⟩) ⟨(.tmp rfl), trivial, rfl, trivial⟩ rfl) rfl rfl rfl ?_
  refine ARun.alloc (id := 3) (l := [.con (.slice none 0 0), .int .i64 0]) (z := (.agg #[.slice none 0 0, .int .i64 0])) rfl (by kernel_rfl) (fun _ _ _ => ⟨_, _, rfl, rfl, ⟨_, _, rfl, rfl, rfl⟩⟩) ⟨rfl, (by repeat first | exact trivial | refine ⟨by decide, by first | rfl | exact trivial | (intro i j; first | rfl | exact getD_no rfl | (dsimp only; split <;> first | rfl | exact getD_no rfl) | exact scl_no (by apply_assumption) _), ?_⟩)⟩ rfl rfl rfl (nB rfl) ?_
  refine ARun.store rfl (.tmp rfl) (.tmp rfl) (SV.cells_of (by exact ⟨⟨rfl, (fun _ e => by cases e), (fun _ e => by cases e)⟩, trivial, trivial⟩)) rfl (nB rfl) f37_ rfl rfl ?_
  refine ARun.nil ?_
  refine AW.seq ?_
  refine AW.region ?_
  refine pu (.assign rfl .int) rfl rfl rfl ?_
  refine ARun.nil ?_
  refine AW.seq ?_
  refine AW.seq ?_
  refine AW.region ?_
  refine pu (.fieldPtr rfl (.tmp rfl) f29_) rfl rfl rfl ?_
  refine pu (.loadPtr rfl (.tmp rfl) f33_ rfl rfl (nB rfl) (nB rfl)) rfl rfl rfl ?_
  refine pu (.lenLst rfl (.tmp rfl) f35_) rfl rfl rfl ?_
  refine pu (.move rfl .int) rfl rfl rfl ?_
  refine ARun.nil ?_
  refine AW.block ?_
  refine AW.fam (id := 5) (rowX h x) ⟨rfl, (by repeat first | exact trivial | refine ⟨by decide, by first | rfl | exact trivial | (intro i j; first | rfl | exact getD_no rfl | (dsimp only; split <;> first | rfl | exact getD_no rfl) | exact scl_no (by apply_assumption) _), ?_⟩)⟩ ?_
  refine AW.nilCell 3 0 4 2 _ (rowC h x 5) rfl rfl ⟨rfl, (by repeat first | exact trivial | refine ⟨by decide, by first | rfl | exact trivial | (intro i j; first | rfl | exact getD_no rfl | (dsimp only; split <;> first | rfl | exact getD_no rfl) | exact scl_no (by apply_assumption) _), ?_⟩)⟩ ?_
  -- objects are renamed
  refine AW.loopR (ι := Nat) (fun k => ⟨[(3, .one (.ptr 1 1 0 0)), (4, .one (.ptr 2 2 0 0)), (7, .one (.ptr 3 2 0 0)), (8, .one (.int .i64 ((trimC h x k : Nat) : Int))), (20, .one (.lst 2 h.rows.length (fun i0 j0 => ([.str ((h.rows.getD i0 (default : GRow)).name), .lst 2 (((h.rows.getD i0 (default : GRow)).samples).length) (fun i1 j1 => ([.int .i64 ((((h.rows.getD i0 (default : GRow)).samples).getD i1 (default : GSample)).at_), .int .i64 ((((h.rows.getD i0 (default : GRow)).samples).getD i1 (default : GSample)).value)] : List AV).getD j1 (.con undef))] : List AV).getD j0 (.con undef)))), (21, .one (.int .i64 (h.rows.length : Int))), (22, .one (.int .i64 (k : Int)))], [(1, .cells [.int .i64 x]), (2, .cells [.con (.slice none 0 0), .int .i64 0]), (3, .cells [.own 4 2 (cntP (trimP x) h.rows k), .int .i64 h.offset]), (4, .arr 2 (cntP (trimP x) h.rows k) (rowC h x 5)), (5, .trees (cntP (trimP x) h.rows k) (rowX h x))]⟩) (fun k => k ≤ h.rows.length) (fun k => h.rows.length - k) 0 (Nat.zero_le _) ⟨⟨⟨_, rfl, rfl⟩, ⟨_, rfl, rfl⟩, ⟨_, rfl, rfl⟩, ⟨_, rfl, rfl⟩, ⟨_, rfl, rfl⟩, ⟨_, rfl, rfl⟩, ⟨_, rfl, rfl⟩, trivial⟩, ⟨⟨_, rfl, rfl, Nat.le_refl _, fun _ _ _ _ => rfl⟩, ⟨_, rfl, rfl, Nat.le_refl _, fun _ _ _ _ => rfl⟩, ⟨_, rfl, rfl, Nat.le_refl _, fun _ _ _ _ => rfl⟩, ⟨_, rfl, rfl, Nat.le_refl _, fun _ _ _ _ => rfl⟩, ⟨_, rfl, fun _ _ => rfl⟩, trivial⟩⟩ ?_
  intro k hk
  have hcl := cntP_le (trimP x) h.rows k
  have htc := trimC_le h x k
  refine AW.seq ?_
  refine AW.region ?_
  refine pu (.intOp rfl (.tmp rfl) (.tmp rfl) rfl) rfl rfl rfl ?_
  refine ARun.nil ?_
  refine AW.seq ?_
  refine AW.cond (.tmp rfl) (fun hb2 => ?_) (fun hb2 => ?_)
  ·
   replace hb2 := of_decide_eq_true hb2
   have hkl : k < h.rows.length := by omega
   have hsl := smp_le hkl
   have hsp := trimS_le x (h.rows.getD k (default : GRow))
   have hcs := trimC_succ (x := x) hkl
   have hje : (((h.rows.getD k (default : GRow)).samples).filter (fun el => !(early x) el)).length = (trimS x (h.rows.getD k (default : GRow))).length := congrArg List.length (del_eq _ x)
   refine AW.skip ?_
   refine AW.seq ?_
   refine AW.block ?_
   refine AW.seq ?_
   refine AW.region ?_
   refine pu (.indexLst (i := k) rfl (.tmp rfl) f28_ (.tmp rfl) rfl (by omega)) rfl rfl rfl ?_
   refine pu (.loadRefAgg rfl (.tmp rfl) f27_ (nB rfl)) rfl rfl rfl ?_
   refine ARun.alloc (id := 6) (l := [.str ByteArray.empty, .con (.slice none 0 0)]) (z := (.agg #[.string ByteArray.empty, .slice none 0 0])) rfl (by kernel_rfl) (fun _ _ _ => ⟨_, _, rfl, ⟨rfl, by decide⟩, ⟨_, _, rfl, rfl, rfl⟩⟩) ⟨rfl, (by repeat first | exact trivial | refine ⟨by decide, by first | rfl | exact trivial | (intro i j; first | rfl | exact getD_no rfl | (dsimp only; split <;> first | rfl | exact getD_no rfl) | exact scl_no (by apply_assumption) _), ?_⟩)⟩ rfl rfl rfl (nB rfl) ?_
   refine ARun.store rfl (.tmp rfl) (.tmp rfl) (SV.cells_of (by exact ⟨trivial, trivial, trivial⟩)) rfl (nB rfl) f38_ rfl rfl ?_
   refine ARun.nil ?_
   refine AW.seq ?_
   refine AW.region ?_
   refine pu (.fieldPtr rfl (.tmp rfl) f32_) rfl rfl rfl ?_
   refine pu (.loadPtr rfl (.tmp rfl) f34_ rfl rfl (nB rfl) (nB rfl)) rfl rfl rfl ?_
   refine ARun.prod (K := 7) rfl (v_Clone_Sample ((h.rows.getD k (default : GRow)).samples) (by omega)) ⟨rfl, (by repeat first | exact trivial | refine ⟨by decide, by first | rfl | exact trivial | (intro i j; first | rfl | exact getD_no rfl | (dsimp only; split <;> first | rfl | exact getD_no rfl) | exact scl_no (by apply_assumption) _), ?_⟩)⟩ ⟨⟨_, (.tmp rfl), .lst⟩, trivial⟩ f84_ rfl rfl rfl rfl rfl (nB rfl) ?_
   refine ARun.openRow 28 7 0 1 2 ((h.rows.getD k (default : GRow)).samples.length) 8 _ (fun i j => ceSample ((h.rows.getD k (default : GRow)).samples.getD i (default : GSample)) j) rfl rfl (by decide) rfl (fun i j hi hj => match j, hj with | 0, _ => rfl | 1, _ => rfl | _ + 2, h => absurd h (by omega)) (fun i j => by first | rfl | exact getD_no rfl) ⟨rfl, (by repeat first | exact trivial | refine ⟨by decide, by first | rfl | exact trivial | (intro i j; first | rfl | exact getD_no rfl | (dsimp only; split <;> first | rfl | exact getD_no rfl) | exact scl_no (by apply_assumption) _), ?_⟩)⟩ ?_
   refine pu (.makeFn (caps := [.ptr 1 1 0 0]) rfl ⟨(.tmp rfl), trivial⟩ rfl) rfl rfl rfl ?_
   refine ARun.mut1 (A := 8) rfl (v_DeleteFunc_Sample ((h.rows.getD k (default : GRow)).samples) 52 1 (fun _ => .ref 1 (fun _ => .int .i64 x)) (early x) (by omega) (fun j h => match j, h with | 0, _ => trivial | _ + 1, h => absurd h (by omega)) f87_ (fun k hk => v_Trim1 _ x)) f86_ rfl ⟨.inr (.tmp rfl), ⟨.inl ⟨_, (.tmp rfl), (.fn (m := 1) (fun | 0, _ => (.ptr (m := 1) rfl rfl (nB rfl) (nB rfl) (fun | 0, _ => .int | _ + 1, h => absurd h (by omega))) | n + 1, (h : n + 1 < 1) => absurd h (by omega)))⟩, trivial⟩⟩ rfl (fun i j => getD_sc rfl) (fun i j => getD_sc rfl) rfl rfl rfl (nB rfl) ?_
   refine pu (.assign rfl (.tmp rfl)) rfl rfl rfl ?_
   refine ARun.nil ?_
   refine AW.seq ?_
   refine AW.region ?_
   refine pu (.move rfl (.tmp rfl)) rfl rfl rfl ?_
   refine pu (.fieldPtr rfl (.tmp rfl) f32_) rfl rfl rfl ?_
   refine pu (.loadPtr rfl (.tmp rfl) f34_ rfl rfl (nB rfl) (nB rfl)) rfl rfl rfl ?_
   refine pu (.lenLst rfl (.tmp rfl) f24_) rfl rfl rfl ?_
   refine pu (.move rfl (.tmp rfl)) rfl rfl rfl ?_
   refine pu (.lenOwn rfl (.tmp rfl) f24_) rfl rfl rfl ?_
   refine pu (.sub (c := ((((h.rows.getD k (default : GRow)).samples).length - ((((h.rows.getD k (default : GRow)).samples).filter (fun el => !(early x) el)).length) : Nat) : Int)) rfl (.tmp rfl) (.tmp rfl) (by rw [wrap_id (by omega) (by omega)]; omega)) rfl rfl rfl ?_
   refine pu (.add (c := ((trimC h x k + ((h.rows.getD k (default : GRow)).samples).length - ((((h.rows.getD k (default : GRow)).samples).filter (fun el => !(early x) el)).length) : Nat) : Int)) rfl (.tmp rfl) (.tmp rfl) (by rw [wrap_id (by omega) (by omega)]; omega)) rfl rfl rfl ?_
   refine pu (.assign rfl (.tmp rfl)) rfl rfl rfl ?_
   refine ARun.nil ?_
   refine AW.seq ?_
   refine AW.region ?_
   refine pu (.move rfl (.tmp rfl)) rfl rfl rfl ?_
   refine pu (.lenOwn rfl (.tmp rfl) f24_) rfl rfl rfl ?_
   refine pu (.intOp rfl (.tmp rfl) .int rfl) rfl rfl rfl ?_
   refine ARun.nil ?_
   refine AW.cond (.tmp rfl) (fun hb3 => ?_) (fun hb3 => ?_)
   ·
    replace hb3 := of_decide_eq_true hb3
    have hp : trimP x (h.rows.getD k (default : GRow)) = true := by unfold trimP; exact decide_eq_true (by omega)
    have hc := (cntP_yes (default : GRow) hkl hp).1
    have hat := trim_at hkl hp
    have hcc : trimC h x k + ((h.rows.getD k (default : GRow)).samples).length - ((((h.rows.getD k (default : GRow)).samples).filter (fun el => !(early x) el)).length) = trimC h x (k + 1) := by omega
    refine AW.region ?_
    refine ARun.closeRow 11 8 5 (cntP (trimP x) h.rows k) 2 (((h.rows.getD k (default : GRow)).samples).filter (fun el => !(early x) el)).length (m' := ((trimL h x).getD (cntP (trimP x) h.rows k) (default : GRow)).samples.length) (X := rowX h x) (g := fun a b => ceSample (((trimL h x).getD (cntP (trimP x) h.rows k) (default : GRow)).samples.getD a (default : GSample)) b) rfl rfl rfl rfl (Nat.le_refl _) rfl rfl rfl (by rw [hat]; exact hje.symm) (fun i b hi (hj : b < 2) => by
   show _ = ceSample (((trimL h x).getD (cntP (trimP x) h.rows k) (default : GRow)).samples.getD i (default : GSample)) b
   rw [hat]; show _ = ceSample ((trimS x (h.rows.getD k (default : GRow))).getD i (default : GSample)) b; unfold trimS; rw [← del_eq]; exact (match b, hj with | 0, _ => rfl | 1, _ => rfl | _ + 2, h => absurd h (by omega))) (fun i b hi hj => match b, hj with | 0, _ => rfl | 1, _ => rfl | _ + 2, h => absurd h (by omega)) ?_
    refine pu (.fieldPtr rfl (.tmp rfl) f29_) rfl rfl rfl ?_
    refine pu (.loadPtr rfl (.tmp rfl) f33_ rfl rfl (nB rfl) (nB rfl)) rfl rfl rfl ?_
    refine pu (.fieldPtr rfl (.tmp rfl) f31_) rfl rfl rfl ?_
    refine pu (.loadPtr rfl (.tmp rfl) f12_ rfl rfl (nB rfl) (nB rfl)) rfl rfl rfl ?_
    refine pu (.move rfl (.tmp rfl)) rfl rfl rfl ?_
    refine pu (.build (ys := [.str ((h.rows.getD k (default : GRow)).name), .tre 5 (cntP (trimP x) h.rows k)]) (l := [.str ByteArray.empty, .con (.slice none 0 0)]) (pl := [(0, 1), (1, 1)]) (z := (.agg #[.string ByteArray.empty, .slice none 0 0])) rfl (by kernel_rfl) (by kernel_rfl) (fun _ _ _ => ⟨_, _, rfl, ⟨rfl, by decide⟩, ⟨_, _, rfl, rfl, rfl⟩⟩) ⟨(.tmp rfl), trivial, rfl, ⟨(.tmp rfl), trivial, rfl, trivial⟩⟩ rfl) rfl rfl rfl ?_
    refine ARun.slice1 (id := 9) (z := (.agg #[.string ByteArray.empty, .slice none 0 0])) (by_ := 40) rfl (.tmp rfl) (SV.cells_of (by exact ⟨trivial, trivial, trivial⟩)) (by kernel_rfl) rfl rfl (by decide) (by decide) ⟨rfl, (by repeat first | exact trivial | refine ⟨by decide, by first | rfl | exact trivial | (intro i j; first | rfl | exact getD_no rfl | (dsimp only; split <;> first | rfl | exact getD_no rfl) | exact scl_no (by apply_assumption) _), ?_⟩)⟩ rfl rfl rfl (nB rfl) ?_
    refine ARun.append (id := 10) (sz := 2) (n := (cntP (trimP x) h.rows k)) (m := 1) (by_ := 40) (z := (.agg #[.string ByteArray.empty, .slice none 0 0])) (f := rowC h x 5) (g := fun _ jc => ([.str ((h.rows.getD k (default : GRow)).name), .tre 5 (cntP (trimP x) h.rows k)] : List AV).getD jc (.con undef)) (h := fun ia ja => if ia < (cntP (trimP x) h.rows k) then (rowC h x 5 : Nat → Nat → AV) ia ja else (fun _ jc => ([.str ((h.rows.getD k (default : GRow)).name), .tre 5 (cntP (trimP x) h.rows k)] : List AV).getD jc (.con undef) : Nat → Nat → AV) (ia - (cntP (trimP x) h.rows k)) ja) rfl (by kernel_rfl) rfl f35_ (.own (.tmp rfl) rfl rfl rfl (Nat.le_refl _) (fun _ _ _ _ => rfl)) (.own (.tmp rfl) rfl rfl (Nat.le_refl _) (fun _ _ _ _ => rfl)) (by decide) (fun i j hi hj => match j, hj with | 0, _ => rfl | 1, _ => rfl | _ + 2, h => absurd h (by omega)) (fun _ _ _ _ => rfl) (by omega) (by omega) ⟨rfl, (by repeat first | exact trivial | refine ⟨by decide, by first | rfl | exact trivial | (intro i j; first | rfl | exact getD_no rfl | (dsimp only; split <;> first | rfl | exact getD_no rfl) | exact scl_no (by apply_assumption) _), ?_⟩)⟩ (fun i j => by dsimp only; (repeat' split) <;> first | rfl | exact getD_no rfl) rfl rfl (nB rfl) ?_
    refine pu (.fieldPtr rfl (.tmp rfl) f29_) rfl rfl rfl ?_
    refine ARun.store rfl (.tmp rfl) (.tmp rfl) trivial rfl (nB rfl) f36_ rfl rfl ?_
    refine ARun.nil ?_
    refine AW.region ?_
    refine pu (.add (c := ((k + 1 : Nat) : Int)) rfl (.tmp rfl) .int (by rw [wrap_id (by omega) (by omega)]; omega)) rfl rfl rfl ?_
    refine pu (.move rfl (.tmp rfl)) rfl rfl rfl ?_
    refine ARun.nil ?_
    exact ⟨k + 1, (swp 4 10), by omega, by dsimp only; omega, swp_inj, (swp_fix rfl rfl), ⟨⟨⟨_, rfl, rfl⟩, ⟨_, rfl, rfl⟩, ⟨_, rfl, rfl⟩, ⟨_, rfl, congrArg (fun z : Nat => SV.one (.int .i64 (z : Int))) hcc⟩, ⟨_, rfl, rfl⟩, ⟨_, rfl, rfl⟩, ⟨_, rfl, rfl⟩, trivial⟩, ⟨⟨_, rfl, rfl, Nat.le_refl _, fun _ _ _ _ => rfl⟩, ⟨_, rfl, rfl, Nat.le_refl _, fun _ _ _ _ => rfl⟩, ⟨_, rfl, rfl, Nat.le_refl _, fun i j _ _ => by rw [hc]; rfl⟩, ⟨_, rfl, rfl, Nat.le_of_eq hc, fun i j hi (hj : j < 2) => match j, hj with | 0, _ => app_at (show i < cntP (trimP x) h.rows k + 1 from hc ▸ hi) (fun _ => rfl) (fun hik => by subst hik; exact (show AV.str (trimR x (h.rows.getD k (default : GRow))).name = _ from congrArg (fun e : GRow => AV.str e.name) hat.symm)) | 1, _ => app_at (show i < cntP (trimP x) h.rows k + 1 from hc ▸ hi) (fun _ => rfl) (fun h => by subst h; rfl) | _ + 2, h => absurd h (by omega)⟩, ⟨rowX h x, by rw [hc]; rfl, fun _ _ => rfl⟩, trivial⟩⟩⟩
   ·
    replace hb3 := of_decide_eq_false hb3
    have hp : trimP x (h.rows.getD k (default : GRow)) = false := by unfold trimP; exact decide_eq_false (by omega)
    have hc := cntP_no (default : GRow) hkl hp
    have hcc : trimC h x k + ((h.rows.getD k (default : GRow)).samples).length - ((((h.rows.getD k (default : GRow)).samples).filter (fun el => !(early x) el)).length) = trimC h x (k + 1) := by omega
    refine AW.skip ?_
    refine AW.region ?_
    refine pu (.add (c := ((k + 1 : Nat) : Int)) rfl (.tmp rfl) .int (by rw [wrap_id (by omega) (by omega)]; omega)) rfl rfl rfl ?_
    refine pu (.move rfl (.tmp rfl)) rfl rfl rfl ?_
    refine ARun.nil ?_
    exact ⟨k + 1, id, by omega, by dsimp only; omega, id_inj, (fun _ _ => rfl), ⟨⟨⟨_, rfl, rfl⟩, ⟨_, rfl, rfl⟩, ⟨_, rfl, rfl⟩, ⟨_, rfl, congrArg (fun z : Nat => SV.one (.int .i64 (z : Int))) hcc⟩, ⟨_, rfl, rfl⟩, ⟨_, rfl, rfl⟩, ⟨_, rfl, rfl⟩, trivial⟩, ⟨⟨_, rfl, rfl, Nat.le_refl _, fun _ _ _ _ => rfl⟩, ⟨_, rfl, rfl, Nat.le_refl _, fun _ _ _ _ => rfl⟩, ⟨_, rfl, rfl, Nat.le_refl _, fun i j _ _ => by rw [hc]; rfl⟩, ⟨_, rfl, rfl, Nat.le_of_eq hc, fun i j _ (hj : j < 2) => match j, hj with | 0, _ => rfl | 1, _ => rfl | _ + 2, h => absurd h (by omega)⟩, ⟨rowX h x, by rw [hc]; rfl, fun _ _ => rfl⟩, trivial⟩⟩⟩
  ·
   replace hb2 := of_decide_eq_false hb2
   have hkl : ¬ k < h.rows.length := by omega
   refine AW.exit ?_
   refine AW.seq ?_
   refine AW.region ?_
   refine pu (.loadPtrAgg rfl (.tmp rfl) f26_ rfl rfl (nB rfl) (nB rfl)) rfl rfl rfl ?_
   refine pu (.move rfl (.tmp rfl)) rfl rfl rfl ?_
   refine ARun.store rfl (.tmp rfl) (.tmp rfl) (SV.cells_of (by exact ⟨trivial, trivial, trivial⟩)) rfl (nB rfl) f37_ rfl rfl ?_
   refine pu (.assign rfl (.tmp rfl)) rfl rfl rfl ?_
   refine pu (.assign rfl .bool) rfl rfl rfl ?_
   refine ARun.nil ?_
   rw [show trimV h x = (trimD h x, trimC h x h.rows.length, true) from if_pos hc0, show h.rows.length = k from by omega]
   exact AW.ret (show ∃ s t, ResL _ _ [.cell 4 25, .tmp 5, .tmp 6] s ∧ TvS _ (ofLeaf t) 0 s _ from ⟨_, fun a b => if a = 4 then 0 else if a = 5 then 0 else 1000, .inr (.inr (.inl ⟨_, _, _, _, _, _, rfl, .cells rfl f26_ rfl rfl (nB rfl) (nB rfl), .tmp rfl, .tmp rfl, rfl⟩)), ⟨⟨(Tv.colK (K := 5) (c := 1) (X := rowX h x) (trim_len hkl) rfl rfl rfl (Nat.le_refl _) (by rfl) (fun i j hi hj hne => match j, hj, hne with | 0, _, _ => ⟨rfl, rfl⟩ | 1, _, h => absurd rfl h | _ + 2, h, _ => absurd h (by omega)) (fun i hi => ⟨rfl, rfl⟩) rfl (by decide) (fun _ => by rfl)), .int, trivial⟩, .int, .bool⟩⟩)
end Go.Proofs.YtonfeiloekofdaaGreatDoor

namespace Go.Proofs.YtonfeiloekofdaaGreatDoor
open Go.ChangeShapes Go.WideShapes Go.ChangeAt Go.RowKit Go.BigFrame Go.Deep
set_option linter.unusedVariables false
set_option linter.unusedSimpArgs false
theorem f88_ : callB Tryz.prog 13 = true := by kernel_rfl
theorem f89_ : callB Tryz.prog 27 = true := by kernel_rfl
theorem f90_ : callB Tryz.prog 28 = true := by kernel_rfl
theorem f91_ : callB Tryz.prog 34 = true := by kernel_rfl
theorem f92_ : callB Tryz.prog 36 = true := by kernel_rfl
theorem f93_ : callB Tryz.prog 6 = true := by kernel_rfl
theorem v_DrawGoodHead (n : Nat) (F : Nat → Nat) (hF : ∀ i, F i < 256) : FnE Tryz.prog 28 [.one (.lst 1 n (fun i _ => .int .u8 ((F i : Nat) : Int)))] (fun (x : GHead) => wtHead x ≤ 1000) (fun (x : GHead) => .agg [.lst 2 x.rows.length (fun i0 j0 => ([.str ((x.rows.getD i0 (default : GRow)).name), .lst 2 (((x.rows.getD i0 (default : GRow)).samples).length) (fun i1 j1 => ([.int .i64 ((((x.rows.getD i0 (default : GRow)).samples).getD i1 (default : GSample)).at_), .int .i64 ((((x.rows.getD i0 (default : GRow)).samples).getD i1 (default : GSample)).value)] : List AV).getD j1 (.con undef))] : List AV).getD j0 (.con undef)), .int .i64 x.offset]) := by
 refine FnE.of_body (fn := Tryz.f28) Tryz.func28 rfl (nB rfl) ?_
 intro w0
 show AW _ 9 _ _ _ _
 refine AW.cv (t := 0) rfl (fun c0 => ?_)
 refine AW.seq ?_
 refine AW.region ?_
 refine ARun.alloc (id := 0) (l := [.con (.slice none 0 0), .int .i64 0]) (z := (.agg #[.slice none 0 0, .int .i64 0])) rfl (by kernel_rfl) (fun _ _ _ => ⟨_, _, rfl, rfl, ⟨_, _, rfl, rfl, rfl⟩⟩) ⟨rfl, (by repeat first | exact trivial | refine ⟨by decide, by first | rfl | exact trivial | (intro i j; first | rfl | exact getD_no rfl | (dsimp only; split <;> first | rfl | exact getD_no rfl) | exact scl_no (by apply_assumption) _), ?_⟩)⟩ rfl rfl rfl (nB rfl) ?_
 refine ARun.nil ?_
 refine AW.seq ?_
 refine AW.region ?_
 refine pu (.move rfl (.tmp rfl)) rfl rfl rfl ?_
 refine pu (.build (ys := [.cv c0 (.lst 1 n (fun i _ => .int .u8 ((F i : Nat) : Int)))]) (l := [.con (.slice none 0 0), .int .i64 0, .int .u64 0]) (pl := [(0, 1), (1, 1), (2, 1)]) (z := (.agg #[.slice none 0 0, .int .i64 0, .int .u64 0])) rfl (by kernel_rfl) (by kernel_rfl) (fun _ _ _ => ⟨_, _, rfl, rfl, ⟨_, _, rfl, rfl, ⟨_, _, rfl, rfl, rfl⟩⟩⟩) ⟨(.tmp rfl), trivial, rfl, trivial⟩ rfl) rfl rfl rfl ?_
 refine ARun.box (id := 1) rfl (.tmp rfl) (SV.cells_of (by exact ⟨trivial, trivial, trivial, trivial⟩)) ⟨rfl, (by repeat first | exact trivial | refine ⟨by decide, by first | rfl | exact trivial | (intro i j; first | rfl | exact getD_no rfl | (dsimp only; split <;> first | rfl | exact getD_no rfl) | exact scl_no (by apply_assumption) _), ?_⟩)⟩ rfl rfl rfl (nB rfl) ?_
 refine pu (.assign rfl (.tmp rfl)) rfl rfl rfl ?_
 refine ARun.nil ?_
 refine AW.seq ?_
 refine AW.region ?_
 refine pu (.move rfl (.tmp rfl)) rfl rfl rfl ?_
 refine ARun.cur (id := 1) rfl (v_Head n F hF 0 0 (by omega) (by omega)) f91_ ⟨.inr (.tmp rfl), trivial⟩ rfl rfl rfl (nB rfl) (fun x1 p2 sd3 hc4 => ?_)
 obtain ⟨hc4x, hc4c⟩ := hc4
 obtain ⟨hc41, hc42, hc43⟩ := hc4c
 refine ARun.store rfl (.tmp rfl) (.tmp rfl) (SV.cells_of (by exact ⟨trivial, trivial, trivial⟩)) rfl (nB rfl) f37_ rfl rfl ?_
 refine ARun.nil ?_
 exact AW.ret (show ∃ x s, _ ∧ ResL _ _ [.cell 2 25] s ∧ FvS _ s _ from ⟨x1, _, hc4x, .inl ⟨_, rfl, .cells rfl f26_ rfl rfl (nB rfl) (nB rfl)⟩, ⟨.frs, .int, trivial⟩⟩)
theorem v_DrawHeadText (n : Nat) (F : Nat → Nat) (hF : ∀ i, F i < 256) : FnE Tryz.prog 4 [.one (.lst 1 n (fun i _ => .int .u8 ((F i : Nat) : Int)))] (fun (x : GHead) => wtHead x ≤ 1000) (fun (x : GHead) => .agg [.lst 2 x.rows.length (fun i0 j0 => ([.str ((x.rows.getD i0 (default : GRow)).name), .lst 2 (((x.rows.getD i0 (default : GRow)).samples).length) (fun i1 j1 => ([.int .i64 ((((x.rows.getD i0 (default : GRow)).samples).getD i1 (default : GSample)).at_), .int .i64 ((((x.rows.getD i0 (default : GRow)).samples).getD i1 (default : GSample)).value)] : List AV).getD j1 (.con undef))] : List AV).getD j0 (.con undef)), .int .i64 x.offset]) := by
 refine FnE.of_body (fn := Tryz.f4) Tryz.func4 rfl (nB rfl) ?_
 intro w0
 show AW _ 5 _ _ _ _
 refine AW.seq ?_
 refine AW.region ?_
 refine ARun.alloc (id := 0) (l := [.con (.slice none 0 0), .int .i64 0]) (z := (.agg #[.slice none 0 0, .int .i64 0])) rfl (by kernel_rfl) (fun _ _ _ => ⟨_, _, rfl, rfl, ⟨_, _, rfl, rfl, rfl⟩⟩) ⟨rfl, (by repeat first | exact trivial | refine ⟨by decide, by first | rfl | exact trivial | (intro i j; first | rfl | exact getD_no rfl | (dsimp only; split <;> first | rfl | exact getD_no rfl) | exact scl_no (by apply_assumption) _), ?_⟩)⟩ rfl rfl rfl (nB rfl) ?_
 refine ARun.nil ?_
 refine AW.seq ?_
 refine AW.region ?_
 refine pu (.move rfl (.tmp rfl)) rfl rfl rfl ?_
 refine ARun.draw rfl (v_DrawGoodHead n F hF) f90_ ⟨⟨_, (.tmp rfl), .lst⟩, trivial⟩ rfl rfl (nB rfl) (fun x1 hd2 => ?_)
 have hdr := hd2
 refine ARun.store rfl (.tmp rfl) (.tmp rfl) (SV.cells_of (by exact ⟨trivial, trivial, trivial⟩)) rfl (nB rfl) f37_ rfl rfl ?_
 refine ARun.nil ?_
 exact AW.ret (show ∃ x s, _ ∧ ResL _ _ [.cell 2 25] s ∧ FvS _ s _ from ⟨x1, _, hdr, .inl ⟨_, rfl, .cells rfl f26_ rfl rfl (nB rfl) (nB rfl)⟩, ⟨.frs, .int, trivial⟩⟩)
theorem v_DrawTrimHead (n : Nat) (F : Nat → Nat) (hF : ∀ i, F i < 256) : FnE Tryz.prog 17 [.one (.lst 1 n (fun i _ => .int .u8 ((F i : Nat) : Int)))] (fun (x : GHead × Int) => wtHead x.1 ≤ 1000 ∧ -5 ≤ x.2 ∧ x.2 ≤ 65) (fun (x : GHead × Int) => .tup2 (.agg [.lst 2 x.1.rows.length (fun i0 j0 => ([.str ((x.1.rows.getD i0 (default : GRow)).name), .lst 2 (((x.1.rows.getD i0 (default : GRow)).samples).length) (fun i1 j1 => ([.int .i64 ((((x.1.rows.getD i0 (default : GRow)).samples).getD i1 (default : GSample)).at_), .int .i64 ((((x.1.rows.getD i0 (default : GRow)).samples).getD i1 (default : GSample)).value)] : List AV).getD j1 (.con undef))] : List AV).getD j0 (.con undef)), .int .i64 x.1.offset]) (.one (.int .i64 x.2))) := by
 refine FnE.of_body (fn := Tryz.f17) Tryz.func17 rfl (nB rfl) ?_
 intro w0
 show AW _ 13 _ _ _ _
 refine AW.cv (t := 0) rfl (fun c0 => ?_)
 refine AW.seq ?_
 refine AW.region ?_
 refine ARun.alloc (id := 0) (l := [.con (.slice none 0 0), .int .i64 0]) (z := (.agg #[.slice none 0 0, .int .i64 0])) rfl (by kernel_rfl) (fun _ _ _ => ⟨_, _, rfl, rfl, ⟨_, _, rfl, rfl, rfl⟩⟩) ⟨rfl, (by repeat first | exact trivial | refine ⟨by decide, by first | rfl | exact trivial | (intro i j; first | rfl | exact getD_no rfl | (dsimp only; split <;> first | rfl | exact getD_no rfl) | exact scl_no (by apply_assumption) _), ?_⟩)⟩ rfl rfl rfl (nB rfl) ?_
 refine pu (.assign rfl .int) rfl rfl rfl ?_
 refine ARun.nil ?_
 refine AW.seq ?_
 refine AW.region ?_
 refine pu (.move rfl (.tmp rfl)) rfl rfl rfl ?_
 refine pu (.build (ys := [.cv c0 (.lst 1 n (fun i _ => .int .u8 ((F i : Nat) : Int)))]) (l := [.con (.slice none 0 0), .int .i64 0, .int .u64 0]) (pl := [(0, 1), (1, 1), (2, 1)]) (z := (.agg #[.slice none 0 0, .int .i64 0, .int .u64 0])) rfl (by kernel_rfl) (by kernel_rfl) (fun _ _ _ => ⟨_, _, rfl, rfl, ⟨_, _, rfl, rfl, ⟨_, _, rfl, rfl, rfl⟩⟩⟩) ⟨(.tmp rfl), trivial, rfl, trivial⟩ rfl) rfl rfl rfl ?_
 refine ARun.box (id := 1) rfl (.tmp rfl) (SV.cells_of (by exact ⟨trivial, trivial, trivial, trivial⟩)) ⟨rfl, (by repeat first | exact trivial | refine ⟨by decide, by first | rfl | exact trivial | (intro i j; first | rfl | exact getD_no rfl | (dsimp only; split <;> first | rfl | exact getD_no rfl) | exact scl_no (by apply_assumption) _), ?_⟩)⟩ rfl rfl rfl (nB rfl) ?_
 refine pu (.assign rfl (.tmp rfl)) rfl rfl rfl ?_
 refine ARun.nil ?_
 refine AW.seq ?_
 refine AW.region ?_
 refine pu (.move rfl (.tmp rfl)) rfl rfl rfl ?_
 refine ARun.cur (id := 1) rfl (v_Head n F hF 0 0 (by omega) (by omega)) f91_ ⟨.inr (.tmp rfl), trivial⟩ rfl rfl rfl (nB rfl) (fun x1 p2 sd3 hc4 => ?_)
 obtain ⟨hc4x, hc4c⟩ := hc4
 obtain ⟨hc41, hc42, hc43⟩ := hc4c
 refine pu (.move rfl (.tmp rfl)) rfl rfl rfl ?_
 refine ARun.cur (id := 1) rfl (v_Pick n F hF p2 sd3 (by omega) (by omega) 70 (by omega)) f0_ ⟨.inr (.tmp rfl), .inl ⟨_, .int, .int⟩, trivial⟩ rfl rfl rfl (nB rfl) (fun x5 p6 sd7 hc8 => ?_)
 obtain ⟨hc8x, hc8c⟩ := hc8
 obtain ⟨hc81, hc82, hc83⟩ := hc8c
 refine pu (.sub (c := (x5 : Int) - 5) rfl (.tmp rfl) .int (wrap_id (by rcases hc8x with hx | hx <;> omega) (by rcases hc8x with hx | hx <;> omega))) rfl rfl rfl ?_
 refine ARun.store rfl (.tmp rfl) (.tmp rfl) (SV.cells_of (by exact ⟨trivial, trivial, trivial⟩)) rfl (nB rfl) f37_ rfl rfl ?_
 refine pu (.assign rfl (.tmp rfl)) rfl rfl rfl ?_
 refine ARun.nil ?_
 have hrng : -5 ≤ (x5 : Int) - 5 ∧ (x5 : Int) - 5 ≤ 65 := by rcases hc8x with hx | hx <;> omega
 exact AW.ret (show ∃ x s, _ ∧ ResL _ _ [.cell 2 25, .tmp 3] s ∧ FvS _ s _ from ⟨⟨x1, (x5 : Int) - 5⟩, _, ⟨hc4x, hrng⟩, .inr (.inl ⟨_, _, _, _, rfl, .cells rfl f26_ rfl rfl (nB rfl) (nB rfl), .tmp rfl, rfl⟩), ⟨⟨.frs, .int, trivial⟩, .int⟩⟩)
theorem v_DrawRowOf (n : Nat) (F : Nat → Nat) (hF : ∀ i, F i < 256) : FnE Tryz.prog 22 [.one (.lst 1 n (fun i _ => .int .u8 ((F i : Nat) : Int)))] (fun (x : GHead × ByteArray) => wtHead x.1 ≤ 1000) (fun (x : GHead × ByteArray) => .tup2 (.agg [.lst 2 x.1.rows.length (fun i0 j0 => ([.str ((x.1.rows.getD i0 (default : GRow)).name), .lst 2 (((x.1.rows.getD i0 (default : GRow)).samples).length) (fun i1 j1 => ([.int .i64 ((((x.1.rows.getD i0 (default : GRow)).samples).getD i1 (default : GSample)).at_), .int .i64 ((((x.1.rows.getD i0 (default : GRow)).samples).getD i1 (default : GSample)).value)] : List AV).getD j1 (.con undef))] : List AV).getD j0 (.con undef)), .int .i64 x.1.offset]) (.one (.str x.2))) := by
 refine FnE.of_body (fn := Tryz.f22) Tryz.func22 rfl (nB rfl) ?_
 intro w0
 show AW _ 13 _ _ _ _
 refine AW.cv (t := 0) rfl (fun c0 => ?_)
 refine AW.seq ?_
 refine AW.region ?_
 refine ARun.alloc (id := 0) (l := [.con (.slice none 0 0), .int .i64 0]) (z := (.agg #[.slice none 0 0, .int .i64 0])) rfl (by kernel_rfl) (fun _ _ _ => ⟨_, _, rfl, rfl, ⟨_, _, rfl, rfl, rfl⟩⟩) ⟨rfl, (by repeat first | exact trivial | refine ⟨by decide, by first | rfl | exact trivial | (intro i j; first | rfl | exact getD_no rfl | (dsimp only; split <;> first | rfl | exact getD_no rfl) | exact scl_no (by apply_assumption) _), ?_⟩)⟩ rfl rfl rfl (nB rfl) ?_
 refine pu (.assign rfl (.str (by decide))) rfl rfl rfl ?_
 refine ARun.nil ?_
 refine AW.seq ?_
 refine AW.region ?_
 refine pu (.move rfl (.tmp rfl)) rfl rfl rfl ?_
 refine pu (.build (ys := [.cv c0 (.lst 1 n (fun i _ => .int .u8 ((F i : Nat) : Int)))]) (l := [.con (.slice none 0 0), .int .i64 0, .int .u64 0]) (pl := [(0, 1), (1, 1), (2, 1)]) (z := (.agg #[.slice none 0 0, .int .i64 0, .int .u64 0])) rfl (by kernel_rfl) (by kernel_rfl) (fun _ _ _ => ⟨_, _, rfl, rfl, ⟨_, _, rfl, rfl, ⟨_, _, rfl, rfl, rfl⟩⟩⟩) ⟨(.tmp rfl), trivial, rfl, trivial⟩ rfl) rfl rfl rfl ?_
 refine ARun.box (id := 1) rfl (.tmp rfl) (SV.cells_of (by exact ⟨trivial, trivial, trivial, trivial⟩)) ⟨rfl, (by repeat first | exact trivial | refine ⟨by decide, by first | rfl | exact trivial | (intro i j; first | rfl | exact getD_no rfl | (dsimp only; split <;> first | rfl | exact getD_no rfl) | exact scl_no (by apply_assumption) _), ?_⟩)⟩ rfl rfl rfl (nB rfl) ?_
 refine pu (.assign rfl (.tmp rfl)) rfl rfl rfl ?_
 refine ARun.nil ?_
 refine AW.seq ?_
 refine AW.region ?_
 refine pu (.move rfl (.tmp rfl)) rfl rfl rfl ?_
 refine ARun.cur (id := 1) rfl (v_Head n F hF 0 0 (by omega) (by omega)) f91_ ⟨.inr (.tmp rfl), trivial⟩ rfl rfl rfl (nB rfl) (fun x1 p2 sd3 hc4 => ?_)
 obtain ⟨hc4x, hc4c⟩ := hc4
 obtain ⟨hc41, hc42, hc43⟩ := hc4c
 refine pu (.move rfl (.tmp rfl)) rfl rfl rfl ?_
 refine ARun.fresh (FreshOp.strs4 (a1 := (⟨#[99, 112, 117]⟩ : ByteArray)) (a2 := (⟨#[109, 101, 109]⟩ : ByteArray)) (a3 := (⟨#[100, 105, 115, 107]⟩ : ByteArray)) (a4 := (⟨#[120]⟩ : ByteArray)) rfl (.str (by decide)) (.str (by decide)) (.str (by decide)) (.str (by decide)) Tryz.underlying66 (by kernel_rfl)) rfl rfl (nB rfl) ?_
 refine ARun.cur (id := 1) rfl (v_Of n F hF p2 sd3 (by omega) (by omega) ([(⟨#[99, 112, 117]⟩ : ByteArray), (⟨#[109, 101, 109]⟩ : ByteArray), (⟨#[100, 105, 115, 107]⟩ : ByteArray), (⟨#[120]⟩ : ByteArray)] : List ByteArray) ⟨by decide, by decide⟩) f69_ ⟨.inr (.tmp rfl), .inl ⟨_, (.tmp rfl), .frs⟩, trivial⟩ rfl rfl rfl (nB rfl) (fun x5 p6 sd7 hc8 => ?_)
 obtain ⟨hc8x, hc8c⟩ := hc8
 obtain ⟨hc81, hc82, hc83⟩ := hc8c
 refine ARun.store rfl (.tmp rfl) (.tmp rfl) (SV.cells_of (by exact ⟨trivial, trivial, trivial⟩)) rfl (nB rfl) f37_ rfl rfl ?_
 refine pu (.assign rfl (.tmp rfl)) rfl rfl rfl ?_
 refine ARun.nil ?_
 exact AW.ret (show ∃ x s, _ ∧ ResL _ _ [.cell 2 25, .tmp 3] s ∧ FvS _ s _ from ⟨⟨x1, x5⟩, _, hc4x, .inr (.inl ⟨_, _, _, _, rfl, .cells rfl f26_ rfl rfl (nB rfl) (nB rfl), .tmp rfl, rfl⟩), ⟨⟨.frs, .int, trivial⟩, .str⟩⟩)
theorem v_DrawNewHead (n : Nat) (F : Nat → Nat) (hF : ∀ i, F i < 256) : FnE Tryz.prog 24 [.one (.lst 1 n (fun i _ => .int .u8 ((F i : Nat) : Int)))] (fun (x : Int) => True) (fun (x : Int) => .one (.int .i64 x)) := by
 refine FnE.of_body (fn := Tryz.f24) Tryz.func24 rfl (nB rfl) ?_
 intro w0
 show AW _ 10 _ _ _ _
 refine AW.cv (t := 0) rfl (fun c0 => ?_)
 refine AW.seq ?_
 refine AW.region ?_
 refine pu (.assign rfl .int) rfl rfl rfl ?_
 refine ARun.nil ?_
 refine AW.seq ?_
 refine AW.region ?_
 refine pu (.move rfl (.tmp rfl)) rfl rfl rfl ?_
 refine pu (.build (ys := [.cv c0 (.lst 1 n (fun i _ => .int .u8 ((F i : Nat) : Int)))]) (l := [.con (.slice none 0 0), .int .i64 0, .int .u64 0]) (pl := [(0, 1), (1, 1), (2, 1)]) (z := (.agg #[.slice none 0 0, .int .i64 0, .int .u64 0])) rfl (by kernel_rfl) (by kernel_rfl) (fun _ _ _ => ⟨_, _, rfl, rfl, ⟨_, _, rfl, rfl, ⟨_, _, rfl, rfl, rfl⟩⟩⟩) ⟨(.tmp rfl), trivial, rfl, trivial⟩ rfl) rfl rfl rfl ?_
 refine ARun.box (id := 0) rfl (.tmp rfl) (SV.cells_of (by exact ⟨trivial, trivial, trivial, trivial⟩)) ⟨rfl, (by repeat first | exact trivial | refine ⟨by decide, by first | rfl | exact trivial | (intro i j; first | rfl | exact getD_no rfl | (dsimp only; split <;> first | rfl | exact getD_no rfl) | exact scl_no (by apply_assumption) _), ?_⟩)⟩ rfl rfl rfl (nB rfl) ?_
 refine pu (.assign rfl (.tmp rfl)) rfl rfl rfl ?_
 refine ARun.nil ?_
 refine AW.seq ?_
 refine AW.region ?_
 refine pu (.move rfl (.tmp rfl)) rfl rfl rfl ?_
 refine ARun.fresh (FreshOp.hexa (a1 := (-1)) (a2 := 0) (a3 := 1) (a4 := 7) (a5 := 1000) (a6 := 1001) rfl .int .int .int .int .int .int Tryz.underlying81 (by kernel_rfl)) rfl rfl (nB rfl) ?_
 refine ARun.cur (id := 0) rfl (v_Among n F hF 0 0 (by omega) (by omega) ([(-1), 0, 1, 7, 1000, 1001] : List Int) ⟨by decide, by decide⟩) f70_ ⟨.inr (.tmp rfl), .inl ⟨_, (.tmp rfl), .frs⟩, trivial⟩ rfl rfl rfl (nB rfl) (fun x1 p2 sd3 hc4 => ?_)
 obtain ⟨hc4x, hc4c⟩ := hc4
 obtain ⟨hc41, hc42, hc43⟩ := hc4c
 refine pu (.assign rfl (.tmp rfl)) rfl rfl rfl ?_
 refine ARun.nil ?_
 exact AW.ret (show ∃ x s, _ ∧ ResL _ _ [.tmp 2] s ∧ FvS _ s _ from ⟨x1, _, trivial, .inl ⟨_, rfl, .tmp rfl⟩, .int⟩)
theorem v_DrawSayText (n : Nat) (F : Nat → Nat) (hF : ∀ i, F i < 256) : FnE Tryz.prog 11 [.one (.lst 1 n (fun i _ => .int .u8 ((F i : Nat) : Int)))] (fun (x : GSay) => True) (fun (x : GSay) => .agg [.str x.name, .int .i64 x.at_, .int .i64 x.value]) := by
 refine FnE.of_body (fn := Tryz.f11) Tryz.func11 rfl (nB rfl) ?_
 intro w0
 show AW _ 9 _ _ _ _
 refine AW.cv (t := 0) rfl (fun c0 => ?_)
 refine AW.seq ?_
 refine AW.region ?_
 refine ARun.alloc (id := 0) (l := [.str ByteArray.empty, .int .i64 0, .int .i64 0]) (z := (.agg #[.string ByteArray.empty, .int .i64 0, .int .i64 0])) rfl (by kernel_rfl) (fun _ _ _ => ⟨_, _, rfl, ⟨rfl, by decide⟩, ⟨_, _, rfl, rfl, ⟨_, _, rfl, rfl, rfl⟩⟩⟩) ⟨rfl, (by repeat first | exact trivial | refine ⟨by decide, by first | rfl | exact trivial | (intro i j; first | rfl | exact getD_no rfl | (dsimp only; split <;> first | rfl | exact getD_no rfl) | exact scl_no (by apply_assumption) _), ?_⟩)⟩ rfl rfl rfl (nB rfl) ?_
 refine ARun.nil ?_
 refine AW.seq ?_
 refine AW.region ?_
 refine pu (.move rfl (.tmp rfl)) rfl rfl rfl ?_
 refine pu (.build (ys := [.cv c0 (.lst 1 n (fun i _ => .int .u8 ((F i : Nat) : Int)))]) (l := [.con (.slice none 0 0), .int .i64 0, .int .u64 0]) (pl := [(0, 1), (1, 1), (2, 1)]) (z := (.agg #[.slice none 0 0, .int .i64 0, .int .u64 0])) rfl (by kernel_rfl) (by kernel_rfl) (fun _ _ _ => ⟨_, _, rfl, rfl, ⟨_, _, rfl, rfl, ⟨_, _, rfl, rfl, rfl⟩⟩⟩) ⟨(.tmp rfl), trivial, rfl, trivial⟩ rfl) rfl rfl rfl ?_
 refine ARun.box (id := 1) rfl (.tmp rfl) (SV.cells_of (by exact ⟨trivial, trivial, trivial, trivial⟩)) ⟨rfl, (by repeat first | exact trivial | refine ⟨by decide, by first | rfl | exact trivial | (intro i j; first | rfl | exact getD_no rfl | (dsimp only; split <;> first | rfl | exact getD_no rfl) | exact scl_no (by apply_assumption) _), ?_⟩)⟩ rfl rfl rfl (nB rfl) ?_
 refine pu (.assign rfl (.tmp rfl)) rfl rfl rfl ?_
 refine ARun.nil ?_
 refine AW.seq ?_
 refine AW.region ?_
 refine pu (.move rfl (.tmp rfl)) rfl rfl rfl ?_
 refine ARun.cur (id := 1) rfl (v_Say n F hF 0 0 (by omega) (by omega)) f68_ ⟨.inr (.tmp rfl), trivial⟩ rfl rfl rfl (nB rfl) (fun x1 p2 sd3 hc4 => ?_)
 have hc4c := hc4
 obtain ⟨hc41, hc42, hc43⟩ := hc4c
 refine ARun.store rfl (.tmp rfl) (.tmp rfl) (SV.cells_of (by exact ⟨trivial, trivial, trivial, trivial⟩)) rfl (nB rfl) f62_ rfl rfl ?_
 refine ARun.nil ?_
 exact AW.ret (show ∃ x s, _ ∧ ResL _ _ [.cell 2 34] s ∧ FvS _ s _ from ⟨x1, _, trivial, .inl ⟨_, rfl, .cells rfl f58_ rfl rfl (nB rfl) (nB rfl)⟩, ⟨.str, .int, .int, trivial⟩⟩)
theorem v_DrawReadHead (n : Nat) (F : Nat → Nat) (hF : ∀ i, F i < 256) : FnE Tryz.prog 9 [.one (.lst 1 n (fun i _ => .int .u8 ((F i : Nat) : Int)))] (fun (x : ByteArray) => x.size ≤ 17010) (fun (x : ByteArray) => .one (.str x)) := by
 refine FnE.of_body (fn := Tryz.f9) Tryz.func9 rfl (nB rfl) ?_
 intro w0
 show AW _ 21 _ _ _ _
 refine AW.cv (t := 0) rfl (fun c0 => ?_)
 refine AW.seq ?_
 refine AW.region ?_
 refine pu (.assign rfl (.str (by decide))) rfl rfl rfl ?_
 refine ARun.nil ?_
 refine AW.seq ?_
 refine AW.region ?_
 refine pu (.move rfl (.tmp rfl)) rfl rfl rfl ?_
 refine pu (.build (ys := [.cv c0 (.lst 1 n (fun i _ => .int .u8 ((F i : Nat) : Int)))]) (l := [.con (.slice none 0 0), .int .i64 0, .int .u64 0]) (pl := [(0, 1), (1, 1), (2, 1)]) (z := (.agg #[.slice none 0 0, .int .i64 0, .int .u64 0])) rfl (by kernel_rfl) (by kernel_rfl) (fun _ _ _ => ⟨_, _, rfl, rfl, ⟨_, _, rfl, rfl, ⟨_, _, rfl, rfl, rfl⟩⟩⟩) ⟨(.tmp rfl), trivial, rfl, trivial⟩ rfl) rfl rfl rfl ?_
 refine ARun.box (id := 0) rfl (.tmp rfl) (SV.cells_of (by exact ⟨trivial, trivial, trivial, trivial⟩)) ⟨rfl, (by repeat first | exact trivial | refine ⟨by decide, by first | rfl | exact trivial | (intro i j; first | rfl | exact getD_no rfl | (dsimp only; split <;> first | rfl | exact getD_no rfl) | exact scl_no (by apply_assumption) _), ?_⟩)⟩ rfl rfl rfl (nB rfl) ?_
 refine pu (.assign rfl (.tmp rfl)) rfl rfl rfl ?_
 refine ARun.nil ?_
 refine AW.seq ?_
 refine AW.region ?_
 refine pu (.move rfl (.tmp rfl)) rfl rfl rfl ?_
 refine ARun.cur (id := 0) rfl (v_Head n F hF 0 0 (by omega) (by omega)) f91_ ⟨.inr (.tmp rfl), trivial⟩ rfl rfl rfl (nB rfl) (fun x1 p2 sd3 hc4 => ?_)
 obtain ⟨hc4x, hc4c⟩ := hc4
 obtain ⟨hc41, hc42, hc43⟩ := hc4c
 have hvs := headV_size x1
 refine pu (.call rfl (v_sHeadText x1) ⟨⟨_, (.tmp rfl), ⟨.frs, .int, trivial⟩⟩, trivial⟩ f93_ ⟨headV_plain _, trivial⟩) rfl rfl rfl ?_
 refine pu (.move rfl (.tmp rfl)) rfl rfl rfl ?_
 refine pu (.ext2a rfl (.tmp rfl)) rfl rfl rfl ?_
 refine pu (.ext2b rfl (.tmp rfl)) rfl rfl rfl ?_
 refine pu (.assign rfl (.tmp rfl)) rfl rfl rfl ?_
 refine pu (.assign rfl (.tmp rfl)) rfl rfl rfl ?_
 refine ARun.nil ?_
 refine AW.seq ?_
 refine AW.seq ?_
 refine AW.region ?_
 refine pu (.move rfl (.tmp rfl)) rfl rfl rfl ?_
 refine ARun.cur (id := 0) rfl (v_One n F hF p2 sd3 (by omega) (by omega) 3 (by omega)) f67_ ⟨.inr (.tmp rfl), .inl ⟨_, .int, .int⟩, trivial⟩ rfl rfl rfl (nB rfl) (fun x5 p6 sd7 hc8 => ?_)
 have hc8c := hc8
 obtain ⟨hc81, hc82, hc83⟩ := hc8c
 refine ARun.nil ?_
 refine AW.cond (.tmp rfl) (fun hb9 => ?_) (fun hb9 => ?_)
 ·
  refine AW.region ?_
  refine pu (.move rfl (.tmp rfl)) rfl rfl rfl ?_
  refine pu (.move rfl (.tmp rfl)) rfl rfl rfl ?_
  refine ARun.cur (id := 0) rfl (v_Spoilt n F hF p6 sd7 (by omega) (by omega) ((headV x1).1) (⟨#[32, 45, 48, 49, 97, 10]⟩ : ByteArray) (by omega) ⟨by decide, by decide⟩) f92_ ⟨.inr (.tmp rfl), .inl ⟨_, (.tmp rfl), .str⟩, .inl ⟨_, (.str (by decide)), .str⟩, trivial⟩ rfl rfl rfl (nB rfl) (fun x10 p11 sd12 hc13 => ?_)
  obtain ⟨hc13x, hc13c⟩ := hc13
  obtain ⟨hc131, hc132, hc133⟩ := hc13c
  refine pu (.assign rfl (.tmp rfl)) rfl rfl rfl ?_
  refine ARun.nil ?_
  refine AW.seq ?_
  refine AW.region ?_
  refine pu (.move rfl (.tmp rfl)) rfl rfl rfl ?_
  refine pu (.assign rfl (.tmp rfl)) rfl rfl rfl ?_
  refine ARun.nil ?_
  exact AW.ret (show ∃ x s, _ ∧ ResL _ _ [.tmp 2] s ∧ FvS _ s _ from ⟨x10, _, (by show (x10).size ≤ _; omega), .inl ⟨_, rfl, .tmp rfl⟩, .str⟩)
 ·
  refine AW.skip ?_
  refine AW.seq ?_
  refine AW.region ?_
  refine pu (.move rfl (.tmp rfl)) rfl rfl rfl ?_
  refine pu (.assign rfl (.tmp rfl)) rfl rfl rfl ?_
  refine ARun.nil ?_
  exact AW.ret (show ∃ x s, _ ∧ ResL _ _ [.tmp 2] s ∧ FvS _ s _ from ⟨(headV x1).1, _, (by show ((headV x1).1).size ≤ _; omega), .inl ⟨_, rfl, .tmp rfl⟩, .str⟩)
theorem v_DrawReadSay (n : Nat) (F : Nat → Nat) (hF : ∀ i, F i < 256) : FnE Tryz.prog 14 [.one (.lst 1 n (fun i _ => .int .u8 ((F i : Nat) : Int)))] (fun (x : ByteArray) => x.size ≤ 70) (fun (x : ByteArray) => .one (.str x)) := by
 refine FnE.of_body (fn := Tryz.f14) Tryz.func14 rfl (nB rfl) ?_
 intro w0
 show AW _ 21 _ _ _ _
 refine AW.cv (t := 0) rfl (fun c0 => ?_)
 refine AW.seq ?_
 refine AW.region ?_
 refine pu (.assign rfl (.str (by decide))) rfl rfl rfl ?_
 refine ARun.nil ?_
 refine AW.seq ?_
 refine AW.region ?_
 refine pu (.move rfl (.tmp rfl)) rfl rfl rfl ?_
 refine pu (.build (ys := [.cv c0 (.lst 1 n (fun i _ => .int .u8 ((F i : Nat) : Int)))]) (l := [.con (.slice none 0 0), .int .i64 0, .int .u64 0]) (pl := [(0, 1), (1, 1), (2, 1)]) (z := (.agg #[.slice none 0 0, .int .i64 0, .int .u64 0])) rfl (by kernel_rfl) (by kernel_rfl) (fun _ _ _ => ⟨_, _, rfl, rfl, ⟨_, _, rfl, rfl, ⟨_, _, rfl, rfl, rfl⟩⟩⟩) ⟨(.tmp rfl), trivial, rfl, trivial⟩ rfl) rfl rfl rfl ?_
 refine ARun.box (id := 0) rfl (.tmp rfl) (SV.cells_of (by exact ⟨trivial, trivial, trivial, trivial⟩)) ⟨rfl, (by repeat first | exact trivial | refine ⟨by decide, by first | rfl | exact trivial | (intro i j; first | rfl | exact getD_no rfl | (dsimp only; split <;> first | rfl | exact getD_no rfl) | exact scl_no (by apply_assumption) _), ?_⟩)⟩ rfl rfl rfl (nB rfl) ?_
 refine pu (.assign rfl (.tmp rfl)) rfl rfl rfl ?_
 refine ARun.nil ?_
 refine AW.seq ?_
 refine AW.region ?_
 refine pu (.move rfl (.tmp rfl)) rfl rfl rfl ?_
 refine ARun.cur (id := 0) rfl (v_Say n F hF 0 0 (by omega) (by omega)) f68_ ⟨.inr (.tmp rfl), trivial⟩ rfl rfl rfl (nB rfl) (fun x1 p2 sd3 hc4 => ?_)
 have hc4c := hc4
 obtain ⟨hc41, hc42, hc43⟩ := hc4c
 have hvs := sayV_size x1
 refine pu (.call rfl (v_sSayText x1) ⟨⟨_, (.tmp rfl), ⟨.str, .int, .int, trivial⟩⟩, trivial⟩ f88_ ⟨sayV_plain _, trivial⟩) rfl rfl rfl ?_
 refine pu (.move rfl (.tmp rfl)) rfl rfl rfl ?_
 refine pu (.ext2a rfl (.tmp rfl)) rfl rfl rfl ?_
 refine pu (.ext2b rfl (.tmp rfl)) rfl rfl rfl ?_
 refine pu (.assign rfl (.tmp rfl)) rfl rfl rfl ?_
 refine pu (.assign rfl (.tmp rfl)) rfl rfl rfl ?_
 refine ARun.nil ?_
 refine AW.seq ?_
 refine AW.seq ?_
 refine AW.region ?_
 refine pu (.move rfl (.tmp rfl)) rfl rfl rfl ?_
 refine ARun.cur (id := 0) rfl (v_One n F hF p2 sd3 (by omega) (by omega) 3 (by omega)) f67_ ⟨.inr (.tmp rfl), .inl ⟨_, .int, .int⟩, trivial⟩ rfl rfl rfl (nB rfl) (fun x5 p6 sd7 hc8 => ?_)
 have hc8c := hc8
 obtain ⟨hc81, hc82, hc83⟩ := hc8c
 refine ARun.nil ?_
 refine AW.cond (.tmp rfl) (fun hb9 => ?_) (fun hb9 => ?_)
 ·
  refine AW.region ?_
  refine pu (.move rfl (.tmp rfl)) rfl rfl rfl ?_
  refine pu (.move rfl (.tmp rfl)) rfl rfl rfl ?_
  refine ARun.cur (id := 0) rfl (v_Spoilt n F hF p6 sd7 (by omega) (by omega) ((sayV x1).1) (⟨#[32, 45, 48, 49, 97]⟩ : ByteArray) (by omega) ⟨by decide, by decide⟩) f92_ ⟨.inr (.tmp rfl), .inl ⟨_, (.tmp rfl), .str⟩, .inl ⟨_, (.str (by decide)), .str⟩, trivial⟩ rfl rfl rfl (nB rfl) (fun x10 p11 sd12 hc13 => ?_)
  obtain ⟨hc13x, hc13c⟩ := hc13
  obtain ⟨hc131, hc132, hc133⟩ := hc13c
  refine pu (.assign rfl (.tmp rfl)) rfl rfl rfl ?_
  refine ARun.nil ?_
  refine AW.seq ?_
  refine AW.region ?_
  refine pu (.move rfl (.tmp rfl)) rfl rfl rfl ?_
  refine pu (.assign rfl (.tmp rfl)) rfl rfl rfl ?_
  refine ARun.nil ?_
  exact AW.ret (show ∃ x s, _ ∧ ResL _ _ [.tmp 2] s ∧ FvS _ s _ from ⟨x10, _, (by show (x10).size ≤ _; omega), .inl ⟨_, rfl, .tmp rfl⟩, .str⟩)
 ·
  refine AW.skip ?_
  refine AW.seq ?_
  refine AW.region ?_
  refine pu (.move rfl (.tmp rfl)) rfl rfl rfl ?_
  refine pu (.assign rfl (.tmp rfl)) rfl rfl rfl ?_
  refine ARun.nil ?_
  exact AW.ret (show ∃ x s, _ ∧ ResL _ _ [.tmp 2] s ∧ FvS _ s _ from ⟨(sayV x1).1, _, (by show ((sayV x1).1).size ≤ _; omega), .inl ⟨_, rfl, .tmp rfl⟩, .str⟩)
theorem eqGuardSample : Tryz.prog.eqGuardType Tryz.prog.depth 47 = false := by kernel_rfl
theorem equalSample (e f : GSample) (r : Bool) (hr : decide (e = f) = r) (w : World) :
    (Op.equalIn 10000 47 (.agg #[.int .i64 e.at_, .int .i64 e.value]) (.agg #[.int .i64 f.at_, .int .i64 f.value])).run Tryz.prog w = .ok r w := by
  subst hr
  have u3 := Tryz.underlying3
  have a3 := Tryz.isAgg3
  have z3 := Tryz.sizeOf3
  have hS : Tryz.prog.underlying 47 = some (.struct (Tryz.prog.fieldsOf 47)) := by kernel_rfl
  have hp : Tryz.prog.stoodInHeld 47 = false := by kernel_rfl
  rw [show (10000 : Nat) = 9999 + 1 from rfl, run_equalIn_agg w 9999 47 _ _ hS hp]
  simp only [Program.fieldsOf, Tryz.underlying47]
  obtain ⟨n, s⟩ := e
  obtain ⟨m, t⟩ := f
  go_simp
  by_cases h1 : n = m <;> by_cases h2 : s = t <;> simp [h1, h2]
theorem v_sameSmp (l : List GSample) : Fn Tryz.prog 27 [.one (.lst 2 l.length (fun i0 j0 => ([.int .i64 ((l.getD i0 (default : GSample)).at_), .int .i64 ((l.getD i0 (default : GSample)).value)] : List AV).getD j0 (.con undef))), .one (.lst 2 l.length (fun i0 j0 => ([.int .i64 ((l.getD i0 (default : GSample)).at_), .int .i64 ((l.getD i0 (default : GSample)).value)] : List AV).getD j0 (.con undef)))] (.one (.bool true)) := by
 refine Fn.of_body (fn := Tryz.f27) Tryz.func27 rfl (nB rfl) trivial ?_
 intro w0
 show AW _ 26 _ _ _ _
 refine AW.bound (t := 0) rfl fun hx => ?_
 refine AW.seq ?_
 refine AW.region ?_
 refine pu (.assign rfl .bool) rfl rfl rfl ?_
 refine ARun.nil ?_
 refine AW.seq ?_
 refine AW.seq ?_
 refine AW.region ?_
 refine pu (.move rfl (.tmp rfl)) rfl rfl rfl ?_
 refine pu (.lenLst rfl (.tmp rfl) f24_) rfl rfl rfl ?_
 refine pu (.move rfl (.tmp rfl)) rfl rfl rfl ?_
 refine pu (.lenLst rfl (.tmp rfl) f24_) rfl rfl rfl ?_
 refine pu (.intOp rfl (.tmp rfl) (.tmp rfl) rfl) rfl rfl rfl ?_
 refine ARun.nil ?_
 refine AW.cond (.tmp rfl) (fun hb1 => ?_) (fun hb1 => ?_)
 ·
  exact absurd (show (!decide ((l.length : Int) = (l.length : Int))) = false by simp) (by rw [hb1]; simp)
  --end
 ·
  have _h := hb1
  refine AW.skip ?_
  refine AW.seq ?_
  refine AW.seq ?_
  refine AW.region ?_
  refine pu (.move rfl (.tmp rfl)) rfl rfl rfl ?_
  refine pu (.lenLst rfl (.tmp rfl) f24_) rfl rfl rfl ?_
  refine pu (.move rfl .int) rfl rfl rfl ?_
  refine ARun.nil ?_
  refine AW.block ?_
  refine AW.loop (ι := Nat) (fun k => ⟨[(0, .one (.lst 2 l.length (fun i0 j0 => ([.int .i64 ((l.getD i0 (default : GSample)).at_), .int .i64 ((l.getD i0 (default : GSample)).value)] : List AV).getD j0 (.con undef)))), (1, .one (.lst 2 l.length (fun i0 j0 => ([.int .i64 ((l.getD i0 (default : GSample)).at_), .int .i64 ((l.getD i0 (default : GSample)).value)] : List AV).getD j0 (.con undef)))), (12, .one (.int .i64 (l.length : Int))), (13, .one (.int .i64 (k : Int)))], []⟩) (fun k => k ≤ l.length) (fun k => l.length - k) 0 (Nat.zero_le _) ⟨⟨⟨_, rfl, rfl⟩, ⟨_, rfl, rfl⟩, ⟨_, rfl, rfl⟩, ⟨_, rfl, rfl⟩, trivial⟩, trivial⟩ ?_
  intro k hk
  refine AW.seq ?_
  refine AW.region ?_
  refine pu (.intOp rfl (.tmp rfl) (.tmp rfl) rfl) rfl rfl rfl ?_
  refine ARun.nil ?_
  refine AW.seq ?_
  refine AW.cond (.tmp rfl) (fun hb2 => ?_) (fun hb2 => ?_)
  ·
   replace hb2 := of_decide_eq_true hb2
   have hkl : k < l.length := by omega
   refine AW.skip ?_
   refine AW.seq ?_
   refine AW.block ?_
   refine AW.seq ?_
   refine AW.region ?_
   refine pu (.move rfl (.tmp rfl)) rfl rfl rfl ?_
   refine pu (.assign rfl (.tmp rfl)) rfl rfl rfl ?_
   refine ARun.nil ?_
   refine AW.seq ?_
   refine AW.any (by kernel_rfl) (by kernel_rfl) ?_
   refine AD.pure (PureOp.move rfl (.tmp rfl)) rfl rfl (nB rfl) ?_
   refine AD.pure (PureOp.move rfl (.tmp rfl)) rfl rfl (nB rfl) ?_
   refine AD.pure (PureOp.indexLst (i := k) rfl (.tmp rfl) f23_ (.tmp rfl) rfl (by omega)) rfl rfl (nB rfl) ?_
   refine AD.pure (PureOp.loadRefAgg rfl (.tmp rfl) f21_ (nB rfl)) rfl rfl (nB rfl) ?_
   refine AD.pure (PureOp.move rfl (.tmp rfl)) rfl rfl (nB rfl) ?_
   refine AD.pure (PureOp.move rfl (.tmp rfl)) rfl rfl (nB rfl) ?_
   refine AD.pure (PureOp.indexLst (i := k) rfl (.tmp rfl) f23_ (.tmp rfl) rfl (by omega)) rfl rfl (nB rfl) ?_
   refine AD.pure (PureOp.loadRefAgg rfl (.tmp rfl) f21_ (nB rfl)) rfl rfl (nB rfl) ?_
   refine AD.pure (PureOp.neAgg rfl (.tmp rfl) (.tmp rfl) rfl rfl eqGuardSample (fun w_ => equalSample (l.getD k (default : GSample)) (l.getD k (default : GSample)) _ rfl w_)) rfl rfl (nB rfl) ?_
   refine AD.nil ?_
   refine AW.cond (.tmp rfl) (fun hb3 => ?_) (fun hb3 => ?_)
   ·
    exact absurd (show (!(decide ((l.getD k (default : GSample)) = (l.getD k (default : GSample))))) = false by simp) (by rw [hb3]; simp)
    --end
   ·
    have _h := hb3
    refine AW.skip ?_
    refine AW.region ?_
    refine pu (.add (c := ((k + 1 : Nat) : Int)) rfl (.tmp rfl) .int (by rw [wrap_id (by omega) (by omega)]; omega)) rfl rfl rfl ?_
    refine pu (.move rfl (.tmp rfl)) rfl rfl rfl ?_
    refine ARun.nil ?_
    exact ⟨k + 1, by omega, by dsimp only; omega, ⟨⟨⟨_, rfl, rfl⟩, ⟨_, rfl, rfl⟩, ⟨_, rfl, rfl⟩, ⟨_, rfl, rfl⟩, trivial⟩, trivial⟩⟩
  ·
   replace hb2 := of_decide_eq_false hb2
   have hkl : ¬ k < l.length := by omega
   refine AW.exit ?_
   refine AW.seq ?_
   refine AW.region ?_
   refine pu (.assign rfl .bool) rfl rfl rfl ?_
   refine ARun.nil ?_
   refine AW.ret (show ResL _ _ [.tmp 4] _ from resB rfl ?_)
   rfl
theorem v_sameHeads (h : GHead) : Fn Tryz.prog 8 [.agg [.lst 2 h.rows.length (fun i0 j0 => ([.str ((h.rows.getD i0 (default : GRow)).name), .lst 2 (((h.rows.getD i0 (default : GRow)).samples).length) (fun i1 j1 => ([.int .i64 ((((h.rows.getD i0 (default : GRow)).samples).getD i1 (default : GSample)).at_), .int .i64 ((((h.rows.getD i0 (default : GRow)).samples).getD i1 (default : GSample)).value)] : List AV).getD j1 (.con undef))] : List AV).getD j0 (.con undef)), .int .i64 h.offset], .agg [.lst 2 h.rows.length (fun i0 j0 => ([.str ((h.rows.getD i0 (default : GRow)).name), .lst 2 (((h.rows.getD i0 (default : GRow)).samples).length) (fun i1 j1 => ([.int .i64 ((((h.rows.getD i0 (default : GRow)).samples).getD i1 (default : GSample)).at_), .int .i64 ((((h.rows.getD i0 (default : GRow)).samples).getD i1 (default : GSample)).value)] : List AV).getD j1 (.con undef))] : List AV).getD j0 (.con undef)), .int .i64 h.offset]] (.one (.bool true)) := by
 refine Fn.of_body (fn := Tryz.f8) Tryz.func8 rfl (nB rfl) trivial ?_
 intro w0
 show AW _ 56 _ _ _ _
 refine AW.boundAL (t := 0) (j := 0) rfl rfl fun hx => ?_
 refine AW.seq ?_
 refine AW.region ?_
 refine ARun.box (id := 0) rfl (.tmp rfl) (SV.cells_of (by exact ⟨trivial, trivial, trivial⟩)) ⟨rfl, (by repeat first | exact trivial | refine ⟨by decide, by first | rfl | exact trivial | (intro i j; first | rfl | exact getD_no rfl | (dsimp only; split <;> first | rfl | exact getD_no rfl) | exact scl_no (by apply_assumption) _), ?_⟩)⟩ rfl rfl rfl (nB rfl) ?_
 refine ARun.box (id := 1) rfl (.tmp rfl) (SV.cells_of (by exact ⟨trivial, trivial, trivial⟩)) ⟨rfl, (by repeat first | exact trivial | refine ⟨by decide, by first | rfl | exact trivial | (intro i j; first | rfl | exact getD_no rfl | (dsimp only; split <;> first | rfl | exact getD_no rfl) | exact scl_no (by apply_assumption) _), ?_⟩)⟩ rfl rfl rfl (nB rfl) ?_
 refine pu (.assign rfl .bool) rfl rfl rfl ?_
 refine ARun.nil ?_
 refine AW.seq ?_
 refine AW.seq ?_
 refine AW.region ?_
 refine pu (.fieldPtr rfl (.tmp rfl) f30_) rfl rfl rfl ?_
 refine pu (.loadPtr rfl (.tmp rfl) f9_ rfl rfl (nB rfl) (nB rfl)) rfl rfl rfl ?_
 refine pu (.fieldPtr rfl (.tmp rfl) f30_) rfl rfl rfl ?_
 refine pu (.loadPtr rfl (.tmp rfl) f9_ rfl rfl (nB rfl) (nB rfl)) rfl rfl rfl ?_
 refine pu (.intOp rfl (.tmp rfl) (.tmp rfl) rfl) rfl rfl rfl ?_
 refine pu (.move rfl (.tmp rfl)) rfl rfl rfl ?_
 refine ARun.gpure (want := false) (.tf rfl) (fun hg1 => PureOp.fieldPtr rfl (.tmp rfl) f29_) rfl rfl (nB rfl) rfl (nB rfl) ?_
 refine ARun.gpure (want := false) (.tf rfl) (fun hg2 => PureOp.loadPtr rfl (.gtmp rfl hg2) f33_ rfl rfl (nB rfl) (nB rfl)) rfl rfl (nB rfl) rfl (nB rfl) ?_
 refine ARun.gpure (want := false) (.tf rfl) (fun hg3 => PureOp.lenLst rfl (.gtmp rfl hg3) f35_) rfl rfl (nB rfl) rfl (nB rfl) ?_
 refine ARun.gpure (want := false) (.tf rfl) (fun hg4 => PureOp.fieldPtr rfl (.tmp rfl) f29_) rfl rfl (nB rfl) rfl (nB rfl) ?_
 refine ARun.gpure (want := false) (.tf rfl) (fun hg5 => PureOp.loadPtr rfl (.gtmp rfl hg5) f33_ rfl rfl (nB rfl) (nB rfl)) rfl rfl (nB rfl) rfl (nB rfl) ?_
 refine ARun.gpure (want := false) (.tf rfl) (fun hg6 => PureOp.lenLst rfl (.gtmp rfl hg6) f35_) rfl rfl (nB rfl) rfl (nB rfl) ?_
 refine ARun.gpure (want := false) (.tf rfl) (fun hg7 => PureOp.intOp rfl (.gtmp rfl hg7) (.gtmp rfl hg7) rfl) rfl rfl (nB rfl) rfl (nB rfl) ?_
 refine pu (.pick rfl (.tmp rfl) (fun _ => .bool) (fun hp9 => .gtmp rfl (not_of hp9))) rfl rfl rfl ?_
 refine ARun.nil ?_
 refine AW.cond (.tmp rfl) (fun hb10 => ?_) (fun hb10 => ?_)
 ·
  exact absurd (show (cond (!decide (h.offset = h.offset)) true (!decide ((h.rows.length : Int) = (h.rows.length : Int)))) = false by simp) (by rw [hb10]; simp)
  --end
 ·
  have _h := hb10
  refine AW.skip ?_
  refine AW.seq ?_
  refine AW.seq ?_
  refine AW.region ?_
  refine pu (.fieldPtr rfl (.tmp rfl) f29_) rfl rfl rfl ?_
  refine pu (.loadPtr rfl (.tmp rfl) f33_ rfl rfl (nB rfl) (nB rfl)) rfl rfl rfl ?_
  refine pu (.lenLst rfl (.tmp rfl) f35_) rfl rfl rfl ?_
  refine pu (.move rfl .int) rfl rfl rfl ?_
  refine ARun.nil ?_
  refine AW.block ?_
  refine AW.loop (ι := Nat) (fun k => ⟨[(2, .one (.ptr 0 2 0 0)), (3, .one (.ptr 1 2 0 0)), (22, .one (.int .i64 (h.rows.length : Int))), (23, .one (.int .i64 (k : Int)))], [(0, .cells [.lst 2 h.rows.length (fun i0 j0 => ([.str ((h.rows.getD i0 (default : GRow)).name), .lst 2 (((h.rows.getD i0 (default : GRow)).samples).length) (fun i1 j1 => ([.int .i64 ((((h.rows.getD i0 (default : GRow)).samples).getD i1 (default : GSample)).at_), .int .i64 ((((h.rows.getD i0 (default : GRow)).samples).getD i1 (default : GSample)).value)] : List AV).getD j1 (.con undef))] : List AV).getD j0 (.con undef)), .int .i64 h.offset]), (1, .cells [.lst 2 h.rows.length (fun i0 j0 => ([.str ((h.rows.getD i0 (default : GRow)).name), .lst 2 (((h.rows.getD i0 (default : GRow)).samples).length) (fun i1 j1 => ([.int .i64 ((((h.rows.getD i0 (default : GRow)).samples).getD i1 (default : GSample)).at_), .int .i64 ((((h.rows.getD i0 (default : GRow)).samples).getD i1 (default : GSample)).value)] : List AV).getD j1 (.con undef))] : List AV).getD j0 (.con undef)), .int .i64 h.offset])]⟩) (fun k => k ≤ h.rows.length) (fun k => h.rows.length - k) 0 (Nat.zero_le _) ⟨⟨⟨_, rfl, rfl⟩, ⟨_, rfl, rfl⟩, ⟨_, rfl, rfl⟩, ⟨_, rfl, rfl⟩, trivial⟩, HeapLe.one rfl (HeapLe.one rfl trivial)⟩ ?_
  intro k hk
  refine AW.seq ?_
  refine AW.region ?_
  refine pu (.intOp rfl (.tmp rfl) (.tmp rfl) rfl) rfl rfl rfl ?_
  refine ARun.nil ?_
  refine AW.seq ?_
  refine AW.cond (.tmp rfl) (fun hb11 => ?_) (fun hb11 => ?_)
  ·
   replace hb11 := of_decide_eq_true hb11
   have hkl : k < h.rows.length := by omega
   refine AW.skip ?_
   refine AW.seq ?_
   refine AW.block ?_
   refine AW.seq ?_
   refine AW.region ?_
   refine pu (.move rfl (.tmp rfl)) rfl rfl rfl ?_
   refine pu (.assign rfl (.tmp rfl)) rfl rfl rfl ?_
   refine ARun.nil ?_
   refine AW.seq ?_
   refine AW.any (by kernel_rfl) (by kernel_rfl) ?_
   refine AD.pure (PureOp.fieldPtr rfl (.tmp rfl) f29_) rfl rfl (nB rfl) ?_
   refine AD.pure (PureOp.loadPtr rfl (.tmp rfl) f33_ rfl rfl (nB rfl) (nB rfl)) rfl rfl (nB rfl) ?_
   refine AD.pure (PureOp.move rfl (.tmp rfl)) rfl rfl (nB rfl) ?_
   refine AD.pure (PureOp.indexLst (i := k) rfl (.tmp rfl) f28_ (.tmp rfl) rfl (by omega)) rfl rfl (nB rfl) ?_
   refine AD.pure (PureOp.fieldRef rfl (.tmp rfl) f31_ (nB rfl)) rfl rfl (nB rfl) ?_
   refine AD.pure (PureOp.loadRef rfl (.tmp rfl) f12_ (nB rfl)) rfl rfl (nB rfl) ?_
   refine AD.pure (PureOp.fieldPtr rfl (.tmp rfl) f29_) rfl rfl (nB rfl) ?_
   refine AD.pure (PureOp.loadPtr rfl (.tmp rfl) f33_ rfl rfl (nB rfl) (nB rfl)) rfl rfl (nB rfl) ?_
   refine AD.pure (PureOp.move rfl (.tmp rfl)) rfl rfl (nB rfl) ?_
   refine AD.pure (PureOp.indexLst (i := k) rfl (.tmp rfl) f28_ (.tmp rfl) rfl (by omega)) rfl rfl (nB rfl) ?_
   refine AD.pure (PureOp.fieldRef rfl (.tmp rfl) f31_ (nB rfl)) rfl rfl (nB rfl) ?_
   refine AD.pure (PureOp.loadRef rfl (.tmp rfl) f12_ (nB rfl)) rfl rfl (nB rfl) ?_
   refine AD.pure (PureOp.strOp rfl (.tmp rfl) (.tmp rfl) rfl) rfl rfl (nB rfl) ?_
   refine AD.pure (PureOp.move rfl (.tmp rfl)) rfl rfl (nB rfl) ?_
   refine AD.gpure (want := false) (.tf rfl) (fun hg12 => PureOp.fieldPtr rfl (.tmp rfl) f29_) rfl rfl rfl (nB rfl) ?_
   refine AD.gpure (want := false) (.tf rfl) (fun hg13 => PureOp.loadPtr rfl (.gtmp rfl hg13) f33_ rfl rfl (nB rfl) (nB rfl)) rfl rfl rfl (nB rfl) ?_
   refine AD.gpure (want := false) (.tf rfl) (fun hg14 => PureOp.move rfl (.tmp rfl)) rfl rfl rfl (nB rfl) ?_
   refine AD.gpure (want := false) (.tf rfl) (fun hg15 => PureOp.indexLst (i := k) rfl (.gtmp rfl hg15) f28_ (.gtmp rfl hg15) rfl (by have q := hg15; simp only [Bool.cond_true_left, Bool.cond_false_right, Bool.not_eq_true', Bool.or_eq_false_iff, Bool.not_eq_false', Bool.and_eq_true, Bool.not_not, decide_eq_true_eq, decide_eq_false_iff_not, inB] at q; omega)) rfl rfl rfl (nB rfl) ?_
   refine AD.gpure (want := false) (.tf rfl) (fun hg16 => PureOp.fieldRef rfl (.gtmp rfl hg16) f32_ (nB rfl)) rfl rfl rfl (nB rfl) ?_
   refine AD.gpure (want := false) (.tf rfl) (fun hg17 => PureOp.loadRef rfl (.gtmp rfl hg17) f34_ (nB rfl)) rfl rfl rfl (nB rfl) ?_
   refine AD.gpure (want := false) (.tf rfl) (fun hg18 => PureOp.fieldPtr rfl (.tmp rfl) f29_) rfl rfl rfl (nB rfl) ?_
   refine AD.gpure (want := false) (.tf rfl) (fun hg19 => PureOp.loadPtr rfl (.gtmp rfl hg19) f33_ rfl rfl (nB rfl) (nB rfl)) rfl rfl rfl (nB rfl) ?_
   refine AD.gpure (want := false) (.tf rfl) (fun hg20 => PureOp.move rfl (.tmp rfl)) rfl rfl rfl (nB rfl) ?_
   refine AD.gpure (want := false) (.tf rfl) (fun hg21 => PureOp.indexLst (i := k) rfl (.gtmp rfl hg21) f28_ (.gtmp rfl hg21) rfl (by have q := hg21; simp only [Bool.cond_true_left, Bool.cond_false_right, Bool.not_eq_true', Bool.or_eq_false_iff, Bool.not_eq_false', Bool.and_eq_true, Bool.not_not, decide_eq_true_eq, decide_eq_false_iff_not, inB] at q; omega)) rfl rfl rfl (nB rfl) ?_
   refine AD.gpure (want := false) (.tf rfl) (fun hg22 => PureOp.fieldRef rfl (.gtmp rfl hg22) f32_ (nB rfl)) rfl rfl rfl (nB rfl) ?_
   refine AD.gpure (want := false) (.tf rfl) (fun hg23 => PureOp.loadRef rfl (.gtmp rfl hg23) f34_ (nB rfl)) rfl rfl rfl (nB rfl) ?_
   refine AD.gpure (want := false) (.tf rfl) (fun hg24 => PureOp.call rfl (v_sameSmp ((h.rows.getD k (default : GRow)).samples)) ⟨⟨_, (.gtmp rfl hg24), .lst⟩, ⟨_, (.gtmp rfl hg24), .lst⟩, trivial⟩ f89_ trivial) rfl rfl rfl (nB rfl) ?_
   refine AD.gpure (want := false) (.tf rfl) (fun hg25 => PureOp.not rfl (.gtmp rfl hg25)) rfl rfl rfl (nB rfl) ?_
   refine AD.pure (PureOp.pick rfl (.tmp rfl) (fun _ => .bool) (fun hp27 => .gtmp rfl (not_of hp27))) rfl rfl (nB rfl) ?_
   refine AD.nil ?_
   refine AW.cond (.tmp rfl) (fun hb28 => ?_) (fun hb28 => ?_)
   ·
    exact absurd (show (cond (!decide ((h.rows.getD k (default : GRow)).name = (h.rows.getD k (default : GRow)).name)) true (!true)) = false by simp) (by rw [hb28]; simp)
    --end
   ·
    have _h := hb28
    refine AW.skip ?_
    refine AW.region ?_
    refine pu (.add (c := ((k + 1 : Nat) : Int)) rfl (.tmp rfl) .int (by rw [wrap_id (by omega) (by omega)]; omega)) rfl rfl rfl ?_
    refine pu (.move rfl (.tmp rfl)) rfl rfl rfl ?_
    refine ARun.nil ?_
    exact ⟨k + 1, by omega, by dsimp only; omega, ⟨⟨⟨_, rfl, rfl⟩, ⟨_, rfl, rfl⟩, ⟨_, rfl, rfl⟩, ⟨_, rfl, rfl⟩, trivial⟩, HeapLe.one rfl (HeapLe.one rfl trivial)⟩⟩
  ·
   replace hb11 := of_decide_eq_false hb11
   have hkl : ¬ k < h.rows.length := by omega
   refine AW.exit ?_
   refine AW.seq ?_
   refine AW.region ?_
   refine pu (.assign rfl .bool) rfl rfl rfl ?_
   refine ARun.nil ?_
   refine AW.ret (show ResL _ _ [.tmp 4] _ from resB rfl ?_)
   rfl
theorem eqGuardSay : Tryz.prog.eqGuardType Tryz.prog.depth 34 = false := by kernel_rfl
theorem equalSay (e f : GSay) (r : Bool) (hr : decide (e = f) = r) (w : World) :
    (Op.equalIn 10000 34 (.agg #[.string e.name, .int .i64 e.at_, .int .i64 e.value]) (.agg #[.string f.name, .int .i64 f.at_, .int .i64 f.value])).run Tryz.prog w = .ok r w := by
  subst hr
  have u3 := Tryz.underlying3
  have a3 := Tryz.isAgg3
  have z3 := Tryz.sizeOf3
  have u9 := Tryz.underlying9
  have a9 := Tryz.isAgg9
  have z9 := Tryz.sizeOf9
  have hS : Tryz.prog.underlying 34 = some (.struct (Tryz.prog.fieldsOf 34)) := by kernel_rfl
  have hp : Tryz.prog.stoodInHeld 34 = false := by kernel_rfl
  rw [show (10000 : Nat) = 9999 + 1 from rfl, run_equalIn_agg w 9999 34 _ _ hS hp]
  simp only [Program.fieldsOf, Tryz.underlying34]
  obtain ⟨n, s, v⟩ := e
  obtain ⟨m, t, u⟩ := f
  go_simp
  have hnm : (n.toList = m.toList) ↔ (n = m) := ⟨toList_inj', fun h => by rw [h]⟩
  by_cases h1 : n = m <;> by_cases h2 : s = t <;> by_cases h3 : v = u <;> simp [hnm, h1, h2, h3]
theorem v_iReadV (s : ByteArray) (hs : s.size ≤ 1048576) (V : GSay × Bool) (hV : readV s = V) : FnF Tryz.prog 15 [.one (.str s)] (.tup2 (.agg [.str V.1.name, .int .i64 V.1.at_, .int .i64 V.1.value]) (.one (.bool V.2))) := hV ▸ v_iReadSay s hs
theorem v_iHeadV (s : ByteArray) (V : GHead × Bool) (hV : headRV s = V) : FnT Tryz.prog 7 [.one (.str s)] (.tup2 (.agg [.lst 2 V.1.rows.length (fun i0 j0 => ([.str ((V.1.rows.getD i0 (default : GRow)).name), .lst 2 (((V.1.rows.getD i0 (default : GRow)).samples).length) (fun i1 j1 => ([.int .i64 ((((V.1.rows.getD i0 (default : GRow)).samples).getD i1 (default : GSample)).at_), .int .i64 ((((V.1.rows.getD i0 (default : GRow)).samples).getD i1 (default : GSample)).value)] : List AV).getD j1 (.con undef))] : List AV).getD j0 (.con undef)), .int .i64 V.1.offset]) (.one (.bool V.2))) := hV ▸ v_iReadHead s
end Go.Proofs.YtonfeiloekofdaaGreatDoor

namespace Go.Proofs.YtonfeiloekofdaaGreatDoor
open Go.ChangeShapes Go.WideShapes Go.ChangeAt Go.RowKit Go.BigFrame Go.Deep
set_option linter.unusedVariables false
set_option linter.unusedSimpArgs false
theorem getD_get {α : Type} (d : α) {l : List α} {k : Nat} (hk : k < l.length) : l.getD k d = l[k] := by rw [List.getD_eq_getElem?_getD, List.getElem?_eq_getElem hk]; rfl
theorem pw_of {α : Type} {R : α → α → Prop} (d : α) (tr : ∀ a b c, R a b → R b c → R a c) {l : List α} (h : ∀ k, 0 < k → k < l.length → R (l.getD (k - 1) d) (l.getD k d)) : l.Pairwise R := by
  have lt : ∀ (e a : Nat), a + (e + 1) < l.length → R (l.getD a d) (l.getD (a + (e + 1)) d) := by
    intro e
    induction e with
    | zero => exact fun a ha => h (a + 1) (by omega) ha
    | succ e ih => exact fun a ha => tr _ _ _ (ih a (by omega)) (h (a + (e + 1 + 1)) (by omega) ha)
  refine List.pairwise_iff_getElem.2 fun i j hi hj hij => ?_
  obtain ⟨e, rfl⟩ : ∃ e, j = i + (e + 1) := ⟨j - i - 1, by omega⟩
  have := lt e i hj
  rwa [getD_get d hi, getD_get d hj] at this
theorem of_pw {α : Type} {R : α → α → Prop} (d : α) {l : List α} (h : l.Pairwise R) {i j : Nat} (hij : i < j) (hj : j < l.length) : R (l.getD i d) (l.getD j d) := by
  rw [getD_get d (by omega), getD_get d hj]
  exact List.pairwise_iff_getElem.1 h i j (by omega) hj hij
theorem smp_pw {l : List GSample} (h : samplesB l = true) : l.Pairwise fun a b => a.at_ < b.at_ :=
  pw_of (default : GSample) (fun a b c h1 h2 => by omega) fun k h0 hk => (sm_at h hk).2 h0
theorem smp_filter {l : List GSample} (h : samplesB l = true) (p : GSample → Bool) : samplesB (l.filter p) = true := by
  have hpw := (smp_pw h).filter p
  refine sm_of (fun k hk => ?_) (fun k h0 hk => of_pw _ hpw (by omega) hk) (Nat.le_trans (List.length_filter_le ..) (smp_40 h))
  have hm : (l.filter p).getD k (default : GSample) ∈ l.filter p := by rw [getD_get _ hk]; exact List.getElem_mem hk
  obtain ⟨i, hi, e⟩ := List.mem_iff_getElem.1 (List.mem_filter.1 hm).1
  have := (sm_at h hi).1
  rw [getD_get _ hi, e] at this
  exact this
def rowLt (a b : GRow) : Prop := Op.bytesLess a.name.toList b.name.toList = true
theorem rows_pw {l : List GRow} (h : GoodR l) : l.Pairwise rowLt := pw_of (R := rowLt) (default : GRow) (fun a b c h1 h2 => less_trans h1 h2) fun k h0 hk => h.ord k h0 hk
theorem trim_good {h : GHead} {x : Int} (hg : goodHead h = true) : goodHead (trimD h x) = true := by
  have G := GoodR.of (o := h.offset) hg
  have hof := good_off hg
  refine GoodR.good (l := trimL h x) ?_ (decide_eq_true hof)
  have hmem : ∀ k, k < (trimL h x).length → ∃ i, i < h.rows.length ∧ trimP x (h.rows.getD i (default : GRow)) = true ∧ (trimL h x).getD k (default : GRow) = trimR x (h.rows.getD i (default : GRow)) := fun k hk => by
    have hm : (trimL h x).getD k (default : GRow) ∈ trimL h x := by rw [getD_get _ hk]; exact List.getElem_mem hk
    obtain ⟨r, hr, e⟩ := List.mem_map.1 hm
    obtain ⟨hr1, hr2⟩ := List.mem_filter.1 hr
    obtain ⟨i, hi, rfl⟩ := List.mem_iff_getElem.1 hr1
    exact ⟨i, hi, by rw [getD_get _ hi]; exact hr2, by rw [getD_get (default : GRow) hi]; exact e.symm⟩
  have hpw : (trimL h x).Pairwise rowLt := by
    unfold trimL
    refine List.pairwise_map.2 ?_
    exact (rows_pw G).filter _
  refine ⟨fun k hk => ?_, fun k hk => ?_, fun k hk => ?_, fun k h0 hk => ?_, ?_⟩
  · obtain ⟨i, hi, _, e⟩ := hmem k hk; rw [e]; exact G.name i hi
  · obtain ⟨i, hi, hp, e⟩ := hmem k hk; rw [e]; exact of_decide_eq_true hp
  · obtain ⟨i, hi, _, e⟩ := hmem k hk; rw [e]; exact smp_filter (G.smps i hi) _
  · exact of_pw (default : GRow) hpw (by omega) hk
  · unfold trimL
    rw [List.length_map]
    exact Nat.le_trans (List.length_filter_le ..) G.len
theorem any_one {l : List GSample} {s : GSample} : l.any (fun y => decide (y = s)) = decide (s ∈ l) := by
  by_cases h : s ∈ l
  · rw [decide_eq_true h]
    exact List.any_eq_true.2 ⟨s, h, decide_eq_true rfl⟩
  · rw [decide_eq_false h, List.any_eq_false]
    intro y hy e
    exact h (of_decide_eq_true e ▸ hy)
theorem name_uniq {l : List GRow} (G : GoodR l) {i j : Nat} (hi : i < l.length) (hj : j < l.length) (e : (l.getD i (default : GRow)).name = (l.getD j (default : GRow)).name) : i = j := by
  have hpw := rows_pw G
  rcases Nat.lt_trichotomy i j with h | h | h
  · have := of_pw (default : GRow) hpw h hj
    unfold rowLt at this
    rw [e, less_irrefl] at this; cases this
  · exact h
  · have := of_pw (default : GRow) hpw h hi
    unfold rowLt at this
    rw [e, less_irrefl] at this; cases this
theorem trim_in {h : GHead} {x : Int} (hg : goodHead h = true) {i j : Nat} (hi : i < h.rows.length) (hj : j < (h.rows.getD i (default : GRow)).samples.length) :
    (rowV (trimV h x).1 (h.rows.getD i (default : GRow)).name).1.any (fun y => decide (y = (h.rows.getD i (default : GRow)).samples.getD j (default : GSample))) = decide (x ≤ ((h.rows.getD i (default : GRow)).samples.getD j (default : GSample)).at_) := by
  have hv : (trimV h x).1 = trimD h x := by unfold trimV; rw [if_pos hg]
  rw [hv]
  have G := GoodR.of (o := h.offset) hg
  have hsm : (h.rows.getD i (default : GRow)).samples.getD j (default : GSample) ∈ (h.rows.getD i (default : GRow)).samples := by rw [getD_get _ hj]; exact List.getElem_mem hj
  cases hp : trimP x (h.rows.getD i (default : GRow)) with
  | true =>
    have hat := trim_at hi hp
    have hlt : cntP (trimP x) h.rows i < (trimD h x).rows.length := by
      have h1 := (cntP_yes (default : GRow) hi hp).1
      have h3 : cntP (trimP x) h.rows (i + 1) ≤ (h.rows.filter (trimP x)).length := by
        unfold cntP
        exact (List.Sublist.filter _ (List.take_sublist _ _)).length_le
      show _ < (trimL h x).length
      unfold trimL
      rw [List.length_map]
      omega
    have hr := rowV_yes (h := trimD h x) (s := (h.rows.getD i (default : GRow)).name) (trim_good hg) hlt (by show ((trimL h x).getD _ (default : GRow)).name = _; rw [hat]; rfl)
    rw [hr]
    show ((trimL h x).getD _ (default : GRow)).samples.any _ = _
    rw [hat, any_one]
    refine decide_eq_decide.2 ?_
    show _ ∈ (h.rows.getD i (default : GRow)).samples.filter (late x) ↔ _
    rw [List.mem_filter]
    exact ⟨fun h => of_decide_eq_true h.2, fun h => ⟨hsm, decide_eq_true h⟩⟩
  | false =>
    have hno : ∀ k, k < (trimD h x).rows.length → ((trimD h x).rows.getD k (default : GRow)).name ≠ (h.rows.getD i (default : GRow)).name := fun k hk e => by
      have hk : k < (trimL h x).length := hk
      have hm : (trimL h x).getD k (default : GRow) ∈ trimL h x := by rw [getD_get _ hk]; exact List.getElem_mem hk
      obtain ⟨r, hr, er⟩ := List.mem_map.1 hm
      obtain ⟨hr1, hr2⟩ := List.mem_filter.1 hr
      obtain ⟨q, hq, rfl⟩ := List.mem_iff_getElem.1 hr1
      have e2 : ((trimL h x).getD k (default : GRow)).name = (h.rows.getD i (default : GRow)).name := e
      rw [← er] at e2
      have e3 : (h.rows.getD q (default : GRow)).name = (h.rows.getD i (default : GRow)).name := by rw [getD_get (default : GRow) hq]; exact e2
      have := name_uniq G hq hi e3
      subst this
      rw [getD_get (default : GRow) hq, hr2] at hp
      cases hp
    have hn := rowV_no hno
    have hr : rowV (trimD h x) (h.rows.getD i (default : GRow)).name = ([], false) := by unfold rowV; rw [if_neg (by rw [hn]; simp)]
    rw [hr]
    refine (decide_eq_false fun hx => ?_).symm
    have hpos : ¬ 0 < (trimS x (h.rows.getD i (default : GRow))).length := of_decide_eq_false hp
    refine hpos (List.length_pos_of_mem (a := (h.rows.getD i (default : GRow)).samples.getD j (default : GSample)) ?_)
    exact List.mem_filter.2 ⟨hsm, decide_eq_true hx⟩
def smpN (l : List GRow) (k : Nat) : Nat := ((l.take k).map fun r => r.samples.length).sum
theorem smpN_succ {l : List GRow} {k : Nat} (hk : k < l.length) : smpN l (k + 1) = smpN l k + (l.getD k (default : GRow)).samples.length := wt_take (f := fun r : GRow => r.samples.length) (default : GRow) hk
theorem smpN_le {h : GHead} (hg : goodHead h = true) (k : Nat) : smpN h.rows k ≤ 40 * k := by
  induction k with
  | zero => simp [smpN]
  | succ k ih =>
    by_cases hk : k < h.rows.length
    · rw [smpN_succ hk]
      have := smp_40 (good_at hg hk).2.2
      omega
    · have : smpN h.rows (k + 1) = smpN h.rows k := by unfold smpN; rw [List.take_of_length_le (by omega), List.take_of_length_le (by omega)]
      omega
theorem trim_sum (x : Int) : ∀ l : List GRow, (l.map fun r => r.samples.length).sum = (((l.filter (trimP x)).map (trimR x)).map fun r => r.samples.length).sum + (l.map fun r => r.samples.length - (trimS x r).length).sum
  | [] => rfl
  | r :: l => by
    have ih := trim_sum x l
    have hle := trimS_le x r
    cases hp : trimP x r with
    | true =>
      rw [List.filter_cons_of_pos hp]
      simp only [List.map_cons, List.sum_cons]
      rw [ih]
      show _ = (trimS x r).length + _ + _
      omega
    | false =>
      rw [List.filter_cons_of_neg (by rw [hp]; decide)]
      simp only [List.map_cons, List.sum_cons]
      rw [ih]
      have h0 : ¬ 0 < (trimS x r).length := of_decide_eq_false hp
      omega
theorem trim_count {h : GHead} {x : Int} (hg : goodHead h = true) : smpN h.rows h.rows.length = smpN (trimV h x).1.rows (trimV h x).1.rows.length + (trimV h x).2.1 := by
  have hv : trimV h x = (trimD h x, trimC h x h.rows.length, true) := by unfold trimV; rw [if_pos hg]
  rw [hv]
  show smpN h.rows h.rows.length = smpN (trimL h x) (trimL h x).length + trimC h x h.rows.length
  unfold smpN trimC
  rw [List.take_length, List.take_length]
  exact trim_sum x h.rows
theorem trimV_good {h : GHead} {x : Int} (hg : goodHead h = true) : goodHead (trimV h x).1 = true := by
  have hv : (trimV h x).1 = trimD h x := by unfold trimV; rw [if_pos hg]
  rw [hv]; exact trim_good hg
theorem trimV_ok {h : GHead} {x : Int} (e : (trimV h x).2.2 = true) : goodHead h = true := by
  cases hg : goodHead h with
  | true => rfl
  | false => unfold trimV at e; rw [if_neg (by rw [hg]; decide)] at e; cases e
theorem trimV_wt {h : GHead} {x : Int} (hg : goodHead h = true) : wtHead (trimV h x).1 ≤ 1000 := by
  have := good_wt (GoodR.of (o := (trimV h x).1.offset) (trimV_good (x := x) hg))
  exact Nat.le_trans this (by decide)
theorem headV_back {h : GHead} (e : (headV h).2 = true) : headRV (headV h).1 = (h, true) := by
  cases hg : goodHead h with
  | false => unfold headV at e; rw [if_neg (by rw [hg]; decide)] at e; cases e
  | true =>
    refine headRV_yes ⟨Nat.le_trans (headV_size h) (by decide), hg, ?_⟩
    unfold headV; rw [if_pos hg]
theorem sayV_back {x : GSay} (e : (sayV x).2 = true) : readV (sayV x).1 = (x, true) := by
  cases hg : sayB x with
  | false => unfold sayV at e; rw [if_neg (by rw [hg]; decide)] at e; cases e
  | true =>
    unfold sayV; rw [if_pos hg]; exact read_say hg
theorem rowV_40 {h : GHead} (hg : goodHead h = true) (s : ByteArray) : (rowV h s).1.length ≤ 40 := by
  unfold rowV
  by_cases hc : goodHead h = true ∧ isRow h s = true
  · rw [if_pos hc]
    exact smp_40 (good_at hg (row_lo hc.2)).2.2
  · rw [if_neg hc]; exact Nat.zero_le _
theorem AW.join {P : Program} {N : Nat} {w0 : Start} {σ : Sig} {x y : Code} {Q : Exit → Sig → Prop} (τ : Sig) (h2 : AW P N w0 y Q τ) (h1 : AW P N w0 y Q τ → AW P N w0 x (ThenA P N w0 y Q) σ) : AW P N w0 x (ThenA P N w0 y Q) σ := h1 h2
theorem nb {a b : Nat} (h : Nat.ble a b = true) : a ≤ b := Nat.le_of_ble_eq_true h
theorem any_more {α : Type} (d : α) {p : α → Bool} {l : List α} {k : Nat} (hk : k < l.length) : cond ((l.take k).any p) true (p (l.getD k d)) = (l.take (k + 1)).any p := by
  rw [take_one d hk, List.any_append]
  cases (l.take k).any p <;> simp
end Go.Proofs.YtonfeiloekofdaaGreatDoor

namespace Go.Proofs.YtonfeiloekofdaaGreatDoor
open Go.ChangeShapes Go.WideShapes Go.ChangeAt Go.RowKit Go.BigFrame Go.Deep
set_option linter.unusedVariables false
set_option linter.unusedSimpArgs false
theorem f94_ : boolB Tryz.prog 4 = true := by kernel_rfl
theorem f95_ : callB Tryz.prog 10 = true := by kernel_rfl
theorem f96_ : callB Tryz.prog 11 = true := by kernel_rfl
theorem f97_ : callB Tryz.prog 12 = true := by kernel_rfl
theorem f98_ : callB Tryz.prog 14 = true := by kernel_rfl
theorem f99_ : callB Tryz.prog 15 = true := by kernel_rfl
theorem f100_ : callB Tryz.prog 16 = true := by kernel_rfl
theorem f101_ : callB Tryz.prog 17 = true := by kernel_rfl
theorem f102_ : callB Tryz.prog 18 = true := by kernel_rfl
theorem f103_ : callB Tryz.prog 19 = true := by kernel_rfl
theorem f104_ : callB Tryz.prog 20 = true := by kernel_rfl
theorem f105_ : callB Tryz.prog 21 = true := by kernel_rfl
theorem f106_ : callB Tryz.prog 22 = true := by kernel_rfl
theorem f107_ : callB Tryz.prog 23 = true := by kernel_rfl
theorem f108_ : callB Tryz.prog 24 = true := by kernel_rfl
theorem f109_ : callB Tryz.prog 25 = true := by kernel_rfl
theorem f110_ : callB Tryz.prog 26 = true := by kernel_rfl
theorem f111_ : callB Tryz.prog 4 = true := by kernel_rfl
theorem f112_ : callB Tryz.prog 5 = true := by kernel_rfl
theorem f113_ : callB Tryz.prog 7 = true := by kernel_rfl
theorem f114_ : callB Tryz.prog 8 = true := by kernel_rfl
theorem f115_ : callB Tryz.prog 9 = true := by kernel_rfl
set_option maxHeartbeats 2000000 in
set_option maxRecDepth 20000 in
theorem law_FnHeadTexts (x0 x1 : List UInt8) : Fn Tryz.prog 3 [.one (.lst 1 x0.length (fun i0 _ => .int .u8 (((x0.getD i0 0).toNat : Nat) : Int))), .one (.lst 1 x1.length (fun i0 _ => .int .u8 (((x1.getD i0 0).toNat : Nat) : Int)))] (.one (.bool true)) := by
 refine Fn.of_body (fn := Tryz.f3) Tryz.func3 rfl (nb rfl) trivial ?_
 intro w0
 show AW _ 327 _ _ _ _
 refine AW.seq ?_
 refine AW.region ?_
 refine pu (.assign rfl .bool) rfl rfl rfl ?_
 refine ARun.nil ?_
 refine AW.seq ?_
 refine AW.seq ?_
 refine AW.region ?_
 refine pu (.move rfl (.tmp rfl)) rfl rfl rfl ?_
 refine pu (.lenLst rfl (.tmp rfl) f13_) rfl rfl rfl ?_
 refine pu (.move rfl (.tmp rfl)) rfl rfl rfl ?_
 refine pu (.lenLst rfl (.tmp rfl) f13_) rfl rfl rfl ?_
 refine pu (.intOp rfl (.tmp rfl) (.tmp rfl) rfl) rfl rfl rfl ?_
 refine pu (.intOp rfl (.tmp rfl) .int rfl) rfl rfl rfl ?_
 refine ARun.nil ?_
 refine AW.cond (.tmp rfl) (fun hb1 => ?_) (fun hb1 => ?_)
 ·
  have _h := hb1
  refine AW.seq ?_
  refine AW.region ?_
  refine pu (.assign rfl .bool) rfl rfl rfl ?_
  refine ARun.nil ?_
  refine AW.ret (show ResL _ _ [.tmp 4] _ from resB rfl ?_)
  first | rfl | simp
 ·
  have _h := hb1
  refine AW.skip ?_
  refine AW.seq ?_
  refine AW.region ?_
  refine pu (.move rfl (.tmp rfl)) rfl rfl rfl ?_
  refine ARun.draw rfl (v_DrawHeadText x0.length (fun i => (x0.getD i 0).toNat) (fun i => UInt8.toNat_lt _)) f111_ ⟨⟨_, (.tmp rfl), .lst⟩, trivial⟩ rfl rfl (nb rfl) (fun x2 hd3 => ?_)
  have hwH := hd3
  refine ARun.alloc (id := 0) (l := [.con (.slice none 0 0), .int .i64 0]) (z := (.agg #[.slice none 0 0, .int .i64 0])) rfl (by kernel_rfl) (fun _ _ _ => ⟨_, _, rfl, rfl, ⟨_, _, rfl, rfl, rfl⟩⟩) ⟨rfl, (by repeat first | exact trivial | refine ⟨by decide, rfl, ?_⟩)⟩ rfl rfl rfl (nb rfl) ?_
  refine ARun.store rfl (.tmp rfl) (.tmp rfl) (SV.cells_of (by exact ⟨trivial, trivial, trivial⟩)) rfl (nb rfl) f37_ rfl rfl ?_
  refine ARun.nil ?_
  refine AW.seq ?_
  refine AW.region ?_
  refine pu (.loadPtrAgg rfl (.tmp rfl) f26_ rfl rfl (nb rfl) (nb rfl)) rfl rfl rfl ?_
  refine pu (.call rfl (v_iHeadText x2) ⟨⟨_, (.tmp rfl), ⟨.frs, .int, trivial⟩⟩, trivial⟩ f112_ ⟨headV_plain _, trivial⟩) rfl rfl rfl ?_
  refine pu (.move rfl (.tmp rfl)) rfl rfl rfl ?_
  refine pu (.ext2a rfl (.tmp rfl)) rfl rfl rfl ?_
  refine pu (.ext2b rfl (.tmp rfl)) rfl rfl rfl ?_
  refine pu (.assign rfl (.tmp rfl)) rfl rfl rfl ?_
  refine pu (.assign rfl (.tmp rfl)) rfl rfl rfl ?_
  refine ARun.nil ?_
  refine AW.seq ?_
  refine AW.region ?_
  refine pu (.loadPtrAgg rfl (.tmp rfl) f26_ rfl rfl (nb rfl) (nb rfl)) rfl rfl rfl ?_
  refine pu (.call rfl (v_sHeadText x2) ⟨⟨_, (.tmp rfl), ⟨.frs, .int, trivial⟩⟩, trivial⟩ f93_ ⟨headV_plain _, trivial⟩) rfl rfl rfl ?_
  refine pu (.move rfl (.tmp rfl)) rfl rfl rfl ?_
  refine pu (.ext2a rfl (.tmp rfl)) rfl rfl rfl ?_
  refine pu (.ext2b rfl (.tmp rfl)) rfl rfl rfl ?_
  refine pu (.assign rfl (.tmp rfl)) rfl rfl rfl ?_
  refine pu (.assign rfl (.tmp rfl)) rfl rfl rfl ?_
  refine ARun.nil ?_
  refine AW.seq ?_
  refine AW.seq ?_
  refine AW.region ?_
  refine pu (.move rfl (.tmp rfl)) rfl rfl rfl ?_
  refine pu (.move rfl (.tmp rfl)) rfl rfl rfl ?_
  refine pu (.boolNe rfl (.tmp rfl) (.tmp rfl) f94_) rfl rfl rfl ?_
  refine pu (.move rfl (.tmp rfl)) rfl rfl rfl ?_
  refine ARun.gpure (want := false) (.tf rfl) (fun hg4 => PureOp.move rfl (.tmp rfl)) rfl rfl (nb rfl) rfl (nb rfl) ?_
  refine ARun.gpure (want := false) (.tf rfl) (fun hg5 => PureOp.move rfl (.tmp rfl)) rfl rfl (nb rfl) rfl (nb rfl) ?_
  refine ARun.gpure (want := false) (.tf rfl) (fun hg6 => PureOp.strOp rfl (.gtmp rfl hg6) (.gtmp rfl hg6) rfl) rfl rfl (nb rfl) rfl (nb rfl) ?_
  refine pu (.pick rfl (.tmp rfl) (fun _ => .bool) (fun hp8 => .gtmp rfl (not_of hp8))) rfl rfl rfl ?_
  refine ARun.nil ?_
  refine AW.cond (.tmp rfl) (fun hb9 => ?_) (fun hb9 => ?_)
  ·
   exact absurd (show (cond (!(((headV x2).2) == ((headV x2).2))) true (!decide ((headV x2).1 = (headV x2).1))) = false by simp) (by rw [hb9]; simp)
   --end
  ·
   have _h := hb9
   refine AW.skip ?_
   refine AW.seq ?_
   refine AW.seq ?_
   refine AW.region ?_
   refine pu (.move rfl (.tmp rfl)) rfl rfl rfl ?_
   refine ARun.nil ?_
   refine AW.join ⟨[(1, .one (.lst 1 x1.length (fun i0 _ => .int .u8 (((x1.getD i0 0).toNat : Nat) : Int))))], []⟩ ?_ (fun hj11 => ?_)
   ·
    refine AW.seq ?_
    refine AW.region ?_
    refine pu (.move rfl (.tmp rfl)) rfl rfl rfl ?_
    refine ARun.draw rfl (v_DrawReadHead x1.length (fun i => (x1.getD i 0).toNat) (fun i => UInt8.toNat_lt _)) f115_ ⟨⟨_, (.tmp rfl), .lst⟩, trivial⟩ rfl rfl (nb rfl) (fun x12 hd13 => ?_)
    have hwT := hd13
    refine pu (.assign rfl (.tmp rfl)) rfl rfl rfl ?_
    refine ARun.nil ?_
    refine AW.seq ?_
    refine AW.region ?_
    refine pu (.move rfl (.tmp rfl)) rfl rfl rfl ?_
    refine ARun.fresh (FreshOp.callS rfl (FnT.toF (v_iReadHead x12)) ⟨⟨_, (.tmp rfl), .str⟩, trivial⟩ f113_ rfl) rfl rfl (nb rfl) ?_
    refine pu (.move rfl (.tmp rfl)) rfl rfl rfl ?_
    refine pu (.ext2a rfl (.tmp rfl)) rfl rfl rfl ?_
    refine pu (.ext2b rfl (.tmp rfl)) rfl rfl rfl ?_
    refine ARun.alloc (id := 1) (l := [.con (.slice none 0 0), .int .i64 0]) (z := (.agg #[.slice none 0 0, .int .i64 0])) rfl (by kernel_rfl) (fun _ _ _ => ⟨_, _, rfl, rfl, ⟨_, _, rfl, rfl, rfl⟩⟩) ⟨rfl, (by repeat first | exact trivial | refine ⟨by decide, rfl, ?_⟩)⟩ rfl rfl rfl (nb rfl) ?_
    refine ARun.store rfl (.tmp rfl) (.tmp rfl) (SV.cells_of (by exact ⟨trivial, trivial, trivial⟩)) rfl (nb rfl) f37_ rfl rfl ?_
    refine pu (.assign rfl (.tmp rfl)) rfl rfl rfl ?_
    refine ARun.nil ?_
    refine AW.seq ?_
    refine AW.region ?_
    refine pu (.move rfl (.tmp rfl)) rfl rfl rfl ?_
    refine ARun.fresh (FreshOp.callS rfl (FnT.toF (v_sReadHead x12)) ⟨⟨_, (.tmp rfl), .str⟩, trivial⟩ f95_ rfl) rfl rfl (nb rfl) ?_
    refine pu (.move rfl (.tmp rfl)) rfl rfl rfl ?_
    refine pu (.ext2a rfl (.tmp rfl)) rfl rfl rfl ?_
    refine pu (.ext2b rfl (.tmp rfl)) rfl rfl rfl ?_
    refine ARun.alloc (id := 2) (l := [.con (.slice none 0 0), .int .i64 0]) (z := (.agg #[.slice none 0 0, .int .i64 0])) rfl (by kernel_rfl) (fun _ _ _ => ⟨_, _, rfl, rfl, ⟨_, _, rfl, rfl, rfl⟩⟩) ⟨rfl, (by repeat first | exact trivial | refine ⟨by decide, rfl, ?_⟩)⟩ rfl rfl rfl (nb rfl) ?_
    refine ARun.store rfl (.tmp rfl) (.tmp rfl) (SV.cells_of (by exact ⟨trivial, trivial, trivial⟩)) rfl (nb rfl) f37_ rfl rfl ?_
    refine pu (.assign rfl (.tmp rfl)) rfl rfl rfl ?_
    refine ARun.nil ?_
    refine AW.seq ?_
    refine AW.region ?_
    refine pu (.move rfl (.tmp rfl)) rfl rfl rfl ?_
    refine ARun.draw rfl (v_DrawSayText x1.length (fun i => (x1.getD i 0).toNat) (fun i => UInt8.toNat_lt _)) f96_ ⟨⟨_, (.tmp rfl), .lst⟩, trivial⟩ rfl rfl (nb rfl) (fun x14 hd15 => ?_)
    have hwX := hd15
    refine ARun.alloc (id := 3) (l := [.str ByteArray.empty, .int .i64 0, .int .i64 0]) (z := (.agg #[.string ByteArray.empty, .int .i64 0, .int .i64 0])) rfl (by kernel_rfl) (fun _ _ _ => ⟨_, _, rfl, ⟨rfl, by decide⟩, ⟨_, _, rfl, rfl, ⟨_, _, rfl, rfl, rfl⟩⟩⟩) ⟨rfl, (by repeat first | exact trivial | refine ⟨by decide, rfl, ?_⟩)⟩ rfl rfl rfl (nb rfl) ?_
    refine ARun.store rfl (.tmp rfl) (.tmp rfl) (SV.cells_of (by exact ⟨trivial, trivial, trivial, trivial⟩)) rfl (nb rfl) f62_ rfl rfl ?_
    refine ARun.nil ?_
    refine AW.seq ?_
    refine AW.region ?_
    refine pu (.loadPtrAgg rfl (.tmp rfl) f58_ rfl rfl (nb rfl) (nb rfl)) rfl rfl rfl ?_
    refine pu (.call rfl (v_iSayText x14) ⟨⟨_, (.tmp rfl), ⟨.str, .int, .int, trivial⟩⟩, trivial⟩ f97_ ⟨sayV_plain _, trivial⟩) rfl rfl rfl ?_
    refine pu (.move rfl (.tmp rfl)) rfl rfl rfl ?_
    refine pu (.ext2a rfl (.tmp rfl)) rfl rfl rfl ?_
    refine pu (.ext2b rfl (.tmp rfl)) rfl rfl rfl ?_
    refine pu (.assign rfl (.tmp rfl)) rfl rfl rfl ?_
    refine pu (.assign rfl (.tmp rfl)) rfl rfl rfl ?_
    refine ARun.nil ?_
    refine AW.seq ?_
    refine AW.region ?_
    refine pu (.loadPtrAgg rfl (.tmp rfl) f58_ rfl rfl (nb rfl) (nb rfl)) rfl rfl rfl ?_
    refine pu (.call rfl (v_sSayText x14) ⟨⟨_, (.tmp rfl), ⟨.str, .int, .int, trivial⟩⟩, trivial⟩ f88_ ⟨sayV_plain _, trivial⟩) rfl rfl rfl ?_
    refine pu (.move rfl (.tmp rfl)) rfl rfl rfl ?_
    refine pu (.ext2a rfl (.tmp rfl)) rfl rfl rfl ?_
    refine pu (.ext2b rfl (.tmp rfl)) rfl rfl rfl ?_
    refine pu (.assign rfl (.tmp rfl)) rfl rfl rfl ?_
    refine pu (.assign rfl (.tmp rfl)) rfl rfl rfl ?_
    refine ARun.nil ?_
    refine AW.seq ?_
    refine AW.region ?_
    refine pu (.move rfl (.tmp rfl)) rfl rfl rfl ?_
    refine ARun.draw rfl (v_DrawReadSay x1.length (fun i => (x1.getD i 0).toNat) (fun i => UInt8.toNat_lt _)) f98_ ⟨⟨_, (.tmp rfl), .lst⟩, trivial⟩ rfl rfl (nb rfl) (fun x16 hd17 => ?_)
    have hwV := hd17
    refine pu (.assign rfl (.tmp rfl)) rfl rfl rfl ?_
    refine ARun.nil ?_
    refine AW.seq ?_
    refine AW.region ?_
    refine pu (.move rfl (.tmp rfl)) rfl rfl rfl ?_
    refine ARun.fresh (FreshOp.callS rfl (v_iReadSay x16 (by omega)) ⟨⟨_, (.tmp rfl), .str⟩, trivial⟩ f99_ rfl) rfl rfl (nb rfl) ?_
    refine pu (.move rfl (.tmp rfl)) rfl rfl rfl ?_
    refine pu (.ext2a rfl (.tmp rfl)) rfl rfl rfl ?_
    refine pu (.ext2b rfl (.tmp rfl)) rfl rfl rfl ?_
    refine ARun.alloc (id := 4) (l := [.str ByteArray.empty, .int .i64 0, .int .i64 0]) (z := (.agg #[.string ByteArray.empty, .int .i64 0, .int .i64 0])) rfl (by kernel_rfl) (fun _ _ _ => ⟨_, _, rfl, ⟨rfl, by decide⟩, ⟨_, _, rfl, rfl, ⟨_, _, rfl, rfl, rfl⟩⟩⟩) ⟨rfl, (by repeat first | exact trivial | refine ⟨by decide, rfl, ?_⟩)⟩ rfl rfl rfl (nb rfl) ?_
    refine ARun.store rfl (.tmp rfl) (.tmp rfl) (SV.cells_of (by exact ⟨trivial, trivial, trivial, trivial⟩)) rfl (nb rfl) f62_ rfl rfl ?_
    refine pu (.assign rfl (.tmp rfl)) rfl rfl rfl ?_
    refine ARun.nil ?_
    refine AW.seq ?_
    refine AW.region ?_
    refine pu (.move rfl (.tmp rfl)) rfl rfl rfl ?_
    refine ARun.fresh (FreshOp.callS rfl (v_sReadSay x16 (by omega)) ⟨⟨_, (.tmp rfl), .str⟩, trivial⟩ f100_ rfl) rfl rfl (nb rfl) ?_
    refine pu (.move rfl (.tmp rfl)) rfl rfl rfl ?_
    refine pu (.ext2a rfl (.tmp rfl)) rfl rfl rfl ?_
    refine pu (.ext2b rfl (.tmp rfl)) rfl rfl rfl ?_
    refine ARun.alloc (id := 5) (l := [.str ByteArray.empty, .int .i64 0, .int .i64 0]) (z := (.agg #[.string ByteArray.empty, .int .i64 0, .int .i64 0])) rfl (by kernel_rfl) (fun _ _ _ => ⟨_, _, rfl, ⟨rfl, by decide⟩, ⟨_, _, rfl, rfl, ⟨_, _, rfl, rfl, rfl⟩⟩⟩) ⟨rfl, (by repeat first | exact trivial | refine ⟨by decide, rfl, ?_⟩)⟩ rfl rfl rfl (nb rfl) ?_
    refine ARun.store rfl (.tmp rfl) (.tmp rfl) (SV.cells_of (by exact ⟨trivial, trivial, trivial, trivial⟩)) rfl (nb rfl) f62_ rfl rfl ?_
    refine pu (.assign rfl (.tmp rfl)) rfl rfl rfl ?_
    refine ARun.nil ?_
    refine AW.seq ?_
    refine AW.seq ?_
    refine AW.region ?_
    refine pu (.move rfl (.tmp rfl)) rfl rfl rfl ?_
    refine pu (.move rfl (.tmp rfl)) rfl rfl rfl ?_
    refine pu (.boolNe rfl (.tmp rfl) (.tmp rfl) f94_) rfl rfl rfl ?_
    refine pu (.move rfl (.tmp rfl)) rfl rfl rfl ?_
    refine ARun.gpure (want := false) (.tf rfl) (fun hg18 => PureOp.loadPtrAgg rfl (.tmp rfl) f26_ rfl rfl (nb rfl) (nb rfl)) rfl rfl (nb rfl) rfl (nb rfl) ?_
    refine ARun.gpure (want := false) (.tf rfl) (fun hg19 => PureOp.loadPtrAgg rfl (.tmp rfl) f26_ rfl rfl (nb rfl) (nb rfl)) rfl rfl (nb rfl) rfl (nb rfl) ?_
    refine ARun.gpure (want := false) (.tf rfl) (fun hg20 => PureOp.call rfl (v_sameHeads ((headRV x12).1)) ⟨⟨_, (.gtmp rfl hg20), ⟨.frs, .int, trivial⟩⟩, ⟨_, (.gtmp rfl hg20), ⟨.frs, .int, trivial⟩⟩, trivial⟩ f114_ trivial) rfl rfl (nb rfl) rfl (nb rfl) ?_
    refine ARun.gpure (want := false) (.tf rfl) (fun hg21 => PureOp.not rfl (.gtmp rfl hg21)) rfl rfl (nb rfl) rfl (nb rfl) ?_
    refine pu (.pick rfl (.tmp rfl) (fun _ => .bool) (fun hp23 => .gtmp rfl (not_of hp23))) rfl rfl rfl ?_
    refine pu (.move rfl (.tmp rfl)) rfl rfl rfl ?_
    refine ARun.gpure (want := false) (.tf rfl) (fun hg24 => PureOp.move rfl (.tmp rfl)) rfl rfl (nb rfl) rfl (nb rfl) ?_
    refine ARun.gpure (want := false) (.tf rfl) (fun hg25 => PureOp.move rfl (.tmp rfl)) rfl rfl (nb rfl) rfl (nb rfl) ?_
    refine ARun.gpure (want := false) (.tf rfl) (fun hg26 => PureOp.boolNe rfl (.gtmp rfl hg26) (.gtmp rfl hg26) f94_) rfl rfl (nb rfl) rfl (nb rfl) ?_
    refine pu (.pick rfl (.tmp rfl) (fun _ => .bool) (fun hp28 => .gtmp rfl (not_of hp28))) rfl rfl rfl ?_
    refine pu (.move rfl (.tmp rfl)) rfl rfl rfl ?_
    refine ARun.gpure (want := false) (.tf rfl) (fun hg29 => PureOp.move rfl (.tmp rfl)) rfl rfl (nb rfl) rfl (nb rfl) ?_
    refine ARun.gpure (want := false) (.tf rfl) (fun hg30 => PureOp.move rfl (.tmp rfl)) rfl rfl (nb rfl) rfl (nb rfl) ?_
    refine ARun.gpure (want := false) (.tf rfl) (fun hg31 => PureOp.strOp rfl (.gtmp rfl hg31) (.gtmp rfl hg31) rfl) rfl rfl (nb rfl) rfl (nb rfl) ?_
    refine pu (.pick rfl (.tmp rfl) (fun _ => .bool) (fun hp33 => .gtmp rfl (not_of hp33))) rfl rfl rfl ?_
    refine pu (.move rfl (.tmp rfl)) rfl rfl rfl ?_
    refine ARun.gpure (want := false) (.tf rfl) (fun hg34 => PureOp.move rfl (.tmp rfl)) rfl rfl (nb rfl) rfl (nb rfl) ?_
    refine ARun.gpure (want := false) (.tf rfl) (fun hg35 => PureOp.move rfl (.tmp rfl)) rfl rfl (nb rfl) rfl (nb rfl) ?_
    refine ARun.gpure (want := false) (.tf rfl) (fun hg36 => PureOp.boolNe rfl (.gtmp rfl hg36) (.gtmp rfl hg36) f94_) rfl rfl (nb rfl) rfl (nb rfl) ?_
    refine pu (.pick rfl (.tmp rfl) (fun _ => .bool) (fun hp38 => .gtmp rfl (not_of hp38))) rfl rfl rfl ?_
    refine pu (.move rfl (.tmp rfl)) rfl rfl rfl ?_
    refine ARun.gpure (want := false) (.tf rfl) (fun hg39 => PureOp.loadPtrAgg rfl (.tmp rfl) f58_ rfl rfl (nb rfl) (nb rfl)) rfl rfl (nb rfl) rfl (nb rfl) ?_
    refine ARun.gpure (want := false) (.tf rfl) (fun hg40 => PureOp.loadPtrAgg rfl (.tmp rfl) f58_ rfl rfl (nb rfl) (nb rfl)) rfl rfl (nb rfl) rfl (nb rfl) ?_
    refine ARun.gpure (want := false) (.tf rfl) (fun hg41 => PureOp.neAgg rfl (.gtmp rfl hg41) (.gtmp rfl hg41) rfl rfl eqGuardSay (fun w_ => equalSay ((readV x16).1) ((readV x16).1) _ rfl w_)) rfl rfl (nb rfl) rfl (nb rfl) ?_
    refine pu (.pick rfl (.tmp rfl) (fun _ => .bool) (fun hp43 => .gtmp rfl (not_of hp43))) rfl rfl rfl ?_
    refine ARun.nil ?_
    refine AW.cond (.tmp rfl) (fun hb44 => ?_) (fun hb44 => ?_)
    ·
     exact absurd (show (cond (cond (cond (cond (cond (!(((headRV x12).2) == ((headRV x12).2))) true (!true)) true (!(((sayV x14).2) == ((sayV x14).2)))) true (!decide ((sayV x14).1 = (sayV x14).1))) true (!(((readV x16).2) == ((readV x16).2)))) true (!(decide (((readV x16).1) = ((readV x16).1))))) = false by simp) (by rw [hb44]; simp)
     --end
    ·
     have _h := hb44
     refine AW.skip ?_
     refine AW.seq ?_
     refine AW.seq ?_
     refine AW.region ?_
     refine pu (.move rfl (.tmp rfl)) rfl rfl rfl ?_
     refine ARun.nil ?_
     refine AW.join ⟨[(1, .one (.lst 1 x1.length (fun i0 _ => .int .u8 (((x1.getD i0 0).toNat : Nat) : Int))))], []⟩ ?_ (fun hj46 => ?_)
     ·
      refine AW.seq ?_
      refine AW.region ?_
      refine pu (.move rfl (.tmp rfl)) rfl rfl rfl ?_
      refine ARun.draw rfl (v_DrawTrimHead x1.length (fun i => (x1.getD i 0).toNat) (fun i => UInt8.toNat_lt _)) f101_ ⟨⟨_, (.tmp rfl), .lst⟩, trivial⟩ rfl rfl (nb rfl) (fun x47 hd48 => ?_)
      obtain ⟨hwG, hG1, hG2⟩ := hd48
      refine pu (.move rfl (.tmp rfl)) rfl rfl rfl ?_
      refine pu (.ext2a rfl (.tmp rfl)) rfl rfl rfl ?_
      refine pu (.ext2b rfl (.tmp rfl)) rfl rfl rfl ?_
      refine ARun.alloc (id := 6) (l := [.con (.slice none 0 0), .int .i64 0]) (z := (.agg #[.slice none 0 0, .int .i64 0])) rfl (by kernel_rfl) (fun _ _ _ => ⟨_, _, rfl, rfl, ⟨_, _, rfl, rfl, rfl⟩⟩) ⟨rfl, (by repeat first | exact trivial | refine ⟨by decide, rfl, ?_⟩)⟩ rfl rfl rfl (nb rfl) ?_
      refine ARun.store rfl (.tmp rfl) (.tmp rfl) (SV.cells_of (by exact ⟨trivial, trivial, trivial⟩)) rfl (nb rfl) f37_ rfl rfl ?_
      refine pu (.assign rfl (.tmp rfl)) rfl rfl rfl ?_
      refine ARun.nil ?_
      refine AW.seq ?_
      refine AW.region ?_
      refine pu (.loadPtrAgg rfl (.tmp rfl) f26_ rfl rfl (nb rfl) (nb rfl)) rfl rfl rfl ?_
      refine pu (.move rfl (.tmp rfl)) rfl rfl rfl ?_
      refine ARun.fresh (FreshOp.callS rfl (FnT.toF (v_iTrim x47.1 x47.2 (by omega) ⟨by omega, by omega⟩)) ⟨⟨_, (.tmp rfl), ⟨.frs, .int, trivial⟩⟩, ⟨_, (.tmp rfl), .int⟩, trivial⟩ f102_ rfl) rfl rfl (nb rfl) ?_
      refine pu (.move rfl (.tmp rfl)) rfl rfl rfl ?_
      refine pu (.ext3a rfl (.tmp rfl)) rfl rfl rfl ?_
      refine pu (.ext3b rfl (.tmp rfl)) rfl rfl rfl ?_
      refine pu (.ext3c rfl (.tmp rfl)) rfl rfl rfl ?_
      refine ARun.alloc (id := 7) (l := [.con (.slice none 0 0), .int .i64 0]) (z := (.agg #[.slice none 0 0, .int .i64 0])) rfl (by kernel_rfl) (fun _ _ _ => ⟨_, _, rfl, rfl, ⟨_, _, rfl, rfl, rfl⟩⟩) ⟨rfl, (by repeat first | exact trivial | refine ⟨by decide, rfl, ?_⟩)⟩ rfl rfl rfl (nb rfl) ?_
      refine ARun.store rfl (.tmp rfl) (.tmp rfl) (SV.cells_of (by exact ⟨trivial, trivial, trivial⟩)) rfl (nb rfl) f37_ rfl rfl ?_
      refine pu (.assign rfl (.tmp rfl)) rfl rfl rfl ?_
      refine pu (.assign rfl (.tmp rfl)) rfl rfl rfl ?_
      refine ARun.nil ?_
      refine AW.seq ?_
      refine AW.region ?_
      refine pu (.loadPtrAgg rfl (.tmp rfl) f26_ rfl rfl (nb rfl) (nb rfl)) rfl rfl rfl ?_
      refine pu (.move rfl (.tmp rfl)) rfl rfl rfl ?_
      refine ARun.fresh (FreshOp.callS rfl (FnT.toF (v_sTrim x47.1 x47.2 (by omega) ⟨by omega, by omega⟩)) ⟨⟨_, (.tmp rfl), ⟨.frs, .int, trivial⟩⟩, ⟨_, (.tmp rfl), .int⟩, trivial⟩ f103_ rfl) rfl rfl (nb rfl) ?_
      refine pu (.move rfl (.tmp rfl)) rfl rfl rfl ?_
      refine pu (.ext3a rfl (.tmp rfl)) rfl rfl rfl ?_
      refine pu (.ext3b rfl (.tmp rfl)) rfl rfl rfl ?_
      refine pu (.ext3c rfl (.tmp rfl)) rfl rfl rfl ?_
      refine ARun.alloc (id := 8) (l := [.con (.slice none 0 0), .int .i64 0]) (z := (.agg #[.slice none 0 0, .int .i64 0])) rfl (by kernel_rfl) (fun _ _ _ => ⟨_, _, rfl, rfl, ⟨_, _, rfl, rfl, rfl⟩⟩) ⟨rfl, (by repeat first | exact trivial | refine ⟨by decide, rfl, ?_⟩)⟩ rfl rfl rfl (nb rfl) ?_
      refine ARun.store rfl (.tmp rfl) (.tmp rfl) (SV.cells_of (by exact ⟨trivial, trivial, trivial⟩)) rfl (nb rfl) f37_ rfl rfl ?_
      refine pu (.assign rfl (.tmp rfl)) rfl rfl rfl ?_
      refine pu (.assign rfl (.tmp rfl)) rfl rfl rfl ?_
      refine ARun.nil ?_
      refine AW.seq ?_
      refine AW.seq ?_
      refine AW.region ?_
      refine pu (.move rfl (.tmp rfl)) rfl rfl rfl ?_
      refine pu (.move rfl (.tmp rfl)) rfl rfl rfl ?_
      refine pu (.boolNe rfl (.tmp rfl) (.tmp rfl) f94_) rfl rfl rfl ?_
      refine pu (.move rfl (.tmp rfl)) rfl rfl rfl ?_
      refine ARun.gpure (want := false) (.tf rfl) (fun hg49 => PureOp.move rfl (.tmp rfl)) rfl rfl (nb rfl) rfl (nb rfl) ?_
      refine ARun.gpure (want := false) (.tf rfl) (fun hg50 => PureOp.move rfl (.tmp rfl)) rfl rfl (nb rfl) rfl (nb rfl) ?_
      refine ARun.gpure (want := false) (.tf rfl) (fun hg51 => PureOp.intOp rfl (.gtmp rfl hg51) (.gtmp rfl hg51) rfl) rfl rfl (nb rfl) rfl (nb rfl) ?_
      refine pu (.pick rfl (.tmp rfl) (fun _ => .bool) (fun hp53 => .gtmp rfl (not_of hp53))) rfl rfl rfl ?_
      refine pu (.move rfl (.tmp rfl)) rfl rfl rfl ?_
      refine ARun.gpure (want := false) (.tf rfl) (fun hg54 => PureOp.loadPtrAgg rfl (.tmp rfl) f26_ rfl rfl (nb rfl) (nb rfl)) rfl rfl (nb rfl) rfl (nb rfl) ?_
      refine ARun.gpure (want := false) (.tf rfl) (fun hg55 => PureOp.loadPtrAgg rfl (.tmp rfl) f26_ rfl rfl (nb rfl) (nb rfl)) rfl rfl (nb rfl) rfl (nb rfl) ?_
      refine ARun.gpure (want := false) (.tf rfl) (fun hg56 => PureOp.call rfl (v_sameHeads ((trimV x47.1 x47.2).1)) ⟨⟨_, (.gtmp rfl hg56), ⟨.frs, .int, trivial⟩⟩, ⟨_, (.gtmp rfl hg56), ⟨.frs, .int, trivial⟩⟩, trivial⟩ f114_ trivial) rfl rfl (nb rfl) rfl (nb rfl) ?_
      refine ARun.gpure (want := false) (.tf rfl) (fun hg57 => PureOp.not rfl (.gtmp rfl hg57)) rfl rfl (nb rfl) rfl (nb rfl) ?_
      refine pu (.pick rfl (.tmp rfl) (fun _ => .bool) (fun hp59 => .gtmp rfl (not_of hp59))) rfl rfl rfl ?_
      refine ARun.nil ?_
      refine AW.cond (.tmp rfl) (fun hb60 => ?_) (fun hb60 => ?_)
      ·
       exact absurd (show (cond (cond (!(((trimV x47.1 x47.2).2.2) == ((trimV x47.1 x47.2).2.2))) true (!decide ((((trimV x47.1 x47.2).2.1 : Nat) : Int) = (((trimV x47.1 x47.2).2.1 : Nat) : Int)))) true (!true)) = false by simp) (by rw [hb60]; simp)
       --end
      ·
       have _h := hb60
       refine AW.skip ?_
       refine AW.seq ?_
       refine AW.seq ?_
       refine AW.region ?_
       refine pu (.move rfl (.tmp rfl)) rfl rfl rfl ?_
       refine ARun.nil ?_
       refine AW.join ⟨[(1, .one (.lst 1 x1.length (fun i0 _ => .int .u8 (((x1.getD i0 0).toNat : Nat) : Int))))], []⟩ ?_ (fun hj62 => ?_)
       ·
        refine AW.seq ?_
        refine AW.region ?_
        refine pu (.move rfl (.tmp rfl)) rfl rfl rfl ?_
        refine ARun.draw rfl (v_DrawRowOf x1.length (fun i => (x1.getD i 0).toNat) (fun i => UInt8.toNat_lt _)) f106_ ⟨⟨_, (.tmp rfl), .lst⟩, trivial⟩ rfl rfl (nb rfl) (fun x63 hd64 => ?_)
        have hwR := hd64
        refine pu (.move rfl (.tmp rfl)) rfl rfl rfl ?_
        refine pu (.ext2a rfl (.tmp rfl)) rfl rfl rfl ?_
        refine pu (.ext2b rfl (.tmp rfl)) rfl rfl rfl ?_
        refine ARun.alloc (id := 9) (l := [.con (.slice none 0 0), .int .i64 0]) (z := (.agg #[.slice none 0 0, .int .i64 0])) rfl (by kernel_rfl) (fun _ _ _ => ⟨_, _, rfl, rfl, ⟨_, _, rfl, rfl, rfl⟩⟩) ⟨rfl, (by repeat first | exact trivial | refine ⟨by decide, rfl, ?_⟩)⟩ rfl rfl rfl (nb rfl) ?_
        refine ARun.store rfl (.tmp rfl) (.tmp rfl) (SV.cells_of (by exact ⟨trivial, trivial, trivial⟩)) rfl (nb rfl) f37_ rfl rfl ?_
        refine pu (.assign rfl (.tmp rfl)) rfl rfl rfl ?_
        refine ARun.nil ?_
        refine AW.seq ?_
        refine AW.region ?_
        refine pu (.loadPtrAgg rfl (.tmp rfl) f26_ rfl rfl (nb rfl) (nb rfl)) rfl rfl rfl ?_
        refine pu (.move rfl (.tmp rfl)) rfl rfl rfl ?_
        refine ARun.fresh (FreshOp.callS rfl (FnT.toF (v_iRow x63.1 x63.2 (by omega))) ⟨⟨_, (.tmp rfl), ⟨.frs, .int, trivial⟩⟩, ⟨_, (.tmp rfl), .str⟩, trivial⟩ f104_ rfl) rfl rfl (nb rfl) ?_
        refine pu (.move rfl (.tmp rfl)) rfl rfl rfl ?_
        refine pu (.ext2a rfl (.tmp rfl)) rfl rfl rfl ?_
        refine pu (.ext2b rfl (.tmp rfl)) rfl rfl rfl ?_
        refine pu (.assign rfl (.tmp rfl)) rfl rfl rfl ?_
        refine pu (.assign rfl (.tmp rfl)) rfl rfl rfl ?_
        refine ARun.nil ?_
        refine AW.seq ?_
        refine AW.region ?_
        refine pu (.loadPtrAgg rfl (.tmp rfl) f26_ rfl rfl (nb rfl) (nb rfl)) rfl rfl rfl ?_
        refine pu (.move rfl (.tmp rfl)) rfl rfl rfl ?_
        refine ARun.fresh (FreshOp.callS rfl (FnT.toF (v_sRow x63.1 x63.2 (by omega))) ⟨⟨_, (.tmp rfl), ⟨.frs, .int, trivial⟩⟩, ⟨_, (.tmp rfl), .str⟩, trivial⟩ f107_ rfl) rfl rfl (nb rfl) ?_
        refine pu (.move rfl (.tmp rfl)) rfl rfl rfl ?_
        refine pu (.ext2a rfl (.tmp rfl)) rfl rfl rfl ?_
        refine pu (.ext2b rfl (.tmp rfl)) rfl rfl rfl ?_
        refine pu (.assign rfl (.tmp rfl)) rfl rfl rfl ?_
        refine pu (.assign rfl (.tmp rfl)) rfl rfl rfl ?_
        refine ARun.nil ?_
        refine AW.seq ?_
        refine AW.region ?_
        refine pu (.move rfl (.tmp rfl)) rfl rfl rfl ?_
        refine ARun.draw rfl (v_DrawNewHead x1.length (fun i => (x1.getD i 0).toNat) (fun i => UInt8.toNat_lt _)) f108_ ⟨⟨_, (.tmp rfl), .lst⟩, trivial⟩ rfl rfl (nb rfl) (fun x65 hd66 => ?_)
        have hwO := hd66
        refine pu (.assign rfl (.tmp rfl)) rfl rfl rfl ?_
        refine ARun.nil ?_
        refine AW.seq ?_
        refine AW.region ?_
        refine pu (.move rfl (.tmp rfl)) rfl rfl rfl ?_
        refine ARun.fresh (FreshOp.callS rfl (FnT.toF (v_iNewHead x65)) ⟨⟨_, (.tmp rfl), .int⟩, trivial⟩ f109_ rfl) rfl rfl (nb rfl) ?_
        refine pu (.move rfl (.tmp rfl)) rfl rfl rfl ?_
        refine pu (.ext2a rfl (.tmp rfl)) rfl rfl rfl ?_
        refine pu (.ext2b rfl (.tmp rfl)) rfl rfl rfl ?_
        refine ARun.alloc (id := 10) (l := [.con (.slice none 0 0), .int .i64 0]) (z := (.agg #[.slice none 0 0, .int .i64 0])) rfl (by kernel_rfl) (fun _ _ _ => ⟨_, _, rfl, rfl, ⟨_, _, rfl, rfl, rfl⟩⟩) ⟨rfl, (by repeat first | exact trivial | refine ⟨by decide, rfl, ?_⟩)⟩ rfl rfl rfl (nb rfl) ?_
        refine ARun.store rfl (.tmp rfl) (.tmp rfl) (SV.cells_of (by exact ⟨trivial, trivial, trivial⟩)) rfl (nb rfl) f37_ rfl rfl ?_
        refine pu (.assign rfl (.tmp rfl)) rfl rfl rfl ?_
        refine ARun.nil ?_
        refine AW.seq ?_
        refine AW.region ?_
        refine pu (.move rfl (.tmp rfl)) rfl rfl rfl ?_
        refine ARun.fresh (FreshOp.callS rfl (FnT.toF (v_sNewHead x65)) ⟨⟨_, (.tmp rfl), .int⟩, trivial⟩ f110_ rfl) rfl rfl (nb rfl) ?_
        refine pu (.move rfl (.tmp rfl)) rfl rfl rfl ?_
        refine pu (.ext2a rfl (.tmp rfl)) rfl rfl rfl ?_
        refine pu (.ext2b rfl (.tmp rfl)) rfl rfl rfl ?_
        refine ARun.alloc (id := 11) (l := [.con (.slice none 0 0), .int .i64 0]) (z := (.agg #[.slice none 0 0, .int .i64 0])) rfl (by kernel_rfl) (fun _ _ _ => ⟨_, _, rfl, rfl, ⟨_, _, rfl, rfl, rfl⟩⟩) ⟨rfl, (by repeat first | exact trivial | refine ⟨by decide, rfl, ?_⟩)⟩ rfl rfl rfl (nb rfl) ?_
        refine ARun.store rfl (.tmp rfl) (.tmp rfl) (SV.cells_of (by exact ⟨trivial, trivial, trivial⟩)) rfl (nb rfl) f37_ rfl rfl ?_
        refine pu (.assign rfl (.tmp rfl)) rfl rfl rfl ?_
        refine ARun.nil ?_
        refine AW.seq ?_
        refine AW.region ?_
        refine pu (.move rfl (.tmp rfl)) rfl rfl rfl ?_
        refine pu (.move rfl (.tmp rfl)) rfl rfl rfl ?_
        refine pu (.boolEq rfl (.tmp rfl) (.tmp rfl) f94_) rfl rfl rfl ?_
        refine pu (.move rfl (.tmp rfl)) rfl rfl rfl ?_
        refine ARun.gpure (want := true) (.tt rfl) (fun hg67 => PureOp.move rfl (.tmp rfl)) rfl rfl (nb rfl) rfl (nb rfl) ?_
        refine ARun.gpure (want := true) (.tt rfl) (fun hg68 => PureOp.move rfl (.tmp rfl)) rfl rfl (nb rfl) rfl (nb rfl) ?_
        refine ARun.gpure (want := true) (.tt rfl) (fun hg69 => PureOp.call rfl (v_sameSmp ((rowV x63.1 x63.2).1)) ⟨⟨_, (.gtmp rfl hg69), .frs⟩, ⟨_, (.gtmp rfl hg69), .frs⟩, trivial⟩ f89_ trivial) rfl rfl (nb rfl) rfl (nb rfl) ?_
        refine pu (.pick rfl (.tmp rfl) (fun hp70 => .gtmp rfl hp70) (fun _ => .bool)) rfl rfl rfl ?_
        refine pu (.move rfl (.tmp rfl)) rfl rfl rfl ?_
        refine ARun.gpure (want := true) (.tt rfl) (fun hg72 => PureOp.move rfl (.tmp rfl)) rfl rfl (nb rfl) rfl (nb rfl) ?_
        refine ARun.gpure (want := true) (.tt rfl) (fun hg73 => PureOp.move rfl (.tmp rfl)) rfl rfl (nb rfl) rfl (nb rfl) ?_
        refine ARun.gpure (want := true) (.tt rfl) (fun hg74 => PureOp.boolEq rfl (.gtmp rfl hg74) (.gtmp rfl hg74) f94_) rfl rfl (nb rfl) rfl (nb rfl) ?_
        refine pu (.pick rfl (.tmp rfl) (fun hp75 => .gtmp rfl hp75) (fun _ => .bool)) rfl rfl rfl ?_
        refine pu (.move rfl (.tmp rfl)) rfl rfl rfl ?_
        refine ARun.gpure (want := true) (.tt rfl) (fun hg77 => PureOp.loadPtrAgg rfl (.tmp rfl) f26_ rfl rfl (nb rfl) (nb rfl)) rfl rfl (nb rfl) rfl (nb rfl) ?_
        refine ARun.gpure (want := true) (.tt rfl) (fun hg78 => PureOp.loadPtrAgg rfl (.tmp rfl) f26_ rfl rfl (nb rfl) (nb rfl)) rfl rfl (nb rfl) rfl (nb rfl) ?_
        refine ARun.gpure (want := true) (.tt rfl) (fun hg79 => PureOp.call rfl (v_sameHeads ((newV x65).1)) ⟨⟨_, (.gtmp rfl hg79), ⟨.frs, .int, trivial⟩⟩, ⟨_, (.gtmp rfl hg79), ⟨.frs, .int, trivial⟩⟩, trivial⟩ f114_ trivial) rfl rfl (nb rfl) rfl (nb rfl) ?_
        refine pu (.pick rfl (.tmp rfl) (fun hp80 => .gtmp rfl hp80) (fun _ => .bool)) rfl rfl rfl ?_
        refine pu (.assign rfl (.tmp rfl)) rfl rfl rfl ?_
        refine ARun.nil ?_
        refine AW.ret (show ResL _ _ [.tmp 4] _ from resB rfl ?_)
        first | rfl | simp
       refine AW.cond (.tmp rfl) (fun hb61 => ?_) (fun hb61 => ?_)
       ·
        have hgd := trimV_ok hb61
        have hgm := trimV_good (x := x47.2) hgd
        have hwm := trimV_wt (x := x47.2) hgd
        have hr8 := good_len hgd
        have hr9 := good_len hgm
        have htc := trim_count (x := x47.2) hgd
        refine AW.seq ?_
        refine AW.region ?_
        refine pu (.assign rfl .int) rfl rfl rfl ?_
        refine ARun.nil ?_
        refine AW.seq ?_
        refine AW.seq ?_
        refine AW.region ?_
        refine pu (.fieldPtr rfl (.tmp rfl) f29_) rfl rfl rfl ?_
        refine pu (.loadPtr rfl (.tmp rfl) f33_ rfl rfl (nb rfl) (nb rfl)) rfl rfl rfl ?_
        refine pu (.lenLst rfl (.frs (.tmp rfl)) f35_) rfl rfl rfl ?_
        refine pu (.move rfl .int) rfl rfl rfl ?_
        refine ARun.nil ?_
        refine AW.block ?_
        refine AW.loop (ι := Nat) (fun k1 => ⟨[(1, .one (.lst 1 x1.length (fun i0 _ => .int .u8 (((x1.getD i0 0).toNat : Nat) : Int)))), (30, .one (.int .i64 x47.2)), (31, .one (.ptr 7 2 0 0)), (32, .one (.int .i64 (((trimV x47.1 x47.2).2.1 : Nat) : Int))), (37, .one (.int .i64 (((smpN x47.1.rows k1) : Nat) : Int))), (213, .one (.frs (.lst 2 x47.1.rows.length (fun i0 j0 => ([.str ((x47.1.rows.getD i0 (default : GRow)).name), .lst 2 (((x47.1.rows.getD i0 (default : GRow)).samples).length) (fun i1 j1 => ([.int .i64 ((((x47.1.rows.getD i0 (default : GRow)).samples).getD i1 (default : GSample)).at_), .int .i64 ((((x47.1.rows.getD i0 (default : GRow)).samples).getD i1 (default : GSample)).value)] : List AV).getD j1 (.con undef))] : List AV).getD j0 (.con undef))))), (214, .one (.int .i64 (x47.1.rows.length : Int))), (215, .one (.int .i64 (k1 : Int)))], [(7, .cells [.frs (.lst 2 ((((trimV x47.1 x47.2).1).rows).length) (fun i0 j0 => ([.str (((((trimV x47.1 x47.2).1).rows).getD i0 (default : GRow)).name), .lst 2 ((((((trimV x47.1 x47.2).1).rows).getD i0 (default : GRow)).samples).length) (fun i1 j1 => ([.int .i64 (((((((trimV x47.1 x47.2).1).rows).getD i0 (default : GRow)).samples).getD i1 (default : GSample)).at_), .int .i64 (((((((trimV x47.1 x47.2).1).rows).getD i0 (default : GRow)).samples).getD i1 (default : GSample)).value)] : List AV).getD j1 (.con undef))] : List AV).getD j0 (.con undef))), .int .i64 (((trimV x47.1 x47.2).1).offset)])]⟩) (fun k1 => k1 ≤ x47.1.rows.length) (fun k1 => x47.1.rows.length - k1) 0 (Nat.zero_le _) ⟨⟨⟨_, rfl, rfl⟩, ⟨_, rfl, rfl⟩, ⟨_, rfl, rfl⟩, ⟨_, rfl, rfl⟩, ⟨_, rfl, rfl⟩, ⟨_, rfl, rfl⟩, ⟨_, rfl, rfl⟩, ⟨_, rfl, rfl⟩, trivial⟩, HeapLe.one rfl trivial⟩ ?_
        intro k1 hk1
        have hsb := smpN_le hgd k1
        refine AW.seq ?_
        refine AW.region ?_
        refine pu (.intOp rfl (.tmp rfl) (.tmp rfl) rfl) rfl rfl rfl ?_
        refine ARun.nil ?_
        refine AW.seq ?_
        refine AW.cond (.tmp rfl) (fun hb82 => ?_) (fun hb82 => ?_)
        ·
         replace hb82 := of_decide_eq_true hb82
         have hkl1 : k1 < x47.1.rows.length := by omega
         have hs40 := smp_40 (good_at hgd hkl1).2.2
         refine AW.skip ?_
         refine AW.seq ?_
         refine AW.block ?_
         refine AW.seq ?_
         refine AW.region ?_
         refine pu (.indexLst (i := k1) rfl (.frs (.tmp rfl)) f28_ (.tmp rfl) rfl (by omega)) rfl rfl rfl ?_
         refine pu (.loadRefAgg rfl (.tmp rfl) f27_ (nb rfl)) rfl rfl rfl ?_
         refine ARun.alloc (id := 12) (l := [.str ByteArray.empty, .con (.slice none 0 0)]) (z := (.agg #[.string ByteArray.empty, .slice none 0 0])) rfl (by kernel_rfl) (fun _ _ _ => ⟨_, _, rfl, ⟨rfl, by decide⟩, ⟨_, _, rfl, rfl, rfl⟩⟩) ⟨rfl, (by repeat first | exact trivial | refine ⟨by decide, rfl, ?_⟩)⟩ rfl rfl rfl (nb rfl) ?_
         refine ARun.store rfl (.tmp rfl) (.tmp rfl) (SV.cells_of (by exact ⟨trivial, trivial, trivial⟩)) rfl (nb rfl) f38_ rfl rfl ?_
         refine ARun.nil ?_
         refine AW.seq ?_
         refine AW.region ?_
         refine pu (.move rfl (.tmp rfl)) rfl rfl rfl ?_
         refine pu (.fieldPtr rfl (.tmp rfl) f32_) rfl rfl rfl ?_
         refine pu (.loadPtr rfl (.tmp rfl) f34_ rfl rfl (nb rfl) (nb rfl)) rfl rfl rfl ?_
         refine pu (.lenLst rfl (.tmp rfl) f24_) rfl rfl rfl ?_
         refine pu (.add (c := (((smpN x47.1.rows k1) + ((x47.1.rows.getD k1 (default : GRow)).samples).length : Nat) : Int)) rfl (.tmp rfl) (.tmp rfl) (by rw [wrap_id (by omega) (by omega)]; omega)) rfl rfl rfl ?_
         refine pu (.assign rfl (.tmp rfl)) rfl rfl rfl ?_
         refine ARun.nil ?_
         refine AW.seq ?_
         refine AW.region ?_
         refine pu (.fieldPtr rfl (.tmp rfl) f32_) rfl rfl rfl ?_
         refine pu (.loadPtr rfl (.tmp rfl) f34_ rfl rfl (nb rfl) (nb rfl)) rfl rfl rfl ?_
         refine pu (.lenLst rfl (.tmp rfl) f24_) rfl rfl rfl ?_
         refine pu (.move rfl .int) rfl rfl rfl ?_
         refine ARun.nil ?_
         refine AW.block ?_
         refine AW.loop (ι := Nat) (fun j1 => ⟨[(1, .one (.lst 1 x1.length (fun i0 _ => .int .u8 (((x1.getD i0 0).toNat : Nat) : Int)))), (30, .one (.int .i64 x47.2)), (31, .one (.ptr 7 2 0 0)), (32, .one (.int .i64 (((trimV x47.1 x47.2).2.1 : Nat) : Int))), (37, .one (.int .i64 (((smpN x47.1.rows k1) + ((x47.1.rows.getD k1 (default : GRow)).samples).length : Nat) : Int))), (39, .one (.ptr 12 2 0 0)), (213, .one (.frs (.lst 2 x47.1.rows.length (fun i0 j0 => ([.str ((x47.1.rows.getD i0 (default : GRow)).name), .lst 2 (((x47.1.rows.getD i0 (default : GRow)).samples).length) (fun i1 j1 => ([.int .i64 ((((x47.1.rows.getD i0 (default : GRow)).samples).getD i1 (default : GSample)).at_), .int .i64 ((((x47.1.rows.getD i0 (default : GRow)).samples).getD i1 (default : GSample)).value)] : List AV).getD j1 (.con undef))] : List AV).getD j0 (.con undef))))), (214, .one (.int .i64 (x47.1.rows.length : Int))), (215, .one (.int .i64 (k1 : Int))), (225, .one (.lst 2 (((x47.1.rows.getD k1 (default : GRow)).samples).length) (fun i0 j0 => ([.int .i64 ((((x47.1.rows.getD k1 (default : GRow)).samples).getD i0 (default : GSample)).at_), .int .i64 ((((x47.1.rows.getD k1 (default : GRow)).samples).getD i0 (default : GSample)).value)] : List AV).getD j0 (.con undef)))), (226, .one (.int .i64 ((((x47.1.rows.getD k1 (default : GRow)).samples).length : Nat) : Int))), (227, .one (.int .i64 (j1 : Int)))], [(7, .cells [.frs (.lst 2 ((((trimV x47.1 x47.2).1).rows).length) (fun i0 j0 => ([.str (((((trimV x47.1 x47.2).1).rows).getD i0 (default : GRow)).name), .lst 2 ((((((trimV x47.1 x47.2).1).rows).getD i0 (default : GRow)).samples).length) (fun i1 j1 => ([.int .i64 (((((((trimV x47.1 x47.2).1).rows).getD i0 (default : GRow)).samples).getD i1 (default : GSample)).at_), .int .i64 (((((((trimV x47.1 x47.2).1).rows).getD i0 (default : GRow)).samples).getD i1 (default : GSample)).value)] : List AV).getD j1 (.con undef))] : List AV).getD j0 (.con undef))), .int .i64 (((trimV x47.1 x47.2).1).offset)]), (12, .cells [.str ((x47.1.rows.getD k1 (default : GRow)).name), .lst 2 (((x47.1.rows.getD k1 (default : GRow)).samples).length) (fun i0 j0 => ([.int .i64 ((((x47.1.rows.getD k1 (default : GRow)).samples).getD i0 (default : GSample)).at_), .int .i64 ((((x47.1.rows.getD k1 (default : GRow)).samples).getD i0 (default : GSample)).value)] : List AV).getD j0 (.con undef))])]⟩) (fun j1 => j1 ≤ (x47.1.rows.getD k1 (default : GRow)).samples.length) (fun j1 => (x47.1.rows.getD k1 (default : GRow)).samples.length - j1) 0 (Nat.zero_le _) ⟨⟨⟨_, rfl, rfl⟩, ⟨_, rfl, rfl⟩, ⟨_, rfl, rfl⟩, ⟨_, rfl, rfl⟩, ⟨_, rfl, rfl⟩, ⟨_, rfl, rfl⟩, ⟨_, rfl, rfl⟩, ⟨_, rfl, rfl⟩, ⟨_, rfl, rfl⟩, ⟨_, rfl, rfl⟩, ⟨_, rfl, rfl⟩, ⟨_, rfl, rfl⟩, trivial⟩, HeapLe.one rfl (HeapLe.one rfl trivial)⟩ ?_
         intro j1 hj1
         refine AW.seq ?_
         refine AW.region ?_
         refine pu (.intOp rfl (.tmp rfl) (.tmp rfl) rfl) rfl rfl rfl ?_
         refine ARun.nil ?_
         refine AW.seq ?_
         refine AW.cond (.tmp rfl) (fun hb83 => ?_) (fun hb83 => ?_)
         ·
          replace hb83 := of_decide_eq_true hb83
          have hjl1 : j1 < (x47.1.rows.getD k1 (default : GRow)).samples.length := by omega
          refine AW.skip ?_
          refine AW.seq ?_
          refine AW.block ?_
          refine AW.seq ?_
          refine AW.region ?_
          refine pu (.indexLst (i := j1) rfl (.tmp rfl) f23_ (.tmp rfl) rfl (by omega)) rfl rfl rfl ?_
          refine pu (.loadRefAgg rfl (.tmp rfl) f21_ (nb rfl)) rfl rfl rfl ?_
          refine ARun.alloc (id := 13) (l := [.int .i64 0, .int .i64 0]) (z := (.agg #[.int .i64 0, .int .i64 0])) rfl (by kernel_rfl) (fun _ _ _ => ⟨_, _, rfl, rfl, ⟨_, _, rfl, rfl, rfl⟩⟩) ⟨rfl, (by repeat first | exact trivial | refine ⟨by decide, rfl, ?_⟩)⟩ rfl rfl rfl (nb rfl) ?_
          refine ARun.store rfl (.tmp rfl) (.tmp rfl) (SV.cells_of (by exact ⟨trivial, trivial, trivial⟩)) rfl (nb rfl) f25_ rfl rfl ?_
          refine ARun.nil ?_
          refine AW.seq ?_
          refine AW.region ?_
          refine pu (.loadPtrAgg rfl (.tmp rfl) f26_ rfl rfl (nb rfl) (nb rfl)) rfl rfl rfl ?_
          refine pu (.fieldPtr rfl (.tmp rfl) f31_) rfl rfl rfl ?_
          refine pu (.loadPtr rfl (.tmp rfl) f12_ rfl rfl (nb rfl) (nb rfl)) rfl rfl rfl ?_
          refine ARun.fresh (FreshOp.callS rfl (FnT.toF (v_iRow ((trimV x47.1 x47.2).1) ((x47.1.rows.getD k1 (default : GRow)).name) (by omega))) ⟨⟨_, (.tmp rfl), ⟨.frs, .int, trivial⟩⟩, ⟨_, (.tmp rfl), .str⟩, trivial⟩ f104_ rfl) rfl rfl (nb rfl) ?_
          refine pu (.move rfl (.tmp rfl)) rfl rfl rfl ?_
          refine pu (.ext2a rfl (.tmp rfl)) rfl rfl rfl ?_
          refine pu (.ext2b rfl (.tmp rfl)) rfl rfl rfl ?_
          refine pu (.assign rfl (.tmp rfl)) rfl rfl rfl ?_
          refine pu (.assign rfl (.tmp rfl)) rfl rfl rfl ?_
          refine ARun.nil ?_
          refine AW.seq ?_
          refine AW.region ?_
          refine pu (.assign rfl .bool) rfl rfl rfl ?_
          refine ARun.nil ?_
          refine AW.seq ?_
          refine AW.seq ?_
          refine AW.region ?_
          refine pu (.move rfl (.tmp rfl)) rfl rfl rfl ?_
          refine pu (.lenLst rfl (.frs (.tmp rfl)) f24_) rfl rfl rfl ?_
          refine pu (.move rfl .int) rfl rfl rfl ?_
          refine ARun.nil ?_
          refine AW.block ?_
          refine AW.loop (ι := Nat) (fun i1 => ⟨[(1, .one (.lst 1 x1.length (fun i0 _ => .int .u8 (((x1.getD i0 0).toNat : Nat) : Int)))), (30, .one (.int .i64 x47.2)), (31, .one (.ptr 7 2 0 0)), (32, .one (.int .i64 (((trimV x47.1 x47.2).2.1 : Nat) : Int))), (37, .one (.int .i64 (((smpN x47.1.rows k1) + ((x47.1.rows.getD k1 (default : GRow)).samples).length : Nat) : Int))), (39, .one (.ptr 12 2 0 0)), (41, .one (.ptr 13 2 0 0)), (44, .one (.bool (((rowV (trimV x47.1 x47.2).1 (x47.1.rows.getD k1 (default : GRow)).name).1.take i1).any (fun y => decide (y = ((x47.1.rows.getD k1 (default : GRow)).samples.getD j1 (default : GSample))))))), (213, .one (.frs (.lst 2 x47.1.rows.length (fun i0 j0 => ([.str ((x47.1.rows.getD i0 (default : GRow)).name), .lst 2 (((x47.1.rows.getD i0 (default : GRow)).samples).length) (fun i1 j1 => ([.int .i64 ((((x47.1.rows.getD i0 (default : GRow)).samples).getD i1 (default : GSample)).at_), .int .i64 ((((x47.1.rows.getD i0 (default : GRow)).samples).getD i1 (default : GSample)).value)] : List AV).getD j1 (.con undef))] : List AV).getD j0 (.con undef))))), (214, .one (.int .i64 (x47.1.rows.length : Int))), (215, .one (.int .i64 (k1 : Int))), (225, .one (.lst 2 (((x47.1.rows.getD k1 (default : GRow)).samples).length) (fun i0 j0 => ([.int .i64 ((((x47.1.rows.getD k1 (default : GRow)).samples).getD i0 (default : GSample)).at_), .int .i64 ((((x47.1.rows.getD k1 (default : GRow)).samples).getD i0 (default : GSample)).value)] : List AV).getD j0 (.con undef)))), (226, .one (.int .i64 ((((x47.1.rows.getD k1 (default : GRow)).samples).length : Nat) : Int))), (227, .one (.int .i64 (j1 : Int))), (238, .one (.frs (.lst 2 (((rowV ((trimV x47.1 x47.2).1) ((x47.1.rows.getD k1 (default : GRow)).name)).1).length) (fun i0 j0 => ([.int .i64 ((((rowV ((trimV x47.1 x47.2).1) ((x47.1.rows.getD k1 (default : GRow)).name)).1).getD i0 (default : GSample)).at_), .int .i64 ((((rowV ((trimV x47.1 x47.2).1) ((x47.1.rows.getD k1 (default : GRow)).name)).1).getD i0 (default : GSample)).value)] : List AV).getD j0 (.con undef))))), (239, .one (.int .i64 ((((rowV ((trimV x47.1 x47.2).1) ((x47.1.rows.getD k1 (default : GRow)).name)).1).length : Nat) : Int))), (240, .one (.int .i64 (i1 : Int)))], [(7, .cells [.frs (.lst 2 ((((trimV x47.1 x47.2).1).rows).length) (fun i0 j0 => ([.str (((((trimV x47.1 x47.2).1).rows).getD i0 (default : GRow)).name), .lst 2 ((((((trimV x47.1 x47.2).1).rows).getD i0 (default : GRow)).samples).length) (fun i1 j1 => ([.int .i64 (((((((trimV x47.1 x47.2).1).rows).getD i0 (default : GRow)).samples).getD i1 (default : GSample)).at_), .int .i64 (((((((trimV x47.1 x47.2).1).rows).getD i0 (default : GRow)).samples).getD i1 (default : GSample)).value)] : List AV).getD j1 (.con undef))] : List AV).getD j0 (.con undef))), .int .i64 (((trimV x47.1 x47.2).1).offset)]), (12, .cells [.str ((x47.1.rows.getD k1 (default : GRow)).name), .lst 2 (((x47.1.rows.getD k1 (default : GRow)).samples).length) (fun i0 j0 => ([.int .i64 ((((x47.1.rows.getD k1 (default : GRow)).samples).getD i0 (default : GSample)).at_), .int .i64 ((((x47.1.rows.getD k1 (default : GRow)).samples).getD i0 (default : GSample)).value)] : List AV).getD j0 (.con undef))]), (13, .cells [.int .i64 ((((x47.1.rows.getD k1 (default : GRow)).samples).getD j1 (default : GSample)).at_), .int .i64 ((((x47.1.rows.getD k1 (default : GRow)).samples).getD j1 (default : GSample)).value)])]⟩) (fun i1 => i1 ≤ (rowV (trimV x47.1 x47.2).1 (x47.1.rows.getD k1 (default : GRow)).name).1.length) (fun i1 => (rowV (trimV x47.1 x47.2).1 (x47.1.rows.getD k1 (default : GRow)).name).1.length - i1) 0 (Nat.zero_le _) ⟨⟨⟨_, rfl, rfl⟩, ⟨_, rfl, rfl⟩, ⟨_, rfl, rfl⟩, ⟨_, rfl, rfl⟩, ⟨_, rfl, rfl⟩, ⟨_, rfl, rfl⟩, ⟨_, rfl, rfl⟩, ⟨_, rfl, rfl⟩, ⟨_, rfl, rfl⟩, ⟨_, rfl, rfl⟩, ⟨_, rfl, rfl⟩, ⟨_, rfl, rfl⟩, ⟨_, rfl, rfl⟩, ⟨_, rfl, rfl⟩, ⟨_, rfl, rfl⟩, ⟨_, rfl, rfl⟩, ⟨_, rfl, rfl⟩, trivial⟩, HeapLe.one rfl (HeapLe.one rfl (HeapLe.one rfl trivial))⟩ ?_
          intro i1 hi1
          have hrl := rowV_40 hgm (x47.1.rows.getD k1 (default : GRow)).name
          refine AW.seq ?_
          refine AW.region ?_
          refine pu (.intOp rfl (.tmp rfl) (.tmp rfl) rfl) rfl rfl rfl ?_
          refine ARun.nil ?_
          refine AW.seq ?_
          refine AW.cond (.tmp rfl) (fun hb84 => ?_) (fun hb84 => ?_)
          ·
           replace hb84 := of_decide_eq_true hb84
           have hil1 : i1 < (rowV (trimV x47.1 x47.2).1 (x47.1.rows.getD k1 (default : GRow)).name).1.length := by omega
           refine AW.skip ?_
           refine AW.seq ?_
           refine AW.block ?_
           refine AW.seq ?_
           refine AW.region ?_
           refine pu (.indexLst (i := i1) rfl (.frs (.tmp rfl)) f23_ (.tmp rfl) rfl (by omega)) rfl rfl rfl ?_
           refine pu (.loadRefAgg rfl (.tmp rfl) f21_ (nb rfl)) rfl rfl rfl ?_
           refine ARun.alloc (id := 14) (l := [.int .i64 0, .int .i64 0]) (z := (.agg #[.int .i64 0, .int .i64 0])) rfl (by kernel_rfl) (fun _ _ _ => ⟨_, _, rfl, rfl, ⟨_, _, rfl, rfl, rfl⟩⟩) ⟨rfl, (by repeat first | exact trivial | refine ⟨by decide, rfl, ?_⟩)⟩ rfl rfl rfl (nb rfl) ?_
           refine ARun.store rfl (.tmp rfl) (.tmp rfl) (SV.cells_of (by exact ⟨trivial, trivial, trivial⟩)) rfl (nb rfl) f25_ rfl rfl ?_
           refine ARun.nil ?_
           refine AW.region ?_
           refine pu (.move rfl (.tmp rfl)) rfl rfl rfl ?_
           refine pu (.move rfl (.tmp rfl)) rfl rfl rfl ?_
           refine ARun.gpure (want := false) (.tf rfl) (fun hg85 => PureOp.loadPtrAgg rfl (.tmp rfl) f21_ rfl rfl (nb rfl) (nb rfl)) rfl rfl (nb rfl) rfl (nb rfl) ?_
           refine ARun.gpure (want := false) (.tf rfl) (fun hg86 => PureOp.loadPtrAgg rfl (.tmp rfl) f21_ rfl rfl (nb rfl) (nb rfl)) rfl rfl (nb rfl) rfl (nb rfl) ?_
           refine ARun.gpure (want := false) (.tf rfl) (fun hg87 => PureOp.eqAgg rfl (.gtmp rfl hg87) (.gtmp rfl hg87) rfl rfl eqGuardSample (fun w_ => equalSample (((rowV ((trimV x47.1 x47.2).1) ((x47.1.rows.getD k1 (default : GRow)).name)).1).getD i1 (default : GSample)) (((x47.1.rows.getD k1 (default : GRow)).samples).getD j1 (default : GSample)) _ rfl w_)) rfl rfl (nb rfl) rfl (nb rfl) ?_
           refine pu (.pick rfl (.tmp rfl) (fun _ => .bool) (fun hp89 => .gtmp rfl (not_of hp89))) rfl rfl rfl ?_
           refine pu (.assign rfl (.tmp rfl)) rfl rfl rfl ?_
           refine ARun.nil ?_
           refine AW.region ?_
           refine pu (.add (c := ((i1 + 1 : Nat) : Int)) rfl (.tmp rfl) .int (by rw [wrap_id (by omega) (by omega)]; omega)) rfl rfl rfl ?_
           refine pu (.move rfl (.tmp rfl)) rfl rfl rfl ?_
           refine ARun.nil ?_
           exact ⟨i1 + 1, by omega, by dsimp only; omega, ⟨⟨⟨_, rfl, rfl⟩, ⟨_, rfl, rfl⟩, ⟨_, rfl, rfl⟩, ⟨_, rfl, rfl⟩, ⟨_, rfl, rfl⟩, ⟨_, rfl, rfl⟩, ⟨_, rfl, rfl⟩, ⟨_, rfl, congrArg (fun z : Bool => SV.one (.bool z)) (any_more (p := fun y => decide (y = ((x47.1.rows.getD k1 (default : GRow)).samples.getD j1 (default : GSample)))) (default : GSample) hil1)⟩, ⟨_, rfl, rfl⟩, ⟨_, rfl, rfl⟩, ⟨_, rfl, rfl⟩, ⟨_, rfl, rfl⟩, ⟨_, rfl, rfl⟩, ⟨_, rfl, rfl⟩, ⟨_, rfl, rfl⟩, ⟨_, rfl, rfl⟩, ⟨_, rfl, rfl⟩, trivial⟩, HeapLe.one rfl (HeapLe.one rfl (HeapLe.one rfl trivial))⟩⟩
          ·
           replace hb84 := of_decide_eq_false hb84
           have hie1 : i1 = (rowV (trimV x47.1 x47.2).1 (x47.1.rows.getD k1 (default : GRow)).name).1.length := by omega
           refine AW.exit ?_
           refine AW.seq ?_
           refine AW.region ?_
           refine pu (.move rfl (.tmp rfl)) rfl rfl rfl ?_
           refine pu (.fieldPtr rfl (.tmp rfl) f48_) rfl rfl rfl ?_
           refine pu (.loadPtr rfl (.tmp rfl) f9_ rfl rfl (nb rfl) (nb rfl)) rfl rfl rfl ?_
           refine pu (.move rfl (.tmp rfl)) rfl rfl rfl ?_
           refine pu (.intOp rfl (.tmp rfl) (.tmp rfl) rfl) rfl rfl rfl ?_
           refine pu (.boolNe rfl (.tmp rfl) (.tmp rfl) f94_) rfl rfl rfl ?_
           refine ARun.nil ?_
           refine AW.cond (.tmp rfl) (fun hb90 => ?_) (fun hb90 => ?_)
           ·
            exact absurd (show (!((((rowV (trimV x47.1 x47.2).1 (x47.1.rows.getD k1 (default : GRow)).name).1.take i1).any (fun y => decide (y = ((x47.1.rows.getD k1 (default : GRow)).samples.getD j1 (default : GSample))))) == (decide (x47.2 ≤ (((x47.1.rows.getD k1 (default : GRow)).samples).getD j1 (default : GSample)).at_)))) = false by rw [hie1, List.take_length, trim_in hgd hkl1 hjl1]; simp) (by rw [hb90]; simp)
            --end
           ·
            have _h := hb90
            refine AW.skip ?_
            refine AW.region ?_
            refine pu (.add (c := ((j1 + 1 : Nat) : Int)) rfl (.tmp rfl) .int (by rw [wrap_id (by omega) (by omega)]; omega)) rfl rfl rfl ?_
            refine pu (.move rfl (.tmp rfl)) rfl rfl rfl ?_
            refine ARun.nil ?_
            exact ⟨j1 + 1, by omega, by dsimp only; omega, ⟨⟨⟨_, rfl, rfl⟩, ⟨_, rfl, rfl⟩, ⟨_, rfl, rfl⟩, ⟨_, rfl, rfl⟩, ⟨_, rfl, rfl⟩, ⟨_, rfl, rfl⟩, ⟨_, rfl, rfl⟩, ⟨_, rfl, rfl⟩, ⟨_, rfl, rfl⟩, ⟨_, rfl, rfl⟩, ⟨_, rfl, rfl⟩, ⟨_, rfl, rfl⟩, trivial⟩, HeapLe.one rfl (HeapLe.one rfl trivial)⟩⟩
         ·
          replace hb83 := of_decide_eq_false hb83
          have hje1 : j1 = (x47.1.rows.getD k1 (default : GRow)).samples.length := by omega
          refine AW.exit ?_
          refine AW.region ?_
          refine pu (.add (c := ((k1 + 1 : Nat) : Int)) rfl (.tmp rfl) .int (by rw [wrap_id (by omega) (by omega)]; omega)) rfl rfl rfl ?_
          refine pu (.move rfl (.tmp rfl)) rfl rfl rfl ?_
          refine ARun.nil ?_
          exact ⟨k1 + 1, by omega, by dsimp only; omega, ⟨⟨⟨_, rfl, rfl⟩, ⟨_, rfl, rfl⟩, ⟨_, rfl, rfl⟩, ⟨_, rfl, rfl⟩, ⟨_, rfl, congrArg (fun z : Nat => SV.one (.int .i64 (z : Int))) (smpN_succ hkl1).symm⟩, ⟨_, rfl, rfl⟩, ⟨_, rfl, rfl⟩, ⟨_, rfl, rfl⟩, trivial⟩, HeapLe.one rfl trivial⟩⟩
        ·
         replace hb82 := of_decide_eq_false hb82
         have hke1 : k1 = x47.1.rows.length := by omega
         subst hke1
         refine AW.exit ?_
         refine AW.seq ?_
         refine AW.seq ?_
         refine AW.region ?_
         refine pu (.fieldPtr rfl (.tmp rfl) f29_) rfl rfl rfl ?_
         refine pu (.loadPtr rfl (.tmp rfl) f33_ rfl rfl (nb rfl) (nb rfl)) rfl rfl rfl ?_
         refine pu (.lenLst rfl (.frs (.tmp rfl)) f35_) rfl rfl rfl ?_
         refine pu (.move rfl .int) rfl rfl rfl ?_
         refine ARun.nil ?_
         refine AW.block ?_
         refine AW.loop (ι := Nat) (fun k3 => ⟨[(1, .one (.lst 1 x1.length (fun i0 _ => .int .u8 (((x1.getD i0 0).toNat : Nat) : Int)))), (31, .one (.ptr 7 2 0 0)), (32, .one (.int .i64 (((trimV x47.1 x47.2).2.1 : Nat) : Int))), (37, .one (.int .i64 (((smpN x47.1.rows x47.1.rows.length : Nat) : Int) - ((smpN (trimV x47.1 x47.2).1.rows k3 : Nat) : Int)))), (260, .one (.frs (.lst 2 ((((trimV x47.1 x47.2).1).rows).length) (fun i0 j0 => ([.str (((((trimV x47.1 x47.2).1).rows).getD i0 (default : GRow)).name), .lst 2 ((((((trimV x47.1 x47.2).1).rows).getD i0 (default : GRow)).samples).length) (fun i1 j1 => ([.int .i64 (((((((trimV x47.1 x47.2).1).rows).getD i0 (default : GRow)).samples).getD i1 (default : GSample)).at_), .int .i64 (((((((trimV x47.1 x47.2).1).rows).getD i0 (default : GRow)).samples).getD i1 (default : GSample)).value)] : List AV).getD j1 (.con undef))] : List AV).getD j0 (.con undef))))), (261, .one (.int .i64 (((((trimV x47.1 x47.2).1).rows).length : Nat) : Int))), (262, .one (.int .i64 (k3 : Int)))], [(7, .cells [.frs (.lst 2 ((((trimV x47.1 x47.2).1).rows).length) (fun i0 j0 => ([.str (((((trimV x47.1 x47.2).1).rows).getD i0 (default : GRow)).name), .lst 2 ((((((trimV x47.1 x47.2).1).rows).getD i0 (default : GRow)).samples).length) (fun i1 j1 => ([.int .i64 (((((((trimV x47.1 x47.2).1).rows).getD i0 (default : GRow)).samples).getD i1 (default : GSample)).at_), .int .i64 (((((((trimV x47.1 x47.2).1).rows).getD i0 (default : GRow)).samples).getD i1 (default : GSample)).value)] : List AV).getD j1 (.con undef))] : List AV).getD j0 (.con undef))), .int .i64 (((trimV x47.1 x47.2).1).offset)])]⟩) (fun k3 => k3 ≤ (trimV x47.1 x47.2).1.rows.length) (fun k3 => (trimV x47.1 x47.2).1.rows.length - k3) 0 (Nat.zero_le _) ⟨⟨⟨_, rfl, rfl⟩, ⟨_, rfl, rfl⟩, ⟨_, rfl, rfl⟩, ⟨_, rfl, congrArg (fun z : Int => SV.one (.int .i64 z)) (by show ((smpN x47.1.rows x47.1.rows.length : Nat) : Int) = ((smpN x47.1.rows x47.1.rows.length : Nat) : Int) - ((smpN (trimV x47.1 x47.2).1.rows 0 : Nat) : Int); simp [smpN])⟩, ⟨_, rfl, rfl⟩, ⟨_, rfl, rfl⟩, ⟨_, rfl, rfl⟩, trivial⟩, HeapLe.one rfl trivial⟩ ?_
         intro k3 hk3
         have hsb3 := smpN_le hgm k3
         refine AW.seq ?_
         refine AW.region ?_
         refine pu (.intOp rfl (.tmp rfl) (.tmp rfl) rfl) rfl rfl rfl ?_
         refine ARun.nil ?_
         refine AW.seq ?_
         refine AW.cond (.tmp rfl) (fun hb91 => ?_) (fun hb91 => ?_)
         ·
          replace hb91 := of_decide_eq_true hb91
          have hkl3 : k3 < (trimV x47.1 x47.2).1.rows.length := by omega
          have hs43 := smp_40 (good_at hgm hkl3).2.2
          refine AW.skip ?_
          refine AW.seq ?_
          refine AW.block ?_
          refine AW.seq ?_
          refine AW.region ?_
          refine pu (.indexLst (i := k3) rfl (.frs (.tmp rfl)) f28_ (.tmp rfl) rfl (by omega)) rfl rfl rfl ?_
          refine pu (.loadRefAgg rfl (.tmp rfl) f27_ (nb rfl)) rfl rfl rfl ?_
          refine ARun.alloc (id := 15) (l := [.str ByteArray.empty, .con (.slice none 0 0)]) (z := (.agg #[.string ByteArray.empty, .slice none 0 0])) rfl (by kernel_rfl) (fun _ _ _ => ⟨_, _, rfl, ⟨rfl, by decide⟩, ⟨_, _, rfl, rfl, rfl⟩⟩) ⟨rfl, (by repeat first | exact trivial | refine ⟨by decide, rfl, ?_⟩)⟩ rfl rfl rfl (nb rfl) ?_
          refine ARun.store rfl (.tmp rfl) (.tmp rfl) (SV.cells_of (by exact ⟨trivial, trivial, trivial⟩)) rfl (nb rfl) f38_ rfl rfl ?_
          refine ARun.nil ?_
          refine AW.region ?_
          refine pu (.move rfl (.tmp rfl)) rfl rfl rfl ?_
          refine pu (.fieldPtr rfl (.tmp rfl) f32_) rfl rfl rfl ?_
          refine pu (.loadPtr rfl (.tmp rfl) f34_ rfl rfl (nb rfl) (nb rfl)) rfl rfl rfl ?_
          refine pu (.lenLst rfl (.tmp rfl) f24_) rfl rfl rfl ?_
          refine pu (.sub (c := ((smpN x47.1.rows x47.1.rows.length : Nat) : Int) - ((smpN (trimV x47.1 x47.2).1.rows k3 : Nat) : Int) - (((((((trimV x47.1 x47.2).1).rows).getD k3 (default : GRow)).samples).length : Nat) : Int)) rfl (.tmp rfl) (.tmp rfl) (wrap_id (by omega) (by omega))) rfl rfl rfl ?_
          refine pu (.assign rfl (.tmp rfl)) rfl rfl rfl ?_
          refine ARun.nil ?_
          refine AW.region ?_
          refine pu (.add (c := ((k3 + 1 : Nat) : Int)) rfl (.tmp rfl) .int (by rw [wrap_id (by omega) (by omega)]; omega)) rfl rfl rfl ?_
          refine pu (.move rfl (.tmp rfl)) rfl rfl rfl ?_
          refine ARun.nil ?_
          exact ⟨k3 + 1, by omega, by dsimp only; omega, ⟨⟨⟨_, rfl, rfl⟩, ⟨_, rfl, rfl⟩, ⟨_, rfl, rfl⟩, ⟨_, rfl, congrArg (fun z : Int => SV.one (.int .i64 z)) (by rw [smpN_succ hkl3]; omega)⟩, ⟨_, rfl, rfl⟩, ⟨_, rfl, rfl⟩, ⟨_, rfl, rfl⟩, trivial⟩, HeapLe.one rfl trivial⟩⟩
         ·
          replace hb91 := of_decide_eq_false hb91
          have hke3 : k3 = (trimV x47.1 x47.2).1.rows.length := by omega
          subst hke3
          refine AW.exit ?_
          refine AW.seq ?_
          refine AW.region ?_
          refine pu (.move rfl (.tmp rfl)) rfl rfl rfl ?_
          refine pu (.move rfl (.tmp rfl)) rfl rfl rfl ?_
          refine pu (.intOp rfl (.tmp rfl) (.tmp rfl) rfl) rfl rfl rfl ?_
          refine pu (.move rfl (.tmp rfl)) rfl rfl rfl ?_
          refine ARun.gpure (want := false) (.tf rfl) (fun hg92 => PureOp.loadPtrAgg rfl (.tmp rfl) f26_ rfl rfl (nb rfl) (nb rfl)) rfl rfl (nb rfl) rfl (nb rfl) ?_
          refine ARun.gpure (want := false) (.tf rfl) (fun hg93 => PureOp.call rfl (v_implGoodHead ((trimV x47.1 x47.2).1)) ⟨⟨_, (.gtmp rfl hg93), ⟨.frs, .int, trivial⟩⟩, trivial⟩ f105_ trivial) rfl rfl (nb rfl) rfl (nb rfl) ?_
          refine ARun.gpure (want := false) (.tf rfl) (fun hg94 => PureOp.not rfl (.gtmp rfl hg94)) rfl rfl (nb rfl) rfl (nb rfl) ?_
          refine pu (.pick rfl (.tmp rfl) (fun _ => .bool) (fun hp96 => .gtmp rfl (not_of hp96))) rfl rfl rfl ?_
          refine ARun.nil ?_
          refine AW.cond (.tmp rfl) (fun hb97 => ?_) (fun hb97 => ?_)
          ·
           exact absurd (show (cond (!decide (((smpN x47.1.rows x47.1.rows.length : Nat) : Int) - ((smpN (trimV x47.1 x47.2).1.rows (trimV x47.1 x47.2).1.rows.length : Nat) : Int) = (((trimV x47.1 x47.2).2.1 : Nat) : Int))) true (!(goodHead ((trimV x47.1 x47.2).1)))) = false by rw [decide_eq_true (by omega), hgm]; rfl) (by rw [hb97]; simp)
           --end
          ·
           have _h := hb97
           refine AW.skip ?_
           refine AW.le ?_ hj62
           exact ⟨⟨⟨_, rfl, rfl⟩, trivial⟩, trivial⟩
       ·
        have _h := hb61
        refine AW.skip ?_
        refine AW.le ?_ hj62
        exact ⟨⟨⟨_, rfl, rfl⟩, trivial⟩, trivial⟩
     refine AW.cond (.tmp rfl) (fun hb45 => ?_) (fun hb45 => ?_)
     ·
      have hz1 := sayV_back hb45
      refine AW.seq ?_
      refine AW.region ?_
      refine pu (.move rfl (.tmp rfl)) rfl rfl rfl ?_
      refine ARun.fresh (FreshOp.callS rfl (v_iReadV (sayV x14).1 (by have := sayV_size x14; omega) (x14, true) hz1) ⟨⟨_, (.tmp rfl), .str⟩, trivial⟩ f99_ rfl) rfl rfl (nb rfl) ?_
      refine pu (.move rfl (.tmp rfl)) rfl rfl rfl ?_
      refine pu (.ext2a rfl (.tmp rfl)) rfl rfl rfl ?_
      refine pu (.ext2b rfl (.tmp rfl)) rfl rfl rfl ?_
      refine ARun.alloc (id := 16) (l := [.str ByteArray.empty, .int .i64 0, .int .i64 0]) (z := (.agg #[.string ByteArray.empty, .int .i64 0, .int .i64 0])) rfl (by kernel_rfl) (fun _ _ _ => ⟨_, _, rfl, ⟨rfl, by decide⟩, ⟨_, _, rfl, rfl, ⟨_, _, rfl, rfl, rfl⟩⟩⟩) ⟨rfl, (by repeat first | exact trivial | refine ⟨by decide, rfl, ?_⟩)⟩ rfl rfl rfl (nb rfl) ?_
      refine ARun.store rfl (.tmp rfl) (.tmp rfl) (SV.cells_of (by exact ⟨trivial, trivial, trivial, trivial⟩)) rfl (nb rfl) f62_ rfl rfl ?_
      refine pu (.assign rfl (.tmp rfl)) rfl rfl rfl ?_
      refine ARun.nil ?_
      refine AW.seq ?_
      refine AW.region ?_
      refine pu (.move rfl (.tmp rfl)) rfl rfl rfl ?_
      refine pu (.not rfl (.tmp rfl)) rfl rfl rfl ?_
      refine pu (.move rfl (.tmp rfl)) rfl rfl rfl ?_
      refine ARun.gpure (want := false) (.tf rfl) (fun hg98 => PureOp.loadPtrAgg rfl (.tmp rfl) f58_ rfl rfl (nb rfl) (nb rfl)) rfl rfl (nb rfl) rfl (nb rfl) ?_
      refine ARun.gpure (want := false) (.tf rfl) (fun hg99 => PureOp.loadPtrAgg rfl (.tmp rfl) f58_ rfl rfl (nb rfl) (nb rfl)) rfl rfl (nb rfl) rfl (nb rfl) ?_
      refine ARun.gpure (want := false) (.tf rfl) (fun hg100 => PureOp.neAgg rfl (.gtmp rfl hg100) (.gtmp rfl hg100) rfl rfl eqGuardSay (fun w_ => equalSay x14 x14 _ rfl w_)) rfl rfl (nb rfl) rfl (nb rfl) ?_
      refine pu (.pick rfl (.tmp rfl) (fun _ => .bool) (fun hp102 => .gtmp rfl (not_of hp102))) rfl rfl rfl ?_
      refine ARun.nil ?_
      refine AW.cond (.tmp rfl) (fun hb103 => ?_) (fun hb103 => ?_)
      ·
       exact absurd (show (cond (!true) true (!(decide (x14 = x14)))) = false by simp) (by rw [hb103]; simp)
       --end
      ·
       have _h := hb103
       refine AW.skip ?_
       refine AW.le ?_ hj46
       exact ⟨⟨⟨_, rfl, rfl⟩, trivial⟩, trivial⟩
     ·
      have _h := hb45
      refine AW.skip ?_
      refine AW.le ?_ hj46
      exact ⟨⟨⟨_, rfl, rfl⟩, trivial⟩, trivial⟩
   refine AW.cond (.tmp rfl) (fun hb10 => ?_) (fun hb10 => ?_)
   ·
    have hz0 := headV_back hb10
    refine AW.seq ?_
    refine AW.region ?_
    refine pu (.move rfl (.tmp rfl)) rfl rfl rfl ?_
    refine ARun.fresh (FreshOp.callS rfl (FnT.toF (v_iHeadV (headV x2).1 (x2, true) hz0)) ⟨⟨_, (.tmp rfl), .str⟩, trivial⟩ f113_ rfl) rfl rfl (nb rfl) ?_
    refine pu (.move rfl (.tmp rfl)) rfl rfl rfl ?_
    refine pu (.ext2a rfl (.tmp rfl)) rfl rfl rfl ?_
    refine pu (.ext2b rfl (.tmp rfl)) rfl rfl rfl ?_
    refine ARun.alloc (id := 17) (l := [.con (.slice none 0 0), .int .i64 0]) (z := (.agg #[.slice none 0 0, .int .i64 0])) rfl (by kernel_rfl) (fun _ _ _ => ⟨_, _, rfl, rfl, ⟨_, _, rfl, rfl, rfl⟩⟩) ⟨rfl, (by repeat first | exact trivial | refine ⟨by decide, rfl, ?_⟩)⟩ rfl rfl rfl (nb rfl) ?_
    refine ARun.store rfl (.tmp rfl) (.tmp rfl) (SV.cells_of (by exact ⟨trivial, trivial, trivial⟩)) rfl (nb rfl) f37_ rfl rfl ?_
    refine pu (.assign rfl (.tmp rfl)) rfl rfl rfl ?_
    refine ARun.nil ?_
    refine AW.seq ?_
    refine AW.region ?_
    refine pu (.move rfl (.tmp rfl)) rfl rfl rfl ?_
    refine pu (.not rfl (.tmp rfl)) rfl rfl rfl ?_
    refine pu (.move rfl (.tmp rfl)) rfl rfl rfl ?_
    refine ARun.gpure (want := false) (.tf rfl) (fun hg104 => PureOp.loadPtrAgg rfl (.tmp rfl) f26_ rfl rfl (nb rfl) (nb rfl)) rfl rfl (nb rfl) rfl (nb rfl) ?_
    refine ARun.gpure (want := false) (.tf rfl) (fun hg105 => PureOp.loadPtrAgg rfl (.tmp rfl) f26_ rfl rfl (nb rfl) (nb rfl)) rfl rfl (nb rfl) rfl (nb rfl) ?_
    refine ARun.gpure (want := false) (.tf rfl) (fun hg106 => PureOp.call rfl (v_sameHeads x2) ⟨⟨_, (.gtmp rfl hg106), ⟨.frs, .int, trivial⟩⟩, ⟨_, (.gtmp rfl hg106), ⟨.frs, .int, trivial⟩⟩, trivial⟩ f114_ trivial) rfl rfl (nb rfl) rfl (nb rfl) ?_
    refine ARun.gpure (want := false) (.tf rfl) (fun hg107 => PureOp.not rfl (.gtmp rfl hg107)) rfl rfl (nb rfl) rfl (nb rfl) ?_
    refine pu (.pick rfl (.tmp rfl) (fun _ => .bool) (fun hp109 => .gtmp rfl (not_of hp109))) rfl rfl rfl ?_
    refine ARun.nil ?_
    refine AW.cond (.tmp rfl) (fun hb110 => ?_) (fun hb110 => ?_)
    ·
     exact absurd (show (cond (!true) true (!true)) = false by simp) (by rw [hb110]; simp)
     --end
    ·
     have _h := hb110
     refine AW.skip ?_
     refine AW.le ?_ hj11
     exact ⟨⟨⟨_, rfl, rfl⟩, trivial⟩, trivial⟩
   ·
    have _h := hb10
    refine AW.skip ?_
    refine AW.le ?_ hj11
    exact ⟨⟨⟨_, rfl, rfl⟩, trivial⟩, trivial⟩
end Go.Proofs.YtonfeiloekofdaaGreatDoor

namespace Go.Proofs.YtonfeiloekofdaaGreatDoor
open Go.ChangeShapes Go.WideShapes Go.ChangeAt Go.RowKit Go.BigFrame Go.Deep
set_option linter.unusedVariables false
set_option linter.unusedSimpArgs false
def laidD : List (String × DataW Unit) := [("math/bits.deBruijn32tab", Rows.laid_math_bits_deBruijn32tab), ("math/bits.deBruijn64tab", Rows.laid_math_bits_deBruijn64tab), ("internal/strconv.uint64pow10", Rows.laid_internal_strconv_uint64pow10), ("unicode/utf8.acceptRanges", Rows.laid_unicode_utf8_acceptRanges), ("strconv.ErrRange", Rows.laid_strconv_ErrRange), ("strconv.ErrSyntax", Rows.laid_strconv_ErrSyntax), ("unicode/utf8.first", Rows.laid_unicode_utf8_first)]
theorem gTenType : (Tryz.prog.globals[3]?).map (·.type) = some 135 := by kernel_rfl
theorem gSynType : (Tryz.prog.globals[1]?).map (·.type) = some 88 := by kernel_rfl
theorem gRanType : (Tryz.prog.globals[2]?).map (·.type) = some 88 := by kernel_rfl
theorem star_err : "*" ++ "errors.errorString" = "*errors.errorString" := by decide
theorem row_err (u : TypeId) (h : Tryz.prog.typeName? 3 u = some "*errors.errorString") : u = 141 :=
  typeName_ptr_named (nm := "errors.errorString") (by rw [star_err]; kernel_rfl) (by kernel_rfl) (by decide) u (by rw [star_err]; exact h)
theorem ten_only : (laidD.filter fun x => x.1 == "internal/strconv.uint64pow10") = [("internal/strconv.uint64pow10", Lib.tabData .u64 Lib.pow10Tab)] := by kernel_rfl
theorem syn_only : (laidD.filter fun x => x.1 == "strconv.ErrSyntax") = [("strconv.ErrSyntax", Rows.laid_strconv_ErrSyntax)] := by kernel_rfl
theorem ran_only : (laidD.filter fun x => x.1 == "strconv.ErrRange") = [("strconv.ErrRange", Rows.laid_strconv_ErrRange)] := by kernel_rfl
theorem cells_es : Tryz.prog.cellsOf 143 = 1 := by kernel_rfl
theorem cells_s : Tryz.prog.cellsOf 9 = 1 := by kernel_rfl
theorem pre_of_laid {W : World} (h : laidMetH Tryz.prog laidD W) (hsh : W.ShapedOpen Tryz.prog) : Pre W.heap.size W := by
  rw [MakeChecks.laidMetH_plain _ _ _ (by kernel_rfl)] at h
  have hL := laidMet.filter (fun x => x.1 == "internal/strconv.uint64pow10") h
  rw [ten_only] at hL
  have ht : Lib.TabIs Tryz.prog W "internal/strconv.uint64pow10" .u64 Lib.pow10Tab := Lib.tabIs_of_head gTen gTenType Tryz.underlying135 Tryz.underlying59 (by kernel_rfl) (by kernel_rfl) hL
  have hS := laidMet.filter (fun x => x.1 == "strconv.ErrSyntax") h
  rw [syn_only] at hS
  have hR := laidMet.filter (fun x => x.1 == "strconv.ErrRange") h
  rw [ran_only] at hR
  obtain ⟨a0, s0, hv0, _, _, _⟩ := laid_sentinel hS gSyn gSynType Tryz.underlying88 row_err Tryz.underlying141 Tryz.underlying143 rfl rfl Tryz.underlying9 cells_es cells_s
  obtain ⟨a1, s1, hv1, _, _, _⟩ := laid_sentinel hR gRan gRanType Tryz.underlying88 row_err Tryz.underlying141 Tryz.underlying143 rfl rfl Tryz.underlying9 cells_es cells_s
  refine ⟨?_, ht, ⟨_, _, hv0⟩, ⟨_, _, hv1⟩, cell_of_shapedOpen_int (zero := #[.int .i64 0]) (t := 3) hsh (of_decide_eq_true (by kernel_rfl)) (by kernel_rfl) rfl (by kernel_rfl) (by kernel_rfl) Tryz.underlying3⟩
  unfold Lib.TabIs World.var? at ht
  rw [gTen] at ht
  simp only [Option.bind_some] at ht
  by_cases h0 : 3 < W.heap.size
  · exact h0
  · rw [Array.getElem?_eq_none (by omega)] at ht; cases ht
theorem door_met (os : Os) (args : Array Value) : laidMetH Tryz.prog laidD ((World.laidAll Tryz.prog os laidD).forCall (fun _ _ => 0) ⟨#[], args, []⟩).memory := by
  rw [MakeChecks.laidMetH_plain _ _ _ (by kernel_rfl)]
  exact laidMet_laidAll _ (by kernel_rfl) (by kernel_rfl)
section
variable {H : Type} {enc : TypeId × Value → H}
theorem handed_shaped {a : Assume} {C : Checked} {os : Os} {f : FuncId} {fn : Func} {s : ChangeSpec} {conds : List PathCond} {apart fresh handsOn again : Bool} {X : World → Array Value → Prop}
    (hX : ∀ (w w' : World) (args : Array Value), w.heap = w'.heap → X w args → X w' args)
    (own : ownKnob C.prog.godebug = none) (started : os.Started) (noInit : C.prog.inits.idxOf? f = none) (hfn : C.prog.funcs[f]? = some fn)
    (witness : ∃ (w : World) (tape : Tape) (i : Input), w.os = os ∧ (w.forCall tape i).Shaped C.prog ∧ i.vars = [] ∧ Input.okWide C.prog (w.forCall tape i) .any w.heap.size f i ∧
      ((s.pre enc C.prog fn conds apart (w.forCall tape i).memory i.args ∧ X (w.forCall tape i).memory i.args) ∧ sizedMet enc C.prog fn (OpenSpec.ofChange s) apart (w.forCall tape i).memory i.args) ∧ a.holds C.prog (lone (Frame.enter C.prog f i.args .normal) [] (w.forCall tape i)))
    (contract : ∀ (W : World) (base : Nat) (args : Array Value) (ds gs : List (DataW H)) (before : List MemPlace), W.ShapedOpen C.prog →
      (∀ (j : Nat) t v, fn.params[j]? = some t → args[j]? = some v → Value.okWide C.prog W .any base t v) →
      DataW.Whole enc C.prog fn.params.toList s.vars apart W args.toList ds gs before →
      conds.all (PathCond.test C.prog ⟨fn.params.toList, ds, s.plain.varTypes C.prog, gs⟩) = true →
      (DataW.weightsEach C.prog (fn.params.toList ++ s.plain.varTypes C.prog) (ds ++ gs)).all (· ≤ reachBytes) = true → X W args →
      a.holds C.prog (lone (Frame.enter C.prog f args .normal) [] W) →
      Calls C.prog f args W fun e W' => ∃ v, e = .returned v ∧ s.post enc C.prog fn apart fresh handsOn again W args v W') :
    ReturnsInHanded a C os f .any (fun w args => (s.pre enc C.prog fn conds apart w args ∧ X w args) ∧ sizedMet enc C.prog fn (OpenSpec.ofChange s) apart w args) (s.post enc C.prog fn apart fresh handsOn again) := by
  refine returnsInHanded_of_calls own started noInit witness ?_
  intro w tape i _ hsh _ hok hpre hholds
  obtain ⟨_, _, _, fn', hfn', _, _, _, _, hval⟩ := hok
  have e : fn' = fn := Option.some.inj (hfn'.symm.trans hfn)
  subst e
  obtain ⟨⟨⟨ds, gs, before, hw, hc⟩, hx⟩, hz⟩ := hpre
  have hw' := DataW.Whole.of_heap (w' := w.forCall tape i) (by rfl) hw
  refine (contract (w.forCall tape i) w.heap.size i.args ds gs before hsh hval hw' hc (hz.weights hw) (hX _ _ _ (by rfl) hx) hholds).mono fun e W' ⟨v, he, hp⟩ => ?_
  subst he
  exact ChangeSpec.post_blind hp
end
theorem opensC_5 : OpensC Tryz.prog 5 (fun x : UInt8 => [.int .u8 ((x.toNat : Nat) : Int)]) := OpensC.byte Tryz.underlying5
theorem opensC_22 : OpensC Tryz.prog 22 (fun x : List UInt8 => [.lst 1 x.length (fun i0 _ => .int .u8 (((x.getD i0 0).toNat : Nat) : Int))]) := OpensC.slice (0 : UInt8) Tryz.underlying22 (by kernel_rfl) (by decide) opensC_5 (fun _ => rfl) (fun l i j _ hj => match j, hj with | 0, _ => rfl | _ + 1, h => absurd h (by omega))
 
set_option maxRecDepth 100000 in
theorem lifted_FnHeadTexts (os : Os) (started : os.Started) (H : Type) (enc : TypeId × Value → H) :
    ReturnsInHanded {} Tryz.checked os 3 .any (fun w args => (Rows.fnHeadTextsSpec.pre enc Tryz.prog Tryz.f3 [] false w args ∧ laidMetH Tryz.prog laidD w) ∧ sizedMet enc Tryz.prog Tryz.f3 (OpenSpec.ofChange Rows.fnHeadTextsSpec) false w args) (Rows.fnHeadTextsSpec.post enc Tryz.prog Tryz.f3 false true false false) := by
  refine handed_shaped (C := Tryz.checked) (X := fun w _ => laidMetH Tryz.prog laidD w) (fun _ _ _ hh h => h.of_heap hh) own started (by kernel_rfl) Tryz.func3
    (ChangeSpec.witness_shaped (enc := enc) (C := Tryz.checked) (os := os) (X := fun w _ => laidMetH Tryz.prog laidD w) false (World.laidAll Tryz.prog os laidD) #[.slice none 0 0, .slice none 0 0] 8 (World.laidAll_os _ _ _) (World.shaped_of_ZipB (by kernel_rfl) (by kernel_rfl)) (by kernel_rfl) (by kernel_rfl) (by kernel_rfl) (door_met os _)) ?_
  intro W base args ds gs before hsh hval0 hW _ _ hL _
  have hval : ∀ (j : Nat) t v, Tryz.f3.params[j]? = some t → args[j]? = some v → Value.okWide Tryz.prog W .any base t v := hval0
  have hW' := hW
  obtain ⟨p, q, hA0, hV, rfl, hfz, hnd⟩ := hW
  have hA : DataW.TrodAll enc Tryz.prog W 0 (fun _ => true) true Tryz.f3.params.toList args.toList ds p := hA0
  rw [Tryz.params3] at hA hval
  obtain ⟨v0, vs0, d0, ds0, p0, q0, hargs, rfl, rfl, h0, r0⟩ := trodAll_cons hA
  obtain ⟨v1, vs1, d1, ds1, p1, q1, rfl, rfl, rfl, h1, r1⟩ := trodAll_cons r0
  obtain ⟨rfl, rfl, rfl⟩ := trodAll_nil r1
  obtain rfl : args = #[v0, v1] := by cases args; simp_all
  obtain ⟨rfl, rfl⟩ := trodVars_none hV
  obtain ⟨x0, R0⟩ := OpensC.arg opensC_22 h0
  have E0 : DS W (· < W.heap.size) (.one (.lst 1 x0.length (fun i0 _ => .int .u8 (((x0.getD i0 0).toNat : Nat) : Int)))) v0 := DS.one_of (by obtain ⟨a, n, c, rfl⟩ := okWide_slice Tryz.underlying22 (hval 0 22 v0 rfl rfl); rfl) R0
  obtain ⟨x1, R1⟩ := OpensC.arg opensC_22 h1
  have E1 : DS W (· < W.heap.size) (.one (.lst 1 x1.length (fun i0 _ => .int .u8 (((x1.getD i0 0).toNat : Nat) : Int)))) v1 := DS.one_of (by obtain ⟨a, n, c, rfl⟩ := okWide_slice Tryz.underlying22 (hval 1 22 v1 rfl rfl); rfl) R1
  clear hA0 hval0
  refine (law_FnHeadTexts x0 x1 W (· < W.heap.size) _ ⟨fun _ h => h, pre_of_laid hL hsh⟩ ⟨_, _, rfl, E0, ⟨_, _, rfl, E1, rfl⟩⟩).mono fun e W' ⟨he, hg⟩ => ?_
  subst he
  exact ⟨_, rfl, law_post hW' rfl laidOut (by kernel_rfl) hg rfl rfl Tryz.underlying4⟩
theorem said_FnHeadTexts : Rows.FnHeadTextsSaid :=
  OpenClaim.holds_of_wide 3 Tryz.f3 rfl rfl rfl rfl rfl rfl rfl ⟨rfl, rfl, rfl, rfl, rfl⟩ rfl rfl rfl rfl rfl (by kernel_rfl) Tryz.func3 (by kernel_rfl)
    (of_decide_eq_true (by kernel_rfl)) (by unfold Func.isWrapper; first | (rw [if_pos (by decide +kernel)]; kernel_rfl) | (rw [if_neg (by decide +kernel)]; exact ⟨rfl, rfl⟩))
    (fun os started H enc _ => lifted_FnHeadTexts os started H enc)
theorem proved_FnHeadTexts : Rows.FnHeadTextsCardSaid :=
  Claim7.holds_tied_plain_at .later [] [.data, .data, .data, .data, .sentinel, .sentinel, .pinned] true (true, "745d7ee2c92675e81febb88cbb5382f0727322a256742443c5d2499df72079aa") true
    said_FnHeadTexts (fun _ h => by cases h) (by kernel_rfl) (fun _ h => by cases h) fnHeadTexts_row_tie rfl ⟨rfl, rfl⟩ (by kernel_rfl) rfl
    (fun f fn hf hfn => by
      obtain rfl : f = 3 := Option.some.inj ((show Tryz.prog.funcNamed "loop.example/g00522/laws.FnHeadTexts" = some 3 by kernel_rfl).symm.trans hf) |>.symm
      obtain rfl : fn = Tryz.f3 := (Option.some.inj (Tryz.func3.symm.trans hfn)).symm
      exact ⟨by kernel_rfl, fun j t ht => by
        rw [Tryz.params3] at ht
        have hm : t ∈ [22, 22] := by simpa using Array.mem_of_getElem? ht
        have hall : ([22, 22].all fun u => !Tryz.prog.wantsStandIn u) = true := by kernel_rfl
        exact (show Tryz.prog.wantsStandIn t = false by simpa using List.all_eq_true.1 hall t hm)⟩)
    (by kernel_rfl)
#print axioms proved_FnHeadTexts
end Go.Proofs.YtonfeiloekofdaaGreatDoor
