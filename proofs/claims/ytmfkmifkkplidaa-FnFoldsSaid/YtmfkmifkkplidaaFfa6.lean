/-
  Part 6 of the proof: the texts of a seat's own library, joined.
-/
import Derived.Test.YtmfkmifkkplidaaFfa3
import Derived.Test.YtmfkmifkkplidaaFfa5
/-
  What the reference's cursor draws: measurements.
-/
namespace Go.Proofs.Ytmfkmifkkplidaa
open Go.ChangeShapes Go.WideShapes Go.ChangeAt Go.RowKit Go.BigFrame Go.Deep
set_option linter.unusedVariables false
set_option linter.unusedSimpArgs false
theorem vd2_ag_47_3 : aggB Try.prog 47 3 = true := by kernel_rfl
theorem vd2_ca_44 : callB Try.prog 44 = true := by kernel_rfl
theorem vd2_ca_67 : callB Try.prog 67 = true := by kernel_rfl
theorem vd2_ca_80 : callB Try.prog 80 = true := by kernel_rfl
theorem vd2_ca_81 : callB Try.prog 81 = true := by kernel_rfl
theorem vd2_ca_82 : callB Try.prog 82 = true := by kernel_rfl
theorem vd2_ca_83 : callB Try.prog 83 = true := by kernel_rfl
theorem vd2_fi_47_0_0 : fieldB Try.prog 47 0 0 = true := by kernel_rfl
theorem vd2_fi_47_1_1 : fieldB Try.prog 47 1 1 = true := by kernel_rfl
theorem vd2_pl_3 : plainB Try.prog 3 = true := by kernel_rfl
theorem vd2_sl_55 : sliceB Try.prog 55 = true := by kernel_rfl
theorem vd2_sz_3_1 : sizeB Try.prog 3 1 = true := by kernel_rfl
theorem vd2_sz_47_3 : sizeB Try.prog 47 3 = true := by kernel_rfl
theorem vd2_sz_9_1 : sizeB Try.prog 9 1 = true := by kernel_rfl
def syC (l : List GSay) (i j : Nat) : AV := ([.str (l.getD i (default : GSay)).name, .int .i64 (l.getD i (default : GSay)).at_, .int .i64 (l.getD i (default : GSay)).value] : List AV).getD j (.con undef)
abbrev sysD (l : List GSay) : AV := .lst 3 l.length (syC l)
theorem sy_ren {g : Nat → Nat} {L : List GSay} {i j : Nat} (hj : j < 3) : AV.ren g (syC L i j) = syC L i j := by
  match j, hj with
  | 0, _ => rfl
  | 1, _ => rfl
  | 2, _ => rfl
  | _ + 3, h => exact absurd h (by omega)
theorem sy_app {L : List GSay} {s : ByteArray} {a b : Int} {i j : Nat} (hi : i < L.length + 1) : (if i < L.length then syC L i j else (fun _ jc => ([.str s, .int .i64 a, .int .i64 b] : List AV).getD jc (.con undef)) (i - L.length) j) = syC (L ++ [⟨s, a, b⟩]) i j := by
  unfold syC
  by_cases h : i < L.length
  · rw [if_pos h, getD_app, if_pos h]
  · obtain rfl : i = L.length := by omega
    rw [if_neg h, getD_app, if_neg h, Nat.sub_self]; rfl
theorem fw_sy {H : Heap} {id m : Nat} {o : AObj} {L : List GSay} (hid : (id == 1000000) = false) (ho : H.lookup id = some o) (hsz : o.sz = 3) (hn : L.length ≤ o.n) (hm : m = L.length) (hf : ∀ i j, i < L.length → j < 3 → o.f i j = syC L i j) : Fw H (.own id 3 m) (sysD L) := by
  subst hm
  refine .own hid ho hsz hn fun i j hi hj => ?_
  rw [hf i j hi hj]
  match j, hj with
  | 0, _ => exact .str
  | 1, _ => exact .int
  | 2, _ => exact .int
  | _ + 3, h => exact absurd h (by omega)
structure SyS where
  l : List GSay
  p : Nat
  s : Nat
  e : Nat
theorem v_Say (n : Nat) (F : Nat → Nat) (hF : ∀ i, F i < 256) (p s : Nat) (hp : p ≤ 1700000000) (hs : s < 18446744073709551616) : FnC Try.prog 67 n F [] p s (fun (x : GSay) p' s' => CurOk p 20 p' s') (fun (x : GSay) => .agg [.str x.name, .int .i64 x.at_, .int .i64 x.value]) := by
  refine FnC.of_body (fn := Try.f67) Try.func67 rfl (Nat.le_of_ble_eq_true rfl) ?_
  intro w0 c
  show AW _ 24 _ _ _ _
  refine AW.seq ?_
  refine AW.region ?_
  refine ARun.alloc (id := 0) (l := [.str ByteArray.empty, .int .i64 0, .int .i64 0]) (z := (.agg #[.string ByteArray.empty, .int .i64 0, .int .i64 0])) rfl (by kernel_rfl) (fun _ _ _ => ⟨_, _, rfl, ⟨rfl, by decide⟩, ⟨_, _, rfl, rfl, ⟨_, _, rfl, rfl, rfl⟩⟩⟩) ⟨rfl, (by repeat first | exact trivial | refine ⟨by decide, by first | rfl | exact trivial | (intro i j; first | rfl | exact getD_no rfl | (dsimp only; split <;> first | rfl | exact getD_no rfl) | exact scl_no (by apply_assumption) _), ?_⟩)⟩ rfl rfl rfl (Nat.le_of_ble_eq_true rfl) ?_
  refine ARun.nil ?_
  refine AW.seq ?_
  refine AW.seq ?_
  refine AW.region ?_
  refine ARun.pure (PureOp.move rfl (.tmp rfl)) rfl rfl (Nat.le_of_ble_eq_true rfl) ?_
  refine ARun.cur (id := 1000000) rfl (v_One n F hF p s (by omega) (by omega) 40 (by omega)) vd2_ca_82 ⟨.inr (.tmp rfl), .inl ⟨_, .int, .int⟩, trivial⟩ rfl rfl rfl (Nat.le_of_ble_eq_true rfl) (fun x1 p2 sd3 hc4 => ?_)
  have hc4c := hc4
  obtain ⟨hc41, hc42, hc43⟩ := hc4c
  refine ARun.nil ?_
  refine AW.cond (.tmp rfl) (fun hb5 => ?_) (fun hb5 => ?_)
  · have _u := True.intro
    refine AW.seq ?_
    refine AW.region ?_
    refine ARun.pure (PureOp.move rfl (.tmp rfl)) rfl rfl (Nat.le_of_ble_eq_true rfl) ?_
    refine ARun.fresh (FreshOp.strs4 (a1 := ByteArray.empty) (a2 := (⟨#[65]⟩ : ByteArray)) (a3 := (⟨#[116, 111, 111, 108, 111, 110, 103, 110, 97, 109, 101]⟩ : ByteArray)) (a4 := (⟨#[120]⟩ : ByteArray)) rfl (.str (by decide)) (.str (by decide)) (.str (by decide)) (.str (by decide)) Try.underlying117 (by kernel_rfl)) rfl rfl (Nat.le_of_ble_eq_true rfl) ?_
    refine ARun.cur (id := 1000000) rfl (v_Of n F hF p2 sd3 (by omega) (by omega) ([ByteArray.empty, (⟨#[65]⟩ : ByteArray), (⟨#[116, 111, 111, 108, 111, 110, 103, 110, 97, 109, 101]⟩ : ByteArray), (⟨#[120]⟩ : ByteArray)] : List ByteArray) ⟨by decide, by decide⟩) vd2_ca_83 ⟨.inr (.tmp rfl), .inl ⟨_, (.tmp rfl), .frs⟩, trivial⟩ rfl rfl rfl (Nat.le_of_ble_eq_true rfl) (fun x6 p7 sd8 hc9 => ?_)
    obtain ⟨hc9x, hc9c⟩ := hc9
    obtain ⟨hc91, hc92, hc93⟩ := hc9c
    refine ARun.pure (PureOp.move rfl (.tmp rfl)) rfl rfl (Nat.le_of_ble_eq_true rfl) ?_
    refine ARun.fresh (FreshOp.trip (a1 := (-1)) (a2 := 1000000000) (a3 := 1000000001) rfl .int .int .int Try.underlying52 (by kernel_rfl)) rfl rfl (Nat.le_of_ble_eq_true rfl) ?_
    refine ARun.cur (id := 1000000) rfl (v_Among n F hF p7 sd8 (by omega) (by omega) ([(-1), 1000000000, 1000000001] : List Int) ⟨by decide, by decide⟩) vd2_ca_81 ⟨.inr (.tmp rfl), .inl ⟨_, (.tmp rfl), .frs⟩, trivial⟩ rfl rfl rfl (Nat.le_of_ble_eq_true rfl) (fun x10 p11 sd12 hc13 => ?_)
    obtain ⟨hc13x, hc13c⟩ := hc13
    obtain ⟨hc131, hc132, hc133⟩ := hc13c
    refine ARun.pure (PureOp.move rfl (.tmp rfl)) rfl rfl (Nat.le_of_ble_eq_true rfl) ?_
    refine ARun.fresh (FreshOp.pairL (a1 := (-1000000000)) (a2 := 1000000001) rfl .int .int Try.underlying52 (by kernel_rfl)) rfl rfl (Nat.le_of_ble_eq_true rfl) ?_
    refine ARun.cur (id := 1000000) rfl (v_Among n F hF p11 sd12 (by omega) (by omega) ([(-1000000000), 1000000001] : List Int) ⟨by decide, by decide⟩) vd2_ca_81 ⟨.inr (.tmp rfl), .inl ⟨_, (.tmp rfl), .frs⟩, trivial⟩ rfl rfl rfl (Nat.le_of_ble_eq_true rfl) (fun x14 p15 sd16 hc17 => ?_)
    obtain ⟨hc17x, hc17c⟩ := hc17
    obtain ⟨hc171, hc172, hc173⟩ := hc17c
    refine ARun.pure (PureOp.build (ys := [.str x6, .int .i64 x10, .int .i64 x14]) (l := [.str ByteArray.empty, .int .i64 0, .int .i64 0]) (pl := [(0, 1), (1, 1), (2, 1)]) (z := (.agg #[.string ByteArray.empty, .int .i64 0, .int .i64 0])) rfl (by kernel_rfl) (by kernel_rfl) (fun _ _ _ => ⟨_, _, rfl, ⟨rfl, by decide⟩, ⟨_, _, rfl, rfl, ⟨_, _, rfl, rfl, rfl⟩⟩⟩) ⟨(.tmp rfl), trivial, rfl, ⟨(.tmp rfl), trivial, rfl, ⟨(.tmp rfl), trivial, rfl, trivial⟩⟩⟩ rfl) rfl rfl (Nat.le_of_ble_eq_true rfl) ?_
    refine ARun.store rfl (.tmp rfl) (.tmp rfl) (SV.cells_of (by exact ⟨trivial, trivial, trivial, trivial⟩)) rfl (Nat.le_of_ble_eq_true rfl) vd2_sz_47_3 rfl rfl ?_
    refine ARun.nil ?_
    exact AW.ret (show ∃ x p' s' t, _ ∧ ResL _ _ [.cell 2 47] t ∧ _ ∧ _ from ⟨⟨x6, x10, x14⟩, p15, sd16, _, ⟨by omega, by omega, by omega⟩, .inl ⟨_, rfl, .cells rfl vd2_ag_47_3 rfl rfl (Nat.le_of_ble_eq_true rfl) (Nat.le_of_ble_eq_true rfl)⟩, ⟨.str, .int, .int, trivial⟩, rfl⟩)
  · have _u := True.intro
    refine AW.skip ?_
    refine AW.seq ?_
    refine AW.region ?_
    refine ARun.pure (PureOp.move rfl (.tmp rfl)) rfl rfl (Nat.le_of_ble_eq_true rfl) ?_
    refine ARun.fresh (FreshOp.strs4 (a1 := (⟨#[99, 112, 117]⟩ : ByteArray)) (a2 := (⟨#[109, 101, 109]⟩ : ByteArray)) (a3 := (⟨#[100, 105, 115, 107]⟩ : ByteArray)) (a4 := (⟨#[110, 101, 116]⟩ : ByteArray)) rfl (.str (by decide)) (.str (by decide)) (.str (by decide)) (.str (by decide)) Try.underlying117 (by kernel_rfl)) rfl rfl (Nat.le_of_ble_eq_true rfl) ?_
    refine ARun.cur (id := 1000000) rfl (v_Of n F hF p2 sd3 (by omega) (by omega) ([(⟨#[99, 112, 117]⟩ : ByteArray), (⟨#[109, 101, 109]⟩ : ByteArray), (⟨#[100, 105, 115, 107]⟩ : ByteArray), (⟨#[110, 101, 116]⟩ : ByteArray)] : List ByteArray) ⟨by decide, by decide⟩) vd2_ca_83 ⟨.inr (.tmp rfl), .inl ⟨_, (.tmp rfl), .frs⟩, trivial⟩ rfl rfl rfl (Nat.le_of_ble_eq_true rfl) (fun x18 p19 sd20 hc21 => ?_)
    obtain ⟨hc21x, hc21c⟩ := hc21
    obtain ⟨hc211, hc212, hc213⟩ := hc21c
    refine ARun.pure (PureOp.move rfl (.tmp rfl)) rfl rfl (Nat.le_of_ble_eq_true rfl) ?_
    refine ARun.cur (id := 1000000) rfl (v_Pick n F hF p19 sd20 (by omega) (by omega) 60 (by omega)) vd2_ca_80 ⟨.inr (.tmp rfl), .inl ⟨_, .int, .int⟩, trivial⟩ rfl rfl rfl (Nat.le_of_ble_eq_true rfl) (fun x22 p23 sd24 hc25 => ?_)
    obtain ⟨hc25x, hc25c⟩ := hc25
    obtain ⟨hc251, hc252, hc253⟩ := hc25c
    refine ARun.pure (PureOp.move rfl (.tmp rfl)) rfl rfl (Nat.le_of_ble_eq_true rfl) ?_
    refine ARun.cur (id := 1000000) rfl (v_Pick n F hF p23 sd24 (by omega) (by omega) 100 (by omega)) vd2_ca_80 ⟨.inr (.tmp rfl), .inl ⟨_, .int, .int⟩, trivial⟩ rfl rfl rfl (Nat.le_of_ble_eq_true rfl) (fun x26 p27 sd28 hc29 => ?_)
    obtain ⟨hc29x, hc29c⟩ := hc29
    obtain ⟨hc291, hc292, hc293⟩ := hc29c
    refine ARun.pure (PureOp.sub (c := (x26 : Int) - 20) rfl (.tmp rfl) .int (wrap_id (by have hx_ := hc29x; omega) (by have hx_ := hc29x; omega))) rfl rfl (Nat.le_of_ble_eq_true rfl) ?_
    refine ARun.pure (PureOp.build (ys := [.str x18, .int .i64 (x22 : Int), .int .i64 ((x26 : Int) - 20)]) (l := [.str ByteArray.empty, .int .i64 0, .int .i64 0]) (pl := [(0, 1), (1, 1), (2, 1)]) (z := (.agg #[.string ByteArray.empty, .int .i64 0, .int .i64 0])) rfl (by kernel_rfl) (by kernel_rfl) (fun _ _ _ => ⟨_, _, rfl, ⟨rfl, by decide⟩, ⟨_, _, rfl, rfl, ⟨_, _, rfl, rfl, rfl⟩⟩⟩) ⟨(.tmp rfl), trivial, rfl, ⟨(.tmp rfl), trivial, rfl, ⟨(.tmp rfl), trivial, rfl, trivial⟩⟩⟩ rfl) rfl rfl (Nat.le_of_ble_eq_true rfl) ?_
    refine ARun.store rfl (.tmp rfl) (.tmp rfl) (SV.cells_of (by exact ⟨trivial, trivial, trivial, trivial⟩)) rfl (Nat.le_of_ble_eq_true rfl) vd2_sz_47_3 rfl rfl ?_
    refine ARun.nil ?_
    exact AW.ret (show ∃ x p' s' t, _ ∧ ResL _ _ [.cell 2 47] t ∧ _ ∧ _ from ⟨⟨x18, (x22 : Int), (x26 : Int) - 20⟩, p27, sd28, _, ⟨by omega, by omega, by omega⟩, .inl ⟨_, rfl, .cells rfl vd2_ag_47_3 rfl rfl (Nat.le_of_ble_eq_true rfl) (Nat.le_of_ble_eq_true rfl)⟩, ⟨.str, .int, .int, trivial⟩, rfl⟩)

theorem v_Says (n : Nat) (F : Nat → Nat) (hF : ∀ i, F i < 256) (p s : Nat) (hp : p ≤ 1600000000) (hs : s < 18446744073709551616) : FnC Try.prog 65 n F [] p s (fun (x : List GSay) p' s' => x.length ≤ 61 ∧ CurOk p 2000 p' s') (fun (x : List GSay) => .one (sysD x)) := by
  refine FnC.of_body (fn := Try.f65) Try.func65 rfl (Nat.le_of_ble_eq_true rfl) ?_
  intro w0 c
  show AW _ 43 _ _ _ _
  refine AW.seq ?_
  refine AW.region ?_
  refine ARun.pure (PureOp.assign rfl .con) rfl rfl (Nat.le_of_ble_eq_true rfl) ?_
  refine ARun.nil ?_
  refine AW.seq ?_
  refine AW.region ?_
  refine ARun.pure (PureOp.assign rfl .con) rfl rfl (Nat.le_of_ble_eq_true rfl) ?_
  refine ARun.nil ?_
  refine AW.seq ?_
  refine AW.region ?_
  refine ARun.pure (PureOp.move rfl (.tmp rfl)) rfl rfl (Nat.le_of_ble_eq_true rfl) ?_
  refine ARun.cur (id := 1000000) rfl (v_Pick n F hF p s (by omega) (by omega) 14 (by omega)) vd2_ca_80 ⟨.inr (.tmp rfl), .inl ⟨_, .int, .int⟩, trivial⟩ rfl rfl rfl (Nat.le_of_ble_eq_true rfl) (fun x1 p2 sd3 hc4 => ?_)
  obtain ⟨hc4x, hc4c⟩ := hc4
  obtain ⟨hc41, hc42, hc43⟩ := hc4c
  refine ARun.pure (PureOp.assign rfl (.tmp rfl)) rfl rfl (Nat.le_of_ble_eq_true rfl) ?_
  refine ARun.nil ?_
  refine AW.seq ?_
  refine AW.seq ?_
  refine AW.region ?_
  refine ARun.pure (PureOp.move rfl (.tmp rfl)) rfl rfl (Nat.le_of_ble_eq_true rfl) ?_
  refine ARun.cur (id := 1000000) rfl (v_One n F hF p2 sd3 (by omega) (by omega) 20 (by omega)) vd2_ca_82 ⟨.inr (.tmp rfl), .inl ⟨_, .int, .int⟩, trivial⟩ rfl rfl rfl (Nat.le_of_ble_eq_true rfl) (fun x5 p6 sd7 hc8 => ?_)
  have hc8c := hc8
  obtain ⟨hc81, hc82, hc83⟩ := hc8c
  refine ARun.nil ?_
  refine AW.cond (.tmp rfl) (fun hb9 => ?_) (fun hb9 => ?_)
  · have _u := True.intro
    refine AW.region ?_
    refine ARun.pure (PureOp.move rfl (.tmp rfl)) rfl rfl (Nat.le_of_ble_eq_true rfl) ?_
    refine ARun.cur (id := 1000000) rfl (v_Pick n F hF p6 sd7 (by omega) (by omega) 3 (by omega)) vd2_ca_80 ⟨.inr (.tmp rfl), .inl ⟨_, .int, .int⟩, trivial⟩ rfl rfl rfl (Nat.le_of_ble_eq_true rfl) (fun x10 p11 sd12 hc13 => ?_)
    obtain ⟨hc13x, hc13c⟩ := hc13
    obtain ⟨hc131, hc132, hc133⟩ := hc13c
    refine ARun.pure (PureOp.add (c := ((59 + x10 : Nat) : Int)) rfl .int (.tmp rfl) (by rw [wrap_id (by omega) (by omega)]; omega)) rfl rfl (Nat.le_of_ble_eq_true rfl) ?_
    refine ARun.pure (PureOp.assign rfl (.tmp rfl)) rfl rfl (Nat.le_of_ble_eq_true rfl) ?_
    refine ARun.nil ?_
    refine AW.seq ?_
    refine AW.region ?_
    refine ARun.pure (PureOp.assign rfl .int) rfl rfl (Nat.le_of_ble_eq_true rfl) ?_
    refine ARun.nil ?_
    refine AW.seq ?_
    refine AW.block ?_
    have hT : (59 + x10) ≤ 61 := by omega
    refine AW.nilSlot 3 900 3 (syC []) rfl ⟨rfl, (by repeat first | exact trivial | refine ⟨by decide, by first | rfl | exact trivial | (intro i j; first | rfl | exact getD_no rfl | (dsimp only; split <;> first | rfl | exact getD_no rfl) | exact scl_no (by apply_assumption) _), ?_⟩)⟩ ?_
    -- objects are renamed
    refine AW.loopR (ι := SyS) (fun v => ⟨[(0, .one (.ptr 1000000 3 0 0)), (3, .one (.own 900 3 v.l.length)), (4, .one (.int .i64 ((((59 + x10) - v.l.length) : Nat) : Int))), (5, .one (.int .i64 (v.e : Int)))], [(900, .arr 3 v.l.length (syC v.l)), (1000000, .cells [.cv c (.lst 1 n (fun i _ => .int .u8 ((F i : Nat) : Int))), .int .i64 (v.p : Int), .int .u64 ((v.s : Nat) : Int)])]⟩) (fun v => v.l.length ≤ (59 + x10) ∧ v.p ≤ p11 + 28 * v.l.length ∧ v.s < 18446744073709551616 ∧ p11 ≤ v.p ∧ v.e ≤ 4 * v.l.length) (fun v => (59 + x10) - v.l.length) ⟨[], p11, sd12, 0⟩ ⟨Nat.zero_le _, by show p11 ≤ p11 + 28 * 0; omega, by show sd12 < 18446744073709551616; omega, Nat.le_refl _, Nat.zero_le _⟩ ⟨⟨⟨_, rfl, rfl⟩, ⟨_, rfl, rfl⟩, ⟨_, rfl, rfl⟩, ⟨_, rfl, rfl⟩, trivial⟩, ⟨⟨_, rfl, rfl, Nat.le_refl _, fun _ _ _ _ => rfl⟩, ⟨_, rfl, rfl, Nat.le_refl _, fun _ _ _ _ => rfl⟩, trivial⟩⟩ ?_
    intro v hv
    obtain ⟨hv1, hv2, hv3, hv4, hv5⟩ := hv
    refine AW.seq ?_
    refine AW.seq ?_
    refine AW.region ?_
    refine ARun.pure (PureOp.move rfl (.tmp rfl)) rfl rfl (Nat.le_of_ble_eq_true rfl) ?_
    refine ARun.pure (PureOp.intOp rfl (.tmp rfl) .int rfl) rfl rfl (Nat.le_of_ble_eq_true rfl) ?_
    refine ARun.nil ?_
    refine AW.cond (.tmp rfl) (fun hb14 => ?_) (fun hb14 => ?_)
    · have _u := True.intro
      replace hb14 := of_decide_eq_true hb14
      have hkl : v.l.length < (59 + x10) := by omega
      refine AW.skip ?_
      refine AW.seq ?_
      refine AW.block ?_
      refine AW.seq ?_
      refine AW.region ?_
      refine ARun.pure (PureOp.move rfl (.tmp rfl)) rfl rfl (Nat.le_of_ble_eq_true rfl) ?_
      refine ARun.cur (id := 1000000) rfl (v_Say n F hF v.p v.s (by omega) (by omega)) vd2_ca_67 ⟨.inr (.tmp rfl), trivial⟩ rfl rfl rfl (Nat.le_of_ble_eq_true rfl) (fun x15 p16 sd17 hc18 => ?_)
      have hc18c := hc18
      obtain ⟨hc181, hc182, hc183⟩ := hc18c
      refine ARun.alloc (id := 0) (l := [.str ByteArray.empty, .int .i64 0, .int .i64 0]) (z := (.agg #[.string ByteArray.empty, .int .i64 0, .int .i64 0])) rfl (by kernel_rfl) (fun _ _ _ => ⟨_, _, rfl, ⟨rfl, by decide⟩, ⟨_, _, rfl, rfl, ⟨_, _, rfl, rfl, rfl⟩⟩⟩) ⟨rfl, (by repeat first | exact trivial | refine ⟨by decide, by first | rfl | exact trivial | (intro i j; first | rfl | exact getD_no rfl | (dsimp only; split <;> first | rfl | exact getD_no rfl) | exact scl_no (by apply_assumption) _), ?_⟩)⟩ rfl rfl rfl (Nat.le_of_ble_eq_true rfl) ?_
      refine ARun.store rfl (.tmp rfl) (.tmp rfl) (SV.cells_of (by exact ⟨trivial, trivial, trivial, trivial⟩)) rfl (Nat.le_of_ble_eq_true rfl) vd2_sz_47_3 rfl rfl ?_
      refine ARun.nil ?_
      refine AW.seq ?_
      refine AW.seq ?_
      refine AW.region ?_
      refine ARun.pure (PureOp.move rfl (.tmp rfl)) rfl rfl (Nat.le_of_ble_eq_true rfl) ?_
      refine ARun.cur (id := 1000000) rfl (v_One n F hF p16 sd17 (by omega) (by omega) 4 (by omega)) vd2_ca_82 ⟨.inr (.tmp rfl), .inl ⟨_, .int, .int⟩, trivial⟩ rfl rfl rfl (Nat.le_of_ble_eq_true rfl) (fun x19 p20 sd21 hc22 => ?_)
      have hc22c := hc22
      obtain ⟨hc221, hc222, hc223⟩ := hc22c
      refine ARun.pure (PureOp.not rfl (.tmp rfl)) rfl rfl (Nat.le_of_ble_eq_true rfl) ?_
      refine ARun.nil ?_
      refine AW.cond (.tmp rfl) (fun hb23 => ?_) (fun hb23 => ?_)
      · have _u := True.intro
        replace hb23 := of_not hb23
        refine AW.seq ?_
        refine AW.region ?_
        refine ARun.pure (PureOp.move rfl (.tmp rfl)) rfl rfl (Nat.le_of_ble_eq_true rfl) ?_
        refine ARun.pure (PureOp.move rfl (.tmp rfl)) rfl rfl (Nat.le_of_ble_eq_true rfl) ?_
        refine ARun.cur (id := 1000000) rfl (v_Pick n F hF p20 sd21 (by omega) (by omega) 4 (by omega)) vd2_ca_80 ⟨.inr (.tmp rfl), .inl ⟨_, .int, .int⟩, trivial⟩ rfl rfl rfl (Nat.le_of_ble_eq_true rfl) (fun x24 p25 sd26 hc27 => ?_)
        obtain ⟨hc27x, hc27c⟩ := hc27
        obtain ⟨hc271, hc272, hc273⟩ := hc27c
        refine ARun.pure (PureOp.add (c := ((v.e + x24 : Nat) : Int)) rfl (.tmp rfl) (.tmp rfl) (by rw [wrap_id (by omega) (by omega)]; omega)) rfl rfl (Nat.le_of_ble_eq_true rfl) ?_
        refine ARun.pure (PureOp.assign rfl (.tmp rfl)) rfl rfl (Nat.le_of_ble_eq_true rfl) ?_
        refine ARun.nil ?_
        refine AW.seq ?_
        refine AW.region ?_
        refine ARun.pure (PureOp.fieldPtr rfl (.tmp rfl) vd2_fi_47_1_1) rfl rfl (Nat.le_of_ble_eq_true rfl) ?_
        refine ARun.pure (PureOp.loadPtr rfl (.tmp rfl) vd2_pl_3 rfl rfl (Nat.le_of_ble_eq_true rfl) (Nat.le_of_ble_eq_true rfl)) rfl rfl (Nat.le_of_ble_eq_true rfl) ?_
        refine ARun.pure (PureOp.call rfl (v_l1In x15.at_ 0 60) ⟨⟨_, (.tmp rfl), .int⟩, ⟨_, .int, .int⟩, ⟨_, .int, .int⟩, trivial⟩ vd2_ca_44 trivial) rfl rfl (Nat.le_of_ble_eq_true rfl) ?_
        refine ARun.nil ?_
        refine AW.cond (.tmp rfl) (fun hb28 => ?_) (fun hb28 => ?_)
        · have _u := True.intro
          refine AW.region ?_
          refine ARun.pure (PureOp.move rfl (.tmp rfl)) rfl rfl (Nat.le_of_ble_eq_true rfl) ?_
          refine ARun.pure (PureOp.fieldPtr rfl (.tmp rfl) vd2_fi_47_1_1) rfl rfl (Nat.le_of_ble_eq_true rfl) ?_
          refine ARun.store rfl (.tmp rfl) (.tmp rfl) trivial rfl (Nat.le_of_ble_eq_true rfl) vd2_sz_3_1 rfl rfl ?_
          refine ARun.nil ?_
          refine AW.seq ?_
          refine AW.seq ?_
          refine AW.region ?_
          refine ARun.pure (PureOp.move rfl (.tmp rfl)) rfl rfl (Nat.le_of_ble_eq_true rfl) ?_
          refine ARun.cur (id := 1000000) rfl (v_One n F hF p25 sd26 (by omega) (by omega) 12 (by omega)) vd2_ca_82 ⟨.inr (.tmp rfl), .inl ⟨_, .int, .int⟩, trivial⟩ rfl rfl rfl (Nat.le_of_ble_eq_true rfl) (fun x29 p30 sd31 hc32 => ?_)
          have hc32c := hc32
          obtain ⟨hc321, hc322, hc323⟩ := hc32c
          refine ARun.nil ?_
          refine AW.cond (.tmp rfl) (fun hb33 => ?_) (fun hb33 => ?_)
          · have _u := True.intro
            refine AW.region ?_
            refine ARun.pure (PureOp.move rfl (.tmp rfl)) rfl rfl (Nat.le_of_ble_eq_true rfl) ?_
            refine ARun.fresh (FreshOp.strs6 (a1 := (⟨#[97]⟩ : ByteArray)) (a2 := (⟨#[98]⟩ : ByteArray)) (a3 := (⟨#[99]⟩ : ByteArray)) (a4 := (⟨#[100]⟩ : ByteArray)) (a5 := (⟨#[101]⟩ : ByteArray)) (a6 := (⟨#[102]⟩ : ByteArray)) rfl (.str (by decide)) (.str (by decide)) (.str (by decide)) (.str (by decide)) (.str (by decide)) (.str (by decide)) Try.underlying117 (by kernel_rfl)) rfl rfl (Nat.le_of_ble_eq_true rfl) ?_
            refine ARun.cur (id := 1000000) rfl (v_Of n F hF p30 sd31 (by omega) (by omega) ([(⟨#[97]⟩ : ByteArray), (⟨#[98]⟩ : ByteArray), (⟨#[99]⟩ : ByteArray), (⟨#[100]⟩ : ByteArray), (⟨#[101]⟩ : ByteArray), (⟨#[102]⟩ : ByteArray)] : List ByteArray) ⟨by decide, by decide⟩) vd2_ca_83 ⟨.inr (.tmp rfl), .inl ⟨_, (.tmp rfl), .frs⟩, trivial⟩ rfl rfl rfl (Nat.le_of_ble_eq_true rfl) (fun x34 p35 sd36 hc37 => ?_)
            obtain ⟨hc37x, hc37c⟩ := hc37
            obtain ⟨hc371, hc372, hc373⟩ := hc37c
            refine ARun.pure (PureOp.fieldPtr rfl (.tmp rfl) vd2_fi_47_0_0) rfl rfl (Nat.le_of_ble_eq_true rfl) ?_
            refine ARun.store rfl (.tmp rfl) (.tmp rfl) trivial rfl (Nat.le_of_ble_eq_true rfl) vd2_sz_9_1 rfl rfl ?_
            refine ARun.nil ?_
            refine AW.region ?_
            refine ARun.pure (PureOp.move rfl (.tmp rfl)) rfl rfl (Nat.le_of_ble_eq_true rfl) ?_
            refine ARun.pure (PureOp.loadPtrAgg rfl (.tmp rfl) vd2_ag_47_3 rfl rfl (Nat.le_of_ble_eq_true rfl) (Nat.le_of_ble_eq_true rfl)) rfl rfl (Nat.le_of_ble_eq_true rfl) ?_
            refine ARun.slice1 (id := 1) (z := (.agg #[.string ByteArray.empty, .int .i64 0, .int .i64 0])) (by_ := 32) rfl (.tmp rfl) (SV.cells_of (by exact ⟨trivial, trivial, trivial, trivial⟩)) (by kernel_rfl) rfl rfl (by decide) (by decide) ⟨rfl, (by repeat first | exact trivial | refine ⟨by decide, by first | rfl | exact trivial | (intro i j; first | rfl | exact getD_no rfl | (dsimp only; split <;> first | rfl | exact getD_no rfl) | exact scl_no (by apply_assumption) _), ?_⟩)⟩ rfl rfl rfl (Nat.le_of_ble_eq_true rfl) ?_
            refine ARun.append (id := 2) (sz := 3) (n := v.l.length) (m := 1) (by_ := 32) (z := (.agg #[.string ByteArray.empty, .int .i64 0, .int .i64 0])) (f := syC v.l) (g := fun _ jc => ([.str x34, .int .i64 ((v.e + x24 : Nat) : Int), .int .i64 x15.value] : List AV).getD jc (.con undef)) (h := fun ia ja => if ia < v.l.length then (syC v.l : Nat → Nat → AV) ia ja else (fun _ jc => ([.str x34, .int .i64 ((v.e + x24 : Nat) : Int), .int .i64 x15.value] : List AV).getD jc (.con undef) : Nat → Nat → AV) (ia - v.l.length) ja) rfl (by kernel_rfl) rfl vd2_sl_55 (.own (.tmp rfl) rfl rfl rfl (Nat.le_refl _) (fun _ _ _ _ => rfl)) (.own (.tmp rfl) rfl rfl (Nat.le_refl _) (fun _ _ _ _ => rfl)) (by decide) (fun i j hi hj => match j, hj with | 0, _ => rfl | 1, _ => rfl | 2, _ => rfl | _ + 3, h => absurd h (by omega)) (fun _ _ _ _ => rfl) (by omega) (by omega) ⟨rfl, (by repeat first | exact trivial | refine ⟨by decide, by first | rfl | exact trivial | (intro i j; first | rfl | exact getD_no rfl | (dsimp only; split <;> first | rfl | exact getD_no rfl) | exact scl_no (by apply_assumption) _), ?_⟩)⟩ (fun i j => by dsimp only; (repeat' split) <;> first | rfl | exact getD_no rfl) rfl rfl (Nat.le_of_ble_eq_true rfl) ?_
            refine ARun.pure (PureOp.assign rfl (.tmp rfl)) rfl rfl (Nat.le_of_ble_eq_true rfl) ?_
            refine ARun.nil ?_
            refine AW.region ?_
            refine ARun.pure (PureOp.move rfl (.tmp rfl)) rfl rfl (Nat.le_of_ble_eq_true rfl) ?_
            refine ARun.pure (PureOp.sub (c := ((((59 + x10) - (v.l.length + 1)) : Nat) : Int)) rfl (.tmp rfl) .int (by rw [wrap_id (by omega) (by omega)]; omega)) rfl rfl (Nat.le_of_ble_eq_true rfl) ?_
            refine ARun.pure (PureOp.assign rfl (.tmp rfl)) rfl rfl (Nat.le_of_ble_eq_true rfl) ?_
            refine ARun.nil ?_
            have hln : (v.l ++ [(⟨x34, ((v.e + x24 : Nat) : Int), x15.value⟩ : GSay)]).length = v.l.length + 1 := by rw [List.length_append]; rfl
            exact ⟨⟨(v.l ++ [(⟨x34, ((v.e + x24 : Nat) : Int), x15.value⟩ : GSay)]), p35, sd36, v.e + x24⟩, (swp 900 2), ⟨by show (v.l ++ [(⟨x34, ((v.e + x24 : Nat) : Int), x15.value⟩ : GSay)]).length ≤ (59 + x10); omega, by show p35 ≤ _ + 28 * (v.l ++ [(⟨x34, ((v.e + x24 : Nat) : Int), x15.value⟩ : GSay)]).length; omega, by show sd36 < _; omega, by show _ ≤ p35; omega, by show v.e + x24 ≤ 4 * (v.l ++ [(⟨x34, ((v.e + x24 : Nat) : Int), x15.value⟩ : GSay)]).length; omega⟩, by show (59 + x10) - (v.l ++ [(⟨x34, ((v.e + x24 : Nat) : Int), x15.value⟩ : GSay)]).length < (59 + x10) - v.l.length; omega, swp_inj, (swp_fix rfl rfl), ⟨⟨⟨_, rfl, rfl⟩, ⟨_, rfl, congrArg (fun z : Nat => SV.one (.own 2 3 z)) hln.symm⟩, ⟨_, rfl, congrArg (fun z : Nat => SV.one (.int .i64 (((59 + x10) - z : Nat) : Int))) hln.symm⟩, ⟨_, rfl, rfl⟩, trivial⟩, ⟨⟨_, rfl, rfl, Nat.le_of_eq hln, fun ia ja hi hj => (sy_app (hln ▸ hi)).trans (sy_ren hj).symm⟩, ⟨_, rfl, rfl, Nat.le_refl _, fun _ _ _ _ => rfl⟩, trivial⟩⟩⟩
          · have _u := True.intro
            refine AW.skip ?_
            refine AW.region ?_
            refine ARun.pure (PureOp.move rfl (.tmp rfl)) rfl rfl (Nat.le_of_ble_eq_true rfl) ?_
            refine ARun.pure (PureOp.loadPtrAgg rfl (.tmp rfl) vd2_ag_47_3 rfl rfl (Nat.le_of_ble_eq_true rfl) (Nat.le_of_ble_eq_true rfl)) rfl rfl (Nat.le_of_ble_eq_true rfl) ?_
            refine ARun.slice1 (id := 3) (z := (.agg #[.string ByteArray.empty, .int .i64 0, .int .i64 0])) (by_ := 32) rfl (.tmp rfl) (SV.cells_of (by exact ⟨trivial, trivial, trivial, trivial⟩)) (by kernel_rfl) rfl rfl (by decide) (by decide) ⟨rfl, (by repeat first | exact trivial | refine ⟨by decide, by first | rfl | exact trivial | (intro i j; first | rfl | exact getD_no rfl | (dsimp only; split <;> first | rfl | exact getD_no rfl) | exact scl_no (by apply_assumption) _), ?_⟩)⟩ rfl rfl rfl (Nat.le_of_ble_eq_true rfl) ?_
            refine ARun.append (id := 4) (sz := 3) (n := v.l.length) (m := 1) (by_ := 32) (z := (.agg #[.string ByteArray.empty, .int .i64 0, .int .i64 0])) (f := syC v.l) (g := fun _ jc => ([.str x15.name, .int .i64 ((v.e + x24 : Nat) : Int), .int .i64 x15.value] : List AV).getD jc (.con undef)) (h := fun ia ja => if ia < v.l.length then (syC v.l : Nat → Nat → AV) ia ja else (fun _ jc => ([.str x15.name, .int .i64 ((v.e + x24 : Nat) : Int), .int .i64 x15.value] : List AV).getD jc (.con undef) : Nat → Nat → AV) (ia - v.l.length) ja) rfl (by kernel_rfl) rfl vd2_sl_55 (.own (.tmp rfl) rfl rfl rfl (Nat.le_refl _) (fun _ _ _ _ => rfl)) (.own (.tmp rfl) rfl rfl (Nat.le_refl _) (fun _ _ _ _ => rfl)) (by decide) (fun i j hi hj => match j, hj with | 0, _ => rfl | 1, _ => rfl | 2, _ => rfl | _ + 3, h => absurd h (by omega)) (fun _ _ _ _ => rfl) (by omega) (by omega) ⟨rfl, (by repeat first | exact trivial | refine ⟨by decide, by first | rfl | exact trivial | (intro i j; first | rfl | exact getD_no rfl | (dsimp only; split <;> first | rfl | exact getD_no rfl) | exact scl_no (by apply_assumption) _), ?_⟩)⟩ (fun i j => by dsimp only; (repeat' split) <;> first | rfl | exact getD_no rfl) rfl rfl (Nat.le_of_ble_eq_true rfl) ?_
            refine ARun.pure (PureOp.assign rfl (.tmp rfl)) rfl rfl (Nat.le_of_ble_eq_true rfl) ?_
            refine ARun.nil ?_
            refine AW.region ?_
            refine ARun.pure (PureOp.move rfl (.tmp rfl)) rfl rfl (Nat.le_of_ble_eq_true rfl) ?_
            refine ARun.pure (PureOp.sub (c := ((((59 + x10) - (v.l.length + 1)) : Nat) : Int)) rfl (.tmp rfl) .int (by rw [wrap_id (by omega) (by omega)]; omega)) rfl rfl (Nat.le_of_ble_eq_true rfl) ?_
            refine ARun.pure (PureOp.assign rfl (.tmp rfl)) rfl rfl (Nat.le_of_ble_eq_true rfl) ?_
            refine ARun.nil ?_
            have hln : (v.l ++ [(⟨x15.name, ((v.e + x24 : Nat) : Int), x15.value⟩ : GSay)]).length = v.l.length + 1 := by rw [List.length_append]; rfl
            exact ⟨⟨(v.l ++ [(⟨x15.name, ((v.e + x24 : Nat) : Int), x15.value⟩ : GSay)]), p30, sd31, v.e + x24⟩, (swp 900 4), ⟨by show (v.l ++ [(⟨x15.name, ((v.e + x24 : Nat) : Int), x15.value⟩ : GSay)]).length ≤ (59 + x10); omega, by show p30 ≤ _ + 28 * (v.l ++ [(⟨x15.name, ((v.e + x24 : Nat) : Int), x15.value⟩ : GSay)]).length; omega, by show sd31 < _; omega, by show _ ≤ p30; omega, by show v.e + x24 ≤ 4 * (v.l ++ [(⟨x15.name, ((v.e + x24 : Nat) : Int), x15.value⟩ : GSay)]).length; omega⟩, by show (59 + x10) - (v.l ++ [(⟨x15.name, ((v.e + x24 : Nat) : Int), x15.value⟩ : GSay)]).length < (59 + x10) - v.l.length; omega, swp_inj, (swp_fix rfl rfl), ⟨⟨⟨_, rfl, rfl⟩, ⟨_, rfl, congrArg (fun z : Nat => SV.one (.own 4 3 z)) hln.symm⟩, ⟨_, rfl, congrArg (fun z : Nat => SV.one (.int .i64 (((59 + x10) - z : Nat) : Int))) hln.symm⟩, ⟨_, rfl, rfl⟩, trivial⟩, ⟨⟨_, rfl, rfl, Nat.le_of_eq hln, fun ia ja hi hj => (sy_app (hln ▸ hi)).trans (sy_ren hj).symm⟩, ⟨_, rfl, rfl, Nat.le_refl _, fun _ _ _ _ => rfl⟩, trivial⟩⟩⟩
        · have _u := True.intro
          refine AW.skip ?_
          refine AW.seq ?_
          refine AW.seq ?_
          refine AW.region ?_
          refine ARun.pure (PureOp.move rfl (.tmp rfl)) rfl rfl (Nat.le_of_ble_eq_true rfl) ?_
          refine ARun.cur (id := 1000000) rfl (v_One n F hF p25 sd26 (by omega) (by omega) 12 (by omega)) vd2_ca_82 ⟨.inr (.tmp rfl), .inl ⟨_, .int, .int⟩, trivial⟩ rfl rfl rfl (Nat.le_of_ble_eq_true rfl) (fun x38 p39 sd40 hc41 => ?_)
          have hc41c := hc41
          obtain ⟨hc411, hc412, hc413⟩ := hc41c
          refine ARun.nil ?_
          refine AW.cond (.tmp rfl) (fun hb42 => ?_) (fun hb42 => ?_)
          · have _u := True.intro
            refine AW.region ?_
            refine ARun.pure (PureOp.move rfl (.tmp rfl)) rfl rfl (Nat.le_of_ble_eq_true rfl) ?_
            refine ARun.fresh (FreshOp.strs6 (a1 := (⟨#[97]⟩ : ByteArray)) (a2 := (⟨#[98]⟩ : ByteArray)) (a3 := (⟨#[99]⟩ : ByteArray)) (a4 := (⟨#[100]⟩ : ByteArray)) (a5 := (⟨#[101]⟩ : ByteArray)) (a6 := (⟨#[102]⟩ : ByteArray)) rfl (.str (by decide)) (.str (by decide)) (.str (by decide)) (.str (by decide)) (.str (by decide)) (.str (by decide)) Try.underlying117 (by kernel_rfl)) rfl rfl (Nat.le_of_ble_eq_true rfl) ?_
            refine ARun.cur (id := 1000000) rfl (v_Of n F hF p39 sd40 (by omega) (by omega) ([(⟨#[97]⟩ : ByteArray), (⟨#[98]⟩ : ByteArray), (⟨#[99]⟩ : ByteArray), (⟨#[100]⟩ : ByteArray), (⟨#[101]⟩ : ByteArray), (⟨#[102]⟩ : ByteArray)] : List ByteArray) ⟨by decide, by decide⟩) vd2_ca_83 ⟨.inr (.tmp rfl), .inl ⟨_, (.tmp rfl), .frs⟩, trivial⟩ rfl rfl rfl (Nat.le_of_ble_eq_true rfl) (fun x43 p44 sd45 hc46 => ?_)
            obtain ⟨hc46x, hc46c⟩ := hc46
            obtain ⟨hc461, hc462, hc463⟩ := hc46c
            refine ARun.pure (PureOp.fieldPtr rfl (.tmp rfl) vd2_fi_47_0_0) rfl rfl (Nat.le_of_ble_eq_true rfl) ?_
            refine ARun.store rfl (.tmp rfl) (.tmp rfl) trivial rfl (Nat.le_of_ble_eq_true rfl) vd2_sz_9_1 rfl rfl ?_
            refine ARun.nil ?_
            refine AW.region ?_
            refine ARun.pure (PureOp.move rfl (.tmp rfl)) rfl rfl (Nat.le_of_ble_eq_true rfl) ?_
            refine ARun.pure (PureOp.loadPtrAgg rfl (.tmp rfl) vd2_ag_47_3 rfl rfl (Nat.le_of_ble_eq_true rfl) (Nat.le_of_ble_eq_true rfl)) rfl rfl (Nat.le_of_ble_eq_true rfl) ?_
            refine ARun.slice1 (id := 5) (z := (.agg #[.string ByteArray.empty, .int .i64 0, .int .i64 0])) (by_ := 32) rfl (.tmp rfl) (SV.cells_of (by exact ⟨trivial, trivial, trivial, trivial⟩)) (by kernel_rfl) rfl rfl (by decide) (by decide) ⟨rfl, (by repeat first | exact trivial | refine ⟨by decide, by first | rfl | exact trivial | (intro i j; first | rfl | exact getD_no rfl | (dsimp only; split <;> first | rfl | exact getD_no rfl) | exact scl_no (by apply_assumption) _), ?_⟩)⟩ rfl rfl rfl (Nat.le_of_ble_eq_true rfl) ?_
            refine ARun.append (id := 6) (sz := 3) (n := v.l.length) (m := 1) (by_ := 32) (z := (.agg #[.string ByteArray.empty, .int .i64 0, .int .i64 0])) (f := syC v.l) (g := fun _ jc => ([.str x43, .int .i64 x15.at_, .int .i64 x15.value] : List AV).getD jc (.con undef)) (h := fun ia ja => if ia < v.l.length then (syC v.l : Nat → Nat → AV) ia ja else (fun _ jc => ([.str x43, .int .i64 x15.at_, .int .i64 x15.value] : List AV).getD jc (.con undef) : Nat → Nat → AV) (ia - v.l.length) ja) rfl (by kernel_rfl) rfl vd2_sl_55 (.own (.tmp rfl) rfl rfl rfl (Nat.le_refl _) (fun _ _ _ _ => rfl)) (.own (.tmp rfl) rfl rfl (Nat.le_refl _) (fun _ _ _ _ => rfl)) (by decide) (fun i j hi hj => match j, hj with | 0, _ => rfl | 1, _ => rfl | 2, _ => rfl | _ + 3, h => absurd h (by omega)) (fun _ _ _ _ => rfl) (by omega) (by omega) ⟨rfl, (by repeat first | exact trivial | refine ⟨by decide, by first | rfl | exact trivial | (intro i j; first | rfl | exact getD_no rfl | (dsimp only; split <;> first | rfl | exact getD_no rfl) | exact scl_no (by apply_assumption) _), ?_⟩)⟩ (fun i j => by dsimp only; (repeat' split) <;> first | rfl | exact getD_no rfl) rfl rfl (Nat.le_of_ble_eq_true rfl) ?_
            refine ARun.pure (PureOp.assign rfl (.tmp rfl)) rfl rfl (Nat.le_of_ble_eq_true rfl) ?_
            refine ARun.nil ?_
            refine AW.region ?_
            refine ARun.pure (PureOp.move rfl (.tmp rfl)) rfl rfl (Nat.le_of_ble_eq_true rfl) ?_
            refine ARun.pure (PureOp.sub (c := ((((59 + x10) - (v.l.length + 1)) : Nat) : Int)) rfl (.tmp rfl) .int (by rw [wrap_id (by omega) (by omega)]; omega)) rfl rfl (Nat.le_of_ble_eq_true rfl) ?_
            refine ARun.pure (PureOp.assign rfl (.tmp rfl)) rfl rfl (Nat.le_of_ble_eq_true rfl) ?_
            refine ARun.nil ?_
            have hln : (v.l ++ [(⟨x43, x15.at_, x15.value⟩ : GSay)]).length = v.l.length + 1 := by rw [List.length_append]; rfl
            exact ⟨⟨(v.l ++ [(⟨x43, x15.at_, x15.value⟩ : GSay)]), p44, sd45, v.e + x24⟩, (swp 900 6), ⟨by show (v.l ++ [(⟨x43, x15.at_, x15.value⟩ : GSay)]).length ≤ (59 + x10); omega, by show p44 ≤ _ + 28 * (v.l ++ [(⟨x43, x15.at_, x15.value⟩ : GSay)]).length; omega, by show sd45 < _; omega, by show _ ≤ p44; omega, by show v.e + x24 ≤ 4 * (v.l ++ [(⟨x43, x15.at_, x15.value⟩ : GSay)]).length; omega⟩, by show (59 + x10) - (v.l ++ [(⟨x43, x15.at_, x15.value⟩ : GSay)]).length < (59 + x10) - v.l.length; omega, swp_inj, (swp_fix rfl rfl), ⟨⟨⟨_, rfl, rfl⟩, ⟨_, rfl, congrArg (fun z : Nat => SV.one (.own 6 3 z)) hln.symm⟩, ⟨_, rfl, congrArg (fun z : Nat => SV.one (.int .i64 (((59 + x10) - z : Nat) : Int))) hln.symm⟩, ⟨_, rfl, rfl⟩, trivial⟩, ⟨⟨_, rfl, rfl, Nat.le_of_eq hln, fun ia ja hi hj => (sy_app (hln ▸ hi)).trans (sy_ren hj).symm⟩, ⟨_, rfl, rfl, Nat.le_refl _, fun _ _ _ _ => rfl⟩, trivial⟩⟩⟩
          · have _u := True.intro
            refine AW.skip ?_
            refine AW.region ?_
            refine ARun.pure (PureOp.move rfl (.tmp rfl)) rfl rfl (Nat.le_of_ble_eq_true rfl) ?_
            refine ARun.pure (PureOp.loadPtrAgg rfl (.tmp rfl) vd2_ag_47_3 rfl rfl (Nat.le_of_ble_eq_true rfl) (Nat.le_of_ble_eq_true rfl)) rfl rfl (Nat.le_of_ble_eq_true rfl) ?_
            refine ARun.slice1 (id := 7) (z := (.agg #[.string ByteArray.empty, .int .i64 0, .int .i64 0])) (by_ := 32) rfl (.tmp rfl) (SV.cells_of (by exact ⟨trivial, trivial, trivial, trivial⟩)) (by kernel_rfl) rfl rfl (by decide) (by decide) ⟨rfl, (by repeat first | exact trivial | refine ⟨by decide, by first | rfl | exact trivial | (intro i j; first | rfl | exact getD_no rfl | (dsimp only; split <;> first | rfl | exact getD_no rfl) | exact scl_no (by apply_assumption) _), ?_⟩)⟩ rfl rfl rfl (Nat.le_of_ble_eq_true rfl) ?_
            refine ARun.append (id := 8) (sz := 3) (n := v.l.length) (m := 1) (by_ := 32) (z := (.agg #[.string ByteArray.empty, .int .i64 0, .int .i64 0])) (f := syC v.l) (g := fun _ jc => ([.str x15.name, .int .i64 x15.at_, .int .i64 x15.value] : List AV).getD jc (.con undef)) (h := fun ia ja => if ia < v.l.length then (syC v.l : Nat → Nat → AV) ia ja else (fun _ jc => ([.str x15.name, .int .i64 x15.at_, .int .i64 x15.value] : List AV).getD jc (.con undef) : Nat → Nat → AV) (ia - v.l.length) ja) rfl (by kernel_rfl) rfl vd2_sl_55 (.own (.tmp rfl) rfl rfl rfl (Nat.le_refl _) (fun _ _ _ _ => rfl)) (.own (.tmp rfl) rfl rfl (Nat.le_refl _) (fun _ _ _ _ => rfl)) (by decide) (fun i j hi hj => match j, hj with | 0, _ => rfl | 1, _ => rfl | 2, _ => rfl | _ + 3, h => absurd h (by omega)) (fun _ _ _ _ => rfl) (by omega) (by omega) ⟨rfl, (by repeat first | exact trivial | refine ⟨by decide, by first | rfl | exact trivial | (intro i j; first | rfl | exact getD_no rfl | (dsimp only; split <;> first | rfl | exact getD_no rfl) | exact scl_no (by apply_assumption) _), ?_⟩)⟩ (fun i j => by dsimp only; (repeat' split) <;> first | rfl | exact getD_no rfl) rfl rfl (Nat.le_of_ble_eq_true rfl) ?_
            refine ARun.pure (PureOp.assign rfl (.tmp rfl)) rfl rfl (Nat.le_of_ble_eq_true rfl) ?_
            refine ARun.nil ?_
            refine AW.region ?_
            refine ARun.pure (PureOp.move rfl (.tmp rfl)) rfl rfl (Nat.le_of_ble_eq_true rfl) ?_
            refine ARun.pure (PureOp.sub (c := ((((59 + x10) - (v.l.length + 1)) : Nat) : Int)) rfl (.tmp rfl) .int (by rw [wrap_id (by omega) (by omega)]; omega)) rfl rfl (Nat.le_of_ble_eq_true rfl) ?_
            refine ARun.pure (PureOp.assign rfl (.tmp rfl)) rfl rfl (Nat.le_of_ble_eq_true rfl) ?_
            refine ARun.nil ?_
            have hln : (v.l ++ [(⟨x15.name, x15.at_, x15.value⟩ : GSay)]).length = v.l.length + 1 := by rw [List.length_append]; rfl
            exact ⟨⟨(v.l ++ [(⟨x15.name, x15.at_, x15.value⟩ : GSay)]), p39, sd40, v.e + x24⟩, (swp 900 8), ⟨by show (v.l ++ [(⟨x15.name, x15.at_, x15.value⟩ : GSay)]).length ≤ (59 + x10); omega, by show p39 ≤ _ + 28 * (v.l ++ [(⟨x15.name, x15.at_, x15.value⟩ : GSay)]).length; omega, by show sd40 < _; omega, by show _ ≤ p39; omega, by show v.e + x24 ≤ 4 * (v.l ++ [(⟨x15.name, x15.at_, x15.value⟩ : GSay)]).length; omega⟩, by show (59 + x10) - (v.l ++ [(⟨x15.name, x15.at_, x15.value⟩ : GSay)]).length < (59 + x10) - v.l.length; omega, swp_inj, (swp_fix rfl rfl), ⟨⟨⟨_, rfl, rfl⟩, ⟨_, rfl, congrArg (fun z : Nat => SV.one (.own 8 3 z)) hln.symm⟩, ⟨_, rfl, congrArg (fun z : Nat => SV.one (.int .i64 (((59 + x10) - z : Nat) : Int))) hln.symm⟩, ⟨_, rfl, rfl⟩, trivial⟩, ⟨⟨_, rfl, rfl, Nat.le_of_eq hln, fun ia ja hi hj => (sy_app (hln ▸ hi)).trans (sy_ren hj).symm⟩, ⟨_, rfl, rfl, Nat.le_refl _, fun _ _ _ _ => rfl⟩, trivial⟩⟩⟩
      · have _u := True.intro
        replace hb23 := not_f hb23
        refine AW.skip ?_
        refine AW.seq ?_
        refine AW.seq ?_
        refine AW.region ?_
        refine ARun.pure (PureOp.move rfl (.tmp rfl)) rfl rfl (Nat.le_of_ble_eq_true rfl) ?_
        refine ARun.cur (id := 1000000) rfl (v_One n F hF p20 sd21 (by omega) (by omega) 12 (by omega)) vd2_ca_82 ⟨.inr (.tmp rfl), .inl ⟨_, .int, .int⟩, trivial⟩ rfl rfl rfl (Nat.le_of_ble_eq_true rfl) (fun x47 p48 sd49 hc50 => ?_)
        have hc50c := hc50
        obtain ⟨hc501, hc502, hc503⟩ := hc50c
        refine ARun.nil ?_
        refine AW.cond (.tmp rfl) (fun hb51 => ?_) (fun hb51 => ?_)
        · have _u := True.intro
          refine AW.region ?_
          refine ARun.pure (PureOp.move rfl (.tmp rfl)) rfl rfl (Nat.le_of_ble_eq_true rfl) ?_
          refine ARun.fresh (FreshOp.strs6 (a1 := (⟨#[97]⟩ : ByteArray)) (a2 := (⟨#[98]⟩ : ByteArray)) (a3 := (⟨#[99]⟩ : ByteArray)) (a4 := (⟨#[100]⟩ : ByteArray)) (a5 := (⟨#[101]⟩ : ByteArray)) (a6 := (⟨#[102]⟩ : ByteArray)) rfl (.str (by decide)) (.str (by decide)) (.str (by decide)) (.str (by decide)) (.str (by decide)) (.str (by decide)) Try.underlying117 (by kernel_rfl)) rfl rfl (Nat.le_of_ble_eq_true rfl) ?_
          refine ARun.cur (id := 1000000) rfl (v_Of n F hF p48 sd49 (by omega) (by omega) ([(⟨#[97]⟩ : ByteArray), (⟨#[98]⟩ : ByteArray), (⟨#[99]⟩ : ByteArray), (⟨#[100]⟩ : ByteArray), (⟨#[101]⟩ : ByteArray), (⟨#[102]⟩ : ByteArray)] : List ByteArray) ⟨by decide, by decide⟩) vd2_ca_83 ⟨.inr (.tmp rfl), .inl ⟨_, (.tmp rfl), .frs⟩, trivial⟩ rfl rfl rfl (Nat.le_of_ble_eq_true rfl) (fun x52 p53 sd54 hc55 => ?_)
          obtain ⟨hc55x, hc55c⟩ := hc55
          obtain ⟨hc551, hc552, hc553⟩ := hc55c
          refine ARun.pure (PureOp.fieldPtr rfl (.tmp rfl) vd2_fi_47_0_0) rfl rfl (Nat.le_of_ble_eq_true rfl) ?_
          refine ARun.store rfl (.tmp rfl) (.tmp rfl) trivial rfl (Nat.le_of_ble_eq_true rfl) vd2_sz_9_1 rfl rfl ?_
          refine ARun.nil ?_
          refine AW.region ?_
          refine ARun.pure (PureOp.move rfl (.tmp rfl)) rfl rfl (Nat.le_of_ble_eq_true rfl) ?_
          refine ARun.pure (PureOp.loadPtrAgg rfl (.tmp rfl) vd2_ag_47_3 rfl rfl (Nat.le_of_ble_eq_true rfl) (Nat.le_of_ble_eq_true rfl)) rfl rfl (Nat.le_of_ble_eq_true rfl) ?_
          refine ARun.slice1 (id := 9) (z := (.agg #[.string ByteArray.empty, .int .i64 0, .int .i64 0])) (by_ := 32) rfl (.tmp rfl) (SV.cells_of (by exact ⟨trivial, trivial, trivial, trivial⟩)) (by kernel_rfl) rfl rfl (by decide) (by decide) ⟨rfl, (by repeat first | exact trivial | refine ⟨by decide, by first | rfl | exact trivial | (intro i j; first | rfl | exact getD_no rfl | (dsimp only; split <;> first | rfl | exact getD_no rfl) | exact scl_no (by apply_assumption) _), ?_⟩)⟩ rfl rfl rfl (Nat.le_of_ble_eq_true rfl) ?_
          refine ARun.append (id := 10) (sz := 3) (n := v.l.length) (m := 1) (by_ := 32) (z := (.agg #[.string ByteArray.empty, .int .i64 0, .int .i64 0])) (f := syC v.l) (g := fun _ jc => ([.str x52, .int .i64 x15.at_, .int .i64 x15.value] : List AV).getD jc (.con undef)) (h := fun ia ja => if ia < v.l.length then (syC v.l : Nat → Nat → AV) ia ja else (fun _ jc => ([.str x52, .int .i64 x15.at_, .int .i64 x15.value] : List AV).getD jc (.con undef) : Nat → Nat → AV) (ia - v.l.length) ja) rfl (by kernel_rfl) rfl vd2_sl_55 (.own (.tmp rfl) rfl rfl rfl (Nat.le_refl _) (fun _ _ _ _ => rfl)) (.own (.tmp rfl) rfl rfl (Nat.le_refl _) (fun _ _ _ _ => rfl)) (by decide) (fun i j hi hj => match j, hj with | 0, _ => rfl | 1, _ => rfl | 2, _ => rfl | _ + 3, h => absurd h (by omega)) (fun _ _ _ _ => rfl) (by omega) (by omega) ⟨rfl, (by repeat first | exact trivial | refine ⟨by decide, by first | rfl | exact trivial | (intro i j; first | rfl | exact getD_no rfl | (dsimp only; split <;> first | rfl | exact getD_no rfl) | exact scl_no (by apply_assumption) _), ?_⟩)⟩ (fun i j => by dsimp only; (repeat' split) <;> first | rfl | exact getD_no rfl) rfl rfl (Nat.le_of_ble_eq_true rfl) ?_
          refine ARun.pure (PureOp.assign rfl (.tmp rfl)) rfl rfl (Nat.le_of_ble_eq_true rfl) ?_
          refine ARun.nil ?_
          refine AW.region ?_
          refine ARun.pure (PureOp.move rfl (.tmp rfl)) rfl rfl (Nat.le_of_ble_eq_true rfl) ?_
          refine ARun.pure (PureOp.sub (c := ((((59 + x10) - (v.l.length + 1)) : Nat) : Int)) rfl (.tmp rfl) .int (by rw [wrap_id (by omega) (by omega)]; omega)) rfl rfl (Nat.le_of_ble_eq_true rfl) ?_
          refine ARun.pure (PureOp.assign rfl (.tmp rfl)) rfl rfl (Nat.le_of_ble_eq_true rfl) ?_
          refine ARun.nil ?_
          have hln : (v.l ++ [(⟨x52, x15.at_, x15.value⟩ : GSay)]).length = v.l.length + 1 := by rw [List.length_append]; rfl
          exact ⟨⟨(v.l ++ [(⟨x52, x15.at_, x15.value⟩ : GSay)]), p53, sd54, v.e⟩, (swp 900 10), ⟨by show (v.l ++ [(⟨x52, x15.at_, x15.value⟩ : GSay)]).length ≤ (59 + x10); omega, by show p53 ≤ _ + 28 * (v.l ++ [(⟨x52, x15.at_, x15.value⟩ : GSay)]).length; omega, by show sd54 < _; omega, by show _ ≤ p53; omega, by show v.e ≤ 4 * (v.l ++ [(⟨x52, x15.at_, x15.value⟩ : GSay)]).length; omega⟩, by show (59 + x10) - (v.l ++ [(⟨x52, x15.at_, x15.value⟩ : GSay)]).length < (59 + x10) - v.l.length; omega, swp_inj, (swp_fix rfl rfl), ⟨⟨⟨_, rfl, rfl⟩, ⟨_, rfl, congrArg (fun z : Nat => SV.one (.own 10 3 z)) hln.symm⟩, ⟨_, rfl, congrArg (fun z : Nat => SV.one (.int .i64 (((59 + x10) - z : Nat) : Int))) hln.symm⟩, ⟨_, rfl, rfl⟩, trivial⟩, ⟨⟨_, rfl, rfl, Nat.le_of_eq hln, fun ia ja hi hj => (sy_app (hln ▸ hi)).trans (sy_ren hj).symm⟩, ⟨_, rfl, rfl, Nat.le_refl _, fun _ _ _ _ => rfl⟩, trivial⟩⟩⟩
        · have _u := True.intro
          refine AW.skip ?_
          refine AW.region ?_
          refine ARun.pure (PureOp.move rfl (.tmp rfl)) rfl rfl (Nat.le_of_ble_eq_true rfl) ?_
          refine ARun.pure (PureOp.loadPtrAgg rfl (.tmp rfl) vd2_ag_47_3 rfl rfl (Nat.le_of_ble_eq_true rfl) (Nat.le_of_ble_eq_true rfl)) rfl rfl (Nat.le_of_ble_eq_true rfl) ?_
          refine ARun.slice1 (id := 11) (z := (.agg #[.string ByteArray.empty, .int .i64 0, .int .i64 0])) (by_ := 32) rfl (.tmp rfl) (SV.cells_of (by exact ⟨trivial, trivial, trivial, trivial⟩)) (by kernel_rfl) rfl rfl (by decide) (by decide) ⟨rfl, (by repeat first | exact trivial | refine ⟨by decide, by first | rfl | exact trivial | (intro i j; first | rfl | exact getD_no rfl | (dsimp only; split <;> first | rfl | exact getD_no rfl) | exact scl_no (by apply_assumption) _), ?_⟩)⟩ rfl rfl rfl (Nat.le_of_ble_eq_true rfl) ?_
          refine ARun.append (id := 12) (sz := 3) (n := v.l.length) (m := 1) (by_ := 32) (z := (.agg #[.string ByteArray.empty, .int .i64 0, .int .i64 0])) (f := syC v.l) (g := fun _ jc => ([.str x15.name, .int .i64 x15.at_, .int .i64 x15.value] : List AV).getD jc (.con undef)) (h := fun ia ja => if ia < v.l.length then (syC v.l : Nat → Nat → AV) ia ja else (fun _ jc => ([.str x15.name, .int .i64 x15.at_, .int .i64 x15.value] : List AV).getD jc (.con undef) : Nat → Nat → AV) (ia - v.l.length) ja) rfl (by kernel_rfl) rfl vd2_sl_55 (.own (.tmp rfl) rfl rfl rfl (Nat.le_refl _) (fun _ _ _ _ => rfl)) (.own (.tmp rfl) rfl rfl (Nat.le_refl _) (fun _ _ _ _ => rfl)) (by decide) (fun i j hi hj => match j, hj with | 0, _ => rfl | 1, _ => rfl | 2, _ => rfl | _ + 3, h => absurd h (by omega)) (fun _ _ _ _ => rfl) (by omega) (by omega) ⟨rfl, (by repeat first | exact trivial | refine ⟨by decide, by first | rfl | exact trivial | (intro i j; first | rfl | exact getD_no rfl | (dsimp only; split <;> first | rfl | exact getD_no rfl) | exact scl_no (by apply_assumption) _), ?_⟩)⟩ (fun i j => by dsimp only; (repeat' split) <;> first | rfl | exact getD_no rfl) rfl rfl (Nat.le_of_ble_eq_true rfl) ?_
          refine ARun.pure (PureOp.assign rfl (.tmp rfl)) rfl rfl (Nat.le_of_ble_eq_true rfl) ?_
          refine ARun.nil ?_
          refine AW.region ?_
          refine ARun.pure (PureOp.move rfl (.tmp rfl)) rfl rfl (Nat.le_of_ble_eq_true rfl) ?_
          refine ARun.pure (PureOp.sub (c := ((((59 + x10) - (v.l.length + 1)) : Nat) : Int)) rfl (.tmp rfl) .int (by rw [wrap_id (by omega) (by omega)]; omega)) rfl rfl (Nat.le_of_ble_eq_true rfl) ?_
          refine ARun.pure (PureOp.assign rfl (.tmp rfl)) rfl rfl (Nat.le_of_ble_eq_true rfl) ?_
          refine ARun.nil ?_
          have hln : (v.l ++ [(⟨x15.name, x15.at_, x15.value⟩ : GSay)]).length = v.l.length + 1 := by rw [List.length_append]; rfl
          exact ⟨⟨(v.l ++ [(⟨x15.name, x15.at_, x15.value⟩ : GSay)]), p48, sd49, v.e⟩, (swp 900 12), ⟨by show (v.l ++ [(⟨x15.name, x15.at_, x15.value⟩ : GSay)]).length ≤ (59 + x10); omega, by show p48 ≤ _ + 28 * (v.l ++ [(⟨x15.name, x15.at_, x15.value⟩ : GSay)]).length; omega, by show sd49 < _; omega, by show _ ≤ p48; omega, by show v.e ≤ 4 * (v.l ++ [(⟨x15.name, x15.at_, x15.value⟩ : GSay)]).length; omega⟩, by show (59 + x10) - (v.l ++ [(⟨x15.name, x15.at_, x15.value⟩ : GSay)]).length < (59 + x10) - v.l.length; omega, swp_inj, (swp_fix rfl rfl), ⟨⟨⟨_, rfl, rfl⟩, ⟨_, rfl, congrArg (fun z : Nat => SV.one (.own 12 3 z)) hln.symm⟩, ⟨_, rfl, congrArg (fun z : Nat => SV.one (.int .i64 (((59 + x10) - z : Nat) : Int))) hln.symm⟩, ⟨_, rfl, rfl⟩, trivial⟩, ⟨⟨_, rfl, rfl, Nat.le_of_eq hln, fun ia ja hi hj => (sy_app (hln ▸ hi)).trans (sy_ren hj).symm⟩, ⟨_, rfl, rfl, Nat.le_refl _, fun _ _ _ _ => rfl⟩, trivial⟩⟩⟩
    · have _u := True.intro
      replace hb14 := of_decide_eq_false hb14
      have hkl : ¬ v.l.length < (59 + x10) := by omega
      refine AW.exit ?_
      refine AW.seq ?_
      refine AW.region ?_
      refine ARun.pure (PureOp.move rfl (.tmp rfl)) rfl rfl (Nat.le_of_ble_eq_true rfl) ?_
      refine ARun.pure (PureOp.assign rfl (.tmp rfl)) rfl rfl (Nat.le_of_ble_eq_true rfl) ?_
      refine ARun.nil ?_
      exact AW.ret (show ∃ x p' s' t, _ ∧ ResL _ _ [.tmp 2] t ∧ _ ∧ _ from ⟨v.l, v.p, v.s, _, ⟨by show v.l.length ≤ 61; omega, ⟨by omega, by omega, by omega⟩⟩, .inl ⟨_, rfl, .tmp rfl⟩, fw_sy rfl rfl rfl (Nat.le_refl _) rfl (fun _ _ _ _ => rfl), rfl⟩)
  · have _u := True.intro
    refine AW.skip ?_
    refine AW.seq ?_
    refine AW.region ?_
    refine ARun.pure (PureOp.assign rfl .int) rfl rfl (Nat.le_of_ble_eq_true rfl) ?_
    refine ARun.nil ?_
    refine AW.seq ?_
    refine AW.block ?_
    have hT : x1 ≤ 61 := by omega
    refine AW.nilSlot 3 900 3 (syC []) rfl ⟨rfl, (by repeat first | exact trivial | refine ⟨by decide, by first | rfl | exact trivial | (intro i j; first | rfl | exact getD_no rfl | (dsimp only; split <;> first | rfl | exact getD_no rfl) | exact scl_no (by apply_assumption) _), ?_⟩)⟩ ?_
    -- objects are renamed
    refine AW.loopR (ι := SyS) (fun v => ⟨[(0, .one (.ptr 1000000 3 0 0)), (3, .one (.own 900 3 v.l.length)), (4, .one (.int .i64 (((x1 - v.l.length) : Nat) : Int))), (5, .one (.int .i64 (v.e : Int)))], [(900, .arr 3 v.l.length (syC v.l)), (1000000, .cells [.cv c (.lst 1 n (fun i _ => .int .u8 ((F i : Nat) : Int))), .int .i64 (v.p : Int), .int .u64 ((v.s : Nat) : Int)])]⟩) (fun v => v.l.length ≤ x1 ∧ v.p ≤ p6 + 28 * v.l.length ∧ v.s < 18446744073709551616 ∧ p6 ≤ v.p ∧ v.e ≤ 4 * v.l.length) (fun v => x1 - v.l.length) ⟨[], p6, sd7, 0⟩ ⟨Nat.zero_le _, by show p6 ≤ p6 + 28 * 0; omega, by show sd7 < 18446744073709551616; omega, Nat.le_refl _, Nat.zero_le _⟩ ⟨⟨⟨_, rfl, rfl⟩, ⟨_, rfl, rfl⟩, ⟨_, rfl, rfl⟩, ⟨_, rfl, rfl⟩, trivial⟩, ⟨⟨_, rfl, rfl, Nat.le_refl _, fun _ _ _ _ => rfl⟩, ⟨_, rfl, rfl, Nat.le_refl _, fun _ _ _ _ => rfl⟩, trivial⟩⟩ ?_
    intro v hv
    obtain ⟨hv1, hv2, hv3, hv4, hv5⟩ := hv
    refine AW.seq ?_
    refine AW.seq ?_
    refine AW.region ?_
    refine ARun.pure (PureOp.move rfl (.tmp rfl)) rfl rfl (Nat.le_of_ble_eq_true rfl) ?_
    refine ARun.pure (PureOp.intOp rfl (.tmp rfl) .int rfl) rfl rfl (Nat.le_of_ble_eq_true rfl) ?_
    refine ARun.nil ?_
    refine AW.cond (.tmp rfl) (fun hb56 => ?_) (fun hb56 => ?_)
    · have _u := True.intro
      replace hb56 := of_decide_eq_true hb56
      have hkl : v.l.length < x1 := by omega
      refine AW.skip ?_
      refine AW.seq ?_
      refine AW.block ?_
      refine AW.seq ?_
      refine AW.region ?_
      refine ARun.pure (PureOp.move rfl (.tmp rfl)) rfl rfl (Nat.le_of_ble_eq_true rfl) ?_
      refine ARun.cur (id := 1000000) rfl (v_Say n F hF v.p v.s (by omega) (by omega)) vd2_ca_67 ⟨.inr (.tmp rfl), trivial⟩ rfl rfl rfl (Nat.le_of_ble_eq_true rfl) (fun x57 p58 sd59 hc60 => ?_)
      have hc60c := hc60
      obtain ⟨hc601, hc602, hc603⟩ := hc60c
      refine ARun.alloc (id := 13) (l := [.str ByteArray.empty, .int .i64 0, .int .i64 0]) (z := (.agg #[.string ByteArray.empty, .int .i64 0, .int .i64 0])) rfl (by kernel_rfl) (fun _ _ _ => ⟨_, _, rfl, ⟨rfl, by decide⟩, ⟨_, _, rfl, rfl, ⟨_, _, rfl, rfl, rfl⟩⟩⟩) ⟨rfl, (by repeat first | exact trivial | refine ⟨by decide, by first | rfl | exact trivial | (intro i j; first | rfl | exact getD_no rfl | (dsimp only; split <;> first | rfl | exact getD_no rfl) | exact scl_no (by apply_assumption) _), ?_⟩)⟩ rfl rfl rfl (Nat.le_of_ble_eq_true rfl) ?_
      refine ARun.store rfl (.tmp rfl) (.tmp rfl) (SV.cells_of (by exact ⟨trivial, trivial, trivial, trivial⟩)) rfl (Nat.le_of_ble_eq_true rfl) vd2_sz_47_3 rfl rfl ?_
      refine ARun.nil ?_
      refine AW.seq ?_
      refine AW.seq ?_
      refine AW.region ?_
      refine ARun.pure (PureOp.move rfl (.tmp rfl)) rfl rfl (Nat.le_of_ble_eq_true rfl) ?_
      refine ARun.cur (id := 1000000) rfl (v_One n F hF p58 sd59 (by omega) (by omega) 4 (by omega)) vd2_ca_82 ⟨.inr (.tmp rfl), .inl ⟨_, .int, .int⟩, trivial⟩ rfl rfl rfl (Nat.le_of_ble_eq_true rfl) (fun x61 p62 sd63 hc64 => ?_)
      have hc64c := hc64
      obtain ⟨hc641, hc642, hc643⟩ := hc64c
      refine ARun.pure (PureOp.not rfl (.tmp rfl)) rfl rfl (Nat.le_of_ble_eq_true rfl) ?_
      refine ARun.nil ?_
      refine AW.cond (.tmp rfl) (fun hb65 => ?_) (fun hb65 => ?_)
      · have _u := True.intro
        replace hb65 := of_not hb65
        refine AW.seq ?_
        refine AW.region ?_
        refine ARun.pure (PureOp.move rfl (.tmp rfl)) rfl rfl (Nat.le_of_ble_eq_true rfl) ?_
        refine ARun.pure (PureOp.move rfl (.tmp rfl)) rfl rfl (Nat.le_of_ble_eq_true rfl) ?_
        refine ARun.cur (id := 1000000) rfl (v_Pick n F hF p62 sd63 (by omega) (by omega) 4 (by omega)) vd2_ca_80 ⟨.inr (.tmp rfl), .inl ⟨_, .int, .int⟩, trivial⟩ rfl rfl rfl (Nat.le_of_ble_eq_true rfl) (fun x66 p67 sd68 hc69 => ?_)
        obtain ⟨hc69x, hc69c⟩ := hc69
        obtain ⟨hc691, hc692, hc693⟩ := hc69c
        refine ARun.pure (PureOp.add (c := ((v.e + x66 : Nat) : Int)) rfl (.tmp rfl) (.tmp rfl) (by rw [wrap_id (by omega) (by omega)]; omega)) rfl rfl (Nat.le_of_ble_eq_true rfl) ?_
        refine ARun.pure (PureOp.assign rfl (.tmp rfl)) rfl rfl (Nat.le_of_ble_eq_true rfl) ?_
        refine ARun.nil ?_
        refine AW.seq ?_
        refine AW.region ?_
        refine ARun.pure (PureOp.fieldPtr rfl (.tmp rfl) vd2_fi_47_1_1) rfl rfl (Nat.le_of_ble_eq_true rfl) ?_
        refine ARun.pure (PureOp.loadPtr rfl (.tmp rfl) vd2_pl_3 rfl rfl (Nat.le_of_ble_eq_true rfl) (Nat.le_of_ble_eq_true rfl)) rfl rfl (Nat.le_of_ble_eq_true rfl) ?_
        refine ARun.pure (PureOp.call rfl (v_l1In x57.at_ 0 60) ⟨⟨_, (.tmp rfl), .int⟩, ⟨_, .int, .int⟩, ⟨_, .int, .int⟩, trivial⟩ vd2_ca_44 trivial) rfl rfl (Nat.le_of_ble_eq_true rfl) ?_
        refine ARun.nil ?_
        refine AW.cond (.tmp rfl) (fun hb70 => ?_) (fun hb70 => ?_)
        · have _u := True.intro
          refine AW.region ?_
          refine ARun.pure (PureOp.move rfl (.tmp rfl)) rfl rfl (Nat.le_of_ble_eq_true rfl) ?_
          refine ARun.pure (PureOp.fieldPtr rfl (.tmp rfl) vd2_fi_47_1_1) rfl rfl (Nat.le_of_ble_eq_true rfl) ?_
          refine ARun.store rfl (.tmp rfl) (.tmp rfl) trivial rfl (Nat.le_of_ble_eq_true rfl) vd2_sz_3_1 rfl rfl ?_
          refine ARun.nil ?_
          refine AW.seq ?_
          refine AW.seq ?_
          refine AW.region ?_
          refine ARun.pure (PureOp.move rfl (.tmp rfl)) rfl rfl (Nat.le_of_ble_eq_true rfl) ?_
          refine ARun.cur (id := 1000000) rfl (v_One n F hF p67 sd68 (by omega) (by omega) 12 (by omega)) vd2_ca_82 ⟨.inr (.tmp rfl), .inl ⟨_, .int, .int⟩, trivial⟩ rfl rfl rfl (Nat.le_of_ble_eq_true rfl) (fun x71 p72 sd73 hc74 => ?_)
          have hc74c := hc74
          obtain ⟨hc741, hc742, hc743⟩ := hc74c
          refine ARun.nil ?_
          refine AW.cond (.tmp rfl) (fun hb75 => ?_) (fun hb75 => ?_)
          · have _u := True.intro
            refine AW.region ?_
            refine ARun.pure (PureOp.move rfl (.tmp rfl)) rfl rfl (Nat.le_of_ble_eq_true rfl) ?_
            refine ARun.fresh (FreshOp.strs6 (a1 := (⟨#[97]⟩ : ByteArray)) (a2 := (⟨#[98]⟩ : ByteArray)) (a3 := (⟨#[99]⟩ : ByteArray)) (a4 := (⟨#[100]⟩ : ByteArray)) (a5 := (⟨#[101]⟩ : ByteArray)) (a6 := (⟨#[102]⟩ : ByteArray)) rfl (.str (by decide)) (.str (by decide)) (.str (by decide)) (.str (by decide)) (.str (by decide)) (.str (by decide)) Try.underlying117 (by kernel_rfl)) rfl rfl (Nat.le_of_ble_eq_true rfl) ?_
            refine ARun.cur (id := 1000000) rfl (v_Of n F hF p72 sd73 (by omega) (by omega) ([(⟨#[97]⟩ : ByteArray), (⟨#[98]⟩ : ByteArray), (⟨#[99]⟩ : ByteArray), (⟨#[100]⟩ : ByteArray), (⟨#[101]⟩ : ByteArray), (⟨#[102]⟩ : ByteArray)] : List ByteArray) ⟨by decide, by decide⟩) vd2_ca_83 ⟨.inr (.tmp rfl), .inl ⟨_, (.tmp rfl), .frs⟩, trivial⟩ rfl rfl rfl (Nat.le_of_ble_eq_true rfl) (fun x76 p77 sd78 hc79 => ?_)
            obtain ⟨hc79x, hc79c⟩ := hc79
            obtain ⟨hc791, hc792, hc793⟩ := hc79c
            refine ARun.pure (PureOp.fieldPtr rfl (.tmp rfl) vd2_fi_47_0_0) rfl rfl (Nat.le_of_ble_eq_true rfl) ?_
            refine ARun.store rfl (.tmp rfl) (.tmp rfl) trivial rfl (Nat.le_of_ble_eq_true rfl) vd2_sz_9_1 rfl rfl ?_
            refine ARun.nil ?_
            refine AW.region ?_
            refine ARun.pure (PureOp.move rfl (.tmp rfl)) rfl rfl (Nat.le_of_ble_eq_true rfl) ?_
            refine ARun.pure (PureOp.loadPtrAgg rfl (.tmp rfl) vd2_ag_47_3 rfl rfl (Nat.le_of_ble_eq_true rfl) (Nat.le_of_ble_eq_true rfl)) rfl rfl (Nat.le_of_ble_eq_true rfl) ?_
            refine ARun.slice1 (id := 14) (z := (.agg #[.string ByteArray.empty, .int .i64 0, .int .i64 0])) (by_ := 32) rfl (.tmp rfl) (SV.cells_of (by exact ⟨trivial, trivial, trivial, trivial⟩)) (by kernel_rfl) rfl rfl (by decide) (by decide) ⟨rfl, (by repeat first | exact trivial | refine ⟨by decide, by first | rfl | exact trivial | (intro i j; first | rfl | exact getD_no rfl | (dsimp only; split <;> first | rfl | exact getD_no rfl) | exact scl_no (by apply_assumption) _), ?_⟩)⟩ rfl rfl rfl (Nat.le_of_ble_eq_true rfl) ?_
            refine ARun.append (id := 15) (sz := 3) (n := v.l.length) (m := 1) (by_ := 32) (z := (.agg #[.string ByteArray.empty, .int .i64 0, .int .i64 0])) (f := syC v.l) (g := fun _ jc => ([.str x76, .int .i64 ((v.e + x66 : Nat) : Int), .int .i64 x57.value] : List AV).getD jc (.con undef)) (h := fun ia ja => if ia < v.l.length then (syC v.l : Nat → Nat → AV) ia ja else (fun _ jc => ([.str x76, .int .i64 ((v.e + x66 : Nat) : Int), .int .i64 x57.value] : List AV).getD jc (.con undef) : Nat → Nat → AV) (ia - v.l.length) ja) rfl (by kernel_rfl) rfl vd2_sl_55 (.own (.tmp rfl) rfl rfl rfl (Nat.le_refl _) (fun _ _ _ _ => rfl)) (.own (.tmp rfl) rfl rfl (Nat.le_refl _) (fun _ _ _ _ => rfl)) (by decide) (fun i j hi hj => match j, hj with | 0, _ => rfl | 1, _ => rfl | 2, _ => rfl | _ + 3, h => absurd h (by omega)) (fun _ _ _ _ => rfl) (by omega) (by omega) ⟨rfl, (by repeat first | exact trivial | refine ⟨by decide, by first | rfl | exact trivial | (intro i j; first | rfl | exact getD_no rfl | (dsimp only; split <;> first | rfl | exact getD_no rfl) | exact scl_no (by apply_assumption) _), ?_⟩)⟩ (fun i j => by dsimp only; (repeat' split) <;> first | rfl | exact getD_no rfl) rfl rfl (Nat.le_of_ble_eq_true rfl) ?_
            refine ARun.pure (PureOp.assign rfl (.tmp rfl)) rfl rfl (Nat.le_of_ble_eq_true rfl) ?_
            refine ARun.nil ?_
            refine AW.region ?_
            refine ARun.pure (PureOp.move rfl (.tmp rfl)) rfl rfl (Nat.le_of_ble_eq_true rfl) ?_
            refine ARun.pure (PureOp.sub (c := (((x1 - (v.l.length + 1)) : Nat) : Int)) rfl (.tmp rfl) .int (by rw [wrap_id (by omega) (by omega)]; omega)) rfl rfl (Nat.le_of_ble_eq_true rfl) ?_
            refine ARun.pure (PureOp.assign rfl (.tmp rfl)) rfl rfl (Nat.le_of_ble_eq_true rfl) ?_
            refine ARun.nil ?_
            have hln : (v.l ++ [(⟨x76, ((v.e + x66 : Nat) : Int), x57.value⟩ : GSay)]).length = v.l.length + 1 := by rw [List.length_append]; rfl
            exact ⟨⟨(v.l ++ [(⟨x76, ((v.e + x66 : Nat) : Int), x57.value⟩ : GSay)]), p77, sd78, v.e + x66⟩, (swp 900 15), ⟨by show (v.l ++ [(⟨x76, ((v.e + x66 : Nat) : Int), x57.value⟩ : GSay)]).length ≤ x1; omega, by show p77 ≤ _ + 28 * (v.l ++ [(⟨x76, ((v.e + x66 : Nat) : Int), x57.value⟩ : GSay)]).length; omega, by show sd78 < _; omega, by show _ ≤ p77; omega, by show v.e + x66 ≤ 4 * (v.l ++ [(⟨x76, ((v.e + x66 : Nat) : Int), x57.value⟩ : GSay)]).length; omega⟩, by show x1 - (v.l ++ [(⟨x76, ((v.e + x66 : Nat) : Int), x57.value⟩ : GSay)]).length < x1 - v.l.length; omega, swp_inj, (swp_fix rfl rfl), ⟨⟨⟨_, rfl, rfl⟩, ⟨_, rfl, congrArg (fun z : Nat => SV.one (.own 15 3 z)) hln.symm⟩, ⟨_, rfl, congrArg (fun z : Nat => SV.one (.int .i64 ((x1 - z : Nat) : Int))) hln.symm⟩, ⟨_, rfl, rfl⟩, trivial⟩, ⟨⟨_, rfl, rfl, Nat.le_of_eq hln, fun ia ja hi hj => (sy_app (hln ▸ hi)).trans (sy_ren hj).symm⟩, ⟨_, rfl, rfl, Nat.le_refl _, fun _ _ _ _ => rfl⟩, trivial⟩⟩⟩
          · have _u := True.intro
            refine AW.skip ?_
            refine AW.region ?_
            refine ARun.pure (PureOp.move rfl (.tmp rfl)) rfl rfl (Nat.le_of_ble_eq_true rfl) ?_
            refine ARun.pure (PureOp.loadPtrAgg rfl (.tmp rfl) vd2_ag_47_3 rfl rfl (Nat.le_of_ble_eq_true rfl) (Nat.le_of_ble_eq_true rfl)) rfl rfl (Nat.le_of_ble_eq_true rfl) ?_
            refine ARun.slice1 (id := 16) (z := (.agg #[.string ByteArray.empty, .int .i64 0, .int .i64 0])) (by_ := 32) rfl (.tmp rfl) (SV.cells_of (by exact ⟨trivial, trivial, trivial, trivial⟩)) (by kernel_rfl) rfl rfl (by decide) (by decide) ⟨rfl, (by repeat first | exact trivial | refine ⟨by decide, by first | rfl | exact trivial | (intro i j; first | rfl | exact getD_no rfl | (dsimp only; split <;> first | rfl | exact getD_no rfl) | exact scl_no (by apply_assumption) _), ?_⟩)⟩ rfl rfl rfl (Nat.le_of_ble_eq_true rfl) ?_
            refine ARun.append (id := 17) (sz := 3) (n := v.l.length) (m := 1) (by_ := 32) (z := (.agg #[.string ByteArray.empty, .int .i64 0, .int .i64 0])) (f := syC v.l) (g := fun _ jc => ([.str x57.name, .int .i64 ((v.e + x66 : Nat) : Int), .int .i64 x57.value] : List AV).getD jc (.con undef)) (h := fun ia ja => if ia < v.l.length then (syC v.l : Nat → Nat → AV) ia ja else (fun _ jc => ([.str x57.name, .int .i64 ((v.e + x66 : Nat) : Int), .int .i64 x57.value] : List AV).getD jc (.con undef) : Nat → Nat → AV) (ia - v.l.length) ja) rfl (by kernel_rfl) rfl vd2_sl_55 (.own (.tmp rfl) rfl rfl rfl (Nat.le_refl _) (fun _ _ _ _ => rfl)) (.own (.tmp rfl) rfl rfl (Nat.le_refl _) (fun _ _ _ _ => rfl)) (by decide) (fun i j hi hj => match j, hj with | 0, _ => rfl | 1, _ => rfl | 2, _ => rfl | _ + 3, h => absurd h (by omega)) (fun _ _ _ _ => rfl) (by omega) (by omega) ⟨rfl, (by repeat first | exact trivial | refine ⟨by decide, by first | rfl | exact trivial | (intro i j; first | rfl | exact getD_no rfl | (dsimp only; split <;> first | rfl | exact getD_no rfl) | exact scl_no (by apply_assumption) _), ?_⟩)⟩ (fun i j => by dsimp only; (repeat' split) <;> first | rfl | exact getD_no rfl) rfl rfl (Nat.le_of_ble_eq_true rfl) ?_
            refine ARun.pure (PureOp.assign rfl (.tmp rfl)) rfl rfl (Nat.le_of_ble_eq_true rfl) ?_
            refine ARun.nil ?_
            refine AW.region ?_
            refine ARun.pure (PureOp.move rfl (.tmp rfl)) rfl rfl (Nat.le_of_ble_eq_true rfl) ?_
            refine ARun.pure (PureOp.sub (c := (((x1 - (v.l.length + 1)) : Nat) : Int)) rfl (.tmp rfl) .int (by rw [wrap_id (by omega) (by omega)]; omega)) rfl rfl (Nat.le_of_ble_eq_true rfl) ?_
            refine ARun.pure (PureOp.assign rfl (.tmp rfl)) rfl rfl (Nat.le_of_ble_eq_true rfl) ?_
            refine ARun.nil ?_
            have hln : (v.l ++ [(⟨x57.name, ((v.e + x66 : Nat) : Int), x57.value⟩ : GSay)]).length = v.l.length + 1 := by rw [List.length_append]; rfl
            exact ⟨⟨(v.l ++ [(⟨x57.name, ((v.e + x66 : Nat) : Int), x57.value⟩ : GSay)]), p72, sd73, v.e + x66⟩, (swp 900 17), ⟨by show (v.l ++ [(⟨x57.name, ((v.e + x66 : Nat) : Int), x57.value⟩ : GSay)]).length ≤ x1; omega, by show p72 ≤ _ + 28 * (v.l ++ [(⟨x57.name, ((v.e + x66 : Nat) : Int), x57.value⟩ : GSay)]).length; omega, by show sd73 < _; omega, by show _ ≤ p72; omega, by show v.e + x66 ≤ 4 * (v.l ++ [(⟨x57.name, ((v.e + x66 : Nat) : Int), x57.value⟩ : GSay)]).length; omega⟩, by show x1 - (v.l ++ [(⟨x57.name, ((v.e + x66 : Nat) : Int), x57.value⟩ : GSay)]).length < x1 - v.l.length; omega, swp_inj, (swp_fix rfl rfl), ⟨⟨⟨_, rfl, rfl⟩, ⟨_, rfl, congrArg (fun z : Nat => SV.one (.own 17 3 z)) hln.symm⟩, ⟨_, rfl, congrArg (fun z : Nat => SV.one (.int .i64 ((x1 - z : Nat) : Int))) hln.symm⟩, ⟨_, rfl, rfl⟩, trivial⟩, ⟨⟨_, rfl, rfl, Nat.le_of_eq hln, fun ia ja hi hj => (sy_app (hln ▸ hi)).trans (sy_ren hj).symm⟩, ⟨_, rfl, rfl, Nat.le_refl _, fun _ _ _ _ => rfl⟩, trivial⟩⟩⟩
        · have _u := True.intro
          refine AW.skip ?_
          refine AW.seq ?_
          refine AW.seq ?_
          refine AW.region ?_
          refine ARun.pure (PureOp.move rfl (.tmp rfl)) rfl rfl (Nat.le_of_ble_eq_true rfl) ?_
          refine ARun.cur (id := 1000000) rfl (v_One n F hF p67 sd68 (by omega) (by omega) 12 (by omega)) vd2_ca_82 ⟨.inr (.tmp rfl), .inl ⟨_, .int, .int⟩, trivial⟩ rfl rfl rfl (Nat.le_of_ble_eq_true rfl) (fun x80 p81 sd82 hc83 => ?_)
          have hc83c := hc83
          obtain ⟨hc831, hc832, hc833⟩ := hc83c
          refine ARun.nil ?_
          refine AW.cond (.tmp rfl) (fun hb84 => ?_) (fun hb84 => ?_)
          · have _u := True.intro
            refine AW.region ?_
            refine ARun.pure (PureOp.move rfl (.tmp rfl)) rfl rfl (Nat.le_of_ble_eq_true rfl) ?_
            refine ARun.fresh (FreshOp.strs6 (a1 := (⟨#[97]⟩ : ByteArray)) (a2 := (⟨#[98]⟩ : ByteArray)) (a3 := (⟨#[99]⟩ : ByteArray)) (a4 := (⟨#[100]⟩ : ByteArray)) (a5 := (⟨#[101]⟩ : ByteArray)) (a6 := (⟨#[102]⟩ : ByteArray)) rfl (.str (by decide)) (.str (by decide)) (.str (by decide)) (.str (by decide)) (.str (by decide)) (.str (by decide)) Try.underlying117 (by kernel_rfl)) rfl rfl (Nat.le_of_ble_eq_true rfl) ?_
            refine ARun.cur (id := 1000000) rfl (v_Of n F hF p81 sd82 (by omega) (by omega) ([(⟨#[97]⟩ : ByteArray), (⟨#[98]⟩ : ByteArray), (⟨#[99]⟩ : ByteArray), (⟨#[100]⟩ : ByteArray), (⟨#[101]⟩ : ByteArray), (⟨#[102]⟩ : ByteArray)] : List ByteArray) ⟨by decide, by decide⟩) vd2_ca_83 ⟨.inr (.tmp rfl), .inl ⟨_, (.tmp rfl), .frs⟩, trivial⟩ rfl rfl rfl (Nat.le_of_ble_eq_true rfl) (fun x85 p86 sd87 hc88 => ?_)
            obtain ⟨hc88x, hc88c⟩ := hc88
            obtain ⟨hc881, hc882, hc883⟩ := hc88c
            refine ARun.pure (PureOp.fieldPtr rfl (.tmp rfl) vd2_fi_47_0_0) rfl rfl (Nat.le_of_ble_eq_true rfl) ?_
            refine ARun.store rfl (.tmp rfl) (.tmp rfl) trivial rfl (Nat.le_of_ble_eq_true rfl) vd2_sz_9_1 rfl rfl ?_
            refine ARun.nil ?_
            refine AW.region ?_
            refine ARun.pure (PureOp.move rfl (.tmp rfl)) rfl rfl (Nat.le_of_ble_eq_true rfl) ?_
            refine ARun.pure (PureOp.loadPtrAgg rfl (.tmp rfl) vd2_ag_47_3 rfl rfl (Nat.le_of_ble_eq_true rfl) (Nat.le_of_ble_eq_true rfl)) rfl rfl (Nat.le_of_ble_eq_true rfl) ?_
            refine ARun.slice1 (id := 18) (z := (.agg #[.string ByteArray.empty, .int .i64 0, .int .i64 0])) (by_ := 32) rfl (.tmp rfl) (SV.cells_of (by exact ⟨trivial, trivial, trivial, trivial⟩)) (by kernel_rfl) rfl rfl (by decide) (by decide) ⟨rfl, (by repeat first | exact trivial | refine ⟨by decide, by first | rfl | exact trivial | (intro i j; first | rfl | exact getD_no rfl | (dsimp only; split <;> first | rfl | exact getD_no rfl) | exact scl_no (by apply_assumption) _), ?_⟩)⟩ rfl rfl rfl (Nat.le_of_ble_eq_true rfl) ?_
            refine ARun.append (id := 19) (sz := 3) (n := v.l.length) (m := 1) (by_ := 32) (z := (.agg #[.string ByteArray.empty, .int .i64 0, .int .i64 0])) (f := syC v.l) (g := fun _ jc => ([.str x85, .int .i64 x57.at_, .int .i64 x57.value] : List AV).getD jc (.con undef)) (h := fun ia ja => if ia < v.l.length then (syC v.l : Nat → Nat → AV) ia ja else (fun _ jc => ([.str x85, .int .i64 x57.at_, .int .i64 x57.value] : List AV).getD jc (.con undef) : Nat → Nat → AV) (ia - v.l.length) ja) rfl (by kernel_rfl) rfl vd2_sl_55 (.own (.tmp rfl) rfl rfl rfl (Nat.le_refl _) (fun _ _ _ _ => rfl)) (.own (.tmp rfl) rfl rfl (Nat.le_refl _) (fun _ _ _ _ => rfl)) (by decide) (fun i j hi hj => match j, hj with | 0, _ => rfl | 1, _ => rfl | 2, _ => rfl | _ + 3, h => absurd h (by omega)) (fun _ _ _ _ => rfl) (by omega) (by omega) ⟨rfl, (by repeat first | exact trivial | refine ⟨by decide, by first | rfl | exact trivial | (intro i j; first | rfl | exact getD_no rfl | (dsimp only; split <;> first | rfl | exact getD_no rfl) | exact scl_no (by apply_assumption) _), ?_⟩)⟩ (fun i j => by dsimp only; (repeat' split) <;> first | rfl | exact getD_no rfl) rfl rfl (Nat.le_of_ble_eq_true rfl) ?_
            refine ARun.pure (PureOp.assign rfl (.tmp rfl)) rfl rfl (Nat.le_of_ble_eq_true rfl) ?_
            refine ARun.nil ?_
            refine AW.region ?_
            refine ARun.pure (PureOp.move rfl (.tmp rfl)) rfl rfl (Nat.le_of_ble_eq_true rfl) ?_
            refine ARun.pure (PureOp.sub (c := (((x1 - (v.l.length + 1)) : Nat) : Int)) rfl (.tmp rfl) .int (by rw [wrap_id (by omega) (by omega)]; omega)) rfl rfl (Nat.le_of_ble_eq_true rfl) ?_
            refine ARun.pure (PureOp.assign rfl (.tmp rfl)) rfl rfl (Nat.le_of_ble_eq_true rfl) ?_
            refine ARun.nil ?_
            have hln : (v.l ++ [(⟨x85, x57.at_, x57.value⟩ : GSay)]).length = v.l.length + 1 := by rw [List.length_append]; rfl
            exact ⟨⟨(v.l ++ [(⟨x85, x57.at_, x57.value⟩ : GSay)]), p86, sd87, v.e + x66⟩, (swp 900 19), ⟨by show (v.l ++ [(⟨x85, x57.at_, x57.value⟩ : GSay)]).length ≤ x1; omega, by show p86 ≤ _ + 28 * (v.l ++ [(⟨x85, x57.at_, x57.value⟩ : GSay)]).length; omega, by show sd87 < _; omega, by show _ ≤ p86; omega, by show v.e + x66 ≤ 4 * (v.l ++ [(⟨x85, x57.at_, x57.value⟩ : GSay)]).length; omega⟩, by show x1 - (v.l ++ [(⟨x85, x57.at_, x57.value⟩ : GSay)]).length < x1 - v.l.length; omega, swp_inj, (swp_fix rfl rfl), ⟨⟨⟨_, rfl, rfl⟩, ⟨_, rfl, congrArg (fun z : Nat => SV.one (.own 19 3 z)) hln.symm⟩, ⟨_, rfl, congrArg (fun z : Nat => SV.one (.int .i64 ((x1 - z : Nat) : Int))) hln.symm⟩, ⟨_, rfl, rfl⟩, trivial⟩, ⟨⟨_, rfl, rfl, Nat.le_of_eq hln, fun ia ja hi hj => (sy_app (hln ▸ hi)).trans (sy_ren hj).symm⟩, ⟨_, rfl, rfl, Nat.le_refl _, fun _ _ _ _ => rfl⟩, trivial⟩⟩⟩
          · have _u := True.intro
            refine AW.skip ?_
            refine AW.region ?_
            refine ARun.pure (PureOp.move rfl (.tmp rfl)) rfl rfl (Nat.le_of_ble_eq_true rfl) ?_
            refine ARun.pure (PureOp.loadPtrAgg rfl (.tmp rfl) vd2_ag_47_3 rfl rfl (Nat.le_of_ble_eq_true rfl) (Nat.le_of_ble_eq_true rfl)) rfl rfl (Nat.le_of_ble_eq_true rfl) ?_
            refine ARun.slice1 (id := 20) (z := (.agg #[.string ByteArray.empty, .int .i64 0, .int .i64 0])) (by_ := 32) rfl (.tmp rfl) (SV.cells_of (by exact ⟨trivial, trivial, trivial, trivial⟩)) (by kernel_rfl) rfl rfl (by decide) (by decide) ⟨rfl, (by repeat first | exact trivial | refine ⟨by decide, by first | rfl | exact trivial | (intro i j; first | rfl | exact getD_no rfl | (dsimp only; split <;> first | rfl | exact getD_no rfl) | exact scl_no (by apply_assumption) _), ?_⟩)⟩ rfl rfl rfl (Nat.le_of_ble_eq_true rfl) ?_
            refine ARun.append (id := 21) (sz := 3) (n := v.l.length) (m := 1) (by_ := 32) (z := (.agg #[.string ByteArray.empty, .int .i64 0, .int .i64 0])) (f := syC v.l) (g := fun _ jc => ([.str x57.name, .int .i64 x57.at_, .int .i64 x57.value] : List AV).getD jc (.con undef)) (h := fun ia ja => if ia < v.l.length then (syC v.l : Nat → Nat → AV) ia ja else (fun _ jc => ([.str x57.name, .int .i64 x57.at_, .int .i64 x57.value] : List AV).getD jc (.con undef) : Nat → Nat → AV) (ia - v.l.length) ja) rfl (by kernel_rfl) rfl vd2_sl_55 (.own (.tmp rfl) rfl rfl rfl (Nat.le_refl _) (fun _ _ _ _ => rfl)) (.own (.tmp rfl) rfl rfl (Nat.le_refl _) (fun _ _ _ _ => rfl)) (by decide) (fun i j hi hj => match j, hj with | 0, _ => rfl | 1, _ => rfl | 2, _ => rfl | _ + 3, h => absurd h (by omega)) (fun _ _ _ _ => rfl) (by omega) (by omega) ⟨rfl, (by repeat first | exact trivial | refine ⟨by decide, by first | rfl | exact trivial | (intro i j; first | rfl | exact getD_no rfl | (dsimp only; split <;> first | rfl | exact getD_no rfl) | exact scl_no (by apply_assumption) _), ?_⟩)⟩ (fun i j => by dsimp only; (repeat' split) <;> first | rfl | exact getD_no rfl) rfl rfl (Nat.le_of_ble_eq_true rfl) ?_
            refine ARun.pure (PureOp.assign rfl (.tmp rfl)) rfl rfl (Nat.le_of_ble_eq_true rfl) ?_
            refine ARun.nil ?_
            refine AW.region ?_
            refine ARun.pure (PureOp.move rfl (.tmp rfl)) rfl rfl (Nat.le_of_ble_eq_true rfl) ?_
            refine ARun.pure (PureOp.sub (c := (((x1 - (v.l.length + 1)) : Nat) : Int)) rfl (.tmp rfl) .int (by rw [wrap_id (by omega) (by omega)]; omega)) rfl rfl (Nat.le_of_ble_eq_true rfl) ?_
            refine ARun.pure (PureOp.assign rfl (.tmp rfl)) rfl rfl (Nat.le_of_ble_eq_true rfl) ?_
            refine ARun.nil ?_
            have hln : (v.l ++ [(⟨x57.name, x57.at_, x57.value⟩ : GSay)]).length = v.l.length + 1 := by rw [List.length_append]; rfl
            exact ⟨⟨(v.l ++ [(⟨x57.name, x57.at_, x57.value⟩ : GSay)]), p81, sd82, v.e + x66⟩, (swp 900 21), ⟨by show (v.l ++ [(⟨x57.name, x57.at_, x57.value⟩ : GSay)]).length ≤ x1; omega, by show p81 ≤ _ + 28 * (v.l ++ [(⟨x57.name, x57.at_, x57.value⟩ : GSay)]).length; omega, by show sd82 < _; omega, by show _ ≤ p81; omega, by show v.e + x66 ≤ 4 * (v.l ++ [(⟨x57.name, x57.at_, x57.value⟩ : GSay)]).length; omega⟩, by show x1 - (v.l ++ [(⟨x57.name, x57.at_, x57.value⟩ : GSay)]).length < x1 - v.l.length; omega, swp_inj, (swp_fix rfl rfl), ⟨⟨⟨_, rfl, rfl⟩, ⟨_, rfl, congrArg (fun z : Nat => SV.one (.own 21 3 z)) hln.symm⟩, ⟨_, rfl, congrArg (fun z : Nat => SV.one (.int .i64 ((x1 - z : Nat) : Int))) hln.symm⟩, ⟨_, rfl, rfl⟩, trivial⟩, ⟨⟨_, rfl, rfl, Nat.le_of_eq hln, fun ia ja hi hj => (sy_app (hln ▸ hi)).trans (sy_ren hj).symm⟩, ⟨_, rfl, rfl, Nat.le_refl _, fun _ _ _ _ => rfl⟩, trivial⟩⟩⟩
      · have _u := True.intro
        replace hb65 := not_f hb65
        refine AW.skip ?_
        refine AW.seq ?_
        refine AW.seq ?_
        refine AW.region ?_
        refine ARun.pure (PureOp.move rfl (.tmp rfl)) rfl rfl (Nat.le_of_ble_eq_true rfl) ?_
        refine ARun.cur (id := 1000000) rfl (v_One n F hF p62 sd63 (by omega) (by omega) 12 (by omega)) vd2_ca_82 ⟨.inr (.tmp rfl), .inl ⟨_, .int, .int⟩, trivial⟩ rfl rfl rfl (Nat.le_of_ble_eq_true rfl) (fun x89 p90 sd91 hc92 => ?_)
        have hc92c := hc92
        obtain ⟨hc921, hc922, hc923⟩ := hc92c
        refine ARun.nil ?_
        refine AW.cond (.tmp rfl) (fun hb93 => ?_) (fun hb93 => ?_)
        · have _u := True.intro
          refine AW.region ?_
          refine ARun.pure (PureOp.move rfl (.tmp rfl)) rfl rfl (Nat.le_of_ble_eq_true rfl) ?_
          refine ARun.fresh (FreshOp.strs6 (a1 := (⟨#[97]⟩ : ByteArray)) (a2 := (⟨#[98]⟩ : ByteArray)) (a3 := (⟨#[99]⟩ : ByteArray)) (a4 := (⟨#[100]⟩ : ByteArray)) (a5 := (⟨#[101]⟩ : ByteArray)) (a6 := (⟨#[102]⟩ : ByteArray)) rfl (.str (by decide)) (.str (by decide)) (.str (by decide)) (.str (by decide)) (.str (by decide)) (.str (by decide)) Try.underlying117 (by kernel_rfl)) rfl rfl (Nat.le_of_ble_eq_true rfl) ?_
          refine ARun.cur (id := 1000000) rfl (v_Of n F hF p90 sd91 (by omega) (by omega) ([(⟨#[97]⟩ : ByteArray), (⟨#[98]⟩ : ByteArray), (⟨#[99]⟩ : ByteArray), (⟨#[100]⟩ : ByteArray), (⟨#[101]⟩ : ByteArray), (⟨#[102]⟩ : ByteArray)] : List ByteArray) ⟨by decide, by decide⟩) vd2_ca_83 ⟨.inr (.tmp rfl), .inl ⟨_, (.tmp rfl), .frs⟩, trivial⟩ rfl rfl rfl (Nat.le_of_ble_eq_true rfl) (fun x94 p95 sd96 hc97 => ?_)
          obtain ⟨hc97x, hc97c⟩ := hc97
          obtain ⟨hc971, hc972, hc973⟩ := hc97c
          refine ARun.pure (PureOp.fieldPtr rfl (.tmp rfl) vd2_fi_47_0_0) rfl rfl (Nat.le_of_ble_eq_true rfl) ?_
          refine ARun.store rfl (.tmp rfl) (.tmp rfl) trivial rfl (Nat.le_of_ble_eq_true rfl) vd2_sz_9_1 rfl rfl ?_
          refine ARun.nil ?_
          refine AW.region ?_
          refine ARun.pure (PureOp.move rfl (.tmp rfl)) rfl rfl (Nat.le_of_ble_eq_true rfl) ?_
          refine ARun.pure (PureOp.loadPtrAgg rfl (.tmp rfl) vd2_ag_47_3 rfl rfl (Nat.le_of_ble_eq_true rfl) (Nat.le_of_ble_eq_true rfl)) rfl rfl (Nat.le_of_ble_eq_true rfl) ?_
          refine ARun.slice1 (id := 22) (z := (.agg #[.string ByteArray.empty, .int .i64 0, .int .i64 0])) (by_ := 32) rfl (.tmp rfl) (SV.cells_of (by exact ⟨trivial, trivial, trivial, trivial⟩)) (by kernel_rfl) rfl rfl (by decide) (by decide) ⟨rfl, (by repeat first | exact trivial | refine ⟨by decide, by first | rfl | exact trivial | (intro i j; first | rfl | exact getD_no rfl | (dsimp only; split <;> first | rfl | exact getD_no rfl) | exact scl_no (by apply_assumption) _), ?_⟩)⟩ rfl rfl rfl (Nat.le_of_ble_eq_true rfl) ?_
          refine ARun.append (id := 23) (sz := 3) (n := v.l.length) (m := 1) (by_ := 32) (z := (.agg #[.string ByteArray.empty, .int .i64 0, .int .i64 0])) (f := syC v.l) (g := fun _ jc => ([.str x94, .int .i64 x57.at_, .int .i64 x57.value] : List AV).getD jc (.con undef)) (h := fun ia ja => if ia < v.l.length then (syC v.l : Nat → Nat → AV) ia ja else (fun _ jc => ([.str x94, .int .i64 x57.at_, .int .i64 x57.value] : List AV).getD jc (.con undef) : Nat → Nat → AV) (ia - v.l.length) ja) rfl (by kernel_rfl) rfl vd2_sl_55 (.own (.tmp rfl) rfl rfl rfl (Nat.le_refl _) (fun _ _ _ _ => rfl)) (.own (.tmp rfl) rfl rfl (Nat.le_refl _) (fun _ _ _ _ => rfl)) (by decide) (fun i j hi hj => match j, hj with | 0, _ => rfl | 1, _ => rfl | 2, _ => rfl | _ + 3, h => absurd h (by omega)) (fun _ _ _ _ => rfl) (by omega) (by omega) ⟨rfl, (by repeat first | exact trivial | refine ⟨by decide, by first | rfl | exact trivial | (intro i j; first | rfl | exact getD_no rfl | (dsimp only; split <;> first | rfl | exact getD_no rfl) | exact scl_no (by apply_assumption) _), ?_⟩)⟩ (fun i j => by dsimp only; (repeat' split) <;> first | rfl | exact getD_no rfl) rfl rfl (Nat.le_of_ble_eq_true rfl) ?_
          refine ARun.pure (PureOp.assign rfl (.tmp rfl)) rfl rfl (Nat.le_of_ble_eq_true rfl) ?_
          refine ARun.nil ?_
          refine AW.region ?_
          refine ARun.pure (PureOp.move rfl (.tmp rfl)) rfl rfl (Nat.le_of_ble_eq_true rfl) ?_
          refine ARun.pure (PureOp.sub (c := (((x1 - (v.l.length + 1)) : Nat) : Int)) rfl (.tmp rfl) .int (by rw [wrap_id (by omega) (by omega)]; omega)) rfl rfl (Nat.le_of_ble_eq_true rfl) ?_
          refine ARun.pure (PureOp.assign rfl (.tmp rfl)) rfl rfl (Nat.le_of_ble_eq_true rfl) ?_
          refine ARun.nil ?_
          have hln : (v.l ++ [(⟨x94, x57.at_, x57.value⟩ : GSay)]).length = v.l.length + 1 := by rw [List.length_append]; rfl
          exact ⟨⟨(v.l ++ [(⟨x94, x57.at_, x57.value⟩ : GSay)]), p95, sd96, v.e⟩, (swp 900 23), ⟨by show (v.l ++ [(⟨x94, x57.at_, x57.value⟩ : GSay)]).length ≤ x1; omega, by show p95 ≤ _ + 28 * (v.l ++ [(⟨x94, x57.at_, x57.value⟩ : GSay)]).length; omega, by show sd96 < _; omega, by show _ ≤ p95; omega, by show v.e ≤ 4 * (v.l ++ [(⟨x94, x57.at_, x57.value⟩ : GSay)]).length; omega⟩, by show x1 - (v.l ++ [(⟨x94, x57.at_, x57.value⟩ : GSay)]).length < x1 - v.l.length; omega, swp_inj, (swp_fix rfl rfl), ⟨⟨⟨_, rfl, rfl⟩, ⟨_, rfl, congrArg (fun z : Nat => SV.one (.own 23 3 z)) hln.symm⟩, ⟨_, rfl, congrArg (fun z : Nat => SV.one (.int .i64 ((x1 - z : Nat) : Int))) hln.symm⟩, ⟨_, rfl, rfl⟩, trivial⟩, ⟨⟨_, rfl, rfl, Nat.le_of_eq hln, fun ia ja hi hj => (sy_app (hln ▸ hi)).trans (sy_ren hj).symm⟩, ⟨_, rfl, rfl, Nat.le_refl _, fun _ _ _ _ => rfl⟩, trivial⟩⟩⟩
        · have _u := True.intro
          refine AW.skip ?_
          refine AW.region ?_
          refine ARun.pure (PureOp.move rfl (.tmp rfl)) rfl rfl (Nat.le_of_ble_eq_true rfl) ?_
          refine ARun.pure (PureOp.loadPtrAgg rfl (.tmp rfl) vd2_ag_47_3 rfl rfl (Nat.le_of_ble_eq_true rfl) (Nat.le_of_ble_eq_true rfl)) rfl rfl (Nat.le_of_ble_eq_true rfl) ?_
          refine ARun.slice1 (id := 24) (z := (.agg #[.string ByteArray.empty, .int .i64 0, .int .i64 0])) (by_ := 32) rfl (.tmp rfl) (SV.cells_of (by exact ⟨trivial, trivial, trivial, trivial⟩)) (by kernel_rfl) rfl rfl (by decide) (by decide) ⟨rfl, (by repeat first | exact trivial | refine ⟨by decide, by first | rfl | exact trivial | (intro i j; first | rfl | exact getD_no rfl | (dsimp only; split <;> first | rfl | exact getD_no rfl) | exact scl_no (by apply_assumption) _), ?_⟩)⟩ rfl rfl rfl (Nat.le_of_ble_eq_true rfl) ?_
          refine ARun.append (id := 25) (sz := 3) (n := v.l.length) (m := 1) (by_ := 32) (z := (.agg #[.string ByteArray.empty, .int .i64 0, .int .i64 0])) (f := syC v.l) (g := fun _ jc => ([.str x57.name, .int .i64 x57.at_, .int .i64 x57.value] : List AV).getD jc (.con undef)) (h := fun ia ja => if ia < v.l.length then (syC v.l : Nat → Nat → AV) ia ja else (fun _ jc => ([.str x57.name, .int .i64 x57.at_, .int .i64 x57.value] : List AV).getD jc (.con undef) : Nat → Nat → AV) (ia - v.l.length) ja) rfl (by kernel_rfl) rfl vd2_sl_55 (.own (.tmp rfl) rfl rfl rfl (Nat.le_refl _) (fun _ _ _ _ => rfl)) (.own (.tmp rfl) rfl rfl (Nat.le_refl _) (fun _ _ _ _ => rfl)) (by decide) (fun i j hi hj => match j, hj with | 0, _ => rfl | 1, _ => rfl | 2, _ => rfl | _ + 3, h => absurd h (by omega)) (fun _ _ _ _ => rfl) (by omega) (by omega) ⟨rfl, (by repeat first | exact trivial | refine ⟨by decide, by first | rfl | exact trivial | (intro i j; first | rfl | exact getD_no rfl | (dsimp only; split <;> first | rfl | exact getD_no rfl) | exact scl_no (by apply_assumption) _), ?_⟩)⟩ (fun i j => by dsimp only; (repeat' split) <;> first | rfl | exact getD_no rfl) rfl rfl (Nat.le_of_ble_eq_true rfl) ?_
          refine ARun.pure (PureOp.assign rfl (.tmp rfl)) rfl rfl (Nat.le_of_ble_eq_true rfl) ?_
          refine ARun.nil ?_
          refine AW.region ?_
          refine ARun.pure (PureOp.move rfl (.tmp rfl)) rfl rfl (Nat.le_of_ble_eq_true rfl) ?_
          refine ARun.pure (PureOp.sub (c := (((x1 - (v.l.length + 1)) : Nat) : Int)) rfl (.tmp rfl) .int (by rw [wrap_id (by omega) (by omega)]; omega)) rfl rfl (Nat.le_of_ble_eq_true rfl) ?_
          refine ARun.pure (PureOp.assign rfl (.tmp rfl)) rfl rfl (Nat.le_of_ble_eq_true rfl) ?_
          refine ARun.nil ?_
          have hln : (v.l ++ [(⟨x57.name, x57.at_, x57.value⟩ : GSay)]).length = v.l.length + 1 := by rw [List.length_append]; rfl
          exact ⟨⟨(v.l ++ [(⟨x57.name, x57.at_, x57.value⟩ : GSay)]), p90, sd91, v.e⟩, (swp 900 25), ⟨by show (v.l ++ [(⟨x57.name, x57.at_, x57.value⟩ : GSay)]).length ≤ x1; omega, by show p90 ≤ _ + 28 * (v.l ++ [(⟨x57.name, x57.at_, x57.value⟩ : GSay)]).length; omega, by show sd91 < _; omega, by show _ ≤ p90; omega, by show v.e ≤ 4 * (v.l ++ [(⟨x57.name, x57.at_, x57.value⟩ : GSay)]).length; omega⟩, by show x1 - (v.l ++ [(⟨x57.name, x57.at_, x57.value⟩ : GSay)]).length < x1 - v.l.length; omega, swp_inj, (swp_fix rfl rfl), ⟨⟨⟨_, rfl, rfl⟩, ⟨_, rfl, congrArg (fun z : Nat => SV.one (.own 25 3 z)) hln.symm⟩, ⟨_, rfl, congrArg (fun z : Nat => SV.one (.int .i64 ((x1 - z : Nat) : Int))) hln.symm⟩, ⟨_, rfl, rfl⟩, trivial⟩, ⟨⟨_, rfl, rfl, Nat.le_of_eq hln, fun ia ja hi hj => (sy_app (hln ▸ hi)).trans (sy_ren hj).symm⟩, ⟨_, rfl, rfl, Nat.le_refl _, fun _ _ _ _ => rfl⟩, trivial⟩⟩⟩
    · have _u := True.intro
      replace hb56 := of_decide_eq_false hb56
      have hkl : ¬ v.l.length < x1 := by omega
      refine AW.exit ?_
      refine AW.seq ?_
      refine AW.region ?_
      refine ARun.pure (PureOp.move rfl (.tmp rfl)) rfl rfl (Nat.le_of_ble_eq_true rfl) ?_
      refine ARun.pure (PureOp.assign rfl (.tmp rfl)) rfl rfl (Nat.le_of_ble_eq_true rfl) ?_
      refine ARun.nil ?_
      exact AW.ret (show ∃ x p' s' t, _ ∧ ResL _ _ [.tmp 2] t ∧ _ ∧ _ from ⟨v.l, v.p, v.s, _, ⟨by show v.l.length ≤ 61; omega, ⟨by omega, by omega, by omega⟩⟩, .inl ⟨_, rfl, .tmp rfl⟩, fw_sy rfl rfl rfl (Nat.le_refl _) rfl (fun _ _ _ _ => rfl), rfl⟩)
end Go.Proofs.Ytmfkmifkkplidaa


/-
  What the reference's cursor draws: heads.
-/
namespace Go.Proofs.Ytmfkmifkkplidaa
open Go.ChangeShapes Go.WideShapes Go.ChangeAt Go.RowKit Go.BigFrame Go.Deep
set_option linter.unusedVariables false
set_option linter.unusedSimpArgs false
theorem vd3_ag_29_2 : aggB Try.prog 29 2 = true := by kernel_rfl
theorem vd3_ca_28 : callB Try.prog 28 = true := by kernel_rfl
theorem vd3_ca_65 : callB Try.prog 65 = true := by kernel_rfl
theorem vd3_ca_80 : callB Try.prog 80 = true := by kernel_rfl
theorem vd3_ca_81 : callB Try.prog 81 = true := by kernel_rfl
theorem vd3_el_27_2 : elemB Try.prog 27 2 = true := by kernel_rfl
theorem vd3_fi_29_0_0 : fieldB Try.prog 29 0 0 = true := by kernel_rfl
theorem vd3_fi_29_1_1 : fieldB Try.prog 29 1 1 = true := by kernel_rfl
theorem vd3_fi_67_1_1 : fieldB Try.prog 67 1 1 = true := by kernel_rfl
theorem vd3_pl_27 : plainB Try.prog 27 = true := by kernel_rfl
theorem vd3_sl_27 : sliceB Try.prog 27 = true := by kernel_rfl
theorem vd3_sz_29_2 : sizeB Try.prog 29 2 = true := by kernel_rfl
theorem vd3_sz_33_1 : sizeB Try.prog 33 1 = true := by kernel_rfl
theorem vd3_sz_3_1 : sizeB Try.prog 3 1 = true := by kernel_rfl
/-- The first row's measurements taken away. -/
def noSmp (h : GHead) : GHead := ⟨h.rows.set 0 ⟨(h.rows.getD 0 (default : GRow)).name, []⟩, h.offset⟩
theorem fw_no {H : Heap} {id L n : Nat} {o : AObj} {h : GHead} (hid : (id == 1000000) = false) (hL : (L == 1000000) = false) (ho : H.lookup id = some o) (hsz : o.sz = 2) (hn : h.rows.length ≤ o.n) (hm : n = h.rows.length) (hpos : 0 < h.rows.length) (hT : H.lookup L = some (.trees h.rows.length (rowX0 h))) (hf : ∀ i j, i < h.rows.length → j < 2 → o.f i j = if i = 0 ∧ j = 1 then .con (.slice none 0 0) else rowC0 h L i j) : Fw H (.own id 2 n) (.lst 2 (noSmp h).rows.length (fun i0 j0 => ([.str ((((noSmp h).rows).getD i0 (default : GRow)).name), .lst 2 (((((noSmp h).rows).getD i0 (default : GRow)).samples).length) (fun i1 j1 => ([.int .i64 ((((((noSmp h).rows).getD i0 (default : GRow)).samples).getD i1 (default : GSample)).at_), .int .i64 ((((((noSmp h).rows).getD i0 (default : GRow)).samples).getD i1 (default : GSample)).value)] : List AV).getD j1 (.con undef))] : List AV).getD j0 (.con undef))) := by
  have hl : (noSmp h).rows.length = n := by rw [hm]; exact List.length_set
  rw [hl]
  subst hm
  refine .own hid ho hsz hn fun i j hi hj => ?_
  rw [hf i j hi hj]
  have hat : (noSmp h).rows.getD i (default : GRow) = if i = 0 then ⟨(h.rows.getD 0 (default : GRow)).name, []⟩ else h.rows.getD i (default : GRow) := set_at _ hpos i
  match j, hj with
  | 0, _ =>
    rw [if_neg (by omega)]
    show Fw H (.str (h.rows.getD i (default : GRow)).name) (.str ((noSmp h).rows.getD i (default : GRow)).name)
    rw [hat]
    by_cases e : i = 0
    · rw [if_pos e, e]; exact .str
    · rw [if_neg e]; exact .str
  | 1, _ =>
    show Fw H _ (rowX0 (noSmp h) i)
    unfold rowX0
    rw [hat]
    by_cases e : i = 0
    · rw [if_pos ⟨e, rfl⟩, if_pos e]; exact .cnil
    · rw [if_neg (fun h => e h.1), if_neg e]; exact .tre (X := rowX0 h) hT hi
  | _ + 2, h => exact absurd h (by omega)
theorem v_Head (n : Nat) (F : Nat → Nat) (hF : ∀ i, F i < 256) (p s : Nat) (hp : p ≤ 1500000000) (hs : s < 18446744073709551616) : FnC Try.prog 64 n F [] p s (fun (x : GHead) p' s' => CurOk p 2100 p' s') (fun (x : GHead) => .agg [.lst 2 x.rows.length (fun i0 j0 => ([.str ((x.rows.getD i0 (default : GRow)).name), .lst 2 (((x.rows.getD i0 (default : GRow)).samples).length) (fun i1 j1 => ([.int .i64 ((((x.rows.getD i0 (default : GRow)).samples).getD i1 (default : GSample)).at_), .int .i64 ((((x.rows.getD i0 (default : GRow)).samples).getD i1 (default : GSample)).value)] : List AV).getD j1 (.con undef))] : List AV).getD j0 (.con undef)), .int .i64 x.offset]) := by
  refine FnC.of_body (fn := Try.f64) Try.func64 rfl (Nat.le_of_ble_eq_true rfl) ?_
  intro w0 c
  show AW _ 42 _ _ _ _
  refine AW.seq ?_
  refine AW.region ?_
  refine ARun.alloc (id := 0) (l := [.con (.slice none 0 0), .int .i64 0]) (z := (.agg #[.slice none 0 0, .int .i64 0])) rfl (by kernel_rfl) (fun _ _ _ => ⟨_, _, rfl, rfl, ⟨_, _, rfl, rfl, rfl⟩⟩) ⟨rfl, (by repeat first | exact trivial | refine ⟨by decide, by first | rfl | exact trivial | (intro a_ b_; first | exact getD_no rfl | exact rowC0_no rfl _ _ | ((try dsimp only); (repeat' split) <;> first | rfl | exact rowC0_no rfl _ _ | exact getD_no rfl)), ?_⟩)⟩ rfl rfl rfl (Nat.le_of_ble_eq_true rfl) ?_
  refine ARun.nil ?_
  refine AW.seq ?_
  refine AW.region ?_
  refine ARun.pure (PureOp.move rfl (.tmp rfl)) rfl rfl (Nat.le_of_ble_eq_true rfl) ?_
  refine ARun.cur (id := 1000000) rfl (v_Pick n F hF p s (by omega) (by omega) 5 (by omega)) vd3_ca_80 ⟨.inr (.tmp rfl), .inl ⟨_, .int, .int⟩, trivial⟩ rfl rfl rfl (Nat.le_of_ble_eq_true rfl) (fun x1 p2 sd3 hc4 => ?_)
  obtain ⟨hc4x, hc4c⟩ := hc4
  obtain ⟨hc41, hc42, hc43⟩ := hc4c
  refine ARun.pure (PureOp.build (ys := [.int .i64 (x1 : Int)]) (l := [.con (.slice none 0 0), .int .i64 0]) (pl := [(0, 1), (1, 1)]) (z := (.agg #[.slice none 0 0, .int .i64 0])) rfl (by kernel_rfl) (by kernel_rfl) (fun _ _ _ => ⟨_, _, rfl, rfl, ⟨_, _, rfl, rfl, rfl⟩⟩) ⟨(.tmp rfl), trivial, rfl, trivial⟩ rfl) rfl rfl (Nat.le_of_ble_eq_true rfl) ?_
  refine ARun.pure (PureOp.move rfl (.tmp rfl)) rfl rfl (Nat.le_of_ble_eq_true rfl) ?_
  refine ARun.cur (id := 1000000) rfl (v_Says n F hF p2 sd3 (by omega) (by omega)) vd3_ca_65 ⟨.inr (.tmp rfl), trivial⟩ rfl rfl rfl (Nat.le_of_ble_eq_true rfl) (fun x5 p6 sd7 hc8 => ?_)
  obtain ⟨hc8x, hc8c⟩ := hc8
  obtain ⟨hc81, hc82, hc83⟩ := hc8c
  refine ARun.prod (K := 1) rfl (v_sFold (⟨[], (x1 : Int)⟩ : GHead) x5) ⟨rfl, (by repeat first | exact trivial | refine ⟨by decide, by first | rfl | exact trivial | (intro a_ b_; first | exact getD_no rfl | exact rowC0_no rfl _ _ | ((try dsimp only); (repeat' split) <;> first | rfl | exact rowC0_no rfl _ _ | exact getD_no rfl)), ?_⟩)⟩ ⟨⟨_, (.tmp rfl), ⟨.nil, .int, trivial⟩⟩, ⟨_, (.tmp rfl), .frs⟩, trivial⟩ vd3_ca_28 rfl rfl rfl rfl rfl (Nat.le_of_ble_eq_true rfl) ?_
  refine ARun.pure (PureOp.move rfl (.tmp rfl)) rfl rfl (Nat.le_of_ble_eq_true rfl) ?_
  refine ARun.pure (PureOp.ext3a rfl (.tmp rfl)) rfl rfl (Nat.le_of_ble_eq_true rfl) ?_
  refine ARun.pure (PureOp.ext3b rfl (.tmp rfl)) rfl rfl (Nat.le_of_ble_eq_true rfl) ?_
  refine ARun.pure (PureOp.ext3c rfl (.tmp rfl)) rfl rfl (Nat.le_of_ble_eq_true rfl) ?_
  refine ARun.alloc (id := 2) (l := [.con (.slice none 0 0), .int .i64 0]) (z := (.agg #[.slice none 0 0, .int .i64 0])) rfl (by kernel_rfl) (fun _ _ _ => ⟨_, _, rfl, rfl, ⟨_, _, rfl, rfl, rfl⟩⟩) ⟨rfl, (by repeat first | exact trivial | refine ⟨by decide, by first | rfl | exact trivial | (intro a_ b_; first | exact getD_no rfl | exact rowC0_no rfl _ _ | ((try dsimp only); (repeat' split) <;> first | rfl | exact rowC0_no rfl _ _ | exact getD_no rfl)), ?_⟩)⟩ rfl rfl rfl (Nat.le_of_ble_eq_true rfl) ?_
  refine ARun.store rfl (.tmp rfl) (.tmp rfl) (SV.cells_of (by exact ⟨trivial, trivial, trivial⟩)) rfl (Nat.le_of_ble_eq_true rfl) vd3_sz_29_2 rfl rfl ?_
  refine ARun.pure (PureOp.assign rfl (.tmp rfl)) rfl rfl (Nat.le_of_ble_eq_true rfl) ?_
  refine ARun.pure (PureOp.assign rfl (.tmp rfl)) rfl rfl (Nat.le_of_ble_eq_true rfl) ?_
  refine ARun.nil ?_
  refine AW.seq ?_
  refine AW.seq ?_
  refine AW.region ?_
  refine ARun.pure (PureOp.move rfl (.tmp rfl)) rfl rfl (Nat.le_of_ble_eq_true rfl) ?_
  refine ARun.pure (PureOp.not rfl (.tmp rfl)) rfl rfl (Nat.le_of_ble_eq_true rfl) ?_
  refine ARun.nil ?_
  refine AW.cond (.tmp rfl) (fun hb9 => ?_) (fun hb9 => ?_)
  · have _u := True.intro
    replace hb9 := of_not hb9
    refine AW.region ?_
    refine ARun.pure (PureOp.build (ys := [.int .i64 1, .int .i64 2]) (l := [.int .i64 0, .int .i64 0]) (pl := [(0, 1), (1, 1)]) (z := (.agg #[.int .i64 0, .int .i64 0])) rfl (by kernel_rfl) (by kernel_rfl) (fun _ _ _ => ⟨_, _, rfl, rfl, ⟨_, _, rfl, rfl, rfl⟩⟩) ⟨.int, trivial, rfl, ⟨.int, trivial, rfl, trivial⟩⟩ rfl) rfl rfl (Nat.le_of_ble_eq_true rfl) ?_
    refine ARun.slice1 (id := 3) (z := (.agg #[.int .i64 0, .int .i64 0])) (by_ := 16) rfl (.tmp rfl) (SV.cells_of (by exact ⟨trivial, trivial, trivial⟩)) (by kernel_rfl) rfl rfl (by decide) (by decide) ⟨rfl, (by repeat first | exact trivial | refine ⟨by decide, by first | rfl | exact trivial | (intro a_ b_; first | exact getD_no rfl | exact rowC0_no rfl _ _ | ((try dsimp only); (repeat' split) <;> first | rfl | exact rowC0_no rfl _ _ | exact getD_no rfl)), ?_⟩)⟩ rfl rfl rfl (Nat.le_of_ble_eq_true rfl) ?_
    refine ARun.pure (PureOp.build (ys := [.str (⟨#[99, 112, 117]⟩ : ByteArray), .own 3 2 1]) (l := [.str ByteArray.empty, .con (.slice none 0 0)]) (pl := [(0, 1), (1, 1)]) (z := (.agg #[.string ByteArray.empty, .slice none 0 0])) rfl (by kernel_rfl) (by kernel_rfl) (fun _ _ _ => ⟨_, _, rfl, ⟨rfl, by decide⟩, ⟨_, _, rfl, rfl, rfl⟩⟩) ⟨(.str (by decide)), trivial, rfl, ⟨(.tmp rfl), trivial, rfl, trivial⟩⟩ rfl) rfl rfl (Nat.le_of_ble_eq_true rfl) ?_
    refine ARun.slice1 (id := 4) (z := (.agg #[.string ByteArray.empty, .slice none 0 0])) (by_ := 40) rfl (.tmp rfl) (SV.cells_of (by exact ⟨trivial, trivial, trivial⟩)) (by kernel_rfl) rfl rfl (by decide) (by decide) ⟨rfl, (by repeat first | exact trivial | refine ⟨by decide, by first | rfl | exact trivial | (intro a_ b_; first | exact getD_no rfl | exact rowC0_no rfl _ _ | ((try dsimp only); (repeat' split) <;> first | rfl | exact rowC0_no rfl _ _ | exact getD_no rfl)), ?_⟩)⟩ rfl rfl rfl (Nat.le_of_ble_eq_true rfl) ?_
    refine ARun.pure (PureOp.build (ys := [.own 4 2 1, .int .i64 1]) (l := [.con (.slice none 0 0), .int .i64 0]) (pl := [(0, 1), (1, 1)]) (z := (.agg #[.slice none 0 0, .int .i64 0])) rfl (by kernel_rfl) (by kernel_rfl) (fun _ _ _ => ⟨_, _, rfl, rfl, ⟨_, _, rfl, rfl, rfl⟩⟩) ⟨(.tmp rfl), trivial, rfl, ⟨.int, trivial, rfl, trivial⟩⟩ rfl) rfl rfl (Nat.le_of_ble_eq_true rfl) ?_
    refine ARun.store rfl (.tmp rfl) (.tmp rfl) (SV.cells_of (by exact ⟨trivial, trivial, trivial⟩)) rfl (Nat.le_of_ble_eq_true rfl) vd3_sz_29_2 rfl rfl ?_
    refine ARun.nil ?_
    refine AW.seq ?_
    refine AW.seq ?_
    refine AW.region ?_
    refine ARun.pure (PureOp.move rfl (.tmp rfl)) rfl rfl (Nat.le_of_ble_eq_true rfl) ?_
    refine ARun.cur (id := 1000000) rfl (v_Pick n F hF p6 sd7 (by omega) (by omega) 30 (by omega)) vd3_ca_80 ⟨.inr (.tmp rfl), .inl ⟨_, .int, .int⟩, trivial⟩ rfl rfl rfl (Nat.le_of_ble_eq_true rfl) (fun x10 p11 sd12 hc13 => ?_)
    obtain ⟨hc13x, hc13c⟩ := hc13
    obtain ⟨hc131, hc132, hc133⟩ := hc13c
    refine ARun.nil ?_
    refine AW.block ?_
    refine AW.seq ?_
    refine AW.region ?_
    refine ARun.pure (PureOp.intOp rfl (.tmp rfl) .int rfl) rfl rfl (Nat.le_of_ble_eq_true rfl) ?_
    refine ARun.pure (PureOp.assign rfl (.tmp rfl)) rfl rfl (Nat.le_of_ble_eq_true rfl) ?_
    refine ARun.nil ?_
    refine AW.cond (.tmp rfl) (fun hb14 => ?_) (fun hb14 => ?_)
    · have _u := True.intro
      replace hb14 := of_decide_eq_true hb14
      refine AW.region ?_
      refine ARun.pure (PureOp.move rfl (.tmp rfl)) rfl rfl (Nat.le_of_ble_eq_true rfl) ?_
      refine ARun.fresh (FreshOp.trip (a1 := (-1)) (a2 := 1000) (a3 := 1001) rfl .int .int .int Try.underlying52 (by kernel_rfl)) rfl rfl (Nat.le_of_ble_eq_true rfl) ?_
      refine ARun.cur (id := 1000000) rfl (v_Among n F hF p11 sd12 (by omega) (by omega) ([(-1), 1000, 1001] : List Int) ⟨by decide, by decide⟩) vd3_ca_81 ⟨.inr (.tmp rfl), .inl ⟨_, (.tmp rfl), .frs⟩, trivial⟩ rfl rfl rfl (Nat.le_of_ble_eq_true rfl) (fun x15 p16 sd17 hc18 => ?_)
      obtain ⟨hc18x, hc18c⟩ := hc18
      obtain ⟨hc181, hc182, hc183⟩ := hc18c
      refine ARun.pure (PureOp.fieldPtr rfl (.tmp rfl) vd3_fi_29_1_1) rfl rfl (Nat.le_of_ble_eq_true rfl) ?_
      refine ARun.store rfl (.tmp rfl) (.tmp rfl) trivial rfl (Nat.le_of_ble_eq_true rfl) vd3_sz_3_1 rfl rfl ?_
      refine ARun.nil ?_
      refine AW.seq ?_
      refine AW.region ?_
      refine ARun.pure (PureOp.loadPtrAgg rfl (.tmp rfl) vd3_ag_29_2 rfl rfl (Nat.le_of_ble_eq_true rfl) (Nat.le_of_ble_eq_true rfl)) rfl rfl (Nat.le_of_ble_eq_true rfl) ?_
      refine ARun.store rfl (.tmp rfl) (.tmp rfl) (SV.cells_of (by exact ⟨trivial, trivial, trivial⟩)) rfl (Nat.le_of_ble_eq_true rfl) vd3_sz_29_2 rfl rfl ?_
      refine ARun.nil ?_
      exact AW.ret (show ∃ x p' s' t, _ ∧ ResL _ _ [.cell 2 29] t ∧ _ ∧ _ from ⟨⟨[⟨⟨#[99, 112, 117]⟩, [⟨1, 2⟩]⟩], x15⟩, p16, sd17, _, ⟨by omega, by omega, by omega⟩, .inl ⟨_, rfl, .cells rfl vd3_ag_29_2 rfl rfl (Nat.le_of_ble_eq_true rfl) (Nat.le_of_ble_eq_true rfl)⟩, ⟨.own rfl rfl rfl (Nat.le_refl _) (fun i j hi hj => match i, j, hi, hj with | 0, 0, _, _ => .str | 0, 1, _, _ => .own rfl rfl rfl (Nat.le_refl _) (fun a b ha hb => match a, b, ha, hb with | 0, 0, _, _ => .int | 0, 1, _, _ => .int | _ + 1, _, h, _ => absurd h (by omega) | 0, _ + 2, _, h => absurd h (by omega)) | _ + 1, _, h, _ => absurd h (by omega) | 0, _ + 2, _, h => absurd h (by omega)), .int, trivial⟩, rfl⟩)
    · have _u := True.intro
      replace hb14 := of_decide_eq_false hb14
      refine AW.seq ?_
      refine AW.region ?_
      refine ARun.pure (PureOp.intOp rfl (.tmp rfl) .int rfl) rfl rfl (Nat.le_of_ble_eq_true rfl) ?_
      refine ARun.pure (PureOp.assign rfl (.tmp rfl)) rfl rfl (Nat.le_of_ble_eq_true rfl) ?_
      refine ARun.nil ?_
      refine AW.cond (.tmp rfl) (fun hb19 => ?_) (fun hb19 => ?_)
      · have _u := True.intro
        replace hb19 := of_decide_eq_true hb19
        refine AW.seq ?_
        refine AW.region ?_
        refine ARun.pure (PureOp.fieldPtr rfl (.tmp rfl) vd3_fi_29_0_0) rfl rfl (Nat.le_of_ble_eq_true rfl) ?_
        refine ARun.pure (PureOp.loadPtr rfl (.tmp rfl) vd3_pl_27 rfl rfl (Nat.le_of_ble_eq_true rfl) (Nat.le_of_ble_eq_true rfl)) rfl rfl (Nat.le_of_ble_eq_true rfl) ?_
        refine ARun.pure (PureOp.lenOwn rfl (.tmp rfl) vd3_sl_27) rfl rfl (Nat.le_of_ble_eq_true rfl) ?_
        refine ARun.pure (PureOp.intOp rfl (.tmp rfl) .int rfl) rfl rfl (Nat.le_of_ble_eq_true rfl) ?_
        refine ARun.nil ?_
        refine AW.cond (.tmp rfl) (fun hb20 => ?_) (fun hb20 => ?_)
        · have _u := True.intro
          replace hb20 := of_decide_eq_true hb20
          refine AW.region ?_
          refine ARun.pure (PureOp.fieldPtr rfl (.tmp rfl) vd3_fi_29_0_0) rfl rfl (Nat.le_of_ble_eq_true rfl) ?_
          refine ARun.pure (PureOp.loadPtr rfl (.tmp rfl) vd3_pl_27 rfl rfl (Nat.le_of_ble_eq_true rfl) (Nat.le_of_ble_eq_true rfl)) rfl rfl (Nat.le_of_ble_eq_true rfl) ?_
          refine ARun.pure (PureOp.indexOwn (i := 0) rfl (.tmp rfl) vd3_el_27_2 .int rfl (by first | omega | (show 0 < _; omega))) rfl rfl (Nat.le_of_ble_eq_true rfl) ?_
          refine ARun.pure (PureOp.fieldPtr rfl (.tmp rfl) vd3_fi_67_1_1) rfl rfl (Nat.le_of_ble_eq_true rfl) ?_
          refine ARun.storeArr rfl (.tmp rfl) .con ⟨rfl, (fun _ e => by cases e), (fun _ e => by cases e)⟩ rfl (show 0 < 1 from by omega) (Nat.le_of_ble_eq_true rfl) vd3_sz_33_1 rfl rfl ?_
          refine ARun.nil ?_
          refine AW.seq ?_
          refine AW.region ?_
          refine ARun.pure (PureOp.loadPtrAgg rfl (.tmp rfl) vd3_ag_29_2 rfl rfl (Nat.le_of_ble_eq_true rfl) (Nat.le_of_ble_eq_true rfl)) rfl rfl (Nat.le_of_ble_eq_true rfl) ?_
          refine ARun.store rfl (.tmp rfl) (.tmp rfl) (SV.cells_of (by exact ⟨trivial, trivial, trivial⟩)) rfl (Nat.le_of_ble_eq_true rfl) vd3_sz_29_2 rfl rfl ?_
          refine ARun.nil ?_
          exact AW.ret (show ∃ x p' s' t, _ ∧ ResL _ _ [.cell 2 29] t ∧ _ ∧ _ from ⟨⟨[⟨⟨#[99, 112, 117]⟩, []⟩], 1⟩, p11, sd12, _, ⟨by omega, by omega, by omega⟩, .inl ⟨_, rfl, .cells rfl vd3_ag_29_2 rfl rfl (Nat.le_of_ble_eq_true rfl) (Nat.le_of_ble_eq_true rfl)⟩, ⟨.own rfl rfl rfl (Nat.le_refl _) (fun i j hi hj => match i, j, hi, hj with | 0, 0, _, _ => .str | 0, 1, _, _ => .cnil | _ + 1, _, h, _ => absurd h (by omega) | 0, _ + 2, _, h => absurd h (by omega)), .int, trivial⟩, rfl⟩)
        · have _u := True.intro
          replace hb20 := of_decide_eq_false hb20
          refine AW.skip ?_
          refine AW.seq ?_
          refine AW.region ?_
          refine ARun.pure (PureOp.loadPtrAgg rfl (.tmp rfl) vd3_ag_29_2 rfl rfl (Nat.le_of_ble_eq_true rfl) (Nat.le_of_ble_eq_true rfl)) rfl rfl (Nat.le_of_ble_eq_true rfl) ?_
          refine ARun.store rfl (.tmp rfl) (.tmp rfl) (SV.cells_of (by exact ⟨trivial, trivial, trivial⟩)) rfl (Nat.le_of_ble_eq_true rfl) vd3_sz_29_2 rfl rfl ?_
          refine ARun.nil ?_
          exact AW.ret (show ∃ x p' s' t, _ ∧ ResL _ _ [.cell 2 29] t ∧ _ ∧ _ from ⟨⟨[⟨⟨#[99, 112, 117]⟩, [⟨1, 2⟩]⟩], 1⟩, p11, sd12, _, ⟨by omega, by omega, by omega⟩, .inl ⟨_, rfl, .cells rfl vd3_ag_29_2 rfl rfl (Nat.le_of_ble_eq_true rfl) (Nat.le_of_ble_eq_true rfl)⟩, ⟨.own rfl rfl rfl (Nat.le_refl _) (fun i j hi hj => match i, j, hi, hj with | 0, 0, _, _ => .str | 0, 1, _, _ => .own rfl rfl rfl (Nat.le_refl _) (fun a b ha hb => match a, b, ha, hb with | 0, 0, _, _ => .int | 0, 1, _, _ => .int | _ + 1, _, h, _ => absurd h (by omega) | 0, _ + 2, _, h => absurd h (by omega)) | _ + 1, _, h, _ => absurd h (by omega) | 0, _ + 2, _, h => absurd h (by omega)), .int, trivial⟩, rfl⟩)
      · have _u := True.intro
        replace hb19 := of_decide_eq_false hb19
        refine AW.skip ?_
        refine AW.seq ?_
        refine AW.region ?_
        refine ARun.pure (PureOp.loadPtrAgg rfl (.tmp rfl) vd3_ag_29_2 rfl rfl (Nat.le_of_ble_eq_true rfl) (Nat.le_of_ble_eq_true rfl)) rfl rfl (Nat.le_of_ble_eq_true rfl) ?_
        refine ARun.store rfl (.tmp rfl) (.tmp rfl) (SV.cells_of (by exact ⟨trivial, trivial, trivial⟩)) rfl (Nat.le_of_ble_eq_true rfl) vd3_sz_29_2 rfl rfl ?_
        refine ARun.nil ?_
        exact AW.ret (show ∃ x p' s' t, _ ∧ ResL _ _ [.cell 2 29] t ∧ _ ∧ _ from ⟨⟨[⟨⟨#[99, 112, 117]⟩, [⟨1, 2⟩]⟩], 1⟩, p11, sd12, _, ⟨by omega, by omega, by omega⟩, .inl ⟨_, rfl, .cells rfl vd3_ag_29_2 rfl rfl (Nat.le_of_ble_eq_true rfl) (Nat.le_of_ble_eq_true rfl)⟩, ⟨.own rfl rfl rfl (Nat.le_refl _) (fun i j hi hj => match i, j, hi, hj with | 0, 0, _, _ => .str | 0, 1, _, _ => .own rfl rfl rfl (Nat.le_refl _) (fun a b ha hb => match a, b, ha, hb with | 0, 0, _, _ => .int | 0, 1, _, _ => .int | _ + 1, _, h, _ => absurd h (by omega) | 0, _ + 2, _, h => absurd h (by omega)) | _ + 1, _, h, _ => absurd h (by omega) | 0, _ + 2, _, h => absurd h (by omega)), .int, trivial⟩, rfl⟩)
  · have _u := True.intro
    replace hb9 := not_f hb9
    refine AW.skip ?_
    refine AW.seq ?_
    refine AW.seq ?_
    refine AW.region ?_
    refine ARun.pure (PureOp.move rfl (.tmp rfl)) rfl rfl (Nat.le_of_ble_eq_true rfl) ?_
    refine ARun.cur (id := 1000000) rfl (v_Pick n F hF p6 sd7 (by omega) (by omega) 30 (by omega)) vd3_ca_80 ⟨.inr (.tmp rfl), .inl ⟨_, .int, .int⟩, trivial⟩ rfl rfl rfl (Nat.le_of_ble_eq_true rfl) (fun x21 p22 sd23 hc24 => ?_)
    obtain ⟨hc24x, hc24c⟩ := hc24
    obtain ⟨hc241, hc242, hc243⟩ := hc24c
    refine ARun.nil ?_
    refine AW.block ?_
    refine AW.seq ?_
    refine AW.region ?_
    refine ARun.pure (PureOp.intOp rfl (.tmp rfl) .int rfl) rfl rfl (Nat.le_of_ble_eq_true rfl) ?_
    refine ARun.pure (PureOp.assign rfl (.tmp rfl)) rfl rfl (Nat.le_of_ble_eq_true rfl) ?_
    refine ARun.nil ?_
    refine AW.cond (.tmp rfl) (fun hb25 => ?_) (fun hb25 => ?_)
    · have _u := True.intro
      replace hb25 := of_decide_eq_true hb25
      refine AW.region ?_
      refine ARun.pure (PureOp.move rfl (.tmp rfl)) rfl rfl (Nat.le_of_ble_eq_true rfl) ?_
      refine ARun.fresh (FreshOp.trip (a1 := (-1)) (a2 := 1000) (a3 := 1001) rfl .int .int .int Try.underlying52 (by kernel_rfl)) rfl rfl (Nat.le_of_ble_eq_true rfl) ?_
      refine ARun.cur (id := 1000000) rfl (v_Among n F hF p22 sd23 (by omega) (by omega) ([(-1), 1000, 1001] : List Int) ⟨by decide, by decide⟩) vd3_ca_81 ⟨.inr (.tmp rfl), .inl ⟨_, (.tmp rfl), .frs⟩, trivial⟩ rfl rfl rfl (Nat.le_of_ble_eq_true rfl) (fun x26 p27 sd28 hc29 => ?_)
      obtain ⟨hc29x, hc29c⟩ := hc29
      obtain ⟨hc291, hc292, hc293⟩ := hc29c
      refine ARun.pure (PureOp.fieldPtr rfl (.tmp rfl) vd3_fi_29_1_1) rfl rfl (Nat.le_of_ble_eq_true rfl) ?_
      refine ARun.store rfl (.tmp rfl) (.tmp rfl) trivial rfl (Nat.le_of_ble_eq_true rfl) vd3_sz_3_1 rfl rfl ?_
      refine ARun.nil ?_
      refine AW.seq ?_
      refine AW.region ?_
      refine ARun.pure (PureOp.loadPtrAgg rfl (.tmp rfl) vd3_ag_29_2 rfl rfl (Nat.le_of_ble_eq_true rfl) (Nat.le_of_ble_eq_true rfl)) rfl rfl (Nat.le_of_ble_eq_true rfl) ?_
      refine ARun.store rfl (.tmp rfl) (.tmp rfl) (SV.cells_of (by exact ⟨trivial, trivial, trivial⟩)) rfl (Nat.le_of_ble_eq_true rfl) vd3_sz_29_2 rfl rfl ?_
      refine ARun.nil ?_
      exact AW.ret (show ∃ x p' s' t, _ ∧ ResL _ _ [.cell 2 29] t ∧ _ ∧ _ from ⟨⟨(foldV (⟨[], (x1 : Int)⟩ : GHead) x5).1.rows, x26⟩, p27, sd28, _, ⟨by omega, by omega, by omega⟩, .inl ⟨_, rfl, .cells rfl vd3_ag_29_2 rfl rfl (Nat.le_of_ble_eq_true rfl) (Nat.le_of_ble_eq_true rfl)⟩, ⟨.tre (X := fun p => ([.lst 2 ((((foldV (⟨[], (x1 : Int)⟩ : GHead) x5).1).rows).length) (fun i0 j0 => ([.str (((((foldV (⟨[], (x1 : Int)⟩ : GHead) x5).1).rows).getD i0 (default : GRow)).name), .lst 2 ((((((foldV (⟨[], (x1 : Int)⟩ : GHead) x5).1).rows).getD i0 (default : GRow)).samples).length) (fun i1 j1 => ([.int .i64 (((((((foldV (⟨[], (x1 : Int)⟩ : GHead) x5).1).rows).getD i0 (default : GRow)).samples).getD i1 (default : GSample)).at_), .int .i64 (((((((foldV (⟨[], (x1 : Int)⟩ : GHead) x5).1).rows).getD i0 (default : GRow)).samples).getD i1 (default : GSample)).value)] : List AV).getD j1 (.con undef))] : List AV).getD j0 (.con undef)), .int .i64 (((foldV (⟨[], (x1 : Int)⟩ : GHead) x5).1).offset), .lst 1 (((foldV (⟨[], (x1 : Int)⟩ : GHead) x5).2.1).length) (fun i0 _ => .int .i64 (((foldV (⟨[], (x1 : Int)⟩ : GHead) x5).2.1).getD i0 0)), .bool ((foldV (⟨[], (x1 : Int)⟩ : GHead) x5).2.2)] : List AV).getD p (.con undef)) rfl (Nat.le_of_ble_eq_true rfl), .int, trivial⟩, rfl⟩)
    · have _u := True.intro
      replace hb25 := of_decide_eq_false hb25
      refine AW.seq ?_
      refine AW.region ?_
      refine ARun.pure (PureOp.intOp rfl (.tmp rfl) .int rfl) rfl rfl (Nat.le_of_ble_eq_true rfl) ?_
      refine ARun.pure (PureOp.assign rfl (.tmp rfl)) rfl rfl (Nat.le_of_ble_eq_true rfl) ?_
      refine ARun.nil ?_
      refine AW.cond (.tmp rfl) (fun hb30 => ?_) (fun hb30 => ?_)
      · have _u := True.intro
        replace hb30 := of_decide_eq_true hb30
        refine AW.seq ?_
        refine AW.region ?_
        refine ARun.pure (PureOp.fieldPtr rfl (.tmp rfl) vd3_fi_29_0_0) rfl rfl (Nat.le_of_ble_eq_true rfl) ?_
        refine ARun.pure (PureOp.loadPtr rfl (.tmp rfl) vd3_pl_27 rfl rfl (Nat.le_of_ble_eq_true rfl) (Nat.le_of_ble_eq_true rfl)) rfl rfl (Nat.le_of_ble_eq_true rfl) ?_
        refine ARun.pure (PureOp.lenTre (m := 4) (sz := 2) (n := (foldV (⟨[], (x1 : Int)⟩ : GHead) x5).1.rows.length) (f := (fun i0 j0 => ([.str ((((foldV (⟨[], (x1 : Int)⟩ : GHead) x5).1.rows).getD i0 (default : GRow)).name), .lst 2 (((((foldV (⟨[], (x1 : Int)⟩ : GHead) x5).1.rows).getD i0 (default : GRow)).samples).length) (fun i1 j1 => ([.int .i64 ((((((foldV (⟨[], (x1 : Int)⟩ : GHead) x5).1.rows).getD i0 (default : GRow)).samples).getD i1 (default : GSample)).at_), .int .i64 ((((((foldV (⟨[], (x1 : Int)⟩ : GHead) x5).1.rows).getD i0 (default : GRow)).samples).getD i1 (default : GSample)).value)] : List AV).getD j1 (.con undef))] : List AV).getD j0 (.con undef))) rfl (.tmp rfl) rfl (Nat.le_of_ble_eq_true rfl) rfl vd3_sl_27) rfl rfl (Nat.le_of_ble_eq_true rfl) ?_
        refine ARun.pure (PureOp.intOp rfl (.tmp rfl) .int rfl) rfl rfl (Nat.le_of_ble_eq_true rfl) ?_
        refine ARun.nil ?_
        refine AW.cond (.tmp rfl) (fun hb31 => ?_) (fun hb31 => ?_)
        · have _u := True.intro
          replace hb31 := of_decide_eq_true hb31
          refine AW.openCell 2 0 1 0 4 2 1 (foldV (⟨[], (x1 : Int)⟩ : GHead) x5).1.rows.length 5 6 [.tre 1 0, .int .i64 (((foldV (⟨[], (x1 : Int)⟩ : GHead) x5).1).offset)] [.own 5 2 ((foldV (⟨[], (x1 : Int)⟩ : GHead) x5).1.rows.length), .int .i64 (((foldV (⟨[], (x1 : Int)⟩ : GHead) x5).1).offset)] (fun p => ([.lst 2 ((((foldV (⟨[], (x1 : Int)⟩ : GHead) x5).1).rows).length) (fun i0 j0 => ([.str (((((foldV (⟨[], (x1 : Int)⟩ : GHead) x5).1).rows).getD i0 (default : GRow)).name), .lst 2 ((((((foldV (⟨[], (x1 : Int)⟩ : GHead) x5).1).rows).getD i0 (default : GRow)).samples).length) (fun i1 j1 => ([.int .i64 (((((((foldV (⟨[], (x1 : Int)⟩ : GHead) x5).1).rows).getD i0 (default : GRow)).samples).getD i1 (default : GSample)).at_), .int .i64 (((((((foldV (⟨[], (x1 : Int)⟩ : GHead) x5).1).rows).getD i0 (default : GRow)).samples).getD i1 (default : GSample)).value)] : List AV).getD j1 (.con undef))] : List AV).getD j0 (.con undef)), .int .i64 (((foldV (⟨[], (x1 : Int)⟩ : GHead) x5).1).offset), .lst 1 (((foldV (⟨[], (x1 : Int)⟩ : GHead) x5).2.1).length) (fun i0 _ => .int .i64 (((foldV (⟨[], (x1 : Int)⟩ : GHead) x5).2.1).getD i0 0)), .bool ((foldV (⟨[], (x1 : Int)⟩ : GHead) x5).2.2)] : List AV).getD p (.con undef)) (fun i0 j0 => ([.str ((((foldV (⟨[], (x1 : Int)⟩ : GHead) x5).1.rows).getD i0 (default : GRow)).name), .lst 2 (((((foldV (⟨[], (x1 : Int)⟩ : GHead) x5).1.rows).getD i0 (default : GRow)).samples).length) (fun i1 j1 => ([.int .i64 ((((((foldV (⟨[], (x1 : Int)⟩ : GHead) x5).1.rows).getD i0 (default : GRow)).samples).getD i1 (default : GSample)).at_), .int .i64 ((((((foldV (⟨[], (x1 : Int)⟩ : GHead) x5).1.rows).getD i0 (default : GRow)).samples).getD i1 (default : GSample)).value)] : List AV).getD j1 (.con undef))] : List AV).getD j0 (.con undef)) (rowC0 (foldV (⟨[], (x1 : Int)⟩ : GHead) x5).1 6) rfl rfl rfl rfl (by decide) (by decide) rfl (by decide) (fun _ _ => ⟨_, _, _, rfl⟩) (fun i j _ hj hne => match j, hj, hne with | 0, _, _ => rfl | 1, _, h => absurd rfl h | _ + 2, h, _ => absurd h (by omega)) ⟨rfl, (by repeat first | exact trivial | refine ⟨by decide, by first | rfl | exact trivial | (intro a_ b_; first | exact getD_no rfl | exact rowC0_no rfl _ _ | ((try dsimp only); (repeat' split) <;> first | rfl | exact rowC0_no rfl _ _ | exact getD_no rfl)), ?_⟩)⟩ ⟨rfl, (by repeat first | exact trivial | refine ⟨by decide, by first | rfl | exact trivial | (intro a_ b_; first | exact getD_no rfl | exact rowC0_no rfl _ _ | ((try dsimp only); (repeat' split) <;> first | rfl | exact rowC0_no rfl _ _ | exact getD_no rfl)), ?_⟩)⟩ (by decide) (fun i j _ hj => match j, hj with | 0, _ => rfl | 1, _ => rfl | _ + 2, h => absurd h (by omega)) ?_
          refine AW.region ?_
          refine ARun.pure (PureOp.fieldPtr rfl (.tmp rfl) vd3_fi_29_0_0) rfl rfl (Nat.le_of_ble_eq_true rfl) ?_
          refine ARun.pure (PureOp.loadPtr rfl (.tmp rfl) vd3_pl_27 rfl rfl (Nat.le_of_ble_eq_true rfl) (Nat.le_of_ble_eq_true rfl)) rfl rfl (Nat.le_of_ble_eq_true rfl) ?_
          refine ARun.pure (PureOp.indexOwn (i := 0) rfl (.tmp rfl) vd3_el_27_2 .int rfl (by first | omega | (show 0 < _; omega))) rfl rfl (Nat.le_of_ble_eq_true rfl) ?_
          refine ARun.pure (PureOp.fieldPtr rfl (.tmp rfl) vd3_fi_67_1_1) rfl rfl (Nat.le_of_ble_eq_true rfl) ?_
          refine ARun.storeArr rfl (.tmp rfl) .con ⟨rfl, (fun _ e => by cases e), (fun _ e => by cases e)⟩ rfl (show 0 < (foldV (⟨[], (x1 : Int)⟩ : GHead) x5).1.rows.length from by omega) (Nat.le_of_ble_eq_true rfl) vd3_sz_33_1 rfl rfl ?_
          refine ARun.nil ?_
          refine AW.seq ?_
          refine AW.region ?_
          refine ARun.pure (PureOp.loadPtrAgg rfl (.tmp rfl) vd3_ag_29_2 rfl rfl (Nat.le_of_ble_eq_true rfl) (Nat.le_of_ble_eq_true rfl)) rfl rfl (Nat.le_of_ble_eq_true rfl) ?_
          refine ARun.store rfl (.tmp rfl) (.tmp rfl) (SV.cells_of (by exact ⟨trivial, trivial, trivial⟩)) rfl (Nat.le_of_ble_eq_true rfl) vd3_sz_29_2 rfl rfl ?_
          refine ARun.nil ?_
          exact AW.ret (show ∃ x p' s' t, _ ∧ ResL _ _ [.cell 2 29] t ∧ _ ∧ _ from ⟨⟨(noSmp (foldV (⟨[], (x1 : Int)⟩ : GHead) x5).1).rows, ((foldV (⟨[], (x1 : Int)⟩ : GHead) x5).1).offset⟩, p22, sd23, _, ⟨by omega, by omega, by omega⟩, .inl ⟨_, rfl, .cells rfl vd3_ag_29_2 rfl rfl (Nat.le_of_ble_eq_true rfl) (Nat.le_of_ble_eq_true rfl)⟩, ⟨fw_no (L := 6) rfl rfl rfl rfl (Nat.le_refl _) rfl (by omega) rfl (fun _ _ _ _ => rfl), .int, trivial⟩, rfl⟩)
        · have _u := True.intro
          replace hb31 := of_decide_eq_false hb31
          refine AW.skip ?_
          refine AW.seq ?_
          refine AW.region ?_
          refine ARun.pure (PureOp.loadPtrAgg rfl (.tmp rfl) vd3_ag_29_2 rfl rfl (Nat.le_of_ble_eq_true rfl) (Nat.le_of_ble_eq_true rfl)) rfl rfl (Nat.le_of_ble_eq_true rfl) ?_
          refine ARun.store rfl (.tmp rfl) (.tmp rfl) (SV.cells_of (by exact ⟨trivial, trivial, trivial⟩)) rfl (Nat.le_of_ble_eq_true rfl) vd3_sz_29_2 rfl rfl ?_
          refine ARun.nil ?_
          exact AW.ret (show ∃ x p' s' t, _ ∧ ResL _ _ [.cell 2 29] t ∧ _ ∧ _ from ⟨⟨(foldV (⟨[], (x1 : Int)⟩ : GHead) x5).1.rows, ((foldV (⟨[], (x1 : Int)⟩ : GHead) x5).1).offset⟩, p22, sd23, _, ⟨by omega, by omega, by omega⟩, .inl ⟨_, rfl, .cells rfl vd3_ag_29_2 rfl rfl (Nat.le_of_ble_eq_true rfl) (Nat.le_of_ble_eq_true rfl)⟩, ⟨.tre (X := fun p => ([.lst 2 ((((foldV (⟨[], (x1 : Int)⟩ : GHead) x5).1).rows).length) (fun i0 j0 => ([.str (((((foldV (⟨[], (x1 : Int)⟩ : GHead) x5).1).rows).getD i0 (default : GRow)).name), .lst 2 ((((((foldV (⟨[], (x1 : Int)⟩ : GHead) x5).1).rows).getD i0 (default : GRow)).samples).length) (fun i1 j1 => ([.int .i64 (((((((foldV (⟨[], (x1 : Int)⟩ : GHead) x5).1).rows).getD i0 (default : GRow)).samples).getD i1 (default : GSample)).at_), .int .i64 (((((((foldV (⟨[], (x1 : Int)⟩ : GHead) x5).1).rows).getD i0 (default : GRow)).samples).getD i1 (default : GSample)).value)] : List AV).getD j1 (.con undef))] : List AV).getD j0 (.con undef)), .int .i64 (((foldV (⟨[], (x1 : Int)⟩ : GHead) x5).1).offset), .lst 1 (((foldV (⟨[], (x1 : Int)⟩ : GHead) x5).2.1).length) (fun i0 _ => .int .i64 (((foldV (⟨[], (x1 : Int)⟩ : GHead) x5).2.1).getD i0 0)), .bool ((foldV (⟨[], (x1 : Int)⟩ : GHead) x5).2.2)] : List AV).getD p (.con undef)) rfl (Nat.le_of_ble_eq_true rfl), .int, trivial⟩, rfl⟩)
      · have _u := True.intro
        replace hb30 := of_decide_eq_false hb30
        refine AW.skip ?_
        refine AW.seq ?_
        refine AW.region ?_
        refine ARun.pure (PureOp.loadPtrAgg rfl (.tmp rfl) vd3_ag_29_2 rfl rfl (Nat.le_of_ble_eq_true rfl) (Nat.le_of_ble_eq_true rfl)) rfl rfl (Nat.le_of_ble_eq_true rfl) ?_
        refine ARun.store rfl (.tmp rfl) (.tmp rfl) (SV.cells_of (by exact ⟨trivial, trivial, trivial⟩)) rfl (Nat.le_of_ble_eq_true rfl) vd3_sz_29_2 rfl rfl ?_
        refine ARun.nil ?_
        exact AW.ret (show ∃ x p' s' t, _ ∧ ResL _ _ [.cell 2 29] t ∧ _ ∧ _ from ⟨⟨(foldV (⟨[], (x1 : Int)⟩ : GHead) x5).1.rows, ((foldV (⟨[], (x1 : Int)⟩ : GHead) x5).1).offset⟩, p22, sd23, _, ⟨by omega, by omega, by omega⟩, .inl ⟨_, rfl, .cells rfl vd3_ag_29_2 rfl rfl (Nat.le_of_ble_eq_true rfl) (Nat.le_of_ble_eq_true rfl)⟩, ⟨.tre (X := fun p => ([.lst 2 ((((foldV (⟨[], (x1 : Int)⟩ : GHead) x5).1).rows).length) (fun i0 j0 => ([.str (((((foldV (⟨[], (x1 : Int)⟩ : GHead) x5).1).rows).getD i0 (default : GRow)).name), .lst 2 ((((((foldV (⟨[], (x1 : Int)⟩ : GHead) x5).1).rows).getD i0 (default : GRow)).samples).length) (fun i1 j1 => ([.int .i64 (((((((foldV (⟨[], (x1 : Int)⟩ : GHead) x5).1).rows).getD i0 (default : GRow)).samples).getD i1 (default : GSample)).at_), .int .i64 (((((((foldV (⟨[], (x1 : Int)⟩ : GHead) x5).1).rows).getD i0 (default : GRow)).samples).getD i1 (default : GSample)).value)] : List AV).getD j1 (.con undef))] : List AV).getD j0 (.con undef)), .int .i64 (((foldV (⟨[], (x1 : Int)⟩ : GHead) x5).1).offset), .lst 1 (((foldV (⟨[], (x1 : Int)⟩ : GHead) x5).2.1).length) (fun i0 _ => .int .i64 (((foldV (⟨[], (x1 : Int)⟩ : GHead) x5).2.1).getD i0 0)), .bool ((foldV (⟨[], (x1 : Int)⟩ : GHead) x5).2.2)] : List AV).getD p (.con undef)) rfl (Nat.le_of_ble_eq_true rfl), .int, trivial⟩, rfl⟩)
end Go.Proofs.Ytmfkmifkkplidaa


/-
  What is drawn for the law; comparisons of equal data.
-/
namespace Go.Proofs.Ytmfkmifkkplidaa
open Go.ChangeShapes Go.WideShapes Go.ChangeAt Go.RowKit Go.BigFrame Go.Deep
set_option linter.unusedVariables false
set_option linter.unusedSimpArgs false
theorem vde_ag_29_2 : aggB Try.prog 29 2 = true := by kernel_rfl
theorem vde_ag_47_3 : aggB Try.prog 47 3 = true := by kernel_rfl
theorem vde_ag_81_2 : aggB Try.prog 81 2 = true := by kernel_rfl
theorem vde_ca_64 : callB Try.prog 64 = true := by kernel_rfl
theorem vde_ca_65 : callB Try.prog 65 = true := by kernel_rfl
theorem vde_ca_66 : callB Try.prog 66 = true := by kernel_rfl
theorem vde_ca_67 : callB Try.prog 67 = true := by kernel_rfl
theorem vde_cv_5_3_.i64 : convB Try.prog 5 3 .i64 = true := by kernel_rfl
theorem vde_el_27_2 : elemB Try.prog 27 2 = true := by kernel_rfl
theorem vde_el_33_2 : elemB Try.prog 33 2 = true := by kernel_rfl
theorem vde_el_52_1 : elemB Try.prog 52 1 = true := by kernel_rfl
theorem vde_el_62_1 : elemB Try.prog 62 1 = true := by kernel_rfl
theorem vde_fi_29_0_0 : fieldB Try.prog 29 0 0 = true := by kernel_rfl
theorem vde_fi_29_1_1 : fieldB Try.prog 29 1 1 = true := by kernel_rfl
theorem vde_fi_67_0_0 : fieldB Try.prog 67 0 0 = true := by kernel_rfl
theorem vde_fi_67_1_1 : fieldB Try.prog 67 1 1 = true := by kernel_rfl
theorem vde_pl_27 : plainB Try.prog 27 = true := by kernel_rfl
theorem vde_pl_3 : plainB Try.prog 3 = true := by kernel_rfl
theorem vde_pl_33 : plainB Try.prog 33 = true := by kernel_rfl
theorem vde_pl_5 : plainB Try.prog 5 = true := by kernel_rfl
theorem vde_pl_9 : plainB Try.prog 9 = true := by kernel_rfl
theorem vde_sl_27 : sliceB Try.prog 27 = true := by kernel_rfl
theorem vde_sl_33 : sliceB Try.prog 33 = true := by kernel_rfl
theorem vde_sl_52 : sliceB Try.prog 52 = true := by kernel_rfl
theorem vde_sl_62 : sliceB Try.prog 62 = true := by kernel_rfl
theorem vde_sz_29_2 : sizeB Try.prog 29 2 = true := by kernel_rfl
theorem vde_sz_47_3 : sizeB Try.prog 47 3 = true := by kernel_rfl
theorem v_DrawFoldSays (n : Nat) (F : Nat → Nat) (hF : ∀ i, F i < 256) : FnE Try.prog 36 [.one (.lst 1 n (fun i _ => .int .u8 ((F i : Nat) : Int)))] (fun (x : GHead × List GSay) => x.2.length ≤ 61) (fun (x : GHead × List GSay) => .tup2 (.agg [.lst 2 x.1.rows.length (fun i0 j0 => ([.str ((x.1.rows.getD i0 (default : GRow)).name), .lst 2 (((x.1.rows.getD i0 (default : GRow)).samples).length) (fun i1 j1 => ([.int .i64 ((((x.1.rows.getD i0 (default : GRow)).samples).getD i1 (default : GSample)).at_), .int .i64 ((((x.1.rows.getD i0 (default : GRow)).samples).getD i1 (default : GSample)).value)] : List AV).getD j1 (.con undef))] : List AV).getD j0 (.con undef)), .int .i64 x.1.offset]) (.one (.lst 3 x.2.length (fun i0 j0 => ([.str ((x.2.getD i0 (default : GSay)).name), .int .i64 ((x.2.getD i0 (default : GSay)).at_), .int .i64 ((x.2.getD i0 (default : GSay)).value)] : List AV).getD j0 (.con undef))))) := by
  refine FnE.of_body (fn := Try.f36) Try.func36 rfl (Nat.le_of_ble_eq_true rfl) ?_
  intro w0
  show AW _ 12 _ _ _ _
  refine AW.cv (t := 0) rfl (fun c0 => ?_)
  refine AW.seq ?_
  refine AW.region ?_
  refine ARun.alloc (id := 0) (l := [.con (.slice none 0 0), .int .i64 0]) (z := (.agg #[.slice none 0 0, .int .i64 0])) rfl (by kernel_rfl) (fun _ _ _ => ⟨_, _, rfl, rfl, ⟨_, _, rfl, rfl, rfl⟩⟩) ⟨rfl, (by repeat first | exact trivial | refine ⟨by decide, by first | rfl | exact trivial | (intro i j; first | rfl | exact getD_no rfl | (dsimp only; split <;> first | rfl | exact getD_no rfl) | exact scl_no (by apply_assumption) _), ?_⟩)⟩ rfl rfl rfl (Nat.le_of_ble_eq_true rfl) ?_
  refine ARun.pure (PureOp.assign rfl .con) rfl rfl (Nat.le_of_ble_eq_true rfl) ?_
  refine ARun.nil ?_
  refine AW.seq ?_
  refine AW.region ?_
  refine ARun.pure (PureOp.move rfl (.tmp rfl)) rfl rfl (Nat.le_of_ble_eq_true rfl) ?_
  refine ARun.pure (PureOp.build (ys := [.cv c0 (.lst 1 n (fun i _ => .int .u8 ((F i : Nat) : Int)))]) (l := [.con (.slice none 0 0), .int .i64 0, .int .u64 0]) (pl := [(0, 1), (1, 1), (2, 1)]) (z := (.agg #[.slice none 0 0, .int .i64 0, .int .u64 0])) rfl (by kernel_rfl) (by kernel_rfl) (fun _ _ _ => ⟨_, _, rfl, rfl, ⟨_, _, rfl, rfl, ⟨_, _, rfl, rfl, rfl⟩⟩⟩) ⟨(.tmp rfl), trivial, rfl, trivial⟩ rfl) rfl rfl (Nat.le_of_ble_eq_true rfl) ?_
  refine ARun.box (id := 1) rfl (.tmp rfl) (SV.cells_of (by exact ⟨trivial, trivial, trivial, trivial⟩)) ⟨rfl, (by repeat first | exact trivial | refine ⟨by decide, by first | rfl | exact trivial | (intro i j; first | rfl | exact getD_no rfl | (dsimp only; split <;> first | rfl | exact getD_no rfl) | exact scl_no (by apply_assumption) _), ?_⟩)⟩ rfl rfl rfl (Nat.le_of_ble_eq_true rfl) ?_
  refine ARun.pure (PureOp.assign rfl (.tmp rfl)) rfl rfl (Nat.le_of_ble_eq_true rfl) ?_
  refine ARun.nil ?_
  refine AW.seq ?_
  refine AW.region ?_
  refine ARun.pure (PureOp.move rfl (.tmp rfl)) rfl rfl (Nat.le_of_ble_eq_true rfl) ?_
  refine ARun.cur (id := 1) rfl (v_Head n F hF 0 0 (by omega) (by omega)) vde_ca_64 ⟨.inr (.tmp rfl), trivial⟩ rfl rfl rfl (Nat.le_of_ble_eq_true rfl) (fun x1 p2 sd3 hc4 => ?_)
  have hc4c := hc4
  obtain ⟨hc41, hc42, hc43⟩ := hc4c
  refine ARun.pure (PureOp.move rfl (.tmp rfl)) rfl rfl (Nat.le_of_ble_eq_true rfl) ?_
  refine ARun.cur (id := 1) rfl (v_Says n F hF p2 sd3 (by omega) (by omega)) vde_ca_65 ⟨.inr (.tmp rfl), trivial⟩ rfl rfl rfl (Nat.le_of_ble_eq_true rfl) (fun x5 p6 sd7 hc8 => ?_)
  obtain ⟨hc8x, hc8c⟩ := hc8
  obtain ⟨hc81, hc82, hc83⟩ := hc8c
  refine ARun.store rfl (.tmp rfl) (.tmp rfl) (SV.cells_of (by exact ⟨trivial, trivial, trivial⟩)) rfl (Nat.le_of_ble_eq_true rfl) vde_sz_29_2 rfl rfl ?_
  refine ARun.pure (PureOp.assign rfl (.tmp rfl)) rfl rfl (Nat.le_of_ble_eq_true rfl) ?_
  refine ARun.nil ?_
  exact AW.ret (show ∃ x s, _ ∧ ResL _ _ [.cell 2 29, .tmp 3] s ∧ FvS _ s _ from ⟨⟨x1, x5⟩, _, hc8x, .inr (.inl ⟨_, _, _, _, rfl, .cells rfl vde_ag_29_2 rfl rfl (Nat.le_of_ble_eq_true rfl) (Nat.le_of_ble_eq_true rfl), .tmp rfl, rfl⟩), ⟨⟨.frs, .int, trivial⟩, .frs⟩⟩)

theorem v_DrawTakeSay (n : Nat) (F : Nat → Nat) (hF : ∀ i, F i < 256) : FnE Try.prog 40 [.one (.lst 1 n (fun i _ => .int .u8 ((F i : Nat) : Int)))] (fun (x : GHead × GSay) => True) (fun (x : GHead × GSay) => .tup2 (.agg [.lst 2 x.1.rows.length (fun i0 j0 => ([.str ((x.1.rows.getD i0 (default : GRow)).name), .lst 2 (((x.1.rows.getD i0 (default : GRow)).samples).length) (fun i1 j1 => ([.int .i64 ((((x.1.rows.getD i0 (default : GRow)).samples).getD i1 (default : GSample)).at_), .int .i64 ((((x.1.rows.getD i0 (default : GRow)).samples).getD i1 (default : GSample)).value)] : List AV).getD j1 (.con undef))] : List AV).getD j0 (.con undef)), .int .i64 x.1.offset]) (.agg [.str x.2.name, .int .i64 x.2.at_, .int .i64 x.2.value])) := by
  refine FnE.of_body (fn := Try.f40) Try.func40 rfl (Nat.le_of_ble_eq_true rfl) ?_
  intro w0
  show AW _ 12 _ _ _ _
  refine AW.cv (t := 0) rfl (fun c0 => ?_)
  refine AW.seq ?_
  refine AW.region ?_
  refine ARun.alloc (id := 0) (l := [.con (.slice none 0 0), .int .i64 0]) (z := (.agg #[.slice none 0 0, .int .i64 0])) rfl (by kernel_rfl) (fun _ _ _ => ⟨_, _, rfl, rfl, ⟨_, _, rfl, rfl, rfl⟩⟩) ⟨rfl, (by repeat first | exact trivial | refine ⟨by decide, by first | rfl | exact trivial | (intro i j; first | rfl | exact getD_no rfl | (dsimp only; split <;> first | rfl | exact getD_no rfl) | exact scl_no (by apply_assumption) _), ?_⟩)⟩ rfl rfl rfl (Nat.le_of_ble_eq_true rfl) ?_
  refine ARun.alloc (id := 1) (l := [.str ByteArray.empty, .int .i64 0, .int .i64 0]) (z := (.agg #[.string ByteArray.empty, .int .i64 0, .int .i64 0])) rfl (by kernel_rfl) (fun _ _ _ => ⟨_, _, rfl, ⟨rfl, by decide⟩, ⟨_, _, rfl, rfl, ⟨_, _, rfl, rfl, rfl⟩⟩⟩) ⟨rfl, (by repeat first | exact trivial | refine ⟨by decide, by first | rfl | exact trivial | (intro i j; first | rfl | exact getD_no rfl | (dsimp only; split <;> first | rfl | exact getD_no rfl) | exact scl_no (by apply_assumption) _), ?_⟩)⟩ rfl rfl rfl (Nat.le_of_ble_eq_true rfl) ?_
  refine ARun.nil ?_
  refine AW.seq ?_
  refine AW.region ?_
  refine ARun.pure (PureOp.move rfl (.tmp rfl)) rfl rfl (Nat.le_of_ble_eq_true rfl) ?_
  refine ARun.pure (PureOp.build (ys := [.cv c0 (.lst 1 n (fun i _ => .int .u8 ((F i : Nat) : Int)))]) (l := [.con (.slice none 0 0), .int .i64 0, .int .u64 0]) (pl := [(0, 1), (1, 1), (2, 1)]) (z := (.agg #[.slice none 0 0, .int .i64 0, .int .u64 0])) rfl (by kernel_rfl) (by kernel_rfl) (fun _ _ _ => ⟨_, _, rfl, rfl, ⟨_, _, rfl, rfl, ⟨_, _, rfl, rfl, rfl⟩⟩⟩) ⟨(.tmp rfl), trivial, rfl, trivial⟩ rfl) rfl rfl (Nat.le_of_ble_eq_true rfl) ?_
  refine ARun.box (id := 2) rfl (.tmp rfl) (SV.cells_of (by exact ⟨trivial, trivial, trivial, trivial⟩)) ⟨rfl, (by repeat first | exact trivial | refine ⟨by decide, by first | rfl | exact trivial | (intro i j; first | rfl | exact getD_no rfl | (dsimp only; split <;> first | rfl | exact getD_no rfl) | exact scl_no (by apply_assumption) _), ?_⟩)⟩ rfl rfl rfl (Nat.le_of_ble_eq_true rfl) ?_
  refine ARun.pure (PureOp.assign rfl (.tmp rfl)) rfl rfl (Nat.le_of_ble_eq_true rfl) ?_
  refine ARun.nil ?_
  refine AW.seq ?_
  refine AW.region ?_
  refine ARun.pure (PureOp.move rfl (.tmp rfl)) rfl rfl (Nat.le_of_ble_eq_true rfl) ?_
  refine ARun.cur (id := 2) rfl (v_Head n F hF 0 0 (by omega) (by omega)) vde_ca_64 ⟨.inr (.tmp rfl), trivial⟩ rfl rfl rfl (Nat.le_of_ble_eq_true rfl) (fun x1 p2 sd3 hc4 => ?_)
  have hc4c := hc4
  obtain ⟨hc41, hc42, hc43⟩ := hc4c
  refine ARun.pure (PureOp.move rfl (.tmp rfl)) rfl rfl (Nat.le_of_ble_eq_true rfl) ?_
  refine ARun.cur (id := 2) rfl (v_Say n F hF p2 sd3 (by omega) (by omega)) vde_ca_67 ⟨.inr (.tmp rfl), trivial⟩ rfl rfl rfl (Nat.le_of_ble_eq_true rfl) (fun x5 p6 sd7 hc8 => ?_)
  have hc8c := hc8
  obtain ⟨hc81, hc82, hc83⟩ := hc8c
  refine ARun.store rfl (.tmp rfl) (.tmp rfl) (SV.cells_of (by exact ⟨trivial, trivial, trivial⟩)) rfl (Nat.le_of_ble_eq_true rfl) vde_sz_29_2 rfl rfl ?_
  refine ARun.store rfl (.tmp rfl) (.tmp rfl) (SV.cells_of (by exact ⟨trivial, trivial, trivial, trivial⟩)) rfl (Nat.le_of_ble_eq_true rfl) vde_sz_47_3 rfl rfl ?_
  refine ARun.nil ?_
  exact AW.ret (show ∃ x s, _ ∧ ResL _ _ [.cell 2 29, .cell 3 47] s ∧ FvS _ s _ from ⟨⟨x1, x5⟩, _, trivial, .inr (.inl ⟨_, _, _, _, rfl, .cells rfl vde_ag_29_2 rfl rfl (Nat.le_of_ble_eq_true rfl) (Nat.le_of_ble_eq_true rfl), .cells rfl vde_ag_47_3 rfl rfl (Nat.le_of_ble_eq_true rfl) (Nat.le_of_ble_eq_true rfl), rfl⟩), ⟨⟨.frs, .int, trivial⟩, ⟨.str, .int, .int, trivial⟩⟩⟩)

def numTo (l : List UInt8) : Nat → Nat
  | 0 => 0
  | k + 1 => (31 * numTo l k + (l.getD k 0).toNat) % 1000003
theorem numTo_lt (l : List UInt8) : ∀ k, numTo l k < 1000003
  | 0 => by show 0 < 1000003; decide
  | k + 1 => Nat.mod_lt _ (by decide)
def kOf (l : List UInt8) (n : Nat) : Nat := numTo l l.length % (n + 1)
theorem kOf_le (l : List UInt8) (n : Nat) : kOf l n ≤ n := by have := Nat.mod_lt (numTo l l.length) (show 0 < n + 1 by omega); unfold kOf; omega
theorem v_numberOf (l : List UInt8) : Fn Try.prog 39 [.one (.lst 1 l.length (fun i0 _ => .int .u8 (((l.getD i0 0).toNat : Nat) : Int)))] (.one (.int .i64 (((numTo l l.length) : Nat) : Int))) := by
  refine Fn.of_body (fn := Try.f39) Try.func39 rfl (Nat.le_of_ble_eq_true rfl) trivial ?_
  intro w0
  show AW _ 20 _ _ _ _
  refine AW.bound (t := 0) rfl fun hx => ?_
  refine AW.seq ?_
  refine AW.region ?_
  refine ARun.pure (PureOp.assign rfl .int) rfl rfl (Nat.le_of_ble_eq_true rfl) ?_
  refine ARun.nil ?_
  refine AW.seq ?_
  refine AW.region ?_
  refine ARun.pure (PureOp.assign rfl .int) rfl rfl (Nat.le_of_ble_eq_true rfl) ?_
  refine ARun.nil ?_
  refine AW.seq ?_
  refine AW.seq ?_
  refine AW.region ?_
  refine ARun.pure (PureOp.move rfl (.tmp rfl)) rfl rfl (Nat.le_of_ble_eq_true rfl) ?_
  refine ARun.pure (PureOp.lenLst rfl (.tmp rfl) vde_sl_62) rfl rfl (Nat.le_of_ble_eq_true rfl) ?_
  refine ARun.pure (PureOp.move rfl .int) rfl rfl (Nat.le_of_ble_eq_true rfl) ?_
  refine ARun.nil ?_
  refine AW.block ?_
  refine AW.loop (ι := Nat) (fun k => ⟨[(3, .one (.int .i64 (((numTo l k) : Nat) : Int))), (6, .one (.lst 1 l.length (fun i0 _ => .int .u8 (((l.getD i0 0).toNat : Nat) : Int)))), (7, .one (.int .i64 (l.length : Int))), (8, .one (.int .i64 (k : Int)))], []⟩) (fun k => k ≤ l.length) (fun k => l.length - k) 0 (Nat.zero_le _) ⟨⟨⟨_, rfl, rfl⟩, ⟨_, rfl, rfl⟩, ⟨_, rfl, rfl⟩, ⟨_, rfl, rfl⟩, trivial⟩, trivial⟩ ?_
  intro k hk
  have hnt := numTo_lt l k
  refine AW.seq ?_
  refine AW.region ?_
  refine ARun.pure (PureOp.intOp rfl (.tmp rfl) (.tmp rfl) rfl) rfl rfl (Nat.le_of_ble_eq_true rfl) ?_
  refine ARun.nil ?_
  refine AW.seq ?_
  refine AW.cond (.tmp rfl) (fun hb1 => ?_) (fun hb1 => ?_)
  · have _u := True.intro
    replace hb1 := of_decide_eq_true hb1
    have hkl : k < l.length := by omega
    have hu := UInt8.toNat_lt (l.getD k 0)
    refine AW.skip ?_
    refine AW.seq ?_
    refine AW.block ?_
    refine AW.seq ?_
    refine AW.region ?_
    refine ARun.pure (PureOp.indexLst (i := k) rfl (.tmp rfl) vde_el_62_1 (.tmp rfl) rfl (by omega)) rfl rfl (Nat.le_of_ble_eq_true rfl) ?_
    refine ARun.pure (PureOp.loadRef rfl (.tmp rfl) vde_pl_5 (Nat.le_of_ble_eq_true rfl)) rfl rfl (Nat.le_of_ble_eq_true rfl) ?_
    refine ARun.pure (PureOp.assign rfl (.tmp rfl)) rfl rfl (Nat.le_of_ble_eq_true rfl) ?_
    refine ARun.nil ?_
    refine AW.region ?_
    refine ARun.pure (PureOp.move rfl (.tmp rfl)) rfl rfl (Nat.le_of_ble_eq_true rfl) ?_
    refine ARun.pure (PureOp.mul (c := ((31 * (numTo l k) : Nat) : Int)) rfl .int (.tmp rfl) (by rw [wrap_id (by omega) (by omega)]; omega)) rfl rfl (Nat.le_of_ble_eq_true rfl) ?_
    refine ARun.pure (PureOp.move rfl (.tmp rfl)) rfl rfl (Nat.le_of_ble_eq_true rfl) ?_
    refine ARun.pure (PureOp.conv (b := (((l.getD k 0).toNat : Nat) : Int)) rfl (.tmp rfl) vde_cv_5_3_.i64 (wrap_id (by have := UInt8.toNat_lt (l.getD k 0); omega) (by have := UInt8.toNat_lt (l.getD k 0); omega))) rfl rfl (Nat.le_of_ble_eq_true rfl) ?_
    refine ARun.pure (PureOp.add (c := ((31 * (numTo l k) + ((l.getD k 0).toNat) : Nat) : Int)) rfl (.tmp rfl) (.tmp rfl) (by have hu := UInt8.toNat_lt (l.getD k 0); rw [wrap_id (by omega) (by omega)]; omega)) rfl rfl (Nat.le_of_ble_eq_true rfl) ?_
    refine ARun.pure (PureOp.rem (a := 31 * (numTo l k) + ((l.getD k 0).toNat)) (b := 1000003) rfl (.tmp rfl) .int rfl (by decide) (by omega)) rfl rfl (Nat.le_of_ble_eq_true rfl) ?_
    refine ARun.pure (PureOp.assign rfl (.tmp rfl)) rfl rfl (Nat.le_of_ble_eq_true rfl) ?_
    refine ARun.nil ?_
    refine AW.region ?_
    refine ARun.pure (PureOp.add (c := ((k + 1 : Nat) : Int)) rfl (.tmp rfl) .int (by rw [wrap_id (by omega) (by omega)]; omega)) rfl rfl (Nat.le_of_ble_eq_true rfl) ?_
    refine ARun.pure (PureOp.move rfl (.tmp rfl)) rfl rfl (Nat.le_of_ble_eq_true rfl) ?_
    refine ARun.nil ?_
    exact ⟨k + 1, by omega, by dsimp only; omega, ⟨⟨⟨_, rfl, rfl⟩, ⟨_, rfl, rfl⟩, ⟨_, rfl, rfl⟩, ⟨_, rfl, rfl⟩, trivial⟩, trivial⟩⟩
  · have _u := True.intro
    replace hb1 := of_decide_eq_false hb1
    have hkl : ¬ k < l.length := by omega
    have hu := UInt8.toNat_lt (l.getD k 0)
    have hke : k = l.length := by omega
    refine AW.exit ?_
    refine AW.seq ?_
    refine AW.region ?_
    refine ARun.pure (PureOp.move rfl (.tmp rfl)) rfl rfl (Nat.le_of_ble_eq_true rfl) ?_
    refine ARun.pure (PureOp.assign rfl (.tmp rfl)) rfl rfl (Nat.le_of_ble_eq_true rfl) ?_
    refine ARun.nil ?_
    refine AW.ret (show ResL _ _ [.tmp 2] _ from resI rfl ?_)
    rw [hke]

theorem eqGuardSample : Try.prog.eqGuardType Try.prog.depth 81 = false := by kernel_rfl
theorem equalSample (e f : GSample) (r : Bool) (hr : decide (e = f) = r) (w : World) :
    (Op.equalIn 10000 81 (.agg #[.int .i64 e.at_, .int .i64 e.value]) (.agg #[.int .i64 f.at_, .int .i64 f.value])).run Try.prog w = .ok r w := by
  subst hr
  have u3 := Try.underlying3
  have a3 := Try.isAgg3
  have z3 := Try.sizeOf3
  have hS : Try.prog.underlying 81 = some (.struct (Try.prog.fieldsOf 81)) := by kernel_rfl
  have hp : Try.prog.stoodInHeld 81 = false := by kernel_rfl
  rw [show (10000 : Nat) = 9999 + 1 from rfl, run_equalIn_agg w 9999 81 _ _ hS hp]
  simp only [Program.fieldsOf, Try.underlying81]
  obtain ⟨n, s⟩ := e
  obtain ⟨m, t⟩ := f
  go_simp
  by_cases h1 : n = m <;> by_cases h2 : s = t <;> simp [h1, h2]
theorem v_sameInts0 (l : List Int) : Fn Try.prog 38 [.one (.lst 1 l.length (fun i0 _ => .int .i64 (l.getD i0 0))), .one (.lst 1 l.length (fun i0 _ => .int .i64 (l.getD i0 0)))] (.one (.bool true)) := by
  refine Fn.of_body (fn := Try.f38) Try.func38 rfl (Nat.le_of_ble_eq_true rfl) trivial ?_
  intro w0
  show AW _ 26 _ _ _ _
  refine AW.bound (t := 0) rfl fun hx => ?_
  refine AW.seq ?_
  refine AW.region ?_
  refine ARun.pure (PureOp.assign rfl .bool) rfl rfl (Nat.le_of_ble_eq_true rfl) ?_
  refine ARun.nil ?_
  refine AW.seq ?_
  refine AW.seq ?_
  refine AW.region ?_
  refine ARun.pure (PureOp.move rfl (.tmp rfl)) rfl rfl (Nat.le_of_ble_eq_true rfl) ?_
  refine ARun.pure (PureOp.lenLst rfl (.tmp rfl) vde_sl_52) rfl rfl (Nat.le_of_ble_eq_true rfl) ?_
  refine ARun.pure (PureOp.move rfl (.tmp rfl)) rfl rfl (Nat.le_of_ble_eq_true rfl) ?_
  refine ARun.pure (PureOp.lenLst rfl (.tmp rfl) vde_sl_52) rfl rfl (Nat.le_of_ble_eq_true rfl) ?_
  refine ARun.pure (PureOp.intOp rfl (.tmp rfl) (.tmp rfl) rfl) rfl rfl (Nat.le_of_ble_eq_true rfl) ?_
  refine ARun.nil ?_
  refine AW.cond (.tmp rfl) (fun hb1 => ?_) (fun hb1 => ?_)
  · have _u := True.intro
    exact absurd (show (!decide ((l.length : Int) = (l.length : Int))) = false by simp) (by rw [hb1]; simp)
    --end
  · have _u := True.intro
    have _h := hb1
    refine AW.skip ?_
    refine AW.seq ?_
    refine AW.seq ?_
    refine AW.region ?_
    refine ARun.pure (PureOp.move rfl (.tmp rfl)) rfl rfl (Nat.le_of_ble_eq_true rfl) ?_
    refine ARun.pure (PureOp.lenLst rfl (.tmp rfl) vde_sl_52) rfl rfl (Nat.le_of_ble_eq_true rfl) ?_
    refine ARun.pure (PureOp.move rfl .int) rfl rfl (Nat.le_of_ble_eq_true rfl) ?_
    refine ARun.nil ?_
    refine AW.block ?_
    refine AW.loop (ι := Nat) (fun k => ⟨[(0, .one (.lst 1 l.length (fun i0 _ => .int .i64 (l.getD i0 0)))), (1, .one (.lst 1 l.length (fun i0 _ => .int .i64 (l.getD i0 0)))), (12, .one (.int .i64 (l.length : Int))), (13, .one (.int .i64 (k : Int)))], []⟩) (fun k => k ≤ l.length) (fun k => l.length - k) 0 (Nat.zero_le _) ⟨⟨⟨_, rfl, rfl⟩, ⟨_, rfl, rfl⟩, ⟨_, rfl, rfl⟩, ⟨_, rfl, rfl⟩, trivial⟩, trivial⟩ ?_
    intro k hk
    refine AW.seq ?_
    refine AW.region ?_
    refine ARun.pure (PureOp.intOp rfl (.tmp rfl) (.tmp rfl) rfl) rfl rfl (Nat.le_of_ble_eq_true rfl) ?_
    refine ARun.nil ?_
    refine AW.seq ?_
    refine AW.cond (.tmp rfl) (fun hb2 => ?_) (fun hb2 => ?_)
    · have _u := True.intro
      replace hb2 := of_decide_eq_true hb2
      have hkl : k < l.length := by omega
      refine AW.skip ?_
      refine AW.seq ?_
      refine AW.block ?_
      refine AW.seq ?_
      refine AW.region ?_
      refine ARun.pure (PureOp.move rfl (.tmp rfl)) rfl rfl (Nat.le_of_ble_eq_true rfl) ?_
      refine ARun.pure (PureOp.assign rfl (.tmp rfl)) rfl rfl (Nat.le_of_ble_eq_true rfl) ?_
      refine ARun.nil ?_
      refine AW.seq ?_
      refine AW.any (by kernel_rfl) (by kernel_rfl) ?_
      refine AD.pure (PureOp.move rfl (.tmp rfl)) rfl rfl (Nat.le_of_ble_eq_true rfl) ?_
      refine AD.pure (PureOp.move rfl (.tmp rfl)) rfl rfl (Nat.le_of_ble_eq_true rfl) ?_
      refine AD.pure (PureOp.indexLst (i := k) rfl (.tmp rfl) vde_el_52_1 (.tmp rfl) rfl (by omega)) rfl rfl (Nat.le_of_ble_eq_true rfl) ?_
      refine AD.pure (PureOp.loadRef rfl (.tmp rfl) vde_pl_3 (Nat.le_of_ble_eq_true rfl)) rfl rfl (Nat.le_of_ble_eq_true rfl) ?_
      refine AD.pure (PureOp.move rfl (.tmp rfl)) rfl rfl (Nat.le_of_ble_eq_true rfl) ?_
      refine AD.pure (PureOp.move rfl (.tmp rfl)) rfl rfl (Nat.le_of_ble_eq_true rfl) ?_
      refine AD.pure (PureOp.indexLst (i := k) rfl (.tmp rfl) vde_el_52_1 (.tmp rfl) rfl (by omega)) rfl rfl (Nat.le_of_ble_eq_true rfl) ?_
      refine AD.pure (PureOp.loadRef rfl (.tmp rfl) vde_pl_3 (Nat.le_of_ble_eq_true rfl)) rfl rfl (Nat.le_of_ble_eq_true rfl) ?_
      refine AD.pure (PureOp.intOp rfl (.tmp rfl) (.tmp rfl) rfl) rfl rfl (Nat.le_of_ble_eq_true rfl) ?_
      refine AD.nil ?_
      refine AW.cond (.tmp rfl) (fun hb3 => ?_) (fun hb3 => ?_)
      · have _u := True.intro
        exact absurd (show (!decide ((l.getD k 0) = (l.getD k 0))) = false by simp) (by rw [hb3]; simp)
        --end
      · have _u := True.intro
        have _h := hb3
        refine AW.skip ?_
        refine AW.region ?_
        refine ARun.pure (PureOp.add (c := ((k + 1 : Nat) : Int)) rfl (.tmp rfl) .int (by rw [wrap_id (by omega) (by omega)]; omega)) rfl rfl (Nat.le_of_ble_eq_true rfl) ?_
        refine ARun.pure (PureOp.move rfl (.tmp rfl)) rfl rfl (Nat.le_of_ble_eq_true rfl) ?_
        refine ARun.nil ?_
        exact ⟨k + 1, by omega, by dsimp only; omega, ⟨⟨⟨_, rfl, rfl⟩, ⟨_, rfl, rfl⟩, ⟨_, rfl, rfl⟩, ⟨_, rfl, rfl⟩, trivial⟩, trivial⟩⟩
    · have _u := True.intro
      replace hb2 := of_decide_eq_false hb2
      have hkl : ¬ k < l.length := by omega
      refine AW.exit ?_
      refine AW.seq ?_
      refine AW.region ?_
      refine ARun.pure (PureOp.assign rfl .bool) rfl rfl (Nat.le_of_ble_eq_true rfl) ?_
      refine ARun.nil ?_
      refine AW.ret (show ResL _ _ [.tmp 4] _ from resB rfl ?_)
      rfl

theorem v_sameSmp (l : List GSample) : Fn Try.prog 66 [.one (.lst 2 l.length (fun i0 j0 => ([.int .i64 ((l.getD i0 (default : GSample)).at_), .int .i64 ((l.getD i0 (default : GSample)).value)] : List AV).getD j0 (.con undef))), .one (.lst 2 l.length (fun i0 j0 => ([.int .i64 ((l.getD i0 (default : GSample)).at_), .int .i64 ((l.getD i0 (default : GSample)).value)] : List AV).getD j0 (.con undef)))] (.one (.bool true)) := by
  refine Fn.of_body (fn := Try.f66) Try.func66 rfl (Nat.le_of_ble_eq_true rfl) trivial ?_
  intro w0
  show AW _ 26 _ _ _ _
  refine AW.bound (t := 0) rfl fun hx => ?_
  refine AW.seq ?_
  refine AW.region ?_
  refine ARun.pure (PureOp.assign rfl .bool) rfl rfl (Nat.le_of_ble_eq_true rfl) ?_
  refine ARun.nil ?_
  refine AW.seq ?_
  refine AW.seq ?_
  refine AW.region ?_
  refine ARun.pure (PureOp.move rfl (.tmp rfl)) rfl rfl (Nat.le_of_ble_eq_true rfl) ?_
  refine ARun.pure (PureOp.lenLst rfl (.tmp rfl) vde_sl_33) rfl rfl (Nat.le_of_ble_eq_true rfl) ?_
  refine ARun.pure (PureOp.move rfl (.tmp rfl)) rfl rfl (Nat.le_of_ble_eq_true rfl) ?_
  refine ARun.pure (PureOp.lenLst rfl (.tmp rfl) vde_sl_33) rfl rfl (Nat.le_of_ble_eq_true rfl) ?_
  refine ARun.pure (PureOp.intOp rfl (.tmp rfl) (.tmp rfl) rfl) rfl rfl (Nat.le_of_ble_eq_true rfl) ?_
  refine ARun.nil ?_
  refine AW.cond (.tmp rfl) (fun hb1 => ?_) (fun hb1 => ?_)
  · have _u := True.intro
    exact absurd (show (!decide ((l.length : Int) = (l.length : Int))) = false by simp) (by rw [hb1]; simp)
    --end
  · have _u := True.intro
    have _h := hb1
    refine AW.skip ?_
    refine AW.seq ?_
    refine AW.seq ?_
    refine AW.region ?_
    refine ARun.pure (PureOp.move rfl (.tmp rfl)) rfl rfl (Nat.le_of_ble_eq_true rfl) ?_
    refine ARun.pure (PureOp.lenLst rfl (.tmp rfl) vde_sl_33) rfl rfl (Nat.le_of_ble_eq_true rfl) ?_
    refine ARun.pure (PureOp.move rfl .int) rfl rfl (Nat.le_of_ble_eq_true rfl) ?_
    refine ARun.nil ?_
    refine AW.block ?_
    refine AW.loop (ι := Nat) (fun k => ⟨[(0, .one (.lst 2 l.length (fun i0 j0 => ([.int .i64 ((l.getD i0 (default : GSample)).at_), .int .i64 ((l.getD i0 (default : GSample)).value)] : List AV).getD j0 (.con undef)))), (1, .one (.lst 2 l.length (fun i0 j0 => ([.int .i64 ((l.getD i0 (default : GSample)).at_), .int .i64 ((l.getD i0 (default : GSample)).value)] : List AV).getD j0 (.con undef)))), (12, .one (.int .i64 (l.length : Int))), (13, .one (.int .i64 (k : Int)))], []⟩) (fun k => k ≤ l.length) (fun k => l.length - k) 0 (Nat.zero_le _) ⟨⟨⟨_, rfl, rfl⟩, ⟨_, rfl, rfl⟩, ⟨_, rfl, rfl⟩, ⟨_, rfl, rfl⟩, trivial⟩, trivial⟩ ?_
    intro k hk
    refine AW.seq ?_
    refine AW.region ?_
    refine ARun.pure (PureOp.intOp rfl (.tmp rfl) (.tmp rfl) rfl) rfl rfl (Nat.le_of_ble_eq_true rfl) ?_
    refine ARun.nil ?_
    refine AW.seq ?_
    refine AW.cond (.tmp rfl) (fun hb2 => ?_) (fun hb2 => ?_)
    · have _u := True.intro
      replace hb2 := of_decide_eq_true hb2
      have hkl : k < l.length := by omega
      refine AW.skip ?_
      refine AW.seq ?_
      refine AW.block ?_
      refine AW.seq ?_
      refine AW.region ?_
      refine ARun.pure (PureOp.move rfl (.tmp rfl)) rfl rfl (Nat.le_of_ble_eq_true rfl) ?_
      refine ARun.pure (PureOp.assign rfl (.tmp rfl)) rfl rfl (Nat.le_of_ble_eq_true rfl) ?_
      refine ARun.nil ?_
      refine AW.seq ?_
      refine AW.any (by kernel_rfl) (by kernel_rfl) ?_
      refine AD.pure (PureOp.move rfl (.tmp rfl)) rfl rfl (Nat.le_of_ble_eq_true rfl) ?_
      refine AD.pure (PureOp.move rfl (.tmp rfl)) rfl rfl (Nat.le_of_ble_eq_true rfl) ?_
      refine AD.pure (PureOp.indexLst (i := k) rfl (.tmp rfl) vde_el_33_2 (.tmp rfl) rfl (by omega)) rfl rfl (Nat.le_of_ble_eq_true rfl) ?_
      refine AD.pure (PureOp.loadRefAgg rfl (.tmp rfl) vde_ag_81_2 (Nat.le_of_ble_eq_true rfl)) rfl rfl (Nat.le_of_ble_eq_true rfl) ?_
      refine AD.pure (PureOp.move rfl (.tmp rfl)) rfl rfl (Nat.le_of_ble_eq_true rfl) ?_
      refine AD.pure (PureOp.move rfl (.tmp rfl)) rfl rfl (Nat.le_of_ble_eq_true rfl) ?_
      refine AD.pure (PureOp.indexLst (i := k) rfl (.tmp rfl) vde_el_33_2 (.tmp rfl) rfl (by omega)) rfl rfl (Nat.le_of_ble_eq_true rfl) ?_
      refine AD.pure (PureOp.loadRefAgg rfl (.tmp rfl) vde_ag_81_2 (Nat.le_of_ble_eq_true rfl)) rfl rfl (Nat.le_of_ble_eq_true rfl) ?_
      refine AD.pure (PureOp.neAgg rfl (.tmp rfl) (.tmp rfl) rfl rfl eqGuardSample (fun w_ => equalSample (l.getD k (default : GSample)) (l.getD k (default : GSample)) _ rfl w_)) rfl rfl (Nat.le_of_ble_eq_true rfl) ?_
      refine AD.nil ?_
      refine AW.cond (.tmp rfl) (fun hb3 => ?_) (fun hb3 => ?_)
      · have _u := True.intro
        exact absurd (show (!(decide ((l.getD k (default : GSample)) = (l.getD k (default : GSample))))) = false by simp) (by rw [hb3]; simp)
        --end
      · have _u := True.intro
        have _h := hb3
        refine AW.skip ?_
        refine AW.region ?_
        refine ARun.pure (PureOp.add (c := ((k + 1 : Nat) : Int)) rfl (.tmp rfl) .int (by rw [wrap_id (by omega) (by omega)]; omega)) rfl rfl (Nat.le_of_ble_eq_true rfl) ?_
        refine ARun.pure (PureOp.move rfl (.tmp rfl)) rfl rfl (Nat.le_of_ble_eq_true rfl) ?_
        refine ARun.nil ?_
        exact ⟨k + 1, by omega, by dsimp only; omega, ⟨⟨⟨_, rfl, rfl⟩, ⟨_, rfl, rfl⟩, ⟨_, rfl, rfl⟩, ⟨_, rfl, rfl⟩, trivial⟩, trivial⟩⟩
    · have _u := True.intro
      replace hb2 := of_decide_eq_false hb2
      have hkl : ¬ k < l.length := by omega
      refine AW.exit ?_
      refine AW.seq ?_
      refine AW.region ?_
      refine ARun.pure (PureOp.assign rfl .bool) rfl rfl (Nat.le_of_ble_eq_true rfl) ?_
      refine ARun.nil ?_
      refine AW.ret (show ResL _ _ [.tmp 4] _ from resB rfl ?_)
      rfl

theorem v_sameHeads (h : GHead) : Fn Try.prog 37 [.agg [.lst 2 h.rows.length (fun i0 j0 => ([.str ((h.rows.getD i0 (default : GRow)).name), .lst 2 (((h.rows.getD i0 (default : GRow)).samples).length) (fun i1 j1 => ([.int .i64 ((((h.rows.getD i0 (default : GRow)).samples).getD i1 (default : GSample)).at_), .int .i64 ((((h.rows.getD i0 (default : GRow)).samples).getD i1 (default : GSample)).value)] : List AV).getD j1 (.con undef))] : List AV).getD j0 (.con undef)), .int .i64 h.offset], .agg [.lst 2 h.rows.length (fun i0 j0 => ([.str ((h.rows.getD i0 (default : GRow)).name), .lst 2 (((h.rows.getD i0 (default : GRow)).samples).length) (fun i1 j1 => ([.int .i64 ((((h.rows.getD i0 (default : GRow)).samples).getD i1 (default : GSample)).at_), .int .i64 ((((h.rows.getD i0 (default : GRow)).samples).getD i1 (default : GSample)).value)] : List AV).getD j1 (.con undef))] : List AV).getD j0 (.con undef)), .int .i64 h.offset]] (.one (.bool true)) := by
  refine Fn.of_body (fn := Try.f37) Try.func37 rfl (Nat.le_of_ble_eq_true rfl) trivial ?_
  intro w0
  show AW _ 56 _ _ _ _
  refine AW.boundAL (t := 0) (j := 0) rfl rfl fun hx => ?_
  refine AW.seq ?_
  refine AW.region ?_
  refine ARun.box (id := 0) rfl (.tmp rfl) (SV.cells_of (by exact ⟨trivial, trivial, trivial⟩)) ⟨rfl, (by repeat first | exact trivial | refine ⟨by decide, by first | rfl | exact trivial | (intro i j; first | rfl | exact getD_no rfl | (dsimp only; split <;> first | rfl | exact getD_no rfl) | exact scl_no (by apply_assumption) _), ?_⟩)⟩ rfl rfl rfl (Nat.le_of_ble_eq_true rfl) ?_
  refine ARun.box (id := 1) rfl (.tmp rfl) (SV.cells_of (by exact ⟨trivial, trivial, trivial⟩)) ⟨rfl, (by repeat first | exact trivial | refine ⟨by decide, by first | rfl | exact trivial | (intro i j; first | rfl | exact getD_no rfl | (dsimp only; split <;> first | rfl | exact getD_no rfl) | exact scl_no (by apply_assumption) _), ?_⟩)⟩ rfl rfl rfl (Nat.le_of_ble_eq_true rfl) ?_
  refine ARun.pure (PureOp.assign rfl .bool) rfl rfl (Nat.le_of_ble_eq_true rfl) ?_
  refine ARun.nil ?_
  refine AW.seq ?_
  refine AW.seq ?_
  refine AW.region ?_
  refine ARun.pure (PureOp.fieldPtr rfl (.tmp rfl) vde_fi_29_1_1) rfl rfl (Nat.le_of_ble_eq_true rfl) ?_
  refine ARun.pure (PureOp.loadPtr rfl (.tmp rfl) vde_pl_3 rfl rfl (Nat.le_of_ble_eq_true rfl) (Nat.le_of_ble_eq_true rfl)) rfl rfl (Nat.le_of_ble_eq_true rfl) ?_
  refine ARun.pure (PureOp.fieldPtr rfl (.tmp rfl) vde_fi_29_1_1) rfl rfl (Nat.le_of_ble_eq_true rfl) ?_
  refine ARun.pure (PureOp.loadPtr rfl (.tmp rfl) vde_pl_3 rfl rfl (Nat.le_of_ble_eq_true rfl) (Nat.le_of_ble_eq_true rfl)) rfl rfl (Nat.le_of_ble_eq_true rfl) ?_
  refine ARun.pure (PureOp.intOp rfl (.tmp rfl) (.tmp rfl) rfl) rfl rfl (Nat.le_of_ble_eq_true rfl) ?_
  refine ARun.pure (PureOp.move rfl (.tmp rfl)) rfl rfl (Nat.le_of_ble_eq_true rfl) ?_
  refine ARun.gpure (want := false) (.tf rfl) (fun hg1 => PureOp.fieldPtr rfl (.tmp rfl) vde_fi_29_0_0) rfl rfl (Nat.le_of_ble_eq_true rfl) rfl (Nat.le_of_ble_eq_true rfl) ?_
  refine ARun.gpure (want := false) (.tf rfl) (fun hg2 => PureOp.loadPtr rfl (.gtmp rfl hg2) vde_pl_27 rfl rfl (Nat.le_of_ble_eq_true rfl) (Nat.le_of_ble_eq_true rfl)) rfl rfl (Nat.le_of_ble_eq_true rfl) rfl (Nat.le_of_ble_eq_true rfl) ?_
  refine ARun.gpure (want := false) (.tf rfl) (fun hg3 => PureOp.lenLst rfl (.gtmp rfl hg3) vde_sl_27) rfl rfl (Nat.le_of_ble_eq_true rfl) rfl (Nat.le_of_ble_eq_true rfl) ?_
  refine ARun.gpure (want := false) (.tf rfl) (fun hg4 => PureOp.fieldPtr rfl (.tmp rfl) vde_fi_29_0_0) rfl rfl (Nat.le_of_ble_eq_true rfl) rfl (Nat.le_of_ble_eq_true rfl) ?_
  refine ARun.gpure (want := false) (.tf rfl) (fun hg5 => PureOp.loadPtr rfl (.gtmp rfl hg5) vde_pl_27 rfl rfl (Nat.le_of_ble_eq_true rfl) (Nat.le_of_ble_eq_true rfl)) rfl rfl (Nat.le_of_ble_eq_true rfl) rfl (Nat.le_of_ble_eq_true rfl) ?_
  refine ARun.gpure (want := false) (.tf rfl) (fun hg6 => PureOp.lenLst rfl (.gtmp rfl hg6) vde_sl_27) rfl rfl (Nat.le_of_ble_eq_true rfl) rfl (Nat.le_of_ble_eq_true rfl) ?_
  refine ARun.gpure (want := false) (.tf rfl) (fun hg7 => PureOp.intOp rfl (.gtmp rfl hg7) (.gtmp rfl hg7) rfl) rfl rfl (Nat.le_of_ble_eq_true rfl) rfl (Nat.le_of_ble_eq_true rfl) ?_
  refine ARun.pure (PureOp.pick rfl (.tmp rfl) (fun _ => .bool) (fun hp9 => .gtmp rfl (not_of hp9))) rfl rfl (Nat.le_of_ble_eq_true rfl) ?_
  refine ARun.nil ?_
  refine AW.cond (.tmp rfl) (fun hb10 => ?_) (fun hb10 => ?_)
  · have _u := True.intro
    exact absurd (show (cond (!decide (h.offset = h.offset)) true (!decide ((h.rows.length : Int) = (h.rows.length : Int)))) = false by simp) (by rw [hb10]; simp)
    --end
  · have _u := True.intro
    have _h := hb10
    refine AW.skip ?_
    refine AW.seq ?_
    refine AW.seq ?_
    refine AW.region ?_
    refine ARun.pure (PureOp.fieldPtr rfl (.tmp rfl) vde_fi_29_0_0) rfl rfl (Nat.le_of_ble_eq_true rfl) ?_
    refine ARun.pure (PureOp.loadPtr rfl (.tmp rfl) vde_pl_27 rfl rfl (Nat.le_of_ble_eq_true rfl) (Nat.le_of_ble_eq_true rfl)) rfl rfl (Nat.le_of_ble_eq_true rfl) ?_
    refine ARun.pure (PureOp.lenLst rfl (.tmp rfl) vde_sl_27) rfl rfl (Nat.le_of_ble_eq_true rfl) ?_
    refine ARun.pure (PureOp.move rfl .int) rfl rfl (Nat.le_of_ble_eq_true rfl) ?_
    refine ARun.nil ?_
    refine AW.block ?_
    refine AW.loop (ι := Nat) (fun k => ⟨[(2, .one (.ptr 0 2 0 0)), (3, .one (.ptr 1 2 0 0)), (22, .one (.int .i64 (h.rows.length : Int))), (23, .one (.int .i64 (k : Int)))], [(0, .cells [.lst 2 h.rows.length (fun i0 j0 => ([.str ((h.rows.getD i0 (default : GRow)).name), .lst 2 (((h.rows.getD i0 (default : GRow)).samples).length) (fun i1 j1 => ([.int .i64 ((((h.rows.getD i0 (default : GRow)).samples).getD i1 (default : GSample)).at_), .int .i64 ((((h.rows.getD i0 (default : GRow)).samples).getD i1 (default : GSample)).value)] : List AV).getD j1 (.con undef))] : List AV).getD j0 (.con undef)), .int .i64 h.offset]), (1, .cells [.lst 2 h.rows.length (fun i0 j0 => ([.str ((h.rows.getD i0 (default : GRow)).name), .lst 2 (((h.rows.getD i0 (default : GRow)).samples).length) (fun i1 j1 => ([.int .i64 ((((h.rows.getD i0 (default : GRow)).samples).getD i1 (default : GSample)).at_), .int .i64 ((((h.rows.getD i0 (default : GRow)).samples).getD i1 (default : GSample)).value)] : List AV).getD j1 (.con undef))] : List AV).getD j0 (.con undef)), .int .i64 h.offset])]⟩) (fun k => k ≤ h.rows.length) (fun k => h.rows.length - k) 0 (Nat.zero_le _) ⟨⟨⟨_, rfl, rfl⟩, ⟨_, rfl, rfl⟩, ⟨_, rfl, rfl⟩, ⟨_, rfl, rfl⟩, trivial⟩, HeapLe.one rfl (HeapLe.one rfl trivial)⟩ ?_
    intro k hk
    refine AW.seq ?_
    refine AW.region ?_
    refine ARun.pure (PureOp.intOp rfl (.tmp rfl) (.tmp rfl) rfl) rfl rfl (Nat.le_of_ble_eq_true rfl) ?_
    refine ARun.nil ?_
    refine AW.seq ?_
    refine AW.cond (.tmp rfl) (fun hb11 => ?_) (fun hb11 => ?_)
    · have _u := True.intro
      replace hb11 := of_decide_eq_true hb11
      have hkl : k < h.rows.length := by omega
      refine AW.skip ?_
      refine AW.seq ?_
      refine AW.block ?_
      refine AW.seq ?_
      refine AW.region ?_
      refine ARun.pure (PureOp.move rfl (.tmp rfl)) rfl rfl (Nat.le_of_ble_eq_true rfl) ?_
      refine ARun.pure (PureOp.assign rfl (.tmp rfl)) rfl rfl (Nat.le_of_ble_eq_true rfl) ?_
      refine ARun.nil ?_
      refine AW.seq ?_
      refine AW.any (by kernel_rfl) (by kernel_rfl) ?_
      refine AD.pure (PureOp.fieldPtr rfl (.tmp rfl) vde_fi_29_0_0) rfl rfl (Nat.le_of_ble_eq_true rfl) ?_
      refine AD.pure (PureOp.loadPtr rfl (.tmp rfl) vde_pl_27 rfl rfl (Nat.le_of_ble_eq_true rfl) (Nat.le_of_ble_eq_true rfl)) rfl rfl (Nat.le_of_ble_eq_true rfl) ?_
      refine AD.pure (PureOp.move rfl (.tmp rfl)) rfl rfl (Nat.le_of_ble_eq_true rfl) ?_
      refine AD.pure (PureOp.indexLst (i := k) rfl (.tmp rfl) vde_el_27_2 (.tmp rfl) rfl (by omega)) rfl rfl (Nat.le_of_ble_eq_true rfl) ?_
      refine AD.pure (PureOp.fieldRef rfl (.tmp rfl) vde_fi_67_0_0 (Nat.le_of_ble_eq_true rfl)) rfl rfl (Nat.le_of_ble_eq_true rfl) ?_
      refine AD.pure (PureOp.loadRef rfl (.tmp rfl) vde_pl_9 (Nat.le_of_ble_eq_true rfl)) rfl rfl (Nat.le_of_ble_eq_true rfl) ?_
      refine AD.pure (PureOp.fieldPtr rfl (.tmp rfl) vde_fi_29_0_0) rfl rfl (Nat.le_of_ble_eq_true rfl) ?_
      refine AD.pure (PureOp.loadPtr rfl (.tmp rfl) vde_pl_27 rfl rfl (Nat.le_of_ble_eq_true rfl) (Nat.le_of_ble_eq_true rfl)) rfl rfl (Nat.le_of_ble_eq_true rfl) ?_
      refine AD.pure (PureOp.move rfl (.tmp rfl)) rfl rfl (Nat.le_of_ble_eq_true rfl) ?_
      refine AD.pure (PureOp.indexLst (i := k) rfl (.tmp rfl) vde_el_27_2 (.tmp rfl) rfl (by omega)) rfl rfl (Nat.le_of_ble_eq_true rfl) ?_
      refine AD.pure (PureOp.fieldRef rfl (.tmp rfl) vde_fi_67_0_0 (Nat.le_of_ble_eq_true rfl)) rfl rfl (Nat.le_of_ble_eq_true rfl) ?_
      refine AD.pure (PureOp.loadRef rfl (.tmp rfl) vde_pl_9 (Nat.le_of_ble_eq_true rfl)) rfl rfl (Nat.le_of_ble_eq_true rfl) ?_
      refine AD.pure (PureOp.strOp rfl (.tmp rfl) (.tmp rfl) rfl) rfl rfl (Nat.le_of_ble_eq_true rfl) ?_
      refine AD.pure (PureOp.move rfl (.tmp rfl)) rfl rfl (Nat.le_of_ble_eq_true rfl) ?_
      refine AD.gpure (want := false) (.tf rfl) (fun hg12 => PureOp.fieldPtr rfl (.tmp rfl) vde_fi_29_0_0) rfl rfl rfl (Nat.le_of_ble_eq_true rfl) ?_
      refine AD.gpure (want := false) (.tf rfl) (fun hg13 => PureOp.loadPtr rfl (.gtmp rfl hg13) vde_pl_27 rfl rfl (Nat.le_of_ble_eq_true rfl) (Nat.le_of_ble_eq_true rfl)) rfl rfl rfl (Nat.le_of_ble_eq_true rfl) ?_
      refine AD.gpure (want := false) (.tf rfl) (fun hg14 => PureOp.move rfl (.tmp rfl)) rfl rfl rfl (Nat.le_of_ble_eq_true rfl) ?_
      refine AD.gpure (want := false) (.tf rfl) (fun hg15 => PureOp.indexLst (i := k) rfl (.gtmp rfl hg15) vde_el_27_2 (.gtmp rfl hg15) rfl (by have q := hg15; simp only [Bool.cond_true_left, Bool.cond_false_right, Bool.not_eq_true', Bool.or_eq_false_iff, Bool.not_eq_false', Bool.and_eq_true, Bool.not_not, decide_eq_true_eq, decide_eq_false_iff_not, inB] at q; omega)) rfl rfl rfl (Nat.le_of_ble_eq_true rfl) ?_
      refine AD.gpure (want := false) (.tf rfl) (fun hg16 => PureOp.fieldRef rfl (.gtmp rfl hg16) vde_fi_67_1_1 (Nat.le_of_ble_eq_true rfl)) rfl rfl rfl (Nat.le_of_ble_eq_true rfl) ?_
      refine AD.gpure (want := false) (.tf rfl) (fun hg17 => PureOp.loadRef rfl (.gtmp rfl hg17) vde_pl_33 (Nat.le_of_ble_eq_true rfl)) rfl rfl rfl (Nat.le_of_ble_eq_true rfl) ?_
      refine AD.gpure (want := false) (.tf rfl) (fun hg18 => PureOp.fieldPtr rfl (.tmp rfl) vde_fi_29_0_0) rfl rfl rfl (Nat.le_of_ble_eq_true rfl) ?_
      refine AD.gpure (want := false) (.tf rfl) (fun hg19 => PureOp.loadPtr rfl (.gtmp rfl hg19) vde_pl_27 rfl rfl (Nat.le_of_ble_eq_true rfl) (Nat.le_of_ble_eq_true rfl)) rfl rfl rfl (Nat.le_of_ble_eq_true rfl) ?_
      refine AD.gpure (want := false) (.tf rfl) (fun hg20 => PureOp.move rfl (.tmp rfl)) rfl rfl rfl (Nat.le_of_ble_eq_true rfl) ?_
      refine AD.gpure (want := false) (.tf rfl) (fun hg21 => PureOp.indexLst (i := k) rfl (.gtmp rfl hg21) vde_el_27_2 (.gtmp rfl hg21) rfl (by have q := hg21; simp only [Bool.cond_true_left, Bool.cond_false_right, Bool.not_eq_true', Bool.or_eq_false_iff, Bool.not_eq_false', Bool.and_eq_true, Bool.not_not, decide_eq_true_eq, decide_eq_false_iff_not, inB] at q; omega)) rfl rfl rfl (Nat.le_of_ble_eq_true rfl) ?_
      refine AD.gpure (want := false) (.tf rfl) (fun hg22 => PureOp.fieldRef rfl (.gtmp rfl hg22) vde_fi_67_1_1 (Nat.le_of_ble_eq_true rfl)) rfl rfl rfl (Nat.le_of_ble_eq_true rfl) ?_
      refine AD.gpure (want := false) (.tf rfl) (fun hg23 => PureOp.loadRef rfl (.gtmp rfl hg23) vde_pl_33 (Nat.le_of_ble_eq_true rfl)) rfl rfl rfl (Nat.le_of_ble_eq_true rfl) ?_
      refine AD.gpure (want := false) (.tf rfl) (fun hg24 => PureOp.call rfl (v_sameSmp ((h.rows.getD k (default : GRow)).samples)) ⟨⟨_, (.gtmp rfl hg24), .lst⟩, ⟨_, (.gtmp rfl hg24), .lst⟩, trivial⟩ vde_ca_66 trivial) rfl rfl rfl (Nat.le_of_ble_eq_true rfl) ?_
      refine AD.gpure (want := false) (.tf rfl) (fun hg25 => PureOp.not rfl (.gtmp rfl hg25)) rfl rfl rfl (Nat.le_of_ble_eq_true rfl) ?_
      refine AD.pure (PureOp.pick rfl (.tmp rfl) (fun _ => .bool) (fun hp27 => .gtmp rfl (not_of hp27))) rfl rfl (Nat.le_of_ble_eq_true rfl) ?_
      refine AD.nil ?_
      refine AW.cond (.tmp rfl) (fun hb28 => ?_) (fun hb28 => ?_)
      · have _u := True.intro
        exact absurd (show (cond (!decide ((h.rows.getD k (default : GRow)).name = (h.rows.getD k (default : GRow)).name)) true (!true)) = false by simp) (by rw [hb28]; simp)
        --end
      · have _u := True.intro
        have _h := hb28
        refine AW.skip ?_
        refine AW.region ?_
        refine ARun.pure (PureOp.add (c := ((k + 1 : Nat) : Int)) rfl (.tmp rfl) .int (by rw [wrap_id (by omega) (by omega)]; omega)) rfl rfl (Nat.le_of_ble_eq_true rfl) ?_
        refine ARun.pure (PureOp.move rfl (.tmp rfl)) rfl rfl (Nat.le_of_ble_eq_true rfl) ?_
        refine ARun.nil ?_
        exact ⟨k + 1, by omega, by dsimp only; omega, ⟨⟨⟨_, rfl, rfl⟩, ⟨_, rfl, rfl⟩, ⟨_, rfl, rfl⟩, ⟨_, rfl, rfl⟩, trivial⟩, HeapLe.one rfl (HeapLe.one rfl trivial)⟩⟩
    · have _u := True.intro
      replace hb11 := of_decide_eq_false hb11
      have hkl : ¬ k < h.rows.length := by omega
      refine AW.exit ?_
      refine AW.seq ?_
      refine AW.region ?_
      refine ARun.pure (PureOp.assign rfl .bool) rfl rfl (Nat.le_of_ble_eq_true rfl) ?_
      refine ARun.nil ?_
      refine AW.ret (show ResL _ _ [.tmp 4] _ from resB rfl ?_)
      rfl

theorem v_sameInts (l : List Int) (n : Nat) (hn : n = l.length) : Fn Try.prog 38 [.one (.lst 1 n (fun i0 _ => .int .i64 (l.getD i0 0))), .one (.lst 1 l.length (fun i0 _ => .int .i64 (l.getD i0 0)))] (.one (.bool true)) := by subst hn; exact v_sameInts0 l
theorem v_iFoldV (h : GHead) (l : List GSay) (V : GHead × List Int × Bool) (hV : foldV h l = V) : FnT Try.prog 30 [.agg [.lst 2 h.rows.length (fun i0 j0 => ([.str ((h.rows.getD i0 (default : GRow)).name), .lst 2 (((h.rows.getD i0 (default : GRow)).samples).length) (fun i1 j1 => ([.int .i64 ((((h.rows.getD i0 (default : GRow)).samples).getD i1 (default : GSample)).at_), .int .i64 ((((h.rows.getD i0 (default : GRow)).samples).getD i1 (default : GSample)).value)] : List AV).getD j1 (.con undef))] : List AV).getD j0 (.con undef)), .int .i64 h.offset], .one (.lst 3 l.length (fun i0 j0 => ([.str ((l.getD i0 (default : GSay)).name), .int .i64 ((l.getD i0 (default : GSay)).at_), .int .i64 ((l.getD i0 (default : GSay)).value)] : List AV).getD j0 (.con undef)))] (.tup3 (.agg [.lst 2 V.1.rows.length (fun i0 j0 => ([.str ((V.1.rows.getD i0 (default : GRow)).name), .lst 2 (((V.1.rows.getD i0 (default : GRow)).samples).length) (fun i1 j1 => ([.int .i64 ((((V.1.rows.getD i0 (default : GRow)).samples).getD i1 (default : GSample)).at_), .int .i64 ((((V.1.rows.getD i0 (default : GRow)).samples).getD i1 (default : GSample)).value)] : List AV).getD j1 (.con undef))] : List AV).getD j0 (.con undef)), .int .i64 V.1.offset]) (.one (.lst 1 V.2.1.length (fun i0 _ => .int .i64 (V.2.1.getD i0 0)))) (.one (.bool V.2.2))) := hV ▸ v_iFold h l
theorem v_iTakeV (h : GHead) (x : GSay) (V : GHead × Nat × Bool) (hV : takeV h x = V) : FnT Try.prog 26 [.agg [.lst 2 h.rows.length (fun i0 j0 => ([.str ((h.rows.getD i0 (default : GRow)).name), .lst 2 (((h.rows.getD i0 (default : GRow)).samples).length) (fun i1 j1 => ([.int .i64 ((((h.rows.getD i0 (default : GRow)).samples).getD i1 (default : GSample)).at_), .int .i64 ((((h.rows.getD i0 (default : GRow)).samples).getD i1 (default : GSample)).value)] : List AV).getD j1 (.con undef))] : List AV).getD j0 (.con undef)), .int .i64 h.offset], .agg [.str x.name, .int .i64 x.at_, .int .i64 x.value]] (.tup3 (.agg [.lst 2 V.1.rows.length (fun i0 j0 => ([.str ((V.1.rows.getD i0 (default : GRow)).name), .lst 2 (((V.1.rows.getD i0 (default : GRow)).samples).length) (fun i1 j1 => ([.int .i64 ((((V.1.rows.getD i0 (default : GRow)).samples).getD i1 (default : GSample)).at_), .int .i64 ((((V.1.rows.getD i0 (default : GRow)).samples).getD i1 (default : GSample)).value)] : List AV).getD j1 (.con undef))] : List AV).getD j0 (.con undef)), .int .i64 V.1.offset]) (.one (.int .i64 (V.2.1 : Int))) (.one (.bool V.2.2))) := hV ▸ v_iTakeSay h x
end Go.Proofs.Ytmfkmifkkplidaa


/-
  The plain law of FnFolds.
-/
namespace Go.Proofs.Ytmfkmifkkplidaa
open Go.ChangeShapes Go.WideShapes Go.ChangeAt Go.RowKit Go.BigFrame Go.Deep
set_option linter.unusedVariables false
set_option linter.unusedSimpArgs false

/-! Folding in two parts. -/
theorem gt_take (l : List GSay) {k j : Nat} (h : j < k) : (l.take k).getD j (default : GSay) = l.getD j (default : GSay) := by
  rw [List.getD_eq_getElem?_getD, List.getD_eq_getElem?_getD, List.getElem?_take, if_pos h]
theorem gt_drop (l : List GSay) (k j : Nat) : (l.drop k).getD j (default : GSay) = l.getD (k + j) (default : GSay) := by
  rw [List.getD_eq_getElem?_getD, List.getD_eq_getElem?_getD, List.getElem?_drop]
theorem foldH_take (h : GHead) (l : List GSay) {k : Nat} : ∀ j, j ≤ k → foldH h (l.take k) j = foldH h l j
  | 0, _ => rfl
  | j + 1, hj => by
    show takeH (foldH h (l.take k) j) _ = takeH (foldH h l j) _
    rw [foldH_take h l j (by omega), gt_take l (by omega)]
theorem foldH_drop (h : GHead) (l : List GSay) (k : Nat) : ∀ j, foldH (foldH h l k) (l.drop k) j = foldH h l (k + j)
  | 0 => rfl
  | j + 1 => by
    show takeH (foldH (foldH h l k) (l.drop k) j) _ = takeH (foldH h l (k + j)) _
    rw [foldH_drop h l k j, gt_drop]; rfl
theorem codes_take (h : GHead) (l : List GSay) {k : Nat} : codesL h (l.take k) k = codesL h l k := by
  unfold codesL
  refine List.map_congr_left fun j hj => ?_
  have hj := List.mem_range.1 hj
  unfold codeAt
  rw [foldH_take h l j (by omega), gt_take l hj]
theorem codes_drop (h : GHead) (l : List GSay) {k n : Nat} (hk : k ≤ n) : codesL h l k ++ codesL (foldH h l k) (l.drop k) (n - k) = codesL h l n := by
  refine List.ext_getElem? fun i => ?_
  rw [List.getElem?_append, codes_len]
  by_cases h1 : i < k
  · rw [if_pos h1]; simp [codesL, h1, show i < n by omega]
  · rw [if_neg h1]
    by_cases h2 : i < n
    · have e : codeAt (foldH h l k) (l.drop k) (i - k) = codeAt h l i := by
        unfold codeAt
        rw [foldH_drop, gt_drop, show k + (i - k) = i by omega]
      simp only [codesL, List.getElem?_map, List.getElem?_range (show i - k < n - k by omega), List.getElem?_range h2, Option.map_some, e]
    · rw [List.getElem?_eq_none (by rw [codes_len]; omega), List.getElem?_eq_none (by rw [codes_len]; omega)]
theorem foldV_ok {h : GHead} {l : List GSay} (e : (foldV h l).2.2 = true) : FoldOk h l := by
  by_cases F : FoldOk h l
  · exact F
  · rw [foldV_no F] at e; cases e
theorem foldV_1 {h : GHead} {l : List GSay} (F : FoldOk h l) : (foldV h l).1 = foldH h l l.length := by rw [foldV_yes F]
theorem foldV_21 {h : GHead} {l : List GSay} (F : FoldOk h l) : (foldV h l).2.1 = codesL h l l.length := by rw [foldV_yes F]
theorem foldV_take {h : GHead} {l : List GSay} (F : FoldOk h l) {k : Nat} (hk : k ≤ l.length) : foldV h (l.take k) = (foldH h l k, codesL h l k, true) := by
  have hlen : (l.take k).length = k := by rw [List.length_take]; omega
  have F2 : FoldOk h (l.take k) := ⟨F.good, by rw [hlen]; have := F.len; omega, by rw [hlen]; have := F.off; omega, fun j hj => by rw [hlen] at hj; rw [gt_take l hj]; exact F.says j (by omega)⟩
  rw [foldV_yes F2, hlen, foldH_take h l k (Nat.le_refl _), codes_take]
theorem foldV_gd {h : GHead} {l : List GSay} (F : FoldOk h l) {k : Nat} (hk : k ≤ l.length) : goodHead (foldH h l k) = true := by
  have h1 := fold_good (good0 F.good) k fun j hj => F.says j (by omega)
  have h2 := good_off F.good
  have h3 := F.off
  refine good_re (o := 0) h1 ?_
  have h4 := fold_off h l k
  unfold inB
  exact decide_eq_true (by rw [h4]; omega)
theorem foldV_drop {h : GHead} {l : List GSay} (F : FoldOk h l) {k : Nat} (hk : k ≤ l.length) : foldV (foldH h l k) (l.drop k) = ((foldV h l).1, codesL (foldH h l k) (l.drop k) (l.length - k), true) := by
  have hlen : (l.drop k).length = l.length - k := List.length_drop
  have F2 : FoldOk (foldH h l k) (l.drop k) := ⟨foldV_gd F hk, by rw [hlen]; have := F.len; omega, by rw [hlen, fold_off]; have := F.off; omega, fun j hj => by rw [hlen] at hj; rw [gt_drop]; exact F.says (k + j) (by omega)⟩
  rw [foldV_yes F2, hlen, foldH_drop, foldV_1 F, show k + (l.length - k) = l.length by omega]
theorem codes_split {h : GHead} {l : List GSay} (F : FoldOk h l) {k : Nat} (hk : k ≤ l.length) {i : Nat} (hi : i < k + (l.length - k)) : (if i < k then ((codesL h l k).getD i 0) else (codesL (foldH h l k) (l.drop k) (l.length - k)).getD (i - k) 0) = ((foldV h l).2.1).getD i 0 := by
  rw [foldV_21 F, ← codes_drop h l hk, getD_app, codes_len]
theorem foldV_good {h : GHead} {l : List GSay} (F : FoldOk h l) : goodHead (foldV h l).1 = true := by rw [foldV_1 F]; exact foldV_gd F (Nat.le_refl _)
theorem foldV_off {h : GHead} {l : List GSay} (F : FoldOk h l) : (foldV h l).1.offset = h.offset + (l.length : Int) := by rw [foldV_1 F, fold_off]
/-! What is new. -/
def smpN (l : List GRow) (k : Nat) : Nat := ((l.take k).map fun r => r.samples.length).sum
def newN (l : List Int) (k : Nat) : Nat := ((l.take k).map fun c => if c = 1 then 1 else 0).sum
theorem smpN_succ {l : List GRow} {k : Nat} (hk : k < l.length) : smpN l (k + 1) = smpN l k + (l.getD k (default : GRow)).samples.length := wt_take (f := fun r : GRow => r.samples.length) (default : GRow) hk
theorem newN_succ {l : List Int} {k : Nat} (hk : k < l.length) : newN l (k + 1) = newN l k + (if l.getD k 0 = 1 then 1 else 0) := wt_take (f := fun c : Int => if c = 1 then 1 else 0) (0 : Int) hk
theorem smpN_all (l : List GRow) : smpN l l.length = (l.map fun r => r.samples.length).sum := by unfold smpN; rw [List.take_length]
theorem newN_le (l : List Int) (k : Nat) : newN l k ≤ k := by
  induction k with
  | zero => simp [newN]
  | succ k ih =>
    by_cases hk : k < l.length
    · rw [newN_succ hk]; split <;> omega
    · have : newN l (k + 1) = newN l k := by unfold newN; rw [List.take_of_length_le (by omega), List.take_of_length_le (by omega)]
      omega
theorem sum_set {α : Type} (f : α → Nat) (d r : α) : ∀ (l : List α) (k : Nat), k < l.length → ((l.set k r).map f).sum + f (l.getD k d) = (l.map f).sum + f r
  | [], k, h => absurd h (Nat.not_lt_zero _)
  | a :: l, 0, _ => by
    show (f r + (l.map f).sum) + f a = (f a + (l.map f).sum) + f r
    omega
  | a :: l, k + 1, h => by
    have ih := sum_set f d r l k (by simpa using h)
    show (f a + ((l.set k r).map f).sum) + f (l.getD k d) = (f a + (l.map f).sum) + f r
    omega
theorem sum_ins {α : Type} (f : α → Nat) (r : α) (l : List α) (k : Nat) : ((insL l k r).map f).sum = (l.map f).sum + f r := by
  unfold insL
  rw [List.map_append, List.sum_append, List.map_cons, List.sum_cons]
  have : (l.map f).sum = ((l.take k).map f).sum + ((l.drop k).map f).sum := by rw [← List.sum_append, ← List.map_append, List.take_append_drop]
  omega
theorem take_sum (h : GHead) (x : GSay) : ((takeH h x).rows.map fun r => r.samples.length).sum = (h.rows.map fun r => r.samples.length).sum + (if takeCode h x = 1 then 1 else 0) := by
  by_cases hc : takeCode h x = 1
  · rw [if_pos hc]
    cases hir : isRow h x.name with
    | true =>
      rw [tR_row hir hc]
      have h1 := sum_set (fun r : GRow => r.samples.length) (default : GRow) ⟨(rowK h x).name, addS h x⟩ h.rows (loF h x.name) (row_lo hir)
      have h2 : (addS h x).length = (rowK h x).samples.length + 1 := by rw [addS_row hir, List.length_append]; rfl
      have h1 : _ + (rowK h x).samples.length = _ + (addS h x).length := h1
      omega
    | false =>
      rw [tR_ins hir hc, sum_ins]
      show _ + (addS h x).length = _
      rw [addS_ins hir]; rfl
  · rw [if_neg hc, tR_old hc]; rfl
theorem fold_sum (h : GHead) (l : List GSay) {n : Nat} : ∀ k, k ≤ n → ((foldH h l k).rows.map fun r => r.samples.length).sum = (h.rows.map fun r => r.samples.length).sum + newN (codesL h l n) k
  | 0, _ => by show _ = _ + newN _ 0; simp [newN, foldH]
  | k + 1, hk => by
    show ((takeH (foldH h l k) (l.getD k (default : GSay))).rows.map fun r => r.samples.length).sum = _
    rw [take_sum, fold_sum h l (n := n) k (by omega), newN_succ (by rw [codes_len]; omega), codes_at h l (by omega)]
    have e : (if takeCode (foldH h l k) (l.getD k (default : GSay)) = 1 then 1 else 0) = (if ((codeAt h l k : Nat) : Int) = 1 then 1 else 0 : Nat) := by
      show (if codeAt h l k = 1 then 1 else 0) = _
      by_cases hc : codeAt h l k = 1
      · rw [if_pos hc, if_pos (by omega)]
      · rw [if_neg hc, if_neg (by omega)]
    rw [e]; omega
theorem foldV_new {h : GHead} {l : List GSay} (F : FoldOk h l) : smpN (foldV h l).1.rows (foldV h l).1.rows.length = smpN h.rows h.rows.length + newN (foldV h l).2.1 (foldV h l).2.1.length := by
  rw [smpN_all, smpN_all, foldV_1 F, foldV_21 F, codes_len]
  exact fold_sum h l l.length (Nat.le_refl _)
theorem smpN_le {h : GHead} (hg : goodHead h = true) (k : Nat) : smpN h.rows k ≤ 40 * k := by
  induction k with
  | zero => simp [smpN]
  | succ k ih =>
    by_cases hk : k < h.rows.length
    · rw [smpN_succ hk]
      have := smp_40 (good_at hg hk).2.2
      omega
    · have : smpN h.rows (k + 1) = smpN h.rows k := by unfold smpN; rw [List.take_of_length_le (by omega), List.take_of_length_le (by omega)]
      omega
/-! The same once more. -/
theorem again (h : GHead) (x : GSay) (hg : goodHead ⟨h.rows, 0⟩ = true) (hx : sayB x = true) : takeCode (takeH h x) x ≠ 1 ∧ (takeCode h x = 1 → takeCode (takeH h x) x = 2) := by
  by_cases hc : takeCode h x = 1
  · have h2 : takeCode (takeH h x) x = 2 := by
      have hgt := good_take hg hx
      have key : ∀ k, k < (takeH h x).rows.length → ((takeH h x).rows.getD k (default : GRow)).name = x.name → ((takeH h x).rows.getD k (default : GRow)).samples = addS h x → takeCode (takeH h x) x = 2 := fun k hk hn hs => by
        have hlo : loF (takeH h x) x.name = k := by
          have := loF_eq (h := ⟨(takeH h x).rows, 0⟩) hgt hk hn
          exact this
        have hir2 : isRow (takeH h x) x.name = true := by
          unfold isRow; rw [hlo, decide_eq_true hk, decide_eq_true hn]; rfl
        refine tk_again hir2 ?_
        show ((rowK (takeH h x) x).samples.getD ((rowK (takeH h x) x).samples.length - 1) (default : GSample)).at_ = x.at_
        have : (rowK (takeH h x) x).samples = addS h x := by show ((takeH h x).rows.getD (loF (takeH h x) x.name) (default : GRow)).samples = _; rw [hlo, hs]
        rw [this]
        cases hir : isRow h x.name with
        | true =>
          rw [addS_row hir, List.length_append, getD_app, if_neg (by show ¬ ((rowK h x).samples.length + 1 - 1 < _); omega)]
          show (([smpX x] : List GSample).getD ((rowK h x).samples.length + 1 - 1 - (rowK h x).samples.length) (default : GSample)).at_ = _
          rw [show (rowK h x).samples.length + 1 - 1 - (rowK h x).samples.length = 0 by omega]; rfl
        | false => rw [addS_ins hir]; rfl
      cases hir : isRow h x.name with
      | true =>
        have hlo := row_lo hir
        have hn : (rowK h x).name = x.name := by unfold isRow at hir; rw [Bool.and_eq_true] at hir; exact of_decide_eq_true hir.2
        have hR := tR_row hir hc
        refine key (loF h x.name) (by rw [hR, List.length_set]; exact hlo) ?_ ?_
        · rw [hR, set_at _ hlo, if_pos rfl]; exact hn
        · rw [hR, set_at _ hlo, if_pos rfl]
      | false =>
        have hlo := loF_le h x.name
        have hR := tR_ins hir hc
        refine key (loF h x.name) (by rw [hR, insL_len hlo]; omega) ?_ ?_
        · rw [hR, insL_at _ hlo, if_neg (Nat.lt_irrefl _), if_pos rfl]
        · rw [hR, insL_at _ hlo, if_neg (Nat.lt_irrefl _), if_pos rfl]
    exact ⟨by rw [h2]; decide, fun _ => h2⟩
  · refine ⟨fun e => hc ?_, fun e => absurd e hc⟩
    have hR := tR_old hc
    have e1 : takeH h x = ⟨h.rows, h.offset + 1⟩ := by
      cases ht : takeH h x with
      | mk r o =>
        rw [ht] at hR
        have h3 : o = h.offset + 1 := by have : (takeH h x).offset = h.offset + 1 := rfl; rw [ht] at this; exact this
        have hR : r = h.rows := hR
        rw [hR, h3]
    rw [e1] at e; exact e
theorem takeV_ok {h : GHead} {x : GSay} (e : (takeV h x).2.2 = true) : goodHead h = true ∧ sayB x = true ∧ ¬ h.offset = 1000 := by
  by_cases F : goodHead h = true ∧ sayB x = true ∧ ¬ h.offset = 1000
  · exact F
  · unfold takeV at e; rw [if_neg F] at e; cases e
theorem takeV_again {h : GHead} {x : GSay} (e : (takeV h x).2.2 = true) (ho : (takeV h x).1.offset < 1000) : takeV (takeV h x).1 x = (takeH (takeH h x) x, takeCode (takeH h x) x, true) ∧ takeCode (takeH h x) x ≠ 1 ∧ (takeH (takeH h x) x).rows.length = (takeV h x).1.rows.length ∧ ((takeV h x).2.1 = 1 → takeCode (takeH h x) x = 2) := by
  obtain ⟨h1, h2, h3⟩ := takeV_ok e
  have ev : takeV h x = (takeH h x, takeCode h x, true) := if_pos ⟨h1, h2, h3⟩
  rw [ev] at ho ⊢
  have hof := good_off h1
  have ho : h.offset + 1 < 1000 := ho
  obtain ⟨a1, a2⟩ := again h x (good0 h1) h2
  have hg2 : goodHead (takeH h x) = true := good_re (o := 0) (good_take (good0 h1) h2) (show inB 0 1000 (h.offset + 1) = true from decide_eq_true (by omega))
  refine ⟨if_pos ⟨hg2, h2, show ¬ h.offset + 1 = 1000 by omega⟩, a1, ?_, a2⟩
  rw [tR_old a1]end Go.Proofs.Ytmfkmifkkplidaa

