/-
  Proved: the law FnClocks returns true for every input: of all drawn events, vector clocks say just which event came first for which, and stamps respect that order; the program answers as the reference does. Conditions: none.
-/
import Derived.Deep.RegionHeld3
import Derived.Test.YtmkhahiefdcinaaZd3
import Derived.Test.YtmkhahiefdcinaaZd4
/-
  What the reference draws for cuts and clocks.
-/
namespace Go.Proofs.Ytmkhahiefdcinaa
open Go.ChangeShapes Go.WideShapes Go.ChangeAt Go.RowKit Go.BigFrame Go.Deep
set_option linter.unusedVariables false
set_option linter.unusedSimpArgs false
theorem vd3_ca_36 : callB Try.prog 36 = true := by kernel_rfl
theorem vd3_ca_57 : callB Try.prog 57 = true := by kernel_rfl
theorem vd3_ca_58 : callB Try.prog 58 = true := by kernel_rfl
theorem vd3_ca_61 : callB Try.prog 61 = true := by kernel_rfl
theorem vd3_ca_62 : callB Try.prog 62 = true := by kernel_rfl
theorem vd3_ca_73 : callB Try.prog 73 = true := by kernel_rfl
theorem vd3_el_30_1 : elemB Try.prog 30 1 = true := by kernel_rfl
theorem vd3_sl_26 : sliceB Try.prog 26 = true := by kernel_rfl
theorem vd3_sl_30 : sliceB Try.prog 30 = true := by kernel_rfl
theorem vd3_sz_3_1 : sizeB Try.prog 3 1 = true := by kernel_rfl
theorem amr {x : Int} (h : x ∈ [(-1 : Int), 40, 41]) : I64 x := by
  rcases List.mem_cons.1 h with rfl | h
  · exact ⟨by decide, by decide⟩
  rcases List.mem_cons.1 h with rfl | h
  · exact ⟨by decide, by decide⟩
  rw [List.mem_singleton.1 h]; exact ⟨by decide, by decide⟩
theorem fv_in {H : Heap} {id m : Nat} {o : AObj} {L : List Int} (ho : H.lookup id = some o) (hsz : o.sz = 1) (hn : L.length ≤ o.n) (hm : m = L.length) (hf : ∀ i j, i < L.length → j < 1 → o.f i j = inC L i j) : Fv H (.own id 1 m) (intsD L) := by
  subst hm
  refine .own ho hsz hn fun i j hi hj => ?_
  rw [hf i j hi hj]
  exact .int
theorem v_Clock (n : Nat) (F : Nat → Nat) (hF : ∀ i, F i < 256) (p s : Nat) (hp : p ≤ 1600000000) (hs : s < 18446744073709551616) : FnC Try.prog 61 n F [] p s (fun (x : List Int) p' s' => (x.length ≤ 4 ∧ allRi x) ∧ CurOk p 50 p' s') (fun (x : List Int) => .one (intsD x)) := by
  refine FnC.of_body (fn := Try.f61) Try.func61 rfl (Nat.le_of_ble_eq_true rfl) ?_
  intro w0 c
  show AW _ 26 _ _ _ _
  refine AW.seq ?_
  refine AW.region ?_
  refine ARun.pure (PureOp.assign rfl .con) rfl rfl (Nat.le_of_ble_eq_true rfl) ?_
  refine ARun.nil ?_
  refine AW.seq ?_
  refine AW.region ?_
  refine ARun.pure (PureOp.assign rfl .con) rfl rfl (Nat.le_of_ble_eq_true rfl) ?_
  refine ARun.nil ?_
  refine AW.seq ?_
  refine AW.seq ?_
  refine AW.region ?_
  refine ARun.pure (PureOp.move rfl (.tmp rfl)) rfl rfl (Nat.le_of_ble_eq_true rfl) ?_
  refine ARun.cur (id := 1000000) rfl (v_Pick n F hF p s (by omega) (by omega) 9 (by omega)) vd3_ca_58 ⟨.inr (.tmp rfl), .inl ⟨_, .int, .int⟩, trivial⟩ rfl rfl rfl (Nat.le_of_ble_eq_true rfl) (fun x1 p2 sd3 hc4 => ?_)
  obtain ⟨hc4x, hc4c⟩ := hc4
  obtain ⟨hc41, hc42, hc43⟩ := hc4c
  refine ARun.pure (PureOp.quo (a := x1) (b := 8) rfl (.tmp rfl) .int rfl (by decide) (by omega)) rfl rfl (Nat.le_of_ble_eq_true rfl) ?_
  refine ARun.pure (PureOp.add (c := ((3 + x1 / 8 : Nat) : Int)) rfl .int (.tmp rfl) (by rw [wrap_id (by omega) (by omega)]; omega)) rfl rfl (Nat.le_of_ble_eq_true rfl) ?_
  refine ARun.pure (PureOp.assign rfl (.tmp rfl)) rfl rfl (Nat.le_of_ble_eq_true rfl) ?_
  refine ARun.nil ?_
  refine AW.block ?_
  refine AW.nilSlot 3 900 1 (inC []) rfl ⟨rfl, (by repeat first | exact trivial | refine ⟨by decide, by first | rfl | exact trivial | (intro i j; first | rfl | exact getD_no rfl | (dsimp only; split <;> first | rfl | exact getD_no rfl) | exact scl_no (by apply_assumption) _), ?_⟩)⟩ ?_
  -- objects are renamed
  refine AW.loopR (ι := InS) (fun v => ⟨[(0, .one (.ptr 1000000 3 0 0)), (3, .one (.own 900 1 v.l.length)), (4, .one (.int .i64 ((((3 + x1 / 8) - v.l.length) : Nat) : Int)))], [(900, .arr 1 v.l.length (inC v.l)), (1000000, .cells [.cv c (.lst 1 n (fun i _ => .int .u8 ((F i : Nat) : Int))), .int .i64 (v.p : Int), .int .u64 ((v.s : Nat) : Int)])]⟩) (fun v => v.l.length ≤ (3 + x1 / 8) ∧ v.p ≤ p2 + 2 * v.l.length ∧ v.s < 18446744073709551616 ∧ p2 ≤ v.p ∧ allRi v.l) (fun v => (3 + x1 / 8) - v.l.length) ⟨[], p2, sd3⟩ ⟨Nat.zero_le _, by show p2 ≤ p2 + 2 * 0; omega, by show sd3 < 18446744073709551616; omega, Nat.le_refl _, fun _ he => (nomatch he)⟩ ⟨⟨⟨_, rfl, rfl⟩, ⟨_, rfl, rfl⟩, ⟨_, rfl, rfl⟩, trivial⟩, ⟨⟨_, rfl, rfl, Nat.le_refl _, fun _ _ _ _ => rfl⟩, ⟨_, rfl, rfl, Nat.le_refl _, fun _ _ _ _ => rfl⟩, trivial⟩⟩ ?_
  intro v hv
  obtain ⟨hv1, hv2, hv3, hv4, hv5⟩ := hv
  refine AW.seq ?_
  refine AW.seq ?_
  refine AW.region ?_
  refine ARun.pure (PureOp.move rfl (.tmp rfl)) rfl rfl (Nat.le_of_ble_eq_true rfl) ?_
  refine ARun.pure (PureOp.intOp rfl (.tmp rfl) .int rfl) rfl rfl (Nat.le_of_ble_eq_true rfl) ?_
  refine ARun.nil ?_
  refine AW.cond (.tmp rfl) (fun hb5 => ?_) (fun hb5 => ?_)
  · have _u := True.intro
    replace hb5 := of_decide_eq_true hb5
    have hkl : v.l.length < (3 + x1 / 8) := by omega
    refine AW.skip ?_
    refine AW.seq ?_
    refine AW.block ?_
    refine AW.region ?_
    refine ARun.pure (PureOp.move rfl (.tmp rfl)) rfl rfl (Nat.le_of_ble_eq_true rfl) ?_
    refine ARun.pure (PureOp.move rfl (.tmp rfl)) rfl rfl (Nat.le_of_ble_eq_true rfl) ?_
    refine ARun.cur (id := 1000000) rfl (v_Pick n F hF v.p v.s (by omega) (by omega) 4 (by omega)) vd3_ca_58 ⟨.inr (.tmp rfl), .inl ⟨_, .int, .int⟩, trivial⟩ rfl rfl rfl (Nat.le_of_ble_eq_true rfl) (fun x6 p7 sd8 hc9 => ?_)
    obtain ⟨hc9x, hc9c⟩ := hc9
    obtain ⟨hc91, hc92, hc93⟩ := hc9c
    refine ARun.slice1 (id := 0) (z := (.int .i64 0)) (by_ := 8) rfl (.tmp rfl) trivial (by kernel_rfl) rfl rfl (by decide) (by decide) ⟨rfl, (by repeat first | exact trivial | refine ⟨by decide, by first | rfl | exact trivial | (intro i j; first | rfl | exact getD_no rfl | (dsimp only; split <;> first | rfl | exact getD_no rfl) | exact scl_no (by apply_assumption) _), ?_⟩)⟩ rfl rfl rfl (Nat.le_of_ble_eq_true rfl) ?_
    refine ARun.append (id := 1) (sz := 1) (n := v.l.length) (m := 1) (by_ := 8) (z := (.int .i64 0)) (f := inC v.l) (g := fun _ jc => ([.int .i64 (x6 : Int)] : List AV).getD jc (.con undef)) (h := fun ia ja => if ia < v.l.length then (inC v.l) ia ja else (fun _ jc => ([.int .i64 (x6 : Int)] : List AV).getD jc (.con undef)) (ia - v.l.length) ja) rfl (by kernel_rfl) rfl vd3_sl_30 (.own (.tmp rfl) rfl rfl rfl (Nat.le_refl _) (fun _ _ _ _ => rfl)) (.own (.tmp rfl) rfl rfl (Nat.le_refl _) (fun _ _ _ _ => rfl)) (by decide) (fun i j hi hj => match j, hj with | 0, _ => rfl | _ + 1, h => absurd h (by omega)) (fun _ _ _ _ => rfl) (by omega) (by omega) ⟨rfl, (by repeat first | exact trivial | refine ⟨by decide, by first | rfl | exact trivial | (intro i j; first | rfl | exact getD_no rfl | (dsimp only; split <;> first | rfl | exact getD_no rfl) | exact scl_no (by apply_assumption) _), ?_⟩)⟩ (fun i j => by dsimp only; (repeat' split) <;> first | rfl | exact getD_no rfl) rfl rfl (Nat.le_of_ble_eq_true rfl) ?_
    refine ARun.pure (PureOp.assign rfl (.tmp rfl)) rfl rfl (Nat.le_of_ble_eq_true rfl) ?_
    refine ARun.nil ?_
    refine AW.region ?_
    refine ARun.pure (PureOp.move rfl (.tmp rfl)) rfl rfl (Nat.le_of_ble_eq_true rfl) ?_
    refine ARun.pure (PureOp.sub (c := ((((3 + x1 / 8) - (v.l.length + 1)) : Nat) : Int)) rfl (.tmp rfl) .int (by rw [wrap_id (by omega) (by omega)]; omega)) rfl rfl (Nat.le_of_ble_eq_true rfl) ?_
    refine ARun.pure (PureOp.assign rfl (.tmp rfl)) rfl rfl (Nat.le_of_ble_eq_true rfl) ?_
    refine ARun.nil ?_
    have hln : (v.l ++ [(x6 : Int)]).length = v.l.length + 1 := by rw [List.length_append]; rfl
    exact ⟨⟨(v.l ++ [(x6 : Int)]), p7, sd8⟩, (swp 900 1), ⟨by show (v.l ++ [(x6 : Int)]).length ≤ _; omega, by show p7 ≤ _ + 2 * (v.l ++ [(x6 : Int)]).length; omega, by show sd8 < _; omega, by show _ ≤ p7; omega, allRi_app hv5 ⟨by omega, by omega⟩⟩, by show (3 + x1 / 8) - (v.l ++ [(x6 : Int)]).length < (3 + x1 / 8) - v.l.length; omega, swp_inj, (swp_fix rfl rfl), ⟨⟨⟨_, rfl, rfl⟩, ⟨_, rfl, congrArg (fun z : Nat => SV.one (.own 1 1 z)) hln.symm⟩, ⟨_, rfl, congrArg (fun z : Nat => SV.one (.int .i64 ((((3 + x1 / 8) - z) : Nat) : Int))) hln.symm⟩, trivial⟩, ⟨⟨_, rfl, rfl, Nat.le_of_eq hln, fun ia ja hi hj => in_app (hln ▸ hi) hj⟩, ⟨_, rfl, rfl, Nat.le_refl _, fun _ _ _ _ => rfl⟩, trivial⟩⟩⟩
  · have _u := True.intro
    replace hb5 := of_decide_eq_false hb5
    have h00 : 0 < v.l.length := by omega
    refine AW.exit ?_
    refine AW.seq ?_
    refine AW.seq ?_
    refine AW.region ?_
    refine ARun.pure (PureOp.move rfl (.tmp rfl)) rfl rfl (Nat.le_of_ble_eq_true rfl) ?_
    refine ARun.cur (id := 1000000) rfl (v_One n F hF v.p v.s (by omega) (by omega) 20 (by omega)) vd3_ca_62 ⟨.inr (.tmp rfl), .inl ⟨_, .int, .int⟩, trivial⟩ rfl rfl rfl (Nat.le_of_ble_eq_true rfl) (fun x10 p11 sd12 hc13 => ?_)
    have hc13c := hc13
    obtain ⟨hc131, hc132, hc133⟩ := hc13c
    refine ARun.nil ?_
    refine AW.cond (.tmp rfl) (fun hb14 => ?_) (fun hb14 => ?_)
    · have _u := True.intro
      refine AW.region ?_
      refine ARun.pure (PureOp.move rfl (.tmp rfl)) rfl rfl (Nat.le_of_ble_eq_true rfl) ?_
      refine ARun.pure (PureOp.move rfl (.tmp rfl)) rfl rfl (Nat.le_of_ble_eq_true rfl) ?_
      refine ARun.fresh (FreshOp.trip (a1 := (-1)) (a2 := 40) (a3 := 41) rfl .int .int .int Try.underlying30 (by kernel_rfl)) rfl rfl (Nat.le_of_ble_eq_true rfl) ?_
      refine ARun.cur (id := 1000000) rfl (v_Among n F hF p11 sd12 (by omega) (by omega) [(-1 : Int), 40, 41] ⟨by decide, by decide⟩) vd3_ca_73 ⟨.inr (.tmp rfl), .inl ⟨_, (.tmp rfl), .frs⟩, trivial⟩ rfl rfl rfl (Nat.le_of_ble_eq_true rfl) (fun x15 p16 sd17 hc18 => ?_)
      obtain ⟨hc18x, hc18c⟩ := hc18
      obtain ⟨hc181, hc182, hc183⟩ := hc18c
      refine ARun.pure (PureOp.indexOwn (i := 0) rfl (.tmp rfl) vd3_el_30_1 .int rfl (show 0 < v.l.length from h00)) rfl rfl (Nat.le_of_ble_eq_true rfl) ?_
      refine ARun.storeElem rfl (.tmp rfl) (.tmp rfl) trivial rfl (show 0 < v.l.length from h00) rfl vd3_sz_3_1 rfl rfl ?_
      refine ARun.nil ?_
      refine AW.seq ?_
      refine AW.region ?_
      refine ARun.pure (PureOp.move rfl (.tmp rfl)) rfl rfl (Nat.le_of_ble_eq_true rfl) ?_
      refine ARun.pure (PureOp.assign rfl (.tmp rfl)) rfl rfl (Nat.le_of_ble_eq_true rfl) ?_
      refine ARun.nil ?_
      exact AW.ret (show ∃ x p' s' t, _ ∧ ResL _ _ [.tmp 2] t ∧ _ ∧ _ from ⟨(v.l.set 0 x15), p16, sd17, _, ⟨⟨by rw [List.length_set]; show v.l.length ≤ 4; omega, allRi_set hv5 (amr hc18x)⟩, ⟨by omega, by omega, by omega⟩⟩, .inl ⟨_, rfl, .tmp rfl⟩, fw_in rfl rfl rfl (Nat.le_of_eq (List.length_set ..)) (List.length_set ..).symm (fun _ _ _ hj => in_set h00 hj), rfl⟩)
    · have _u := True.intro
      refine AW.skip ?_
      refine AW.seq ?_
      refine AW.region ?_
      refine ARun.pure (PureOp.move rfl (.tmp rfl)) rfl rfl (Nat.le_of_ble_eq_true rfl) ?_
      refine ARun.pure (PureOp.assign rfl (.tmp rfl)) rfl rfl (Nat.le_of_ble_eq_true rfl) ?_
      refine ARun.nil ?_
      exact AW.ret (show ∃ x p' s' t, _ ∧ ResL _ _ [.tmp 2] t ∧ _ ∧ _ from ⟨v.l, p11, sd12, _, ⟨⟨by show v.l.length ≤ 4; omega, hv5⟩, ⟨by omega, by omega, by omega⟩⟩, .inl ⟨_, rfl, .tmp rfl⟩, fw_in rfl rfl rfl (Nat.le_refl _) rfl (fun _ _ _ _ => rfl), rfl⟩)

theorem v_DrawCutOf (n : Nat) (F : Nat → Nat) (hF : ∀ i, F i < 256) : FnE Try.prog 38 [.one (.lst 1 n (fun i _ => .int .u8 ((F i : Nat) : Int)))] (fun (x : Nat × List GEvent × Int) => ((1 ≤ x.1 ∧ x.1 ≤ 4) ∧ x.2.1.length ≤ 41 ∧ allEv x.2.1) ∧ -1 ≤ x.2.2 ∧ x.2.2 ≤ 42) (fun (x : Nat × List GEvent × Int) => .tup3 (.one (.int .i64 (x.1 : Int))) (.one (evsD x.2.1)) (.one (.int .i64 x.2.2))) := by
  refine FnE.of_body (fn := Try.f38) Try.func38 rfl (Nat.le_of_ble_eq_true rfl) ?_
  intro w0
  show AW _ 24 _ _ _ _
  refine AW.cv (t := 0) rfl (fun c0 => ?_)
  refine AW.seq ?_
  refine AW.region ?_
  refine ARun.pure (PureOp.assign rfl .int) rfl rfl (Nat.le_of_ble_eq_true rfl) ?_
  refine ARun.pure (PureOp.assign rfl .con) rfl rfl (Nat.le_of_ble_eq_true rfl) ?_
  refine ARun.pure (PureOp.assign rfl .int) rfl rfl (Nat.le_of_ble_eq_true rfl) ?_
  refine ARun.nil ?_
  refine AW.seq ?_
  refine AW.region ?_
  refine ARun.pure (PureOp.move rfl (.tmp rfl)) rfl rfl (Nat.le_of_ble_eq_true rfl) ?_
  refine ARun.pure (PureOp.build (ys := [.cv c0 (.lst 1 n (fun i _ => .int .u8 ((F i : Nat) : Int)))]) (l := [.con (.slice none 0 0), .int .i64 0, .int .u64 0]) (pl := [(0, 1), (1, 1), (2, 1)]) (z := (.agg #[.slice none 0 0, .int .i64 0, .int .u64 0])) rfl (by kernel_rfl) (by kernel_rfl) (fun _ _ _ => ⟨_, _, rfl, rfl, ⟨_, _, rfl, rfl, ⟨_, _, rfl, rfl, rfl⟩⟩⟩) ⟨(.tmp rfl), trivial, rfl, trivial⟩ rfl) rfl rfl (Nat.le_of_ble_eq_true rfl) ?_
  refine ARun.box (id := 0) rfl (.tmp rfl) (SV.cells_of (by exact ⟨trivial, trivial, trivial, trivial⟩)) ⟨rfl, (by repeat first | exact trivial | refine ⟨by decide, by first | rfl | exact trivial | (intro i j; first | rfl | exact getD_no rfl | (dsimp only; split <;> first | rfl | exact getD_no rfl) | exact scl_no (by apply_assumption) _), ?_⟩)⟩ rfl rfl rfl (Nat.le_of_ble_eq_true rfl) ?_
  refine ARun.pure (PureOp.assign rfl (.tmp rfl)) rfl rfl (Nat.le_of_ble_eq_true rfl) ?_
  refine ARun.nil ?_
  refine AW.seq ?_
  refine AW.region ?_
  refine ARun.pure (PureOp.move rfl (.tmp rfl)) rfl rfl (Nat.le_of_ble_eq_true rfl) ?_
  refine ARun.cur (id := 0) rfl (v_Events n F hF 0 0 (by omega) (by omega)) vd3_ca_57 ⟨.inr (.tmp rfl), trivial⟩ rfl rfl rfl (Nat.le_of_ble_eq_true rfl) (fun x1 p2 sd3 hc4 => ?_)
  obtain ⟨⟨hc4x, hc4l, hc4r⟩, hc4c⟩ := hc4
  obtain ⟨hc41, hc42, hc43⟩ := hc4c
  refine ARun.pure (PureOp.move rfl (.tmp rfl)) rfl rfl (Nat.le_of_ble_eq_true rfl) ?_
  refine ARun.pure (PureOp.ext2a rfl (.tmp rfl)) rfl rfl (Nat.le_of_ble_eq_true rfl) ?_
  refine ARun.pure (PureOp.ext2b rfl (.tmp rfl)) rfl rfl (Nat.le_of_ble_eq_true rfl) ?_
  refine ARun.pure (PureOp.assign rfl (.tmp rfl)) rfl rfl (Nat.le_of_ble_eq_true rfl) ?_
  refine ARun.pure (PureOp.assign rfl (.tmp rfl)) rfl rfl (Nat.le_of_ble_eq_true rfl) ?_
  refine ARun.nil ?_
  refine AW.seq ?_
  refine AW.region ?_
  refine ARun.pure (PureOp.move rfl (.tmp rfl)) rfl rfl (Nat.le_of_ble_eq_true rfl) ?_
  refine ARun.pure (PureOp.move rfl (.tmp rfl)) rfl rfl (Nat.le_of_ble_eq_true rfl) ?_
  refine ARun.pure (PureOp.move rfl (.tmp rfl)) rfl rfl (Nat.le_of_ble_eq_true rfl) ?_
  refine ARun.pure (PureOp.move rfl (.tmp rfl)) rfl rfl (Nat.le_of_ble_eq_true rfl) ?_
  refine ARun.pure (PureOp.lenLst rfl (.frs (.tmp rfl)) vd3_sl_26) rfl rfl (Nat.le_of_ble_eq_true rfl) ?_
  refine ARun.pure (PureOp.add (c := ((x1.2.length + 2 : Nat) : Int)) rfl (.tmp rfl) .int (by rw [wrap_id (by omega) (by omega)]; omega)) rfl rfl (Nat.le_of_ble_eq_true rfl) ?_
  refine ARun.cur (id := 0) rfl (v_Pick n F hF p2 sd3 (by omega) (by omega) (x1.2.length + 2) (by omega)) vd3_ca_58 ⟨.inr (.tmp rfl), .inl ⟨_, (.tmp rfl), .int⟩, trivial⟩ rfl rfl rfl (Nat.le_of_ble_eq_true rfl) (fun x5 p6 sd7 hc8 => ?_)
  obtain ⟨hc8x, hc8c⟩ := hc8
  obtain ⟨hc81, hc82, hc83⟩ := hc8c
  refine ARun.pure (PureOp.sub (c := (x5 : Int) - 1) rfl (.tmp rfl) .int (wrap_id (by omega) (by omega))) rfl rfl (Nat.le_of_ble_eq_true rfl) ?_
  refine ARun.pure (PureOp.assign rfl (.tmp rfl)) rfl rfl (Nat.le_of_ble_eq_true rfl) ?_
  refine ARun.pure (PureOp.assign rfl (.tmp rfl)) rfl rfl (Nat.le_of_ble_eq_true rfl) ?_
  refine ARun.pure (PureOp.assign rfl (.tmp rfl)) rfl rfl (Nat.le_of_ble_eq_true rfl) ?_
  refine ARun.nil ?_
  have hk : -1 ≤ (x5 : Int) - 1 ∧ (x5 : Int) - 1 ≤ 42 := by rcases hc8x with hx | hx <;> omega
  exact AW.ret (show ∃ x s, _ ∧ ResL _ _ [.tmp 2, .tmp 3, .tmp 4] s ∧ FvS _ s _ from ⟨⟨x1.1, x1.2, (x5 : Int) - 1⟩, _, ⟨⟨hc4x, hc4l, hc4r⟩, hk⟩, .inr (.inr (.inl ⟨_, _, _, _, _, _, rfl, .tmp rfl, .tmp rfl, .tmp rfl, rfl⟩)), ⟨.int, .frs, .int⟩⟩)

theorem v_DrawIsCut (n : Nat) (F : Nat → Nat) (hF : ∀ i, F i < 256) : FnE Try.prog 41 [.one (.lst 1 n (fun i _ => .int .u8 ((F i : Nat) : Int)))] (fun (x : Nat × List GEvent × List Int) => ((1 ≤ x.1 ∧ x.1 ≤ 4) ∧ x.2.1.length ≤ 41 ∧ allEv x.2.1) ∧ x.2.2.length ≤ 4 ∧ allRi x.2.2) (fun (x : Nat × List GEvent × List Int) => .tup3 (.one (.int .i64 (x.1 : Int))) (.one (evsD x.2.1)) (.one (intsD x.2.2))) := by
  refine FnE.of_body (fn := Try.f41) Try.func41 rfl (Nat.le_of_ble_eq_true rfl) ?_
  intro w0
  show AW _ 31 _ _ _ _
  refine AW.cv (t := 0) rfl (fun c0 => ?_)
  refine AW.seq ?_
  refine AW.region ?_
  refine ARun.pure (PureOp.assign rfl .int) rfl rfl (Nat.le_of_ble_eq_true rfl) ?_
  refine ARun.pure (PureOp.assign rfl .con) rfl rfl (Nat.le_of_ble_eq_true rfl) ?_
  refine ARun.pure (PureOp.assign rfl .con) rfl rfl (Nat.le_of_ble_eq_true rfl) ?_
  refine ARun.nil ?_
  refine AW.seq ?_
  refine AW.region ?_
  refine ARun.pure (PureOp.move rfl (.tmp rfl)) rfl rfl (Nat.le_of_ble_eq_true rfl) ?_
  refine ARun.pure (PureOp.build (ys := [.cv c0 (.lst 1 n (fun i _ => .int .u8 ((F i : Nat) : Int)))]) (l := [.con (.slice none 0 0), .int .i64 0, .int .u64 0]) (pl := [(0, 1), (1, 1), (2, 1)]) (z := (.agg #[.slice none 0 0, .int .i64 0, .int .u64 0])) rfl (by kernel_rfl) (by kernel_rfl) (fun _ _ _ => ⟨_, _, rfl, rfl, ⟨_, _, rfl, rfl, ⟨_, _, rfl, rfl, rfl⟩⟩⟩) ⟨(.tmp rfl), trivial, rfl, trivial⟩ rfl) rfl rfl (Nat.le_of_ble_eq_true rfl) ?_
  refine ARun.box (id := 0) rfl (.tmp rfl) (SV.cells_of (by exact ⟨trivial, trivial, trivial, trivial⟩)) ⟨rfl, (by repeat first | exact trivial | refine ⟨by decide, by first | rfl | exact trivial | (intro i j; first | rfl | exact getD_no rfl | (dsimp only; split <;> first | rfl | exact getD_no rfl) | exact scl_no (by apply_assumption) _), ?_⟩)⟩ rfl rfl rfl (Nat.le_of_ble_eq_true rfl) ?_
  refine ARun.pure (PureOp.assign rfl (.tmp rfl)) rfl rfl (Nat.le_of_ble_eq_true rfl) ?_
  refine ARun.nil ?_
  refine AW.seq ?_
  refine AW.region ?_
  refine ARun.pure (PureOp.move rfl (.tmp rfl)) rfl rfl (Nat.le_of_ble_eq_true rfl) ?_
  refine ARun.cur (id := 0) rfl (v_Events n F hF 0 0 (by omega) (by omega)) vd3_ca_57 ⟨.inr (.tmp rfl), trivial⟩ rfl rfl rfl (Nat.le_of_ble_eq_true rfl) (fun x1 p2 sd3 hc4 => ?_)
  obtain ⟨⟨hc4x, hc4l, hc4r⟩, hc4c⟩ := hc4
  obtain ⟨hc41, hc42, hc43⟩ := hc4c
  refine ARun.pure (PureOp.move rfl (.tmp rfl)) rfl rfl (Nat.le_of_ble_eq_true rfl) ?_
  refine ARun.pure (PureOp.ext2a rfl (.tmp rfl)) rfl rfl (Nat.le_of_ble_eq_true rfl) ?_
  refine ARun.pure (PureOp.ext2b rfl (.tmp rfl)) rfl rfl (Nat.le_of_ble_eq_true rfl) ?_
  refine ARun.pure (PureOp.assign rfl (.tmp rfl)) rfl rfl (Nat.le_of_ble_eq_true rfl) ?_
  refine ARun.pure (PureOp.assign rfl (.tmp rfl)) rfl rfl (Nat.le_of_ble_eq_true rfl) ?_
  refine ARun.nil ?_
  refine AW.seq ?_
  refine AW.region ?_
  refine ARun.pure (PureOp.assign rfl .con) rfl rfl (Nat.le_of_ble_eq_true rfl) ?_
  refine ARun.nil ?_
  refine AW.seq ?_
  refine AW.seq ?_
  refine AW.region ?_
  refine ARun.pure (PureOp.assign rfl .int) rfl rfl (Nat.le_of_ble_eq_true rfl) ?_
  refine ARun.nil ?_
  refine AW.block ?_
  refine AW.nilSlot 8 900 1 (inC []) rfl ⟨rfl, (by repeat first | exact trivial | refine ⟨by decide, by first | rfl | exact trivial | (intro i j; first | rfl | exact getD_no rfl | (dsimp only; split <;> first | rfl | exact getD_no rfl) | exact scl_no (by apply_assumption) _), ?_⟩)⟩ ?_
  -- objects are renamed
  refine AW.loopR (ι := InS) (fun v => ⟨[(5, .one (.ptr 0 3 0 0)), (6, .one (.int .i64 (x1.1 : Int))), (7, .one (.frs (.lst 2 x1.2.length (evC x1.2)))), (8, .one (.own 900 1 v.l.length)), (9, .one (.int .i64 (v.l.length : Int)))], [(0, .cells [.cv c0 (.lst 1 n (fun i _ => .int .u8 ((F i : Nat) : Int))), .int .i64 (v.p : Int), .int .u64 ((v.s : Nat) : Int)]), (900, .arr 1 v.l.length (inC v.l))]⟩) (fun v => v.l.length ≤ x1.1 ∧ v.p ≤ p2 + 2 * v.l.length ∧ v.s < 18446744073709551616 ∧ p2 ≤ v.p ∧ allRi v.l) (fun v => x1.1 - v.l.length) ⟨[], p2, sd3⟩ ⟨Nat.zero_le _, by show p2 ≤ p2 + 2 * 0; omega, by show sd3 < 18446744073709551616; omega, Nat.le_refl _, fun _ he => (nomatch he)⟩ ⟨⟨⟨_, rfl, rfl⟩, ⟨_, rfl, rfl⟩, ⟨_, rfl, rfl⟩, ⟨_, rfl, rfl⟩, ⟨_, rfl, rfl⟩, trivial⟩, ⟨⟨_, rfl, rfl, Nat.le_refl _, fun _ _ _ _ => rfl⟩, ⟨_, rfl, rfl, Nat.le_refl _, fun _ _ _ _ => rfl⟩, trivial⟩⟩ ?_
  intro v hv
  obtain ⟨hv1, hv2, hv3, hv4, hv5⟩ := hv
  refine AW.seq ?_
  refine AW.seq ?_
  refine AW.region ?_
  refine ARun.pure (PureOp.move rfl (.tmp rfl)) rfl rfl (Nat.le_of_ble_eq_true rfl) ?_
  refine ARun.pure (PureOp.move rfl (.tmp rfl)) rfl rfl (Nat.le_of_ble_eq_true rfl) ?_
  refine ARun.pure (PureOp.intOp rfl (.tmp rfl) (.tmp rfl) rfl) rfl rfl (Nat.le_of_ble_eq_true rfl) ?_
  refine ARun.nil ?_
  refine AW.cond (.tmp rfl) (fun hb5 => ?_) (fun hb5 => ?_)
  · have _u := True.intro
    obtain ⟨⟨hn1, hn2⟩, hl4⟩ : (1 ≤ x1.1 ∧ x1.1 ≤ 4) ∧ _ := ⟨hc4x, hc4l⟩
    replace hb5 := of_decide_eq_true hb5
    have hkl : v.l.length < x1.1 := by omega
    refine AW.skip ?_
    refine AW.seq ?_
    refine AW.block ?_
    refine AW.region ?_
    refine ARun.pure (PureOp.move rfl (.tmp rfl)) rfl rfl (Nat.le_of_ble_eq_true rfl) ?_
    refine ARun.pure (PureOp.move rfl (.tmp rfl)) rfl rfl (Nat.le_of_ble_eq_true rfl) ?_
    refine ARun.cur (id := 0) rfl (v_Pick n F hF v.p v.s (by omega) (by omega) 4 (by omega)) vd3_ca_58 ⟨.inr (.tmp rfl), .inl ⟨_, .int, .int⟩, trivial⟩ rfl rfl rfl (Nat.le_of_ble_eq_true rfl) (fun x6 p7 sd8 hc9 => ?_)
    obtain ⟨hc9x, hc9c⟩ := hc9
    obtain ⟨hc91, hc92, hc93⟩ := hc9c
    refine ARun.slice1 (id := 1) (z := (.int .i64 0)) (by_ := 8) rfl (.tmp rfl) trivial (by kernel_rfl) rfl rfl (by decide) (by decide) ⟨rfl, (by repeat first | exact trivial | refine ⟨by decide, by first | rfl | exact trivial | (intro i j; first | rfl | exact getD_no rfl | (dsimp only; split <;> first | rfl | exact getD_no rfl) | exact scl_no (by apply_assumption) _), ?_⟩)⟩ rfl rfl rfl (Nat.le_of_ble_eq_true rfl) ?_
    refine ARun.append (id := 2) (sz := 1) (n := v.l.length) (m := 1) (by_ := 8) (z := (.int .i64 0)) (f := inC v.l) (g := fun _ jc => ([.int .i64 (x6 : Int)] : List AV).getD jc (.con undef)) (h := fun ia ja => if ia < v.l.length then (inC v.l) ia ja else (fun _ jc => ([.int .i64 (x6 : Int)] : List AV).getD jc (.con undef)) (ia - v.l.length) ja) rfl (by kernel_rfl) rfl vd3_sl_30 (.own (.tmp rfl) rfl rfl rfl (Nat.le_refl _) (fun _ _ _ _ => rfl)) (.own (.tmp rfl) rfl rfl (Nat.le_refl _) (fun _ _ _ _ => rfl)) (by decide) (fun i j hi hj => match j, hj with | 0, _ => rfl | _ + 1, h => absurd h (by omega)) (fun _ _ _ _ => rfl) (by omega) (by omega) ⟨rfl, (by repeat first | exact trivial | refine ⟨by decide, by first | rfl | exact trivial | (intro i j; first | rfl | exact getD_no rfl | (dsimp only; split <;> first | rfl | exact getD_no rfl) | exact scl_no (by apply_assumption) _), ?_⟩)⟩ (fun i j => by dsimp only; (repeat' split) <;> first | rfl | exact getD_no rfl) rfl rfl (Nat.le_of_ble_eq_true rfl) ?_
    refine ARun.pure (PureOp.assign rfl (.tmp rfl)) rfl rfl (Nat.le_of_ble_eq_true rfl) ?_
    refine ARun.nil ?_
    refine AW.region ?_
    refine ARun.pure (PureOp.move rfl (.tmp rfl)) rfl rfl (Nat.le_of_ble_eq_true rfl) ?_
    refine ARun.pure (PureOp.add (c := ((v.l.length + 1 : Nat) : Int)) rfl (.tmp rfl) .int (by rw [wrap_id (by omega) (by omega)]; omega)) rfl rfl (Nat.le_of_ble_eq_true rfl) ?_
    refine ARun.pure (PureOp.assign rfl (.tmp rfl)) rfl rfl (Nat.le_of_ble_eq_true rfl) ?_
    refine ARun.nil ?_
    have hln : (v.l ++ [(x6 : Int)]).length = v.l.length + 1 := by rw [List.length_append]; rfl
    exact ⟨⟨(v.l ++ [(x6 : Int)]), p7, sd8⟩, (swp 900 2), ⟨by show (v.l ++ [(x6 : Int)]).length ≤ _; omega, by show p7 ≤ _ + 2 * (v.l ++ [(x6 : Int)]).length; omega, by show sd8 < _; omega, by show _ ≤ p7; omega, allRi_app hv5 ⟨by omega, by omega⟩⟩, by show x1.1 - (v.l ++ [(x6 : Int)]).length < x1.1 - v.l.length; omega, swp_inj, (swp_fix rfl rfl), ⟨⟨⟨_, rfl, rfl⟩, ⟨_, rfl, rfl⟩, ⟨_, rfl, rfl⟩, ⟨_, rfl, congrArg (fun z : Nat => SV.one (.own 2 1 z)) hln.symm⟩, ⟨_, rfl, congrArg (fun z : Nat => SV.one (.int .i64 (z : Int))) hln.symm⟩, trivial⟩, ⟨⟨_, rfl, rfl, Nat.le_refl _, fun _ _ _ _ => rfl⟩, ⟨_, rfl, rfl, Nat.le_of_eq hln, fun ia ja hi hj => in_app (hln ▸ hi) hj⟩, trivial⟩⟩⟩
  · have _u := True.intro
    obtain ⟨⟨hn1, hn2⟩, hl4⟩ : (1 ≤ x1.1 ∧ x1.1 ≤ 4) ∧ _ := ⟨hc4x, hc4l⟩
    replace hb5 := of_decide_eq_false hb5
    have hkl : ¬ v.l.length < x1.1 := by omega
    refine AW.exit ?_
    refine AW.seq ?_
    refine AW.region ?_
    refine ARun.pure (PureOp.move rfl (.tmp rfl)) rfl rfl (Nat.le_of_ble_eq_true rfl) ?_
    refine ARun.pure (PureOp.move rfl (.tmp rfl)) rfl rfl (Nat.le_of_ble_eq_true rfl) ?_
    refine ARun.pure (PureOp.move rfl (.tmp rfl)) rfl rfl (Nat.le_of_ble_eq_true rfl) ?_
    refine ARun.pure (PureOp.assign rfl (.tmp rfl)) rfl rfl (Nat.le_of_ble_eq_true rfl) ?_
    refine ARun.pure (PureOp.assign rfl (.tmp rfl)) rfl rfl (Nat.le_of_ble_eq_true rfl) ?_
    refine ARun.pure (PureOp.assign rfl (.tmp rfl)) rfl rfl (Nat.le_of_ble_eq_true rfl) ?_
    refine ARun.nil ?_
    exact AW.ret (show ∃ x s, _ ∧ ResL _ _ [.tmp 2, .tmp 3, .tmp 4] s ∧ FvS _ s _ from ⟨⟨x1.1, x1.2, v.l⟩, _, ⟨⟨hc4x, hc4l, hc4r⟩, by show v.l.length ≤ 4; omega, hv5⟩, .inr (.inr (.inl ⟨_, _, _, _, _, _, rfl, .tmp rfl, .tmp rfl, .tmp rfl, rfl⟩)), ⟨.int, .frs, fv_in rfl rfl (Nat.le_refl _) rfl (fun _ _ _ _ => rfl)⟩⟩)

theorem v_DrawLessClock (n : Nat) (F : Nat → Nat) (hF : ∀ i, F i < 256) : FnE Try.prog 36 [.one (.lst 1 n (fun i _ => .int .u8 ((F i : Nat) : Int)))] (fun (x : List Int × List Int) => (x.1.length ≤ 4 ∧ allRi x.1) ∧ x.2.length ≤ 4 ∧ allRi x.2) (fun (x : List Int × List Int) => .tup2 (.one (intsD x.1)) (.one (intsD x.2))) := by
  refine FnE.of_body (fn := Try.f36) Try.func36 rfl (Nat.le_of_ble_eq_true rfl) ?_
  intro w0
  show AW _ 20 _ _ _ _
  refine AW.cv (t := 0) rfl (fun c0 => ?_)
  refine AW.seq ?_
  refine AW.region ?_
  refine ARun.pure (PureOp.assign rfl .con) rfl rfl (Nat.le_of_ble_eq_true rfl) ?_
  refine ARun.pure (PureOp.assign rfl .con) rfl rfl (Nat.le_of_ble_eq_true rfl) ?_
  refine ARun.nil ?_
  refine AW.seq ?_
  refine AW.region ?_
  refine ARun.pure (PureOp.move rfl (.tmp rfl)) rfl rfl (Nat.le_of_ble_eq_true rfl) ?_
  refine ARun.pure (PureOp.build (ys := [.cv c0 (.lst 1 n (fun i _ => .int .u8 ((F i : Nat) : Int)))]) (l := [.con (.slice none 0 0), .int .i64 0, .int .u64 0]) (pl := [(0, 1), (1, 1), (2, 1)]) (z := (.agg #[.slice none 0 0, .int .i64 0, .int .u64 0])) rfl (by kernel_rfl) (by kernel_rfl) (fun _ _ _ => ⟨_, _, rfl, rfl, ⟨_, _, rfl, rfl, ⟨_, _, rfl, rfl, rfl⟩⟩⟩) ⟨(.tmp rfl), trivial, rfl, trivial⟩ rfl) rfl rfl (Nat.le_of_ble_eq_true rfl) ?_
  refine ARun.box (id := 0) rfl (.tmp rfl) (SV.cells_of (by exact ⟨trivial, trivial, trivial, trivial⟩)) ⟨rfl, (by repeat first | exact trivial | refine ⟨by decide, by first | rfl | exact trivial | (intro i j; first | rfl | exact getD_no rfl | (dsimp only; split <;> first | rfl | exact getD_no rfl) | exact scl_no (by apply_assumption) _), ?_⟩)⟩ rfl rfl rfl (Nat.le_of_ble_eq_true rfl) ?_
  refine ARun.pure (PureOp.assign rfl (.tmp rfl)) rfl rfl (Nat.le_of_ble_eq_true rfl) ?_
  refine ARun.nil ?_
  refine AW.seq ?_
  refine AW.region ?_
  refine ARun.pure (PureOp.move rfl (.tmp rfl)) rfl rfl (Nat.le_of_ble_eq_true rfl) ?_
  refine ARun.cur (id := 0) rfl (v_Clock n F hF 0 0 (by omega) (by omega)) vd3_ca_61 ⟨.inr (.tmp rfl), trivial⟩ rfl rfl rfl (Nat.le_of_ble_eq_true rfl) (fun x1 p2 sd3 hc4 => ?_)
  obtain ⟨⟨hc4x, hc4r⟩, hc4c⟩ := hc4
  obtain ⟨hc41, hc42, hc43⟩ := hc4c
  refine ARun.pure (PureOp.assign rfl (.tmp rfl)) rfl rfl (Nat.le_of_ble_eq_true rfl) ?_
  refine ARun.nil ?_
  refine AW.seq ?_
  refine AW.seq ?_
  refine AW.region ?_
  refine ARun.pure (PureOp.move rfl (.tmp rfl)) rfl rfl (Nat.le_of_ble_eq_true rfl) ?_
  refine ARun.cur (id := 0) rfl (v_One n F hF p2 sd3 (by omega) (by omega) 4 (by omega)) vd3_ca_62 ⟨.inr (.tmp rfl), .inl ⟨_, .int, .int⟩, trivial⟩ rfl rfl rfl (Nat.le_of_ble_eq_true rfl) (fun x5 p6 sd7 hc8 => ?_)
  have hc8c := hc8
  obtain ⟨hc81, hc82, hc83⟩ := hc8c
  refine ARun.nil ?_
  refine AW.cond (.tmp rfl) (fun hb9 => ?_) (fun hb9 => ?_)
  · have _u := True.intro
    refine AW.seq ?_
    refine AW.region ?_
    refine ARun.pure (PureOp.move rfl (.tmp rfl)) rfl rfl (Nat.le_of_ble_eq_true rfl) ?_
    refine ARun.slice0 (id := 1) (z := (.int .i64 0)) (sz := 1) (by_ := 8) rfl (by kernel_rfl) (fun _ _ => .con undef) (fun _ _ => rfl) ⟨rfl, (by repeat first | exact trivial | refine ⟨by decide, by first | rfl | exact trivial | (intro i j; first | rfl | exact getD_no rfl | (dsimp only; split <;> first | rfl | exact getD_no rfl) | exact scl_no (by apply_assumption) _), ?_⟩)⟩ rfl rfl (Nat.le_of_ble_eq_true rfl) ?_
    refine ARun.pure (PureOp.move rfl (.tmp rfl)) rfl rfl (Nat.le_of_ble_eq_true rfl) ?_
    refine ARun.append (id := 2) (sz := 1) (n := 0) (m := x1.length) (by_ := 8) (z := (.int .i64 0)) (f := fun _ _ => .con undef) (g := inC x1) (h := fun ia ja => if ia < 0 then (fun _ _ => .con undef) ia ja else (inC x1) (ia - 0) ja) rfl (by kernel_rfl) rfl vd3_sl_30 (.own (.tmp rfl) rfl rfl rfl (Nat.le_refl _) (fun _ _ _ _ => rfl)) (.lst (.frs (.tmp rfl))) (by decide) (fun i j hi hj => match j, hj with | 0, _ => rfl | _ + 1, h => absurd h (by omega)) (fun _ _ _ _ => rfl) (by omega) (by omega) ⟨rfl, (by repeat first | exact trivial | refine ⟨by decide, by first | rfl | exact trivial | (intro i j; first | rfl | exact getD_no rfl | (dsimp only; split <;> first | rfl | exact getD_no rfl) | exact scl_no (by apply_assumption) _), ?_⟩)⟩ (fun i j => by dsimp only; (repeat' split) <;> first | rfl | exact getD_no rfl) rfl rfl (Nat.le_of_ble_eq_true rfl) ?_
    refine ARun.pure (PureOp.assign rfl (.tmp rfl)) rfl rfl (Nat.le_of_ble_eq_true rfl) ?_
    refine ARun.pure (PureOp.assign rfl (.tmp rfl)) rfl rfl (Nat.le_of_ble_eq_true rfl) ?_
    refine ARun.nil ?_
    exact AW.ret (show ∃ x s, _ ∧ ResL _ _ [.tmp 2, .tmp 3] s ∧ FvS _ s _ from ⟨⟨x1, x1⟩, _, ⟨⟨hc4x, hc4r⟩, hc4x, hc4r⟩, .inr (.inl ⟨_, _, _, _, rfl, .tmp rfl, .tmp rfl, rfl⟩), ⟨.frs, fv_in rfl rfl (Nat.le_of_eq (Nat.zero_add _).symm) (Nat.zero_add _) (fun i j _ _ => @if_neg (i < 0) _ (Nat.not_lt_zero i) AV (.con undef) (inC x1 i j))⟩⟩)
  · have _u := True.intro
    refine AW.skip ?_
    refine AW.seq ?_
    refine AW.region ?_
    refine ARun.pure (PureOp.move rfl (.tmp rfl)) rfl rfl (Nat.le_of_ble_eq_true rfl) ?_
    refine ARun.pure (PureOp.move rfl (.tmp rfl)) rfl rfl (Nat.le_of_ble_eq_true rfl) ?_
    refine ARun.cur (id := 0) rfl (v_Clock n F hF p6 sd7 (by omega) (by omega)) vd3_ca_61 ⟨.inr (.tmp rfl), trivial⟩ rfl rfl rfl (Nat.le_of_ble_eq_true rfl) (fun x10 p11 sd12 hc13 => ?_)
    obtain ⟨⟨hc13x, hc13r⟩, hc13c⟩ := hc13
    obtain ⟨hc131, hc132, hc133⟩ := hc13c
    refine ARun.pure (PureOp.assign rfl (.tmp rfl)) rfl rfl (Nat.le_of_ble_eq_true rfl) ?_
    refine ARun.pure (PureOp.assign rfl (.tmp rfl)) rfl rfl (Nat.le_of_ble_eq_true rfl) ?_
    refine ARun.nil ?_
    exact AW.ret (show ∃ x s, _ ∧ ResL _ _ [.tmp 2, .tmp 3] s ∧ FvS _ s _ from ⟨⟨x1, x10⟩, _, ⟨⟨hc4x, hc4r⟩, hc13x, hc13r⟩, .inr (.inl ⟨_, _, _, _, rfl, .tmp rfl, .tmp rfl, rfl⟩), ⟨.frs, .frs⟩⟩)

theorem v_DrawJoinCuts (n : Nat) (F : Nat → Nat) (hF : ∀ i, F i < 256) : FnE Try.prog 42 [.one (.lst 1 n (fun i _ => .int .u8 ((F i : Nat) : Int)))] (fun (x : List Int × List Int) => (x.1.length ≤ 4 ∧ allRi x.1) ∧ x.2.length ≤ 4 ∧ allRi x.2) (fun (x : List Int × List Int) => .tup2 (.one (intsD x.1)) (.one (intsD x.2))) := by
  refine FnE.of_body (fn := Try.f42) Try.func42 rfl (Nat.le_of_ble_eq_true rfl) ?_
  intro w0
  show AW _ 8 _ _ _ _
  refine AW.seq ?_
  refine AW.region ?_
  refine ARun.pure (PureOp.assign rfl .con) rfl rfl (Nat.le_of_ble_eq_true rfl) ?_
  refine ARun.pure (PureOp.assign rfl .con) rfl rfl (Nat.le_of_ble_eq_true rfl) ?_
  refine ARun.nil ?_
  refine AW.seq ?_
  refine AW.region ?_
  refine ARun.pure (PureOp.move rfl (.tmp rfl)) rfl rfl (Nat.le_of_ble_eq_true rfl) ?_
  refine ARun.draw rfl (v_DrawLessClock n F hF) vd3_ca_36 ⟨⟨_, (.tmp rfl), .lst⟩, trivial⟩ rfl rfl (Nat.le_of_ble_eq_true rfl) (fun x1 hd2 => ?_)
  refine ARun.pure (PureOp.ext2a rfl (.tmp rfl)) rfl rfl (Nat.le_of_ble_eq_true rfl) ?_
  refine ARun.pure (PureOp.ext2b rfl (.tmp rfl)) rfl rfl (Nat.le_of_ble_eq_true rfl) ?_
  refine ARun.pure (PureOp.assign rfl (.tmp rfl)) rfl rfl (Nat.le_of_ble_eq_true rfl) ?_
  refine ARun.pure (PureOp.assign rfl (.tmp rfl)) rfl rfl (Nat.le_of_ble_eq_true rfl) ?_
  refine ARun.nil ?_
  exact AW.ret (show ∃ x s, _ ∧ ResL _ _ [.tmp 2, .tmp 3] s ∧ FvS _ s _ from ⟨x1, _, hd2, .inr (.inl ⟨_, _, _, _, rfl, .tmp rfl, .tmp rfl, rfl⟩), ⟨.frs, .frs⟩⟩)

theorem v_DrawCameFirst (n : Nat) (F : Nat → Nat) (hF : ∀ i, F i < 256) : FnE Try.prog 31 [.one (.lst 1 n (fun i _ => .int .u8 ((F i : Nat) : Int)))] (fun (x : Nat × List GEvent × Nat × Nat) => ((1 ≤ x.1 ∧ x.1 ≤ 4) ∧ x.2.1.length ≤ 41 ∧ allEv x.2.1) ∧ x.2.2.1 ≤ 42 ∧ x.2.2.2 ≤ 42) (fun (x : Nat × List GEvent × Nat × Nat) => .tup4 (.one (.int .i64 (x.1 : Int))) (.one (evsD x.2.1)) (.one (.int .i64 (x.2.2.1 : Int))) (.one (.int .i64 (x.2.2.2 : Int)))) := by
  refine FnE.of_body (fn := Try.f31) Try.func31 rfl (Nat.le_of_ble_eq_true rfl) ?_
  intro w0
  show AW _ 29 _ _ _ _
  refine AW.cv (t := 0) rfl (fun c0 => ?_)
  refine AW.seq ?_
  refine AW.region ?_
  refine ARun.pure (PureOp.assign rfl .int) rfl rfl (Nat.le_of_ble_eq_true rfl) ?_
  refine ARun.pure (PureOp.assign rfl .con) rfl rfl (Nat.le_of_ble_eq_true rfl) ?_
  refine ARun.pure (PureOp.assign rfl .int) rfl rfl (Nat.le_of_ble_eq_true rfl) ?_
  refine ARun.pure (PureOp.assign rfl .int) rfl rfl (Nat.le_of_ble_eq_true rfl) ?_
  refine ARun.nil ?_
  refine AW.seq ?_
  refine AW.region ?_
  refine ARun.pure (PureOp.move rfl (.tmp rfl)) rfl rfl (Nat.le_of_ble_eq_true rfl) ?_
  refine ARun.pure (PureOp.build (ys := [.cv c0 (.lst 1 n (fun i _ => .int .u8 ((F i : Nat) : Int)))]) (l := [.con (.slice none 0 0), .int .i64 0, .int .u64 0]) (pl := [(0, 1), (1, 1), (2, 1)]) (z := (.agg #[.slice none 0 0, .int .i64 0, .int .u64 0])) rfl (by kernel_rfl) (by kernel_rfl) (fun _ _ _ => ⟨_, _, rfl, rfl, ⟨_, _, rfl, rfl, ⟨_, _, rfl, rfl, rfl⟩⟩⟩) ⟨(.tmp rfl), trivial, rfl, trivial⟩ rfl) rfl rfl (Nat.le_of_ble_eq_true rfl) ?_
  refine ARun.box (id := 0) rfl (.tmp rfl) (SV.cells_of (by exact ⟨trivial, trivial, trivial, trivial⟩)) ⟨rfl, (by repeat first | exact trivial | refine ⟨by decide, by first | rfl | exact trivial | (intro i j; first | rfl | exact getD_no rfl | (dsimp only; split <;> first | rfl | exact getD_no rfl) | exact scl_no (by apply_assumption) _), ?_⟩)⟩ rfl rfl rfl (Nat.le_of_ble_eq_true rfl) ?_
  refine ARun.pure (PureOp.assign rfl (.tmp rfl)) rfl rfl (Nat.le_of_ble_eq_true rfl) ?_
  refine ARun.nil ?_
  refine AW.seq ?_
  refine AW.region ?_
  refine ARun.pure (PureOp.move rfl (.tmp rfl)) rfl rfl (Nat.le_of_ble_eq_true rfl) ?_
  refine ARun.cur (id := 0) rfl (v_Events n F hF 0 0 (by omega) (by omega)) vd3_ca_57 ⟨.inr (.tmp rfl), trivial⟩ rfl rfl rfl (Nat.le_of_ble_eq_true rfl) (fun x1 p2 sd3 hc4 => ?_)
  obtain ⟨⟨hc4x, hc4l, hc4r⟩, hc4c⟩ := hc4
  obtain ⟨hc41, hc42, hc43⟩ := hc4c
  refine ARun.pure (PureOp.move rfl (.tmp rfl)) rfl rfl (Nat.le_of_ble_eq_true rfl) ?_
  refine ARun.pure (PureOp.ext2a rfl (.tmp rfl)) rfl rfl (Nat.le_of_ble_eq_true rfl) ?_
  refine ARun.pure (PureOp.ext2b rfl (.tmp rfl)) rfl rfl (Nat.le_of_ble_eq_true rfl) ?_
  refine ARun.pure (PureOp.assign rfl (.tmp rfl)) rfl rfl (Nat.le_of_ble_eq_true rfl) ?_
  refine ARun.pure (PureOp.assign rfl (.tmp rfl)) rfl rfl (Nat.le_of_ble_eq_true rfl) ?_
  refine ARun.nil ?_
  refine AW.seq ?_
  refine AW.region ?_
  refine ARun.pure (PureOp.move rfl (.tmp rfl)) rfl rfl (Nat.le_of_ble_eq_true rfl) ?_
  refine ARun.pure (PureOp.move rfl (.tmp rfl)) rfl rfl (Nat.le_of_ble_eq_true rfl) ?_
  refine ARun.pure (PureOp.move rfl (.tmp rfl)) rfl rfl (Nat.le_of_ble_eq_true rfl) ?_
  refine ARun.pure (PureOp.move rfl (.tmp rfl)) rfl rfl (Nat.le_of_ble_eq_true rfl) ?_
  refine ARun.pure (PureOp.lenLst rfl (.frs (.tmp rfl)) vd3_sl_26) rfl rfl (Nat.le_of_ble_eq_true rfl) ?_
  refine ARun.pure (PureOp.add (c := ((x1.2.length + 1 : Nat) : Int)) rfl (.tmp rfl) .int (by rw [wrap_id (by omega) (by omega)]; omega)) rfl rfl (Nat.le_of_ble_eq_true rfl) ?_
  refine ARun.cur (id := 0) rfl (v_Pick n F hF p2 sd3 (by omega) (by omega) (x1.2.length + 1) (by omega)) vd3_ca_58 ⟨.inr (.tmp rfl), .inl ⟨_, (.tmp rfl), .int⟩, trivial⟩ rfl rfl rfl (Nat.le_of_ble_eq_true rfl) (fun x5 p6 sd7 hc8 => ?_)
  obtain ⟨hc8x, hc8c⟩ := hc8
  obtain ⟨hc81, hc82, hc83⟩ := hc8c
  refine ARun.pure (PureOp.move rfl (.tmp rfl)) rfl rfl (Nat.le_of_ble_eq_true rfl) ?_
  refine ARun.pure (PureOp.move rfl (.tmp rfl)) rfl rfl (Nat.le_of_ble_eq_true rfl) ?_
  refine ARun.pure (PureOp.lenLst rfl (.frs (.tmp rfl)) vd3_sl_26) rfl rfl (Nat.le_of_ble_eq_true rfl) ?_
  refine ARun.pure (PureOp.add (c := ((x1.2.length + 1 : Nat) : Int)) rfl (.tmp rfl) .int (by rw [wrap_id (by omega) (by omega)]; omega)) rfl rfl (Nat.le_of_ble_eq_true rfl) ?_
  refine ARun.cur (id := 0) rfl (v_Pick n F hF p6 sd7 (by omega) (by omega) (x1.2.length + 1) (by omega)) vd3_ca_58 ⟨.inr (.tmp rfl), .inl ⟨_, (.tmp rfl), .int⟩, trivial⟩ rfl rfl rfl (Nat.le_of_ble_eq_true rfl) (fun x9 p10 sd11 hc12 => ?_)
  obtain ⟨hc12x, hc12c⟩ := hc12
  obtain ⟨hc121, hc122, hc123⟩ := hc12c
  refine ARun.pure (PureOp.assign rfl (.tmp rfl)) rfl rfl (Nat.le_of_ble_eq_true rfl) ?_
  refine ARun.pure (PureOp.assign rfl (.tmp rfl)) rfl rfl (Nat.le_of_ble_eq_true rfl) ?_
  refine ARun.pure (PureOp.assign rfl (.tmp rfl)) rfl rfl (Nat.le_of_ble_eq_true rfl) ?_
  refine ARun.pure (PureOp.assign rfl (.tmp rfl)) rfl rfl (Nat.le_of_ble_eq_true rfl) ?_
  refine ARun.nil ?_
  have hka : x5 ≤ 42 := by rcases hc8x with hx | hx <;> omega
  have hkb : x9 ≤ 42 := by rcases hc12x with hx | hx <;> omega
  exact AW.ret (show ∃ x s, _ ∧ ResL _ _ [.tmp 2, .tmp 3, .tmp 4, .tmp 5] s ∧ FvS _ s _ from ⟨⟨x1.1, x1.2, x5, x9⟩, _, ⟨⟨hc4x, hc4l, hc4r⟩, hka, hkb⟩, .inr (.inr (.inr ⟨_, _, _, _, _, _, _, _, rfl, .tmp rfl, .tmp rfl, .tmp rfl, .tmp rfl, rfl⟩)), ⟨.int, .frs, .int, .int⟩⟩)
end Go.Proofs.Ytmkhahiefdcinaa

/-
  Contracts: l11Upto of the reference, isCutOf of the program.
-/
namespace Go.Proofs.Ytmkhahiefdcinaa
open Go.ChangeShapes Go.WideShapes Go.ChangeAt Go.RowKit Go.BigFrame
set_option linter.unusedVariables false


theorem l11Upto_any (N : Nat) (hN1 : 1 ≤ N) (hN2 : N ≤ 5) (l : List P2) (hev : ∀ i, i < l.length → evOk ((N : Int) - 1) l i) (hlen : l.length ≤ 40) (u : List Int) (w : World) (S : Nat → Prop) (hS : ∀ b, S b → b < w.heap.size) (A A' : Option Addr) (n c n' c' : Nat) (hl0 : RepL w S l A n c) (hl1 : RepL w S u A' n' c') :
    Calls Try.prog 53 #[.int .i64 N, .slice A n c, .slice A' n' c'] w fun x w' => x = .returned (.bool (uptoB N l u)) ∧ Below w.heap.size w w' := by
  obtain ⟨i0, hi, hz0, hz1, hz2⟩ := info_parts infoInt
  have hbd := hl0.bd
  have hbd' := hl1.bd
  obtain ⟨hn, -⟩ := id hl0
  obtain ⟨hn', -⟩ := id hl1
  have Hn := Lib.hid hn
  have Hn' := Lib.hid hn'
  have Hev := Lib.hid hev
  clear hn hn' hev
  by_cases hne : n' = N
  · have hd0 : ((n' : Int) != (N : Int)) = false := by simp [hne]
    have hmk : ∀ W, (Instr.makeSlice 30 (.int .i64 (N : Int)) (.int .i64 (N : Int))).run Try.prog W = .ok (.slice (some ⟨W.heap.size, 0, none⟩) N N) (W.alloc (.cells (madeCells #[.int .i64 0] N) 3)) := fun W => by
      have := run_make_rowN (P := Try.prog) 30 3 i0 _ Try.underlying30 hi hz0 .i64 .i64 N N (Nat.le_refl _) (by rw [hz2]; omega) (by omega) W
      rw [hz1, Nat.mul_one] at this
      exact this
    have Hne := Lib.hid hne
    clear hne
    go_enter Try.func53, Try.ntmps53
    go_wp2_with fail
    go_loopw [20] (fun i wr => ∃ k : Nat, k ≤ n ∧ i = .int .i64 k ∧ wr.ownsRow w.heap.size 3 1 (.slice (some ⟨w.heap.size, 0, none⟩) N N) N (encs (cntL N l k)) ∧ Below w.heap.size w wr) (fun i _ => n - (intOf i).toNat)
    case atStart => exact ⟨0, Nat.zero_le _, rfl, by rw [cntL_zero]; exact own_zeros w 3 N (by omega), (Below.refl _ _).alloc (Nat.le_refl _) _⟩
    case round =>
      obtain ⟨k, hk, rfl, hown, hbel⟩ := hrel
      by_cases hlt : k < n
      · have hl1' : k < l.length := by have := Hn.out; omega
        obtain ⟨b, off, xs, rfl, hSb, hc, rfl, hi1, hi2⟩ := hl0.at_ hl1'
        have hc0 := hc 0 _ rfl
        have hc1 := hc 1 _ rfl
        clear hc
        generalize hek : l[k] = ek at hc0 hc1 hi1 hi2
        obtain ⟨x, y⟩ := ek
        have hek' : l[k]? = some ⟨x, y⟩ := by rw [List.getElem?_eq_getElem hl1', hek]
        obtain ⟨hx1, hx2, -⟩ := Hev.out k hl1' _ hek'
        obtain ⟨j, rfl⟩ := Int.eq_ofNat_of_zero_le hx1
        have hj : j < N := by have : (j : Int) ≤ (N : Int) - 1 := hx2; omega
        have hc0' : wr.cell? ⟨b, off + k * 2, none⟩ = some (.int .i64 j) := (hbel.cell (hS _ hSb)).trans hc0
        have hc1' : wr.cell? ⟨b, off + k * 2 + 1, none⟩ = some (.int .i64 y) := (hbel.cell (hS _ hSb)).trans hc1
        have hcl := cnt_le l k j
        obtain ⟨q, hq⟩ : ∃ q, cnt l k j = q := ⟨_, rfl⟩
        have hownW := hown.alloc (.cells #[.int .i64 j, .int .i64 y] 64)
        have hu0 : (wr.alloc (.cells #[.int .i64 j, .int .i64 y] 64)).cell? ⟨w.heap.size, j, none⟩ = some (.int .i64 q) := by rw [hownW.cellAt j (by omega), getI _ _ _ (cntL_get l k hj), hq]
        have hf0 := hownW.frozenAt j
        have hww : IntKind.i64.wrap ((q : Int) + 1) = (q : Int) + 1 := by rw [IntKind.wrap_i64]; omega
        have hjI : (j : Int) < (N : Int) := by omega
        have Hs := Lib.hid (show cntL N l (k + 1) = (cntL N l k).set j ((q : Int) + 1) by rw [cntL_succ hek' hj, hq])
        have HO := Lib.hid hownW
        have Hb := Lib.hid (hbel.alloc hbel.size (.cells #[.int .i64 j, .int .i64 y] 64))
        clear hc0 hc1 hi1 hi2 hek hek' hx2 hq hcl hownW hown
        go_wp2_with fail
        go_roundw
        case rel => exact ⟨k + 1, by omega, by go_num, by rw [Hs.out, ← setI _ _ _ (by rw [cntL_len]; exact hj)]; exact (HO.out.stored j _).1, Hb.out.setCell (Nat.le_refl _) _⟩
        case measure => simp [intOf]; omega
      · obtain rfl : k = n := by omega
        obtain ⟨wa, hwa⟩ : ∃ x, x = wr := ⟨_, rfl⟩
        subst hwa
        have HO := Lib.hid (show wa.ownsRow w.heap.size 3 1 (.slice (some ⟨w.heap.size, 0, none⟩) N N) N (encs (cntL N l l.length)) by rw [← Hn.out]; exact hown)
        clear hown
        go_wp2_with fail
        go_loopw [34] (fun i wr => ∃ q : Nat, q ≤ n' ∧ i = .int .i64 q ∧ (∀ i, i < q → uptOk l u i) ∧ Below wa.heap.size wa wr) (fun i _ => n' - (intOf i).toNat)
        case atStart => exact ⟨0, Nat.zero_le _, rfl, fun i hi => absurd hi (by omega), Below.refl _ _⟩
        case round =>
          obtain ⟨q, hq, rfl, hpre, hbel2⟩ := hrel
          have Hpre := Lib.hid hpre
          clear hpre
          have hbel3 := bnext hbel hbel2
          by_cases hlt2 : q < n'
          · have hq1 : q < u.length := by have := Hn'.out; omega
            have hqN : q < N := by have := Hne.out; omega
            obtain ⟨bb, off', rfl, hSb', hc', hi1'⟩ := hl1.at1 rfl hq1
            have hd1 : wr.cell? ⟨bb, off' + q, none⟩ = some (.int .i64 u[q]) := (hbel3.cell (hS _ hSb')).trans (hc' _ rfl)
            have hown2 := own_below HO.out hbel2
            have hu0 : wr.cell? ⟨w.heap.size, q, none⟩ = some (.int .i64 (cnt l l.length q : Int)) := by rw [hown2.cellAt q (by omega)]; exact getI _ _ _ (cntL_get l _ hqN)
            have Hu := Lib.hid (show u[q]? = some u[q] from List.getElem?_eq_getElem hq1)
            have hqNI : (q : Int) < (N : Int) := by omega
            clear hc' hi1' hown2
            by_cases hA : 0 ≤ u[q] ∧ u[q] ≤ (cnt l l.length q : Int)
            · have Hd := Lib.hid (decide_eq_true hA)
              go_wp2_with fail
              refine (l1In_any _ _ _ _ Hd.out _).mono ?_
              rintro e w3 ⟨rfl, b3⟩
              go_wp2_with fail
              go_roundw
              case rel => exact ⟨q + 1, by omega, by go_num, uptOk_succ Hpre.out Hu.out hA, bnext hbel2 b3⟩
              case measure => simp [intOf]; omega
            · have Hd := Lib.hid (decide_eq_false hA)
              have HA := Lib.hid hA
              clear hA
              go_wp2_with fail
              refine (l1In_any _ _ _ _ Hd.out _).mono ?_
              rintro e w3 ⟨rfl, b3⟩
              go_wp2_with fail
              go_ret
              exact ⟨by rw [uptoB_bad Hu.out HA.out]; rfl, bnext hbel3 b3⟩
          · obtain rfl : q = n' := by omega
            go_wp2_with fail
            go_ret
            exact ⟨by rw [uptoB_yes (by rw [← Hn'.out]; exact Hne.out) Hn'.out Hpre.out]; rfl, hbel3⟩
  · have hd0 : ((n' : Int) != (N : Int)) = true := by simp; omega
    have Hne := Lib.hid (show uptoB N l u = false from uptoB_len (by have := Hn'.out; omega))
    go_enter Try.func53, Try.ntmps53
    go_wp2_with fail
    go_ret
    exact ⟨by rw [Hne.out]; rfl, Below.refl _ _⟩

theorem isCutOf_any (N : Nat) (hN1 : 1 ≤ N) (hN2 : N ≤ 5) (l : List P2) (hev : ∀ i, i < l.length → evOk ((N : Int) - 1) l i) (hlen : l.length ≤ 40) (u : List Int) (w : World) (S : Nat → Prop) (hS : ∀ b, S b → b < w.heap.size) (A A' : Option Addr) (n c n' c' : Nat) (hl0 : RepL w S l A n c) (hl1 : RepL w S u A' n' c') :
    Calls Try.prog 55 #[.int .i64 N, .slice A n c, .slice A' n' c'] w fun x w' => x = .returned (.bool (uptoB N l u)) ∧ Below w.heap.size w w' := by
  obtain ⟨i0, hi, hz0, hz1, hz2⟩ := info_parts infoInt
  have hbd := hl0.bd
  have hbd' := hl1.bd
  obtain ⟨hn, -⟩ := id hl0
  obtain ⟨hn', -⟩ := id hl1
  have Hn := Lib.hid hn
  have Hn' := Lib.hid hn'
  have Hev := Lib.hid hev
  clear hn hn' hev
  by_cases hne : n' = N
  · have hd0 : ((n' : Int) != (N : Int)) = false := by simp [hne]
    have hmk : ∀ W, (Instr.makeSlice 30 (.int .i64 (N : Int)) (.int .i64 (N : Int))).run Try.prog W = .ok (.slice (some ⟨W.heap.size, 0, none⟩) N N) (W.alloc (.cells (madeCells #[.int .i64 0] N) 3)) := fun W => by
      have := run_make_rowN (P := Try.prog) 30 3 i0 _ Try.underlying30 hi hz0 .i64 .i64 N N (Nat.le_refl _) (by rw [hz2]; omega) (by omega) W
      rw [hz1, Nat.mul_one] at this
      exact this
    have Hne := Lib.hid hne
    clear hne
    go_enter Try.func55, Try.ntmps55
    go_wp2_with fail
    go_loopw [20] (fun i wr => ∃ k : Nat, k ≤ n ∧ i = .int .i64 k ∧ wr.ownsRow w.heap.size 3 1 (.slice (some ⟨w.heap.size, 0, none⟩) N N) N (encs (cntL N l k)) ∧ Below w.heap.size w wr) (fun i _ => n - (intOf i).toNat)
    case atStart => exact ⟨0, Nat.zero_le _, rfl, by rw [cntL_zero]; exact own_zeros w 3 N (by omega), (Below.refl _ _).alloc (Nat.le_refl _) _⟩
    case round =>
      obtain ⟨k, hk, rfl, hown, hbel⟩ := hrel
      by_cases hlt : k < n
      · have hl1' : k < l.length := by have := Hn.out; omega
        obtain ⟨b, off, xs, rfl, hSb, hc, rfl, hi1, hi2⟩ := hl0.at_ hl1'
        have hc0 := hc 0 _ rfl
        have hc1 := hc 1 _ rfl
        clear hc
        generalize hek : l[k] = ek at hc0 hc1 hi1 hi2
        obtain ⟨x, y⟩ := ek
        have hek' : l[k]? = some ⟨x, y⟩ := by rw [List.getElem?_eq_getElem hl1', hek]
        obtain ⟨hx1, hx2, -⟩ := Hev.out k hl1' _ hek'
        obtain ⟨j, rfl⟩ := Int.eq_ofNat_of_zero_le hx1
        have hj : j < N := by have : (j : Int) ≤ (N : Int) - 1 := hx2; omega
        have hc0' : wr.cell? ⟨b, off + k * 2, none⟩ = some (.int .i64 j) := (hbel.cell (hS _ hSb)).trans hc0
        have hc1' : wr.cell? ⟨b, off + k * 2 + 1, none⟩ = some (.int .i64 y) := (hbel.cell (hS _ hSb)).trans hc1
        have hcl := cnt_le l k j
        obtain ⟨q, hq⟩ : ∃ q, cnt l k j = q := ⟨_, rfl⟩
        have hownW := hown.alloc (.cells #[.int .i64 j, .int .i64 y] 64)
        have hu0 : (wr.alloc (.cells #[.int .i64 j, .int .i64 y] 64)).cell? ⟨w.heap.size, j, none⟩ = some (.int .i64 q) := by rw [hownW.cellAt j (by omega), getI _ _ _ (cntL_get l k hj), hq]
        have hf0 := hownW.frozenAt j
        have hww : IntKind.i64.wrap ((q : Int) + 1) = (q : Int) + 1 := by rw [IntKind.wrap_i64]; omega
        have hjI : (j : Int) < (N : Int) := by omega
        have Hs := Lib.hid (show cntL N l (k + 1) = (cntL N l k).set j ((q : Int) + 1) by rw [cntL_succ hek' hj, hq])
        have HO := Lib.hid hownW
        have Hb := Lib.hid (hbel.alloc hbel.size (.cells #[.int .i64 j, .int .i64 y] 64))
        clear hc0 hc1 hi1 hi2 hek hek' hx2 hq hcl hownW hown
        go_wp2_with fail
        go_roundw
        case rel => exact ⟨k + 1, by omega, by go_num, by rw [Hs.out, ← setI _ _ _ (by rw [cntL_len]; exact hj)]; exact (HO.out.stored j _).1, Hb.out.setCell (Nat.le_refl _) _⟩
        case measure => simp [intOf]; omega
      · obtain rfl : k = n := by omega
        obtain ⟨wa, hwa⟩ : ∃ x, x = wr := ⟨_, rfl⟩
        subst hwa
        have HO := Lib.hid (show wa.ownsRow w.heap.size 3 1 (.slice (some ⟨w.heap.size, 0, none⟩) N N) N (encs (cntL N l l.length)) by rw [← Hn.out]; exact hown)
        clear hown
        go_wp2_with fail
        go_loopw [34] (fun i wr => ∃ q : Nat, q ≤ n' ∧ i = .int .i64 q ∧ (∀ i, i < q → uptOk l u i) ∧ Below wa.heap.size wa wr) (fun i _ => n' - (intOf i).toNat)
        case atStart => exact ⟨0, Nat.zero_le _, rfl, fun i hi => absurd hi (by omega), Below.refl _ _⟩
        case round =>
          obtain ⟨q, hq, rfl, hpre, hbel2⟩ := hrel
          have Hpre := Lib.hid hpre
          clear hpre
          have hbel3 := bnext hbel hbel2
          by_cases hlt2 : q < n'
          · have hq1 : q < u.length := by have := Hn'.out; omega
            have hqN : q < N := by have := Hne.out; omega
            obtain ⟨bb, off', rfl, hSb', hc', hi1'⟩ := hl1.at1 rfl hq1
            have hd1 : wr.cell? ⟨bb, off' + q, none⟩ = some (.int .i64 u[q]) := (hbel3.cell (hS _ hSb')).trans (hc' _ rfl)
            have hown2 := own_below HO.out hbel2
            have hu0 : wr.cell? ⟨w.heap.size, q, none⟩ = some (.int .i64 (cnt l l.length q : Int)) := by rw [hown2.cellAt q (by omega)]; exact getI _ _ _ (cntL_get l _ hqN)
            have Hu := Lib.hid (show u[q]? = some u[q] from List.getElem?_eq_getElem hq1)
            have hqNI : (q : Int) < (N : Int) := by omega
            clear hc' hi1' hown2
            by_cases hA : 0 ≤ u[q] ∧ u[q] ≤ (cnt l l.length q : Int)
            · have Hd := Lib.hid (decide_eq_true hA)
              go_wp2_with fail
              refine (within_any _ _ _ _ Hd.out _).mono ?_
              rintro e w3 ⟨rfl, b3⟩
              go_wp2_with fail
              go_roundw
              case rel => exact ⟨q + 1, by omega, by go_num, uptOk_succ Hpre.out Hu.out hA, bnext hbel2 b3⟩
              case measure => simp [intOf]; omega
            · have Hd := Lib.hid (decide_eq_false hA)
              have HA := Lib.hid hA
              clear hA
              go_wp2_with fail
              refine (within_any _ _ _ _ Hd.out _).mono ?_
              rintro e w3 ⟨rfl, b3⟩
              go_wp2_with fail
              go_ret
              exact ⟨by rw [uptoB_bad Hu.out HA.out]; rfl, bnext hbel3 b3⟩
          · obtain rfl : q = n' := by omega
            go_wp2_with fail
            go_ret
            exact ⟨by rw [uptoB_yes (by rw [← Hn'.out]; exact Hne.out) Hn'.out Hpre.out]; rfl, hbel3⟩
  · have hd0 : ((n' : Int) != (N : Int)) = true := by simp; omega
    have Hne := Lib.hid (show uptoB N l u = false from uptoB_len (by have := Hn'.out; omega))
    go_enter Try.func55, Try.ntmps55
    go_wp2_with fail
    go_ret
    exact ⟨by rw [Hne.out]; rfl, Below.refl _ _⟩

end Go.Proofs.Ytmkhahiefdcinaa

/-
  Contract: IsCut of the reference.
-/
namespace Go.Proofs.Ytmkhahiefdcinaa
open Go.ChangeShapes Go.WideShapes Go.ChangeAt Go.RowKit Go.BigFrame
set_option linter.unusedVariables false

set_option maxHeartbeats 4000000

/-- Event i lies inside the cut. -/
def inV (l : List P2) (u : List Int) (i : Nat) : Bool := match l[i]? with | some e => decide (atV l i ≤ u.getD e.a.toNat 0) | none => false
/-- Event k lies inside, the event that it came from does not. -/
def cutBad (l : List P2) (u : List Int) (k : Nat) : Bool := match l[k]? with | some e => inV l u k && (decide (0 ≤ e.b) && !inV l u e.b.toNat) | none => false
def cutGood (l : List P2) (u : List Int) : Bool := (List.range l.length).all fun k => !cutBad l u k
/-- What IsCut asks. -/
noncomputable def cutOk (nodes : Int) (l : List P2) (u : List Int) : Bool := goodEv nodes l && uptoB nodes.toNat l u
theorem inV_eq {l : List P2} {u : List Int} {i j : Nat} {y x : Int} {r : Bool} (h : l[i]? = some ⟨j, y⟩) (hu : u[j]? = some x) (hr : decide (atV l i ≤ x) = r) : inV l u i = r := by
  unfold inV
  rw [h]
  show decide (atV l i ≤ u.getD (j : Int).toNat 0) = r
  rw [Int.toNat_natCast, List.getD_eq_getElem?_getD, hu]
  exact hr
theorem cutBad_out {l : List P2} {u : List Int} {k : Nat} {e : P2} (h : l[k]? = some e) (hk : inV l u k = false) : cutBad l u k = false := by
  unfold cutBad
  rw [h]
  simp [hk]
theorem cutBad_none {l : List P2} {u : List Int} {k : Nat} {x y : Int} (h : l[k]? = some ⟨x, y⟩) (hy : ¬ 0 ≤ y) : cutBad l u k = false := by
  unfold cutBad
  rw [h]
  simp [hy]
theorem cutBad_eq {l : List P2} {u : List Int} {k f : Nat} {x : Int} {r : Bool} (h : l[k]? = some ⟨x, f⟩) (hk : inV l u k = true) (hf : inV l u f = r) : cutBad l u k = !r := by
  unfold cutBad
  rw [h]
  simp [hk, hf]
theorem cutGood_yes {l : List P2} {u : List Int} {n : Nat} (hn : n = l.length) (h : ∀ i, i < n → cutBad l u i = false) : cutGood l u = true := by
  subst hn
  unfold cutGood
  rw [List.all_eq_true]
  intro i hi
  rw [h i (List.mem_range.1 hi)]
  rfl
theorem cutGood_no {l : List P2} {u : List Int} {k : Nat} (hk : k < l.length) (h : cutBad l u k = true) : cutGood l u = false := by
  unfold cutGood
  rw [← Bool.not_eq_true, List.all_eq_true]
  intro h'
  have := h' k (List.mem_range.2 hk)
  rw [h] at this
  cases this
theorem bad_succ {l : List P2} {u : List Int} {k : Nat} (h : ∀ i, i < k → cutBad l u i = false) (hk : cutBad l u k = false) : ∀ i, i < k + 1 → cutBad l u i = false := by
  intro i hi
  by_cases e : i = k
  · rw [e]; exact hk
  · exact h i (by omega)
open Classical in
theorem uptoB_get {N : Nat} {l : List P2} {u : List Int} (h : uptoB N l u = true) : u.length = N := by
  unfold uptoB at h
  exact (of_decide_eq_true h).1

theorem spec_IsCut_any (nodes : Int) (hnodes : I64 nodes) (l : List P2) (u : List Int) (w : World) (S : Nat → Prop) (hS : ∀ b, S b → b < w.heap.size) (A A' : Option Addr) (n c n' c' : Nat) (hl0 : RepL w S l A n c) (hl1 : RepL w S u A' n' c') :
    Calls Try.prog 21 #[.int .i64 nodes, .slice A n c, .slice A' n' c'] w fun x w' => x = .returned (.tuple #[.bool (cutOk nodes l u && cutGood l u), .bool (cutOk nodes l u)]) ∧ Below w.heap.size w w' := by
  have hbd := hl0.bd
  have hbd' := hl1.bd
  obtain ⟨hn, -⟩ := id hl0
  obtain ⟨hn', -⟩ := id hl1
  obtain ⟨r0, hr0⟩ : ∃ r, goodEv nodes l = r := ⟨_, rfl⟩
  have Hn := Lib.hid hn
  have Hn' := Lib.hid hn'
  have R0 := Lib.hid hr0
  clear hn hn' hr0
  cases r0 with
  | false =>
    have Hok := Lib.hid (show cutOk nodes l u = false by unfold cutOk; rw [R0.out]; rfl)
    go_enter Try.func21, Try.ntmps21
    go_wp2_with fail
    refine (spec_GoodEvents_any nodes hnodes l w S hS A n c hl0).mono ?_
    rintro e w1 ⟨rfl, b1⟩
    rw [R0.out]
    go_wp2_with fail
    go_ret2
    exact ⟨by rw [Hok.out]; rfl, b1⟩
  | true =>
    obtain ⟨hg1, hg2, hg3, hg4⟩ := goodEv_get R0.out
    obtain ⟨N, rfl⟩ := Int.eq_ofNat_of_zero_le (show 0 ≤ nodes by omega)
    have Hev := Lib.hid hg4
    have hN1 : 1 ≤ N := by omega
    have hN2 : N ≤ 5 := by omega
    have hn40 : n ≤ 40 := by have := Hn.out; omega
    clear hg4
    obtain ⟨r1, hr1⟩ : ∃ r, uptoB N l u = r := ⟨_, rfl⟩
    have R1 := Lib.hid hr1
    clear hr1
    have Hok0 := Lib.hid (show cutOk (N : Int) l u = r1 by unfold cutOk; rw [R0.out, Int.toNat_natCast, R1.out]; rfl)
    cases r1 with
    | false =>
      go_enter Try.func21, Try.ntmps21
      go_wp2_with fail
      refine (spec_GoodEvents_any (N : Int) hnodes l w S hS A n c hl0).mono ?_
      rintro e w1 ⟨rfl, b1⟩
      rw [R0.out]
      go_wp2_with fail
      refine (l11Upto_any N hN1 hN2 l Hev.out hg3 u w1 S (fun x hx => Nat.lt_of_lt_of_le (hS x hx) b1.size) A A' n c n' c' (hl0.keep (fun p hp => b1.cell (hS _ hp))) (hl1.keep (fun p hp => b1.cell (hS _ hp)))).mono ?_
      rintro e w2 ⟨rfl, b2⟩
      have B2 := bnext b1 b2
      rw [R1.out]
      go_wp2_with fail
      go_ret2
      exact ⟨by rw [Hok0.out]; rfl, B2⟩
    | true =>
      have HuN := Lib.hid (uptoB_get R1.out)
      go_enter Try.func21, Try.ntmps21
      go_wp2_with fail
      refine (spec_GoodEvents_any (N : Int) hnodes l w S hS A n c hl0).mono ?_
      rintro e w1 ⟨rfl, b1⟩
      rw [R0.out]
      go_wp2_with fail
      refine (l11Upto_any N hN1 hN2 l Hev.out hg3 u w1 S (fun x hx => Nat.lt_of_lt_of_le (hS x hx) b1.size) A A' n c n' c' (hl0.keep (fun p hp => b1.cell (hS _ hp))) (hl1.keep (fun p hp => b1.cell (hS _ hp)))).mono ?_
      rintro e w2 ⟨rfl, b2⟩
      have B2 := bnext b1 b2
      rw [R1.out]
      go_wp2_with fail
      refine (l11At_any N hN1 hN2 l Hev.out hg3 w2 S (fun x hx => Nat.lt_of_lt_of_le (hS x hx) B2.size) A n c (hl0.keep (fun p hp => B2.cell (hS _ hp)))).mono ?_
      rintro e w3 ⟨A2, c2, rfl, hat, b3⟩
      have B3 := bnext B2 b3
      have hbdA := hat.bd
      have Hat := Lib.hid hat
      clear hat
      go_wp2_with fail
      go_loopw [27] (fun i wr => ∃ k : Nat, k ≤ n ∧ i = .int .i64 k ∧ (∀ i, i < k → cutBad l u i = false) ∧ Below w3.heap.size w3 wr) (fun i _ => n - (intOf i).toNat)
      case atStart => exact ⟨0, Nat.zero_le _, rfl, fun i hi => absurd hi (by omega), Below.refl _ _⟩
      case round =>
        obtain ⟨k, hk, rfl, hpre, hbel0⟩ := hrel
        have hbel := bnext B3 hbel0
        have Hpre := Lib.hid hpre
        clear hpre
        by_cases hlt : k < n
        · have hl1' : k < l.length := by have := Hn.out; omega
          obtain ⟨b, off, xs, rfl, hSb, hc, rfl, hi1, hi2⟩ := hl0.at_ hl1'
          have hc0 := hc 0 _ rfl
          have hc1 := hc 1 _ rfl
          clear hc
          generalize hek : l[k] = ek at hc0 hc1 hi1 hi2
          obtain ⟨x, y⟩ := ek
          have hek' : l[k]? = some ⟨x, y⟩ := by rw [List.getElem?_eq_getElem hl1', hek]
          obtain ⟨hx1, hx2, hy1, hy2, hy3⟩ := Hev.out k hl1' _ hek'
          obtain ⟨j, rfl⟩ := Int.eq_ofNat_of_zero_le hx1
          have hjN : j < N := by have : (j : Int) ≤ (N : Int) - 1 := hx2; omega
          have hj : j < u.length := by have := HuN.out; omega
          have Hek := Lib.hid hek'
          have hc0' : wr.cell? ⟨b, off + k * 2, none⟩ = some (.int .i64 j) := (hbel.cell (hS _ hSb)).trans hc0
          have hc1' : wr.cell? ⟨b, off + k * 2 + 1, none⟩ = some (.int .i64 y) := (hbel.cell (hS _ hSb)).trans hc1
          obtain ⟨W, hW⟩ : ∃ W, W = wr.alloc (.cells #[.int .i64 j, .int .i64 y] 64) := ⟨_, rfl⟩
          have hbW0 : Below w3.heap.size w3 W := by subst hW; exact hbel0.alloc hbel0.size _
          have hbW := bnext B3 hbW0
          have f0 : ∀ p : Aft W, p.world.cell? ⟨wr.heap.size, 0, none⟩ = some (.int .i64 j) := Aft.cell (by subst hW; simp)
          have f1 : ∀ p : Aft W, p.world.cell? ⟨wr.heap.size, 1, none⟩ = some (.int .i64 y) := Aft.cell (by subst hW; simp)
          have HW := Lib.hid hW
          -- the event's number at its node
          have hka : k < (atL l l.length).length := by rw [atL_len]; exact hl1'
          obtain ⟨ba, offa, rfl, hSa, hca, -⟩ := Hat.out.at1 rfl hka
          obtain ⟨va, hva⟩ : ∃ v, atV l k = v := ⟨_, rfl⟩
          have hgk : (atL l l.length)[k] = va := by
            have := atL_get l (k := l.length) hl1'
            rw [List.getElem?_eq_getElem hka] at this
            rw [← hva]
            exact Option.some.inj this
          have f2 : ∀ p : Aft W, p.world.cell? ⟨ba, offa + k, none⟩ = some (.int .i64 va) := Aft.cell ((hbW0.cell hSa.2).trans (by rw [hca _ rfl, hgk]))
          obtain ⟨bu, offu, rfl, hSu, hcu, -⟩ := hl1.at1 rfl hj
          obtain ⟨ux, hux⟩ : ∃ v, u[j] = v := ⟨_, rfl⟩
          have f3 : ∀ p : Aft W, p.world.cell? ⟨bu, offu + j, none⟩ = some (.int .i64 ux) := Aft.cell ((hbW.cell (hS _ hSu)).trans (by rw [hcu _ rfl, hux]))
          have Hux := Lib.hid (show u[j]? = some ux by rw [List.getElem?_eq_getElem hj, hux])
          have Hva := Lib.hid hva
          have hkI : (k : Int) < (n : Int) := by omega
          have hk0 : (0 : Int) ≤ (k : Int) := by omega
          have hjI : (j : Int) < (n' : Int) := by have := Hn'.out; omega
          have hj0 : (0 : Int) ≤ (j : Int) := by omega
          have Hy1 := Lib.hid hy1
          have Hy2 := Lib.hid (show y ≤ (k : Int) - 1 from hy2)
          clear hc0 hc1 hi1 hi2 hek hek' hx1 hx2 hy1 hy2 hy3 hW hgk hca hcu hux hva
          by_cases hA : va ≤ ux
          · have Hin := Lib.hid (show inV l u k = true from inV_eq Hek.out Hux.out (by rw [Hva.out]; exact decide_eq_true hA))
            have dA : decide (va ≤ ux) = true := decide_eq_true hA
            by_cases hC : 0 ≤ y
            · obtain ⟨f, rfl⟩ := Int.eq_ofNat_of_zero_le hC
              have hfk : f < k := by have := Hy2.out; omega
              have hfl : f < l.length := by omega
              obtain ⟨b', off', xs', e, hSb', hc, rfl, -, -⟩ := hl0.at_ hfl
              obtain ⟨rfl, rfl⟩ : b = b' ∧ off = off' := by simpa using e
              have hc0 := hc 0 _ rfl
              clear hc e
              generalize hef : l[f] = ef at hc0
              obtain ⟨fx, fy⟩ := ef
              have hef' : l[f]? = some ⟨fx, fy⟩ := by rw [List.getElem?_eq_getElem hfl, hef]
              obtain ⟨hfx1, hfx2, -⟩ := Hev.out f hfl _ hef'
              obtain ⟨fj, rfl⟩ := Int.eq_ofNat_of_zero_le hfx1
              have hfjN : fj < N := by have : (fj : Int) ≤ (N : Int) - 1 := hfx2; omega
              have hfj : fj < u.length := by have := HuN.out; omega
              have Hef := Lib.hid hef'
              have f4 : ∀ p : Aft W, p.world.cell? ⟨b, off + f * 2, none⟩ = some (.int .i64 fj) := Aft.cell ((hbW.cell (hS _ hSb)).trans hc0)
              have hfa : f < (atL l l.length).length := by rw [atL_len]; exact hfl
              obtain ⟨ba', offa', e, hSa', hca, -⟩ := Hat.out.at1 rfl hfa
              obtain ⟨rfl, rfl⟩ : ba = ba' ∧ offa = offa' := by simpa using e
              obtain ⟨vf, hvf⟩ : ∃ v, atV l f = v := ⟨_, rfl⟩
              have hgf : (atL l l.length)[f] = vf := by
                have := atL_get l (k := l.length) hfl
                rw [List.getElem?_eq_getElem hfa] at this
                rw [← hvf]
                exact Option.some.inj this
              have f5 : ∀ p : Aft W, p.world.cell? ⟨ba, offa + f, none⟩ = some (.int .i64 vf) := Aft.cell ((hbW0.cell hSa.2).trans (by rw [hca _ rfl, hgf]))
              obtain ⟨bu', offu', e', hSu', hcu, -⟩ := hl1.at1 rfl hfj
              obtain ⟨rfl, rfl⟩ : bu = bu' ∧ offu = offu' := by simpa using e'
              obtain ⟨uf, huf⟩ : ∃ v, u[fj] = v := ⟨_, rfl⟩
              have f6 : ∀ p : Aft W, p.world.cell? ⟨bu, offu + fj, none⟩ = some (.int .i64 uf) := Aft.cell ((hbW.cell (hS _ hSu)).trans (by rw [hcu _ rfl, huf]))
              have Huf := Lib.hid (show u[fj]? = some uf by rw [List.getElem?_eq_getElem hfj, huf])
              have Hvf := Lib.hid hvf
              have hfI : (f : Int) < (n : Int) := by omega
              have hf0 : (0 : Int) ≤ (f : Int) := by omega
              have dC : decide ((0 : Int) ≤ (f : Int)) = true := decide_eq_true hf0
              have hfjI : (fj : Int) < (n' : Int) := by have := Hn'.out; omega
              have hfj0 : (0 : Int) ≤ (fj : Int) := by omega
              clear hc0 hef hef' hfx1 hfx2 hgf hca hcu huf hvf e e'
              by_cases hD : uf < vf
              · have Hbad := Lib.hid (cutBad_eq Hek.out Hin.out (show inV l u f = false from inV_eq Hef.out Huf.out (by rw [Hvf.out]; exact decide_eq_false (by omega))))
                have dD : decide (uf < vf) = true := decide_eq_true hD
                go_wp2_with fail
                rw [← HW.out]
                refine wp_region_aft (by kernel_rfl) (by kernel_rfl) ?_
                repeat (go_big_quiet_step (fail))
                refine wpQuiet_nil ?_
                rintro _ ⟨p, rfl⟩
                have hb2 : Below w.heap.size w p.world := hbW.trans (p.below.mono hbW.size)
                go_wp2
                go_ret2
                exact ⟨by rw [Hok0.out, cutGood_no hl1' Hbad.out]; rfl, hb2⟩
              · have Hbad := Lib.hid (cutBad_eq Hek.out Hin.out (show inV l u f = true from inV_eq Hef.out Huf.out (by rw [Hvf.out]; exact decide_eq_true (by omega))))
                have dD : decide (uf < vf) = false := decide_eq_false hD
                go_wp2_with fail
                rw [← HW.out]
                refine wp_region_aft (by kernel_rfl) (by kernel_rfl) ?_
                repeat (go_big_quiet_step (fail))
                refine wpQuiet_nil ?_
                rintro _ ⟨p, rfl⟩
                have hb2 : Below w3.heap.size w3 p.world := hbW0.trans (p.below.mono hbW0.size)
                go_wp2
                go_roundw
                case rel => exact ⟨k + 1, by omega, by go_num, bad_succ Hpre.out Hbad.out, hb2⟩
                case measure => simp [intOf]; omega
            · have dC : decide (0 ≤ y) = false := decide_eq_false hC
              have Hbad := Lib.hid (cutBad_none (u := u) Hek.out hC)
              go_wp2_with fail
              rw [← HW.out]
              refine wp_region_aft (by kernel_rfl) (by kernel_rfl) ?_
              repeat (go_big_quiet_step (fail))
              refine wpQuiet_nil ?_
              rintro _ ⟨p, rfl⟩
              have hb2 : Below w3.heap.size w3 p.world := hbW0.trans (p.below.mono hbW0.size)
              go_wp2
              go_roundw
              case rel => exact ⟨k + 1, by omega, by go_num, bad_succ Hpre.out Hbad.out, hb2⟩
              case measure => simp [intOf]; omega
          · have Hin := Lib.hid (show inV l u k = false from inV_eq Hek.out Hux.out (by rw [Hva.out]; exact decide_eq_false hA))
            have dA : decide (va ≤ ux) = false := decide_eq_false hA
            have Hbad := Lib.hid (cutBad_out Hek.out Hin.out)
            go_wp2_with fail
            rw [← HW.out]
            refine wp_region_aft (by kernel_rfl) (by kernel_rfl) ?_
            repeat (go_big_quiet_step (fail))
            refine wpQuiet_nil ?_
            rintro _ ⟨p, rfl⟩
            have hb2 : Below w3.heap.size w3 p.world := hbW0.trans (p.below.mono hbW0.size)
            go_wp2
            go_roundw
            case rel => exact ⟨k + 1, by omega, by go_num, bad_succ Hpre.out Hbad.out, hb2⟩
            case measure => simp [intOf]; omega
        · obtain rfl : k = n := by omega
          go_wp2_with fail
          go_ret2
          exact ⟨by rw [Hok0.out, cutGood_yes Hn.out Hpre.out]; rfl, hbel⟩

end Go.Proofs.Ytmkhahiefdcinaa

/-
  Contract: IsCut of the program.
-/
namespace Go.Proofs.Ytmkhahiefdcinaa
open Go.ChangeShapes Go.WideShapes Go.ChangeAt Go.RowKit Go.BigFrame
set_option linter.unusedVariables false

set_option maxHeartbeats 4000000

theorem infoBool : (Try.prog.info? 4).map (fun i => (i.zero, i.size, i.bytes)) = some (some (.bool false), 1, 1) := by kernel_rfl
/-- The first k events' places, inside or not. -/
def insTo (l : List P2) (u : List Int) (n k : Nat) : List Bool := (List.range n).map fun i => if i < k then inV l u i else false
theorem insTo_len (l : List P2) (u : List Int) (n k : Nat) : (insTo l u n k).length = n := by simp [insTo]
theorem insTo_zero (l : List P2) (u : List Int) (n : Nat) : insTo l u n 0 = List.replicate n false := by
  apply List.ext_getElem (by simp [insTo])
  intro i h1 h2
  simp [insTo]
theorem insTo_get {l : List P2} {u : List Int} {n k i : Nat} (hi : i < n) : (insTo l u n k)[i]? = some (if i < k then inV l u i else false) := by simp [insTo, hi]
theorem insTo_succ (l : List P2) (u : List Int) (n k : Nat) : insTo l u n (k + 1) = (insTo l u n k).set k (inV l u k) := by
  apply List.ext_getElem (by simp [insTo])
  intro i h1 h2
  simp only [List.getElem_set, insTo, List.getElem_map, List.getElem_range]
  by_cases hik : k = i
  · subst hik; simp
  · by_cases h : i < k
    · simp [hik, h, show i < k + 1 by omega]
    · simp [hik, h, show ¬ i < k + 1 by omega]
theorem encs_boollen (l : List Bool) : (encs l).length = l.length := by rw [encs_len]; exact Nat.mul_one _

theorem impl_IsCut_any (nodes : Int) (hnodes : I64 nodes) (l : List P2) (u : List Int) (w : World) (S : Nat → Prop) (hS : ∀ b, S b → b < w.heap.size) (A A' : Option Addr) (n c n' c' : Nat) (hl0 : RepL w S l A n c) (hl1 : RepL w S u A' n' c') :
    Calls Try.prog 23 #[.int .i64 nodes, .slice A n c, .slice A' n' c'] w fun x w' => x = .returned (.tuple #[.bool (cutOk nodes l u && cutGood l u), .bool (cutOk nodes l u)]) ∧ Below w.heap.size w w' := by
  have hbd := hl0.bd
  have hbd' := hl1.bd
  obtain ⟨hn, -⟩ := id hl0
  obtain ⟨hn', -⟩ := id hl1
  obtain ⟨r0, hr0⟩ : ∃ r, goodEv nodes l = r := ⟨_, rfl⟩
  have Hn := Lib.hid hn
  have Hn' := Lib.hid hn'
  have R0 := Lib.hid hr0
  clear hn hn' hr0
  cases r0 with
  | false =>
    have Hok := Lib.hid (show cutOk nodes l u = false by unfold cutOk; rw [R0.out]; rfl)
    go_enter Try.func23, Try.ntmps23
    go_wp2_with fail
    refine (areEvents_any nodes hnodes l w S hS A n c hl0).mono ?_
    rintro e w1 ⟨rfl, b1⟩
    rw [R0.out]
    go_wp2_with fail
    go_ret2
    exact ⟨by rw [Hok.out]; rfl, b1⟩
  | true =>
    obtain ⟨hg1, hg2, hg3, hg4⟩ := goodEv_get R0.out
    obtain ⟨N, rfl⟩ := Int.eq_ofNat_of_zero_le (show 0 ≤ nodes by omega)
    have Hev := Lib.hid hg4
    have hN1 : 1 ≤ N := by omega
    have hN2 : N ≤ 5 := by omega
    have hn40 : n ≤ 40 := by have := Hn.out; omega
    clear hg4
    obtain ⟨r1, hr1⟩ : ∃ r, uptoB N l u = r := ⟨_, rfl⟩
    have R1 := Lib.hid hr1
    clear hr1
    have Hok0 := Lib.hid (show cutOk (N : Int) l u = r1 by unfold cutOk; rw [R0.out, Int.toNat_natCast, R1.out]; rfl)
    cases r1 with
    | false =>
      go_enter Try.func23, Try.ntmps23
      go_wp2_with fail
      refine (areEvents_any (N : Int) hnodes l w S hS A n c hl0).mono ?_
      rintro e w1 ⟨rfl, b1⟩
      rw [R0.out]
      go_wp2_with fail
      refine (isCutOf_any N hN1 hN2 l Hev.out hg3 u w1 S (fun x hx => Nat.lt_of_lt_of_le (hS x hx) b1.size) A A' n c n' c' (hl0.keep (fun p hp => b1.cell (hS _ hp))) (hl1.keep (fun p hp => b1.cell (hS _ hp)))).mono ?_
      rintro e w2 ⟨rfl, b2⟩
      have B2 := bnext b1 b2
      rw [R1.out]
      go_wp2_with fail
      go_ret2
      exact ⟨by rw [Hok0.out]; rfl, B2⟩
    | true =>
      have HuN := Lib.hid (uptoB_get R1.out)
      obtain ⟨i0, hi, hz0, hz1, hz2⟩ := info_parts infoInt
      obtain ⟨i1, hi', hz0', hz1', hz2'⟩ := info_parts infoBool
      have hmk : ∀ W, (Instr.makeSlice 30 (.int .i64 (N : Int)) (.int .i64 (N : Int))).run Try.prog W = .ok (.slice (some ⟨W.heap.size, 0, none⟩) N N) (W.alloc (.cells (madeCells #[.int .i64 0] N) 3)) := fun W => by
        have := run_make_rowN (P := Try.prog) 30 3 i0 _ Try.underlying30 hi hz0 .i64 .i64 N N (Nat.le_refl _) (by rw [hz2]; omega) (by omega) W
        rw [hz1, Nat.mul_one] at this
        exact this
      have hmkB : ∀ W, (Instr.makeSlice 72 (.int .i64 (n : Int)) (.int .i64 (n : Int))).run Try.prog W = .ok (.slice (some ⟨W.heap.size, 0, none⟩) n n) (W.alloc (.cells (madeCells #[.bool false] n) 4)) := fun W => by
        have := run_make_rowN (P := Try.prog) 72 4 i1 _ Try.underlying72 hi' hz0' .i64 .i64 n n (Nat.le_refl _) (by rw [hz2']; omega) (by omega) W
        rw [hz1', Nat.mul_one] at this
        exact this
      go_enter Try.func23, Try.ntmps23
      go_wp2_with fail
      refine (areEvents_any (N : Int) hnodes l w S hS A n c hl0).mono ?_
      rintro e w1 ⟨rfl, b1⟩
      rw [R0.out]
      go_wp2_with fail
      refine (isCutOf_any N hN1 hN2 l Hev.out hg3 u w1 S (fun x hx => Nat.lt_of_lt_of_le (hS x hx) b1.size) A A' n c n' c' (hl0.keep (fun p hp => b1.cell (hS _ hp))) (hl1.keep (fun p hp => b1.cell (hS _ hp)))).mono ?_
      rintro e w2 ⟨rfl, b2⟩
      have B2 := bnext b1 b2
      rw [R1.out]
      obtain ⟨g0, hg0⟩ : ∃ g, w2.heap.size = g := ⟨_, rfl⟩
      have hgB : w.heap.size ≤ g0 := by have := B2.size; omega
      have o0 := own_zeros w2 3 N (by omega)
      have o1 := own_falses (w2.alloc (.cells (madeCells #[.int .i64 0] N) 3)) 4 n (by omega)
      have o0' := o0.alloc (.cells (madeCells #[.bool false] n) 4)
      have hsz : (w2.alloc (.cells (madeCells #[.int .i64 0] N) 3)).heap.size = g0 + 1 := by simp [hg0]
      rw [hsz] at o1
      rw [hg0] at o0'
      have HO0 := Lib.hid o0'
      have HO1 := Lib.hid o1
      have B4 := Lib.hid ((B2.alloc B2.size (.cells (madeCells #[.int .i64 0] N) 3)).alloc (by simp; omega) (.cells (madeCells #[.bool false] n) 4))
      clear o0 o0' o1 hsz
      go_wp2_with fail
      try simp only [hg0]
      go_loopw [30] (fun i wr => ∃ k : Nat, k ≤ n ∧ i = .int .i64 k ∧ (∀ i, i < k → cutBad l u i = false) ∧ wr.ownsRow g0 3 1 (.slice (some ⟨g0, 0, none⟩) N N) N (encs (cntL N l k)) ∧ wr.ownsRow (g0 + 1) 4 1 (.slice (some ⟨g0 + 1, 0, none⟩) n n) n (encs (insTo l u n k)) ∧ Below w.heap.size w wr) (fun i _ => n - (intOf i).toNat)
      case atStart => exact ⟨0, Nat.zero_le _, rfl, fun i hi => absurd hi (by omega), by rw [cntL_zero]; exact HO0.out, by rw [insTo_zero]; exact HO1.out, B4.out⟩
      case round =>
        obtain ⟨k, hk, rfl, hpre, hown, hins, hbel⟩ := hrel
        have Hpre := Lib.hid hpre
        clear hpre
        by_cases hlt : k < n
        · have hl1' : k < l.length := by have := Hn.out; omega
          obtain ⟨b, off, xs, rfl, hSb, hc, rfl, hi1, hi2⟩ := hl0.at_ hl1'
          have hc0 := hc 0 _ rfl
          have hc1 := hc 1 _ rfl
          clear hc
          generalize hek : l[k] = ek at hc0 hc1 hi1 hi2
          obtain ⟨x, y⟩ := ek
          have hek' : l[k]? = some ⟨x, y⟩ := by rw [List.getElem?_eq_getElem hl1', hek]
          obtain ⟨hx1, hx2, hy1, hy2, hy3⟩ := Hev.out k hl1' _ hek'
          obtain ⟨j, rfl⟩ := Int.eq_ofNat_of_zero_le hx1
          have hjN : j < N := by have : (j : Int) ≤ (N : Int) - 1 := hx2; omega
          have hj : j < u.length := by have := HuN.out; omega
          have hc0' : wr.cell? ⟨b, off + k * 2, none⟩ = some (.int .i64 j) := (hbel.cell (hS _ hSb)).trans hc0
          have hc1' : wr.cell? ⟨b, off + k * 2 + 1, none⟩ = some (.int .i64 y) := (hbel.cell (hS _ hSb)).trans hc1
          obtain ⟨W, hW⟩ : ∃ W, W = wr.alloc (.cells #[.int .i64 j, .int .i64 y] 64) := ⟨_, rfl⟩
          obtain ⟨gb, hgb⟩ : ∃ g, wr.heap.size = g := ⟨_, rfl⟩
          have hg01 : g0 + 1 < gb := by rw [← hgb]; exact (hins.lt _ rfl).2
          have hbW : Below w.heap.size w W := by subst hW; exact hbel.alloc hbel.size _
          have oW : W.ownsRow g0 3 1 (.slice (some ⟨g0, 0, none⟩) N N) N (encs (cntL N l k)) := by subst hW; exact hown.alloc _
          have iW : W.ownsRow (g0 + 1) 4 1 (.slice (some ⟨g0 + 1, 0, none⟩) n n) n (encs (insTo l u n k)) := by subst hW; exact hins.alloc _
          obtain ⟨q, hq⟩ : ∃ q, cnt l k j = q := ⟨_, rfl⟩
          have hcl := cnt_le l k j
          have f0 : W.cell? ⟨gb, 0, none⟩ = some (.int .i64 j) := by subst hW; rw [← hgb]; simp
          have f1 : W.cell? ⟨gb, 1, none⟩ = some (.int .i64 y) := by subst hW; rw [← hgb]; simp
          have f2 : W.cell? ⟨g0, j, none⟩ = some (.int .i64 q) := by rw [oW.cellAt j (by omega), getI _ _ _ (cntL_get l k hjN), hq]
          obtain ⟨bu, offu, rfl, hSu, hcu, -⟩ := hl1.at1 rfl hj
          obtain ⟨ux, hux⟩ : ∃ v, u[j] = v := ⟨_, rfl⟩
          have f3 : W.cell? ⟨bu, offu + j, none⟩ = some (.int .i64 ux) := (hbW.cell (hS _ hSu)).trans (by rw [hcu _ rfl, hux])
          have f4 : W.cell? ⟨g0 + 1, k, none⟩ = some (.bool false) := by rw [iW.cellAt k (by omega), getB _ _ _ (insTo_get hlt)]; simp
          have z4 := iW.frozenAt k
          have hux' : u[j]? = some ux := by rw [List.getElem?_eq_getElem hj, hux]
          obtain ⟨r, hr⟩ : ∃ r, decide ((q : Int) < ux) = r := ⟨_, rfl⟩
          have hin : inV l u k = r := inV_eq hek' hux' (by
            rw [atV_eq hek', ← hr]
            show decide (((cnt l k j : Nat) : Int) + 1 ≤ ux) = _
            rw [hq]
            apply decide_eq_decide.2
            omega)
          -- the two rows behind the round
          obtain ⟨X, hX⟩ : ∃ X, X = (W.setCell ⟨g0 + 1, k, none⟩ (.bool r)).drew := ⟨_, rfl⟩
          have iX : X.ownsRow (g0 + 1) 4 1 (.slice (some ⟨g0 + 1, 0, none⟩) n n) n (encs (insTo l u n (k + 1))) := by
            subst hX
            rw [insTo_succ, hin, ← setB _ _ _ (by rw [insTo_len]; exact hlt)]
            exact (iW.stored k _).1.drew
          have oX : X.ownsRow g0 3 1 (.slice (some ⟨g0, 0, none⟩) N N) N (encs (cntL N l k)) := by
            subst hX
            exact (own_other (v2 := .slice (some ⟨g0 + 1, 0, none⟩) n n) oW (iW.stored k _).2 (fun kk hkk e => by
              have h1 : g0 = kk := Option.some.inj hkk
              have h2 : g0 + 1 = kk := Option.some.inj e
              omega)).drew
          have bX : Below w.heap.size w X := by subst hX; exact (hbW.setCell (p := ⟨g0 + 1, k, none⟩) (show w.heap.size ≤ g0 + 1 by omega) _).drew
          have hww : IntKind.i64.wrap ((q : Int) + 1) = (q : Int) + 1 := by rw [IntKind.wrap_i64]; omega
          have hneX : ∀ i v, W.cell? ⟨gb, i, none⟩ = some v → X.cell? ⟨gb, i, none⟩ = some v := fun i v h => by
            subst hX
            rw [World.cell?_drew, World.cell?_setCell_other (h := fun e => by have := congrArg Addr.block e; simp at this; omega)]
            exact h
          have x0 := hneX 0 _ f0
          have x1 := hneX 1 _ f1
          have x2 : X.cell? ⟨g0, j, none⟩ = some (.int .i64 q) := by rw [oX.cellAt j (by omega), getI _ _ _ (cntL_get l k hjN), hq]
          have z2 := oX.frozenAt j
          have oY := (oX.stored j (.int .i64 ((q : Int) + 1))).1
          have iY := own_other (v2 := .slice (some ⟨g0, 0, none⟩) N N) iX (oX.stored j (.int .i64 ((q : Int) + 1))).2 (fun kk hkk e => by
            have h1 : g0 + 1 = kk := Option.some.inj hkk
            have h2 : g0 = kk := Option.some.inj e
            omega)
          have bY := bX.setCell (p := ⟨g0, j, none⟩) hgB (.int .i64 ((q : Int) + 1))
          have y4 : (X.setCell ⟨g0, j, none⟩ (.int .i64 ((q : Int) + 1))).cell? ⟨g0 + 1, k, none⟩ = some (.bool r) := by
            rw [iY.cellAt k (by omega), getB _ _ _ (insTo_get hlt)]
            simp [hin]
          have y1 : (X.setCell ⟨g0, j, none⟩ (.int .i64 ((q : Int) + 1))).cell? ⟨gb, 1, none⟩ = some (.int .i64 y) := by
            rw [World.cell?_setCell_other (h := fun e => by have := congrArg Addr.block e; simp at this; omega)]
            exact x1
          have yf : ∀ f, f < k → (X.setCell ⟨g0, j, none⟩ (.int .i64 ((q : Int) + 1))).cell? ⟨g0 + 1, f, none⟩ = some (.bool (inV l u f)) := fun f hf => by
            rw [iY.cellAt f (by omega), getB _ _ _ (insTo_get (by omega))]
            simp [show f < k + 1 by omega]
          have oZ : (X.setCell ⟨g0, j, none⟩ (.int .i64 ((q : Int) + 1))).ownsRow g0 3 1 (.slice (some ⟨g0, 0, none⟩) N N) N (encs (cntL N l (k + 1))) := by
            rw [cntL_succ hek' hjN, hq, ← setI _ _ _ (by rw [cntL_len]; exact hjN)]
            exact oY
          have HZ := Lib.hid oZ
          have HI := Lib.hid iY
          have HB := Lib.hid bY
          have Hek := Lib.hid hek'
          have Hin := Lib.hid hin
          have HX := Lib.hid hX
          have HW := Lib.hid hW
          have YF := Lib.hid yf
          have ne1 : g0 + 1 ≠ gb := by omega
          have ne3 : g0 + 1 ≠ bu := by have := hS _ hSu; omega
          have hkI : (k : Int) < (n : Int) := by omega
          have hk0 : (0 : Int) ≤ (k : Int) := by omega
          have hjI : (j : Int) < (n' : Int) := by have := Hn'.out; omega
          have hjI2 : (j : Int) < (N : Int) := by omega
          have hj0 : (0 : Int) ≤ (j : Int) := by omega
          have Hy1 := Lib.hid (show -1 ≤ y from hy1)
          have Hy2 := Lib.hid (show y ≤ (k : Int) - 1 from hy2)
          clear hc0 hc1 hi1 hi2 hek hek' hx1 hx2 hy1 hy2 hy3 hW hX hcu hux hux' hin oZ iY oY oX iX bX bY yf hneX oW iW hown hins hbW hcl hq
          go_wp2_with fail
          try simp only [hgb]
          rw [← HW.out]
          go_region_held3 (fun w' => w'.cell? ⟨gb, 0, none⟩ = some (.int .i64 j) ∧ w'.cell? ⟨g0, j, none⟩ = some (.int .i64 q) ∧ w'.cell? ⟨bu, offu + j, none⟩ = some (.int .i64 ux)) (go_keep) (fail)
          rw [← HX.out]
          cases r with
          | false =>
            have Hbad := Lib.hid (cutBad_out Hek.out Hin.out)
            go_wp2_with fail
            go_roundw
            case rel => exact ⟨k + 1, by omega, by go_num, bad_succ Hpre.out Hbad.out, HZ.out, HI.out, HB.out⟩
            case measure => simp [intOf]; omega
          | true =>
            by_cases hC : 0 ≤ y
            · obtain ⟨f, rfl⟩ := Int.eq_ofNat_of_zero_le hC
              have hfk : f < k := by have := Hy2.out; omega
              have hfI : (f : Int) < (n : Int) := by omega
              have hf0 : (0 : Int) ≤ (f : Int) := by omega
              have dC : decide ((0 : Int) ≤ (f : Int)) = true := decide_eq_true hf0
              obtain ⟨rf, hrf⟩ : ∃ r, inV l u f = r := ⟨_, rfl⟩
              have y5 := YF.out f hfk
              rw [hrf] at y5
              have Hbad := Lib.hid (cutBad_eq Hek.out Hin.out hrf)
              clear hrf
              cases rf with
              | false =>
                go_wp2_with fail
                go_ret2
                exact ⟨by rw [Hok0.out, cutGood_no hl1' Hbad.out]; rfl, HB.out⟩
              | true =>
                go_wp2_with fail
                go_roundw
                case rel => exact ⟨k + 1, by omega, by go_num, bad_succ Hpre.out Hbad.out, HZ.out, HI.out, HB.out⟩
                case measure => simp [intOf]; omega
            · have dC : decide (0 ≤ y) = false := decide_eq_false hC
              have Hbad := Lib.hid (cutBad_none (u := u) Hek.out hC)
              go_wp2_with fail
              go_roundw
              case rel => exact ⟨k + 1, by omega, by go_num, bad_succ Hpre.out Hbad.out, HZ.out, HI.out, HB.out⟩
              case measure => simp [intOf]; omega
        · obtain rfl : k = n := by omega
          go_wp2_with fail
          go_ret2
          exact ⟨by rw [Hok0.out, cutGood_yes Hn.out Hpre.out]; rfl, hbel⟩

end Go.Proofs.Ytmkhahiefdcinaa

/-
  Contracts: JoinCuts of the reference and of the program.
-/
namespace Go.Proofs.Ytmkhahiefdcinaa
open Go.ChangeShapes Go.WideShapes Go.ChangeAt Go.RowKit Go.BigFrame
set_option linter.unusedVariables false


/-- What JoinCuts answers. -/
def joinL (a b : List Int) : List Int := if okCk a b then mostL a b else []
theorem okCk_small {a b : List Int} (h : okCk a b = true) : a.length ≤ 5 := by
  unfold okCk at h
  simp only [Bool.and_eq_true, decide_eq_true_eq] at h
  omega
/-- A list that the call has made. -/
def MadeJ (w w' : World) (T : TypeId) (l : List Int) (A : Option Addr) (n c : Nat) : Prop :=
  w'.ownsRow w.heap.size T 1 (.slice A n c) n (encs l) ∧ RepL w' (fun b => w.heap.size ≤ b ∧ b < w'.heap.size) l A n c
theorem MadeJ.from_ {w w0 w' : World} {T : TypeId} {l : List Int} {A : Option Addr} {n c : Nat} (h : MadeJ w w' T l A n c) (hs : w0.heap.size ≤ w.heap.size) : MadeJ w0 w' T l A n c :=
  ⟨⟨h.1.1, h.1.2.imp id fun ⟨g, cap, cur, e1, e2, e3⟩ => ⟨g, cap, cur, e1, Nat.le_trans hs e2, e3⟩⟩, h.2.more fun b hb => ⟨Nat.le_trans hs hb.1, hb.2⟩⟩
theorem MadeJ.nil_ (w w' : World) (T : TypeId) : MadeJ w w' T [] none 0 0 :=
  ⟨World.ownsRow_nil _ _ _ _, RepL.of_own' (e := T) (base := w.heap.size) (s := 1) rfl rfl (World.ownsRow_nil _ _ _ _) (fun a ha => by cases ha)⟩

theorem spec_JoinCuts_any (a b : List Int) (w : World) (S : Nat → Prop) (hS : ∀ b, S b → b < w.heap.size) (A A' : Option Addr) (n c n' c' : Nat) (hl0 : RepL w S a A n c) (hl1 : RepL w S b A' n' c') :
    Calls Try.prog 43 #[.slice A n c, .slice A' n' c'] w fun x w' => ∃ A2 m c2, x = .returned (.tuple #[.slice A2 m c2, .bool (okCk a b)]) ∧ m ≤ 5 ∧ MadeJ w w' 3 (joinL a b) A2 m c2 ∧ Below w.heap.size w w' := by
  have hbd := hl0.bd
  have hbd' := hl1.bd
  obtain ⟨hn, -⟩ := id hl0
  obtain ⟨hn', -⟩ := id hl1
  have Hn := Lib.hid hn
  have Hn' := Lib.hid hn'
  clear hn hn'
  obtain ⟨r1, hr1⟩ : ∃ r, clockOk a = r := ⟨_, rfl⟩
  obtain ⟨r2, hr2⟩ : ∃ r, clockOk b = r := ⟨_, rfl⟩
  have Hok0 := Lib.hid (show okCk a b = (r1 && (r2 && decide (n = n'))) by rw [okCk_spec, hr1, hr2, Hn.out, Hn'.out])
  have H1 := Lib.hid hr1
  have H2 := Lib.hid hr2
  clear hr1 hr2
  cases r1 with
  | false =>
    have Hok := Lib.hid (show okCk a b = false by rw [Hok0.out]; rfl)
    have Hf := Lib.hid (show joinL a b = [] by unfold joinL; rw [Hok.out]; rfl)
    go_enter Try.func43, Try.ntmps43
    go_wp2_with fail
    refine (l11Clock_any a _ H1.out w S hS A n c hl0).mono ?_
    rintro e w1 ⟨rfl, b1⟩
    go_wp2_with fail
    go_ret2
    exact ⟨none, 0, 0, by rw [Hok.out]; rfl, by omega, by rw [Hf.out]; exact MadeJ.nil_ _ _ _, b1⟩
  | true =>
    cases r2 with
    | false =>
      have Hok := Lib.hid (show okCk a b = false by rw [Hok0.out]; rfl)
      have Hf := Lib.hid (show joinL a b = [] by unfold joinL; rw [Hok.out]; rfl)
      go_enter Try.func43, Try.ntmps43
      go_wp2_with fail
      refine (l11Clock_any a _ H1.out w S hS A n c hl0).mono ?_
      rintro e w1 ⟨rfl, b1⟩
      go_wp2_with fail
      refine (l11Clock_any b _ H2.out w1 S (fun x hx => Nat.lt_of_lt_of_le (hS x hx) b1.size) A' n' c' (hl1.keep (fun p hp => b1.cell (hS _ hp)))).mono ?_
      rintro e w2 ⟨rfl, b2⟩
      go_wp2_with fail
      go_ret2
      exact ⟨none, 0, 0, by rw [Hok.out]; rfl, by omega, by rw [Hf.out]; exact MadeJ.nil_ _ _ _, bnext b1 b2⟩
    | true =>
      by_cases hne : n = n'
      · have hd2 : ((n : Int) != (n' : Int)) = false := by simp [hne]
        have Hok := Lib.hid (show okCk a b = true by rw [Hok0.out, decide_eq_true hne]; rfl)
        have Hf := Lib.hid (show joinL a b = mostL a b by unfold joinL; rw [Hok.out]; rfl)
        have Hne := Lib.hid (show a.length = b.length by have := Hn.out; have := Hn'.out; omega)
        have h5 := okCk_small Hok.out
        clear hne
        go_enter Try.func43, Try.ntmps43
        go_wp2_with fail
        refine (l11Clock_any a _ H1.out w S hS A n c hl0).mono ?_
        rintro e w1 ⟨rfl, b1⟩
        go_wp2_with fail
        refine (l11Clock_any b _ H2.out w1 S (fun x hx => Nat.lt_of_lt_of_le (hS x hx) b1.size) A' n' c' (hl1.keep (fun p hp => b1.cell (hS _ hp)))).mono ?_
        rintro e w2 ⟨rfl, b2⟩
        have b12 := bnext b1 b2
        go_wp2_with fail
        refine (l11Most_any a b Hne.out w2 S (fun x hx => Nat.lt_of_lt_of_le (hS x hx) b12.size) A A' n c n' c' (by have := Hn.out; omega) (hl0.keep (fun p hp => b12.cell (hS _ hp))) (hl1.keep (fun p hp => b12.cell (hS _ hp)))).mono ?_
        rintro e w3 ⟨A3, c3, rfl, o3, m3, b3⟩
        go_wp2_with fail
        go_ret2
        exact ⟨A3, n, c3, by rw [Hok.out]; rfl, by have := Hn.out; omega, by rw [Hf.out]; exact MadeJ.from_ ⟨o3, m3⟩ b12.size, bnext b12 b3⟩
      · have hd2 : ((n : Int) != (n' : Int)) = true := by simp; omega
        have Hok := Lib.hid (show okCk a b = false by rw [Hok0.out, decide_eq_false hne]; rfl)
        have Hf := Lib.hid (show joinL a b = [] by unfold joinL; rw [Hok.out]; rfl)
        go_enter Try.func43, Try.ntmps43
        go_wp2_with fail
        refine (l11Clock_any a _ H1.out w S hS A n c hl0).mono ?_
        rintro e w1 ⟨rfl, b1⟩
        go_wp2_with fail
        refine (l11Clock_any b _ H2.out w1 S (fun x hx => Nat.lt_of_lt_of_le (hS x hx) b1.size) A' n' c' (hl1.keep (fun p hp => b1.cell (hS _ hp)))).mono ?_
        rintro e w2 ⟨rfl, b2⟩
        go_wp2_with fail
        go_ret2
        exact ⟨none, 0, 0, by rw [Hok.out]; rfl, by omega, by rw [Hf.out]; exact MadeJ.nil_ _ _ _, bnext b1 b2⟩

theorem impl_JoinCuts_any (a b : List Int) (w : World) (S : Nat → Prop) (hS : ∀ b, S b → b < w.heap.size) (A A' : Option Addr) (n c n' c' : Nat) (hl0 : RepL w S a A n c) (hl1 : RepL w S b A' n' c') :
    Calls Try.prog 40 #[.slice A n c, .slice A' n' c'] w fun x w' => ∃ A2 m c2, x = .returned (.tuple #[.slice A2 m c2, .bool (okCk a b)]) ∧ m ≤ 5 ∧ MadeJ w w' 3 (joinL a b) A2 m c2 ∧ Below w.heap.size w w' := by
  have hbd := hl0.bd
  have hbd' := hl1.bd
  obtain ⟨hn, -⟩ := id hl0
  obtain ⟨hn', -⟩ := id hl1
  have Hn := Lib.hid hn
  have Hn' := Lib.hid hn'
  clear hn hn'
  obtain ⟨r1, hr1⟩ : ∃ r, okCk a b = r := ⟨_, rfl⟩
  have Hok := Lib.hid hr1
  clear hr1
  cases r1 with
  | false =>
    have Hf := Lib.hid (show joinL a b = [] by unfold joinL; rw [Hok.out]; rfl)
    go_enter Try.func40, Try.ntmps40
    go_wp2_with fail
    refine (areClocks_any a b _ Hok.out w S hS A A' n c n' c' hl0 hl1).mono ?_
    rintro e w1 ⟨rfl, b1⟩
    go_wp2_with fail
    go_ret2
    exact ⟨none, 0, 0, by rw [Hok.out]; rfl, by omega, by rw [Hf.out]; exact MadeJ.nil_ _ _ _, b1⟩
  | true =>
    have Hlen := Lib.hid (okCk_len Hok.out)
    have Hf := Lib.hid (show joinL a b = mostL a b by unfold joinL; rw [Hok.out]; rfl)
    have h5 := okCk_small Hok.out
    go_enter Try.func40, Try.ntmps40
    go_wp2_with fail
    refine (areClocks_any a b _ Hok.out w S hS A A' n c n' c' hl0 hl1).mono ?_
    rintro e w1 ⟨rfl, b1⟩
    go_wp2_with fail
    refine (cloneInt_any a w1 S (fun x hx => Nat.lt_of_lt_of_le (hS x hx) b1.size) A n c (hl0.keep (fun p hp => b1.cell (hS _ hp))) (by have := Hn.out; omega)).mono ?_
    rintro e w2 ⟨A2, c2, rfl, o2, m2, b2⟩
    have hb1 := bnext b1 b2
    have Hown1 := Lib.hid (MadeJ.from_ (w0 := w) ⟨o2, m2⟩ b1.size)
    clear o2 m2
    go_wp2_with fail
    go_loopw [17] (fun i wr => ∃ k : Nat, k ≤ n ∧ i = .int .i64 k ∧ wr.ownsRow w.heap.size 3 1 (.slice A2 n c2) n (encs (mostTo a b k)) ∧ Below w.heap.size w wr) (fun i _ => n - (intOf i).toNat)
    case atStart => exact ⟨0, Nat.zero_le _, rfl, by rw [mostTo_zero]; exact Hown1.out.1, hb1⟩
    case round =>
      obtain ⟨k, hk, rfl, hown, hbel⟩ := hrel
      have hnn : n' = n := by have := Hn.out; have := Hn'.out; have := Hlen.out; omega
      have Hnn := Lib.hid hnn
      clear hnn
      by_cases hlt : k < n
      · have hlt' : k < n' := by have := Hnn.out; omega
        have hk1 : k < a.length := by have := Hn.out; omega
        have hk2 : k < b.length := by have := Hn'.out; omega
        obtain ⟨bb, off', rfl, hSb', hc', hi1'⟩ := hl1.at1 rfl hk2
        have hd0 : wr.cell? ⟨bb, off' + k, none⟩ = some (.int .i64 b[k]) := (hbel.cell (hS _ hSb')).trans (hc' _ rfl)
        obtain ⟨g, rfl⟩ : ∃ g, A2 = some ⟨g, 0, none⟩ := by
          rcases hown.2 with ⟨_, e⟩ | ⟨g, cap, cur, e, _⟩
          · omega
          · simp only [Value.slice.injEq] at e
            exact ⟨g, e.1⟩
        have hu0 : wr.cell? ⟨g, k, none⟩ = some (.int .i64 a[k]) := by rw [hown.cellAt k (by omega)]; exact get_enc _ _ _ (mostTo_get Hlen.out hk1)
        have hf0 := hown.frozenAt k
        have hgB := (hown.lt g rfl).1
        have Hown := Lib.hid hown
        clear hc' hi1' hown
        obtain ⟨mx, hmx⟩ : ∃ mx, max a[k] b[k] = mx := ⟨_, rfl⟩
        have hif1 : (if a[k] < b[k] then b[k] else a[k]) = mx := by rw [← hmx]; split <;> omega
        have hif2 : (if b[k] < a[k] then a[k] else b[k]) = mx := by rw [← hmx]; split <;> omega
        have Hs := Lib.hid (show mostTo a b (k + 1) = (mostTo a b k).set k mx by rw [mostTo_succ Hlen.out hk1, hmx])
        clear hmx
        go_wp2_with fail
        go_roundw
        case rel => exact ⟨k + 1, by omega, by go_num, by rw [Hs.out, ← set_enc _ _ _ (by rw [mostTo_len Hlen.out]; exact hk1)]; exact (Hown.out.stored k _).1, hbel.setCell hgB _⟩
        case measure => simp [intOf]; omega
      · have hlt' : ¬ k < n' := by have := Hnn.out; omega
        go_wp2_with fail
        go_ret2
        have e1 : k = a.length := by have := Hn.out; omega
        rw [e1, mostTo_all Hlen.out] at hown
        refine ⟨A2, n, c2, by rw [Hok.out]; rfl, by have := Hn.out; omega, ?_, hbel⟩
        rw [Hf.out]
        refine ⟨hown, RepL.of_own' rfl ?_ hown (ok_max hl0.ok hl1.ok)⟩
        unfold mostL
        have := Hn.out
        have := Hlen.out
        simp
        omega

end Go.Proofs.Ytmkhahiefdcinaa

/-
  From the earlier kit's contracts over cuts and clocks to the calculus: IsCut, JoinCuts.
-/
namespace Go.Proofs.Ytmkhahiefdcinaa
open Go.ChangeShapes Go.WideShapes Go.ChangeAt Go.RowKit Go.BigFrame Go.Deep
set_option linter.unusedVariables false

set_option linter.unusedSimpArgs false
theorem v_sIsCut (n : Int) (l : List GEvent) (u : List Int) (hn : I64 n) (hl : allEv l) (hu : allRi u) : Fn Try.prog 21 [.one (.int .i64 n), .one (evsAV l), .one (intsAV u)] (.tup2 (.one (.bool (cutOk n l u && cutGood l u))) (.one (.bool (cutOk n l u)))) := by
  intro w S vs hS hd
  obtain ⟨v, vs1, rfl, h1, v2, vs2, rfl, h2, v3, vs3, rfl, h3, h4⟩ := hd
  obtain rfl : vs3 = [] := h4
  have h1 : v = _ := h1
  subst h1
  obtain ⟨A, c, rfl, r1⟩ := evs_rep h2 hl
  obtain ⟨A', c', rfl, r2⟩ := ints_rep h3 hu
  exact (spec_IsCut_any n hn l u w S hS.lt A A' _ c _ c' r1 r2).mono fun e w' h => h
theorem v_iIsCut (n : Int) (l : List GEvent) (u : List Int) (hn : I64 n) (hl : allEv l) (hu : allRi u) : Fn Try.prog 23 [.one (.int .i64 n), .one (evsAV l), .one (intsAV u)] (.tup2 (.one (.bool (cutOk n l u && cutGood l u))) (.one (.bool (cutOk n l u)))) := by
  intro w S vs hS hd
  obtain ⟨v, vs1, rfl, h1, v2, vs2, rfl, h2, v3, vs3, rfl, h3, h4⟩ := hd
  obtain rfl : vs3 = [] := h4
  have h1 : v = _ := h1
  subst h1
  obtain ⟨A, c, rfl, r1⟩ := evs_rep h2 hl
  obtain ⟨A', c', rfl, r2⟩ := ints_rep h3 hu
  exact (impl_IsCut_any n hn l u w S hS.lt A A' _ c _ c' r1 r2).mono fun e w' h => h
theorem v_sJoin (a b : List Int) (ha : allRi a) (hb : allRi b) : FnF Try.prog 43 [.one (intsAV a), .one (intsAV b)] (.tup2 (.one (intsAV (joinL a b))) (.one (.bool (okCk a b)))) := by
  intro w S vs hS hd
  obtain ⟨v, vs1, rfl, h1, v2, vs2, rfl, h2, h3⟩ := hd
  obtain rfl : vs2 = [] := h3
  obtain ⟨A, c, rfl, r1⟩ := ints_rep h1 ha
  obtain ⟨A', c', rfl, r2⟩ := ints_rep h2 hb
  refine (spec_JoinCuts_any a b w S hS.lt A A' _ c _ c' r1 r2).mono fun e w' h => ?_
  obtain ⟨A2, m, c2, rfl, _, hm, hb⟩ := h
  exact ⟨_, rfl, ⟨_, _, rfl, rep_ints hm.2, rfl⟩, hb⟩
theorem v_iJoin (a b : List Int) (ha : allRi a) (hb : allRi b) : FnF Try.prog 40 [.one (intsAV a), .one (intsAV b)] (.tup2 (.one (intsAV (joinL a b))) (.one (.bool (okCk a b)))) := by
  intro w S vs hS hd
  obtain ⟨v, vs1, rfl, h1, v2, vs2, rfl, h2, h3⟩ := hd
  obtain rfl : vs2 = [] := h3
  obtain ⟨A, c, rfl, r1⟩ := ints_rep h1 ha
  obtain ⟨A', c', rfl, r2⟩ := ints_rep h2 hb
  refine (impl_JoinCuts_any a b w S hS.lt A A' _ c _ c' r1 r2).mono fun e w' h => ?_
  obtain ⟨A2, m, c2, rfl, _, hm, hb⟩ := h
  exact ⟨_, rfl, ⟨_, _, rfl, rep_ints hm.2, rfl⟩, hb⟩
end Go.Proofs.Ytmkhahiefdcinaa

/-
  The past of an event is a cut; the greater of two cuts is one.
-/
namespace Go.Proofs.Ytmkhahiefdcinaa
open Go.ChangeShapes Go.WideShapes Go.ChangeAt Go.RowKit Go.BigFrame Go.Deep
set_option linter.unusedVariables false

set_option linter.unusedSimpArgs false
theorem clk_self {N : Nat} {l : List P2} (h : goodEvs N l = true) {a : Nat} (ha : a < l.length) : clk N l a (ev l a).a.toNat = atV l a := by
  have he := evs_of h
  have hn := evs_nd h
  have h1 := (clk_law he hn a ha).1 a (.self a)
  have hj : (((ev l a).a.toNat : Nat) : Int) = (ev l a).a := Int.toNat_of_nonneg (hn a ha).1
  rcases (clk_law he hn a ha).2 (ev l a).a.toNat (by have := hn a ha; omega) with h2 | ⟨c, h2, h3, h4⟩
  · have : 1 ≤ atV l a := by rw [atV_ev ha]; omega
    omega
  · have hca := h2.le he ha
    rw [← h4, atV_suc (by omega), atV_suc ha, h3, hj]
    have := cnt_mono (l := l) (a := c + 1) (b := a + 1) (by omega) (by omega) (ev l a).a
    rw [atV_suc ha, ← h4, atV_suc (by omega), h3, hj] at h1
    omega
theorem an_of {N : Nat} {l : List P2} (h : goodEvs N l = true) {a b : Nat} (ha : a < l.length) (hb : b < l.length) (hle : atV l a ≤ clk N l b (ev l a).a.toNat) : An l a b := by
  by_cases e : a = b
  · subst e; exact .self _
  · have h1 := came_first h ha hb
    rw [clk_self h ha, decide_eq_false e, decide_eq_true hle] at h1
    have h2 : (a : Int) ∈ firstV l b := by simpa [List.contains_eq_mem] using h1
    exact ((first_iff (evs_of h) hb a).1 h2).2
theorem inV_ev {l : List P2} {u : List Int} {i : Nat} (hi : i < l.length) : inV l u i = decide (atV l i ≤ u.getD (ev l i).a.toNat 0) := by
  unfold inV; rw [ev_some hi]
theorem row_clk {N : Nat} {l : List P2} {k j : Nat} : (rowV N l k).getD j 0 = clk N l (k : Int) j := by
  unfold clk; rw [if_pos (by omega), Int.toNat_natCast]
theorem row_in {N : Nat} {l : List P2} (h : goodEvs N l = true) {k a : Nat} (hk : k < l.length) (ha : a < l.length) : inV l (rowV N l k) a = true ↔ An l a k := by
  rw [inV_ev ha, decide_eq_true_eq, row_clk]
  exact ⟨an_of h ha hk, (clk_law (evs_of h) (evs_nd h) k hk).1 a⟩
theorem good_of {l : List P2} {u : List Int} (h : ∀ k, k < l.length → inV l u k = true → 0 ≤ (ev l k).b → inV l u (ev l k).b.toNat = true) : cutGood l u = true := by
  unfold cutGood
  rw [List.all_eq_true]
  intro k hk
  have hk := List.mem_range.1 hk
  unfold cutBad
  rw [ev_some hk]
  show (!(inV l u k && (decide (0 ≤ (ev l k).b) && !inV l u (ev l k).b.toNat))) = true
  have h1 := h k hk
  by_cases h2 : inV l u k = true
  · by_cases h3 : 0 ≤ (ev l k).b
    · rw [h1 h2 h3]; simp
    · rw [decide_eq_false h3]; simp
  · rw [Bool.not_eq_true] at h2; rw [h2]; rfl
theorem An.from_ {l : List P2} {k : Nat} (h : 0 ≤ (ev l k).b) : An l (ev l k).b.toNat k := .step (.inr (Int.toNat_of_nonneg h)) (.self _)
theorem from_lt {l : List P2} (he : Evs l) {k : Nat} (hk : k < l.length) (h : 0 ≤ (ev l k).b) : (ev l k).b.toNat < l.length := by
  have : (ev l k).b < k := he.lt1 k hk
  omega
theorem row_good {N : Nat} {l : List P2} (h : goodEvs N l = true) {k : Nat} (hk : k < l.length) : cutGood l (rowV N l k) = true := by
  refine good_of fun q hq h1 h2 => ?_
  rw [row_in h hk hq] at h1
  rw [row_in h hk (from_lt (evs_of h) hq h2)]
  exact h1.trans (An.from_ h2)
theorem row_upto {N : Nat} {l : List P2} (h : goodEvs N l = true) {k : Nat} (hk : k < l.length) {j : Nat} (hj : j < N) : 0 ≤ (rowV N l k).getD j 0 ∧ (rowV N l k).getD j 0 ≤ (cnt l l.length j : Int) := by
  rw [row_clk]
  rcases (clk_law (evs_of h) (evs_nd h) k hk).2 j hj with h1 | ⟨a, h1, h2, h3⟩
  · rw [h1]; omega
  · have ha := h1.le (evs_of h) hk
    rw [← h3, atV_suc (by omega), h2]
    have := cnt_mono (l := l) (a := a + 1) (b := l.length) (by omega) (Nat.le_refl _) (j : Int)
    omega
theorem upto_of {N : Nat} {l : List P2} {u : List Int} (hl : u.length = N) (h : ∀ j, j < N → 0 ≤ u.getD j 0 ∧ u.getD j 0 ≤ (cnt l l.length j : Int)) : uptoB N l u = true := by
  refine uptoB_yes hl rfl fun i hi x hx => ?_
  have := h i (by omega)
  rw [List.getD_eq_getElem?_getD, hx] at this
  exact this
theorem max_get {x y : List Int} {j : Nat} (hx : j < x.length) (hy : j < y.length) : (mostL x y).getD j 0 = max (x.getD j 0) (y.getD j 0) := by
  unfold mostL
  rw [List.getD_eq_getElem?_getD, List.getElem?_zipWith, List.getElem?_eq_getElem hx, List.getElem?_eq_getElem hy, List.getD_eq_getElem?_getD, List.getElem?_eq_getElem hx, List.getD_eq_getElem?_getD, List.getElem?_eq_getElem hy]; rfl
theorem max_in {N : Nat} {l : List P2} {x y : List Int} (hn : ∀ k, k < l.length → 0 ≤ (ev l k).a ∧ (ev l k).a < N) (hx : x.length = N) (hy : y.length = N) {a : Nat} (ha : a < l.length) : inV l (mostL x y) a = true ↔ inV l x a = true ∨ inV l y a = true := by
  have := hn a ha
  rw [inV_ev ha, inV_ev ha, inV_ev ha, max_get (by omega) (by omega), decide_eq_true_eq, decide_eq_true_eq, decide_eq_true_eq]
  omega
theorem rowV_lenN {N : Nat} {l : List P2} {k : Nat} (hk : k < l.length) : (rowV N l k).length = N := (rowV_is (N := N) hk).1
theorem max_good {N : Nat} {l : List P2} (h : goodEvs N l = true) {k j : Nat} (hk : k < l.length) (hj : j < l.length) : cutGood l (mostL (rowV N l k) (rowV N l j)) = true := by
  have he := evs_of h
  have hn := evs_nd h
  refine good_of fun q hq h1 h2 => ?_
  have hb := from_lt he hq h2
  rw [max_in hn (rowV_lenN hk) (rowV_lenN hj) hq, row_in h hk hq, row_in h hj hq] at h1
  rw [max_in hn (rowV_lenN hk) (rowV_lenN hj) hb, row_in h hk hb, row_in h hj hb]
  exact h1.imp (fun h1 => h1.trans (An.from_ h2)) (fun h1 => h1.trans (An.from_ h2))
theorem most_len {x y : List Int} {N : Nat} (hx : x.length = N) (hy : y.length = N) : (mostL x y).length = N := by
  unfold mostL; rw [List.length_zipWith, hx, hy, Nat.min_self]
theorem max_upto {N : Nat} {l : List P2} (h : goodEvs N l = true) {k j : Nat} (hk : k < l.length) (hj : j < l.length) : uptoB N l (mostL (rowV N l k) (rowV N l j)) = true := by
  refine upto_of (most_len (rowV_lenN hk) (rowV_lenN hj)) fun i hi => ?_
  rw [max_get (by rw [rowV_lenN hk]; exact hi) (by rw [rowV_lenN hj]; exact hi)]
  have h1 := row_upto h hk hi
  have h2 := row_upto h hj hi
  omega
open Classical in
theorem goodEv_of {n : Int} {l : List P2} (h : goodEvs n l = true) : goodEv n l = true := by
  unfold goodEv
  exact decide_eq_true (goodEvs_get h)
theorem all40 {N : Nat} {l : List P2} (h : goodEvs N l = true) {k : Nat} (hk : k < l.length) : allIn 0 40 (rowV N l k) = true := by
  unfold allIn
  rw [List.all_eq_true]
  intro x hx
  obtain ⟨i, hi, rfl⟩ := List.mem_iff_getElem.1 hx
  have h1 := row_upto h hk (j := i) (by rw [← rowV_lenN (N := N) hk]; exact hi)
  rw [List.getD_eq_getElem?_getD, List.getElem?_eq_getElem hi] at h1
  have h2 := cnt_le l l.length (i : Int)
  have h3 := (goodEvs_get h).2.2.1
  refine decide_eq_true ⟨h1.1, ?_⟩
  have h4 : (rowV N l k)[i] ≤ (cnt l l.length (i : Int) : Int) := h1.2
  omega
theorem row_ri {N : Nat} {l : List P2} (h : goodEvs N l = true) {k : Nat} (hk : k < l.length) : allRi (rowV N l k) := by
  intro x hx
  have := List.all_eq_true.1 (show (rowV N l k).all (fun x => decide (0 ≤ x ∧ x ≤ 40)) = true from all40 h hk) x hx
  rw [decide_eq_true_eq] at this
  exact ⟨by omega, by omega⟩
theorem ck_rows {N : Nat} {l : List P2} (h : goodEvs N l = true) {k j : Nat} (hk : k < l.length) (hj : j < l.length) : okCk (rowV N l k) (rowV N l j) = true := by
  unfold okCk
  obtain ⟨h1, h2, _⟩ := goodEvs_get h
  rw [rowV_lenN hk, rowV_lenN hj, all40 h hk, all40 h hj, decide_eq_true (show 1 ≤ (N : Int) ∧ (N : Int) ≤ 5 from ⟨h1, h2⟩)]
  simp
/-- What the law asks of a cut. -/
theorem cut_facts {n : Int} {l : List GEvent} (hg : goodEvs n l = true) {k : Nat} (hk : k < l.length) : (cutOk n l (rowV n.toNat l k) = true ∧ cutGood l (rowV n.toNat l k) = true) ∧ allRi (rowV n.toNat l k) := by
  obtain ⟨h1, _⟩ := goodEvs_get hg
  obtain ⟨N, rfl⟩ : ∃ N : Nat, n = N := ⟨n.toNat, (Int.toNat_of_nonneg (by omega)).symm⟩
  rw [Int.toNat_natCast]
  refine ⟨⟨?_, row_good hg hk⟩, row_ri hg hk⟩
  unfold cutOk
  rw [goodEv_of hg, Int.toNat_natCast, upto_of (rowV_lenN hk) fun j hj => row_upto hg hk hj]; rfl
theorem join_facts {n : Int} {l : List GEvent} (hg : goodEvs n l = true) {k j : Nat} (hk : k < l.length) (hj : j < l.length) : (okCk (rowV n.toNat l k) (rowV n.toNat l j) = true ∧ cutOk n l (joinL (rowV n.toNat l k) (rowV n.toNat l j)) = true ∧ cutGood l (joinL (rowV n.toNat l k) (rowV n.toNat l j)) = true) ∧ allRi (joinL (rowV n.toNat l k) (rowV n.toNat l j)) := by
  obtain ⟨h1, _⟩ := goodEvs_get hg
  obtain ⟨N, rfl⟩ : ∃ N : Nat, n = N := ⟨n.toNat, (Int.toNat_of_nonneg (by omega)).symm⟩
  rw [Int.toNat_natCast]
  have hc := ck_rows hg hk hj
  have e : joinL (rowV N l k) (rowV N l j) = mostL (rowV N l k) (rowV N l j) := by unfold joinL; rw [if_pos hc]
  rw [e]
  refine ⟨⟨hc, ?_, max_good hg hk hj⟩, fun x hx => ?_⟩
  · unfold cutOk
    rw [goodEv_of hg, Int.toNat_natCast, max_upto hg hk hj]; rfl
  · obtain ⟨i, hi, rfl⟩ := List.mem_iff_getElem.1 hx
    have hl := most_len (rowV_lenN (N := N) hk) (rowV_lenN (N := N) hj)
    have hm := max_get (x := rowV N l k) (y := rowV N l j) (j := i) (by rw [rowV_lenN hk]; omega) (by rw [rowV_lenN hj]; omega)
    rw [List.getD_eq_getElem?_getD, List.getElem?_eq_getElem hi] at hm
    have h1 := row_upto hg hk (j := i) (by omega)
    have h2 := row_upto hg hj (j := i) (by omega)
    have h3 := cnt_le l l.length (i : Int)
    have h4 := (goodEvs_get hg).2.2.1
    have hm : (mostL (rowV N l k) (rowV N l j))[i] = _ := hm
    rw [hm]
    exact ⟨by omega, by omega⟩
end Go.Proofs.Ytmkhahiefdcinaa

/-
  Contracts: ClocksOf of the reference and of the program.
-/
namespace Go.Proofs.Ytmkhahiefdcinaa
open Go.ChangeShapes Go.WideShapes Go.ChangeAt Go.RowKit Go.BigFrame Go.Deep
set_option linter.unusedVariables false

set_option maxHeartbeats 1000000
theorem ck_cnt (nodes : Int) (l : List P2) : mcnt (ckOf nodes l) ≤ 1000 := by
  unfold ckOf
  split
  · rename_i h
    obtain ⟨h1, h2, h3, -⟩ := goodEv_get h
    have key : ∀ k, mcnt (ckTo nodes.toNat l k) ≤ 5 * k := by
      intro k
      induction k with
      | zero => exact Nat.le_refl _
      | succ k ih =>
        have hm := ckTo_is nodes.toNat l (k + 1) _ (List.getElem_mem (by rw [ckTo_len]; omega : k < (ckTo nodes.toNat l (k + 1)).length))
        have hc := mcnt_take (l := ckTo nodes.toNat l (k + 1)) (j := k) (by rw [ckTo_len]; omega)
        rw [ckTo_take _ _ (by omega : k ≤ k + 1), List.take_of_length_le (by rw [ckTo_len]; omega)] at hc
        have e : ∀ c : List Int, Mark.cnt c = c.length := fun c => mcnt_int c
        rw [e, hm.1] at hc
        omega
    have := key l.length
    omega
  · exact Nat.zero_le _
theorem OwnL.nil_ {α : Type} [Rep α] [Own α] (w : World) : OwnL w [] ([] : List α) none 0 0 := by
  have := OwnL.mk_ (α := α) (w := w) (l := []) (n := 0) (e := 0) (base := 0) rfl (World.ownsRow_nil _ _ _ _) (⟨rfl, rfl⟩ : OwnEls w ([] : List α) [] [])
  simpa [Value.ownBlock] using this

theorem spec_ClocksOf_any (nodes : Int) (hnodes : I64 nodes) (l : List P2) (w : World) (S : Nat → Prop) (hS : ∀ b, S b → b < w.heap.size) (A : Option Addr) (n c : Nat) (hl0 : RepL w S l A n c) :
    Calls Try.prog 24 #[.int .i64 nodes, .slice A n c] w fun x w' => ∃ A2 m c2 B, x = .returned (.tuple #[.slice A2 m c2, .bool (goodEv nodes l)]) ∧ m ≤ 40 ∧ OwnL w' B (ckOf nodes l) A2 m c2 ∧ B.Nodup ∧ (∀ b ∈ B, w.heap.size ≤ b) ∧ Below w.heap.size w w' := by
  obtain ⟨r0, hr0⟩ : ∃ r, goodEv nodes l = r := ⟨_, rfl⟩
  have C1 := Lib.hid (spec_GoodEvents_any nodes hnodes l w S hS A n c hl0)
  rw [hr0] at C1 ⊢
  have R0 := Lib.hid hr0
  clear hr0
  cases r0 with
  | false =>
    have Hf := Lib.hid (show ckOf nodes l = [] by unfold ckOf; rw [R0.out]; rfl)
    go_enter Try.func24, Try.ntmps24
    go_wp2_with fail
    refine (C1.out).mono ?_
    rintro e w1 ⟨rfl, b1⟩
    go_wp2_with fail
    go_ret2
    exact ⟨none, 0, 0, [], rfl, by omega, by rw [Hf.out]; exact OwnL.nil_ _, List.nodup_nil, fun b hb => (nomatch hb), b1⟩
  | true =>
    obtain ⟨hg1, hg2, hg3, hg4⟩ := goodEv_get R0.out
    obtain ⟨N, rfl⟩ := Int.eq_ofNat_of_zero_le (show 0 ≤ nodes by omega)
    have hn := hl0.1
    have Hf := Lib.hid (show ckOf (N : Int) l = ckTo N l n by unfold ckOf; rw [R0.out, Int.toNat_natCast, hn]; rfl)
    have hn40 : n ≤ 40 := by omega
    have Hev := Lib.hid (fun (i : Nat) (hi : i < l.length) (e : P2) (he : l[i]? = some e) => (show 0 ≤ e.a ∧ e.a ≤ (N : Int) - 1 ∧ -1 ≤ e.b ∧ e.b ≤ (i : Int) - 1 from let h := hg4 i hi e he; ⟨h.1, h.2.1, h.2.2.1, h.2.2.2.1⟩))
    have Hn := Lib.hid hn
    clear hn
    clear hg4
    go_enter Try.func24, Try.ntmps24
    go_wp2_with fail
    refine (C1.out).mono ?_
    rintro e w1 ⟨rfl, b1⟩
    go_wp2_with fail
    refine (l11Clocks_any N (by omega) (by omega) l Hev.out hg3 w1 S (fun b hb => Nat.lt_of_lt_of_le (hS b hb) b1.size) A n c (hl0.keep (fun p hp => b1.cell (hS _ hp)))).mono ?_
    rintro e w2 ⟨A2, c2, B, rfl, hO, hnd, hlo, b2⟩
    have HO' := Lib.hid hO
    have Hnd := Lib.hid hnd
    have Hlo := Lib.hid hlo
    clear hO hnd hlo
    go_wp2_with fail
    go_ret2
    exact ⟨A2, n, c2, B, rfl, hn40, by rw [Hf.out]; exact HO'.out, Hnd.out, fun b hb => Nat.le_trans b1.size (Hlo.out b hb), bnext b1 b2⟩

theorem impl_ClocksOf_any (nodes : Int) (hnodes : I64 nodes) (l : List P2) (w : World) (S : Nat → Prop) (hS : ∀ b, S b → b < w.heap.size) (A : Option Addr) (n c : Nat) (hl0 : RepL w S l A n c) :
    Calls Try.prog 25 #[.int .i64 nodes, .slice A n c] w fun x w' => ∃ A2 m c2 B, x = .returned (.tuple #[.slice A2 m c2, .bool (goodEv nodes l)]) ∧ m ≤ 40 ∧ OwnL w' B (ckOf nodes l) A2 m c2 ∧ B.Nodup ∧ (∀ b ∈ B, w.heap.size ≤ b) ∧ Below w.heap.size w w' := by
  obtain ⟨r0, hr0⟩ : ∃ r, goodEv nodes l = r := ⟨_, rfl⟩
  have C1 := Lib.hid (areEvents_any nodes hnodes l w S hS A n c hl0)
  rw [hr0] at C1 ⊢
  have R0 := Lib.hid hr0
  clear hr0
  cases r0 with
  | false =>
    have Hf := Lib.hid (show ckOf nodes l = [] by unfold ckOf; rw [R0.out]; rfl)
    go_enter Try.func25, Try.ntmps25
    go_wp2_with fail
    refine (C1.out).mono ?_
    rintro e w1 ⟨rfl, b1⟩
    go_wp2_with fail
    go_ret2
    exact ⟨none, 0, 0, [], rfl, by omega, by rw [Hf.out]; exact OwnL.nil_ _, List.nodup_nil, fun b hb => (nomatch hb), b1⟩
  | true =>
    obtain ⟨hg1, hg2, hg3, hg4⟩ := goodEv_get R0.out
    obtain ⟨N, rfl⟩ := Int.eq_ofNat_of_zero_le (show 0 ≤ nodes by omega)
    have hn := hl0.1
    have Hf := Lib.hid (show ckOf (N : Int) l = ckTo N l n by unfold ckOf; rw [R0.out, Int.toNat_natCast, hn]; rfl)
    have hn40 : n ≤ 40 := by omega
    have Hev := Lib.hid (fun (i : Nat) (hi : i < l.length) (e : P2) (he : l[i]? = some e) => (show 0 ≤ e.a ∧ e.a ≤ (N : Int) - 1 ∧ -1 ≤ e.b ∧ e.b ≤ (i : Int) - 1 from let h := hg4 i hi e he; ⟨h.1, h.2.1, h.2.2.1, h.2.2.2.1⟩))
    have Hn := Lib.hid hn
    clear hn
    clear hg4
    go_enter Try.func25, Try.ntmps25
    go_wp2_with fail
    refine (C1.out).mono ?_
    rintro e w1 ⟨rfl, b1⟩
    go_wp2_with fail
    refine (clocksOf_any N (by omega) (by omega) l Hev.out hg3 w1 S (fun b hb => Nat.lt_of_lt_of_le (hS b hb) b1.size) A n c (hl0.keep (fun p hp => b1.cell (hS _ hp)))).mono ?_
    rintro e w2 ⟨A2, c2, B, rfl, hO, hnd, hlo, b2⟩
    have HO' := Lib.hid hO
    have Hnd := Lib.hid hnd
    have Hlo := Lib.hid hlo
    clear hO hnd hlo
    go_wp2_with fail
    go_ret2
    exact ⟨A2, n, c2, B, rfl, hn40, by rw [Hf.out]; exact HO'.out, Hnd.out, fun b hb => Nat.le_trans b1.size (Hlo.out b hb), bnext b1 b2⟩
end Go.Proofs.Ytmkhahiefdcinaa

/-
  Contract: StampsOf of the reference.
-/
namespace Go.Proofs.Ytmkhahiefdcinaa
open Go.ChangeShapes Go.WideShapes Go.ChangeAt Go.RowKit Go.BigFrame
set_option linter.unusedVariables false

set_option maxHeartbeats 4000000

theorem spec_StampsOf_any (nodes : Int) (hnodes : I64 nodes) (l : List P2) (w : World) (S : Nat → Prop) (hS : ∀ b, S b → b < w.heap.size) (A : Option Addr) (n c : Nat) (hl0 : RepL w S l A n c) :
    Calls Try.prog 15 #[.int .i64 nodes, .slice A n c] w fun x w' => ∃ A2 m c2, x = .returned (.tuple #[.slice A2 m c2, .bool (goodEv nodes l)]) ∧ m ≤ 40 ∧ Made w w' 3 (stOf nodes l) A2 m c2 ∧ Below w.heap.size w w' := by
  have hbd := hl0.bd
  obtain ⟨hn, -⟩ := id hl0
  obtain ⟨r0, hr0⟩ : ∃ r, goodEv nodes l = r := ⟨_, rfl⟩
  have Hn := Lib.hid hn
  have R0 := Lib.hid hr0
  clear hn hr0
  cases r0 with
  | false =>
    have Hf := Lib.hid (show stOf nodes l = [] by unfold stOf; rw [R0.out]; rfl)
    go_enter Try.func15, Try.ntmps15
    go_wp2_with fail
    refine (spec_GoodEvents_any nodes hnodes l w S hS A n c hl0).mono ?_
    rintro e w1 ⟨rfl, b1⟩
    rw [R0.out]
    go_wp2_with fail
    go_ret2
    exact ⟨none, 0, 0, by rw [R0.out]; rfl, by omega, by rw [Hf.out]; exact Made.nil_ _ _ _, b1⟩
  | true =>
    obtain ⟨i0, hi, hz0, hz1, hz2⟩ := info_parts infoInt
    have Hf := Lib.hid (show stOf nodes l = stTo l l.length by unfold stOf; rw [R0.out]; rfl)
    obtain ⟨hg1, hg2, hg3, hg4⟩ := goodEv_get R0.out
    obtain ⟨N, rfl⟩ := Int.eq_ofNat_of_zero_le (show 0 ≤ nodes by omega)
    have Hev := Lib.hid hg4
    have hN1 : 1 ≤ N := by omega
    have hN2 : N ≤ 5 := by omega
    have hn40 : n ≤ 40 := by have := Hn.out; omega
    clear hg4
    go_enter Try.func15, Try.ntmps15
    go_wp2_with fail
    refine (spec_GoodEvents_any (N : Int) hnodes l w S hS A n c hl0).mono ?_
    rintro e w1 ⟨rfl, b1⟩
    rw [R0.out]
    go_wp2_with fail
    go_loopw [6, 17] (fun o i wr => ∃ (k : Nat), k ≤ n ∧ i = .int .i64 k ∧ wr.ownsRow w.heap.size 3 1 o k (encs (stTo l k)) ∧ Below w.heap.size w wr) (fun _ i _ => n - (intOf i).toNat)
    case atStart => exact ⟨0, Nat.zero_le _, rfl, World.ownsRow_nil _ _ _ _, b1⟩
    case round =>
      obtain ⟨k, hk, rfl, hout, hbel⟩ := hrel
      obtain ⟨A2, c2, rfl⟩ := own_slice hout
      by_cases hlt : k < n
      · have hl1' : k < l.length := by have := Hn.out; omega
        obtain ⟨b, off, xs, rfl, hSb, hc, rfl, hi1, hi2⟩ := hl0.at_ hl1'
        have hc0 := hc 0 _ rfl
        have hc1 := hc 1 _ rfl
        clear hc
        generalize hek : l[k] = ek at hc0 hc1 hi1 hi2
        obtain ⟨x, y⟩ := ek
        have hek' : l[k]? = some ⟨x, y⟩ := by rw [List.getElem?_eq_getElem hl1', hek]
        obtain ⟨hx1, hx2, hy1, hy2, hy3⟩ := Hev.out k hl1' _ hek'
        obtain ⟨j, rfl⟩ := Int.eq_ofNat_of_zero_le hx1
        have Hek := Lib.hid hek'
        have hc0' : wr.cell? ⟨b, off + k * 2, none⟩ = some (.int .i64 j) := (hbel.cell (hS _ hSb)).trans hc0
        have hc1' : wr.cell? ⟨b, off + k * 2 + 1, none⟩ = some (.int .i64 y) := (hbel.cell (hS _ hSb)).trans hc1
        have hbW := hbel.alloc hbel.size (.cells #[.int .i64 j, .int .i64 y] 64)
        have hoW := hout.alloc (.cells #[.int .i64 j, .int .i64 y] 64)
        have Hbd := Lib.hid (stTo_bd l k)
        have Hy2 := Lib.hid (show y ≤ (k : Int) - 1 from hy2)
        have hk0 : (0 : Int) ≤ (k : Int) := by omega
        clear hc0 hc1 hi1 hi2 hek hek' hx1 hx2 hy1 hy2 hy3
        go_wp2_with fail
        refine (l11Prior_any l k j y Hek.out _ S (fun x hx => by have := hS x hx; have := hbel.size; simp; omega) (some ⟨b, off, none⟩) n c (hl0.keep (fun p hp => hbW.cell (hS _ hp)))).mono ?_
        rintro e w2 ⟨rfl, b2⟩
        have B2 := bnext hbW b2
        have hs2 := b2.size
        simp at hs2
        have x0 := b2.cell (p := ⟨wr.heap.size, 0, none⟩) (by simp)
        have x1 := b2.cell (p := ⟨wr.heap.size, 1, none⟩) (by simp)
        simp at x0 x1
        have hout2 := own_below hoW b2
        have HU := Lib.hid hout2
        have hlb := lastAt_bd l k (j : Int)
        have hsw := B2.size
        clear hoW hout hbW
        by_cases hP : 0 ≤ lastAt l k (j : Int)
        · obtain ⟨p, hp⟩ := Int.eq_ofNat_of_zero_le hP
          have hpk : p < k := by omega
          obtain ⟨g, rfl⟩ : ∃ g, A2 = some ⟨g, 0, none⟩ := by
            rcases hout2.2 with ⟨_, e⟩ | ⟨g, cap, cur, e, _⟩
            · omega
            · simp only [Value.slice.injEq] at e
              exact ⟨g, e.1⟩
          have dP : decide ((0 : Int) ≤ (p : Int)) = true := decide_eq_true (by omega)
          have hpI : (p : Int) < (k : Int) := by omega
          have hp0 : (0 : Int) ≤ (p : Int) := by omega
          obtain ⟨vp, hvp⟩ : ∃ v, (stTo l k)[p]'(by rw [stTo_len]; exact hpk) = v := ⟨_, rfl⟩
          have f1 : w2.cell? ⟨g, p, none⟩ = some (.int .i64 vp) := by rw [hout2.cellAt p (by omega)]; exact getI _ _ _ (by rw [List.getElem?_eq_getElem (by rw [stTo_len]; exact hpk), hvp])
          have hvpb := Hbd.out vp (by rw [← hvp]; exact List.getElem_mem _)
          have Hvp := Lib.hid (show pick (stTo l k) (lastAt l k (j : Int)) = vp by rw [hp, pick_nat _ _ (by rw [stTo_len]; exact hpk), hvp])
          rw [hp]
          clear hvp hp hP hlb
          by_cases hC : 0 ≤ y
          · obtain ⟨f, rfl⟩ := Int.eq_ofNat_of_zero_le hC
            have hfk : f < k := by have := Hy2.out; omega
            have hfI : (f : Int) < (k : Int) := by omega
            have hf0 : (0 : Int) ≤ (f : Int) := by omega
            have dC : decide ((0 : Int) ≤ (f : Int)) = true := decide_eq_true hf0
            obtain ⟨vf, hvf⟩ : ∃ v, (stTo l k)[f]'(by rw [stTo_len]; exact hfk) = v := ⟨_, rfl⟩
            have f2 : w2.cell? ⟨g, f, none⟩ = some (.int .i64 vf) := by rw [hout2.cellAt f (by omega)]; exact getI _ _ _ (by rw [List.getElem?_eq_getElem (by rw [stTo_len]; exact hfk), hvf])
            have hvb := Hbd.out vf (by rw [← hvf]; exact List.getElem_mem _)
            have Hvf := Lib.hid (show pick (stTo l k) (f : Int) = vf by rw [pick_nat _ _ (by rw [stTo_len]; exact hfk), hvf])
            clear hvf
            by_cases hD : vp < vf
            · have dD : decide (vp < vf) = true := decide_eq_true hD
              have hww : IntKind.i64.wrap (vf + 1) = vf + 1 := by rw [IntKind.wrap_i64]; omega
              have Ha := Lib.hid (show stTo l (k + 1) = stTo l k ++ [vf + 1] by rw [stTo_succ Hek.out]; show _ ++ [stV l k (stTo l k) ⟨(j : Int), (f : Int)⟩] = _; unfold stV; rw [if_pos (show (0 : Int) ≤ (f : Int) from hf0)]; show _ ++ [max (pick (stTo l k) (lastAt l k (j : Int))) (pick (stTo l k) (f : Int)) + 1] = _; rw [Hvp.out, Hvf.out, Int.max_eq_right (by omega)])
              go_wp2_with (at_builtin; refine wpList_append_own _ rfl (.tmp 48) (.tmp 51) _ rfl w.heap.size 3 i0 (.int .i64 0) 1 8 Try.underlying30 hi hz0 hz1 hz2 rfl (by decide) _ _ _ rfl (HU.out.alloc _) ⟨w2.heap.size, 0, none⟩ 1 1 [.int .i64 (vf + 1)] rfl rfl (news_one rfl) (by intro u' hu'; simp at hu'; subst hu'; rfl) (by unfold maxLen; omega) (by omega) (by simp; omega) ?_; intro v1 w3 hown1 hg1 hat1)
              go_roundw
              case rel =>
                refine ⟨k + 1, by omega, by go_num, by rw [Ha.out, encs_append]; exact hown1, ?_⟩
                exact own_base (HU.out.alloc _) (B2.alloc B2.size _) (Nat.le_refl _) hg1 (by simp; omega)
              case measure => simp [intOf]; omega
            · have dD : decide (vp < vf) = false := decide_eq_false hD
              have hww : IntKind.i64.wrap (vp + 1) = vp + 1 := by rw [IntKind.wrap_i64]; omega
              have Ha := Lib.hid (show stTo l (k + 1) = stTo l k ++ [vp + 1] by rw [stTo_succ Hek.out]; show _ ++ [stV l k (stTo l k) ⟨(j : Int), (f : Int)⟩] = _; unfold stV; rw [if_pos (show (0 : Int) ≤ (f : Int) from hf0)]; show _ ++ [max (pick (stTo l k) (lastAt l k (j : Int))) (pick (stTo l k) (f : Int)) + 1] = _; rw [Hvp.out, Hvf.out, Int.max_eq_left (by omega)])
              go_wp2_with (at_builtin; refine wpList_append_own _ rfl (.tmp 48) (.tmp 51) _ rfl w.heap.size 3 i0 (.int .i64 0) 1 8 Try.underlying30 hi hz0 hz1 hz2 rfl (by decide) _ _ _ rfl (HU.out.alloc _) ⟨w2.heap.size, 0, none⟩ 1 1 [.int .i64 (vp + 1)] rfl rfl (news_one rfl) (by intro u' hu'; simp at hu'; subst hu'; rfl) (by unfold maxLen; omega) (by omega) (by simp; omega) ?_; intro v1 w3 hown1 hg1 hat1)
              go_roundw
              case rel =>
                refine ⟨k + 1, by omega, by go_num, by rw [Ha.out, encs_append]; exact hown1, ?_⟩
                exact own_base (HU.out.alloc _) (B2.alloc B2.size _) (Nat.le_refl _) hg1 (by simp; omega)
              case measure => simp [intOf]; omega
          · have dC : decide (0 ≤ y) = false := decide_eq_false hC
            have hww : IntKind.i64.wrap (vp + 1) = vp + 1 := by rw [IntKind.wrap_i64]; omega
            have Ha := Lib.hid (show stTo l (k + 1) = stTo l k ++ [vp + 1] by rw [stTo_succ Hek.out]; show _ ++ [stV l k (stTo l k) ⟨(j : Int), y⟩] = _; unfold stV; rw [if_neg (show ¬ (0 : Int) ≤ y from hC)]; show _ ++ [pick (stTo l k) (lastAt l k (j : Int)) + 1] = _; rw [Hvp.out])
            go_wp2_with (at_builtin; refine wpList_append_own _ rfl (.tmp 48) (.tmp 51) _ rfl w.heap.size 3 i0 (.int .i64 0) 1 8 Try.underlying30 hi hz0 hz1 hz2 rfl (by decide) _ _ _ rfl (HU.out.alloc _) ⟨w2.heap.size, 0, none⟩ 1 1 [.int .i64 (vp + 1)] rfl rfl (news_one rfl) (by intro u' hu'; simp at hu'; subst hu'; rfl) (by unfold maxLen; omega) (by omega) (by simp; omega) ?_; intro v1 w3 hown1 hg1 hat1)
            go_roundw
            case rel =>
              refine ⟨k + 1, by omega, by go_num, by rw [Ha.out, encs_append]; exact hown1, ?_⟩
              exact own_base (HU.out.alloc _) (B2.alloc B2.size _) (Nat.le_refl _) hg1 (by simp; omega)
            case measure => simp [intOf]; omega
        · have dP : decide ((0 : Int) ≤ lastAt l k (j : Int)) = false := decide_eq_false hP
          have Hvp := Lib.hid (pick_neg (stTo l k) hP)
          obtain ⟨la, hla⟩ : ∃ v, lastAt l k (j : Int) = v := ⟨_, rfl⟩
          rw [hla] at dP
          rw [hla]
          clear hP hlb hla
          by_cases hk00 : k = 0
          · have hC : ¬ 0 ≤ y := by have := Hy2.out; omega
            have Hk00 := Lib.hid hk00
            clear hk00
            have dC : decide (0 ≤ y) = false := decide_eq_false hC
            have hww : IntKind.i64.wrap (0 + 1) = 1 := by rw [IntKind.wrap_i64]; omega
            have Ha := Lib.hid (show stTo l (k + 1) = stTo l k ++ [1] by rw [stTo_succ Hek.out]; show _ ++ [stV l k (stTo l k) ⟨(j : Int), y⟩] = _; unfold stV; rw [if_neg (show ¬ (0 : Int) ≤ y from hC)]; show _ ++ [pick (stTo l k) (lastAt l k (j : Int)) + 1] = _; rw [Hvp.out]; rfl)
            go_wp2_with (at_builtin; refine wpList_append_own _ rfl (.tmp 48) (.tmp 51) _ rfl w.heap.size 3 i0 (.int .i64 0) 1 8 Try.underlying30 hi hz0 hz1 hz2 rfl (by decide) _ _ _ rfl (HU.out.alloc _) ⟨w2.heap.size, 0, none⟩ 1 1 [.int .i64 (1)] rfl rfl (news_one rfl) (by intro u' hu'; simp at hu'; subst hu'; rfl) (by unfold maxLen; omega) (by omega) (by simp; omega) ?_; intro v1 w3 hown1 hg1 hat1)
            go_roundw
            case rel =>
              refine ⟨k + 1, by omega, by go_num, by rw [Ha.out, encs_append]; exact hown1, ?_⟩
              exact own_base (HU.out.alloc _) (B2.alloc B2.size _) (Nat.le_refl _) hg1 (by simp; omega)
            case measure => simp [intOf]; omega
          · obtain ⟨g, rfl⟩ : ∃ g, A2 = some ⟨g, 0, none⟩ := by
              rcases hout2.2 with ⟨_, e⟩ | ⟨g, cap, cur, e, _⟩
              · omega
              · simp only [Value.slice.injEq] at e
                exact ⟨g, e.1⟩
            by_cases hC : 0 ≤ y
            · obtain ⟨f, rfl⟩ := Int.eq_ofNat_of_zero_le hC
              have hfk : f < k := by have := Hy2.out; omega
              have hfI : (f : Int) < (k : Int) := by omega
              have hf0 : (0 : Int) ≤ (f : Int) := by omega
              have dC : decide ((0 : Int) ≤ (f : Int)) = true := decide_eq_true hf0
              obtain ⟨vf, hvf⟩ : ∃ v, (stTo l k)[f]'(by rw [stTo_len]; exact hfk) = v := ⟨_, rfl⟩
              have f2 : w2.cell? ⟨g, f, none⟩ = some (.int .i64 vf) := by rw [hout2.cellAt f (by omega)]; exact getI _ _ _ (by rw [List.getElem?_eq_getElem (by rw [stTo_len]; exact hfk), hvf])
              have hvb := Hbd.out vf (by rw [← hvf]; exact List.getElem_mem _)
              have Hvf := Lib.hid (show pick (stTo l k) (f : Int) = vf by rw [pick_nat _ _ (by rw [stTo_len]; exact hfk), hvf])
              clear hvf
              by_cases hD : 0 < vf
              · have dD : decide (0 < vf) = true := decide_eq_true hD
                have hww : IntKind.i64.wrap (vf + 1) = vf + 1 := by rw [IntKind.wrap_i64]; omega
                have Ha := Lib.hid (show stTo l (k + 1) = stTo l k ++ [vf + 1] by rw [stTo_succ Hek.out]; show _ ++ [stV l k (stTo l k) ⟨(j : Int), (f : Int)⟩] = _; unfold stV; rw [if_pos (show (0 : Int) ≤ (f : Int) from hf0)]; show _ ++ [max (pick (stTo l k) (lastAt l k (j : Int))) (pick (stTo l k) (f : Int)) + 1] = _; rw [Hvp.out, Hvf.out, Int.max_eq_right (by omega)])
                go_wp2_with (at_builtin; refine wpList_append_own _ rfl (.tmp 48) (.tmp 51) _ rfl w.heap.size 3 i0 (.int .i64 0) 1 8 Try.underlying30 hi hz0 hz1 hz2 rfl (by decide) _ _ _ rfl (HU.out.alloc _) ⟨w2.heap.size, 0, none⟩ 1 1 [.int .i64 (vf + 1)] rfl rfl (news_one rfl) (by intro u' hu'; simp at hu'; subst hu'; rfl) (by unfold maxLen; omega) (by omega) (by simp; omega) ?_; intro v1 w3 hown1 hg1 hat1)
                go_roundw
                case rel =>
                  refine ⟨k + 1, by omega, by go_num, by rw [Ha.out, encs_append]; exact hown1, ?_⟩
                  exact own_base (HU.out.alloc _) (B2.alloc B2.size _) (Nat.le_refl _) hg1 (by simp; omega)
                case measure => simp [intOf]; omega
              · have dD : decide (0 < vf) = false := decide_eq_false hD
                have hww : IntKind.i64.wrap (0 + 1) = 1 := by rw [IntKind.wrap_i64]; omega
                have Ha := Lib.hid (show stTo l (k + 1) = stTo l k ++ [1] by rw [stTo_succ Hek.out]; show _ ++ [stV l k (stTo l k) ⟨(j : Int), (f : Int)⟩] = _; unfold stV; rw [if_pos (show (0 : Int) ≤ (f : Int) from hf0)]; show _ ++ [max (pick (stTo l k) (lastAt l k (j : Int))) (pick (stTo l k) (f : Int)) + 1] = _; rw [Hvp.out, Hvf.out, Int.max_eq_left (by omega)]; rfl)
                go_wp2_with (at_builtin; refine wpList_append_own _ rfl (.tmp 48) (.tmp 51) _ rfl w.heap.size 3 i0 (.int .i64 0) 1 8 Try.underlying30 hi hz0 hz1 hz2 rfl (by decide) _ _ _ rfl (HU.out.alloc _) ⟨w2.heap.size, 0, none⟩ 1 1 [.int .i64 (1)] rfl rfl (news_one rfl) (by intro u' hu'; simp at hu'; subst hu'; rfl) (by unfold maxLen; omega) (by omega) (by simp; omega) ?_; intro v1 w3 hown1 hg1 hat1)
                go_roundw
                case rel =>
                  refine ⟨k + 1, by omega, by go_num, by rw [Ha.out, encs_append]; exact hown1, ?_⟩
                  exact own_base (HU.out.alloc _) (B2.alloc B2.size _) (Nat.le_refl _) hg1 (by simp; omega)
                case measure => simp [intOf]; omega
            · have dC : decide (0 ≤ y) = false := decide_eq_false hC
              have hww : IntKind.i64.wrap (0 + 1) = 1 := by rw [IntKind.wrap_i64]; omega
              have Ha := Lib.hid (show stTo l (k + 1) = stTo l k ++ [1] by rw [stTo_succ Hek.out]; show _ ++ [stV l k (stTo l k) ⟨(j : Int), y⟩] = _; unfold stV; rw [if_neg (show ¬ (0 : Int) ≤ y from hC)]; show _ ++ [pick (stTo l k) (lastAt l k (j : Int)) + 1] = _; rw [Hvp.out]; rfl)
              go_wp2_with (at_builtin; refine wpList_append_own _ rfl (.tmp 48) (.tmp 51) _ rfl w.heap.size 3 i0 (.int .i64 0) 1 8 Try.underlying30 hi hz0 hz1 hz2 rfl (by decide) _ _ _ rfl (HU.out.alloc _) ⟨w2.heap.size, 0, none⟩ 1 1 [.int .i64 (1)] rfl rfl (news_one rfl) (by intro u' hu'; simp at hu'; subst hu'; rfl) (by unfold maxLen; omega) (by omega) (by simp; omega) ?_; intro v1 w3 hown1 hg1 hat1)
              go_roundw
              case rel =>
                refine ⟨k + 1, by omega, by go_num, by rw [Ha.out, encs_append]; exact hown1, ?_⟩
                exact own_base (HU.out.alloc _) (B2.alloc B2.size _) (Nat.le_refl _) hg1 (by simp; omega)
              case measure => simp [intOf]; omega
      · obtain rfl : k = n := by omega
        go_wp2_with fail
        go_ret2
        have e := Hn.out
        refine ⟨A2, k, c2, by rw [R0.out]; rfl, hn40, ?_, hbel⟩
        rw [Hf.out]
        rw [e] at hout ⊢
        exact ⟨hout, RepL.of_own' rfl (stTo_len _ _).symm hout (stTo_ok (by omega))⟩

end Go.Proofs.Ytmkhahiefdcinaa

/-
  The plain law of stamps, as the program keeps them.
-/
namespace Go.Proofs.Ytmkhahiefdcinaa
open Go.ChangeShapes Go.WideShapes Go.ChangeAt Go.RowKit Go.BigFrame
set_option linter.unusedVariables false

/-- The stamps of the first k events, zeros behind. -/
def stP (l : List P2) (n k : Nat) : List Int := stTo l k ++ List.replicate (n - k) 0
theorem stP_len (l : List P2) {n k : Nat} (h : k ≤ n) : (stP l n k).length = n := by simp [stP, stTo_len]; omega
theorem stP_zero (l : List P2) (n : Nat) : stP l n 0 = List.replicate n 0 := by simp [stP, stTo]
theorem stP_all (l : List P2) (n : Nat) : stP l n n = stTo l n := by simp [stP]
theorem stP_get {l : List P2} {n k f : Nat} (h : f < k) : (stP l n k)[f]? = some ((stTo l k)[f]'(by rw [stTo_len]; exact h)) := by
  unfold stP
  rw [List.getElem?_append_left (by rw [stTo_len]; exact h), List.getElem?_eq_getElem]
theorem stP_succ {l : List P2} {n k : Nat} {e : P2} (h : l[k]? = some e) (hk : k < n) : (stP l n k).set k (stV l k (stTo l k) e) = stP l n (k + 1) := by
  unfold stP
  rw [List.set_append_right _ _ (by rw [stTo_len]; exact Nat.le_refl _), stTo_len, Nat.sub_self, stTo_succ h]
  obtain ⟨m, hm⟩ : ∃ m, n - k = m + 1 := ⟨n - k - 1, by omega⟩
  rw [hm, List.replicate_succ, List.set_cons_zero, show n - (k + 1) = m by omega]
  simp
/-- The last stamp at each node, 0 for none. -/
def lsL (N : Nat) (l : List P2) (k : Nat) : List Int := (List.range N).map fun (j : Nat) => pick (stTo l k) (lastAt l k j)
theorem lsL_len (N : Nat) (l : List P2) (k : Nat) : (lsL N l k).length = N := by simp [lsL]
theorem lsL_get {N : Nat} (l : List P2) (k : Nat) {j : Nat} (h : j < N) : (lsL N l k)[j]? = some (pick (stTo l k) (lastAt l k j)) := by simp [lsL, h]
theorem lsL_zero (N : Nat) (l : List P2) : lsL N l 0 = List.replicate N 0 := by
  apply List.ext_getElem (by simp [lsL])
  intro i h1 h2
  simp [lsL, lastAt, pick]
theorem lsL_succ {N : Nat} {l : List P2} {k j : Nat} {y : Int} (h : l[k]? = some ⟨j, y⟩) : lsL N l (k + 1) = (lsL N l k).set j (stV l k (stTo l k) ⟨j, y⟩) := by
  apply List.ext_getElem (by simp [lsL])
  intro i h1 h2
  simp only [List.getElem_set, lsL, List.getElem_map, List.getElem_range]
  by_cases hij : j = i
  · subst hij
    rw [if_pos rfl, lastAt_hit h rfl, pick_nat _ _ (by rw [stTo_len]; omega)]
    simp only [stTo_succ h]
    rw [List.getElem_append_right (by rw [stTo_len]; exact Nat.le_refl _)]
    simp [stTo_len]
  · rw [if_neg hij, lastAt_miss h (by show ¬ ((j : Int) = (i : Int)); omega), stTo_succ h]
    have hb := lastAt_bd l k (i : Int)
    by_cases hp : 0 ≤ lastAt l k (i : Int)
    · obtain ⟨p, hp'⟩ := Int.eq_ofNat_of_zero_le hp
      rw [hp']
      have hpk : p < k := by omega
      show pick (stTo l k ++ _) (p : Int) = pick (stTo l k) (p : Int)
      rw [pick_nat _ _ (by simp [stTo_len]; omega), pick_nat _ _ (by rw [stTo_len]; exact hpk), List.getElem_append_left (by rw [stTo_len]; exact hpk)]
    · rw [pick_neg _ hp, pick_neg _ hp]

end Go.Proofs.Ytmkhahiefdcinaa

/-
  Contract: StampsOf of the program.
-/
namespace Go.Proofs.Ytmkhahiefdcinaa
open Go.ChangeShapes Go.WideShapes Go.ChangeAt Go.RowKit Go.BigFrame
set_option linter.unusedVariables false

set_option maxHeartbeats 4000000

theorem impl_StampsOf_any (nodes : Int) (hnodes : I64 nodes) (l : List P2) (w : World) (S : Nat → Prop) (hS : ∀ b, S b → b < w.heap.size) (A : Option Addr) (n c : Nat) (hl0 : RepL w S l A n c) :
    Calls Try.prog 16 #[.int .i64 nodes, .slice A n c] w fun x w' => ∃ A2 m c2, x = .returned (.tuple #[.slice A2 m c2, .bool (goodEv nodes l)]) ∧ m ≤ 40 ∧ Made w w' 3 (stOf nodes l) A2 m c2 ∧ Below w.heap.size w w' := by
  have hbd := hl0.bd
  obtain ⟨hn, -⟩ := id hl0
  obtain ⟨r0, hr0⟩ : ∃ r, goodEv nodes l = r := ⟨_, rfl⟩
  have Hn := Lib.hid hn
  have R0 := Lib.hid hr0
  clear hn hr0
  cases r0 with
  | false =>
    have Hf := Lib.hid (show stOf nodes l = [] by unfold stOf; rw [R0.out]; rfl)
    go_enter Try.func16, Try.ntmps16
    go_wp2_with fail
    refine (areEvents_any nodes hnodes l w S hS A n c hl0).mono ?_
    rintro e w1 ⟨rfl, b1⟩
    rw [R0.out]
    go_wp2_with fail
    go_ret2
    exact ⟨none, 0, 0, by rw [R0.out]; rfl, by omega, by rw [Hf.out]; exact Made.nil_ _ _ _, b1⟩
  | true =>
    obtain ⟨i0, hi, hz0, hz1, hz2⟩ := info_parts infoInt
    have Hf := Lib.hid (show stOf nodes l = stTo l l.length by unfold stOf; rw [R0.out]; rfl)
    obtain ⟨hg1, hg2, hg3, hg4⟩ := goodEv_get R0.out
    obtain ⟨N, rfl⟩ := Int.eq_ofNat_of_zero_le (show 0 ≤ nodes by omega)
    have Hev := Lib.hid hg4
    have hN1 : 1 ≤ N := by omega
    have hN2 : N ≤ 5 := by omega
    have hn40 : n ≤ 40 := by have := Hn.out; omega
    clear hg4
    have hmkf : ∀ (q : Nat), q ≤ 1000 → ∀ W, (Instr.makeSlice 30 (.int .i64 (q : Int)) (.int .i64 (q : Int))).run Try.prog W = .ok (.slice (some ⟨W.heap.size, 0, none⟩) q q) (W.alloc (.cells (madeCells #[.int .i64 0] q) 3)) := fun q hq W => by
      have := run_make_rowN (P := Try.prog) 30 3 i0 _ Try.underlying30 hi hz0 .i64 .i64 q q (Nat.le_refl _) (by rw [hz2]; omega) (by omega) W
      rw [hz1, Nat.mul_one] at this
      exact this
    have hmk1 := hmkf N (by omega)
    have hmk2 := hmkf n (by omega)
    clear hmkf
    go_enter Try.func16, Try.ntmps16
    go_wp2_with fail
    refine (areEvents_any (N : Int) hnodes l w S hS A n c hl0).mono ?_
    rintro e w1 ⟨rfl, b1⟩
    rw [R0.out]
    obtain ⟨g0, hg0⟩ : ∃ g, w1.heap.size = g := ⟨_, rfl⟩
    have hgB : w.heap.size ≤ g0 := by have := b1.size; omega
    have o0 := own_zeros w1 3 n (by omega)
    have o1 := own_zeros (w1.alloc (.cells (madeCells #[.int .i64 0] n) 3)) 3 N (by omega)
    have o0' := o0.alloc (.cells (madeCells #[.int .i64 0] N) 3)
    have hsz : (w1.alloc (.cells (madeCells #[.int .i64 0] n) 3)).heap.size = g0 + 1 := by simp [hg0]
    rw [hsz] at o1
    rw [hg0] at o0'
    have HO0 := Lib.hid o0'
    have HO1 := Lib.hid o1
    have B4 := Lib.hid ((b1.alloc b1.size (.cells (madeCells #[.int .i64 0] n) 3)).alloc (by have := b1.size; simp; omega) (.cells (madeCells #[.int .i64 0] N) 3))
    clear o0 o0' o1 hsz
    go_wp2_with fail
    try simp only [hg0]
    go_loopw [21] (fun i wr => ∃ k : Nat, k ≤ n ∧ i = .int .i64 k ∧ wr.ownsRow g0 3 1 (.slice (some ⟨g0, 0, none⟩) n n) n (encs (stP l n k)) ∧ wr.ownsRow (g0 + 1) 3 1 (.slice (some ⟨g0 + 1, 0, none⟩) N N) N (encs (lsL N l k)) ∧ Below w.heap.size w wr) (fun i _ => n - (intOf i).toNat)
    case atStart => exact ⟨0, Nat.zero_le _, rfl, by rw [stP_zero]; exact HO0.out, by rw [lsL_zero]; exact HO1.out, B4.out⟩
    case round =>
      obtain ⟨k, hk, rfl, hown, hlas, hbel⟩ := hrel
      by_cases hlt : k < n
      · have hl1' : k < l.length := by have := Hn.out; omega
        obtain ⟨b, off, xs, rfl, hSb, hc, rfl, hi1, hi2⟩ := hl0.at_ hl1'
        have hc0 := hc 0 _ rfl
        have hc1 := hc 1 _ rfl
        clear hc
        generalize hek : l[k] = ek at hc0 hc1 hi1 hi2
        obtain ⟨x, y⟩ := ek
        have hek' : l[k]? = some ⟨x, y⟩ := by rw [List.getElem?_eq_getElem hl1', hek]
        obtain ⟨hx1, hx2, hy1, hy2, hy3⟩ := Hev.out k hl1' _ hek'
        obtain ⟨j, rfl⟩ := Int.eq_ofNat_of_zero_le hx1
        have hjN : j < N := by have : (j : Int) ≤ (N : Int) - 1 := hx2; omega
        have Hek := Lib.hid hek'
        have hc0' : wr.cell? ⟨b, off + k * 2, none⟩ = some (.int .i64 j) := (hbel.cell (hS _ hSb)).trans hc0
        have hc1' : wr.cell? ⟨b, off + k * 2 + 1, none⟩ = some (.int .i64 y) := (hbel.cell (hS _ hSb)).trans hc1
        obtain ⟨gb, hgb⟩ : ∃ g, wr.heap.size = g := ⟨_, rfl⟩
        have hg01 : g0 + 1 < gb := by rw [← hgb]; exact (hlas.lt _ rfl).2
        obtain ⟨n0, hn0⟩ : ∃ v, pick (stTo l k) (lastAt l k (j : Int)) = v := ⟨_, rfl⟩
        have hnb := pick_bd (show (0 : Int) ≤ (k : Int) by omega) (stTo_bd l k) (lastAt l k (j : Int))
        rw [hn0] at hnb
        obtain ⟨hnb1, hnb2⟩ := hnb
        have Hy1 := Lib.hid (show -1 ≤ y from hy1)
        have Hy2 := Lib.hid (show y ≤ (k : Int) - 1 from hy2)
        have Hn0 := Lib.hid hn0
        have hbx := hbel.alloc hbel.size (.cells #[.int .i64 j, .int .i64 y] 64)
        -- what region 8 reads and writes
        have hlW := hlas.alloc (.cells #[.int .i64 j, .int .i64 y] 64)
        have hoW := hown.alloc (.cells #[.int .i64 j, .int .i64 y] 64)
        have a0 : (wr.alloc (.cells #[.int .i64 j, .int .i64 y] 64)).cell? ⟨g0 + 1, j, none⟩ = some (.int .i64 n0) := by rw [hlW.cellAt j (by omega), getI _ _ _ (lsL_get l k hjN), hn0]
        obtain ⟨u0, a1⟩ := own_cell hoW (j := k) (by omega)
        obtain ⟨u1, a2⟩ := own_cell hown (j := k) (by omega)
        have z0 := hoW.frozenAt k
        have z1 := hown.frozenAt k
        have hs1 := (hown.stored k (.int .i64 n0)).1
        have ls1 := own_other (v2 := .slice (some ⟨g0, 0, none⟩) n n) hlas (hown.stored k (.int .i64 n0)).2 (fun kk hkk e => by
            have h1 : g0 + 1 = kk := Option.some.inj hkk
            have h2 : g0 = kk := Option.some.inj e
            omega)
        rw [setI _ _ _ (by rw [stP_len _ (by omega)]; omega)] at hs1
        have bs1 := hbel.setCell (p := ⟨g0, k, none⟩) hgB (.int .i64 n0)
        have hss : (wr.setCell ⟨g0, k, none⟩ (.int .i64 n0)).heap.size = gb := by simp [hgb]
        have a3 : (wr.setCell ⟨g0, k, none⟩ (.int .i64 n0)).cell? ⟨g0, k, none⟩ = some (.int .i64 n0) := by rw [hs1.cellAt k (by omega)]; exact getI _ _ _ (by rw [List.getElem?_set_self (by rw [stP_len _ (by omega)]; omega)])
        have hkI : (k : Int) < (n : Int) := by omega
        have hk0 : (0 : Int) ≤ (k : Int) := by omega
        have hjI : (j : Int) < (N : Int) := by omega
        have hj0 : (0 : Int) ≤ (j : Int) := by omega
        have ne1 : g0 + 1 ≠ gb := by omega
        have ne2 : g0 ≠ gb := by omega
        by_cases hC : 0 ≤ y
        · obtain ⟨f, rfl⟩ := Int.eq_ofNat_of_zero_le hC
          have hfk : f < k := by have := Hy2.out; omega
          have hfI : (f : Int) < (n : Int) := by omega
          have hf0 : (0 : Int) ≤ (f : Int) := by omega
          have dC : decide ((0 : Int) ≤ (f : Int)) = true := decide_eq_true hf0
          obtain ⟨vf, hvf⟩ : ∃ v, (stTo l k)[f]'(by rw [stTo_len]; exact hfk) = v := ⟨_, rfl⟩
          have hvb := stTo_bd l k vf (by rw [← hvf]; exact List.getElem_mem _)
          obtain ⟨hvb1, hvb2⟩ := hvb
          obtain ⟨mx, hmx⟩ : ∃ m, max n0 vf = m := ⟨_, rfl⟩
          have hkeep : ∀ (w' : World) v, (w'.setCell ⟨g0, k, none⟩ v).cell? ⟨g0, f, none⟩ = w'.cell? ⟨g0, f, none⟩ := fun w' v => World.cell?_setCell_other w' ⟨g0, k, none⟩ ⟨g0, f, none⟩ v (fun e => by have := congrArg Addr.off e; simp at this; omega)
          have hif1 : (if n0 < vf then vf else n0) = mx := by rw [← hmx]; split <;> omega
          have hif2 : (if vf < n0 then n0 else vf) = mx := by rw [← hmx]; split <;> omega
          have hmb : 0 ≤ mx ∧ mx ≤ (k : Int) := by omega
          have hww : IntKind.i64.wrap (mx + 1) = mx + 1 := by rw [IntKind.wrap_i64]; omega
          have Hsv0 : stV l k (stTo l k) ⟨(j : Int), (f : Int)⟩ = mx + 1 := by
            unfold stV
            rw [if_pos (show (0 : Int) ≤ (f : Int) from hf0)]
            show max (pick (stTo l k) (lastAt l k (j : Int))) (pick (stTo l k) (f : Int)) + 1 = _
            rw [Hn0.out, pick_nat _ _ (by rw [stTo_len]; exact hfk), hvf, hmx]
          obtain ⟨W, hW⟩ : ∃ W, W = (wr.alloc (.cells #[.int .i64 j, .int .i64 f] 64)).setCell ⟨g0, k, none⟩ (.int .i64 n0) := ⟨_, rfl⟩
          have oW : W.ownsRow g0 3 1 (.slice (some ⟨g0, 0, none⟩) n n) n (encs ((stP l n k).set k n0)) := by
            rw [hW]
            have h := (hoW.stored k (.int .i64 n0)).1
            rw [setI _ _ _ (by rw [stP_len _ (by omega)]; omega)] at h
            exact h
          have lW : W.ownsRow (g0 + 1) 3 1 (.slice (some ⟨g0 + 1, 0, none⟩) N N) N (encs (lsL N l k)) := by
            rw [hW]
            exact own_other (v2 := .slice (some ⟨g0, 0, none⟩) n n) hlW (hoW.stored k (.int .i64 n0)).2 (fun kk hkk e => by
            have h1 : g0 + 1 = kk := Option.some.inj hkk
            have h2 : g0 = kk := Option.some.inj e
            omega)
          have bW : Below w.heap.size w W := by rw [hW]; exact hbx.setCell (p := ⟨g0, k, none⟩) hgB _
          have c0 : W.cell? ⟨gb, 0, none⟩ = some (.int .i64 j) := by rw [hW, World.cell?_setCell_far _ _ _ _ ne2, ← hgb]; exact World.cell?_alloc_new _ _ _ 0
          have c1 : W.cell? ⟨gb, 1, none⟩ = some (.int .i64 f) := by rw [hW, World.cell?_setCell_far _ _ _ _ ne2, ← hgb]; exact World.cell?_alloc_new _ _ _ 1
          have c2 : W.cell? ⟨g0, k, none⟩ = some (.int .i64 n0) := by rw [oW.cellAt k (by omega)]; exact getI _ _ _ (by rw [List.getElem?_set_self (by rw [stP_len _ (by omega)]; omega)])
          have c3 : W.cell? ⟨g0, f, none⟩ = some (.int .i64 vf) := by rw [oW.cellAt f (by omega)]; exact getI _ _ _ (by rw [List.getElem?_set_ne (by omega), stP_get hfk, hvf])
          have z3 := oW.frozenAt k
          obtain ⟨X, hX⟩ : ∃ X, X = (W.setCell ⟨g0, k, none⟩ (.int .i64 mx)).drew := ⟨_, rfl⟩
          have oX : X.ownsRow g0 3 1 (.slice (some ⟨g0, 0, none⟩) n n) n (encs ((stP l n k).set k mx)) := by
            rw [hX]
            have h := (oW.stored k (.int .i64 mx)).1.drew
            rw [setI _ _ _ (by rw [List.length_set, stP_len _ (by omega)]; omega), List.set_set] at h
            exact h
          have lX : X.ownsRow (g0 + 1) 3 1 (.slice (some ⟨g0 + 1, 0, none⟩) N N) N (encs (lsL N l k)) := by
            rw [hX]
            exact (own_other (v2 := .slice (some ⟨g0, 0, none⟩) n n) lW (oW.stored k (.int .i64 mx)).2 (fun kk hkk e => by
            have h1 : g0 + 1 = kk := Option.some.inj hkk
            have h2 : g0 = kk := Option.some.inj e
            omega)).drew
          have bX : Below w.heap.size w X := by rw [hX]; exact (bW.setCell (p := ⟨g0, k, none⟩) hgB _).drew
          have d0 : X.cell? ⟨gb, 0, none⟩ = some (.int .i64 j) := by rw [hX, World.cell?_drew, World.cell?_setCell_far _ _ _ _ ne2]; exact c0
          have d2 : X.cell? ⟨g0, k, none⟩ = some (.int .i64 mx) := by rw [oX.cellAt k (by omega)]; exact getI _ _ _ (by rw [List.getElem?_set_self (by rw [stP_len _ (by omega)]; omega)])
          have z4 := oX.frozenAt k
          obtain ⟨sv, hsv⟩ : ∃ v, mx + 1 = v := ⟨_, rfl⟩
          obtain ⟨Y, hY⟩ : ∃ Y, Y = X.setCell ⟨g0, k, none⟩ (.int .i64 sv) := ⟨_, rfl⟩
          have oY : Y.ownsRow g0 3 1 (.slice (some ⟨g0, 0, none⟩) n n) n (encs ((stP l n k).set k sv)) := by
            rw [hY]
            have h := (oX.stored k (.int .i64 sv)).1
            rw [setI _ _ _ (by rw [List.length_set, stP_len _ (by omega)]; omega), List.set_set] at h
            exact h
          have lY : Y.ownsRow (g0 + 1) 3 1 (.slice (some ⟨g0 + 1, 0, none⟩) N N) N (encs (lsL N l k)) := by
            rw [hY]
            exact own_other (v2 := .slice (some ⟨g0, 0, none⟩) n n) lX (oX.stored k (.int .i64 sv)).2 (fun kk hkk e => by
            have h1 : g0 + 1 = kk := Option.some.inj hkk
            have h2 : g0 = kk := Option.some.inj e
            omega)
          have bY : Below w.heap.size w Y := by rw [hY]; exact bX.setCell (p := ⟨g0, k, none⟩) hgB _
          have y0 : Y.cell? ⟨gb, 0, none⟩ = some (.int .i64 j) := by rw [hY, World.cell?_setCell_far _ _ _ _ ne2]; exact d0
          rw [hsv] at Hsv0
          have Hsv1 := Lib.hid hsv
          have Hsv := Lib.hid Hsv0
          have HW := Lib.hid hW
          have HX := Lib.hid hX
          have HY := Lib.hid hY
          clear hc0 hc1 hi1 hi2 hek hek' hx1 hx2 hy1 hy2 hy3 hW hX hY hn0 hmx hvf Hsv0 hlW hoW hs1 ls1 bs1 oW lW bW oX lX bX hbx hown hlas hmb hsv
          go_wp2_with fail
          try simp only [hgb]
          rw [← HW.out]
          go_region
          rw [← HX.out]
          go_wp2_with fail
          rw [Hsv1.out, ← HY.out]
          have y2 : Y.cell? ⟨g0, k, none⟩ = some (.int .i64 sv) := by rw [oY.cellAt k (by omega)]; exact getI _ _ _ (by rw [List.getElem?_set_self (by rw [stP_len _ (by omega)]; omega)])
          obtain ⟨uL, hul⟩ := own_cell lY (j := j) (by omega)
          have zl := lY.frozenAt j
          have hZ1 : ((Y.setCell ⟨g0 + 1, j, none⟩ (.int .i64 sv)).drew).ownsRow g0 3 1 (.slice (some ⟨g0, 0, none⟩) n n) n (encs (stP l n (k + 1))) := by
            rw [← stP_succ Hek.out hlt, Hsv.out]
            exact (own_other (v2 := .slice (some ⟨g0 + 1, 0, none⟩) N N) oY (lY.stored j _).2 (fun kk hkk e => by
              have h1 : g0 = kk := Option.some.inj hkk
              have h2 : g0 + 1 = kk := Option.some.inj e
              omega)).drew
          have hZ2 : ((Y.setCell ⟨g0 + 1, j, none⟩ (.int .i64 sv)).drew).ownsRow (g0 + 1) 3 1 (.slice (some ⟨g0 + 1, 0, none⟩) N N) N (encs (lsL N l (k + 1))) := by
            rw [lsL_succ Hek.out, Hsv.out, ← setI _ _ _ (by rw [lsL_len]; exact hjN)]
            exact (lY.stored j _).1.drew
          have hZ3 : Below w.heap.size w ((Y.setCell ⟨g0 + 1, j, none⟩ (.int .i64 sv)).drew) := (bY.setCell (p := ⟨g0 + 1, j, none⟩) (show w.heap.size ≤ g0 + 1 by omega) _).drew
          have HZ1 := Lib.hid hZ1
          have HZ2 := Lib.hid hZ2
          have HZ3 := Lib.hid hZ3
          clear hZ1 hZ2 hZ3 oY lY bY
          go_region
          go_wp2_with fail
          go_roundw
          case rel => exact ⟨k + 1, by omega, by go_num, HZ1.out, HZ2.out, HZ3.out⟩
          case measure => simp [intOf]; omega
        · have dC : decide (0 ≤ y) = false := decide_eq_false hC
          have hww : IntKind.i64.wrap (n0 + 1) = n0 + 1 := by rw [IntKind.wrap_i64]; omega
          have Hsv0 : stV l k (stTo l k) ⟨(j : Int), y⟩ = n0 + 1 := by
            unfold stV
            rw [if_neg (show ¬ (0 : Int) ≤ y from hC)]
            show pick (stTo l k) (lastAt l k (j : Int)) + 1 = _
            rw [Hn0.out]
          have oW := (hoW.stored k (.int .i64 n0)).1
          rw [setI _ _ _ (by rw [stP_len _ (by omega)]; omega)] at oW
          have lW := own_other (v2 := .slice (some ⟨g0, 0, none⟩) n n) hlW (hoW.stored k (.int .i64 n0)).2 (fun kk hkk e => by
            have h1 : g0 + 1 = kk := Option.some.inj hkk
            have h2 : g0 = kk := Option.some.inj e
            omega)
          have bW := hbx.setCell (p := ⟨g0, k, none⟩) hgB (.int .i64 n0)
          have c0 : ((wr.alloc (.cells #[.int .i64 j, .int .i64 y] 64)).setCell ⟨g0, k, none⟩ (.int .i64 n0)).cell? ⟨gb, 0, none⟩ = some (.int .i64 j) := by rw [World.cell?_setCell_far _ _ _ _ ne2, ← hgb]; exact World.cell?_alloc_new _ _ _ 0
          have c1 : ((wr.alloc (.cells #[.int .i64 j, .int .i64 y] 64)).setCell ⟨g0, k, none⟩ (.int .i64 n0)).cell? ⟨gb, 1, none⟩ = some (.int .i64 y) := by rw [World.cell?_setCell_far _ _ _ _ ne2, ← hgb]; exact World.cell?_alloc_new _ _ _ 1
          have c2 : ((wr.alloc (.cells #[.int .i64 j, .int .i64 y] 64)).setCell ⟨g0, k, none⟩ (.int .i64 n0)).cell? ⟨g0, k, none⟩ = some (.int .i64 n0) := by rw [oW.cellAt k (by omega)]; exact getI _ _ _ (by rw [List.getElem?_set_self (by rw [stP_len _ (by omega)]; omega)])
          have z3 := oW.frozenAt k
          obtain ⟨sv, hsv⟩ : ∃ v, n0 + 1 = v := ⟨_, rfl⟩
          obtain ⟨Y, hY⟩ : ∃ Y, Y = ((wr.alloc (.cells #[.int .i64 j, .int .i64 y] 64)).setCell ⟨g0, k, none⟩ (.int .i64 n0)).setCell ⟨g0, k, none⟩ (.int .i64 sv) := ⟨_, rfl⟩
          have oY : Y.ownsRow g0 3 1 (.slice (some ⟨g0, 0, none⟩) n n) n (encs ((stP l n k).set k sv)) := by
            rw [hY]
            have h := (oW.stored k (.int .i64 sv)).1
            rw [setI _ _ _ (by rw [List.length_set, stP_len _ (by omega)]; omega), List.set_set] at h
            exact h
          have lY : Y.ownsRow (g0 + 1) 3 1 (.slice (some ⟨g0 + 1, 0, none⟩) N N) N (encs (lsL N l k)) := by
            rw [hY]
            exact own_other (v2 := .slice (some ⟨g0, 0, none⟩) n n) lW (oW.stored k (.int .i64 sv)).2 (fun kk hkk e => by
            have h1 : g0 + 1 = kk := Option.some.inj hkk
            have h2 : g0 = kk := Option.some.inj e
            omega)
          have bY : Below w.heap.size w Y := by rw [hY]; exact bW.setCell (p := ⟨g0, k, none⟩) hgB _
          have y0 : Y.cell? ⟨gb, 0, none⟩ = some (.int .i64 j) := by rw [hY, World.cell?_setCell_far _ _ _ _ ne2]; exact c0
          rw [hsv] at Hsv0
          have Hsv1 := Lib.hid hsv
          have Hsv := Lib.hid Hsv0
          have HY := Lib.hid hY
          clear hc0 hc1 hi1 hi2 hek hek' hx1 hx2 hy1 hy2 hy3 hY hn0 Hsv0 hlW hoW hs1 ls1 bs1 oW lW bW hbx hown hlas hsv
          go_wp2_with fail
          try simp only [hgb]
          rw [Hsv1.out, ← HY.out]
          have y2 : Y.cell? ⟨g0, k, none⟩ = some (.int .i64 sv) := by rw [oY.cellAt k (by omega)]; exact getI _ _ _ (by rw [List.getElem?_set_self (by rw [stP_len _ (by omega)]; omega)])
          obtain ⟨uL, hul⟩ := own_cell lY (j := j) (by omega)
          have zl := lY.frozenAt j
          have hZ1 : ((Y.setCell ⟨g0 + 1, j, none⟩ (.int .i64 sv)).drew).ownsRow g0 3 1 (.slice (some ⟨g0, 0, none⟩) n n) n (encs (stP l n (k + 1))) := by
            rw [← stP_succ Hek.out hlt, Hsv.out]
            exact (own_other (v2 := .slice (some ⟨g0 + 1, 0, none⟩) N N) oY (lY.stored j _).2 (fun kk hkk e => by
              have h1 : g0 = kk := Option.some.inj hkk
              have h2 : g0 + 1 = kk := Option.some.inj e
              omega)).drew
          have hZ2 : ((Y.setCell ⟨g0 + 1, j, none⟩ (.int .i64 sv)).drew).ownsRow (g0 + 1) 3 1 (.slice (some ⟨g0 + 1, 0, none⟩) N N) N (encs (lsL N l (k + 1))) := by
            rw [lsL_succ Hek.out, Hsv.out, ← setI _ _ _ (by rw [lsL_len]; exact hjN)]
            exact (lY.stored j _).1.drew
          have hZ3 : Below w.heap.size w ((Y.setCell ⟨g0 + 1, j, none⟩ (.int .i64 sv)).drew) := (bY.setCell (p := ⟨g0 + 1, j, none⟩) (show w.heap.size ≤ g0 + 1 by omega) _).drew
          have HZ1 := Lib.hid hZ1
          have HZ2 := Lib.hid hZ2
          have HZ3 := Lib.hid hZ3
          clear hZ1 hZ2 hZ3 oY lY bY
          go_region
          go_wp2_with fail
          go_roundw
          case rel => exact ⟨k + 1, by omega, by go_num, HZ1.out, HZ2.out, HZ3.out⟩
          case measure => simp [intOf]; omega
      · obtain rfl : k = n := by omega
        go_wp2_with fail
        go_ret2
        have e := Hn.out
        rw [stP_all] at hown
        refine ⟨_, k, _, by rw [R0.out]; rfl, hn40, ?_, hbel⟩
        rw [Hf.out, ← e]
        exact Made.from_ (w := w1) ⟨by rw [hg0]; exact hown, by rw [hg0]; exact RepL.of_own' rfl (stTo_len _ _).symm hown (stTo_ok (by omega))⟩ b1.size

end Go.Proofs.Ytmkhahiefdcinaa

/-
  Contracts: l1Same of the reference, slices.Equal.
-/
namespace Go.Proofs.Ytmkhahiefdcinaa
open Go.ChangeShapes Go.WideShapes Go.ChangeAt Go.RowKit Go.BigFrame
set_option linter.unusedVariables false


theorem l1Same_any (l l' : List Int) (w : World) (S : Nat → Prop) (hS : ∀ b, S b → b < w.heap.size) (A A' : Option Addr) (n c n' c' : Nat) (h : RepL w S l A n c) (h' : RepL w S l' A' n' c') :
    Calls Try.prog 64 #[.slice A n c, .slice A' n' c'] w fun e w' => e = .returned (.bool (decide (l = l'))) ∧ Below w.heap.size w w' := by
  have hbd := h.bd
  have hbd' := h'.bd
  obtain ⟨hn, -⟩ := id h
  obtain ⟨hn', -⟩ := id h'
  by_cases hne : n = n'
  · have hne1 : ((n : Int) != (n' : Int)) = false := by simp [hne]
    have Hne := Lib.hid hne
    have Hn := Lib.hid hn
    have Hn' := Lib.hid hn'
    clear hne hn hn'
    go_enter Try.func64, Try.ntmps64
    go_wp2
    go_loopw [13] (fun i wr => ∃ k : Nat, k ≤ n ∧ i = .int .i64 k ∧ l.take k = l'.take k ∧ Below w.heap.size w wr) (fun i _ => n - (intOf i).toNat)
    case atStart => exact ⟨0, Nat.zero_le _, rfl, rfl, Below.refl _ _⟩
    case round =>
      obtain ⟨k, hk, rfl, hpre, hbel⟩ := hrel
      have Hpre := Lib.hid hpre
      clear hpre
      by_cases hlt : k < n
      · have hl1 : k < l.length := by have := Hn.out; omega
        have hl2 : k < l'.length := by have := Hn'.out; have := Hne.out; omega
        have hlt' : k < n' := by have := Hne.out; omega
        have hI : (k : Int) < (n : Int) := by omega
        have hI' : (k : Int) < (n' : Int) := by omega
        have hI0 : (0 : Int) ≤ (k : Int) := by omega
        obtain ⟨b, off, rfl, hSb, hc, hi1⟩ := h.at1 rfl hl1
        obtain ⟨b', off', rfl, hSb', hc', hi1'⟩ := h'.at1 rfl hl2
        have hc0 : ∀ p : Aft wr, p.world.cell? ⟨b, off + k, none⟩ = some (.int .i64 l[k]) := Aft.cell ((hbel.cell (hS _ hSb)).trans (hc _ rfl))
        have hd0 : ∀ p : Aft wr, p.world.cell? ⟨b', off' + k, none⟩ = some (.int .i64 l'[k]) := Aft.cell ((hbel.cell (hS _ hSb')).trans (hc' _ rfl))
        clear hc hc' hi1 hi1'
        by_cases he : l[k] = l'[k]
        · have Hd : ((l[k] : Int) != l'[k]) = false := by simp [he]
          have He := Lib.hid he
          clear he
          go_wp2_with fail
          refine wp_region_aft (by kernel_rfl) (by kernel_rfl) ?_
          repeat (go_big_quiet_step (fail))
          refine wpQuiet_nil ?_
          rintro _ ⟨p, rfl⟩
          have hb2 : Below w.heap.size w p.world := hbel.trans (p.below.mono hbel.size)
          go_wp2
          go_roundw
          case rel => exact ⟨k + 1, by omega, by go_num, by rw [List.take_succ_eq_append_getElem hl1, List.take_succ_eq_append_getElem hl2, Hpre.out, He.out], hb2⟩
          case measure => simp [intOf]; omega
        · have Hd : ((l[k] : Int) != l'[k]) = true := by simp [he]
          have Hfin := Lib.hid (show decide (l = l') = false from decide_eq_false fun e => he (by subst e; rfl))
          clear he
          go_wp2_with fail
          refine wp_region_aft (by kernel_rfl) (by kernel_rfl) ?_
          repeat (go_big_quiet_step (fail))
          refine wpQuiet_nil ?_
          rintro _ ⟨p, rfl⟩
          have hb2 : Below w.heap.size w p.world := hbel.trans (p.below.mono hbel.size)
          go_wp2
          go_ret
          exact ⟨by rw [Hfin.out]; rfl, hb2⟩
      · go_wp2
        go_ret
        have e1 := Hn.out
        have e2 := Hn'.out
        have e3 := Hne.out
        have e4 := Hpre.out
        rw [List.take_of_length_le (by omega), List.take_of_length_le (by omega)] at e4
        exact ⟨by rw [decide_eq_true e4]; rfl, hbel⟩
  · have hne1 : ((n : Int) != (n' : Int)) = true := by simp; omega
    have Hfin := Lib.hid (show decide (l = l') = false from decide_eq_false fun e => hne (by rw [hn, hn', e]))
    clear hn hn' hne
    go_enter Try.func64, Try.ntmps64
    go_wp2
    go_ret
    exact ⟨by rw [Hfin.out]; rfl, Below.refl _ _⟩

theorem slicesEqual_any (l l' : List Int) (w : World) (S : Nat → Prop) (hS : ∀ b, S b → b < w.heap.size) (A A' : Option Addr) (n c n' c' : Nat) (h : RepL w S l A n c) (h' : RepL w S l' A' n' c') :
    Calls Try.prog 60 #[.slice A n c, .slice A' n' c'] w fun e w' => e = .returned (.bool (decide (l = l'))) ∧ Below w.heap.size w w' := by
  have hbd := h.bd
  have hbd' := h'.bd
  obtain ⟨hn, -⟩ := id h
  obtain ⟨hn', -⟩ := id h'
  by_cases hne : n = n'
  · have hne1 : ((n : Int) != (n' : Int)) = false := by simp [hne]
    have Hne := Lib.hid hne
    have Hn := Lib.hid hn
    have Hn' := Lib.hid hn'
    clear hne hn hn'
    go_enter Try.func60, Try.ntmps60
    go_wp2
    go_loopw [13] (fun i wr => ∃ k : Nat, k ≤ n ∧ i = .int .i64 k ∧ l.take k = l'.take k ∧ Below w.heap.size w wr) (fun i _ => n - (intOf i).toNat)
    case atStart => exact ⟨0, Nat.zero_le _, rfl, rfl, Below.refl _ _⟩
    case round =>
      obtain ⟨k, hk, rfl, hpre, hbel⟩ := hrel
      have Hpre := Lib.hid hpre
      clear hpre
      by_cases hlt : k < n
      · have hl1 : k < l.length := by have := Hn.out; omega
        have hl2 : k < l'.length := by have := Hn'.out; have := Hne.out; omega
        have hlt' : k < n' := by have := Hne.out; omega
        have hI : (k : Int) < (n : Int) := by omega
        have hI' : (k : Int) < (n' : Int) := by omega
        have hI0 : (0 : Int) ≤ (k : Int) := by omega
        obtain ⟨b, off, rfl, hSb, hc, hi1⟩ := h.at1 rfl hl1
        obtain ⟨b', off', rfl, hSb', hc', hi1'⟩ := h'.at1 rfl hl2
        have hc0 : ∀ p : Aft wr, p.world.cell? ⟨b, off + k, none⟩ = some (.int .i64 l[k]) := Aft.cell ((hbel.cell (hS _ hSb)).trans (hc _ rfl))
        have hd0 : ∀ p : Aft wr, p.world.cell? ⟨b', off' + k, none⟩ = some (.int .i64 l'[k]) := Aft.cell ((hbel.cell (hS _ hSb')).trans (hc' _ rfl))
        clear hc hc' hi1 hi1'
        by_cases he : l[k] = l'[k]
        · have Hd : ((l[k] : Int) != l'[k]) = false := by simp [he]
          have He := Lib.hid he
          clear he
          go_wp2_with fail
          refine wp_region_aft (by kernel_rfl) (by kernel_rfl) ?_
          repeat (go_big_quiet_step (fail))
          refine wpQuiet_nil ?_
          rintro _ ⟨p, rfl⟩
          have hb2 : Below w.heap.size w p.world := hbel.trans (p.below.mono hbel.size)
          go_wp2
          go_roundw
          case rel => exact ⟨k + 1, by omega, by go_num, by rw [List.take_succ_eq_append_getElem hl1, List.take_succ_eq_append_getElem hl2, Hpre.out, He.out], hb2⟩
          case measure => simp [intOf]; omega
        · have Hd : ((l[k] : Int) != l'[k]) = true := by simp [he]
          have Hfin := Lib.hid (show decide (l = l') = false from decide_eq_false fun e => he (by subst e; rfl))
          clear he
          go_wp2_with fail
          refine wp_region_aft (by kernel_rfl) (by kernel_rfl) ?_
          repeat (go_big_quiet_step (fail))
          refine wpQuiet_nil ?_
          rintro _ ⟨p, rfl⟩
          have hb2 : Below w.heap.size w p.world := hbel.trans (p.below.mono hbel.size)
          go_wp2
          go_ret
          exact ⟨by rw [Hfin.out]; rfl, hb2⟩
      · go_wp2
        go_ret
        have e1 := Hn.out
        have e2 := Hn'.out
        have e3 := Hne.out
        have e4 := Hpre.out
        rw [List.take_of_length_le (by omega), List.take_of_length_le (by omega)] at e4
        exact ⟨by rw [decide_eq_true e4]; rfl, hbel⟩
  · have hne1 : ((n : Int) != (n' : Int)) = true := by simp; omega
    have Hfin := Lib.hid (show decide (l = l') = false from decide_eq_false fun e => hne (by rw [hn, hn', e]))
    clear hn hn' hne
    go_enter Try.func60, Try.ntmps60
    go_wp2
    go_ret
    exact ⟨by rw [Hfin.out]; rfl, Below.refl _ _⟩

end Go.Proofs.Ytmkhahiefdcinaa

/-
  Contracts: LessClock of the reference and of the program.
-/
namespace Go.Proofs.Ytmkhahiefdcinaa
open Go.ChangeShapes Go.WideShapes Go.ChangeAt Go.RowKit Go.BigFrame
set_option linter.unusedVariables false

/-- No number of the first is greater. -/
def leAll (a b : List Int) : Bool := (a.zip b).all fun p => decide (p.1 ≤ p.2)
theorem leAll_take {a b : List Int} {k : Nat} (ha : k < a.length) (hb : k < b.length) (h : leAll (a.take k) (b.take k) = true) (hk : a[k] ≤ b[k]) : leAll (a.take (k + 1)) (b.take (k + 1)) = true := by
  unfold leAll at *
  rw [List.take_succ_eq_append_getElem ha, List.take_succ_eq_append_getElem hb, List.zip_append (by simp; omega), List.all_append, h]
  simp [hk]
theorem leAll_not {a b : List Int} {k : Nat} (ha : k < a.length) (hb : k < b.length) (hk : b[k] < a[k]) : leAll a b = false := by
  unfold leAll
  rw [List.all_eq_false]
  refine ⟨(a[k], b[k]), ?_, by simpa using hk⟩
  have : (a.zip b)[k]'(by simp; omega) = (a[k], b[k]) := by simp
  rw [← this]
  exact List.getElem_mem _
/-- What LessClock answers. -/
def lessB (a b : List Int) : Bool := okCk a b && (leAll a b && !decide (a = b))

theorem spec_LessClock_any (a b : List Int) (w : World) (S : Nat → Prop) (hS : ∀ b, S b → b < w.heap.size) (A A' : Option Addr) (n c n' c' : Nat) (hl0 : RepL w S a A n c) (hl1 : RepL w S b A' n' c') :
    Calls Try.prog 37 #[.slice A n c, .slice A' n' c'] w fun x w' => x = .returned (.tuple #[.bool (lessB a b), .bool (okCk a b)]) ∧ Below w.heap.size w w' := by
  have hbd := hl0.bd
  have hbd' := hl1.bd
  obtain ⟨hn, -⟩ := id hl0
  obtain ⟨hn', -⟩ := id hl1
  have Hn := Lib.hid hn
  have Hn' := Lib.hid hn'
  clear hn hn'
  obtain ⟨r1, hr1⟩ : ∃ r, clockOk a = r := ⟨_, rfl⟩
  obtain ⟨r2, hr2⟩ : ∃ r, clockOk b = r := ⟨_, rfl⟩
  have Hok0 := Lib.hid (show okCk a b = (r1 && (r2 && decide (n = n'))) by rw [okCk_spec, hr1, hr2, Hn.out, Hn'.out])
  have H1 := Lib.hid hr1
  have H2 := Lib.hid hr2
  clear hr1 hr2
  cases r1 with
  | false =>
    have Hok := Lib.hid (show okCk a b = false by rw [Hok0.out]; rfl)
    have Hf := Lib.hid (show lessB a b = false by unfold lessB; rw [Hok.out]; rfl)
    go_enter Try.func37, Try.ntmps37
    go_wp2_with fail
    refine (l11Clock_any a _ H1.out w S hS A n c hl0).mono ?_
    rintro e w1 ⟨rfl, b1⟩
    go_wp2_with fail
    go_ret2
    exact ⟨by rw [Hf.out, Hok.out]; rfl, b1⟩
  | true =>
    cases r2 with
    | false =>
      have Hok := Lib.hid (show okCk a b = false by rw [Hok0.out]; rfl)
      have Hf := Lib.hid (show lessB a b = false by unfold lessB; rw [Hok.out]; rfl)
      go_enter Try.func37, Try.ntmps37
      go_wp2_with fail
      refine (l11Clock_any a _ H1.out w S hS A n c hl0).mono ?_
      rintro e w1 ⟨rfl, b1⟩
      go_wp2_with fail
      refine (l11Clock_any b _ H2.out w1 S (fun x hx => Nat.lt_of_lt_of_le (hS x hx) b1.size) A' n' c' (hl1.keep (fun p hp => b1.cell (hS _ hp)))).mono ?_
      rintro e w2 ⟨rfl, b2⟩
      go_wp2_with fail
      go_ret2
      exact ⟨by rw [Hf.out, Hok.out]; rfl, bnext b1 b2⟩
    | true =>
      by_cases hne : n = n'
      · have hd2 : ((n : Int) != (n' : Int)) = false := by simp [hne]
        have Hok := Lib.hid (show okCk a b = true by rw [Hok0.out, decide_eq_true hne]; rfl)
        have Hne := Lib.hid hne
        rw [Hok.out]
        clear hne
        go_enter Try.func37, Try.ntmps37
        go_wp2_with fail
        refine (l11Clock_any a _ H1.out w S hS A n c hl0).mono ?_
        rintro e w1 ⟨rfl, b1⟩
        go_wp2_with fail
        refine (l11Clock_any b _ H2.out w1 S (fun x hx => Nat.lt_of_lt_of_le (hS x hx) b1.size) A' n' c' (hl1.keep (fun p hp => b1.cell (hS _ hp)))).mono ?_
        rintro e w2 ⟨rfl, b2⟩
        have b12 := bnext b1 b2
        go_wp2_with fail
        go_loopw [24] (fun i wr => ∃ k : Nat, k ≤ n ∧ i = .int .i64 k ∧ leAll (a.take k) (b.take k) = true ∧ Below w.heap.size w wr) (fun i _ => n - (intOf i).toNat)
        case atStart => exact ⟨0, Nat.zero_le _, rfl, rfl, b12⟩
        case round =>
          obtain ⟨k, hk, rfl, hpre, hbel⟩ := hrel
          have Hpre := Lib.hid hpre
          clear hpre
          by_cases hlt : k < n
          · have hk1 : k < a.length := by have := Hn.out; omega
            have hk2 : k < b.length := by have := Hn'.out; have := Hne.out; omega
            have hlt' : k < n' := by have := Hne.out; omega
            have hI : (k : Int) < (n : Int) := by omega
            have hI' : (k : Int) < (n' : Int) := by omega
            have hI0 : (0 : Int) ≤ (k : Int) := by omega
            obtain ⟨ba, off, rfl, hSb, hc, hi1⟩ := hl0.at1 rfl hk1
            obtain ⟨bb, off', rfl, hSb', hc', hi1'⟩ := hl1.at1 rfl hk2
            have hc0 : ∀ p : Aft wr, p.world.cell? ⟨ba, off + k, none⟩ = some (.int .i64 a[k]) := Aft.cell ((hbel.cell (hS _ hSb)).trans (hc _ rfl))
            have hd0 : ∀ p : Aft wr, p.world.cell? ⟨bb, off' + k, none⟩ = some (.int .i64 b[k]) := Aft.cell ((hbel.cell (hS _ hSb')).trans (hc' _ rfl))
            clear hc hc' hi1 hi1'
            by_cases hgt : b[k] < a[k]
            · have hd : decide (b[k] < a[k]) = true := decide_eq_true hgt
              have Hf := Lib.hid (show lessB a b = false by unfold lessB; rw [leAll_not hk1 hk2 hgt]; simp)
              go_wp2_with fail
              refine wp_region_aft (by kernel_rfl) (by kernel_rfl) ?_
              repeat (go_big_quiet_step (fail))
              refine wpQuiet_nil ?_
              rintro _ ⟨p, rfl⟩
              have hb2 : Below w.heap.size w p.world := hbel.trans (p.below.mono hbel.size)
              go_wp2_with fail
              go_ret2
              exact ⟨by rw [Hf.out]; rfl, hb2⟩
            · have hd : decide (b[k] < a[k]) = false := decide_eq_false hgt
              have Hs := Lib.hid (leAll_take hk1 hk2 Hpre.out (by omega))
              go_wp2_with fail
              refine wp_region_aft (by kernel_rfl) (by kernel_rfl) ?_
              repeat (go_big_quiet_step (fail))
              refine wpQuiet_nil ?_
              rintro _ ⟨p, rfl⟩
              have hb2 : Below w.heap.size w p.world := hbel.trans (p.below.mono hbel.size)
              go_wp2_with fail
              go_roundw
              case rel => exact ⟨k + 1, by omega, by go_num, Hs.out, hb2⟩
              case measure => simp [intOf]; omega
          · obtain ⟨q, hq⟩ : ∃ q, decide (a = b) = q := ⟨_, rfl⟩
            have Hf := Lib.hid (show lessB a b = !q by
              have h1 := Hpre.out
              rw [List.take_of_length_le (by have := Hn.out; omega), List.take_of_length_le (by have := Hn'.out; have := Hne.out; omega)] at h1
              unfold lessB
              rw [Hok.out, h1, hq]
              rfl)
            have Hq := Lib.hid hq
            clear hq
            go_wp2_with fail
            refine (l1Same_any a b wr S (fun x hx => Nat.lt_of_lt_of_le (hS x hx) hbel.size) A A' n c n' c' (hl0.keep (fun p hp => hbel.cell (hS _ hp))) (hl1.keep (fun p hp => hbel.cell (hS _ hp)))).mono ?_
            rintro e w9 ⟨rfl, b9⟩
            rw [Hq.out]
            go_wp2_with fail
            go_ret2
            exact ⟨by rw [Hf.out]; rfl, hbel.trans (b9.mono hbel.size)⟩
      · have hd2 : ((n : Int) != (n' : Int)) = true := by simp; omega
        have Hok := Lib.hid (show okCk a b = false by rw [Hok0.out, decide_eq_false hne]; rfl)
        have Hf := Lib.hid (show lessB a b = false by unfold lessB; rw [Hok.out]; rfl)
        go_enter Try.func37, Try.ntmps37
        go_wp2_with fail
        refine (l11Clock_any a _ H1.out w S hS A n c hl0).mono ?_
        rintro e w1 ⟨rfl, b1⟩
        go_wp2_with fail
        refine (l11Clock_any b _ H2.out w1 S (fun x hx => Nat.lt_of_lt_of_le (hS x hx) b1.size) A' n' c' (hl1.keep (fun p hp => b1.cell (hS _ hp)))).mono ?_
        rintro e w2 ⟨rfl, b2⟩
        go_wp2_with fail
        go_ret2
        exact ⟨by rw [Hf.out, Hok.out]; rfl, bnext b1 b2⟩

theorem impl_LessClock_any (a b : List Int) (w : World) (S : Nat → Prop) (hS : ∀ b, S b → b < w.heap.size) (A A' : Option Addr) (n c n' c' : Nat) (hl0 : RepL w S a A n c) (hl1 : RepL w S b A' n' c') :
    Calls Try.prog 35 #[.slice A n c, .slice A' n' c'] w fun x w' => x = .returned (.tuple #[.bool (lessB a b), .bool (okCk a b)]) ∧ Below w.heap.size w w' := by
  have hbd := hl0.bd
  have hbd' := hl1.bd
  obtain ⟨hn, -⟩ := id hl0
  obtain ⟨hn', -⟩ := id hl1
  have Hn := Lib.hid hn
  have Hn' := Lib.hid hn'
  clear hn hn'
  obtain ⟨r1, hr1⟩ : ∃ r, okCk a b = r := ⟨_, rfl⟩
  have Hok := Lib.hid hr1
  clear hr1
  cases r1 with
  | false =>
    have Hf := Lib.hid (show lessB a b = false by unfold lessB; rw [Hok.out]; rfl)
    go_enter Try.func35, Try.ntmps35
    go_wp2_with fail
    refine (areClocks_any a b _ Hok.out w S hS A A' n c n' c' hl0 hl1).mono ?_
    rintro e w1 ⟨rfl, b1⟩
    go_wp2_with fail
    go_ret2
    exact ⟨by rw [Hf.out, Hok.out]; rfl, b1⟩
  | true =>
    have Hne := Lib.hid (show n = n' by rw [Hn.out, Hn'.out]; exact okCk_len Hok.out)
    rw [Hok.out]
    go_enter Try.func35, Try.ntmps35
    go_wp2_with fail
    refine (areClocks_any a b _ Hok.out w S hS A A' n c n' c' hl0 hl1).mono ?_
    rintro e w1 ⟨rfl, b12⟩
    go_wp2_with fail
    go_loopw [14] (fun i wr => ∃ k : Nat, k ≤ n ∧ i = .int .i64 k ∧ leAll (a.take k) (b.take k) = true ∧ Below w.heap.size w wr) (fun i _ => n - (intOf i).toNat)
    case atStart => exact ⟨0, Nat.zero_le _, rfl, rfl, b12⟩
    case round =>
      obtain ⟨k, hk, rfl, hpre, hbel⟩ := hrel
      have Hpre := Lib.hid hpre
      clear hpre
      by_cases hlt : k < n
      · have hk1 : k < a.length := by have := Hn.out; omega
        have hk2 : k < b.length := by have := Hn'.out; have := Hne.out; omega
        have hlt' : k < n' := by have := Hne.out; omega
        have hI : (k : Int) < (n : Int) := by omega
        have hI' : (k : Int) < (n' : Int) := by omega
        have hI0 : (0 : Int) ≤ (k : Int) := by omega
        obtain ⟨ba, off, rfl, hSb, hc, hi1⟩ := hl0.at1 rfl hk1
        obtain ⟨bb, off', rfl, hSb', hc', hi1'⟩ := hl1.at1 rfl hk2
        have hc0 : wr.cell? ⟨ba, off + k, none⟩ = some (.int .i64 a[k]) := (hbel.cell (hS _ hSb)).trans (hc _ rfl)
        have hd0 : wr.cell? ⟨bb, off' + k, none⟩ = some (.int .i64 b[k]) := (hbel.cell (hS _ hSb')).trans (hc' _ rfl)
        clear hc hc' hi1 hi1'
        by_cases hgt : b[k] < a[k]
        · have hd : decide (b[k] < a[k]) = true := decide_eq_true hgt
          have Hf := Lib.hid (show lessB a b = false by unfold lessB; rw [leAll_not hk1 hk2 hgt]; simp)
          have hb2 := hbel
          go_wp2_with fail
          go_ret2
          exact ⟨by rw [Hf.out]; rfl, hb2⟩
        · have hd : decide (b[k] < a[k]) = false := decide_eq_false hgt
          have Hs := Lib.hid (leAll_take hk1 hk2 Hpre.out (by omega))
          have hb2 := hbel
          go_wp2_with fail
          go_roundw
          case rel => exact ⟨k + 1, by omega, by go_num, Hs.out, hb2⟩
          case measure => simp [intOf]; omega
      · obtain ⟨q, hq⟩ : ∃ q, decide (a = b) = q := ⟨_, rfl⟩
        have Hf := Lib.hid (show lessB a b = !q by
          have h1 := Hpre.out
          rw [List.take_of_length_le (by have := Hn.out; omega), List.take_of_length_le (by have := Hn'.out; have := Hne.out; omega)] at h1
          unfold lessB
          rw [Hok.out, h1, hq]
          rfl)
        have Hq := Lib.hid hq
        clear hq
        go_wp2_with fail
        refine (slicesEqual_any a b wr S (fun x hx => Nat.lt_of_lt_of_le (hS x hx) hbel.size) A A' n c n' c' (hl0.keep (fun p hp => hbel.cell (hS _ hp))) (hl1.keep (fun p hp => hbel.cell (hS _ hp)))).mono ?_
        rintro e w9 ⟨rfl, b9⟩
        rw [Hq.out]
        go_wp2_with fail
        go_ret2
        exact ⟨by rw [Hf.out]; rfl, hbel.trans (b9.mono hbel.size)⟩

end Go.Proofs.Ytmkhahiefdcinaa

/-
  From the earlier kit's contracts over clocks and stamps to the calculus: ClocksOf, StampsOf, LessClock.
-/
namespace Go.Proofs.Ytmkhahiefdcinaa
open Go.ChangeShapes Go.WideShapes Go.ChangeAt Go.RowKit Go.BigFrame Go.Deep
set_option linter.unusedVariables false

set_option linter.unusedSimpArgs false
theorem v_sClk (n : Int) (l : List GEvent) (hn : I64 n) (hl : allEv l) : FnF Try.prog 24 [.one (.int .i64 n), .one (evsAV l)] (.tup2 (.one (rowsAV (ckOf n l))) (.one (.bool (goodEv n l)))) := by
  intro w S vs hS hd
  obtain ⟨v, vs1, rfl, h1, v2, vs2, rfl, h2, h3⟩ := hd
  obtain rfl : vs2 = [] := h3
  have h1 : v = _ := h1
  subst h1
  obtain ⟨A, c, rfl, r1⟩ := evs_rep h2 hl
  refine (spec_ClocksOf_any n hn l w S hS.lt A _ c r1).mono fun e w' h => ?_
  obtain ⟨A2, m, c2, B, rfl, _, ⟨hm, h5⟩, h6, h7, h8⟩ := h
  have hlt := Own.lt h5
  exact ⟨_, rfl, ⟨_, _, rfl, (own_tr_rows h6 h5).d fun b hb => ⟨h7 b hb, hlt b hb⟩, rfl⟩, h8⟩
theorem v_iClk (n : Int) (l : List GEvent) (hn : I64 n) (hl : allEv l) : FnF Try.prog 25 [.one (.int .i64 n), .one (evsAV l)] (.tup2 (.one (rowsAV (ckOf n l))) (.one (.bool (goodEv n l)))) := by
  intro w S vs hS hd
  obtain ⟨v, vs1, rfl, h1, v2, vs2, rfl, h2, h3⟩ := hd
  obtain rfl : vs2 = [] := h3
  have h1 : v = _ := h1
  subst h1
  obtain ⟨A, c, rfl, r1⟩ := evs_rep h2 hl
  refine (impl_ClocksOf_any n hn l w S hS.lt A _ c r1).mono fun e w' h => ?_
  obtain ⟨A2, m, c2, B, rfl, _, ⟨hm, h5⟩, h6, h7, h8⟩ := h
  have hlt := Own.lt h5
  exact ⟨_, rfl, ⟨_, _, rfl, (own_tr_rows h6 h5).d fun b hb => ⟨h7 b hb, hlt b hb⟩, rfl⟩, h8⟩
theorem v_sStamp (n : Int) (l : List GEvent) (hn : I64 n) (hl : allEv l) : FnF Try.prog 15 [.one (.int .i64 n), .one (evsAV l)] (.tup2 (.one (intsAV (stOf n l))) (.one (.bool (goodEv n l)))) := by
  intro w S vs hS hd
  obtain ⟨v, vs1, rfl, h1, v2, vs2, rfl, h2, h3⟩ := hd
  obtain rfl : vs2 = [] := h3
  have h1 : v = _ := h1
  subst h1
  obtain ⟨A, c, rfl, r1⟩ := evs_rep h2 hl
  refine (spec_StampsOf_any n hn l w S hS.lt A _ c r1).mono fun e w' h => ?_
  obtain ⟨A2, m, c2, rfl, _, hm, hb⟩ := h
  exact ⟨_, rfl, ⟨_, _, rfl, rep_ints hm.2, rfl⟩, hb⟩
theorem v_iStamp (n : Int) (l : List GEvent) (hn : I64 n) (hl : allEv l) : FnF Try.prog 16 [.one (.int .i64 n), .one (evsAV l)] (.tup2 (.one (intsAV (stOf n l))) (.one (.bool (goodEv n l)))) := by
  intro w S vs hS hd
  obtain ⟨v, vs1, rfl, h1, v2, vs2, rfl, h2, h3⟩ := hd
  obtain rfl : vs2 = [] := h3
  have h1 : v = _ := h1
  subst h1
  obtain ⟨A, c, rfl, r1⟩ := evs_rep h2 hl
  refine (impl_StampsOf_any n hn l w S hS.lt A _ c r1).mono fun e w' h => ?_
  obtain ⟨A2, m, c2, rfl, _, hm, hb⟩ := h
  exact ⟨_, rfl, ⟨_, _, rfl, rep_ints hm.2, rfl⟩, hb⟩
theorem v_sLess (a b : List Int) (ha : allRi a) (hb : allRi b) : Fn Try.prog 37 [.one (intsAV a), .one (intsAV b)] (.tup2 (.one (.bool (lessB a b))) (.one (.bool (okCk a b)))) := by
  intro w S vs hS hd
  obtain ⟨v, vs1, rfl, h1, v2, vs2, rfl, h2, h3⟩ := hd
  obtain rfl : vs2 = [] := h3
  obtain ⟨A, c, rfl, r1⟩ := ints_rep h1 ha
  obtain ⟨A', c', rfl, r2⟩ := ints_rep h2 hb
  exact (spec_LessClock_any a b w S hS.lt A A' _ c _ c' r1 r2).mono fun e w' h => h
theorem v_iLess (a b : List Int) (ha : allRi a) (hb : allRi b) : Fn Try.prog 35 [.one (intsAV a), .one (intsAV b)] (.tup2 (.one (.bool (lessB a b))) (.one (.bool (okCk a b)))) := by
  intro w S vs hS hd
  obtain ⟨v, vs1, rfl, h1, v2, vs2, rfl, h2, h3⟩ := hd
  obtain rfl : vs2 = [] := h3
  obtain ⟨A, c, rfl, r1⟩ := ints_rep h1 ha
  obtain ⟨A', c', rfl, r2⟩ := ints_rep h2 hb
  exact (impl_LessClock_any a b w S hS.lt A A' _ c _ c' r1 r2).mono fun e w' h => h
theorem v_are (n : Int) (l : List GEvent) (hn : I64 n) (hl : allEv l) : Fn Try.prog 48 [.one (.int .i64 n), .one (evsAV l)] (.one (.bool (goodEv n l))) := by
  intro w S vs hS hd
  obtain ⟨v, vs1, rfl, h1, v2, vs2, rfl, h2, h3⟩ := hd
  obtain rfl : vs2 = [] := h3
  have h1 : v = _ := h1
  subst h1
  obtain ⟨A, c, rfl, r1⟩ := evs_rep h2 hl
  exact (areEvents_any n hn l w S hS.lt A _ c r1).mono fun e w' h => h
end Go.Proofs.Ytmkhahiefdcinaa

/-
  Clocks say just what came first; stamps respect it.
-/
namespace Go.Proofs.Ytmkhahiefdcinaa
open Go.ChangeShapes Go.WideShapes Go.ChangeAt Go.RowKit Go.BigFrame Go.Deep
set_option linter.unusedVariables false

set_option linter.unusedSimpArgs false
theorem stTo_take (l : List P2) : ∀ {j k : Nat}, j ≤ k → (stTo l k).take j = stTo l j := by
  intro j k h
  induction k with
  | zero => obtain rfl : j = 0 := by omega
            rfl
  | succ k ih =>
    by_cases e : j = k + 1
    · subst e; rw [List.take_of_length_le (by rw [stTo_len]; exact Nat.le_refl _)]
    · show (stTo l k ++ _).take j = _
      rw [List.take_append_of_le_length (by rw [stTo_len]; omega)]
      exact ih (by omega)
def stk (l : List P2) (k : Nat) : Int := (stTo l l.length).getD k 0
theorem stTo_at {l : List P2} {j k : Nat} (h : j < k) (hk : k ≤ l.length) : (stTo l k).getD j 0 = stk l j := by
  unfold stk
  rw [← stTo_take l hk, List.getD_eq_getElem?_getD, List.getD_eq_getElem?_getD, List.getElem?_take, if_pos h]
theorem stk_eq {l : List P2} {k : Nat} (hk : k < l.length) : stk l k = stV l k (stTo l k) (ev l k) := by
  rw [← stTo_at (show k < k + 1 by omega) (by omega), stTo_succ (ev_some hk), List.getD_eq_getElem?_getD, List.getElem?_append_right (by rw [stTo_len]; exact Nat.le_refl _), stTo_len, Nat.sub_self]; rfl
theorem pick_at {l : List P2} {k p : Nat} (hp : p < k) (hk : k ≤ l.length) : pick (stTo l k) (p : Int) = stk l p := by
  unfold pick
  rw [if_pos (by omega), Int.toNat_natCast, stTo_at hp hk]
theorem st_lt {l : List P2} (he : Evs l) {p k : Nat} (hk : k < l.length) (h : (p : Int) = pr0 l k ∨ (p : Int) = pr1 l k) : stk l p < stk l k := by
  rw [stk_eq hk]
  unfold stV
  rcases h with h | h
  · have hp : p < k := by have := he.lt0 k hk; omega
    have e : lastAt l k (ev l k).a = (p : Int) := h.symm
    rw [e, pick_at hp (by omega)]
    split <;> omega
  · have hp : p < k := by have := he.lt1 k hk; omega
    have e : (ev l k).b = (p : Int) := h.symm
    rw [e, if_pos (by omega), pick_at hp (by omega)]
    omega
theorem an_st {l : List P2} (he : Evs l) {a b : Nat} (h : An l a b) (hb : b < l.length) : a = b ∨ stk l a < stk l b := by
  induction h with
  | self => exact .inl rfl
  | @step p k hp _ ih =>
    have hpk : p < k := by
      have h0 := he.lt0 k hb
      have h1 := he.lt1 k hb
      rcases hp with h | h <;> omega
    have h2 := st_lt he hb hp
    rcases ih (by omega) with h | h
    · subst h; exact .inr h2
    · exact .inr (by omega)
theorem leAll_iff {a b : List Int} (h : a.length = b.length) : leAll a b = true ↔ ∀ i, i < a.length → a.getD i 0 ≤ b.getD i 0 := by
  unfold leAll
  rw [List.all_eq_true]
  constructor
  · intro hh i hi
    have hz : i < (a.zip b).length := by rw [List.length_zip]; omega
    have := hh _ (List.getElem_mem hz)
    rw [List.getElem_zip, decide_eq_true_eq] at this
    rw [List.getD_eq_getElem?_getD, List.getD_eq_getElem?_getD, List.getElem?_eq_getElem hi, List.getElem?_eq_getElem (by omega)]
    exact this
  · intro hh p hp
    obtain ⟨i, hi, rfl⟩ := List.mem_iff_getElem.1 hp
    rw [List.length_zip] at hi
    have := hh i (by omega)
    rw [List.getD_eq_getElem?_getD, List.getD_eq_getElem?_getD, List.getElem?_eq_getElem (by omega), List.getElem?_eq_getElem (by omega)] at this
    rw [List.getElem_zip, decide_eq_true_eq]
    exact this
theorem clk_mono {N : Nat} {l : List P2} (h : goodEvs N l = true) {a b : Nat} (ha : a < l.length) (hb : b < l.length) (k : An l a b) {j : Nat} (hj : j < N) : (rowV N l a).getD j 0 ≤ (rowV N l b).getD j 0 := by
  have h0 := row_upto h hb hj
  rw [row_clk, row_clk] at *
  rcases (clk_law (evs_of h) (evs_nd h) a ha).2 j hj with h1 | ⟨c, h1, h2, h3⟩
  · rw [h1]; exact h0.1
  · have h4 := (clk_law (evs_of h) (evs_nd h) b hb).1 c (k.trans h1)
    rw [h2, Int.toNat_natCast] at h4
    rw [← h3]; exact h4
theorem less_iff {N : Nat} {l : List P2} (h : goodEvs N l = true) {a b : Nat} (ha : a < l.length) (hb : b < l.length) : lessB (rowV N l a) (rowV N l b) = true ↔ a ≠ b ∧ An l a b := by
  have hn := evs_nd h
  have he := evs_of h
  have hlen : (rowV N l a).length = (rowV N l b).length := by rw [rowV_lenN ha, rowV_lenN hb]
  unfold lessB
  rw [ck_rows h ha hb, Bool.true_and, Bool.and_eq_true, leAll_iff hlen, Bool.not_eq_true', decide_eq_false_iff_not, rowV_lenN ha]
  constructor
  · rintro ⟨h1, h2⟩
    refine ⟨fun e => h2 (by rw [e]), ?_⟩
    have h3 := h1 (ev l a).a.toNat (by have := hn a ha; omega)
    rw [row_clk, row_clk, clk_self h ha] at h3
    exact an_of h ha hb h3
  · rintro ⟨h1, h2⟩
    refine ⟨fun j hj => clk_mono h ha hb h2 hj, fun e => h1 ?_⟩
    have h3 := clk_self h hb
    rw [← row_clk, ← e, row_clk] at h3
    have h4 := an_of h hb ha (by rw [h3]; exact Int.le_refl _)
    have h5 := h2.le he hb
    have h6 := h4.le he ha
    omega
/-- What the law asks of two events. -/
theorem clock_facts {n : Int} {l : List GEvent} (hg : goodEvs n l = true) {a b : Nat} (ha : a < l.length) (hb : b < l.length) :
    ((okCk (rowV n.toNat l a) (rowV n.toNat l b) = true ∧ lessB (rowV n.toNat l a) (rowV n.toNat l b) = (firstV l b).contains (a : Int)) ∧ ((firstV l b).contains (a : Int) = true → stk l a < stk l b ∧ (firstV l a).contains (b : Int) = false)) ∧ (ckOf n l = ckTo n.toNat l l.length ∧ stOf n l = stTo l l.length ∧ goodEv n l = true) := by
  obtain ⟨h1, _⟩ := goodEvs_get hg
  have hgv := goodEv_of hg
  obtain ⟨N, rfl⟩ : ∃ N : Nat, n = N := ⟨n.toNat, (Int.toNat_of_nonneg (by omega)).symm⟩
  rw [Int.toNat_natCast]
  have he := evs_of hg
  have hc : ∀ {a b : Nat}, a < l.length → b < l.length → ((firstV l b).contains (a : Int) = true ↔ a ≠ b ∧ An l a b) := fun {a b} _ hb => by
    rw [← first_iff he hb a, List.contains_eq_mem, decide_eq_true_eq]
  refine ⟨⟨⟨ck_rows hg ha hb, ?_⟩, fun h => ?_⟩, ?_, ?_, hgv⟩
  · rw [Bool.eq_iff_iff, less_iff hg ha hb, hc ha hb]
  · obtain ⟨h2, h3⟩ := (hc ha hb).1 h
    refine ⟨(an_st he h3 hb).resolve_left h2, ?_⟩
    rw [Bool.eq_false_iff]
    intro h4
    obtain ⟨_, h5⟩ := (hc hb ha).1 h4
    have := h3.le he hb
    have := h5.le he ha
    omega
  · unfold ckOf; rw [if_pos hgv]; rfl
  · unfold stOf; rw [if_pos hgv]
end Go.Proofs.Ytmkhahiefdcinaa

/-
  The laws' own small functions; ClocksOf.
-/
namespace Go.Proofs.Ytmkhahiefdcinaa
open Go.ChangeShapes Go.WideShapes Go.ChangeAt Go.RowKit Go.BigFrame Go.Deep
set_option linter.unusedVariables false
set_option linter.unusedSimpArgs false
theorem vfu_ca_48 : callB Try.prog 48 = true := by kernel_rfl
theorem vfu_ca_50 : callB Try.prog 50 = true := by kernel_rfl
theorem vfu_cv_5_3_.i64 : convB Try.prog 5 3 .i64 = true := by kernel_rfl
theorem vfu_el_30_1 : elemB Try.prog 30 1 = true := by kernel_rfl
theorem vfu_el_47_1 : elemB Try.prog 47 1 = true := by kernel_rfl
theorem vfu_pl_3 : plainB Try.prog 3 = true := by kernel_rfl
theorem vfu_pl_5 : plainB Try.prog 5 = true := by kernel_rfl
theorem vfu_sl_30 : sliceB Try.prog 30 = true := by kernel_rfl
theorem vfu_sl_47 : sliceB Try.prog 47 = true := by kernel_rfl
theorem cut_ok {n : Int} {l : List GEvent} {k : Int} (h : (cutV n l k).2 = true) : ctOk n l k := by
  by_cases hq : ctOk n l k
  · exact hq
  · rw [cut_no hq] at h; cases h
def numTo (l : List UInt8) : Nat → Nat
  | 0 => 0
  | k + 1 => (31 * numTo l k + (l.getD k 0).toNat) % 1000003
theorem numTo_lt (l : List UInt8) : ∀ k, numTo l k < 1000003
  | 0 => by show 0 < 1000003; decide
  | k + 1 => Nat.mod_lt _ (by decide)
theorem same_yes {a b : List Int} (h : a.length = b.length) (hs : ∀ j, j < a.length → a.getD j 0 = b.getD j 0) : a = b := by
  refine List.ext_getElem h fun i h1 h2 => ?_
  have := hs i h1
  rwa [List.getD_eq_getElem?_getD, List.getD_eq_getElem?_getD, List.getElem?_eq_getElem h1, List.getElem?_eq_getElem h2] at this
theorem v_numberOf (l : List UInt8) : Fn Try.prog 39 [.one (.lst 1 l.length (fun i0 _ => .int .u8 (((l.getD i0 0).toNat : Nat) : Int)))] (.one (.int .i64 (((numTo l l.length) : Nat) : Int))) := by
  refine Fn.of_body (fn := Try.f39) Try.func39 rfl (Nat.le_of_ble_eq_true rfl) trivial ?_
  intro w0
  show AW _ 20 _ _ _ _
  refine AW.bound (t := 0) rfl fun hx => ?_
  refine AW.seq ?_
  refine AW.region ?_
  refine ARun.pure (PureOp.assign rfl .int) rfl rfl (Nat.le_of_ble_eq_true rfl) ?_
  refine ARun.nil ?_
  refine AW.seq ?_
  refine AW.region ?_
  refine ARun.pure (PureOp.assign rfl .int) rfl rfl (Nat.le_of_ble_eq_true rfl) ?_
  refine ARun.nil ?_
  refine AW.seq ?_
  refine AW.seq ?_
  refine AW.region ?_
  refine ARun.pure (PureOp.move rfl (.tmp rfl)) rfl rfl (Nat.le_of_ble_eq_true rfl) ?_
  refine ARun.pure (PureOp.lenLst rfl (.tmp rfl) vfu_sl_47) rfl rfl (Nat.le_of_ble_eq_true rfl) ?_
  refine ARun.pure (PureOp.move rfl .int) rfl rfl (Nat.le_of_ble_eq_true rfl) ?_
  refine ARun.nil ?_
  refine AW.block ?_
  refine AW.loop (ι := Nat) (fun k => ⟨[(3, .one (.int .i64 (((numTo l k) : Nat) : Int))), (6, .one (.lst 1 l.length (fun i0 _ => .int .u8 (((l.getD i0 0).toNat : Nat) : Int)))), (7, .one (.int .i64 (l.length : Int))), (8, .one (.int .i64 (k : Int)))], []⟩) (fun k => k ≤ l.length) (fun k => l.length - k) 0 (Nat.zero_le _) ⟨⟨⟨_, rfl, rfl⟩, ⟨_, rfl, rfl⟩, ⟨_, rfl, rfl⟩, ⟨_, rfl, rfl⟩, trivial⟩, trivial⟩ ?_
  intro k hk
  have hnt := numTo_lt l k
  refine AW.seq ?_
  refine AW.region ?_
  refine ARun.pure (PureOp.intOp rfl (.tmp rfl) (.tmp rfl) rfl) rfl rfl (Nat.le_of_ble_eq_true rfl) ?_
  refine ARun.nil ?_
  refine AW.seq ?_
  refine AW.cond (.tmp rfl) (fun hb1 => ?_) (fun hb1 => ?_)
  · have _u := True.intro
    replace hb1 := of_decide_eq_true hb1
    have hkl : k < l.length := by omega
    have hu := UInt8.toNat_lt (l.getD k 0)
    refine AW.skip ?_
    refine AW.seq ?_
    refine AW.block ?_
    refine AW.seq ?_
    refine AW.region ?_
    refine ARun.pure (PureOp.indexLst (i := k) rfl (.tmp rfl) vfu_el_47_1 (.tmp rfl) rfl (by omega)) rfl rfl (Nat.le_of_ble_eq_true rfl) ?_
    refine ARun.pure (PureOp.loadRef rfl (.tmp rfl) vfu_pl_5 (Nat.le_of_ble_eq_true rfl)) rfl rfl (Nat.le_of_ble_eq_true rfl) ?_
    refine ARun.pure (PureOp.assign rfl (.tmp rfl)) rfl rfl (Nat.le_of_ble_eq_true rfl) ?_
    refine ARun.nil ?_
    refine AW.region ?_
    refine ARun.pure (PureOp.move rfl (.tmp rfl)) rfl rfl (Nat.le_of_ble_eq_true rfl) ?_
    refine ARun.pure (PureOp.mul (c := ((31 * (numTo l k) : Nat) : Int)) rfl .int (.tmp rfl) (by rw [wrap_id (by omega) (by omega)]; omega)) rfl rfl (Nat.le_of_ble_eq_true rfl) ?_
    refine ARun.pure (PureOp.move rfl (.tmp rfl)) rfl rfl (Nat.le_of_ble_eq_true rfl) ?_
    refine ARun.pure (PureOp.conv (b := (((l.getD k 0).toNat : Nat) : Int)) rfl (.tmp rfl) vfu_cv_5_3_.i64 (wrap_id (by have := UInt8.toNat_lt (l.getD k 0); omega) (by have := UInt8.toNat_lt (l.getD k 0); omega))) rfl rfl (Nat.le_of_ble_eq_true rfl) ?_
    refine ARun.pure (PureOp.add (c := ((31 * (numTo l k) + ((l.getD k 0).toNat) : Nat) : Int)) rfl (.tmp rfl) (.tmp rfl) (by have hu := UInt8.toNat_lt (l.getD k 0); rw [wrap_id (by omega) (by omega)]; omega)) rfl rfl (Nat.le_of_ble_eq_true rfl) ?_
    refine ARun.pure (PureOp.rem (a := 31 * (numTo l k) + ((l.getD k 0).toNat)) (b := 1000003) rfl (.tmp rfl) .int rfl (by decide) (by omega)) rfl rfl (Nat.le_of_ble_eq_true rfl) ?_
    refine ARun.pure (PureOp.assign rfl (.tmp rfl)) rfl rfl (Nat.le_of_ble_eq_true rfl) ?_
    refine ARun.nil ?_
    refine AW.region ?_
    refine ARun.pure (PureOp.add (c := ((k + 1 : Nat) : Int)) rfl (.tmp rfl) .int (by rw [wrap_id (by omega) (by omega)]; omega)) rfl rfl (Nat.le_of_ble_eq_true rfl) ?_
    refine ARun.pure (PureOp.move rfl (.tmp rfl)) rfl rfl (Nat.le_of_ble_eq_true rfl) ?_
    refine ARun.nil ?_
    exact ⟨k + 1, by omega, by dsimp only; omega, ⟨⟨⟨_, rfl, rfl⟩, ⟨_, rfl, rfl⟩, ⟨_, rfl, rfl⟩, ⟨_, rfl, rfl⟩, trivial⟩, trivial⟩⟩
  · have _u := True.intro
    replace hb1 := of_decide_eq_false hb1
    have hkl : ¬ k < l.length := by omega
    have hu := UInt8.toNat_lt (l.getD k 0)
    have hke : k = l.length := by omega
    refine AW.exit ?_
    refine AW.seq ?_
    refine AW.region ?_
    refine ARun.pure (PureOp.move rfl (.tmp rfl)) rfl rfl (Nat.le_of_ble_eq_true rfl) ?_
    refine ARun.pure (PureOp.assign rfl (.tmp rfl)) rfl rfl (Nat.le_of_ble_eq_true rfl) ?_
    refine ARun.nil ?_
    refine AW.ret (show ResL _ _ [.tmp 2] _ from resI rfl ?_)
    rw [hke]

theorem v_sameInts (a b : List Int) : Fn Try.prog 33 [.one (.lst 1 a.length (fun i0 _ => .int .i64 (a.getD i0 0))), .one (.lst 1 b.length (fun i0 _ => .int .i64 (b.getD i0 0)))] (.one (.bool (decide (a = b)))) := by
  refine Fn.of_body (fn := Try.f33) Try.func33 rfl (Nat.le_of_ble_eq_true rfl) trivial ?_
  intro w0
  show AW _ 26 _ _ _ _
  refine AW.bound (t := 0) rfl fun hx => ?_
  refine AW.seq ?_
  refine AW.region ?_
  refine ARun.pure (PureOp.assign rfl .bool) rfl rfl (Nat.le_of_ble_eq_true rfl) ?_
  refine ARun.nil ?_
  refine AW.seq ?_
  refine AW.seq ?_
  refine AW.region ?_
  refine ARun.pure (PureOp.move rfl (.tmp rfl)) rfl rfl (Nat.le_of_ble_eq_true rfl) ?_
  refine ARun.pure (PureOp.lenLst rfl (.tmp rfl) vfu_sl_30) rfl rfl (Nat.le_of_ble_eq_true rfl) ?_
  refine ARun.pure (PureOp.move rfl (.tmp rfl)) rfl rfl (Nat.le_of_ble_eq_true rfl) ?_
  refine ARun.pure (PureOp.lenLst rfl (.tmp rfl) vfu_sl_30) rfl rfl (Nat.le_of_ble_eq_true rfl) ?_
  refine ARun.pure (PureOp.intOp rfl (.tmp rfl) (.tmp rfl) rfl) rfl rfl (Nat.le_of_ble_eq_true rfl) ?_
  refine ARun.nil ?_
  refine AW.cond (.tmp rfl) (fun hb1 => ?_) (fun hb1 => ?_)
  · have _u := True.intro
    replace hb1 := of_decide_eq_false (of_not hb1)
    have hln : a.length ≠ b.length := by omega
    refine AW.seq ?_
    refine AW.region ?_
    refine ARun.pure (PureOp.assign rfl .bool) rfl rfl (Nat.le_of_ble_eq_true rfl) ?_
    refine ARun.nil ?_
    refine AW.ret (show ResL _ _ [.tmp 4] _ from resB rfl ?_)
    exact (decide_eq_false (fun e => hln (by rw [e]))).symm
  · have _u := True.intro
    replace hb1 := of_decide_eq_true (not_f hb1)
    have hln : a.length = b.length := by omega
    refine AW.skip ?_
    refine AW.seq ?_
    refine AW.seq ?_
    refine AW.region ?_
    refine ARun.pure (PureOp.move rfl (.tmp rfl)) rfl rfl (Nat.le_of_ble_eq_true rfl) ?_
    refine ARun.pure (PureOp.lenLst rfl (.tmp rfl) vfu_sl_30) rfl rfl (Nat.le_of_ble_eq_true rfl) ?_
    refine ARun.pure (PureOp.move rfl .int) rfl rfl (Nat.le_of_ble_eq_true rfl) ?_
    refine ARun.nil ?_
    refine AW.block ?_
    refine AW.loop (ι := Nat) (fun k => ⟨[(0, .one (.lst 1 a.length (fun i0 _ => .int .i64 (a.getD i0 0)))), (1, .one (.lst 1 b.length (fun i0 _ => .int .i64 (b.getD i0 0)))), (12, .one (.int .i64 (a.length : Int))), (13, .one (.int .i64 (k : Int)))], []⟩) (fun k => k ≤ a.length ∧ ∀ j, j < k → a.getD j 0 = b.getD j 0) (fun k => a.length - k) 0 ⟨Nat.zero_le _, fun j hj => absurd hj (Nat.not_lt_zero j)⟩ ⟨⟨⟨_, rfl, rfl⟩, ⟨_, rfl, rfl⟩, ⟨_, rfl, rfl⟩, ⟨_, rfl, rfl⟩, trivial⟩, trivial⟩ ?_
    intro k hk
    obtain ⟨hk, hks⟩ := hk
    refine AW.seq ?_
    refine AW.region ?_
    refine ARun.pure (PureOp.intOp rfl (.tmp rfl) (.tmp rfl) rfl) rfl rfl (Nat.le_of_ble_eq_true rfl) ?_
    refine ARun.nil ?_
    refine AW.seq ?_
    refine AW.cond (.tmp rfl) (fun hb2 => ?_) (fun hb2 => ?_)
    · have _u := True.intro
      replace hb2 := of_decide_eq_true hb2
      have hkl : k < a.length := by omega
      refine AW.skip ?_
      refine AW.seq ?_
      refine AW.block ?_
      refine AW.seq ?_
      refine AW.region ?_
      refine ARun.pure (PureOp.move rfl (.tmp rfl)) rfl rfl (Nat.le_of_ble_eq_true rfl) ?_
      refine ARun.pure (PureOp.assign rfl (.tmp rfl)) rfl rfl (Nat.le_of_ble_eq_true rfl) ?_
      refine ARun.nil ?_
      refine AW.seq ?_
      refine AW.any (by kernel_rfl) (by kernel_rfl) ?_
      refine AD.pure (PureOp.move rfl (.tmp rfl)) rfl rfl (Nat.le_of_ble_eq_true rfl) ?_
      refine AD.pure (PureOp.move rfl (.tmp rfl)) rfl rfl (Nat.le_of_ble_eq_true rfl) ?_
      refine AD.pure (PureOp.indexLst (i := k) rfl (.tmp rfl) vfu_el_30_1 (.tmp rfl) rfl (by omega)) rfl rfl (Nat.le_of_ble_eq_true rfl) ?_
      refine AD.pure (PureOp.loadRef rfl (.tmp rfl) vfu_pl_3 (Nat.le_of_ble_eq_true rfl)) rfl rfl (Nat.le_of_ble_eq_true rfl) ?_
      refine AD.pure (PureOp.move rfl (.tmp rfl)) rfl rfl (Nat.le_of_ble_eq_true rfl) ?_
      refine AD.pure (PureOp.move rfl (.tmp rfl)) rfl rfl (Nat.le_of_ble_eq_true rfl) ?_
      refine AD.pure (PureOp.indexLst (i := k) rfl (.tmp rfl) vfu_el_30_1 (.tmp rfl) rfl (by omega)) rfl rfl (Nat.le_of_ble_eq_true rfl) ?_
      refine AD.pure (PureOp.loadRef rfl (.tmp rfl) vfu_pl_3 (Nat.le_of_ble_eq_true rfl)) rfl rfl (Nat.le_of_ble_eq_true rfl) ?_
      refine AD.pure (PureOp.intOp rfl (.tmp rfl) (.tmp rfl) rfl) rfl rfl (Nat.le_of_ble_eq_true rfl) ?_
      refine AD.nil ?_
      refine AW.cond (.tmp rfl) (fun hb3 => ?_) (fun hb3 => ?_)
      · have _u := True.intro
        replace hb3 := of_decide_eq_false (of_not hb3)
        refine AW.seq ?_
        refine AW.region ?_
        refine ARun.pure (PureOp.assign rfl .bool) rfl rfl (Nat.le_of_ble_eq_true rfl) ?_
        refine ARun.nil ?_
        refine AW.ret (show ResL _ _ [.tmp 4] _ from resB rfl ?_)
        exact (decide_eq_false (fun e => hb3 (by rw [e]))).symm
      · have _u := True.intro
        replace hb3 := of_decide_eq_true (not_f hb3)
        have heq := hb3
        refine AW.skip ?_
        refine AW.region ?_
        refine ARun.pure (PureOp.add (c := ((k + 1 : Nat) : Int)) rfl (.tmp rfl) .int (by rw [wrap_id (by omega) (by omega)]; omega)) rfl rfl (Nat.le_of_ble_eq_true rfl) ?_
        refine ARun.pure (PureOp.move rfl (.tmp rfl)) rfl rfl (Nat.le_of_ble_eq_true rfl) ?_
        refine ARun.nil ?_
        exact ⟨k + 1, ⟨by omega, rng_succ hks heq⟩, by dsimp only; omega, ⟨⟨⟨_, rfl, rfl⟩, ⟨_, rfl, rfl⟩, ⟨_, rfl, rfl⟩, ⟨_, rfl, rfl⟩, trivial⟩, trivial⟩⟩
    · have _u := True.intro
      replace hb2 := of_decide_eq_false hb2
      have hkl : ¬ k < a.length := by omega
      refine AW.exit ?_
      refine AW.seq ?_
      refine AW.region ?_
      refine ARun.pure (PureOp.assign rfl .bool) rfl rfl (Nat.le_of_ble_eq_true rfl) ?_
      refine ARun.nil ?_
      refine AW.ret (show ResL _ _ [.tmp 4] _ from resB rfl ?_)
      exact (decide_eq_true (same_yes hln fun j hj => hks j (by omega))).symm

def cksV (n : Int) (l : List GEvent) : List (List Int) × Bool := if goodEvs n l = true then (ckTo n.toNat l l.length, true) else ([], false)
theorem v_iClocksOf (n : Int) (l : List GEvent) (hn : I64 n) : FnT Try.prog 25 [.one (.int .i64 n), .one (.lst 2 l.length (fun i0 j0 => ([.int .i64 ((l.getD i0 (default : GEvent)).a), .int .i64 ((l.getD i0 (default : GEvent)).b)] : List AV).getD j0 (.con undef)))] (.tup2 (.one (.lst 1 (((cksV n l).1).length) (fun i0 _ => .lst 1 ((((cksV n l).1).getD i0 []).length) (fun i1 _ => .int .i64 ((((cksV n l).1).getD i0 []).getD i1 0))))) (.one (.bool ((cksV n l).2)))) := by
  obtain ⟨hn0, hn1⟩ := hn
  refine FnT.of_body (fn := Try.f25) Try.func25 rfl (Nat.le_of_ble_eq_true rfl)  ?_
  intro w0
  show AW _ 13 _ _ _ _
  refine AW.seq ?_
  refine AW.region ?_
  refine ARun.pure (PureOp.assign rfl .con) rfl rfl (Nat.le_of_ble_eq_true rfl) ?_
  refine ARun.pure (PureOp.assign rfl .bool) rfl rfl (Nat.le_of_ble_eq_true rfl) ?_
  refine ARun.nil ?_
  refine AW.seq ?_
  refine AW.seq ?_
  refine AW.region ?_
  refine ARun.pure (PureOp.move rfl (.tmp rfl)) rfl rfl (Nat.le_of_ble_eq_true rfl) ?_
  refine ARun.pure (PureOp.move rfl (.tmp rfl)) rfl rfl (Nat.le_of_ble_eq_true rfl) ?_
  refine ARun.pure (PureOp.call rfl (v_areEvents n l ⟨by omega, by omega⟩) ⟨⟨_, (.tmp rfl), .int⟩, ⟨_, (.tmp rfl), .lst⟩, trivial⟩ vfu_ca_48 trivial) rfl rfl (Nat.le_of_ble_eq_true rfl) ?_
  refine ARun.pure (PureOp.not rfl (.tmp rfl)) rfl rfl (Nat.le_of_ble_eq_true rfl) ?_
  refine ARun.nil ?_
  refine AW.cond (.tmp rfl) (fun hb1 => ?_) (fun hb1 => ?_)
  · have _u := True.intro
    have hg : ¬ goodEvs n l = true := by intro e; rw [e] at hb1; cases hb1
    refine AW.seq ?_
    refine AW.region ?_
    refine ARun.pure (PureOp.assign rfl .con) rfl rfl (Nat.le_of_ble_eq_true rfl) ?_
    refine ARun.pure (PureOp.assign rfl .bool) rfl rfl (Nat.le_of_ble_eq_true rfl) ?_
    refine ARun.nil ?_
    rw [show cksV n l = ([], false) from if_neg hg]
    exact AW.ret (show ∃ s t, ResL _ _ [.tmp 4, .tmp 5] s ∧ TvS _ (ofLeaf t) 0 s _ from ⟨_, fun a b => 1000, .inr (.inl ⟨_, _, _, _, rfl, .tmp rfl, .tmp rfl, rfl⟩), ⟨.nil, .bool⟩⟩)
  · have _u := True.intro
    have hg : goodEvs n l = true := by cases e : goodEvs n l with | true => rfl | false => rw [e] at hb1; cases hb1
    refine AW.skip ?_
    refine AW.seq ?_
    refine AW.region ?_
    refine ARun.pure (PureOp.move rfl (.tmp rfl)) rfl rfl (Nat.le_of_ble_eq_true rfl) ?_
    refine ARun.pure (PureOp.move rfl (.tmp rfl)) rfl rfl (Nat.le_of_ble_eq_true rfl) ?_
    refine ARun.prod (K := 0) rfl (v_ClocksI n l hg) ⟨rfl, (by repeat first | exact trivial | refine ⟨by decide, by first | rfl | exact trivial | (intro i j; first | rfl | exact getD_no rfl | (dsimp only; split <;> first | rfl | exact getD_no rfl) | exact scl_no (by apply_assumption) _), ?_⟩)⟩ ⟨⟨_, (.tmp rfl), .int⟩, ⟨_, (.tmp rfl), .lst⟩, trivial⟩ vfu_ca_50 rfl rfl rfl rfl rfl (Nat.le_of_ble_eq_true rfl) ?_
    refine ARun.pure (PureOp.assign rfl (.tmp rfl)) rfl rfl (Nat.le_of_ble_eq_true rfl) ?_
    refine ARun.pure (PureOp.assign rfl .bool) rfl rfl (Nat.le_of_ble_eq_true rfl) ?_
    refine ARun.nil ?_
    rw [show cksV n l = (ckTo n.toNat l l.length, true) from if_pos hg]
    exact AW.ret (show ∃ s t, ResL _ _ [.tmp 4, .tmp 5] s ∧ TvS _ (ofLeaf t) 0 s _ from ⟨_, fun a b => if a = 0 then 0 else 1000, .inr (.inl ⟨_, _, _, _, rfl, .tmp rfl, .tmp rfl, rfl⟩), ⟨(Tv.cast (Tv.tre rfl (Nat.le_of_ble_eq_true rfl) (by rfl)) rfl), .bool⟩⟩)
end Go.Proofs.Ytmkhahiefdcinaa

/-
  The laws' own comparison of rows; GoodEvents.
-/
namespace Go.Proofs.Ytmkhahiefdcinaa
open Go.ChangeShapes Go.WideShapes Go.ChangeAt Go.RowKit Go.BigFrame Go.Deep
set_option linter.unusedVariables false
set_option linter.unusedSimpArgs false
theorem vfk_ca_33 : callB Try.prog 33 = true := by kernel_rfl
theorem vfk_ca_48 : callB Try.prog 48 = true := by kernel_rfl
theorem vfk_el_40_1 : elemB Try.prog 40 1 = true := by kernel_rfl
theorem vfk_pl_30 : plainB Try.prog 30 = true := by kernel_rfl
theorem vfk_sl_40 : sliceB Try.prog 40 = true := by kernel_rfl
theorem rows_yes {a b : List (List Int)} (h : a.length = b.length) (hs : ∀ j, j < a.length → a.getD j [] = b.getD j []) : a = b := by
  refine List.ext_getElem h fun i h1 h2 => ?_
  have := hs i h1
  rwa [List.getD_eq_getElem?_getD, List.getD_eq_getElem?_getD, List.getElem?_eq_getElem h1, List.getElem?_eq_getElem h2] at this
theorem v_sameRows (a b : List (List Int)) : Fn Try.prog 32 [.one (.lst 1 a.length (fun i0 _ => .lst 1 ((a.getD i0 []).length) (fun i1 _ => .int .i64 ((a.getD i0 []).getD i1 0)))), .one (.lst 1 b.length (fun i0 _ => .lst 1 ((b.getD i0 []).length) (fun i1 _ => .int .i64 ((b.getD i0 []).getD i1 0))))] (.one (.bool (decide (a = b)))) := by
  refine Fn.of_body (fn := Try.f32) Try.func32 rfl (Nat.le_of_ble_eq_true rfl) trivial ?_
  intro w0
  show AW _ 27 _ _ _ _
  refine AW.bound (t := 0) rfl fun hx => ?_
  refine AW.seq ?_
  refine AW.region ?_
  refine ARun.pure (PureOp.assign rfl .bool) rfl rfl (Nat.le_of_ble_eq_true rfl) ?_
  refine ARun.nil ?_
  refine AW.seq ?_
  refine AW.seq ?_
  refine AW.region ?_
  refine ARun.pure (PureOp.move rfl (.tmp rfl)) rfl rfl (Nat.le_of_ble_eq_true rfl) ?_
  refine ARun.pure (PureOp.lenLst rfl (.tmp rfl) vfk_sl_40) rfl rfl (Nat.le_of_ble_eq_true rfl) ?_
  refine ARun.pure (PureOp.move rfl (.tmp rfl)) rfl rfl (Nat.le_of_ble_eq_true rfl) ?_
  refine ARun.pure (PureOp.lenLst rfl (.tmp rfl) vfk_sl_40) rfl rfl (Nat.le_of_ble_eq_true rfl) ?_
  refine ARun.pure (PureOp.intOp rfl (.tmp rfl) (.tmp rfl) rfl) rfl rfl (Nat.le_of_ble_eq_true rfl) ?_
  refine ARun.nil ?_
  refine AW.cond (.tmp rfl) (fun hb1 => ?_) (fun hb1 => ?_)
  · have _u := True.intro
    replace hb1 := of_decide_eq_false (of_not hb1)
    have hln : a.length ≠ b.length := by omega
    refine AW.seq ?_
    refine AW.region ?_
    refine ARun.pure (PureOp.assign rfl .bool) rfl rfl (Nat.le_of_ble_eq_true rfl) ?_
    refine ARun.nil ?_
    refine AW.ret (show ResL _ _ [.tmp 4] _ from resB rfl ?_)
    exact (decide_eq_false (fun e => hln (by rw [e]))).symm
  · have _u := True.intro
    replace hb1 := of_decide_eq_true (not_f hb1)
    have hln : a.length = b.length := by omega
    refine AW.skip ?_
    refine AW.seq ?_
    refine AW.seq ?_
    refine AW.region ?_
    refine ARun.pure (PureOp.move rfl (.tmp rfl)) rfl rfl (Nat.le_of_ble_eq_true rfl) ?_
    refine ARun.pure (PureOp.lenLst rfl (.tmp rfl) vfk_sl_40) rfl rfl (Nat.le_of_ble_eq_true rfl) ?_
    refine ARun.pure (PureOp.move rfl .int) rfl rfl (Nat.le_of_ble_eq_true rfl) ?_
    refine ARun.nil ?_
    refine AW.block ?_
    refine AW.loop (ι := Nat) (fun k => ⟨[(0, .one (.lst 1 a.length (fun i0 _ => .lst 1 ((a.getD i0 []).length) (fun i1 _ => .int .i64 ((a.getD i0 []).getD i1 0))))), (1, .one (.lst 1 b.length (fun i0 _ => .lst 1 ((b.getD i0 []).length) (fun i1 _ => .int .i64 ((b.getD i0 []).getD i1 0))))), (12, .one (.int .i64 (a.length : Int))), (13, .one (.int .i64 (k : Int)))], []⟩) (fun k => k ≤ a.length ∧ ∀ j, j < k → a.getD j [] = b.getD j []) (fun k => a.length - k) 0 ⟨Nat.zero_le _, fun j hj => absurd hj (Nat.not_lt_zero j)⟩ ⟨⟨⟨_, rfl, rfl⟩, ⟨_, rfl, rfl⟩, ⟨_, rfl, rfl⟩, ⟨_, rfl, rfl⟩, trivial⟩, trivial⟩ ?_
    intro k hk
    obtain ⟨hk, hks⟩ := hk
    refine AW.seq ?_
    refine AW.region ?_
    refine ARun.pure (PureOp.intOp rfl (.tmp rfl) (.tmp rfl) rfl) rfl rfl (Nat.le_of_ble_eq_true rfl) ?_
    refine ARun.nil ?_
    refine AW.seq ?_
    refine AW.cond (.tmp rfl) (fun hb2 => ?_) (fun hb2 => ?_)
    · have _u := True.intro
      replace hb2 := of_decide_eq_true hb2
      have hkl : k < a.length := by omega
      refine AW.skip ?_
      refine AW.seq ?_
      refine AW.block ?_
      refine AW.seq ?_
      refine AW.region ?_
      refine ARun.pure (PureOp.move rfl (.tmp rfl)) rfl rfl (Nat.le_of_ble_eq_true rfl) ?_
      refine ARun.pure (PureOp.assign rfl (.tmp rfl)) rfl rfl (Nat.le_of_ble_eq_true rfl) ?_
      refine ARun.nil ?_
      refine AW.seq ?_
      refine AW.any (by kernel_rfl) (by kernel_rfl) ?_
      refine AD.pure (PureOp.move rfl (.tmp rfl)) rfl rfl (Nat.le_of_ble_eq_true rfl) ?_
      refine AD.pure (PureOp.move rfl (.tmp rfl)) rfl rfl (Nat.le_of_ble_eq_true rfl) ?_
      refine AD.pure (PureOp.indexLst (i := k) rfl (.tmp rfl) vfk_el_40_1 (.tmp rfl) rfl (by omega)) rfl rfl (Nat.le_of_ble_eq_true rfl) ?_
      refine AD.pure (PureOp.loadRef rfl (.tmp rfl) vfk_pl_30 (Nat.le_of_ble_eq_true rfl)) rfl rfl (Nat.le_of_ble_eq_true rfl) ?_
      refine AD.pure (PureOp.move rfl (.tmp rfl)) rfl rfl (Nat.le_of_ble_eq_true rfl) ?_
      refine AD.pure (PureOp.move rfl (.tmp rfl)) rfl rfl (Nat.le_of_ble_eq_true rfl) ?_
      refine AD.pure (PureOp.indexLst (i := k) rfl (.tmp rfl) vfk_el_40_1 (.tmp rfl) rfl (by omega)) rfl rfl (Nat.le_of_ble_eq_true rfl) ?_
      refine AD.pure (PureOp.loadRef rfl (.tmp rfl) vfk_pl_30 (Nat.le_of_ble_eq_true rfl)) rfl rfl (Nat.le_of_ble_eq_true rfl) ?_
      refine AD.pure (PureOp.call rfl (v_sameInts (a.getD k []) (b.getD k [])) ⟨⟨_, (.tmp rfl), .lst⟩, ⟨_, (.tmp rfl), .lst⟩, trivial⟩ vfk_ca_33 trivial) rfl rfl (Nat.le_of_ble_eq_true rfl) ?_
      refine AD.pure (PureOp.not rfl (.tmp rfl)) rfl rfl (Nat.le_of_ble_eq_true rfl) ?_
      refine AD.nil ?_
      refine AW.cond (.tmp rfl) (fun hb3 => ?_) (fun hb3 => ?_)
      · have _u := True.intro
        have hne : a.getD k [] ≠ b.getD k [] := by intro e; rw [e] at hb3; simp at hb3
        refine AW.seq ?_
        refine AW.region ?_
        refine ARun.pure (PureOp.assign rfl .bool) rfl rfl (Nat.le_of_ble_eq_true rfl) ?_
        refine ARun.nil ?_
        refine AW.ret (show ResL _ _ [.tmp 4] _ from resB rfl ?_)
        exact (decide_eq_false (fun e => hne (by rw [e]))).symm
      · have _u := True.intro
        have heq : a.getD k [] = b.getD k [] := by simpa using hb3
        refine AW.skip ?_
        refine AW.region ?_
        refine ARun.pure (PureOp.add (c := ((k + 1 : Nat) : Int)) rfl (.tmp rfl) .int (by rw [wrap_id (by omega) (by omega)]; omega)) rfl rfl (Nat.le_of_ble_eq_true rfl) ?_
        refine ARun.pure (PureOp.move rfl (.tmp rfl)) rfl rfl (Nat.le_of_ble_eq_true rfl) ?_
        refine ARun.nil ?_
        exact ⟨k + 1, ⟨by omega, rng_succ hks heq⟩, by dsimp only; omega, ⟨⟨⟨_, rfl, rfl⟩, ⟨_, rfl, rfl⟩, ⟨_, rfl, rfl⟩, ⟨_, rfl, rfl⟩, trivial⟩, trivial⟩⟩
    · have _u := True.intro
      replace hb2 := of_decide_eq_false hb2
      have hkl : ¬ k < a.length := by omega
      refine AW.exit ?_
      refine AW.seq ?_
      refine AW.region ?_
      refine ARun.pure (PureOp.assign rfl .bool) rfl rfl (Nat.le_of_ble_eq_true rfl) ?_
      refine ARun.nil ?_
      refine AW.ret (show ResL _ _ [.tmp 4] _ from resB rfl ?_)
      exact (decide_eq_true (rows_yes hln fun j hj => hks j (by omega))).symm

theorem v_iGoodEv (n : Int) (l : List GEvent) (hn : I64 n) (hl : allEv l) : Fn Try.prog 34 [.one (.int .i64 n), .one (.lst 2 l.length (fun i0 j0 => ([.int .i64 ((l.getD i0 (default : GEvent)).a), .int .i64 ((l.getD i0 (default : GEvent)).b)] : List AV).getD j0 (.con undef)))] (.one (.bool (goodEv n l))) := by
  refine Fn.of_body (fn := Try.f34) Try.func34 rfl (Nat.le_of_ble_eq_true rfl) trivial ?_
  intro w0
  show AW _ 8 _ _ _ _
  refine AW.seq ?_
  refine AW.region ?_
  refine ARun.pure (PureOp.assign rfl .bool) rfl rfl (Nat.le_of_ble_eq_true rfl) ?_
  refine ARun.nil ?_
  refine AW.seq ?_
  refine AW.region ?_
  refine ARun.pure (PureOp.move rfl (.tmp rfl)) rfl rfl (Nat.le_of_ble_eq_true rfl) ?_
  refine ARun.pure (PureOp.move rfl (.tmp rfl)) rfl rfl (Nat.le_of_ble_eq_true rfl) ?_
  refine ARun.pure (PureOp.call rfl (v_are n l hn hl) ⟨⟨_, (.tmp rfl), .int⟩, ⟨_, (.tmp rfl), .lst⟩, trivial⟩ vfk_ca_48 trivial) rfl rfl (Nat.le_of_ble_eq_true rfl) ?_
  refine ARun.pure (PureOp.assign rfl (.tmp rfl)) rfl rfl (Nat.le_of_ble_eq_true rfl) ?_
  refine ARun.nil ?_
  refine AW.ret (show ResL _ _ [.tmp 4] _ from resB rfl ?_)
  rfl
end Go.Proofs.Ytmkhahiefdcinaa

namespace Go.Proofs.Ytmkhahiefdcinaa
open Go.ChangeShapes Go.WideShapes Go.ChangeAt Go.RowKit Go.BigFrame Go.Deep
set_option linter.unusedVariables false
set_option linter.unusedSimpArgs false
theorem vlk_bo_4 : boolB Try.prog 4 = true := by kernel_rfl
theorem vlk_ca_11 : callB Try.prog 11 = true := by kernel_rfl
theorem vlk_ca_13 : callB Try.prog 13 = true := by kernel_rfl
theorem vlk_ca_15 : callB Try.prog 15 = true := by kernel_rfl
theorem vlk_ca_16 : callB Try.prog 16 = true := by kernel_rfl
theorem vlk_ca_24 : callB Try.prog 24 = true := by kernel_rfl
theorem vlk_ca_25 : callB Try.prog 25 = true := by kernel_rfl
theorem vlk_ca_31 : callB Try.prog 31 = true := by kernel_rfl
theorem vlk_ca_32 : callB Try.prog 32 = true := by kernel_rfl
theorem vlk_ca_33 : callB Try.prog 33 = true := by kernel_rfl
theorem vlk_ca_34 : callB Try.prog 34 = true := by kernel_rfl
theorem vlk_ca_35 : callB Try.prog 35 = true := by kernel_rfl
theorem vlk_ca_36 : callB Try.prog 36 = true := by kernel_rfl
theorem vlk_ca_37 : callB Try.prog 37 = true := by kernel_rfl
theorem vlk_el_30_1 : elemB Try.prog 30 1 = true := by kernel_rfl
theorem vlk_el_40_1 : elemB Try.prog 40 1 = true := by kernel_rfl
theorem vlk_pl_3 : plainB Try.prog 3 = true := by kernel_rfl
theorem vlk_pl_30 : plainB Try.prog 30 = true := by kernel_rfl
theorem vlk_sl_47 : sliceB Try.prog 47 = true := by kernel_rfl
theorem cf_ok {n : Int} {l : List GEvent} {a b : Int} (h : (cfV n l a b).2 = true) : cfOk n l a b := by
  by_cases hq : cfOk n l a b
  · exact hq
  · rw [cf_no hq] at h; cases h
theorem clk_end {G O Ls C : Bool} {s t : Int} (h1 : O = true) (h2 : Ls = C) (h3 : G = true) (h4 : C = true → s < t) : cond (cond (cond (cond (!G) true (!G)) true (!O)) true (!(Ls == C))) true (cond C (decide (t ≤ s)) false) = false := by
  subst h2 h1 h3
  cases Ls with
  | false => rfl
  | true =>
    have := h4 rfl
    rw [decide_eq_false (show ¬ t ≤ s by omega)]; rfl
theorem cf_end2 {C D : Bool} (h : C = true → D = false) : cond (!true) true (cond C D false) = false := by
  cases C with
  | false => rfl
  | true => rw [h rfl]; rfl
theorem opensC_5 : OpensC Try.prog 5 (fun x : UInt8 => [.int .u8 ((x.toNat : Nat) : Int)]) := OpensC.byte Try.underlying5
theorem opensC_47 : OpensC Try.prog 47 (fun x : List UInt8 => [.lst 1 x.length (fun i0 _ => .int .u8 (((x.getD i0 0).toNat : Nat) : Int))]) := OpensC.slice (0 : UInt8) Try.underlying47 (by kernel_rfl) (by decide) opensC_5 (fun _ => rfl) (fun l i j _ hj => match j, hj with | 0, _ => rfl | _ + 1, h => absurd h (by omega))

theorem law_Clocks (x0 x1 : List UInt8) : Fn Try.prog 8 [.one (.lst 1 x0.length (fun i0 _ => .int .u8 (((x0.getD i0 0).toNat : Nat) : Int))), .one (.lst 1 x1.length (fun i0 _ => .int .u8 (((x1.getD i0 0).toNat : Nat) : Int)))] (.one (.bool true)) := by
  refine Fn.of_body (fn := Try.f8) Try.func8 rfl (Nat.le_of_ble_eq_true rfl) trivial ?_
  intro w0
  show AW _ 204 _ _ _ _
  refine AW.seq ?_
  refine AW.region ?_
  refine ARun.pure (PureOp.assign rfl .bool) rfl rfl (Nat.le_of_ble_eq_true rfl) ?_
  refine ARun.nil ?_
  refine AW.seq ?_
  refine AW.seq ?_
  refine AW.region ?_
  refine ARun.pure (PureOp.move rfl (.tmp rfl)) rfl rfl (Nat.le_of_ble_eq_true rfl) ?_
  refine ARun.pure (PureOp.lenLst rfl (.tmp rfl) vlk_sl_47) rfl rfl (Nat.le_of_ble_eq_true rfl) ?_
  refine ARun.pure (PureOp.move rfl (.tmp rfl)) rfl rfl (Nat.le_of_ble_eq_true rfl) ?_
  refine ARun.pure (PureOp.lenLst rfl (.tmp rfl) vlk_sl_47) rfl rfl (Nat.le_of_ble_eq_true rfl) ?_
  refine ARun.pure (PureOp.intOp rfl (.tmp rfl) (.tmp rfl) rfl) rfl rfl (Nat.le_of_ble_eq_true rfl) ?_
  refine ARun.pure (PureOp.intOp rfl (.tmp rfl) .int rfl) rfl rfl (Nat.le_of_ble_eq_true rfl) ?_
  refine ARun.nil ?_
  refine AW.cond (.tmp rfl) (fun hb1 => ?_) (fun hb1 => ?_)
  · have _u := True.intro
    have _h := hb1
    refine AW.seq ?_
    refine AW.region ?_
    refine ARun.pure (PureOp.assign rfl .bool) rfl rfl (Nat.le_of_ble_eq_true rfl) ?_
    refine ARun.nil ?_
    refine AW.ret (show ResL _ _ [.tmp 4] _ from resB rfl ?_)
    rfl
  · have _u := True.intro
    have _h := hb1
    refine AW.skip ?_
    refine AW.seq ?_
    refine AW.region ?_
    refine ARun.pure (PureOp.move rfl (.tmp rfl)) rfl rfl (Nat.le_of_ble_eq_true rfl) ?_
    refine ARun.draw rfl (v_DrawCameFirst x0.length (fun i => (x0.getD i 0).toNat) (fun i => UInt8.toNat_lt _)) vlk_ca_31 ⟨⟨_, (.tmp rfl), .lst⟩, trivial⟩ rfl rfl (Nat.le_of_ble_eq_true rfl) (fun x2 hd3 => ?_)
    obtain ⟨⟨⟨hn1, hn2⟩, hlen, hre⟩, hk1, hk2⟩ := hd3
    refine ARun.pure (PureOp.move rfl (.tmp rfl)) rfl rfl (Nat.le_of_ble_eq_true rfl) ?_
    refine ARun.pure (PureOp.ext4a rfl (.tmp rfl)) rfl rfl (Nat.le_of_ble_eq_true rfl) ?_
    refine ARun.pure (PureOp.ext4b rfl (.tmp rfl)) rfl rfl (Nat.le_of_ble_eq_true rfl) ?_
    refine ARun.pure (PureOp.ext4c rfl (.tmp rfl)) rfl rfl (Nat.le_of_ble_eq_true rfl) ?_
    refine ARun.pure (PureOp.ext4d rfl (.tmp rfl)) rfl rfl (Nat.le_of_ble_eq_true rfl) ?_
    refine ARun.pure (PureOp.assign rfl (.tmp rfl)) rfl rfl (Nat.le_of_ble_eq_true rfl) ?_
    refine ARun.pure (PureOp.assign rfl (.tmp rfl)) rfl rfl (Nat.le_of_ble_eq_true rfl) ?_
    refine ARun.pure (PureOp.assign rfl (.tmp rfl)) rfl rfl (Nat.le_of_ble_eq_true rfl) ?_
    refine ARun.pure (PureOp.assign rfl (.tmp rfl)) rfl rfl (Nat.le_of_ble_eq_true rfl) ?_
    refine ARun.nil ?_
    refine AW.seq ?_
    refine AW.region ?_
    refine ARun.pure (PureOp.move rfl (.tmp rfl)) rfl rfl (Nat.le_of_ble_eq_true rfl) ?_
    refine ARun.pure (PureOp.move rfl (.tmp rfl)) rfl rfl (Nat.le_of_ble_eq_true rfl) ?_
    refine ARun.pure (PureOp.move rfl (.tmp rfl)) rfl rfl (Nat.le_of_ble_eq_true rfl) ?_
    refine ARun.pure (PureOp.move rfl (.tmp rfl)) rfl rfl (Nat.le_of_ble_eq_true rfl) ?_
    refine ARun.pure (PureOp.call rfl (v_iCame (x2.1 : Int) x2.2.1 (x2.2.2.1 : Int) (x2.2.2.2 : Int) ⟨by omega, by omega⟩ ⟨by omega, by omega⟩ ⟨by omega, by omega⟩) ⟨⟨_, (.tmp rfl), .int⟩, ⟨_, (.tmp rfl), .frs⟩, ⟨_, (.tmp rfl), .int⟩, ⟨_, (.tmp rfl), .int⟩, trivial⟩ vlk_ca_13 ⟨trivial, trivial⟩) rfl rfl (Nat.le_of_ble_eq_true rfl) ?_
    refine ARun.pure (PureOp.move rfl (.tmp rfl)) rfl rfl (Nat.le_of_ble_eq_true rfl) ?_
    refine ARun.pure (PureOp.ext2a rfl (.tmp rfl)) rfl rfl (Nat.le_of_ble_eq_true rfl) ?_
    refine ARun.pure (PureOp.ext2b rfl (.tmp rfl)) rfl rfl (Nat.le_of_ble_eq_true rfl) ?_
    refine ARun.pure (PureOp.assign rfl (.tmp rfl)) rfl rfl (Nat.le_of_ble_eq_true rfl) ?_
    refine ARun.pure (PureOp.assign rfl (.tmp rfl)) rfl rfl (Nat.le_of_ble_eq_true rfl) ?_
    refine ARun.nil ?_
    refine AW.seq ?_
    refine AW.region ?_
    refine ARun.pure (PureOp.move rfl (.tmp rfl)) rfl rfl (Nat.le_of_ble_eq_true rfl) ?_
    refine ARun.pure (PureOp.move rfl (.tmp rfl)) rfl rfl (Nat.le_of_ble_eq_true rfl) ?_
    refine ARun.pure (PureOp.move rfl (.tmp rfl)) rfl rfl (Nat.le_of_ble_eq_true rfl) ?_
    refine ARun.pure (PureOp.move rfl (.tmp rfl)) rfl rfl (Nat.le_of_ble_eq_true rfl) ?_
    refine ARun.pure (PureOp.call rfl (v_sCame (x2.1 : Int) x2.2.1 (x2.2.2.1 : Int) (x2.2.2.2 : Int) ⟨by omega, by omega⟩ ⟨by omega, by omega⟩ ⟨by omega, by omega⟩) ⟨⟨_, (.tmp rfl), .int⟩, ⟨_, (.tmp rfl), .frs⟩, ⟨_, (.tmp rfl), .int⟩, ⟨_, (.tmp rfl), .int⟩, trivial⟩ vlk_ca_11 ⟨trivial, trivial⟩) rfl rfl (Nat.le_of_ble_eq_true rfl) ?_
    refine ARun.pure (PureOp.move rfl (.tmp rfl)) rfl rfl (Nat.le_of_ble_eq_true rfl) ?_
    refine ARun.pure (PureOp.ext2a rfl (.tmp rfl)) rfl rfl (Nat.le_of_ble_eq_true rfl) ?_
    refine ARun.pure (PureOp.ext2b rfl (.tmp rfl)) rfl rfl (Nat.le_of_ble_eq_true rfl) ?_
    refine ARun.pure (PureOp.assign rfl (.tmp rfl)) rfl rfl (Nat.le_of_ble_eq_true rfl) ?_
    refine ARun.pure (PureOp.assign rfl (.tmp rfl)) rfl rfl (Nat.le_of_ble_eq_true rfl) ?_
    refine ARun.nil ?_
    refine AW.seq ?_
    refine AW.region ?_
    refine ARun.pure (PureOp.move rfl (.tmp rfl)) rfl rfl (Nat.le_of_ble_eq_true rfl) ?_
    refine ARun.pure (PureOp.move rfl (.tmp rfl)) rfl rfl (Nat.le_of_ble_eq_true rfl) ?_
    refine ARun.fresh (FreshOp.callS rfl (v_iClk (x2.1 : Int) x2.2.1 ⟨by omega, by omega⟩ hre) ⟨⟨_, (.tmp rfl), .int⟩, ⟨_, (.tmp rfl), .frs⟩, trivial⟩ vlk_ca_25 rfl) rfl rfl (Nat.le_of_ble_eq_true rfl) ?_
    refine ARun.pure (PureOp.move rfl (.tmp rfl)) rfl rfl (Nat.le_of_ble_eq_true rfl) ?_
    refine ARun.pure (PureOp.ext2a rfl (.tmp rfl)) rfl rfl (Nat.le_of_ble_eq_true rfl) ?_
    refine ARun.pure (PureOp.ext2b rfl (.tmp rfl)) rfl rfl (Nat.le_of_ble_eq_true rfl) ?_
    refine ARun.pure (PureOp.assign rfl (.tmp rfl)) rfl rfl (Nat.le_of_ble_eq_true rfl) ?_
    refine ARun.pure (PureOp.assign rfl (.tmp rfl)) rfl rfl (Nat.le_of_ble_eq_true rfl) ?_
    refine ARun.nil ?_
    refine AW.seq ?_
    refine AW.region ?_
    refine ARun.pure (PureOp.move rfl (.tmp rfl)) rfl rfl (Nat.le_of_ble_eq_true rfl) ?_
    refine ARun.pure (PureOp.move rfl (.tmp rfl)) rfl rfl (Nat.le_of_ble_eq_true rfl) ?_
    refine ARun.fresh (FreshOp.callS rfl (v_sClk (x2.1 : Int) x2.2.1 ⟨by omega, by omega⟩ hre) ⟨⟨_, (.tmp rfl), .int⟩, ⟨_, (.tmp rfl), .frs⟩, trivial⟩ vlk_ca_24 rfl) rfl rfl (Nat.le_of_ble_eq_true rfl) ?_
    refine ARun.pure (PureOp.move rfl (.tmp rfl)) rfl rfl (Nat.le_of_ble_eq_true rfl) ?_
    refine ARun.pure (PureOp.ext2a rfl (.tmp rfl)) rfl rfl (Nat.le_of_ble_eq_true rfl) ?_
    refine ARun.pure (PureOp.ext2b rfl (.tmp rfl)) rfl rfl (Nat.le_of_ble_eq_true rfl) ?_
    refine ARun.pure (PureOp.assign rfl (.tmp rfl)) rfl rfl (Nat.le_of_ble_eq_true rfl) ?_
    refine ARun.pure (PureOp.assign rfl (.tmp rfl)) rfl rfl (Nat.le_of_ble_eq_true rfl) ?_
    refine ARun.nil ?_
    refine AW.seq ?_
    refine AW.region ?_
    refine ARun.pure (PureOp.move rfl (.tmp rfl)) rfl rfl (Nat.le_of_ble_eq_true rfl) ?_
    refine ARun.pure (PureOp.move rfl (.tmp rfl)) rfl rfl (Nat.le_of_ble_eq_true rfl) ?_
    refine ARun.fresh (FreshOp.callS rfl (v_iStamp (x2.1 : Int) x2.2.1 ⟨by omega, by omega⟩ hre) ⟨⟨_, (.tmp rfl), .int⟩, ⟨_, (.tmp rfl), .frs⟩, trivial⟩ vlk_ca_16 rfl) rfl rfl (Nat.le_of_ble_eq_true rfl) ?_
    refine ARun.pure (PureOp.move rfl (.tmp rfl)) rfl rfl (Nat.le_of_ble_eq_true rfl) ?_
    refine ARun.pure (PureOp.ext2a rfl (.tmp rfl)) rfl rfl (Nat.le_of_ble_eq_true rfl) ?_
    refine ARun.pure (PureOp.ext2b rfl (.tmp rfl)) rfl rfl (Nat.le_of_ble_eq_true rfl) ?_
    refine ARun.pure (PureOp.assign rfl (.tmp rfl)) rfl rfl (Nat.le_of_ble_eq_true rfl) ?_
    refine ARun.pure (PureOp.assign rfl (.tmp rfl)) rfl rfl (Nat.le_of_ble_eq_true rfl) ?_
    refine ARun.nil ?_
    refine AW.seq ?_
    refine AW.region ?_
    refine ARun.pure (PureOp.move rfl (.tmp rfl)) rfl rfl (Nat.le_of_ble_eq_true rfl) ?_
    refine ARun.pure (PureOp.move rfl (.tmp rfl)) rfl rfl (Nat.le_of_ble_eq_true rfl) ?_
    refine ARun.fresh (FreshOp.callS rfl (v_sStamp (x2.1 : Int) x2.2.1 ⟨by omega, by omega⟩ hre) ⟨⟨_, (.tmp rfl), .int⟩, ⟨_, (.tmp rfl), .frs⟩, trivial⟩ vlk_ca_15 rfl) rfl rfl (Nat.le_of_ble_eq_true rfl) ?_
    refine ARun.pure (PureOp.move rfl (.tmp rfl)) rfl rfl (Nat.le_of_ble_eq_true rfl) ?_
    refine ARun.pure (PureOp.ext2a rfl (.tmp rfl)) rfl rfl (Nat.le_of_ble_eq_true rfl) ?_
    refine ARun.pure (PureOp.ext2b rfl (.tmp rfl)) rfl rfl (Nat.le_of_ble_eq_true rfl) ?_
    refine ARun.pure (PureOp.assign rfl (.tmp rfl)) rfl rfl (Nat.le_of_ble_eq_true rfl) ?_
    refine ARun.pure (PureOp.assign rfl (.tmp rfl)) rfl rfl (Nat.le_of_ble_eq_true rfl) ?_
    refine ARun.nil ?_
    refine AW.seq ?_
    refine AW.seq ?_
    refine AW.region ?_
    refine ARun.pure (PureOp.move rfl (.tmp rfl)) rfl rfl (Nat.le_of_ble_eq_true rfl) ?_
    refine ARun.pure (PureOp.move rfl (.tmp rfl)) rfl rfl (Nat.le_of_ble_eq_true rfl) ?_
    refine ARun.pure (PureOp.boolNe rfl (.tmp rfl) (.tmp rfl) vlk_bo_4) rfl rfl (Nat.le_of_ble_eq_true rfl) ?_
    refine ARun.pure (PureOp.move rfl (.tmp rfl)) rfl rfl (Nat.le_of_ble_eq_true rfl) ?_
    refine ARun.gpure (want := false) (.tf rfl) (fun hg4 => PureOp.move rfl (.tmp rfl)) rfl rfl (Nat.le_of_ble_eq_true rfl) rfl (Nat.le_of_ble_eq_true rfl) ?_
    refine ARun.gpure (want := false) (.tf rfl) (fun hg5 => PureOp.move rfl (.tmp rfl)) rfl rfl (Nat.le_of_ble_eq_true rfl) rfl (Nat.le_of_ble_eq_true rfl) ?_
    refine ARun.gpure (want := false) (.tf rfl) (fun hg6 => PureOp.boolNe rfl (.gtmp rfl hg6) (.gtmp rfl hg6) vlk_bo_4) rfl rfl (Nat.le_of_ble_eq_true rfl) rfl (Nat.le_of_ble_eq_true rfl) ?_
    refine ARun.pure (PureOp.pick rfl (.tmp rfl) (fun _ => .bool) (fun hp8 => .gtmp rfl (not_of hp8))) rfl rfl (Nat.le_of_ble_eq_true rfl) ?_
    refine ARun.pure (PureOp.move rfl (.tmp rfl)) rfl rfl (Nat.le_of_ble_eq_true rfl) ?_
    refine ARun.gpure (want := false) (.tf rfl) (fun hg9 => PureOp.move rfl (.tmp rfl)) rfl rfl (Nat.le_of_ble_eq_true rfl) rfl (Nat.le_of_ble_eq_true rfl) ?_
    refine ARun.gpure (want := false) (.tf rfl) (fun hg10 => PureOp.move rfl (.tmp rfl)) rfl rfl (Nat.le_of_ble_eq_true rfl) rfl (Nat.le_of_ble_eq_true rfl) ?_
    refine ARun.gpure (want := false) (.tf rfl) (fun hg11 => PureOp.boolNe rfl (.gtmp rfl hg11) (.gtmp rfl hg11) vlk_bo_4) rfl rfl (Nat.le_of_ble_eq_true rfl) rfl (Nat.le_of_ble_eq_true rfl) ?_
    refine ARun.pure (PureOp.pick rfl (.tmp rfl) (fun _ => .bool) (fun hp13 => .gtmp rfl (not_of hp13))) rfl rfl (Nat.le_of_ble_eq_true rfl) ?_
    refine ARun.pure (PureOp.move rfl (.tmp rfl)) rfl rfl (Nat.le_of_ble_eq_true rfl) ?_
    refine ARun.gpure (want := false) (.tf rfl) (fun hg14 => PureOp.move rfl (.tmp rfl)) rfl rfl (Nat.le_of_ble_eq_true rfl) rfl (Nat.le_of_ble_eq_true rfl) ?_
    refine ARun.gpure (want := false) (.tf rfl) (fun hg15 => PureOp.move rfl (.tmp rfl)) rfl rfl (Nat.le_of_ble_eq_true rfl) rfl (Nat.le_of_ble_eq_true rfl) ?_
    refine ARun.gpure (want := false) (.tf rfl) (fun hg16 => PureOp.call rfl (v_sameRows (ckOf (x2.1 : Int) x2.2.1) (ckOf (x2.1 : Int) x2.2.1)) ⟨⟨_, (.gtmp rfl hg16), .frs⟩, ⟨_, (.gtmp rfl hg16), .frs⟩, trivial⟩ vlk_ca_32 trivial) rfl rfl (Nat.le_of_ble_eq_true rfl) rfl (Nat.le_of_ble_eq_true rfl) ?_
    refine ARun.gpure (want := false) (.tf rfl) (fun hg17 => PureOp.not rfl (.gtmp rfl hg17)) rfl rfl (Nat.le_of_ble_eq_true rfl) rfl (Nat.le_of_ble_eq_true rfl) ?_
    refine ARun.pure (PureOp.pick rfl (.tmp rfl) (fun _ => .bool) (fun hp19 => .gtmp rfl (not_of hp19))) rfl rfl (Nat.le_of_ble_eq_true rfl) ?_
    refine ARun.pure (PureOp.move rfl (.tmp rfl)) rfl rfl (Nat.le_of_ble_eq_true rfl) ?_
    refine ARun.gpure (want := false) (.tf rfl) (fun hg20 => PureOp.move rfl (.tmp rfl)) rfl rfl (Nat.le_of_ble_eq_true rfl) rfl (Nat.le_of_ble_eq_true rfl) ?_
    refine ARun.gpure (want := false) (.tf rfl) (fun hg21 => PureOp.move rfl (.tmp rfl)) rfl rfl (Nat.le_of_ble_eq_true rfl) rfl (Nat.le_of_ble_eq_true rfl) ?_
    refine ARun.gpure (want := false) (.tf rfl) (fun hg22 => PureOp.boolNe rfl (.gtmp rfl hg22) (.gtmp rfl hg22) vlk_bo_4) rfl rfl (Nat.le_of_ble_eq_true rfl) rfl (Nat.le_of_ble_eq_true rfl) ?_
    refine ARun.pure (PureOp.pick rfl (.tmp rfl) (fun _ => .bool) (fun hp24 => .gtmp rfl (not_of hp24))) rfl rfl (Nat.le_of_ble_eq_true rfl) ?_
    refine ARun.pure (PureOp.move rfl (.tmp rfl)) rfl rfl (Nat.le_of_ble_eq_true rfl) ?_
    refine ARun.gpure (want := false) (.tf rfl) (fun hg25 => PureOp.move rfl (.tmp rfl)) rfl rfl (Nat.le_of_ble_eq_true rfl) rfl (Nat.le_of_ble_eq_true rfl) ?_
    refine ARun.gpure (want := false) (.tf rfl) (fun hg26 => PureOp.move rfl (.tmp rfl)) rfl rfl (Nat.le_of_ble_eq_true rfl) rfl (Nat.le_of_ble_eq_true rfl) ?_
    refine ARun.gpure (want := false) (.tf rfl) (fun hg27 => PureOp.call rfl (v_sameInts (stOf (x2.1 : Int) x2.2.1) (stOf (x2.1 : Int) x2.2.1)) ⟨⟨_, (.gtmp rfl hg27), .frs⟩, ⟨_, (.gtmp rfl hg27), .frs⟩, trivial⟩ vlk_ca_33 trivial) rfl rfl (Nat.le_of_ble_eq_true rfl) rfl (Nat.le_of_ble_eq_true rfl) ?_
    refine ARun.gpure (want := false) (.tf rfl) (fun hg28 => PureOp.not rfl (.gtmp rfl hg28)) rfl rfl (Nat.le_of_ble_eq_true rfl) rfl (Nat.le_of_ble_eq_true rfl) ?_
    refine ARun.pure (PureOp.pick rfl (.tmp rfl) (fun _ => .bool) (fun hp30 => .gtmp rfl (not_of hp30))) rfl rfl (Nat.le_of_ble_eq_true rfl) ?_
    refine ARun.pure (PureOp.move rfl (.tmp rfl)) rfl rfl (Nat.le_of_ble_eq_true rfl) ?_
    refine ARun.gpure (want := false) (.tf rfl) (fun hg31 => PureOp.move rfl (.tmp rfl)) rfl rfl (Nat.le_of_ble_eq_true rfl) rfl (Nat.le_of_ble_eq_true rfl) ?_
    refine ARun.gpure (want := false) (.tf rfl) (fun hg32 => PureOp.move rfl (.tmp rfl)) rfl rfl (Nat.le_of_ble_eq_true rfl) rfl (Nat.le_of_ble_eq_true rfl) ?_
    refine ARun.gpure (want := false) (.tf rfl) (fun hg33 => PureOp.call rfl (v_iGoodEv (x2.1 : Int) x2.2.1 ⟨by omega, by omega⟩ hre) ⟨⟨_, (.gtmp rfl hg33), .int⟩, ⟨_, (.gtmp rfl hg33), .frs⟩, trivial⟩ vlk_ca_34 trivial) rfl rfl (Nat.le_of_ble_eq_true rfl) rfl (Nat.le_of_ble_eq_true rfl) ?_
    refine ARun.gpure (want := false) (.tf rfl) (fun hg34 => PureOp.move rfl (.tmp rfl)) rfl rfl (Nat.le_of_ble_eq_true rfl) rfl (Nat.le_of_ble_eq_true rfl) ?_
    refine ARun.gpure (want := false) (.tf rfl) (fun hg35 => PureOp.boolNe rfl (.gtmp rfl hg35) (.gtmp rfl hg35) vlk_bo_4) rfl rfl (Nat.le_of_ble_eq_true rfl) rfl (Nat.le_of_ble_eq_true rfl) ?_
    refine ARun.pure (PureOp.pick rfl (.tmp rfl) (fun _ => .bool) (fun hp37 => .gtmp rfl (not_of hp37))) rfl rfl (Nat.le_of_ble_eq_true rfl) ?_
    refine ARun.nil ?_
    refine AW.cond (.tmp rfl) (fun hb38 => ?_) (fun hb38 => ?_)
    · have _u := True.intro
      exact absurd (show (cond (cond (cond (cond (cond (cond (!(((cfV (x2.1 : Int) x2.2.1 (x2.2.2.1 : Int) (x2.2.2.2 : Int)).2) == ((cfV (x2.1 : Int) x2.2.1 (x2.2.2.1 : Int) (x2.2.2.2 : Int)).2))) true (!(((cfV (x2.1 : Int) x2.2.1 (x2.2.2.1 : Int) (x2.2.2.2 : Int)).1) == ((cfV (x2.1 : Int) x2.2.1 (x2.2.2.1 : Int) (x2.2.2.2 : Int)).1)))) true (!((goodEv (x2.1 : Int) x2.2.1) == (goodEv (x2.1 : Int) x2.2.1)))) true (!(decide ((ckOf (x2.1 : Int) x2.2.1) = (ckOf (x2.1 : Int) x2.2.1))))) true (!((goodEv (x2.1 : Int) x2.2.1) == (goodEv (x2.1 : Int) x2.2.1)))) true (!(decide ((stOf (x2.1 : Int) x2.2.1) = (stOf (x2.1 : Int) x2.2.1))))) true (!((goodEv (x2.1 : Int) x2.2.1) == (goodEv (x2.1 : Int) x2.2.1)))) = false by simp) (by rw [hb38]; simp)
      --end
    · have _u := True.intro
      have _h := hb38
      refine AW.skip ?_
      refine AW.seq ?_
      refine AW.seq ?_
      refine AW.region ?_
      refine ARun.pure (PureOp.move rfl (.tmp rfl)) rfl rfl (Nat.le_of_ble_eq_true rfl) ?_
      refine ARun.nil ?_
      refine AW.cond (.tmp rfl) (fun hb39 => ?_) (fun hb39 => ?_)
      · have _u := True.intro
        have hok : cfOk (x2.1 : Int) x2.2.1 (x2.2.2.1 : Int) (x2.2.2.2 : Int) := cf_ok hb39
        obtain ⟨hg, ⟨ha0, ha1⟩, hb0, hb1⟩ := id hok
        have hal : x2.2.2.1 < x2.2.1.length := by omega
        have hbl : x2.2.2.2 < x2.2.1.length := by omega
        have hf := clock_facts hg hal hbl
        obtain ⟨⟨⟨hf1, hf2⟩, hf3⟩, hf4, hf5, hf6⟩ := id hf
        have hcfv : cfV (x2.1 : Int) x2.2.1 (x2.2.2.1 : Int) (x2.2.2.2 : Int) = _ := cf_yes hok
        have hok2 : cfOk (x2.1 : Int) x2.2.1 (x2.2.2.2 : Int) (x2.2.2.1 : Int) := ⟨hg, ⟨hb0, hb1⟩, ha0, ha1⟩
        have hcfw := cf_yes hok2
        have hckl : (ckOf (x2.1 : Int) x2.2.1).length = x2.2.1.length := by rw [hf4, ckTo_len]
        have hstl : (stOf (x2.1 : Int) x2.2.1).length = x2.2.1.length := by rw [hf5, stTo_len]
        have hea : (ckOf (x2.1 : Int) x2.2.1).getD x2.2.2.1 [] = rowV (x2.1 : Int).toNat x2.2.1 x2.2.2.1 := by rw [hf4]; rfl
        have heb : (ckOf (x2.1 : Int) x2.2.1).getD x2.2.2.2 [] = rowV (x2.1 : Int).toNat x2.2.1 x2.2.2.2 := by rw [hf4]; rfl
        have hra : allRi ((ckOf (x2.1 : Int) x2.2.1).getD x2.2.2.1 []) := by rw [hea]; exact (cut_facts hg hal).2
        have hrb : allRi ((ckOf (x2.1 : Int) x2.2.1).getD x2.2.2.2 []) := by rw [heb]; exact (cut_facts hg hbl).2
        have hsa : (stOf (x2.1 : Int) x2.2.1).getD x2.2.2.1 0 = stk x2.2.1 x2.2.2.1 := by rw [hf5]; rfl
        have hsb : (stOf (x2.1 : Int) x2.2.1).getD x2.2.2.2 0 = stk x2.2.1 x2.2.2.2 := by rw [hf5]; rfl
        simp only [Int.toNat_natCast] at hcfv hcfw
        refine AW.seq ?_
        refine AW.any (by kernel_rfl) (by kernel_rfl) ?_
        refine AD.pure (PureOp.move rfl (.tmp rfl)) rfl rfl (Nat.le_of_ble_eq_true rfl) ?_
        refine AD.pure (PureOp.move rfl (.tmp rfl)) rfl rfl (Nat.le_of_ble_eq_true rfl) ?_
        refine AD.pure (PureOp.indexLst (i := x2.2.2.1) rfl (.frs (.tmp rfl)) vlk_el_40_1 (.tmp rfl) rfl (by rw [hckl]; exact hal)) rfl rfl (Nat.le_of_ble_eq_true rfl) ?_
        refine AD.pure (PureOp.loadRef rfl (.tmp rfl) vlk_pl_30 (Nat.le_of_ble_eq_true rfl)) rfl rfl (Nat.le_of_ble_eq_true rfl) ?_
        refine AD.pure (PureOp.move rfl (.tmp rfl)) rfl rfl (Nat.le_of_ble_eq_true rfl) ?_
        refine AD.pure (PureOp.move rfl (.tmp rfl)) rfl rfl (Nat.le_of_ble_eq_true rfl) ?_
        refine AD.pure (PureOp.indexLst (i := x2.2.2.2) rfl (.frs (.tmp rfl)) vlk_el_40_1 (.tmp rfl) rfl (by rw [hckl]; exact hbl)) rfl rfl (Nat.le_of_ble_eq_true rfl) ?_
        refine AD.pure (PureOp.loadRef rfl (.tmp rfl) vlk_pl_30 (Nat.le_of_ble_eq_true rfl)) rfl rfl (Nat.le_of_ble_eq_true rfl) ?_
        refine AD.pure (PureOp.call rfl (v_iLess ((ckOf (x2.1 : Int) x2.2.1).getD x2.2.2.1 []) ((ckOf (x2.1 : Int) x2.2.1).getD x2.2.2.2 []) hra hrb) ⟨⟨_, (.tmp rfl), .lst⟩, ⟨_, (.tmp rfl), .lst⟩, trivial⟩ vlk_ca_35 ⟨trivial, trivial⟩) rfl rfl (Nat.le_of_ble_eq_true rfl) ?_
        refine AD.pure (PureOp.move rfl (.tmp rfl)) rfl rfl (Nat.le_of_ble_eq_true rfl) ?_
        refine AD.pure (PureOp.ext2a rfl (.tmp rfl)) rfl rfl (Nat.le_of_ble_eq_true rfl) ?_
        refine AD.pure (PureOp.ext2b rfl (.tmp rfl)) rfl rfl (Nat.le_of_ble_eq_true rfl) ?_
        refine AD.pure (PureOp.assign rfl (.tmp rfl)) rfl rfl (Nat.le_of_ble_eq_true rfl) ?_
        refine AD.pure (PureOp.assign rfl (.tmp rfl)) rfl rfl (Nat.le_of_ble_eq_true rfl) ?_
        refine AD.nil ?_
        refine AW.seq ?_
        refine AW.seq ?_
        refine AW.any (by kernel_rfl) (by kernel_rfl) ?_
        refine AD.pure (PureOp.move rfl (.tmp rfl)) rfl rfl (Nat.le_of_ble_eq_true rfl) ?_
        refine AD.pure (PureOp.not rfl (.tmp rfl)) rfl rfl (Nat.le_of_ble_eq_true rfl) ?_
        refine AD.pure (PureOp.move rfl (.tmp rfl)) rfl rfl (Nat.le_of_ble_eq_true rfl) ?_
        refine AD.gpure (want := false) (.tf rfl) (fun hg40 => PureOp.move rfl (.tmp rfl)) rfl rfl rfl (Nat.le_of_ble_eq_true rfl) ?_
        refine AD.gpure (want := false) (.tf rfl) (fun hg41 => PureOp.not rfl (.gtmp rfl hg41)) rfl rfl rfl (Nat.le_of_ble_eq_true rfl) ?_
        refine AD.pure (PureOp.pick rfl (.tmp rfl) (fun _ => .bool) (fun hp43 => .gtmp rfl (not_of hp43))) rfl rfl (Nat.le_of_ble_eq_true rfl) ?_
        refine AD.pure (PureOp.move rfl (.tmp rfl)) rfl rfl (Nat.le_of_ble_eq_true rfl) ?_
        refine AD.gpure (want := false) (.tf rfl) (fun hg44 => PureOp.move rfl (.tmp rfl)) rfl rfl rfl (Nat.le_of_ble_eq_true rfl) ?_
        refine AD.gpure (want := false) (.tf rfl) (fun hg45 => PureOp.not rfl (.gtmp rfl hg45)) rfl rfl rfl (Nat.le_of_ble_eq_true rfl) ?_
        refine AD.pure (PureOp.pick rfl (.tmp rfl) (fun _ => .bool) (fun hp47 => .gtmp rfl (not_of hp47))) rfl rfl (Nat.le_of_ble_eq_true rfl) ?_
        refine AD.pure (PureOp.move rfl (.tmp rfl)) rfl rfl (Nat.le_of_ble_eq_true rfl) ?_
        refine AD.gpure (want := false) (.tf rfl) (fun hg48 => PureOp.move rfl (.tmp rfl)) rfl rfl rfl (Nat.le_of_ble_eq_true rfl) ?_
        refine AD.gpure (want := false) (.tf rfl) (fun hg49 => PureOp.move rfl (.tmp rfl)) rfl rfl rfl (Nat.le_of_ble_eq_true rfl) ?_
        refine AD.gpure (want := false) (.tf rfl) (fun hg50 => PureOp.boolNe rfl (.gtmp rfl hg50) (.gtmp rfl hg50) vlk_bo_4) rfl rfl rfl (Nat.le_of_ble_eq_true rfl) ?_
        refine AD.pure (PureOp.pick rfl (.tmp rfl) (fun _ => .bool) (fun hp52 => .gtmp rfl (not_of hp52))) rfl rfl (Nat.le_of_ble_eq_true rfl) ?_
        refine AD.pure (PureOp.move rfl (.tmp rfl)) rfl rfl (Nat.le_of_ble_eq_true rfl) ?_
        refine AD.gpure (want := false) (.tf rfl) (fun hg53 => PureOp.move rfl (.tmp rfl)) rfl rfl rfl (Nat.le_of_ble_eq_true rfl) ?_
        refine AD.gpure (want := false) (.tf rfl) (fun hg54 => PureOp.move rfl (.gtmp rfl hg54)) rfl rfl rfl (Nat.le_of_ble_eq_true rfl) ?_
        refine AD.gpure (want := true) (.gt rfl) (fun hg55 => PureOp.move rfl (.tmp rfl)) rfl rfl rfl (Nat.le_of_ble_eq_true rfl) ?_
        refine AD.gpure (want := true) (.gt rfl) (fun hg56 => PureOp.move rfl (.tmp rfl)) rfl rfl rfl (Nat.le_of_ble_eq_true rfl) ?_
        refine AD.gpure (want := true) (.gt rfl) (fun hg57 => PureOp.indexLst (i := x2.2.2.1) rfl (.frs (.gtmp rfl hg57)) vlk_el_30_1 (.gtmp rfl hg57) rfl (by rw [hstl]; exact hal)) rfl rfl rfl (Nat.le_of_ble_eq_true rfl) ?_
        refine AD.gpure (want := true) (.gt rfl) (fun hg58 => PureOp.loadRef rfl (.gtmp rfl hg58) vlk_pl_3 (Nat.le_of_ble_eq_true rfl)) rfl rfl rfl (Nat.le_of_ble_eq_true rfl) ?_
        refine AD.gpure (want := true) (.gt rfl) (fun hg59 => PureOp.move rfl (.tmp rfl)) rfl rfl rfl (Nat.le_of_ble_eq_true rfl) ?_
        refine AD.gpure (want := true) (.gt rfl) (fun hg60 => PureOp.move rfl (.tmp rfl)) rfl rfl rfl (Nat.le_of_ble_eq_true rfl) ?_
        refine AD.gpure (want := true) (.gt rfl) (fun hg61 => PureOp.indexLst (i := x2.2.2.2) rfl (.frs (.gtmp rfl hg61)) vlk_el_30_1 (.gtmp rfl hg61) rfl (by rw [hstl]; exact hbl)) rfl rfl rfl (Nat.le_of_ble_eq_true rfl) ?_
        refine AD.gpure (want := true) (.gt rfl) (fun hg62 => PureOp.loadRef rfl (.gtmp rfl hg62) vlk_pl_3 (Nat.le_of_ble_eq_true rfl)) rfl rfl rfl (Nat.le_of_ble_eq_true rfl) ?_
        refine AD.gpure (want := true) (.gt rfl) (fun hg63 => PureOp.intOp rfl (.gtmp rfl hg63) (.gtmp rfl hg63) rfl) rfl rfl rfl (Nat.le_of_ble_eq_true rfl) ?_
        refine AD.gpure (want := false) (.tf rfl) (fun hg64 => PureOp.pick rfl (.gtmp rfl hg64) (fun hp65 => .gtmp rfl (and_mk hg64 hp65)) (fun _ => .bool)) rfl rfl rfl (Nat.le_of_ble_eq_true rfl) ?_
        refine AD.pure (PureOp.pick rfl (.tmp rfl) (fun _ => .bool) (fun hp68 => .gtmp rfl (not_of hp68))) rfl rfl (Nat.le_of_ble_eq_true rfl) ?_
        refine AD.nil ?_
        refine AW.cond (.tmp rfl) (fun hb69 => ?_) (fun hb69 => ?_)
        · have _u := True.intro
          exact absurd (show (cond (cond (cond (cond (!(goodEv (x2.1 : Int) x2.2.1)) true (!(goodEv (x2.1 : Int) x2.2.1))) true (!(okCk ((ckOf (x2.1 : Int) x2.2.1).getD x2.2.2.1 []) ((ckOf (x2.1 : Int) x2.2.1).getD x2.2.2.2 [])))) true (!((lessB ((ckOf (x2.1 : Int) x2.2.1).getD x2.2.2.1 []) ((ckOf (x2.1 : Int) x2.2.1).getD x2.2.2.2 [])) == ((cfV (x2.1 : Int) x2.2.1 (x2.2.2.1 : Int) (x2.2.2.2 : Int)).1)))) true (cond ((cfV (x2.1 : Int) x2.2.1 (x2.2.2.1 : Int) (x2.2.2.2 : Int)).1) (decide (((stOf (x2.1 : Int) x2.2.1).getD x2.2.2.2 0) ≤ ((stOf (x2.1 : Int) x2.2.1).getD x2.2.2.1 0))) false)) = false by rw [hea, heb, hsa, hsb, hcfv]; exact clk_end hf1 hf2 hf6 (fun e => (hf3 e).1)) (by rw [hb69]; simp)
          --end
        · have _u := True.intro
          have _h := hb69
          refine AW.skip ?_
          refine AW.seq ?_
          refine AW.region ?_
          refine ARun.pure (PureOp.move rfl (.tmp rfl)) rfl rfl (Nat.le_of_ble_eq_true rfl) ?_
          refine ARun.pure (PureOp.move rfl (.tmp rfl)) rfl rfl (Nat.le_of_ble_eq_true rfl) ?_
          refine ARun.pure (PureOp.move rfl (.tmp rfl)) rfl rfl (Nat.le_of_ble_eq_true rfl) ?_
          refine ARun.pure (PureOp.move rfl (.tmp rfl)) rfl rfl (Nat.le_of_ble_eq_true rfl) ?_
          refine ARun.pure (PureOp.call rfl (v_iCame (x2.1 : Int) x2.2.1 (x2.2.2.2 : Int) (x2.2.2.1 : Int) ⟨by omega, by omega⟩ ⟨by omega, by omega⟩ ⟨by omega, by omega⟩) ⟨⟨_, (.tmp rfl), .int⟩, ⟨_, (.tmp rfl), .frs⟩, ⟨_, (.tmp rfl), .int⟩, ⟨_, (.tmp rfl), .int⟩, trivial⟩ vlk_ca_13 ⟨trivial, trivial⟩) rfl rfl (Nat.le_of_ble_eq_true rfl) ?_
          refine ARun.pure (PureOp.move rfl (.tmp rfl)) rfl rfl (Nat.le_of_ble_eq_true rfl) ?_
          refine ARun.pure (PureOp.ext2a rfl (.tmp rfl)) rfl rfl (Nat.le_of_ble_eq_true rfl) ?_
          refine ARun.pure (PureOp.ext2b rfl (.tmp rfl)) rfl rfl (Nat.le_of_ble_eq_true rfl) ?_
          refine ARun.pure (PureOp.assign rfl (.tmp rfl)) rfl rfl (Nat.le_of_ble_eq_true rfl) ?_
          refine ARun.pure (PureOp.assign rfl (.tmp rfl)) rfl rfl (Nat.le_of_ble_eq_true rfl) ?_
          refine ARun.nil ?_
          refine AW.seq ?_
          refine AW.region ?_
          refine ARun.pure (PureOp.move rfl (.tmp rfl)) rfl rfl (Nat.le_of_ble_eq_true rfl) ?_
          refine ARun.pure (PureOp.not rfl (.tmp rfl)) rfl rfl (Nat.le_of_ble_eq_true rfl) ?_
          refine ARun.pure (PureOp.move rfl (.tmp rfl)) rfl rfl (Nat.le_of_ble_eq_true rfl) ?_
          refine ARun.gpure (want := false) (.tf rfl) (fun hg70 => PureOp.move rfl (.tmp rfl)) rfl rfl (Nat.le_of_ble_eq_true rfl) rfl (Nat.le_of_ble_eq_true rfl) ?_
          refine ARun.gpure (want := false) (.tf rfl) (fun hg71 => PureOp.move rfl (.gtmp rfl hg71)) rfl rfl (Nat.le_of_ble_eq_true rfl) rfl (Nat.le_of_ble_eq_true rfl) ?_
          refine ARun.gpure (want := true) (.gt rfl) (fun hg72 => PureOp.move rfl (.tmp rfl)) rfl rfl (Nat.le_of_ble_eq_true rfl) rfl (Nat.le_of_ble_eq_true rfl) ?_
          refine ARun.gpure (want := false) (.tf rfl) (fun hg73 => PureOp.pick rfl (.gtmp rfl hg73) (fun hp74 => .gtmp rfl (and_mk hg73 hp74)) (fun _ => .bool)) rfl rfl (Nat.le_of_ble_eq_true rfl) rfl (Nat.le_of_ble_eq_true rfl) ?_
          refine ARun.pure (PureOp.pick rfl (.tmp rfl) (fun _ => .bool) (fun hp77 => .gtmp rfl (not_of hp77))) rfl rfl (Nat.le_of_ble_eq_true rfl) ?_
          refine ARun.nil ?_
          refine AW.cond (.tmp rfl) (fun hb78 => ?_) (fun hb78 => ?_)
          · have _u := True.intro
            exact absurd (show (cond (!((cfV (x2.1 : Int) x2.2.1 (x2.2.2.2 : Int) (x2.2.2.1 : Int)).2)) true (cond ((cfV (x2.1 : Int) x2.2.1 (x2.2.2.1 : Int) (x2.2.2.2 : Int)).1) ((cfV (x2.1 : Int) x2.2.1 (x2.2.2.2 : Int) (x2.2.2.1 : Int)).1) false)) = false by rw [hcfv, hcfw]; exact cf_end2 (fun e => (hf3 e).2)) (by rw [hb78]; simp)
            --end
          · have _u := True.intro
            have _h := hb78
            refine AW.skip ?_
            refine AW.seq ?_
            refine AW.region ?_
            refine ARun.pure (PureOp.move rfl (.tmp rfl)) rfl rfl (Nat.le_of_ble_eq_true rfl) ?_
            refine ARun.draw rfl (v_DrawLessClock x1.length (fun i => (x1.getD i 0).toNat) (fun i => UInt8.toNat_lt _)) vlk_ca_36 ⟨⟨_, (.tmp rfl), .lst⟩, trivial⟩ rfl rfl (Nat.le_of_ble_eq_true rfl) (fun x79 hd80 => ?_)
            obtain ⟨⟨jl1, jr1⟩, jl2, jr2⟩ := hd80
            refine ARun.pure (PureOp.move rfl (.tmp rfl)) rfl rfl (Nat.le_of_ble_eq_true rfl) ?_
            refine ARun.pure (PureOp.ext2a rfl (.tmp rfl)) rfl rfl (Nat.le_of_ble_eq_true rfl) ?_
            refine ARun.pure (PureOp.ext2b rfl (.tmp rfl)) rfl rfl (Nat.le_of_ble_eq_true rfl) ?_
            refine ARun.pure (PureOp.assign rfl (.tmp rfl)) rfl rfl (Nat.le_of_ble_eq_true rfl) ?_
            refine ARun.pure (PureOp.assign rfl (.tmp rfl)) rfl rfl (Nat.le_of_ble_eq_true rfl) ?_
            refine ARun.nil ?_
            refine AW.seq ?_
            refine AW.region ?_
            refine ARun.pure (PureOp.move rfl (.tmp rfl)) rfl rfl (Nat.le_of_ble_eq_true rfl) ?_
            refine ARun.pure (PureOp.move rfl (.tmp rfl)) rfl rfl (Nat.le_of_ble_eq_true rfl) ?_
            refine ARun.pure (PureOp.call rfl (v_iLess x79.1 x79.2 jr1 jr2) ⟨⟨_, (.tmp rfl), .frs⟩, ⟨_, (.tmp rfl), .frs⟩, trivial⟩ vlk_ca_35 ⟨trivial, trivial⟩) rfl rfl (Nat.le_of_ble_eq_true rfl) ?_
            refine ARun.pure (PureOp.move rfl (.tmp rfl)) rfl rfl (Nat.le_of_ble_eq_true rfl) ?_
            refine ARun.pure (PureOp.ext2a rfl (.tmp rfl)) rfl rfl (Nat.le_of_ble_eq_true rfl) ?_
            refine ARun.pure (PureOp.ext2b rfl (.tmp rfl)) rfl rfl (Nat.le_of_ble_eq_true rfl) ?_
            refine ARun.pure (PureOp.assign rfl (.tmp rfl)) rfl rfl (Nat.le_of_ble_eq_true rfl) ?_
            refine ARun.pure (PureOp.assign rfl (.tmp rfl)) rfl rfl (Nat.le_of_ble_eq_true rfl) ?_
            refine ARun.nil ?_
            refine AW.seq ?_
            refine AW.region ?_
            refine ARun.pure (PureOp.move rfl (.tmp rfl)) rfl rfl (Nat.le_of_ble_eq_true rfl) ?_
            refine ARun.pure (PureOp.move rfl (.tmp rfl)) rfl rfl (Nat.le_of_ble_eq_true rfl) ?_
            refine ARun.pure (PureOp.call rfl (v_sLess x79.1 x79.2 jr1 jr2) ⟨⟨_, (.tmp rfl), .frs⟩, ⟨_, (.tmp rfl), .frs⟩, trivial⟩ vlk_ca_37 ⟨trivial, trivial⟩) rfl rfl (Nat.le_of_ble_eq_true rfl) ?_
            refine ARun.pure (PureOp.move rfl (.tmp rfl)) rfl rfl (Nat.le_of_ble_eq_true rfl) ?_
            refine ARun.pure (PureOp.ext2a rfl (.tmp rfl)) rfl rfl (Nat.le_of_ble_eq_true rfl) ?_
            refine ARun.pure (PureOp.ext2b rfl (.tmp rfl)) rfl rfl (Nat.le_of_ble_eq_true rfl) ?_
            refine ARun.pure (PureOp.assign rfl (.tmp rfl)) rfl rfl (Nat.le_of_ble_eq_true rfl) ?_
            refine ARun.pure (PureOp.assign rfl (.tmp rfl)) rfl rfl (Nat.le_of_ble_eq_true rfl) ?_
            refine ARun.nil ?_
            refine AW.seq ?_
            refine AW.region ?_
            refine ARun.pure (PureOp.move rfl (.tmp rfl)) rfl rfl (Nat.le_of_ble_eq_true rfl) ?_
            refine ARun.pure (PureOp.move rfl (.tmp rfl)) rfl rfl (Nat.le_of_ble_eq_true rfl) ?_
            refine ARun.pure (PureOp.boolEq rfl (.tmp rfl) (.tmp rfl) vlk_bo_4) rfl rfl (Nat.le_of_ble_eq_true rfl) ?_
            refine ARun.pure (PureOp.move rfl (.tmp rfl)) rfl rfl (Nat.le_of_ble_eq_true rfl) ?_
            refine ARun.gpure (want := true) (.tt rfl) (fun hg81 => PureOp.move rfl (.tmp rfl)) rfl rfl (Nat.le_of_ble_eq_true rfl) rfl (Nat.le_of_ble_eq_true rfl) ?_
            refine ARun.gpure (want := true) (.tt rfl) (fun hg82 => PureOp.move rfl (.tmp rfl)) rfl rfl (Nat.le_of_ble_eq_true rfl) rfl (Nat.le_of_ble_eq_true rfl) ?_
            refine ARun.gpure (want := true) (.tt rfl) (fun hg83 => PureOp.boolEq rfl (.gtmp rfl hg83) (.gtmp rfl hg83) vlk_bo_4) rfl rfl (Nat.le_of_ble_eq_true rfl) rfl (Nat.le_of_ble_eq_true rfl) ?_
            refine ARun.pure (PureOp.pick rfl (.tmp rfl) (fun hp84 => .gtmp rfl hp84) (fun _ => .bool)) rfl rfl (Nat.le_of_ble_eq_true rfl) ?_
            refine ARun.pure (PureOp.assign rfl (.tmp rfl)) rfl rfl (Nat.le_of_ble_eq_true rfl) ?_
            refine ARun.nil ?_
            refine AW.ret (show ResL _ _ [.tmp 4] _ from resB rfl ?_)
            simp
      · have _u := True.intro
        have _h := hb39
        refine AW.skip ?_
        refine AW.seq ?_
        refine AW.region ?_
        refine ARun.pure (PureOp.move rfl (.tmp rfl)) rfl rfl (Nat.le_of_ble_eq_true rfl) ?_
        refine ARun.draw rfl (v_DrawLessClock x1.length (fun i => (x1.getD i 0).toNat) (fun i => UInt8.toNat_lt _)) vlk_ca_36 ⟨⟨_, (.tmp rfl), .lst⟩, trivial⟩ rfl rfl (Nat.le_of_ble_eq_true rfl) (fun x86 hd87 => ?_)
        obtain ⟨⟨jl1, jr1⟩, jl2, jr2⟩ := hd87
        refine ARun.pure (PureOp.move rfl (.tmp rfl)) rfl rfl (Nat.le_of_ble_eq_true rfl) ?_
        refine ARun.pure (PureOp.ext2a rfl (.tmp rfl)) rfl rfl (Nat.le_of_ble_eq_true rfl) ?_
        refine ARun.pure (PureOp.ext2b rfl (.tmp rfl)) rfl rfl (Nat.le_of_ble_eq_true rfl) ?_
        refine ARun.pure (PureOp.assign rfl (.tmp rfl)) rfl rfl (Nat.le_of_ble_eq_true rfl) ?_
        refine ARun.pure (PureOp.assign rfl (.tmp rfl)) rfl rfl (Nat.le_of_ble_eq_true rfl) ?_
        refine ARun.nil ?_
        refine AW.seq ?_
        refine AW.region ?_
        refine ARun.pure (PureOp.move rfl (.tmp rfl)) rfl rfl (Nat.le_of_ble_eq_true rfl) ?_
        refine ARun.pure (PureOp.move rfl (.tmp rfl)) rfl rfl (Nat.le_of_ble_eq_true rfl) ?_
        refine ARun.pure (PureOp.call rfl (v_iLess x86.1 x86.2 jr1 jr2) ⟨⟨_, (.tmp rfl), .frs⟩, ⟨_, (.tmp rfl), .frs⟩, trivial⟩ vlk_ca_35 ⟨trivial, trivial⟩) rfl rfl (Nat.le_of_ble_eq_true rfl) ?_
        refine ARun.pure (PureOp.move rfl (.tmp rfl)) rfl rfl (Nat.le_of_ble_eq_true rfl) ?_
        refine ARun.pure (PureOp.ext2a rfl (.tmp rfl)) rfl rfl (Nat.le_of_ble_eq_true rfl) ?_
        refine ARun.pure (PureOp.ext2b rfl (.tmp rfl)) rfl rfl (Nat.le_of_ble_eq_true rfl) ?_
        refine ARun.pure (PureOp.assign rfl (.tmp rfl)) rfl rfl (Nat.le_of_ble_eq_true rfl) ?_
        refine ARun.pure (PureOp.assign rfl (.tmp rfl)) rfl rfl (Nat.le_of_ble_eq_true rfl) ?_
        refine ARun.nil ?_
        refine AW.seq ?_
        refine AW.region ?_
        refine ARun.pure (PureOp.move rfl (.tmp rfl)) rfl rfl (Nat.le_of_ble_eq_true rfl) ?_
        refine ARun.pure (PureOp.move rfl (.tmp rfl)) rfl rfl (Nat.le_of_ble_eq_true rfl) ?_
        refine ARun.pure (PureOp.call rfl (v_sLess x86.1 x86.2 jr1 jr2) ⟨⟨_, (.tmp rfl), .frs⟩, ⟨_, (.tmp rfl), .frs⟩, trivial⟩ vlk_ca_37 ⟨trivial, trivial⟩) rfl rfl (Nat.le_of_ble_eq_true rfl) ?_
        refine ARun.pure (PureOp.move rfl (.tmp rfl)) rfl rfl (Nat.le_of_ble_eq_true rfl) ?_
        refine ARun.pure (PureOp.ext2a rfl (.tmp rfl)) rfl rfl (Nat.le_of_ble_eq_true rfl) ?_
        refine ARun.pure (PureOp.ext2b rfl (.tmp rfl)) rfl rfl (Nat.le_of_ble_eq_true rfl) ?_
        refine ARun.pure (PureOp.assign rfl (.tmp rfl)) rfl rfl (Nat.le_of_ble_eq_true rfl) ?_
        refine ARun.pure (PureOp.assign rfl (.tmp rfl)) rfl rfl (Nat.le_of_ble_eq_true rfl) ?_
        refine ARun.nil ?_
        refine AW.seq ?_
        refine AW.region ?_
        refine ARun.pure (PureOp.move rfl (.tmp rfl)) rfl rfl (Nat.le_of_ble_eq_true rfl) ?_
        refine ARun.pure (PureOp.move rfl (.tmp rfl)) rfl rfl (Nat.le_of_ble_eq_true rfl) ?_
        refine ARun.pure (PureOp.boolEq rfl (.tmp rfl) (.tmp rfl) vlk_bo_4) rfl rfl (Nat.le_of_ble_eq_true rfl) ?_
        refine ARun.pure (PureOp.move rfl (.tmp rfl)) rfl rfl (Nat.le_of_ble_eq_true rfl) ?_
        refine ARun.gpure (want := true) (.tt rfl) (fun hg88 => PureOp.move rfl (.tmp rfl)) rfl rfl (Nat.le_of_ble_eq_true rfl) rfl (Nat.le_of_ble_eq_true rfl) ?_
        refine ARun.gpure (want := true) (.tt rfl) (fun hg89 => PureOp.move rfl (.tmp rfl)) rfl rfl (Nat.le_of_ble_eq_true rfl) rfl (Nat.le_of_ble_eq_true rfl) ?_
        refine ARun.gpure (want := true) (.tt rfl) (fun hg90 => PureOp.boolEq rfl (.gtmp rfl hg90) (.gtmp rfl hg90) vlk_bo_4) rfl rfl (Nat.le_of_ble_eq_true rfl) rfl (Nat.le_of_ble_eq_true rfl) ?_
        refine ARun.pure (PureOp.pick rfl (.tmp rfl) (fun hp91 => .gtmp rfl hp91) (fun _ => .bool)) rfl rfl (Nat.le_of_ble_eq_true rfl) ?_
        refine ARun.pure (PureOp.assign rfl (.tmp rfl)) rfl rfl (Nat.le_of_ble_eq_true rfl) ?_
        refine ARun.nil ?_
        refine AW.ret (show ResL _ _ [.tmp 4] _ from resB rfl ?_)
        simp

set_option maxRecDepth 100000 in
theorem lifted_Clocks (os : Os) (started : os.Started) (H : Type) (enc : TypeId × Value → H) :
    ReturnsInHanded {} Try.checked os 8 .any (Rows.fnClocksSpec.pre6 enc Try.prog Try.f8 Rows.fnClocksRow.domain false) (Rows.fnClocksSpec.post enc Try.prog Try.f8 false true false false) := by
  refine returnsInHanded_of_change (C := Try.checked) own started (by kernel_rfl) Try.func8
    (ChangeSpec.witness6 (enc := enc) (C := Try.checked) false ⟨#[], #[.slice none 0 0, .slice none 0 0], []⟩ 8 (by kernel_rfl) (by kernel_rfl) (by kernel_rfl) (by kernel_rfl)) ?_
  intro W base args ds gs before hval0 hW hcnd _
  have hval : ∀ (j : Nat) t v, Try.f8.params[j]? = some t → args[j]? = some v → Value.okWide Try.prog W .any base t v := hval0
  have hW' := hW
  obtain ⟨p, q, hA0, hV, rfl, hfz, hnd⟩ := hW
  have hA : DataW.TrodAll enc Try.prog W 0 (fun _ => true) true Try.f8.params.toList args.toList ds p := hA0
  rw [Try.params8] at hA hval
  obtain ⟨v0, vs0, d0, ds0, p0, q0, hargs, rfl, rfl, h0, r0⟩ := trodAll_cons hA
  obtain ⟨v1, vs1, d1, ds1, p1, q1, rfl, rfl, rfl, h1, r1⟩ := trodAll_cons r0
  obtain ⟨rfl, rfl, rfl⟩ := trodAll_nil r1
  obtain rfl : args = #[v0, v1] := by cases args; simp_all
  obtain ⟨rfl, rfl⟩ := trodVars_none hV
  obtain ⟨x0, R0⟩ := OpensC.arg opensC_47 h0
  have E0 : DS W (· < W.heap.size) (.one (.lst 1 x0.length (fun i0 _ => .int .u8 (((x0.getD i0 0).toNat : Nat) : Int)))) v0 := DS.one_of (by obtain ⟨a, n, c, rfl⟩ := okWide_slice Try.underlying47 (hval 0 47 v0 rfl rfl); rfl) R0
  obtain ⟨x1, R1⟩ := OpensC.arg opensC_47 h1
  have E1 : DS W (· < W.heap.size) (.one (.lst 1 x1.length (fun i0 _ => .int .u8 (((x1.getD i0 0).toNat : Nat) : Int)))) v1 := DS.one_of (by obtain ⟨a, n, c, rfl⟩ := okWide_slice Try.underlying47 (hval 1 47 v1 rfl rfl); rfl) R1
  clear hA0 hval0
  refine (law_Clocks x0 x1 W (· < W.heap.size) _ ⟨fun _ h => h, trivial⟩ ⟨_, _, rfl, E0, ⟨_, _, rfl, E1, rfl⟩⟩).mono fun e W' ⟨he, hg⟩ => ?_
  subst he
  exact ⟨_, rfl, law_post hW' rfl laidOut (by kernel_rfl) hg rfl rfl Try.underlying4⟩
/-- The statement. -/
theorem proved_Clocks : Rows.FnClocksSaid :=
  OpenClaim.holds_of_wide 8 Try.f8 rfl rfl rfl rfl rfl rfl rfl ⟨rfl, rfl, rfl, rfl, rfl⟩ rfl rfl rfl rfl rfl (by kernel_rfl) Try.func8 (by kernel_rfl)
    (of_decide_eq_true (by kernel_rfl)) (by unfold Func.isWrapper; first | (rw [if_pos (by decide +kernel)]; kernel_rfl) | (rw [if_neg (by decide +kernel)]; exact ⟨rfl, rfl⟩))
    (fun os started H enc _ => lifted_Clocks os started H enc)
#print axioms proved_Clocks
end Go.Proofs.Ytmkhahiefdcinaa
