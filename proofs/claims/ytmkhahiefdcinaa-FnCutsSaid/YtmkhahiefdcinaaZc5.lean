/-
  Proved: the law FnCuts returns true for every input: of all drawn events, the past of an event is a consistent cut given by its clock, and the greater of two such cuts is a cut; the program answers as the reference does. Conditions: none.
-/
import Derived.Deep.RegionHeld3
import Derived.Test.YtmkhahiefdcinaaZc3
import Derived.Test.YtmkhahiefdcinaaZc4
/-
  What the reference draws for cuts and clocks.
-/
namespace Go.Proofs.Ytmkhahiefdcinaa
open Go.ChangeShapes Go.WideShapes Go.ChangeAt Go.RowKit Go.BigFrame Go.Deep
set_option linter.unusedVariables false
set_option linter.unusedSimpArgs false
theorem vd3_ca_36 : callB Try.prog 36 = true := by kernel_rfl
theorem vd3_ca_57 : callB Try.prog 57 = true := by kernel_rfl
theorem vd3_ca_58 : callB Try.prog 58 = true := by kernel_rfl
theorem vd3_ca_61 : callB Try.prog 61 = true := by kernel_rfl
theorem vd3_ca_62 : callB Try.prog 62 = true := by kernel_rfl
theorem vd3_ca_73 : callB Try.prog 73 = true := by kernel_rfl
theorem vd3_el_30_1 : elemB Try.prog 30 1 = true := by kernel_rfl
theorem vd3_sl_26 : sliceB Try.prog 26 = true := by kernel_rfl
theorem vd3_sl_30 : sliceB Try.prog 30 = true := by kernel_rfl
theorem vd3_sz_3_1 : sizeB Try.prog 3 1 = true := by kernel_rfl
theorem amr {x : Int} (h : x ∈ [(-1 : Int), 40, 41]) : I64 x := by
  rcases List.mem_cons.1 h with rfl | h
  · exact ⟨by decide, by decide⟩
  rcases List.mem_cons.1 h with rfl | h
  · exact ⟨by decide, by decide⟩
  rw [List.mem_singleton.1 h]; exact ⟨by decide, by decide⟩
theorem fv_in {H : Heap} {id m : Nat} {o : AObj} {L : List Int} (ho : H.lookup id = some o) (hsz : o.sz = 1) (hn : L.length ≤ o.n) (hm : m = L.length) (hf : ∀ i j, i < L.length → j < 1 → o.f i j = inC L i j) : Fv H (.own id 1 m) (intsD L) := by
  subst hm
  refine .own ho hsz hn fun i j hi hj => ?_
  rw [hf i j hi hj]
  exact .int
theorem v_Clock (n : Nat) (F : Nat → Nat) (hF : ∀ i, F i < 256) (p s : Nat) (hp : p ≤ 1600000000) (hs : s < 18446744073709551616) : FnC Try.prog 61 n F [] p s (fun (x : List Int) p' s' => (x.length ≤ 4 ∧ allRi x) ∧ CurOk p 50 p' s') (fun (x : List Int) => .one (intsD x)) := by
  refine FnC.of_body (fn := Try.f61) Try.func61 rfl (Nat.le_of_ble_eq_true rfl) ?_
  intro w0 c
  show AW _ 26 _ _ _ _
  refine AW.seq ?_
  refine AW.region ?_
  refine ARun.pure (PureOp.assign rfl .con) rfl rfl (Nat.le_of_ble_eq_true rfl) ?_
  refine ARun.nil ?_
  refine AW.seq ?_
  refine AW.region ?_
  refine ARun.pure (PureOp.assign rfl .con) rfl rfl (Nat.le_of_ble_eq_true rfl) ?_
  refine ARun.nil ?_
  refine AW.seq ?_
  refine AW.seq ?_
  refine AW.region ?_
  refine ARun.pure (PureOp.move rfl (.tmp rfl)) rfl rfl (Nat.le_of_ble_eq_true rfl) ?_
  refine ARun.cur (id := 1000000) rfl (v_Pick n F hF p s (by omega) (by omega) 9 (by omega)) vd3_ca_58 ⟨.inr (.tmp rfl), .inl ⟨_, .int, .int⟩, trivial⟩ rfl rfl rfl (Nat.le_of_ble_eq_true rfl) (fun x1 p2 sd3 hc4 => ?_)
  obtain ⟨hc4x, hc4c⟩ := hc4
  obtain ⟨hc41, hc42, hc43⟩ := hc4c
  refine ARun.pure (PureOp.quo (a := x1) (b := 8) rfl (.tmp rfl) .int rfl (by decide) (by omega)) rfl rfl (Nat.le_of_ble_eq_true rfl) ?_
  refine ARun.pure (PureOp.add (c := ((3 + x1 / 8 : Nat) : Int)) rfl .int (.tmp rfl) (by rw [wrap_id (by omega) (by omega)]; omega)) rfl rfl (Nat.le_of_ble_eq_true rfl) ?_
  refine ARun.pure (PureOp.assign rfl (.tmp rfl)) rfl rfl (Nat.le_of_ble_eq_true rfl) ?_
  refine ARun.nil ?_
  refine AW.block ?_
  refine AW.nilSlot 3 900 1 (inC []) rfl ⟨rfl, (by repeat first | exact trivial | refine ⟨by decide, by first | rfl | exact trivial | (intro i j; first | rfl | exact getD_no rfl | (dsimp only; split <;> first | rfl | exact getD_no rfl) | exact scl_no (by apply_assumption) _), ?_⟩)⟩ ?_
  -- objects are renamed
  refine AW.loopR (ι := InS) (fun v => ⟨[(0, .one (.ptr 1000000 3 0 0)), (3, .one (.own 900 1 v.l.length)), (4, .one (.int .i64 ((((3 + x1 / 8) - v.l.length) : Nat) : Int)))], [(900, .arr 1 v.l.length (inC v.l)), (1000000, .cells [.cv c (.lst 1 n (fun i _ => .int .u8 ((F i : Nat) : Int))), .int .i64 (v.p : Int), .int .u64 ((v.s : Nat) : Int)])]⟩) (fun v => v.l.length ≤ (3 + x1 / 8) ∧ v.p ≤ p2 + 2 * v.l.length ∧ v.s < 18446744073709551616 ∧ p2 ≤ v.p ∧ allRi v.l) (fun v => (3 + x1 / 8) - v.l.length) ⟨[], p2, sd3⟩ ⟨Nat.zero_le _, by show p2 ≤ p2 + 2 * 0; omega, by show sd3 < 18446744073709551616; omega, Nat.le_refl _, fun _ he => (nomatch he)⟩ ⟨⟨⟨_, rfl, rfl⟩, ⟨_, rfl, rfl⟩, ⟨_, rfl, rfl⟩, trivial⟩, ⟨⟨_, rfl, rfl, Nat.le_refl _, fun _ _ _ _ => rfl⟩, ⟨_, rfl, rfl, Nat.le_refl _, fun _ _ _ _ => rfl⟩, trivial⟩⟩ ?_
  intro v hv
  obtain ⟨hv1, hv2, hv3, hv4, hv5⟩ := hv
  refine AW.seq ?_
  refine AW.seq ?_
  refine AW.region ?_
  refine ARun.pure (PureOp.move rfl (.tmp rfl)) rfl rfl (Nat.le_of_ble_eq_true rfl) ?_
  refine ARun.pure (PureOp.intOp rfl (.tmp rfl) .int rfl) rfl rfl (Nat.le_of_ble_eq_true rfl) ?_
  refine ARun.nil ?_
  refine AW.cond (.tmp rfl) (fun hb5 => ?_) (fun hb5 => ?_)
  · have _u := True.intro
    replace hb5 := of_decide_eq_true hb5
    have hkl : v.l.length < (3 + x1 / 8) := by omega
    refine AW.skip ?_
    refine AW.seq ?_
    refine AW.block ?_
    refine AW.region ?_
    refine ARun.pure (PureOp.move rfl (.tmp rfl)) rfl rfl (Nat.le_of_ble_eq_true rfl) ?_
    refine ARun.pure (PureOp.move rfl (.tmp rfl)) rfl rfl (Nat.le_of_ble_eq_true rfl) ?_
    refine ARun.cur (id := 1000000) rfl (v_Pick n F hF v.p v.s (by omega) (by omega) 4 (by omega)) vd3_ca_58 ⟨.inr (.tmp rfl), .inl ⟨_, .int, .int⟩, trivial⟩ rfl rfl rfl (Nat.le_of_ble_eq_true rfl) (fun x6 p7 sd8 hc9 => ?_)
    obtain ⟨hc9x, hc9c⟩ := hc9
    obtain ⟨hc91, hc92, hc93⟩ := hc9c
    refine ARun.slice1 (id := 0) (z := (.int .i64 0)) (by_ := 8) rfl (.tmp rfl) trivial (by kernel_rfl) rfl rfl (by decide) (by decide) ⟨rfl, (by repeat first | exact trivial | refine ⟨by decide, by first | rfl | exact trivial | (intro i j; first | rfl | exact getD_no rfl | (dsimp only; split <;> first | rfl | exact getD_no rfl) | exact scl_no (by apply_assumption) _), ?_⟩)⟩ rfl rfl rfl (Nat.le_of_ble_eq_true rfl) ?_
    refine ARun.append (id := 1) (sz := 1) (n := v.l.length) (m := 1) (by_ := 8) (z := (.int .i64 0)) (f := inC v.l) (g := fun _ jc => ([.int .i64 (x6 : Int)] : List AV).getD jc (.con undef)) (h := fun ia ja => if ia < v.l.length then (inC v.l) ia ja else (fun _ jc => ([.int .i64 (x6 : Int)] : List AV).getD jc (.con undef)) (ia - v.l.length) ja) rfl (by kernel_rfl) rfl vd3_sl_30 (.own (.tmp rfl) rfl rfl rfl (Nat.le_refl _) (fun _ _ _ _ => rfl)) (.own (.tmp rfl) rfl rfl (Nat.le_refl _) (fun _ _ _ _ => rfl)) (by decide) (fun i j hi hj => match j, hj with | 0, _ => rfl | _ + 1, h => absurd h (by omega)) (fun _ _ _ _ => rfl) (by omega) (by omega) ⟨rfl, (by repeat first | exact trivial | refine ⟨by decide, by first | rfl | exact trivial | (intro i j; first | rfl | exact getD_no rfl | (dsimp only; split <;> first | rfl | exact getD_no rfl) | exact scl_no (by apply_assumption) _), ?_⟩)⟩ (fun i j => by dsimp only; (repeat' split) <;> first | rfl | exact getD_no rfl) rfl rfl (Nat.le_of_ble_eq_true rfl) ?_
    refine ARun.pure (PureOp.assign rfl (.tmp rfl)) rfl rfl (Nat.le_of_ble_eq_true rfl) ?_
    refine ARun.nil ?_
    refine AW.region ?_
    refine ARun.pure (PureOp.move rfl (.tmp rfl)) rfl rfl (Nat.le_of_ble_eq_true rfl) ?_
    refine ARun.pure (PureOp.sub (c := ((((3 + x1 / 8) - (v.l.length + 1)) : Nat) : Int)) rfl (.tmp rfl) .int (by rw [wrap_id (by omega) (by omega)]; omega)) rfl rfl (Nat.le_of_ble_eq_true rfl) ?_
    refine ARun.pure (PureOp.assign rfl (.tmp rfl)) rfl rfl (Nat.le_of_ble_eq_true rfl) ?_
    refine ARun.nil ?_
    have hln : (v.l ++ [(x6 : Int)]).length = v.l.length + 1 := by rw [List.length_append]; rfl
    exact ⟨⟨(v.l ++ [(x6 : Int)]), p7, sd8⟩, (swp 900 1), ⟨by show (v.l ++ [(x6 : Int)]).length ≤ _; omega, by show p7 ≤ _ + 2 * (v.l ++ [(x6 : Int)]).length; omega, by show sd8 < _; omega, by show _ ≤ p7; omega, allRi_app hv5 ⟨by omega, by omega⟩⟩, by show (3 + x1 / 8) - (v.l ++ [(x6 : Int)]).length < (3 + x1 / 8) - v.l.length; omega, swp_inj, (swp_fix rfl rfl), ⟨⟨⟨_, rfl, rfl⟩, ⟨_, rfl, congrArg (fun z : Nat => SV.one (.own 1 1 z)) hln.symm⟩, ⟨_, rfl, congrArg (fun z : Nat => SV.one (.int .i64 ((((3 + x1 / 8) - z) : Nat) : Int))) hln.symm⟩, trivial⟩, ⟨⟨_, rfl, rfl, Nat.le_of_eq hln, fun ia ja hi hj => in_app (hln ▸ hi) hj⟩, ⟨_, rfl, rfl, Nat.le_refl _, fun _ _ _ _ => rfl⟩, trivial⟩⟩⟩
  · have _u := True.intro
    replace hb5 := of_decide_eq_false hb5
    have h00 : 0 < v.l.length := by omega
    refine AW.exit ?_
    refine AW.seq ?_
    refine AW.seq ?_
    refine AW.region ?_
    refine ARun.pure (PureOp.move rfl (.tmp rfl)) rfl rfl (Nat.le_of_ble_eq_true rfl) ?_
    refine ARun.cur (id := 1000000) rfl (v_One n F hF v.p v.s (by omega) (by omega) 20 (by omega)) vd3_ca_62 ⟨.inr (.tmp rfl), .inl ⟨_, .int, .int⟩, trivial⟩ rfl rfl rfl (Nat.le_of_ble_eq_true rfl) (fun x10 p11 sd12 hc13 => ?_)
    have hc13c := hc13
    obtain ⟨hc131, hc132, hc133⟩ := hc13c
    refine ARun.nil ?_
    refine AW.cond (.tmp rfl) (fun hb14 => ?_) (fun hb14 => ?_)
    · have _u := True.intro
      refine AW.region ?_
      refine ARun.pure (PureOp.move rfl (.tmp rfl)) rfl rfl (Nat.le_of_ble_eq_true rfl) ?_
      refine ARun.pure (PureOp.move rfl (.tmp rfl)) rfl rfl (Nat.le_of_ble_eq_true rfl) ?_
      refine ARun.fresh (FreshOp.trip (a1 := (-1)) (a2 := 40) (a3 := 41) rfl .int .int .int Try.underlying30 (by kernel_rfl)) rfl rfl (Nat.le_of_ble_eq_true rfl) ?_
      refine ARun.cur (id := 1000000) rfl (v_Among n F hF p11 sd12 (by omega) (by omega) [(-1 : Int), 40, 41] ⟨by decide, by decide⟩) vd3_ca_73 ⟨.inr (.tmp rfl), .inl ⟨_, (.tmp rfl), .frs⟩, trivial⟩ rfl rfl rfl (Nat.le_of_ble_eq_true rfl) (fun x15 p16 sd17 hc18 => ?_)
      obtain ⟨hc18x, hc18c⟩ := hc18
      obtain ⟨hc181, hc182, hc183⟩ := hc18c
      refine ARun.pure (PureOp.indexOwn (i := 0) rfl (.tmp rfl) vd3_el_30_1 .int rfl (show 0 < v.l.length from h00)) rfl rfl (Nat.le_of_ble_eq_true rfl) ?_
      refine ARun.storeElem rfl (.tmp rfl) (.tmp rfl) trivial rfl (show 0 < v.l.length from h00) rfl vd3_sz_3_1 rfl rfl ?_
      refine ARun.nil ?_
      refine AW.seq ?_
      refine AW.region ?_
      refine ARun.pure (PureOp.move rfl (.tmp rfl)) rfl rfl (Nat.le_of_ble_eq_true rfl) ?_
      refine ARun.pure (PureOp.assign rfl (.tmp rfl)) rfl rfl (Nat.le_of_ble_eq_true rfl) ?_
      refine ARun.nil ?_
      exact AW.ret (show ∃ x p' s' t, _ ∧ ResL _ _ [.tmp 2] t ∧ _ ∧ _ from ⟨(v.l.set 0 x15), p16, sd17, _, ⟨⟨by rw [List.length_set]; show v.l.length ≤ 4; omega, allRi_set hv5 (amr hc18x)⟩, ⟨by omega, by omega, by omega⟩⟩, .inl ⟨_, rfl, .tmp rfl⟩, fw_in rfl rfl rfl (Nat.le_of_eq (List.length_set ..)) (List.length_set ..).symm (fun _ _ _ hj => in_set h00 hj), rfl⟩)
    · have _u := True.intro
      refine AW.skip ?_
      refine AW.seq ?_
      refine AW.region ?_
      refine ARun.pure (PureOp.move rfl (.tmp rfl)) rfl rfl (Nat.le_of_ble_eq_true rfl) ?_
      refine ARun.pure (PureOp.assign rfl (.tmp rfl)) rfl rfl (Nat.le_of_ble_eq_true rfl) ?_
      refine ARun.nil ?_
      exact AW.ret (show ∃ x p' s' t, _ ∧ ResL _ _ [.tmp 2] t ∧ _ ∧ _ from ⟨v.l, p11, sd12, _, ⟨⟨by show v.l.length ≤ 4; omega, hv5⟩, ⟨by omega, by omega, by omega⟩⟩, .inl ⟨_, rfl, .tmp rfl⟩, fw_in rfl rfl rfl (Nat.le_refl _) rfl (fun _ _ _ _ => rfl), rfl⟩)

theorem v_DrawCutOf (n : Nat) (F : Nat → Nat) (hF : ∀ i, F i < 256) : FnE Try.prog 38 [.one (.lst 1 n (fun i _ => .int .u8 ((F i : Nat) : Int)))] (fun (x : Nat × List GEvent × Int) => ((1 ≤ x.1 ∧ x.1 ≤ 4) ∧ x.2.1.length ≤ 41 ∧ allEv x.2.1) ∧ -1 ≤ x.2.2 ∧ x.2.2 ≤ 42) (fun (x : Nat × List GEvent × Int) => .tup3 (.one (.int .i64 (x.1 : Int))) (.one (evsD x.2.1)) (.one (.int .i64 x.2.2))) := by
  refine FnE.of_body (fn := Try.f38) Try.func38 rfl (Nat.le_of_ble_eq_true rfl) ?_
  intro w0
  show AW _ 24 _ _ _ _
  refine AW.cv (t := 0) rfl (fun c0 => ?_)
  refine AW.seq ?_
  refine AW.region ?_
  refine ARun.pure (PureOp.assign rfl .int) rfl rfl (Nat.le_of_ble_eq_true rfl) ?_
  refine ARun.pure (PureOp.assign rfl .con) rfl rfl (Nat.le_of_ble_eq_true rfl) ?_
  refine ARun.pure (PureOp.assign rfl .int) rfl rfl (Nat.le_of_ble_eq_true rfl) ?_
  refine ARun.nil ?_
  refine AW.seq ?_
  refine AW.region ?_
  refine ARun.pure (PureOp.move rfl (.tmp rfl)) rfl rfl (Nat.le_of_ble_eq_true rfl) ?_
  refine ARun.pure (PureOp.build (ys := [.cv c0 (.lst 1 n (fun i _ => .int .u8 ((F i : Nat) : Int)))]) (l := [.con (.slice none 0 0), .int .i64 0, .int .u64 0]) (pl := [(0, 1), (1, 1), (2, 1)]) (z := (.agg #[.slice none 0 0, .int .i64 0, .int .u64 0])) rfl (by kernel_rfl) (by kernel_rfl) (fun _ _ _ => ⟨_, _, rfl, rfl, ⟨_, _, rfl, rfl, ⟨_, _, rfl, rfl, rfl⟩⟩⟩) ⟨(.tmp rfl), trivial, rfl, trivial⟩ rfl) rfl rfl (Nat.le_of_ble_eq_true rfl) ?_
  refine ARun.box (id := 0) rfl (.tmp rfl) (SV.cells_of (by exact ⟨trivial, trivial, trivial, trivial⟩)) ⟨rfl, (by repeat first | exact trivial | refine ⟨by decide, by first | rfl | exact trivial | (intro i j; first | rfl | exact getD_no rfl | (dsimp only; split <;> first | rfl | exact getD_no rfl) | exact scl_no (by apply_assumption) _), ?_⟩)⟩ rfl rfl rfl (Nat.le_of_ble_eq_true rfl) ?_
  refine ARun.pure (PureOp.assign rfl (.tmp rfl)) rfl rfl (Nat.le_of_ble_eq_true rfl) ?_
  refine ARun.nil ?_
  refine AW.seq ?_
  refine AW.region ?_
  refine ARun.pure (PureOp.move rfl (.tmp rfl)) rfl rfl (Nat.le_of_ble_eq_true rfl) ?_
  refine ARun.cur (id := 0) rfl (v_Events n F hF 0 0 (by omega) (by omega)) vd3_ca_57 ⟨.inr (.tmp rfl), trivial⟩ rfl rfl rfl (Nat.le_of_ble_eq_true rfl) (fun x1 p2 sd3 hc4 => ?_)
  obtain ⟨⟨hc4x, hc4l, hc4r⟩, hc4c⟩ := hc4
  obtain ⟨hc41, hc42, hc43⟩ := hc4c
  refine ARun.pure (PureOp.move rfl (.tmp rfl)) rfl rfl (Nat.le_of_ble_eq_true rfl) ?_
  refine ARun.pure (PureOp.ext2a rfl (.tmp rfl)) rfl rfl (Nat.le_of_ble_eq_true rfl) ?_
  refine ARun.pure (PureOp.ext2b rfl (.tmp rfl)) rfl rfl (Nat.le_of_ble_eq_true rfl) ?_
  refine ARun.pure (PureOp.assign rfl (.tmp rfl)) rfl rfl (Nat.le_of_ble_eq_true rfl) ?_
  refine ARun.pure (PureOp.assign rfl (.tmp rfl)) rfl rfl (Nat.le_of_ble_eq_true rfl) ?_
  refine ARun.nil ?_
  refine AW.seq ?_
  refine AW.region ?_
  refine ARun.pure (PureOp.move rfl (.tmp rfl)) rfl rfl (Nat.le_of_ble_eq_true rfl) ?_
  refine ARun.pure (PureOp.move rfl (.tmp rfl)) rfl rfl (Nat.le_of_ble_eq_true rfl) ?_
  refine ARun.pure (PureOp.move rfl (.tmp rfl)) rfl rfl (Nat.le_of_ble_eq_true rfl) ?_
  refine ARun.pure (PureOp.move rfl (.tmp rfl)) rfl rfl (Nat.le_of_ble_eq_true rfl) ?_
  refine ARun.pure (PureOp.lenLst rfl (.frs (.tmp rfl)) vd3_sl_26) rfl rfl (Nat.le_of_ble_eq_true rfl) ?_
  refine ARun.pure (PureOp.add (c := ((x1.2.length + 2 : Nat) : Int)) rfl (.tmp rfl) .int (by rw [wrap_id (by omega) (by omega)]; omega)) rfl rfl (Nat.le_of_ble_eq_true rfl) ?_
  refine ARun.cur (id := 0) rfl (v_Pick n F hF p2 sd3 (by omega) (by omega) (x1.2.length + 2) (by omega)) vd3_ca_58 ⟨.inr (.tmp rfl), .inl ⟨_, (.tmp rfl), .int⟩, trivial⟩ rfl rfl rfl (Nat.le_of_ble_eq_true rfl) (fun x5 p6 sd7 hc8 => ?_)
  obtain ⟨hc8x, hc8c⟩ := hc8
  obtain ⟨hc81, hc82, hc83⟩ := hc8c
  refine ARun.pure (PureOp.sub (c := (x5 : Int) - 1) rfl (.tmp rfl) .int (wrap_id (by omega) (by omega))) rfl rfl (Nat.le_of_ble_eq_true rfl) ?_
  refine ARun.pure (PureOp.assign rfl (.tmp rfl)) rfl rfl (Nat.le_of_ble_eq_true rfl) ?_
  refine ARun.pure (PureOp.assign rfl (.tmp rfl)) rfl rfl (Nat.le_of_ble_eq_true rfl) ?_
  refine ARun.pure (PureOp.assign rfl (.tmp rfl)) rfl rfl (Nat.le_of_ble_eq_true rfl) ?_
  refine ARun.nil ?_
  have hk : -1 ≤ (x5 : Int) - 1 ∧ (x5 : Int) - 1 ≤ 42 := by rcases hc8x with hx | hx <;> omega
  exact AW.ret (show ∃ x s, _ ∧ ResL _ _ [.tmp 2, .tmp 3, .tmp 4] s ∧ FvS _ s _ from ⟨⟨x1.1, x1.2, (x5 : Int) - 1⟩, _, ⟨⟨hc4x, hc4l, hc4r⟩, hk⟩, .inr (.inr ⟨_, _, _, _, _, _, rfl, .tmp rfl, .tmp rfl, .tmp rfl, rfl⟩), ⟨.int, .frs, .int⟩⟩)

theorem v_DrawIsCut (n : Nat) (F : Nat → Nat) (hF : ∀ i, F i < 256) : FnE Try.prog 41 [.one (.lst 1 n (fun i _ => .int .u8 ((F i : Nat) : Int)))] (fun (x : Nat × List GEvent × List Int) => ((1 ≤ x.1 ∧ x.1 ≤ 4) ∧ x.2.1.length ≤ 41 ∧ allEv x.2.1) ∧ x.2.2.length ≤ 4 ∧ allRi x.2.2) (fun (x : Nat × List GEvent × List Int) => .tup3 (.one (.int .i64 (x.1 : Int))) (.one (evsD x.2.1)) (.one (intsD x.2.2))) := by
  refine FnE.of_body (fn := Try.f41) Try.func41 rfl (Nat.le_of_ble_eq_true rfl) ?_
  intro w0
  show AW _ 31 _ _ _ _
  refine AW.cv (t := 0) rfl (fun c0 => ?_)
  refine AW.seq ?_
  refine AW.region ?_
  refine ARun.pure (PureOp.assign rfl .int) rfl rfl (Nat.le_of_ble_eq_true rfl) ?_
  refine ARun.pure (PureOp.assign rfl .con) rfl rfl (Nat.le_of_ble_eq_true rfl) ?_
  refine ARun.pure (PureOp.assign rfl .con) rfl rfl (Nat.le_of_ble_eq_true rfl) ?_
  refine ARun.nil ?_
  refine AW.seq ?_
  refine AW.region ?_
  refine ARun.pure (PureOp.move rfl (.tmp rfl)) rfl rfl (Nat.le_of_ble_eq_true rfl) ?_
  refine ARun.pure (PureOp.build (ys := [.cv c0 (.lst 1 n (fun i _ => .int .u8 ((F i : Nat) : Int)))]) (l := [.con (.slice none 0 0), .int .i64 0, .int .u64 0]) (pl := [(0, 1), (1, 1), (2, 1)]) (z := (.agg #[.slice none 0 0, .int .i64 0, .int .u64 0])) rfl (by kernel_rfl) (by kernel_rfl) (fun _ _ _ => ⟨_, _, rfl, rfl, ⟨_, _, rfl, rfl, ⟨_, _, rfl, rfl, rfl⟩⟩⟩) ⟨(.tmp rfl), trivial, rfl, trivial⟩ rfl) rfl rfl (Nat.le_of_ble_eq_true rfl) ?_
  refine ARun.box (id := 0) rfl (.tmp rfl) (SV.cells_of (by exact ⟨trivial, trivial, trivial, trivial⟩)) ⟨rfl, (by repeat first | exact trivial | refine ⟨by decide, by first | rfl | exact trivial | (intro i j; first | rfl | exact getD_no rfl | (dsimp only; split <;> first | rfl | exact getD_no rfl) | exact scl_no (by apply_assumption) _), ?_⟩)⟩ rfl rfl rfl (Nat.le_of_ble_eq_true rfl) ?_
  refine ARun.pure (PureOp.assign rfl (.tmp rfl)) rfl rfl (Nat.le_of_ble_eq_true rfl) ?_
  refine ARun.nil ?_
  refine AW.seq ?_
  refine AW.region ?_
  refine ARun.pure (PureOp.move rfl (.tmp rfl)) rfl rfl (Nat.le_of_ble_eq_true rfl) ?_
  refine ARun.cur (id := 0) rfl (v_Events n F hF 0 0 (by omega) (by omega)) vd3_ca_57 ⟨.inr (.tmp rfl), trivial⟩ rfl rfl rfl (Nat.le_of_ble_eq_true rfl) (fun x1 p2 sd3 hc4 => ?_)
  obtain ⟨⟨hc4x, hc4l, hc4r⟩, hc4c⟩ := hc4
  obtain ⟨hc41, hc42, hc43⟩ := hc4c
  refine ARun.pure (PureOp.move rfl (.tmp rfl)) rfl rfl (Nat.le_of_ble_eq_true rfl) ?_
  refine ARun.pure (PureOp.ext2a rfl (.tmp rfl)) rfl rfl (Nat.le_of_ble_eq_true rfl) ?_
  refine ARun.pure (PureOp.ext2b rfl (.tmp rfl)) rfl rfl (Nat.le_of_ble_eq_true rfl) ?_
  refine ARun.pure (PureOp.assign rfl (.tmp rfl)) rfl rfl (Nat.le_of_ble_eq_true rfl) ?_
  refine ARun.pure (PureOp.assign rfl (.tmp rfl)) rfl rfl (Nat.le_of_ble_eq_true rfl) ?_
  refine ARun.nil ?_
  refine AW.seq ?_
  refine AW.region ?_
  refine ARun.pure (PureOp.assign rfl .con) rfl rfl (Nat.le_of_ble_eq_true rfl) ?_
  refine ARun.nil ?_
  refine AW.seq ?_
  refine AW.seq ?_
  refine AW.region ?_
  refine ARun.pure (PureOp.assign rfl .int) rfl rfl (Nat.le_of_ble_eq_true rfl) ?_
  refine ARun.nil ?_
  refine AW.block ?_
  refine AW.nilSlot 8 900 1 (inC []) rfl ⟨rfl, (by repeat first | exact trivial | refine ⟨by decide, by first | rfl | exact trivial | (intro i j; first | rfl | exact getD_no rfl | (dsimp only; split <;> first | rfl | exact getD_no rfl) | exact scl_no (by apply_assumption) _), ?_⟩)⟩ ?_
  -- objects are renamed
  refine AW.loopR (ι := InS) (fun v => ⟨[(5, .one (.ptr 0 3 0 0)), (6, .one (.int .i64 (x1.1 : Int))), (7, .one (.frs (.lst 2 x1.2.length (evC x1.2)))), (8, .one (.own 900 1 v.l.length)), (9, .one (.int .i64 (v.l.length : Int)))], [(0, .cells [.cv c0 (.lst 1 n (fun i _ => .int .u8 ((F i : Nat) : Int))), .int .i64 (v.p : Int), .int .u64 ((v.s : Nat) : Int)]), (900, .arr 1 v.l.length (inC v.l))]⟩) (fun v => v.l.length ≤ x1.1 ∧ v.p ≤ p2 + 2 * v.l.length ∧ v.s < 18446744073709551616 ∧ p2 ≤ v.p ∧ allRi v.l) (fun v => x1.1 - v.l.length) ⟨[], p2, sd3⟩ ⟨Nat.zero_le _, by show p2 ≤ p2 + 2 * 0; omega, by show sd3 < 18446744073709551616; omega, Nat.le_refl _, fun _ he => (nomatch he)⟩ ⟨⟨⟨_, rfl, rfl⟩, ⟨_, rfl, rfl⟩, ⟨_, rfl, rfl⟩, ⟨_, rfl, rfl⟩, ⟨_, rfl, rfl⟩, trivial⟩, ⟨⟨_, rfl, rfl, Nat.le_refl _, fun _ _ _ _ => rfl⟩, ⟨_, rfl, rfl, Nat.le_refl _, fun _ _ _ _ => rfl⟩, trivial⟩⟩ ?_
  intro v hv
  obtain ⟨hv1, hv2, hv3, hv4, hv5⟩ := hv
  refine AW.seq ?_
  refine AW.seq ?_
  refine AW.region ?_
  refine ARun.pure (PureOp.move rfl (.tmp rfl)) rfl rfl (Nat.le_of_ble_eq_true rfl) ?_
  refine ARun.pure (PureOp.move rfl (.tmp rfl)) rfl rfl (Nat.le_of_ble_eq_true rfl) ?_
  refine ARun.pure (PureOp.intOp rfl (.tmp rfl) (.tmp rfl) rfl) rfl rfl (Nat.le_of_ble_eq_true rfl) ?_
  refine ARun.nil ?_
  refine AW.cond (.tmp rfl) (fun hb5 => ?_) (fun hb5 => ?_)
  · have _u := True.intro
    obtain ⟨⟨hn1, hn2⟩, hl4⟩ : (1 ≤ x1.1 ∧ x1.1 ≤ 4) ∧ _ := ⟨hc4x, hc4l⟩
    replace hb5 := of_decide_eq_true hb5
    have hkl : v.l.length < x1.1 := by omega
    refine AW.skip ?_
    refine AW.seq ?_
    refine AW.block ?_
    refine AW.region ?_
    refine ARun.pure (PureOp.move rfl (.tmp rfl)) rfl rfl (Nat.le_of_ble_eq_true rfl) ?_
    refine ARun.pure (PureOp.move rfl (.tmp rfl)) rfl rfl (Nat.le_of_ble_eq_true rfl) ?_
    refine ARun.cur (id := 0) rfl (v_Pick n F hF v.p v.s (by omega) (by omega) 4 (by omega)) vd3_ca_58 ⟨.inr (.tmp rfl), .inl ⟨_, .int, .int⟩, trivial⟩ rfl rfl rfl (Nat.le_of_ble_eq_true rfl) (fun x6 p7 sd8 hc9 => ?_)
    obtain ⟨hc9x, hc9c⟩ := hc9
    obtain ⟨hc91, hc92, hc93⟩ := hc9c
    refine ARun.slice1 (id := 1) (z := (.int .i64 0)) (by_ := 8) rfl (.tmp rfl) trivial (by kernel_rfl) rfl rfl (by decide) (by decide) ⟨rfl, (by repeat first | exact trivial | refine ⟨by decide, by first | rfl | exact trivial | (intro i j; first | rfl | exact getD_no rfl | (dsimp only; split <;> first | rfl | exact getD_no rfl) | exact scl_no (by apply_assumption) _), ?_⟩)⟩ rfl rfl rfl (Nat.le_of_ble_eq_true rfl) ?_
    refine ARun.append (id := 2) (sz := 1) (n := v.l.length) (m := 1) (by_ := 8) (z := (.int .i64 0)) (f := inC v.l) (g := fun _ jc => ([.int .i64 (x6 : Int)] : List AV).getD jc (.con undef)) (h := fun ia ja => if ia < v.l.length then (inC v.l) ia ja else (fun _ jc => ([.int .i64 (x6 : Int)] : List AV).getD jc (.con undef)) (ia - v.l.length) ja) rfl (by kernel_rfl) rfl vd3_sl_30 (.own (.tmp rfl) rfl rfl rfl (Nat.le_refl _) (fun _ _ _ _ => rfl)) (.own (.tmp rfl) rfl rfl (Nat.le_refl _) (fun _ _ _ _ => rfl)) (by decide) (fun i j hi hj => match j, hj with | 0, _ => rfl | _ + 1, h => absurd h (by omega)) (fun _ _ _ _ => rfl) (by omega) (by omega) ⟨rfl, (by repeat first | exact trivial | refine ⟨by decide, by first | rfl | exact trivial | (intro i j; first | rfl | exact getD_no rfl | (dsimp only; split <;> first | rfl | exact getD_no rfl) | exact scl_no (by apply_assumption) _), ?_⟩)⟩ (fun i j => by dsimp only; (repeat' split) <;> first | rfl | exact getD_no rfl) rfl rfl (Nat.le_of_ble_eq_true rfl) ?_
    refine ARun.pure (PureOp.assign rfl (.tmp rfl)) rfl rfl (Nat.le_of_ble_eq_true rfl) ?_
    refine ARun.nil ?_
    refine AW.region ?_
    refine ARun.pure (PureOp.move rfl (.tmp rfl)) rfl rfl (Nat.le_of_ble_eq_true rfl) ?_
    refine ARun.pure (PureOp.add (c := ((v.l.length + 1 : Nat) : Int)) rfl (.tmp rfl) .int (by rw [wrap_id (by omega) (by omega)]; omega)) rfl rfl (Nat.le_of_ble_eq_true rfl) ?_
    refine ARun.pure (PureOp.assign rfl (.tmp rfl)) rfl rfl (Nat.le_of_ble_eq_true rfl) ?_
    refine ARun.nil ?_
    have hln : (v.l ++ [(x6 : Int)]).length = v.l.length + 1 := by rw [List.length_append]; rfl
    exact ⟨⟨(v.l ++ [(x6 : Int)]), p7, sd8⟩, (swp 900 2), ⟨by show (v.l ++ [(x6 : Int)]).length ≤ _; omega, by show p7 ≤ _ + 2 * (v.l ++ [(x6 : Int)]).length; omega, by show sd8 < _; omega, by show _ ≤ p7; omega, allRi_app hv5 ⟨by omega, by omega⟩⟩, by show x1.1 - (v.l ++ [(x6 : Int)]).length < x1.1 - v.l.length; omega, swp_inj, (swp_fix rfl rfl), ⟨⟨⟨_, rfl, rfl⟩, ⟨_, rfl, rfl⟩, ⟨_, rfl, rfl⟩, ⟨_, rfl, congrArg (fun z : Nat => SV.one (.own 2 1 z)) hln.symm⟩, ⟨_, rfl, congrArg (fun z : Nat => SV.one (.int .i64 (z : Int))) hln.symm⟩, trivial⟩, ⟨⟨_, rfl, rfl, Nat.le_refl _, fun _ _ _ _ => rfl⟩, ⟨_, rfl, rfl, Nat.le_of_eq hln, fun ia ja hi hj => in_app (hln ▸ hi) hj⟩, trivial⟩⟩⟩
  · have _u := True.intro
    obtain ⟨⟨hn1, hn2⟩, hl4⟩ : (1 ≤ x1.1 ∧ x1.1 ≤ 4) ∧ _ := ⟨hc4x, hc4l⟩
    replace hb5 := of_decide_eq_false hb5
    have hkl : ¬ v.l.length < x1.1 := by omega
    refine AW.exit ?_
    refine AW.seq ?_
    refine AW.region ?_
    refine ARun.pure (PureOp.move rfl (.tmp rfl)) rfl rfl (Nat.le_of_ble_eq_true rfl) ?_
    refine ARun.pure (PureOp.move rfl (.tmp rfl)) rfl rfl (Nat.le_of_ble_eq_true rfl) ?_
    refine ARun.pure (PureOp.move rfl (.tmp rfl)) rfl rfl (Nat.le_of_ble_eq_true rfl) ?_
    refine ARun.pure (PureOp.assign rfl (.tmp rfl)) rfl rfl (Nat.le_of_ble_eq_true rfl) ?_
    refine ARun.pure (PureOp.assign rfl (.tmp rfl)) rfl rfl (Nat.le_of_ble_eq_true rfl) ?_
    refine ARun.pure (PureOp.assign rfl (.tmp rfl)) rfl rfl (Nat.le_of_ble_eq_true rfl) ?_
    refine ARun.nil ?_
    exact AW.ret (show ∃ x s, _ ∧ ResL _ _ [.tmp 2, .tmp 3, .tmp 4] s ∧ FvS _ s _ from ⟨⟨x1.1, x1.2, v.l⟩, _, ⟨⟨hc4x, hc4l, hc4r⟩, by show v.l.length ≤ 4; omega, hv5⟩, .inr (.inr ⟨_, _, _, _, _, _, rfl, .tmp rfl, .tmp rfl, .tmp rfl, rfl⟩), ⟨.int, .frs, fv_in rfl rfl (Nat.le_refl _) rfl (fun _ _ _ _ => rfl)⟩⟩)

theorem v_DrawLessClock (n : Nat) (F : Nat → Nat) (hF : ∀ i, F i < 256) : FnE Try.prog 36 [.one (.lst 1 n (fun i _ => .int .u8 ((F i : Nat) : Int)))] (fun (x : List Int × List Int) => (x.1.length ≤ 4 ∧ allRi x.1) ∧ x.2.length ≤ 4 ∧ allRi x.2) (fun (x : List Int × List Int) => .tup2 (.one (intsD x.1)) (.one (intsD x.2))) := by
  refine FnE.of_body (fn := Try.f36) Try.func36 rfl (Nat.le_of_ble_eq_true rfl) ?_
  intro w0
  show AW _ 20 _ _ _ _
  refine AW.cv (t := 0) rfl (fun c0 => ?_)
  refine AW.seq ?_
  refine AW.region ?_
  refine ARun.pure (PureOp.assign rfl .con) rfl rfl (Nat.le_of_ble_eq_true rfl) ?_
  refine ARun.pure (PureOp.assign rfl .con) rfl rfl (Nat.le_of_ble_eq_true rfl) ?_
  refine ARun.nil ?_
  refine AW.seq ?_
  refine AW.region ?_
  refine ARun.pure (PureOp.move rfl (.tmp rfl)) rfl rfl (Nat.le_of_ble_eq_true rfl) ?_
  refine ARun.pure (PureOp.build (ys := [.cv c0 (.lst 1 n (fun i _ => .int .u8 ((F i : Nat) : Int)))]) (l := [.con (.slice none 0 0), .int .i64 0, .int .u64 0]) (pl := [(0, 1), (1, 1), (2, 1)]) (z := (.agg #[.slice none 0 0, .int .i64 0, .int .u64 0])) rfl (by kernel_rfl) (by kernel_rfl) (fun _ _ _ => ⟨_, _, rfl, rfl, ⟨_, _, rfl, rfl, ⟨_, _, rfl, rfl, rfl⟩⟩⟩) ⟨(.tmp rfl), trivial, rfl, trivial⟩ rfl) rfl rfl (Nat.le_of_ble_eq_true rfl) ?_
  refine ARun.box (id := 0) rfl (.tmp rfl) (SV.cells_of (by exact ⟨trivial, trivial, trivial, trivial⟩)) ⟨rfl, (by repeat first | exact trivial | refine ⟨by decide, by first | rfl | exact trivial | (intro i j; first | rfl | exact getD_no rfl | (dsimp only; split <;> first | rfl | exact getD_no rfl) | exact scl_no (by apply_assumption) _), ?_⟩)⟩ rfl rfl rfl (Nat.le_of_ble_eq_true rfl) ?_
  refine ARun.pure (PureOp.assign rfl (.tmp rfl)) rfl rfl (Nat.le_of_ble_eq_true rfl) ?_
  refine ARun.nil ?_
  refine AW.seq ?_
  refine AW.region ?_
  refine ARun.pure (PureOp.move rfl (.tmp rfl)) rfl rfl (Nat.le_of_ble_eq_true rfl) ?_
  refine ARun.cur (id := 0) rfl (v_Clock n F hF 0 0 (by omega) (by omega)) vd3_ca_61 ⟨.inr (.tmp rfl), trivial⟩ rfl rfl rfl (Nat.le_of_ble_eq_true rfl) (fun x1 p2 sd3 hc4 => ?_)
  obtain ⟨⟨hc4x, hc4r⟩, hc4c⟩ := hc4
  obtain ⟨hc41, hc42, hc43⟩ := hc4c
  refine ARun.pure (PureOp.assign rfl (.tmp rfl)) rfl rfl (Nat.le_of_ble_eq_true rfl) ?_
  refine ARun.nil ?_
  refine AW.seq ?_
  refine AW.seq ?_
  refine AW.region ?_
  refine ARun.pure (PureOp.move rfl (.tmp rfl)) rfl rfl (Nat.le_of_ble_eq_true rfl) ?_
  refine ARun.cur (id := 0) rfl (v_One n F hF p2 sd3 (by omega) (by omega) 4 (by omega)) vd3_ca_62 ⟨.inr (.tmp rfl), .inl ⟨_, .int, .int⟩, trivial⟩ rfl rfl rfl (Nat.le_of_ble_eq_true rfl) (fun x5 p6 sd7 hc8 => ?_)
  have hc8c := hc8
  obtain ⟨hc81, hc82, hc83⟩ := hc8c
  refine ARun.nil ?_
  refine AW.cond (.tmp rfl) (fun hb9 => ?_) (fun hb9 => ?_)
  · have _u := True.intro
    refine AW.seq ?_
    refine AW.region ?_
    refine ARun.pure (PureOp.move rfl (.tmp rfl)) rfl rfl (Nat.le_of_ble_eq_true rfl) ?_
    refine ARun.slice0 (id := 1) (z := (.int .i64 0)) (sz := 1) (by_ := 8) rfl (by kernel_rfl) (fun _ _ => .con undef) (fun _ _ => rfl) ⟨rfl, (by repeat first | exact trivial | refine ⟨by decide, by first | rfl | exact trivial | (intro i j; first | rfl | exact getD_no rfl | (dsimp only; split <;> first | rfl | exact getD_no rfl) | exact scl_no (by apply_assumption) _), ?_⟩)⟩ rfl rfl (Nat.le_of_ble_eq_true rfl) ?_
    refine ARun.pure (PureOp.move rfl (.tmp rfl)) rfl rfl (Nat.le_of_ble_eq_true rfl) ?_
    refine ARun.append (id := 2) (sz := 1) (n := 0) (m := x1.length) (by_ := 8) (z := (.int .i64 0)) (f := fun _ _ => .con undef) (g := inC x1) (h := fun ia ja => if ia < 0 then (fun _ _ => .con undef) ia ja else (inC x1) (ia - 0) ja) rfl (by kernel_rfl) rfl vd3_sl_30 (.own (.tmp rfl) rfl rfl rfl (Nat.le_refl _) (fun _ _ _ _ => rfl)) (.lst (.frs (.tmp rfl))) (by decide) (fun i j hi hj => match j, hj with | 0, _ => rfl | _ + 1, h => absurd h (by omega)) (fun _ _ _ _ => rfl) (by omega) (by omega) ⟨rfl, (by repeat first | exact trivial | refine ⟨by decide, by first | rfl | exact trivial | (intro i j; first | rfl | exact getD_no rfl | (dsimp only; split <;> first | rfl | exact getD_no rfl) | exact scl_no (by apply_assumption) _), ?_⟩)⟩ (fun i j => by dsimp only; (repeat' split) <;> first | rfl | exact getD_no rfl) rfl rfl (Nat.le_of_ble_eq_true rfl) ?_
    refine ARun.pure (PureOp.assign rfl (.tmp rfl)) rfl rfl (Nat.le_of_ble_eq_true rfl) ?_
    refine ARun.pure (PureOp.assign rfl (.tmp rfl)) rfl rfl (Nat.le_of_ble_eq_true rfl) ?_
    refine ARun.nil ?_
    exact AW.ret (show ∃ x s, _ ∧ ResL _ _ [.tmp 2, .tmp 3] s ∧ FvS _ s _ from ⟨⟨x1, x1⟩, _, ⟨⟨hc4x, hc4r⟩, hc4x, hc4r⟩, .inr (.inl ⟨_, _, _, _, rfl, .tmp rfl, .tmp rfl, rfl⟩), ⟨.frs, fv_in rfl rfl (Nat.le_of_eq (Nat.zero_add _).symm) (Nat.zero_add _) (fun i j _ _ => @if_neg (i < 0) _ (Nat.not_lt_zero i) AV (.con undef) (inC x1 i j))⟩⟩)
  · have _u := True.intro
    refine AW.skip ?_
    refine AW.seq ?_
    refine AW.region ?_
    refine ARun.pure (PureOp.move rfl (.tmp rfl)) rfl rfl (Nat.le_of_ble_eq_true rfl) ?_
    refine ARun.pure (PureOp.move rfl (.tmp rfl)) rfl rfl (Nat.le_of_ble_eq_true rfl) ?_
    refine ARun.cur (id := 0) rfl (v_Clock n F hF p6 sd7 (by omega) (by omega)) vd3_ca_61 ⟨.inr (.tmp rfl), trivial⟩ rfl rfl rfl (Nat.le_of_ble_eq_true rfl) (fun x10 p11 sd12 hc13 => ?_)
    obtain ⟨⟨hc13x, hc13r⟩, hc13c⟩ := hc13
    obtain ⟨hc131, hc132, hc133⟩ := hc13c
    refine ARun.pure (PureOp.assign rfl (.tmp rfl)) rfl rfl (Nat.le_of_ble_eq_true rfl) ?_
    refine ARun.pure (PureOp.assign rfl (.tmp rfl)) rfl rfl (Nat.le_of_ble_eq_true rfl) ?_
    refine ARun.nil ?_
    exact AW.ret (show ∃ x s, _ ∧ ResL _ _ [.tmp 2, .tmp 3] s ∧ FvS _ s _ from ⟨⟨x1, x10⟩, _, ⟨⟨hc4x, hc4r⟩, hc13x, hc13r⟩, .inr (.inl ⟨_, _, _, _, rfl, .tmp rfl, .tmp rfl, rfl⟩), ⟨.frs, .frs⟩⟩)

theorem v_DrawJoinCuts (n : Nat) (F : Nat → Nat) (hF : ∀ i, F i < 256) : FnE Try.prog 42 [.one (.lst 1 n (fun i _ => .int .u8 ((F i : Nat) : Int)))] (fun (x : List Int × List Int) => (x.1.length ≤ 4 ∧ allRi x.1) ∧ x.2.length ≤ 4 ∧ allRi x.2) (fun (x : List Int × List Int) => .tup2 (.one (intsD x.1)) (.one (intsD x.2))) := by
  refine FnE.of_body (fn := Try.f42) Try.func42 rfl (Nat.le_of_ble_eq_true rfl) ?_
  intro w0
  show AW _ 8 _ _ _ _
  refine AW.seq ?_
  refine AW.region ?_
  refine ARun.pure (PureOp.assign rfl .con) rfl rfl (Nat.le_of_ble_eq_true rfl) ?_
  refine ARun.pure (PureOp.assign rfl .con) rfl rfl (Nat.le_of_ble_eq_true rfl) ?_
  refine ARun.nil ?_
  refine AW.seq ?_
  refine AW.region ?_
  refine ARun.pure (PureOp.move rfl (.tmp rfl)) rfl rfl (Nat.le_of_ble_eq_true rfl) ?_
  refine ARun.draw rfl (v_DrawLessClock n F hF) vd3_ca_36 ⟨⟨_, (.tmp rfl), .lst⟩, trivial⟩ rfl rfl (Nat.le_of_ble_eq_true rfl) (fun x1 hd2 => ?_)
  refine ARun.pure (PureOp.ext2a rfl (.tmp rfl)) rfl rfl (Nat.le_of_ble_eq_true rfl) ?_
  refine ARun.pure (PureOp.ext2b rfl (.tmp rfl)) rfl rfl (Nat.le_of_ble_eq_true rfl) ?_
  refine ARun.pure (PureOp.assign rfl (.tmp rfl)) rfl rfl (Nat.le_of_ble_eq_true rfl) ?_
  refine ARun.pure (PureOp.assign rfl (.tmp rfl)) rfl rfl (Nat.le_of_ble_eq_true rfl) ?_
  refine ARun.nil ?_
  exact AW.ret (show ∃ x s, _ ∧ ResL _ _ [.tmp 2, .tmp 3] s ∧ FvS _ s _ from ⟨x1, _, hd2, .inr (.inl ⟨_, _, _, _, rfl, .tmp rfl, .tmp rfl, rfl⟩), ⟨.frs, .frs⟩⟩)
end Go.Proofs.Ytmkhahiefdcinaa

/-
  Contracts: l11Upto of the reference, isCutOf of the program.
-/
namespace Go.Proofs.Ytmkhahiefdcinaa
open Go.ChangeShapes Go.WideShapes Go.ChangeAt Go.RowKit Go.BigFrame
set_option linter.unusedVariables false


theorem l11Upto_any (N : Nat) (hN1 : 1 ≤ N) (hN2 : N ≤ 5) (l : List P2) (hev : ∀ i, i < l.length → evOk ((N : Int) - 1) l i) (hlen : l.length ≤ 40) (u : List Int) (w : World) (S : Nat → Prop) (hS : ∀ b, S b → b < w.heap.size) (A A' : Option Addr) (n c n' c' : Nat) (hl0 : RepL w S l A n c) (hl1 : RepL w S u A' n' c') :
    Calls Try.prog 53 #[.int .i64 N, .slice A n c, .slice A' n' c'] w fun x w' => x = .returned (.bool (uptoB N l u)) ∧ Below w.heap.size w w' := by
  obtain ⟨i0, hi, hz0, hz1, hz2⟩ := info_parts infoInt
  have hbd := hl0.bd
  have hbd' := hl1.bd
  obtain ⟨hn, -⟩ := id hl0
  obtain ⟨hn', -⟩ := id hl1
  have Hn := Lib.hid hn
  have Hn' := Lib.hid hn'
  have Hev := Lib.hid hev
  clear hn hn' hev
  by_cases hne : n' = N
  · have hd0 : ((n' : Int) != (N : Int)) = false := by simp [hne]
    have hmk : ∀ W, (Instr.makeSlice 30 (.int .i64 (N : Int)) (.int .i64 (N : Int))).run Try.prog W = .ok (.slice (some ⟨W.heap.size, 0, none⟩) N N) (W.alloc (.cells (madeCells #[.int .i64 0] N) 3)) := fun W => by
      have := run_make_rowN (P := Try.prog) 30 3 i0 _ Try.underlying30 hi hz0 .i64 .i64 N N (Nat.le_refl _) (by rw [hz2]; omega) (by omega) W
      rw [hz1, Nat.mul_one] at this
      exact this
    have Hne := Lib.hid hne
    clear hne
    go_enter Try.func53, Try.ntmps53
    go_wp2_with fail
    go_loopw [20] (fun i wr => ∃ k : Nat, k ≤ n ∧ i = .int .i64 k ∧ wr.ownsRow w.heap.size 3 1 (.slice (some ⟨w.heap.size, 0, none⟩) N N) N (encs (cntL N l k)) ∧ Below w.heap.size w wr) (fun i _ => n - (intOf i).toNat)
    case atStart => exact ⟨0, Nat.zero_le _, rfl, by rw [cntL_zero]; exact own_zeros w 3 N (by omega), (Below.refl _ _).alloc (Nat.le_refl _) _⟩
    case round =>
      obtain ⟨k, hk, rfl, hown, hbel⟩ := hrel
      by_cases hlt : k < n
      · have hl1' : k < l.length := by have := Hn.out; omega
        obtain ⟨b, off, xs, rfl, hSb, hc, rfl, hi1, hi2⟩ := hl0.at_ hl1'
        have hc0 := hc 0 _ rfl
        have hc1 := hc 1 _ rfl
        clear hc
        generalize hek : l[k] = ek at hc0 hc1 hi1 hi2
        obtain ⟨x, y⟩ := ek
        have hek' : l[k]? = some ⟨x, y⟩ := by rw [List.getElem?_eq_getElem hl1', hek]
        obtain ⟨hx1, hx2, -⟩ := Hev.out k hl1' _ hek'
        obtain ⟨j, rfl⟩ := Int.eq_ofNat_of_zero_le hx1
        have hj : j < N := by have : (j : Int) ≤ (N : Int) - 1 := hx2; omega
        have hc0' : wr.cell? ⟨b, off + k * 2, none⟩ = some (.int .i64 j) := (hbel.cell (hS _ hSb)).trans hc0
        have hc1' : wr.cell? ⟨b, off + k * 2 + 1, none⟩ = some (.int .i64 y) := (hbel.cell (hS _ hSb)).trans hc1
        have hcl := cnt_le l k j
        obtain ⟨q, hq⟩ : ∃ q, cnt l k j = q := ⟨_, rfl⟩
        have hownW := hown.alloc (.cells #[.int .i64 j, .int .i64 y] 64)
        have hu0 : (wr.alloc (.cells #[.int .i64 j, .int .i64 y] 64)).cell? ⟨w.heap.size, j, none⟩ = some (.int .i64 q) := by rw [hownW.cellAt j (by omega), getI _ _ _ (cntL_get l k hj), hq]
        have hf0 := hownW.frozenAt j
        have hww : IntKind.i64.wrap ((q : Int) + 1) = (q : Int) + 1 := by rw [IntKind.wrap_i64]; omega
        have hjI : (j : Int) < (N : Int) := by omega
        have Hs := Lib.hid (show cntL N l (k + 1) = (cntL N l k).set j ((q : Int) + 1) by rw [cntL_succ hek' hj, hq])
        have HO := Lib.hid hownW
        have Hb := Lib.hid (hbel.alloc hbel.size (.cells #[.int .i64 j, .int .i64 y] 64))
        clear hc0 hc1 hi1 hi2 hek hek' hx2 hq hcl hownW hown
        go_wp2_with fail
        go_roundw
        case rel => exact ⟨k + 1, by omega, by go_num, by rw [Hs.out, ← setI _ _ _ (by rw [cntL_len]; exact hj)]; exact (HO.out.stored j _).1, Hb.out.setCell (Nat.le_refl _) _⟩
        case measure => simp [intOf]; omega
      · obtain rfl : k = n := by omega
        obtain ⟨wa, hwa⟩ : ∃ x, x = wr := ⟨_, rfl⟩
        subst hwa
        have HO := Lib.hid (show wa.ownsRow w.heap.size 3 1 (.slice (some ⟨w.heap.size, 0, none⟩) N N) N (encs (cntL N l l.length)) by rw [← Hn.out]; exact hown)
        clear hown
        go_wp2_with fail
        go_loopw [34] (fun i wr => ∃ q : Nat, q ≤ n' ∧ i = .int .i64 q ∧ (∀ i, i < q → uptOk l u i) ∧ Below wa.heap.size wa wr) (fun i _ => n' - (intOf i).toNat)
        case atStart => exact ⟨0, Nat.zero_le _, rfl, fun i hi => absurd hi (by omega), Below.refl _ _⟩
        case round =>
          obtain ⟨q, hq, rfl, hpre, hbel2⟩ := hrel
          have Hpre := Lib.hid hpre
          clear hpre
          have hbel3 := bnext hbel hbel2
          by_cases hlt2 : q < n'
          · have hq1 : q < u.length := by have := Hn'.out; omega
            have hqN : q < N := by have := Hne.out; omega
            obtain ⟨bb, off', rfl, hSb', hc', hi1'⟩ := hl1.at1 rfl hq1
            have hd1 : wr.cell? ⟨bb, off' + q, none⟩ = some (.int .i64 u[q]) := (hbel3.cell (hS _ hSb')).trans (hc' _ rfl)
            have hown2 := own_below HO.out hbel2
            have hu0 : wr.cell? ⟨w.heap.size, q, none⟩ = some (.int .i64 (cnt l l.length q : Int)) := by rw [hown2.cellAt q (by omega)]; exact getI _ _ _ (cntL_get l _ hqN)
            have Hu := Lib.hid (show u[q]? = some u[q] from List.getElem?_eq_getElem hq1)
            have hqNI : (q : Int) < (N : Int) := by omega
            clear hc' hi1' hown2
            by_cases hA : 0 ≤ u[q] ∧ u[q] ≤ (cnt l l.length q : Int)
            · have Hd := Lib.hid (decide_eq_true hA)
              go_wp2_with fail
              refine (l1In_any _ _ _ _ Hd.out _).mono ?_
              rintro e w3 ⟨rfl, b3⟩
              go_wp2_with fail
              go_roundw
              case rel => exact ⟨q + 1, by omega, by go_num, uptOk_succ Hpre.out Hu.out hA, bnext hbel2 b3⟩
              case measure => simp [intOf]; omega
            · have Hd := Lib.hid (decide_eq_false hA)
              have HA := Lib.hid hA
              clear hA
              go_wp2_with fail
              refine (l1In_any _ _ _ _ Hd.out _).mono ?_
              rintro e w3 ⟨rfl, b3⟩
              go_wp2_with fail
              go_ret
              exact ⟨by rw [uptoB_bad Hu.out HA.out]; rfl, bnext hbel3 b3⟩
          · obtain rfl : q = n' := by omega
            go_wp2_with fail
            go_ret
            exact ⟨by rw [uptoB_yes (by rw [← Hn'.out]; exact Hne.out) Hn'.out Hpre.out]; rfl, hbel3⟩
  · have hd0 : ((n' : Int) != (N : Int)) = true := by simp; omega
    have Hne := Lib.hid (show uptoB N l u = false from uptoB_len (by have := Hn'.out; omega))
    go_enter Try.func53, Try.ntmps53
    go_wp2_with fail
    go_ret
    exact ⟨by rw [Hne.out]; rfl, Below.refl _ _⟩

theorem isCutOf_any (N : Nat) (hN1 : 1 ≤ N) (hN2 : N ≤ 5) (l : List P2) (hev : ∀ i, i < l.length → evOk ((N : Int) - 1) l i) (hlen : l.length ≤ 40) (u : List Int) (w : World) (S : Nat → Prop) (hS : ∀ b, S b → b < w.heap.size) (A A' : Option Addr) (n c n' c' : Nat) (hl0 : RepL w S l A n c) (hl1 : RepL w S u A' n' c') :
    Calls Try.prog 55 #[.int .i64 N, .slice A n c, .slice A' n' c'] w fun x w' => x = .returned (.bool (uptoB N l u)) ∧ Below w.heap.size w w' := by
  obtain ⟨i0, hi, hz0, hz1, hz2⟩ := info_parts infoInt
  have hbd := hl0.bd
  have hbd' := hl1.bd
  obtain ⟨hn, -⟩ := id hl0
  obtain ⟨hn', -⟩ := id hl1
  have Hn := Lib.hid hn
  have Hn' := Lib.hid hn'
  have Hev := Lib.hid hev
  clear hn hn' hev
  by_cases hne : n' = N
  · have hd0 : ((n' : Int) != (N : Int)) = false := by simp [hne]
    have hmk : ∀ W, (Instr.makeSlice 30 (.int .i64 (N : Int)) (.int .i64 (N : Int))).run Try.prog W = .ok (.slice (some ⟨W.heap.size, 0, none⟩) N N) (W.alloc (.cells (madeCells #[.int .i64 0] N) 3)) := fun W => by
      have := run_make_rowN (P := Try.prog) 30 3 i0 _ Try.underlying30 hi hz0 .i64 .i64 N N (Nat.le_refl _) (by rw [hz2]; omega) (by omega) W
      rw [hz1, Nat.mul_one] at this
      exact this
    have Hne := Lib.hid hne
    clear hne
    go_enter Try.func55, Try.ntmps55
    go_wp2_with fail
    go_loopw [20] (fun i wr => ∃ k : Nat, k ≤ n ∧ i = .int .i64 k ∧ wr.ownsRow w.heap.size 3 1 (.slice (some ⟨w.heap.size, 0, none⟩) N N) N (encs (cntL N l k)) ∧ Below w.heap.size w wr) (fun i _ => n - (intOf i).toNat)
    case atStart => exact ⟨0, Nat.zero_le _, rfl, by rw [cntL_zero]; exact own_zeros w 3 N (by omega), (Below.refl _ _).alloc (Nat.le_refl _) _⟩
    case round =>
      obtain ⟨k, hk, rfl, hown, hbel⟩ := hrel
      by_cases hlt : k < n
      · have hl1' : k < l.length := by have := Hn.out; omega
        obtain ⟨b, off, xs, rfl, hSb, hc, rfl, hi1, hi2⟩ := hl0.at_ hl1'
        have hc0 := hc 0 _ rfl
        have hc1 := hc 1 _ rfl
        clear hc
        generalize hek : l[k] = ek at hc0 hc1 hi1 hi2
        obtain ⟨x, y⟩ := ek
        have hek' : l[k]? = some ⟨x, y⟩ := by rw [List.getElem?_eq_getElem hl1', hek]
        obtain ⟨hx1, hx2, -⟩ := Hev.out k hl1' _ hek'
        obtain ⟨j, rfl⟩ := Int.eq_ofNat_of_zero_le hx1
        have hj : j < N := by have : (j : Int) ≤ (N : Int) - 1 := hx2; omega
        have hc0' : wr.cell? ⟨b, off + k * 2, none⟩ = some (.int .i64 j) := (hbel.cell (hS _ hSb)).trans hc0
        have hc1' : wr.cell? ⟨b, off + k * 2 + 1, none⟩ = some (.int .i64 y) := (hbel.cell (hS _ hSb)).trans hc1
        have hcl := cnt_le l k j
        obtain ⟨q, hq⟩ : ∃ q, cnt l k j = q := ⟨_, rfl⟩
        have hownW := hown.alloc (.cells #[.int .i64 j, .int .i64 y] 64)
        have hu0 : (wr.alloc (.cells #[.int .i64 j, .int .i64 y] 64)).cell? ⟨w.heap.size, j, none⟩ = some (.int .i64 q) := by rw [hownW.cellAt j (by omega), getI _ _ _ (cntL_get l k hj), hq]
        have hf0 := hownW.frozenAt j
        have hww : IntKind.i64.wrap ((q : Int) + 1) = (q : Int) + 1 := by rw [IntKind.wrap_i64]; omega
        have hjI : (j : Int) < (N : Int) := by omega
        have Hs := Lib.hid (show cntL N l (k + 1) = (cntL N l k).set j ((q : Int) + 1) by rw [cntL_succ hek' hj, hq])
        have HO := Lib.hid hownW
        have Hb := Lib.hid (hbel.alloc hbel.size (.cells #[.int .i64 j, .int .i64 y] 64))
        clear hc0 hc1 hi1 hi2 hek hek' hx2 hq hcl hownW hown
        go_wp2_with fail
        go_roundw
        case rel => exact ⟨k + 1, by omega, by go_num, by rw [Hs.out, ← setI _ _ _ (by rw [cntL_len]; exact hj)]; exact (HO.out.stored j _).1, Hb.out.setCell (Nat.le_refl _) _⟩
        case measure => simp [intOf]; omega
      · obtain rfl : k = n := by omega
        obtain ⟨wa, hwa⟩ : ∃ x, x = wr := ⟨_, rfl⟩
        subst hwa
        have HO := Lib.hid (show wa.ownsRow w.heap.size 3 1 (.slice (some ⟨w.heap.size, 0, none⟩) N N) N (encs (cntL N l l.length)) by rw [← Hn.out]; exact hown)
        clear hown
        go_wp2_with fail
        go_loopw [34] (fun i wr => ∃ q : Nat, q ≤ n' ∧ i = .int .i64 q ∧ (∀ i, i < q → uptOk l u i) ∧ Below wa.heap.size wa wr) (fun i _ => n' - (intOf i).toNat)
        case atStart => exact ⟨0, Nat.zero_le _, rfl, fun i hi => absurd hi (by omega), Below.refl _ _⟩
        case round =>
          obtain ⟨q, hq, rfl, hpre, hbel2⟩ := hrel
          have Hpre := Lib.hid hpre
          clear hpre
          have hbel3 := bnext hbel hbel2
          by_cases hlt2 : q < n'
          · have hq1 : q < u.length := by have := Hn'.out; omega
            have hqN : q < N := by have := Hne.out; omega
            obtain ⟨bb, off', rfl, hSb', hc', hi1'⟩ := hl1.at1 rfl hq1
            have hd1 : wr.cell? ⟨bb, off' + q, none⟩ = some (.int .i64 u[q]) := (hbel3.cell (hS _ hSb')).trans (hc' _ rfl)
            have hown2 := own_below HO.out hbel2
            have hu0 : wr.cell? ⟨w.heap.size, q, none⟩ = some (.int .i64 (cnt l l.length q : Int)) := by rw [hown2.cellAt q (by omega)]; exact getI _ _ _ (cntL_get l _ hqN)
            have Hu := Lib.hid (show u[q]? = some u[q] from List.getElem?_eq_getElem hq1)
            have hqNI : (q : Int) < (N : Int) := by omega
            clear hc' hi1' hown2
            by_cases hA : 0 ≤ u[q] ∧ u[q] ≤ (cnt l l.length q : Int)
            · have Hd := Lib.hid (decide_eq_true hA)
              go_wp2_with fail
              refine (within_any _ _ _ _ Hd.out _).mono ?_
              rintro e w3 ⟨rfl, b3⟩
              go_wp2_with fail
              go_roundw
              case rel => exact ⟨q + 1, by omega, by go_num, uptOk_succ Hpre.out Hu.out hA, bnext hbel2 b3⟩
              case measure => simp [intOf]; omega
            · have Hd := Lib.hid (decide_eq_false hA)
              have HA := Lib.hid hA
              clear hA
              go_wp2_with fail
              refine (within_any _ _ _ _ Hd.out _).mono ?_
              rintro e w3 ⟨rfl, b3⟩
              go_wp2_with fail
              go_ret
              exact ⟨by rw [uptoB_bad Hu.out HA.out]; rfl, bnext hbel3 b3⟩
          · obtain rfl : q = n' := by omega
            go_wp2_with fail
            go_ret
            exact ⟨by rw [uptoB_yes (by rw [← Hn'.out]; exact Hne.out) Hn'.out Hpre.out]; rfl, hbel3⟩
  · have hd0 : ((n' : Int) != (N : Int)) = true := by simp; omega
    have Hne := Lib.hid (show uptoB N l u = false from uptoB_len (by have := Hn'.out; omega))
    go_enter Try.func55, Try.ntmps55
    go_wp2_with fail
    go_ret
    exact ⟨by rw [Hne.out]; rfl, Below.refl _ _⟩

end Go.Proofs.Ytmkhahiefdcinaa

/-
  Contract: IsCut of the reference.
-/
namespace Go.Proofs.Ytmkhahiefdcinaa
open Go.ChangeShapes Go.WideShapes Go.ChangeAt Go.RowKit Go.BigFrame
set_option linter.unusedVariables false

set_option maxHeartbeats 4000000

/-- Event i lies inside the cut. -/
def inV (l : List P2) (u : List Int) (i : Nat) : Bool := match l[i]? with | some e => decide (atV l i ≤ u.getD e.a.toNat 0) | none => false
/-- Event k lies inside, the event that it came from does not. -/
def cutBad (l : List P2) (u : List Int) (k : Nat) : Bool := match l[k]? with | some e => inV l u k && (decide (0 ≤ e.b) && !inV l u e.b.toNat) | none => false
def cutGood (l : List P2) (u : List Int) : Bool := (List.range l.length).all fun k => !cutBad l u k
/-- What IsCut asks. -/
noncomputable def cutOk (nodes : Int) (l : List P2) (u : List Int) : Bool := goodEv nodes l && uptoB nodes.toNat l u
theorem inV_eq {l : List P2} {u : List Int} {i j : Nat} {y x : Int} {r : Bool} (h : l[i]? = some ⟨j, y⟩) (hu : u[j]? = some x) (hr : decide (atV l i ≤ x) = r) : inV l u i = r := by
  unfold inV
  rw [h]
  show decide (atV l i ≤ u.getD (j : Int).toNat 0) = r
  rw [Int.toNat_natCast, List.getD_eq_getElem?_getD, hu]
  exact hr
theorem cutBad_out {l : List P2} {u : List Int} {k : Nat} {e : P2} (h : l[k]? = some e) (hk : inV l u k = false) : cutBad l u k = false := by
  unfold cutBad
  rw [h]
  simp [hk]
theorem cutBad_none {l : List P2} {u : List Int} {k : Nat} {x y : Int} (h : l[k]? = some ⟨x, y⟩) (hy : ¬ 0 ≤ y) : cutBad l u k = false := by
  unfold cutBad
  rw [h]
  simp [hy]
theorem cutBad_eq {l : List P2} {u : List Int} {k f : Nat} {x : Int} {r : Bool} (h : l[k]? = some ⟨x, f⟩) (hk : inV l u k = true) (hf : inV l u f = r) : cutBad l u k = !r := by
  unfold cutBad
  rw [h]
  simp [hk, hf]
theorem cutGood_yes {l : List P2} {u : List Int} {n : Nat} (hn : n = l.length) (h : ∀ i, i < n → cutBad l u i = false) : cutGood l u = true := by
  subst hn
  unfold cutGood
  rw [List.all_eq_true]
  intro i hi
  rw [h i (List.mem_range.1 hi)]
  rfl
theorem cutGood_no {l : List P2} {u : List Int} {k : Nat} (hk : k < l.length) (h : cutBad l u k = true) : cutGood l u = false := by
  unfold cutGood
  rw [← Bool.not_eq_true, List.all_eq_true]
  intro h'
  have := h' k (List.mem_range.2 hk)
  rw [h] at this
  cases this
theorem bad_succ {l : List P2} {u : List Int} {k : Nat} (h : ∀ i, i < k → cutBad l u i = false) (hk : cutBad l u k = false) : ∀ i, i < k + 1 → cutBad l u i = false := by
  intro i hi
  by_cases e : i = k
  · rw [e]; exact hk
  · exact h i (by omega)
open Classical in
theorem uptoB_get {N : Nat} {l : List P2} {u : List Int} (h : uptoB N l u = true) : u.length = N := by
  unfold uptoB at h
  exact (of_decide_eq_true h).1

theorem spec_IsCut_any (nodes : Int) (hnodes : I64 nodes) (l : List P2) (u : List Int) (w : World) (S : Nat → Prop) (hS : ∀ b, S b → b < w.heap.size) (A A' : Option Addr) (n c n' c' : Nat) (hl0 : RepL w S l A n c) (hl1 : RepL w S u A' n' c') :
    Calls Try.prog 21 #[.int .i64 nodes, .slice A n c, .slice A' n' c'] w fun x w' => x = .returned (.tuple #[.bool (cutOk nodes l u && cutGood l u), .bool (cutOk nodes l u)]) ∧ Below w.heap.size w w' := by
  have hbd := hl0.bd
  have hbd' := hl1.bd
  obtain ⟨hn, -⟩ := id hl0
  obtain ⟨hn', -⟩ := id hl1
  obtain ⟨r0, hr0⟩ : ∃ r, goodEv nodes l = r := ⟨_, rfl⟩
  have Hn := Lib.hid hn
  have Hn' := Lib.hid hn'
  have R0 := Lib.hid hr0
  clear hn hn' hr0
  cases r0 with
  | false =>
    have Hok := Lib.hid (show cutOk nodes l u = false by unfold cutOk; rw [R0.out]; rfl)
    go_enter Try.func21, Try.ntmps21
    go_wp2_with fail
    refine (spec_GoodEvents_any nodes hnodes l w S hS A n c hl0).mono ?_
    rintro e w1 ⟨rfl, b1⟩
    rw [R0.out]
    go_wp2_with fail
    go_ret2
    exact ⟨by rw [Hok.out]; rfl, b1⟩
  | true =>
    obtain ⟨hg1, hg2, hg3, hg4⟩ := goodEv_get R0.out
    obtain ⟨N, rfl⟩ := Int.eq_ofNat_of_zero_le (show 0 ≤ nodes by omega)
    have Hev := Lib.hid hg4
    have hN1 : 1 ≤ N := by omega
    have hN2 : N ≤ 5 := by omega
    have hn40 : n ≤ 40 := by have := Hn.out; omega
    clear hg4
    obtain ⟨r1, hr1⟩ : ∃ r, uptoB N l u = r := ⟨_, rfl⟩
    have R1 := Lib.hid hr1
    clear hr1
    have Hok0 := Lib.hid (show cutOk (N : Int) l u = r1 by unfold cutOk; rw [R0.out, Int.toNat_natCast, R1.out]; rfl)
    cases r1 with
    | false =>
      go_enter Try.func21, Try.ntmps21
      go_wp2_with fail
      refine (spec_GoodEvents_any (N : Int) hnodes l w S hS A n c hl0).mono ?_
      rintro e w1 ⟨rfl, b1⟩
      rw [R0.out]
      go_wp2_with fail
      refine (l11Upto_any N hN1 hN2 l Hev.out hg3 u w1 S (fun x hx => Nat.lt_of_lt_of_le (hS x hx) b1.size) A A' n c n' c' (hl0.keep (fun p hp => b1.cell (hS _ hp))) (hl1.keep (fun p hp => b1.cell (hS _ hp)))).mono ?_
      rintro e w2 ⟨rfl, b2⟩
      have B2 := bnext b1 b2
      rw [R1.out]
      go_wp2_with fail
      go_ret2
      exact ⟨by rw [Hok0.out]; rfl, B2⟩
    | true =>
      have HuN := Lib.hid (uptoB_get R1.out)
      go_enter Try.func21, Try.ntmps21
      go_wp2_with fail
      refine (spec_GoodEvents_any (N : Int) hnodes l w S hS A n c hl0).mono ?_
      rintro e w1 ⟨rfl, b1⟩
      rw [R0.out]
      go_wp2_with fail
      refine (l11Upto_any N hN1 hN2 l Hev.out hg3 u w1 S (fun x hx => Nat.lt_of_lt_of_le (hS x hx) b1.size) A A' n c n' c' (hl0.keep (fun p hp => b1.cell (hS _ hp))) (hl1.keep (fun p hp => b1.cell (hS _ hp)))).mono ?_
      rintro e w2 ⟨rfl, b2⟩
      have B2 := bnext b1 b2
      rw [R1.out]
      go_wp2_with fail
      refine (l11At_any N hN1 hN2 l Hev.out hg3 w2 S (fun x hx => Nat.lt_of_lt_of_le (hS x hx) B2.size) A n c (hl0.keep (fun p hp => B2.cell (hS _ hp)))).mono ?_
      rintro e w3 ⟨A2, c2, rfl, hat, b3⟩
      have B3 := bnext B2 b3
      have hbdA := hat.bd
      have Hat := Lib.hid hat
      clear hat
      go_wp2_with fail
      go_loopw [27] (fun i wr => ∃ k : Nat, k ≤ n ∧ i = .int .i64 k ∧ (∀ i, i < k → cutBad l u i = false) ∧ Below w3.heap.size w3 wr) (fun i _ => n - (intOf i).toNat)
      case atStart => exact ⟨0, Nat.zero_le _, rfl, fun i hi => absurd hi (by omega), Below.refl _ _⟩
      case round =>
        obtain ⟨k, hk, rfl, hpre, hbel0⟩ := hrel
        have hbel := bnext B3 hbel0
        have Hpre := Lib.hid hpre
        clear hpre
        by_cases hlt : k < n
        · have hl1' : k < l.length := by have := Hn.out; omega
          obtain ⟨b, off, xs, rfl, hSb, hc, rfl, hi1, hi2⟩ := hl0.at_ hl1'
          have hc0 := hc 0 _ rfl
          have hc1 := hc 1 _ rfl
          clear hc
          generalize hek : l[k] = ek at hc0 hc1 hi1 hi2
          obtain ⟨x, y⟩ := ek
          have hek' : l[k]? = some ⟨x, y⟩ := by rw [List.getElem?_eq_getElem hl1', hek]
          obtain ⟨hx1, hx2, hy1, hy2, hy3⟩ := Hev.out k hl1' _ hek'
          obtain ⟨j, rfl⟩ := Int.eq_ofNat_of_zero_le hx1
          have hjN : j < N := by have : (j : Int) ≤ (N : Int) - 1 := hx2; omega
          have hj : j < u.length := by have := HuN.out; omega
          have Hek := Lib.hid hek'
          have hc0' : wr.cell? ⟨b, off + k * 2, none⟩ = some (.int .i64 j) := (hbel.cell (hS _ hSb)).trans hc0
          have hc1' : wr.cell? ⟨b, off + k * 2 + 1, none⟩ = some (.int .i64 y) := (hbel.cell (hS _ hSb)).trans hc1
          obtain ⟨W, hW⟩ : ∃ W, W = wr.alloc (.cells #[.int .i64 j, .int .i64 y] 64) := ⟨_, rfl⟩
          have hbW0 : Below w3.heap.size w3 W := by subst hW; exact hbel0.alloc hbel0.size _
          have hbW := bnext B3 hbW0
          have f0 : ∀ p : Aft W, p.world.cell? ⟨wr.heap.size, 0, none⟩ = some (.int .i64 j) := Aft.cell (by subst hW; simp)
          have f1 : ∀ p : Aft W, p.world.cell? ⟨wr.heap.size, 1, none⟩ = some (.int .i64 y) := Aft.cell (by subst hW; simp)
          have HW := Lib.hid hW
          -- the event's number at its node
          have hka : k < (atL l l.length).length := by rw [atL_len]; exact hl1'
          obtain ⟨ba, offa, rfl, hSa, hca, -⟩ := Hat.out.at1 rfl hka
          obtain ⟨va, hva⟩ : ∃ v, atV l k = v := ⟨_, rfl⟩
          have hgk : (atL l l.length)[k] = va := by
            have := atL_get l (k := l.length) hl1'
            rw [List.getElem?_eq_getElem hka] at this
            rw [← hva]
            exact Option.some.inj this
          have f2 : ∀ p : Aft W, p.world.cell? ⟨ba, offa + k, none⟩ = some (.int .i64 va) := Aft.cell ((hbW0.cell hSa.2).trans (by rw [hca _ rfl, hgk]))
          obtain ⟨bu, offu, rfl, hSu, hcu, -⟩ := hl1.at1 rfl hj
          obtain ⟨ux, hux⟩ : ∃ v, u[j] = v := ⟨_, rfl⟩
          have f3 : ∀ p : Aft W, p.world.cell? ⟨bu, offu + j, none⟩ = some (.int .i64 ux) := Aft.cell ((hbW.cell (hS _ hSu)).trans (by rw [hcu _ rfl, hux]))
          have Hux := Lib.hid (show u[j]? = some ux by rw [List.getElem?_eq_getElem hj, hux])
          have Hva := Lib.hid hva
          have hkI : (k : Int) < (n : Int) := by omega
          have hk0 : (0 : Int) ≤ (k : Int) := by omega
          have hjI : (j : Int) < (n' : Int) := by have := Hn'.out; omega
          have hj0 : (0 : Int) ≤ (j : Int) := by omega
          have Hy1 := Lib.hid hy1
          have Hy2 := Lib.hid (show y ≤ (k : Int) - 1 from hy2)
          clear hc0 hc1 hi1 hi2 hek hek' hx1 hx2 hy1 hy2 hy3 hW hgk hca hcu hux hva
          by_cases hA : va ≤ ux
          · have Hin := Lib.hid (show inV l u k = true from inV_eq Hek.out Hux.out (by rw [Hva.out]; exact decide_eq_true hA))
            have dA : decide (va ≤ ux) = true := decide_eq_true hA
            by_cases hC : 0 ≤ y
            · obtain ⟨f, rfl⟩ := Int.eq_ofNat_of_zero_le hC
              have hfk : f < k := by have := Hy2.out; omega
              have hfl : f < l.length := by omega
              obtain ⟨b', off', xs', e, hSb', hc, rfl, -, -⟩ := hl0.at_ hfl
              obtain ⟨rfl, rfl⟩ : b = b' ∧ off = off' := by simpa using e
              have hc0 := hc 0 _ rfl
              clear hc e
              generalize hef : l[f] = ef at hc0
              obtain ⟨fx, fy⟩ := ef
              have hef' : l[f]? = some ⟨fx, fy⟩ := by rw [List.getElem?_eq_getElem hfl, hef]
              obtain ⟨hfx1, hfx2, -⟩ := Hev.out f hfl _ hef'
              obtain ⟨fj, rfl⟩ := Int.eq_ofNat_of_zero_le hfx1
              have hfjN : fj < N := by have : (fj : Int) ≤ (N : Int) - 1 := hfx2; omega
              have hfj : fj < u.length := by have := HuN.out; omega
              have Hef := Lib.hid hef'
              have f4 : ∀ p : Aft W, p.world.cell? ⟨b, off + f * 2, none⟩ = some (.int .i64 fj) := Aft.cell ((hbW.cell (hS _ hSb)).trans hc0)
              have hfa : f < (atL l l.length).length := by rw [atL_len]; exact hfl
              obtain ⟨ba', offa', e, hSa', hca, -⟩ := Hat.out.at1 rfl hfa
              obtain ⟨rfl, rfl⟩ : ba = ba' ∧ offa = offa' := by simpa using e
              obtain ⟨vf, hvf⟩ : ∃ v, atV l f = v := ⟨_, rfl⟩
              have hgf : (atL l l.length)[f] = vf := by
                have := atL_get l (k := l.length) hfl
                rw [List.getElem?_eq_getElem hfa] at this
                rw [← hvf]
                exact Option.some.inj this
              have f5 : ∀ p : Aft W, p.world.cell? ⟨ba, offa + f, none⟩ = some (.int .i64 vf) := Aft.cell ((hbW0.cell hSa.2).trans (by rw [hca _ rfl, hgf]))
              obtain ⟨bu', offu', e', hSu', hcu, -⟩ := hl1.at1 rfl hfj
              obtain ⟨rfl, rfl⟩ : bu = bu' ∧ offu = offu' := by simpa using e'
              obtain ⟨uf, huf⟩ : ∃ v, u[fj] = v := ⟨_, rfl⟩
              have f6 : ∀ p : Aft W, p.world.cell? ⟨bu, offu + fj, none⟩ = some (.int .i64 uf) := Aft.cell ((hbW.cell (hS _ hSu)).trans (by rw [hcu _ rfl, huf]))
              have Huf := Lib.hid (show u[fj]? = some uf by rw [List.getElem?_eq_getElem hfj, huf])
              have Hvf := Lib.hid hvf
              have hfI : (f : Int) < (n : Int) := by omega
              have hf0 : (0 : Int) ≤ (f : Int) := by omega
              have dC : decide ((0 : Int) ≤ (f : Int)) = true := decide_eq_true hf0
              have hfjI : (fj : Int) < (n' : Int) := by have := Hn'.out; omega
              have hfj0 : (0 : Int) ≤ (fj : Int) := by omega
              clear hc0 hef hef' hfx1 hfx2 hgf hca hcu huf hvf e e'
              by_cases hD : uf < vf
              · have Hbad := Lib.hid (cutBad_eq Hek.out Hin.out (show inV l u f = false from inV_eq Hef.out Huf.out (by rw [Hvf.out]; exact decide_eq_false (by omega))))
                have dD : decide (uf < vf) = true := decide_eq_true hD
                go_wp2_with fail
                rw [← HW.out]
                refine wp_region_aft (by kernel_rfl) (by kernel_rfl) ?_
                repeat (go_big_quiet_step (fail))
                refine wpQuiet_nil ?_
                rintro _ ⟨p, rfl⟩
                have hb2 : Below w.heap.size w p.world := hbW.trans (p.below.mono hbW.size)
                go_wp2
                go_ret2
                exact ⟨by rw [Hok0.out, cutGood_no hl1' Hbad.out]; rfl, hb2⟩
              · have Hbad := Lib.hid (cutBad_eq Hek.out Hin.out (show inV l u f = true from inV_eq Hef.out Huf.out (by rw [Hvf.out]; exact decide_eq_true (by omega))))
                have dD : decide (uf < vf) = false := decide_eq_false hD
                go_wp2_with fail
                rw [← HW.out]
                refine wp_region_aft (by kernel_rfl) (by kernel_rfl) ?_
                repeat (go_big_quiet_step (fail))
                refine wpQuiet_nil ?_
                rintro _ ⟨p, rfl⟩
                have hb2 : Below w3.heap.size w3 p.world := hbW0.trans (p.below.mono hbW0.size)
                go_wp2
                go_roundw
                case rel => exact ⟨k + 1, by omega, by go_num, bad_succ Hpre.out Hbad.out, hb2⟩
                case measure => simp [intOf]; omega
            · have dC : decide (0 ≤ y) = false := decide_eq_false hC
              have Hbad := Lib.hid (cutBad_none (u := u) Hek.out hC)
              go_wp2_with fail
              rw [← HW.out]
              refine wp_region_aft (by kernel_rfl) (by kernel_rfl) ?_
              repeat (go_big_quiet_step (fail))
              refine wpQuiet_nil ?_
              rintro _ ⟨p, rfl⟩
              have hb2 : Below w3.heap.size w3 p.world := hbW0.trans (p.below.mono hbW0.size)
              go_wp2
              go_roundw
              case rel => exact ⟨k + 1, by omega, by go_num, bad_succ Hpre.out Hbad.out, hb2⟩
              case measure => simp [intOf]; omega
          · have Hin := Lib.hid (show inV l u k = false from inV_eq Hek.out Hux.out (by rw [Hva.out]; exact decide_eq_false hA))
            have dA : decide (va ≤ ux) = false := decide_eq_false hA
            have Hbad := Lib.hid (cutBad_out Hek.out Hin.out)
            go_wp2_with fail
            rw [← HW.out]
            refine wp_region_aft (by kernel_rfl) (by kernel_rfl) ?_
            repeat (go_big_quiet_step (fail))
            refine wpQuiet_nil ?_
            rintro _ ⟨p, rfl⟩
            have hb2 : Below w3.heap.size w3 p.world := hbW0.trans (p.below.mono hbW0.size)
            go_wp2
            go_roundw
            case rel => exact ⟨k + 1, by omega, by go_num, bad_succ Hpre.out Hbad.out, hb2⟩
            case measure => simp [intOf]; omega
        · obtain rfl : k = n := by omega
          go_wp2_with fail
          go_ret2
          exact ⟨by rw [Hok0.out, cutGood_yes Hn.out Hpre.out]; rfl, hbel⟩

end Go.Proofs.Ytmkhahiefdcinaa

/-
  Contract: IsCut of the program.
-/
namespace Go.Proofs.Ytmkhahiefdcinaa
open Go.ChangeShapes Go.WideShapes Go.ChangeAt Go.RowKit Go.BigFrame
set_option linter.unusedVariables false

set_option maxHeartbeats 4000000

theorem infoBool : (Try.prog.info? 4).map (fun i => (i.zero, i.size, i.bytes)) = some (some (.bool false), 1, 1) := by kernel_rfl
/-- The first k events' places, inside or not. -/
def insTo (l : List P2) (u : List Int) (n k : Nat) : List Bool := (List.range n).map fun i => if i < k then inV l u i else false
theorem insTo_len (l : List P2) (u : List Int) (n k : Nat) : (insTo l u n k).length = n := by simp [insTo]
theorem insTo_zero (l : List P2) (u : List Int) (n : Nat) : insTo l u n 0 = List.replicate n false := by
  apply List.ext_getElem (by simp [insTo])
  intro i h1 h2
  simp [insTo]
theorem insTo_get {l : List P2} {u : List Int} {n k i : Nat} (hi : i < n) : (insTo l u n k)[i]? = some (if i < k then inV l u i else false) := by simp [insTo, hi]
theorem insTo_succ (l : List P2) (u : List Int) (n k : Nat) : insTo l u n (k + 1) = (insTo l u n k).set k (inV l u k) := by
  apply List.ext_getElem (by simp [insTo])
  intro i h1 h2
  simp only [List.getElem_set, insTo, List.getElem_map, List.getElem_range]
  by_cases hik : k = i
  · subst hik; simp
  · by_cases h : i < k
    · simp [hik, h, show i < k + 1 by omega]
    · simp [hik, h, show ¬ i < k + 1 by omega]
theorem encs_boollen (l : List Bool) : (encs l).length = l.length := by rw [encs_len]; exact Nat.mul_one _

theorem impl_IsCut_any (nodes : Int) (hnodes : I64 nodes) (l : List P2) (u : List Int) (w : World) (S : Nat → Prop) (hS : ∀ b, S b → b < w.heap.size) (A A' : Option Addr) (n c n' c' : Nat) (hl0 : RepL w S l A n c) (hl1 : RepL w S u A' n' c') :
    Calls Try.prog 23 #[.int .i64 nodes, .slice A n c, .slice A' n' c'] w fun x w' => x = .returned (.tuple #[.bool (cutOk nodes l u && cutGood l u), .bool (cutOk nodes l u)]) ∧ Below w.heap.size w w' := by
  have hbd := hl0.bd
  have hbd' := hl1.bd
  obtain ⟨hn, -⟩ := id hl0
  obtain ⟨hn', -⟩ := id hl1
  obtain ⟨r0, hr0⟩ : ∃ r, goodEv nodes l = r := ⟨_, rfl⟩
  have Hn := Lib.hid hn
  have Hn' := Lib.hid hn'
  have R0 := Lib.hid hr0
  clear hn hn' hr0
  cases r0 with
  | false =>
    have Hok := Lib.hid (show cutOk nodes l u = false by unfold cutOk; rw [R0.out]; rfl)
    go_enter Try.func23, Try.ntmps23
    go_wp2_with fail
    refine (areEvents_any nodes hnodes l w S hS A n c hl0).mono ?_
    rintro e w1 ⟨rfl, b1⟩
    rw [R0.out]
    go_wp2_with fail
    go_ret2
    exact ⟨by rw [Hok.out]; rfl, b1⟩
  | true =>
    obtain ⟨hg1, hg2, hg3, hg4⟩ := goodEv_get R0.out
    obtain ⟨N, rfl⟩ := Int.eq_ofNat_of_zero_le (show 0 ≤ nodes by omega)
    have Hev := Lib.hid hg4
    have hN1 : 1 ≤ N := by omega
    have hN2 : N ≤ 5 := by omega
    have hn40 : n ≤ 40 := by have := Hn.out; omega
    clear hg4
    obtain ⟨r1, hr1⟩ : ∃ r, uptoB N l u = r := ⟨_, rfl⟩
    have R1 := Lib.hid hr1
    clear hr1
    have Hok0 := Lib.hid (show cutOk (N : Int) l u = r1 by unfold cutOk; rw [R0.out, Int.toNat_natCast, R1.out]; rfl)
    cases r1 with
    | false =>
      go_enter Try.func23, Try.ntmps23
      go_wp2_with fail
      refine (areEvents_any (N : Int) hnodes l w S hS A n c hl0).mono ?_
      rintro e w1 ⟨rfl, b1⟩
      rw [R0.out]
      go_wp2_with fail
      refine (isCutOf_any N hN1 hN2 l Hev.out hg3 u w1 S (fun x hx => Nat.lt_of_lt_of_le (hS x hx) b1.size) A A' n c n' c' (hl0.keep (fun p hp => b1.cell (hS _ hp))) (hl1.keep (fun p hp => b1.cell (hS _ hp)))).mono ?_
      rintro e w2 ⟨rfl, b2⟩
      have B2 := bnext b1 b2
      rw [R1.out]
      go_wp2_with fail
      go_ret2
      exact ⟨by rw [Hok0.out]; rfl, B2⟩
    | true =>
      have HuN := Lib.hid (uptoB_get R1.out)
      obtain ⟨i0, hi, hz0, hz1, hz2⟩ := info_parts infoInt
      obtain ⟨i1, hi', hz0', hz1', hz2'⟩ := info_parts infoBool
      have hmk : ∀ W, (Instr.makeSlice 30 (.int .i64 (N : Int)) (.int .i64 (N : Int))).run Try.prog W = .ok (.slice (some ⟨W.heap.size, 0, none⟩) N N) (W.alloc (.cells (madeCells #[.int .i64 0] N) 3)) := fun W => by
        have := run_make_rowN (P := Try.prog) 30 3 i0 _ Try.underlying30 hi hz0 .i64 .i64 N N (Nat.le_refl _) (by rw [hz2]; omega) (by omega) W
        rw [hz1, Nat.mul_one] at this
        exact this
      have hmkB : ∀ W, (Instr.makeSlice 72 (.int .i64 (n : Int)) (.int .i64 (n : Int))).run Try.prog W = .ok (.slice (some ⟨W.heap.size, 0, none⟩) n n) (W.alloc (.cells (madeCells #[.bool false] n) 4)) := fun W => by
        have := run_make_rowN (P := Try.prog) 72 4 i1 _ Try.underlying72 hi' hz0' .i64 .i64 n n (Nat.le_refl _) (by rw [hz2']; omega) (by omega) W
        rw [hz1', Nat.mul_one] at this
        exact this
      go_enter Try.func23, Try.ntmps23
      go_wp2_with fail
      refine (areEvents_any (N : Int) hnodes l w S hS A n c hl0).mono ?_
      rintro e w1 ⟨rfl, b1⟩
      rw [R0.out]
      go_wp2_with fail
      refine (isCutOf_any N hN1 hN2 l Hev.out hg3 u w1 S (fun x hx => Nat.lt_of_lt_of_le (hS x hx) b1.size) A A' n c n' c' (hl0.keep (fun p hp => b1.cell (hS _ hp))) (hl1.keep (fun p hp => b1.cell (hS _ hp)))).mono ?_
      rintro e w2 ⟨rfl, b2⟩
      have B2 := bnext b1 b2
      rw [R1.out]
      obtain ⟨g0, hg0⟩ : ∃ g, w2.heap.size = g := ⟨_, rfl⟩
      have hgB : w.heap.size ≤ g0 := by have := B2.size; omega
      have o0 := own_zeros w2 3 N (by omega)
      have o1 := own_falses (w2.alloc (.cells (madeCells #[.int .i64 0] N) 3)) 4 n (by omega)
      have o0' := o0.alloc (.cells (madeCells #[.bool false] n) 4)
      have hsz : (w2.alloc (.cells (madeCells #[.int .i64 0] N) 3)).heap.size = g0 + 1 := by simp [hg0]
      rw [hsz] at o1
      rw [hg0] at o0'
      have HO0 := Lib.hid o0'
      have HO1 := Lib.hid o1
      have B4 := Lib.hid ((B2.alloc B2.size (.cells (madeCells #[.int .i64 0] N) 3)).alloc (by simp; omega) (.cells (madeCells #[.bool false] n) 4))
      clear o0 o0' o1 hsz
      go_wp2_with fail
      try simp only [hg0]
      go_loopw [30] (fun i wr => ∃ k : Nat, k ≤ n ∧ i = .int .i64 k ∧ (∀ i, i < k → cutBad l u i = false) ∧ wr.ownsRow g0 3 1 (.slice (some ⟨g0, 0, none⟩) N N) N (encs (cntL N l k)) ∧ wr.ownsRow (g0 + 1) 4 1 (.slice (some ⟨g0 + 1, 0, none⟩) n n) n (encs (insTo l u n k)) ∧ Below w.heap.size w wr) (fun i _ => n - (intOf i).toNat)
      case atStart => exact ⟨0, Nat.zero_le _, rfl, fun i hi => absurd hi (by omega), by rw [cntL_zero]; exact HO0.out, by rw [insTo_zero]; exact HO1.out, B4.out⟩
      case round =>
        obtain ⟨k, hk, rfl, hpre, hown, hins, hbel⟩ := hrel
        have Hpre := Lib.hid hpre
        clear hpre
        by_cases hlt : k < n
        · have hl1' : k < l.length := by have := Hn.out; omega
          obtain ⟨b, off, xs, rfl, hSb, hc, rfl, hi1, hi2⟩ := hl0.at_ hl1'
          have hc0 := hc 0 _ rfl
          have hc1 := hc 1 _ rfl
          clear hc
          generalize hek : l[k] = ek at hc0 hc1 hi1 hi2
          obtain ⟨x, y⟩ := ek
          have hek' : l[k]? = some ⟨x, y⟩ := by rw [List.getElem?_eq_getElem hl1', hek]
          obtain ⟨hx1, hx2, hy1, hy2, hy3⟩ := Hev.out k hl1' _ hek'
          obtain ⟨j, rfl⟩ := Int.eq_ofNat_of_zero_le hx1
          have hjN : j < N := by have : (j : Int) ≤ (N : Int) - 1 := hx2; omega
          have hj : j < u.length := by have := HuN.out; omega
          have hc0' : wr.cell? ⟨b, off + k * 2, none⟩ = some (.int .i64 j) := (hbel.cell (hS _ hSb)).trans hc0
          have hc1' : wr.cell? ⟨b, off + k * 2 + 1, none⟩ = some (.int .i64 y) := (hbel.cell (hS _ hSb)).trans hc1
          obtain ⟨W, hW⟩ : ∃ W, W = wr.alloc (.cells #[.int .i64 j, .int .i64 y] 64) := ⟨_, rfl⟩
          obtain ⟨gb, hgb⟩ : ∃ g, wr.heap.size = g := ⟨_, rfl⟩
          have hg01 : g0 + 1 < gb := by rw [← hgb]; exact (hins.lt _ rfl).2
          have hbW : Below w.heap.size w W := by subst hW; exact hbel.alloc hbel.size _
          have oW : W.ownsRow g0 3 1 (.slice (some ⟨g0, 0, none⟩) N N) N (encs (cntL N l k)) := by subst hW; exact hown.alloc _
          have iW : W.ownsRow (g0 + 1) 4 1 (.slice (some ⟨g0 + 1, 0, none⟩) n n) n (encs (insTo l u n k)) := by subst hW; exact hins.alloc _
          obtain ⟨q, hq⟩ : ∃ q, cnt l k j = q := ⟨_, rfl⟩
          have hcl := cnt_le l k j
          have f0 : W.cell? ⟨gb, 0, none⟩ = some (.int .i64 j) := by subst hW; rw [← hgb]; simp
          have f1 : W.cell? ⟨gb, 1, none⟩ = some (.int .i64 y) := by subst hW; rw [← hgb]; simp
          have f2 : W.cell? ⟨g0, j, none⟩ = some (.int .i64 q) := by rw [oW.cellAt j (by omega), getI _ _ _ (cntL_get l k hjN), hq]
          obtain ⟨bu, offu, rfl, hSu, hcu, -⟩ := hl1.at1 rfl hj
          obtain ⟨ux, hux⟩ : ∃ v, u[j] = v := ⟨_, rfl⟩
          have f3 : W.cell? ⟨bu, offu + j, none⟩ = some (.int .i64 ux) := (hbW.cell (hS _ hSu)).trans (by rw [hcu _ rfl, hux])
          have f4 : W.cell? ⟨g0 + 1, k, none⟩ = some (.bool false) := by rw [iW.cellAt k (by omega), getB _ _ _ (insTo_get hlt)]; simp
          have z4 := iW.frozenAt k
          have hux' : u[j]? = some ux := by rw [List.getElem?_eq_getElem hj, hux]
          obtain ⟨r, hr⟩ : ∃ r, decide ((q : Int) < ux) = r := ⟨_, rfl⟩
          have hin : inV l u k = r := inV_eq hek' hux' (by
            rw [atV_eq hek', ← hr]
            show decide (((cnt l k j : Nat) : Int) + 1 ≤ ux) = _
            rw [hq]
            apply decide_eq_decide.2
            omega)
          -- the two rows behind the round
          obtain ⟨X, hX⟩ : ∃ X, X = (W.setCell ⟨g0 + 1, k, none⟩ (.bool r)).drew := ⟨_, rfl⟩
          have iX : X.ownsRow (g0 + 1) 4 1 (.slice (some ⟨g0 + 1, 0, none⟩) n n) n (encs (insTo l u n (k + 1))) := by
            subst hX
            rw [insTo_succ, hin, ← setB _ _ _ (by rw [insTo_len]; exact hlt)]
            exact (iW.stored k _).1.drew
          have oX : X.ownsRow g0 3 1 (.slice (some ⟨g0, 0, none⟩) N N) N (encs (cntL N l k)) := by
            subst hX
            exact (own_other (v2 := .slice (some ⟨g0 + 1, 0, none⟩) n n) oW (iW.stored k _).2 (fun kk hkk e => by
              have h1 : g0 = kk := Option.some.inj hkk
              have h2 : g0 + 1 = kk := Option.some.inj e
              omega)).drew
          have bX : Below w.heap.size w X := by subst hX; exact (hbW.setCell (p := ⟨g0 + 1, k, none⟩) (show w.heap.size ≤ g0 + 1 by omega) _).drew
          have hww : IntKind.i64.wrap ((q : Int) + 1) = (q : Int) + 1 := by rw [IntKind.wrap_i64]; omega
          have hneX : ∀ i v, W.cell? ⟨gb, i, none⟩ = some v → X.cell? ⟨gb, i, none⟩ = some v := fun i v h => by
            subst hX
            rw [World.cell?_drew, World.cell?_setCell_other (h := fun e => by have := congrArg Addr.block e; simp at this; omega)]
            exact h
          have x0 := hneX 0 _ f0
          have x1 := hneX 1 _ f1
          have x2 : X.cell? ⟨g0, j, none⟩ = some (.int .i64 q) := by rw [oX.cellAt j (by omega), getI _ _ _ (cntL_get l k hjN), hq]
          have z2 := oX.frozenAt j
          have oY := (oX.stored j (.int .i64 ((q : Int) + 1))).1
          have iY := own_other (v2 := .slice (some ⟨g0, 0, none⟩) N N) iX (oX.stored j (.int .i64 ((q : Int) + 1))).2 (fun kk hkk e => by
            have h1 : g0 + 1 = kk := Option.some.inj hkk
            have h2 : g0 = kk := Option.some.inj e
            omega)
          have bY := bX.setCell (p := ⟨g0, j, none⟩) hgB (.int .i64 ((q : Int) + 1))
          have y4 : (X.setCell ⟨g0, j, none⟩ (.int .i64 ((q : Int) + 1))).cell? ⟨g0 + 1, k, none⟩ = some (.bool r) := by
            rw [iY.cellAt k (by omega), getB _ _ _ (insTo_get hlt)]
            simp [hin]
          have y1 : (X.setCell ⟨g0, j, none⟩ (.int .i64 ((q : Int) + 1))).cell? ⟨gb, 1, none⟩ = some (.int .i64 y) := by
            rw [World.cell?_setCell_other (h := fun e => by have := congrArg Addr.block e; simp at this; omega)]
            exact x1
          have yf : ∀ f, f < k → (X.setCell ⟨g0, j, none⟩ (.int .i64 ((q : Int) + 1))).cell? ⟨g0 + 1, f, none⟩ = some (.bool (inV l u f)) := fun f hf => by
            rw [iY.cellAt f (by omega), getB _ _ _ (insTo_get (by omega))]
            simp [show f < k + 1 by omega]
          have oZ : (X.setCell ⟨g0, j, none⟩ (.int .i64 ((q : Int) + 1))).ownsRow g0 3 1 (.slice (some ⟨g0, 0, none⟩) N N) N (encs (cntL N l (k + 1))) := by
            rw [cntL_succ hek' hjN, hq, ← setI _ _ _ (by rw [cntL_len]; exact hjN)]
            exact oY
          have HZ := Lib.hid oZ
          have HI := Lib.hid iY
          have HB := Lib.hid bY
          have Hek := Lib.hid hek'
          have Hin := Lib.hid hin
          have HX := Lib.hid hX
          have HW := Lib.hid hW
          have YF := Lib.hid yf
          have ne1 : g0 + 1 ≠ gb := by omega
          have ne3 : g0 + 1 ≠ bu := by have := hS _ hSu; omega
          have hkI : (k : Int) < (n : Int) := by omega
          have hk0 : (0 : Int) ≤ (k : Int) := by omega
          have hjI : (j : Int) < (n' : Int) := by have := Hn'.out; omega
          have hjI2 : (j : Int) < (N : Int) := by omega
          have hj0 : (0 : Int) ≤ (j : Int) := by omega
          have Hy1 := Lib.hid (show -1 ≤ y from hy1)
          have Hy2 := Lib.hid (show y ≤ (k : Int) - 1 from hy2)
          clear hc0 hc1 hi1 hi2 hek hek' hx1 hx2 hy1 hy2 hy3 hW hX hcu hux hux' hin oZ iY oY oX iX bX bY yf hneX oW iW hown hins hbW hcl hq
          go_wp2_with fail
          try simp only [hgb]
          rw [← HW.out]
          go_region_held3 (fun w' => w'.cell? ⟨gb, 0, none⟩ = some (.int .i64 j) ∧ w'.cell? ⟨g0, j, none⟩ = some (.int .i64 q) ∧ w'.cell? ⟨bu, offu + j, none⟩ = some (.int .i64 ux)) (go_keep) (fail)
          rw [← HX.out]
          cases r with
          | false =>
            have Hbad := Lib.hid (cutBad_out Hek.out Hin.out)
            go_wp2_with fail
            go_roundw
            case rel => exact ⟨k + 1, by omega, by go_num, bad_succ Hpre.out Hbad.out, HZ.out, HI.out, HB.out⟩
            case measure => simp [intOf]; omega
          | true =>
            by_cases hC : 0 ≤ y
            · obtain ⟨f, rfl⟩ := Int.eq_ofNat_of_zero_le hC
              have hfk : f < k := by have := Hy2.out; omega
              have hfI : (f : Int) < (n : Int) := by omega
              have hf0 : (0 : Int) ≤ (f : Int) := by omega
              have dC : decide ((0 : Int) ≤ (f : Int)) = true := decide_eq_true hf0
              obtain ⟨rf, hrf⟩ : ∃ r, inV l u f = r := ⟨_, rfl⟩
              have y5 := YF.out f hfk
              rw [hrf] at y5
              have Hbad := Lib.hid (cutBad_eq Hek.out Hin.out hrf)
              clear hrf
              cases rf with
              | false =>
                go_wp2_with fail
                go_ret2
                exact ⟨by rw [Hok0.out, cutGood_no hl1' Hbad.out]; rfl, HB.out⟩
              | true =>
                go_wp2_with fail
                go_roundw
                case rel => exact ⟨k + 1, by omega, by go_num, bad_succ Hpre.out Hbad.out, HZ.out, HI.out, HB.out⟩
                case measure => simp [intOf]; omega
            · have dC : decide (0 ≤ y) = false := decide_eq_false hC
              have Hbad := Lib.hid (cutBad_none (u := u) Hek.out hC)
              go_wp2_with fail
              go_roundw
              case rel => exact ⟨k + 1, by omega, by go_num, bad_succ Hpre.out Hbad.out, HZ.out, HI.out, HB.out⟩
              case measure => simp [intOf]; omega
        · obtain rfl : k = n := by omega
          go_wp2_with fail
          go_ret2
          exact ⟨by rw [Hok0.out, cutGood_yes Hn.out Hpre.out]; rfl, hbel⟩

end Go.Proofs.Ytmkhahiefdcinaa

/-
  Contracts: JoinCuts of the reference and of the program.
-/
namespace Go.Proofs.Ytmkhahiefdcinaa
open Go.ChangeShapes Go.WideShapes Go.ChangeAt Go.RowKit Go.BigFrame
set_option linter.unusedVariables false


/-- What JoinCuts answers. -/
def joinL (a b : List Int) : List Int := if okCk a b then mostL a b else []
theorem okCk_small {a b : List Int} (h : okCk a b = true) : a.length ≤ 5 := by
  unfold okCk at h
  simp only [Bool.and_eq_true, decide_eq_true_eq] at h
  omega
/-- A list that the call has made. -/
def MadeJ (w w' : World) (T : TypeId) (l : List Int) (A : Option Addr) (n c : Nat) : Prop :=
  w'.ownsRow w.heap.size T 1 (.slice A n c) n (encs l) ∧ RepL w' (fun b => w.heap.size ≤ b ∧ b < w'.heap.size) l A n c
theorem MadeJ.from_ {w w0 w' : World} {T : TypeId} {l : List Int} {A : Option Addr} {n c : Nat} (h : MadeJ w w' T l A n c) (hs : w0.heap.size ≤ w.heap.size) : MadeJ w0 w' T l A n c :=
  ⟨⟨h.1.1, h.1.2.imp id fun ⟨g, cap, cur, e1, e2, e3⟩ => ⟨g, cap, cur, e1, Nat.le_trans hs e2, e3⟩⟩, h.2.more fun b hb => ⟨Nat.le_trans hs hb.1, hb.2⟩⟩
theorem MadeJ.nil_ (w w' : World) (T : TypeId) : MadeJ w w' T [] none 0 0 :=
  ⟨World.ownsRow_nil _ _ _ _, RepL.of_own' (e := T) (base := w.heap.size) (s := 1) rfl rfl (World.ownsRow_nil _ _ _ _) (fun a ha => by cases ha)⟩

theorem spec_JoinCuts_any (a b : List Int) (w : World) (S : Nat → Prop) (hS : ∀ b, S b → b < w.heap.size) (A A' : Option Addr) (n c n' c' : Nat) (hl0 : RepL w S a A n c) (hl1 : RepL w S b A' n' c') :
    Calls Try.prog 43 #[.slice A n c, .slice A' n' c'] w fun x w' => ∃ A2 m c2, x = .returned (.tuple #[.slice A2 m c2, .bool (okCk a b)]) ∧ m ≤ 5 ∧ MadeJ w w' 3 (joinL a b) A2 m c2 ∧ Below w.heap.size w w' := by
  have hbd := hl0.bd
  have hbd' := hl1.bd
  obtain ⟨hn, -⟩ := id hl0
  obtain ⟨hn', -⟩ := id hl1
  have Hn := Lib.hid hn
  have Hn' := Lib.hid hn'
  clear hn hn'
  obtain ⟨r1, hr1⟩ : ∃ r, clockOk a = r := ⟨_, rfl⟩
  obtain ⟨r2, hr2⟩ : ∃ r, clockOk b = r := ⟨_, rfl⟩
  have Hok0 := Lib.hid (show okCk a b = (r1 && (r2 && decide (n = n'))) by rw [okCk_spec, hr1, hr2, Hn.out, Hn'.out])
  have H1 := Lib.hid hr1
  have H2 := Lib.hid hr2
  clear hr1 hr2
  cases r1 with
  | false =>
    have Hok := Lib.hid (show okCk a b = false by rw [Hok0.out]; rfl)
    have Hf := Lib.hid (show joinL a b = [] by unfold joinL; rw [Hok.out]; rfl)
    go_enter Try.func43, Try.ntmps43
    go_wp2_with fail
    refine (l11Clock_any a _ H1.out w S hS A n c hl0).mono ?_
    rintro e w1 ⟨rfl, b1⟩
    go_wp2_with fail
    go_ret2
    exact ⟨none, 0, 0, by rw [Hok.out]; rfl, by omega, by rw [Hf.out]; exact MadeJ.nil_ _ _ _, b1⟩
  | true =>
    cases r2 with
    | false =>
      have Hok := Lib.hid (show okCk a b = false by rw [Hok0.out]; rfl)
      have Hf := Lib.hid (show joinL a b = [] by unfold joinL; rw [Hok.out]; rfl)
      go_enter Try.func43, Try.ntmps43
      go_wp2_with fail
      refine (l11Clock_any a _ H1.out w S hS A n c hl0).mono ?_
      rintro e w1 ⟨rfl, b1⟩
      go_wp2_with fail
      refine (l11Clock_any b _ H2.out w1 S (fun x hx => Nat.lt_of_lt_of_le (hS x hx) b1.size) A' n' c' (hl1.keep (fun p hp => b1.cell (hS _ hp)))).mono ?_
      rintro e w2 ⟨rfl, b2⟩
      go_wp2_with fail
      go_ret2
      exact ⟨none, 0, 0, by rw [Hok.out]; rfl, by omega, by rw [Hf.out]; exact MadeJ.nil_ _ _ _, bnext b1 b2⟩
    | true =>
      by_cases hne : n = n'
      · have hd2 : ((n : Int) != (n' : Int)) = false := by simp [hne]
        have Hok := Lib.hid (show okCk a b = true by rw [Hok0.out, decide_eq_true hne]; rfl)
        have Hf := Lib.hid (show joinL a b = mostL a b by unfold joinL; rw [Hok.out]; rfl)
        have Hne := Lib.hid (show a.length = b.length by have := Hn.out; have := Hn'.out; omega)
        have h5 := okCk_small Hok.out
        clear hne
        go_enter Try.func43, Try.ntmps43
        go_wp2_with fail
        refine (l11Clock_any a _ H1.out w S hS A n c hl0).mono ?_
        rintro e w1 ⟨rfl, b1⟩
        go_wp2_with fail
        refine (l11Clock_any b _ H2.out w1 S (fun x hx => Nat.lt_of_lt_of_le (hS x hx) b1.size) A' n' c' (hl1.keep (fun p hp => b1.cell (hS _ hp)))).mono ?_
        rintro e w2 ⟨rfl, b2⟩
        have b12 := bnext b1 b2
        go_wp2_with fail
        refine (l11Most_any a b Hne.out w2 S (fun x hx => Nat.lt_of_lt_of_le (hS x hx) b12.size) A A' n c n' c' (by have := Hn.out; omega) (hl0.keep (fun p hp => b12.cell (hS _ hp))) (hl1.keep (fun p hp => b12.cell (hS _ hp)))).mono ?_
        rintro e w3 ⟨A3, c3, rfl, o3, m3, b3⟩
        go_wp2_with fail
        go_ret2
        exact ⟨A3, n, c3, by rw [Hok.out]; rfl, by have := Hn.out; omega, by rw [Hf.out]; exact MadeJ.from_ ⟨o3, m3⟩ b12.size, bnext b12 b3⟩
      · have hd2 : ((n : Int) != (n' : Int)) = true := by simp; omega
        have Hok := Lib.hid (show okCk a b = false by rw [Hok0.out, decide_eq_false hne]; rfl)
        have Hf := Lib.hid (show joinL a b = [] by unfold joinL; rw [Hok.out]; rfl)
        go_enter Try.func43, Try.ntmps43
        go_wp2_with fail
        refine (l11Clock_any a _ H1.out w S hS A n c hl0).mono ?_
        rintro e w1 ⟨rfl, b1⟩
        go_wp2_with fail
        refine (l11Clock_any b _ H2.out w1 S (fun x hx => Nat.lt_of_lt_of_le (hS x hx) b1.size) A' n' c' (hl1.keep (fun p hp => b1.cell (hS _ hp)))).mono ?_
        rintro e w2 ⟨rfl, b2⟩
        go_wp2_with fail
        go_ret2
        exact ⟨none, 0, 0, by rw [Hok.out]; rfl, by omega, by rw [Hf.out]; exact MadeJ.nil_ _ _ _, bnext b1 b2⟩

theorem impl_JoinCuts_any (a b : List Int) (w : World) (S : Nat → Prop) (hS : ∀ b, S b → b < w.heap.size) (A A' : Option Addr) (n c n' c' : Nat) (hl0 : RepL w S a A n c) (hl1 : RepL w S b A' n' c') :
    Calls Try.prog 40 #[.slice A n c, .slice A' n' c'] w fun x w' => ∃ A2 m c2, x = .returned (.tuple #[.slice A2 m c2, .bool (okCk a b)]) ∧ m ≤ 5 ∧ MadeJ w w' 3 (joinL a b) A2 m c2 ∧ Below w.heap.size w w' := by
  have hbd := hl0.bd
  have hbd' := hl1.bd
  obtain ⟨hn, -⟩ := id hl0
  obtain ⟨hn', -⟩ := id hl1
  have Hn := Lib.hid hn
  have Hn' := Lib.hid hn'
  clear hn hn'
  obtain ⟨r1, hr1⟩ : ∃ r, okCk a b = r := ⟨_, rfl⟩
  have Hok := Lib.hid hr1
  clear hr1
  cases r1 with
  | false =>
    have Hf := Lib.hid (show joinL a b = [] by unfold joinL; rw [Hok.out]; rfl)
    go_enter Try.func40, Try.ntmps40
    go_wp2_with fail
    refine (areClocks_any a b _ Hok.out w S hS A A' n c n' c' hl0 hl1).mono ?_
    rintro e w1 ⟨rfl, b1⟩
    go_wp2_with fail
    go_ret2
    exact ⟨none, 0, 0, by rw [Hok.out]; rfl, by omega, by rw [Hf.out]; exact MadeJ.nil_ _ _ _, b1⟩
  | true =>
    have Hlen := Lib.hid (okCk_len Hok.out)
    have Hf := Lib.hid (show joinL a b = mostL a b by unfold joinL; rw [Hok.out]; rfl)
    have h5 := okCk_small Hok.out
    go_enter Try.func40, Try.ntmps40
    go_wp2_with fail
    refine (areClocks_any a b _ Hok.out w S hS A A' n c n' c' hl0 hl1).mono ?_
    rintro e w1 ⟨rfl, b1⟩
    go_wp2_with fail
    refine (cloneInt_any a w1 S (fun x hx => Nat.lt_of_lt_of_le (hS x hx) b1.size) A n c (hl0.keep (fun p hp => b1.cell (hS _ hp))) (by have := Hn.out; omega)).mono ?_
    rintro e w2 ⟨A2, c2, rfl, o2, m2, b2⟩
    have hb1 := bnext b1 b2
    have Hown1 := Lib.hid (MadeJ.from_ (w0 := w) ⟨o2, m2⟩ b1.size)
    clear o2 m2
    go_wp2_with fail
    go_loopw [17] (fun i wr => ∃ k : Nat, k ≤ n ∧ i = .int .i64 k ∧ wr.ownsRow w.heap.size 3 1 (.slice A2 n c2) n (encs (mostTo a b k)) ∧ Below w.heap.size w wr) (fun i _ => n - (intOf i).toNat)
    case atStart => exact ⟨0, Nat.zero_le _, rfl, by rw [mostTo_zero]; exact Hown1.out.1, hb1⟩
    case round =>
      obtain ⟨k, hk, rfl, hown, hbel⟩ := hrel
      have hnn : n' = n := by have := Hn.out; have := Hn'.out; have := Hlen.out; omega
      have Hnn := Lib.hid hnn
      clear hnn
      by_cases hlt : k < n
      · have hlt' : k < n' := by have := Hnn.out; omega
        have hk1 : k < a.length := by have := Hn.out; omega
        have hk2 : k < b.length := by have := Hn'.out; omega
        obtain ⟨bb, off', rfl, hSb', hc', hi1'⟩ := hl1.at1 rfl hk2
        have hd0 : wr.cell? ⟨bb, off' + k, none⟩ = some (.int .i64 b[k]) := (hbel.cell (hS _ hSb')).trans (hc' _ rfl)
        obtain ⟨g, rfl⟩ : ∃ g, A2 = some ⟨g, 0, none⟩ := by
          rcases hown.2 with ⟨_, e⟩ | ⟨g, cap, cur, e, _⟩
          · omega
          · simp only [Value.slice.injEq] at e
            exact ⟨g, e.1⟩
        have hu0 : wr.cell? ⟨g, k, none⟩ = some (.int .i64 a[k]) := by rw [hown.cellAt k (by omega)]; exact get_enc _ _ _ (mostTo_get Hlen.out hk1)
        have hf0 := hown.frozenAt k
        have hgB := (hown.lt g rfl).1
        have Hown := Lib.hid hown
        clear hc' hi1' hown
        obtain ⟨mx, hmx⟩ : ∃ mx, max a[k] b[k] = mx := ⟨_, rfl⟩
        have hif1 : (if a[k] < b[k] then b[k] else a[k]) = mx := by rw [← hmx]; split <;> omega
        have hif2 : (if b[k] < a[k] then a[k] else b[k]) = mx := by rw [← hmx]; split <;> omega
        have Hs := Lib.hid (show mostTo a b (k + 1) = (mostTo a b k).set k mx by rw [mostTo_succ Hlen.out hk1, hmx])
        clear hmx
        go_wp2_with fail
        go_roundw
        case rel => exact ⟨k + 1, by omega, by go_num, by rw [Hs.out, ← set_enc _ _ _ (by rw [mostTo_len Hlen.out]; exact hk1)]; exact (Hown.out.stored k _).1, hbel.setCell hgB _⟩
        case measure => simp [intOf]; omega
      · have hlt' : ¬ k < n' := by have := Hnn.out; omega
        go_wp2_with fail
        go_ret2
        have e1 : k = a.length := by have := Hn.out; omega
        rw [e1, mostTo_all Hlen.out] at hown
        refine ⟨A2, n, c2, by rw [Hok.out]; rfl, by have := Hn.out; omega, ?_, hbel⟩
        rw [Hf.out]
        refine ⟨hown, RepL.of_own' rfl ?_ hown (ok_max hl0.ok hl1.ok)⟩
        unfold mostL
        have := Hn.out
        have := Hlen.out
        simp
        omega

end Go.Proofs.Ytmkhahiefdcinaa

/-
  From the earlier kit's contracts over cuts and clocks to the calculus: IsCut, JoinCuts.
-/
namespace Go.Proofs.Ytmkhahiefdcinaa
open Go.ChangeShapes Go.WideShapes Go.ChangeAt Go.RowKit Go.BigFrame Go.Deep
set_option linter.unusedVariables false

set_option linter.unusedSimpArgs false
theorem v_sIsCut (n : Int) (l : List GEvent) (u : List Int) (hn : I64 n) (hl : allEv l) (hu : allRi u) : Fn Try.prog 21 [.one (.int .i64 n), .one (evsAV l), .one (intsAV u)] (.tup2 (.one (.bool (cutOk n l u && cutGood l u))) (.one (.bool (cutOk n l u)))) := by
  intro w S vs hS hd
  obtain ⟨v, vs1, rfl, h1, v2, vs2, rfl, h2, v3, vs3, rfl, h3, h4⟩ := hd
  obtain rfl : vs3 = [] := h4
  have h1 : v = _ := h1
  subst h1
  obtain ⟨A, c, rfl, r1⟩ := evs_rep h2 hl
  obtain ⟨A', c', rfl, r2⟩ := ints_rep h3 hu
  exact (spec_IsCut_any n hn l u w S hS.lt A A' _ c _ c' r1 r2).mono fun e w' h => h
theorem v_iIsCut (n : Int) (l : List GEvent) (u : List Int) (hn : I64 n) (hl : allEv l) (hu : allRi u) : Fn Try.prog 23 [.one (.int .i64 n), .one (evsAV l), .one (intsAV u)] (.tup2 (.one (.bool (cutOk n l u && cutGood l u))) (.one (.bool (cutOk n l u)))) := by
  intro w S vs hS hd
  obtain ⟨v, vs1, rfl, h1, v2, vs2, rfl, h2, v3, vs3, rfl, h3, h4⟩ := hd
  obtain rfl : vs3 = [] := h4
  have h1 : v = _ := h1
  subst h1
  obtain ⟨A, c, rfl, r1⟩ := evs_rep h2 hl
  obtain ⟨A', c', rfl, r2⟩ := ints_rep h3 hu
  exact (impl_IsCut_any n hn l u w S hS.lt A A' _ c _ c' r1 r2).mono fun e w' h => h
theorem v_sJoin (a b : List Int) (ha : allRi a) (hb : allRi b) : FnF Try.prog 43 [.one (intsAV a), .one (intsAV b)] (.tup2 (.one (intsAV (joinL a b))) (.one (.bool (okCk a b)))) := by
  intro w S vs hS hd
  obtain ⟨v, vs1, rfl, h1, v2, vs2, rfl, h2, h3⟩ := hd
  obtain rfl : vs2 = [] := h3
  obtain ⟨A, c, rfl, r1⟩ := ints_rep h1 ha
  obtain ⟨A', c', rfl, r2⟩ := ints_rep h2 hb
  refine (spec_JoinCuts_any a b w S hS.lt A A' _ c _ c' r1 r2).mono fun e w' h => ?_
  obtain ⟨A2, m, c2, rfl, _, hm, hb⟩ := h
  exact ⟨_, rfl, ⟨_, _, rfl, rep_ints hm.2, rfl⟩, hb⟩
theorem v_iJoin (a b : List Int) (ha : allRi a) (hb : allRi b) : FnF Try.prog 40 [.one (intsAV a), .one (intsAV b)] (.tup2 (.one (intsAV (joinL a b))) (.one (.bool (okCk a b)))) := by
  intro w S vs hS hd
  obtain ⟨v, vs1, rfl, h1, v2, vs2, rfl, h2, h3⟩ := hd
  obtain rfl : vs2 = [] := h3
  obtain ⟨A, c, rfl, r1⟩ := ints_rep h1 ha
  obtain ⟨A', c', rfl, r2⟩ := ints_rep h2 hb
  refine (impl_JoinCuts_any a b w S hS.lt A A' _ c _ c' r1 r2).mono fun e w' h => ?_
  obtain ⟨A2, m, c2, rfl, _, hm, hb⟩ := h
  exact ⟨_, rfl, ⟨_, _, rfl, rep_ints hm.2, rfl⟩, hb⟩
end Go.Proofs.Ytmkhahiefdcinaa

/-
  The past of an event is a cut; the greater of two cuts is one.
-/
namespace Go.Proofs.Ytmkhahiefdcinaa
open Go.ChangeShapes Go.WideShapes Go.ChangeAt Go.RowKit Go.BigFrame Go.Deep
set_option linter.unusedVariables false

set_option linter.unusedSimpArgs false
theorem clk_self {N : Nat} {l : List P2} (h : goodEvs N l = true) {a : Nat} (ha : a < l.length) : clk N l a (ev l a).a.toNat = atV l a := by
  have he := evs_of h
  have hn := evs_nd h
  have h1 := (clk_law he hn a ha).1 a (.self a)
  have hj : (((ev l a).a.toNat : Nat) : Int) = (ev l a).a := Int.toNat_of_nonneg (hn a ha).1
  rcases (clk_law he hn a ha).2 (ev l a).a.toNat (by have := hn a ha; omega) with h2 | ⟨c, h2, h3, h4⟩
  · have : 1 ≤ atV l a := by rw [atV_ev ha]; omega
    omega
  · have hca := h2.le he ha
    rw [← h4, atV_suc (by omega), atV_suc ha, h3, hj]
    have := cnt_mono (l := l) (a := c + 1) (b := a + 1) (by omega) (by omega) (ev l a).a
    rw [atV_suc ha, ← h4, atV_suc (by omega), h3, hj] at h1
    omega
theorem an_of {N : Nat} {l : List P2} (h : goodEvs N l = true) {a b : Nat} (ha : a < l.length) (hb : b < l.length) (hle : atV l a ≤ clk N l b (ev l a).a.toNat) : An l a b := by
  by_cases e : a = b
  · subst e; exact .self _
  · have h1 := came_first h ha hb
    rw [clk_self h ha, decide_eq_false e, decide_eq_true hle] at h1
    have h2 : (a : Int) ∈ firstV l b := by simpa [List.contains_eq_mem] using h1
    exact ((first_iff (evs_of h) hb a).1 h2).2
theorem inV_ev {l : List P2} {u : List Int} {i : Nat} (hi : i < l.length) : inV l u i = decide (atV l i ≤ u.getD (ev l i).a.toNat 0) := by
  unfold inV; rw [ev_some hi]
theorem row_clk {N : Nat} {l : List P2} {k j : Nat} : (rowV N l k).getD j 0 = clk N l (k : Int) j := by
  unfold clk; rw [if_pos (by omega), Int.toNat_natCast]
theorem row_in {N : Nat} {l : List P2} (h : goodEvs N l = true) {k a : Nat} (hk : k < l.length) (ha : a < l.length) : inV l (rowV N l k) a = true ↔ An l a k := by
  rw [inV_ev ha, decide_eq_true_eq, row_clk]
  exact ⟨an_of h ha hk, (clk_law (evs_of h) (evs_nd h) k hk).1 a⟩
theorem good_of {l : List P2} {u : List Int} (h : ∀ k, k < l.length → inV l u k = true → 0 ≤ (ev l k).b → inV l u (ev l k).b.toNat = true) : cutGood l u = true := by
  unfold cutGood
  rw [List.all_eq_true]
  intro k hk
  have hk := List.mem_range.1 hk
  unfold cutBad
  rw [ev_some hk]
  show (!(inV l u k && (decide (0 ≤ (ev l k).b) && !inV l u (ev l k).b.toNat))) = true
  have h1 := h k hk
  by_cases h2 : inV l u k = true
  · by_cases h3 : 0 ≤ (ev l k).b
    · rw [h1 h2 h3]; simp
    · rw [decide_eq_false h3]; simp
  · rw [Bool.not_eq_true] at h2; rw [h2]; rfl
theorem An.from_ {l : List P2} {k : Nat} (h : 0 ≤ (ev l k).b) : An l (ev l k).b.toNat k := .step (.inr (Int.toNat_of_nonneg h)) (.self _)
theorem from_lt {l : List P2} (he : Evs l) {k : Nat} (hk : k < l.length) (h : 0 ≤ (ev l k).b) : (ev l k).b.toNat < l.length := by
  have : (ev l k).b < k := he.lt1 k hk
  omega
theorem row_good {N : Nat} {l : List P2} (h : goodEvs N l = true) {k : Nat} (hk : k < l.length) : cutGood l (rowV N l k) = true := by
  refine good_of fun q hq h1 h2 => ?_
  rw [row_in h hk hq] at h1
  rw [row_in h hk (from_lt (evs_of h) hq h2)]
  exact h1.trans (An.from_ h2)
theorem row_upto {N : Nat} {l : List P2} (h : goodEvs N l = true) {k : Nat} (hk : k < l.length) {j : Nat} (hj : j < N) : 0 ≤ (rowV N l k).getD j 0 ∧ (rowV N l k).getD j 0 ≤ (cnt l l.length j : Int) := by
  rw [row_clk]
  rcases (clk_law (evs_of h) (evs_nd h) k hk).2 j hj with h1 | ⟨a, h1, h2, h3⟩
  · rw [h1]; omega
  · have ha := h1.le (evs_of h) hk
    rw [← h3, atV_suc (by omega), h2]
    have := cnt_mono (l := l) (a := a + 1) (b := l.length) (by omega) (Nat.le_refl _) (j : Int)
    omega
theorem upto_of {N : Nat} {l : List P2} {u : List Int} (hl : u.length = N) (h : ∀ j, j < N → 0 ≤ u.getD j 0 ∧ u.getD j 0 ≤ (cnt l l.length j : Int)) : uptoB N l u = true := by
  refine uptoB_yes hl rfl fun i hi x hx => ?_
  have := h i (by omega)
  rw [List.getD_eq_getElem?_getD, hx] at this
  exact this
theorem max_get {x y : List Int} {j : Nat} (hx : j < x.length) (hy : j < y.length) : (mostL x y).getD j 0 = max (x.getD j 0) (y.getD j 0) := by
  unfold mostL
  rw [List.getD_eq_getElem?_getD, List.getElem?_zipWith, List.getElem?_eq_getElem hx, List.getElem?_eq_getElem hy, List.getD_eq_getElem?_getD, List.getElem?_eq_getElem hx, List.getD_eq_getElem?_getD, List.getElem?_eq_getElem hy]; rfl
theorem max_in {N : Nat} {l : List P2} {x y : List Int} (hn : ∀ k, k < l.length → 0 ≤ (ev l k).a ∧ (ev l k).a < N) (hx : x.length = N) (hy : y.length = N) {a : Nat} (ha : a < l.length) : inV l (mostL x y) a = true ↔ inV l x a = true ∨ inV l y a = true := by
  have := hn a ha
  rw [inV_ev ha, inV_ev ha, inV_ev ha, max_get (by omega) (by omega), decide_eq_true_eq, decide_eq_true_eq, decide_eq_true_eq]
  omega
theorem rowV_lenN {N : Nat} {l : List P2} {k : Nat} (hk : k < l.length) : (rowV N l k).length = N := (rowV_is (N := N) hk).1
theorem max_good {N : Nat} {l : List P2} (h : goodEvs N l = true) {k j : Nat} (hk : k < l.length) (hj : j < l.length) : cutGood l (mostL (rowV N l k) (rowV N l j)) = true := by
  have he := evs_of h
  have hn := evs_nd h
  refine good_of fun q hq h1 h2 => ?_
  have hb := from_lt he hq h2
  rw [max_in hn (rowV_lenN hk) (rowV_lenN hj) hq, row_in h hk hq, row_in h hj hq] at h1
  rw [max_in hn (rowV_lenN hk) (rowV_lenN hj) hb, row_in h hk hb, row_in h hj hb]
  exact h1.imp (fun h1 => h1.trans (An.from_ h2)) (fun h1 => h1.trans (An.from_ h2))
theorem most_len {x y : List Int} {N : Nat} (hx : x.length = N) (hy : y.length = N) : (mostL x y).length = N := by
  unfold mostL; rw [List.length_zipWith, hx, hy, Nat.min_self]
theorem max_upto {N : Nat} {l : List P2} (h : goodEvs N l = true) {k j : Nat} (hk : k < l.length) (hj : j < l.length) : uptoB N l (mostL (rowV N l k) (rowV N l j)) = true := by
  refine upto_of (most_len (rowV_lenN hk) (rowV_lenN hj)) fun i hi => ?_
  rw [max_get (by rw [rowV_lenN hk]; exact hi) (by rw [rowV_lenN hj]; exact hi)]
  have h1 := row_upto h hk hi
  have h2 := row_upto h hj hi
  omega
open Classical in
theorem goodEv_of {n : Int} {l : List P2} (h : goodEvs n l = true) : goodEv n l = true := by
  unfold goodEv
  exact decide_eq_true (goodEvs_get h)
theorem all40 {N : Nat} {l : List P2} (h : goodEvs N l = true) {k : Nat} (hk : k < l.length) : allIn 0 40 (rowV N l k) = true := by
  unfold allIn
  rw [List.all_eq_true]
  intro x hx
  obtain ⟨i, hi, rfl⟩ := List.mem_iff_getElem.1 hx
  have h1 := row_upto h hk (j := i) (by rw [← rowV_lenN (N := N) hk]; exact hi)
  rw [List.getD_eq_getElem?_getD, List.getElem?_eq_getElem hi] at h1
  have h2 := cnt_le l l.length (i : Int)
  have h3 := (goodEvs_get h).2.2.1
  refine decide_eq_true ⟨h1.1, ?_⟩
  have h4 : (rowV N l k)[i] ≤ (cnt l l.length (i : Int) : Int) := h1.2
  omega
theorem row_ri {N : Nat} {l : List P2} (h : goodEvs N l = true) {k : Nat} (hk : k < l.length) : allRi (rowV N l k) := by
  intro x hx
  have := List.all_eq_true.1 (show (rowV N l k).all (fun x => decide (0 ≤ x ∧ x ≤ 40)) = true from all40 h hk) x hx
  rw [decide_eq_true_eq] at this
  exact ⟨by omega, by omega⟩
theorem ck_rows {N : Nat} {l : List P2} (h : goodEvs N l = true) {k j : Nat} (hk : k < l.length) (hj : j < l.length) : okCk (rowV N l k) (rowV N l j) = true := by
  unfold okCk
  obtain ⟨h1, h2, _⟩ := goodEvs_get h
  rw [rowV_lenN hk, rowV_lenN hj, all40 h hk, all40 h hj, decide_eq_true (show 1 ≤ (N : Int) ∧ (N : Int) ≤ 5 from ⟨h1, h2⟩)]
  simp
/-- What the law asks of a cut. -/
theorem cut_facts {n : Int} {l : List GEvent} (hg : goodEvs n l = true) {k : Nat} (hk : k < l.length) : (cutOk n l (rowV n.toNat l k) = true ∧ cutGood l (rowV n.toNat l k) = true) ∧ allRi (rowV n.toNat l k) := by
  obtain ⟨h1, _⟩ := goodEvs_get hg
  obtain ⟨N, rfl⟩ : ∃ N : Nat, n = N := ⟨n.toNat, (Int.toNat_of_nonneg (by omega)).symm⟩
  rw [Int.toNat_natCast]
  refine ⟨⟨?_, row_good hg hk⟩, row_ri hg hk⟩
  unfold cutOk
  rw [goodEv_of hg, Int.toNat_natCast, upto_of (rowV_lenN hk) fun j hj => row_upto hg hk hj]; rfl
theorem join_facts {n : Int} {l : List GEvent} (hg : goodEvs n l = true) {k j : Nat} (hk : k < l.length) (hj : j < l.length) : (okCk (rowV n.toNat l k) (rowV n.toNat l j) = true ∧ cutOk n l (joinL (rowV n.toNat l k) (rowV n.toNat l j)) = true ∧ cutGood l (joinL (rowV n.toNat l k) (rowV n.toNat l j)) = true) ∧ allRi (joinL (rowV n.toNat l k) (rowV n.toNat l j)) := by
  obtain ⟨h1, _⟩ := goodEvs_get hg
  obtain ⟨N, rfl⟩ : ∃ N : Nat, n = N := ⟨n.toNat, (Int.toNat_of_nonneg (by omega)).symm⟩
  rw [Int.toNat_natCast]
  have hc := ck_rows hg hk hj
  have e : joinL (rowV N l k) (rowV N l j) = mostL (rowV N l k) (rowV N l j) := by unfold joinL; rw [if_pos hc]
  rw [e]
  refine ⟨⟨hc, ?_, max_good hg hk hj⟩, fun x hx => ?_⟩
  · unfold cutOk
    rw [goodEv_of hg, Int.toNat_natCast, max_upto hg hk hj]; rfl
  · obtain ⟨i, hi, rfl⟩ := List.mem_iff_getElem.1 hx
    have hl := most_len (rowV_lenN (N := N) hk) (rowV_lenN (N := N) hj)
    have hm := max_get (x := rowV N l k) (y := rowV N l j) (j := i) (by rw [rowV_lenN hk]; omega) (by rw [rowV_lenN hj]; omega)
    rw [List.getD_eq_getElem?_getD, List.getElem?_eq_getElem hi] at hm
    have h1 := row_upto hg hk (j := i) (by omega)
    have h2 := row_upto hg hj (j := i) (by omega)
    have h3 := cnt_le l l.length (i : Int)
    have h4 := (goodEvs_get hg).2.2.1
    have hm : (mostL (rowV N l k) (rowV N l j))[i] = _ := hm
    rw [hm]
    exact ⟨by omega, by omega⟩
end Go.Proofs.Ytmkhahiefdcinaa

/-
  The laws' own small functions; ClocksOf.
-/
namespace Go.Proofs.Ytmkhahiefdcinaa
open Go.ChangeShapes Go.WideShapes Go.ChangeAt Go.RowKit Go.BigFrame Go.Deep
set_option linter.unusedVariables false
set_option linter.unusedSimpArgs false
theorem vfu_ca_48 : callB Try.prog 48 = true := by kernel_rfl
theorem vfu_ca_50 : callB Try.prog 50 = true := by kernel_rfl
theorem vfu_cv_5_3_.i64 : convB Try.prog 5 3 .i64 = true := by kernel_rfl
theorem vfu_el_30_1 : elemB Try.prog 30 1 = true := by kernel_rfl
theorem vfu_el_47_1 : elemB Try.prog 47 1 = true := by kernel_rfl
theorem vfu_pl_3 : plainB Try.prog 3 = true := by kernel_rfl
theorem vfu_pl_5 : plainB Try.prog 5 = true := by kernel_rfl
theorem vfu_sl_30 : sliceB Try.prog 30 = true := by kernel_rfl
theorem vfu_sl_47 : sliceB Try.prog 47 = true := by kernel_rfl
theorem cut_ok {n : Int} {l : List GEvent} {k : Int} (h : (cutV n l k).2 = true) : ctOk n l k := by
  by_cases hq : ctOk n l k
  · exact hq
  · rw [cut_no hq] at h; cases h
def numTo (l : List UInt8) : Nat → Nat
  | 0 => 0
  | k + 1 => (31 * numTo l k + (l.getD k 0).toNat) % 1000003
theorem numTo_lt (l : List UInt8) : ∀ k, numTo l k < 1000003
  | 0 => by show 0 < 1000003; decide
  | k + 1 => Nat.mod_lt _ (by decide)
theorem same_yes {a b : List Int} (h : a.length = b.length) (hs : ∀ j, j < a.length → a.getD j 0 = b.getD j 0) : a = b := by
  refine List.ext_getElem h fun i h1 h2 => ?_
  have := hs i h1
  rwa [List.getD_eq_getElem?_getD, List.getD_eq_getElem?_getD, List.getElem?_eq_getElem h1, List.getElem?_eq_getElem h2] at this
theorem v_numberOf (l : List UInt8) : Fn Try.prog 39 [.one (.lst 1 l.length (fun i0 _ => .int .u8 (((l.getD i0 0).toNat : Nat) : Int)))] (.one (.int .i64 (((numTo l l.length) : Nat) : Int))) := by
  refine Fn.of_body (fn := Try.f39) Try.func39 rfl (Nat.le_of_ble_eq_true rfl) trivial ?_
  intro w0
  show AW _ 20 _ _ _ _
  refine AW.bound (t := 0) rfl fun hx => ?_
  refine AW.seq ?_
  refine AW.region ?_
  refine ARun.pure (PureOp.assign rfl .int) rfl rfl (Nat.le_of_ble_eq_true rfl) ?_
  refine ARun.nil ?_
  refine AW.seq ?_
  refine AW.region ?_
  refine ARun.pure (PureOp.assign rfl .int) rfl rfl (Nat.le_of_ble_eq_true rfl) ?_
  refine ARun.nil ?_
  refine AW.seq ?_
  refine AW.seq ?_
  refine AW.region ?_
  refine ARun.pure (PureOp.move rfl (.tmp rfl)) rfl rfl (Nat.le_of_ble_eq_true rfl) ?_
  refine ARun.pure (PureOp.lenLst rfl (.tmp rfl) vfu_sl_47) rfl rfl (Nat.le_of_ble_eq_true rfl) ?_
  refine ARun.pure (PureOp.move rfl .int) rfl rfl (Nat.le_of_ble_eq_true rfl) ?_
  refine ARun.nil ?_
  refine AW.block ?_
  refine AW.loop (ι := Nat) (fun k => ⟨[(3, .one (.int .i64 (((numTo l k) : Nat) : Int))), (6, .one (.lst 1 l.length (fun i0 _ => .int .u8 (((l.getD i0 0).toNat : Nat) : Int)))), (7, .one (.int .i64 (l.length : Int))), (8, .one (.int .i64 (k : Int)))], []⟩) (fun k => k ≤ l.length) (fun k => l.length - k) 0 (Nat.zero_le _) ⟨⟨⟨_, rfl, rfl⟩, ⟨_, rfl, rfl⟩, ⟨_, rfl, rfl⟩, ⟨_, rfl, rfl⟩, trivial⟩, trivial⟩ ?_
  intro k hk
  have hnt := numTo_lt l k
  refine AW.seq ?_
  refine AW.region ?_
  refine ARun.pure (PureOp.intOp rfl (.tmp rfl) (.tmp rfl) rfl) rfl rfl (Nat.le_of_ble_eq_true rfl) ?_
  refine ARun.nil ?_
  refine AW.seq ?_
  refine AW.cond (.tmp rfl) (fun hb1 => ?_) (fun hb1 => ?_)
  · have _u := True.intro
    replace hb1 := of_decide_eq_true hb1
    have hkl : k < l.length := by omega
    have hu := UInt8.toNat_lt (l.getD k 0)
    refine AW.skip ?_
    refine AW.seq ?_
    refine AW.block ?_
    refine AW.seq ?_
    refine AW.region ?_
    refine ARun.pure (PureOp.indexLst (i := k) rfl (.tmp rfl) vfu_el_47_1 (.tmp rfl) rfl (by omega)) rfl rfl (Nat.le_of_ble_eq_true rfl) ?_
    refine ARun.pure (PureOp.loadRef rfl (.tmp rfl) vfu_pl_5 (Nat.le_of_ble_eq_true rfl)) rfl rfl (Nat.le_of_ble_eq_true rfl) ?_
    refine ARun.pure (PureOp.assign rfl (.tmp rfl)) rfl rfl (Nat.le_of_ble_eq_true rfl) ?_
    refine ARun.nil ?_
    refine AW.region ?_
    refine ARun.pure (PureOp.move rfl (.tmp rfl)) rfl rfl (Nat.le_of_ble_eq_true rfl) ?_
    refine ARun.pure (PureOp.mul (c := ((31 * (numTo l k) : Nat) : Int)) rfl .int (.tmp rfl) (by rw [wrap_id (by omega) (by omega)]; omega)) rfl rfl (Nat.le_of_ble_eq_true rfl) ?_
    refine ARun.pure (PureOp.move rfl (.tmp rfl)) rfl rfl (Nat.le_of_ble_eq_true rfl) ?_
    refine ARun.pure (PureOp.conv (b := (((l.getD k 0).toNat : Nat) : Int)) rfl (.tmp rfl) vfu_cv_5_3_.i64 (wrap_id (by have := UInt8.toNat_lt (l.getD k 0); omega) (by have := UInt8.toNat_lt (l.getD k 0); omega))) rfl rfl (Nat.le_of_ble_eq_true rfl) ?_
    refine ARun.pure (PureOp.add (c := ((31 * (numTo l k) + ((l.getD k 0).toNat) : Nat) : Int)) rfl (.tmp rfl) (.tmp rfl) (by have hu := UInt8.toNat_lt (l.getD k 0); rw [wrap_id (by omega) (by omega)]; omega)) rfl rfl (Nat.le_of_ble_eq_true rfl) ?_
    refine ARun.pure (PureOp.rem (a := 31 * (numTo l k) + ((l.getD k 0).toNat)) (b := 1000003) rfl (.tmp rfl) .int rfl (by decide) (by omega)) rfl rfl (Nat.le_of_ble_eq_true rfl) ?_
    refine ARun.pure (PureOp.assign rfl (.tmp rfl)) rfl rfl (Nat.le_of_ble_eq_true rfl) ?_
    refine ARun.nil ?_
    refine AW.region ?_
    refine ARun.pure (PureOp.add (c := ((k + 1 : Nat) : Int)) rfl (.tmp rfl) .int (by rw [wrap_id (by omega) (by omega)]; omega)) rfl rfl (Nat.le_of_ble_eq_true rfl) ?_
    refine ARun.pure (PureOp.move rfl (.tmp rfl)) rfl rfl (Nat.le_of_ble_eq_true rfl) ?_
    refine ARun.nil ?_
    exact ⟨k + 1, by omega, by dsimp only; omega, ⟨⟨⟨_, rfl, rfl⟩, ⟨_, rfl, rfl⟩, ⟨_, rfl, rfl⟩, ⟨_, rfl, rfl⟩, trivial⟩, trivial⟩⟩
  · have _u := True.intro
    replace hb1 := of_decide_eq_false hb1
    have hkl : ¬ k < l.length := by omega
    have hu := UInt8.toNat_lt (l.getD k 0)
    have hke : k = l.length := by omega
    refine AW.exit ?_
    refine AW.seq ?_
    refine AW.region ?_
    refine ARun.pure (PureOp.move rfl (.tmp rfl)) rfl rfl (Nat.le_of_ble_eq_true rfl) ?_
    refine ARun.pure (PureOp.assign rfl (.tmp rfl)) rfl rfl (Nat.le_of_ble_eq_true rfl) ?_
    refine ARun.nil ?_
    refine AW.ret (show ResL _ _ [.tmp 2] _ from resI rfl ?_)
    rw [hke]

theorem v_sameInts (a b : List Int) : Fn Try.prog 33 [.one (.lst 1 a.length (fun i0 _ => .int .i64 (a.getD i0 0))), .one (.lst 1 b.length (fun i0 _ => .int .i64 (b.getD i0 0)))] (.one (.bool (decide (a = b)))) := by
  refine Fn.of_body (fn := Try.f33) Try.func33 rfl (Nat.le_of_ble_eq_true rfl) trivial ?_
  intro w0
  show AW _ 26 _ _ _ _
  refine AW.bound (t := 0) rfl fun hx => ?_
  refine AW.seq ?_
  refine AW.region ?_
  refine ARun.pure (PureOp.assign rfl .bool) rfl rfl (Nat.le_of_ble_eq_true rfl) ?_
  refine ARun.nil ?_
  refine AW.seq ?_
  refine AW.seq ?_
  refine AW.region ?_
  refine ARun.pure (PureOp.move rfl (.tmp rfl)) rfl rfl (Nat.le_of_ble_eq_true rfl) ?_
  refine ARun.pure (PureOp.lenLst rfl (.tmp rfl) vfu_sl_30) rfl rfl (Nat.le_of_ble_eq_true rfl) ?_
  refine ARun.pure (PureOp.move rfl (.tmp rfl)) rfl rfl (Nat.le_of_ble_eq_true rfl) ?_
  refine ARun.pure (PureOp.lenLst rfl (.tmp rfl) vfu_sl_30) rfl rfl (Nat.le_of_ble_eq_true rfl) ?_
  refine ARun.pure (PureOp.intOp rfl (.tmp rfl) (.tmp rfl) rfl) rfl rfl (Nat.le_of_ble_eq_true rfl) ?_
  refine ARun.nil ?_
  refine AW.cond (.tmp rfl) (fun hb1 => ?_) (fun hb1 => ?_)
  · have _u := True.intro
    replace hb1 := of_decide_eq_false (of_not hb1)
    have hln : a.length ≠ b.length := by omega
    refine AW.seq ?_
    refine AW.region ?_
    refine ARun.pure (PureOp.assign rfl .bool) rfl rfl (Nat.le_of_ble_eq_true rfl) ?_
    refine ARun.nil ?_
    refine AW.ret (show ResL _ _ [.tmp 4] _ from resB rfl ?_)
    exact (decide_eq_false (fun e => hln (by rw [e]))).symm
  · have _u := True.intro
    replace hb1 := of_decide_eq_true (not_f hb1)
    have hln : a.length = b.length := by omega
    refine AW.skip ?_
    refine AW.seq ?_
    refine AW.seq ?_
    refine AW.region ?_
    refine ARun.pure (PureOp.move rfl (.tmp rfl)) rfl rfl (Nat.le_of_ble_eq_true rfl) ?_
    refine ARun.pure (PureOp.lenLst rfl (.tmp rfl) vfu_sl_30) rfl rfl (Nat.le_of_ble_eq_true rfl) ?_
    refine ARun.pure (PureOp.move rfl .int) rfl rfl (Nat.le_of_ble_eq_true rfl) ?_
    refine ARun.nil ?_
    refine AW.block ?_
    refine AW.loop (ι := Nat) (fun k => ⟨[(0, .one (.lst 1 a.length (fun i0 _ => .int .i64 (a.getD i0 0)))), (1, .one (.lst 1 b.length (fun i0 _ => .int .i64 (b.getD i0 0)))), (12, .one (.int .i64 (a.length : Int))), (13, .one (.int .i64 (k : Int)))], []⟩) (fun k => k ≤ a.length ∧ ∀ j, j < k → a.getD j 0 = b.getD j 0) (fun k => a.length - k) 0 ⟨Nat.zero_le _, fun j hj => absurd hj (Nat.not_lt_zero j)⟩ ⟨⟨⟨_, rfl, rfl⟩, ⟨_, rfl, rfl⟩, ⟨_, rfl, rfl⟩, ⟨_, rfl, rfl⟩, trivial⟩, trivial⟩ ?_
    intro k hk
    obtain ⟨hk, hks⟩ := hk
    refine AW.seq ?_
    refine AW.region ?_
    refine ARun.pure (PureOp.intOp rfl (.tmp rfl) (.tmp rfl) rfl) rfl rfl (Nat.le_of_ble_eq_true rfl) ?_
    refine ARun.nil ?_
    refine AW.seq ?_
    refine AW.cond (.tmp rfl) (fun hb2 => ?_) (fun hb2 => ?_)
    · have _u := True.intro
      replace hb2 := of_decide_eq_true hb2
      have hkl : k < a.length := by omega
      refine AW.skip ?_
      refine AW.seq ?_
      refine AW.block ?_
      refine AW.seq ?_
      refine AW.region ?_
      refine ARun.pure (PureOp.move rfl (.tmp rfl)) rfl rfl (Nat.le_of_ble_eq_true rfl) ?_
      refine ARun.pure (PureOp.assign rfl (.tmp rfl)) rfl rfl (Nat.le_of_ble_eq_true rfl) ?_
      refine ARun.nil ?_
      refine AW.seq ?_
      refine AW.any (by kernel_rfl) (by kernel_rfl) ?_
      refine AD.pure (PureOp.move rfl (.tmp rfl)) rfl rfl (Nat.le_of_ble_eq_true rfl) ?_
      refine AD.pure (PureOp.move rfl (.tmp rfl)) rfl rfl (Nat.le_of_ble_eq_true rfl) ?_
      refine AD.pure (PureOp.indexLst (i := k) rfl (.tmp rfl) vfu_el_30_1 (.tmp rfl) rfl (by omega)) rfl rfl (Nat.le_of_ble_eq_true rfl) ?_
      refine AD.pure (PureOp.loadRef rfl (.tmp rfl) vfu_pl_3 (Nat.le_of_ble_eq_true rfl)) rfl rfl (Nat.le_of_ble_eq_true rfl) ?_
      refine AD.pure (PureOp.move rfl (.tmp rfl)) rfl rfl (Nat.le_of_ble_eq_true rfl) ?_
      refine AD.pure (PureOp.move rfl (.tmp rfl)) rfl rfl (Nat.le_of_ble_eq_true rfl) ?_
      refine AD.pure (PureOp.indexLst (i := k) rfl (.tmp rfl) vfu_el_30_1 (.tmp rfl) rfl (by omega)) rfl rfl (Nat.le_of_ble_eq_true rfl) ?_
      refine AD.pure (PureOp.loadRef rfl (.tmp rfl) vfu_pl_3 (Nat.le_of_ble_eq_true rfl)) rfl rfl (Nat.le_of_ble_eq_true rfl) ?_
      refine AD.pure (PureOp.intOp rfl (.tmp rfl) (.tmp rfl) rfl) rfl rfl (Nat.le_of_ble_eq_true rfl) ?_
      refine AD.nil ?_
      refine AW.cond (.tmp rfl) (fun hb3 => ?_) (fun hb3 => ?_)
      · have _u := True.intro
        replace hb3 := of_decide_eq_false (of_not hb3)
        refine AW.seq ?_
        refine AW.region ?_
        refine ARun.pure (PureOp.assign rfl .bool) rfl rfl (Nat.le_of_ble_eq_true rfl) ?_
        refine ARun.nil ?_
        refine AW.ret (show ResL _ _ [.tmp 4] _ from resB rfl ?_)
        exact (decide_eq_false (fun e => hb3 (by rw [e]))).symm
      · have _u := True.intro
        replace hb3 := of_decide_eq_true (not_f hb3)
        have heq := hb3
        refine AW.skip ?_
        refine AW.region ?_
        refine ARun.pure (PureOp.add (c := ((k + 1 : Nat) : Int)) rfl (.tmp rfl) .int (by rw [wrap_id (by omega) (by omega)]; omega)) rfl rfl (Nat.le_of_ble_eq_true rfl) ?_
        refine ARun.pure (PureOp.move rfl (.tmp rfl)) rfl rfl (Nat.le_of_ble_eq_true rfl) ?_
        refine ARun.nil ?_
        exact ⟨k + 1, ⟨by omega, rng_succ hks heq⟩, by dsimp only; omega, ⟨⟨⟨_, rfl, rfl⟩, ⟨_, rfl, rfl⟩, ⟨_, rfl, rfl⟩, ⟨_, rfl, rfl⟩, trivial⟩, trivial⟩⟩
    · have _u := True.intro
      replace hb2 := of_decide_eq_false hb2
      have hkl : ¬ k < a.length := by omega
      refine AW.exit ?_
      refine AW.seq ?_
      refine AW.region ?_
      refine ARun.pure (PureOp.assign rfl .bool) rfl rfl (Nat.le_of_ble_eq_true rfl) ?_
      refine ARun.nil ?_
      refine AW.ret (show ResL _ _ [.tmp 4] _ from resB rfl ?_)
      exact (decide_eq_true (same_yes hln fun j hj => hks j (by omega))).symm

def cksV (n : Int) (l : List GEvent) : List (List Int) × Bool := if goodEvs n l = true then (ckTo n.toNat l l.length, true) else ([], false)
theorem v_iClocksOf (n : Int) (l : List GEvent) (hn : I64 n) : FnT Try.prog 25 [.one (.int .i64 n), .one (.lst 2 l.length (fun i0 j0 => ([.int .i64 ((l.getD i0 (default : GEvent)).a), .int .i64 ((l.getD i0 (default : GEvent)).b)] : List AV).getD j0 (.con undef)))] (.tup2 (.one (.lst 1 (((cksV n l).1).length) (fun i0 _ => .lst 1 ((((cksV n l).1).getD i0 []).length) (fun i1 _ => .int .i64 ((((cksV n l).1).getD i0 []).getD i1 0))))) (.one (.bool ((cksV n l).2)))) := by
  obtain ⟨hn0, hn1⟩ := hn
  refine FnT.of_body (fn := Try.f25) Try.func25 rfl (Nat.le_of_ble_eq_true rfl)  ?_
  intro w0
  show AW _ 13 _ _ _ _
  refine AW.seq ?_
  refine AW.region ?_
  refine ARun.pure (PureOp.assign rfl .con) rfl rfl (Nat.le_of_ble_eq_true rfl) ?_
  refine ARun.pure (PureOp.assign rfl .bool) rfl rfl (Nat.le_of_ble_eq_true rfl) ?_
  refine ARun.nil ?_
  refine AW.seq ?_
  refine AW.seq ?_
  refine AW.region ?_
  refine ARun.pure (PureOp.move rfl (.tmp rfl)) rfl rfl (Nat.le_of_ble_eq_true rfl) ?_
  refine ARun.pure (PureOp.move rfl (.tmp rfl)) rfl rfl (Nat.le_of_ble_eq_true rfl) ?_
  refine ARun.pure (PureOp.call rfl (v_areEvents n l ⟨by omega, by omega⟩) ⟨⟨_, (.tmp rfl), .int⟩, ⟨_, (.tmp rfl), .lst⟩, trivial⟩ vfu_ca_48 trivial) rfl rfl (Nat.le_of_ble_eq_true rfl) ?_
  refine ARun.pure (PureOp.not rfl (.tmp rfl)) rfl rfl (Nat.le_of_ble_eq_true rfl) ?_
  refine ARun.nil ?_
  refine AW.cond (.tmp rfl) (fun hb1 => ?_) (fun hb1 => ?_)
  · have _u := True.intro
    have hg : ¬ goodEvs n l = true := by intro e; rw [e] at hb1; cases hb1
    refine AW.seq ?_
    refine AW.region ?_
    refine ARun.pure (PureOp.assign rfl .con) rfl rfl (Nat.le_of_ble_eq_true rfl) ?_
    refine ARun.pure (PureOp.assign rfl .bool) rfl rfl (Nat.le_of_ble_eq_true rfl) ?_
    refine ARun.nil ?_
    rw [show cksV n l = ([], false) from if_neg hg]
    exact AW.ret (show ∃ s t, ResL _ _ [.tmp 4, .tmp 5] s ∧ TvS _ (ofLeaf t) 0 s _ from ⟨_, fun a b => 1000, .inr (.inl ⟨_, _, _, _, rfl, .tmp rfl, .tmp rfl, rfl⟩), ⟨.nil, .bool⟩⟩)
  · have _u := True.intro
    have hg : goodEvs n l = true := by cases e : goodEvs n l with | true => rfl | false => rw [e] at hb1; cases hb1
    refine AW.skip ?_
    refine AW.seq ?_
    refine AW.region ?_
    refine ARun.pure (PureOp.move rfl (.tmp rfl)) rfl rfl (Nat.le_of_ble_eq_true rfl) ?_
    refine ARun.pure (PureOp.move rfl (.tmp rfl)) rfl rfl (Nat.le_of_ble_eq_true rfl) ?_
    refine ARun.prod (K := 0) rfl (v_ClocksI n l hg) ⟨rfl, (by repeat first | exact trivial | refine ⟨by decide, by first | rfl | exact trivial | (intro i j; first | rfl | exact getD_no rfl | (dsimp only; split <;> first | rfl | exact getD_no rfl) | exact scl_no (by apply_assumption) _), ?_⟩)⟩ ⟨⟨_, (.tmp rfl), .int⟩, ⟨_, (.tmp rfl), .lst⟩, trivial⟩ vfu_ca_50 rfl rfl rfl rfl rfl (Nat.le_of_ble_eq_true rfl) ?_
    refine ARun.pure (PureOp.assign rfl (.tmp rfl)) rfl rfl (Nat.le_of_ble_eq_true rfl) ?_
    refine ARun.pure (PureOp.assign rfl .bool) rfl rfl (Nat.le_of_ble_eq_true rfl) ?_
    refine ARun.nil ?_
    rw [show cksV n l = (ckTo n.toNat l l.length, true) from if_pos hg]
    exact AW.ret (show ∃ s t, ResL _ _ [.tmp 4, .tmp 5] s ∧ TvS _ (ofLeaf t) 0 s _ from ⟨_, fun a b => if a = 0 then 0 else 1000, .inr (.inl ⟨_, _, _, _, rfl, .tmp rfl, .tmp rfl, rfl⟩), ⟨(Tv.cast (Tv.tre rfl (Nat.le_of_ble_eq_true rfl) (by rfl)) rfl), .bool⟩⟩)
end Go.Proofs.Ytmkhahiefdcinaa

namespace Go.Proofs.Ytmkhahiefdcinaa
open Go.ChangeShapes Go.WideShapes Go.ChangeAt Go.RowKit Go.BigFrame Go.Deep
set_option linter.unusedVariables false
set_option linter.unusedSimpArgs false
theorem vlc_bo_4 : boolB Try.prog 4 = true := by kernel_rfl
theorem vlc_ca_21 : callB Try.prog 21 = true := by kernel_rfl
theorem vlc_ca_23 : callB Try.prog 23 = true := by kernel_rfl
theorem vlc_ca_25 : callB Try.prog 25 = true := by kernel_rfl
theorem vlc_ca_29 : callB Try.prog 29 = true := by kernel_rfl
theorem vlc_ca_30 : callB Try.prog 30 = true := by kernel_rfl
theorem vlc_ca_33 : callB Try.prog 33 = true := by kernel_rfl
theorem vlc_ca_38 : callB Try.prog 38 = true := by kernel_rfl
theorem vlc_ca_39 : callB Try.prog 39 = true := by kernel_rfl
theorem vlc_ca_40 : callB Try.prog 40 = true := by kernel_rfl
theorem vlc_ca_41 : callB Try.prog 41 = true := by kernel_rfl
theorem vlc_ca_42 : callB Try.prog 42 = true := by kernel_rfl
theorem vlc_ca_43 : callB Try.prog 43 = true := by kernel_rfl
theorem vlc_el_40_1 : elemB Try.prog 40 1 = true := by kernel_rfl
theorem vlc_pl_30 : plainB Try.prog 30 = true := by kernel_rfl
theorem vlc_sl_26 : sliceB Try.prog 26 = true := by kernel_rfl
theorem vlc_sl_47 : sliceB Try.prog 47 = true := by kernel_rfl
theorem opensC_5 : OpensC Try.prog 5 (fun x : UInt8 => [.int .u8 ((x.toNat : Nat) : Int)]) := OpensC.byte Try.underlying5
theorem opensC_47 : OpensC Try.prog 47 (fun x : List UInt8 => [.lst 1 x.length (fun i0 _ => .int .u8 (((x.getD i0 0).toNat : Nat) : Int))]) := OpensC.slice (0 : UInt8) Try.underlying47 (by kernel_rfl) (by decide) opensC_5 (fun _ => rfl) (fun l i j _ hj => match j, hj with | 0, _ => rfl | _ + 1, h => absurd h (by omega))

theorem law_Cuts (x0 x1 : List UInt8) : Fn Try.prog 9 [.one (.lst 1 x0.length (fun i0 _ => .int .u8 (((x0.getD i0 0).toNat : Nat) : Int))), .one (.lst 1 x1.length (fun i0 _ => .int .u8 (((x1.getD i0 0).toNat : Nat) : Int)))] (.one (.bool true)) := by
  refine Fn.of_body (fn := Try.f9) Try.func9 rfl (Nat.le_of_ble_eq_true rfl) trivial ?_
  intro w0
  show AW _ 196 _ _ _ _
  refine AW.seq ?_
  refine AW.region ?_
  refine ARun.pure (PureOp.assign rfl .bool) rfl rfl (Nat.le_of_ble_eq_true rfl) ?_
  refine ARun.nil ?_
  refine AW.seq ?_
  refine AW.seq ?_
  refine AW.region ?_
  refine ARun.pure (PureOp.move rfl (.tmp rfl)) rfl rfl (Nat.le_of_ble_eq_true rfl) ?_
  refine ARun.pure (PureOp.lenLst rfl (.tmp rfl) vlc_sl_47) rfl rfl (Nat.le_of_ble_eq_true rfl) ?_
  refine ARun.pure (PureOp.move rfl (.tmp rfl)) rfl rfl (Nat.le_of_ble_eq_true rfl) ?_
  refine ARun.pure (PureOp.lenLst rfl (.tmp rfl) vlc_sl_47) rfl rfl (Nat.le_of_ble_eq_true rfl) ?_
  refine ARun.pure (PureOp.intOp rfl (.tmp rfl) (.tmp rfl) rfl) rfl rfl (Nat.le_of_ble_eq_true rfl) ?_
  refine ARun.pure (PureOp.intOp rfl (.tmp rfl) .int rfl) rfl rfl (Nat.le_of_ble_eq_true rfl) ?_
  refine ARun.nil ?_
  refine AW.cond (.tmp rfl) (fun hb1 => ?_) (fun hb1 => ?_)
  · have _u := True.intro
    have _h := hb1
    refine AW.seq ?_
    refine AW.region ?_
    refine ARun.pure (PureOp.assign rfl .bool) rfl rfl (Nat.le_of_ble_eq_true rfl) ?_
    refine ARun.nil ?_
    refine AW.ret (show ResL _ _ [.tmp 4] _ from resB rfl ?_)
    rfl
  · have _u := True.intro
    have _h := hb1
    refine AW.skip ?_
    refine AW.seq ?_
    refine AW.region ?_
    refine ARun.pure (PureOp.move rfl (.tmp rfl)) rfl rfl (Nat.le_of_ble_eq_true rfl) ?_
    refine ARun.draw rfl (v_DrawCutOf x0.length (fun i => (x0.getD i 0).toNat) (fun i => UInt8.toNat_lt _)) vlc_ca_38 ⟨⟨_, (.tmp rfl), .lst⟩, trivial⟩ rfl rfl (Nat.le_of_ble_eq_true rfl) (fun x2 hd3 => ?_)
    obtain ⟨⟨⟨hn1, hn2⟩, hlen, hre⟩, hk1, hk2⟩ := hd3
    refine ARun.pure (PureOp.move rfl (.tmp rfl)) rfl rfl (Nat.le_of_ble_eq_true rfl) ?_
    refine ARun.pure (PureOp.ext3a rfl (.tmp rfl)) rfl rfl (Nat.le_of_ble_eq_true rfl) ?_
    refine ARun.pure (PureOp.ext3b rfl (.tmp rfl)) rfl rfl (Nat.le_of_ble_eq_true rfl) ?_
    refine ARun.pure (PureOp.ext3c rfl (.tmp rfl)) rfl rfl (Nat.le_of_ble_eq_true rfl) ?_
    refine ARun.pure (PureOp.assign rfl (.tmp rfl)) rfl rfl (Nat.le_of_ble_eq_true rfl) ?_
    refine ARun.pure (PureOp.assign rfl (.tmp rfl)) rfl rfl (Nat.le_of_ble_eq_true rfl) ?_
    refine ARun.pure (PureOp.assign rfl (.tmp rfl)) rfl rfl (Nat.le_of_ble_eq_true rfl) ?_
    refine ARun.nil ?_
    refine AW.seq ?_
    refine AW.region ?_
    refine ARun.pure (PureOp.move rfl (.tmp rfl)) rfl rfl (Nat.le_of_ble_eq_true rfl) ?_
    refine ARun.pure (PureOp.move rfl (.tmp rfl)) rfl rfl (Nat.le_of_ble_eq_true rfl) ?_
    refine ARun.pure (PureOp.move rfl (.tmp rfl)) rfl rfl (Nat.le_of_ble_eq_true rfl) ?_
    refine ARun.fresh (FreshOp.callS rfl (FnT.toF (v_iCut (x2.1 : Int) x2.2.1 x2.2.2 ⟨by omega, by omega⟩ ⟨by omega, by omega⟩)) ⟨⟨_, (.tmp rfl), .int⟩, ⟨_, (.tmp rfl), .frs⟩, ⟨_, (.tmp rfl), .int⟩, trivial⟩ vlc_ca_30 rfl) rfl rfl (Nat.le_of_ble_eq_true rfl) ?_
    refine ARun.pure (PureOp.move rfl (.tmp rfl)) rfl rfl (Nat.le_of_ble_eq_true rfl) ?_
    refine ARun.pure (PureOp.ext2a rfl (.tmp rfl)) rfl rfl (Nat.le_of_ble_eq_true rfl) ?_
    refine ARun.pure (PureOp.ext2b rfl (.tmp rfl)) rfl rfl (Nat.le_of_ble_eq_true rfl) ?_
    refine ARun.pure (PureOp.assign rfl (.tmp rfl)) rfl rfl (Nat.le_of_ble_eq_true rfl) ?_
    refine ARun.pure (PureOp.assign rfl (.tmp rfl)) rfl rfl (Nat.le_of_ble_eq_true rfl) ?_
    refine ARun.nil ?_
    refine AW.seq ?_
    refine AW.region ?_
    refine ARun.pure (PureOp.move rfl (.tmp rfl)) rfl rfl (Nat.le_of_ble_eq_true rfl) ?_
    refine ARun.pure (PureOp.move rfl (.tmp rfl)) rfl rfl (Nat.le_of_ble_eq_true rfl) ?_
    refine ARun.pure (PureOp.move rfl (.tmp rfl)) rfl rfl (Nat.le_of_ble_eq_true rfl) ?_
    refine ARun.fresh (FreshOp.callS rfl (FnT.toF (v_sCut (x2.1 : Int) x2.2.1 x2.2.2 ⟨by omega, by omega⟩ ⟨by omega, by omega⟩)) ⟨⟨_, (.tmp rfl), .int⟩, ⟨_, (.tmp rfl), .frs⟩, ⟨_, (.tmp rfl), .int⟩, trivial⟩ vlc_ca_29 rfl) rfl rfl (Nat.le_of_ble_eq_true rfl) ?_
    refine ARun.pure (PureOp.move rfl (.tmp rfl)) rfl rfl (Nat.le_of_ble_eq_true rfl) ?_
    refine ARun.pure (PureOp.ext2a rfl (.tmp rfl)) rfl rfl (Nat.le_of_ble_eq_true rfl) ?_
    refine ARun.pure (PureOp.ext2b rfl (.tmp rfl)) rfl rfl (Nat.le_of_ble_eq_true rfl) ?_
    refine ARun.pure (PureOp.assign rfl (.tmp rfl)) rfl rfl (Nat.le_of_ble_eq_true rfl) ?_
    refine ARun.pure (PureOp.assign rfl (.tmp rfl)) rfl rfl (Nat.le_of_ble_eq_true rfl) ?_
    refine ARun.nil ?_
    refine AW.seq ?_
    refine AW.seq ?_
    refine AW.region ?_
    refine ARun.pure (PureOp.move rfl (.tmp rfl)) rfl rfl (Nat.le_of_ble_eq_true rfl) ?_
    refine ARun.pure (PureOp.move rfl (.tmp rfl)) rfl rfl (Nat.le_of_ble_eq_true rfl) ?_
    refine ARun.pure (PureOp.boolNe rfl (.tmp rfl) (.tmp rfl) vlc_bo_4) rfl rfl (Nat.le_of_ble_eq_true rfl) ?_
    refine ARun.pure (PureOp.move rfl (.tmp rfl)) rfl rfl (Nat.le_of_ble_eq_true rfl) ?_
    refine ARun.gpure (want := false) (.tf rfl) (fun hg4 => PureOp.move rfl (.tmp rfl)) rfl rfl (Nat.le_of_ble_eq_true rfl) rfl (Nat.le_of_ble_eq_true rfl) ?_
    refine ARun.gpure (want := false) (.tf rfl) (fun hg5 => PureOp.move rfl (.tmp rfl)) rfl rfl (Nat.le_of_ble_eq_true rfl) rfl (Nat.le_of_ble_eq_true rfl) ?_
    refine ARun.gpure (want := false) (.tf rfl) (fun hg6 => PureOp.call rfl (v_sameInts ((cutV (x2.1 : Int) x2.2.1 x2.2.2).1) ((cutV (x2.1 : Int) x2.2.1 x2.2.2).1)) ⟨⟨_, (.gtmp rfl hg6), .frs⟩, ⟨_, (.gtmp rfl hg6), .frs⟩, trivial⟩ vlc_ca_33 trivial) rfl rfl (Nat.le_of_ble_eq_true rfl) rfl (Nat.le_of_ble_eq_true rfl) ?_
    refine ARun.gpure (want := false) (.tf rfl) (fun hg7 => PureOp.not rfl (.gtmp rfl hg7)) rfl rfl (Nat.le_of_ble_eq_true rfl) rfl (Nat.le_of_ble_eq_true rfl) ?_
    refine ARun.pure (PureOp.pick rfl (.tmp rfl) (fun _ => .bool) (fun hp9 => .gtmp rfl (not_of hp9))) rfl rfl (Nat.le_of_ble_eq_true rfl) ?_
    refine ARun.nil ?_
    refine AW.cond (.tmp rfl) (fun hb10 => ?_) (fun hb10 => ?_)
    · have _u := True.intro
      exact absurd (show (cond (!(((cutV (x2.1 : Int) x2.2.1 x2.2.2).2) == ((cutV (x2.1 : Int) x2.2.1 x2.2.2).2))) true (!(decide (((cutV (x2.1 : Int) x2.2.1 x2.2.2).1) = ((cutV (x2.1 : Int) x2.2.1 x2.2.2).1))))) = false by simp) (by rw [hb10]; simp)
      --end
    · have _u := True.intro
      have _h := hb10
      refine AW.skip ?_
      refine AW.seq ?_
      refine AW.seq ?_
      refine AW.region ?_
      refine ARun.pure (PureOp.move rfl (.tmp rfl)) rfl rfl (Nat.le_of_ble_eq_true rfl) ?_
      refine ARun.nil ?_
      refine AW.cond (.tmp rfl) (fun hb11 => ?_) (fun hb11 => ?_)
      · have _u := True.intro
        have hok : ctOk (x2.1 : Int) x2.2.1 x2.2.2 := cut_ok hb11
        have hcv : (cutV (x2.1 : Int) x2.2.1 x2.2.2) = _ := cut_yes hok
        obtain ⟨hg, hka, hkb⟩ := id hok
        have hkl : x2.2.2.toNat < x2.2.1.length := by omega
        have hke : ((x2.2.2.toNat : Nat) : Int) = x2.2.2 := Int.toNat_of_nonneg hka
        have hcf := cut_facts hg hkl
        have hcr : allRi ((cutV (x2.1 : Int) x2.2.1 x2.2.2)).1 := by rw [hcv]; exact hcf.2
        have hcks : cksV (x2.1 : Int) x2.2.1 = _ := if_pos hg
        have hjl : (numTo x1 x1.length % x2.2.1.length) < x2.2.1.length := Nat.mod_lt _ (by omega)
        have hok2 : ctOk (x2.1 : Int) x2.2.1 ((numTo x1 x1.length % x2.2.1.length : Nat) : Int) := ⟨hg, by omega, by omega⟩
        have hnt := numTo_lt x1 x1.length
        have hdv := cut_yes hok2
        have hdf := cut_facts hg hjl
        have hdr : allRi (cutV (x2.1 : Int) x2.2.1 ((numTo x1 x1.length % x2.2.1.length : Nat) : Int)).1 := by rw [hdv]; exact hdf.2
        have hjf := join_facts hg hkl hjl
        simp only [Int.toNat_natCast] at hcv hcf hcks hdv hdf hjf
        have hjr : allRi (joinL ((cutV (x2.1 : Int) x2.2.1 x2.2.2)).1 (cutV (x2.1 : Int) x2.2.1 ((numTo x1 x1.length % x2.2.1.length : Nat) : Int)).1) := by rw [hcv, hdv]; exact hjf.2
        refine AW.seq ?_
        refine AW.region ?_
        refine ARun.pure (PureOp.move rfl (.tmp rfl)) rfl rfl (Nat.le_of_ble_eq_true rfl) ?_
        refine ARun.pure (PureOp.move rfl (.tmp rfl)) rfl rfl (Nat.le_of_ble_eq_true rfl) ?_
        refine ARun.pure (PureOp.move rfl (.tmp rfl)) rfl rfl (Nat.le_of_ble_eq_true rfl) ?_
        refine ARun.pure (PureOp.call rfl (v_iIsCut (x2.1 : Int) x2.2.1 ((cutV (x2.1 : Int) x2.2.1 x2.2.2).1) ⟨by omega, by omega⟩ hre hcr) ⟨⟨_, (.tmp rfl), .int⟩, ⟨_, (.tmp rfl), .frs⟩, ⟨_, (.tmp rfl), .frs⟩, trivial⟩ vlc_ca_23 ⟨trivial, trivial⟩) rfl rfl (Nat.le_of_ble_eq_true rfl) ?_
        refine ARun.pure (PureOp.move rfl (.tmp rfl)) rfl rfl (Nat.le_of_ble_eq_true rfl) ?_
        refine ARun.pure (PureOp.ext2a rfl (.tmp rfl)) rfl rfl (Nat.le_of_ble_eq_true rfl) ?_
        refine ARun.pure (PureOp.ext2b rfl (.tmp rfl)) rfl rfl (Nat.le_of_ble_eq_true rfl) ?_
        refine ARun.pure (PureOp.assign rfl (.tmp rfl)) rfl rfl (Nat.le_of_ble_eq_true rfl) ?_
        refine ARun.pure (PureOp.assign rfl (.tmp rfl)) rfl rfl (Nat.le_of_ble_eq_true rfl) ?_
        refine ARun.nil ?_
        refine AW.seq ?_
        refine AW.region ?_
        refine ARun.pure (PureOp.move rfl (.tmp rfl)) rfl rfl (Nat.le_of_ble_eq_true rfl) ?_
        refine ARun.pure (PureOp.move rfl (.tmp rfl)) rfl rfl (Nat.le_of_ble_eq_true rfl) ?_
        refine ARun.fresh (FreshOp.callS rfl (FnT.toF (v_iClocksOf (x2.1 : Int) x2.2.1 ⟨by omega, by omega⟩)) ⟨⟨_, (.tmp rfl), .int⟩, ⟨_, (.tmp rfl), .frs⟩, trivial⟩ vlc_ca_25 rfl) rfl rfl (Nat.le_of_ble_eq_true rfl) ?_
        refine ARun.pure (PureOp.move rfl (.tmp rfl)) rfl rfl (Nat.le_of_ble_eq_true rfl) ?_
        refine ARun.pure (PureOp.ext2a rfl (.tmp rfl)) rfl rfl (Nat.le_of_ble_eq_true rfl) ?_
        refine ARun.pure (PureOp.ext2b rfl (.tmp rfl)) rfl rfl (Nat.le_of_ble_eq_true rfl) ?_
        refine ARun.pure (PureOp.assign rfl (.tmp rfl)) rfl rfl (Nat.le_of_ble_eq_true rfl) ?_
        refine ARun.pure (PureOp.assign rfl (.tmp rfl)) rfl rfl (Nat.le_of_ble_eq_true rfl) ?_
        refine ARun.nil ?_
        refine AW.seq ?_
        refine AW.seq ?_
        refine AW.region ?_
        refine ARun.pure (PureOp.move rfl (.tmp rfl)) rfl rfl (Nat.le_of_ble_eq_true rfl) ?_
        refine ARun.pure (PureOp.not rfl (.tmp rfl)) rfl rfl (Nat.le_of_ble_eq_true rfl) ?_
        refine ARun.pure (PureOp.move rfl (.tmp rfl)) rfl rfl (Nat.le_of_ble_eq_true rfl) ?_
        refine ARun.gpure (want := false) (.tf rfl) (fun hg12 => PureOp.move rfl (.tmp rfl)) rfl rfl (Nat.le_of_ble_eq_true rfl) rfl (Nat.le_of_ble_eq_true rfl) ?_
        refine ARun.gpure (want := false) (.tf rfl) (fun hg13 => PureOp.not rfl (.gtmp rfl hg13)) rfl rfl (Nat.le_of_ble_eq_true rfl) rfl (Nat.le_of_ble_eq_true rfl) ?_
        refine ARun.pure (PureOp.pick rfl (.tmp rfl) (fun _ => .bool) (fun hp15 => .gtmp rfl (not_of hp15))) rfl rfl (Nat.le_of_ble_eq_true rfl) ?_
        refine ARun.pure (PureOp.move rfl (.tmp rfl)) rfl rfl (Nat.le_of_ble_eq_true rfl) ?_
        refine ARun.gpure (want := false) (.tf rfl) (fun hg16 => PureOp.move rfl (.tmp rfl)) rfl rfl (Nat.le_of_ble_eq_true rfl) rfl (Nat.le_of_ble_eq_true rfl) ?_
        refine ARun.gpure (want := false) (.tf rfl) (fun hg17 => PureOp.not rfl (.gtmp rfl hg17)) rfl rfl (Nat.le_of_ble_eq_true rfl) rfl (Nat.le_of_ble_eq_true rfl) ?_
        refine ARun.pure (PureOp.pick rfl (.tmp rfl) (fun _ => .bool) (fun hp19 => .gtmp rfl (not_of hp19))) rfl rfl (Nat.le_of_ble_eq_true rfl) ?_
        refine ARun.pure (PureOp.move rfl (.tmp rfl)) rfl rfl (Nat.le_of_ble_eq_true rfl) ?_
        refine ARun.gpure (want := false) (.tf rfl) (fun hg20 => PureOp.move rfl (.tmp rfl)) rfl rfl (Nat.le_of_ble_eq_true rfl) rfl (Nat.le_of_ble_eq_true rfl) ?_
        refine ARun.gpure (want := false) (.tf rfl) (fun hg21 => PureOp.move rfl (.tmp rfl)) rfl rfl (Nat.le_of_ble_eq_true rfl) rfl (Nat.le_of_ble_eq_true rfl) ?_
        refine ARun.gpure (want := false) (.tf rfl) (fun hg22 => PureOp.indexLst (i := x2.2.2.toNat) rfl (.frs (.gtmp rfl hg22)) vlc_el_40_1 (.gtmp rfl hg22) hke.symm (by rw [hcks]; show _ < (ckTo _ _ _).length; rw [ckTo_len]; exact hkl)) rfl rfl (Nat.le_of_ble_eq_true rfl) rfl (Nat.le_of_ble_eq_true rfl) ?_
        refine ARun.gpure (want := false) (.tf rfl) (fun hg23 => PureOp.loadRef rfl (.gtmp rfl hg23) vlc_pl_30 (Nat.le_of_ble_eq_true rfl)) rfl rfl (Nat.le_of_ble_eq_true rfl) rfl (Nat.le_of_ble_eq_true rfl) ?_
        refine ARun.gpure (want := false) (.tf rfl) (fun hg24 => PureOp.move rfl (.tmp rfl)) rfl rfl (Nat.le_of_ble_eq_true rfl) rfl (Nat.le_of_ble_eq_true rfl) ?_
        refine ARun.gpure (want := false) (.tf rfl) (fun hg25 => PureOp.call rfl (v_sameInts (((cksV (x2.1 : Int) x2.2.1).1).getD x2.2.2.toNat []) ((cutV (x2.1 : Int) x2.2.1 x2.2.2).1)) ⟨⟨_, (.gtmp rfl hg25), .lst⟩, ⟨_, (.gtmp rfl hg25), .frs⟩, trivial⟩ vlc_ca_33 trivial) rfl rfl (Nat.le_of_ble_eq_true rfl) rfl (Nat.le_of_ble_eq_true rfl) ?_
        refine ARun.gpure (want := false) (.tf rfl) (fun hg26 => PureOp.not rfl (.gtmp rfl hg26)) rfl rfl (Nat.le_of_ble_eq_true rfl) rfl (Nat.le_of_ble_eq_true rfl) ?_
        refine ARun.pure (PureOp.pick rfl (.tmp rfl) (fun _ => .bool) (fun hp28 => .gtmp rfl (not_of hp28))) rfl rfl (Nat.le_of_ble_eq_true rfl) ?_
        refine ARun.nil ?_
        refine AW.cond (.tmp rfl) (fun hb29 => ?_) (fun hb29 => ?_)
        · have _u := True.intro
          have hrw : ∀ m, (ckTo m x2.2.1 x2.2.1.length).getD x2.2.2.toNat [] = rowV m x2.2.1 x2.2.2.toNat := fun _ => rfl
          exact absurd (show (cond (cond (cond (!(cutOk (x2.1 : Int) x2.2.1 ((cutV (x2.1 : Int) x2.2.1 x2.2.2).1))) true (!(cutOk (x2.1 : Int) x2.2.1 ((cutV (x2.1 : Int) x2.2.1 x2.2.2).1) && cutGood x2.2.1 ((cutV (x2.1 : Int) x2.2.1 x2.2.2).1)))) true (!((cksV (x2.1 : Int) x2.2.1).2))) true (!(decide ((((cksV (x2.1 : Int) x2.2.1).1).getD x2.2.2.toNat []) = ((cutV (x2.1 : Int) x2.2.1 x2.2.2).1))))) = false by rw [hcv, hcks]; simp only [hrw]; simp [hcf.1.1, hcf.1.2]) (by rw [hb29]; simp)
          --end
        · have _u := True.intro
          have _h := hb29
          refine AW.skip ?_
          refine AW.seq ?_
          refine AW.region ?_
          refine ARun.pure (PureOp.move rfl (.tmp rfl)) rfl rfl (Nat.le_of_ble_eq_true rfl) ?_
          refine ARun.pure (PureOp.move rfl (.tmp rfl)) rfl rfl (Nat.le_of_ble_eq_true rfl) ?_
          refine ARun.pure (PureOp.move rfl (.tmp rfl)) rfl rfl (Nat.le_of_ble_eq_true rfl) ?_
          refine ARun.pure (PureOp.call rfl (v_numberOf x1) ⟨⟨_, (.tmp rfl), .lst⟩, trivial⟩ vlc_ca_39 trivial) rfl rfl (Nat.le_of_ble_eq_true rfl) ?_
          refine ARun.pure (PureOp.move rfl (.tmp rfl)) rfl rfl (Nat.le_of_ble_eq_true rfl) ?_
          refine ARun.pure (PureOp.lenLst rfl (.frs (.tmp rfl)) vlc_sl_26) rfl rfl (Nat.le_of_ble_eq_true rfl) ?_
          refine ARun.pure (PureOp.rem (a := (numTo x1 x1.length)) (b := x2.2.1.length) rfl (.tmp rfl) (.tmp rfl) rfl (by omega) (by omega)) rfl rfl (Nat.le_of_ble_eq_true rfl) ?_
          refine ARun.fresh (FreshOp.callS rfl (FnT.toF (v_iCut (x2.1 : Int) x2.2.1 (((numTo x1 x1.length) % x2.2.1.length : Nat) : Int) ⟨by omega, by omega⟩ ⟨by omega, by omega⟩)) ⟨⟨_, (.tmp rfl), .int⟩, ⟨_, (.tmp rfl), .frs⟩, ⟨_, (.tmp rfl), .int⟩, trivial⟩ vlc_ca_30 rfl) rfl rfl (Nat.le_of_ble_eq_true rfl) ?_
          refine ARun.pure (PureOp.move rfl (.tmp rfl)) rfl rfl (Nat.le_of_ble_eq_true rfl) ?_
          refine ARun.pure (PureOp.ext2a rfl (.tmp rfl)) rfl rfl (Nat.le_of_ble_eq_true rfl) ?_
          refine ARun.pure (PureOp.ext2b rfl (.tmp rfl)) rfl rfl (Nat.le_of_ble_eq_true rfl) ?_
          refine ARun.pure (PureOp.assign rfl (.tmp rfl)) rfl rfl (Nat.le_of_ble_eq_true rfl) ?_
          refine ARun.pure (PureOp.assign rfl (.tmp rfl)) rfl rfl (Nat.le_of_ble_eq_true rfl) ?_
          refine ARun.nil ?_
          refine AW.seq ?_
          refine AW.region ?_
          refine ARun.pure (PureOp.move rfl (.tmp rfl)) rfl rfl (Nat.le_of_ble_eq_true rfl) ?_
          refine ARun.pure (PureOp.move rfl (.tmp rfl)) rfl rfl (Nat.le_of_ble_eq_true rfl) ?_
          refine ARun.fresh (FreshOp.callS rfl (v_iJoin ((cutV (x2.1 : Int) x2.2.1 x2.2.2).1) ((cutV (x2.1 : Int) x2.2.1 (((numTo x1 x1.length) % x2.2.1.length : Nat) : Int)).1) hcr hdr) ⟨⟨_, (.tmp rfl), .frs⟩, ⟨_, (.tmp rfl), .frs⟩, trivial⟩ vlc_ca_40 rfl) rfl rfl (Nat.le_of_ble_eq_true rfl) ?_
          refine ARun.pure (PureOp.move rfl (.tmp rfl)) rfl rfl (Nat.le_of_ble_eq_true rfl) ?_
          refine ARun.pure (PureOp.ext2a rfl (.tmp rfl)) rfl rfl (Nat.le_of_ble_eq_true rfl) ?_
          refine ARun.pure (PureOp.ext2b rfl (.tmp rfl)) rfl rfl (Nat.le_of_ble_eq_true rfl) ?_
          refine ARun.pure (PureOp.assign rfl (.tmp rfl)) rfl rfl (Nat.le_of_ble_eq_true rfl) ?_
          refine ARun.pure (PureOp.assign rfl (.tmp rfl)) rfl rfl (Nat.le_of_ble_eq_true rfl) ?_
          refine ARun.nil ?_
          refine AW.seq ?_
          refine AW.region ?_
          refine ARun.pure (PureOp.move rfl (.tmp rfl)) rfl rfl (Nat.le_of_ble_eq_true rfl) ?_
          refine ARun.pure (PureOp.move rfl (.tmp rfl)) rfl rfl (Nat.le_of_ble_eq_true rfl) ?_
          refine ARun.pure (PureOp.move rfl (.tmp rfl)) rfl rfl (Nat.le_of_ble_eq_true rfl) ?_
          refine ARun.pure (PureOp.call rfl (v_iIsCut (x2.1 : Int) x2.2.1 (joinL ((cutV (x2.1 : Int) x2.2.1 x2.2.2).1) ((cutV (x2.1 : Int) x2.2.1 (((numTo x1 x1.length) % x2.2.1.length : Nat) : Int)).1)) ⟨by omega, by omega⟩ hre hjr) ⟨⟨_, (.tmp rfl), .int⟩, ⟨_, (.tmp rfl), .frs⟩, ⟨_, (.tmp rfl), .frs⟩, trivial⟩ vlc_ca_23 ⟨trivial, trivial⟩) rfl rfl (Nat.le_of_ble_eq_true rfl) ?_
          refine ARun.pure (PureOp.move rfl (.tmp rfl)) rfl rfl (Nat.le_of_ble_eq_true rfl) ?_
          refine ARun.pure (PureOp.ext2a rfl (.tmp rfl)) rfl rfl (Nat.le_of_ble_eq_true rfl) ?_
          refine ARun.pure (PureOp.ext2b rfl (.tmp rfl)) rfl rfl (Nat.le_of_ble_eq_true rfl) ?_
          refine ARun.pure (PureOp.assign rfl (.tmp rfl)) rfl rfl (Nat.le_of_ble_eq_true rfl) ?_
          refine ARun.pure (PureOp.assign rfl (.tmp rfl)) rfl rfl (Nat.le_of_ble_eq_true rfl) ?_
          refine ARun.nil ?_
          refine AW.seq ?_
          refine AW.region ?_
          refine ARun.pure (PureOp.move rfl (.tmp rfl)) rfl rfl (Nat.le_of_ble_eq_true rfl) ?_
          refine ARun.pure (PureOp.not rfl (.tmp rfl)) rfl rfl (Nat.le_of_ble_eq_true rfl) ?_
          refine ARun.pure (PureOp.move rfl (.tmp rfl)) rfl rfl (Nat.le_of_ble_eq_true rfl) ?_
          refine ARun.gpure (want := false) (.tf rfl) (fun hg30 => PureOp.move rfl (.tmp rfl)) rfl rfl (Nat.le_of_ble_eq_true rfl) rfl (Nat.le_of_ble_eq_true rfl) ?_
          refine ARun.gpure (want := false) (.tf rfl) (fun hg31 => PureOp.not rfl (.gtmp rfl hg31)) rfl rfl (Nat.le_of_ble_eq_true rfl) rfl (Nat.le_of_ble_eq_true rfl) ?_
          refine ARun.pure (PureOp.pick rfl (.tmp rfl) (fun _ => .bool) (fun hp33 => .gtmp rfl (not_of hp33))) rfl rfl (Nat.le_of_ble_eq_true rfl) ?_
          refine ARun.pure (PureOp.move rfl (.tmp rfl)) rfl rfl (Nat.le_of_ble_eq_true rfl) ?_
          refine ARun.gpure (want := false) (.tf rfl) (fun hg34 => PureOp.move rfl (.tmp rfl)) rfl rfl (Nat.le_of_ble_eq_true rfl) rfl (Nat.le_of_ble_eq_true rfl) ?_
          refine ARun.gpure (want := false) (.tf rfl) (fun hg35 => PureOp.not rfl (.gtmp rfl hg35)) rfl rfl (Nat.le_of_ble_eq_true rfl) rfl (Nat.le_of_ble_eq_true rfl) ?_
          refine ARun.pure (PureOp.pick rfl (.tmp rfl) (fun _ => .bool) (fun hp37 => .gtmp rfl (not_of hp37))) rfl rfl (Nat.le_of_ble_eq_true rfl) ?_
          refine ARun.pure (PureOp.move rfl (.tmp rfl)) rfl rfl (Nat.le_of_ble_eq_true rfl) ?_
          refine ARun.gpure (want := false) (.tf rfl) (fun hg38 => PureOp.move rfl (.tmp rfl)) rfl rfl (Nat.le_of_ble_eq_true rfl) rfl (Nat.le_of_ble_eq_true rfl) ?_
          refine ARun.gpure (want := false) (.tf rfl) (fun hg39 => PureOp.not rfl (.gtmp rfl hg39)) rfl rfl (Nat.le_of_ble_eq_true rfl) rfl (Nat.le_of_ble_eq_true rfl) ?_
          refine ARun.pure (PureOp.pick rfl (.tmp rfl) (fun _ => .bool) (fun hp41 => .gtmp rfl (not_of hp41))) rfl rfl (Nat.le_of_ble_eq_true rfl) ?_
          refine ARun.nil ?_
          refine AW.cond (.tmp rfl) (fun hb42 => ?_) (fun hb42 => ?_)
          · have _u := True.intro
            exact absurd (show (cond (cond (cond (!((cutV (x2.1 : Int) x2.2.1 (((numTo x1 x1.length) % x2.2.1.length : Nat) : Int)).2)) true (!(okCk ((cutV (x2.1 : Int) x2.2.1 x2.2.2).1) ((cutV (x2.1 : Int) x2.2.1 (((numTo x1 x1.length) % x2.2.1.length : Nat) : Int)).1)))) true (!(cutOk (x2.1 : Int) x2.2.1 (joinL ((cutV (x2.1 : Int) x2.2.1 x2.2.2).1) ((cutV (x2.1 : Int) x2.2.1 (((numTo x1 x1.length) % x2.2.1.length : Nat) : Int)).1))))) true (!(cutOk (x2.1 : Int) x2.2.1 (joinL ((cutV (x2.1 : Int) x2.2.1 x2.2.2).1) ((cutV (x2.1 : Int) x2.2.1 (((numTo x1 x1.length) % x2.2.1.length : Nat) : Int)).1)) && cutGood x2.2.1 (joinL ((cutV (x2.1 : Int) x2.2.1 x2.2.2).1) ((cutV (x2.1 : Int) x2.2.1 (((numTo x1 x1.length) % x2.2.1.length : Nat) : Int)).1))))) = false by rw [hcv, hdv]; simp [hjf.1.1, hjf.1.2.1, hjf.1.2.2]) (by rw [hb42]; simp)
            --end
          · have _u := True.intro
            have _h := hb42
            refine AW.skip ?_
            refine AW.seq ?_
            refine AW.region ?_
            refine ARun.pure (PureOp.move rfl (.tmp rfl)) rfl rfl (Nat.le_of_ble_eq_true rfl) ?_
            refine ARun.draw rfl (v_DrawIsCut x1.length (fun i => (x1.getD i 0).toNat) (fun i => UInt8.toNat_lt _)) vlc_ca_41 ⟨⟨_, (.tmp rfl), .lst⟩, trivial⟩ rfl rfl (Nat.le_of_ble_eq_true rfl) (fun x43 hd44 => ?_)
            obtain ⟨⟨⟨gn1, gn2⟩, glen, gre⟩, gl4, gri⟩ := hd44
            refine ARun.pure (PureOp.move rfl (.tmp rfl)) rfl rfl (Nat.le_of_ble_eq_true rfl) ?_
            refine ARun.pure (PureOp.ext3a rfl (.tmp rfl)) rfl rfl (Nat.le_of_ble_eq_true rfl) ?_
            refine ARun.pure (PureOp.ext3b rfl (.tmp rfl)) rfl rfl (Nat.le_of_ble_eq_true rfl) ?_
            refine ARun.pure (PureOp.ext3c rfl (.tmp rfl)) rfl rfl (Nat.le_of_ble_eq_true rfl) ?_
            refine ARun.pure (PureOp.assign rfl (.tmp rfl)) rfl rfl (Nat.le_of_ble_eq_true rfl) ?_
            refine ARun.pure (PureOp.assign rfl (.tmp rfl)) rfl rfl (Nat.le_of_ble_eq_true rfl) ?_
            refine ARun.pure (PureOp.assign rfl (.tmp rfl)) rfl rfl (Nat.le_of_ble_eq_true rfl) ?_
            refine ARun.nil ?_
            refine AW.seq ?_
            refine AW.region ?_
            refine ARun.pure (PureOp.move rfl (.tmp rfl)) rfl rfl (Nat.le_of_ble_eq_true rfl) ?_
            refine ARun.pure (PureOp.move rfl (.tmp rfl)) rfl rfl (Nat.le_of_ble_eq_true rfl) ?_
            refine ARun.pure (PureOp.move rfl (.tmp rfl)) rfl rfl (Nat.le_of_ble_eq_true rfl) ?_
            refine ARun.pure (PureOp.call rfl (v_iIsCut (x43.1 : Int) x43.2.1 x43.2.2 ⟨by omega, by omega⟩ gre gri) ⟨⟨_, (.tmp rfl), .int⟩, ⟨_, (.tmp rfl), .frs⟩, ⟨_, (.tmp rfl), .frs⟩, trivial⟩ vlc_ca_23 ⟨trivial, trivial⟩) rfl rfl (Nat.le_of_ble_eq_true rfl) ?_
            refine ARun.pure (PureOp.move rfl (.tmp rfl)) rfl rfl (Nat.le_of_ble_eq_true rfl) ?_
            refine ARun.pure (PureOp.ext2a rfl (.tmp rfl)) rfl rfl (Nat.le_of_ble_eq_true rfl) ?_
            refine ARun.pure (PureOp.ext2b rfl (.tmp rfl)) rfl rfl (Nat.le_of_ble_eq_true rfl) ?_
            refine ARun.pure (PureOp.assign rfl (.tmp rfl)) rfl rfl (Nat.le_of_ble_eq_true rfl) ?_
            refine ARun.pure (PureOp.assign rfl (.tmp rfl)) rfl rfl (Nat.le_of_ble_eq_true rfl) ?_
            refine ARun.nil ?_
            refine AW.seq ?_
            refine AW.region ?_
            refine ARun.pure (PureOp.move rfl (.tmp rfl)) rfl rfl (Nat.le_of_ble_eq_true rfl) ?_
            refine ARun.pure (PureOp.move rfl (.tmp rfl)) rfl rfl (Nat.le_of_ble_eq_true rfl) ?_
            refine ARun.pure (PureOp.move rfl (.tmp rfl)) rfl rfl (Nat.le_of_ble_eq_true rfl) ?_
            refine ARun.pure (PureOp.call rfl (v_sIsCut (x43.1 : Int) x43.2.1 x43.2.2 ⟨by omega, by omega⟩ gre gri) ⟨⟨_, (.tmp rfl), .int⟩, ⟨_, (.tmp rfl), .frs⟩, ⟨_, (.tmp rfl), .frs⟩, trivial⟩ vlc_ca_21 ⟨trivial, trivial⟩) rfl rfl (Nat.le_of_ble_eq_true rfl) ?_
            refine ARun.pure (PureOp.move rfl (.tmp rfl)) rfl rfl (Nat.le_of_ble_eq_true rfl) ?_
            refine ARun.pure (PureOp.ext2a rfl (.tmp rfl)) rfl rfl (Nat.le_of_ble_eq_true rfl) ?_
            refine ARun.pure (PureOp.ext2b rfl (.tmp rfl)) rfl rfl (Nat.le_of_ble_eq_true rfl) ?_
            refine ARun.pure (PureOp.assign rfl (.tmp rfl)) rfl rfl (Nat.le_of_ble_eq_true rfl) ?_
            refine ARun.pure (PureOp.assign rfl (.tmp rfl)) rfl rfl (Nat.le_of_ble_eq_true rfl) ?_
            refine ARun.nil ?_
            refine AW.seq ?_
            refine AW.region ?_
            refine ARun.pure (PureOp.move rfl (.tmp rfl)) rfl rfl (Nat.le_of_ble_eq_true rfl) ?_
            refine ARun.draw rfl (v_DrawJoinCuts x1.length (fun i => (x1.getD i 0).toNat) (fun i => UInt8.toNat_lt _)) vlc_ca_42 ⟨⟨_, (.tmp rfl), .lst⟩, trivial⟩ rfl rfl (Nat.le_of_ble_eq_true rfl) (fun x45 hd46 => ?_)
            obtain ⟨⟨jl1, jr1⟩, jl2, jr2⟩ := hd46
            refine ARun.pure (PureOp.move rfl (.tmp rfl)) rfl rfl (Nat.le_of_ble_eq_true rfl) ?_
            refine ARun.pure (PureOp.ext2a rfl (.tmp rfl)) rfl rfl (Nat.le_of_ble_eq_true rfl) ?_
            refine ARun.pure (PureOp.ext2b rfl (.tmp rfl)) rfl rfl (Nat.le_of_ble_eq_true rfl) ?_
            refine ARun.pure (PureOp.assign rfl (.tmp rfl)) rfl rfl (Nat.le_of_ble_eq_true rfl) ?_
            refine ARun.pure (PureOp.assign rfl (.tmp rfl)) rfl rfl (Nat.le_of_ble_eq_true rfl) ?_
            refine ARun.nil ?_
            refine AW.seq ?_
            refine AW.region ?_
            refine ARun.pure (PureOp.move rfl (.tmp rfl)) rfl rfl (Nat.le_of_ble_eq_true rfl) ?_
            refine ARun.pure (PureOp.move rfl (.tmp rfl)) rfl rfl (Nat.le_of_ble_eq_true rfl) ?_
            refine ARun.fresh (FreshOp.callS rfl (v_iJoin x45.1 x45.2 jr1 jr2) ⟨⟨_, (.tmp rfl), .frs⟩, ⟨_, (.tmp rfl), .frs⟩, trivial⟩ vlc_ca_40 rfl) rfl rfl (Nat.le_of_ble_eq_true rfl) ?_
            refine ARun.pure (PureOp.move rfl (.tmp rfl)) rfl rfl (Nat.le_of_ble_eq_true rfl) ?_
            refine ARun.pure (PureOp.ext2a rfl (.tmp rfl)) rfl rfl (Nat.le_of_ble_eq_true rfl) ?_
            refine ARun.pure (PureOp.ext2b rfl (.tmp rfl)) rfl rfl (Nat.le_of_ble_eq_true rfl) ?_
            refine ARun.pure (PureOp.assign rfl (.tmp rfl)) rfl rfl (Nat.le_of_ble_eq_true rfl) ?_
            refine ARun.pure (PureOp.assign rfl (.tmp rfl)) rfl rfl (Nat.le_of_ble_eq_true rfl) ?_
            refine ARun.nil ?_
            refine AW.seq ?_
            refine AW.region ?_
            refine ARun.pure (PureOp.move rfl (.tmp rfl)) rfl rfl (Nat.le_of_ble_eq_true rfl) ?_
            refine ARun.pure (PureOp.move rfl (.tmp rfl)) rfl rfl (Nat.le_of_ble_eq_true rfl) ?_
            refine ARun.fresh (FreshOp.callS rfl (v_sJoin x45.1 x45.2 jr1 jr2) ⟨⟨_, (.tmp rfl), .frs⟩, ⟨_, (.tmp rfl), .frs⟩, trivial⟩ vlc_ca_43 rfl) rfl rfl (Nat.le_of_ble_eq_true rfl) ?_
            refine ARun.pure (PureOp.move rfl (.tmp rfl)) rfl rfl (Nat.le_of_ble_eq_true rfl) ?_
            refine ARun.pure (PureOp.ext2a rfl (.tmp rfl)) rfl rfl (Nat.le_of_ble_eq_true rfl) ?_
            refine ARun.pure (PureOp.ext2b rfl (.tmp rfl)) rfl rfl (Nat.le_of_ble_eq_true rfl) ?_
            refine ARun.pure (PureOp.assign rfl (.tmp rfl)) rfl rfl (Nat.le_of_ble_eq_true rfl) ?_
            refine ARun.pure (PureOp.assign rfl (.tmp rfl)) rfl rfl (Nat.le_of_ble_eq_true rfl) ?_
            refine ARun.nil ?_
            refine AW.seq ?_
            refine AW.region ?_
            refine ARun.pure (PureOp.move rfl (.tmp rfl)) rfl rfl (Nat.le_of_ble_eq_true rfl) ?_
            refine ARun.pure (PureOp.move rfl (.tmp rfl)) rfl rfl (Nat.le_of_ble_eq_true rfl) ?_
            refine ARun.pure (PureOp.boolEq rfl (.tmp rfl) (.tmp rfl) vlc_bo_4) rfl rfl (Nat.le_of_ble_eq_true rfl) ?_
            refine ARun.pure (PureOp.move rfl (.tmp rfl)) rfl rfl (Nat.le_of_ble_eq_true rfl) ?_
            refine ARun.gpure (want := true) (.tt rfl) (fun hg47 => PureOp.move rfl (.tmp rfl)) rfl rfl (Nat.le_of_ble_eq_true rfl) rfl (Nat.le_of_ble_eq_true rfl) ?_
            refine ARun.gpure (want := true) (.tt rfl) (fun hg48 => PureOp.move rfl (.tmp rfl)) rfl rfl (Nat.le_of_ble_eq_true rfl) rfl (Nat.le_of_ble_eq_true rfl) ?_
            refine ARun.gpure (want := true) (.tt rfl) (fun hg49 => PureOp.boolEq rfl (.gtmp rfl hg49) (.gtmp rfl hg49) vlc_bo_4) rfl rfl (Nat.le_of_ble_eq_true rfl) rfl (Nat.le_of_ble_eq_true rfl) ?_
            refine ARun.pure (PureOp.pick rfl (.tmp rfl) (fun hp50 => .gtmp rfl hp50) (fun _ => .bool)) rfl rfl (Nat.le_of_ble_eq_true rfl) ?_
            refine ARun.pure (PureOp.move rfl (.tmp rfl)) rfl rfl (Nat.le_of_ble_eq_true rfl) ?_
            refine ARun.gpure (want := true) (.tt rfl) (fun hg52 => PureOp.move rfl (.tmp rfl)) rfl rfl (Nat.le_of_ble_eq_true rfl) rfl (Nat.le_of_ble_eq_true rfl) ?_
            refine ARun.gpure (want := true) (.tt rfl) (fun hg53 => PureOp.move rfl (.tmp rfl)) rfl rfl (Nat.le_of_ble_eq_true rfl) rfl (Nat.le_of_ble_eq_true rfl) ?_
            refine ARun.gpure (want := true) (.tt rfl) (fun hg54 => PureOp.boolEq rfl (.gtmp rfl hg54) (.gtmp rfl hg54) vlc_bo_4) rfl rfl (Nat.le_of_ble_eq_true rfl) rfl (Nat.le_of_ble_eq_true rfl) ?_
            refine ARun.pure (PureOp.pick rfl (.tmp rfl) (fun hp55 => .gtmp rfl hp55) (fun _ => .bool)) rfl rfl (Nat.le_of_ble_eq_true rfl) ?_
            refine ARun.pure (PureOp.move rfl (.tmp rfl)) rfl rfl (Nat.le_of_ble_eq_true rfl) ?_
            refine ARun.gpure (want := true) (.tt rfl) (fun hg57 => PureOp.move rfl (.tmp rfl)) rfl rfl (Nat.le_of_ble_eq_true rfl) rfl (Nat.le_of_ble_eq_true rfl) ?_
            refine ARun.gpure (want := true) (.tt rfl) (fun hg58 => PureOp.move rfl (.tmp rfl)) rfl rfl (Nat.le_of_ble_eq_true rfl) rfl (Nat.le_of_ble_eq_true rfl) ?_
            refine ARun.gpure (want := true) (.tt rfl) (fun hg59 => PureOp.call rfl (v_sameInts (joinL x45.1 x45.2) (joinL x45.1 x45.2)) ⟨⟨_, (.gtmp rfl hg59), .frs⟩, ⟨_, (.gtmp rfl hg59), .frs⟩, trivial⟩ vlc_ca_33 trivial) rfl rfl (Nat.le_of_ble_eq_true rfl) rfl (Nat.le_of_ble_eq_true rfl) ?_
            refine ARun.pure (PureOp.pick rfl (.tmp rfl) (fun hp60 => .gtmp rfl hp60) (fun _ => .bool)) rfl rfl (Nat.le_of_ble_eq_true rfl) ?_
            refine ARun.pure (PureOp.assign rfl (.tmp rfl)) rfl rfl (Nat.le_of_ble_eq_true rfl) ?_
            refine ARun.nil ?_
            refine AW.ret (show ResL _ _ [.tmp 4] _ from resB rfl ?_)
            simp
      · have _u := True.intro
        have _h := hb11
        refine AW.skip ?_
        refine AW.seq ?_
        refine AW.region ?_
        refine ARun.pure (PureOp.move rfl (.tmp rfl)) rfl rfl (Nat.le_of_ble_eq_true rfl) ?_
        refine ARun.draw rfl (v_DrawIsCut x1.length (fun i => (x1.getD i 0).toNat) (fun i => UInt8.toNat_lt _)) vlc_ca_41 ⟨⟨_, (.tmp rfl), .lst⟩, trivial⟩ rfl rfl (Nat.le_of_ble_eq_true rfl) (fun x62 hd63 => ?_)
        obtain ⟨⟨⟨gn1, gn2⟩, glen, gre⟩, gl4, gri⟩ := hd63
        refine ARun.pure (PureOp.move rfl (.tmp rfl)) rfl rfl (Nat.le_of_ble_eq_true rfl) ?_
        refine ARun.pure (PureOp.ext3a rfl (.tmp rfl)) rfl rfl (Nat.le_of_ble_eq_true rfl) ?_
        refine ARun.pure (PureOp.ext3b rfl (.tmp rfl)) rfl rfl (Nat.le_of_ble_eq_true rfl) ?_
        refine ARun.pure (PureOp.ext3c rfl (.tmp rfl)) rfl rfl (Nat.le_of_ble_eq_true rfl) ?_
        refine ARun.pure (PureOp.assign rfl (.tmp rfl)) rfl rfl (Nat.le_of_ble_eq_true rfl) ?_
        refine ARun.pure (PureOp.assign rfl (.tmp rfl)) rfl rfl (Nat.le_of_ble_eq_true rfl) ?_
        refine ARun.pure (PureOp.assign rfl (.tmp rfl)) rfl rfl (Nat.le_of_ble_eq_true rfl) ?_
        refine ARun.nil ?_
        refine AW.seq ?_
        refine AW.region ?_
        refine ARun.pure (PureOp.move rfl (.tmp rfl)) rfl rfl (Nat.le_of_ble_eq_true rfl) ?_
        refine ARun.pure (PureOp.move rfl (.tmp rfl)) rfl rfl (Nat.le_of_ble_eq_true rfl) ?_
        refine ARun.pure (PureOp.move rfl (.tmp rfl)) rfl rfl (Nat.le_of_ble_eq_true rfl) ?_
        refine ARun.pure (PureOp.call rfl (v_iIsCut (x62.1 : Int) x62.2.1 x62.2.2 ⟨by omega, by omega⟩ gre gri) ⟨⟨_, (.tmp rfl), .int⟩, ⟨_, (.tmp rfl), .frs⟩, ⟨_, (.tmp rfl), .frs⟩, trivial⟩ vlc_ca_23 ⟨trivial, trivial⟩) rfl rfl (Nat.le_of_ble_eq_true rfl) ?_
        refine ARun.pure (PureOp.move rfl (.tmp rfl)) rfl rfl (Nat.le_of_ble_eq_true rfl) ?_
        refine ARun.pure (PureOp.ext2a rfl (.tmp rfl)) rfl rfl (Nat.le_of_ble_eq_true rfl) ?_
        refine ARun.pure (PureOp.ext2b rfl (.tmp rfl)) rfl rfl (Nat.le_of_ble_eq_true rfl) ?_
        refine ARun.pure (PureOp.assign rfl (.tmp rfl)) rfl rfl (Nat.le_of_ble_eq_true rfl) ?_
        refine ARun.pure (PureOp.assign rfl (.tmp rfl)) rfl rfl (Nat.le_of_ble_eq_true rfl) ?_
        refine ARun.nil ?_
        refine AW.seq ?_
        refine AW.region ?_
        refine ARun.pure (PureOp.move rfl (.tmp rfl)) rfl rfl (Nat.le_of_ble_eq_true rfl) ?_
        refine ARun.pure (PureOp.move rfl (.tmp rfl)) rfl rfl (Nat.le_of_ble_eq_true rfl) ?_
        refine ARun.pure (PureOp.move rfl (.tmp rfl)) rfl rfl (Nat.le_of_ble_eq_true rfl) ?_
        refine ARun.pure (PureOp.call rfl (v_sIsCut (x62.1 : Int) x62.2.1 x62.2.2 ⟨by omega, by omega⟩ gre gri) ⟨⟨_, (.tmp rfl), .int⟩, ⟨_, (.tmp rfl), .frs⟩, ⟨_, (.tmp rfl), .frs⟩, trivial⟩ vlc_ca_21 ⟨trivial, trivial⟩) rfl rfl (Nat.le_of_ble_eq_true rfl) ?_
        refine ARun.pure (PureOp.move rfl (.tmp rfl)) rfl rfl (Nat.le_of_ble_eq_true rfl) ?_
        refine ARun.pure (PureOp.ext2a rfl (.tmp rfl)) rfl rfl (Nat.le_of_ble_eq_true rfl) ?_
        refine ARun.pure (PureOp.ext2b rfl (.tmp rfl)) rfl rfl (Nat.le_of_ble_eq_true rfl) ?_
        refine ARun.pure (PureOp.assign rfl (.tmp rfl)) rfl rfl (Nat.le_of_ble_eq_true rfl) ?_
        refine ARun.pure (PureOp.assign rfl (.tmp rfl)) rfl rfl (Nat.le_of_ble_eq_true rfl) ?_
        refine ARun.nil ?_
        refine AW.seq ?_
        refine AW.region ?_
        refine ARun.pure (PureOp.move rfl (.tmp rfl)) rfl rfl (Nat.le_of_ble_eq_true rfl) ?_
        refine ARun.draw rfl (v_DrawJoinCuts x1.length (fun i => (x1.getD i 0).toNat) (fun i => UInt8.toNat_lt _)) vlc_ca_42 ⟨⟨_, (.tmp rfl), .lst⟩, trivial⟩ rfl rfl (Nat.le_of_ble_eq_true rfl) (fun x64 hd65 => ?_)
        obtain ⟨⟨jl1, jr1⟩, jl2, jr2⟩ := hd65
        refine ARun.pure (PureOp.move rfl (.tmp rfl)) rfl rfl (Nat.le_of_ble_eq_true rfl) ?_
        refine ARun.pure (PureOp.ext2a rfl (.tmp rfl)) rfl rfl (Nat.le_of_ble_eq_true rfl) ?_
        refine ARun.pure (PureOp.ext2b rfl (.tmp rfl)) rfl rfl (Nat.le_of_ble_eq_true rfl) ?_
        refine ARun.pure (PureOp.assign rfl (.tmp rfl)) rfl rfl (Nat.le_of_ble_eq_true rfl) ?_
        refine ARun.pure (PureOp.assign rfl (.tmp rfl)) rfl rfl (Nat.le_of_ble_eq_true rfl) ?_
        refine ARun.nil ?_
        refine AW.seq ?_
        refine AW.region ?_
        refine ARun.pure (PureOp.move rfl (.tmp rfl)) rfl rfl (Nat.le_of_ble_eq_true rfl) ?_
        refine ARun.pure (PureOp.move rfl (.tmp rfl)) rfl rfl (Nat.le_of_ble_eq_true rfl) ?_
        refine ARun.fresh (FreshOp.callS rfl (v_iJoin x64.1 x64.2 jr1 jr2) ⟨⟨_, (.tmp rfl), .frs⟩, ⟨_, (.tmp rfl), .frs⟩, trivial⟩ vlc_ca_40 rfl) rfl rfl (Nat.le_of_ble_eq_true rfl) ?_
        refine ARun.pure (PureOp.move rfl (.tmp rfl)) rfl rfl (Nat.le_of_ble_eq_true rfl) ?_
        refine ARun.pure (PureOp.ext2a rfl (.tmp rfl)) rfl rfl (Nat.le_of_ble_eq_true rfl) ?_
        refine ARun.pure (PureOp.ext2b rfl (.tmp rfl)) rfl rfl (Nat.le_of_ble_eq_true rfl) ?_
        refine ARun.pure (PureOp.assign rfl (.tmp rfl)) rfl rfl (Nat.le_of_ble_eq_true rfl) ?_
        refine ARun.pure (PureOp.assign rfl (.tmp rfl)) rfl rfl (Nat.le_of_ble_eq_true rfl) ?_
        refine ARun.nil ?_
        refine AW.seq ?_
        refine AW.region ?_
        refine ARun.pure (PureOp.move rfl (.tmp rfl)) rfl rfl (Nat.le_of_ble_eq_true rfl) ?_
        refine ARun.pure (PureOp.move rfl (.tmp rfl)) rfl rfl (Nat.le_of_ble_eq_true rfl) ?_
        refine ARun.fresh (FreshOp.callS rfl (v_sJoin x64.1 x64.2 jr1 jr2) ⟨⟨_, (.tmp rfl), .frs⟩, ⟨_, (.tmp rfl), .frs⟩, trivial⟩ vlc_ca_43 rfl) rfl rfl (Nat.le_of_ble_eq_true rfl) ?_
        refine ARun.pure (PureOp.move rfl (.tmp rfl)) rfl rfl (Nat.le_of_ble_eq_true rfl) ?_
        refine ARun.pure (PureOp.ext2a rfl (.tmp rfl)) rfl rfl (Nat.le_of_ble_eq_true rfl) ?_
        refine ARun.pure (PureOp.ext2b rfl (.tmp rfl)) rfl rfl (Nat.le_of_ble_eq_true rfl) ?_
        refine ARun.pure (PureOp.assign rfl (.tmp rfl)) rfl rfl (Nat.le_of_ble_eq_true rfl) ?_
        refine ARun.pure (PureOp.assign rfl (.tmp rfl)) rfl rfl (Nat.le_of_ble_eq_true rfl) ?_
        refine ARun.nil ?_
        refine AW.seq ?_
        refine AW.region ?_
        refine ARun.pure (PureOp.move rfl (.tmp rfl)) rfl rfl (Nat.le_of_ble_eq_true rfl) ?_
        refine ARun.pure (PureOp.move rfl (.tmp rfl)) rfl rfl (Nat.le_of_ble_eq_true rfl) ?_
        refine ARun.pure (PureOp.boolEq rfl (.tmp rfl) (.tmp rfl) vlc_bo_4) rfl rfl (Nat.le_of_ble_eq_true rfl) ?_
        refine ARun.pure (PureOp.move rfl (.tmp rfl)) rfl rfl (Nat.le_of_ble_eq_true rfl) ?_
        refine ARun.gpure (want := true) (.tt rfl) (fun hg66 => PureOp.move rfl (.tmp rfl)) rfl rfl (Nat.le_of_ble_eq_true rfl) rfl (Nat.le_of_ble_eq_true rfl) ?_
        refine ARun.gpure (want := true) (.tt rfl) (fun hg67 => PureOp.move rfl (.tmp rfl)) rfl rfl (Nat.le_of_ble_eq_true rfl) rfl (Nat.le_of_ble_eq_true rfl) ?_
        refine ARun.gpure (want := true) (.tt rfl) (fun hg68 => PureOp.boolEq rfl (.gtmp rfl hg68) (.gtmp rfl hg68) vlc_bo_4) rfl rfl (Nat.le_of_ble_eq_true rfl) rfl (Nat.le_of_ble_eq_true rfl) ?_
        refine ARun.pure (PureOp.pick rfl (.tmp rfl) (fun hp69 => .gtmp rfl hp69) (fun _ => .bool)) rfl rfl (Nat.le_of_ble_eq_true rfl) ?_
        refine ARun.pure (PureOp.move rfl (.tmp rfl)) rfl rfl (Nat.le_of_ble_eq_true rfl) ?_
        refine ARun.gpure (want := true) (.tt rfl) (fun hg71 => PureOp.move rfl (.tmp rfl)) rfl rfl (Nat.le_of_ble_eq_true rfl) rfl (Nat.le_of_ble_eq_true rfl) ?_
        refine ARun.gpure (want := true) (.tt rfl) (fun hg72 => PureOp.move rfl (.tmp rfl)) rfl rfl (Nat.le_of_ble_eq_true rfl) rfl (Nat.le_of_ble_eq_true rfl) ?_
        refine ARun.gpure (want := true) (.tt rfl) (fun hg73 => PureOp.boolEq rfl (.gtmp rfl hg73) (.gtmp rfl hg73) vlc_bo_4) rfl rfl (Nat.le_of_ble_eq_true rfl) rfl (Nat.le_of_ble_eq_true rfl) ?_
        refine ARun.pure (PureOp.pick rfl (.tmp rfl) (fun hp74 => .gtmp rfl hp74) (fun _ => .bool)) rfl rfl (Nat.le_of_ble_eq_true rfl) ?_
        refine ARun.pure (PureOp.move rfl (.tmp rfl)) rfl rfl (Nat.le_of_ble_eq_true rfl) ?_
        refine ARun.gpure (want := true) (.tt rfl) (fun hg76 => PureOp.move rfl (.tmp rfl)) rfl rfl (Nat.le_of_ble_eq_true rfl) rfl (Nat.le_of_ble_eq_true rfl) ?_
        refine ARun.gpure (want := true) (.tt rfl) (fun hg77 => PureOp.move rfl (.tmp rfl)) rfl rfl (Nat.le_of_ble_eq_true rfl) rfl (Nat.le_of_ble_eq_true rfl) ?_
        refine ARun.gpure (want := true) (.tt rfl) (fun hg78 => PureOp.call rfl (v_sameInts (joinL x64.1 x64.2) (joinL x64.1 x64.2)) ⟨⟨_, (.gtmp rfl hg78), .frs⟩, ⟨_, (.gtmp rfl hg78), .frs⟩, trivial⟩ vlc_ca_33 trivial) rfl rfl (Nat.le_of_ble_eq_true rfl) rfl (Nat.le_of_ble_eq_true rfl) ?_
        refine ARun.pure (PureOp.pick rfl (.tmp rfl) (fun hp79 => .gtmp rfl hp79) (fun _ => .bool)) rfl rfl (Nat.le_of_ble_eq_true rfl) ?_
        refine ARun.pure (PureOp.assign rfl (.tmp rfl)) rfl rfl (Nat.le_of_ble_eq_true rfl) ?_
        refine ARun.nil ?_
        refine AW.ret (show ResL _ _ [.tmp 4] _ from resB rfl ?_)
        simp

set_option maxRecDepth 100000 in
theorem lifted_Cuts (os : Os) (started : os.Started) (H : Type) (enc : TypeId × Value → H) :
    ReturnsInHanded {} Try.checked os 9 .any (Rows.fnCutsSpec.pre6 enc Try.prog Try.f9 Rows.fnCutsRow.domain false) (Rows.fnCutsSpec.post enc Try.prog Try.f9 false true false false) := by
  refine returnsInHanded_of_change (C := Try.checked) own started (by kernel_rfl) Try.func9
    (ChangeSpec.witness6 (enc := enc) (C := Try.checked) false ⟨#[], #[.slice none 0 0, .slice none 0 0], []⟩ 8 (by kernel_rfl) (by kernel_rfl) (by kernel_rfl) (by kernel_rfl)) ?_
  intro W base args ds gs before hval0 hW hcnd _
  have hval : ∀ (j : Nat) t v, Try.f9.params[j]? = some t → args[j]? = some v → Value.okWide Try.prog W .any base t v := hval0
  have hW' := hW
  obtain ⟨p, q, hA0, hV, rfl, hfz, hnd⟩ := hW
  have hA : DataW.TrodAll enc Try.prog W 0 (fun _ => true) true Try.f9.params.toList args.toList ds p := hA0
  rw [Try.params9] at hA hval
  obtain ⟨v0, vs0, d0, ds0, p0, q0, hargs, rfl, rfl, h0, r0⟩ := trodAll_cons hA
  obtain ⟨v1, vs1, d1, ds1, p1, q1, rfl, rfl, rfl, h1, r1⟩ := trodAll_cons r0
  obtain ⟨rfl, rfl, rfl⟩ := trodAll_nil r1
  obtain rfl : args = #[v0, v1] := by cases args; simp_all
  obtain ⟨rfl, rfl⟩ := trodVars_none hV
  obtain ⟨x0, R0⟩ := OpensC.arg opensC_47 h0
  have E0 : DS W (· < W.heap.size) (.one (.lst 1 x0.length (fun i0 _ => .int .u8 (((x0.getD i0 0).toNat : Nat) : Int)))) v0 := DS.one_of (by obtain ⟨a, n, c, rfl⟩ := okWide_slice Try.underlying47 (hval 0 47 v0 rfl rfl); rfl) R0
  obtain ⟨x1, R1⟩ := OpensC.arg opensC_47 h1
  have E1 : DS W (· < W.heap.size) (.one (.lst 1 x1.length (fun i0 _ => .int .u8 (((x1.getD i0 0).toNat : Nat) : Int)))) v1 := DS.one_of (by obtain ⟨a, n, c, rfl⟩ := okWide_slice Try.underlying47 (hval 1 47 v1 rfl rfl); rfl) R1
  clear hA0 hval0
  refine (law_Cuts x0 x1 W (· < W.heap.size) _ ⟨fun _ h => h, trivial⟩ ⟨_, _, rfl, E0, ⟨_, _, rfl, E1, rfl⟩⟩).mono fun e W' ⟨he, hg⟩ => ?_
  subst he
  exact ⟨_, rfl, law_post hW' rfl laidOut (by kernel_rfl) hg rfl rfl Try.underlying4⟩
/-- The statement. -/
theorem proved_Cuts : Rows.FnCutsSaid :=
  OpenClaim.holds_of_wide 9 Try.f9 rfl rfl rfl rfl rfl rfl rfl ⟨rfl, rfl, rfl, rfl, rfl⟩ rfl rfl rfl rfl rfl (by kernel_rfl) Try.func9 (by kernel_rfl)
    (of_decide_eq_true (by kernel_rfl)) (by unfold Func.isWrapper; first | (rw [if_pos (by decide +kernel)]; kernel_rfl) | (rw [if_neg (by decide +kernel)]; exact ⟨rfl, rfl⟩))
    (fun os started H enc _ => lifted_Cuts os started H enc)
#print axioms proved_Cuts
end Go.Proofs.Ytmkhahiefdcinaa
