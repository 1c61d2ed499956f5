/-
  NewRepl: the reference and the program make the same.
-/
import Derived.Test.YtmlhlkpiofbhgaaLb5
import Derived.Test.YtmlhlkpiofbhgaaTm5
import Derived.Test.YtmlhlkpiofbhgaaUb
namespace Go.Proofs.Ytmlhlkpiofbhgaa
open Go.ChangeShapes Go.WideShapes Go.ChangeAt Go.RowKit Go.BigFrame Go.Deep
set_option linter.unusedVariables false
set_option linter.unusedSimpArgs false
theorem vk_ag_27_6 : aggB Try.prog 27 6 = true := by kernel_rfl
theorem vk_ca_44 : callB Try.prog 44 = true := by kernel_rfl
theorem vk_ca_45 : callB Try.prog 45 = true := by kernel_rfl
theorem vk_ca_46 : callB Try.prog 46 = true := by kernel_rfl
theorem vk_fi_27_4_4 : fieldB Try.prog 27 4 4 = true := by kernel_rfl
theorem vk_pl_24 : plainB Try.prog 24 = true := by kernel_rfl
theorem vk_sl_24 : sliceB Try.prog 24 = true := by kernel_rfl
theorem vk_sz_24_1 : sizeB Try.prog 24 1 = true := by kernel_rfl
theorem vk_sz_27_6 : sizeB Try.prog 27 6 = true := by kernel_rfl
def inSyncC (i j : Nat) : AV := .int .i64 (i : Int)
def inSyncL (n : Nat) : List Int := (List.range n).map fun i : Nat => (i : Int)
theorem is_len (n : Nat) : (inSyncL n).length = n := by simp [inSyncL]
theorem is_at {n i : Nat} (h : i < n) : (inSyncL n).getD i 0 = (i : Int) := by
  unfold inSyncL
  rw [List.getD_eq_getElem?_getD, List.getElem?_map, List.getElem?_range h]; rfl
def newReplD (n : Nat) : GRepl := ⟨List.replicate n [], List.replicate n false, 0, 1, inSyncL n, []⟩
def newReplV (x : Int) : GRepl × Bool := if inB 1 5 x = true then (newReplD x.toNat, true) else (⟨[], [], 0, 0, [], []⟩, false)
theorem v_newRepl (x : Int) (hx : 0 ≤ x ∧ x ≤ 5) : FnT Try.prog 46 [.one (.int .i64 x)] (.agg [.lst 1 (((newReplD x.toNat).logs).length) (fun i0 _ => .lst 2 ((((newReplD x.toNat).logs).getD i0 []).length) (fun i1 j1 => ([.int .i64 (((((newReplD x.toNat).logs).getD i0 []).getD i1 (default : GEntry)).epoch), .str (((((newReplD x.toNat).logs).getD i0 []).getD i1 (default : GEntry)).text)] : List AV).getD j1 (.con undef))), .lst 1 (((newReplD x.toNat).down).length) (fun i0 _ => .bool (((newReplD x.toNat).down).getD i0 false)), .int .i64 ((newReplD x.toNat).leader), .int .i64 ((newReplD x.toNat).epoch), .lst 1 (((newReplD x.toNat).inSync).length) (fun i0 _ => .int .i64 (((newReplD x.toNat).inSync).getD i0 0)), .lst 2 (((newReplD x.toNat).certain).length) (fun i0 j0 => ([.int .i64 ((((newReplD x.toNat).certain).getD i0 (default : GEntry)).epoch), .str ((((newReplD x.toNat).certain).getD i0 (default : GEntry)).text)] : List AV).getD j0 (.con undef))]) := by
  obtain ⟨h0, h1⟩ := hx
  refine FnT.of_body (fn := Try.f46) Try.func46 rfl (Nat.le_of_ble_eq_true rfl)  ?_
  intro w0
  show AW _ 22 _ _ _ _
  refine AW.seq ?_
  refine AW.region ?_
  refine ARun.alloc (id := 0) (l := [.con (.slice none 0 0), .con (.slice none 0 0), .int .i64 0, .int .i64 0, .con (.slice none 0 0), .con (.slice none 0 0)]) (z := (.agg #[.slice none 0 0, .slice none 0 0, .int .i64 0, .int .i64 0, .slice none 0 0, .slice none 0 0])) rfl (by kernel_rfl) (fun _ _ _ => ⟨_, _, rfl, rfl, ⟨_, _, rfl, rfl, ⟨_, _, rfl, rfl, ⟨_, _, rfl, rfl, ⟨_, _, rfl, rfl, ⟨_, _, rfl, rfl, rfl⟩⟩⟩⟩⟩⟩) ⟨rfl, (by repeat first | exact trivial | refine ⟨by decide, by first | rfl | exact trivial | (intro i j; first | rfl | exact getD_no rfl | (dsimp only; split <;> first | rfl | exact getD_no rfl)), ?_⟩)⟩ rfl rfl rfl (Nat.le_of_ble_eq_true rfl) ?_
  refine ARun.nil ?_
  refine AW.seq ?_
  refine AW.anyC 6 (by kernel_rfl) (Nat.le_of_ble_eq_true rfl) (by kernel_rfl) ?_
  refine ADC.pure (PureOp.move rfl (.tmp rfl)) rfl rfl (Nat.le_of_ble_eq_true rfl) rfl ?_
  refine ADC.cons (C := some (1, .arr 1 x.toNat (fun _ j => ([.con (.slice none 0 0)] : List AV).getD j (.con undef)))) (OpStepC.make (id := 1) (n := x.toNat) (l := [.con (.slice none 0 0)]) (z := (.slice none 0 0)) (by_ := 24) rfl (by kernel_rfl) (fun _ _ _ => ⟨_, _, rfl, rfl, rfl⟩) (.tmp rfl) (.tmp rfl) (show x = _ from by omega) (show x = _ from by omega) (by omega) (by omega) (by decide) ⟨rfl, (by repeat first | exact trivial | refine ⟨by decide, by first | rfl | exact trivial | (intro i j; first | rfl | exact getD_no rfl | (dsimp only; split <;> first | rfl | exact getD_no rfl)), ?_⟩)⟩ rfl rfl) (fun p h => by cases h; exact (show Fr 1 _ ∧ _ from ⟨⟨rfl, (by repeat first | exact trivial | refine ⟨by decide, by first | rfl | exact trivial | (intro i j; first | rfl | exact getD_no rfl | (dsimp only; split <;> first | rfl | exact getD_no rfl)), ?_⟩)⟩, (fun _ j => match j with | 0 => rfl | _ + 1 => rfl)⟩)) rfl rfl (Nat.le_of_ble_eq_true rfl) ?_
  refine ADC.pure (PureOp.move rfl (.tmp rfl)) rfl rfl (Nat.le_of_ble_eq_true rfl) rfl ?_
  refine ADC.cons (C := some (2, .arr 1 x.toNat (fun _ j => ([.bool false] : List AV).getD j (.con undef)))) (OpStepC.make (id := 2) (n := x.toNat) (l := [.bool false]) (z := (.bool false)) (by_ := 1) rfl (by kernel_rfl) (fun _ _ _ => ⟨_, _, rfl, rfl, rfl⟩) (.tmp rfl) (.tmp rfl) (show x = _ from by omega) (show x = _ from by omega) (by omega) (by omega) (by decide) ⟨rfl, (by repeat first | exact trivial | refine ⟨by decide, by first | rfl | exact trivial | (intro i j; first | rfl | exact getD_no rfl | (dsimp only; split <;> first | rfl | exact getD_no rfl)), ?_⟩)⟩ rfl rfl) (fun p h => by cases h; exact (show Fr 2 _ ∧ _ from ⟨⟨rfl, (by repeat first | exact trivial | refine ⟨by decide, by first | rfl | exact trivial | (intro i j; first | rfl | exact getD_no rfl | (dsimp only; split <;> first | rfl | exact getD_no rfl)), ?_⟩)⟩, (fun _ j => match j with | 0 => rfl | _ + 1 => rfl)⟩)) rfl rfl (Nat.le_of_ble_eq_true rfl) ?_
  refine ADC.pure (PureOp.build (ys := [.own 1 1 x.toNat, .own 2 1 x.toNat, .int .i64 1]) (l := [.con (.slice none 0 0), .con (.slice none 0 0), .int .i64 0, .int .i64 0, .con (.slice none 0 0), .con (.slice none 0 0)]) (pl := [(0, 1), (1, 1), (2, 1), (3, 1), (4, 1), (5, 1)]) (z := (.agg #[.slice none 0 0, .slice none 0 0, .int .i64 0, .int .i64 0, .slice none 0 0, .slice none 0 0])) rfl (by kernel_rfl) (by kernel_rfl) (fun _ _ _ => ⟨_, _, rfl, rfl, ⟨_, _, rfl, rfl, ⟨_, _, rfl, rfl, ⟨_, _, rfl, rfl, ⟨_, _, rfl, rfl, ⟨_, _, rfl, rfl, rfl⟩⟩⟩⟩⟩⟩) ⟨(.tmp rfl), trivial, rfl, ⟨(.tmp rfl), trivial, rfl, ⟨.int, trivial, rfl, trivial⟩⟩⟩ rfl) rfl rfl (Nat.le_of_ble_eq_true rfl) rfl ?_
  refine ADC.cons (C := some (3, .cells [.con (.slice none 0 0), .con (.slice none 0 0), .int .i64 0, .int .i64 0, .con (.slice none 0 0), .con (.slice none 0 0)])) (OpStepC.alloc (id := 3) (l := [.con (.slice none 0 0), .con (.slice none 0 0), .int .i64 0, .int .i64 0, .con (.slice none 0 0), .con (.slice none 0 0)]) (z := (.agg #[.slice none 0 0, .slice none 0 0, .int .i64 0, .int .i64 0, .slice none 0 0, .slice none 0 0])) rfl (by kernel_rfl) (fun _ _ _ => ⟨_, _, rfl, rfl, ⟨_, _, rfl, rfl, ⟨_, _, rfl, rfl, ⟨_, _, rfl, rfl, ⟨_, _, rfl, rfl, ⟨_, _, rfl, rfl, rfl⟩⟩⟩⟩⟩⟩) ⟨rfl, (by repeat first | exact trivial | refine ⟨by decide, by first | rfl | exact trivial | (intro i j; first | rfl | exact getD_no rfl | (dsimp only; split <;> first | rfl | exact getD_no rfl)), ?_⟩)⟩ rfl rfl) (fun p h => by cases h; exact (show Fr 3 _ ∧ _ from ⟨⟨rfl, (by repeat first | exact trivial | refine ⟨by decide, by first | rfl | exact trivial | (intro i j; first | rfl | exact getD_no rfl | (dsimp only; split <;> first | rfl | exact getD_no rfl)), ?_⟩)⟩, (fun _ j => match j with | 0 => rfl | 1 => rfl | 2 => rfl | 3 => rfl | 4 => rfl | 5 => rfl | _ + 6 => rfl)⟩)) rfl rfl (Nat.le_of_ble_eq_true rfl) ?_
  refine ADC.tail ?_
  refine ARun.store rfl (.tmp rfl) (.tmp rfl) (SV.cells_of (by exact ⟨trivial, trivial, trivial, trivial, ⟨rfl, (fun _ e => by cases e), (fun _ e => by cases e)⟩, ⟨rfl, (fun _ e => by cases e), (fun _ e => by cases e)⟩, trivial⟩)) rfl (Nat.le_of_ble_eq_true rfl) vk_sz_27_6 rfl rfl ?_
  refine ARun.nil ?_
  refine AW.seq ?_
  refine AW.seq ?_
  refine AW.region ?_
  refine ARun.pure (PureOp.move rfl (.tmp rfl)) rfl rfl (Nat.le_of_ble_eq_true rfl) ?_
  refine ARun.pure (PureOp.move rfl .int) rfl rfl (Nat.le_of_ble_eq_true rfl) ?_
  refine ARun.nil ?_
  refine AW.block ?_
  refine AW.nilCell 3 4 4 1 _ (inSyncC) rfl rfl ⟨rfl, (by repeat first | exact trivial | refine ⟨by decide, by first | rfl | exact trivial | (intro i j; first | rfl | exact getD_no rfl | (dsimp only; split <;> first | rfl | exact getD_no rfl)), ?_⟩)⟩ ?_
  -- objects are renamed
  refine AW.loopR (ι := Nat) (fun k => ⟨[(2, .one (.ptr 0 6 0 0)), (3, .one (.ptr 3 6 0 0)), (10, .one (.int .i64 x)), (11, .one (.int .i64 (k : Int)))], [(0, .cells [.con (.slice none 0 0), .con (.slice none 0 0), .int .i64 0, .int .i64 0, .con (.slice none 0 0), .con (.slice none 0 0)]), (1, .arr 1 x.toNat (fun _ j => ([.con (.slice none 0 0)] : List AV).getD j (.con undef))), (2, .arr 1 x.toNat (fun _ j => ([.bool false] : List AV).getD j (.con undef))), (3, .cells [.own 1 1 x.toNat, .own 2 1 x.toNat, .int .i64 0, .int .i64 1, .own 4 1 k, .con (.slice none 0 0)]), (4, .arr 1 k inSyncC)]⟩) (fun k => (k : Int) ≤ x) (fun k => x.toNat - k) 0 (show ((0 : Nat) : Int) ≤ x from by omega) ⟨⟨⟨_, rfl, rfl⟩, ⟨_, rfl, rfl⟩, ⟨_, rfl, rfl⟩, ⟨_, rfl, rfl⟩, trivial⟩, ⟨⟨_, rfl, rfl, Nat.le_refl _, fun _ _ _ _ => rfl⟩, ⟨_, rfl, rfl, Nat.le_refl _, fun _ _ _ _ => rfl⟩, ⟨_, rfl, rfl, Nat.le_refl _, fun _ _ _ _ => rfl⟩, ⟨_, rfl, rfl, Nat.le_refl _, fun _ _ _ _ => rfl⟩, ⟨_, rfl, rfl, Nat.le_refl _, fun _ _ _ _ => rfl⟩, trivial⟩⟩ ?_
  intro k hk
  refine AW.seq ?_
  refine AW.region ?_
  refine ARun.pure (PureOp.intOp rfl (.tmp rfl) (.tmp rfl) rfl) rfl rfl (Nat.le_of_ble_eq_true rfl) ?_
  refine ARun.nil ?_
  refine AW.seq ?_
  refine AW.cond (.tmp rfl) (fun hb1 => ?_) (fun hb1 => ?_)
  · have _u := True.intro
    replace hb1 := of_decide_eq_true hb1
    refine AW.skip ?_
    refine AW.seq ?_
    refine AW.block ?_
    refine AW.seq ?_
    refine AW.region ?_
    refine ARun.pure (PureOp.move rfl (.tmp rfl)) rfl rfl (Nat.le_of_ble_eq_true rfl) ?_
    refine ARun.pure (PureOp.assign rfl (.tmp rfl)) rfl rfl (Nat.le_of_ble_eq_true rfl) ?_
    refine ARun.nil ?_
    refine AW.region ?_
    refine ARun.pure (PureOp.fieldPtr rfl (.tmp rfl) vk_fi_27_4_4) rfl rfl (Nat.le_of_ble_eq_true rfl) ?_
    refine ARun.pure (PureOp.loadPtr rfl (.tmp rfl) vk_pl_24 rfl rfl (Nat.le_of_ble_eq_true rfl) (Nat.le_of_ble_eq_true rfl)) rfl rfl (Nat.le_of_ble_eq_true rfl) ?_
    refine ARun.pure (PureOp.move rfl (.tmp rfl)) rfl rfl (Nat.le_of_ble_eq_true rfl) ?_
    refine ARun.slice1 (id := 5) (z := (.int .i64 0)) (by_ := 8) rfl (.tmp rfl) trivial (by kernel_rfl) rfl rfl (by decide) (by decide) ⟨rfl, (by repeat first | exact trivial | refine ⟨by decide, by first | rfl | exact trivial | (intro i j; first | rfl | exact getD_no rfl | (dsimp only; split <;> first | rfl | exact getD_no rfl)), ?_⟩)⟩ rfl rfl rfl (Nat.le_of_ble_eq_true rfl) ?_
    refine ARun.append (id := 6) (sz := 1) (n := k) (m := 1) (by_ := 8) (z := (.int .i64 0)) (f := inSyncC) (g := fun _ j => ([.int .i64 (k : Int)] : List AV).getD j (.con undef)) (h := fun i j => if i < k then (inSyncC) i j else (fun _ j => ([.int .i64 (k : Int)] : List AV).getD j (.con undef)) (i - k) j) rfl (by kernel_rfl) rfl vk_sl_24 (.own (.tmp rfl) rfl rfl rfl (Nat.le_refl _) (fun _ _ _ _ => rfl)) (.own (.tmp rfl) rfl rfl (Nat.le_refl _) (fun _ _ _ _ => rfl)) (by decide) (fun i j hi hj => match j, hj with | 0, _ => rfl | _ + 1, h => absurd h (by omega)) (fun _ _ _ _ => rfl) (by omega) (by omega) ⟨rfl, (by repeat first | exact trivial | refine ⟨by decide, by first | rfl | exact trivial | (intro i j; first | rfl | exact getD_no rfl | (dsimp only; split <;> first | rfl | exact getD_no rfl)), ?_⟩)⟩ (fun i j => by dsimp only; split <;> first | rfl | exact getD_no rfl) rfl rfl (Nat.le_of_ble_eq_true rfl) ?_
    refine ARun.pure (PureOp.fieldPtr rfl (.tmp rfl) vk_fi_27_4_4) rfl rfl (Nat.le_of_ble_eq_true rfl) ?_
    refine ARun.store rfl (.tmp rfl) (.tmp rfl) trivial rfl (Nat.le_of_ble_eq_true rfl) vk_sz_24_1 rfl rfl ?_
    refine ARun.nil ?_
    refine AW.region ?_
    refine ARun.pure (PureOp.add (c := ((k + 1 : Nat) : Int)) rfl (.tmp rfl) .int (by rw [wrap_id (by omega) (by omega)]; omega)) rfl rfl (Nat.le_of_ble_eq_true rfl) ?_
    refine ARun.pure (PureOp.move rfl (.tmp rfl)) rfl rfl (Nat.le_of_ble_eq_true rfl) ?_
    refine ARun.nil ?_
    exact ⟨k + 1, (swp 4 6), by omega, by dsimp only; omega, swp_inj, (swp_fix rfl rfl), ⟨⟨⟨_, rfl, rfl⟩, ⟨_, rfl, rfl⟩, ⟨_, rfl, rfl⟩, ⟨_, rfl, rfl⟩, trivial⟩, ⟨⟨_, rfl, rfl, Nat.le_refl _, fun _ _ _ _ => rfl⟩, ⟨_, rfl, rfl, Nat.le_refl _, fun i j _ (hj : j < 1) => match j, hj with | 0, _ => rfl | _ + 1, h => absurd h (by omega)⟩, ⟨_, rfl, rfl, Nat.le_refl _, fun i j _ (hj : j < 1) => match j, hj with | 0, _ => rfl | _ + 1, h => absurd h (by omega)⟩, ⟨_, rfl, rfl, Nat.le_refl _, fun _ _ _ _ => rfl⟩, ⟨_, rfl, rfl, Nat.le_refl _, fun i j hi (hj : j < 1) => match j, hj with | 0, _ => app_at hi (fun _ => rfl) (fun h => by subst h; rfl) | _ + 1, h => absurd h (by omega)⟩, trivial⟩⟩⟩
  · have _u := True.intro
    replace hb1 := of_decide_eq_false hb1
    refine AW.exit ?_
    refine AW.seq ?_
    refine AW.region ?_
    refine ARun.pure (PureOp.loadPtrAgg rfl (.tmp rfl) vk_ag_27_6 rfl rfl (Nat.le_of_ble_eq_true rfl) (Nat.le_of_ble_eq_true rfl)) rfl rfl (Nat.le_of_ble_eq_true rfl) ?_
    refine ARun.store rfl (.tmp rfl) (.tmp rfl) (SV.cells_of (by exact ⟨trivial, trivial, trivial, trivial, trivial, ⟨rfl, (fun _ e => by cases e), (fun _ e => by cases e)⟩, trivial⟩)) rfl (Nat.le_of_ble_eq_true rfl) vk_sz_27_6 rfl rfl ?_
    refine ARun.nil ?_
    exact AW.ret (show ∃ s t, ResL _ _ [.cell 2 27] s ∧ TvS _ (ofLeaf t) 0 s _ from ⟨_, fun a b => if a = 1 then 0 else if a = 2 then 1 else if a = 4 then 4 else 1000, .inl ⟨_, rfl, .cells rfl vk_ag_27_6 rfl rfl (Nat.le_of_ble_eq_true rfl) (Nat.le_of_ble_eq_true rfl)⟩, ⟨(Tv.nilsN List.length_replicate rfl rfl rfl (Nat.le_refl _) (by rfl) (fun i hi => rfl) (fun i hi => ⟨2, _, by show AV.lst 2 (List.length ((List.replicate _ ([] : List GEntry)).getD i [])) _ = _; rw [getD_rep hi]; rfl⟩)), (Tv.flatN List.length_replicate rfl rfl rfl (Nat.le_refl _) (by rfl) (fun i j hi hj => match j, hj with | 0, _ => congrArg AV.bool (getD_rep hi).symm | _ + 1, h => absurd h (by omega)) (fun i j hi hj => match j, hj with | 0, _ => rfl | _ + 1, h => absurd h (by omega))), .int, .int, (Tv.flatN ((is_len _).trans (show x.toNat = k from by omega)) rfl rfl rfl (Nat.le_refl _) (by rfl) (fun i j hi hj => match j, hj with | 0, _ => (congrArg (AV.int .i64) (is_at (show i < x.toNat from by omega))).symm | _ + 1, h => absurd h (by omega)) (fun i j hi hj => match j, hj with | 0, _ => rfl | _ + 1, h => absurd h (by omega))), .nil, trivial⟩⟩)

theorem v_sNewRepl (x : Int) : FnT Try.prog 10 [.one (.int .i64 x)] (.tup2 (.agg [.lst 1 ((((newReplV x).1).logs).length) (fun i0 _ => .lst 2 (((((newReplV x).1).logs).getD i0 []).length) (fun i1 j1 => ([.int .i64 ((((((newReplV x).1).logs).getD i0 []).getD i1 (default : GEntry)).epoch), .str ((((((newReplV x).1).logs).getD i0 []).getD i1 (default : GEntry)).text)] : List AV).getD j1 (.con undef))), .lst 1 ((((newReplV x).1).down).length) (fun i0 _ => .bool ((((newReplV x).1).down).getD i0 false)), .int .i64 (((newReplV x).1).leader), .int .i64 (((newReplV x).1).epoch), .lst 1 ((((newReplV x).1).inSync).length) (fun i0 _ => .int .i64 ((((newReplV x).1).inSync).getD i0 0)), .lst 2 ((((newReplV x).1).certain).length) (fun i0 j0 => ([.int .i64 (((((newReplV x).1).certain).getD i0 (default : GEntry)).epoch), .str (((((newReplV x).1).certain).getD i0 (default : GEntry)).text)] : List AV).getD j0 (.con undef))]) (.one (.bool ((newReplV x).2)))) := by
  refine FnT.of_body (fn := Try.f10) Try.func10 rfl (Nat.le_of_ble_eq_true rfl)  ?_
  intro w0
  show AW _ 27 _ _ _ _
  refine AW.seq ?_
  refine AW.region ?_
  refine ARun.alloc (id := 0) (l := [.con (.slice none 0 0), .con (.slice none 0 0), .int .i64 0, .int .i64 0, .con (.slice none 0 0), .con (.slice none 0 0)]) (z := (.agg #[.slice none 0 0, .slice none 0 0, .int .i64 0, .int .i64 0, .slice none 0 0, .slice none 0 0])) rfl (by kernel_rfl) (fun _ _ _ => ⟨_, _, rfl, rfl, ⟨_, _, rfl, rfl, ⟨_, _, rfl, rfl, ⟨_, _, rfl, rfl, ⟨_, _, rfl, rfl, ⟨_, _, rfl, rfl, rfl⟩⟩⟩⟩⟩⟩) ⟨rfl, (by repeat first | exact trivial | refine ⟨by decide, by first | rfl | exact trivial | (intro i j; first | rfl | exact getD_no rfl | (dsimp only; split <;> first | rfl | exact getD_no rfl)), ?_⟩)⟩ rfl rfl rfl (Nat.le_of_ble_eq_true rfl) ?_
  refine ARun.pure (PureOp.assign rfl .bool) rfl rfl (Nat.le_of_ble_eq_true rfl) ?_
  refine ARun.nil ?_
  refine AW.seq ?_
  refine AW.seq ?_
  refine AW.region ?_
  refine ARun.pure (PureOp.move rfl (.tmp rfl)) rfl rfl (Nat.le_of_ble_eq_true rfl) ?_
  refine ARun.pure (PureOp.call rfl (v_l1In x 1 5) ⟨⟨_, (.tmp rfl), .int⟩, ⟨_, .int, .int⟩, ⟨_, .int, .int⟩, trivial⟩ vk_ca_44 trivial) rfl rfl (Nat.le_of_ble_eq_true rfl) ?_
  refine ARun.pure (PureOp.not rfl (.tmp rfl)) rfl rfl (Nat.le_of_ble_eq_true rfl) ?_
  refine ARun.nil ?_
  refine AW.cond (.tmp rfl) (fun hb1 => ?_) (fun hb1 => ?_)
  · have _u := True.intro
    replace hb1 := of_not hb1
    refine AW.seq ?_
    refine AW.region ?_
    refine ARun.pure (PureOp.build (ys := []) (l := [.con (.slice none 0 0), .con (.slice none 0 0), .int .i64 0, .int .i64 0, .con (.slice none 0 0), .con (.slice none 0 0)]) (pl := [(0, 1), (1, 1), (2, 1), (3, 1), (4, 1), (5, 1)]) (z := (.agg #[.slice none 0 0, .slice none 0 0, .int .i64 0, .int .i64 0, .slice none 0 0, .slice none 0 0])) rfl (by kernel_rfl) (by kernel_rfl) (fun _ _ _ => ⟨_, _, rfl, rfl, ⟨_, _, rfl, rfl, ⟨_, _, rfl, rfl, ⟨_, _, rfl, rfl, ⟨_, _, rfl, rfl, ⟨_, _, rfl, rfl, rfl⟩⟩⟩⟩⟩⟩) trivial rfl) rfl rfl (Nat.le_of_ble_eq_true rfl) ?_
    refine ARun.store rfl (.tmp rfl) (.tmp rfl) (SV.cells_of (by exact ⟨⟨rfl, (fun _ e => by cases e), (fun _ e => by cases e)⟩, ⟨rfl, (fun _ e => by cases e), (fun _ e => by cases e)⟩, trivial, trivial, ⟨rfl, (fun _ e => by cases e), (fun _ e => by cases e)⟩, ⟨rfl, (fun _ e => by cases e), (fun _ e => by cases e)⟩, trivial⟩)) rfl (Nat.le_of_ble_eq_true rfl) vk_sz_27_6 rfl rfl ?_
    refine ARun.pure (PureOp.assign rfl .bool) rfl rfl (Nat.le_of_ble_eq_true rfl) ?_
    refine ARun.nil ?_
    rw [show newReplV x = (⟨[], [], 0, 0, [], []⟩, false) from if_neg (by rw [hb1]; decide)]
    exact AW.ret (show ∃ s t, ResL _ _ [.cell 2 27, .tmp 3] s ∧ TvS _ (ofLeaf t) 0 s _ from ⟨_, fun a b => 1000, .inr (.inl ⟨_, _, _, _, rfl, .cells rfl vk_ag_27_6 rfl rfl (Nat.le_of_ble_eq_true rfl) (Nat.le_of_ble_eq_true rfl), .tmp rfl, rfl⟩), ⟨⟨.nil, .nil, .int, .int, .nil, .nil, trivial⟩, .bool⟩⟩)
  · have _u := True.intro
    replace hb1 := not_f hb1
    obtain ⟨hlo, hhi⟩ := inB_true hb1
    refine AW.skip ?_
    refine AW.seq ?_
    refine AW.anyC 6 (by kernel_rfl) (Nat.le_of_ble_eq_true rfl) (by kernel_rfl) ?_
    refine ADC.pure (PureOp.move rfl (.tmp rfl)) rfl rfl (Nat.le_of_ble_eq_true rfl) rfl ?_
    refine ADC.cons (C := some (1, .arr 1 x.toNat (fun _ j => ([.con (.slice none 0 0)] : List AV).getD j (.con undef)))) (OpStepC.make (id := 1) (n := x.toNat) (l := [.con (.slice none 0 0)]) (z := (.slice none 0 0)) (by_ := 24) rfl (by kernel_rfl) (fun _ _ _ => ⟨_, _, rfl, rfl, rfl⟩) (.tmp rfl) (.tmp rfl) (show x = _ from by omega) (show x = _ from by omega) (by omega) (by omega) (by decide) ⟨rfl, (by repeat first | exact trivial | refine ⟨by decide, by first | rfl | exact trivial | (intro i j; first | rfl | exact getD_no rfl | (dsimp only; split <;> first | rfl | exact getD_no rfl)), ?_⟩)⟩ rfl rfl) (fun p h => by cases h; exact (show Fr 1 _ ∧ _ from ⟨⟨rfl, (by repeat first | exact trivial | refine ⟨by decide, by first | rfl | exact trivial | (intro i j; first | rfl | exact getD_no rfl | (dsimp only; split <;> first | rfl | exact getD_no rfl)), ?_⟩)⟩, (fun _ j => match j with | 0 => rfl | _ + 1 => rfl)⟩)) rfl rfl (Nat.le_of_ble_eq_true rfl) ?_
    refine ADC.pure (PureOp.move rfl (.tmp rfl)) rfl rfl (Nat.le_of_ble_eq_true rfl) rfl ?_
    refine ADC.cons (C := some (2, .arr 1 x.toNat (fun _ j => ([.bool false] : List AV).getD j (.con undef)))) (OpStepC.make (id := 2) (n := x.toNat) (l := [.bool false]) (z := (.bool false)) (by_ := 1) rfl (by kernel_rfl) (fun _ _ _ => ⟨_, _, rfl, rfl, rfl⟩) (.tmp rfl) (.tmp rfl) (show x = _ from by omega) (show x = _ from by omega) (by omega) (by omega) (by decide) ⟨rfl, (by repeat first | exact trivial | refine ⟨by decide, by first | rfl | exact trivial | (intro i j; first | rfl | exact getD_no rfl | (dsimp only; split <;> first | rfl | exact getD_no rfl)), ?_⟩)⟩ rfl rfl) (fun p h => by cases h; exact (show Fr 2 _ ∧ _ from ⟨⟨rfl, (by repeat first | exact trivial | refine ⟨by decide, by first | rfl | exact trivial | (intro i j; first | rfl | exact getD_no rfl | (dsimp only; split <;> first | rfl | exact getD_no rfl)), ?_⟩)⟩, (fun _ j => match j with | 0 => rfl | _ + 1 => rfl)⟩)) rfl rfl (Nat.le_of_ble_eq_true rfl) ?_
    refine ADC.pure (PureOp.build (ys := [.own 1 1 x.toNat, .own 2 1 x.toNat, .int .i64 1]) (l := [.con (.slice none 0 0), .con (.slice none 0 0), .int .i64 0, .int .i64 0, .con (.slice none 0 0), .con (.slice none 0 0)]) (pl := [(0, 1), (1, 1), (2, 1), (3, 1), (4, 1), (5, 1)]) (z := (.agg #[.slice none 0 0, .slice none 0 0, .int .i64 0, .int .i64 0, .slice none 0 0, .slice none 0 0])) rfl (by kernel_rfl) (by kernel_rfl) (fun _ _ _ => ⟨_, _, rfl, rfl, ⟨_, _, rfl, rfl, ⟨_, _, rfl, rfl, ⟨_, _, rfl, rfl, ⟨_, _, rfl, rfl, ⟨_, _, rfl, rfl, rfl⟩⟩⟩⟩⟩⟩) ⟨(.tmp rfl), trivial, rfl, ⟨(.tmp rfl), trivial, rfl, ⟨.int, trivial, rfl, trivial⟩⟩⟩ rfl) rfl rfl (Nat.le_of_ble_eq_true rfl) rfl ?_
    refine ADC.cons (C := some (3, .cells [.con (.slice none 0 0), .con (.slice none 0 0), .int .i64 0, .int .i64 0, .con (.slice none 0 0), .con (.slice none 0 0)])) (OpStepC.alloc (id := 3) (l := [.con (.slice none 0 0), .con (.slice none 0 0), .int .i64 0, .int .i64 0, .con (.slice none 0 0), .con (.slice none 0 0)]) (z := (.agg #[.slice none 0 0, .slice none 0 0, .int .i64 0, .int .i64 0, .slice none 0 0, .slice none 0 0])) rfl (by kernel_rfl) (fun _ _ _ => ⟨_, _, rfl, rfl, ⟨_, _, rfl, rfl, ⟨_, _, rfl, rfl, ⟨_, _, rfl, rfl, ⟨_, _, rfl, rfl, ⟨_, _, rfl, rfl, rfl⟩⟩⟩⟩⟩⟩) ⟨rfl, (by repeat first | exact trivial | refine ⟨by decide, by first | rfl | exact trivial | (intro i j; first | rfl | exact getD_no rfl | (dsimp only; split <;> first | rfl | exact getD_no rfl)), ?_⟩)⟩ rfl rfl) (fun p h => by cases h; exact (show Fr 3 _ ∧ _ from ⟨⟨rfl, (by repeat first | exact trivial | refine ⟨by decide, by first | rfl | exact trivial | (intro i j; first | rfl | exact getD_no rfl | (dsimp only; split <;> first | rfl | exact getD_no rfl)), ?_⟩)⟩, (fun _ j => match j with | 0 => rfl | 1 => rfl | 2 => rfl | 3 => rfl | 4 => rfl | 5 => rfl | _ + 6 => rfl)⟩)) rfl rfl (Nat.le_of_ble_eq_true rfl) ?_
    refine ADC.tail ?_
    refine ARun.store rfl (.tmp rfl) (.tmp rfl) (SV.cells_of (by exact ⟨trivial, trivial, trivial, trivial, ⟨rfl, (fun _ e => by cases e), (fun _ e => by cases e)⟩, ⟨rfl, (fun _ e => by cases e), (fun _ e => by cases e)⟩, trivial⟩)) rfl (Nat.le_of_ble_eq_true rfl) vk_sz_27_6 rfl rfl ?_
    refine ARun.nil ?_
    refine AW.seq ?_
    refine AW.seq ?_
    refine AW.region ?_
    refine ARun.pure (PureOp.assign rfl .int) rfl rfl (Nat.le_of_ble_eq_true rfl) ?_
    refine ARun.nil ?_
    refine AW.block ?_
    refine AW.nilCell 3 4 4 1 _ (inSyncC) rfl rfl ⟨rfl, (by repeat first | exact trivial | refine ⟨by decide, by first | rfl | exact trivial | (intro i j; first | rfl | exact getD_no rfl | (dsimp only; split <;> first | rfl | exact getD_no rfl)), ?_⟩)⟩ ?_
    -- objects are renamed
    refine AW.loopR (ι := Nat) (fun k => ⟨[(0, .one (.int .i64 x)), (2, .one (.ptr 0 6 0 0)), (4, .one (.ptr 3 6 0 0)), (5, .one (.int .i64 (k : Int)))], [(0, .cells [.con (.slice none 0 0), .con (.slice none 0 0), .int .i64 0, .int .i64 0, .con (.slice none 0 0), .con (.slice none 0 0)]), (1, .arr 1 x.toNat (fun _ j => ([.con (.slice none 0 0)] : List AV).getD j (.con undef))), (2, .arr 1 x.toNat (fun _ j => ([.bool false] : List AV).getD j (.con undef))), (3, .cells [.own 1 1 x.toNat, .own 2 1 x.toNat, .int .i64 0, .int .i64 1, .own 4 1 k, .con (.slice none 0 0)]), (4, .arr 1 k inSyncC)]⟩) (fun k => (k : Int) ≤ x) (fun k => x.toNat - k) 0 (show ((0 : Nat) : Int) ≤ x from by omega) ⟨⟨⟨_, rfl, rfl⟩, ⟨_, rfl, rfl⟩, ⟨_, rfl, rfl⟩, ⟨_, rfl, rfl⟩, trivial⟩, ⟨⟨_, rfl, rfl, Nat.le_refl _, fun _ _ _ _ => rfl⟩, ⟨_, rfl, rfl, Nat.le_refl _, fun _ _ _ _ => rfl⟩, ⟨_, rfl, rfl, Nat.le_refl _, fun _ _ _ _ => rfl⟩, ⟨_, rfl, rfl, Nat.le_refl _, fun _ _ _ _ => rfl⟩, ⟨_, rfl, rfl, Nat.le_refl _, fun _ _ _ _ => rfl⟩, trivial⟩⟩ ?_
    intro k hk
    refine AW.seq ?_
    refine AW.seq ?_
    refine AW.region ?_
    refine ARun.pure (PureOp.move rfl (.tmp rfl)) rfl rfl (Nat.le_of_ble_eq_true rfl) ?_
    refine ARun.pure (PureOp.move rfl (.tmp rfl)) rfl rfl (Nat.le_of_ble_eq_true rfl) ?_
    refine ARun.pure (PureOp.intOp rfl (.tmp rfl) (.tmp rfl) rfl) rfl rfl (Nat.le_of_ble_eq_true rfl) ?_
    refine ARun.nil ?_
    refine AW.cond (.tmp rfl) (fun hb2 => ?_) (fun hb2 => ?_)
    · have _u := True.intro
      replace hb2 := of_decide_eq_true hb2
      refine AW.skip ?_
      refine AW.seq ?_
      refine AW.block ?_
      refine AW.region ?_
      refine ARun.pure (PureOp.fieldPtr rfl (.tmp rfl) vk_fi_27_4_4) rfl rfl (Nat.le_of_ble_eq_true rfl) ?_
      refine ARun.pure (PureOp.loadPtr rfl (.tmp rfl) vk_pl_24 rfl rfl (Nat.le_of_ble_eq_true rfl) (Nat.le_of_ble_eq_true rfl)) rfl rfl (Nat.le_of_ble_eq_true rfl) ?_
      refine ARun.pure (PureOp.move rfl (.tmp rfl)) rfl rfl (Nat.le_of_ble_eq_true rfl) ?_
      refine ARun.slice1 (id := 5) (z := (.int .i64 0)) (by_ := 8) rfl (.tmp rfl) trivial (by kernel_rfl) rfl rfl (by decide) (by decide) ⟨rfl, (by repeat first | exact trivial | refine ⟨by decide, by first | rfl | exact trivial | (intro i j; first | rfl | exact getD_no rfl | (dsimp only; split <;> first | rfl | exact getD_no rfl)), ?_⟩)⟩ rfl rfl rfl (Nat.le_of_ble_eq_true rfl) ?_
      refine ARun.append (id := 6) (sz := 1) (n := k) (m := 1) (by_ := 8) (z := (.int .i64 0)) (f := inSyncC) (g := fun _ j => ([.int .i64 (k : Int)] : List AV).getD j (.con undef)) (h := fun i j => if i < k then (inSyncC) i j else (fun _ j => ([.int .i64 (k : Int)] : List AV).getD j (.con undef)) (i - k) j) rfl (by kernel_rfl) rfl vk_sl_24 (.own (.tmp rfl) rfl rfl rfl (Nat.le_refl _) (fun _ _ _ _ => rfl)) (.own (.tmp rfl) rfl rfl (Nat.le_refl _) (fun _ _ _ _ => rfl)) (by decide) (fun i j hi hj => match j, hj with | 0, _ => rfl | _ + 1, h => absurd h (by omega)) (fun _ _ _ _ => rfl) (by omega) (by omega) ⟨rfl, (by repeat first | exact trivial | refine ⟨by decide, by first | rfl | exact trivial | (intro i j; first | rfl | exact getD_no rfl | (dsimp only; split <;> first | rfl | exact getD_no rfl)), ?_⟩)⟩ (fun i j => by dsimp only; split <;> first | rfl | exact getD_no rfl) rfl rfl (Nat.le_of_ble_eq_true rfl) ?_
      refine ARun.pure (PureOp.fieldPtr rfl (.tmp rfl) vk_fi_27_4_4) rfl rfl (Nat.le_of_ble_eq_true rfl) ?_
      refine ARun.store rfl (.tmp rfl) (.tmp rfl) trivial rfl (Nat.le_of_ble_eq_true rfl) vk_sz_24_1 rfl rfl ?_
      refine ARun.nil ?_
      refine AW.region ?_
      refine ARun.pure (PureOp.move rfl (.tmp rfl)) rfl rfl (Nat.le_of_ble_eq_true rfl) ?_
      refine ARun.pure (PureOp.add (c := ((k + 1 : Nat) : Int)) rfl (.tmp rfl) .int (by rw [wrap_id (by omega) (by omega)]; omega)) rfl rfl (Nat.le_of_ble_eq_true rfl) ?_
      refine ARun.pure (PureOp.assign rfl (.tmp rfl)) rfl rfl (Nat.le_of_ble_eq_true rfl) ?_
      refine ARun.nil ?_
      exact ⟨k + 1, (swp 4 6), by omega, by dsimp only; omega, swp_inj, (swp_fix rfl rfl), ⟨⟨⟨_, rfl, rfl⟩, ⟨_, rfl, rfl⟩, ⟨_, rfl, rfl⟩, ⟨_, rfl, rfl⟩, trivial⟩, ⟨⟨_, rfl, rfl, Nat.le_refl _, fun _ _ _ _ => rfl⟩, ⟨_, rfl, rfl, Nat.le_refl _, fun i j _ (hj : j < 1) => match j, hj with | 0, _ => rfl | _ + 1, h => absurd h (by omega)⟩, ⟨_, rfl, rfl, Nat.le_refl _, fun i j _ (hj : j < 1) => match j, hj with | 0, _ => rfl | _ + 1, h => absurd h (by omega)⟩, ⟨_, rfl, rfl, Nat.le_refl _, fun _ _ _ _ => rfl⟩, ⟨_, rfl, rfl, Nat.le_refl _, fun i j hi (hj : j < 1) => match j, hj with | 0, _ => app_at hi (fun _ => rfl) (fun h => by subst h; rfl) | _ + 1, h => absurd h (by omega)⟩, trivial⟩⟩⟩
    · have _u := True.intro
      replace hb2 := of_decide_eq_false hb2
      refine AW.exit ?_
      refine AW.seq ?_
      refine AW.region ?_
      refine ARun.pure (PureOp.loadPtrAgg rfl (.tmp rfl) vk_ag_27_6 rfl rfl (Nat.le_of_ble_eq_true rfl) (Nat.le_of_ble_eq_true rfl)) rfl rfl (Nat.le_of_ble_eq_true rfl) ?_
      refine ARun.store rfl (.tmp rfl) (.tmp rfl) (SV.cells_of (by exact ⟨trivial, trivial, trivial, trivial, trivial, ⟨rfl, (fun _ e => by cases e), (fun _ e => by cases e)⟩, trivial⟩)) rfl (Nat.le_of_ble_eq_true rfl) vk_sz_27_6 rfl rfl ?_
      refine ARun.pure (PureOp.assign rfl .bool) rfl rfl (Nat.le_of_ble_eq_true rfl) ?_
      refine ARun.nil ?_
      rw [show newReplV x = (newReplD x.toNat, true) from if_pos hb1]
      exact AW.ret (show ∃ s t, ResL _ _ [.cell 2 27, .tmp 3] s ∧ TvS _ (ofLeaf t) 0 s _ from ⟨_, fun a b => if a = 1 then 0 else if a = 2 then 1 else if a = 4 then 4 else 1000, .inr (.inl ⟨_, _, _, _, rfl, .cells rfl vk_ag_27_6 rfl rfl (Nat.le_of_ble_eq_true rfl) (Nat.le_of_ble_eq_true rfl), .tmp rfl, rfl⟩), ⟨⟨(Tv.nilsN List.length_replicate rfl rfl rfl (Nat.le_refl _) (by rfl) (fun i hi => rfl) (fun i hi => ⟨2, _, by show AV.lst 2 (List.length ((List.replicate _ ([] : List GEntry)).getD i [])) _ = _; rw [getD_rep hi]; rfl⟩)), (Tv.flatN List.length_replicate rfl rfl rfl (Nat.le_refl _) (by rfl) (fun i j hi hj => match j, hj with | 0, _ => congrArg AV.bool (getD_rep hi).symm | _ + 1, h => absurd h (by omega)) (fun i j hi hj => match j, hj with | 0, _ => rfl | _ + 1, h => absurd h (by omega))), .int, .int, (Tv.flatN ((is_len _).trans (show x.toNat = k from by omega)) rfl rfl rfl (Nat.le_refl _) (by rfl) (fun i j hi hj => match j, hj with | 0, _ => (congrArg (AV.int .i64) (is_at (show i < x.toNat from by omega))).symm | _ + 1, h => absurd h (by omega)) (fun i j hi hj => match j, hj with | 0, _ => rfl | _ + 1, h => absurd h (by omega))), .nil, trivial⟩, .bool⟩⟩)

theorem v_iNewRepl (x : Int) : FnT Try.prog 11 [.one (.int .i64 x)] (.tup2 (.agg [.lst 1 ((((newReplV x).1).logs).length) (fun i0 _ => .lst 2 (((((newReplV x).1).logs).getD i0 []).length) (fun i1 j1 => ([.int .i64 ((((((newReplV x).1).logs).getD i0 []).getD i1 (default : GEntry)).epoch), .str ((((((newReplV x).1).logs).getD i0 []).getD i1 (default : GEntry)).text)] : List AV).getD j1 (.con undef))), .lst 1 ((((newReplV x).1).down).length) (fun i0 _ => .bool ((((newReplV x).1).down).getD i0 false)), .int .i64 (((newReplV x).1).leader), .int .i64 (((newReplV x).1).epoch), .lst 1 ((((newReplV x).1).inSync).length) (fun i0 _ => .int .i64 ((((newReplV x).1).inSync).getD i0 0)), .lst 2 ((((newReplV x).1).certain).length) (fun i0 j0 => ([.int .i64 (((((newReplV x).1).certain).getD i0 (default : GEntry)).epoch), .str (((((newReplV x).1).certain).getD i0 (default : GEntry)).text)] : List AV).getD j0 (.con undef))]) (.one (.bool ((newReplV x).2)))) := by
  refine FnT.of_body (fn := Try.f11) Try.func11 rfl (Nat.le_of_ble_eq_true rfl)  ?_
  intro w0
  show AW _ 10 _ _ _ _
  refine AW.seq ?_
  refine AW.region ?_
  refine ARun.alloc (id := 0) (l := [.con (.slice none 0 0), .con (.slice none 0 0), .int .i64 0, .int .i64 0, .con (.slice none 0 0), .con (.slice none 0 0)]) (z := (.agg #[.slice none 0 0, .slice none 0 0, .int .i64 0, .int .i64 0, .slice none 0 0, .slice none 0 0])) rfl (by kernel_rfl) (fun _ _ _ => ⟨_, _, rfl, rfl, ⟨_, _, rfl, rfl, ⟨_, _, rfl, rfl, ⟨_, _, rfl, rfl, ⟨_, _, rfl, rfl, ⟨_, _, rfl, rfl, rfl⟩⟩⟩⟩⟩⟩) ⟨rfl, (by repeat first | exact trivial | refine ⟨by decide, by first | rfl | exact trivial | (intro i j; first | rfl | exact getD_no rfl | (dsimp only; split <;> first | rfl | exact getD_no rfl)), ?_⟩)⟩ rfl rfl rfl (Nat.le_of_ble_eq_true rfl) ?_
  refine ARun.pure (PureOp.assign rfl .bool) rfl rfl (Nat.le_of_ble_eq_true rfl) ?_
  refine ARun.nil ?_
  refine AW.seq ?_
  refine AW.seq ?_
  refine AW.region ?_
  refine ARun.pure (PureOp.move rfl (.tmp rfl)) rfl rfl (Nat.le_of_ble_eq_true rfl) ?_
  refine ARun.pure (PureOp.call rfl (v_within x 1 5) ⟨⟨_, (.tmp rfl), .int⟩, ⟨_, .int, .int⟩, ⟨_, .int, .int⟩, trivial⟩ vk_ca_45 trivial) rfl rfl (Nat.le_of_ble_eq_true rfl) ?_
  refine ARun.pure (PureOp.not rfl (.tmp rfl)) rfl rfl (Nat.le_of_ble_eq_true rfl) ?_
  refine ARun.nil ?_
  refine AW.cond (.tmp rfl) (fun hb1 => ?_) (fun hb1 => ?_)
  · have _u := True.intro
    replace hb1 := of_not hb1
    refine AW.seq ?_
    refine AW.region ?_
    refine ARun.pure (PureOp.build (ys := []) (l := [.con (.slice none 0 0), .con (.slice none 0 0), .int .i64 0, .int .i64 0, .con (.slice none 0 0), .con (.slice none 0 0)]) (pl := [(0, 1), (1, 1), (2, 1), (3, 1), (4, 1), (5, 1)]) (z := (.agg #[.slice none 0 0, .slice none 0 0, .int .i64 0, .int .i64 0, .slice none 0 0, .slice none 0 0])) rfl (by kernel_rfl) (by kernel_rfl) (fun _ _ _ => ⟨_, _, rfl, rfl, ⟨_, _, rfl, rfl, ⟨_, _, rfl, rfl, ⟨_, _, rfl, rfl, ⟨_, _, rfl, rfl, ⟨_, _, rfl, rfl, rfl⟩⟩⟩⟩⟩⟩) trivial rfl) rfl rfl (Nat.le_of_ble_eq_true rfl) ?_
    refine ARun.store rfl (.tmp rfl) (.tmp rfl) (SV.cells_of (by exact ⟨⟨rfl, (fun _ e => by cases e), (fun _ e => by cases e)⟩, ⟨rfl, (fun _ e => by cases e), (fun _ e => by cases e)⟩, trivial, trivial, ⟨rfl, (fun _ e => by cases e), (fun _ e => by cases e)⟩, ⟨rfl, (fun _ e => by cases e), (fun _ e => by cases e)⟩, trivial⟩)) rfl (Nat.le_of_ble_eq_true rfl) vk_sz_27_6 rfl rfl ?_
    refine ARun.pure (PureOp.assign rfl .bool) rfl rfl (Nat.le_of_ble_eq_true rfl) ?_
    refine ARun.nil ?_
    rw [show newReplV x = (⟨[], [], 0, 0, [], []⟩, false) from if_neg (by rw [hb1]; decide)]
    exact AW.ret (show ∃ s t, ResL _ _ [.cell 2 27, .tmp 3] s ∧ TvS _ (ofLeaf t) 0 s _ from ⟨_, fun a b => 1000, .inr (.inl ⟨_, _, _, _, rfl, .cells rfl vk_ag_27_6 rfl rfl (Nat.le_of_ble_eq_true rfl) (Nat.le_of_ble_eq_true rfl), .tmp rfl, rfl⟩), ⟨⟨.nil, .nil, .int, .int, .nil, .nil, trivial⟩, .bool⟩⟩)
  · have _u := True.intro
    replace hb1 := not_f hb1
    obtain ⟨hlo, hhi⟩ := inB_true hb1
    refine AW.skip ?_
    refine AW.seq ?_
    refine AW.region ?_
    refine ARun.pure (PureOp.move rfl (.tmp rfl)) rfl rfl (Nat.le_of_ble_eq_true rfl) ?_
    refine ARun.prod (K := 1) rfl (v_newRepl x ⟨by omega, by omega⟩) ⟨rfl, (by repeat first | exact trivial | refine ⟨by decide, by first | rfl | exact trivial | (intro i j; first | rfl | exact getD_no rfl | (dsimp only; split <;> first | rfl | exact getD_no rfl)), ?_⟩)⟩ ⟨⟨_, (.tmp rfl), .int⟩, trivial⟩ vk_ca_46 rfl rfl rfl rfl rfl (Nat.le_of_ble_eq_true rfl) ?_
    refine ARun.store rfl (.tmp rfl) (.tmp rfl) (SV.cells_of (by exact ⟨trivial, trivial, trivial, trivial, trivial, trivial, trivial⟩)) rfl (Nat.le_of_ble_eq_true rfl) vk_sz_27_6 rfl rfl ?_
    refine ARun.pure (PureOp.assign rfl .bool) rfl rfl (Nat.le_of_ble_eq_true rfl) ?_
    refine ARun.nil ?_
    rw [show newReplV x = (newReplD x.toNat, true) from if_pos hb1]
    exact AW.ret (show ∃ s t, ResL _ _ [.cell 2 27, .tmp 3] s ∧ TvS _ (ofLeaf t) 0 s _ from ⟨_, fun a b => if a = 1 then b else 1000, .inr (.inl ⟨_, _, _, _, rfl, .cells rfl vk_ag_27_6 rfl rfl (Nat.le_of_ble_eq_true rfl) (Nat.le_of_ble_eq_true rfl), .tmp rfl, rfl⟩), ⟨⟨(Tv.cast (Tv.tre rfl (Nat.le_of_ble_eq_true rfl) (by rfl)) rfl), (Tv.cast (Tv.tre rfl (Nat.le_of_ble_eq_true rfl) (by rfl)) rfl), .int, .int, (Tv.cast (Tv.tre rfl (Nat.le_of_ble_eq_true rfl) (by rfl)) rfl), (Tv.cast (Tv.tre rfl (Nat.le_of_ble_eq_true rfl) (by rfl)) rfl), trivial⟩, .bool⟩⟩)
end Go.Proofs.Ytmlhlkpiofbhgaa
