/-
  The laws' own comparisons (eq) over the data of this seat.
-/
import Derived.Test.YtmlhlkpiofbhgaaTy5
namespace Go.Proofs.Ytmlhlkpiofbhgaa
open Go.ChangeShapes Go.WideShapes Go.ChangeAt Go.RowKit Go.BigFrame Go.Deep
set_option linter.unusedVariables false
set_option linter.unusedSimpArgs false
theorem ve_ag_106_2 : aggB Try.prog 106 2 = true := by kernel_rfl
theorem ve_ag_114_5 : aggB Try.prog 114 5 = true := by kernel_rfl
theorem ve_ag_120_2 : aggB Try.prog 120 2 = true := by kernel_rfl
theorem ve_ag_98_2 : aggB Try.prog 98 2 = true := by kernel_rfl
theorem ve_bo_4 : boolB Try.prog 4 = true := by kernel_rfl
theorem ve_ca_34 : callB Try.prog 34 = true := by kernel_rfl
theorem ve_ca_47 : callB Try.prog 47 = true := by kernel_rfl
theorem ve_ca_48 : callB Try.prog 48 = true := by kernel_rfl
theorem ve_ca_49 : callB Try.prog 49 = true := by kernel_rfl
theorem ve_ca_50 : callB Try.prog 50 = true := by kernel_rfl
theorem ve_ca_80 : callB Try.prog 80 = true := by kernel_rfl
theorem ve_ca_86 : callB Try.prog 86 = true := by kernel_rfl
theorem ve_ca_92 : callB Try.prog 92 = true := by kernel_rfl
theorem ve_ca_93 : callB Try.prog 93 = true := by kernel_rfl
theorem ve_el_22_1 : elemB Try.prog 22 1 = true := by kernel_rfl
theorem ve_el_23_1 : elemB Try.prog 23 1 = true := by kernel_rfl
theorem ve_el_24_1 : elemB Try.prog 24 1 = true := by kernel_rfl
theorem ve_el_25_2 : elemB Try.prog 25 2 = true := by kernel_rfl
theorem ve_el_49_2 : elemB Try.prog 49 2 = true := by kernel_rfl
theorem ve_el_57_2 : elemB Try.prog 57 2 = true := by kernel_rfl
theorem ve_el_69_5 : elemB Try.prog 69 5 = true := by kernel_rfl
theorem ve_fi_106_0_0 : fieldB Try.prog 106 0 0 = true := by kernel_rfl
theorem ve_fi_106_1_1 : fieldB Try.prog 106 1 1 = true := by kernel_rfl
theorem ve_fi_114_0_0 : fieldB Try.prog 114 0 0 = true := by kernel_rfl
theorem ve_fi_114_1_1 : fieldB Try.prog 114 1 1 = true := by kernel_rfl
theorem ve_fi_114_2_2 : fieldB Try.prog 114 2 2 = true := by kernel_rfl
theorem ve_fi_114_3_3 : fieldB Try.prog 114 3 3 = true := by kernel_rfl
theorem ve_fi_114_4_4 : fieldB Try.prog 114 4 4 = true := by kernel_rfl
theorem ve_fi_120_0_0 : fieldB Try.prog 120 0 0 = true := by kernel_rfl
theorem ve_fi_120_1_1 : fieldB Try.prog 120 1 1 = true := by kernel_rfl
theorem ve_fi_27_0_0 : fieldB Try.prog 27 0 0 = true := by kernel_rfl
theorem ve_fi_27_1_1 : fieldB Try.prog 27 1 1 = true := by kernel_rfl
theorem ve_fi_27_2_2 : fieldB Try.prog 27 2 2 = true := by kernel_rfl
theorem ve_fi_27_3_3 : fieldB Try.prog 27 3 3 = true := by kernel_rfl
theorem ve_fi_27_4_4 : fieldB Try.prog 27 4 4 = true := by kernel_rfl
theorem ve_fi_27_5_5 : fieldB Try.prog 27 5 5 = true := by kernel_rfl
theorem ve_fi_98_0_0 : fieldB Try.prog 98 0 0 = true := by kernel_rfl
theorem ve_fi_98_1_1 : fieldB Try.prog 98 1 1 = true := by kernel_rfl
theorem ve_pl_22 : plainB Try.prog 22 = true := by kernel_rfl
theorem ve_pl_23 : plainB Try.prog 23 = true := by kernel_rfl
theorem ve_pl_24 : plainB Try.prog 24 = true := by kernel_rfl
theorem ve_pl_25 : plainB Try.prog 25 = true := by kernel_rfl
theorem ve_pl_3 : plainB Try.prog 3 = true := by kernel_rfl
theorem ve_pl_4 : plainB Try.prog 4 = true := by kernel_rfl
theorem ve_pl_57 : plainB Try.prog 57 = true := by kernel_rfl
theorem ve_pl_9 : plainB Try.prog 9 = true := by kernel_rfl
theorem ve_sl_22 : sliceB Try.prog 22 = true := by kernel_rfl
theorem ve_sl_23 : sliceB Try.prog 23 = true := by kernel_rfl
theorem ve_sl_24 : sliceB Try.prog 24 = true := by kernel_rfl
theorem ve_sl_25 : sliceB Try.prog 25 = true := by kernel_rfl
theorem ve_sl_49 : sliceB Try.prog 49 = true := by kernel_rfl
theorem ve_sl_57 : sliceB Try.prog 57 = true := by kernel_rfl
theorem ve_sl_69 : sliceB Try.prog 69 = true := by kernel_rfl
theorem v_eqEntry (x y : GEntry) : Fn Try.prog 93 [.agg [.int .i64 x.epoch, .str x.text], .agg [.int .i64 y.epoch, .str y.text]] (.one (.bool (decide (x = y)))) := by
  refine Fn.of_body (fn := Try.f93) Try.func93 rfl (Nat.le_of_ble_eq_true rfl) trivial ?_
  intro w0
  show AW _ 15 _ _ _ _
  refine AW.seq ?_
  refine AW.region ?_
  refine ARun.box (id := 0) rfl (.tmp rfl) (SV.cells_of (by exact ⟨trivial, trivial, trivial⟩)) ⟨rfl, (by repeat first | exact trivial | refine ⟨by decide, by first | rfl | exact trivial | (intro i j; first | rfl | exact getD_no rfl | (dsimp only; split <;> first | rfl | exact getD_no rfl)), ?_⟩)⟩ rfl rfl rfl (Nat.le_of_ble_eq_true rfl) ?_
  refine ARun.box (id := 1) rfl (.tmp rfl) (SV.cells_of (by exact ⟨trivial, trivial, trivial⟩)) ⟨rfl, (by repeat first | exact trivial | refine ⟨by decide, by first | rfl | exact trivial | (intro i j; first | rfl | exact getD_no rfl | (dsimp only; split <;> first | rfl | exact getD_no rfl)), ?_⟩)⟩ rfl rfl rfl (Nat.le_of_ble_eq_true rfl) ?_
  refine ARun.pure (PureOp.assign rfl .bool) rfl rfl (Nat.le_of_ble_eq_true rfl) ?_
  refine ARun.nil ?_
  refine AW.seq ?_
  refine AW.seq ?_
  refine AW.region ?_
  refine ARun.pure (PureOp.fieldPtr rfl (.tmp rfl) ve_fi_120_0_0) rfl rfl (Nat.le_of_ble_eq_true rfl) ?_
  refine ARun.pure (PureOp.loadPtr rfl (.tmp rfl) ve_pl_3 rfl rfl (Nat.le_of_ble_eq_true rfl) (Nat.le_of_ble_eq_true rfl)) rfl rfl (Nat.le_of_ble_eq_true rfl) ?_
  refine ARun.pure (PureOp.fieldPtr rfl (.tmp rfl) ve_fi_120_0_0) rfl rfl (Nat.le_of_ble_eq_true rfl) ?_
  refine ARun.pure (PureOp.loadPtr rfl (.tmp rfl) ve_pl_3 rfl rfl (Nat.le_of_ble_eq_true rfl) (Nat.le_of_ble_eq_true rfl)) rfl rfl (Nat.le_of_ble_eq_true rfl) ?_
  refine ARun.pure (PureOp.intOp rfl (.tmp rfl) (.tmp rfl) rfl) rfl rfl (Nat.le_of_ble_eq_true rfl) ?_
  refine ARun.nil ?_
  refine AW.cond (.tmp rfl) (fun hb1 => ?_) (fun hb1 => ?_)
  · have _u := True.intro
    replace hb1 := of_decide_eq_false (of_not hb1)
    refine AW.seq ?_
    refine AW.region ?_
    refine ARun.pure (PureOp.assign rfl .bool) rfl rfl (Nat.le_of_ble_eq_true rfl) ?_
    refine ARun.nil ?_
    refine AW.ret (show ResL _ _ [.tmp 4] _ from resB rfl ?_)
    exact (decide_eq_false (fun e => hb1 (by rw [e]))).symm
  · have _u := True.intro
    replace hb1 := of_decide_eq_true (not_f hb1)
    refine AW.skip ?_
    refine AW.seq ?_
    refine AW.seq ?_
    refine AW.region ?_
    refine ARun.pure (PureOp.fieldPtr rfl (.tmp rfl) ve_fi_120_1_1) rfl rfl (Nat.le_of_ble_eq_true rfl) ?_
    refine ARun.pure (PureOp.loadPtr rfl (.tmp rfl) ve_pl_9 rfl rfl (Nat.le_of_ble_eq_true rfl) (Nat.le_of_ble_eq_true rfl)) rfl rfl (Nat.le_of_ble_eq_true rfl) ?_
    refine ARun.pure (PureOp.fieldPtr rfl (.tmp rfl) ve_fi_120_1_1) rfl rfl (Nat.le_of_ble_eq_true rfl) ?_
    refine ARun.pure (PureOp.loadPtr rfl (.tmp rfl) ve_pl_9 rfl rfl (Nat.le_of_ble_eq_true rfl) (Nat.le_of_ble_eq_true rfl)) rfl rfl (Nat.le_of_ble_eq_true rfl) ?_
    refine ARun.pure (PureOp.strOp rfl (.tmp rfl) (.tmp rfl) rfl) rfl rfl (Nat.le_of_ble_eq_true rfl) ?_
    refine ARun.nil ?_
    refine AW.cond (.tmp rfl) (fun hb2 => ?_) (fun hb2 => ?_)
    · have _u := True.intro
      replace hb2 := of_decide_eq_false (of_not hb2)
      refine AW.seq ?_
      refine AW.region ?_
      refine ARun.pure (PureOp.assign rfl .bool) rfl rfl (Nat.le_of_ble_eq_true rfl) ?_
      refine ARun.nil ?_
      refine AW.ret (show ResL _ _ [.tmp 4] _ from resB rfl ?_)
      exact (decide_eq_false (fun e => hb2 (by rw [e]))).symm
    · have _u := True.intro
      replace hb2 := of_decide_eq_true (not_f hb2)
      refine AW.skip ?_
      refine AW.seq ?_
      refine AW.region ?_
      refine ARun.pure (PureOp.assign rfl .bool) rfl rfl (Nat.le_of_ble_eq_true rfl) ?_
      refine ARun.nil ?_
      refine AW.ret (show ResL _ _ [.tmp 4] _ from resB rfl ?_)
      exact (decide_eq_true (by cases x; cases y; simp_all)).symm

theorem v_eqEntryS (x y : List GEntry) : Fn Try.prog 50 [.one (.lst 2 x.length (fun i0 j0 => ([.int .i64 ((x.getD i0 (default : GEntry)).epoch), .str ((x.getD i0 (default : GEntry)).text)] : List AV).getD j0 (.con undef))), .one (.lst 2 y.length (fun i0 j0 => ([.int .i64 ((y.getD i0 (default : GEntry)).epoch), .str ((y.getD i0 (default : GEntry)).text)] : List AV).getD j0 (.con undef)))] (.one (.bool (decide (x = y)))) := by
  refine Fn.of_body (fn := Try.f50) Try.func50 rfl (Nat.le_of_ble_eq_true rfl) trivial ?_
  intro w0
  show AW _ 27 _ _ _ _
  refine AW.bound (t := 0) rfl fun hx => ?_
  refine AW.seq ?_
  refine AW.region ?_
  refine ARun.pure (PureOp.assign rfl .bool) rfl rfl (Nat.le_of_ble_eq_true rfl) ?_
  refine ARun.nil ?_
  refine AW.seq ?_
  refine AW.seq ?_
  refine AW.region ?_
  refine ARun.pure (PureOp.move rfl (.tmp rfl)) rfl rfl (Nat.le_of_ble_eq_true rfl) ?_
  refine ARun.pure (PureOp.lenLst rfl (.tmp rfl) ve_sl_25) rfl rfl (Nat.le_of_ble_eq_true rfl) ?_
  refine ARun.pure (PureOp.move rfl (.tmp rfl)) rfl rfl (Nat.le_of_ble_eq_true rfl) ?_
  refine ARun.pure (PureOp.lenLst rfl (.tmp rfl) ve_sl_25) rfl rfl (Nat.le_of_ble_eq_true rfl) ?_
  refine ARun.pure (PureOp.intOp rfl (.tmp rfl) (.tmp rfl) rfl) rfl rfl (Nat.le_of_ble_eq_true rfl) ?_
  refine ARun.nil ?_
  refine AW.cond (.tmp rfl) (fun hb1 => ?_) (fun hb1 => ?_)
  · have _u := True.intro
    replace hb1 := of_decide_eq_false (of_not hb1)
    refine AW.seq ?_
    refine AW.region ?_
    refine ARun.pure (PureOp.assign rfl .bool) rfl rfl (Nat.le_of_ble_eq_true rfl) ?_
    refine ARun.nil ?_
    refine AW.ret (show ResL _ _ [.tmp 4] _ from resB rfl ?_)
    exact (decide_eq_false (fun e => by rw [e] at hb1; omega)).symm
  · have _u := True.intro
    replace hb1 := of_decide_eq_true (not_f hb1)
    refine AW.skip ?_
    refine AW.seq ?_
    refine AW.seq ?_
    refine AW.region ?_
    refine ARun.pure (PureOp.assign rfl .int) rfl rfl (Nat.le_of_ble_eq_true rfl) ?_
    refine ARun.nil ?_
    refine AW.block ?_
    refine AW.loop (ι := Nat) (fun k => ⟨[(0, .one (.lst 2 x.length (fun i0 j0 => ([.int .i64 ((x.getD i0 (default : GEntry)).epoch), .str ((x.getD i0 (default : GEntry)).text)] : List AV).getD j0 (.con undef)))), (1, .one (.lst 2 y.length (fun i0 j0 => ([.int .i64 ((y.getD i0 (default : GEntry)).epoch), .str ((y.getD i0 (default : GEntry)).text)] : List AV).getD j0 (.con undef)))), (5, .one (.int .i64 (k : Int)))], []⟩) (fun k => k ≤ x.length ∧ x.take k = y.take k) (fun k => x.length - k) 0 ⟨Nat.zero_le _, rfl⟩ ⟨⟨⟨_, rfl, rfl⟩, ⟨_, rfl, rfl⟩, ⟨_, rfl, rfl⟩, trivial⟩, trivial⟩ ?_
    intro k hI
    obtain ⟨hk, hq⟩ := hI
    refine AW.seq ?_
    refine AW.seq ?_
    refine AW.region ?_
    refine ARun.pure (PureOp.move rfl (.tmp rfl)) rfl rfl (Nat.le_of_ble_eq_true rfl) ?_
    refine ARun.pure (PureOp.move rfl (.tmp rfl)) rfl rfl (Nat.le_of_ble_eq_true rfl) ?_
    refine ARun.pure (PureOp.lenLst rfl (.tmp rfl) ve_sl_25) rfl rfl (Nat.le_of_ble_eq_true rfl) ?_
    refine ARun.pure (PureOp.intOp rfl (.tmp rfl) (.tmp rfl) rfl) rfl rfl (Nat.le_of_ble_eq_true rfl) ?_
    refine ARun.nil ?_
    refine AW.cond (.tmp rfl) (fun hb2 => ?_) (fun hb2 => ?_)
    · have _u := True.intro
      replace hb2 := of_decide_eq_true hb2
      have hlt : k < x.length := by omega
      have hlt2 : k < y.length := by omega
      refine AW.skip ?_
      refine AW.seq ?_
      refine AW.block ?_
      refine AW.seq ?_
      refine AW.any (by kernel_rfl) (by kernel_rfl) ?_
      refine AD.pure (PureOp.move rfl (.tmp rfl)) rfl rfl (Nat.le_of_ble_eq_true rfl) ?_
      refine AD.pure (PureOp.move rfl (.tmp rfl)) rfl rfl (Nat.le_of_ble_eq_true rfl) ?_
      refine AD.pure (PureOp.indexLst (i := k) rfl (.tmp rfl) ve_el_25_2 (.tmp rfl) rfl (by omega)) rfl rfl (Nat.le_of_ble_eq_true rfl) ?_
      refine AD.pure (PureOp.loadRefAgg rfl (.tmp rfl) ve_ag_120_2 (Nat.le_of_ble_eq_true rfl)) rfl rfl (Nat.le_of_ble_eq_true rfl) ?_
      refine AD.pure (PureOp.move rfl (.tmp rfl)) rfl rfl (Nat.le_of_ble_eq_true rfl) ?_
      refine AD.pure (PureOp.move rfl (.tmp rfl)) rfl rfl (Nat.le_of_ble_eq_true rfl) ?_
      refine AD.pure (PureOp.indexLst (i := k) rfl (.tmp rfl) ve_el_25_2 (.tmp rfl) rfl (by omega)) rfl rfl (Nat.le_of_ble_eq_true rfl) ?_
      refine AD.pure (PureOp.loadRefAgg rfl (.tmp rfl) ve_ag_120_2 (Nat.le_of_ble_eq_true rfl)) rfl rfl (Nat.le_of_ble_eq_true rfl) ?_
      refine AD.pure (PureOp.call rfl (v_eqEntry (x.getD k (default : GEntry)) (y.getD k (default : GEntry))) ⟨⟨_, (.tmp rfl), ⟨.int, .str, trivial⟩⟩, ⟨_, (.tmp rfl), ⟨.int, .str, trivial⟩⟩, trivial⟩ ve_ca_93 trivial) rfl rfl (Nat.le_of_ble_eq_true rfl) ?_
      refine AD.pure (PureOp.not rfl (.tmp rfl)) rfl rfl (Nat.le_of_ble_eq_true rfl) ?_
      refine AD.nil ?_
      refine AW.cond (.tmp rfl) (fun hb3 => ?_) (fun hb3 => ?_)
      · have _u := True.intro
        replace hb3 := of_decide_eq_false (of_not hb3)
        refine AW.seq ?_
        refine AW.region ?_
        refine ARun.pure (PureOp.assign rfl .bool) rfl rfl (Nat.le_of_ble_eq_true rfl) ?_
        refine ARun.nil ?_
        refine AW.ret (show ResL _ _ [.tmp 4] _ from resB rfl ?_)
        exact (decide_eq_false (fun e => hb3 (by rw [e]))).symm
      · have _u := True.intro
        replace hb3 := of_decide_eq_true (not_f hb3)
        refine AW.skip ?_
        refine AW.region ?_
        refine ARun.pure (PureOp.move rfl (.tmp rfl)) rfl rfl (Nat.le_of_ble_eq_true rfl) ?_
        refine ARun.pure (PureOp.add (c := ((k + 1 : Nat) : Int)) rfl (.tmp rfl) .int (by rw [wrap_id (by omega) (by omega)]; omega)) rfl rfl (Nat.le_of_ble_eq_true rfl) ?_
        refine ARun.pure (PureOp.assign rfl (.tmp rfl)) rfl rfl (Nat.le_of_ble_eq_true rfl) ?_
        refine ARun.nil ?_
        exact ⟨k + 1, ⟨by omega, take_next (default : GEntry) hlt (by omega) hq hb3⟩, by dsimp only; omega, ⟨⟨⟨_, rfl, rfl⟩, ⟨_, rfl, rfl⟩, ⟨_, rfl, rfl⟩, trivial⟩, trivial⟩⟩
    · have _u := True.intro
      replace hb2 := of_decide_eq_false hb2
      have hlt : ¬ k < x.length := by omega
      refine AW.exit ?_
      refine AW.seq ?_
      refine AW.region ?_
      refine ARun.pure (PureOp.assign rfl .bool) rfl rfl (Nat.le_of_ble_eq_true rfl) ?_
      refine ARun.nil ?_
      refine AW.ret (show ResL _ _ [.tmp 4] _ from resB rfl ?_)
      exact (decide_eq_true (eqL_yes hlt (by omega) hq)).symm

theorem v_eqEntrySS (x y : List (List GEntry)) : Fn Try.prog 47 [.one (.lst 1 x.length (fun i0 _ => .lst 2 ((x.getD i0 []).length) (fun i1 j1 => ([.int .i64 (((x.getD i0 []).getD i1 (default : GEntry)).epoch), .str (((x.getD i0 []).getD i1 (default : GEntry)).text)] : List AV).getD j1 (.con undef)))), .one (.lst 1 y.length (fun i0 _ => .lst 2 ((y.getD i0 []).length) (fun i1 j1 => ([.int .i64 (((y.getD i0 []).getD i1 (default : GEntry)).epoch), .str (((y.getD i0 []).getD i1 (default : GEntry)).text)] : List AV).getD j1 (.con undef))))] (.one (.bool (decide (x = y)))) := by
  refine Fn.of_body (fn := Try.f47) Try.func47 rfl (Nat.le_of_ble_eq_true rfl) trivial ?_
  intro w0
  show AW _ 27 _ _ _ _
  refine AW.bound (t := 0) rfl fun hx => ?_
  refine AW.seq ?_
  refine AW.region ?_
  refine ARun.pure (PureOp.assign rfl .bool) rfl rfl (Nat.le_of_ble_eq_true rfl) ?_
  refine ARun.nil ?_
  refine AW.seq ?_
  refine AW.seq ?_
  refine AW.region ?_
  refine ARun.pure (PureOp.move rfl (.tmp rfl)) rfl rfl (Nat.le_of_ble_eq_true rfl) ?_
  refine ARun.pure (PureOp.lenLst rfl (.tmp rfl) ve_sl_22) rfl rfl (Nat.le_of_ble_eq_true rfl) ?_
  refine ARun.pure (PureOp.move rfl (.tmp rfl)) rfl rfl (Nat.le_of_ble_eq_true rfl) ?_
  refine ARun.pure (PureOp.lenLst rfl (.tmp rfl) ve_sl_22) rfl rfl (Nat.le_of_ble_eq_true rfl) ?_
  refine ARun.pure (PureOp.intOp rfl (.tmp rfl) (.tmp rfl) rfl) rfl rfl (Nat.le_of_ble_eq_true rfl) ?_
  refine ARun.nil ?_
  refine AW.cond (.tmp rfl) (fun hb1 => ?_) (fun hb1 => ?_)
  · have _u := True.intro
    replace hb1 := of_decide_eq_false (of_not hb1)
    refine AW.seq ?_
    refine AW.region ?_
    refine ARun.pure (PureOp.assign rfl .bool) rfl rfl (Nat.le_of_ble_eq_true rfl) ?_
    refine ARun.nil ?_
    refine AW.ret (show ResL _ _ [.tmp 4] _ from resB rfl ?_)
    exact (decide_eq_false (fun e => by rw [e] at hb1; omega)).symm
  · have _u := True.intro
    replace hb1 := of_decide_eq_true (not_f hb1)
    refine AW.skip ?_
    refine AW.seq ?_
    refine AW.seq ?_
    refine AW.region ?_
    refine ARun.pure (PureOp.assign rfl .int) rfl rfl (Nat.le_of_ble_eq_true rfl) ?_
    refine ARun.nil ?_
    refine AW.block ?_
    refine AW.loop (ι := Nat) (fun k => ⟨[(0, .one (.lst 1 x.length (fun i0 _ => .lst 2 ((x.getD i0 []).length) (fun i1 j1 => ([.int .i64 (((x.getD i0 []).getD i1 (default : GEntry)).epoch), .str (((x.getD i0 []).getD i1 (default : GEntry)).text)] : List AV).getD j1 (.con undef))))), (1, .one (.lst 1 y.length (fun i0 _ => .lst 2 ((y.getD i0 []).length) (fun i1 j1 => ([.int .i64 (((y.getD i0 []).getD i1 (default : GEntry)).epoch), .str (((y.getD i0 []).getD i1 (default : GEntry)).text)] : List AV).getD j1 (.con undef))))), (5, .one (.int .i64 (k : Int)))], []⟩) (fun k => k ≤ x.length ∧ x.take k = y.take k) (fun k => x.length - k) 0 ⟨Nat.zero_le _, rfl⟩ ⟨⟨⟨_, rfl, rfl⟩, ⟨_, rfl, rfl⟩, ⟨_, rfl, rfl⟩, trivial⟩, trivial⟩ ?_
    intro k hI
    obtain ⟨hk, hq⟩ := hI
    refine AW.seq ?_
    refine AW.seq ?_
    refine AW.region ?_
    refine ARun.pure (PureOp.move rfl (.tmp rfl)) rfl rfl (Nat.le_of_ble_eq_true rfl) ?_
    refine ARun.pure (PureOp.move rfl (.tmp rfl)) rfl rfl (Nat.le_of_ble_eq_true rfl) ?_
    refine ARun.pure (PureOp.lenLst rfl (.tmp rfl) ve_sl_22) rfl rfl (Nat.le_of_ble_eq_true rfl) ?_
    refine ARun.pure (PureOp.intOp rfl (.tmp rfl) (.tmp rfl) rfl) rfl rfl (Nat.le_of_ble_eq_true rfl) ?_
    refine ARun.nil ?_
    refine AW.cond (.tmp rfl) (fun hb2 => ?_) (fun hb2 => ?_)
    · have _u := True.intro
      replace hb2 := of_decide_eq_true hb2
      have hlt : k < x.length := by omega
      have hlt2 : k < y.length := by omega
      refine AW.skip ?_
      refine AW.seq ?_
      refine AW.block ?_
      refine AW.seq ?_
      refine AW.any (by kernel_rfl) (by kernel_rfl) ?_
      refine AD.pure (PureOp.move rfl (.tmp rfl)) rfl rfl (Nat.le_of_ble_eq_true rfl) ?_
      refine AD.pure (PureOp.move rfl (.tmp rfl)) rfl rfl (Nat.le_of_ble_eq_true rfl) ?_
      refine AD.pure (PureOp.indexLst (i := k) rfl (.tmp rfl) ve_el_22_1 (.tmp rfl) rfl (by omega)) rfl rfl (Nat.le_of_ble_eq_true rfl) ?_
      refine AD.pure (PureOp.loadRef rfl (.tmp rfl) ve_pl_25 (Nat.le_of_ble_eq_true rfl)) rfl rfl (Nat.le_of_ble_eq_true rfl) ?_
      refine AD.pure (PureOp.move rfl (.tmp rfl)) rfl rfl (Nat.le_of_ble_eq_true rfl) ?_
      refine AD.pure (PureOp.move rfl (.tmp rfl)) rfl rfl (Nat.le_of_ble_eq_true rfl) ?_
      refine AD.pure (PureOp.indexLst (i := k) rfl (.tmp rfl) ve_el_22_1 (.tmp rfl) rfl (by omega)) rfl rfl (Nat.le_of_ble_eq_true rfl) ?_
      refine AD.pure (PureOp.loadRef rfl (.tmp rfl) ve_pl_25 (Nat.le_of_ble_eq_true rfl)) rfl rfl (Nat.le_of_ble_eq_true rfl) ?_
      refine AD.pure (PureOp.call rfl (v_eqEntryS (x.getD k []) (y.getD k [])) ⟨⟨_, (.tmp rfl), .lst⟩, ⟨_, (.tmp rfl), .lst⟩, trivial⟩ ve_ca_50 trivial) rfl rfl (Nat.le_of_ble_eq_true rfl) ?_
      refine AD.pure (PureOp.not rfl (.tmp rfl)) rfl rfl (Nat.le_of_ble_eq_true rfl) ?_
      refine AD.nil ?_
      refine AW.cond (.tmp rfl) (fun hb3 => ?_) (fun hb3 => ?_)
      · have _u := True.intro
        replace hb3 := of_decide_eq_false (of_not hb3)
        refine AW.seq ?_
        refine AW.region ?_
        refine ARun.pure (PureOp.assign rfl .bool) rfl rfl (Nat.le_of_ble_eq_true rfl) ?_
        refine ARun.nil ?_
        refine AW.ret (show ResL _ _ [.tmp 4] _ from resB rfl ?_)
        exact (decide_eq_false (fun e => hb3 (by rw [e]))).symm
      · have _u := True.intro
        replace hb3 := of_decide_eq_true (not_f hb3)
        refine AW.skip ?_
        refine AW.region ?_
        refine ARun.pure (PureOp.move rfl (.tmp rfl)) rfl rfl (Nat.le_of_ble_eq_true rfl) ?_
        refine ARun.pure (PureOp.add (c := ((k + 1 : Nat) : Int)) rfl (.tmp rfl) .int (by rw [wrap_id (by omega) (by omega)]; omega)) rfl rfl (Nat.le_of_ble_eq_true rfl) ?_
        refine ARun.pure (PureOp.assign rfl (.tmp rfl)) rfl rfl (Nat.le_of_ble_eq_true rfl) ?_
        refine ARun.nil ?_
        exact ⟨k + 1, ⟨by omega, take_next ([] : List GEntry) hlt (by omega) hq hb3⟩, by dsimp only; omega, ⟨⟨⟨_, rfl, rfl⟩, ⟨_, rfl, rfl⟩, ⟨_, rfl, rfl⟩, trivial⟩, trivial⟩⟩
    · have _u := True.intro
      replace hb2 := of_decide_eq_false hb2
      have hlt : ¬ k < x.length := by omega
      refine AW.exit ?_
      refine AW.seq ?_
      refine AW.region ?_
      refine ARun.pure (PureOp.assign rfl .bool) rfl rfl (Nat.le_of_ble_eq_true rfl) ?_
      refine ARun.nil ?_
      refine AW.ret (show ResL _ _ [.tmp 4] _ from resB rfl ?_)
      exact (decide_eq_true (eqL_yes hlt (by omega) hq)).symm

theorem v_eqBoolS (x y : List Bool) : Fn Try.prog 48 [.one (.lst 1 x.length (fun i0 _ => .bool (x.getD i0 false))), .one (.lst 1 y.length (fun i0 _ => .bool (y.getD i0 false)))] (.one (.bool (decide (x = y)))) := by
  refine Fn.of_body (fn := Try.f48) Try.func48 rfl (Nat.le_of_ble_eq_true rfl) trivial ?_
  intro w0
  show AW _ 26 _ _ _ _
  refine AW.bound (t := 0) rfl fun hx => ?_
  refine AW.seq ?_
  refine AW.region ?_
  refine ARun.pure (PureOp.assign rfl .bool) rfl rfl (Nat.le_of_ble_eq_true rfl) ?_
  refine ARun.nil ?_
  refine AW.seq ?_
  refine AW.seq ?_
  refine AW.region ?_
  refine ARun.pure (PureOp.move rfl (.tmp rfl)) rfl rfl (Nat.le_of_ble_eq_true rfl) ?_
  refine ARun.pure (PureOp.lenLst rfl (.tmp rfl) ve_sl_23) rfl rfl (Nat.le_of_ble_eq_true rfl) ?_
  refine ARun.pure (PureOp.move rfl (.tmp rfl)) rfl rfl (Nat.le_of_ble_eq_true rfl) ?_
  refine ARun.pure (PureOp.lenLst rfl (.tmp rfl) ve_sl_23) rfl rfl (Nat.le_of_ble_eq_true rfl) ?_
  refine ARun.pure (PureOp.intOp rfl (.tmp rfl) (.tmp rfl) rfl) rfl rfl (Nat.le_of_ble_eq_true rfl) ?_
  refine ARun.nil ?_
  refine AW.cond (.tmp rfl) (fun hb1 => ?_) (fun hb1 => ?_)
  · have _u := True.intro
    replace hb1 := of_decide_eq_false (of_not hb1)
    refine AW.seq ?_
    refine AW.region ?_
    refine ARun.pure (PureOp.assign rfl .bool) rfl rfl (Nat.le_of_ble_eq_true rfl) ?_
    refine ARun.nil ?_
    refine AW.ret (show ResL _ _ [.tmp 4] _ from resB rfl ?_)
    exact (decide_eq_false (fun e => by rw [e] at hb1; omega)).symm
  · have _u := True.intro
    replace hb1 := of_decide_eq_true (not_f hb1)
    refine AW.skip ?_
    refine AW.seq ?_
    refine AW.seq ?_
    refine AW.region ?_
    refine ARun.pure (PureOp.assign rfl .int) rfl rfl (Nat.le_of_ble_eq_true rfl) ?_
    refine ARun.nil ?_
    refine AW.block ?_
    refine AW.loop (ι := Nat) (fun k => ⟨[(0, .one (.lst 1 x.length (fun i0 _ => .bool (x.getD i0 false)))), (1, .one (.lst 1 y.length (fun i0 _ => .bool (y.getD i0 false)))), (5, .one (.int .i64 (k : Int)))], []⟩) (fun k => k ≤ x.length ∧ x.take k = y.take k) (fun k => x.length - k) 0 ⟨Nat.zero_le _, rfl⟩ ⟨⟨⟨_, rfl, rfl⟩, ⟨_, rfl, rfl⟩, ⟨_, rfl, rfl⟩, trivial⟩, trivial⟩ ?_
    intro k hI
    obtain ⟨hk, hq⟩ := hI
    refine AW.seq ?_
    refine AW.seq ?_
    refine AW.region ?_
    refine ARun.pure (PureOp.move rfl (.tmp rfl)) rfl rfl (Nat.le_of_ble_eq_true rfl) ?_
    refine ARun.pure (PureOp.move rfl (.tmp rfl)) rfl rfl (Nat.le_of_ble_eq_true rfl) ?_
    refine ARun.pure (PureOp.lenLst rfl (.tmp rfl) ve_sl_23) rfl rfl (Nat.le_of_ble_eq_true rfl) ?_
    refine ARun.pure (PureOp.intOp rfl (.tmp rfl) (.tmp rfl) rfl) rfl rfl (Nat.le_of_ble_eq_true rfl) ?_
    refine ARun.nil ?_
    refine AW.cond (.tmp rfl) (fun hb2 => ?_) (fun hb2 => ?_)
    · have _u := True.intro
      replace hb2 := of_decide_eq_true hb2
      have hlt : k < x.length := by omega
      have hlt2 : k < y.length := by omega
      refine AW.skip ?_
      refine AW.seq ?_
      refine AW.block ?_
      refine AW.seq ?_
      refine AW.any (by kernel_rfl) (by kernel_rfl) ?_
      refine AD.pure (PureOp.move rfl (.tmp rfl)) rfl rfl (Nat.le_of_ble_eq_true rfl) ?_
      refine AD.pure (PureOp.move rfl (.tmp rfl)) rfl rfl (Nat.le_of_ble_eq_true rfl) ?_
      refine AD.pure (PureOp.indexLst (i := k) rfl (.tmp rfl) ve_el_23_1 (.tmp rfl) rfl (by omega)) rfl rfl (Nat.le_of_ble_eq_true rfl) ?_
      refine AD.pure (PureOp.loadRef rfl (.tmp rfl) ve_pl_4 (Nat.le_of_ble_eq_true rfl)) rfl rfl (Nat.le_of_ble_eq_true rfl) ?_
      refine AD.pure (PureOp.move rfl (.tmp rfl)) rfl rfl (Nat.le_of_ble_eq_true rfl) ?_
      refine AD.pure (PureOp.move rfl (.tmp rfl)) rfl rfl (Nat.le_of_ble_eq_true rfl) ?_
      refine AD.pure (PureOp.indexLst (i := k) rfl (.tmp rfl) ve_el_23_1 (.tmp rfl) rfl (by omega)) rfl rfl (Nat.le_of_ble_eq_true rfl) ?_
      refine AD.pure (PureOp.loadRef rfl (.tmp rfl) ve_pl_4 (Nat.le_of_ble_eq_true rfl)) rfl rfl (Nat.le_of_ble_eq_true rfl) ?_
      refine AD.pure (PureOp.boolNe rfl (.tmp rfl) (.tmp rfl) ve_bo_4) rfl rfl (Nat.le_of_ble_eq_true rfl) ?_
      refine AD.nil ?_
      refine AW.cond (.tmp rfl) (fun hb3 => ?_) (fun hb3 => ?_)
      · have _u := True.intro
        replace hb3 := beq_f (of_not hb3)
        refine AW.seq ?_
        refine AW.region ?_
        refine ARun.pure (PureOp.assign rfl .bool) rfl rfl (Nat.le_of_ble_eq_true rfl) ?_
        refine ARun.nil ?_
        refine AW.ret (show ResL _ _ [.tmp 4] _ from resB rfl ?_)
        exact (decide_eq_false (fun e => hb3 (by rw [e]))).symm
      · have _u := True.intro
        replace hb3 := beq_t (not_f hb3)
        refine AW.skip ?_
        refine AW.region ?_
        refine ARun.pure (PureOp.move rfl (.tmp rfl)) rfl rfl (Nat.le_of_ble_eq_true rfl) ?_
        refine ARun.pure (PureOp.add (c := ((k + 1 : Nat) : Int)) rfl (.tmp rfl) .int (by rw [wrap_id (by omega) (by omega)]; omega)) rfl rfl (Nat.le_of_ble_eq_true rfl) ?_
        refine ARun.pure (PureOp.assign rfl (.tmp rfl)) rfl rfl (Nat.le_of_ble_eq_true rfl) ?_
        refine ARun.nil ?_
        exact ⟨k + 1, ⟨by omega, take_next (false : Bool) hlt (by omega) hq hb3⟩, by dsimp only; omega, ⟨⟨⟨_, rfl, rfl⟩, ⟨_, rfl, rfl⟩, ⟨_, rfl, rfl⟩, trivial⟩, trivial⟩⟩
    · have _u := True.intro
      replace hb2 := of_decide_eq_false hb2
      have hlt : ¬ k < x.length := by omega
      refine AW.exit ?_
      refine AW.seq ?_
      refine AW.region ?_
      refine ARun.pure (PureOp.assign rfl .bool) rfl rfl (Nat.le_of_ble_eq_true rfl) ?_
      refine ARun.nil ?_
      refine AW.ret (show ResL _ _ [.tmp 4] _ from resB rfl ?_)
      exact (decide_eq_true (eqL_yes hlt (by omega) hq)).symm

theorem v_eqIntS (x y : List Int) : Fn Try.prog 49 [.one (.lst 1 x.length (fun i0 _ => .int .i64 (x.getD i0 0))), .one (.lst 1 y.length (fun i0 _ => .int .i64 (y.getD i0 0)))] (.one (.bool (decide (x = y)))) := by
  refine Fn.of_body (fn := Try.f49) Try.func49 rfl (Nat.le_of_ble_eq_true rfl) trivial ?_
  intro w0
  show AW _ 26 _ _ _ _
  refine AW.bound (t := 0) rfl fun hx => ?_
  refine AW.seq ?_
  refine AW.region ?_
  refine ARun.pure (PureOp.assign rfl .bool) rfl rfl (Nat.le_of_ble_eq_true rfl) ?_
  refine ARun.nil ?_
  refine AW.seq ?_
  refine AW.seq ?_
  refine AW.region ?_
  refine ARun.pure (PureOp.move rfl (.tmp rfl)) rfl rfl (Nat.le_of_ble_eq_true rfl) ?_
  refine ARun.pure (PureOp.lenLst rfl (.tmp rfl) ve_sl_24) rfl rfl (Nat.le_of_ble_eq_true rfl) ?_
  refine ARun.pure (PureOp.move rfl (.tmp rfl)) rfl rfl (Nat.le_of_ble_eq_true rfl) ?_
  refine ARun.pure (PureOp.lenLst rfl (.tmp rfl) ve_sl_24) rfl rfl (Nat.le_of_ble_eq_true rfl) ?_
  refine ARun.pure (PureOp.intOp rfl (.tmp rfl) (.tmp rfl) rfl) rfl rfl (Nat.le_of_ble_eq_true rfl) ?_
  refine ARun.nil ?_
  refine AW.cond (.tmp rfl) (fun hb1 => ?_) (fun hb1 => ?_)
  · have _u := True.intro
    replace hb1 := of_decide_eq_false (of_not hb1)
    refine AW.seq ?_
    refine AW.region ?_
    refine ARun.pure (PureOp.assign rfl .bool) rfl rfl (Nat.le_of_ble_eq_true rfl) ?_
    refine ARun.nil ?_
    refine AW.ret (show ResL _ _ [.tmp 4] _ from resB rfl ?_)
    exact (decide_eq_false (fun e => by rw [e] at hb1; omega)).symm
  · have _u := True.intro
    replace hb1 := of_decide_eq_true (not_f hb1)
    refine AW.skip ?_
    refine AW.seq ?_
    refine AW.seq ?_
    refine AW.region ?_
    refine ARun.pure (PureOp.assign rfl .int) rfl rfl (Nat.le_of_ble_eq_true rfl) ?_
    refine ARun.nil ?_
    refine AW.block ?_
    refine AW.loop (ι := Nat) (fun k => ⟨[(0, .one (.lst 1 x.length (fun i0 _ => .int .i64 (x.getD i0 0)))), (1, .one (.lst 1 y.length (fun i0 _ => .int .i64 (y.getD i0 0)))), (5, .one (.int .i64 (k : Int)))], []⟩) (fun k => k ≤ x.length ∧ x.take k = y.take k) (fun k => x.length - k) 0 ⟨Nat.zero_le _, rfl⟩ ⟨⟨⟨_, rfl, rfl⟩, ⟨_, rfl, rfl⟩, ⟨_, rfl, rfl⟩, trivial⟩, trivial⟩ ?_
    intro k hI
    obtain ⟨hk, hq⟩ := hI
    refine AW.seq ?_
    refine AW.seq ?_
    refine AW.region ?_
    refine ARun.pure (PureOp.move rfl (.tmp rfl)) rfl rfl (Nat.le_of_ble_eq_true rfl) ?_
    refine ARun.pure (PureOp.move rfl (.tmp rfl)) rfl rfl (Nat.le_of_ble_eq_true rfl) ?_
    refine ARun.pure (PureOp.lenLst rfl (.tmp rfl) ve_sl_24) rfl rfl (Nat.le_of_ble_eq_true rfl) ?_
    refine ARun.pure (PureOp.intOp rfl (.tmp rfl) (.tmp rfl) rfl) rfl rfl (Nat.le_of_ble_eq_true rfl) ?_
    refine ARun.nil ?_
    refine AW.cond (.tmp rfl) (fun hb2 => ?_) (fun hb2 => ?_)
    · have _u := True.intro
      replace hb2 := of_decide_eq_true hb2
      have hlt : k < x.length := by omega
      have hlt2 : k < y.length := by omega
      refine AW.skip ?_
      refine AW.seq ?_
      refine AW.block ?_
      refine AW.seq ?_
      refine AW.any (by kernel_rfl) (by kernel_rfl) ?_
      refine AD.pure (PureOp.move rfl (.tmp rfl)) rfl rfl (Nat.le_of_ble_eq_true rfl) ?_
      refine AD.pure (PureOp.move rfl (.tmp rfl)) rfl rfl (Nat.le_of_ble_eq_true rfl) ?_
      refine AD.pure (PureOp.indexLst (i := k) rfl (.tmp rfl) ve_el_24_1 (.tmp rfl) rfl (by omega)) rfl rfl (Nat.le_of_ble_eq_true rfl) ?_
      refine AD.pure (PureOp.loadRef rfl (.tmp rfl) ve_pl_3 (Nat.le_of_ble_eq_true rfl)) rfl rfl (Nat.le_of_ble_eq_true rfl) ?_
      refine AD.pure (PureOp.move rfl (.tmp rfl)) rfl rfl (Nat.le_of_ble_eq_true rfl) ?_
      refine AD.pure (PureOp.move rfl (.tmp rfl)) rfl rfl (Nat.le_of_ble_eq_true rfl) ?_
      refine AD.pure (PureOp.indexLst (i := k) rfl (.tmp rfl) ve_el_24_1 (.tmp rfl) rfl (by omega)) rfl rfl (Nat.le_of_ble_eq_true rfl) ?_
      refine AD.pure (PureOp.loadRef rfl (.tmp rfl) ve_pl_3 (Nat.le_of_ble_eq_true rfl)) rfl rfl (Nat.le_of_ble_eq_true rfl) ?_
      refine AD.pure (PureOp.intOp rfl (.tmp rfl) (.tmp rfl) rfl) rfl rfl (Nat.le_of_ble_eq_true rfl) ?_
      refine AD.nil ?_
      refine AW.cond (.tmp rfl) (fun hb3 => ?_) (fun hb3 => ?_)
      · have _u := True.intro
        replace hb3 := of_decide_eq_false (of_not hb3)
        refine AW.seq ?_
        refine AW.region ?_
        refine ARun.pure (PureOp.assign rfl .bool) rfl rfl (Nat.le_of_ble_eq_true rfl) ?_
        refine ARun.nil ?_
        refine AW.ret (show ResL _ _ [.tmp 4] _ from resB rfl ?_)
        exact (decide_eq_false (fun e => hb3 (by rw [e]))).symm
      · have _u := True.intro
        replace hb3 := of_decide_eq_true (not_f hb3)
        refine AW.skip ?_
        refine AW.region ?_
        refine ARun.pure (PureOp.move rfl (.tmp rfl)) rfl rfl (Nat.le_of_ble_eq_true rfl) ?_
        refine ARun.pure (PureOp.add (c := ((k + 1 : Nat) : Int)) rfl (.tmp rfl) .int (by rw [wrap_id (by omega) (by omega)]; omega)) rfl rfl (Nat.le_of_ble_eq_true rfl) ?_
        refine ARun.pure (PureOp.assign rfl (.tmp rfl)) rfl rfl (Nat.le_of_ble_eq_true rfl) ?_
        refine ARun.nil ?_
        exact ⟨k + 1, ⟨by omega, take_next (0 : Int) hlt (by omega) hq hb3⟩, by dsimp only; omega, ⟨⟨⟨_, rfl, rfl⟩, ⟨_, rfl, rfl⟩, ⟨_, rfl, rfl⟩, trivial⟩, trivial⟩⟩
    · have _u := True.intro
      replace hb2 := of_decide_eq_false hb2
      have hlt : ¬ k < x.length := by omega
      refine AW.exit ?_
      refine AW.seq ?_
      refine AW.region ?_
      refine ARun.pure (PureOp.assign rfl .bool) rfl rfl (Nat.le_of_ble_eq_true rfl) ?_
      refine ARun.nil ?_
      refine AW.ret (show ResL _ _ [.tmp 4] _ from resB rfl ?_)
      exact (decide_eq_true (eqL_yes hlt (by omega) hq)).symm

theorem v_eqRepl (x y : GRepl) : Fn Try.prog 12 [.agg [.lst 1 x.logs.length (fun i0 _ => .lst 2 ((x.logs.getD i0 []).length) (fun i1 j1 => ([.int .i64 (((x.logs.getD i0 []).getD i1 (default : GEntry)).epoch), .str (((x.logs.getD i0 []).getD i1 (default : GEntry)).text)] : List AV).getD j1 (.con undef))), .lst 1 x.down.length (fun i0 _ => .bool (x.down.getD i0 false)), .int .i64 x.leader, .int .i64 x.epoch, .lst 1 x.inSync.length (fun i0 _ => .int .i64 (x.inSync.getD i0 0)), .lst 2 x.certain.length (fun i0 j0 => ([.int .i64 ((x.certain.getD i0 (default : GEntry)).epoch), .str ((x.certain.getD i0 (default : GEntry)).text)] : List AV).getD j0 (.con undef))], .agg [.lst 1 y.logs.length (fun i0 _ => .lst 2 ((y.logs.getD i0 []).length) (fun i1 j1 => ([.int .i64 (((y.logs.getD i0 []).getD i1 (default : GEntry)).epoch), .str (((y.logs.getD i0 []).getD i1 (default : GEntry)).text)] : List AV).getD j1 (.con undef))), .lst 1 y.down.length (fun i0 _ => .bool (y.down.getD i0 false)), .int .i64 y.leader, .int .i64 y.epoch, .lst 1 y.inSync.length (fun i0 _ => .int .i64 (y.inSync.getD i0 0)), .lst 2 y.certain.length (fun i0 j0 => ([.int .i64 ((y.certain.getD i0 (default : GEntry)).epoch), .str ((y.certain.getD i0 (default : GEntry)).text)] : List AV).getD j0 (.con undef))]] (.one (.bool (decide (x = y)))) := by
  refine Fn.of_body (fn := Try.f12) Try.func12 rfl (Nat.le_of_ble_eq_true rfl) trivial ?_
  intro w0
  show AW _ 39 _ _ _ _
  refine AW.seq ?_
  refine AW.region ?_
  refine ARun.box (id := 0) rfl (.tmp rfl) (SV.cells_of (by exact ⟨trivial, trivial, trivial, trivial, trivial, trivial, trivial⟩)) ⟨rfl, (by repeat first | exact trivial | refine ⟨by decide, by first | rfl | exact trivial | (intro i j; first | rfl | exact getD_no rfl | (dsimp only; split <;> first | rfl | exact getD_no rfl)), ?_⟩)⟩ rfl rfl rfl (Nat.le_of_ble_eq_true rfl) ?_
  refine ARun.box (id := 1) rfl (.tmp rfl) (SV.cells_of (by exact ⟨trivial, trivial, trivial, trivial, trivial, trivial, trivial⟩)) ⟨rfl, (by repeat first | exact trivial | refine ⟨by decide, by first | rfl | exact trivial | (intro i j; first | rfl | exact getD_no rfl | (dsimp only; split <;> first | rfl | exact getD_no rfl)), ?_⟩)⟩ rfl rfl rfl (Nat.le_of_ble_eq_true rfl) ?_
  refine ARun.pure (PureOp.assign rfl .bool) rfl rfl (Nat.le_of_ble_eq_true rfl) ?_
  refine ARun.nil ?_
  refine AW.seq ?_
  refine AW.seq ?_
  refine AW.region ?_
  refine ARun.pure (PureOp.fieldPtr rfl (.tmp rfl) ve_fi_27_0_0) rfl rfl (Nat.le_of_ble_eq_true rfl) ?_
  refine ARun.pure (PureOp.loadPtr rfl (.tmp rfl) ve_pl_22 rfl rfl (Nat.le_of_ble_eq_true rfl) (Nat.le_of_ble_eq_true rfl)) rfl rfl (Nat.le_of_ble_eq_true rfl) ?_
  refine ARun.pure (PureOp.fieldPtr rfl (.tmp rfl) ve_fi_27_0_0) rfl rfl (Nat.le_of_ble_eq_true rfl) ?_
  refine ARun.pure (PureOp.loadPtr rfl (.tmp rfl) ve_pl_22 rfl rfl (Nat.le_of_ble_eq_true rfl) (Nat.le_of_ble_eq_true rfl)) rfl rfl (Nat.le_of_ble_eq_true rfl) ?_
  refine ARun.pure (PureOp.call rfl (v_eqEntrySS x.logs y.logs) ⟨⟨_, (.tmp rfl), .lst⟩, ⟨_, (.tmp rfl), .lst⟩, trivial⟩ ve_ca_47 trivial) rfl rfl (Nat.le_of_ble_eq_true rfl) ?_
  refine ARun.pure (PureOp.not rfl (.tmp rfl)) rfl rfl (Nat.le_of_ble_eq_true rfl) ?_
  refine ARun.nil ?_
  refine AW.cond (.tmp rfl) (fun hb1 => ?_) (fun hb1 => ?_)
  · have _u := True.intro
    replace hb1 := of_decide_eq_false (of_not hb1)
    refine AW.seq ?_
    refine AW.region ?_
    refine ARun.pure (PureOp.assign rfl .bool) rfl rfl (Nat.le_of_ble_eq_true rfl) ?_
    refine ARun.nil ?_
    refine AW.ret (show ResL _ _ [.tmp 4] _ from resB rfl ?_)
    exact (decide_eq_false (fun e => hb1 (by rw [e]))).symm
  · have _u := True.intro
    replace hb1 := of_decide_eq_true (not_f hb1)
    refine AW.skip ?_
    refine AW.seq ?_
    refine AW.seq ?_
    refine AW.region ?_
    refine ARun.pure (PureOp.fieldPtr rfl (.tmp rfl) ve_fi_27_1_1) rfl rfl (Nat.le_of_ble_eq_true rfl) ?_
    refine ARun.pure (PureOp.loadPtr rfl (.tmp rfl) ve_pl_23 rfl rfl (Nat.le_of_ble_eq_true rfl) (Nat.le_of_ble_eq_true rfl)) rfl rfl (Nat.le_of_ble_eq_true rfl) ?_
    refine ARun.pure (PureOp.fieldPtr rfl (.tmp rfl) ve_fi_27_1_1) rfl rfl (Nat.le_of_ble_eq_true rfl) ?_
    refine ARun.pure (PureOp.loadPtr rfl (.tmp rfl) ve_pl_23 rfl rfl (Nat.le_of_ble_eq_true rfl) (Nat.le_of_ble_eq_true rfl)) rfl rfl (Nat.le_of_ble_eq_true rfl) ?_
    refine ARun.pure (PureOp.call rfl (v_eqBoolS x.down y.down) ⟨⟨_, (.tmp rfl), .lst⟩, ⟨_, (.tmp rfl), .lst⟩, trivial⟩ ve_ca_48 trivial) rfl rfl (Nat.le_of_ble_eq_true rfl) ?_
    refine ARun.pure (PureOp.not rfl (.tmp rfl)) rfl rfl (Nat.le_of_ble_eq_true rfl) ?_
    refine ARun.nil ?_
    refine AW.cond (.tmp rfl) (fun hb2 => ?_) (fun hb2 => ?_)
    · have _u := True.intro
      replace hb2 := of_decide_eq_false (of_not hb2)
      refine AW.seq ?_
      refine AW.region ?_
      refine ARun.pure (PureOp.assign rfl .bool) rfl rfl (Nat.le_of_ble_eq_true rfl) ?_
      refine ARun.nil ?_
      refine AW.ret (show ResL _ _ [.tmp 4] _ from resB rfl ?_)
      exact (decide_eq_false (fun e => hb2 (by rw [e]))).symm
    · have _u := True.intro
      replace hb2 := of_decide_eq_true (not_f hb2)
      refine AW.skip ?_
      refine AW.seq ?_
      refine AW.seq ?_
      refine AW.region ?_
      refine ARun.pure (PureOp.fieldPtr rfl (.tmp rfl) ve_fi_27_2_2) rfl rfl (Nat.le_of_ble_eq_true rfl) ?_
      refine ARun.pure (PureOp.loadPtr rfl (.tmp rfl) ve_pl_3 rfl rfl (Nat.le_of_ble_eq_true rfl) (Nat.le_of_ble_eq_true rfl)) rfl rfl (Nat.le_of_ble_eq_true rfl) ?_
      refine ARun.pure (PureOp.fieldPtr rfl (.tmp rfl) ve_fi_27_2_2) rfl rfl (Nat.le_of_ble_eq_true rfl) ?_
      refine ARun.pure (PureOp.loadPtr rfl (.tmp rfl) ve_pl_3 rfl rfl (Nat.le_of_ble_eq_true rfl) (Nat.le_of_ble_eq_true rfl)) rfl rfl (Nat.le_of_ble_eq_true rfl) ?_
      refine ARun.pure (PureOp.intOp rfl (.tmp rfl) (.tmp rfl) rfl) rfl rfl (Nat.le_of_ble_eq_true rfl) ?_
      refine ARun.nil ?_
      refine AW.cond (.tmp rfl) (fun hb3 => ?_) (fun hb3 => ?_)
      · have _u := True.intro
        replace hb3 := of_decide_eq_false (of_not hb3)
        refine AW.seq ?_
        refine AW.region ?_
        refine ARun.pure (PureOp.assign rfl .bool) rfl rfl (Nat.le_of_ble_eq_true rfl) ?_
        refine ARun.nil ?_
        refine AW.ret (show ResL _ _ [.tmp 4] _ from resB rfl ?_)
        exact (decide_eq_false (fun e => hb3 (by rw [e]))).symm
      · have _u := True.intro
        replace hb3 := of_decide_eq_true (not_f hb3)
        refine AW.skip ?_
        refine AW.seq ?_
        refine AW.seq ?_
        refine AW.region ?_
        refine ARun.pure (PureOp.fieldPtr rfl (.tmp rfl) ve_fi_27_3_3) rfl rfl (Nat.le_of_ble_eq_true rfl) ?_
        refine ARun.pure (PureOp.loadPtr rfl (.tmp rfl) ve_pl_3 rfl rfl (Nat.le_of_ble_eq_true rfl) (Nat.le_of_ble_eq_true rfl)) rfl rfl (Nat.le_of_ble_eq_true rfl) ?_
        refine ARun.pure (PureOp.fieldPtr rfl (.tmp rfl) ve_fi_27_3_3) rfl rfl (Nat.le_of_ble_eq_true rfl) ?_
        refine ARun.pure (PureOp.loadPtr rfl (.tmp rfl) ve_pl_3 rfl rfl (Nat.le_of_ble_eq_true rfl) (Nat.le_of_ble_eq_true rfl)) rfl rfl (Nat.le_of_ble_eq_true rfl) ?_
        refine ARun.pure (PureOp.intOp rfl (.tmp rfl) (.tmp rfl) rfl) rfl rfl (Nat.le_of_ble_eq_true rfl) ?_
        refine ARun.nil ?_
        refine AW.cond (.tmp rfl) (fun hb4 => ?_) (fun hb4 => ?_)
        · have _u := True.intro
          replace hb4 := of_decide_eq_false (of_not hb4)
          refine AW.seq ?_
          refine AW.region ?_
          refine ARun.pure (PureOp.assign rfl .bool) rfl rfl (Nat.le_of_ble_eq_true rfl) ?_
          refine ARun.nil ?_
          refine AW.ret (show ResL _ _ [.tmp 4] _ from resB rfl ?_)
          exact (decide_eq_false (fun e => hb4 (by rw [e]))).symm
        · have _u := True.intro
          replace hb4 := of_decide_eq_true (not_f hb4)
          refine AW.skip ?_
          refine AW.seq ?_
          refine AW.seq ?_
          refine AW.region ?_
          refine ARun.pure (PureOp.fieldPtr rfl (.tmp rfl) ve_fi_27_4_4) rfl rfl (Nat.le_of_ble_eq_true rfl) ?_
          refine ARun.pure (PureOp.loadPtr rfl (.tmp rfl) ve_pl_24 rfl rfl (Nat.le_of_ble_eq_true rfl) (Nat.le_of_ble_eq_true rfl)) rfl rfl (Nat.le_of_ble_eq_true rfl) ?_
          refine ARun.pure (PureOp.fieldPtr rfl (.tmp rfl) ve_fi_27_4_4) rfl rfl (Nat.le_of_ble_eq_true rfl) ?_
          refine ARun.pure (PureOp.loadPtr rfl (.tmp rfl) ve_pl_24 rfl rfl (Nat.le_of_ble_eq_true rfl) (Nat.le_of_ble_eq_true rfl)) rfl rfl (Nat.le_of_ble_eq_true rfl) ?_
          refine ARun.pure (PureOp.call rfl (v_eqIntS x.inSync y.inSync) ⟨⟨_, (.tmp rfl), .lst⟩, ⟨_, (.tmp rfl), .lst⟩, trivial⟩ ve_ca_49 trivial) rfl rfl (Nat.le_of_ble_eq_true rfl) ?_
          refine ARun.pure (PureOp.not rfl (.tmp rfl)) rfl rfl (Nat.le_of_ble_eq_true rfl) ?_
          refine ARun.nil ?_
          refine AW.cond (.tmp rfl) (fun hb5 => ?_) (fun hb5 => ?_)
          · have _u := True.intro
            replace hb5 := of_decide_eq_false (of_not hb5)
            refine AW.seq ?_
            refine AW.region ?_
            refine ARun.pure (PureOp.assign rfl .bool) rfl rfl (Nat.le_of_ble_eq_true rfl) ?_
            refine ARun.nil ?_
            refine AW.ret (show ResL _ _ [.tmp 4] _ from resB rfl ?_)
            exact (decide_eq_false (fun e => hb5 (by rw [e]))).symm
          · have _u := True.intro
            replace hb5 := of_decide_eq_true (not_f hb5)
            refine AW.skip ?_
            refine AW.seq ?_
            refine AW.seq ?_
            refine AW.region ?_
            refine ARun.pure (PureOp.fieldPtr rfl (.tmp rfl) ve_fi_27_5_5) rfl rfl (Nat.le_of_ble_eq_true rfl) ?_
            refine ARun.pure (PureOp.loadPtr rfl (.tmp rfl) ve_pl_25 rfl rfl (Nat.le_of_ble_eq_true rfl) (Nat.le_of_ble_eq_true rfl)) rfl rfl (Nat.le_of_ble_eq_true rfl) ?_
            refine ARun.pure (PureOp.fieldPtr rfl (.tmp rfl) ve_fi_27_5_5) rfl rfl (Nat.le_of_ble_eq_true rfl) ?_
            refine ARun.pure (PureOp.loadPtr rfl (.tmp rfl) ve_pl_25 rfl rfl (Nat.le_of_ble_eq_true rfl) (Nat.le_of_ble_eq_true rfl)) rfl rfl (Nat.le_of_ble_eq_true rfl) ?_
            refine ARun.pure (PureOp.call rfl (v_eqEntryS x.certain y.certain) ⟨⟨_, (.tmp rfl), .lst⟩, ⟨_, (.tmp rfl), .lst⟩, trivial⟩ ve_ca_50 trivial) rfl rfl (Nat.le_of_ble_eq_true rfl) ?_
            refine ARun.pure (PureOp.not rfl (.tmp rfl)) rfl rfl (Nat.le_of_ble_eq_true rfl) ?_
            refine ARun.nil ?_
            refine AW.cond (.tmp rfl) (fun hb6 => ?_) (fun hb6 => ?_)
            · have _u := True.intro
              replace hb6 := of_decide_eq_false (of_not hb6)
              refine AW.seq ?_
              refine AW.region ?_
              refine ARun.pure (PureOp.assign rfl .bool) rfl rfl (Nat.le_of_ble_eq_true rfl) ?_
              refine ARun.nil ?_
              refine AW.ret (show ResL _ _ [.tmp 4] _ from resB rfl ?_)
              exact (decide_eq_false (fun e => hb6 (by rw [e]))).symm
            · have _u := True.intro
              replace hb6 := of_decide_eq_true (not_f hb6)
              refine AW.skip ?_
              refine AW.seq ?_
              refine AW.region ?_
              refine ARun.pure (PureOp.assign rfl .bool) rfl rfl (Nat.le_of_ble_eq_true rfl) ?_
              refine ARun.nil ?_
              refine AW.ret (show ResL _ _ [.tmp 4] _ from resB rfl ?_)
              exact (decide_eq_true (by cases x; cases y; simp_all)).symm

theorem v_eqLabel (x y : GLabel) : Fn Try.prog 86 [.agg [.str x.lname, .str x.lvalue], .agg [.str y.lname, .str y.lvalue]] (.one (.bool (decide (x = y)))) := by
  refine Fn.of_body (fn := Try.f86) Try.func86 rfl (Nat.le_of_ble_eq_true rfl) trivial ?_
  intro w0
  show AW _ 15 _ _ _ _
  refine AW.seq ?_
  refine AW.region ?_
  refine ARun.box (id := 0) rfl (.tmp rfl) (SV.cells_of (by exact ⟨trivial, trivial, trivial⟩)) ⟨rfl, (by repeat first | exact trivial | refine ⟨by decide, by first | rfl | exact trivial | (intro i j; first | rfl | exact getD_no rfl | (dsimp only; split <;> first | rfl | exact getD_no rfl)), ?_⟩)⟩ rfl rfl rfl (Nat.le_of_ble_eq_true rfl) ?_
  refine ARun.box (id := 1) rfl (.tmp rfl) (SV.cells_of (by exact ⟨trivial, trivial, trivial⟩)) ⟨rfl, (by repeat first | exact trivial | refine ⟨by decide, by first | rfl | exact trivial | (intro i j; first | rfl | exact getD_no rfl | (dsimp only; split <;> first | rfl | exact getD_no rfl)), ?_⟩)⟩ rfl rfl rfl (Nat.le_of_ble_eq_true rfl) ?_
  refine ARun.pure (PureOp.assign rfl .bool) rfl rfl (Nat.le_of_ble_eq_true rfl) ?_
  refine ARun.nil ?_
  refine AW.seq ?_
  refine AW.seq ?_
  refine AW.region ?_
  refine ARun.pure (PureOp.fieldPtr rfl (.tmp rfl) ve_fi_106_0_0) rfl rfl (Nat.le_of_ble_eq_true rfl) ?_
  refine ARun.pure (PureOp.loadPtr rfl (.tmp rfl) ve_pl_9 rfl rfl (Nat.le_of_ble_eq_true rfl) (Nat.le_of_ble_eq_true rfl)) rfl rfl (Nat.le_of_ble_eq_true rfl) ?_
  refine ARun.pure (PureOp.fieldPtr rfl (.tmp rfl) ve_fi_106_0_0) rfl rfl (Nat.le_of_ble_eq_true rfl) ?_
  refine ARun.pure (PureOp.loadPtr rfl (.tmp rfl) ve_pl_9 rfl rfl (Nat.le_of_ble_eq_true rfl) (Nat.le_of_ble_eq_true rfl)) rfl rfl (Nat.le_of_ble_eq_true rfl) ?_
  refine ARun.pure (PureOp.strOp rfl (.tmp rfl) (.tmp rfl) rfl) rfl rfl (Nat.le_of_ble_eq_true rfl) ?_
  refine ARun.nil ?_
  refine AW.cond (.tmp rfl) (fun hb1 => ?_) (fun hb1 => ?_)
  · have _u := True.intro
    replace hb1 := of_decide_eq_false (of_not hb1)
    refine AW.seq ?_
    refine AW.region ?_
    refine ARun.pure (PureOp.assign rfl .bool) rfl rfl (Nat.le_of_ble_eq_true rfl) ?_
    refine ARun.nil ?_
    refine AW.ret (show ResL _ _ [.tmp 4] _ from resB rfl ?_)
    exact (decide_eq_false (fun e => hb1 (by rw [e]))).symm
  · have _u := True.intro
    replace hb1 := of_decide_eq_true (not_f hb1)
    refine AW.skip ?_
    refine AW.seq ?_
    refine AW.seq ?_
    refine AW.region ?_
    refine ARun.pure (PureOp.fieldPtr rfl (.tmp rfl) ve_fi_106_1_1) rfl rfl (Nat.le_of_ble_eq_true rfl) ?_
    refine ARun.pure (PureOp.loadPtr rfl (.tmp rfl) ve_pl_9 rfl rfl (Nat.le_of_ble_eq_true rfl) (Nat.le_of_ble_eq_true rfl)) rfl rfl (Nat.le_of_ble_eq_true rfl) ?_
    refine ARun.pure (PureOp.fieldPtr rfl (.tmp rfl) ve_fi_106_1_1) rfl rfl (Nat.le_of_ble_eq_true rfl) ?_
    refine ARun.pure (PureOp.loadPtr rfl (.tmp rfl) ve_pl_9 rfl rfl (Nat.le_of_ble_eq_true rfl) (Nat.le_of_ble_eq_true rfl)) rfl rfl (Nat.le_of_ble_eq_true rfl) ?_
    refine ARun.pure (PureOp.strOp rfl (.tmp rfl) (.tmp rfl) rfl) rfl rfl (Nat.le_of_ble_eq_true rfl) ?_
    refine ARun.nil ?_
    refine AW.cond (.tmp rfl) (fun hb2 => ?_) (fun hb2 => ?_)
    · have _u := True.intro
      replace hb2 := of_decide_eq_false (of_not hb2)
      refine AW.seq ?_
      refine AW.region ?_
      refine ARun.pure (PureOp.assign rfl .bool) rfl rfl (Nat.le_of_ble_eq_true rfl) ?_
      refine ARun.nil ?_
      refine AW.ret (show ResL _ _ [.tmp 4] _ from resB rfl ?_)
      exact (decide_eq_false (fun e => hb2 (by rw [e]))).symm
    · have _u := True.intro
      replace hb2 := of_decide_eq_true (not_f hb2)
      refine AW.skip ?_
      refine AW.seq ?_
      refine AW.region ?_
      refine ARun.pure (PureOp.assign rfl .bool) rfl rfl (Nat.le_of_ble_eq_true rfl) ?_
      refine ARun.nil ?_
      refine AW.ret (show ResL _ _ [.tmp 4] _ from resB rfl ?_)
      exact (decide_eq_true (by cases x; cases y; simp_all)).symm

theorem v_eqLabelS (x y : List GLabel) : Fn Try.prog 34 [.one (.lst 2 x.length (fun i0 j0 => ([.str ((x.getD i0 (default : GLabel)).lname), .str ((x.getD i0 (default : GLabel)).lvalue)] : List AV).getD j0 (.con undef))), .one (.lst 2 y.length (fun i0 j0 => ([.str ((y.getD i0 (default : GLabel)).lname), .str ((y.getD i0 (default : GLabel)).lvalue)] : List AV).getD j0 (.con undef)))] (.one (.bool (decide (x = y)))) := by
  refine Fn.of_body (fn := Try.f34) Try.func34 rfl (Nat.le_of_ble_eq_true rfl) trivial ?_
  intro w0
  show AW _ 27 _ _ _ _
  refine AW.bound (t := 0) rfl fun hx => ?_
  refine AW.seq ?_
  refine AW.region ?_
  refine ARun.pure (PureOp.assign rfl .bool) rfl rfl (Nat.le_of_ble_eq_true rfl) ?_
  refine ARun.nil ?_
  refine AW.seq ?_
  refine AW.seq ?_
  refine AW.region ?_
  refine ARun.pure (PureOp.move rfl (.tmp rfl)) rfl rfl (Nat.le_of_ble_eq_true rfl) ?_
  refine ARun.pure (PureOp.lenLst rfl (.tmp rfl) ve_sl_57) rfl rfl (Nat.le_of_ble_eq_true rfl) ?_
  refine ARun.pure (PureOp.move rfl (.tmp rfl)) rfl rfl (Nat.le_of_ble_eq_true rfl) ?_
  refine ARun.pure (PureOp.lenLst rfl (.tmp rfl) ve_sl_57) rfl rfl (Nat.le_of_ble_eq_true rfl) ?_
  refine ARun.pure (PureOp.intOp rfl (.tmp rfl) (.tmp rfl) rfl) rfl rfl (Nat.le_of_ble_eq_true rfl) ?_
  refine ARun.nil ?_
  refine AW.cond (.tmp rfl) (fun hb1 => ?_) (fun hb1 => ?_)
  · have _u := True.intro
    replace hb1 := of_decide_eq_false (of_not hb1)
    refine AW.seq ?_
    refine AW.region ?_
    refine ARun.pure (PureOp.assign rfl .bool) rfl rfl (Nat.le_of_ble_eq_true rfl) ?_
    refine ARun.nil ?_
    refine AW.ret (show ResL _ _ [.tmp 4] _ from resB rfl ?_)
    exact (decide_eq_false (fun e => by rw [e] at hb1; omega)).symm
  · have _u := True.intro
    replace hb1 := of_decide_eq_true (not_f hb1)
    refine AW.skip ?_
    refine AW.seq ?_
    refine AW.seq ?_
    refine AW.region ?_
    refine ARun.pure (PureOp.assign rfl .int) rfl rfl (Nat.le_of_ble_eq_true rfl) ?_
    refine ARun.nil ?_
    refine AW.block ?_
    refine AW.loop (ι := Nat) (fun k => ⟨[(0, .one (.lst 2 x.length (fun i0 j0 => ([.str ((x.getD i0 (default : GLabel)).lname), .str ((x.getD i0 (default : GLabel)).lvalue)] : List AV).getD j0 (.con undef)))), (1, .one (.lst 2 y.length (fun i0 j0 => ([.str ((y.getD i0 (default : GLabel)).lname), .str ((y.getD i0 (default : GLabel)).lvalue)] : List AV).getD j0 (.con undef)))), (5, .one (.int .i64 (k : Int)))], []⟩) (fun k => k ≤ x.length ∧ x.take k = y.take k) (fun k => x.length - k) 0 ⟨Nat.zero_le _, rfl⟩ ⟨⟨⟨_, rfl, rfl⟩, ⟨_, rfl, rfl⟩, ⟨_, rfl, rfl⟩, trivial⟩, trivial⟩ ?_
    intro k hI
    obtain ⟨hk, hq⟩ := hI
    refine AW.seq ?_
    refine AW.seq ?_
    refine AW.region ?_
    refine ARun.pure (PureOp.move rfl (.tmp rfl)) rfl rfl (Nat.le_of_ble_eq_true rfl) ?_
    refine ARun.pure (PureOp.move rfl (.tmp rfl)) rfl rfl (Nat.le_of_ble_eq_true rfl) ?_
    refine ARun.pure (PureOp.lenLst rfl (.tmp rfl) ve_sl_57) rfl rfl (Nat.le_of_ble_eq_true rfl) ?_
    refine ARun.pure (PureOp.intOp rfl (.tmp rfl) (.tmp rfl) rfl) rfl rfl (Nat.le_of_ble_eq_true rfl) ?_
    refine ARun.nil ?_
    refine AW.cond (.tmp rfl) (fun hb2 => ?_) (fun hb2 => ?_)
    · have _u := True.intro
      replace hb2 := of_decide_eq_true hb2
      have hlt : k < x.length := by omega
      have hlt2 : k < y.length := by omega
      refine AW.skip ?_
      refine AW.seq ?_
      refine AW.block ?_
      refine AW.seq ?_
      refine AW.any (by kernel_rfl) (by kernel_rfl) ?_
      refine AD.pure (PureOp.move rfl (.tmp rfl)) rfl rfl (Nat.le_of_ble_eq_true rfl) ?_
      refine AD.pure (PureOp.move rfl (.tmp rfl)) rfl rfl (Nat.le_of_ble_eq_true rfl) ?_
      refine AD.pure (PureOp.indexLst (i := k) rfl (.tmp rfl) ve_el_57_2 (.tmp rfl) rfl (by omega)) rfl rfl (Nat.le_of_ble_eq_true rfl) ?_
      refine AD.pure (PureOp.loadRefAgg rfl (.tmp rfl) ve_ag_106_2 (Nat.le_of_ble_eq_true rfl)) rfl rfl (Nat.le_of_ble_eq_true rfl) ?_
      refine AD.pure (PureOp.move rfl (.tmp rfl)) rfl rfl (Nat.le_of_ble_eq_true rfl) ?_
      refine AD.pure (PureOp.move rfl (.tmp rfl)) rfl rfl (Nat.le_of_ble_eq_true rfl) ?_
      refine AD.pure (PureOp.indexLst (i := k) rfl (.tmp rfl) ve_el_57_2 (.tmp rfl) rfl (by omega)) rfl rfl (Nat.le_of_ble_eq_true rfl) ?_
      refine AD.pure (PureOp.loadRefAgg rfl (.tmp rfl) ve_ag_106_2 (Nat.le_of_ble_eq_true rfl)) rfl rfl (Nat.le_of_ble_eq_true rfl) ?_
      refine AD.pure (PureOp.call rfl (v_eqLabel (x.getD k (default : GLabel)) (y.getD k (default : GLabel))) ⟨⟨_, (.tmp rfl), ⟨.str, .str, trivial⟩⟩, ⟨_, (.tmp rfl), ⟨.str, .str, trivial⟩⟩, trivial⟩ ve_ca_86 trivial) rfl rfl (Nat.le_of_ble_eq_true rfl) ?_
      refine AD.pure (PureOp.not rfl (.tmp rfl)) rfl rfl (Nat.le_of_ble_eq_true rfl) ?_
      refine AD.nil ?_
      refine AW.cond (.tmp rfl) (fun hb3 => ?_) (fun hb3 => ?_)
      · have _u := True.intro
        replace hb3 := of_decide_eq_false (of_not hb3)
        refine AW.seq ?_
        refine AW.region ?_
        refine ARun.pure (PureOp.assign rfl .bool) rfl rfl (Nat.le_of_ble_eq_true rfl) ?_
        refine ARun.nil ?_
        refine AW.ret (show ResL _ _ [.tmp 4] _ from resB rfl ?_)
        exact (decide_eq_false (fun e => hb3 (by rw [e]))).symm
      · have _u := True.intro
        replace hb3 := of_decide_eq_true (not_f hb3)
        refine AW.skip ?_
        refine AW.region ?_
        refine ARun.pure (PureOp.move rfl (.tmp rfl)) rfl rfl (Nat.le_of_ble_eq_true rfl) ?_
        refine ARun.pure (PureOp.add (c := ((k + 1 : Nat) : Int)) rfl (.tmp rfl) .int (by rw [wrap_id (by omega) (by omega)]; omega)) rfl rfl (Nat.le_of_ble_eq_true rfl) ?_
        refine ARun.pure (PureOp.assign rfl (.tmp rfl)) rfl rfl (Nat.le_of_ble_eq_true rfl) ?_
        refine ARun.nil ?_
        exact ⟨k + 1, ⟨by omega, take_next (default : GLabel) hlt (by omega) hq hb3⟩, by dsimp only; omega, ⟨⟨⟨_, rfl, rfl⟩, ⟨_, rfl, rfl⟩, ⟨_, rfl, rfl⟩, trivial⟩, trivial⟩⟩
    · have _u := True.intro
      replace hb2 := of_decide_eq_false hb2
      have hlt : ¬ k < x.length := by omega
      refine AW.exit ?_
      refine AW.seq ?_
      refine AW.region ?_
      refine ARun.pure (PureOp.assign rfl .bool) rfl rfl (Nat.le_of_ble_eq_true rfl) ?_
      refine ARun.nil ?_
      refine AW.ret (show ResL _ _ [.tmp 4] _ from resB rfl ?_)
      exact (decide_eq_true (eqL_yes hlt (by omega) hq)).symm

theorem v_eqItem (x y : GItem) : Fn Try.prog 80 [.agg [.lst 2 x.labels.length (fun i0 j0 => ([.str ((x.labels.getD i0 (default : GLabel)).lname), .str ((x.labels.getD i0 (default : GLabel)).lvalue)] : List AV).getD j0 (.con undef)), .int .i64 x.value], .agg [.lst 2 y.labels.length (fun i0 j0 => ([.str ((y.labels.getD i0 (default : GLabel)).lname), .str ((y.labels.getD i0 (default : GLabel)).lvalue)] : List AV).getD j0 (.con undef)), .int .i64 y.value]] (.one (.bool (decide (x = y)))) := by
  refine Fn.of_body (fn := Try.f80) Try.func80 rfl (Nat.le_of_ble_eq_true rfl) trivial ?_
  intro w0
  show AW _ 16 _ _ _ _
  refine AW.seq ?_
  refine AW.region ?_
  refine ARun.box (id := 0) rfl (.tmp rfl) (SV.cells_of (by exact ⟨trivial, trivial, trivial⟩)) ⟨rfl, (by repeat first | exact trivial | refine ⟨by decide, by first | rfl | exact trivial | (intro i j; first | rfl | exact getD_no rfl | (dsimp only; split <;> first | rfl | exact getD_no rfl)), ?_⟩)⟩ rfl rfl rfl (Nat.le_of_ble_eq_true rfl) ?_
  refine ARun.box (id := 1) rfl (.tmp rfl) (SV.cells_of (by exact ⟨trivial, trivial, trivial⟩)) ⟨rfl, (by repeat first | exact trivial | refine ⟨by decide, by first | rfl | exact trivial | (intro i j; first | rfl | exact getD_no rfl | (dsimp only; split <;> first | rfl | exact getD_no rfl)), ?_⟩)⟩ rfl rfl rfl (Nat.le_of_ble_eq_true rfl) ?_
  refine ARun.pure (PureOp.assign rfl .bool) rfl rfl (Nat.le_of_ble_eq_true rfl) ?_
  refine ARun.nil ?_
  refine AW.seq ?_
  refine AW.seq ?_
  refine AW.region ?_
  refine ARun.pure (PureOp.fieldPtr rfl (.tmp rfl) ve_fi_98_0_0) rfl rfl (Nat.le_of_ble_eq_true rfl) ?_
  refine ARun.pure (PureOp.loadPtr rfl (.tmp rfl) ve_pl_57 rfl rfl (Nat.le_of_ble_eq_true rfl) (Nat.le_of_ble_eq_true rfl)) rfl rfl (Nat.le_of_ble_eq_true rfl) ?_
  refine ARun.pure (PureOp.fieldPtr rfl (.tmp rfl) ve_fi_98_0_0) rfl rfl (Nat.le_of_ble_eq_true rfl) ?_
  refine ARun.pure (PureOp.loadPtr rfl (.tmp rfl) ve_pl_57 rfl rfl (Nat.le_of_ble_eq_true rfl) (Nat.le_of_ble_eq_true rfl)) rfl rfl (Nat.le_of_ble_eq_true rfl) ?_
  refine ARun.pure (PureOp.call rfl (v_eqLabelS x.labels y.labels) ⟨⟨_, (.tmp rfl), .lst⟩, ⟨_, (.tmp rfl), .lst⟩, trivial⟩ ve_ca_34 trivial) rfl rfl (Nat.le_of_ble_eq_true rfl) ?_
  refine ARun.pure (PureOp.not rfl (.tmp rfl)) rfl rfl (Nat.le_of_ble_eq_true rfl) ?_
  refine ARun.nil ?_
  refine AW.cond (.tmp rfl) (fun hb1 => ?_) (fun hb1 => ?_)
  · have _u := True.intro
    replace hb1 := of_decide_eq_false (of_not hb1)
    refine AW.seq ?_
    refine AW.region ?_
    refine ARun.pure (PureOp.assign rfl .bool) rfl rfl (Nat.le_of_ble_eq_true rfl) ?_
    refine ARun.nil ?_
    refine AW.ret (show ResL _ _ [.tmp 4] _ from resB rfl ?_)
    exact (decide_eq_false (fun e => hb1 (by rw [e]))).symm
  · have _u := True.intro
    replace hb1 := of_decide_eq_true (not_f hb1)
    refine AW.skip ?_
    refine AW.seq ?_
    refine AW.seq ?_
    refine AW.region ?_
    refine ARun.pure (PureOp.fieldPtr rfl (.tmp rfl) ve_fi_98_1_1) rfl rfl (Nat.le_of_ble_eq_true rfl) ?_
    refine ARun.pure (PureOp.loadPtr rfl (.tmp rfl) ve_pl_3 rfl rfl (Nat.le_of_ble_eq_true rfl) (Nat.le_of_ble_eq_true rfl)) rfl rfl (Nat.le_of_ble_eq_true rfl) ?_
    refine ARun.pure (PureOp.fieldPtr rfl (.tmp rfl) ve_fi_98_1_1) rfl rfl (Nat.le_of_ble_eq_true rfl) ?_
    refine ARun.pure (PureOp.loadPtr rfl (.tmp rfl) ve_pl_3 rfl rfl (Nat.le_of_ble_eq_true rfl) (Nat.le_of_ble_eq_true rfl)) rfl rfl (Nat.le_of_ble_eq_true rfl) ?_
    refine ARun.pure (PureOp.intOp rfl (.tmp rfl) (.tmp rfl) rfl) rfl rfl (Nat.le_of_ble_eq_true rfl) ?_
    refine ARun.nil ?_
    refine AW.cond (.tmp rfl) (fun hb2 => ?_) (fun hb2 => ?_)
    · have _u := True.intro
      replace hb2 := of_decide_eq_false (of_not hb2)
      refine AW.seq ?_
      refine AW.region ?_
      refine ARun.pure (PureOp.assign rfl .bool) rfl rfl (Nat.le_of_ble_eq_true rfl) ?_
      refine ARun.nil ?_
      refine AW.ret (show ResL _ _ [.tmp 4] _ from resB rfl ?_)
      exact (decide_eq_false (fun e => hb2 (by rw [e]))).symm
    · have _u := True.intro
      replace hb2 := of_decide_eq_true (not_f hb2)
      refine AW.skip ?_
      refine AW.seq ?_
      refine AW.region ?_
      refine ARun.pure (PureOp.assign rfl .bool) rfl rfl (Nat.le_of_ble_eq_true rfl) ?_
      refine ARun.nil ?_
      refine AW.ret (show ResL _ _ [.tmp 4] _ from resB rfl ?_)
      exact (decide_eq_true (by cases x; cases y; simp_all)).symm

theorem v_eqItemS (x y : List GItem) : Fn Try.prog 27 [.one (.lst 2 x.length (fun i0 j0 => ([.lst 2 (((x.getD i0 (default : GItem)).labels).length) (fun i1 j1 => ([.str ((((x.getD i0 (default : GItem)).labels).getD i1 (default : GLabel)).lname), .str ((((x.getD i0 (default : GItem)).labels).getD i1 (default : GLabel)).lvalue)] : List AV).getD j1 (.con undef)), .int .i64 ((x.getD i0 (default : GItem)).value)] : List AV).getD j0 (.con undef))), .one (.lst 2 y.length (fun i0 j0 => ([.lst 2 (((y.getD i0 (default : GItem)).labels).length) (fun i1 j1 => ([.str ((((y.getD i0 (default : GItem)).labels).getD i1 (default : GLabel)).lname), .str ((((y.getD i0 (default : GItem)).labels).getD i1 (default : GLabel)).lvalue)] : List AV).getD j1 (.con undef)), .int .i64 ((y.getD i0 (default : GItem)).value)] : List AV).getD j0 (.con undef)))] (.one (.bool (decide (x = y)))) := by
  refine Fn.of_body (fn := Try.f27) Try.func27 rfl (Nat.le_of_ble_eq_true rfl) trivial ?_
  intro w0
  show AW _ 27 _ _ _ _
  refine AW.bound (t := 0) rfl fun hx => ?_
  refine AW.seq ?_
  refine AW.region ?_
  refine ARun.pure (PureOp.assign rfl .bool) rfl rfl (Nat.le_of_ble_eq_true rfl) ?_
  refine ARun.nil ?_
  refine AW.seq ?_
  refine AW.seq ?_
  refine AW.region ?_
  refine ARun.pure (PureOp.move rfl (.tmp rfl)) rfl rfl (Nat.le_of_ble_eq_true rfl) ?_
  refine ARun.pure (PureOp.lenLst rfl (.tmp rfl) ve_sl_49) rfl rfl (Nat.le_of_ble_eq_true rfl) ?_
  refine ARun.pure (PureOp.move rfl (.tmp rfl)) rfl rfl (Nat.le_of_ble_eq_true rfl) ?_
  refine ARun.pure (PureOp.lenLst rfl (.tmp rfl) ve_sl_49) rfl rfl (Nat.le_of_ble_eq_true rfl) ?_
  refine ARun.pure (PureOp.intOp rfl (.tmp rfl) (.tmp rfl) rfl) rfl rfl (Nat.le_of_ble_eq_true rfl) ?_
  refine ARun.nil ?_
  refine AW.cond (.tmp rfl) (fun hb1 => ?_) (fun hb1 => ?_)
  · have _u := True.intro
    replace hb1 := of_decide_eq_false (of_not hb1)
    refine AW.seq ?_
    refine AW.region ?_
    refine ARun.pure (PureOp.assign rfl .bool) rfl rfl (Nat.le_of_ble_eq_true rfl) ?_
    refine ARun.nil ?_
    refine AW.ret (show ResL _ _ [.tmp 4] _ from resB rfl ?_)
    exact (decide_eq_false (fun e => by rw [e] at hb1; omega)).symm
  · have _u := True.intro
    replace hb1 := of_decide_eq_true (not_f hb1)
    refine AW.skip ?_
    refine AW.seq ?_
    refine AW.seq ?_
    refine AW.region ?_
    refine ARun.pure (PureOp.assign rfl .int) rfl rfl (Nat.le_of_ble_eq_true rfl) ?_
    refine ARun.nil ?_
    refine AW.block ?_
    refine AW.loop (ι := Nat) (fun k => ⟨[(0, .one (.lst 2 x.length (fun i0 j0 => ([.lst 2 (((x.getD i0 (default : GItem)).labels).length) (fun i1 j1 => ([.str ((((x.getD i0 (default : GItem)).labels).getD i1 (default : GLabel)).lname), .str ((((x.getD i0 (default : GItem)).labels).getD i1 (default : GLabel)).lvalue)] : List AV).getD j1 (.con undef)), .int .i64 ((x.getD i0 (default : GItem)).value)] : List AV).getD j0 (.con undef)))), (1, .one (.lst 2 y.length (fun i0 j0 => ([.lst 2 (((y.getD i0 (default : GItem)).labels).length) (fun i1 j1 => ([.str ((((y.getD i0 (default : GItem)).labels).getD i1 (default : GLabel)).lname), .str ((((y.getD i0 (default : GItem)).labels).getD i1 (default : GLabel)).lvalue)] : List AV).getD j1 (.con undef)), .int .i64 ((y.getD i0 (default : GItem)).value)] : List AV).getD j0 (.con undef)))), (5, .one (.int .i64 (k : Int)))], []⟩) (fun k => k ≤ x.length ∧ x.take k = y.take k) (fun k => x.length - k) 0 ⟨Nat.zero_le _, rfl⟩ ⟨⟨⟨_, rfl, rfl⟩, ⟨_, rfl, rfl⟩, ⟨_, rfl, rfl⟩, trivial⟩, trivial⟩ ?_
    intro k hI
    obtain ⟨hk, hq⟩ := hI
    refine AW.seq ?_
    refine AW.seq ?_
    refine AW.region ?_
    refine ARun.pure (PureOp.move rfl (.tmp rfl)) rfl rfl (Nat.le_of_ble_eq_true rfl) ?_
    refine ARun.pure (PureOp.move rfl (.tmp rfl)) rfl rfl (Nat.le_of_ble_eq_true rfl) ?_
    refine ARun.pure (PureOp.lenLst rfl (.tmp rfl) ve_sl_49) rfl rfl (Nat.le_of_ble_eq_true rfl) ?_
    refine ARun.pure (PureOp.intOp rfl (.tmp rfl) (.tmp rfl) rfl) rfl rfl (Nat.le_of_ble_eq_true rfl) ?_
    refine ARun.nil ?_
    refine AW.cond (.tmp rfl) (fun hb2 => ?_) (fun hb2 => ?_)
    · have _u := True.intro
      replace hb2 := of_decide_eq_true hb2
      have hlt : k < x.length := by omega
      have hlt2 : k < y.length := by omega
      refine AW.skip ?_
      refine AW.seq ?_
      refine AW.block ?_
      refine AW.seq ?_
      refine AW.any (by kernel_rfl) (by kernel_rfl) ?_
      refine AD.pure (PureOp.move rfl (.tmp rfl)) rfl rfl (Nat.le_of_ble_eq_true rfl) ?_
      refine AD.pure (PureOp.move rfl (.tmp rfl)) rfl rfl (Nat.le_of_ble_eq_true rfl) ?_
      refine AD.pure (PureOp.indexLst (i := k) rfl (.tmp rfl) ve_el_49_2 (.tmp rfl) rfl (by omega)) rfl rfl (Nat.le_of_ble_eq_true rfl) ?_
      refine AD.pure (PureOp.loadRefAgg rfl (.tmp rfl) ve_ag_98_2 (Nat.le_of_ble_eq_true rfl)) rfl rfl (Nat.le_of_ble_eq_true rfl) ?_
      refine AD.pure (PureOp.move rfl (.tmp rfl)) rfl rfl (Nat.le_of_ble_eq_true rfl) ?_
      refine AD.pure (PureOp.move rfl (.tmp rfl)) rfl rfl (Nat.le_of_ble_eq_true rfl) ?_
      refine AD.pure (PureOp.indexLst (i := k) rfl (.tmp rfl) ve_el_49_2 (.tmp rfl) rfl (by omega)) rfl rfl (Nat.le_of_ble_eq_true rfl) ?_
      refine AD.pure (PureOp.loadRefAgg rfl (.tmp rfl) ve_ag_98_2 (Nat.le_of_ble_eq_true rfl)) rfl rfl (Nat.le_of_ble_eq_true rfl) ?_
      refine AD.pure (PureOp.call rfl (v_eqItem (x.getD k (default : GItem)) (y.getD k (default : GItem))) ⟨⟨_, (.tmp rfl), ⟨.lst, .int, trivial⟩⟩, ⟨_, (.tmp rfl), ⟨.lst, .int, trivial⟩⟩, trivial⟩ ve_ca_80 trivial) rfl rfl (Nat.le_of_ble_eq_true rfl) ?_
      refine AD.pure (PureOp.not rfl (.tmp rfl)) rfl rfl (Nat.le_of_ble_eq_true rfl) ?_
      refine AD.nil ?_
      refine AW.cond (.tmp rfl) (fun hb3 => ?_) (fun hb3 => ?_)
      · have _u := True.intro
        replace hb3 := of_decide_eq_false (of_not hb3)
        refine AW.seq ?_
        refine AW.region ?_
        refine ARun.pure (PureOp.assign rfl .bool) rfl rfl (Nat.le_of_ble_eq_true rfl) ?_
        refine ARun.nil ?_
        refine AW.ret (show ResL _ _ [.tmp 4] _ from resB rfl ?_)
        exact (decide_eq_false (fun e => hb3 (by rw [e]))).symm
      · have _u := True.intro
        replace hb3 := of_decide_eq_true (not_f hb3)
        refine AW.skip ?_
        refine AW.region ?_
        refine ARun.pure (PureOp.move rfl (.tmp rfl)) rfl rfl (Nat.le_of_ble_eq_true rfl) ?_
        refine ARun.pure (PureOp.add (c := ((k + 1 : Nat) : Int)) rfl (.tmp rfl) .int (by rw [wrap_id (by omega) (by omega)]; omega)) rfl rfl (Nat.le_of_ble_eq_true rfl) ?_
        refine ARun.pure (PureOp.assign rfl (.tmp rfl)) rfl rfl (Nat.le_of_ble_eq_true rfl) ?_
        refine ARun.nil ?_
        exact ⟨k + 1, ⟨by omega, take_next (default : GItem) hlt (by omega) hq hb3⟩, by dsimp only; omega, ⟨⟨⟨_, rfl, rfl⟩, ⟨_, rfl, rfl⟩, ⟨_, rfl, rfl⟩, trivial⟩, trivial⟩⟩
    · have _u := True.intro
      replace hb2 := of_decide_eq_false hb2
      have hlt : ¬ k < x.length := by omega
      refine AW.exit ?_
      refine AW.seq ?_
      refine AW.region ?_
      refine ARun.pure (PureOp.assign rfl .bool) rfl rfl (Nat.le_of_ble_eq_true rfl) ?_
      refine ARun.nil ?_
      refine AW.ret (show ResL _ _ [.tmp 4] _ from resB rfl ?_)
      exact (decide_eq_true (eqL_yes hlt (by omega) hq)).symm

theorem v_eqTotal (x y : GTotal) : Fn Try.prog 92 [.agg [.lst 2 x.labels.length (fun i0 j0 => ([.str ((x.labels.getD i0 (default : GLabel)).lname), .str ((x.labels.getD i0 (default : GLabel)).lvalue)] : List AV).getD j0 (.con undef)), .int .i64 x.sum, .int .i64 x.count, .int .i64 x.least, .int .i64 x.most], .agg [.lst 2 y.labels.length (fun i0 j0 => ([.str ((y.labels.getD i0 (default : GLabel)).lname), .str ((y.labels.getD i0 (default : GLabel)).lvalue)] : List AV).getD j0 (.con undef)), .int .i64 y.sum, .int .i64 y.count, .int .i64 y.least, .int .i64 y.most]] (.one (.bool (decide (x = y)))) := by
  refine Fn.of_body (fn := Try.f92) Try.func92 rfl (Nat.le_of_ble_eq_true rfl) trivial ?_
  intro w0
  show AW _ 31 _ _ _ _
  refine AW.seq ?_
  refine AW.region ?_
  refine ARun.box (id := 0) rfl (.tmp rfl) (SV.cells_of (by exact ⟨trivial, trivial, trivial, trivial, trivial, trivial⟩)) ⟨rfl, (by repeat first | exact trivial | refine ⟨by decide, by first | rfl | exact trivial | (intro i j; first | rfl | exact getD_no rfl | (dsimp only; split <;> first | rfl | exact getD_no rfl)), ?_⟩)⟩ rfl rfl rfl (Nat.le_of_ble_eq_true rfl) ?_
  refine ARun.box (id := 1) rfl (.tmp rfl) (SV.cells_of (by exact ⟨trivial, trivial, trivial, trivial, trivial, trivial⟩)) ⟨rfl, (by repeat first | exact trivial | refine ⟨by decide, by first | rfl | exact trivial | (intro i j; first | rfl | exact getD_no rfl | (dsimp only; split <;> first | rfl | exact getD_no rfl)), ?_⟩)⟩ rfl rfl rfl (Nat.le_of_ble_eq_true rfl) ?_
  refine ARun.pure (PureOp.assign rfl .bool) rfl rfl (Nat.le_of_ble_eq_true rfl) ?_
  refine ARun.nil ?_
  refine AW.seq ?_
  refine AW.seq ?_
  refine AW.region ?_
  refine ARun.pure (PureOp.fieldPtr rfl (.tmp rfl) ve_fi_114_0_0) rfl rfl (Nat.le_of_ble_eq_true rfl) ?_
  refine ARun.pure (PureOp.loadPtr rfl (.tmp rfl) ve_pl_57 rfl rfl (Nat.le_of_ble_eq_true rfl) (Nat.le_of_ble_eq_true rfl)) rfl rfl (Nat.le_of_ble_eq_true rfl) ?_
  refine ARun.pure (PureOp.fieldPtr rfl (.tmp rfl) ve_fi_114_0_0) rfl rfl (Nat.le_of_ble_eq_true rfl) ?_
  refine ARun.pure (PureOp.loadPtr rfl (.tmp rfl) ve_pl_57 rfl rfl (Nat.le_of_ble_eq_true rfl) (Nat.le_of_ble_eq_true rfl)) rfl rfl (Nat.le_of_ble_eq_true rfl) ?_
  refine ARun.pure (PureOp.call rfl (v_eqLabelS x.labels y.labels) ⟨⟨_, (.tmp rfl), .lst⟩, ⟨_, (.tmp rfl), .lst⟩, trivial⟩ ve_ca_34 trivial) rfl rfl (Nat.le_of_ble_eq_true rfl) ?_
  refine ARun.pure (PureOp.not rfl (.tmp rfl)) rfl rfl (Nat.le_of_ble_eq_true rfl) ?_
  refine ARun.nil ?_
  refine AW.cond (.tmp rfl) (fun hb1 => ?_) (fun hb1 => ?_)
  · have _u := True.intro
    replace hb1 := of_decide_eq_false (of_not hb1)
    refine AW.seq ?_
    refine AW.region ?_
    refine ARun.pure (PureOp.assign rfl .bool) rfl rfl (Nat.le_of_ble_eq_true rfl) ?_
    refine ARun.nil ?_
    refine AW.ret (show ResL _ _ [.tmp 4] _ from resB rfl ?_)
    exact (decide_eq_false (fun e => hb1 (by rw [e]))).symm
  · have _u := True.intro
    replace hb1 := of_decide_eq_true (not_f hb1)
    refine AW.skip ?_
    refine AW.seq ?_
    refine AW.seq ?_
    refine AW.region ?_
    refine ARun.pure (PureOp.fieldPtr rfl (.tmp rfl) ve_fi_114_1_1) rfl rfl (Nat.le_of_ble_eq_true rfl) ?_
    refine ARun.pure (PureOp.loadPtr rfl (.tmp rfl) ve_pl_3 rfl rfl (Nat.le_of_ble_eq_true rfl) (Nat.le_of_ble_eq_true rfl)) rfl rfl (Nat.le_of_ble_eq_true rfl) ?_
    refine ARun.pure (PureOp.fieldPtr rfl (.tmp rfl) ve_fi_114_1_1) rfl rfl (Nat.le_of_ble_eq_true rfl) ?_
    refine ARun.pure (PureOp.loadPtr rfl (.tmp rfl) ve_pl_3 rfl rfl (Nat.le_of_ble_eq_true rfl) (Nat.le_of_ble_eq_true rfl)) rfl rfl (Nat.le_of_ble_eq_true rfl) ?_
    refine ARun.pure (PureOp.intOp rfl (.tmp rfl) (.tmp rfl) rfl) rfl rfl (Nat.le_of_ble_eq_true rfl) ?_
    refine ARun.nil ?_
    refine AW.cond (.tmp rfl) (fun hb2 => ?_) (fun hb2 => ?_)
    · have _u := True.intro
      replace hb2 := of_decide_eq_false (of_not hb2)
      refine AW.seq ?_
      refine AW.region ?_
      refine ARun.pure (PureOp.assign rfl .bool) rfl rfl (Nat.le_of_ble_eq_true rfl) ?_
      refine ARun.nil ?_
      refine AW.ret (show ResL _ _ [.tmp 4] _ from resB rfl ?_)
      exact (decide_eq_false (fun e => hb2 (by rw [e]))).symm
    · have _u := True.intro
      replace hb2 := of_decide_eq_true (not_f hb2)
      refine AW.skip ?_
      refine AW.seq ?_
      refine AW.seq ?_
      refine AW.region ?_
      refine ARun.pure (PureOp.fieldPtr rfl (.tmp rfl) ve_fi_114_2_2) rfl rfl (Nat.le_of_ble_eq_true rfl) ?_
      refine ARun.pure (PureOp.loadPtr rfl (.tmp rfl) ve_pl_3 rfl rfl (Nat.le_of_ble_eq_true rfl) (Nat.le_of_ble_eq_true rfl)) rfl rfl (Nat.le_of_ble_eq_true rfl) ?_
      refine ARun.pure (PureOp.fieldPtr rfl (.tmp rfl) ve_fi_114_2_2) rfl rfl (Nat.le_of_ble_eq_true rfl) ?_
      refine ARun.pure (PureOp.loadPtr rfl (.tmp rfl) ve_pl_3 rfl rfl (Nat.le_of_ble_eq_true rfl) (Nat.le_of_ble_eq_true rfl)) rfl rfl (Nat.le_of_ble_eq_true rfl) ?_
      refine ARun.pure (PureOp.intOp rfl (.tmp rfl) (.tmp rfl) rfl) rfl rfl (Nat.le_of_ble_eq_true rfl) ?_
      refine ARun.nil ?_
      refine AW.cond (.tmp rfl) (fun hb3 => ?_) (fun hb3 => ?_)
      · have _u := True.intro
        replace hb3 := of_decide_eq_false (of_not hb3)
        refine AW.seq ?_
        refine AW.region ?_
        refine ARun.pure (PureOp.assign rfl .bool) rfl rfl (Nat.le_of_ble_eq_true rfl) ?_
        refine ARun.nil ?_
        refine AW.ret (show ResL _ _ [.tmp 4] _ from resB rfl ?_)
        exact (decide_eq_false (fun e => hb3 (by rw [e]))).symm
      · have _u := True.intro
        replace hb3 := of_decide_eq_true (not_f hb3)
        refine AW.skip ?_
        refine AW.seq ?_
        refine AW.seq ?_
        refine AW.region ?_
        refine ARun.pure (PureOp.fieldPtr rfl (.tmp rfl) ve_fi_114_3_3) rfl rfl (Nat.le_of_ble_eq_true rfl) ?_
        refine ARun.pure (PureOp.loadPtr rfl (.tmp rfl) ve_pl_3 rfl rfl (Nat.le_of_ble_eq_true rfl) (Nat.le_of_ble_eq_true rfl)) rfl rfl (Nat.le_of_ble_eq_true rfl) ?_
        refine ARun.pure (PureOp.fieldPtr rfl (.tmp rfl) ve_fi_114_3_3) rfl rfl (Nat.le_of_ble_eq_true rfl) ?_
        refine ARun.pure (PureOp.loadPtr rfl (.tmp rfl) ve_pl_3 rfl rfl (Nat.le_of_ble_eq_true rfl) (Nat.le_of_ble_eq_true rfl)) rfl rfl (Nat.le_of_ble_eq_true rfl) ?_
        refine ARun.pure (PureOp.intOp rfl (.tmp rfl) (.tmp rfl) rfl) rfl rfl (Nat.le_of_ble_eq_true rfl) ?_
        refine ARun.nil ?_
        refine AW.cond (.tmp rfl) (fun hb4 => ?_) (fun hb4 => ?_)
        · have _u := True.intro
          replace hb4 := of_decide_eq_false (of_not hb4)
          refine AW.seq ?_
          refine AW.region ?_
          refine ARun.pure (PureOp.assign rfl .bool) rfl rfl (Nat.le_of_ble_eq_true rfl) ?_
          refine ARun.nil ?_
          refine AW.ret (show ResL _ _ [.tmp 4] _ from resB rfl ?_)
          exact (decide_eq_false (fun e => hb4 (by rw [e]))).symm
        · have _u := True.intro
          replace hb4 := of_decide_eq_true (not_f hb4)
          refine AW.skip ?_
          refine AW.seq ?_
          refine AW.seq ?_
          refine AW.region ?_
          refine ARun.pure (PureOp.fieldPtr rfl (.tmp rfl) ve_fi_114_4_4) rfl rfl (Nat.le_of_ble_eq_true rfl) ?_
          refine ARun.pure (PureOp.loadPtr rfl (.tmp rfl) ve_pl_3 rfl rfl (Nat.le_of_ble_eq_true rfl) (Nat.le_of_ble_eq_true rfl)) rfl rfl (Nat.le_of_ble_eq_true rfl) ?_
          refine ARun.pure (PureOp.fieldPtr rfl (.tmp rfl) ve_fi_114_4_4) rfl rfl (Nat.le_of_ble_eq_true rfl) ?_
          refine ARun.pure (PureOp.loadPtr rfl (.tmp rfl) ve_pl_3 rfl rfl (Nat.le_of_ble_eq_true rfl) (Nat.le_of_ble_eq_true rfl)) rfl rfl (Nat.le_of_ble_eq_true rfl) ?_
          refine ARun.pure (PureOp.intOp rfl (.tmp rfl) (.tmp rfl) rfl) rfl rfl (Nat.le_of_ble_eq_true rfl) ?_
          refine ARun.nil ?_
          refine AW.cond (.tmp rfl) (fun hb5 => ?_) (fun hb5 => ?_)
          · have _u := True.intro
            replace hb5 := of_decide_eq_false (of_not hb5)
            refine AW.seq ?_
            refine AW.region ?_
            refine ARun.pure (PureOp.assign rfl .bool) rfl rfl (Nat.le_of_ble_eq_true rfl) ?_
            refine ARun.nil ?_
            refine AW.ret (show ResL _ _ [.tmp 4] _ from resB rfl ?_)
            exact (decide_eq_false (fun e => hb5 (by rw [e]))).symm
          · have _u := True.intro
            replace hb5 := of_decide_eq_true (not_f hb5)
            refine AW.skip ?_
            refine AW.seq ?_
            refine AW.region ?_
            refine ARun.pure (PureOp.assign rfl .bool) rfl rfl (Nat.le_of_ble_eq_true rfl) ?_
            refine ARun.nil ?_
            refine AW.ret (show ResL _ _ [.tmp 4] _ from resB rfl ?_)
            exact (decide_eq_true (by cases x; cases y; simp_all)).symm

theorem v_eqTotalS (x y : List GTotal) : Fn Try.prog 43 [.one (.lst 5 x.length (fun i0 j0 => ([.lst 2 (((x.getD i0 (default : GTotal)).labels).length) (fun i1 j1 => ([.str ((((x.getD i0 (default : GTotal)).labels).getD i1 (default : GLabel)).lname), .str ((((x.getD i0 (default : GTotal)).labels).getD i1 (default : GLabel)).lvalue)] : List AV).getD j1 (.con undef)), .int .i64 ((x.getD i0 (default : GTotal)).sum), .int .i64 ((x.getD i0 (default : GTotal)).count), .int .i64 ((x.getD i0 (default : GTotal)).least), .int .i64 ((x.getD i0 (default : GTotal)).most)] : List AV).getD j0 (.con undef))), .one (.lst 5 y.length (fun i0 j0 => ([.lst 2 (((y.getD i0 (default : GTotal)).labels).length) (fun i1 j1 => ([.str ((((y.getD i0 (default : GTotal)).labels).getD i1 (default : GLabel)).lname), .str ((((y.getD i0 (default : GTotal)).labels).getD i1 (default : GLabel)).lvalue)] : List AV).getD j1 (.con undef)), .int .i64 ((y.getD i0 (default : GTotal)).sum), .int .i64 ((y.getD i0 (default : GTotal)).count), .int .i64 ((y.getD i0 (default : GTotal)).least), .int .i64 ((y.getD i0 (default : GTotal)).most)] : List AV).getD j0 (.con undef)))] (.one (.bool (decide (x = y)))) := by
  refine Fn.of_body (fn := Try.f43) Try.func43 rfl (Nat.le_of_ble_eq_true rfl) trivial ?_
  intro w0
  show AW _ 27 _ _ _ _
  refine AW.bound (t := 0) rfl fun hx => ?_
  refine AW.seq ?_
  refine AW.region ?_
  refine ARun.pure (PureOp.assign rfl .bool) rfl rfl (Nat.le_of_ble_eq_true rfl) ?_
  refine ARun.nil ?_
  refine AW.seq ?_
  refine AW.seq ?_
  refine AW.region ?_
  refine ARun.pure (PureOp.move rfl (.tmp rfl)) rfl rfl (Nat.le_of_ble_eq_true rfl) ?_
  refine ARun.pure (PureOp.lenLst rfl (.tmp rfl) ve_sl_69) rfl rfl (Nat.le_of_ble_eq_true rfl) ?_
  refine ARun.pure (PureOp.move rfl (.tmp rfl)) rfl rfl (Nat.le_of_ble_eq_true rfl) ?_
  refine ARun.pure (PureOp.lenLst rfl (.tmp rfl) ve_sl_69) rfl rfl (Nat.le_of_ble_eq_true rfl) ?_
  refine ARun.pure (PureOp.intOp rfl (.tmp rfl) (.tmp rfl) rfl) rfl rfl (Nat.le_of_ble_eq_true rfl) ?_
  refine ARun.nil ?_
  refine AW.cond (.tmp rfl) (fun hb1 => ?_) (fun hb1 => ?_)
  · have _u := True.intro
    replace hb1 := of_decide_eq_false (of_not hb1)
    refine AW.seq ?_
    refine AW.region ?_
    refine ARun.pure (PureOp.assign rfl .bool) rfl rfl (Nat.le_of_ble_eq_true rfl) ?_
    refine ARun.nil ?_
    refine AW.ret (show ResL _ _ [.tmp 4] _ from resB rfl ?_)
    exact (decide_eq_false (fun e => by rw [e] at hb1; omega)).symm
  · have _u := True.intro
    replace hb1 := of_decide_eq_true (not_f hb1)
    refine AW.skip ?_
    refine AW.seq ?_
    refine AW.seq ?_
    refine AW.region ?_
    refine ARun.pure (PureOp.assign rfl .int) rfl rfl (Nat.le_of_ble_eq_true rfl) ?_
    refine ARun.nil ?_
    refine AW.block ?_
    refine AW.loop (ι := Nat) (fun k => ⟨[(0, .one (.lst 5 x.length (fun i0 j0 => ([.lst 2 (((x.getD i0 (default : GTotal)).labels).length) (fun i1 j1 => ([.str ((((x.getD i0 (default : GTotal)).labels).getD i1 (default : GLabel)).lname), .str ((((x.getD i0 (default : GTotal)).labels).getD i1 (default : GLabel)).lvalue)] : List AV).getD j1 (.con undef)), .int .i64 ((x.getD i0 (default : GTotal)).sum), .int .i64 ((x.getD i0 (default : GTotal)).count), .int .i64 ((x.getD i0 (default : GTotal)).least), .int .i64 ((x.getD i0 (default : GTotal)).most)] : List AV).getD j0 (.con undef)))), (1, .one (.lst 5 y.length (fun i0 j0 => ([.lst 2 (((y.getD i0 (default : GTotal)).labels).length) (fun i1 j1 => ([.str ((((y.getD i0 (default : GTotal)).labels).getD i1 (default : GLabel)).lname), .str ((((y.getD i0 (default : GTotal)).labels).getD i1 (default : GLabel)).lvalue)] : List AV).getD j1 (.con undef)), .int .i64 ((y.getD i0 (default : GTotal)).sum), .int .i64 ((y.getD i0 (default : GTotal)).count), .int .i64 ((y.getD i0 (default : GTotal)).least), .int .i64 ((y.getD i0 (default : GTotal)).most)] : List AV).getD j0 (.con undef)))), (5, .one (.int .i64 (k : Int)))], []⟩) (fun k => k ≤ x.length ∧ x.take k = y.take k) (fun k => x.length - k) 0 ⟨Nat.zero_le _, rfl⟩ ⟨⟨⟨_, rfl, rfl⟩, ⟨_, rfl, rfl⟩, ⟨_, rfl, rfl⟩, trivial⟩, trivial⟩ ?_
    intro k hI
    obtain ⟨hk, hq⟩ := hI
    refine AW.seq ?_
    refine AW.seq ?_
    refine AW.region ?_
    refine ARun.pure (PureOp.move rfl (.tmp rfl)) rfl rfl (Nat.le_of_ble_eq_true rfl) ?_
    refine ARun.pure (PureOp.move rfl (.tmp rfl)) rfl rfl (Nat.le_of_ble_eq_true rfl) ?_
    refine ARun.pure (PureOp.lenLst rfl (.tmp rfl) ve_sl_69) rfl rfl (Nat.le_of_ble_eq_true rfl) ?_
    refine ARun.pure (PureOp.intOp rfl (.tmp rfl) (.tmp rfl) rfl) rfl rfl (Nat.le_of_ble_eq_true rfl) ?_
    refine ARun.nil ?_
    refine AW.cond (.tmp rfl) (fun hb2 => ?_) (fun hb2 => ?_)
    · have _u := True.intro
      replace hb2 := of_decide_eq_true hb2
      have hlt : k < x.length := by omega
      have hlt2 : k < y.length := by omega
      refine AW.skip ?_
      refine AW.seq ?_
      refine AW.block ?_
      refine AW.seq ?_
      refine AW.any (by kernel_rfl) (by kernel_rfl) ?_
      refine AD.pure (PureOp.move rfl (.tmp rfl)) rfl rfl (Nat.le_of_ble_eq_true rfl) ?_
      refine AD.pure (PureOp.move rfl (.tmp rfl)) rfl rfl (Nat.le_of_ble_eq_true rfl) ?_
      refine AD.pure (PureOp.indexLst (i := k) rfl (.tmp rfl) ve_el_69_5 (.tmp rfl) rfl (by omega)) rfl rfl (Nat.le_of_ble_eq_true rfl) ?_
      refine AD.pure (PureOp.loadRefAgg rfl (.tmp rfl) ve_ag_114_5 (Nat.le_of_ble_eq_true rfl)) rfl rfl (Nat.le_of_ble_eq_true rfl) ?_
      refine AD.pure (PureOp.move rfl (.tmp rfl)) rfl rfl (Nat.le_of_ble_eq_true rfl) ?_
      refine AD.pure (PureOp.move rfl (.tmp rfl)) rfl rfl (Nat.le_of_ble_eq_true rfl) ?_
      refine AD.pure (PureOp.indexLst (i := k) rfl (.tmp rfl) ve_el_69_5 (.tmp rfl) rfl (by omega)) rfl rfl (Nat.le_of_ble_eq_true rfl) ?_
      refine AD.pure (PureOp.loadRefAgg rfl (.tmp rfl) ve_ag_114_5 (Nat.le_of_ble_eq_true rfl)) rfl rfl (Nat.le_of_ble_eq_true rfl) ?_
      refine AD.pure (PureOp.call rfl (v_eqTotal (x.getD k (default : GTotal)) (y.getD k (default : GTotal))) ⟨⟨_, (.tmp rfl), ⟨.lst, .int, .int, .int, .int, trivial⟩⟩, ⟨_, (.tmp rfl), ⟨.lst, .int, .int, .int, .int, trivial⟩⟩, trivial⟩ ve_ca_92 trivial) rfl rfl (Nat.le_of_ble_eq_true rfl) ?_
      refine AD.pure (PureOp.not rfl (.tmp rfl)) rfl rfl (Nat.le_of_ble_eq_true rfl) ?_
      refine AD.nil ?_
      refine AW.cond (.tmp rfl) (fun hb3 => ?_) (fun hb3 => ?_)
      · have _u := True.intro
        replace hb3 := of_decide_eq_false (of_not hb3)
        refine AW.seq ?_
        refine AW.region ?_
        refine ARun.pure (PureOp.assign rfl .bool) rfl rfl (Nat.le_of_ble_eq_true rfl) ?_
        refine ARun.nil ?_
        refine AW.ret (show ResL _ _ [.tmp 4] _ from resB rfl ?_)
        exact (decide_eq_false (fun e => hb3 (by rw [e]))).symm
      · have _u := True.intro
        replace hb3 := of_decide_eq_true (not_f hb3)
        refine AW.skip ?_
        refine AW.region ?_
        refine ARun.pure (PureOp.move rfl (.tmp rfl)) rfl rfl (Nat.le_of_ble_eq_true rfl) ?_
        refine ARun.pure (PureOp.add (c := ((k + 1 : Nat) : Int)) rfl (.tmp rfl) .int (by rw [wrap_id (by omega) (by omega)]; omega)) rfl rfl (Nat.le_of_ble_eq_true rfl) ?_
        refine ARun.pure (PureOp.assign rfl (.tmp rfl)) rfl rfl (Nat.le_of_ble_eq_true rfl) ?_
        refine ARun.nil ?_
        exact ⟨k + 1, ⟨by omega, take_next (default : GTotal) hlt (by omega) hq hb3⟩, by dsimp only; omega, ⟨⟨⟨_, rfl, rfl⟩, ⟨_, rfl, rfl⟩, ⟨_, rfl, rfl⟩, trivial⟩, trivial⟩⟩
    · have _u := True.intro
      replace hb2 := of_decide_eq_false hb2
      have hlt : ¬ k < x.length := by omega
      refine AW.exit ?_
      refine AW.seq ?_
      refine AW.region ?_
      refine ARun.pure (PureOp.assign rfl .bool) rfl rfl (Nat.le_of_ble_eq_true rfl) ?_
      refine ARun.nil ?_
      refine AW.ret (show ResL _ _ [.tmp 4] _ from resB rfl ?_)
      exact (decide_eq_true (eqL_yes hlt (by omega) hq)).symm
end Go.Proofs.Ytmlhlkpiofbhgaa
