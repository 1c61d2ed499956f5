/-
  The laws' own budgets (sz) over the data of this seat.
-/
import Derived.Test.YtmfkmifkkplidaaTy6
namespace Go.Proofs.Ytmfkmifkkplidaa
open Go.ChangeShapes Go.WideShapes Go.ChangeAt Go.RowKit Go.BigFrame Go.Deep
set_option linter.unusedVariables false
set_option linter.unusedSimpArgs false
theorem vz_ag_103_2 : aggB Try.prog 103 2 = true := by kernel_rfl
theorem vz_ca_41 : callB Try.prog 41 = true := by kernel_rfl
theorem vz_ca_68 : callB Try.prog 68 = true := by kernel_rfl
theorem vz_ca_84 : callB Try.prog 84 = true := by kernel_rfl
theorem vz_el_22_2 : elemB Try.prog 22 2 = true := by kernel_rfl
theorem vz_fi_103_0_0 : fieldB Try.prog 103 0 0 = true := by kernel_rfl
theorem vz_fi_103_1_1 : fieldB Try.prog 103 1 1 = true := by kernel_rfl
theorem vz_fi_24_0_0 : fieldB Try.prog 24 0 0 = true := by kernel_rfl
theorem vz_fi_44_0_0 : fieldB Try.prog 44 0 0 = true := by kernel_rfl
theorem vz_pl_101 : plainB Try.prog 101 = true := by kernel_rfl
theorem vz_pl_22 : plainB Try.prog 22 = true := by kernel_rfl
theorem vz_pl_9 : plainB Try.prog 9 = true := by kernel_rfl
theorem vz_sl_101 : sliceB Try.prog 101 = true := by kernel_rfl
theorem vz_sl_22 : sliceB Try.prog 22 = true := by kernel_rfl
theorem vz_st_9 : stringB Try.prog 9 = true := by kernel_rfl
theorem v_szSampleS (x : List GSample) (left : Int) (hl : 0 ≤ left ∧ left ≤ 1048576) : Fn Try.prog 84 [.one (.lst 2 x.length (fun i0 j0 => ([.int .i64 ((x.getD i0 (default : GSample)).at_), .int .i64 ((x.getD i0 (default : GSample)).value)] : List AV).getD j0 (.con undef))), .one (.int .i64 left)] (.one (.int .i64 (szR left (x.length)))) := by
  obtain ⟨h0, h1⟩ := hl
  refine Fn.of_body (fn := Try.f84) Try.func84 rfl (Nat.le_of_ble_eq_true rfl) trivial ?_
  intro w0
  show AW _ 12 _ _ _ _
  refine AW.bound (t := 0) rfl fun hx => ?_
  refine AW.seq ?_
  refine AW.region ?_
  refine ARun.pure (PureOp.assign rfl .int) rfl rfl (Nat.le_of_ble_eq_true rfl) ?_
  refine ARun.nil ?_
  refine AW.seq ?_
  refine AW.region ?_
  refine ARun.pure (PureOp.move rfl (.tmp rfl)) rfl rfl (Nat.le_of_ble_eq_true rfl) ?_
  refine ARun.pure (PureOp.move rfl (.tmp rfl)) rfl rfl (Nat.le_of_ble_eq_true rfl) ?_
  refine ARun.pure (PureOp.lenLst rfl (.tmp rfl) vz_sl_101) rfl rfl (Nat.le_of_ble_eq_true rfl) ?_
  refine ARun.pure (PureOp.sub (c := left - (x.length : Int)) rfl (.tmp rfl) (.tmp rfl) (wrap_id (by omega) (by omega))) rfl rfl (Nat.le_of_ble_eq_true rfl) ?_
  refine ARun.pure (PureOp.assign rfl (.tmp rfl)) rfl rfl (Nat.le_of_ble_eq_true rfl) ?_
  refine ARun.nil ?_
  refine AW.seq ?_
  refine AW.seq ?_
  refine AW.region ?_
  refine ARun.pure (PureOp.move rfl (.tmp rfl)) rfl rfl (Nat.le_of_ble_eq_true rfl) ?_
  refine ARun.pure (PureOp.intOp rfl (.tmp rfl) .int rfl) rfl rfl (Nat.le_of_ble_eq_true rfl) ?_
  refine ARun.nil ?_
  refine AW.cond (.tmp rfl) (fun hb1 => ?_) (fun hb1 => ?_)
  · have _u := True.intro
    replace hb1 := of_decide_eq_true hb1
    refine AW.seq ?_
    refine AW.region ?_
    refine ARun.pure (PureOp.assign rfl .int) rfl rfl (Nat.le_of_ble_eq_true rfl) ?_
    refine ARun.nil ?_
    refine AW.ret (show ResL _ _ [.tmp 4] _ from resI rfl ?_)
    first | exact szF_big (by omega) | exact szF_ok (by omega)
  · have _u := True.intro
    replace hb1 := of_decide_eq_false hb1
    refine AW.skip ?_
    refine AW.seq ?_
    refine AW.region ?_
    refine ARun.pure (PureOp.move rfl (.tmp rfl)) rfl rfl (Nat.le_of_ble_eq_true rfl) ?_
    refine ARun.pure (PureOp.assign rfl (.tmp rfl)) rfl rfl (Nat.le_of_ble_eq_true rfl) ?_
    refine ARun.nil ?_
    refine AW.ret (show ResL _ _ [.tmp 4] _ from resI rfl ?_)
    first | exact szF_big (by omega) | exact szF_ok (by omega)

theorem v_szRow (x : GRow) (left : Int) (hl : 0 ≤ left ∧ left ≤ 1048576) : Fn Try.prog 68 [.agg [.str x.name, .lst 2 x.samples.length (fun i0 j0 => ([.int .i64 ((x.samples.getD i0 (default : GSample)).at_), .int .i64 ((x.samples.getD i0 (default : GSample)).value)] : List AV).getD j0 (.con undef))], .one (.int .i64 left)] (.one (.int .i64 (szR left (wtRow x)))) := by
  obtain ⟨h0, h1⟩ := hl
  have hU : ∀ (p : Int) (m : Nat), (szR p m < 0 ↔ p < m) := fun p m => by unfold szR; split <;> omega
  refine Fn.of_body (fn := Try.f68) Try.func68 rfl (Nat.le_of_ble_eq_true rfl) trivial ?_
  intro w0
  show AW _ 19 _ _ _ _
  refine AW.boundAS (t := 0) (j := 0) rfl rfl fun hbs0 => ?_
  refine AW.seq ?_
  refine AW.region ?_
  refine ARun.box (id := 0) rfl (.tmp rfl) (SV.cells_of (by exact ⟨trivial, trivial, trivial⟩)) ⟨rfl, (by repeat first | exact trivial | refine ⟨by decide, by first | rfl | exact trivial | (intro i j; first | rfl | exact getD_no rfl | (dsimp only; split <;> first | rfl | exact getD_no rfl)), ?_⟩)⟩ rfl rfl rfl (Nat.le_of_ble_eq_true rfl) ?_
  refine ARun.pure (PureOp.assign rfl .int) rfl rfl (Nat.le_of_ble_eq_true rfl) ?_
  refine ARun.nil ?_
  refine AW.seq ?_
  refine AW.region ?_
  refine ARun.pure (PureOp.move rfl (.tmp rfl)) rfl rfl (Nat.le_of_ble_eq_true rfl) ?_
  refine ARun.pure (PureOp.fieldPtr rfl (.tmp rfl) vz_fi_103_0_0) rfl rfl (Nat.le_of_ble_eq_true rfl) ?_
  refine ARun.pure (PureOp.loadPtr rfl (.tmp rfl) vz_pl_9 rfl rfl (Nat.le_of_ble_eq_true rfl) (Nat.le_of_ble_eq_true rfl)) rfl rfl (Nat.le_of_ble_eq_true rfl) ?_
  refine ARun.pure (PureOp.lenStr rfl (.tmp rfl) vz_st_9) rfl rfl (Nat.le_of_ble_eq_true rfl) ?_
  refine ARun.pure (PureOp.sub (c := left - (x.name.size : Int)) rfl (.tmp rfl) (.tmp rfl) (wrap_id (by omega) (by omega))) rfl rfl (Nat.le_of_ble_eq_true rfl) ?_
  refine ARun.pure (PureOp.assign rfl (.tmp rfl)) rfl rfl (Nat.le_of_ble_eq_true rfl) ?_
  refine ARun.nil ?_
  refine AW.seq ?_
  refine AW.seq ?_
  refine AW.region ?_
  refine ARun.pure (PureOp.move rfl (.tmp rfl)) rfl rfl (Nat.le_of_ble_eq_true rfl) ?_
  refine ARun.pure (PureOp.intOp rfl (.tmp rfl) .int rfl) rfl rfl (Nat.le_of_ble_eq_true rfl) ?_
  refine ARun.nil ?_
  refine AW.cond (.tmp rfl) (fun hb1 => ?_) (fun hb1 => ?_)
  · have _u := True.intro
    replace hb1 := of_decide_eq_true hb1
    refine AW.seq ?_
    refine AW.region ?_
    refine ARun.pure (PureOp.assign rfl .int) rfl rfl (Nat.le_of_ble_eq_true rfl) ?_
    refine ARun.nil ?_
    refine AW.ret (show ResL _ _ [.tmp 4] _ from resI rfl ?_)
    unfold wtRow
    unfold szR at *; (repeat' split at *) <;> first | omega | (split <;> omega)
  · have _u := True.intro
    replace hb1 := of_decide_eq_false hb1
    refine AW.skip ?_
    refine AW.seq ?_
    refine AW.region ?_
    refine ARun.pure (PureOp.fieldPtr rfl (.tmp rfl) vz_fi_103_1_1) rfl rfl (Nat.le_of_ble_eq_true rfl) ?_
    refine ARun.pure (PureOp.loadPtr rfl (.tmp rfl) vz_pl_101 rfl rfl (Nat.le_of_ble_eq_true rfl) (Nat.le_of_ble_eq_true rfl)) rfl rfl (Nat.le_of_ble_eq_true rfl) ?_
    refine ARun.pure (PureOp.move rfl (.tmp rfl)) rfl rfl (Nat.le_of_ble_eq_true rfl) ?_
    refine ARun.pure (PureOp.call rfl (v_szSampleS x.samples (left - (x.name.size : Int)) (by first | omega | (unfold szR at *; split at * <;> omega))) ⟨⟨_, (.tmp rfl), .lst⟩, ⟨_, (.tmp rfl), .int⟩, trivial⟩ vz_ca_84 trivial) rfl rfl (Nat.le_of_ble_eq_true rfl) ?_
    refine ARun.pure (PureOp.assign rfl (.tmp rfl)) rfl rfl (Nat.le_of_ble_eq_true rfl) ?_
    refine ARun.nil ?_
    refine AW.seq ?_
    refine AW.seq ?_
    refine AW.region ?_
    refine ARun.pure (PureOp.move rfl (.tmp rfl)) rfl rfl (Nat.le_of_ble_eq_true rfl) ?_
    refine ARun.pure (PureOp.intOp rfl (.tmp rfl) .int rfl) rfl rfl (Nat.le_of_ble_eq_true rfl) ?_
    refine ARun.nil ?_
    refine AW.cond (.tmp rfl) (fun hb2 => ?_) (fun hb2 => ?_)
    · have _u := True.intro
      replace hb2 := of_decide_eq_true hb2
      refine AW.seq ?_
      refine AW.region ?_
      refine ARun.pure (PureOp.assign rfl .int) rfl rfl (Nat.le_of_ble_eq_true rfl) ?_
      refine ARun.nil ?_
      refine AW.ret (show ResL _ _ [.tmp 4] _ from resI rfl ?_)
      unfold wtRow
      unfold szR at *; (repeat' split at *) <;> first | omega | (split <;> omega)
    · have _u := True.intro
      replace hb2 := of_decide_eq_false hb2
      refine AW.skip ?_
      refine AW.seq ?_
      refine AW.region ?_
      refine ARun.pure (PureOp.move rfl (.tmp rfl)) rfl rfl (Nat.le_of_ble_eq_true rfl) ?_
      refine ARun.pure (PureOp.assign rfl (.tmp rfl)) rfl rfl (Nat.le_of_ble_eq_true rfl) ?_
      refine ARun.nil ?_
      refine AW.ret (show ResL _ _ [.tmp 4] _ from resI rfl ?_)
      unfold wtRow
      unfold szR at *; (repeat' split at *) <;> first | omega | (split <;> omega)

theorem v_szRowS (x : List GRow) (left : Int) (hl : 0 ≤ left ∧ left ≤ 1048576) : Fn Try.prog 41 [.one (.lst 2 x.length (fun i0 j0 => ([.str ((x.getD i0 (default : GRow)).name), .lst 2 (((x.getD i0 (default : GRow)).samples).length) (fun i1 j1 => ([.int .i64 ((((x.getD i0 (default : GRow)).samples).getD i1 (default : GSample)).at_), .int .i64 ((((x.getD i0 (default : GRow)).samples).getD i1 (default : GSample)).value)] : List AV).getD j1 (.con undef))] : List AV).getD j0 (.con undef))), .one (.int .i64 left)] (.one (.int .i64 (szR left (wtl wtRow x)))) := by
  obtain ⟨h0, h1⟩ := hl
  refine Fn.of_body (fn := Try.f41) Try.func41 rfl (Nat.le_of_ble_eq_true rfl) trivial ?_
  intro w0
  show AW _ 27 _ _ _ _
  refine AW.bound (t := 0) rfl fun hx => ?_
  refine AW.seq ?_
  refine AW.region ?_
  refine ARun.pure (PureOp.assign rfl .int) rfl rfl (Nat.le_of_ble_eq_true rfl) ?_
  refine ARun.nil ?_
  refine AW.seq ?_
  refine AW.region ?_
  refine ARun.pure (PureOp.move rfl (.tmp rfl)) rfl rfl (Nat.le_of_ble_eq_true rfl) ?_
  refine ARun.pure (PureOp.move rfl (.tmp rfl)) rfl rfl (Nat.le_of_ble_eq_true rfl) ?_
  refine ARun.pure (PureOp.lenLst rfl (.tmp rfl) vz_sl_22) rfl rfl (Nat.le_of_ble_eq_true rfl) ?_
  refine ARun.pure (PureOp.sub (c := left - (x.length : Int)) rfl (.tmp rfl) (.tmp rfl) (wrap_id (by omega) (by omega))) rfl rfl (Nat.le_of_ble_eq_true rfl) ?_
  refine ARun.pure (PureOp.assign rfl (.tmp rfl)) rfl rfl (Nat.le_of_ble_eq_true rfl) ?_
  refine ARun.nil ?_
  refine AW.seq ?_
  refine AW.seq ?_
  refine AW.region ?_
  refine ARun.pure (PureOp.move rfl (.tmp rfl)) rfl rfl (Nat.le_of_ble_eq_true rfl) ?_
  refine ARun.pure (PureOp.intOp rfl (.tmp rfl) .int rfl) rfl rfl (Nat.le_of_ble_eq_true rfl) ?_
  refine ARun.nil ?_
  refine AW.cond (.tmp rfl) (fun hb1 => ?_) (fun hb1 => ?_)
  · have _u := True.intro
    replace hb1 := of_decide_eq_true hb1
    refine AW.seq ?_
    refine AW.region ?_
    refine ARun.pure (PureOp.assign rfl .int) rfl rfl (Nat.le_of_ble_eq_true rfl) ?_
    refine ARun.nil ?_
    refine AW.ret (show ResL _ _ [.tmp 4] _ from resI rfl ?_)
    first | exact hfin | exact szL_end hlt hq | exact szL_big (by omega)
  · have _u := True.intro
    replace hb1 := of_decide_eq_false hb1
    refine AW.skip ?_
    refine AW.seq ?_
    refine AW.seq ?_
    refine AW.region ?_
    refine ARun.pure (PureOp.assign rfl .int) rfl rfl (Nat.le_of_ble_eq_true rfl) ?_
    refine ARun.nil ?_
    refine AW.block ?_
    refine AW.loop (ι := Nat) (fun k => ⟨[(0, .one (.lst 2 x.length (fun i0 j0 => ([.str ((x.getD i0 (default : GRow)).name), .lst 2 (((x.getD i0 (default : GRow)).samples).length) (fun i1 j1 => ([.int .i64 ((((x.getD i0 (default : GRow)).samples).getD i1 (default : GSample)).at_), .int .i64 ((((x.getD i0 (default : GRow)).samples).getD i1 (default : GSample)).value)] : List AV).getD j1 (.con undef))] : List AV).getD j0 (.con undef)))), (1, .one (.int .i64 (left - (x.length : Int) - ((((x.take k).map wtRow).sum : Nat) : Int)))), (5, .one (.int .i64 (k : Int)))], []⟩) (fun k => k ≤ x.length ∧ 0 ≤ left - (x.length : Int) - ((((x.take k).map wtRow).sum : Nat) : Int)) (fun k => x.length - k) 0 ⟨Nat.zero_le _, by simp; omega⟩ ⟨⟨⟨_, rfl, rfl⟩, ⟨_, rfl, by simp⟩, ⟨_, rfl, rfl⟩, trivial⟩, trivial⟩ ?_
    intro k hI
    obtain ⟨hk, hq⟩ := hI
    refine AW.seq ?_
    refine AW.seq ?_
    refine AW.region ?_
    refine ARun.pure (PureOp.move rfl (.tmp rfl)) rfl rfl (Nat.le_of_ble_eq_true rfl) ?_
    refine ARun.pure (PureOp.move rfl (.tmp rfl)) rfl rfl (Nat.le_of_ble_eq_true rfl) ?_
    refine ARun.pure (PureOp.lenLst rfl (.tmp rfl) vz_sl_22) rfl rfl (Nat.le_of_ble_eq_true rfl) ?_
    refine ARun.pure (PureOp.intOp rfl (.tmp rfl) (.tmp rfl) rfl) rfl rfl (Nat.le_of_ble_eq_true rfl) ?_
    refine ARun.nil ?_
    refine AW.cond (.tmp rfl) (fun hb2 => ?_) (fun hb2 => ?_)
    · have _u := True.intro
      replace hb2 := of_decide_eq_true hb2
      have hlt : k < x.length := by omega
      refine AW.skip ?_
      refine AW.seq ?_
      refine AW.block ?_
      refine AW.seq ?_
      refine AW.region ?_
      refine ARun.pure (PureOp.move rfl (.tmp rfl)) rfl rfl (Nat.le_of_ble_eq_true rfl) ?_
      refine ARun.pure (PureOp.move rfl (.tmp rfl)) rfl rfl (Nat.le_of_ble_eq_true rfl) ?_
      refine ARun.pure (PureOp.indexLst (i := k) rfl (.tmp rfl) vz_el_22_2 (.tmp rfl) rfl (by omega)) rfl rfl (Nat.le_of_ble_eq_true rfl) ?_
      refine ARun.pure (PureOp.loadRefAgg rfl (.tmp rfl) vz_ag_103_2 (Nat.le_of_ble_eq_true rfl)) rfl rfl (Nat.le_of_ble_eq_true rfl) ?_
      refine ARun.pure (PureOp.move rfl (.tmp rfl)) rfl rfl (Nat.le_of_ble_eq_true rfl) ?_
      refine ARun.pure (PureOp.call rfl (v_szRow (x.getD k (default : GRow)) (left - (x.length : Int) - ((((x.take k).map wtRow).sum : Nat) : Int)) (by first | omega | (unfold szR at *; split at * <;> omega))) ⟨⟨_, (.tmp rfl), ⟨.str, .lst, trivial⟩⟩, ⟨_, (.tmp rfl), .int⟩, trivial⟩ vz_ca_68 trivial) rfl rfl (Nat.le_of_ble_eq_true rfl) ?_
      refine ARun.pure (PureOp.assign rfl (.tmp rfl)) rfl rfl (Nat.le_of_ble_eq_true rfl) ?_
      refine ARun.nil ?_
      refine AW.seq ?_
      refine AW.region ?_
      refine ARun.pure (PureOp.move rfl (.tmp rfl)) rfl rfl (Nat.le_of_ble_eq_true rfl) ?_
      refine ARun.pure (PureOp.intOp rfl (.tmp rfl) .int rfl) rfl rfl (Nat.le_of_ble_eq_true rfl) ?_
      refine ARun.nil ?_
      refine AW.cond (.tmp rfl) (fun hb3 => ?_) (fun hb3 => ?_)
      · have _u := True.intro
        replace hb3 := of_decide_eq_true hb3
        have hfin := szL_neg (f := wtRow) (d := (default : GRow)) hlt hq hb3
        refine AW.seq ?_
        refine AW.region ?_
        refine ARun.pure (PureOp.assign rfl .int) rfl rfl (Nat.le_of_ble_eq_true rfl) ?_
        refine ARun.nil ?_
        refine AW.ret (show ResL _ _ [.tmp 4] _ from resI rfl ?_)
        first | exact hfin | exact szL_end hlt hq | exact szL_big (by omega)
      · have _u := True.intro
        replace hb3 := of_decide_eq_false hb3
        obtain ⟨hs1, hs2⟩ := szL_next (f := wtRow) (d := (default : GRow)) hlt hq hb3
        refine AW.skip ?_
        refine AW.region ?_
        refine ARun.pure (PureOp.move rfl (.tmp rfl)) rfl rfl (Nat.le_of_ble_eq_true rfl) ?_
        refine ARun.pure (PureOp.add (c := ((k + 1 : Nat) : Int)) rfl (.tmp rfl) .int (by rw [wrap_id (by omega) (by omega)]; omega)) rfl rfl (Nat.le_of_ble_eq_true rfl) ?_
        refine ARun.pure (PureOp.assign rfl (.tmp rfl)) rfl rfl (Nat.le_of_ble_eq_true rfl) ?_
        refine ARun.nil ?_
        exact ⟨k + 1, ⟨by omega, hs1⟩, by dsimp only; omega, ⟨⟨⟨_, rfl, rfl⟩, ⟨_, rfl, congrArg (fun z => SV.one (.int .i64 z)) hs2⟩, ⟨_, rfl, rfl⟩, trivial⟩, trivial⟩⟩
    · have _u := True.intro
      replace hb2 := of_decide_eq_false hb2
      have hlt : ¬ k < x.length := by omega
      refine AW.exit ?_
      refine AW.seq ?_
      refine AW.region ?_
      refine ARun.pure (PureOp.move rfl (.tmp rfl)) rfl rfl (Nat.le_of_ble_eq_true rfl) ?_
      refine ARun.pure (PureOp.assign rfl (.tmp rfl)) rfl rfl (Nat.le_of_ble_eq_true rfl) ?_
      refine ARun.nil ?_
      refine AW.ret (show ResL _ _ [.tmp 4] _ from resI rfl ?_)
      first | exact hfin | exact szL_end hlt hq | exact szL_big (by omega)

theorem v_szHead (x : GHead) (left : Int) (hl : 0 ≤ left ∧ left ≤ 1048576) : Fn Try.prog 9 [.agg [.lst 2 x.rows.length (fun i0 j0 => ([.str ((x.rows.getD i0 (default : GRow)).name), .lst 2 (((x.rows.getD i0 (default : GRow)).samples).length) (fun i1 j1 => ([.int .i64 ((((x.rows.getD i0 (default : GRow)).samples).getD i1 (default : GSample)).at_), .int .i64 ((((x.rows.getD i0 (default : GRow)).samples).getD i1 (default : GSample)).value)] : List AV).getD j1 (.con undef))] : List AV).getD j0 (.con undef)), .int .i64 x.offset], .one (.int .i64 left)] (.one (.int .i64 (szR left (wtHead x)))) := by
  obtain ⟨h0, h1⟩ := hl
  refine Fn.of_body (fn := Try.f9) Try.func9 rfl (Nat.le_of_ble_eq_true rfl) trivial ?_
  intro w0
  show AW _ 12 _ _ _ _
  refine AW.seq ?_
  refine AW.region ?_
  refine ARun.box (id := 0) rfl (.tmp rfl) (SV.cells_of (by exact ⟨trivial, trivial, trivial⟩)) ⟨rfl, (by repeat first | exact trivial | refine ⟨by decide, by first | rfl | exact trivial | (intro i j; first | rfl | exact getD_no rfl | (dsimp only; split <;> first | rfl | exact getD_no rfl)), ?_⟩)⟩ rfl rfl rfl (Nat.le_of_ble_eq_true rfl) ?_
  refine ARun.pure (PureOp.assign rfl .int) rfl rfl (Nat.le_of_ble_eq_true rfl) ?_
  refine ARun.nil ?_
  refine AW.seq ?_
  refine AW.region ?_
  refine ARun.pure (PureOp.fieldPtr rfl (.tmp rfl) vz_fi_24_0_0) rfl rfl (Nat.le_of_ble_eq_true rfl) ?_
  refine ARun.pure (PureOp.loadPtr rfl (.tmp rfl) vz_pl_22 rfl rfl (Nat.le_of_ble_eq_true rfl) (Nat.le_of_ble_eq_true rfl)) rfl rfl (Nat.le_of_ble_eq_true rfl) ?_
  refine ARun.pure (PureOp.move rfl (.tmp rfl)) rfl rfl (Nat.le_of_ble_eq_true rfl) ?_
  refine ARun.pure (PureOp.call rfl (v_szRowS x.rows left (by first | omega | (unfold szR at *; split at * <;> omega))) ⟨⟨_, (.tmp rfl), .lst⟩, ⟨_, (.tmp rfl), .int⟩, trivial⟩ vz_ca_41 trivial) rfl rfl (Nat.le_of_ble_eq_true rfl) ?_
  refine ARun.pure (PureOp.assign rfl (.tmp rfl)) rfl rfl (Nat.le_of_ble_eq_true rfl) ?_
  refine ARun.nil ?_
  refine AW.seq ?_
  refine AW.seq ?_
  refine AW.region ?_
  refine ARun.pure (PureOp.move rfl (.tmp rfl)) rfl rfl (Nat.le_of_ble_eq_true rfl) ?_
  refine ARun.pure (PureOp.intOp rfl (.tmp rfl) .int rfl) rfl rfl (Nat.le_of_ble_eq_true rfl) ?_
  refine ARun.nil ?_
  refine AW.cond (.tmp rfl) (fun hb1 => ?_) (fun hb1 => ?_)
  · have _u := True.intro
    replace hb1 := of_decide_eq_true hb1
    refine AW.seq ?_
    refine AW.region ?_
    refine ARun.pure (PureOp.assign rfl .int) rfl rfl (Nat.le_of_ble_eq_true rfl) ?_
    refine ARun.nil ?_
    refine AW.ret (show ResL _ _ [.tmp 4] _ from resI rfl ?_)
    unfold wtHead
    exact (szR_neg0 (by omega) hb1).symm
  · have _u := True.intro
    replace hb1 := of_decide_eq_false hb1
    obtain ⟨hs2, hs2b, hs2c⟩ := szR_ok (by omega) hb1
    refine AW.skip ?_
    refine AW.seq ?_
    refine AW.region ?_
    refine ARun.pure (PureOp.move rfl (.tmp rfl)) rfl rfl (Nat.le_of_ble_eq_true rfl) ?_
    refine ARun.pure (PureOp.assign rfl (.tmp rfl)) rfl rfl (Nat.le_of_ble_eq_true rfl) ?_
    refine ARun.nil ?_
    refine AW.ret (show ResL _ _ [.tmp 4] _ from resI rfl ?_)
    rfl

theorem v_szSay (x : GSay) (left : Int) (hl : 0 ≤ left ∧ left ≤ 1048576) : Fn Try.prog 23 [.agg [.str x.name, .int .i64 x.at_, .int .i64 x.value], .one (.int .i64 left)] (.one (.int .i64 (szR left (wtSay x)))) := by
  obtain ⟨h0, h1⟩ := hl
  have hU : ∀ (p : Int) (m : Nat), (szR p m < 0 ↔ p < m) := fun p m => by unfold szR; split <;> omega
  refine Fn.of_body (fn := Try.f23) Try.func23 rfl (Nat.le_of_ble_eq_true rfl) trivial ?_
  intro w0
  show AW _ 13 _ _ _ _
  refine AW.boundAS (t := 0) (j := 0) rfl rfl fun hbs0 => ?_
  refine AW.seq ?_
  refine AW.region ?_
  refine ARun.box (id := 0) rfl (.tmp rfl) (SV.cells_of (by exact ⟨trivial, trivial, trivial, trivial⟩)) ⟨rfl, (by repeat first | exact trivial | refine ⟨by decide, by first | rfl | exact trivial | (intro i j; first | rfl | exact getD_no rfl | (dsimp only; split <;> first | rfl | exact getD_no rfl)), ?_⟩)⟩ rfl rfl rfl (Nat.le_of_ble_eq_true rfl) ?_
  refine ARun.pure (PureOp.assign rfl .int) rfl rfl (Nat.le_of_ble_eq_true rfl) ?_
  refine ARun.nil ?_
  refine AW.seq ?_
  refine AW.region ?_
  refine ARun.pure (PureOp.move rfl (.tmp rfl)) rfl rfl (Nat.le_of_ble_eq_true rfl) ?_
  refine ARun.pure (PureOp.fieldPtr rfl (.tmp rfl) vz_fi_44_0_0) rfl rfl (Nat.le_of_ble_eq_true rfl) ?_
  refine ARun.pure (PureOp.loadPtr rfl (.tmp rfl) vz_pl_9 rfl rfl (Nat.le_of_ble_eq_true rfl) (Nat.le_of_ble_eq_true rfl)) rfl rfl (Nat.le_of_ble_eq_true rfl) ?_
  refine ARun.pure (PureOp.lenStr rfl (.tmp rfl) vz_st_9) rfl rfl (Nat.le_of_ble_eq_true rfl) ?_
  refine ARun.pure (PureOp.sub (c := left - (x.name.size : Int)) rfl (.tmp rfl) (.tmp rfl) (wrap_id (by omega) (by omega))) rfl rfl (Nat.le_of_ble_eq_true rfl) ?_
  refine ARun.pure (PureOp.assign rfl (.tmp rfl)) rfl rfl (Nat.le_of_ble_eq_true rfl) ?_
  refine ARun.nil ?_
  refine AW.seq ?_
  refine AW.seq ?_
  refine AW.region ?_
  refine ARun.pure (PureOp.move rfl (.tmp rfl)) rfl rfl (Nat.le_of_ble_eq_true rfl) ?_
  refine ARun.pure (PureOp.intOp rfl (.tmp rfl) .int rfl) rfl rfl (Nat.le_of_ble_eq_true rfl) ?_
  refine ARun.nil ?_
  refine AW.cond (.tmp rfl) (fun hb1 => ?_) (fun hb1 => ?_)
  · have _u := True.intro
    replace hb1 := of_decide_eq_true hb1
    refine AW.seq ?_
    refine AW.region ?_
    refine ARun.pure (PureOp.assign rfl .int) rfl rfl (Nat.le_of_ble_eq_true rfl) ?_
    refine ARun.nil ?_
    refine AW.ret (show ResL _ _ [.tmp 4] _ from resI rfl ?_)
    unfold wtSay
    unfold szR at *; (repeat' split at *) <;> first | omega | (split <;> omega)
  · have _u := True.intro
    replace hb1 := of_decide_eq_false hb1
    refine AW.skip ?_
    refine AW.seq ?_
    refine AW.region ?_
    refine ARun.pure (PureOp.move rfl (.tmp rfl)) rfl rfl (Nat.le_of_ble_eq_true rfl) ?_
    refine ARun.pure (PureOp.assign rfl (.tmp rfl)) rfl rfl (Nat.le_of_ble_eq_true rfl) ?_
    refine ARun.nil ?_
    refine AW.ret (show ResL _ _ [.tmp 4] _ from resI rfl ?_)
    unfold wtSay
    unfold szR at *; (repeat' split at *) <;> first | omega | (split <;> omega)
end Go.Proofs.Ytmfkmifkkplidaa
