/-
  The laws' own budgets (sz) over the data of this seat.
-/
import Derived.Test.YtlbnodmebehpiaaTy
namespace Go.Proofs.Ytlbnodmebehpiaa
open Go.ChangeShapes Go.WideShapes Go.ChangeAt Go.RowKit Go.BigFrame Go.Deep
set_option linter.unusedVariables false
set_option linter.unusedSimpArgs false
theorem vz_ag_138_5 : aggB Try.prog 138 5 = true := by kernel_rfl
theorem vz_ag_153_3 : aggB Try.prog 153 3 = true := by kernel_rfl
theorem vz_ag_155_4 : aggB Try.prog 155 4 = true := by kernel_rfl
theorem vz_ca_107 : callB Try.prog 107 = true := by kernel_rfl
theorem vz_ca_108 : callB Try.prog 108 = true := by kernel_rfl
theorem vz_ca_109 : callB Try.prog 109 = true := by kernel_rfl
theorem vz_ca_121 : callB Try.prog 121 = true := by kernel_rfl
theorem vz_ca_133 : callB Try.prog 133 = true := by kernel_rfl
theorem vz_ca_139 : callB Try.prog 139 = true := by kernel_rfl
theorem vz_ca_140 : callB Try.prog 140 = true := by kernel_rfl
theorem vz_ca_141 : callB Try.prog 141 = true := by kernel_rfl
theorem vz_ca_73 : callB Try.prog 73 = true := by kernel_rfl
theorem vz_ca_74 : callB Try.prog 74 = true := by kernel_rfl
theorem vz_ca_75 : callB Try.prog 75 = true := by kernel_rfl
theorem vz_ca_88 : callB Try.prog 88 = true := by kernel_rfl
theorem vz_ca_89 : callB Try.prog 89 = true := by kernel_rfl
theorem vz_el_25_1 : elemB Try.prog 25 1 = true := by kernel_rfl
theorem vz_el_36_5 : elemB Try.prog 36 5 = true := by kernel_rfl
theorem vz_el_47_1 : elemB Try.prog 47 1 = true := by kernel_rfl
theorem vz_el_62_1 : elemB Try.prog 62 1 = true := by kernel_rfl
theorem vz_el_72_4 : elemB Try.prog 72 4 = true := by kernel_rfl
theorem vz_el_73_3 : elemB Try.prog 73 3 = true := by kernel_rfl
theorem vz_el_80_1 : elemB Try.prog 80 1 = true := by kernel_rfl
theorem vz_fi_138_3_3 : fieldB Try.prog 138 3 3 = true := by kernel_rfl
theorem vz_fi_153_2_2 : fieldB Try.prog 153 2 2 = true := by kernel_rfl
theorem vz_fi_155_1_1 : fieldB Try.prog 155 1 1 = true := by kernel_rfl
theorem vz_fi_39_0_0 : fieldB Try.prog 39 0 0 = true := by kernel_rfl
theorem vz_fi_39_1_1 : fieldB Try.prog 39 1 1 = true := by kernel_rfl
theorem vz_fi_39_2_2 : fieldB Try.prog 39 2 2 = true := by kernel_rfl
theorem vz_fi_54_0_0 : fieldB Try.prog 54 0 0 = true := by kernel_rfl
theorem vz_fi_54_1_1 : fieldB Try.prog 54 1 1 = true := by kernel_rfl
theorem vz_fi_54_2_2 : fieldB Try.prog 54 2 2 = true := by kernel_rfl
theorem vz_fi_54_3_3 : fieldB Try.prog 54 3 3 = true := by kernel_rfl
theorem vz_fi_54_4_4 : fieldB Try.prog 54 4 4 = true := by kernel_rfl
theorem vz_fi_75_0_0 : fieldB Try.prog 75 0 0 = true := by kernel_rfl
theorem vz_fi_75_1_1 : fieldB Try.prog 75 1 1 = true := by kernel_rfl
theorem vz_fi_75_2_2 : fieldB Try.prog 75 2 2 = true := by kernel_rfl
theorem vz_fi_75_3_3 : fieldB Try.prog 75 3 3 = true := by kernel_rfl
theorem vz_fi_75_4_4 : fieldB Try.prog 75 4 4 = true := by kernel_rfl
theorem vz_pl_107 : plainB Try.prog 107 = true := by kernel_rfl
theorem vz_pl_22 : plainB Try.prog 22 = true := by kernel_rfl
theorem vz_pl_25 : plainB Try.prog 25 = true := by kernel_rfl
theorem vz_pl_36 : plainB Try.prog 36 = true := by kernel_rfl
theorem vz_pl_37 : plainB Try.prog 37 = true := by kernel_rfl
theorem vz_pl_47 : plainB Try.prog 47 = true := by kernel_rfl
theorem vz_pl_62 : plainB Try.prog 62 = true := by kernel_rfl
theorem vz_pl_72 : plainB Try.prog 72 = true := by kernel_rfl
theorem vz_pl_73 : plainB Try.prog 73 = true := by kernel_rfl
theorem vz_pl_80 : plainB Try.prog 80 = true := by kernel_rfl
theorem vz_pl_9 : plainB Try.prog 9 = true := by kernel_rfl
theorem vz_sl_107 : sliceB Try.prog 107 = true := by kernel_rfl
theorem vz_sl_22 : sliceB Try.prog 22 = true := by kernel_rfl
theorem vz_sl_25 : sliceB Try.prog 25 = true := by kernel_rfl
theorem vz_sl_36 : sliceB Try.prog 36 = true := by kernel_rfl
theorem vz_sl_37 : sliceB Try.prog 37 = true := by kernel_rfl
theorem vz_sl_47 : sliceB Try.prog 47 = true := by kernel_rfl
theorem vz_sl_62 : sliceB Try.prog 62 = true := by kernel_rfl
theorem vz_sl_72 : sliceB Try.prog 72 = true := by kernel_rfl
theorem vz_sl_73 : sliceB Try.prog 73 = true := by kernel_rfl
theorem vz_sl_80 : sliceB Try.prog 80 = true := by kernel_rfl
theorem vz_st_9 : stringB Try.prog 9 = true := by kernel_rfl
theorem v_szIntS (x : List Int) (left : Int) (hl : 0 ≤ left ∧ left ≤ 1048576) : Fn Try.prog 88 [.one (.lst 1 x.length (fun i0 _ => .int .i64 (x.getD i0 0))), .one (.int .i64 left)] (.one (.int .i64 (szR left (x.length)))) := by
  obtain ⟨h0, h1⟩ := hl
  refine Fn.of_body (fn := Try.f88) Try.func88 rfl (Nat.le_of_ble_eq_true rfl) trivial ?_
  intro w0
  show AW _ 12 _ _ _ _
  refine AW.bound (t := 0) rfl fun hx => ?_
  refine AW.seq ?_
  refine AW.region ?_
  refine ARun.pure (PureOp.assign rfl .int) rfl rfl (Nat.le_of_ble_eq_true rfl) ?_
  refine ARun.nil ?_
  refine AW.seq ?_
  refine AW.region ?_
  refine ARun.pure (PureOp.move rfl (.tmp rfl)) rfl rfl (Nat.le_of_ble_eq_true rfl) ?_
  refine ARun.pure (PureOp.move rfl (.tmp rfl)) rfl rfl (Nat.le_of_ble_eq_true rfl) ?_
  refine ARun.pure (PureOp.lenLst rfl (.tmp rfl) vz_sl_22) rfl rfl (Nat.le_of_ble_eq_true rfl) ?_
  refine ARun.pure (PureOp.sub (c := left - (x.length : Int)) rfl (.tmp rfl) (.tmp rfl) (wrap_id (by omega) (by omega))) rfl rfl (Nat.le_of_ble_eq_true rfl) ?_
  refine ARun.pure (PureOp.assign rfl (.tmp rfl)) rfl rfl (Nat.le_of_ble_eq_true rfl) ?_
  refine ARun.nil ?_
  refine AW.seq ?_
  refine AW.seq ?_
  refine AW.region ?_
  refine ARun.pure (PureOp.move rfl (.tmp rfl)) rfl rfl (Nat.le_of_ble_eq_true rfl) ?_
  refine ARun.pure (PureOp.intOp rfl (.tmp rfl) .int rfl) rfl rfl (Nat.le_of_ble_eq_true rfl) ?_
  refine ARun.nil ?_
  refine AW.cond (.tmp rfl) (fun hb1 => ?_) (fun hb1 => ?_)
  · have _u := True.intro
    replace hb1 := of_decide_eq_true hb1
    refine AW.seq ?_
    refine AW.region ?_
    refine ARun.pure (PureOp.assign rfl .int) rfl rfl (Nat.le_of_ble_eq_true rfl) ?_
    refine ARun.nil ?_
    refine AW.ret (show ResL _ _ [.tmp 4] _ from resI rfl ?_)
    first | exact szF_big (by omega) | exact szF_ok (by omega)
  · have _u := True.intro
    replace hb1 := of_decide_eq_false hb1
    refine AW.skip ?_
    refine AW.seq ?_
    refine AW.region ?_
    refine ARun.pure (PureOp.move rfl (.tmp rfl)) rfl rfl (Nat.le_of_ble_eq_true rfl) ?_
    refine ARun.pure (PureOp.assign rfl (.tmp rfl)) rfl rfl (Nat.le_of_ble_eq_true rfl) ?_
    refine ARun.nil ?_
    refine AW.ret (show ResL _ _ [.tmp 4] _ from resI rfl ?_)
    first | exact szF_big (by omega) | exact szF_ok (by omega)

theorem v_szIntSS (x : List (List Int)) (left : Int) (hl : 0 ≤ left ∧ left ≤ 1048576) : Fn Try.prog 75 [.one (.lst 1 x.length (fun i0 _ => .lst 1 ((x.getD i0 []).length) (fun i1 _ => .int .i64 ((x.getD i0 []).getD i1 0)))), .one (.int .i64 left)] (.one (.int .i64 (szR left (wtl (@List.length Int) x)))) := by
  obtain ⟨h0, h1⟩ := hl
  refine Fn.of_body (fn := Try.f75) Try.func75 rfl (Nat.le_of_ble_eq_true rfl) trivial ?_
  intro w0
  show AW _ 27 _ _ _ _
  refine AW.bound (t := 0) rfl fun hx => ?_
  refine AW.seq ?_
  refine AW.region ?_
  refine ARun.pure (PureOp.assign rfl .int) rfl rfl (Nat.le_of_ble_eq_true rfl) ?_
  refine ARun.nil ?_
  refine AW.seq ?_
  refine AW.region ?_
  refine ARun.pure (PureOp.move rfl (.tmp rfl)) rfl rfl (Nat.le_of_ble_eq_true rfl) ?_
  refine ARun.pure (PureOp.move rfl (.tmp rfl)) rfl rfl (Nat.le_of_ble_eq_true rfl) ?_
  refine ARun.pure (PureOp.lenLst rfl (.tmp rfl) vz_sl_25) rfl rfl (Nat.le_of_ble_eq_true rfl) ?_
  refine ARun.pure (PureOp.sub (c := left - (x.length : Int)) rfl (.tmp rfl) (.tmp rfl) (wrap_id (by omega) (by omega))) rfl rfl (Nat.le_of_ble_eq_true rfl) ?_
  refine ARun.pure (PureOp.assign rfl (.tmp rfl)) rfl rfl (Nat.le_of_ble_eq_true rfl) ?_
  refine ARun.nil ?_
  refine AW.seq ?_
  refine AW.seq ?_
  refine AW.region ?_
  refine ARun.pure (PureOp.move rfl (.tmp rfl)) rfl rfl (Nat.le_of_ble_eq_true rfl) ?_
  refine ARun.pure (PureOp.intOp rfl (.tmp rfl) .int rfl) rfl rfl (Nat.le_of_ble_eq_true rfl) ?_
  refine ARun.nil ?_
  refine AW.cond (.tmp rfl) (fun hb1 => ?_) (fun hb1 => ?_)
  · have _u := True.intro
    replace hb1 := of_decide_eq_true hb1
    refine AW.seq ?_
    refine AW.region ?_
    refine ARun.pure (PureOp.assign rfl .int) rfl rfl (Nat.le_of_ble_eq_true rfl) ?_
    refine ARun.nil ?_
    refine AW.ret (show ResL _ _ [.tmp 4] _ from resI rfl ?_)
    first | exact hfin | exact szL_end hlt hq | exact szL_big (by omega)
  · have _u := True.intro
    replace hb1 := of_decide_eq_false hb1
    refine AW.skip ?_
    refine AW.seq ?_
    refine AW.seq ?_
    refine AW.region ?_
    refine ARun.pure (PureOp.assign rfl .int) rfl rfl (Nat.le_of_ble_eq_true rfl) ?_
    refine ARun.nil ?_
    refine AW.block ?_
    refine AW.loop (ι := Nat) (fun k => ⟨[(0, .one (.lst 1 x.length (fun i0 _ => .lst 1 ((x.getD i0 []).length) (fun i1 _ => .int .i64 ((x.getD i0 []).getD i1 0))))), (1, .one (.int .i64 (left - (x.length : Int) - ((((x.take k).map (@List.length Int)).sum : Nat) : Int)))), (5, .one (.int .i64 (k : Int)))], []⟩) (fun k => k ≤ x.length ∧ 0 ≤ left - (x.length : Int) - ((((x.take k).map (@List.length Int)).sum : Nat) : Int)) (fun k => x.length - k) 0 ⟨Nat.zero_le _, by simp; omega⟩ ⟨⟨⟨_, rfl, rfl⟩, ⟨_, rfl, by simp⟩, ⟨_, rfl, rfl⟩, trivial⟩, trivial⟩ ?_
    intro k hI
    obtain ⟨hk, hq⟩ := hI
    refine AW.seq ?_
    refine AW.seq ?_
    refine AW.region ?_
    refine ARun.pure (PureOp.move rfl (.tmp rfl)) rfl rfl (Nat.le_of_ble_eq_true rfl) ?_
    refine ARun.pure (PureOp.move rfl (.tmp rfl)) rfl rfl (Nat.le_of_ble_eq_true rfl) ?_
    refine ARun.pure (PureOp.lenLst rfl (.tmp rfl) vz_sl_25) rfl rfl (Nat.le_of_ble_eq_true rfl) ?_
    refine ARun.pure (PureOp.intOp rfl (.tmp rfl) (.tmp rfl) rfl) rfl rfl (Nat.le_of_ble_eq_true rfl) ?_
    refine ARun.nil ?_
    refine AW.cond (.tmp rfl) (fun hb2 => ?_) (fun hb2 => ?_)
    · have _u := True.intro
      replace hb2 := of_decide_eq_true hb2
      have hlt : k < x.length := by omega
      refine AW.skip ?_
      refine AW.seq ?_
      refine AW.block ?_
      refine AW.seq ?_
      refine AW.region ?_
      refine ARun.pure (PureOp.move rfl (.tmp rfl)) rfl rfl (Nat.le_of_ble_eq_true rfl) ?_
      refine ARun.pure (PureOp.move rfl (.tmp rfl)) rfl rfl (Nat.le_of_ble_eq_true rfl) ?_
      refine ARun.pure (PureOp.indexLst (i := k) rfl (.tmp rfl) vz_el_25_1 (.tmp rfl) rfl (by omega)) rfl rfl (Nat.le_of_ble_eq_true rfl) ?_
      refine ARun.pure (PureOp.loadRef rfl (.tmp rfl) vz_pl_22 (Nat.le_of_ble_eq_true rfl)) rfl rfl (Nat.le_of_ble_eq_true rfl) ?_
      refine ARun.pure (PureOp.move rfl (.tmp rfl)) rfl rfl (Nat.le_of_ble_eq_true rfl) ?_
      refine ARun.pure (PureOp.call rfl (v_szIntS (x.getD k []) (left - (x.length : Int) - ((((x.take k).map (@List.length Int)).sum : Nat) : Int)) (by first | omega | (unfold szR at *; split at * <;> omega))) ⟨⟨_, (.tmp rfl), .lst⟩, ⟨_, (.tmp rfl), .int⟩, trivial⟩ vz_ca_88 trivial) rfl rfl (Nat.le_of_ble_eq_true rfl) ?_
      refine ARun.pure (PureOp.assign rfl (.tmp rfl)) rfl rfl (Nat.le_of_ble_eq_true rfl) ?_
      refine ARun.nil ?_
      refine AW.seq ?_
      refine AW.region ?_
      refine ARun.pure (PureOp.move rfl (.tmp rfl)) rfl rfl (Nat.le_of_ble_eq_true rfl) ?_
      refine ARun.pure (PureOp.intOp rfl (.tmp rfl) .int rfl) rfl rfl (Nat.le_of_ble_eq_true rfl) ?_
      refine ARun.nil ?_
      refine AW.cond (.tmp rfl) (fun hb3 => ?_) (fun hb3 => ?_)
      · have _u := True.intro
        replace hb3 := of_decide_eq_true hb3
        have hfin := szL_neg (f := (@List.length Int)) (d := ([] : List Int)) hlt hq hb3
        refine AW.seq ?_
        refine AW.region ?_
        refine ARun.pure (PureOp.assign rfl .int) rfl rfl (Nat.le_of_ble_eq_true rfl) ?_
        refine ARun.nil ?_
        refine AW.ret (show ResL _ _ [.tmp 4] _ from resI rfl ?_)
        first | exact hfin | exact szL_end hlt hq | exact szL_big (by omega)
      · have _u := True.intro
        replace hb3 := of_decide_eq_false hb3
        obtain ⟨hs1, hs2⟩ := szL_next (f := (@List.length Int)) (d := ([] : List Int)) hlt hq hb3
        refine AW.skip ?_
        refine AW.region ?_
        refine ARun.pure (PureOp.move rfl (.tmp rfl)) rfl rfl (Nat.le_of_ble_eq_true rfl) ?_
        refine ARun.pure (PureOp.add (c := ((k + 1 : Nat) : Int)) rfl (.tmp rfl) .int (by rw [wrap_id (by omega) (by omega)]; omega)) rfl rfl (Nat.le_of_ble_eq_true rfl) ?_
        refine ARun.pure (PureOp.assign rfl (.tmp rfl)) rfl rfl (Nat.le_of_ble_eq_true rfl) ?_
        refine ARun.nil ?_
        exact ⟨k + 1, ⟨by omega, hs1⟩, by dsimp only; omega, ⟨⟨⟨_, rfl, rfl⟩, ⟨_, rfl, congrArg (fun z => SV.one (.int .i64 z)) hs2⟩, ⟨_, rfl, rfl⟩, trivial⟩, trivial⟩⟩
    · have _u := True.intro
      replace hb2 := of_decide_eq_false hb2
      have hlt : ¬ k < x.length := by omega
      refine AW.exit ?_
      refine AW.seq ?_
      refine AW.region ?_
      refine ARun.pure (PureOp.move rfl (.tmp rfl)) rfl rfl (Nat.le_of_ble_eq_true rfl) ?_
      refine ARun.pure (PureOp.assign rfl (.tmp rfl)) rfl rfl (Nat.le_of_ble_eq_true rfl) ?_
      refine ARun.nil ?_
      refine AW.ret (show ResL _ _ [.tmp 4] _ from resI rfl ?_)
      first | exact hfin | exact szL_end hlt hq | exact szL_big (by omega)

theorem v_szBoolS (x : List Bool) (left : Int) (hl : 0 ≤ left ∧ left ≤ 1048576) : Fn Try.prog 133 [.one (.lst 1 x.length (fun i0 _ => .bool (x.getD i0 false))), .one (.int .i64 left)] (.one (.int .i64 (szR left (x.length)))) := by
  obtain ⟨h0, h1⟩ := hl
  refine Fn.of_body (fn := Try.f133) Try.func133 rfl (Nat.le_of_ble_eq_true rfl) trivial ?_
  intro w0
  show AW _ 12 _ _ _ _
  refine AW.bound (t := 0) rfl fun hx => ?_
  refine AW.seq ?_
  refine AW.region ?_
  refine ARun.pure (PureOp.assign rfl .int) rfl rfl (Nat.le_of_ble_eq_true rfl) ?_
  refine ARun.nil ?_
  refine AW.seq ?_
  refine AW.region ?_
  refine ARun.pure (PureOp.move rfl (.tmp rfl)) rfl rfl (Nat.le_of_ble_eq_true rfl) ?_
  refine ARun.pure (PureOp.move rfl (.tmp rfl)) rfl rfl (Nat.le_of_ble_eq_true rfl) ?_
  refine ARun.pure (PureOp.lenLst rfl (.tmp rfl) vz_sl_107) rfl rfl (Nat.le_of_ble_eq_true rfl) ?_
  refine ARun.pure (PureOp.sub (c := left - (x.length : Int)) rfl (.tmp rfl) (.tmp rfl) (wrap_id (by omega) (by omega))) rfl rfl (Nat.le_of_ble_eq_true rfl) ?_
  refine ARun.pure (PureOp.assign rfl (.tmp rfl)) rfl rfl (Nat.le_of_ble_eq_true rfl) ?_
  refine ARun.nil ?_
  refine AW.seq ?_
  refine AW.seq ?_
  refine AW.region ?_
  refine ARun.pure (PureOp.move rfl (.tmp rfl)) rfl rfl (Nat.le_of_ble_eq_true rfl) ?_
  refine ARun.pure (PureOp.intOp rfl (.tmp rfl) .int rfl) rfl rfl (Nat.le_of_ble_eq_true rfl) ?_
  refine ARun.nil ?_
  refine AW.cond (.tmp rfl) (fun hb1 => ?_) (fun hb1 => ?_)
  · have _u := True.intro
    replace hb1 := of_decide_eq_true hb1
    refine AW.seq ?_
    refine AW.region ?_
    refine ARun.pure (PureOp.assign rfl .int) rfl rfl (Nat.le_of_ble_eq_true rfl) ?_
    refine ARun.nil ?_
    refine AW.ret (show ResL _ _ [.tmp 4] _ from resI rfl ?_)
    first | exact szF_big (by omega) | exact szF_ok (by omega)
  · have _u := True.intro
    replace hb1 := of_decide_eq_false hb1
    refine AW.skip ?_
    refine AW.seq ?_
    refine AW.region ?_
    refine ARun.pure (PureOp.move rfl (.tmp rfl)) rfl rfl (Nat.le_of_ble_eq_true rfl) ?_
    refine ARun.pure (PureOp.assign rfl (.tmp rfl)) rfl rfl (Nat.le_of_ble_eq_true rfl) ?_
    refine ARun.nil ?_
    refine AW.ret (show ResL _ _ [.tmp 4] _ from resI rfl ?_)
    first | exact szF_big (by omega) | exact szF_ok (by omega)

theorem v_szBoolSS (x : List (List Bool)) (left : Int) (hl : 0 ≤ left ∧ left ≤ 1048576) : Fn Try.prog 89 [.one (.lst 1 x.length (fun i0 _ => .lst 1 ((x.getD i0 []).length) (fun i1 _ => .bool ((x.getD i0 []).getD i1 false)))), .one (.int .i64 left)] (.one (.int .i64 (szR left (wtl (@List.length Bool) x)))) := by
  obtain ⟨h0, h1⟩ := hl
  refine Fn.of_body (fn := Try.f89) Try.func89 rfl (Nat.le_of_ble_eq_true rfl) trivial ?_
  intro w0
  show AW _ 27 _ _ _ _
  refine AW.bound (t := 0) rfl fun hx => ?_
  refine AW.seq ?_
  refine AW.region ?_
  refine ARun.pure (PureOp.assign rfl .int) rfl rfl (Nat.le_of_ble_eq_true rfl) ?_
  refine ARun.nil ?_
  refine AW.seq ?_
  refine AW.region ?_
  refine ARun.pure (PureOp.move rfl (.tmp rfl)) rfl rfl (Nat.le_of_ble_eq_true rfl) ?_
  refine ARun.pure (PureOp.move rfl (.tmp rfl)) rfl rfl (Nat.le_of_ble_eq_true rfl) ?_
  refine ARun.pure (PureOp.lenLst rfl (.tmp rfl) vz_sl_47) rfl rfl (Nat.le_of_ble_eq_true rfl) ?_
  refine ARun.pure (PureOp.sub (c := left - (x.length : Int)) rfl (.tmp rfl) (.tmp rfl) (wrap_id (by omega) (by omega))) rfl rfl (Nat.le_of_ble_eq_true rfl) ?_
  refine ARun.pure (PureOp.assign rfl (.tmp rfl)) rfl rfl (Nat.le_of_ble_eq_true rfl) ?_
  refine ARun.nil ?_
  refine AW.seq ?_
  refine AW.seq ?_
  refine AW.region ?_
  refine ARun.pure (PureOp.move rfl (.tmp rfl)) rfl rfl (Nat.le_of_ble_eq_true rfl) ?_
  refine ARun.pure (PureOp.intOp rfl (.tmp rfl) .int rfl) rfl rfl (Nat.le_of_ble_eq_true rfl) ?_
  refine ARun.nil ?_
  refine AW.cond (.tmp rfl) (fun hb1 => ?_) (fun hb1 => ?_)
  · have _u := True.intro
    replace hb1 := of_decide_eq_true hb1
    refine AW.seq ?_
    refine AW.region ?_
    refine ARun.pure (PureOp.assign rfl .int) rfl rfl (Nat.le_of_ble_eq_true rfl) ?_
    refine ARun.nil ?_
    refine AW.ret (show ResL _ _ [.tmp 4] _ from resI rfl ?_)
    first | exact hfin | exact szL_end hlt hq | exact szL_big (by omega)
  · have _u := True.intro
    replace hb1 := of_decide_eq_false hb1
    refine AW.skip ?_
    refine AW.seq ?_
    refine AW.seq ?_
    refine AW.region ?_
    refine ARun.pure (PureOp.assign rfl .int) rfl rfl (Nat.le_of_ble_eq_true rfl) ?_
    refine ARun.nil ?_
    refine AW.block ?_
    refine AW.loop (ι := Nat) (fun k => ⟨[(0, .one (.lst 1 x.length (fun i0 _ => .lst 1 ((x.getD i0 []).length) (fun i1 _ => .bool ((x.getD i0 []).getD i1 false))))), (1, .one (.int .i64 (left - (x.length : Int) - ((((x.take k).map (@List.length Bool)).sum : Nat) : Int)))), (5, .one (.int .i64 (k : Int)))], []⟩) (fun k => k ≤ x.length ∧ 0 ≤ left - (x.length : Int) - ((((x.take k).map (@List.length Bool)).sum : Nat) : Int)) (fun k => x.length - k) 0 ⟨Nat.zero_le _, by simp; omega⟩ ⟨⟨⟨_, rfl, rfl⟩, ⟨_, rfl, by simp⟩, ⟨_, rfl, rfl⟩, trivial⟩, trivial⟩ ?_
    intro k hI
    obtain ⟨hk, hq⟩ := hI
    refine AW.seq ?_
    refine AW.seq ?_
    refine AW.region ?_
    refine ARun.pure (PureOp.move rfl (.tmp rfl)) rfl rfl (Nat.le_of_ble_eq_true rfl) ?_
    refine ARun.pure (PureOp.move rfl (.tmp rfl)) rfl rfl (Nat.le_of_ble_eq_true rfl) ?_
    refine ARun.pure (PureOp.lenLst rfl (.tmp rfl) vz_sl_47) rfl rfl (Nat.le_of_ble_eq_true rfl) ?_
    refine ARun.pure (PureOp.intOp rfl (.tmp rfl) (.tmp rfl) rfl) rfl rfl (Nat.le_of_ble_eq_true rfl) ?_
    refine ARun.nil ?_
    refine AW.cond (.tmp rfl) (fun hb2 => ?_) (fun hb2 => ?_)
    · have _u := True.intro
      replace hb2 := of_decide_eq_true hb2
      have hlt : k < x.length := by omega
      refine AW.skip ?_
      refine AW.seq ?_
      refine AW.block ?_
      refine AW.seq ?_
      refine AW.region ?_
      refine ARun.pure (PureOp.move rfl (.tmp rfl)) rfl rfl (Nat.le_of_ble_eq_true rfl) ?_
      refine ARun.pure (PureOp.move rfl (.tmp rfl)) rfl rfl (Nat.le_of_ble_eq_true rfl) ?_
      refine ARun.pure (PureOp.indexLst (i := k) rfl (.tmp rfl) vz_el_47_1 (.tmp rfl) rfl (by omega)) rfl rfl (Nat.le_of_ble_eq_true rfl) ?_
      refine ARun.pure (PureOp.loadRef rfl (.tmp rfl) vz_pl_107 (Nat.le_of_ble_eq_true rfl)) rfl rfl (Nat.le_of_ble_eq_true rfl) ?_
      refine ARun.pure (PureOp.move rfl (.tmp rfl)) rfl rfl (Nat.le_of_ble_eq_true rfl) ?_
      refine ARun.pure (PureOp.call rfl (v_szBoolS (x.getD k []) (left - (x.length : Int) - ((((x.take k).map (@List.length Bool)).sum : Nat) : Int)) (by first | omega | (unfold szR at *; split at * <;> omega))) ⟨⟨_, (.tmp rfl), .lst⟩, ⟨_, (.tmp rfl), .int⟩, trivial⟩ vz_ca_133 trivial) rfl rfl (Nat.le_of_ble_eq_true rfl) ?_
      refine ARun.pure (PureOp.assign rfl (.tmp rfl)) rfl rfl (Nat.le_of_ble_eq_true rfl) ?_
      refine ARun.nil ?_
      refine AW.seq ?_
      refine AW.region ?_
      refine ARun.pure (PureOp.move rfl (.tmp rfl)) rfl rfl (Nat.le_of_ble_eq_true rfl) ?_
      refine ARun.pure (PureOp.intOp rfl (.tmp rfl) .int rfl) rfl rfl (Nat.le_of_ble_eq_true rfl) ?_
      refine ARun.nil ?_
      refine AW.cond (.tmp rfl) (fun hb3 => ?_) (fun hb3 => ?_)
      · have _u := True.intro
        replace hb3 := of_decide_eq_true hb3
        have hfin := szL_neg (f := (@List.length Bool)) (d := ([] : List Bool)) hlt hq hb3
        refine AW.seq ?_
        refine AW.region ?_
        refine ARun.pure (PureOp.assign rfl .int) rfl rfl (Nat.le_of_ble_eq_true rfl) ?_
        refine ARun.nil ?_
        refine AW.ret (show ResL _ _ [.tmp 4] _ from resI rfl ?_)
        first | exact hfin | exact szL_end hlt hq | exact szL_big (by omega)
      · have _u := True.intro
        replace hb3 := of_decide_eq_false hb3
        obtain ⟨hs1, hs2⟩ := szL_next (f := (@List.length Bool)) (d := ([] : List Bool)) hlt hq hb3
        refine AW.skip ?_
        refine AW.region ?_
        refine ARun.pure (PureOp.move rfl (.tmp rfl)) rfl rfl (Nat.le_of_ble_eq_true rfl) ?_
        refine ARun.pure (PureOp.add (c := ((k + 1 : Nat) : Int)) rfl (.tmp rfl) .int (by rw [wrap_id (by omega) (by omega)]; omega)) rfl rfl (Nat.le_of_ble_eq_true rfl) ?_
        refine ARun.pure (PureOp.assign rfl (.tmp rfl)) rfl rfl (Nat.le_of_ble_eq_true rfl) ?_
        refine ARun.nil ?_
        exact ⟨k + 1, ⟨by omega, hs1⟩, by dsimp only; omega, ⟨⟨⟨_, rfl, rfl⟩, ⟨_, rfl, congrArg (fun z => SV.one (.int .i64 z)) hs2⟩, ⟨_, rfl, rfl⟩, trivial⟩, trivial⟩⟩
    · have _u := True.intro
      replace hb2 := of_decide_eq_false hb2
      have hlt : ¬ k < x.length := by omega
      refine AW.exit ?_
      refine AW.seq ?_
      refine AW.region ?_
      refine ARun.pure (PureOp.move rfl (.tmp rfl)) rfl rfl (Nat.le_of_ble_eq_true rfl) ?_
      refine ARun.pure (PureOp.assign rfl (.tmp rfl)) rfl rfl (Nat.le_of_ble_eq_true rfl) ?_
      refine ARun.nil ?_
      refine AW.ret (show ResL _ _ [.tmp 4] _ from resI rfl ?_)
      first | exact hfin | exact szL_end hlt hq | exact szL_big (by omega)

theorem v_szBank (x : GBank) (left : Int) (hl : 0 ≤ left ∧ left ≤ 1048576) : Fn Try.prog 33 [.agg [.lst 1 x.cCoins.length (fun i0 _ => .int .i64 (x.cCoins.getD i0 0)), .lst 1 x.cWays.length (fun i0 _ => .lst 1 ((x.cWays.getD i0 []).length) (fun i1 _ => .int .i64 ((x.cWays.getD i0 []).getD i1 0))), .lst 1 x.cKept.length (fun i0 _ => .int .i64 (x.cKept.getD i0 0)), .lst 1 x.cHeard.length (fun i0 _ => .lst 1 ((x.cHeard.getD i0 []).length) (fun i1 _ => .bool ((x.cHeard.getD i0 []).getD i1 false))), .lst 1 x.cFound.length (fun i0 _ => .lst 1 ((x.cFound.getD i0 []).length) (fun i1 _ => .int .i64 ((x.cFound.getD i0 []).getD i1 0)))], .one (.int .i64 left)] (.one (.int .i64 (szR left (wtBank x)))) := by
  obtain ⟨h0, h1⟩ := hl
  refine Fn.of_body (fn := Try.f33) Try.func33 rfl (Nat.le_of_ble_eq_true rfl) trivial ?_
  intro w0
  show AW _ 36 _ _ _ _
  refine AW.seq ?_
  refine AW.region ?_
  refine ARun.box (id := 0) rfl (.tmp rfl) (SV.cells_of (by exact ⟨trivial, trivial, trivial, trivial, trivial, trivial⟩)) ⟨rfl, (by repeat first | exact trivial | refine ⟨by decide, by first | rfl | exact trivial | (intro i j; first | rfl | exact getD_no rfl | (dsimp only; split <;> first | rfl | exact getD_no rfl)), ?_⟩)⟩ rfl rfl rfl (Nat.le_of_ble_eq_true rfl) ?_
  refine ARun.pure (PureOp.assign rfl .int) rfl rfl (Nat.le_of_ble_eq_true rfl) ?_
  refine ARun.nil ?_
  refine AW.seq ?_
  refine AW.region ?_
  refine ARun.pure (PureOp.fieldPtr rfl (.tmp rfl) vz_fi_54_0_0) rfl rfl (Nat.le_of_ble_eq_true rfl) ?_
  refine ARun.pure (PureOp.loadPtr rfl (.tmp rfl) vz_pl_22 rfl rfl (Nat.le_of_ble_eq_true rfl) (Nat.le_of_ble_eq_true rfl)) rfl rfl (Nat.le_of_ble_eq_true rfl) ?_
  refine ARun.pure (PureOp.move rfl (.tmp rfl)) rfl rfl (Nat.le_of_ble_eq_true rfl) ?_
  refine ARun.pure (PureOp.call rfl (v_szIntS x.cCoins left (by first | omega | (unfold szR at *; split at * <;> omega))) ⟨⟨_, (.tmp rfl), .lst⟩, ⟨_, (.tmp rfl), .int⟩, trivial⟩ vz_ca_88 trivial) rfl rfl (Nat.le_of_ble_eq_true rfl) ?_
  refine ARun.pure (PureOp.assign rfl (.tmp rfl)) rfl rfl (Nat.le_of_ble_eq_true rfl) ?_
  refine ARun.nil ?_
  refine AW.seq ?_
  refine AW.seq ?_
  refine AW.region ?_
  refine ARun.pure (PureOp.move rfl (.tmp rfl)) rfl rfl (Nat.le_of_ble_eq_true rfl) ?_
  refine ARun.pure (PureOp.intOp rfl (.tmp rfl) .int rfl) rfl rfl (Nat.le_of_ble_eq_true rfl) ?_
  refine ARun.nil ?_
  refine AW.cond (.tmp rfl) (fun hb1 => ?_) (fun hb1 => ?_)
  · have _u := True.intro
    replace hb1 := of_decide_eq_true hb1
    refine AW.seq ?_
    refine AW.region ?_
    refine ARun.pure (PureOp.assign rfl .int) rfl rfl (Nat.le_of_ble_eq_true rfl) ?_
    refine ARun.nil ?_
    refine AW.ret (show ResL _ _ [.tmp 4] _ from resI rfl ?_)
    unfold wtBank
    exact (szR_neg (by omega) hb1 _).symm
  · have _u := True.intro
    replace hb1 := of_decide_eq_false hb1
    obtain ⟨hs2, hs2b, hs2c⟩ := szR_ok (by omega) hb1
    refine AW.skip ?_
    refine AW.seq ?_
    refine AW.region ?_
    refine ARun.pure (PureOp.fieldPtr rfl (.tmp rfl) vz_fi_54_1_1) rfl rfl (Nat.le_of_ble_eq_true rfl) ?_
    refine ARun.pure (PureOp.loadPtr rfl (.tmp rfl) vz_pl_25 rfl rfl (Nat.le_of_ble_eq_true rfl) (Nat.le_of_ble_eq_true rfl)) rfl rfl (Nat.le_of_ble_eq_true rfl) ?_
    refine ARun.pure (PureOp.move rfl (.tmp rfl)) rfl rfl (Nat.le_of_ble_eq_true rfl) ?_
    refine ARun.pure (PureOp.call rfl (v_szIntSS x.cWays (szR left (x.cCoins.length)) (by first | omega | (unfold szR at *; split at * <;> omega))) ⟨⟨_, (.tmp rfl), .lst⟩, ⟨_, (.tmp rfl), .int⟩, trivial⟩ vz_ca_75 trivial) rfl rfl (Nat.le_of_ble_eq_true rfl) ?_
    refine ARun.pure (PureOp.assign rfl (.tmp rfl)) rfl rfl (Nat.le_of_ble_eq_true rfl) ?_
    refine ARun.nil ?_
    refine AW.seq ?_
    refine AW.seq ?_
    refine AW.region ?_
    refine ARun.pure (PureOp.move rfl (.tmp rfl)) rfl rfl (Nat.le_of_ble_eq_true rfl) ?_
    refine ARun.pure (PureOp.intOp rfl (.tmp rfl) .int rfl) rfl rfl (Nat.le_of_ble_eq_true rfl) ?_
    refine ARun.nil ?_
    refine AW.cond (.tmp rfl) (fun hb3 => ?_) (fun hb3 => ?_)
    · have _u := True.intro
      replace hb3 := of_decide_eq_true hb3
      refine AW.seq ?_
      refine AW.region ?_
      refine ARun.pure (PureOp.assign rfl .int) rfl rfl (Nat.le_of_ble_eq_true rfl) ?_
      refine ARun.nil ?_
      refine AW.ret (show ResL _ _ [.tmp 4] _ from resI rfl ?_)
      unfold wtBank
      rw [← hs2c]
      exact (szR_neg (by omega) hb3 _).symm
    · have _u := True.intro
      replace hb3 := of_decide_eq_false hb3
      obtain ⟨hs4, hs4b, hs4c⟩ := szR_ok (by omega) hb3
      refine AW.skip ?_
      refine AW.seq ?_
      refine AW.region ?_
      refine ARun.pure (PureOp.fieldPtr rfl (.tmp rfl) vz_fi_54_2_2) rfl rfl (Nat.le_of_ble_eq_true rfl) ?_
      refine ARun.pure (PureOp.loadPtr rfl (.tmp rfl) vz_pl_22 rfl rfl (Nat.le_of_ble_eq_true rfl) (Nat.le_of_ble_eq_true rfl)) rfl rfl (Nat.le_of_ble_eq_true rfl) ?_
      refine ARun.pure (PureOp.move rfl (.tmp rfl)) rfl rfl (Nat.le_of_ble_eq_true rfl) ?_
      refine ARun.pure (PureOp.call rfl (v_szIntS x.cKept (szR (szR left (x.cCoins.length)) (wtl (@List.length Int) x.cWays)) (by first | omega | (unfold szR at *; split at * <;> omega))) ⟨⟨_, (.tmp rfl), .lst⟩, ⟨_, (.tmp rfl), .int⟩, trivial⟩ vz_ca_88 trivial) rfl rfl (Nat.le_of_ble_eq_true rfl) ?_
      refine ARun.pure (PureOp.assign rfl (.tmp rfl)) rfl rfl (Nat.le_of_ble_eq_true rfl) ?_
      refine ARun.nil ?_
      refine AW.seq ?_
      refine AW.seq ?_
      refine AW.region ?_
      refine ARun.pure (PureOp.move rfl (.tmp rfl)) rfl rfl (Nat.le_of_ble_eq_true rfl) ?_
      refine ARun.pure (PureOp.intOp rfl (.tmp rfl) .int rfl) rfl rfl (Nat.le_of_ble_eq_true rfl) ?_
      refine ARun.nil ?_
      refine AW.cond (.tmp rfl) (fun hb5 => ?_) (fun hb5 => ?_)
      · have _u := True.intro
        replace hb5 := of_decide_eq_true hb5
        refine AW.seq ?_
        refine AW.region ?_
        refine ARun.pure (PureOp.assign rfl .int) rfl rfl (Nat.le_of_ble_eq_true rfl) ?_
        refine ARun.nil ?_
        refine AW.ret (show ResL _ _ [.tmp 4] _ from resI rfl ?_)
        unfold wtBank
        rw [← hs2c, ← hs4c]
        exact (szR_neg (by omega) hb5 _).symm
      · have _u := True.intro
        replace hb5 := of_decide_eq_false hb5
        obtain ⟨hs6, hs6b, hs6c⟩ := szR_ok (by omega) hb5
        refine AW.skip ?_
        refine AW.seq ?_
        refine AW.region ?_
        refine ARun.pure (PureOp.fieldPtr rfl (.tmp rfl) vz_fi_54_3_3) rfl rfl (Nat.le_of_ble_eq_true rfl) ?_
        refine ARun.pure (PureOp.loadPtr rfl (.tmp rfl) vz_pl_47 rfl rfl (Nat.le_of_ble_eq_true rfl) (Nat.le_of_ble_eq_true rfl)) rfl rfl (Nat.le_of_ble_eq_true rfl) ?_
        refine ARun.pure (PureOp.move rfl (.tmp rfl)) rfl rfl (Nat.le_of_ble_eq_true rfl) ?_
        refine ARun.pure (PureOp.call rfl (v_szBoolSS x.cHeard (szR (szR (szR left (x.cCoins.length)) (wtl (@List.length Int) x.cWays)) (x.cKept.length)) (by first | omega | (unfold szR at *; split at * <;> omega))) ⟨⟨_, (.tmp rfl), .lst⟩, ⟨_, (.tmp rfl), .int⟩, trivial⟩ vz_ca_89 trivial) rfl rfl (Nat.le_of_ble_eq_true rfl) ?_
        refine ARun.pure (PureOp.assign rfl (.tmp rfl)) rfl rfl (Nat.le_of_ble_eq_true rfl) ?_
        refine ARun.nil ?_
        refine AW.seq ?_
        refine AW.seq ?_
        refine AW.region ?_
        refine ARun.pure (PureOp.move rfl (.tmp rfl)) rfl rfl (Nat.le_of_ble_eq_true rfl) ?_
        refine ARun.pure (PureOp.intOp rfl (.tmp rfl) .int rfl) rfl rfl (Nat.le_of_ble_eq_true rfl) ?_
        refine ARun.nil ?_
        refine AW.cond (.tmp rfl) (fun hb7 => ?_) (fun hb7 => ?_)
        · have _u := True.intro
          replace hb7 := of_decide_eq_true hb7
          refine AW.seq ?_
          refine AW.region ?_
          refine ARun.pure (PureOp.assign rfl .int) rfl rfl (Nat.le_of_ble_eq_true rfl) ?_
          refine ARun.nil ?_
          refine AW.ret (show ResL _ _ [.tmp 4] _ from resI rfl ?_)
          unfold wtBank
          rw [← hs2c, ← hs4c, ← hs6c]
          exact (szR_neg (by omega) hb7 _).symm
        · have _u := True.intro
          replace hb7 := of_decide_eq_false hb7
          obtain ⟨hs8, hs8b, hs8c⟩ := szR_ok (by omega) hb7
          refine AW.skip ?_
          refine AW.seq ?_
          refine AW.region ?_
          refine ARun.pure (PureOp.fieldPtr rfl (.tmp rfl) vz_fi_54_4_4) rfl rfl (Nat.le_of_ble_eq_true rfl) ?_
          refine ARun.pure (PureOp.loadPtr rfl (.tmp rfl) vz_pl_25 rfl rfl (Nat.le_of_ble_eq_true rfl) (Nat.le_of_ble_eq_true rfl)) rfl rfl (Nat.le_of_ble_eq_true rfl) ?_
          refine ARun.pure (PureOp.move rfl (.tmp rfl)) rfl rfl (Nat.le_of_ble_eq_true rfl) ?_
          refine ARun.pure (PureOp.call rfl (v_szIntSS x.cFound (szR (szR (szR (szR left (x.cCoins.length)) (wtl (@List.length Int) x.cWays)) (x.cKept.length)) (wtl (@List.length Bool) x.cHeard)) (by first | omega | (unfold szR at *; split at * <;> omega))) ⟨⟨_, (.tmp rfl), .lst⟩, ⟨_, (.tmp rfl), .int⟩, trivial⟩ vz_ca_75 trivial) rfl rfl (Nat.le_of_ble_eq_true rfl) ?_
          refine ARun.pure (PureOp.assign rfl (.tmp rfl)) rfl rfl (Nat.le_of_ble_eq_true rfl) ?_
          refine ARun.nil ?_
          refine AW.seq ?_
          refine AW.seq ?_
          refine AW.region ?_
          refine ARun.pure (PureOp.move rfl (.tmp rfl)) rfl rfl (Nat.le_of_ble_eq_true rfl) ?_
          refine ARun.pure (PureOp.intOp rfl (.tmp rfl) .int rfl) rfl rfl (Nat.le_of_ble_eq_true rfl) ?_
          refine ARun.nil ?_
          refine AW.cond (.tmp rfl) (fun hb9 => ?_) (fun hb9 => ?_)
          · have _u := True.intro
            replace hb9 := of_decide_eq_true hb9
            refine AW.seq ?_
            refine AW.region ?_
            refine ARun.pure (PureOp.assign rfl .int) rfl rfl (Nat.le_of_ble_eq_true rfl) ?_
            refine ARun.nil ?_
            refine AW.ret (show ResL _ _ [.tmp 4] _ from resI rfl ?_)
            unfold wtBank
            rw [← hs2c, ← hs4c, ← hs6c, ← hs8c]
            exact (szR_neg0 (by omega) hb9).symm
          · have _u := True.intro
            replace hb9 := of_decide_eq_false hb9
            obtain ⟨hs10, hs10b, hs10c⟩ := szR_ok (by omega) hb9
            refine AW.skip ?_
            refine AW.seq ?_
            refine AW.region ?_
            refine ARun.pure (PureOp.move rfl (.tmp rfl)) rfl rfl (Nat.le_of_ble_eq_true rfl) ?_
            refine ARun.pure (PureOp.assign rfl (.tmp rfl)) rfl rfl (Nat.le_of_ble_eq_true rfl) ?_
            refine ARun.nil ?_
            refine AW.ret (show ResL _ _ [.tmp 4] _ from resI rfl ?_)
            unfold wtBank
            rw [hs8c, hs6c, hs4c, hs2c]

theorem v_szStringS (x : List ByteArray) (left : Int) (hl : 0 ≤ left ∧ left ≤ 1048576) : Fn Try.prog 139 [.one (.lst 1 x.length (fun i0 _ => .str (x.getD i0 ByteArray.empty))), .one (.int .i64 left)] (.one (.int .i64 (szR left (wtl ByteArray.size x)))) := by
  obtain ⟨h0, h1⟩ := hl
  refine Fn.of_body (fn := Try.f139) Try.func139 rfl (Nat.le_of_ble_eq_true rfl) trivial ?_
  intro w0
  show AW _ 28 _ _ _ _
  refine AW.bound (t := 0) rfl fun hx => ?_
  refine AW.seq ?_
  refine AW.region ?_
  refine ARun.pure (PureOp.assign rfl .int) rfl rfl (Nat.le_of_ble_eq_true rfl) ?_
  refine ARun.nil ?_
  refine AW.seq ?_
  refine AW.region ?_
  refine ARun.pure (PureOp.move rfl (.tmp rfl)) rfl rfl (Nat.le_of_ble_eq_true rfl) ?_
  refine ARun.pure (PureOp.move rfl (.tmp rfl)) rfl rfl (Nat.le_of_ble_eq_true rfl) ?_
  refine ARun.pure (PureOp.lenLst rfl (.tmp rfl) vz_sl_80) rfl rfl (Nat.le_of_ble_eq_true rfl) ?_
  refine ARun.pure (PureOp.sub (c := left - (x.length : Int)) rfl (.tmp rfl) (.tmp rfl) (wrap_id (by omega) (by omega))) rfl rfl (Nat.le_of_ble_eq_true rfl) ?_
  refine ARun.pure (PureOp.assign rfl (.tmp rfl)) rfl rfl (Nat.le_of_ble_eq_true rfl) ?_
  refine ARun.nil ?_
  refine AW.seq ?_
  refine AW.seq ?_
  refine AW.region ?_
  refine ARun.pure (PureOp.move rfl (.tmp rfl)) rfl rfl (Nat.le_of_ble_eq_true rfl) ?_
  refine ARun.pure (PureOp.intOp rfl (.tmp rfl) .int rfl) rfl rfl (Nat.le_of_ble_eq_true rfl) ?_
  refine ARun.nil ?_
  refine AW.cond (.tmp rfl) (fun hb1 => ?_) (fun hb1 => ?_)
  · have _u := True.intro
    replace hb1 := of_decide_eq_true hb1
    refine AW.seq ?_
    refine AW.region ?_
    refine ARun.pure (PureOp.assign rfl .int) rfl rfl (Nat.le_of_ble_eq_true rfl) ?_
    refine ARun.nil ?_
    refine AW.ret (show ResL _ _ [.tmp 4] _ from resI rfl ?_)
    first | exact hfin | exact szL_end hlt hq | exact szL_big (by omega)
  · have _u := True.intro
    replace hb1 := of_decide_eq_false hb1
    refine AW.skip ?_
    refine AW.seq ?_
    refine AW.seq ?_
    refine AW.region ?_
    refine ARun.pure (PureOp.assign rfl .int) rfl rfl (Nat.le_of_ble_eq_true rfl) ?_
    refine ARun.nil ?_
    refine AW.block ?_
    refine AW.loop (ι := Nat) (fun k => ⟨[(0, .one (.lst 1 x.length (fun i0 _ => .str (x.getD i0 ByteArray.empty)))), (1, .one (.int .i64 (left - (x.length : Int) - ((((x.take k).map ByteArray.size).sum : Nat) : Int)))), (5, .one (.int .i64 (k : Int)))], []⟩) (fun k => k ≤ x.length ∧ 0 ≤ left - (x.length : Int) - ((((x.take k).map ByteArray.size).sum : Nat) : Int)) (fun k => x.length - k) 0 ⟨Nat.zero_le _, by simp; omega⟩ ⟨⟨⟨_, rfl, rfl⟩, ⟨_, rfl, by simp⟩, ⟨_, rfl, rfl⟩, trivial⟩, trivial⟩ ?_
    intro k hI
    obtain ⟨hk, hq⟩ := hI
    refine AW.seq ?_
    refine AW.seq ?_
    refine AW.region ?_
    refine ARun.pure (PureOp.move rfl (.tmp rfl)) rfl rfl (Nat.le_of_ble_eq_true rfl) ?_
    refine ARun.pure (PureOp.move rfl (.tmp rfl)) rfl rfl (Nat.le_of_ble_eq_true rfl) ?_
    refine ARun.pure (PureOp.lenLst rfl (.tmp rfl) vz_sl_80) rfl rfl (Nat.le_of_ble_eq_true rfl) ?_
    refine ARun.pure (PureOp.intOp rfl (.tmp rfl) (.tmp rfl) rfl) rfl rfl (Nat.le_of_ble_eq_true rfl) ?_
    refine ARun.nil ?_
    refine AW.cond (.tmp rfl) (fun hb2 => ?_) (fun hb2 => ?_)
    · have _u := True.intro
      replace hb2 := of_decide_eq_true hb2
      have hlt : k < x.length := by omega
      refine AW.boundE (t := 0) (j := 0) rfl hlt (Nat.le_of_ble_eq_true rfl) rfl fun hstrb => ?_
      refine AW.skip ?_
      refine AW.seq ?_
      refine AW.block ?_
      refine AW.seq ?_
      refine AW.region ?_
      refine ARun.pure (PureOp.move rfl (.tmp rfl)) rfl rfl (Nat.le_of_ble_eq_true rfl) ?_
      refine ARun.pure (PureOp.move rfl (.tmp rfl)) rfl rfl (Nat.le_of_ble_eq_true rfl) ?_
      refine ARun.pure (PureOp.move rfl (.tmp rfl)) rfl rfl (Nat.le_of_ble_eq_true rfl) ?_
      refine ARun.pure (PureOp.indexLst (i := k) rfl (.tmp rfl) vz_el_80_1 (.tmp rfl) rfl (by omega)) rfl rfl (Nat.le_of_ble_eq_true rfl) ?_
      refine ARun.pure (PureOp.loadRef rfl (.tmp rfl) vz_pl_9 (Nat.le_of_ble_eq_true rfl)) rfl rfl (Nat.le_of_ble_eq_true rfl) ?_
      refine ARun.pure (PureOp.lenStr rfl (.tmp rfl) vz_st_9) rfl rfl (Nat.le_of_ble_eq_true rfl) ?_
      refine ARun.pure (PureOp.sub (c := left - (x.length : Int) - ((((x.take k).map ByteArray.size).sum : Nat) : Int) - ((x.getD k ByteArray.empty).size : Int)) rfl (.tmp rfl) (.tmp rfl) (wrap_id (by omega) (by omega))) rfl rfl (Nat.le_of_ble_eq_true rfl) ?_
      refine ARun.pure (PureOp.assign rfl (.tmp rfl)) rfl rfl (Nat.le_of_ble_eq_true rfl) ?_
      refine ARun.nil ?_
      refine AW.seq ?_
      refine AW.region ?_
      refine ARun.pure (PureOp.move rfl (.tmp rfl)) rfl rfl (Nat.le_of_ble_eq_true rfl) ?_
      refine ARun.pure (PureOp.intOp rfl (.tmp rfl) .int rfl) rfl rfl (Nat.le_of_ble_eq_true rfl) ?_
      refine ARun.nil ?_
      refine AW.cond (.tmp rfl) (fun hb3 => ?_) (fun hb3 => ?_)
      · have _u := True.intro
        replace hb3 := of_decide_eq_true hb3
        have hstr : ∀ (p : Int) (n : Nat), 0 ≤ p → (p - (n : Int) < 0 → szR p n < 0) ∧ (¬ p - (n : Int) < 0 → ¬ szR p n < 0 ∧ szR p n = p - n) := fun p n hp => ⟨fun h => by unfold szR; rw [if_neg (by omega)]; omega, fun h => by unfold szR; rw [if_pos (by omega)]; exact ⟨by omega, rfl⟩⟩
        have hfin := szL_neg (f := ByteArray.size) (d := (ByteArray.empty : ByteArray)) hlt hq ((hstr _ _ hq).1 hb3)
        refine AW.seq ?_
        refine AW.region ?_
        refine ARun.pure (PureOp.assign rfl .int) rfl rfl (Nat.le_of_ble_eq_true rfl) ?_
        refine ARun.nil ?_
        refine AW.ret (show ResL _ _ [.tmp 4] _ from resI rfl ?_)
        first | exact hfin | exact szL_end hlt hq | exact szL_big (by omega)
      · have _u := True.intro
        replace hb3 := of_decide_eq_false hb3
        have hstr : ∀ (p : Int) (n : Nat), 0 ≤ p → (p - (n : Int) < 0 → szR p n < 0) ∧ (¬ p - (n : Int) < 0 → ¬ szR p n < 0 ∧ szR p n = p - n) := fun p n hp => ⟨fun h => by unfold szR; rw [if_neg (by omega)]; omega, fun h => by unfold szR; rw [if_pos (by omega)]; exact ⟨by omega, rfl⟩⟩
        obtain ⟨hs1, hs2⟩ := szL_next (f := ByteArray.size) (d := (ByteArray.empty : ByteArray)) hlt hq ((hstr _ _ hq).2 hb3).1
        rw [((hstr _ _ hq).2 hb3).2] at hs2
        refine AW.skip ?_
        refine AW.region ?_
        refine ARun.pure (PureOp.move rfl (.tmp rfl)) rfl rfl (Nat.le_of_ble_eq_true rfl) ?_
        refine ARun.pure (PureOp.add (c := ((k + 1 : Nat) : Int)) rfl (.tmp rfl) .int (by rw [wrap_id (by omega) (by omega)]; omega)) rfl rfl (Nat.le_of_ble_eq_true rfl) ?_
        refine ARun.pure (PureOp.assign rfl (.tmp rfl)) rfl rfl (Nat.le_of_ble_eq_true rfl) ?_
        refine ARun.nil ?_
        exact ⟨k + 1, ⟨by omega, hs1⟩, by dsimp only; omega, ⟨⟨⟨_, rfl, rfl⟩, ⟨_, rfl, congrArg (fun z => SV.one (.int .i64 z)) hs2⟩, ⟨_, rfl, rfl⟩, trivial⟩, trivial⟩⟩
    · have _u := True.intro
      replace hb2 := of_decide_eq_false hb2
      have hlt : ¬ k < x.length := by omega
      refine AW.exit ?_
      refine AW.seq ?_
      refine AW.region ?_
      refine ARun.pure (PureOp.move rfl (.tmp rfl)) rfl rfl (Nat.le_of_ble_eq_true rfl) ?_
      refine ARun.pure (PureOp.assign rfl (.tmp rfl)) rfl rfl (Nat.le_of_ble_eq_true rfl) ?_
      refine ARun.nil ?_
      refine AW.ret (show ResL _ _ [.tmp 4] _ from resI rfl ?_)
      first | exact hfin | exact szL_end hlt hq | exact szL_big (by omega)

theorem v_szStringSS (x : List (List ByteArray)) (left : Int) (hl : 0 ≤ left ∧ left ≤ 1048576) : Fn Try.prog 107 [.one (.lst 1 x.length (fun i0 _ => .lst 1 ((x.getD i0 []).length) (fun i1 _ => .str ((x.getD i0 []).getD i1 ByteArray.empty)))), .one (.int .i64 left)] (.one (.int .i64 (szR left (wtl (wtl ByteArray.size) x)))) := by
  obtain ⟨h0, h1⟩ := hl
  refine Fn.of_body (fn := Try.f107) Try.func107 rfl (Nat.le_of_ble_eq_true rfl) trivial ?_
  intro w0
  show AW _ 27 _ _ _ _
  refine AW.bound (t := 0) rfl fun hx => ?_
  refine AW.seq ?_
  refine AW.region ?_
  refine ARun.pure (PureOp.assign rfl .int) rfl rfl (Nat.le_of_ble_eq_true rfl) ?_
  refine ARun.nil ?_
  refine AW.seq ?_
  refine AW.region ?_
  refine ARun.pure (PureOp.move rfl (.tmp rfl)) rfl rfl (Nat.le_of_ble_eq_true rfl) ?_
  refine ARun.pure (PureOp.move rfl (.tmp rfl)) rfl rfl (Nat.le_of_ble_eq_true rfl) ?_
  refine ARun.pure (PureOp.lenLst rfl (.tmp rfl) vz_sl_62) rfl rfl (Nat.le_of_ble_eq_true rfl) ?_
  refine ARun.pure (PureOp.sub (c := left - (x.length : Int)) rfl (.tmp rfl) (.tmp rfl) (wrap_id (by omega) (by omega))) rfl rfl (Nat.le_of_ble_eq_true rfl) ?_
  refine ARun.pure (PureOp.assign rfl (.tmp rfl)) rfl rfl (Nat.le_of_ble_eq_true rfl) ?_
  refine ARun.nil ?_
  refine AW.seq ?_
  refine AW.seq ?_
  refine AW.region ?_
  refine ARun.pure (PureOp.move rfl (.tmp rfl)) rfl rfl (Nat.le_of_ble_eq_true rfl) ?_
  refine ARun.pure (PureOp.intOp rfl (.tmp rfl) .int rfl) rfl rfl (Nat.le_of_ble_eq_true rfl) ?_
  refine ARun.nil ?_
  refine AW.cond (.tmp rfl) (fun hb1 => ?_) (fun hb1 => ?_)
  · have _u := True.intro
    replace hb1 := of_decide_eq_true hb1
    refine AW.seq ?_
    refine AW.region ?_
    refine ARun.pure (PureOp.assign rfl .int) rfl rfl (Nat.le_of_ble_eq_true rfl) ?_
    refine ARun.nil ?_
    refine AW.ret (show ResL _ _ [.tmp 4] _ from resI rfl ?_)
    first | exact hfin | exact szL_end hlt hq | exact szL_big (by omega)
  · have _u := True.intro
    replace hb1 := of_decide_eq_false hb1
    refine AW.skip ?_
    refine AW.seq ?_
    refine AW.seq ?_
    refine AW.region ?_
    refine ARun.pure (PureOp.assign rfl .int) rfl rfl (Nat.le_of_ble_eq_true rfl) ?_
    refine ARun.nil ?_
    refine AW.block ?_
    refine AW.loop (ι := Nat) (fun k => ⟨[(0, .one (.lst 1 x.length (fun i0 _ => .lst 1 ((x.getD i0 []).length) (fun i1 _ => .str ((x.getD i0 []).getD i1 ByteArray.empty))))), (1, .one (.int .i64 (left - (x.length : Int) - ((((x.take k).map (wtl ByteArray.size)).sum : Nat) : Int)))), (5, .one (.int .i64 (k : Int)))], []⟩) (fun k => k ≤ x.length ∧ 0 ≤ left - (x.length : Int) - ((((x.take k).map (wtl ByteArray.size)).sum : Nat) : Int)) (fun k => x.length - k) 0 ⟨Nat.zero_le _, by simp; omega⟩ ⟨⟨⟨_, rfl, rfl⟩, ⟨_, rfl, by simp⟩, ⟨_, rfl, rfl⟩, trivial⟩, trivial⟩ ?_
    intro k hI
    obtain ⟨hk, hq⟩ := hI
    refine AW.seq ?_
    refine AW.seq ?_
    refine AW.region ?_
    refine ARun.pure (PureOp.move rfl (.tmp rfl)) rfl rfl (Nat.le_of_ble_eq_true rfl) ?_
    refine ARun.pure (PureOp.move rfl (.tmp rfl)) rfl rfl (Nat.le_of_ble_eq_true rfl) ?_
    refine ARun.pure (PureOp.lenLst rfl (.tmp rfl) vz_sl_62) rfl rfl (Nat.le_of_ble_eq_true rfl) ?_
    refine ARun.pure (PureOp.intOp rfl (.tmp rfl) (.tmp rfl) rfl) rfl rfl (Nat.le_of_ble_eq_true rfl) ?_
    refine ARun.nil ?_
    refine AW.cond (.tmp rfl) (fun hb2 => ?_) (fun hb2 => ?_)
    · have _u := True.intro
      replace hb2 := of_decide_eq_true hb2
      have hlt : k < x.length := by omega
      refine AW.skip ?_
      refine AW.seq ?_
      refine AW.block ?_
      refine AW.seq ?_
      refine AW.region ?_
      refine ARun.pure (PureOp.move rfl (.tmp rfl)) rfl rfl (Nat.le_of_ble_eq_true rfl) ?_
      refine ARun.pure (PureOp.move rfl (.tmp rfl)) rfl rfl (Nat.le_of_ble_eq_true rfl) ?_
      refine ARun.pure (PureOp.indexLst (i := k) rfl (.tmp rfl) vz_el_62_1 (.tmp rfl) rfl (by omega)) rfl rfl (Nat.le_of_ble_eq_true rfl) ?_
      refine ARun.pure (PureOp.loadRef rfl (.tmp rfl) vz_pl_80 (Nat.le_of_ble_eq_true rfl)) rfl rfl (Nat.le_of_ble_eq_true rfl) ?_
      refine ARun.pure (PureOp.move rfl (.tmp rfl)) rfl rfl (Nat.le_of_ble_eq_true rfl) ?_
      refine ARun.pure (PureOp.call rfl (v_szStringS (x.getD k []) (left - (x.length : Int) - ((((x.take k).map (wtl ByteArray.size)).sum : Nat) : Int)) (by first | omega | (unfold szR at *; split at * <;> omega))) ⟨⟨_, (.tmp rfl), .lst⟩, ⟨_, (.tmp rfl), .int⟩, trivial⟩ vz_ca_139 trivial) rfl rfl (Nat.le_of_ble_eq_true rfl) ?_
      refine ARun.pure (PureOp.assign rfl (.tmp rfl)) rfl rfl (Nat.le_of_ble_eq_true rfl) ?_
      refine ARun.nil ?_
      refine AW.seq ?_
      refine AW.region ?_
      refine ARun.pure (PureOp.move rfl (.tmp rfl)) rfl rfl (Nat.le_of_ble_eq_true rfl) ?_
      refine ARun.pure (PureOp.intOp rfl (.tmp rfl) .int rfl) rfl rfl (Nat.le_of_ble_eq_true rfl) ?_
      refine ARun.nil ?_
      refine AW.cond (.tmp rfl) (fun hb3 => ?_) (fun hb3 => ?_)
      · have _u := True.intro
        replace hb3 := of_decide_eq_true hb3
        have hfin := szL_neg (f := (wtl ByteArray.size)) (d := ([] : List ByteArray)) hlt hq hb3
        refine AW.seq ?_
        refine AW.region ?_
        refine ARun.pure (PureOp.assign rfl .int) rfl rfl (Nat.le_of_ble_eq_true rfl) ?_
        refine ARun.nil ?_
        refine AW.ret (show ResL _ _ [.tmp 4] _ from resI rfl ?_)
        first | exact hfin | exact szL_end hlt hq | exact szL_big (by omega)
      · have _u := True.intro
        replace hb3 := of_decide_eq_false hb3
        obtain ⟨hs1, hs2⟩ := szL_next (f := (wtl ByteArray.size)) (d := ([] : List ByteArray)) hlt hq hb3
        refine AW.skip ?_
        refine AW.region ?_
        refine ARun.pure (PureOp.move rfl (.tmp rfl)) rfl rfl (Nat.le_of_ble_eq_true rfl) ?_
        refine ARun.pure (PureOp.add (c := ((k + 1 : Nat) : Int)) rfl (.tmp rfl) .int (by rw [wrap_id (by omega) (by omega)]; omega)) rfl rfl (Nat.le_of_ble_eq_true rfl) ?_
        refine ARun.pure (PureOp.assign rfl (.tmp rfl)) rfl rfl (Nat.le_of_ble_eq_true rfl) ?_
        refine ARun.nil ?_
        exact ⟨k + 1, ⟨by omega, hs1⟩, by dsimp only; omega, ⟨⟨⟨_, rfl, rfl⟩, ⟨_, rfl, congrArg (fun z => SV.one (.int .i64 z)) hs2⟩, ⟨_, rfl, rfl⟩, trivial⟩, trivial⟩⟩
    · have _u := True.intro
      replace hb2 := of_decide_eq_false hb2
      have hlt : ¬ k < x.length := by omega
      refine AW.exit ?_
      refine AW.seq ?_
      refine AW.region ?_
      refine ARun.pure (PureOp.move rfl (.tmp rfl)) rfl rfl (Nat.le_of_ble_eq_true rfl) ?_
      refine ARun.pure (PureOp.assign rfl (.tmp rfl)) rfl rfl (Nat.le_of_ble_eq_true rfl) ?_
      refine ARun.nil ?_
      refine AW.ret (show ResL _ _ [.tmp 4] _ from resI rfl ?_)
      first | exact hfin | exact szL_end hlt hq | exact szL_big (by omega)

theorem v_szTold (x : GTold) (left : Int) (hl : 0 ≤ left ∧ left ≤ 1048576) : Fn Try.prog 141 [.agg [.int .i64 x.who, .int .i64 x.no, .str x.text], .one (.int .i64 left)] (.one (.int .i64 (szR left (wtTold x)))) := by
  obtain ⟨h0, h1⟩ := hl
  have hU : ∀ (p : Int) (m : Nat), (szR p m < 0 ↔ p < m) := fun p m => by unfold szR; split <;> omega
  refine Fn.of_body (fn := Try.f141) Try.func141 rfl (Nat.le_of_ble_eq_true rfl) trivial ?_
  intro w0
  show AW _ 13 _ _ _ _
  refine AW.boundAS (t := 0) (j := 2) rfl rfl fun hbs2 => ?_
  refine AW.seq ?_
  refine AW.region ?_
  refine ARun.box (id := 0) rfl (.tmp rfl) (SV.cells_of (by exact ⟨trivial, trivial, trivial, trivial⟩)) ⟨rfl, (by repeat first | exact trivial | refine ⟨by decide, by first | rfl | exact trivial | (intro i j; first | rfl | exact getD_no rfl | (dsimp only; split <;> first | rfl | exact getD_no rfl)), ?_⟩)⟩ rfl rfl rfl (Nat.le_of_ble_eq_true rfl) ?_
  refine ARun.pure (PureOp.assign rfl .int) rfl rfl (Nat.le_of_ble_eq_true rfl) ?_
  refine ARun.nil ?_
  refine AW.seq ?_
  refine AW.region ?_
  refine ARun.pure (PureOp.move rfl (.tmp rfl)) rfl rfl (Nat.le_of_ble_eq_true rfl) ?_
  refine ARun.pure (PureOp.fieldPtr rfl (.tmp rfl) vz_fi_153_2_2) rfl rfl (Nat.le_of_ble_eq_true rfl) ?_
  refine ARun.pure (PureOp.loadPtr rfl (.tmp rfl) vz_pl_9 rfl rfl (Nat.le_of_ble_eq_true rfl) (Nat.le_of_ble_eq_true rfl)) rfl rfl (Nat.le_of_ble_eq_true rfl) ?_
  refine ARun.pure (PureOp.lenStr rfl (.tmp rfl) vz_st_9) rfl rfl (Nat.le_of_ble_eq_true rfl) ?_
  refine ARun.pure (PureOp.sub (c := left - (x.text.size : Int)) rfl (.tmp rfl) (.tmp rfl) (wrap_id (by omega) (by omega))) rfl rfl (Nat.le_of_ble_eq_true rfl) ?_
  refine ARun.pure (PureOp.assign rfl (.tmp rfl)) rfl rfl (Nat.le_of_ble_eq_true rfl) ?_
  refine ARun.nil ?_
  refine AW.seq ?_
  refine AW.seq ?_
  refine AW.region ?_
  refine ARun.pure (PureOp.move rfl (.tmp rfl)) rfl rfl (Nat.le_of_ble_eq_true rfl) ?_
  refine ARun.pure (PureOp.intOp rfl (.tmp rfl) .int rfl) rfl rfl (Nat.le_of_ble_eq_true rfl) ?_
  refine ARun.nil ?_
  refine AW.cond (.tmp rfl) (fun hb1 => ?_) (fun hb1 => ?_)
  · have _u := True.intro
    replace hb1 := of_decide_eq_true hb1
    refine AW.seq ?_
    refine AW.region ?_
    refine ARun.pure (PureOp.assign rfl .int) rfl rfl (Nat.le_of_ble_eq_true rfl) ?_
    refine ARun.nil ?_
    refine AW.ret (show ResL _ _ [.tmp 4] _ from resI rfl ?_)
    unfold wtTold
    unfold szR at *; (repeat' split at *) <;> first | omega | (split <;> omega)
  · have _u := True.intro
    replace hb1 := of_decide_eq_false hb1
    refine AW.skip ?_
    refine AW.seq ?_
    refine AW.region ?_
    refine ARun.pure (PureOp.move rfl (.tmp rfl)) rfl rfl (Nat.le_of_ble_eq_true rfl) ?_
    refine ARun.pure (PureOp.assign rfl (.tmp rfl)) rfl rfl (Nat.le_of_ble_eq_true rfl) ?_
    refine ARun.nil ?_
    refine AW.ret (show ResL _ _ [.tmp 4] _ from resI rfl ?_)
    unfold wtTold
    unfold szR at *; (repeat' split at *) <;> first | omega | (split <;> omega)

theorem v_szNote (x : GNote) (left : Int) (hl : 0 ≤ left ∧ left ≤ 1048576) : Fn Try.prog 140 [.agg [.bool x.back, .int .i64 x.what.who, .int .i64 x.what.no, .str x.what.text], .one (.int .i64 left)] (.one (.int .i64 (szR left (wtNote x)))) := by
  obtain ⟨h0, h1⟩ := hl
  refine Fn.of_body (fn := Try.f140) Try.func140 rfl (Nat.le_of_ble_eq_true rfl) trivial ?_
  intro w0
  show AW _ 12 _ _ _ _
  refine AW.seq ?_
  refine AW.region ?_
  refine ARun.box (id := 0) rfl (.tmp rfl) (SV.cells_of (by exact ⟨trivial, trivial, trivial, trivial, trivial⟩)) ⟨rfl, (by repeat first | exact trivial | refine ⟨by decide, by first | rfl | exact trivial | (intro i j; first | rfl | exact getD_no rfl | (dsimp only; split <;> first | rfl | exact getD_no rfl)), ?_⟩)⟩ rfl rfl rfl (Nat.le_of_ble_eq_true rfl) ?_
  refine ARun.pure (PureOp.assign rfl .int) rfl rfl (Nat.le_of_ble_eq_true rfl) ?_
  refine ARun.nil ?_
  refine AW.seq ?_
  refine AW.region ?_
  refine ARun.pure (PureOp.fieldPtr rfl (.tmp rfl) vz_fi_155_1_1) rfl rfl (Nat.le_of_ble_eq_true rfl) ?_
  refine ARun.pure (PureOp.loadPtrAgg rfl (.tmp rfl) vz_ag_153_3 rfl rfl (Nat.le_of_ble_eq_true rfl) (Nat.le_of_ble_eq_true rfl)) rfl rfl (Nat.le_of_ble_eq_true rfl) ?_
  refine ARun.pure (PureOp.move rfl (.tmp rfl)) rfl rfl (Nat.le_of_ble_eq_true rfl) ?_
  refine ARun.pure (PureOp.call rfl (v_szTold x.what left (by first | omega | (unfold szR at *; split at * <;> omega))) ⟨⟨_, (.tmp rfl), ⟨.int, .int, .str, trivial⟩⟩, ⟨_, (.tmp rfl), .int⟩, trivial⟩ vz_ca_141 trivial) rfl rfl (Nat.le_of_ble_eq_true rfl) ?_
  refine ARun.pure (PureOp.assign rfl (.tmp rfl)) rfl rfl (Nat.le_of_ble_eq_true rfl) ?_
  refine ARun.nil ?_
  refine AW.seq ?_
  refine AW.seq ?_
  refine AW.region ?_
  refine ARun.pure (PureOp.move rfl (.tmp rfl)) rfl rfl (Nat.le_of_ble_eq_true rfl) ?_
  refine ARun.pure (PureOp.intOp rfl (.tmp rfl) .int rfl) rfl rfl (Nat.le_of_ble_eq_true rfl) ?_
  refine ARun.nil ?_
  refine AW.cond (.tmp rfl) (fun hb1 => ?_) (fun hb1 => ?_)
  · have _u := True.intro
    replace hb1 := of_decide_eq_true hb1
    refine AW.seq ?_
    refine AW.region ?_
    refine ARun.pure (PureOp.assign rfl .int) rfl rfl (Nat.le_of_ble_eq_true rfl) ?_
    refine ARun.nil ?_
    refine AW.ret (show ResL _ _ [.tmp 4] _ from resI rfl ?_)
    unfold wtNote
    exact (szR_neg0 (by omega) hb1).symm
  · have _u := True.intro
    replace hb1 := of_decide_eq_false hb1
    obtain ⟨hs2, hs2b, hs2c⟩ := szR_ok (by omega) hb1
    refine AW.skip ?_
    refine AW.seq ?_
    refine AW.region ?_
    refine ARun.pure (PureOp.move rfl (.tmp rfl)) rfl rfl (Nat.le_of_ble_eq_true rfl) ?_
    refine ARun.pure (PureOp.assign rfl (.tmp rfl)) rfl rfl (Nat.le_of_ble_eq_true rfl) ?_
    refine ARun.nil ?_
    refine AW.ret (show ResL _ _ [.tmp 4] _ from resI rfl ?_)
    rfl

theorem v_szNoteS (x : List GNote) (left : Int) (hl : 0 ≤ left ∧ left ≤ 1048576) : Fn Try.prog 108 [.one (.lst 4 x.length (fun i0 j0 => ([.bool ((x.getD i0 (default : GNote)).back), .int .i64 (((x.getD i0 (default : GNote)).what).who), .int .i64 (((x.getD i0 (default : GNote)).what).no), .str (((x.getD i0 (default : GNote)).what).text)] : List AV).getD j0 (.con undef))), .one (.int .i64 left)] (.one (.int .i64 (szR left (wtl wtNote x)))) := by
  obtain ⟨h0, h1⟩ := hl
  refine Fn.of_body (fn := Try.f108) Try.func108 rfl (Nat.le_of_ble_eq_true rfl) trivial ?_
  intro w0
  show AW _ 27 _ _ _ _
  refine AW.bound (t := 0) rfl fun hx => ?_
  refine AW.seq ?_
  refine AW.region ?_
  refine ARun.pure (PureOp.assign rfl .int) rfl rfl (Nat.le_of_ble_eq_true rfl) ?_
  refine ARun.nil ?_
  refine AW.seq ?_
  refine AW.region ?_
  refine ARun.pure (PureOp.move rfl (.tmp rfl)) rfl rfl (Nat.le_of_ble_eq_true rfl) ?_
  refine ARun.pure (PureOp.move rfl (.tmp rfl)) rfl rfl (Nat.le_of_ble_eq_true rfl) ?_
  refine ARun.pure (PureOp.lenLst rfl (.tmp rfl) vz_sl_72) rfl rfl (Nat.le_of_ble_eq_true rfl) ?_
  refine ARun.pure (PureOp.sub (c := left - (x.length : Int)) rfl (.tmp rfl) (.tmp rfl) (wrap_id (by omega) (by omega))) rfl rfl (Nat.le_of_ble_eq_true rfl) ?_
  refine ARun.pure (PureOp.assign rfl (.tmp rfl)) rfl rfl (Nat.le_of_ble_eq_true rfl) ?_
  refine ARun.nil ?_
  refine AW.seq ?_
  refine AW.seq ?_
  refine AW.region ?_
  refine ARun.pure (PureOp.move rfl (.tmp rfl)) rfl rfl (Nat.le_of_ble_eq_true rfl) ?_
  refine ARun.pure (PureOp.intOp rfl (.tmp rfl) .int rfl) rfl rfl (Nat.le_of_ble_eq_true rfl) ?_
  refine ARun.nil ?_
  refine AW.cond (.tmp rfl) (fun hb1 => ?_) (fun hb1 => ?_)
  · have _u := True.intro
    replace hb1 := of_decide_eq_true hb1
    refine AW.seq ?_
    refine AW.region ?_
    refine ARun.pure (PureOp.assign rfl .int) rfl rfl (Nat.le_of_ble_eq_true rfl) ?_
    refine ARun.nil ?_
    refine AW.ret (show ResL _ _ [.tmp 4] _ from resI rfl ?_)
    first | exact hfin | exact szL_end hlt hq | exact szL_big (by omega)
  · have _u := True.intro
    replace hb1 := of_decide_eq_false hb1
    refine AW.skip ?_
    refine AW.seq ?_
    refine AW.seq ?_
    refine AW.region ?_
    refine ARun.pure (PureOp.assign rfl .int) rfl rfl (Nat.le_of_ble_eq_true rfl) ?_
    refine ARun.nil ?_
    refine AW.block ?_
    refine AW.loop (ι := Nat) (fun k => ⟨[(0, .one (.lst 4 x.length (fun i0 j0 => ([.bool ((x.getD i0 (default : GNote)).back), .int .i64 (((x.getD i0 (default : GNote)).what).who), .int .i64 (((x.getD i0 (default : GNote)).what).no), .str (((x.getD i0 (default : GNote)).what).text)] : List AV).getD j0 (.con undef)))), (1, .one (.int .i64 (left - (x.length : Int) - ((((x.take k).map wtNote).sum : Nat) : Int)))), (5, .one (.int .i64 (k : Int)))], []⟩) (fun k => k ≤ x.length ∧ 0 ≤ left - (x.length : Int) - ((((x.take k).map wtNote).sum : Nat) : Int)) (fun k => x.length - k) 0 ⟨Nat.zero_le _, by simp; omega⟩ ⟨⟨⟨_, rfl, rfl⟩, ⟨_, rfl, by simp⟩, ⟨_, rfl, rfl⟩, trivial⟩, trivial⟩ ?_
    intro k hI
    obtain ⟨hk, hq⟩ := hI
    refine AW.seq ?_
    refine AW.seq ?_
    refine AW.region ?_
    refine ARun.pure (PureOp.move rfl (.tmp rfl)) rfl rfl (Nat.le_of_ble_eq_true rfl) ?_
    refine ARun.pure (PureOp.move rfl (.tmp rfl)) rfl rfl (Nat.le_of_ble_eq_true rfl) ?_
    refine ARun.pure (PureOp.lenLst rfl (.tmp rfl) vz_sl_72) rfl rfl (Nat.le_of_ble_eq_true rfl) ?_
    refine ARun.pure (PureOp.intOp rfl (.tmp rfl) (.tmp rfl) rfl) rfl rfl (Nat.le_of_ble_eq_true rfl) ?_
    refine ARun.nil ?_
    refine AW.cond (.tmp rfl) (fun hb2 => ?_) (fun hb2 => ?_)
    · have _u := True.intro
      replace hb2 := of_decide_eq_true hb2
      have hlt : k < x.length := by omega
      refine AW.skip ?_
      refine AW.seq ?_
      refine AW.block ?_
      refine AW.seq ?_
      refine AW.region ?_
      refine ARun.pure (PureOp.move rfl (.tmp rfl)) rfl rfl (Nat.le_of_ble_eq_true rfl) ?_
      refine ARun.pure (PureOp.move rfl (.tmp rfl)) rfl rfl (Nat.le_of_ble_eq_true rfl) ?_
      refine ARun.pure (PureOp.indexLst (i := k) rfl (.tmp rfl) vz_el_72_4 (.tmp rfl) rfl (by omega)) rfl rfl (Nat.le_of_ble_eq_true rfl) ?_
      refine ARun.pure (PureOp.loadRefAgg rfl (.tmp rfl) vz_ag_155_4 (Nat.le_of_ble_eq_true rfl)) rfl rfl (Nat.le_of_ble_eq_true rfl) ?_
      refine ARun.pure (PureOp.move rfl (.tmp rfl)) rfl rfl (Nat.le_of_ble_eq_true rfl) ?_
      refine ARun.pure (PureOp.call rfl (v_szNote (x.getD k (default : GNote)) (left - (x.length : Int) - ((((x.take k).map wtNote).sum : Nat) : Int)) (by first | omega | (unfold szR at *; split at * <;> omega))) ⟨⟨_, (.tmp rfl), ⟨.bool, .int, .int, .str, trivial⟩⟩, ⟨_, (.tmp rfl), .int⟩, trivial⟩ vz_ca_140 trivial) rfl rfl (Nat.le_of_ble_eq_true rfl) ?_
      refine ARun.pure (PureOp.assign rfl (.tmp rfl)) rfl rfl (Nat.le_of_ble_eq_true rfl) ?_
      refine ARun.nil ?_
      refine AW.seq ?_
      refine AW.region ?_
      refine ARun.pure (PureOp.move rfl (.tmp rfl)) rfl rfl (Nat.le_of_ble_eq_true rfl) ?_
      refine ARun.pure (PureOp.intOp rfl (.tmp rfl) .int rfl) rfl rfl (Nat.le_of_ble_eq_true rfl) ?_
      refine ARun.nil ?_
      refine AW.cond (.tmp rfl) (fun hb3 => ?_) (fun hb3 => ?_)
      · have _u := True.intro
        replace hb3 := of_decide_eq_true hb3
        have hfin := szL_neg (f := wtNote) (d := (default : GNote)) hlt hq hb3
        refine AW.seq ?_
        refine AW.region ?_
        refine ARun.pure (PureOp.assign rfl .int) rfl rfl (Nat.le_of_ble_eq_true rfl) ?_
        refine ARun.nil ?_
        refine AW.ret (show ResL _ _ [.tmp 4] _ from resI rfl ?_)
        first | exact hfin | exact szL_end hlt hq | exact szL_big (by omega)
      · have _u := True.intro
        replace hb3 := of_decide_eq_false hb3
        obtain ⟨hs1, hs2⟩ := szL_next (f := wtNote) (d := (default : GNote)) hlt hq hb3
        refine AW.skip ?_
        refine AW.region ?_
        refine ARun.pure (PureOp.move rfl (.tmp rfl)) rfl rfl (Nat.le_of_ble_eq_true rfl) ?_
        refine ARun.pure (PureOp.add (c := ((k + 1 : Nat) : Int)) rfl (.tmp rfl) .int (by rw [wrap_id (by omega) (by omega)]; omega)) rfl rfl (Nat.le_of_ble_eq_true rfl) ?_
        refine ARun.pure (PureOp.assign rfl (.tmp rfl)) rfl rfl (Nat.le_of_ble_eq_true rfl) ?_
        refine ARun.nil ?_
        exact ⟨k + 1, ⟨by omega, hs1⟩, by dsimp only; omega, ⟨⟨⟨_, rfl, rfl⟩, ⟨_, rfl, congrArg (fun z => SV.one (.int .i64 z)) hs2⟩, ⟨_, rfl, rfl⟩, trivial⟩, trivial⟩⟩
    · have _u := True.intro
      replace hb2 := of_decide_eq_false hb2
      have hlt : ¬ k < x.length := by omega
      refine AW.exit ?_
      refine AW.seq ?_
      refine AW.region ?_
      refine ARun.pure (PureOp.move rfl (.tmp rfl)) rfl rfl (Nat.le_of_ble_eq_true rfl) ?_
      refine ARun.pure (PureOp.assign rfl (.tmp rfl)) rfl rfl (Nat.le_of_ble_eq_true rfl) ?_
      refine ARun.nil ?_
      refine AW.ret (show ResL _ _ [.tmp 4] _ from resI rfl ?_)
      first | exact hfin | exact szL_end hlt hq | exact szL_big (by omega)

theorem v_szToldS (x : List GTold) (left : Int) (hl : 0 ≤ left ∧ left ≤ 1048576) : Fn Try.prog 109 [.one (.lst 3 x.length (fun i0 j0 => ([.int .i64 ((x.getD i0 (default : GTold)).who), .int .i64 ((x.getD i0 (default : GTold)).no), .str ((x.getD i0 (default : GTold)).text)] : List AV).getD j0 (.con undef))), .one (.int .i64 left)] (.one (.int .i64 (szR left (wtl wtTold x)))) := by
  obtain ⟨h0, h1⟩ := hl
  refine Fn.of_body (fn := Try.f109) Try.func109 rfl (Nat.le_of_ble_eq_true rfl) trivial ?_
  intro w0
  show AW _ 27 _ _ _ _
  refine AW.bound (t := 0) rfl fun hx => ?_
  refine AW.seq ?_
  refine AW.region ?_
  refine ARun.pure (PureOp.assign rfl .int) rfl rfl (Nat.le_of_ble_eq_true rfl) ?_
  refine ARun.nil ?_
  refine AW.seq ?_
  refine AW.region ?_
  refine ARun.pure (PureOp.move rfl (.tmp rfl)) rfl rfl (Nat.le_of_ble_eq_true rfl) ?_
  refine ARun.pure (PureOp.move rfl (.tmp rfl)) rfl rfl (Nat.le_of_ble_eq_true rfl) ?_
  refine ARun.pure (PureOp.lenLst rfl (.tmp rfl) vz_sl_73) rfl rfl (Nat.le_of_ble_eq_true rfl) ?_
  refine ARun.pure (PureOp.sub (c := left - (x.length : Int)) rfl (.tmp rfl) (.tmp rfl) (wrap_id (by omega) (by omega))) rfl rfl (Nat.le_of_ble_eq_true rfl) ?_
  refine ARun.pure (PureOp.assign rfl (.tmp rfl)) rfl rfl (Nat.le_of_ble_eq_true rfl) ?_
  refine ARun.nil ?_
  refine AW.seq ?_
  refine AW.seq ?_
  refine AW.region ?_
  refine ARun.pure (PureOp.move rfl (.tmp rfl)) rfl rfl (Nat.le_of_ble_eq_true rfl) ?_
  refine ARun.pure (PureOp.intOp rfl (.tmp rfl) .int rfl) rfl rfl (Nat.le_of_ble_eq_true rfl) ?_
  refine ARun.nil ?_
  refine AW.cond (.tmp rfl) (fun hb1 => ?_) (fun hb1 => ?_)
  · have _u := True.intro
    replace hb1 := of_decide_eq_true hb1
    refine AW.seq ?_
    refine AW.region ?_
    refine ARun.pure (PureOp.assign rfl .int) rfl rfl (Nat.le_of_ble_eq_true rfl) ?_
    refine ARun.nil ?_
    refine AW.ret (show ResL _ _ [.tmp 4] _ from resI rfl ?_)
    first | exact hfin | exact szL_end hlt hq | exact szL_big (by omega)
  · have _u := True.intro
    replace hb1 := of_decide_eq_false hb1
    refine AW.skip ?_
    refine AW.seq ?_
    refine AW.seq ?_
    refine AW.region ?_
    refine ARun.pure (PureOp.assign rfl .int) rfl rfl (Nat.le_of_ble_eq_true rfl) ?_
    refine ARun.nil ?_
    refine AW.block ?_
    refine AW.loop (ι := Nat) (fun k => ⟨[(0, .one (.lst 3 x.length (fun i0 j0 => ([.int .i64 ((x.getD i0 (default : GTold)).who), .int .i64 ((x.getD i0 (default : GTold)).no), .str ((x.getD i0 (default : GTold)).text)] : List AV).getD j0 (.con undef)))), (1, .one (.int .i64 (left - (x.length : Int) - ((((x.take k).map wtTold).sum : Nat) : Int)))), (5, .one (.int .i64 (k : Int)))], []⟩) (fun k => k ≤ x.length ∧ 0 ≤ left - (x.length : Int) - ((((x.take k).map wtTold).sum : Nat) : Int)) (fun k => x.length - k) 0 ⟨Nat.zero_le _, by simp; omega⟩ ⟨⟨⟨_, rfl, rfl⟩, ⟨_, rfl, by simp⟩, ⟨_, rfl, rfl⟩, trivial⟩, trivial⟩ ?_
    intro k hI
    obtain ⟨hk, hq⟩ := hI
    refine AW.seq ?_
    refine AW.seq ?_
    refine AW.region ?_
    refine ARun.pure (PureOp.move rfl (.tmp rfl)) rfl rfl (Nat.le_of_ble_eq_true rfl) ?_
    refine ARun.pure (PureOp.move rfl (.tmp rfl)) rfl rfl (Nat.le_of_ble_eq_true rfl) ?_
    refine ARun.pure (PureOp.lenLst rfl (.tmp rfl) vz_sl_73) rfl rfl (Nat.le_of_ble_eq_true rfl) ?_
    refine ARun.pure (PureOp.intOp rfl (.tmp rfl) (.tmp rfl) rfl) rfl rfl (Nat.le_of_ble_eq_true rfl) ?_
    refine ARun.nil ?_
    refine AW.cond (.tmp rfl) (fun hb2 => ?_) (fun hb2 => ?_)
    · have _u := True.intro
      replace hb2 := of_decide_eq_true hb2
      have hlt : k < x.length := by omega
      refine AW.skip ?_
      refine AW.seq ?_
      refine AW.block ?_
      refine AW.seq ?_
      refine AW.region ?_
      refine ARun.pure (PureOp.move rfl (.tmp rfl)) rfl rfl (Nat.le_of_ble_eq_true rfl) ?_
      refine ARun.pure (PureOp.move rfl (.tmp rfl)) rfl rfl (Nat.le_of_ble_eq_true rfl) ?_
      refine ARun.pure (PureOp.indexLst (i := k) rfl (.tmp rfl) vz_el_73_3 (.tmp rfl) rfl (by omega)) rfl rfl (Nat.le_of_ble_eq_true rfl) ?_
      refine ARun.pure (PureOp.loadRefAgg rfl (.tmp rfl) vz_ag_153_3 (Nat.le_of_ble_eq_true rfl)) rfl rfl (Nat.le_of_ble_eq_true rfl) ?_
      refine ARun.pure (PureOp.move rfl (.tmp rfl)) rfl rfl (Nat.le_of_ble_eq_true rfl) ?_
      refine ARun.pure (PureOp.call rfl (v_szTold (x.getD k (default : GTold)) (left - (x.length : Int) - ((((x.take k).map wtTold).sum : Nat) : Int)) (by first | omega | (unfold szR at *; split at * <;> omega))) ⟨⟨_, (.tmp rfl), ⟨.int, .int, .str, trivial⟩⟩, ⟨_, (.tmp rfl), .int⟩, trivial⟩ vz_ca_141 trivial) rfl rfl (Nat.le_of_ble_eq_true rfl) ?_
      refine ARun.pure (PureOp.assign rfl (.tmp rfl)) rfl rfl (Nat.le_of_ble_eq_true rfl) ?_
      refine ARun.nil ?_
      refine AW.seq ?_
      refine AW.region ?_
      refine ARun.pure (PureOp.move rfl (.tmp rfl)) rfl rfl (Nat.le_of_ble_eq_true rfl) ?_
      refine ARun.pure (PureOp.intOp rfl (.tmp rfl) .int rfl) rfl rfl (Nat.le_of_ble_eq_true rfl) ?_
      refine ARun.nil ?_
      refine AW.cond (.tmp rfl) (fun hb3 => ?_) (fun hb3 => ?_)
      · have _u := True.intro
        replace hb3 := of_decide_eq_true hb3
        have hfin := szL_neg (f := wtTold) (d := (default : GTold)) hlt hq hb3
        refine AW.seq ?_
        refine AW.region ?_
        refine ARun.pure (PureOp.assign rfl .int) rfl rfl (Nat.le_of_ble_eq_true rfl) ?_
        refine ARun.nil ?_
        refine AW.ret (show ResL _ _ [.tmp 4] _ from resI rfl ?_)
        first | exact hfin | exact szL_end hlt hq | exact szL_big (by omega)
      · have _u := True.intro
        replace hb3 := of_decide_eq_false hb3
        obtain ⟨hs1, hs2⟩ := szL_next (f := wtTold) (d := (default : GTold)) hlt hq hb3
        refine AW.skip ?_
        refine AW.region ?_
        refine ARun.pure (PureOp.move rfl (.tmp rfl)) rfl rfl (Nat.le_of_ble_eq_true rfl) ?_
        refine ARun.pure (PureOp.add (c := ((k + 1 : Nat) : Int)) rfl (.tmp rfl) .int (by rw [wrap_id (by omega) (by omega)]; omega)) rfl rfl (Nat.le_of_ble_eq_true rfl) ?_
        refine ARun.pure (PureOp.assign rfl (.tmp rfl)) rfl rfl (Nat.le_of_ble_eq_true rfl) ?_
        refine ARun.nil ?_
        exact ⟨k + 1, ⟨by omega, hs1⟩, by dsimp only; omega, ⟨⟨⟨_, rfl, rfl⟩, ⟨_, rfl, congrArg (fun z => SV.one (.int .i64 z)) hs2⟩, ⟨_, rfl, rfl⟩, trivial⟩, trivial⟩⟩
    · have _u := True.intro
      replace hb2 := of_decide_eq_false hb2
      have hlt : ¬ k < x.length := by omega
      refine AW.exit ?_
      refine AW.seq ?_
      refine AW.region ?_
      refine ARun.pure (PureOp.move rfl (.tmp rfl)) rfl rfl (Nat.le_of_ble_eq_true rfl) ?_
      refine ARun.pure (PureOp.assign rfl (.tmp rfl)) rfl rfl (Nat.le_of_ble_eq_true rfl) ?_
      refine ARun.nil ?_
      refine AW.ret (show ResL _ _ [.tmp 4] _ from resI rfl ?_)
      first | exact hfin | exact szL_end hlt hq | exact szL_big (by omega)

theorem v_szTell (x : GTell) (left : Int) (hl : 0 ≤ left ∧ left ≤ 1048576) : Fn Try.prog 48 [.agg [.lst 1 x.texts.length (fun i0 _ => .lst 1 ((x.texts.getD i0 []).length) (fun i1 _ => .str ((x.texts.getD i0 []).getD i1 ByteArray.empty))), .lst 1 x.heard.length (fun i0 _ => .int .i64 (x.heard.getD i0 0)), .lst 4 x.line.length (fun i0 j0 => ([.bool ((x.line.getD i0 (default : GNote)).back), .int .i64 (((x.line.getD i0 (default : GNote)).what).who), .int .i64 (((x.line.getD i0 (default : GNote)).what).no), .str (((x.line.getD i0 (default : GNote)).what).text)] : List AV).getD j0 (.con undef)), .lst 3 x.log.length (fun i0 j0 => ([.int .i64 ((x.log.getD i0 (default : GTold)).who), .int .i64 ((x.log.getD i0 (default : GTold)).no), .str ((x.log.getD i0 (default : GTold)).text)] : List AV).getD j0 (.con undef)), .lst 1 x.next.length (fun i0 _ => .int .i64 (x.next.getD i0 0))], .one (.int .i64 left)] (.one (.int .i64 (szR left (wtTell x)))) := by
  obtain ⟨h0, h1⟩ := hl
  refine Fn.of_body (fn := Try.f48) Try.func48 rfl (Nat.le_of_ble_eq_true rfl) trivial ?_
  intro w0
  show AW _ 36 _ _ _ _
  refine AW.seq ?_
  refine AW.region ?_
  refine ARun.box (id := 0) rfl (.tmp rfl) (SV.cells_of (by exact ⟨trivial, trivial, trivial, trivial, trivial, trivial⟩)) ⟨rfl, (by repeat first | exact trivial | refine ⟨by decide, by first | rfl | exact trivial | (intro i j; first | rfl | exact getD_no rfl | (dsimp only; split <;> first | rfl | exact getD_no rfl)), ?_⟩)⟩ rfl rfl rfl (Nat.le_of_ble_eq_true rfl) ?_
  refine ARun.pure (PureOp.assign rfl .int) rfl rfl (Nat.le_of_ble_eq_true rfl) ?_
  refine ARun.nil ?_
  refine AW.seq ?_
  refine AW.region ?_
  refine ARun.pure (PureOp.fieldPtr rfl (.tmp rfl) vz_fi_75_0_0) rfl rfl (Nat.le_of_ble_eq_true rfl) ?_
  refine ARun.pure (PureOp.loadPtr rfl (.tmp rfl) vz_pl_62 rfl rfl (Nat.le_of_ble_eq_true rfl) (Nat.le_of_ble_eq_true rfl)) rfl rfl (Nat.le_of_ble_eq_true rfl) ?_
  refine ARun.pure (PureOp.move rfl (.tmp rfl)) rfl rfl (Nat.le_of_ble_eq_true rfl) ?_
  refine ARun.pure (PureOp.call rfl (v_szStringSS x.texts left (by first | omega | (unfold szR at *; split at * <;> omega))) ⟨⟨_, (.tmp rfl), .lst⟩, ⟨_, (.tmp rfl), .int⟩, trivial⟩ vz_ca_107 trivial) rfl rfl (Nat.le_of_ble_eq_true rfl) ?_
  refine ARun.pure (PureOp.assign rfl (.tmp rfl)) rfl rfl (Nat.le_of_ble_eq_true rfl) ?_
  refine ARun.nil ?_
  refine AW.seq ?_
  refine AW.seq ?_
  refine AW.region ?_
  refine ARun.pure (PureOp.move rfl (.tmp rfl)) rfl rfl (Nat.le_of_ble_eq_true rfl) ?_
  refine ARun.pure (PureOp.intOp rfl (.tmp rfl) .int rfl) rfl rfl (Nat.le_of_ble_eq_true rfl) ?_
  refine ARun.nil ?_
  refine AW.cond (.tmp rfl) (fun hb1 => ?_) (fun hb1 => ?_)
  · have _u := True.intro
    replace hb1 := of_decide_eq_true hb1
    refine AW.seq ?_
    refine AW.region ?_
    refine ARun.pure (PureOp.assign rfl .int) rfl rfl (Nat.le_of_ble_eq_true rfl) ?_
    refine ARun.nil ?_
    refine AW.ret (show ResL _ _ [.tmp 4] _ from resI rfl ?_)
    unfold wtTell
    exact (szR_neg (by omega) hb1 _).symm
  · have _u := True.intro
    replace hb1 := of_decide_eq_false hb1
    obtain ⟨hs2, hs2b, hs2c⟩ := szR_ok (by omega) hb1
    refine AW.skip ?_
    refine AW.seq ?_
    refine AW.region ?_
    refine ARun.pure (PureOp.fieldPtr rfl (.tmp rfl) vz_fi_75_1_1) rfl rfl (Nat.le_of_ble_eq_true rfl) ?_
    refine ARun.pure (PureOp.loadPtr rfl (.tmp rfl) vz_pl_22 rfl rfl (Nat.le_of_ble_eq_true rfl) (Nat.le_of_ble_eq_true rfl)) rfl rfl (Nat.le_of_ble_eq_true rfl) ?_
    refine ARun.pure (PureOp.move rfl (.tmp rfl)) rfl rfl (Nat.le_of_ble_eq_true rfl) ?_
    refine ARun.pure (PureOp.call rfl (v_szIntS x.heard (szR left (wtl (wtl ByteArray.size) x.texts)) (by first | omega | (unfold szR at *; split at * <;> omega))) ⟨⟨_, (.tmp rfl), .lst⟩, ⟨_, (.tmp rfl), .int⟩, trivial⟩ vz_ca_88 trivial) rfl rfl (Nat.le_of_ble_eq_true rfl) ?_
    refine ARun.pure (PureOp.assign rfl (.tmp rfl)) rfl rfl (Nat.le_of_ble_eq_true rfl) ?_
    refine ARun.nil ?_
    refine AW.seq ?_
    refine AW.seq ?_
    refine AW.region ?_
    refine ARun.pure (PureOp.move rfl (.tmp rfl)) rfl rfl (Nat.le_of_ble_eq_true rfl) ?_
    refine ARun.pure (PureOp.intOp rfl (.tmp rfl) .int rfl) rfl rfl (Nat.le_of_ble_eq_true rfl) ?_
    refine ARun.nil ?_
    refine AW.cond (.tmp rfl) (fun hb3 => ?_) (fun hb3 => ?_)
    · have _u := True.intro
      replace hb3 := of_decide_eq_true hb3
      refine AW.seq ?_
      refine AW.region ?_
      refine ARun.pure (PureOp.assign rfl .int) rfl rfl (Nat.le_of_ble_eq_true rfl) ?_
      refine ARun.nil ?_
      refine AW.ret (show ResL _ _ [.tmp 4] _ from resI rfl ?_)
      unfold wtTell
      rw [← hs2c]
      exact (szR_neg (by omega) hb3 _).symm
    · have _u := True.intro
      replace hb3 := of_decide_eq_false hb3
      obtain ⟨hs4, hs4b, hs4c⟩ := szR_ok (by omega) hb3
      refine AW.skip ?_
      refine AW.seq ?_
      refine AW.region ?_
      refine ARun.pure (PureOp.fieldPtr rfl (.tmp rfl) vz_fi_75_2_2) rfl rfl (Nat.le_of_ble_eq_true rfl) ?_
      refine ARun.pure (PureOp.loadPtr rfl (.tmp rfl) vz_pl_72 rfl rfl (Nat.le_of_ble_eq_true rfl) (Nat.le_of_ble_eq_true rfl)) rfl rfl (Nat.le_of_ble_eq_true rfl) ?_
      refine ARun.pure (PureOp.move rfl (.tmp rfl)) rfl rfl (Nat.le_of_ble_eq_true rfl) ?_
      refine ARun.pure (PureOp.call rfl (v_szNoteS x.line (szR (szR left (wtl (wtl ByteArray.size) x.texts)) (x.heard.length)) (by first | omega | (unfold szR at *; split at * <;> omega))) ⟨⟨_, (.tmp rfl), .lst⟩, ⟨_, (.tmp rfl), .int⟩, trivial⟩ vz_ca_108 trivial) rfl rfl (Nat.le_of_ble_eq_true rfl) ?_
      refine ARun.pure (PureOp.assign rfl (.tmp rfl)) rfl rfl (Nat.le_of_ble_eq_true rfl) ?_
      refine ARun.nil ?_
      refine AW.seq ?_
      refine AW.seq ?_
      refine AW.region ?_
      refine ARun.pure (PureOp.move rfl (.tmp rfl)) rfl rfl (Nat.le_of_ble_eq_true rfl) ?_
      refine ARun.pure (PureOp.intOp rfl (.tmp rfl) .int rfl) rfl rfl (Nat.le_of_ble_eq_true rfl) ?_
      refine ARun.nil ?_
      refine AW.cond (.tmp rfl) (fun hb5 => ?_) (fun hb5 => ?_)
      · have _u := True.intro
        replace hb5 := of_decide_eq_true hb5
        refine AW.seq ?_
        refine AW.region ?_
        refine ARun.pure (PureOp.assign rfl .int) rfl rfl (Nat.le_of_ble_eq_true rfl) ?_
        refine ARun.nil ?_
        refine AW.ret (show ResL _ _ [.tmp 4] _ from resI rfl ?_)
        unfold wtTell
        rw [← hs2c, ← hs4c]
        exact (szR_neg (by omega) hb5 _).symm
      · have _u := True.intro
        replace hb5 := of_decide_eq_false hb5
        obtain ⟨hs6, hs6b, hs6c⟩ := szR_ok (by omega) hb5
        refine AW.skip ?_
        refine AW.seq ?_
        refine AW.region ?_
        refine ARun.pure (PureOp.fieldPtr rfl (.tmp rfl) vz_fi_75_3_3) rfl rfl (Nat.le_of_ble_eq_true rfl) ?_
        refine ARun.pure (PureOp.loadPtr rfl (.tmp rfl) vz_pl_73 rfl rfl (Nat.le_of_ble_eq_true rfl) (Nat.le_of_ble_eq_true rfl)) rfl rfl (Nat.le_of_ble_eq_true rfl) ?_
        refine ARun.pure (PureOp.move rfl (.tmp rfl)) rfl rfl (Nat.le_of_ble_eq_true rfl) ?_
        refine ARun.pure (PureOp.call rfl (v_szToldS x.log (szR (szR (szR left (wtl (wtl ByteArray.size) x.texts)) (x.heard.length)) (wtl wtNote x.line)) (by first | omega | (unfold szR at *; split at * <;> omega))) ⟨⟨_, (.tmp rfl), .lst⟩, ⟨_, (.tmp rfl), .int⟩, trivial⟩ vz_ca_109 trivial) rfl rfl (Nat.le_of_ble_eq_true rfl) ?_
        refine ARun.pure (PureOp.assign rfl (.tmp rfl)) rfl rfl (Nat.le_of_ble_eq_true rfl) ?_
        refine ARun.nil ?_
        refine AW.seq ?_
        refine AW.seq ?_
        refine AW.region ?_
        refine ARun.pure (PureOp.move rfl (.tmp rfl)) rfl rfl (Nat.le_of_ble_eq_true rfl) ?_
        refine ARun.pure (PureOp.intOp rfl (.tmp rfl) .int rfl) rfl rfl (Nat.le_of_ble_eq_true rfl) ?_
        refine ARun.nil ?_
        refine AW.cond (.tmp rfl) (fun hb7 => ?_) (fun hb7 => ?_)
        · have _u := True.intro
          replace hb7 := of_decide_eq_true hb7
          refine AW.seq ?_
          refine AW.region ?_
          refine ARun.pure (PureOp.assign rfl .int) rfl rfl (Nat.le_of_ble_eq_true rfl) ?_
          refine ARun.nil ?_
          refine AW.ret (show ResL _ _ [.tmp 4] _ from resI rfl ?_)
          unfold wtTell
          rw [← hs2c, ← hs4c, ← hs6c]
          exact (szR_neg (by omega) hb7 _).symm
        · have _u := True.intro
          replace hb7 := of_decide_eq_false hb7
          obtain ⟨hs8, hs8b, hs8c⟩ := szR_ok (by omega) hb7
          refine AW.skip ?_
          refine AW.seq ?_
          refine AW.region ?_
          refine ARun.pure (PureOp.fieldPtr rfl (.tmp rfl) vz_fi_75_4_4) rfl rfl (Nat.le_of_ble_eq_true rfl) ?_
          refine ARun.pure (PureOp.loadPtr rfl (.tmp rfl) vz_pl_22 rfl rfl (Nat.le_of_ble_eq_true rfl) (Nat.le_of_ble_eq_true rfl)) rfl rfl (Nat.le_of_ble_eq_true rfl) ?_
          refine ARun.pure (PureOp.move rfl (.tmp rfl)) rfl rfl (Nat.le_of_ble_eq_true rfl) ?_
          refine ARun.pure (PureOp.call rfl (v_szIntS x.next (szR (szR (szR (szR left (wtl (wtl ByteArray.size) x.texts)) (x.heard.length)) (wtl wtNote x.line)) (wtl wtTold x.log)) (by first | omega | (unfold szR at *; split at * <;> omega))) ⟨⟨_, (.tmp rfl), .lst⟩, ⟨_, (.tmp rfl), .int⟩, trivial⟩ vz_ca_88 trivial) rfl rfl (Nat.le_of_ble_eq_true rfl) ?_
          refine ARun.pure (PureOp.assign rfl (.tmp rfl)) rfl rfl (Nat.le_of_ble_eq_true rfl) ?_
          refine ARun.nil ?_
          refine AW.seq ?_
          refine AW.seq ?_
          refine AW.region ?_
          refine ARun.pure (PureOp.move rfl (.tmp rfl)) rfl rfl (Nat.le_of_ble_eq_true rfl) ?_
          refine ARun.pure (PureOp.intOp rfl (.tmp rfl) .int rfl) rfl rfl (Nat.le_of_ble_eq_true rfl) ?_
          refine ARun.nil ?_
          refine AW.cond (.tmp rfl) (fun hb9 => ?_) (fun hb9 => ?_)
          · have _u := True.intro
            replace hb9 := of_decide_eq_true hb9
            refine AW.seq ?_
            refine AW.region ?_
            refine ARun.pure (PureOp.assign rfl .int) rfl rfl (Nat.le_of_ble_eq_true rfl) ?_
            refine ARun.nil ?_
            refine AW.ret (show ResL _ _ [.tmp 4] _ from resI rfl ?_)
            unfold wtTell
            rw [← hs2c, ← hs4c, ← hs6c, ← hs8c]
            exact (szR_neg0 (by omega) hb9).symm
          · have _u := True.intro
            replace hb9 := of_decide_eq_false hb9
            obtain ⟨hs10, hs10b, hs10c⟩ := szR_ok (by omega) hb9
            refine AW.skip ?_
            refine AW.seq ?_
            refine AW.region ?_
            refine ARun.pure (PureOp.move rfl (.tmp rfl)) rfl rfl (Nat.le_of_ble_eq_true rfl) ?_
            refine ARun.pure (PureOp.assign rfl (.tmp rfl)) rfl rfl (Nat.le_of_ble_eq_true rfl) ?_
            refine ARun.nil ?_
            refine AW.ret (show ResL _ _ [.tmp 4] _ from resI rfl ?_)
            unfold wtTell
            rw [hs8c, hs6c, hs4c, hs2c]

theorem v_szNode (x : GNode) (left : Int) (hl : 0 ≤ left ∧ left ≤ 1048576) : Fn Try.prog 121 [.agg [.int .i64 x.term, .int .i64 x.voted, .int .i64 x.age, .lst 1 x.heard.length (fun i0 _ => .int .i64 (x.heard.getD i0 0)), .int .i64 x.role], .one (.int .i64 left)] (.one (.int .i64 (szR left (wtNode x)))) := by
  obtain ⟨h0, h1⟩ := hl
  refine Fn.of_body (fn := Try.f121) Try.func121 rfl (Nat.le_of_ble_eq_true rfl) trivial ?_
  intro w0
  show AW _ 12 _ _ _ _
  refine AW.seq ?_
  refine AW.region ?_
  refine ARun.box (id := 0) rfl (.tmp rfl) (SV.cells_of (by exact ⟨trivial, trivial, trivial, trivial, trivial, trivial⟩)) ⟨rfl, (by repeat first | exact trivial | refine ⟨by decide, by first | rfl | exact trivial | (intro i j; first | rfl | exact getD_no rfl | (dsimp only; split <;> first | rfl | exact getD_no rfl)), ?_⟩)⟩ rfl rfl rfl (Nat.le_of_ble_eq_true rfl) ?_
  refine ARun.pure (PureOp.assign rfl .int) rfl rfl (Nat.le_of_ble_eq_true rfl) ?_
  refine ARun.nil ?_
  refine AW.seq ?_
  refine AW.region ?_
  refine ARun.pure (PureOp.fieldPtr rfl (.tmp rfl) vz_fi_138_3_3) rfl rfl (Nat.le_of_ble_eq_true rfl) ?_
  refine ARun.pure (PureOp.loadPtr rfl (.tmp rfl) vz_pl_22 rfl rfl (Nat.le_of_ble_eq_true rfl) (Nat.le_of_ble_eq_true rfl)) rfl rfl (Nat.le_of_ble_eq_true rfl) ?_
  refine ARun.pure (PureOp.move rfl (.tmp rfl)) rfl rfl (Nat.le_of_ble_eq_true rfl) ?_
  refine ARun.pure (PureOp.call rfl (v_szIntS x.heard left (by first | omega | (unfold szR at *; split at * <;> omega))) ⟨⟨_, (.tmp rfl), .lst⟩, ⟨_, (.tmp rfl), .int⟩, trivial⟩ vz_ca_88 trivial) rfl rfl (Nat.le_of_ble_eq_true rfl) ?_
  refine ARun.pure (PureOp.assign rfl (.tmp rfl)) rfl rfl (Nat.le_of_ble_eq_true rfl) ?_
  refine ARun.nil ?_
  refine AW.seq ?_
  refine AW.seq ?_
  refine AW.region ?_
  refine ARun.pure (PureOp.move rfl (.tmp rfl)) rfl rfl (Nat.le_of_ble_eq_true rfl) ?_
  refine ARun.pure (PureOp.intOp rfl (.tmp rfl) .int rfl) rfl rfl (Nat.le_of_ble_eq_true rfl) ?_
  refine ARun.nil ?_
  refine AW.cond (.tmp rfl) (fun hb1 => ?_) (fun hb1 => ?_)
  · have _u := True.intro
    replace hb1 := of_decide_eq_true hb1
    refine AW.seq ?_
    refine AW.region ?_
    refine ARun.pure (PureOp.assign rfl .int) rfl rfl (Nat.le_of_ble_eq_true rfl) ?_
    refine ARun.nil ?_
    refine AW.ret (show ResL _ _ [.tmp 4] _ from resI rfl ?_)
    unfold wtNode
    exact (szR_neg0 (by omega) hb1).symm
  · have _u := True.intro
    replace hb1 := of_decide_eq_false hb1
    obtain ⟨hs2, hs2b, hs2c⟩ := szR_ok (by omega) hb1
    refine AW.skip ?_
    refine AW.seq ?_
    refine AW.region ?_
    refine ARun.pure (PureOp.move rfl (.tmp rfl)) rfl rfl (Nat.le_of_ble_eq_true rfl) ?_
    refine ARun.pure (PureOp.assign rfl (.tmp rfl)) rfl rfl (Nat.le_of_ble_eq_true rfl) ?_
    refine ARun.nil ?_
    refine AW.ret (show ResL _ _ [.tmp 4] _ from resI rfl ?_)
    rfl

theorem v_szNodeS (x : List GNode) (left : Int) (hl : 0 ≤ left ∧ left ≤ 1048576) : Fn Try.prog 73 [.one (.lst 5 x.length (fun i0 j0 => ([.int .i64 ((x.getD i0 (default : GNode)).term), .int .i64 ((x.getD i0 (default : GNode)).voted), .int .i64 ((x.getD i0 (default : GNode)).age), .lst 1 (((x.getD i0 (default : GNode)).heard).length) (fun i1 _ => .int .i64 (((x.getD i0 (default : GNode)).heard).getD i1 0)), .int .i64 ((x.getD i0 (default : GNode)).role)] : List AV).getD j0 (.con undef))), .one (.int .i64 left)] (.one (.int .i64 (szR left (wtl wtNode x)))) := by
  obtain ⟨h0, h1⟩ := hl
  refine Fn.of_body (fn := Try.f73) Try.func73 rfl (Nat.le_of_ble_eq_true rfl) trivial ?_
  intro w0
  show AW _ 27 _ _ _ _
  refine AW.bound (t := 0) rfl fun hx => ?_
  refine AW.seq ?_
  refine AW.region ?_
  refine ARun.pure (PureOp.assign rfl .int) rfl rfl (Nat.le_of_ble_eq_true rfl) ?_
  refine ARun.nil ?_
  refine AW.seq ?_
  refine AW.region ?_
  refine ARun.pure (PureOp.move rfl (.tmp rfl)) rfl rfl (Nat.le_of_ble_eq_true rfl) ?_
  refine ARun.pure (PureOp.move rfl (.tmp rfl)) rfl rfl (Nat.le_of_ble_eq_true rfl) ?_
  refine ARun.pure (PureOp.lenLst rfl (.tmp rfl) vz_sl_36) rfl rfl (Nat.le_of_ble_eq_true rfl) ?_
  refine ARun.pure (PureOp.sub (c := left - (x.length : Int)) rfl (.tmp rfl) (.tmp rfl) (wrap_id (by omega) (by omega))) rfl rfl (Nat.le_of_ble_eq_true rfl) ?_
  refine ARun.pure (PureOp.assign rfl (.tmp rfl)) rfl rfl (Nat.le_of_ble_eq_true rfl) ?_
  refine ARun.nil ?_
  refine AW.seq ?_
  refine AW.seq ?_
  refine AW.region ?_
  refine ARun.pure (PureOp.move rfl (.tmp rfl)) rfl rfl (Nat.le_of_ble_eq_true rfl) ?_
  refine ARun.pure (PureOp.intOp rfl (.tmp rfl) .int rfl) rfl rfl (Nat.le_of_ble_eq_true rfl) ?_
  refine ARun.nil ?_
  refine AW.cond (.tmp rfl) (fun hb1 => ?_) (fun hb1 => ?_)
  · have _u := True.intro
    replace hb1 := of_decide_eq_true hb1
    refine AW.seq ?_
    refine AW.region ?_
    refine ARun.pure (PureOp.assign rfl .int) rfl rfl (Nat.le_of_ble_eq_true rfl) ?_
    refine ARun.nil ?_
    refine AW.ret (show ResL _ _ [.tmp 4] _ from resI rfl ?_)
    first | exact hfin | exact szL_end hlt hq | exact szL_big (by omega)
  · have _u := True.intro
    replace hb1 := of_decide_eq_false hb1
    refine AW.skip ?_
    refine AW.seq ?_
    refine AW.seq ?_
    refine AW.region ?_
    refine ARun.pure (PureOp.assign rfl .int) rfl rfl (Nat.le_of_ble_eq_true rfl) ?_
    refine ARun.nil ?_
    refine AW.block ?_
    refine AW.loop (ι := Nat) (fun k => ⟨[(0, .one (.lst 5 x.length (fun i0 j0 => ([.int .i64 ((x.getD i0 (default : GNode)).term), .int .i64 ((x.getD i0 (default : GNode)).voted), .int .i64 ((x.getD i0 (default : GNode)).age), .lst 1 (((x.getD i0 (default : GNode)).heard).length) (fun i1 _ => .int .i64 (((x.getD i0 (default : GNode)).heard).getD i1 0)), .int .i64 ((x.getD i0 (default : GNode)).role)] : List AV).getD j0 (.con undef)))), (1, .one (.int .i64 (left - (x.length : Int) - ((((x.take k).map wtNode).sum : Nat) : Int)))), (5, .one (.int .i64 (k : Int)))], []⟩) (fun k => k ≤ x.length ∧ 0 ≤ left - (x.length : Int) - ((((x.take k).map wtNode).sum : Nat) : Int)) (fun k => x.length - k) 0 ⟨Nat.zero_le _, by simp; omega⟩ ⟨⟨⟨_, rfl, rfl⟩, ⟨_, rfl, by simp⟩, ⟨_, rfl, rfl⟩, trivial⟩, trivial⟩ ?_
    intro k hI
    obtain ⟨hk, hq⟩ := hI
    refine AW.seq ?_
    refine AW.seq ?_
    refine AW.region ?_
    refine ARun.pure (PureOp.move rfl (.tmp rfl)) rfl rfl (Nat.le_of_ble_eq_true rfl) ?_
    refine ARun.pure (PureOp.move rfl (.tmp rfl)) rfl rfl (Nat.le_of_ble_eq_true rfl) ?_
    refine ARun.pure (PureOp.lenLst rfl (.tmp rfl) vz_sl_36) rfl rfl (Nat.le_of_ble_eq_true rfl) ?_
    refine ARun.pure (PureOp.intOp rfl (.tmp rfl) (.tmp rfl) rfl) rfl rfl (Nat.le_of_ble_eq_true rfl) ?_
    refine ARun.nil ?_
    refine AW.cond (.tmp rfl) (fun hb2 => ?_) (fun hb2 => ?_)
    · have _u := True.intro
      replace hb2 := of_decide_eq_true hb2
      have hlt : k < x.length := by omega
      refine AW.skip ?_
      refine AW.seq ?_
      refine AW.block ?_
      refine AW.seq ?_
      refine AW.region ?_
      refine ARun.pure (PureOp.move rfl (.tmp rfl)) rfl rfl (Nat.le_of_ble_eq_true rfl) ?_
      refine ARun.pure (PureOp.move rfl (.tmp rfl)) rfl rfl (Nat.le_of_ble_eq_true rfl) ?_
      refine ARun.pure (PureOp.indexLst (i := k) rfl (.tmp rfl) vz_el_36_5 (.tmp rfl) rfl (by omega)) rfl rfl (Nat.le_of_ble_eq_true rfl) ?_
      refine ARun.pure (PureOp.loadRefAgg rfl (.tmp rfl) vz_ag_138_5 (Nat.le_of_ble_eq_true rfl)) rfl rfl (Nat.le_of_ble_eq_true rfl) ?_
      refine ARun.pure (PureOp.move rfl (.tmp rfl)) rfl rfl (Nat.le_of_ble_eq_true rfl) ?_
      refine ARun.pure (PureOp.call rfl (v_szNode (x.getD k (default : GNode)) (left - (x.length : Int) - ((((x.take k).map wtNode).sum : Nat) : Int)) (by first | omega | (unfold szR at *; split at * <;> omega))) ⟨⟨_, (.tmp rfl), ⟨.int, .int, .int, .lst, .int, trivial⟩⟩, ⟨_, (.tmp rfl), .int⟩, trivial⟩ vz_ca_121 trivial) rfl rfl (Nat.le_of_ble_eq_true rfl) ?_
      refine ARun.pure (PureOp.assign rfl (.tmp rfl)) rfl rfl (Nat.le_of_ble_eq_true rfl) ?_
      refine ARun.nil ?_
      refine AW.seq ?_
      refine AW.region ?_
      refine ARun.pure (PureOp.move rfl (.tmp rfl)) rfl rfl (Nat.le_of_ble_eq_true rfl) ?_
      refine ARun.pure (PureOp.intOp rfl (.tmp rfl) .int rfl) rfl rfl (Nat.le_of_ble_eq_true rfl) ?_
      refine ARun.nil ?_
      refine AW.cond (.tmp rfl) (fun hb3 => ?_) (fun hb3 => ?_)
      · have _u := True.intro
        replace hb3 := of_decide_eq_true hb3
        have hfin := szL_neg (f := wtNode) (d := (default : GNode)) hlt hq hb3
        refine AW.seq ?_
        refine AW.region ?_
        refine ARun.pure (PureOp.assign rfl .int) rfl rfl (Nat.le_of_ble_eq_true rfl) ?_
        refine ARun.nil ?_
        refine AW.ret (show ResL _ _ [.tmp 4] _ from resI rfl ?_)
        first | exact hfin | exact szL_end hlt hq | exact szL_big (by omega)
      · have _u := True.intro
        replace hb3 := of_decide_eq_false hb3
        obtain ⟨hs1, hs2⟩ := szL_next (f := wtNode) (d := (default : GNode)) hlt hq hb3
        refine AW.skip ?_
        refine AW.region ?_
        refine ARun.pure (PureOp.move rfl (.tmp rfl)) rfl rfl (Nat.le_of_ble_eq_true rfl) ?_
        refine ARun.pure (PureOp.add (c := ((k + 1 : Nat) : Int)) rfl (.tmp rfl) .int (by rw [wrap_id (by omega) (by omega)]; omega)) rfl rfl (Nat.le_of_ble_eq_true rfl) ?_
        refine ARun.pure (PureOp.assign rfl (.tmp rfl)) rfl rfl (Nat.le_of_ble_eq_true rfl) ?_
        refine ARun.nil ?_
        exact ⟨k + 1, ⟨by omega, hs1⟩, by dsimp only; omega, ⟨⟨⟨_, rfl, rfl⟩, ⟨_, rfl, congrArg (fun z => SV.one (.int .i64 z)) hs2⟩, ⟨_, rfl, rfl⟩, trivial⟩, trivial⟩⟩
    · have _u := True.intro
      replace hb2 := of_decide_eq_false hb2
      have hlt : ¬ k < x.length := by omega
      refine AW.exit ?_
      refine AW.seq ?_
      refine AW.region ?_
      refine ARun.pure (PureOp.move rfl (.tmp rfl)) rfl rfl (Nat.le_of_ble_eq_true rfl) ?_
      refine ARun.pure (PureOp.assign rfl (.tmp rfl)) rfl rfl (Nat.le_of_ble_eq_true rfl) ?_
      refine ARun.nil ?_
      refine AW.ret (show ResL _ _ [.tmp 4] _ from resI rfl ?_)
      first | exact hfin | exact szL_end hlt hq | exact szL_big (by omega)

theorem v_szLetterS (x : List GLetter) (left : Int) (hl : 0 ≤ left ∧ left ≤ 1048576) : Fn Try.prog 74 [.one (.lst 5 x.length (fun i0 j0 => ([.int .i64 ((x.getD i0 (default : GLetter)).from_), .int .i64 ((x.getD i0 (default : GLetter)).to), .int .i64 ((x.getD i0 (default : GLetter)).term), .bool ((x.getD i0 (default : GLetter)).ask), .int .i64 ((x.getD i0 (default : GLetter)).age)] : List AV).getD j0 (.con undef))), .one (.int .i64 left)] (.one (.int .i64 (szR left (x.length)))) := by
  obtain ⟨h0, h1⟩ := hl
  refine Fn.of_body (fn := Try.f74) Try.func74 rfl (Nat.le_of_ble_eq_true rfl) trivial ?_
  intro w0
  show AW _ 12 _ _ _ _
  refine AW.bound (t := 0) rfl fun hx => ?_
  refine AW.seq ?_
  refine AW.region ?_
  refine ARun.pure (PureOp.assign rfl .int) rfl rfl (Nat.le_of_ble_eq_true rfl) ?_
  refine ARun.nil ?_
  refine AW.seq ?_
  refine AW.region ?_
  refine ARun.pure (PureOp.move rfl (.tmp rfl)) rfl rfl (Nat.le_of_ble_eq_true rfl) ?_
  refine ARun.pure (PureOp.move rfl (.tmp rfl)) rfl rfl (Nat.le_of_ble_eq_true rfl) ?_
  refine ARun.pure (PureOp.lenLst rfl (.tmp rfl) vz_sl_37) rfl rfl (Nat.le_of_ble_eq_true rfl) ?_
  refine ARun.pure (PureOp.sub (c := left - (x.length : Int)) rfl (.tmp rfl) (.tmp rfl) (wrap_id (by omega) (by omega))) rfl rfl (Nat.le_of_ble_eq_true rfl) ?_
  refine ARun.pure (PureOp.assign rfl (.tmp rfl)) rfl rfl (Nat.le_of_ble_eq_true rfl) ?_
  refine ARun.nil ?_
  refine AW.seq ?_
  refine AW.seq ?_
  refine AW.region ?_
  refine ARun.pure (PureOp.move rfl (.tmp rfl)) rfl rfl (Nat.le_of_ble_eq_true rfl) ?_
  refine ARun.pure (PureOp.intOp rfl (.tmp rfl) .int rfl) rfl rfl (Nat.le_of_ble_eq_true rfl) ?_
  refine ARun.nil ?_
  refine AW.cond (.tmp rfl) (fun hb1 => ?_) (fun hb1 => ?_)
  · have _u := True.intro
    replace hb1 := of_decide_eq_true hb1
    refine AW.seq ?_
    refine AW.region ?_
    refine ARun.pure (PureOp.assign rfl .int) rfl rfl (Nat.le_of_ble_eq_true rfl) ?_
    refine ARun.nil ?_
    refine AW.ret (show ResL _ _ [.tmp 4] _ from resI rfl ?_)
    first | exact szF_big (by omega) | exact szF_ok (by omega)
  · have _u := True.intro
    replace hb1 := of_decide_eq_false hb1
    refine AW.skip ?_
    refine AW.seq ?_
    refine AW.region ?_
    refine ARun.pure (PureOp.move rfl (.tmp rfl)) rfl rfl (Nat.le_of_ble_eq_true rfl) ?_
    refine ARun.pure (PureOp.assign rfl (.tmp rfl)) rfl rfl (Nat.le_of_ble_eq_true rfl) ?_
    refine ARun.nil ?_
    refine AW.ret (show ResL _ _ [.tmp 4] _ from resI rfl ?_)
    first | exact szF_big (by omega) | exact szF_ok (by omega)

theorem v_szPoll (x : GPoll) (left : Int) (hl : 0 ≤ left ∧ left ≤ 1048576) : Fn Try.prog 22 [.agg [.lst 5 x.nodes.length (fun i0 j0 => ([.int .i64 ((x.nodes.getD i0 (default : GNode)).term), .int .i64 ((x.nodes.getD i0 (default : GNode)).voted), .int .i64 ((x.nodes.getD i0 (default : GNode)).age), .lst 1 (((x.nodes.getD i0 (default : GNode)).heard).length) (fun i1 _ => .int .i64 (((x.nodes.getD i0 (default : GNode)).heard).getD i1 0)), .int .i64 ((x.nodes.getD i0 (default : GNode)).role)] : List AV).getD j0 (.con undef)), .lst 5 x.letters.length (fun i0 j0 => ([.int .i64 ((x.letters.getD i0 (default : GLetter)).from_), .int .i64 ((x.letters.getD i0 (default : GLetter)).to), .int .i64 ((x.letters.getD i0 (default : GLetter)).term), .bool ((x.letters.getD i0 (default : GLetter)).ask), .int .i64 ((x.letters.getD i0 (default : GLetter)).age)] : List AV).getD j0 (.con undef)), .lst 1 x.leaders.length (fun i0 _ => .lst 1 ((x.leaders.getD i0 []).length) (fun i1 _ => .int .i64 ((x.leaders.getD i0 []).getD i1 0)))], .one (.int .i64 left)] (.one (.int .i64 (szR left (wtPoll x)))) := by
  obtain ⟨h0, h1⟩ := hl
  refine Fn.of_body (fn := Try.f22) Try.func22 rfl (Nat.le_of_ble_eq_true rfl) trivial ?_
  intro w0
  show AW _ 24 _ _ _ _
  refine AW.seq ?_
  refine AW.region ?_
  refine ARun.box (id := 0) rfl (.tmp rfl) (SV.cells_of (by exact ⟨trivial, trivial, trivial, trivial⟩)) ⟨rfl, (by repeat first | exact trivial | refine ⟨by decide, by first | rfl | exact trivial | (intro i j; first | rfl | exact getD_no rfl | (dsimp only; split <;> first | rfl | exact getD_no rfl)), ?_⟩)⟩ rfl rfl rfl (Nat.le_of_ble_eq_true rfl) ?_
  refine ARun.pure (PureOp.assign rfl .int) rfl rfl (Nat.le_of_ble_eq_true rfl) ?_
  refine ARun.nil ?_
  refine AW.seq ?_
  refine AW.region ?_
  refine ARun.pure (PureOp.fieldPtr rfl (.tmp rfl) vz_fi_39_0_0) rfl rfl (Nat.le_of_ble_eq_true rfl) ?_
  refine ARun.pure (PureOp.loadPtr rfl (.tmp rfl) vz_pl_36 rfl rfl (Nat.le_of_ble_eq_true rfl) (Nat.le_of_ble_eq_true rfl)) rfl rfl (Nat.le_of_ble_eq_true rfl) ?_
  refine ARun.pure (PureOp.move rfl (.tmp rfl)) rfl rfl (Nat.le_of_ble_eq_true rfl) ?_
  refine ARun.pure (PureOp.call rfl (v_szNodeS x.nodes left (by first | omega | (unfold szR at *; split at * <;> omega))) ⟨⟨_, (.tmp rfl), .lst⟩, ⟨_, (.tmp rfl), .int⟩, trivial⟩ vz_ca_73 trivial) rfl rfl (Nat.le_of_ble_eq_true rfl) ?_
  refine ARun.pure (PureOp.assign rfl (.tmp rfl)) rfl rfl (Nat.le_of_ble_eq_true rfl) ?_
  refine ARun.nil ?_
  refine AW.seq ?_
  refine AW.seq ?_
  refine AW.region ?_
  refine ARun.pure (PureOp.move rfl (.tmp rfl)) rfl rfl (Nat.le_of_ble_eq_true rfl) ?_
  refine ARun.pure (PureOp.intOp rfl (.tmp rfl) .int rfl) rfl rfl (Nat.le_of_ble_eq_true rfl) ?_
  refine ARun.nil ?_
  refine AW.cond (.tmp rfl) (fun hb1 => ?_) (fun hb1 => ?_)
  · have _u := True.intro
    replace hb1 := of_decide_eq_true hb1
    refine AW.seq ?_
    refine AW.region ?_
    refine ARun.pure (PureOp.assign rfl .int) rfl rfl (Nat.le_of_ble_eq_true rfl) ?_
    refine ARun.nil ?_
    refine AW.ret (show ResL _ _ [.tmp 4] _ from resI rfl ?_)
    unfold wtPoll
    exact (szR_neg (by omega) hb1 _).symm
  · have _u := True.intro
    replace hb1 := of_decide_eq_false hb1
    obtain ⟨hs2, hs2b, hs2c⟩ := szR_ok (by omega) hb1
    refine AW.skip ?_
    refine AW.seq ?_
    refine AW.region ?_
    refine ARun.pure (PureOp.fieldPtr rfl (.tmp rfl) vz_fi_39_1_1) rfl rfl (Nat.le_of_ble_eq_true rfl) ?_
    refine ARun.pure (PureOp.loadPtr rfl (.tmp rfl) vz_pl_37 rfl rfl (Nat.le_of_ble_eq_true rfl) (Nat.le_of_ble_eq_true rfl)) rfl rfl (Nat.le_of_ble_eq_true rfl) ?_
    refine ARun.pure (PureOp.move rfl (.tmp rfl)) rfl rfl (Nat.le_of_ble_eq_true rfl) ?_
    refine ARun.pure (PureOp.call rfl (v_szLetterS x.letters (szR left (wtl wtNode x.nodes)) (by first | omega | (unfold szR at *; split at * <;> omega))) ⟨⟨_, (.tmp rfl), .lst⟩, ⟨_, (.tmp rfl), .int⟩, trivial⟩ vz_ca_74 trivial) rfl rfl (Nat.le_of_ble_eq_true rfl) ?_
    refine ARun.pure (PureOp.assign rfl (.tmp rfl)) rfl rfl (Nat.le_of_ble_eq_true rfl) ?_
    refine ARun.nil ?_
    refine AW.seq ?_
    refine AW.seq ?_
    refine AW.region ?_
    refine ARun.pure (PureOp.move rfl (.tmp rfl)) rfl rfl (Nat.le_of_ble_eq_true rfl) ?_
    refine ARun.pure (PureOp.intOp rfl (.tmp rfl) .int rfl) rfl rfl (Nat.le_of_ble_eq_true rfl) ?_
    refine ARun.nil ?_
    refine AW.cond (.tmp rfl) (fun hb3 => ?_) (fun hb3 => ?_)
    · have _u := True.intro
      replace hb3 := of_decide_eq_true hb3
      refine AW.seq ?_
      refine AW.region ?_
      refine ARun.pure (PureOp.assign rfl .int) rfl rfl (Nat.le_of_ble_eq_true rfl) ?_
      refine ARun.nil ?_
      refine AW.ret (show ResL _ _ [.tmp 4] _ from resI rfl ?_)
      unfold wtPoll
      rw [← hs2c]
      exact (szR_neg (by omega) hb3 _).symm
    · have _u := True.intro
      replace hb3 := of_decide_eq_false hb3
      obtain ⟨hs4, hs4b, hs4c⟩ := szR_ok (by omega) hb3
      refine AW.skip ?_
      refine AW.seq ?_
      refine AW.region ?_
      refine ARun.pure (PureOp.fieldPtr rfl (.tmp rfl) vz_fi_39_2_2) rfl rfl (Nat.le_of_ble_eq_true rfl) ?_
      refine ARun.pure (PureOp.loadPtr rfl (.tmp rfl) vz_pl_25 rfl rfl (Nat.le_of_ble_eq_true rfl) (Nat.le_of_ble_eq_true rfl)) rfl rfl (Nat.le_of_ble_eq_true rfl) ?_
      refine ARun.pure (PureOp.move rfl (.tmp rfl)) rfl rfl (Nat.le_of_ble_eq_true rfl) ?_
      refine ARun.pure (PureOp.call rfl (v_szIntSS x.leaders (szR (szR left (wtl wtNode x.nodes)) (x.letters.length)) (by first | omega | (unfold szR at *; split at * <;> omega))) ⟨⟨_, (.tmp rfl), .lst⟩, ⟨_, (.tmp rfl), .int⟩, trivial⟩ vz_ca_75 trivial) rfl rfl (Nat.le_of_ble_eq_true rfl) ?_
      refine ARun.pure (PureOp.assign rfl (.tmp rfl)) rfl rfl (Nat.le_of_ble_eq_true rfl) ?_
      refine ARun.nil ?_
      refine AW.seq ?_
      refine AW.seq ?_
      refine AW.region ?_
      refine ARun.pure (PureOp.move rfl (.tmp rfl)) rfl rfl (Nat.le_of_ble_eq_true rfl) ?_
      refine ARun.pure (PureOp.intOp rfl (.tmp rfl) .int rfl) rfl rfl (Nat.le_of_ble_eq_true rfl) ?_
      refine ARun.nil ?_
      refine AW.cond (.tmp rfl) (fun hb5 => ?_) (fun hb5 => ?_)
      · have _u := True.intro
        replace hb5 := of_decide_eq_true hb5
        refine AW.seq ?_
        refine AW.region ?_
        refine ARun.pure (PureOp.assign rfl .int) rfl rfl (Nat.le_of_ble_eq_true rfl) ?_
        refine ARun.nil ?_
        refine AW.ret (show ResL _ _ [.tmp 4] _ from resI rfl ?_)
        unfold wtPoll
        rw [← hs2c, ← hs4c]
        exact (szR_neg0 (by omega) hb5).symm
      · have _u := True.intro
        replace hb5 := of_decide_eq_false hb5
        obtain ⟨hs6, hs6b, hs6c⟩ := szR_ok (by omega) hb5
        refine AW.skip ?_
        refine AW.seq ?_
        refine AW.region ?_
        refine ARun.pure (PureOp.move rfl (.tmp rfl)) rfl rfl (Nat.le_of_ble_eq_true rfl) ?_
        refine ARun.pure (PureOp.assign rfl (.tmp rfl)) rfl rfl (Nat.le_of_ble_eq_true rfl) ?_
        refine ARun.nil ?_
        refine AW.ret (show ResL _ _ [.tmp 4] _ from resI rfl ?_)
        unfold wtPoll
        rw [hs4c, hs2c]
end Go.Proofs.Ytlbnodmebehpiaa
