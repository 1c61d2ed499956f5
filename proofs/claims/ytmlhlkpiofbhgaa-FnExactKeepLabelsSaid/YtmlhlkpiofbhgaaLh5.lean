/-
  What marks left is looked at again.
-/
import Derived.Test.YtmlhlkpiofbhgaaLa5
namespace Go.Proofs.Ytmlhlkpiofbhgaa
open Go.ChangeShapes Go.WideShapes Go.ChangeAt Go.RowKit Go.BigFrame Go.Deep
set_option linter.unusedVariables false
set_option linter.unusedSimpArgs false
theorem vh_bo_4 : boolB Try.prog 4 = true := by kernel_rfl
theorem vh_ca_55 : callB Try.prog 55 = true := by kernel_rfl
theorem vh_ca_56 : callB Try.prog 56 = true := by kernel_rfl
theorem vh_ca_57 : callB Try.prog 57 = true := by kernel_rfl
theorem vh_ca_58 : callB Try.prog 58 = true := by kernel_rfl
theorem vh_ca_87 : callB Try.prog 87 = true := by kernel_rfl
theorem vh_el_22_1 : elemB Try.prog 22 1 = true := by kernel_rfl
theorem vh_el_23_1 : elemB Try.prog 23 1 = true := by kernel_rfl
theorem vh_el_24_1 : elemB Try.prog 24 1 = true := by kernel_rfl
theorem vh_el_25_2 : elemB Try.prog 25 2 = true := by kernel_rfl
theorem vh_el_57_2 : elemB Try.prog 57 2 = true := by kernel_rfl
theorem vh_fi_106_0_0 : fieldB Try.prog 106 0 0 = true := by kernel_rfl
theorem vh_fi_106_1_1 : fieldB Try.prog 106 1 1 = true := by kernel_rfl
theorem vh_fi_120_0_0 : fieldB Try.prog 120 0 0 = true := by kernel_rfl
theorem vh_fi_120_1_1 : fieldB Try.prog 120 1 1 = true := by kernel_rfl
theorem vh_fi_27_0_0 : fieldB Try.prog 27 0 0 = true := by kernel_rfl
theorem vh_fi_27_1_1 : fieldB Try.prog 27 1 1 = true := by kernel_rfl
theorem vh_fi_27_4_4 : fieldB Try.prog 27 4 4 = true := by kernel_rfl
theorem vh_fi_27_5_5 : fieldB Try.prog 27 5 5 = true := by kernel_rfl
theorem vh_pl_22 : plainB Try.prog 22 = true := by kernel_rfl
theorem vh_pl_23 : plainB Try.prog 23 = true := by kernel_rfl
theorem vh_pl_24 : plainB Try.prog 24 = true := by kernel_rfl
theorem vh_pl_25 : plainB Try.prog 25 = true := by kernel_rfl
theorem vh_pl_3 : plainB Try.prog 3 = true := by kernel_rfl
theorem vh_pl_4 : plainB Try.prog 4 = true := by kernel_rfl
theorem vh_pl_9 : plainB Try.prog 9 = true := by kernel_rfl
theorem vh_sl_22 : sliceB Try.prog 22 = true := by kernel_rfl
theorem vh_sl_23 : sliceB Try.prog 23 = true := by kernel_rfl
theorem vh_sl_24 : sliceB Try.prog 24 = true := by kernel_rfl
theorem vh_sl_25 : sliceB Try.prog 25 = true := by kernel_rfl
theorem vh_sl_57 : sliceB Try.prog 57 = true := by kernel_rfl
theorem h_LabelS (xx yy : List GLabel) (a : Nat) (hy : yy = mkL crLabel mrLabel xx a) (ha : 0 < a ∧ a + ctL crLabel xx ≤ 900000000) : Fn Try.prog 38 [.one (.lst 2 yy.length (fun i0 j0 => ([.str ((yy.getD i0 (default : GLabel)).lname), .str ((yy.getD i0 (default : GLabel)).lvalue)] : List AV).getD j0 (.con undef))), .one (.int .i64 (a : Int))] (.one (.int .i64 ((a + ctL crLabel xx : Nat) : Int))) := by
  obtain ⟨ha0, ha1⟩ := ha
  have hlen : yy.length = xx.length := by rw [hy]; exact mkL_len
  refine Fn.of_body (fn := Try.f38) Try.func38 rfl (Nat.le_of_ble_eq_true rfl) trivial ?_
  intro w0
  show AW _ 33 _ _ _ _
  refine AW.bound (t := 0) rfl fun hx => ?_
  refine AW.seq ?_
  refine AW.region ?_
  refine ARun.pure (PureOp.assign rfl .int) rfl rfl (Nat.le_of_ble_eq_true rfl) ?_
  refine ARun.nil ?_
  refine AW.seq ?_
  refine AW.seq ?_
  refine AW.region ?_
  refine ARun.pure (PureOp.assign rfl .int) rfl rfl (Nat.le_of_ble_eq_true rfl) ?_
  refine ARun.nil ?_
  refine AW.block ?_
  refine AW.loop (ι := Nat) (fun k => ⟨[(0, .one (.lst 2 yy.length (fun i0 j0 => ([.str ((yy.getD i0 (default : GLabel)).lname), .str ((yy.getD i0 (default : GLabel)).lvalue)] : List AV).getD j0 (.con undef)))), (1, .one (.int .i64 ((a + ((xx.take k).map crLabel).sum : Nat) : Int))), (5, .one (.int .i64 (k : Int)))], []⟩) (fun k => k ≤ xx.length) (fun k => xx.length - k) 0 (Nat.zero_le _) ⟨⟨⟨_, rfl, rfl⟩, ⟨_, rfl, by simp⟩, ⟨_, rfl, rfl⟩, trivial⟩, trivial⟩ ?_
  intro k hk
  refine AW.seq ?_
  refine AW.seq ?_
  refine AW.region ?_
  refine ARun.pure (PureOp.move rfl (.tmp rfl)) rfl rfl (Nat.le_of_ble_eq_true rfl) ?_
  refine ARun.pure (PureOp.move rfl (.tmp rfl)) rfl rfl (Nat.le_of_ble_eq_true rfl) ?_
  refine ARun.pure (PureOp.lenLst rfl (.tmp rfl) vh_sl_57) rfl rfl (Nat.le_of_ble_eq_true rfl) ?_
  refine ARun.pure (PureOp.intOp rfl (.tmp rfl) (.tmp rfl) rfl) rfl rfl (Nat.le_of_ble_eq_true rfl) ?_
  refine ARun.nil ?_
  refine AW.cond (.tmp rfl) (fun hb1 => ?_) (fun hb1 => ?_)
  · have _u := True.intro
    replace hb1 := of_decide_eq_true hb1
    have hkl : k < xx.length := by omega
    obtain ⟨hst, hsm⟩ := ct_step (ct := crLabel) (default : GLabel) hkl
    have he : yy.getD k (default : GLabel) = mrLabel (xx.getD k (default : GLabel)) (a + ((xx.take k).map crLabel).sum) := by rw [hy]; exact mkL_get (default : GLabel) hkl
    have hce : crLabel (xx.getD k (default : GLabel)) = 0 + 1 + 1 := rfl
    refine AW.skip ?_
    refine AW.seq ?_
    refine AW.block ?_
    refine AW.seq ?_
    refine AW.seq ?_
    refine AW.any (by kernel_rfl) (by kernel_rfl) ?_
    refine AD.pure (PureOp.move rfl (.tmp rfl)) rfl rfl (Nat.le_of_ble_eq_true rfl) ?_
    refine AD.pure (PureOp.move rfl (.tmp rfl)) rfl rfl (Nat.le_of_ble_eq_true rfl) ?_
    refine AD.pure (PureOp.indexLst (i := k) rfl (.tmp rfl) vh_el_57_2 (.tmp rfl) rfl (by omega)) rfl rfl (Nat.le_of_ble_eq_true rfl) ?_
    refine AD.pure (PureOp.fieldRef rfl (.tmp rfl) vh_fi_106_0_0 (Nat.le_of_ble_eq_true rfl)) rfl rfl (Nat.le_of_ble_eq_true rfl) ?_
    refine AD.pure (PureOp.loadRef rfl (.tmp rfl) vh_pl_9 (Nat.le_of_ble_eq_true rfl)) rfl rfl (Nat.le_of_ble_eq_true rfl) ?_
    refine AD.pure (PureOp.move rfl (.tmp rfl)) rfl rfl (Nat.le_of_ble_eq_true rfl) ?_
    refine AD.pure (PureOp.call rfl (v_markText (a + ((xx.take k).map crLabel).sum) (by omega) (by omega)) ⟨⟨_, (.tmp rfl), .int⟩, trivial⟩ vh_ca_87 (Nat.le_trans (mkText_size (by omega)) (by decide))) rfl rfl (Nat.le_of_ble_eq_true rfl) ?_
    refine AD.pure (PureOp.strOp rfl (.tmp rfl) (.tmp rfl) rfl) rfl rfl (Nat.le_of_ble_eq_true rfl) ?_
    refine AD.nil ?_
    refine AW.cond (.tmp rfl) (fun hb2 => ?_) (fun hb2 => ?_)
    · have _u := True.intro
      replace hb2 := of_decide_eq_false (of_not hb2)
      exact absurd (by rw [he]; rfl) hb2
      --end
    · have _u := True.intro
      replace hb2 := of_decide_eq_true (not_f hb2)
      refine AW.skip ?_
      refine AW.seq ?_
      refine AW.region ?_
      refine ARun.pure (PureOp.move rfl (.tmp rfl)) rfl rfl (Nat.le_of_ble_eq_true rfl) ?_
      refine ARun.pure (PureOp.add (c := ((a + ((xx.take k).map crLabel).sum + 1 : Nat) : Int)) rfl (.tmp rfl) .int (by rw [wrap_id (by omega) (by omega)]; omega)) rfl rfl (Nat.le_of_ble_eq_true rfl) ?_
      refine ARun.pure (PureOp.assign rfl (.tmp rfl)) rfl rfl (Nat.le_of_ble_eq_true rfl) ?_
      refine ARun.nil ?_
      refine AW.seq ?_
      refine AW.seq ?_
      refine AW.any (by kernel_rfl) (by kernel_rfl) ?_
      refine AD.pure (PureOp.move rfl (.tmp rfl)) rfl rfl (Nat.le_of_ble_eq_true rfl) ?_
      refine AD.pure (PureOp.move rfl (.tmp rfl)) rfl rfl (Nat.le_of_ble_eq_true rfl) ?_
      refine AD.pure (PureOp.indexLst (i := k) rfl (.tmp rfl) vh_el_57_2 (.tmp rfl) rfl (by omega)) rfl rfl (Nat.le_of_ble_eq_true rfl) ?_
      refine AD.pure (PureOp.fieldRef rfl (.tmp rfl) vh_fi_106_1_1 (Nat.le_of_ble_eq_true rfl)) rfl rfl (Nat.le_of_ble_eq_true rfl) ?_
      refine AD.pure (PureOp.loadRef rfl (.tmp rfl) vh_pl_9 (Nat.le_of_ble_eq_true rfl)) rfl rfl (Nat.le_of_ble_eq_true rfl) ?_
      refine AD.pure (PureOp.move rfl (.tmp rfl)) rfl rfl (Nat.le_of_ble_eq_true rfl) ?_
      refine AD.pure (PureOp.call rfl (v_markText (a + ((xx.take k).map crLabel).sum + 1) (by omega) (by omega)) ⟨⟨_, (.tmp rfl), .int⟩, trivial⟩ vh_ca_87 (Nat.le_trans (mkText_size (by omega)) (by decide))) rfl rfl (Nat.le_of_ble_eq_true rfl) ?_
      refine AD.pure (PureOp.strOp rfl (.tmp rfl) (.tmp rfl) rfl) rfl rfl (Nat.le_of_ble_eq_true rfl) ?_
      refine AD.nil ?_
      refine AW.cond (.tmp rfl) (fun hb3 => ?_) (fun hb3 => ?_)
      · have _u := True.intro
        replace hb3 := of_decide_eq_false (of_not hb3)
        exact absurd (by rw [he]; rfl) hb3
        --end
      · have _u := True.intro
        replace hb3 := of_decide_eq_true (not_f hb3)
        refine AW.skip ?_
        refine AW.region ?_
        refine ARun.pure (PureOp.move rfl (.tmp rfl)) rfl rfl (Nat.le_of_ble_eq_true rfl) ?_
        refine ARun.pure (PureOp.add (c := ((a + ((xx.take k).map crLabel).sum + 1 + 1 : Nat) : Int)) rfl (.tmp rfl) .int (by rw [wrap_id (by omega) (by omega)]; omega)) rfl rfl (Nat.le_of_ble_eq_true rfl) ?_
        refine ARun.pure (PureOp.assign rfl (.tmp rfl)) rfl rfl (Nat.le_of_ble_eq_true rfl) ?_
        refine ARun.nil ?_
        refine AW.region ?_
        refine ARun.pure (PureOp.move rfl (.tmp rfl)) rfl rfl (Nat.le_of_ble_eq_true rfl) ?_
        refine ARun.pure (PureOp.add (c := ((k + 1 : Nat) : Int)) rfl (.tmp rfl) .int (by rw [wrap_id (by omega) (by omega)]; omega)) rfl rfl (Nat.le_of_ble_eq_true rfl) ?_
        refine ARun.pure (PureOp.assign rfl (.tmp rfl)) rfl rfl (Nat.le_of_ble_eq_true rfl) ?_
        refine ARun.nil ?_
        exact ⟨k + 1, by omega, by dsimp only; omega, ⟨⟨⟨_, rfl, rfl⟩, ⟨_, rfl, congrArg (fun z : Nat => SV.one (.int .i64 (z : Int))) (by omega)⟩, ⟨_, rfl, rfl⟩, trivial⟩, trivial⟩⟩
  · have _u := True.intro
    replace hb1 := of_decide_eq_false hb1
    have hkl : ¬ k < xx.length := by omega
    refine AW.exit ?_
    refine AW.seq ?_
    refine AW.region ?_
    refine ARun.pure (PureOp.move rfl (.tmp rfl)) rfl rfl (Nat.le_of_ble_eq_true rfl) ?_
    refine ARun.pure (PureOp.assign rfl (.tmp rfl)) rfl rfl (Nat.le_of_ble_eq_true rfl) ?_
    refine ARun.nil ?_
    refine AW.ret (show ResL _ _ [.tmp 4] _ from resI rfl ?_)
    have hend : ctL crLabel xx = ((xx.take k).map crLabel).sum := (ct_end hkl).symm
    omega

theorem h_EntryS (xx yy : List GEntry) (a : Nat) (hy : yy = mkL crEntry mrEntry xx a) (ha : 0 < a ∧ a + ctL crEntry xx ≤ 900000000) : Fn Try.prog 58 [.one (.lst 2 yy.length (fun i0 j0 => ([.int .i64 ((yy.getD i0 (default : GEntry)).epoch), .str ((yy.getD i0 (default : GEntry)).text)] : List AV).getD j0 (.con undef))), .one (.int .i64 (a : Int))] (.one (.int .i64 ((a + ctL crEntry xx : Nat) : Int))) := by
  obtain ⟨ha0, ha1⟩ := ha
  have hlen : yy.length = xx.length := by rw [hy]; exact mkL_len
  refine Fn.of_body (fn := Try.f58) Try.func58 rfl (Nat.le_of_ble_eq_true rfl) trivial ?_
  intro w0
  show AW _ 32 _ _ _ _
  refine AW.bound (t := 0) rfl fun hx => ?_
  refine AW.seq ?_
  refine AW.region ?_
  refine ARun.pure (PureOp.assign rfl .int) rfl rfl (Nat.le_of_ble_eq_true rfl) ?_
  refine ARun.nil ?_
  refine AW.seq ?_
  refine AW.seq ?_
  refine AW.region ?_
  refine ARun.pure (PureOp.assign rfl .int) rfl rfl (Nat.le_of_ble_eq_true rfl) ?_
  refine ARun.nil ?_
  refine AW.block ?_
  refine AW.loop (ι := Nat) (fun k => ⟨[(0, .one (.lst 2 yy.length (fun i0 j0 => ([.int .i64 ((yy.getD i0 (default : GEntry)).epoch), .str ((yy.getD i0 (default : GEntry)).text)] : List AV).getD j0 (.con undef)))), (1, .one (.int .i64 ((a + ((xx.take k).map crEntry).sum : Nat) : Int))), (5, .one (.int .i64 (k : Int)))], []⟩) (fun k => k ≤ xx.length) (fun k => xx.length - k) 0 (Nat.zero_le _) ⟨⟨⟨_, rfl, rfl⟩, ⟨_, rfl, by simp⟩, ⟨_, rfl, rfl⟩, trivial⟩, trivial⟩ ?_
  intro k hk
  refine AW.seq ?_
  refine AW.seq ?_
  refine AW.region ?_
  refine ARun.pure (PureOp.move rfl (.tmp rfl)) rfl rfl (Nat.le_of_ble_eq_true rfl) ?_
  refine ARun.pure (PureOp.move rfl (.tmp rfl)) rfl rfl (Nat.le_of_ble_eq_true rfl) ?_
  refine ARun.pure (PureOp.lenLst rfl (.tmp rfl) vh_sl_25) rfl rfl (Nat.le_of_ble_eq_true rfl) ?_
  refine ARun.pure (PureOp.intOp rfl (.tmp rfl) (.tmp rfl) rfl) rfl rfl (Nat.le_of_ble_eq_true rfl) ?_
  refine ARun.nil ?_
  refine AW.cond (.tmp rfl) (fun hb1 => ?_) (fun hb1 => ?_)
  · have _u := True.intro
    replace hb1 := of_decide_eq_true hb1
    have hkl : k < xx.length := by omega
    obtain ⟨hst, hsm⟩ := ct_step (ct := crEntry) (default : GEntry) hkl
    have he : yy.getD k (default : GEntry) = mrEntry (xx.getD k (default : GEntry)) (a + ((xx.take k).map crEntry).sum) := by rw [hy]; exact mkL_get (default : GEntry) hkl
    have hce : crEntry (xx.getD k (default : GEntry)) = 0 + 1 + 1 := rfl
    refine AW.skip ?_
    refine AW.seq ?_
    refine AW.block ?_
    refine AW.seq ?_
    refine AW.seq ?_
    refine AW.region ?_
    refine ARun.pure (PureOp.move rfl (.tmp rfl)) rfl rfl (Nat.le_of_ble_eq_true rfl) ?_
    refine ARun.pure (PureOp.move rfl (.tmp rfl)) rfl rfl (Nat.le_of_ble_eq_true rfl) ?_
    refine ARun.pure (PureOp.indexLst (i := k) rfl (.tmp rfl) vh_el_25_2 (.tmp rfl) rfl (by omega)) rfl rfl (Nat.le_of_ble_eq_true rfl) ?_
    refine ARun.pure (PureOp.fieldRef rfl (.tmp rfl) vh_fi_120_0_0 (Nat.le_of_ble_eq_true rfl)) rfl rfl (Nat.le_of_ble_eq_true rfl) ?_
    refine ARun.pure (PureOp.loadRef rfl (.tmp rfl) vh_pl_3 (Nat.le_of_ble_eq_true rfl)) rfl rfl (Nat.le_of_ble_eq_true rfl) ?_
    refine ARun.pure (PureOp.move rfl (.tmp rfl)) rfl rfl (Nat.le_of_ble_eq_true rfl) ?_
    refine ARun.pure (PureOp.intOp rfl (.tmp rfl) (.tmp rfl) rfl) rfl rfl (Nat.le_of_ble_eq_true rfl) ?_
    refine ARun.nil ?_
    refine AW.cond (.tmp rfl) (fun hb2 => ?_) (fun hb2 => ?_)
    · have _u := True.intro
      replace hb2 := of_decide_eq_false (of_not hb2)
      exact absurd (by rw [he]; rfl) hb2
      --end
    · have _u := True.intro
      replace hb2 := of_decide_eq_true (not_f hb2)
      refine AW.skip ?_
      refine AW.seq ?_
      refine AW.region ?_
      refine ARun.pure (PureOp.move rfl (.tmp rfl)) rfl rfl (Nat.le_of_ble_eq_true rfl) ?_
      refine ARun.pure (PureOp.add (c := ((a + ((xx.take k).map crEntry).sum + 1 : Nat) : Int)) rfl (.tmp rfl) .int (by rw [wrap_id (by omega) (by omega)]; omega)) rfl rfl (Nat.le_of_ble_eq_true rfl) ?_
      refine ARun.pure (PureOp.assign rfl (.tmp rfl)) rfl rfl (Nat.le_of_ble_eq_true rfl) ?_
      refine ARun.nil ?_
      refine AW.seq ?_
      refine AW.seq ?_
      refine AW.any (by kernel_rfl) (by kernel_rfl) ?_
      refine AD.pure (PureOp.move rfl (.tmp rfl)) rfl rfl (Nat.le_of_ble_eq_true rfl) ?_
      refine AD.pure (PureOp.move rfl (.tmp rfl)) rfl rfl (Nat.le_of_ble_eq_true rfl) ?_
      refine AD.pure (PureOp.indexLst (i := k) rfl (.tmp rfl) vh_el_25_2 (.tmp rfl) rfl (by omega)) rfl rfl (Nat.le_of_ble_eq_true rfl) ?_
      refine AD.pure (PureOp.fieldRef rfl (.tmp rfl) vh_fi_120_1_1 (Nat.le_of_ble_eq_true rfl)) rfl rfl (Nat.le_of_ble_eq_true rfl) ?_
      refine AD.pure (PureOp.loadRef rfl (.tmp rfl) vh_pl_9 (Nat.le_of_ble_eq_true rfl)) rfl rfl (Nat.le_of_ble_eq_true rfl) ?_
      refine AD.pure (PureOp.move rfl (.tmp rfl)) rfl rfl (Nat.le_of_ble_eq_true rfl) ?_
      refine AD.pure (PureOp.call rfl (v_markText (a + ((xx.take k).map crEntry).sum + 1) (by omega) (by omega)) ⟨⟨_, (.tmp rfl), .int⟩, trivial⟩ vh_ca_87 (Nat.le_trans (mkText_size (by omega)) (by decide))) rfl rfl (Nat.le_of_ble_eq_true rfl) ?_
      refine AD.pure (PureOp.strOp rfl (.tmp rfl) (.tmp rfl) rfl) rfl rfl (Nat.le_of_ble_eq_true rfl) ?_
      refine AD.nil ?_
      refine AW.cond (.tmp rfl) (fun hb3 => ?_) (fun hb3 => ?_)
      · have _u := True.intro
        replace hb3 := of_decide_eq_false (of_not hb3)
        exact absurd (by rw [he]; rfl) hb3
        --end
      · have _u := True.intro
        replace hb3 := of_decide_eq_true (not_f hb3)
        refine AW.skip ?_
        refine AW.region ?_
        refine ARun.pure (PureOp.move rfl (.tmp rfl)) rfl rfl (Nat.le_of_ble_eq_true rfl) ?_
        refine ARun.pure (PureOp.add (c := ((a + ((xx.take k).map crEntry).sum + 1 + 1 : Nat) : Int)) rfl (.tmp rfl) .int (by rw [wrap_id (by omega) (by omega)]; omega)) rfl rfl (Nat.le_of_ble_eq_true rfl) ?_
        refine ARun.pure (PureOp.assign rfl (.tmp rfl)) rfl rfl (Nat.le_of_ble_eq_true rfl) ?_
        refine ARun.nil ?_
        refine AW.region ?_
        refine ARun.pure (PureOp.move rfl (.tmp rfl)) rfl rfl (Nat.le_of_ble_eq_true rfl) ?_
        refine ARun.pure (PureOp.add (c := ((k + 1 : Nat) : Int)) rfl (.tmp rfl) .int (by rw [wrap_id (by omega) (by omega)]; omega)) rfl rfl (Nat.le_of_ble_eq_true rfl) ?_
        refine ARun.pure (PureOp.assign rfl (.tmp rfl)) rfl rfl (Nat.le_of_ble_eq_true rfl) ?_
        refine ARun.nil ?_
        exact ⟨k + 1, by omega, by dsimp only; omega, ⟨⟨⟨_, rfl, rfl⟩, ⟨_, rfl, congrArg (fun z : Nat => SV.one (.int .i64 (z : Int))) (by omega)⟩, ⟨_, rfl, rfl⟩, trivial⟩, trivial⟩⟩
  · have _u := True.intro
    replace hb1 := of_decide_eq_false hb1
    have hkl : ¬ k < xx.length := by omega
    refine AW.exit ?_
    refine AW.seq ?_
    refine AW.region ?_
    refine ARun.pure (PureOp.move rfl (.tmp rfl)) rfl rfl (Nat.le_of_ble_eq_true rfl) ?_
    refine ARun.pure (PureOp.assign rfl (.tmp rfl)) rfl rfl (Nat.le_of_ble_eq_true rfl) ?_
    refine ARun.nil ?_
    refine AW.ret (show ResL _ _ [.tmp 4] _ from resI rfl ?_)
    have hend : ctL crEntry xx = ((xx.take k).map crEntry).sum := (ct_end hkl).symm
    omega

theorem h_EntrySS (xx yy : List (List GEntry)) (a : Nat) (hy : yy = mkL (ctL crEntry) (mkL crEntry mrEntry) xx a) (ha : 0 < a ∧ a + ctL (ctL crEntry) xx ≤ 900000000) : Fn Try.prog 55 [.one (.lst 1 yy.length (fun i0 _ => .lst 2 ((yy.getD i0 []).length) (fun i1 j1 => ([.int .i64 (((yy.getD i0 []).getD i1 (default : GEntry)).epoch), .str (((yy.getD i0 []).getD i1 (default : GEntry)).text)] : List AV).getD j1 (.con undef)))), .one (.int .i64 (a : Int))] (.one (.int .i64 ((a + ctL (ctL crEntry) xx : Nat) : Int))) := by
  obtain ⟨ha0, ha1⟩ := ha
  have hlen : yy.length = xx.length := by rw [hy]; exact mkL_len
  refine Fn.of_body (fn := Try.f55) Try.func55 rfl (Nat.le_of_ble_eq_true rfl) trivial ?_
  intro w0
  show AW _ 21 _ _ _ _
  refine AW.bound (t := 0) rfl fun hx => ?_
  refine AW.seq ?_
  refine AW.region ?_
  refine ARun.pure (PureOp.assign rfl .int) rfl rfl (Nat.le_of_ble_eq_true rfl) ?_
  refine ARun.nil ?_
  refine AW.seq ?_
  refine AW.seq ?_
  refine AW.region ?_
  refine ARun.pure (PureOp.assign rfl .int) rfl rfl (Nat.le_of_ble_eq_true rfl) ?_
  refine ARun.nil ?_
  refine AW.block ?_
  refine AW.loop (ι := Nat) (fun k => ⟨[(0, .one (.lst 1 yy.length (fun i0 _ => .lst 2 ((yy.getD i0 []).length) (fun i1 j1 => ([.int .i64 (((yy.getD i0 []).getD i1 (default : GEntry)).epoch), .str (((yy.getD i0 []).getD i1 (default : GEntry)).text)] : List AV).getD j1 (.con undef))))), (1, .one (.int .i64 ((a + ((xx.take k).map (ctL crEntry)).sum : Nat) : Int))), (5, .one (.int .i64 (k : Int)))], []⟩) (fun k => k ≤ xx.length) (fun k => xx.length - k) 0 (Nat.zero_le _) ⟨⟨⟨_, rfl, rfl⟩, ⟨_, rfl, by simp⟩, ⟨_, rfl, rfl⟩, trivial⟩, trivial⟩ ?_
  intro k hk
  refine AW.seq ?_
  refine AW.seq ?_
  refine AW.region ?_
  refine ARun.pure (PureOp.move rfl (.tmp rfl)) rfl rfl (Nat.le_of_ble_eq_true rfl) ?_
  refine ARun.pure (PureOp.move rfl (.tmp rfl)) rfl rfl (Nat.le_of_ble_eq_true rfl) ?_
  refine ARun.pure (PureOp.lenLst rfl (.tmp rfl) vh_sl_22) rfl rfl (Nat.le_of_ble_eq_true rfl) ?_
  refine ARun.pure (PureOp.intOp rfl (.tmp rfl) (.tmp rfl) rfl) rfl rfl (Nat.le_of_ble_eq_true rfl) ?_
  refine ARun.nil ?_
  refine AW.cond (.tmp rfl) (fun hb1 => ?_) (fun hb1 => ?_)
  · have _u := True.intro
    replace hb1 := of_decide_eq_true hb1
    have hkl : k < xx.length := by omega
    obtain ⟨hst, hsm⟩ := ct_step (ct := (ctL crEntry)) ([] : List GEntry) hkl
    have he : yy.getD k ([] : List GEntry) = (mkL crEntry mrEntry) (xx.getD k ([] : List GEntry)) (a + ((xx.take k).map (ctL crEntry)).sum) := by rw [hy]; exact mkL_get ([] : List GEntry) hkl
    refine AW.skip ?_
    refine AW.seq ?_
    refine AW.block ?_
    refine AW.seq ?_
    refine AW.region ?_
    refine ARun.pure (PureOp.move rfl (.tmp rfl)) rfl rfl (Nat.le_of_ble_eq_true rfl) ?_
    refine ARun.pure (PureOp.move rfl (.tmp rfl)) rfl rfl (Nat.le_of_ble_eq_true rfl) ?_
    refine ARun.pure (PureOp.indexLst (i := k) rfl (.tmp rfl) vh_el_22_1 (.tmp rfl) rfl (by omega)) rfl rfl (Nat.le_of_ble_eq_true rfl) ?_
    refine ARun.pure (PureOp.loadRef rfl (.tmp rfl) vh_pl_25 (Nat.le_of_ble_eq_true rfl)) rfl rfl (Nat.le_of_ble_eq_true rfl) ?_
    refine ARun.pure (PureOp.move rfl (.tmp rfl)) rfl rfl (Nat.le_of_ble_eq_true rfl) ?_
    refine ARun.pure (PureOp.call rfl (h_EntryS (xx.getD k []) (yy.getD k []) (a + ((xx.take k).map (ctL crEntry)).sum) (by first | exact he | (rw [he]; rfl)) ⟨by omega, by omega⟩) ⟨⟨_, (.tmp rfl), .lst⟩, ⟨_, (.tmp rfl), .int⟩, trivial⟩ vh_ca_58 trivial) rfl rfl (Nat.le_of_ble_eq_true rfl) ?_
    refine ARun.pure (PureOp.assign rfl (.tmp rfl)) rfl rfl (Nat.le_of_ble_eq_true rfl) ?_
    refine ARun.nil ?_
    refine AW.seq ?_
    refine AW.region ?_
    refine ARun.pure (PureOp.move rfl (.tmp rfl)) rfl rfl (Nat.le_of_ble_eq_true rfl) ?_
    refine ARun.pure (PureOp.intOp rfl (.tmp rfl) .int rfl) rfl rfl (Nat.le_of_ble_eq_true rfl) ?_
    refine ARun.nil ?_
    refine AW.cond (.tmp rfl) (fun hb2 => ?_) (fun hb2 => ?_)
    · have _u := True.intro
      replace hb2 := of_decide_eq_true hb2
      exact absurd hb2 (by omega)
      --end
    · have _u := True.intro
      replace hb2 := of_decide_eq_false hb2
      refine AW.skip ?_
      refine AW.region ?_
      refine ARun.pure (PureOp.move rfl (.tmp rfl)) rfl rfl (Nat.le_of_ble_eq_true rfl) ?_
      refine ARun.pure (PureOp.add (c := ((k + 1 : Nat) : Int)) rfl (.tmp rfl) .int (by rw [wrap_id (by omega) (by omega)]; omega)) rfl rfl (Nat.le_of_ble_eq_true rfl) ?_
      refine ARun.pure (PureOp.assign rfl (.tmp rfl)) rfl rfl (Nat.le_of_ble_eq_true rfl) ?_
      refine ARun.nil ?_
      exact ⟨k + 1, by omega, by dsimp only; omega, ⟨⟨⟨_, rfl, rfl⟩, ⟨_, rfl, congrArg (fun z : Nat => SV.one (.int .i64 (z : Int))) (by omega)⟩, ⟨_, rfl, rfl⟩, trivial⟩, trivial⟩⟩
  · have _u := True.intro
    replace hb1 := of_decide_eq_false hb1
    have hkl : ¬ k < xx.length := by omega
    refine AW.exit ?_
    refine AW.seq ?_
    refine AW.region ?_
    refine ARun.pure (PureOp.move rfl (.tmp rfl)) rfl rfl (Nat.le_of_ble_eq_true rfl) ?_
    refine ARun.pure (PureOp.assign rfl (.tmp rfl)) rfl rfl (Nat.le_of_ble_eq_true rfl) ?_
    refine ARun.nil ?_
    refine AW.ret (show ResL _ _ [.tmp 4] _ from resI rfl ?_)
    have hend : ctL (ctL crEntry) xx = ((xx.take k).map (ctL crEntry)).sum := (ct_end hkl).symm
    omega

theorem h_BoolS (xx yy : List Bool) (a : Nat) (hy : yy = mkL c1 mkB xx a) (ha : 0 < a ∧ a + ctL c1 xx ≤ 900000000) : Fn Try.prog 56 [.one (.lst 1 yy.length (fun i0 _ => .bool (yy.getD i0 false))), .one (.int .i64 (a : Int))] (.one (.int .i64 ((a + ctL c1 xx : Nat) : Int))) := by
  obtain ⟨ha0, ha1⟩ := ha
  have hlen : yy.length = xx.length := by rw [hy]; exact mkL_len
  refine Fn.of_body (fn := Try.f56) Try.func56 rfl (Nat.le_of_ble_eq_true rfl) trivial ?_
  intro w0
  show AW _ 23 _ _ _ _
  refine AW.bound (t := 0) rfl fun hx => ?_
  refine AW.seq ?_
  refine AW.region ?_
  refine ARun.pure (PureOp.assign rfl .int) rfl rfl (Nat.le_of_ble_eq_true rfl) ?_
  refine ARun.nil ?_
  refine AW.seq ?_
  refine AW.seq ?_
  refine AW.region ?_
  refine ARun.pure (PureOp.assign rfl .int) rfl rfl (Nat.le_of_ble_eq_true rfl) ?_
  refine ARun.nil ?_
  refine AW.block ?_
  refine AW.loop (ι := Nat) (fun k => ⟨[(0, .one (.lst 1 yy.length (fun i0 _ => .bool (yy.getD i0 false)))), (1, .one (.int .i64 ((a + ((xx.take k).map c1).sum : Nat) : Int))), (5, .one (.int .i64 (k : Int)))], []⟩) (fun k => k ≤ xx.length) (fun k => xx.length - k) 0 (Nat.zero_le _) ⟨⟨⟨_, rfl, rfl⟩, ⟨_, rfl, by simp⟩, ⟨_, rfl, rfl⟩, trivial⟩, trivial⟩ ?_
  intro k hk
  refine AW.seq ?_
  refine AW.seq ?_
  refine AW.region ?_
  refine ARun.pure (PureOp.move rfl (.tmp rfl)) rfl rfl (Nat.le_of_ble_eq_true rfl) ?_
  refine ARun.pure (PureOp.move rfl (.tmp rfl)) rfl rfl (Nat.le_of_ble_eq_true rfl) ?_
  refine ARun.pure (PureOp.lenLst rfl (.tmp rfl) vh_sl_23) rfl rfl (Nat.le_of_ble_eq_true rfl) ?_
  refine ARun.pure (PureOp.intOp rfl (.tmp rfl) (.tmp rfl) rfl) rfl rfl (Nat.le_of_ble_eq_true rfl) ?_
  refine ARun.nil ?_
  refine AW.cond (.tmp rfl) (fun hb1 => ?_) (fun hb1 => ?_)
  · have _u := True.intro
    replace hb1 := of_decide_eq_true hb1
    have hkl : k < xx.length := by omega
    obtain ⟨hst, hsm⟩ := ct_step (ct := c1) (false : Bool) hkl
    have he : yy.getD k (false : Bool) = mkB (xx.getD k (false : Bool)) (a + ((xx.take k).map c1).sum) := by rw [hy]; exact mkL_get (false : Bool) hkl
    have hce : c1 (xx.getD k (false : Bool)) = 1 := rfl
    refine AW.skip ?_
    refine AW.seq ?_
    refine AW.block ?_
    refine AW.seq ?_
    refine AW.seq ?_
    refine AW.region ?_
    refine ARun.pure (PureOp.move rfl (.tmp rfl)) rfl rfl (Nat.le_of_ble_eq_true rfl) ?_
    refine ARun.pure (PureOp.move rfl (.tmp rfl)) rfl rfl (Nat.le_of_ble_eq_true rfl) ?_
    refine ARun.pure (PureOp.indexLst (i := k) rfl (.tmp rfl) vh_el_23_1 (.tmp rfl) rfl (by omega)) rfl rfl (Nat.le_of_ble_eq_true rfl) ?_
    refine ARun.pure (PureOp.loadRef rfl (.tmp rfl) vh_pl_4 (Nat.le_of_ble_eq_true rfl)) rfl rfl (Nat.le_of_ble_eq_true rfl) ?_
    refine ARun.pure (PureOp.move rfl (.tmp rfl)) rfl rfl (Nat.le_of_ble_eq_true rfl) ?_
    refine ARun.pure (PureOp.rem (a := a + ((xx.take k).map c1).sum) (b := 3) rfl (.tmp rfl) .int rfl (by decide) (by omega)) rfl rfl (Nat.le_of_ble_eq_true rfl) ?_
    refine ARun.pure (PureOp.intOp rfl (.tmp rfl) .int rfl) rfl rfl (Nat.le_of_ble_eq_true rfl) ?_
    refine ARun.pure (PureOp.boolNe rfl (.tmp rfl) (.tmp rfl) vh_bo_4) rfl rfl (Nat.le_of_ble_eq_true rfl) ?_
    refine ARun.nil ?_
    refine AW.cond (.tmp rfl) (fun hb2 => ?_) (fun hb2 => ?_)
    · have _u := True.intro
      replace hb2 := beq_f (of_not hb2)
      exact absurd (by rw [he]; rfl) hb2
      --end
    · have _u := True.intro
      replace hb2 := beq_t (not_f hb2)
      refine AW.skip ?_
      refine AW.region ?_
      refine ARun.pure (PureOp.move rfl (.tmp rfl)) rfl rfl (Nat.le_of_ble_eq_true rfl) ?_
      refine ARun.pure (PureOp.add (c := ((a + ((xx.take k).map c1).sum + 1 : Nat) : Int)) rfl (.tmp rfl) .int (by rw [wrap_id (by omega) (by omega)]; omega)) rfl rfl (Nat.le_of_ble_eq_true rfl) ?_
      refine ARun.pure (PureOp.assign rfl (.tmp rfl)) rfl rfl (Nat.le_of_ble_eq_true rfl) ?_
      refine ARun.nil ?_
      refine AW.region ?_
      refine ARun.pure (PureOp.move rfl (.tmp rfl)) rfl rfl (Nat.le_of_ble_eq_true rfl) ?_
      refine ARun.pure (PureOp.add (c := ((k + 1 : Nat) : Int)) rfl (.tmp rfl) .int (by rw [wrap_id (by omega) (by omega)]; omega)) rfl rfl (Nat.le_of_ble_eq_true rfl) ?_
      refine ARun.pure (PureOp.assign rfl (.tmp rfl)) rfl rfl (Nat.le_of_ble_eq_true rfl) ?_
      refine ARun.nil ?_
      exact ⟨k + 1, by omega, by dsimp only; omega, ⟨⟨⟨_, rfl, rfl⟩, ⟨_, rfl, congrArg (fun z : Nat => SV.one (.int .i64 (z : Int))) (by omega)⟩, ⟨_, rfl, rfl⟩, trivial⟩, trivial⟩⟩
  · have _u := True.intro
    replace hb1 := of_decide_eq_false hb1
    have hkl : ¬ k < xx.length := by omega
    refine AW.exit ?_
    refine AW.seq ?_
    refine AW.region ?_
    refine ARun.pure (PureOp.move rfl (.tmp rfl)) rfl rfl (Nat.le_of_ble_eq_true rfl) ?_
    refine ARun.pure (PureOp.assign rfl (.tmp rfl)) rfl rfl (Nat.le_of_ble_eq_true rfl) ?_
    refine ARun.nil ?_
    refine AW.ret (show ResL _ _ [.tmp 4] _ from resI rfl ?_)
    have hend : ctL c1 xx = ((xx.take k).map c1).sum := (ct_end hkl).symm
    omega

theorem h_IntS (xx yy : List Int) (a : Nat) (hy : yy = mkL c1 mkI xx a) (ha : 0 < a ∧ a + ctL c1 xx ≤ 900000000) : Fn Try.prog 57 [.one (.lst 1 yy.length (fun i0 _ => .int .i64 (yy.getD i0 0))), .one (.int .i64 (a : Int))] (.one (.int .i64 ((a + ctL c1 xx : Nat) : Int))) := by
  obtain ⟨ha0, ha1⟩ := ha
  have hlen : yy.length = xx.length := by rw [hy]; exact mkL_len
  refine Fn.of_body (fn := Try.f57) Try.func57 rfl (Nat.le_of_ble_eq_true rfl) trivial ?_
  intro w0
  show AW _ 21 _ _ _ _
  refine AW.bound (t := 0) rfl fun hx => ?_
  refine AW.seq ?_
  refine AW.region ?_
  refine ARun.pure (PureOp.assign rfl .int) rfl rfl (Nat.le_of_ble_eq_true rfl) ?_
  refine ARun.nil ?_
  refine AW.seq ?_
  refine AW.seq ?_
  refine AW.region ?_
  refine ARun.pure (PureOp.assign rfl .int) rfl rfl (Nat.le_of_ble_eq_true rfl) ?_
  refine ARun.nil ?_
  refine AW.block ?_
  refine AW.loop (ι := Nat) (fun k => ⟨[(0, .one (.lst 1 yy.length (fun i0 _ => .int .i64 (yy.getD i0 0)))), (1, .one (.int .i64 ((a + ((xx.take k).map c1).sum : Nat) : Int))), (5, .one (.int .i64 (k : Int)))], []⟩) (fun k => k ≤ xx.length) (fun k => xx.length - k) 0 (Nat.zero_le _) ⟨⟨⟨_, rfl, rfl⟩, ⟨_, rfl, by simp⟩, ⟨_, rfl, rfl⟩, trivial⟩, trivial⟩ ?_
  intro k hk
  refine AW.seq ?_
  refine AW.seq ?_
  refine AW.region ?_
  refine ARun.pure (PureOp.move rfl (.tmp rfl)) rfl rfl (Nat.le_of_ble_eq_true rfl) ?_
  refine ARun.pure (PureOp.move rfl (.tmp rfl)) rfl rfl (Nat.le_of_ble_eq_true rfl) ?_
  refine ARun.pure (PureOp.lenLst rfl (.tmp rfl) vh_sl_24) rfl rfl (Nat.le_of_ble_eq_true rfl) ?_
  refine ARun.pure (PureOp.intOp rfl (.tmp rfl) (.tmp rfl) rfl) rfl rfl (Nat.le_of_ble_eq_true rfl) ?_
  refine ARun.nil ?_
  refine AW.cond (.tmp rfl) (fun hb1 => ?_) (fun hb1 => ?_)
  · have _u := True.intro
    replace hb1 := of_decide_eq_true hb1
    have hkl : k < xx.length := by omega
    obtain ⟨hst, hsm⟩ := ct_step (ct := c1) (0 : Int) hkl
    have he : yy.getD k (0 : Int) = mkI (xx.getD k (0 : Int)) (a + ((xx.take k).map c1).sum) := by rw [hy]; exact mkL_get (0 : Int) hkl
    have hce : c1 (xx.getD k (0 : Int)) = 1 := rfl
    refine AW.skip ?_
    refine AW.seq ?_
    refine AW.block ?_
    refine AW.seq ?_
    refine AW.seq ?_
    refine AW.region ?_
    refine ARun.pure (PureOp.move rfl (.tmp rfl)) rfl rfl (Nat.le_of_ble_eq_true rfl) ?_
    refine ARun.pure (PureOp.move rfl (.tmp rfl)) rfl rfl (Nat.le_of_ble_eq_true rfl) ?_
    refine ARun.pure (PureOp.indexLst (i := k) rfl (.tmp rfl) vh_el_24_1 (.tmp rfl) rfl (by omega)) rfl rfl (Nat.le_of_ble_eq_true rfl) ?_
    refine ARun.pure (PureOp.loadRef rfl (.tmp rfl) vh_pl_3 (Nat.le_of_ble_eq_true rfl)) rfl rfl (Nat.le_of_ble_eq_true rfl) ?_
    refine ARun.pure (PureOp.move rfl (.tmp rfl)) rfl rfl (Nat.le_of_ble_eq_true rfl) ?_
    refine ARun.pure (PureOp.intOp rfl (.tmp rfl) (.tmp rfl) rfl) rfl rfl (Nat.le_of_ble_eq_true rfl) ?_
    refine ARun.nil ?_
    refine AW.cond (.tmp rfl) (fun hb2 => ?_) (fun hb2 => ?_)
    · have _u := True.intro
      replace hb2 := of_decide_eq_false (of_not hb2)
      exact absurd (by rw [he]; rfl) hb2
      --end
    · have _u := True.intro
      replace hb2 := of_decide_eq_true (not_f hb2)
      refine AW.skip ?_
      refine AW.region ?_
      refine ARun.pure (PureOp.move rfl (.tmp rfl)) rfl rfl (Nat.le_of_ble_eq_true rfl) ?_
      refine ARun.pure (PureOp.add (c := ((a + ((xx.take k).map c1).sum + 1 : Nat) : Int)) rfl (.tmp rfl) .int (by rw [wrap_id (by omega) (by omega)]; omega)) rfl rfl (Nat.le_of_ble_eq_true rfl) ?_
      refine ARun.pure (PureOp.assign rfl (.tmp rfl)) rfl rfl (Nat.le_of_ble_eq_true rfl) ?_
      refine ARun.nil ?_
      refine AW.region ?_
      refine ARun.pure (PureOp.move rfl (.tmp rfl)) rfl rfl (Nat.le_of_ble_eq_true rfl) ?_
      refine ARun.pure (PureOp.add (c := ((k + 1 : Nat) : Int)) rfl (.tmp rfl) .int (by rw [wrap_id (by omega) (by omega)]; omega)) rfl rfl (Nat.le_of_ble_eq_true rfl) ?_
      refine ARun.pure (PureOp.assign rfl (.tmp rfl)) rfl rfl (Nat.le_of_ble_eq_true rfl) ?_
      refine ARun.nil ?_
      exact ⟨k + 1, by omega, by dsimp only; omega, ⟨⟨⟨_, rfl, rfl⟩, ⟨_, rfl, congrArg (fun z : Nat => SV.one (.int .i64 (z : Int))) (by omega)⟩, ⟨_, rfl, rfl⟩, trivial⟩, trivial⟩⟩
  · have _u := True.intro
    replace hb1 := of_decide_eq_false hb1
    have hkl : ¬ k < xx.length := by omega
    refine AW.exit ?_
    refine AW.seq ?_
    refine AW.region ?_
    refine ARun.pure (PureOp.move rfl (.tmp rfl)) rfl rfl (Nat.le_of_ble_eq_true rfl) ?_
    refine ARun.pure (PureOp.assign rfl (.tmp rfl)) rfl rfl (Nat.le_of_ble_eq_true rfl) ?_
    refine ARun.nil ?_
    refine AW.ret (show ResL _ _ [.tmp 4] _ from resI rfl ?_)
    have hend : ctL c1 xx = ((xx.take k).map c1).sum := (ct_end hkl).symm
    omega

theorem h_Repl (xx yy : GRepl) (a : Nat) (hy : yy = mvRepl xx a) (ha : 0 < a ∧ a + cvRepl xx ≤ 900000000) : Fn Try.prog 14 [.agg [.lst 1 yy.logs.length (fun i0 _ => .lst 2 ((yy.logs.getD i0 []).length) (fun i1 j1 => ([.int .i64 (((yy.logs.getD i0 []).getD i1 (default : GEntry)).epoch), .str (((yy.logs.getD i0 []).getD i1 (default : GEntry)).text)] : List AV).getD j1 (.con undef))), .lst 1 yy.down.length (fun i0 _ => .bool (yy.down.getD i0 false)), .int .i64 yy.leader, .int .i64 yy.epoch, .lst 1 yy.inSync.length (fun i0 _ => .int .i64 (yy.inSync.getD i0 0)), .lst 2 yy.certain.length (fun i0 j0 => ([.int .i64 ((yy.certain.getD i0 (default : GEntry)).epoch), .str ((yy.certain.getD i0 (default : GEntry)).text)] : List AV).getD j0 (.con undef))], .one (.int .i64 (a : Int))] (.one (.int .i64 ((a + cvRepl xx : Nat) : Int))) := by
  obtain ⟨ha0, ha1⟩ := ha
  have hcv : cvRepl xx = 0 + ctL (ctL crEntry) (xx.logs) + ctL c1 (xx.down) + ctL c1 (xx.inSync) + ctL crEntry (xx.certain) := rfl
  refine Fn.of_body (fn := Try.f14) Try.func14 rfl (Nat.le_of_ble_eq_true rfl) trivial ?_
  intro w0
  show AW _ 30 _ _ _ _
  refine AW.seq ?_
  refine AW.region ?_
  refine ARun.box (id := 0) rfl (.tmp rfl) (SV.cells_of (by exact ⟨trivial, trivial, trivial, trivial, trivial, trivial, trivial⟩)) ⟨rfl, (by repeat first | exact trivial | refine ⟨by decide, by first | rfl | exact trivial | (intro i j; first | rfl | exact getD_no rfl | (dsimp only; split <;> first | rfl | exact getD_no rfl)), ?_⟩)⟩ rfl rfl rfl (Nat.le_of_ble_eq_true rfl) ?_
  refine ARun.pure (PureOp.assign rfl .int) rfl rfl (Nat.le_of_ble_eq_true rfl) ?_
  refine ARun.nil ?_
  refine AW.seq ?_
  refine AW.region ?_
  refine ARun.pure (PureOp.fieldPtr rfl (.tmp rfl) vh_fi_27_0_0) rfl rfl (Nat.le_of_ble_eq_true rfl) ?_
  refine ARun.pure (PureOp.loadPtr rfl (.tmp rfl) vh_pl_22 rfl rfl (Nat.le_of_ble_eq_true rfl) (Nat.le_of_ble_eq_true rfl)) rfl rfl (Nat.le_of_ble_eq_true rfl) ?_
  refine ARun.pure (PureOp.move rfl (.tmp rfl)) rfl rfl (Nat.le_of_ble_eq_true rfl) ?_
  refine ARun.pure (PureOp.call rfl (h_EntrySS xx.logs yy.logs a (by rw [hy]; rfl) ⟨by omega, by omega⟩) ⟨⟨_, (.tmp rfl), .lst⟩, ⟨_, (.tmp rfl), .int⟩, trivial⟩ vh_ca_55 trivial) rfl rfl (Nat.le_of_ble_eq_true rfl) ?_
  refine ARun.pure (PureOp.assign rfl (.tmp rfl)) rfl rfl (Nat.le_of_ble_eq_true rfl) ?_
  refine ARun.nil ?_
  refine AW.seq ?_
  refine AW.seq ?_
  refine AW.region ?_
  refine ARun.pure (PureOp.move rfl (.tmp rfl)) rfl rfl (Nat.le_of_ble_eq_true rfl) ?_
  refine ARun.pure (PureOp.intOp rfl (.tmp rfl) .int rfl) rfl rfl (Nat.le_of_ble_eq_true rfl) ?_
  refine ARun.nil ?_
  refine AW.cond (.tmp rfl) (fun hb1 => ?_) (fun hb1 => ?_)
  · have _u := True.intro
    replace hb1 := of_decide_eq_true hb1
    exact absurd hb1 (by omega)
    --end
  · have _u := True.intro
    replace hb1 := of_decide_eq_false hb1
    refine AW.skip ?_
    refine AW.seq ?_
    refine AW.region ?_
    refine ARun.pure (PureOp.fieldPtr rfl (.tmp rfl) vh_fi_27_1_1) rfl rfl (Nat.le_of_ble_eq_true rfl) ?_
    refine ARun.pure (PureOp.loadPtr rfl (.tmp rfl) vh_pl_23 rfl rfl (Nat.le_of_ble_eq_true rfl) (Nat.le_of_ble_eq_true rfl)) rfl rfl (Nat.le_of_ble_eq_true rfl) ?_
    refine ARun.pure (PureOp.move rfl (.tmp rfl)) rfl rfl (Nat.le_of_ble_eq_true rfl) ?_
    refine ARun.pure (PureOp.call rfl (h_BoolS xx.down yy.down (a + ctL (ctL crEntry) xx.logs) (by rw [hy]; rfl) ⟨by omega, by omega⟩) ⟨⟨_, (.tmp rfl), .lst⟩, ⟨_, (.tmp rfl), .int⟩, trivial⟩ vh_ca_56 trivial) rfl rfl (Nat.le_of_ble_eq_true rfl) ?_
    refine ARun.pure (PureOp.assign rfl (.tmp rfl)) rfl rfl (Nat.le_of_ble_eq_true rfl) ?_
    refine ARun.nil ?_
    refine AW.seq ?_
    refine AW.seq ?_
    refine AW.region ?_
    refine ARun.pure (PureOp.move rfl (.tmp rfl)) rfl rfl (Nat.le_of_ble_eq_true rfl) ?_
    refine ARun.pure (PureOp.intOp rfl (.tmp rfl) .int rfl) rfl rfl (Nat.le_of_ble_eq_true rfl) ?_
    refine ARun.nil ?_
    refine AW.cond (.tmp rfl) (fun hb2 => ?_) (fun hb2 => ?_)
    · have _u := True.intro
      replace hb2 := of_decide_eq_true hb2
      exact absurd hb2 (by omega)
      --end
    · have _u := True.intro
      replace hb2 := of_decide_eq_false hb2
      refine AW.skip ?_
      refine AW.seq ?_
      refine AW.region ?_
      refine ARun.pure (PureOp.fieldPtr rfl (.tmp rfl) vh_fi_27_4_4) rfl rfl (Nat.le_of_ble_eq_true rfl) ?_
      refine ARun.pure (PureOp.loadPtr rfl (.tmp rfl) vh_pl_24 rfl rfl (Nat.le_of_ble_eq_true rfl) (Nat.le_of_ble_eq_true rfl)) rfl rfl (Nat.le_of_ble_eq_true rfl) ?_
      refine ARun.pure (PureOp.move rfl (.tmp rfl)) rfl rfl (Nat.le_of_ble_eq_true rfl) ?_
      refine ARun.pure (PureOp.call rfl (h_IntS xx.inSync yy.inSync (a + ctL (ctL crEntry) xx.logs + ctL c1 xx.down) (by rw [hy]; rfl) ⟨by omega, by omega⟩) ⟨⟨_, (.tmp rfl), .lst⟩, ⟨_, (.tmp rfl), .int⟩, trivial⟩ vh_ca_57 trivial) rfl rfl (Nat.le_of_ble_eq_true rfl) ?_
      refine ARun.pure (PureOp.assign rfl (.tmp rfl)) rfl rfl (Nat.le_of_ble_eq_true rfl) ?_
      refine ARun.nil ?_
      refine AW.seq ?_
      refine AW.seq ?_
      refine AW.region ?_
      refine ARun.pure (PureOp.move rfl (.tmp rfl)) rfl rfl (Nat.le_of_ble_eq_true rfl) ?_
      refine ARun.pure (PureOp.intOp rfl (.tmp rfl) .int rfl) rfl rfl (Nat.le_of_ble_eq_true rfl) ?_
      refine ARun.nil ?_
      refine AW.cond (.tmp rfl) (fun hb3 => ?_) (fun hb3 => ?_)
      · have _u := True.intro
        replace hb3 := of_decide_eq_true hb3
        exact absurd hb3 (by omega)
        --end
      · have _u := True.intro
        replace hb3 := of_decide_eq_false hb3
        refine AW.skip ?_
        refine AW.seq ?_
        refine AW.region ?_
        refine ARun.pure (PureOp.fieldPtr rfl (.tmp rfl) vh_fi_27_5_5) rfl rfl (Nat.le_of_ble_eq_true rfl) ?_
        refine ARun.pure (PureOp.loadPtr rfl (.tmp rfl) vh_pl_25 rfl rfl (Nat.le_of_ble_eq_true rfl) (Nat.le_of_ble_eq_true rfl)) rfl rfl (Nat.le_of_ble_eq_true rfl) ?_
        refine ARun.pure (PureOp.move rfl (.tmp rfl)) rfl rfl (Nat.le_of_ble_eq_true rfl) ?_
        refine ARun.pure (PureOp.call rfl (h_EntryS xx.certain yy.certain (a + ctL (ctL crEntry) xx.logs + ctL c1 xx.down + ctL c1 xx.inSync) (by rw [hy]; rfl) ⟨by omega, by omega⟩) ⟨⟨_, (.tmp rfl), .lst⟩, ⟨_, (.tmp rfl), .int⟩, trivial⟩ vh_ca_58 trivial) rfl rfl (Nat.le_of_ble_eq_true rfl) ?_
        refine ARun.pure (PureOp.assign rfl (.tmp rfl)) rfl rfl (Nat.le_of_ble_eq_true rfl) ?_
        refine ARun.nil ?_
        refine AW.seq ?_
        refine AW.seq ?_
        refine AW.region ?_
        refine ARun.pure (PureOp.move rfl (.tmp rfl)) rfl rfl (Nat.le_of_ble_eq_true rfl) ?_
        refine ARun.pure (PureOp.intOp rfl (.tmp rfl) .int rfl) rfl rfl (Nat.le_of_ble_eq_true rfl) ?_
        refine ARun.nil ?_
        refine AW.cond (.tmp rfl) (fun hb4 => ?_) (fun hb4 => ?_)
        · have _u := True.intro
          replace hb4 := of_decide_eq_true hb4
          exact absurd hb4 (by omega)
          --end
        · have _u := True.intro
          replace hb4 := of_decide_eq_false hb4
          refine AW.skip ?_
          refine AW.seq ?_
          refine AW.region ?_
          refine ARun.pure (PureOp.move rfl (.tmp rfl)) rfl rfl (Nat.le_of_ble_eq_true rfl) ?_
          refine ARun.pure (PureOp.assign rfl (.tmp rfl)) rfl rfl (Nat.le_of_ble_eq_true rfl) ?_
          refine ARun.nil ?_
          refine AW.ret (show ResL _ _ [.tmp 4] _ from resI rfl ?_)
          omega
end Go.Proofs.Ytmlhlkpiofbhgaa
