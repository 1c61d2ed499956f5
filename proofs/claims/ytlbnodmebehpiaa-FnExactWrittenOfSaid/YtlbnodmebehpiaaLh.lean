/-
  What marks left is looked at again.
-/
import Derived.Test.YtlbnodmebehpiaaLa
namespace Go.Proofs.Ytlbnodmebehpiaa
open Go.ChangeShapes Go.WideShapes Go.ChangeAt Go.RowKit Go.BigFrame Go.Deep
set_option linter.unusedVariables false
set_option linter.unusedSimpArgs false
theorem vh_bo_4 : boolB Try.prog 4 = true := by kernel_rfl
theorem vh_ca_104 : callB Try.prog 104 = true := by kernel_rfl
theorem vh_ca_105 : callB Try.prog 105 = true := by kernel_rfl
theorem vh_ca_106 : callB Try.prog 106 = true := by kernel_rfl
theorem vh_ca_117 : callB Try.prog 117 = true := by kernel_rfl
theorem vh_ca_132 : callB Try.prog 132 = true := by kernel_rfl
theorem vh_ca_56 : callB Try.prog 56 = true := by kernel_rfl
theorem vh_ca_70 : callB Try.prog 70 = true := by kernel_rfl
theorem vh_ca_71 : callB Try.prog 71 = true := by kernel_rfl
theorem vh_ca_72 : callB Try.prog 72 = true := by kernel_rfl
theorem vh_ca_86 : callB Try.prog 86 = true := by kernel_rfl
theorem vh_ca_87 : callB Try.prog 87 = true := by kernel_rfl
theorem vh_el_107_1 : elemB Try.prog 107 1 = true := by kernel_rfl
theorem vh_el_22_1 : elemB Try.prog 22 1 = true := by kernel_rfl
theorem vh_el_23_5 : elemB Try.prog 23 5 = true := by kernel_rfl
theorem vh_el_24_5 : elemB Try.prog 24 5 = true := by kernel_rfl
theorem vh_el_25_1 : elemB Try.prog 25 1 = true := by kernel_rfl
theorem vh_el_47_1 : elemB Try.prog 47 1 = true := by kernel_rfl
theorem vh_el_62_1 : elemB Try.prog 62 1 = true := by kernel_rfl
theorem vh_el_63_4 : elemB Try.prog 63 4 = true := by kernel_rfl
theorem vh_el_64_3 : elemB Try.prog 64 3 = true := by kernel_rfl
theorem vh_el_80_1 : elemB Try.prog 80 1 = true := by kernel_rfl
theorem vh_fi_102_0_0 : fieldB Try.prog 102 0 0 = true := by kernel_rfl
theorem vh_fi_102_1_1 : fieldB Try.prog 102 1 1 = true := by kernel_rfl
theorem vh_fi_102_2_2 : fieldB Try.prog 102 2 2 = true := by kernel_rfl
theorem vh_fi_102_3_3 : fieldB Try.prog 102 3 3 = true := by kernel_rfl
theorem vh_fi_102_4_4 : fieldB Try.prog 102 4 4 = true := by kernel_rfl
theorem vh_fi_125_0_0 : fieldB Try.prog 125 0 0 = true := by kernel_rfl
theorem vh_fi_125_1_1 : fieldB Try.prog 125 1 1 = true := by kernel_rfl
theorem vh_fi_125_2_2 : fieldB Try.prog 125 2 2 = true := by kernel_rfl
theorem vh_fi_127_0_0 : fieldB Try.prog 127 0 0 = true := by kernel_rfl
theorem vh_fi_127_1_1 : fieldB Try.prog 127 1 1 = true := by kernel_rfl
theorem vh_fi_27_0_0 : fieldB Try.prog 27 0 0 = true := by kernel_rfl
theorem vh_fi_27_1_1 : fieldB Try.prog 27 1 1 = true := by kernel_rfl
theorem vh_fi_27_2_2 : fieldB Try.prog 27 2 2 = true := by kernel_rfl
theorem vh_fi_49_0_0 : fieldB Try.prog 49 0 0 = true := by kernel_rfl
theorem vh_fi_49_1_1 : fieldB Try.prog 49 1 1 = true := by kernel_rfl
theorem vh_fi_49_2_2 : fieldB Try.prog 49 2 2 = true := by kernel_rfl
theorem vh_fi_49_3_3 : fieldB Try.prog 49 3 3 = true := by kernel_rfl
theorem vh_fi_49_4_4 : fieldB Try.prog 49 4 4 = true := by kernel_rfl
theorem vh_fi_66_0_0 : fieldB Try.prog 66 0 0 = true := by kernel_rfl
theorem vh_fi_66_1_1 : fieldB Try.prog 66 1 1 = true := by kernel_rfl
theorem vh_fi_66_2_2 : fieldB Try.prog 66 2 2 = true := by kernel_rfl
theorem vh_fi_66_3_3 : fieldB Try.prog 66 3 3 = true := by kernel_rfl
theorem vh_fi_66_4_4 : fieldB Try.prog 66 4 4 = true := by kernel_rfl
theorem vh_fi_89_0_0 : fieldB Try.prog 89 0 0 = true := by kernel_rfl
theorem vh_fi_89_1_1 : fieldB Try.prog 89 1 1 = true := by kernel_rfl
theorem vh_fi_89_2_2 : fieldB Try.prog 89 2 2 = true := by kernel_rfl
theorem vh_fi_89_3_3 : fieldB Try.prog 89 3 3 = true := by kernel_rfl
theorem vh_fi_89_4_4 : fieldB Try.prog 89 4 4 = true := by kernel_rfl
theorem vh_pl_107 : plainB Try.prog 107 = true := by kernel_rfl
theorem vh_pl_22 : plainB Try.prog 22 = true := by kernel_rfl
theorem vh_pl_23 : plainB Try.prog 23 = true := by kernel_rfl
theorem vh_pl_24 : plainB Try.prog 24 = true := by kernel_rfl
theorem vh_pl_25 : plainB Try.prog 25 = true := by kernel_rfl
theorem vh_pl_3 : plainB Try.prog 3 = true := by kernel_rfl
theorem vh_pl_4 : plainB Try.prog 4 = true := by kernel_rfl
theorem vh_pl_47 : plainB Try.prog 47 = true := by kernel_rfl
theorem vh_pl_62 : plainB Try.prog 62 = true := by kernel_rfl
theorem vh_pl_63 : plainB Try.prog 63 = true := by kernel_rfl
theorem vh_pl_64 : plainB Try.prog 64 = true := by kernel_rfl
theorem vh_pl_80 : plainB Try.prog 80 = true := by kernel_rfl
theorem vh_pl_9 : plainB Try.prog 9 = true := by kernel_rfl
theorem vh_sl_107 : sliceB Try.prog 107 = true := by kernel_rfl
theorem vh_sl_22 : sliceB Try.prog 22 = true := by kernel_rfl
theorem vh_sl_23 : sliceB Try.prog 23 = true := by kernel_rfl
theorem vh_sl_24 : sliceB Try.prog 24 = true := by kernel_rfl
theorem vh_sl_25 : sliceB Try.prog 25 = true := by kernel_rfl
theorem vh_sl_47 : sliceB Try.prog 47 = true := by kernel_rfl
theorem vh_sl_62 : sliceB Try.prog 62 = true := by kernel_rfl
theorem vh_sl_63 : sliceB Try.prog 63 = true := by kernel_rfl
theorem vh_sl_64 : sliceB Try.prog 64 = true := by kernel_rfl
theorem vh_sl_80 : sliceB Try.prog 80 = true := by kernel_rfl
theorem h_StringS (xx yy : List ByteArray) (a : Nat) (hy : yy = mkL c1 mkS xx a) (ha : 0 < a ∧ a + ctL c1 xx ≤ 900000000) : Fn Try.prog 56 [.one (.lst 1 yy.length (fun i0 _ => .str (yy.getD i0 ByteArray.empty))), .one (.int .i64 (a : Int))] (.one (.int .i64 ((a + ctL c1 xx : Nat) : Int))) := by
  obtain ⟨ha0, ha1⟩ := ha
  have hlen : yy.length = xx.length := by rw [hy]; exact mkL_len
  refine Fn.of_body (fn := Try.f56) Try.func56 rfl (Nat.le_of_ble_eq_true rfl) trivial ?_
  intro w0
  show AW _ 22 _ _ _ _
  refine AW.bound (t := 0) rfl fun hx => ?_
  refine AW.seq ?_
  refine AW.region ?_
  refine ARun.pure (PureOp.assign rfl .int) rfl rfl (Nat.le_of_ble_eq_true rfl) ?_
  refine ARun.nil ?_
  refine AW.seq ?_
  refine AW.seq ?_
  refine AW.region ?_
  refine ARun.pure (PureOp.assign rfl .int) rfl rfl (Nat.le_of_ble_eq_true rfl) ?_
  refine ARun.nil ?_
  refine AW.block ?_
  refine AW.loop (ι := Nat) (fun k => ⟨[(0, .one (.lst 1 yy.length (fun i0 _ => .str (yy.getD i0 ByteArray.empty)))), (1, .one (.int .i64 ((a + ((xx.take k).map c1).sum : Nat) : Int))), (5, .one (.int .i64 (k : Int)))], []⟩) (fun k => k ≤ xx.length) (fun k => xx.length - k) 0 (Nat.zero_le _) ⟨⟨⟨_, rfl, rfl⟩, ⟨_, rfl, by simp⟩, ⟨_, rfl, rfl⟩, trivial⟩, trivial⟩ ?_
  intro k hk
  refine AW.seq ?_
  refine AW.seq ?_
  refine AW.region ?_
  refine ARun.pure (PureOp.move rfl (.tmp rfl)) rfl rfl (Nat.le_of_ble_eq_true rfl) ?_
  refine ARun.pure (PureOp.move rfl (.tmp rfl)) rfl rfl (Nat.le_of_ble_eq_true rfl) ?_
  refine ARun.pure (PureOp.lenLst rfl (.tmp rfl) vh_sl_80) rfl rfl (Nat.le_of_ble_eq_true rfl) ?_
  refine ARun.pure (PureOp.intOp rfl (.tmp rfl) (.tmp rfl) rfl) rfl rfl (Nat.le_of_ble_eq_true rfl) ?_
  refine ARun.nil ?_
  refine AW.cond (.tmp rfl) (fun hb1 => ?_) (fun hb1 => ?_)
  · have _u := True.intro
    replace hb1 := of_decide_eq_true hb1
    have hkl : k < xx.length := by omega
    obtain ⟨hst, hsm⟩ := ct_step (ct := c1) (ByteArray.empty : ByteArray) hkl
    have he : yy.getD k (ByteArray.empty : ByteArray) = mkS (xx.getD k (ByteArray.empty : ByteArray)) (a + ((xx.take k).map c1).sum) := by rw [hy]; exact mkL_get (ByteArray.empty : ByteArray) hkl
    have hce : c1 (xx.getD k (ByteArray.empty : ByteArray)) = 1 := rfl
    refine AW.skip ?_
    refine AW.seq ?_
    refine AW.block ?_
    refine AW.seq ?_
    refine AW.seq ?_
    refine AW.any (by kernel_rfl) (by kernel_rfl) ?_
    refine AD.pure (PureOp.move rfl (.tmp rfl)) rfl rfl (Nat.le_of_ble_eq_true rfl) ?_
    refine AD.pure (PureOp.move rfl (.tmp rfl)) rfl rfl (Nat.le_of_ble_eq_true rfl) ?_
    refine AD.pure (PureOp.indexLst (i := k) rfl (.tmp rfl) vh_el_80_1 (.tmp rfl) rfl (by omega)) rfl rfl (Nat.le_of_ble_eq_true rfl) ?_
    refine AD.pure (PureOp.loadRef rfl (.tmp rfl) vh_pl_9 (Nat.le_of_ble_eq_true rfl)) rfl rfl (Nat.le_of_ble_eq_true rfl) ?_
    refine AD.pure (PureOp.move rfl (.tmp rfl)) rfl rfl (Nat.le_of_ble_eq_true rfl) ?_
    refine AD.pure (PureOp.call rfl (v_markText (a + ((xx.take k).map c1).sum) (by omega) (by omega)) ⟨⟨_, (.tmp rfl), .int⟩, trivial⟩ vh_ca_117 (Nat.le_trans (mkText_size (by omega)) (by decide))) rfl rfl (Nat.le_of_ble_eq_true rfl) ?_
    refine AD.pure (PureOp.strOp rfl (.tmp rfl) (.tmp rfl) rfl) rfl rfl (Nat.le_of_ble_eq_true rfl) ?_
    refine AD.nil ?_
    refine AW.cond (.tmp rfl) (fun hb2 => ?_) (fun hb2 => ?_)
    · have _u := True.intro
      replace hb2 := of_decide_eq_false (of_not hb2)
      exact absurd (by rw [he]; rfl) hb2
      --end
    · have _u := True.intro
      replace hb2 := of_decide_eq_true (not_f hb2)
      refine AW.skip ?_
      refine AW.region ?_
      refine ARun.pure (PureOp.move rfl (.tmp rfl)) rfl rfl (Nat.le_of_ble_eq_true rfl) ?_
      refine ARun.pure (PureOp.add (c := ((a + ((xx.take k).map c1).sum + 1 : Nat) : Int)) rfl (.tmp rfl) .int (by rw [wrap_id (by omega) (by omega)]; omega)) rfl rfl (Nat.le_of_ble_eq_true rfl) ?_
      refine ARun.pure (PureOp.assign rfl (.tmp rfl)) rfl rfl (Nat.le_of_ble_eq_true rfl) ?_
      refine ARun.nil ?_
      refine AW.region ?_
      refine ARun.pure (PureOp.move rfl (.tmp rfl)) rfl rfl (Nat.le_of_ble_eq_true rfl) ?_
      refine ARun.pure (PureOp.add (c := ((k + 1 : Nat) : Int)) rfl (.tmp rfl) .int (by rw [wrap_id (by omega) (by omega)]; omega)) rfl rfl (Nat.le_of_ble_eq_true rfl) ?_
      refine ARun.pure (PureOp.assign rfl (.tmp rfl)) rfl rfl (Nat.le_of_ble_eq_true rfl) ?_
      refine ARun.nil ?_
      exact ⟨k + 1, by omega, by dsimp only; omega, ⟨⟨⟨_, rfl, rfl⟩, ⟨_, rfl, congrArg (fun z : Nat => SV.one (.int .i64 (z : Int))) (by omega)⟩, ⟨_, rfl, rfl⟩, trivial⟩, trivial⟩⟩
  · have _u := True.intro
    replace hb1 := of_decide_eq_false hb1
    have hkl : ¬ k < xx.length := by omega
    refine AW.exit ?_
    refine AW.seq ?_
    refine AW.region ?_
    refine ARun.pure (PureOp.move rfl (.tmp rfl)) rfl rfl (Nat.le_of_ble_eq_true rfl) ?_
    refine ARun.pure (PureOp.assign rfl (.tmp rfl)) rfl rfl (Nat.le_of_ble_eq_true rfl) ?_
    refine ARun.nil ?_
    refine AW.ret (show ResL _ _ [.tmp 4] _ from resI rfl ?_)
    have hend : ctL c1 xx = ((xx.take k).map c1).sum := (ct_end hkl).symm
    omega

theorem h_StringSS (xx yy : List (List ByteArray)) (a : Nat) (hy : yy = mkL (ctL c1) (mkL c1 mkS) xx a) (ha : 0 < a ∧ a + ctL (ctL c1) xx ≤ 900000000) : Fn Try.prog 104 [.one (.lst 1 yy.length (fun i0 _ => .lst 1 ((yy.getD i0 []).length) (fun i1 _ => .str ((yy.getD i0 []).getD i1 ByteArray.empty)))), .one (.int .i64 (a : Int))] (.one (.int .i64 ((a + ctL (ctL c1) xx : Nat) : Int))) := by
  obtain ⟨ha0, ha1⟩ := ha
  have hlen : yy.length = xx.length := by rw [hy]; exact mkL_len
  refine Fn.of_body (fn := Try.f104) Try.func104 rfl (Nat.le_of_ble_eq_true rfl) trivial ?_
  intro w0
  show AW _ 21 _ _ _ _
  refine AW.bound (t := 0) rfl fun hx => ?_
  refine AW.seq ?_
  refine AW.region ?_
  refine ARun.pure (PureOp.assign rfl .int) rfl rfl (Nat.le_of_ble_eq_true rfl) ?_
  refine ARun.nil ?_
  refine AW.seq ?_
  refine AW.seq ?_
  refine AW.region ?_
  refine ARun.pure (PureOp.assign rfl .int) rfl rfl (Nat.le_of_ble_eq_true rfl) ?_
  refine ARun.nil ?_
  refine AW.block ?_
  refine AW.loop (ι := Nat) (fun k => ⟨[(0, .one (.lst 1 yy.length (fun i0 _ => .lst 1 ((yy.getD i0 []).length) (fun i1 _ => .str ((yy.getD i0 []).getD i1 ByteArray.empty))))), (1, .one (.int .i64 ((a + ((xx.take k).map (ctL c1)).sum : Nat) : Int))), (5, .one (.int .i64 (k : Int)))], []⟩) (fun k => k ≤ xx.length) (fun k => xx.length - k) 0 (Nat.zero_le _) ⟨⟨⟨_, rfl, rfl⟩, ⟨_, rfl, by simp⟩, ⟨_, rfl, rfl⟩, trivial⟩, trivial⟩ ?_
  intro k hk
  refine AW.seq ?_
  refine AW.seq ?_
  refine AW.region ?_
  refine ARun.pure (PureOp.move rfl (.tmp rfl)) rfl rfl (Nat.le_of_ble_eq_true rfl) ?_
  refine ARun.pure (PureOp.move rfl (.tmp rfl)) rfl rfl (Nat.le_of_ble_eq_true rfl) ?_
  refine ARun.pure (PureOp.lenLst rfl (.tmp rfl) vh_sl_62) rfl rfl (Nat.le_of_ble_eq_true rfl) ?_
  refine ARun.pure (PureOp.intOp rfl (.tmp rfl) (.tmp rfl) rfl) rfl rfl (Nat.le_of_ble_eq_true rfl) ?_
  refine ARun.nil ?_
  refine AW.cond (.tmp rfl) (fun hb1 => ?_) (fun hb1 => ?_)
  · have _u := True.intro
    replace hb1 := of_decide_eq_true hb1
    have hkl : k < xx.length := by omega
    obtain ⟨hst, hsm⟩ := ct_step (ct := (ctL c1)) ([] : List ByteArray) hkl
    have he : yy.getD k ([] : List ByteArray) = (mkL c1 mkS) (xx.getD k ([] : List ByteArray)) (a + ((xx.take k).map (ctL c1)).sum) := by rw [hy]; exact mkL_get ([] : List ByteArray) hkl
    refine AW.skip ?_
    refine AW.seq ?_
    refine AW.block ?_
    refine AW.seq ?_
    refine AW.region ?_
    refine ARun.pure (PureOp.move rfl (.tmp rfl)) rfl rfl (Nat.le_of_ble_eq_true rfl) ?_
    refine ARun.pure (PureOp.move rfl (.tmp rfl)) rfl rfl (Nat.le_of_ble_eq_true rfl) ?_
    refine ARun.pure (PureOp.indexLst (i := k) rfl (.tmp rfl) vh_el_62_1 (.tmp rfl) rfl (by omega)) rfl rfl (Nat.le_of_ble_eq_true rfl) ?_
    refine ARun.pure (PureOp.loadRef rfl (.tmp rfl) vh_pl_80 (Nat.le_of_ble_eq_true rfl)) rfl rfl (Nat.le_of_ble_eq_true rfl) ?_
    refine ARun.pure (PureOp.move rfl (.tmp rfl)) rfl rfl (Nat.le_of_ble_eq_true rfl) ?_
    refine ARun.pure (PureOp.call rfl (h_StringS (xx.getD k []) (yy.getD k []) (a + ((xx.take k).map (ctL c1)).sum) (by first | exact he | (rw [he]; rfl)) ⟨by omega, by omega⟩) ⟨⟨_, (.tmp rfl), .lst⟩, ⟨_, (.tmp rfl), .int⟩, trivial⟩ vh_ca_56 trivial) rfl rfl (Nat.le_of_ble_eq_true rfl) ?_
    refine ARun.pure (PureOp.assign rfl (.tmp rfl)) rfl rfl (Nat.le_of_ble_eq_true rfl) ?_
    refine ARun.nil ?_
    refine AW.seq ?_
    refine AW.region ?_
    refine ARun.pure (PureOp.move rfl (.tmp rfl)) rfl rfl (Nat.le_of_ble_eq_true rfl) ?_
    refine ARun.pure (PureOp.intOp rfl (.tmp rfl) .int rfl) rfl rfl (Nat.le_of_ble_eq_true rfl) ?_
    refine ARun.nil ?_
    refine AW.cond (.tmp rfl) (fun hb2 => ?_) (fun hb2 => ?_)
    · have _u := True.intro
      replace hb2 := of_decide_eq_true hb2
      exact absurd hb2 (by omega)
      --end
    · have _u := True.intro
      replace hb2 := of_decide_eq_false hb2
      refine AW.skip ?_
      refine AW.region ?_
      refine ARun.pure (PureOp.move rfl (.tmp rfl)) rfl rfl (Nat.le_of_ble_eq_true rfl) ?_
      refine ARun.pure (PureOp.add (c := ((k + 1 : Nat) : Int)) rfl (.tmp rfl) .int (by rw [wrap_id (by omega) (by omega)]; omega)) rfl rfl (Nat.le_of_ble_eq_true rfl) ?_
      refine ARun.pure (PureOp.assign rfl (.tmp rfl)) rfl rfl (Nat.le_of_ble_eq_true rfl) ?_
      refine ARun.nil ?_
      exact ⟨k + 1, by omega, by dsimp only; omega, ⟨⟨⟨_, rfl, rfl⟩, ⟨_, rfl, congrArg (fun z : Nat => SV.one (.int .i64 (z : Int))) (by omega)⟩, ⟨_, rfl, rfl⟩, trivial⟩, trivial⟩⟩
  · have _u := True.intro
    replace hb1 := of_decide_eq_false hb1
    have hkl : ¬ k < xx.length := by omega
    refine AW.exit ?_
    refine AW.seq ?_
    refine AW.region ?_
    refine ARun.pure (PureOp.move rfl (.tmp rfl)) rfl rfl (Nat.le_of_ble_eq_true rfl) ?_
    refine ARun.pure (PureOp.assign rfl (.tmp rfl)) rfl rfl (Nat.le_of_ble_eq_true rfl) ?_
    refine ARun.nil ?_
    refine AW.ret (show ResL _ _ [.tmp 4] _ from resI rfl ?_)
    have hend : ctL (ctL c1) xx = ((xx.take k).map (ctL c1)).sum := (ct_end hkl).symm
    omega

theorem h_IntS (xx yy : List Int) (a : Nat) (hy : yy = mkL c1 mkI xx a) (ha : 0 < a ∧ a + ctL c1 xx ≤ 900000000) : Fn Try.prog 86 [.one (.lst 1 yy.length (fun i0 _ => .int .i64 (yy.getD i0 0))), .one (.int .i64 (a : Int))] (.one (.int .i64 ((a + ctL c1 xx : Nat) : Int))) := by
  obtain ⟨ha0, ha1⟩ := ha
  have hlen : yy.length = xx.length := by rw [hy]; exact mkL_len
  refine Fn.of_body (fn := Try.f86) Try.func86 rfl (Nat.le_of_ble_eq_true rfl) trivial ?_
  intro w0
  show AW _ 21 _ _ _ _
  refine AW.bound (t := 0) rfl fun hx => ?_
  refine AW.seq ?_
  refine AW.region ?_
  refine ARun.pure (PureOp.assign rfl .int) rfl rfl (Nat.le_of_ble_eq_true rfl) ?_
  refine ARun.nil ?_
  refine AW.seq ?_
  refine AW.seq ?_
  refine AW.region ?_
  refine ARun.pure (PureOp.assign rfl .int) rfl rfl (Nat.le_of_ble_eq_true rfl) ?_
  refine ARun.nil ?_
  refine AW.block ?_
  refine AW.loop (ι := Nat) (fun k => ⟨[(0, .one (.lst 1 yy.length (fun i0 _ => .int .i64 (yy.getD i0 0)))), (1, .one (.int .i64 ((a + ((xx.take k).map c1).sum : Nat) : Int))), (5, .one (.int .i64 (k : Int)))], []⟩) (fun k => k ≤ xx.length) (fun k => xx.length - k) 0 (Nat.zero_le _) ⟨⟨⟨_, rfl, rfl⟩, ⟨_, rfl, by simp⟩, ⟨_, rfl, rfl⟩, trivial⟩, trivial⟩ ?_
  intro k hk
  refine AW.seq ?_
  refine AW.seq ?_
  refine AW.region ?_
  refine ARun.pure (PureOp.move rfl (.tmp rfl)) rfl rfl (Nat.le_of_ble_eq_true rfl) ?_
  refine ARun.pure (PureOp.move rfl (.tmp rfl)) rfl rfl (Nat.le_of_ble_eq_true rfl) ?_
  refine ARun.pure (PureOp.lenLst rfl (.tmp rfl) vh_sl_22) rfl rfl (Nat.le_of_ble_eq_true rfl) ?_
  refine ARun.pure (PureOp.intOp rfl (.tmp rfl) (.tmp rfl) rfl) rfl rfl (Nat.le_of_ble_eq_true rfl) ?_
  refine ARun.nil ?_
  refine AW.cond (.tmp rfl) (fun hb1 => ?_) (fun hb1 => ?_)
  · have _u := True.intro
    replace hb1 := of_decide_eq_true hb1
    have hkl : k < xx.length := by omega
    obtain ⟨hst, hsm⟩ := ct_step (ct := c1) (0 : Int) hkl
    have he : yy.getD k (0 : Int) = mkI (xx.getD k (0 : Int)) (a + ((xx.take k).map c1).sum) := by rw [hy]; exact mkL_get (0 : Int) hkl
    have hce : c1 (xx.getD k (0 : Int)) = 1 := rfl
    refine AW.skip ?_
    refine AW.seq ?_
    refine AW.block ?_
    refine AW.seq ?_
    refine AW.seq ?_
    refine AW.region ?_
    refine ARun.pure (PureOp.move rfl (.tmp rfl)) rfl rfl (Nat.le_of_ble_eq_true rfl) ?_
    refine ARun.pure (PureOp.move rfl (.tmp rfl)) rfl rfl (Nat.le_of_ble_eq_true rfl) ?_
    refine ARun.pure (PureOp.indexLst (i := k) rfl (.tmp rfl) vh_el_22_1 (.tmp rfl) rfl (by omega)) rfl rfl (Nat.le_of_ble_eq_true rfl) ?_
    refine ARun.pure (PureOp.loadRef rfl (.tmp rfl) vh_pl_3 (Nat.le_of_ble_eq_true rfl)) rfl rfl (Nat.le_of_ble_eq_true rfl) ?_
    refine ARun.pure (PureOp.move rfl (.tmp rfl)) rfl rfl (Nat.le_of_ble_eq_true rfl) ?_
    refine ARun.pure (PureOp.intOp rfl (.tmp rfl) (.tmp rfl) rfl) rfl rfl (Nat.le_of_ble_eq_true rfl) ?_
    refine ARun.nil ?_
    refine AW.cond (.tmp rfl) (fun hb2 => ?_) (fun hb2 => ?_)
    · have _u := True.intro
      replace hb2 := of_decide_eq_false (of_not hb2)
      exact absurd (by rw [he]; rfl) hb2
      --end
    · have _u := True.intro
      replace hb2 := of_decide_eq_true (not_f hb2)
      refine AW.skip ?_
      refine AW.region ?_
      refine ARun.pure (PureOp.move rfl (.tmp rfl)) rfl rfl (Nat.le_of_ble_eq_true rfl) ?_
      refine ARun.pure (PureOp.add (c := ((a + ((xx.take k).map c1).sum + 1 : Nat) : Int)) rfl (.tmp rfl) .int (by rw [wrap_id (by omega) (by omega)]; omega)) rfl rfl (Nat.le_of_ble_eq_true rfl) ?_
      refine ARun.pure (PureOp.assign rfl (.tmp rfl)) rfl rfl (Nat.le_of_ble_eq_true rfl) ?_
      refine ARun.nil ?_
      refine AW.region ?_
      refine ARun.pure (PureOp.move rfl (.tmp rfl)) rfl rfl (Nat.le_of_ble_eq_true rfl) ?_
      refine ARun.pure (PureOp.add (c := ((k + 1 : Nat) : Int)) rfl (.tmp rfl) .int (by rw [wrap_id (by omega) (by omega)]; omega)) rfl rfl (Nat.le_of_ble_eq_true rfl) ?_
      refine ARun.pure (PureOp.assign rfl (.tmp rfl)) rfl rfl (Nat.le_of_ble_eq_true rfl) ?_
      refine ARun.nil ?_
      exact ⟨k + 1, by omega, by dsimp only; omega, ⟨⟨⟨_, rfl, rfl⟩, ⟨_, rfl, congrArg (fun z : Nat => SV.one (.int .i64 (z : Int))) (by omega)⟩, ⟨_, rfl, rfl⟩, trivial⟩, trivial⟩⟩
  · have _u := True.intro
    replace hb1 := of_decide_eq_false hb1
    have hkl : ¬ k < xx.length := by omega
    refine AW.exit ?_
    refine AW.seq ?_
    refine AW.region ?_
    refine ARun.pure (PureOp.move rfl (.tmp rfl)) rfl rfl (Nat.le_of_ble_eq_true rfl) ?_
    refine ARun.pure (PureOp.assign rfl (.tmp rfl)) rfl rfl (Nat.le_of_ble_eq_true rfl) ?_
    refine ARun.nil ?_
    refine AW.ret (show ResL _ _ [.tmp 4] _ from resI rfl ?_)
    have hend : ctL c1 xx = ((xx.take k).map c1).sum := (ct_end hkl).symm
    omega

theorem h_NoteS (xx yy : List GNote) (a : Nat) (hy : yy = mkL crNote mrNote xx a) (ha : 0 < a ∧ a + ctL crNote xx ≤ 900000000) : Fn Try.prog 105 [.one (.lst 4 yy.length (fun i0 j0 => ([.bool ((yy.getD i0 (default : GNote)).back), .int .i64 (((yy.getD i0 (default : GNote)).what).who), .int .i64 (((yy.getD i0 (default : GNote)).what).no), .str (((yy.getD i0 (default : GNote)).what).text)] : List AV).getD j0 (.con undef))), .one (.int .i64 (a : Int))] (.one (.int .i64 ((a + ctL crNote xx : Nat) : Int))) := by
  obtain ⟨ha0, ha1⟩ := ha
  have hlen : yy.length = xx.length := by rw [hy]; exact mkL_len
  refine Fn.of_body (fn := Try.f105) Try.func105 rfl (Nat.le_of_ble_eq_true rfl) trivial ?_
  intro w0
  show AW _ 55 _ _ _ _
  refine AW.bound (t := 0) rfl fun hx => ?_
  refine AW.seq ?_
  refine AW.region ?_
  refine ARun.pure (PureOp.assign rfl .int) rfl rfl (Nat.le_of_ble_eq_true rfl) ?_
  refine ARun.nil ?_
  refine AW.seq ?_
  refine AW.seq ?_
  refine AW.region ?_
  refine ARun.pure (PureOp.assign rfl .int) rfl rfl (Nat.le_of_ble_eq_true rfl) ?_
  refine ARun.nil ?_
  refine AW.block ?_
  refine AW.loop (ι := Nat) (fun k => ⟨[(0, .one (.lst 4 yy.length (fun i0 j0 => ([.bool ((yy.getD i0 (default : GNote)).back), .int .i64 (((yy.getD i0 (default : GNote)).what).who), .int .i64 (((yy.getD i0 (default : GNote)).what).no), .str (((yy.getD i0 (default : GNote)).what).text)] : List AV).getD j0 (.con undef)))), (1, .one (.int .i64 ((a + ((xx.take k).map crNote).sum : Nat) : Int))), (5, .one (.int .i64 (k : Int)))], []⟩) (fun k => k ≤ xx.length) (fun k => xx.length - k) 0 (Nat.zero_le _) ⟨⟨⟨_, rfl, rfl⟩, ⟨_, rfl, by simp⟩, ⟨_, rfl, rfl⟩, trivial⟩, trivial⟩ ?_
  intro k hk
  refine AW.seq ?_
  refine AW.seq ?_
  refine AW.region ?_
  refine ARun.pure (PureOp.move rfl (.tmp rfl)) rfl rfl (Nat.le_of_ble_eq_true rfl) ?_
  refine ARun.pure (PureOp.move rfl (.tmp rfl)) rfl rfl (Nat.le_of_ble_eq_true rfl) ?_
  refine ARun.pure (PureOp.lenLst rfl (.tmp rfl) vh_sl_63) rfl rfl (Nat.le_of_ble_eq_true rfl) ?_
  refine ARun.pure (PureOp.intOp rfl (.tmp rfl) (.tmp rfl) rfl) rfl rfl (Nat.le_of_ble_eq_true rfl) ?_
  refine ARun.nil ?_
  refine AW.cond (.tmp rfl) (fun hb1 => ?_) (fun hb1 => ?_)
  · have _u := True.intro
    replace hb1 := of_decide_eq_true hb1
    have hkl : k < xx.length := by omega
    obtain ⟨hst, hsm⟩ := ct_step (ct := crNote) (default : GNote) hkl
    have he : yy.getD k (default : GNote) = mrNote (xx.getD k (default : GNote)) (a + ((xx.take k).map crNote).sum) := by rw [hy]; exact mkL_get (default : GNote) hkl
    have hce : crNote (xx.getD k (default : GNote)) = 0 + 1 + 1 + 1 + 1 := rfl
    refine AW.skip ?_
    refine AW.seq ?_
    refine AW.block ?_
    refine AW.seq ?_
    refine AW.seq ?_
    refine AW.region ?_
    refine ARun.pure (PureOp.move rfl (.tmp rfl)) rfl rfl (Nat.le_of_ble_eq_true rfl) ?_
    refine ARun.pure (PureOp.move rfl (.tmp rfl)) rfl rfl (Nat.le_of_ble_eq_true rfl) ?_
    refine ARun.pure (PureOp.indexLst (i := k) rfl (.tmp rfl) vh_el_63_4 (.tmp rfl) rfl (by omega)) rfl rfl (Nat.le_of_ble_eq_true rfl) ?_
    refine ARun.pure (PureOp.fieldRef rfl (.tmp rfl) vh_fi_127_0_0 (Nat.le_of_ble_eq_true rfl)) rfl rfl (Nat.le_of_ble_eq_true rfl) ?_
    refine ARun.pure (PureOp.loadRef rfl (.tmp rfl) vh_pl_4 (Nat.le_of_ble_eq_true rfl)) rfl rfl (Nat.le_of_ble_eq_true rfl) ?_
    refine ARun.pure (PureOp.move rfl (.tmp rfl)) rfl rfl (Nat.le_of_ble_eq_true rfl) ?_
    refine ARun.pure (PureOp.rem (a := a + ((xx.take k).map crNote).sum) (b := 3) rfl (.tmp rfl) .int rfl (by decide) (by omega)) rfl rfl (Nat.le_of_ble_eq_true rfl) ?_
    refine ARun.pure (PureOp.intOp rfl (.tmp rfl) .int rfl) rfl rfl (Nat.le_of_ble_eq_true rfl) ?_
    refine ARun.pure (PureOp.boolNe rfl (.tmp rfl) (.tmp rfl) vh_bo_4) rfl rfl (Nat.le_of_ble_eq_true rfl) ?_
    refine ARun.nil ?_
    refine AW.cond (.tmp rfl) (fun hb2 => ?_) (fun hb2 => ?_)
    · have _u := True.intro
      replace hb2 := beq_f (of_not hb2)
      exact absurd (by rw [he]; rfl) hb2
      --end
    · have _u := True.intro
      replace hb2 := beq_t (not_f hb2)
      refine AW.skip ?_
      refine AW.seq ?_
      refine AW.region ?_
      refine ARun.pure (PureOp.move rfl (.tmp rfl)) rfl rfl (Nat.le_of_ble_eq_true rfl) ?_
      refine ARun.pure (PureOp.add (c := ((a + ((xx.take k).map crNote).sum + 1 : Nat) : Int)) rfl (.tmp rfl) .int (by rw [wrap_id (by omega) (by omega)]; omega)) rfl rfl (Nat.le_of_ble_eq_true rfl) ?_
      refine ARun.pure (PureOp.assign rfl (.tmp rfl)) rfl rfl (Nat.le_of_ble_eq_true rfl) ?_
      refine ARun.nil ?_
      refine AW.seq ?_
      refine AW.seq ?_
      refine AW.region ?_
      refine ARun.pure (PureOp.move rfl (.tmp rfl)) rfl rfl (Nat.le_of_ble_eq_true rfl) ?_
      refine ARun.pure (PureOp.move rfl (.tmp rfl)) rfl rfl (Nat.le_of_ble_eq_true rfl) ?_
      refine ARun.pure (PureOp.indexLst (i := k) rfl (.tmp rfl) vh_el_63_4 (.tmp rfl) rfl (by omega)) rfl rfl (Nat.le_of_ble_eq_true rfl) ?_
      refine ARun.pure (PureOp.fieldRef rfl (.tmp rfl) vh_fi_127_1_1 (Nat.le_of_ble_eq_true rfl)) rfl rfl (Nat.le_of_ble_eq_true rfl) ?_
      refine ARun.pure (PureOp.fieldRef rfl (.tmp rfl) vh_fi_125_0_0 (Nat.le_of_ble_eq_true rfl)) rfl rfl (Nat.le_of_ble_eq_true rfl) ?_
      refine ARun.pure (PureOp.loadRef rfl (.tmp rfl) vh_pl_3 (Nat.le_of_ble_eq_true rfl)) rfl rfl (Nat.le_of_ble_eq_true rfl) ?_
      refine ARun.pure (PureOp.move rfl (.tmp rfl)) rfl rfl (Nat.le_of_ble_eq_true rfl) ?_
      refine ARun.pure (PureOp.intOp rfl (.tmp rfl) (.tmp rfl) rfl) rfl rfl (Nat.le_of_ble_eq_true rfl) ?_
      refine ARun.nil ?_
      refine AW.cond (.tmp rfl) (fun hb3 => ?_) (fun hb3 => ?_)
      · have _u := True.intro
        replace hb3 := of_decide_eq_false (of_not hb3)
        exact absurd (by rw [he]; rfl) hb3
        --end
      · have _u := True.intro
        replace hb3 := of_decide_eq_true (not_f hb3)
        refine AW.skip ?_
        refine AW.seq ?_
        refine AW.region ?_
        refine ARun.pure (PureOp.move rfl (.tmp rfl)) rfl rfl (Nat.le_of_ble_eq_true rfl) ?_
        refine ARun.pure (PureOp.add (c := ((a + ((xx.take k).map crNote).sum + 1 + 1 : Nat) : Int)) rfl (.tmp rfl) .int (by rw [wrap_id (by omega) (by omega)]; omega)) rfl rfl (Nat.le_of_ble_eq_true rfl) ?_
        refine ARun.pure (PureOp.assign rfl (.tmp rfl)) rfl rfl (Nat.le_of_ble_eq_true rfl) ?_
        refine ARun.nil ?_
        refine AW.seq ?_
        refine AW.seq ?_
        refine AW.region ?_
        refine ARun.pure (PureOp.move rfl (.tmp rfl)) rfl rfl (Nat.le_of_ble_eq_true rfl) ?_
        refine ARun.pure (PureOp.move rfl (.tmp rfl)) rfl rfl (Nat.le_of_ble_eq_true rfl) ?_
        refine ARun.pure (PureOp.indexLst (i := k) rfl (.tmp rfl) vh_el_63_4 (.tmp rfl) rfl (by omega)) rfl rfl (Nat.le_of_ble_eq_true rfl) ?_
        refine ARun.pure (PureOp.fieldRef rfl (.tmp rfl) vh_fi_127_1_1 (Nat.le_of_ble_eq_true rfl)) rfl rfl (Nat.le_of_ble_eq_true rfl) ?_
        refine ARun.pure (PureOp.fieldRef rfl (.tmp rfl) vh_fi_125_1_1 (Nat.le_of_ble_eq_true rfl)) rfl rfl (Nat.le_of_ble_eq_true rfl) ?_
        refine ARun.pure (PureOp.loadRef rfl (.tmp rfl) vh_pl_3 (Nat.le_of_ble_eq_true rfl)) rfl rfl (Nat.le_of_ble_eq_true rfl) ?_
        refine ARun.pure (PureOp.move rfl (.tmp rfl)) rfl rfl (Nat.le_of_ble_eq_true rfl) ?_
        refine ARun.pure (PureOp.intOp rfl (.tmp rfl) (.tmp rfl) rfl) rfl rfl (Nat.le_of_ble_eq_true rfl) ?_
        refine ARun.nil ?_
        refine AW.cond (.tmp rfl) (fun hb4 => ?_) (fun hb4 => ?_)
        · have _u := True.intro
          replace hb4 := of_decide_eq_false (of_not hb4)
          exact absurd (by rw [he]; rfl) hb4
          --end
        · have _u := True.intro
          replace hb4 := of_decide_eq_true (not_f hb4)
          refine AW.skip ?_
          refine AW.seq ?_
          refine AW.region ?_
          refine ARun.pure (PureOp.move rfl (.tmp rfl)) rfl rfl (Nat.le_of_ble_eq_true rfl) ?_
          refine ARun.pure (PureOp.add (c := ((a + ((xx.take k).map crNote).sum + 1 + 1 + 1 : Nat) : Int)) rfl (.tmp rfl) .int (by rw [wrap_id (by omega) (by omega)]; omega)) rfl rfl (Nat.le_of_ble_eq_true rfl) ?_
          refine ARun.pure (PureOp.assign rfl (.tmp rfl)) rfl rfl (Nat.le_of_ble_eq_true rfl) ?_
          refine ARun.nil ?_
          refine AW.seq ?_
          refine AW.seq ?_
          refine AW.any (by kernel_rfl) (by kernel_rfl) ?_
          refine AD.pure (PureOp.move rfl (.tmp rfl)) rfl rfl (Nat.le_of_ble_eq_true rfl) ?_
          refine AD.pure (PureOp.move rfl (.tmp rfl)) rfl rfl (Nat.le_of_ble_eq_true rfl) ?_
          refine AD.pure (PureOp.indexLst (i := k) rfl (.tmp rfl) vh_el_63_4 (.tmp rfl) rfl (by omega)) rfl rfl (Nat.le_of_ble_eq_true rfl) ?_
          refine AD.pure (PureOp.fieldRef rfl (.tmp rfl) vh_fi_127_1_1 (Nat.le_of_ble_eq_true rfl)) rfl rfl (Nat.le_of_ble_eq_true rfl) ?_
          refine AD.pure (PureOp.fieldRef rfl (.tmp rfl) vh_fi_125_2_2 (Nat.le_of_ble_eq_true rfl)) rfl rfl (Nat.le_of_ble_eq_true rfl) ?_
          refine AD.pure (PureOp.loadRef rfl (.tmp rfl) vh_pl_9 (Nat.le_of_ble_eq_true rfl)) rfl rfl (Nat.le_of_ble_eq_true rfl) ?_
          refine AD.pure (PureOp.move rfl (.tmp rfl)) rfl rfl (Nat.le_of_ble_eq_true rfl) ?_
          refine AD.pure (PureOp.call rfl (v_markText (a + ((xx.take k).map crNote).sum + 1 + 1 + 1) (by omega) (by omega)) ⟨⟨_, (.tmp rfl), .int⟩, trivial⟩ vh_ca_117 (Nat.le_trans (mkText_size (by omega)) (by decide))) rfl rfl (Nat.le_of_ble_eq_true rfl) ?_
          refine AD.pure (PureOp.strOp rfl (.tmp rfl) (.tmp rfl) rfl) rfl rfl (Nat.le_of_ble_eq_true rfl) ?_
          refine AD.nil ?_
          refine AW.cond (.tmp rfl) (fun hb5 => ?_) (fun hb5 => ?_)
          · have _u := True.intro
            replace hb5 := of_decide_eq_false (of_not hb5)
            exact absurd (by rw [he]; rfl) hb5
            --end
          · have _u := True.intro
            replace hb5 := of_decide_eq_true (not_f hb5)
            refine AW.skip ?_
            refine AW.region ?_
            refine ARun.pure (PureOp.move rfl (.tmp rfl)) rfl rfl (Nat.le_of_ble_eq_true rfl) ?_
            refine ARun.pure (PureOp.add (c := ((a + ((xx.take k).map crNote).sum + 1 + 1 + 1 + 1 : Nat) : Int)) rfl (.tmp rfl) .int (by rw [wrap_id (by omega) (by omega)]; omega)) rfl rfl (Nat.le_of_ble_eq_true rfl) ?_
            refine ARun.pure (PureOp.assign rfl (.tmp rfl)) rfl rfl (Nat.le_of_ble_eq_true rfl) ?_
            refine ARun.nil ?_
            refine AW.region ?_
            refine ARun.pure (PureOp.move rfl (.tmp rfl)) rfl rfl (Nat.le_of_ble_eq_true rfl) ?_
            refine ARun.pure (PureOp.add (c := ((k + 1 : Nat) : Int)) rfl (.tmp rfl) .int (by rw [wrap_id (by omega) (by omega)]; omega)) rfl rfl (Nat.le_of_ble_eq_true rfl) ?_
            refine ARun.pure (PureOp.assign rfl (.tmp rfl)) rfl rfl (Nat.le_of_ble_eq_true rfl) ?_
            refine ARun.nil ?_
            exact ⟨k + 1, by omega, by dsimp only; omega, ⟨⟨⟨_, rfl, rfl⟩, ⟨_, rfl, congrArg (fun z : Nat => SV.one (.int .i64 (z : Int))) (by omega)⟩, ⟨_, rfl, rfl⟩, trivial⟩, trivial⟩⟩
  · have _u := True.intro
    replace hb1 := of_decide_eq_false hb1
    have hkl : ¬ k < xx.length := by omega
    refine AW.exit ?_
    refine AW.seq ?_
    refine AW.region ?_
    refine ARun.pure (PureOp.move rfl (.tmp rfl)) rfl rfl (Nat.le_of_ble_eq_true rfl) ?_
    refine ARun.pure (PureOp.assign rfl (.tmp rfl)) rfl rfl (Nat.le_of_ble_eq_true rfl) ?_
    refine ARun.nil ?_
    refine AW.ret (show ResL _ _ [.tmp 4] _ from resI rfl ?_)
    have hend : ctL crNote xx = ((xx.take k).map crNote).sum := (ct_end hkl).symm
    omega

theorem h_ToldS (xx yy : List GTold) (a : Nat) (hy : yy = mkL crTold mrTold xx a) (ha : 0 < a ∧ a + ctL crTold xx ≤ 900000000) : Fn Try.prog 106 [.one (.lst 3 yy.length (fun i0 j0 => ([.int .i64 ((yy.getD i0 (default : GTold)).who), .int .i64 ((yy.getD i0 (default : GTold)).no), .str ((yy.getD i0 (default : GTold)).text)] : List AV).getD j0 (.con undef))), .one (.int .i64 (a : Int))] (.one (.int .i64 ((a + ctL crTold xx : Nat) : Int))) := by
  obtain ⟨ha0, ha1⟩ := ha
  have hlen : yy.length = xx.length := by rw [hy]; exact mkL_len
  refine Fn.of_body (fn := Try.f106) Try.func106 rfl (Nat.le_of_ble_eq_true rfl) trivial ?_
  intro w0
  show AW _ 41 _ _ _ _
  refine AW.bound (t := 0) rfl fun hx => ?_
  refine AW.seq ?_
  refine AW.region ?_
  refine ARun.pure (PureOp.assign rfl .int) rfl rfl (Nat.le_of_ble_eq_true rfl) ?_
  refine ARun.nil ?_
  refine AW.seq ?_
  refine AW.seq ?_
  refine AW.region ?_
  refine ARun.pure (PureOp.assign rfl .int) rfl rfl (Nat.le_of_ble_eq_true rfl) ?_
  refine ARun.nil ?_
  refine AW.block ?_
  refine AW.loop (ι := Nat) (fun k => ⟨[(0, .one (.lst 3 yy.length (fun i0 j0 => ([.int .i64 ((yy.getD i0 (default : GTold)).who), .int .i64 ((yy.getD i0 (default : GTold)).no), .str ((yy.getD i0 (default : GTold)).text)] : List AV).getD j0 (.con undef)))), (1, .one (.int .i64 ((a + ((xx.take k).map crTold).sum : Nat) : Int))), (5, .one (.int .i64 (k : Int)))], []⟩) (fun k => k ≤ xx.length) (fun k => xx.length - k) 0 (Nat.zero_le _) ⟨⟨⟨_, rfl, rfl⟩, ⟨_, rfl, by simp⟩, ⟨_, rfl, rfl⟩, trivial⟩, trivial⟩ ?_
  intro k hk
  refine AW.seq ?_
  refine AW.seq ?_
  refine AW.region ?_
  refine ARun.pure (PureOp.move rfl (.tmp rfl)) rfl rfl (Nat.le_of_ble_eq_true rfl) ?_
  refine ARun.pure (PureOp.move rfl (.tmp rfl)) rfl rfl (Nat.le_of_ble_eq_true rfl) ?_
  refine ARun.pure (PureOp.lenLst rfl (.tmp rfl) vh_sl_64) rfl rfl (Nat.le_of_ble_eq_true rfl) ?_
  refine ARun.pure (PureOp.intOp rfl (.tmp rfl) (.tmp rfl) rfl) rfl rfl (Nat.le_of_ble_eq_true rfl) ?_
  refine ARun.nil ?_
  refine AW.cond (.tmp rfl) (fun hb1 => ?_) (fun hb1 => ?_)
  · have _u := True.intro
    replace hb1 := of_decide_eq_true hb1
    have hkl : k < xx.length := by omega
    obtain ⟨hst, hsm⟩ := ct_step (ct := crTold) (default : GTold) hkl
    have he : yy.getD k (default : GTold) = mrTold (xx.getD k (default : GTold)) (a + ((xx.take k).map crTold).sum) := by rw [hy]; exact mkL_get (default : GTold) hkl
    have hce : crTold (xx.getD k (default : GTold)) = 0 + 1 + 1 + 1 := rfl
    refine AW.skip ?_
    refine AW.seq ?_
    refine AW.block ?_
    refine AW.seq ?_
    refine AW.seq ?_
    refine AW.region ?_
    refine ARun.pure (PureOp.move rfl (.tmp rfl)) rfl rfl (Nat.le_of_ble_eq_true rfl) ?_
    refine ARun.pure (PureOp.move rfl (.tmp rfl)) rfl rfl (Nat.le_of_ble_eq_true rfl) ?_
    refine ARun.pure (PureOp.indexLst (i := k) rfl (.tmp rfl) vh_el_64_3 (.tmp rfl) rfl (by omega)) rfl rfl (Nat.le_of_ble_eq_true rfl) ?_
    refine ARun.pure (PureOp.fieldRef rfl (.tmp rfl) vh_fi_125_0_0 (Nat.le_of_ble_eq_true rfl)) rfl rfl (Nat.le_of_ble_eq_true rfl) ?_
    refine ARun.pure (PureOp.loadRef rfl (.tmp rfl) vh_pl_3 (Nat.le_of_ble_eq_true rfl)) rfl rfl (Nat.le_of_ble_eq_true rfl) ?_
    refine ARun.pure (PureOp.move rfl (.tmp rfl)) rfl rfl (Nat.le_of_ble_eq_true rfl) ?_
    refine ARun.pure (PureOp.intOp rfl (.tmp rfl) (.tmp rfl) rfl) rfl rfl (Nat.le_of_ble_eq_true rfl) ?_
    refine ARun.nil ?_
    refine AW.cond (.tmp rfl) (fun hb2 => ?_) (fun hb2 => ?_)
    · have _u := True.intro
      replace hb2 := of_decide_eq_false (of_not hb2)
      exact absurd (by rw [he]; rfl) hb2
      --end
    · have _u := True.intro
      replace hb2 := of_decide_eq_true (not_f hb2)
      refine AW.skip ?_
      refine AW.seq ?_
      refine AW.region ?_
      refine ARun.pure (PureOp.move rfl (.tmp rfl)) rfl rfl (Nat.le_of_ble_eq_true rfl) ?_
      refine ARun.pure (PureOp.add (c := ((a + ((xx.take k).map crTold).sum + 1 : Nat) : Int)) rfl (.tmp rfl) .int (by rw [wrap_id (by omega) (by omega)]; omega)) rfl rfl (Nat.le_of_ble_eq_true rfl) ?_
      refine ARun.pure (PureOp.assign rfl (.tmp rfl)) rfl rfl (Nat.le_of_ble_eq_true rfl) ?_
      refine ARun.nil ?_
      refine AW.seq ?_
      refine AW.seq ?_
      refine AW.region ?_
      refine ARun.pure (PureOp.move rfl (.tmp rfl)) rfl rfl (Nat.le_of_ble_eq_true rfl) ?_
      refine ARun.pure (PureOp.move rfl (.tmp rfl)) rfl rfl (Nat.le_of_ble_eq_true rfl) ?_
      refine ARun.pure (PureOp.indexLst (i := k) rfl (.tmp rfl) vh_el_64_3 (.tmp rfl) rfl (by omega)) rfl rfl (Nat.le_of_ble_eq_true rfl) ?_
      refine ARun.pure (PureOp.fieldRef rfl (.tmp rfl) vh_fi_125_1_1 (Nat.le_of_ble_eq_true rfl)) rfl rfl (Nat.le_of_ble_eq_true rfl) ?_
      refine ARun.pure (PureOp.loadRef rfl (.tmp rfl) vh_pl_3 (Nat.le_of_ble_eq_true rfl)) rfl rfl (Nat.le_of_ble_eq_true rfl) ?_
      refine ARun.pure (PureOp.move rfl (.tmp rfl)) rfl rfl (Nat.le_of_ble_eq_true rfl) ?_
      refine ARun.pure (PureOp.intOp rfl (.tmp rfl) (.tmp rfl) rfl) rfl rfl (Nat.le_of_ble_eq_true rfl) ?_
      refine ARun.nil ?_
      refine AW.cond (.tmp rfl) (fun hb3 => ?_) (fun hb3 => ?_)
      · have _u := True.intro
        replace hb3 := of_decide_eq_false (of_not hb3)
        exact absurd (by rw [he]; rfl) hb3
        --end
      · have _u := True.intro
        replace hb3 := of_decide_eq_true (not_f hb3)
        refine AW.skip ?_
        refine AW.seq ?_
        refine AW.region ?_
        refine ARun.pure (PureOp.move rfl (.tmp rfl)) rfl rfl (Nat.le_of_ble_eq_true rfl) ?_
        refine ARun.pure (PureOp.add (c := ((a + ((xx.take k).map crTold).sum + 1 + 1 : Nat) : Int)) rfl (.tmp rfl) .int (by rw [wrap_id (by omega) (by omega)]; omega)) rfl rfl (Nat.le_of_ble_eq_true rfl) ?_
        refine ARun.pure (PureOp.assign rfl (.tmp rfl)) rfl rfl (Nat.le_of_ble_eq_true rfl) ?_
        refine ARun.nil ?_
        refine AW.seq ?_
        refine AW.seq ?_
        refine AW.any (by kernel_rfl) (by kernel_rfl) ?_
        refine AD.pure (PureOp.move rfl (.tmp rfl)) rfl rfl (Nat.le_of_ble_eq_true rfl) ?_
        refine AD.pure (PureOp.move rfl (.tmp rfl)) rfl rfl (Nat.le_of_ble_eq_true rfl) ?_
        refine AD.pure (PureOp.indexLst (i := k) rfl (.tmp rfl) vh_el_64_3 (.tmp rfl) rfl (by omega)) rfl rfl (Nat.le_of_ble_eq_true rfl) ?_
        refine AD.pure (PureOp.fieldRef rfl (.tmp rfl) vh_fi_125_2_2 (Nat.le_of_ble_eq_true rfl)) rfl rfl (Nat.le_of_ble_eq_true rfl) ?_
        refine AD.pure (PureOp.loadRef rfl (.tmp rfl) vh_pl_9 (Nat.le_of_ble_eq_true rfl)) rfl rfl (Nat.le_of_ble_eq_true rfl) ?_
        refine AD.pure (PureOp.move rfl (.tmp rfl)) rfl rfl (Nat.le_of_ble_eq_true rfl) ?_
        refine AD.pure (PureOp.call rfl (v_markText (a + ((xx.take k).map crTold).sum + 1 + 1) (by omega) (by omega)) ⟨⟨_, (.tmp rfl), .int⟩, trivial⟩ vh_ca_117 (Nat.le_trans (mkText_size (by omega)) (by decide))) rfl rfl (Nat.le_of_ble_eq_true rfl) ?_
        refine AD.pure (PureOp.strOp rfl (.tmp rfl) (.tmp rfl) rfl) rfl rfl (Nat.le_of_ble_eq_true rfl) ?_
        refine AD.nil ?_
        refine AW.cond (.tmp rfl) (fun hb4 => ?_) (fun hb4 => ?_)
        · have _u := True.intro
          replace hb4 := of_decide_eq_false (of_not hb4)
          exact absurd (by rw [he]; rfl) hb4
          --end
        · have _u := True.intro
          replace hb4 := of_decide_eq_true (not_f hb4)
          refine AW.skip ?_
          refine AW.region ?_
          refine ARun.pure (PureOp.move rfl (.tmp rfl)) rfl rfl (Nat.le_of_ble_eq_true rfl) ?_
          refine ARun.pure (PureOp.add (c := ((a + ((xx.take k).map crTold).sum + 1 + 1 + 1 : Nat) : Int)) rfl (.tmp rfl) .int (by rw [wrap_id (by omega) (by omega)]; omega)) rfl rfl (Nat.le_of_ble_eq_true rfl) ?_
          refine ARun.pure (PureOp.assign rfl (.tmp rfl)) rfl rfl (Nat.le_of_ble_eq_true rfl) ?_
          refine ARun.nil ?_
          refine AW.region ?_
          refine ARun.pure (PureOp.move rfl (.tmp rfl)) rfl rfl (Nat.le_of_ble_eq_true rfl) ?_
          refine ARun.pure (PureOp.add (c := ((k + 1 : Nat) : Int)) rfl (.tmp rfl) .int (by rw [wrap_id (by omega) (by omega)]; omega)) rfl rfl (Nat.le_of_ble_eq_true rfl) ?_
          refine ARun.pure (PureOp.assign rfl (.tmp rfl)) rfl rfl (Nat.le_of_ble_eq_true rfl) ?_
          refine ARun.nil ?_
          exact ⟨k + 1, by omega, by dsimp only; omega, ⟨⟨⟨_, rfl, rfl⟩, ⟨_, rfl, congrArg (fun z : Nat => SV.one (.int .i64 (z : Int))) (by omega)⟩, ⟨_, rfl, rfl⟩, trivial⟩, trivial⟩⟩
  · have _u := True.intro
    replace hb1 := of_decide_eq_false hb1
    have hkl : ¬ k < xx.length := by omega
    refine AW.exit ?_
    refine AW.seq ?_
    refine AW.region ?_
    refine ARun.pure (PureOp.move rfl (.tmp rfl)) rfl rfl (Nat.le_of_ble_eq_true rfl) ?_
    refine ARun.pure (PureOp.assign rfl (.tmp rfl)) rfl rfl (Nat.le_of_ble_eq_true rfl) ?_
    refine ARun.nil ?_
    refine AW.ret (show ResL _ _ [.tmp 4] _ from resI rfl ?_)
    have hend : ctL crTold xx = ((xx.take k).map crTold).sum := (ct_end hkl).symm
    omega

theorem h_Tell (xx yy : GTell) (a : Nat) (hy : yy = mvTell xx a) (ha : 0 < a ∧ a + cvTell xx ≤ 900000000) : Fn Try.prog 47 [.agg [.lst 1 yy.texts.length (fun i0 _ => .lst 1 ((yy.texts.getD i0 []).length) (fun i1 _ => .str ((yy.texts.getD i0 []).getD i1 ByteArray.empty))), .lst 1 yy.heard.length (fun i0 _ => .int .i64 (yy.heard.getD i0 0)), .lst 4 yy.line.length (fun i0 j0 => ([.bool ((yy.line.getD i0 (default : GNote)).back), .int .i64 (((yy.line.getD i0 (default : GNote)).what).who), .int .i64 (((yy.line.getD i0 (default : GNote)).what).no), .str (((yy.line.getD i0 (default : GNote)).what).text)] : List AV).getD j0 (.con undef)), .lst 3 yy.log.length (fun i0 j0 => ([.int .i64 ((yy.log.getD i0 (default : GTold)).who), .int .i64 ((yy.log.getD i0 (default : GTold)).no), .str ((yy.log.getD i0 (default : GTold)).text)] : List AV).getD j0 (.con undef)), .lst 1 yy.next.length (fun i0 _ => .int .i64 (yy.next.getD i0 0))], .one (.int .i64 (a : Int))] (.one (.int .i64 ((a + cvTell xx : Nat) : Int))) := by
  obtain ⟨ha0, ha1⟩ := ha
  have hcv : cvTell xx = 0 + ctL (ctL c1) (xx.texts) + ctL c1 (xx.heard) + ctL crNote (xx.line) + ctL crTold (xx.log) + ctL c1 (xx.next) := rfl
  refine Fn.of_body (fn := Try.f47) Try.func47 rfl (Nat.le_of_ble_eq_true rfl) trivial ?_
  intro w0
  show AW _ 36 _ _ _ _
  refine AW.seq ?_
  refine AW.region ?_
  refine ARun.box (id := 0) rfl (.tmp rfl) (SV.cells_of (by exact ⟨trivial, trivial, trivial, trivial, trivial, trivial⟩)) ⟨rfl, (by repeat first | exact trivial | refine ⟨by decide, by first | rfl | exact trivial | (intro i j; first | rfl | exact getD_no rfl | (dsimp only; split <;> first | rfl | exact getD_no rfl)), ?_⟩)⟩ rfl rfl rfl (Nat.le_of_ble_eq_true rfl) ?_
  refine ARun.pure (PureOp.assign rfl .int) rfl rfl (Nat.le_of_ble_eq_true rfl) ?_
  refine ARun.nil ?_
  refine AW.seq ?_
  refine AW.region ?_
  refine ARun.pure (PureOp.fieldPtr rfl (.tmp rfl) vh_fi_66_0_0) rfl rfl (Nat.le_of_ble_eq_true rfl) ?_
  refine ARun.pure (PureOp.loadPtr rfl (.tmp rfl) vh_pl_62 rfl rfl (Nat.le_of_ble_eq_true rfl) (Nat.le_of_ble_eq_true rfl)) rfl rfl (Nat.le_of_ble_eq_true rfl) ?_
  refine ARun.pure (PureOp.move rfl (.tmp rfl)) rfl rfl (Nat.le_of_ble_eq_true rfl) ?_
  refine ARun.pure (PureOp.call rfl (h_StringSS xx.texts yy.texts a (by rw [hy]; rfl) ⟨by omega, by omega⟩) ⟨⟨_, (.tmp rfl), .lst⟩, ⟨_, (.tmp rfl), .int⟩, trivial⟩ vh_ca_104 trivial) rfl rfl (Nat.le_of_ble_eq_true rfl) ?_
  refine ARun.pure (PureOp.assign rfl (.tmp rfl)) rfl rfl (Nat.le_of_ble_eq_true rfl) ?_
  refine ARun.nil ?_
  refine AW.seq ?_
  refine AW.seq ?_
  refine AW.region ?_
  refine ARun.pure (PureOp.move rfl (.tmp rfl)) rfl rfl (Nat.le_of_ble_eq_true rfl) ?_
  refine ARun.pure (PureOp.intOp rfl (.tmp rfl) .int rfl) rfl rfl (Nat.le_of_ble_eq_true rfl) ?_
  refine ARun.nil ?_
  refine AW.cond (.tmp rfl) (fun hb1 => ?_) (fun hb1 => ?_)
  · have _u := True.intro
    replace hb1 := of_decide_eq_true hb1
    exact absurd hb1 (by omega)
    --end
  · have _u := True.intro
    replace hb1 := of_decide_eq_false hb1
    refine AW.skip ?_
    refine AW.seq ?_
    refine AW.region ?_
    refine ARun.pure (PureOp.fieldPtr rfl (.tmp rfl) vh_fi_66_1_1) rfl rfl (Nat.le_of_ble_eq_true rfl) ?_
    refine ARun.pure (PureOp.loadPtr rfl (.tmp rfl) vh_pl_22 rfl rfl (Nat.le_of_ble_eq_true rfl) (Nat.le_of_ble_eq_true rfl)) rfl rfl (Nat.le_of_ble_eq_true rfl) ?_
    refine ARun.pure (PureOp.move rfl (.tmp rfl)) rfl rfl (Nat.le_of_ble_eq_true rfl) ?_
    refine ARun.pure (PureOp.call rfl (h_IntS xx.heard yy.heard (a + ctL (ctL c1) xx.texts) (by rw [hy]; rfl) ⟨by omega, by omega⟩) ⟨⟨_, (.tmp rfl), .lst⟩, ⟨_, (.tmp rfl), .int⟩, trivial⟩ vh_ca_86 trivial) rfl rfl (Nat.le_of_ble_eq_true rfl) ?_
    refine ARun.pure (PureOp.assign rfl (.tmp rfl)) rfl rfl (Nat.le_of_ble_eq_true rfl) ?_
    refine ARun.nil ?_
    refine AW.seq ?_
    refine AW.seq ?_
    refine AW.region ?_
    refine ARun.pure (PureOp.move rfl (.tmp rfl)) rfl rfl (Nat.le_of_ble_eq_true rfl) ?_
    refine ARun.pure (PureOp.intOp rfl (.tmp rfl) .int rfl) rfl rfl (Nat.le_of_ble_eq_true rfl) ?_
    refine ARun.nil ?_
    refine AW.cond (.tmp rfl) (fun hb2 => ?_) (fun hb2 => ?_)
    · have _u := True.intro
      replace hb2 := of_decide_eq_true hb2
      exact absurd hb2 (by omega)
      --end
    · have _u := True.intro
      replace hb2 := of_decide_eq_false hb2
      refine AW.skip ?_
      refine AW.seq ?_
      refine AW.region ?_
      refine ARun.pure (PureOp.fieldPtr rfl (.tmp rfl) vh_fi_66_2_2) rfl rfl (Nat.le_of_ble_eq_true rfl) ?_
      refine ARun.pure (PureOp.loadPtr rfl (.tmp rfl) vh_pl_63 rfl rfl (Nat.le_of_ble_eq_true rfl) (Nat.le_of_ble_eq_true rfl)) rfl rfl (Nat.le_of_ble_eq_true rfl) ?_
      refine ARun.pure (PureOp.move rfl (.tmp rfl)) rfl rfl (Nat.le_of_ble_eq_true rfl) ?_
      refine ARun.pure (PureOp.call rfl (h_NoteS xx.line yy.line (a + ctL (ctL c1) xx.texts + ctL c1 xx.heard) (by rw [hy]; rfl) ⟨by omega, by omega⟩) ⟨⟨_, (.tmp rfl), .lst⟩, ⟨_, (.tmp rfl), .int⟩, trivial⟩ vh_ca_105 trivial) rfl rfl (Nat.le_of_ble_eq_true rfl) ?_
      refine ARun.pure (PureOp.assign rfl (.tmp rfl)) rfl rfl (Nat.le_of_ble_eq_true rfl) ?_
      refine ARun.nil ?_
      refine AW.seq ?_
      refine AW.seq ?_
      refine AW.region ?_
      refine ARun.pure (PureOp.move rfl (.tmp rfl)) rfl rfl (Nat.le_of_ble_eq_true rfl) ?_
      refine ARun.pure (PureOp.intOp rfl (.tmp rfl) .int rfl) rfl rfl (Nat.le_of_ble_eq_true rfl) ?_
      refine ARun.nil ?_
      refine AW.cond (.tmp rfl) (fun hb3 => ?_) (fun hb3 => ?_)
      · have _u := True.intro
        replace hb3 := of_decide_eq_true hb3
        exact absurd hb3 (by omega)
        --end
      · have _u := True.intro
        replace hb3 := of_decide_eq_false hb3
        refine AW.skip ?_
        refine AW.seq ?_
        refine AW.region ?_
        refine ARun.pure (PureOp.fieldPtr rfl (.tmp rfl) vh_fi_66_3_3) rfl rfl (Nat.le_of_ble_eq_true rfl) ?_
        refine ARun.pure (PureOp.loadPtr rfl (.tmp rfl) vh_pl_64 rfl rfl (Nat.le_of_ble_eq_true rfl) (Nat.le_of_ble_eq_true rfl)) rfl rfl (Nat.le_of_ble_eq_true rfl) ?_
        refine ARun.pure (PureOp.move rfl (.tmp rfl)) rfl rfl (Nat.le_of_ble_eq_true rfl) ?_
        refine ARun.pure (PureOp.call rfl (h_ToldS xx.log yy.log (a + ctL (ctL c1) xx.texts + ctL c1 xx.heard + ctL crNote xx.line) (by rw [hy]; rfl) ⟨by omega, by omega⟩) ⟨⟨_, (.tmp rfl), .lst⟩, ⟨_, (.tmp rfl), .int⟩, trivial⟩ vh_ca_106 trivial) rfl rfl (Nat.le_of_ble_eq_true rfl) ?_
        refine ARun.pure (PureOp.assign rfl (.tmp rfl)) rfl rfl (Nat.le_of_ble_eq_true rfl) ?_
        refine ARun.nil ?_
        refine AW.seq ?_
        refine AW.seq ?_
        refine AW.region ?_
        refine ARun.pure (PureOp.move rfl (.tmp rfl)) rfl rfl (Nat.le_of_ble_eq_true rfl) ?_
        refine ARun.pure (PureOp.intOp rfl (.tmp rfl) .int rfl) rfl rfl (Nat.le_of_ble_eq_true rfl) ?_
        refine ARun.nil ?_
        refine AW.cond (.tmp rfl) (fun hb4 => ?_) (fun hb4 => ?_)
        · have _u := True.intro
          replace hb4 := of_decide_eq_true hb4
          exact absurd hb4 (by omega)
          --end
        · have _u := True.intro
          replace hb4 := of_decide_eq_false hb4
          refine AW.skip ?_
          refine AW.seq ?_
          refine AW.region ?_
          refine ARun.pure (PureOp.fieldPtr rfl (.tmp rfl) vh_fi_66_4_4) rfl rfl (Nat.le_of_ble_eq_true rfl) ?_
          refine ARun.pure (PureOp.loadPtr rfl (.tmp rfl) vh_pl_22 rfl rfl (Nat.le_of_ble_eq_true rfl) (Nat.le_of_ble_eq_true rfl)) rfl rfl (Nat.le_of_ble_eq_true rfl) ?_
          refine ARun.pure (PureOp.move rfl (.tmp rfl)) rfl rfl (Nat.le_of_ble_eq_true rfl) ?_
          refine ARun.pure (PureOp.call rfl (h_IntS xx.next yy.next (a + ctL (ctL c1) xx.texts + ctL c1 xx.heard + ctL crNote xx.line + ctL crTold xx.log) (by rw [hy]; rfl) ⟨by omega, by omega⟩) ⟨⟨_, (.tmp rfl), .lst⟩, ⟨_, (.tmp rfl), .int⟩, trivial⟩ vh_ca_86 trivial) rfl rfl (Nat.le_of_ble_eq_true rfl) ?_
          refine ARun.pure (PureOp.assign rfl (.tmp rfl)) rfl rfl (Nat.le_of_ble_eq_true rfl) ?_
          refine ARun.nil ?_
          refine AW.seq ?_
          refine AW.seq ?_
          refine AW.region ?_
          refine ARun.pure (PureOp.move rfl (.tmp rfl)) rfl rfl (Nat.le_of_ble_eq_true rfl) ?_
          refine ARun.pure (PureOp.intOp rfl (.tmp rfl) .int rfl) rfl rfl (Nat.le_of_ble_eq_true rfl) ?_
          refine ARun.nil ?_
          refine AW.cond (.tmp rfl) (fun hb5 => ?_) (fun hb5 => ?_)
          · have _u := True.intro
            replace hb5 := of_decide_eq_true hb5
            exact absurd hb5 (by omega)
            --end
          · have _u := True.intro
            replace hb5 := of_decide_eq_false hb5
            refine AW.skip ?_
            refine AW.seq ?_
            refine AW.region ?_
            refine ARun.pure (PureOp.move rfl (.tmp rfl)) rfl rfl (Nat.le_of_ble_eq_true rfl) ?_
            refine ARun.pure (PureOp.assign rfl (.tmp rfl)) rfl rfl (Nat.le_of_ble_eq_true rfl) ?_
            refine ARun.nil ?_
            refine AW.ret (show ResL _ _ [.tmp 4] _ from resI rfl ?_)
            omega

theorem h_NodeS (xx yy : List GNode) (a : Nat) (hy : yy = mkL crNode mrNode xx a) (ha : 0 < a ∧ a + ctL crNode xx ≤ 900000000) : Fn Try.prog 70 [.one (.lst 5 yy.length (fun i0 j0 => ([.int .i64 ((yy.getD i0 (default : GNode)).term), .int .i64 ((yy.getD i0 (default : GNode)).voted), .int .i64 ((yy.getD i0 (default : GNode)).age), .lst 1 (((yy.getD i0 (default : GNode)).heard).length) (fun i1 _ => .int .i64 (((yy.getD i0 (default : GNode)).heard).getD i1 0)), .int .i64 ((yy.getD i0 (default : GNode)).role)] : List AV).getD j0 (.con undef))), .one (.int .i64 (a : Int))] (.one (.int .i64 ((a + ctL crNode xx : Nat) : Int))) := by
  obtain ⟨ha0, ha1⟩ := ha
  have hlen : yy.length = xx.length := by rw [hy]; exact mkL_len
  refine Fn.of_body (fn := Try.f70) Try.func70 rfl (Nat.le_of_ble_eq_true rfl) trivial ?_
  intro w0
  show AW _ 58 _ _ _ _
  refine AW.bound (t := 0) rfl fun hx => ?_
  refine AW.seq ?_
  refine AW.region ?_
  refine ARun.pure (PureOp.assign rfl .int) rfl rfl (Nat.le_of_ble_eq_true rfl) ?_
  refine ARun.nil ?_
  refine AW.seq ?_
  refine AW.seq ?_
  refine AW.region ?_
  refine ARun.pure (PureOp.assign rfl .int) rfl rfl (Nat.le_of_ble_eq_true rfl) ?_
  refine ARun.nil ?_
  refine AW.block ?_
  refine AW.loop (ι := Nat) (fun k => ⟨[(0, .one (.lst 5 yy.length (fun i0 j0 => ([.int .i64 ((yy.getD i0 (default : GNode)).term), .int .i64 ((yy.getD i0 (default : GNode)).voted), .int .i64 ((yy.getD i0 (default : GNode)).age), .lst 1 (((yy.getD i0 (default : GNode)).heard).length) (fun i1 _ => .int .i64 (((yy.getD i0 (default : GNode)).heard).getD i1 0)), .int .i64 ((yy.getD i0 (default : GNode)).role)] : List AV).getD j0 (.con undef)))), (1, .one (.int .i64 ((a + ((xx.take k).map crNode).sum : Nat) : Int))), (5, .one (.int .i64 (k : Int)))], []⟩) (fun k => k ≤ xx.length) (fun k => xx.length - k) 0 (Nat.zero_le _) ⟨⟨⟨_, rfl, rfl⟩, ⟨_, rfl, by simp⟩, ⟨_, rfl, rfl⟩, trivial⟩, trivial⟩ ?_
  intro k hk
  refine AW.seq ?_
  refine AW.seq ?_
  refine AW.region ?_
  refine ARun.pure (PureOp.move rfl (.tmp rfl)) rfl rfl (Nat.le_of_ble_eq_true rfl) ?_
  refine ARun.pure (PureOp.move rfl (.tmp rfl)) rfl rfl (Nat.le_of_ble_eq_true rfl) ?_
  refine ARun.pure (PureOp.lenLst rfl (.tmp rfl) vh_sl_23) rfl rfl (Nat.le_of_ble_eq_true rfl) ?_
  refine ARun.pure (PureOp.intOp rfl (.tmp rfl) (.tmp rfl) rfl) rfl rfl (Nat.le_of_ble_eq_true rfl) ?_
  refine ARun.nil ?_
  refine AW.cond (.tmp rfl) (fun hb1 => ?_) (fun hb1 => ?_)
  · have _u := True.intro
    replace hb1 := of_decide_eq_true hb1
    have hkl : k < xx.length := by omega
    obtain ⟨hst, hsm⟩ := ct_step (ct := crNode) (default : GNode) hkl
    have he : yy.getD k (default : GNode) = mrNode (xx.getD k (default : GNode)) (a + ((xx.take k).map crNode).sum) := by rw [hy]; exact mkL_get (default : GNode) hkl
    have hce : crNode (xx.getD k (default : GNode)) = 0 + 1 + 1 + 1 + ctL c1 ((xx.getD k (default : GNode)).heard) + 1 := rfl
    refine AW.skip ?_
    refine AW.seq ?_
    refine AW.block ?_
    refine AW.seq ?_
    refine AW.seq ?_
    refine AW.region ?_
    refine ARun.pure (PureOp.move rfl (.tmp rfl)) rfl rfl (Nat.le_of_ble_eq_true rfl) ?_
    refine ARun.pure (PureOp.move rfl (.tmp rfl)) rfl rfl (Nat.le_of_ble_eq_true rfl) ?_
    refine ARun.pure (PureOp.indexLst (i := k) rfl (.tmp rfl) vh_el_23_5 (.tmp rfl) rfl (by omega)) rfl rfl (Nat.le_of_ble_eq_true rfl) ?_
    refine ARun.pure (PureOp.fieldRef rfl (.tmp rfl) vh_fi_89_0_0 (Nat.le_of_ble_eq_true rfl)) rfl rfl (Nat.le_of_ble_eq_true rfl) ?_
    refine ARun.pure (PureOp.loadRef rfl (.tmp rfl) vh_pl_3 (Nat.le_of_ble_eq_true rfl)) rfl rfl (Nat.le_of_ble_eq_true rfl) ?_
    refine ARun.pure (PureOp.move rfl (.tmp rfl)) rfl rfl (Nat.le_of_ble_eq_true rfl) ?_
    refine ARun.pure (PureOp.intOp rfl (.tmp rfl) (.tmp rfl) rfl) rfl rfl (Nat.le_of_ble_eq_true rfl) ?_
    refine ARun.nil ?_
    refine AW.cond (.tmp rfl) (fun hb2 => ?_) (fun hb2 => ?_)
    · have _u := True.intro
      replace hb2 := of_decide_eq_false (of_not hb2)
      exact absurd (by rw [he]; rfl) hb2
      --end
    · have _u := True.intro
      replace hb2 := of_decide_eq_true (not_f hb2)
      refine AW.skip ?_
      refine AW.seq ?_
      refine AW.region ?_
      refine ARun.pure (PureOp.move rfl (.tmp rfl)) rfl rfl (Nat.le_of_ble_eq_true rfl) ?_
      refine ARun.pure (PureOp.add (c := ((a + ((xx.take k).map crNode).sum + 1 : Nat) : Int)) rfl (.tmp rfl) .int (by rw [wrap_id (by omega) (by omega)]; omega)) rfl rfl (Nat.le_of_ble_eq_true rfl) ?_
      refine ARun.pure (PureOp.assign rfl (.tmp rfl)) rfl rfl (Nat.le_of_ble_eq_true rfl) ?_
      refine ARun.nil ?_
      refine AW.seq ?_
      refine AW.seq ?_
      refine AW.region ?_
      refine ARun.pure (PureOp.move rfl (.tmp rfl)) rfl rfl (Nat.le_of_ble_eq_true rfl) ?_
      refine ARun.pure (PureOp.move rfl (.tmp rfl)) rfl rfl (Nat.le_of_ble_eq_true rfl) ?_
      refine ARun.pure (PureOp.indexLst (i := k) rfl (.tmp rfl) vh_el_23_5 (.tmp rfl) rfl (by omega)) rfl rfl (Nat.le_of_ble_eq_true rfl) ?_
      refine ARun.pure (PureOp.fieldRef rfl (.tmp rfl) vh_fi_89_1_1 (Nat.le_of_ble_eq_true rfl)) rfl rfl (Nat.le_of_ble_eq_true rfl) ?_
      refine ARun.pure (PureOp.loadRef rfl (.tmp rfl) vh_pl_3 (Nat.le_of_ble_eq_true rfl)) rfl rfl (Nat.le_of_ble_eq_true rfl) ?_
      refine ARun.pure (PureOp.move rfl (.tmp rfl)) rfl rfl (Nat.le_of_ble_eq_true rfl) ?_
      refine ARun.pure (PureOp.intOp rfl (.tmp rfl) (.tmp rfl) rfl) rfl rfl (Nat.le_of_ble_eq_true rfl) ?_
      refine ARun.nil ?_
      refine AW.cond (.tmp rfl) (fun hb3 => ?_) (fun hb3 => ?_)
      · have _u := True.intro
        replace hb3 := of_decide_eq_false (of_not hb3)
        exact absurd (by rw [he]; rfl) hb3
        --end
      · have _u := True.intro
        replace hb3 := of_decide_eq_true (not_f hb3)
        refine AW.skip ?_
        refine AW.seq ?_
        refine AW.region ?_
        refine ARun.pure (PureOp.move rfl (.tmp rfl)) rfl rfl (Nat.le_of_ble_eq_true rfl) ?_
        refine ARun.pure (PureOp.add (c := ((a + ((xx.take k).map crNode).sum + 1 + 1 : Nat) : Int)) rfl (.tmp rfl) .int (by rw [wrap_id (by omega) (by omega)]; omega)) rfl rfl (Nat.le_of_ble_eq_true rfl) ?_
        refine ARun.pure (PureOp.assign rfl (.tmp rfl)) rfl rfl (Nat.le_of_ble_eq_true rfl) ?_
        refine ARun.nil ?_
        refine AW.seq ?_
        refine AW.seq ?_
        refine AW.region ?_
        refine ARun.pure (PureOp.move rfl (.tmp rfl)) rfl rfl (Nat.le_of_ble_eq_true rfl) ?_
        refine ARun.pure (PureOp.move rfl (.tmp rfl)) rfl rfl (Nat.le_of_ble_eq_true rfl) ?_
        refine ARun.pure (PureOp.indexLst (i := k) rfl (.tmp rfl) vh_el_23_5 (.tmp rfl) rfl (by omega)) rfl rfl (Nat.le_of_ble_eq_true rfl) ?_
        refine ARun.pure (PureOp.fieldRef rfl (.tmp rfl) vh_fi_89_2_2 (Nat.le_of_ble_eq_true rfl)) rfl rfl (Nat.le_of_ble_eq_true rfl) ?_
        refine ARun.pure (PureOp.loadRef rfl (.tmp rfl) vh_pl_3 (Nat.le_of_ble_eq_true rfl)) rfl rfl (Nat.le_of_ble_eq_true rfl) ?_
        refine ARun.pure (PureOp.move rfl (.tmp rfl)) rfl rfl (Nat.le_of_ble_eq_true rfl) ?_
        refine ARun.pure (PureOp.intOp rfl (.tmp rfl) (.tmp rfl) rfl) rfl rfl (Nat.le_of_ble_eq_true rfl) ?_
        refine ARun.nil ?_
        refine AW.cond (.tmp rfl) (fun hb4 => ?_) (fun hb4 => ?_)
        · have _u := True.intro
          replace hb4 := of_decide_eq_false (of_not hb4)
          exact absurd (by rw [he]; rfl) hb4
          --end
        · have _u := True.intro
          replace hb4 := of_decide_eq_true (not_f hb4)
          refine AW.skip ?_
          refine AW.seq ?_
          refine AW.region ?_
          refine ARun.pure (PureOp.move rfl (.tmp rfl)) rfl rfl (Nat.le_of_ble_eq_true rfl) ?_
          refine ARun.pure (PureOp.add (c := ((a + ((xx.take k).map crNode).sum + 1 + 1 + 1 : Nat) : Int)) rfl (.tmp rfl) .int (by rw [wrap_id (by omega) (by omega)]; omega)) rfl rfl (Nat.le_of_ble_eq_true rfl) ?_
          refine ARun.pure (PureOp.assign rfl (.tmp rfl)) rfl rfl (Nat.le_of_ble_eq_true rfl) ?_
          refine ARun.nil ?_
          refine AW.seq ?_
          refine AW.region ?_
          refine ARun.pure (PureOp.move rfl (.tmp rfl)) rfl rfl (Nat.le_of_ble_eq_true rfl) ?_
          refine ARun.pure (PureOp.move rfl (.tmp rfl)) rfl rfl (Nat.le_of_ble_eq_true rfl) ?_
          refine ARun.pure (PureOp.indexLst (i := k) rfl (.tmp rfl) vh_el_23_5 (.tmp rfl) rfl (by omega)) rfl rfl (Nat.le_of_ble_eq_true rfl) ?_
          refine ARun.pure (PureOp.fieldRef rfl (.tmp rfl) vh_fi_89_3_3 (Nat.le_of_ble_eq_true rfl)) rfl rfl (Nat.le_of_ble_eq_true rfl) ?_
          refine ARun.pure (PureOp.loadRef rfl (.tmp rfl) vh_pl_22 (Nat.le_of_ble_eq_true rfl)) rfl rfl (Nat.le_of_ble_eq_true rfl) ?_
          refine ARun.pure (PureOp.move rfl (.tmp rfl)) rfl rfl (Nat.le_of_ble_eq_true rfl) ?_
          refine ARun.pure (PureOp.call rfl (h_IntS ((xx.getD k (default : GNode)).heard) ((yy.getD k (default : GNode)).heard) (a + ((xx.take k).map crNode).sum + 1 + 1 + 1) (by first | exact he | (rw [he]; rfl)) ⟨by omega, by omega⟩) ⟨⟨_, (.tmp rfl), .lst⟩, ⟨_, (.tmp rfl), .int⟩, trivial⟩ vh_ca_86 trivial) rfl rfl (Nat.le_of_ble_eq_true rfl) ?_
          refine ARun.pure (PureOp.assign rfl (.tmp rfl)) rfl rfl (Nat.le_of_ble_eq_true rfl) ?_
          refine ARun.nil ?_
          refine AW.seq ?_
          refine AW.seq ?_
          refine AW.region ?_
          refine ARun.pure (PureOp.move rfl (.tmp rfl)) rfl rfl (Nat.le_of_ble_eq_true rfl) ?_
          refine ARun.pure (PureOp.intOp rfl (.tmp rfl) .int rfl) rfl rfl (Nat.le_of_ble_eq_true rfl) ?_
          refine ARun.nil ?_
          refine AW.cond (.tmp rfl) (fun hb5 => ?_) (fun hb5 => ?_)
          · have _u := True.intro
            replace hb5 := of_decide_eq_true hb5
            exact absurd hb5 (by omega)
            --end
          · have _u := True.intro
            replace hb5 := of_decide_eq_false hb5
            refine AW.skip ?_
            refine AW.seq ?_
            refine AW.seq ?_
            refine AW.region ?_
            refine ARun.pure (PureOp.move rfl (.tmp rfl)) rfl rfl (Nat.le_of_ble_eq_true rfl) ?_
            refine ARun.pure (PureOp.move rfl (.tmp rfl)) rfl rfl (Nat.le_of_ble_eq_true rfl) ?_
            refine ARun.pure (PureOp.indexLst (i := k) rfl (.tmp rfl) vh_el_23_5 (.tmp rfl) rfl (by omega)) rfl rfl (Nat.le_of_ble_eq_true rfl) ?_
            refine ARun.pure (PureOp.fieldRef rfl (.tmp rfl) vh_fi_89_4_4 (Nat.le_of_ble_eq_true rfl)) rfl rfl (Nat.le_of_ble_eq_true rfl) ?_
            refine ARun.pure (PureOp.loadRef rfl (.tmp rfl) vh_pl_3 (Nat.le_of_ble_eq_true rfl)) rfl rfl (Nat.le_of_ble_eq_true rfl) ?_
            refine ARun.pure (PureOp.move rfl (.tmp rfl)) rfl rfl (Nat.le_of_ble_eq_true rfl) ?_
            refine ARun.pure (PureOp.intOp rfl (.tmp rfl) (.tmp rfl) rfl) rfl rfl (Nat.le_of_ble_eq_true rfl) ?_
            refine ARun.nil ?_
            refine AW.cond (.tmp rfl) (fun hb6 => ?_) (fun hb6 => ?_)
            · have _u := True.intro
              replace hb6 := of_decide_eq_false (of_not hb6)
              exact absurd (by rw [he]; rfl) hb6
              --end
            · have _u := True.intro
              replace hb6 := of_decide_eq_true (not_f hb6)
              refine AW.skip ?_
              refine AW.region ?_
              refine ARun.pure (PureOp.move rfl (.tmp rfl)) rfl rfl (Nat.le_of_ble_eq_true rfl) ?_
              refine ARun.pure (PureOp.add (c := ((a + ((xx.take k).map crNode).sum + 1 + 1 + 1 + ctL c1 ((xx.getD k (default : GNode)).heard) + 1 : Nat) : Int)) rfl (.tmp rfl) .int (by rw [wrap_id (by omega) (by omega)]; omega)) rfl rfl (Nat.le_of_ble_eq_true rfl) ?_
              refine ARun.pure (PureOp.assign rfl (.tmp rfl)) rfl rfl (Nat.le_of_ble_eq_true rfl) ?_
              refine ARun.nil ?_
              refine AW.region ?_
              refine ARun.pure (PureOp.move rfl (.tmp rfl)) rfl rfl (Nat.le_of_ble_eq_true rfl) ?_
              refine ARun.pure (PureOp.add (c := ((k + 1 : Nat) : Int)) rfl (.tmp rfl) .int (by rw [wrap_id (by omega) (by omega)]; omega)) rfl rfl (Nat.le_of_ble_eq_true rfl) ?_
              refine ARun.pure (PureOp.assign rfl (.tmp rfl)) rfl rfl (Nat.le_of_ble_eq_true rfl) ?_
              refine ARun.nil ?_
              exact ⟨k + 1, by omega, by dsimp only; omega, ⟨⟨⟨_, rfl, rfl⟩, ⟨_, rfl, congrArg (fun z : Nat => SV.one (.int .i64 (z : Int))) (by omega)⟩, ⟨_, rfl, rfl⟩, trivial⟩, trivial⟩⟩
  · have _u := True.intro
    replace hb1 := of_decide_eq_false hb1
    have hkl : ¬ k < xx.length := by omega
    refine AW.exit ?_
    refine AW.seq ?_
    refine AW.region ?_
    refine ARun.pure (PureOp.move rfl (.tmp rfl)) rfl rfl (Nat.le_of_ble_eq_true rfl) ?_
    refine ARun.pure (PureOp.assign rfl (.tmp rfl)) rfl rfl (Nat.le_of_ble_eq_true rfl) ?_
    refine ARun.nil ?_
    refine AW.ret (show ResL _ _ [.tmp 4] _ from resI rfl ?_)
    have hend : ctL crNode xx = ((xx.take k).map crNode).sum := (ct_end hkl).symm
    omega

theorem h_LetterS (xx yy : List GLetter) (a : Nat) (hy : yy = mkL crLetter mrLetter xx a) (ha : 0 < a ∧ a + ctL crLetter xx ≤ 900000000) : Fn Try.prog 71 [.one (.lst 5 yy.length (fun i0 j0 => ([.int .i64 ((yy.getD i0 (default : GLetter)).from_), .int .i64 ((yy.getD i0 (default : GLetter)).to), .int .i64 ((yy.getD i0 (default : GLetter)).term), .bool ((yy.getD i0 (default : GLetter)).ask), .int .i64 ((yy.getD i0 (default : GLetter)).age)] : List AV).getD j0 (.con undef))), .one (.int .i64 (a : Int))] (.one (.int .i64 ((a + ctL crLetter xx : Nat) : Int))) := by
  obtain ⟨ha0, ha1⟩ := ha
  have hlen : yy.length = xx.length := by rw [hy]; exact mkL_len
  refine Fn.of_body (fn := Try.f71) Try.func71 rfl (Nat.le_of_ble_eq_true rfl) trivial ?_
  intro w0
  show AW _ 60 _ _ _ _
  refine AW.bound (t := 0) rfl fun hx => ?_
  refine AW.seq ?_
  refine AW.region ?_
  refine ARun.pure (PureOp.assign rfl .int) rfl rfl (Nat.le_of_ble_eq_true rfl) ?_
  refine ARun.nil ?_
  refine AW.seq ?_
  refine AW.seq ?_
  refine AW.region ?_
  refine ARun.pure (PureOp.assign rfl .int) rfl rfl (Nat.le_of_ble_eq_true rfl) ?_
  refine ARun.nil ?_
  refine AW.block ?_
  refine AW.loop (ι := Nat) (fun k => ⟨[(0, .one (.lst 5 yy.length (fun i0 j0 => ([.int .i64 ((yy.getD i0 (default : GLetter)).from_), .int .i64 ((yy.getD i0 (default : GLetter)).to), .int .i64 ((yy.getD i0 (default : GLetter)).term), .bool ((yy.getD i0 (default : GLetter)).ask), .int .i64 ((yy.getD i0 (default : GLetter)).age)] : List AV).getD j0 (.con undef)))), (1, .one (.int .i64 ((a + ((xx.take k).map crLetter).sum : Nat) : Int))), (5, .one (.int .i64 (k : Int)))], []⟩) (fun k => k ≤ xx.length) (fun k => xx.length - k) 0 (Nat.zero_le _) ⟨⟨⟨_, rfl, rfl⟩, ⟨_, rfl, by simp⟩, ⟨_, rfl, rfl⟩, trivial⟩, trivial⟩ ?_
  intro k hk
  refine AW.seq ?_
  refine AW.seq ?_
  refine AW.region ?_
  refine ARun.pure (PureOp.move rfl (.tmp rfl)) rfl rfl (Nat.le_of_ble_eq_true rfl) ?_
  refine ARun.pure (PureOp.move rfl (.tmp rfl)) rfl rfl (Nat.le_of_ble_eq_true rfl) ?_
  refine ARun.pure (PureOp.lenLst rfl (.tmp rfl) vh_sl_24) rfl rfl (Nat.le_of_ble_eq_true rfl) ?_
  refine ARun.pure (PureOp.intOp rfl (.tmp rfl) (.tmp rfl) rfl) rfl rfl (Nat.le_of_ble_eq_true rfl) ?_
  refine ARun.nil ?_
  refine AW.cond (.tmp rfl) (fun hb1 => ?_) (fun hb1 => ?_)
  · have _u := True.intro
    replace hb1 := of_decide_eq_true hb1
    have hkl : k < xx.length := by omega
    obtain ⟨hst, hsm⟩ := ct_step (ct := crLetter) (default : GLetter) hkl
    have he : yy.getD k (default : GLetter) = mrLetter (xx.getD k (default : GLetter)) (a + ((xx.take k).map crLetter).sum) := by rw [hy]; exact mkL_get (default : GLetter) hkl
    have hce : crLetter (xx.getD k (default : GLetter)) = 0 + 1 + 1 + 1 + 1 + 1 := rfl
    refine AW.skip ?_
    refine AW.seq ?_
    refine AW.block ?_
    refine AW.seq ?_
    refine AW.seq ?_
    refine AW.region ?_
    refine ARun.pure (PureOp.move rfl (.tmp rfl)) rfl rfl (Nat.le_of_ble_eq_true rfl) ?_
    refine ARun.pure (PureOp.move rfl (.tmp rfl)) rfl rfl (Nat.le_of_ble_eq_true rfl) ?_
    refine ARun.pure (PureOp.indexLst (i := k) rfl (.tmp rfl) vh_el_24_5 (.tmp rfl) rfl (by omega)) rfl rfl (Nat.le_of_ble_eq_true rfl) ?_
    refine ARun.pure (PureOp.fieldRef rfl (.tmp rfl) vh_fi_102_0_0 (Nat.le_of_ble_eq_true rfl)) rfl rfl (Nat.le_of_ble_eq_true rfl) ?_
    refine ARun.pure (PureOp.loadRef rfl (.tmp rfl) vh_pl_3 (Nat.le_of_ble_eq_true rfl)) rfl rfl (Nat.le_of_ble_eq_true rfl) ?_
    refine ARun.pure (PureOp.move rfl (.tmp rfl)) rfl rfl (Nat.le_of_ble_eq_true rfl) ?_
    refine ARun.pure (PureOp.intOp rfl (.tmp rfl) (.tmp rfl) rfl) rfl rfl (Nat.le_of_ble_eq_true rfl) ?_
    refine ARun.nil ?_
    refine AW.cond (.tmp rfl) (fun hb2 => ?_) (fun hb2 => ?_)
    · have _u := True.intro
      replace hb2 := of_decide_eq_false (of_not hb2)
      exact absurd (by rw [he]; rfl) hb2
      --end
    · have _u := True.intro
      replace hb2 := of_decide_eq_true (not_f hb2)
      refine AW.skip ?_
      refine AW.seq ?_
      refine AW.region ?_
      refine ARun.pure (PureOp.move rfl (.tmp rfl)) rfl rfl (Nat.le_of_ble_eq_true rfl) ?_
      refine ARun.pure (PureOp.add (c := ((a + ((xx.take k).map crLetter).sum + 1 : Nat) : Int)) rfl (.tmp rfl) .int (by rw [wrap_id (by omega) (by omega)]; omega)) rfl rfl (Nat.le_of_ble_eq_true rfl) ?_
      refine ARun.pure (PureOp.assign rfl (.tmp rfl)) rfl rfl (Nat.le_of_ble_eq_true rfl) ?_
      refine ARun.nil ?_
      refine AW.seq ?_
      refine AW.seq ?_
      refine AW.region ?_
      refine ARun.pure (PureOp.move rfl (.tmp rfl)) rfl rfl (Nat.le_of_ble_eq_true rfl) ?_
      refine ARun.pure (PureOp.move rfl (.tmp rfl)) rfl rfl (Nat.le_of_ble_eq_true rfl) ?_
      refine ARun.pure (PureOp.indexLst (i := k) rfl (.tmp rfl) vh_el_24_5 (.tmp rfl) rfl (by omega)) rfl rfl (Nat.le_of_ble_eq_true rfl) ?_
      refine ARun.pure (PureOp.fieldRef rfl (.tmp rfl) vh_fi_102_1_1 (Nat.le_of_ble_eq_true rfl)) rfl rfl (Nat.le_of_ble_eq_true rfl) ?_
      refine ARun.pure (PureOp.loadRef rfl (.tmp rfl) vh_pl_3 (Nat.le_of_ble_eq_true rfl)) rfl rfl (Nat.le_of_ble_eq_true rfl) ?_
      refine ARun.pure (PureOp.move rfl (.tmp rfl)) rfl rfl (Nat.le_of_ble_eq_true rfl) ?_
      refine ARun.pure (PureOp.intOp rfl (.tmp rfl) (.tmp rfl) rfl) rfl rfl (Nat.le_of_ble_eq_true rfl) ?_
      refine ARun.nil ?_
      refine AW.cond (.tmp rfl) (fun hb3 => ?_) (fun hb3 => ?_)
      · have _u := True.intro
        replace hb3 := of_decide_eq_false (of_not hb3)
        exact absurd (by rw [he]; rfl) hb3
        --end
      · have _u := True.intro
        replace hb3 := of_decide_eq_true (not_f hb3)
        refine AW.skip ?_
        refine AW.seq ?_
        refine AW.region ?_
        refine ARun.pure (PureOp.move rfl (.tmp rfl)) rfl rfl (Nat.le_of_ble_eq_true rfl) ?_
        refine ARun.pure (PureOp.add (c := ((a + ((xx.take k).map crLetter).sum + 1 + 1 : Nat) : Int)) rfl (.tmp rfl) .int (by rw [wrap_id (by omega) (by omega)]; omega)) rfl rfl (Nat.le_of_ble_eq_true rfl) ?_
        refine ARun.pure (PureOp.assign rfl (.tmp rfl)) rfl rfl (Nat.le_of_ble_eq_true rfl) ?_
        refine ARun.nil ?_
        refine AW.seq ?_
        refine AW.seq ?_
        refine AW.region ?_
        refine ARun.pure (PureOp.move rfl (.tmp rfl)) rfl rfl (Nat.le_of_ble_eq_true rfl) ?_
        refine ARun.pure (PureOp.move rfl (.tmp rfl)) rfl rfl (Nat.le_of_ble_eq_true rfl) ?_
        refine ARun.pure (PureOp.indexLst (i := k) rfl (.tmp rfl) vh_el_24_5 (.tmp rfl) rfl (by omega)) rfl rfl (Nat.le_of_ble_eq_true rfl) ?_
        refine ARun.pure (PureOp.fieldRef rfl (.tmp rfl) vh_fi_102_2_2 (Nat.le_of_ble_eq_true rfl)) rfl rfl (Nat.le_of_ble_eq_true rfl) ?_
        refine ARun.pure (PureOp.loadRef rfl (.tmp rfl) vh_pl_3 (Nat.le_of_ble_eq_true rfl)) rfl rfl (Nat.le_of_ble_eq_true rfl) ?_
        refine ARun.pure (PureOp.move rfl (.tmp rfl)) rfl rfl (Nat.le_of_ble_eq_true rfl) ?_
        refine ARun.pure (PureOp.intOp rfl (.tmp rfl) (.tmp rfl) rfl) rfl rfl (Nat.le_of_ble_eq_true rfl) ?_
        refine ARun.nil ?_
        refine AW.cond (.tmp rfl) (fun hb4 => ?_) (fun hb4 => ?_)
        · have _u := True.intro
          replace hb4 := of_decide_eq_false (of_not hb4)
          exact absurd (by rw [he]; rfl) hb4
          --end
        · have _u := True.intro
          replace hb4 := of_decide_eq_true (not_f hb4)
          refine AW.skip ?_
          refine AW.seq ?_
          refine AW.region ?_
          refine ARun.pure (PureOp.move rfl (.tmp rfl)) rfl rfl (Nat.le_of_ble_eq_true rfl) ?_
          refine ARun.pure (PureOp.add (c := ((a + ((xx.take k).map crLetter).sum + 1 + 1 + 1 : Nat) : Int)) rfl (.tmp rfl) .int (by rw [wrap_id (by omega) (by omega)]; omega)) rfl rfl (Nat.le_of_ble_eq_true rfl) ?_
          refine ARun.pure (PureOp.assign rfl (.tmp rfl)) rfl rfl (Nat.le_of_ble_eq_true rfl) ?_
          refine ARun.nil ?_
          refine AW.seq ?_
          refine AW.seq ?_
          refine AW.region ?_
          refine ARun.pure (PureOp.move rfl (.tmp rfl)) rfl rfl (Nat.le_of_ble_eq_true rfl) ?_
          refine ARun.pure (PureOp.move rfl (.tmp rfl)) rfl rfl (Nat.le_of_ble_eq_true rfl) ?_
          refine ARun.pure (PureOp.indexLst (i := k) rfl (.tmp rfl) vh_el_24_5 (.tmp rfl) rfl (by omega)) rfl rfl (Nat.le_of_ble_eq_true rfl) ?_
          refine ARun.pure (PureOp.fieldRef rfl (.tmp rfl) vh_fi_102_3_3 (Nat.le_of_ble_eq_true rfl)) rfl rfl (Nat.le_of_ble_eq_true rfl) ?_
          refine ARun.pure (PureOp.loadRef rfl (.tmp rfl) vh_pl_4 (Nat.le_of_ble_eq_true rfl)) rfl rfl (Nat.le_of_ble_eq_true rfl) ?_
          refine ARun.pure (PureOp.move rfl (.tmp rfl)) rfl rfl (Nat.le_of_ble_eq_true rfl) ?_
          refine ARun.pure (PureOp.rem (a := a + ((xx.take k).map crLetter).sum + 1 + 1 + 1) (b := 3) rfl (.tmp rfl) .int rfl (by decide) (by omega)) rfl rfl (Nat.le_of_ble_eq_true rfl) ?_
          refine ARun.pure (PureOp.intOp rfl (.tmp rfl) .int rfl) rfl rfl (Nat.le_of_ble_eq_true rfl) ?_
          refine ARun.pure (PureOp.boolNe rfl (.tmp rfl) (.tmp rfl) vh_bo_4) rfl rfl (Nat.le_of_ble_eq_true rfl) ?_
          refine ARun.nil ?_
          refine AW.cond (.tmp rfl) (fun hb5 => ?_) (fun hb5 => ?_)
          · have _u := True.intro
            replace hb5 := beq_f (of_not hb5)
            exact absurd (by rw [he]; rfl) hb5
            --end
          · have _u := True.intro
            replace hb5 := beq_t (not_f hb5)
            refine AW.skip ?_
            refine AW.seq ?_
            refine AW.region ?_
            refine ARun.pure (PureOp.move rfl (.tmp rfl)) rfl rfl (Nat.le_of_ble_eq_true rfl) ?_
            refine ARun.pure (PureOp.add (c := ((a + ((xx.take k).map crLetter).sum + 1 + 1 + 1 + 1 : Nat) : Int)) rfl (.tmp rfl) .int (by rw [wrap_id (by omega) (by omega)]; omega)) rfl rfl (Nat.le_of_ble_eq_true rfl) ?_
            refine ARun.pure (PureOp.assign rfl (.tmp rfl)) rfl rfl (Nat.le_of_ble_eq_true rfl) ?_
            refine ARun.nil ?_
            refine AW.seq ?_
            refine AW.seq ?_
            refine AW.region ?_
            refine ARun.pure (PureOp.move rfl (.tmp rfl)) rfl rfl (Nat.le_of_ble_eq_true rfl) ?_
            refine ARun.pure (PureOp.move rfl (.tmp rfl)) rfl rfl (Nat.le_of_ble_eq_true rfl) ?_
            refine ARun.pure (PureOp.indexLst (i := k) rfl (.tmp rfl) vh_el_24_5 (.tmp rfl) rfl (by omega)) rfl rfl (Nat.le_of_ble_eq_true rfl) ?_
            refine ARun.pure (PureOp.fieldRef rfl (.tmp rfl) vh_fi_102_4_4 (Nat.le_of_ble_eq_true rfl)) rfl rfl (Nat.le_of_ble_eq_true rfl) ?_
            refine ARun.pure (PureOp.loadRef rfl (.tmp rfl) vh_pl_3 (Nat.le_of_ble_eq_true rfl)) rfl rfl (Nat.le_of_ble_eq_true rfl) ?_
            refine ARun.pure (PureOp.move rfl (.tmp rfl)) rfl rfl (Nat.le_of_ble_eq_true rfl) ?_
            refine ARun.pure (PureOp.intOp rfl (.tmp rfl) (.tmp rfl) rfl) rfl rfl (Nat.le_of_ble_eq_true rfl) ?_
            refine ARun.nil ?_
            refine AW.cond (.tmp rfl) (fun hb6 => ?_) (fun hb6 => ?_)
            · have _u := True.intro
              replace hb6 := of_decide_eq_false (of_not hb6)
              exact absurd (by rw [he]; rfl) hb6
              --end
            · have _u := True.intro
              replace hb6 := of_decide_eq_true (not_f hb6)
              refine AW.skip ?_
              refine AW.region ?_
              refine ARun.pure (PureOp.move rfl (.tmp rfl)) rfl rfl (Nat.le_of_ble_eq_true rfl) ?_
              refine ARun.pure (PureOp.add (c := ((a + ((xx.take k).map crLetter).sum + 1 + 1 + 1 + 1 + 1 : Nat) : Int)) rfl (.tmp rfl) .int (by rw [wrap_id (by omega) (by omega)]; omega)) rfl rfl (Nat.le_of_ble_eq_true rfl) ?_
              refine ARun.pure (PureOp.assign rfl (.tmp rfl)) rfl rfl (Nat.le_of_ble_eq_true rfl) ?_
              refine ARun.nil ?_
              refine AW.region ?_
              refine ARun.pure (PureOp.move rfl (.tmp rfl)) rfl rfl (Nat.le_of_ble_eq_true rfl) ?_
              refine ARun.pure (PureOp.add (c := ((k + 1 : Nat) : Int)) rfl (.tmp rfl) .int (by rw [wrap_id (by omega) (by omega)]; omega)) rfl rfl (Nat.le_of_ble_eq_true rfl) ?_
              refine ARun.pure (PureOp.assign rfl (.tmp rfl)) rfl rfl (Nat.le_of_ble_eq_true rfl) ?_
              refine ARun.nil ?_
              exact ⟨k + 1, by omega, by dsimp only; omega, ⟨⟨⟨_, rfl, rfl⟩, ⟨_, rfl, congrArg (fun z : Nat => SV.one (.int .i64 (z : Int))) (by omega)⟩, ⟨_, rfl, rfl⟩, trivial⟩, trivial⟩⟩
  · have _u := True.intro
    replace hb1 := of_decide_eq_false hb1
    have hkl : ¬ k < xx.length := by omega
    refine AW.exit ?_
    refine AW.seq ?_
    refine AW.region ?_
    refine ARun.pure (PureOp.move rfl (.tmp rfl)) rfl rfl (Nat.le_of_ble_eq_true rfl) ?_
    refine ARun.pure (PureOp.assign rfl (.tmp rfl)) rfl rfl (Nat.le_of_ble_eq_true rfl) ?_
    refine ARun.nil ?_
    refine AW.ret (show ResL _ _ [.tmp 4] _ from resI rfl ?_)
    have hend : ctL crLetter xx = ((xx.take k).map crLetter).sum := (ct_end hkl).symm
    omega

theorem h_IntSS (xx yy : List (List Int)) (a : Nat) (hy : yy = mkL (ctL c1) (mkL c1 mkI) xx a) (ha : 0 < a ∧ a + ctL (ctL c1) xx ≤ 900000000) : Fn Try.prog 72 [.one (.lst 1 yy.length (fun i0 _ => .lst 1 ((yy.getD i0 []).length) (fun i1 _ => .int .i64 ((yy.getD i0 []).getD i1 0)))), .one (.int .i64 (a : Int))] (.one (.int .i64 ((a + ctL (ctL c1) xx : Nat) : Int))) := by
  obtain ⟨ha0, ha1⟩ := ha
  have hlen : yy.length = xx.length := by rw [hy]; exact mkL_len
  refine Fn.of_body (fn := Try.f72) Try.func72 rfl (Nat.le_of_ble_eq_true rfl) trivial ?_
  intro w0
  show AW _ 21 _ _ _ _
  refine AW.bound (t := 0) rfl fun hx => ?_
  refine AW.seq ?_
  refine AW.region ?_
  refine ARun.pure (PureOp.assign rfl .int) rfl rfl (Nat.le_of_ble_eq_true rfl) ?_
  refine ARun.nil ?_
  refine AW.seq ?_
  refine AW.seq ?_
  refine AW.region ?_
  refine ARun.pure (PureOp.assign rfl .int) rfl rfl (Nat.le_of_ble_eq_true rfl) ?_
  refine ARun.nil ?_
  refine AW.block ?_
  refine AW.loop (ι := Nat) (fun k => ⟨[(0, .one (.lst 1 yy.length (fun i0 _ => .lst 1 ((yy.getD i0 []).length) (fun i1 _ => .int .i64 ((yy.getD i0 []).getD i1 0))))), (1, .one (.int .i64 ((a + ((xx.take k).map (ctL c1)).sum : Nat) : Int))), (5, .one (.int .i64 (k : Int)))], []⟩) (fun k => k ≤ xx.length) (fun k => xx.length - k) 0 (Nat.zero_le _) ⟨⟨⟨_, rfl, rfl⟩, ⟨_, rfl, by simp⟩, ⟨_, rfl, rfl⟩, trivial⟩, trivial⟩ ?_
  intro k hk
  refine AW.seq ?_
  refine AW.seq ?_
  refine AW.region ?_
  refine ARun.pure (PureOp.move rfl (.tmp rfl)) rfl rfl (Nat.le_of_ble_eq_true rfl) ?_
  refine ARun.pure (PureOp.move rfl (.tmp rfl)) rfl rfl (Nat.le_of_ble_eq_true rfl) ?_
  refine ARun.pure (PureOp.lenLst rfl (.tmp rfl) vh_sl_25) rfl rfl (Nat.le_of_ble_eq_true rfl) ?_
  refine ARun.pure (PureOp.intOp rfl (.tmp rfl) (.tmp rfl) rfl) rfl rfl (Nat.le_of_ble_eq_true rfl) ?_
  refine ARun.nil ?_
  refine AW.cond (.tmp rfl) (fun hb1 => ?_) (fun hb1 => ?_)
  · have _u := True.intro
    replace hb1 := of_decide_eq_true hb1
    have hkl : k < xx.length := by omega
    obtain ⟨hst, hsm⟩ := ct_step (ct := (ctL c1)) ([] : List Int) hkl
    have he : yy.getD k ([] : List Int) = (mkL c1 mkI) (xx.getD k ([] : List Int)) (a + ((xx.take k).map (ctL c1)).sum) := by rw [hy]; exact mkL_get ([] : List Int) hkl
    refine AW.skip ?_
    refine AW.seq ?_
    refine AW.block ?_
    refine AW.seq ?_
    refine AW.region ?_
    refine ARun.pure (PureOp.move rfl (.tmp rfl)) rfl rfl (Nat.le_of_ble_eq_true rfl) ?_
    refine ARun.pure (PureOp.move rfl (.tmp rfl)) rfl rfl (Nat.le_of_ble_eq_true rfl) ?_
    refine ARun.pure (PureOp.indexLst (i := k) rfl (.tmp rfl) vh_el_25_1 (.tmp rfl) rfl (by omega)) rfl rfl (Nat.le_of_ble_eq_true rfl) ?_
    refine ARun.pure (PureOp.loadRef rfl (.tmp rfl) vh_pl_22 (Nat.le_of_ble_eq_true rfl)) rfl rfl (Nat.le_of_ble_eq_true rfl) ?_
    refine ARun.pure (PureOp.move rfl (.tmp rfl)) rfl rfl (Nat.le_of_ble_eq_true rfl) ?_
    refine ARun.pure (PureOp.call rfl (h_IntS (xx.getD k []) (yy.getD k []) (a + ((xx.take k).map (ctL c1)).sum) (by first | exact he | (rw [he]; rfl)) ⟨by omega, by omega⟩) ⟨⟨_, (.tmp rfl), .lst⟩, ⟨_, (.tmp rfl), .int⟩, trivial⟩ vh_ca_86 trivial) rfl rfl (Nat.le_of_ble_eq_true rfl) ?_
    refine ARun.pure (PureOp.assign rfl (.tmp rfl)) rfl rfl (Nat.le_of_ble_eq_true rfl) ?_
    refine ARun.nil ?_
    refine AW.seq ?_
    refine AW.region ?_
    refine ARun.pure (PureOp.move rfl (.tmp rfl)) rfl rfl (Nat.le_of_ble_eq_true rfl) ?_
    refine ARun.pure (PureOp.intOp rfl (.tmp rfl) .int rfl) rfl rfl (Nat.le_of_ble_eq_true rfl) ?_
    refine ARun.nil ?_
    refine AW.cond (.tmp rfl) (fun hb2 => ?_) (fun hb2 => ?_)
    · have _u := True.intro
      replace hb2 := of_decide_eq_true hb2
      exact absurd hb2 (by omega)
      --end
    · have _u := True.intro
      replace hb2 := of_decide_eq_false hb2
      refine AW.skip ?_
      refine AW.region ?_
      refine ARun.pure (PureOp.move rfl (.tmp rfl)) rfl rfl (Nat.le_of_ble_eq_true rfl) ?_
      refine ARun.pure (PureOp.add (c := ((k + 1 : Nat) : Int)) rfl (.tmp rfl) .int (by rw [wrap_id (by omega) (by omega)]; omega)) rfl rfl (Nat.le_of_ble_eq_true rfl) ?_
      refine ARun.pure (PureOp.assign rfl (.tmp rfl)) rfl rfl (Nat.le_of_ble_eq_true rfl) ?_
      refine ARun.nil ?_
      exact ⟨k + 1, by omega, by dsimp only; omega, ⟨⟨⟨_, rfl, rfl⟩, ⟨_, rfl, congrArg (fun z : Nat => SV.one (.int .i64 (z : Int))) (by omega)⟩, ⟨_, rfl, rfl⟩, trivial⟩, trivial⟩⟩
  · have _u := True.intro
    replace hb1 := of_decide_eq_false hb1
    have hkl : ¬ k < xx.length := by omega
    refine AW.exit ?_
    refine AW.seq ?_
    refine AW.region ?_
    refine ARun.pure (PureOp.move rfl (.tmp rfl)) rfl rfl (Nat.le_of_ble_eq_true rfl) ?_
    refine ARun.pure (PureOp.assign rfl (.tmp rfl)) rfl rfl (Nat.le_of_ble_eq_true rfl) ?_
    refine ARun.nil ?_
    refine AW.ret (show ResL _ _ [.tmp 4] _ from resI rfl ?_)
    have hend : ctL (ctL c1) xx = ((xx.take k).map (ctL c1)).sum := (ct_end hkl).symm
    omega

theorem h_Poll (xx yy : GPoll) (a : Nat) (hy : yy = mvPoll xx a) (ha : 0 < a ∧ a + cvPoll xx ≤ 900000000) : Fn Try.prog 21 [.agg [.lst 5 yy.nodes.length (fun i0 j0 => ([.int .i64 ((yy.nodes.getD i0 (default : GNode)).term), .int .i64 ((yy.nodes.getD i0 (default : GNode)).voted), .int .i64 ((yy.nodes.getD i0 (default : GNode)).age), .lst 1 (((yy.nodes.getD i0 (default : GNode)).heard).length) (fun i1 _ => .int .i64 (((yy.nodes.getD i0 (default : GNode)).heard).getD i1 0)), .int .i64 ((yy.nodes.getD i0 (default : GNode)).role)] : List AV).getD j0 (.con undef)), .lst 5 yy.letters.length (fun i0 j0 => ([.int .i64 ((yy.letters.getD i0 (default : GLetter)).from_), .int .i64 ((yy.letters.getD i0 (default : GLetter)).to), .int .i64 ((yy.letters.getD i0 (default : GLetter)).term), .bool ((yy.letters.getD i0 (default : GLetter)).ask), .int .i64 ((yy.letters.getD i0 (default : GLetter)).age)] : List AV).getD j0 (.con undef)), .lst 1 yy.leaders.length (fun i0 _ => .lst 1 ((yy.leaders.getD i0 []).length) (fun i1 _ => .int .i64 ((yy.leaders.getD i0 []).getD i1 0)))], .one (.int .i64 (a : Int))] (.one (.int .i64 ((a + cvPoll xx : Nat) : Int))) := by
  obtain ⟨ha0, ha1⟩ := ha
  have hcv : cvPoll xx = 0 + ctL crNode (xx.nodes) + ctL crLetter (xx.letters) + ctL (ctL c1) (xx.leaders) := rfl
  refine Fn.of_body (fn := Try.f21) Try.func21 rfl (Nat.le_of_ble_eq_true rfl) trivial ?_
  intro w0
  show AW _ 24 _ _ _ _
  refine AW.seq ?_
  refine AW.region ?_
  refine ARun.box (id := 0) rfl (.tmp rfl) (SV.cells_of (by exact ⟨trivial, trivial, trivial, trivial⟩)) ⟨rfl, (by repeat first | exact trivial | refine ⟨by decide, by first | rfl | exact trivial | (intro i j; first | rfl | exact getD_no rfl | (dsimp only; split <;> first | rfl | exact getD_no rfl)), ?_⟩)⟩ rfl rfl rfl (Nat.le_of_ble_eq_true rfl) ?_
  refine ARun.pure (PureOp.assign rfl .int) rfl rfl (Nat.le_of_ble_eq_true rfl) ?_
  refine ARun.nil ?_
  refine AW.seq ?_
  refine AW.region ?_
  refine ARun.pure (PureOp.fieldPtr rfl (.tmp rfl) vh_fi_27_0_0) rfl rfl (Nat.le_of_ble_eq_true rfl) ?_
  refine ARun.pure (PureOp.loadPtr rfl (.tmp rfl) vh_pl_23 rfl rfl (Nat.le_of_ble_eq_true rfl) (Nat.le_of_ble_eq_true rfl)) rfl rfl (Nat.le_of_ble_eq_true rfl) ?_
  refine ARun.pure (PureOp.move rfl (.tmp rfl)) rfl rfl (Nat.le_of_ble_eq_true rfl) ?_
  refine ARun.pure (PureOp.call rfl (h_NodeS xx.nodes yy.nodes a (by rw [hy]; rfl) ⟨by omega, by omega⟩) ⟨⟨_, (.tmp rfl), .lst⟩, ⟨_, (.tmp rfl), .int⟩, trivial⟩ vh_ca_70 trivial) rfl rfl (Nat.le_of_ble_eq_true rfl) ?_
  refine ARun.pure (PureOp.assign rfl (.tmp rfl)) rfl rfl (Nat.le_of_ble_eq_true rfl) ?_
  refine ARun.nil ?_
  refine AW.seq ?_
  refine AW.seq ?_
  refine AW.region ?_
  refine ARun.pure (PureOp.move rfl (.tmp rfl)) rfl rfl (Nat.le_of_ble_eq_true rfl) ?_
  refine ARun.pure (PureOp.intOp rfl (.tmp rfl) .int rfl) rfl rfl (Nat.le_of_ble_eq_true rfl) ?_
  refine ARun.nil ?_
  refine AW.cond (.tmp rfl) (fun hb1 => ?_) (fun hb1 => ?_)
  · have _u := True.intro
    replace hb1 := of_decide_eq_true hb1
    exact absurd hb1 (by omega)
    --end
  · have _u := True.intro
    replace hb1 := of_decide_eq_false hb1
    refine AW.skip ?_
    refine AW.seq ?_
    refine AW.region ?_
    refine ARun.pure (PureOp.fieldPtr rfl (.tmp rfl) vh_fi_27_1_1) rfl rfl (Nat.le_of_ble_eq_true rfl) ?_
    refine ARun.pure (PureOp.loadPtr rfl (.tmp rfl) vh_pl_24 rfl rfl (Nat.le_of_ble_eq_true rfl) (Nat.le_of_ble_eq_true rfl)) rfl rfl (Nat.le_of_ble_eq_true rfl) ?_
    refine ARun.pure (PureOp.move rfl (.tmp rfl)) rfl rfl (Nat.le_of_ble_eq_true rfl) ?_
    refine ARun.pure (PureOp.call rfl (h_LetterS xx.letters yy.letters (a + ctL crNode xx.nodes) (by rw [hy]; rfl) ⟨by omega, by omega⟩) ⟨⟨_, (.tmp rfl), .lst⟩, ⟨_, (.tmp rfl), .int⟩, trivial⟩ vh_ca_71 trivial) rfl rfl (Nat.le_of_ble_eq_true rfl) ?_
    refine ARun.pure (PureOp.assign rfl (.tmp rfl)) rfl rfl (Nat.le_of_ble_eq_true rfl) ?_
    refine ARun.nil ?_
    refine AW.seq ?_
    refine AW.seq ?_
    refine AW.region ?_
    refine ARun.pure (PureOp.move rfl (.tmp rfl)) rfl rfl (Nat.le_of_ble_eq_true rfl) ?_
    refine ARun.pure (PureOp.intOp rfl (.tmp rfl) .int rfl) rfl rfl (Nat.le_of_ble_eq_true rfl) ?_
    refine ARun.nil ?_
    refine AW.cond (.tmp rfl) (fun hb2 => ?_) (fun hb2 => ?_)
    · have _u := True.intro
      replace hb2 := of_decide_eq_true hb2
      exact absurd hb2 (by omega)
      --end
    · have _u := True.intro
      replace hb2 := of_decide_eq_false hb2
      refine AW.skip ?_
      refine AW.seq ?_
      refine AW.region ?_
      refine ARun.pure (PureOp.fieldPtr rfl (.tmp rfl) vh_fi_27_2_2) rfl rfl (Nat.le_of_ble_eq_true rfl) ?_
      refine ARun.pure (PureOp.loadPtr rfl (.tmp rfl) vh_pl_25 rfl rfl (Nat.le_of_ble_eq_true rfl) (Nat.le_of_ble_eq_true rfl)) rfl rfl (Nat.le_of_ble_eq_true rfl) ?_
      refine ARun.pure (PureOp.move rfl (.tmp rfl)) rfl rfl (Nat.le_of_ble_eq_true rfl) ?_
      refine ARun.pure (PureOp.call rfl (h_IntSS xx.leaders yy.leaders (a + ctL crNode xx.nodes + ctL crLetter xx.letters) (by rw [hy]; rfl) ⟨by omega, by omega⟩) ⟨⟨_, (.tmp rfl), .lst⟩, ⟨_, (.tmp rfl), .int⟩, trivial⟩ vh_ca_72 trivial) rfl rfl (Nat.le_of_ble_eq_true rfl) ?_
      refine ARun.pure (PureOp.assign rfl (.tmp rfl)) rfl rfl (Nat.le_of_ble_eq_true rfl) ?_
      refine ARun.nil ?_
      refine AW.seq ?_
      refine AW.seq ?_
      refine AW.region ?_
      refine ARun.pure (PureOp.move rfl (.tmp rfl)) rfl rfl (Nat.le_of_ble_eq_true rfl) ?_
      refine ARun.pure (PureOp.intOp rfl (.tmp rfl) .int rfl) rfl rfl (Nat.le_of_ble_eq_true rfl) ?_
      refine ARun.nil ?_
      refine AW.cond (.tmp rfl) (fun hb3 => ?_) (fun hb3 => ?_)
      · have _u := True.intro
        replace hb3 := of_decide_eq_true hb3
        exact absurd hb3 (by omega)
        --end
      · have _u := True.intro
        replace hb3 := of_decide_eq_false hb3
        refine AW.skip ?_
        refine AW.seq ?_
        refine AW.region ?_
        refine ARun.pure (PureOp.move rfl (.tmp rfl)) rfl rfl (Nat.le_of_ble_eq_true rfl) ?_
        refine ARun.pure (PureOp.assign rfl (.tmp rfl)) rfl rfl (Nat.le_of_ble_eq_true rfl) ?_
        refine ARun.nil ?_
        refine AW.ret (show ResL _ _ [.tmp 4] _ from resI rfl ?_)
        omega

theorem h_BoolS (xx yy : List Bool) (a : Nat) (hy : yy = mkL c1 mkB xx a) (ha : 0 < a ∧ a + ctL c1 xx ≤ 900000000) : Fn Try.prog 132 [.one (.lst 1 yy.length (fun i0 _ => .bool (yy.getD i0 false))), .one (.int .i64 (a : Int))] (.one (.int .i64 ((a + ctL c1 xx : Nat) : Int))) := by
  obtain ⟨ha0, ha1⟩ := ha
  have hlen : yy.length = xx.length := by rw [hy]; exact mkL_len
  refine Fn.of_body (fn := Try.f132) Try.func132 rfl (Nat.le_of_ble_eq_true rfl) trivial ?_
  intro w0
  show AW _ 23 _ _ _ _
  refine AW.bound (t := 0) rfl fun hx => ?_
  refine AW.seq ?_
  refine AW.region ?_
  refine ARun.pure (PureOp.assign rfl .int) rfl rfl (Nat.le_of_ble_eq_true rfl) ?_
  refine ARun.nil ?_
  refine AW.seq ?_
  refine AW.seq ?_
  refine AW.region ?_
  refine ARun.pure (PureOp.assign rfl .int) rfl rfl (Nat.le_of_ble_eq_true rfl) ?_
  refine ARun.nil ?_
  refine AW.block ?_
  refine AW.loop (ι := Nat) (fun k => ⟨[(0, .one (.lst 1 yy.length (fun i0 _ => .bool (yy.getD i0 false)))), (1, .one (.int .i64 ((a + ((xx.take k).map c1).sum : Nat) : Int))), (5, .one (.int .i64 (k : Int)))], []⟩) (fun k => k ≤ xx.length) (fun k => xx.length - k) 0 (Nat.zero_le _) ⟨⟨⟨_, rfl, rfl⟩, ⟨_, rfl, by simp⟩, ⟨_, rfl, rfl⟩, trivial⟩, trivial⟩ ?_
  intro k hk
  refine AW.seq ?_
  refine AW.seq ?_
  refine AW.region ?_
  refine ARun.pure (PureOp.move rfl (.tmp rfl)) rfl rfl (Nat.le_of_ble_eq_true rfl) ?_
  refine ARun.pure (PureOp.move rfl (.tmp rfl)) rfl rfl (Nat.le_of_ble_eq_true rfl) ?_
  refine ARun.pure (PureOp.lenLst rfl (.tmp rfl) vh_sl_107) rfl rfl (Nat.le_of_ble_eq_true rfl) ?_
  refine ARun.pure (PureOp.intOp rfl (.tmp rfl) (.tmp rfl) rfl) rfl rfl (Nat.le_of_ble_eq_true rfl) ?_
  refine ARun.nil ?_
  refine AW.cond (.tmp rfl) (fun hb1 => ?_) (fun hb1 => ?_)
  · have _u := True.intro
    replace hb1 := of_decide_eq_true hb1
    have hkl : k < xx.length := by omega
    obtain ⟨hst, hsm⟩ := ct_step (ct := c1) (false : Bool) hkl
    have he : yy.getD k (false : Bool) = mkB (xx.getD k (false : Bool)) (a + ((xx.take k).map c1).sum) := by rw [hy]; exact mkL_get (false : Bool) hkl
    have hce : c1 (xx.getD k (false : Bool)) = 1 := rfl
    refine AW.skip ?_
    refine AW.seq ?_
    refine AW.block ?_
    refine AW.seq ?_
    refine AW.seq ?_
    refine AW.region ?_
    refine ARun.pure (PureOp.move rfl (.tmp rfl)) rfl rfl (Nat.le_of_ble_eq_true rfl) ?_
    refine ARun.pure (PureOp.move rfl (.tmp rfl)) rfl rfl (Nat.le_of_ble_eq_true rfl) ?_
    refine ARun.pure (PureOp.indexLst (i := k) rfl (.tmp rfl) vh_el_107_1 (.tmp rfl) rfl (by omega)) rfl rfl (Nat.le_of_ble_eq_true rfl) ?_
    refine ARun.pure (PureOp.loadRef rfl (.tmp rfl) vh_pl_4 (Nat.le_of_ble_eq_true rfl)) rfl rfl (Nat.le_of_ble_eq_true rfl) ?_
    refine ARun.pure (PureOp.move rfl (.tmp rfl)) rfl rfl (Nat.le_of_ble_eq_true rfl) ?_
    refine ARun.pure (PureOp.rem (a := a + ((xx.take k).map c1).sum) (b := 3) rfl (.tmp rfl) .int rfl (by decide) (by omega)) rfl rfl (Nat.le_of_ble_eq_true rfl) ?_
    refine ARun.pure (PureOp.intOp rfl (.tmp rfl) .int rfl) rfl rfl (Nat.le_of_ble_eq_true rfl) ?_
    refine ARun.pure (PureOp.boolNe rfl (.tmp rfl) (.tmp rfl) vh_bo_4) rfl rfl (Nat.le_of_ble_eq_true rfl) ?_
    refine ARun.nil ?_
    refine AW.cond (.tmp rfl) (fun hb2 => ?_) (fun hb2 => ?_)
    · have _u := True.intro
      replace hb2 := beq_f (of_not hb2)
      exact absurd (by rw [he]; rfl) hb2
      --end
    · have _u := True.intro
      replace hb2 := beq_t (not_f hb2)
      refine AW.skip ?_
      refine AW.region ?_
      refine ARun.pure (PureOp.move rfl (.tmp rfl)) rfl rfl (Nat.le_of_ble_eq_true rfl) ?_
      refine ARun.pure (PureOp.add (c := ((a + ((xx.take k).map c1).sum + 1 : Nat) : Int)) rfl (.tmp rfl) .int (by rw [wrap_id (by omega) (by omega)]; omega)) rfl rfl (Nat.le_of_ble_eq_true rfl) ?_
      refine ARun.pure (PureOp.assign rfl (.tmp rfl)) rfl rfl (Nat.le_of_ble_eq_true rfl) ?_
      refine ARun.nil ?_
      refine AW.region ?_
      refine ARun.pure (PureOp.move rfl (.tmp rfl)) rfl rfl (Nat.le_of_ble_eq_true rfl) ?_
      refine ARun.pure (PureOp.add (c := ((k + 1 : Nat) : Int)) rfl (.tmp rfl) .int (by rw [wrap_id (by omega) (by omega)]; omega)) rfl rfl (Nat.le_of_ble_eq_true rfl) ?_
      refine ARun.pure (PureOp.assign rfl (.tmp rfl)) rfl rfl (Nat.le_of_ble_eq_true rfl) ?_
      refine ARun.nil ?_
      exact ⟨k + 1, by omega, by dsimp only; omega, ⟨⟨⟨_, rfl, rfl⟩, ⟨_, rfl, congrArg (fun z : Nat => SV.one (.int .i64 (z : Int))) (by omega)⟩, ⟨_, rfl, rfl⟩, trivial⟩, trivial⟩⟩
  · have _u := True.intro
    replace hb1 := of_decide_eq_false hb1
    have hkl : ¬ k < xx.length := by omega
    refine AW.exit ?_
    refine AW.seq ?_
    refine AW.region ?_
    refine ARun.pure (PureOp.move rfl (.tmp rfl)) rfl rfl (Nat.le_of_ble_eq_true rfl) ?_
    refine ARun.pure (PureOp.assign rfl (.tmp rfl)) rfl rfl (Nat.le_of_ble_eq_true rfl) ?_
    refine ARun.nil ?_
    refine AW.ret (show ResL _ _ [.tmp 4] _ from resI rfl ?_)
    have hend : ctL c1 xx = ((xx.take k).map c1).sum := (ct_end hkl).symm
    omega

theorem h_BoolSS (xx yy : List (List Bool)) (a : Nat) (hy : yy = mkL (ctL c1) (mkL c1 mkB) xx a) (ha : 0 < a ∧ a + ctL (ctL c1) xx ≤ 900000000) : Fn Try.prog 87 [.one (.lst 1 yy.length (fun i0 _ => .lst 1 ((yy.getD i0 []).length) (fun i1 _ => .bool ((yy.getD i0 []).getD i1 false)))), .one (.int .i64 (a : Int))] (.one (.int .i64 ((a + ctL (ctL c1) xx : Nat) : Int))) := by
  obtain ⟨ha0, ha1⟩ := ha
  have hlen : yy.length = xx.length := by rw [hy]; exact mkL_len
  refine Fn.of_body (fn := Try.f87) Try.func87 rfl (Nat.le_of_ble_eq_true rfl) trivial ?_
  intro w0
  show AW _ 21 _ _ _ _
  refine AW.bound (t := 0) rfl fun hx => ?_
  refine AW.seq ?_
  refine AW.region ?_
  refine ARun.pure (PureOp.assign rfl .int) rfl rfl (Nat.le_of_ble_eq_true rfl) ?_
  refine ARun.nil ?_
  refine AW.seq ?_
  refine AW.seq ?_
  refine AW.region ?_
  refine ARun.pure (PureOp.assign rfl .int) rfl rfl (Nat.le_of_ble_eq_true rfl) ?_
  refine ARun.nil ?_
  refine AW.block ?_
  refine AW.loop (ι := Nat) (fun k => ⟨[(0, .one (.lst 1 yy.length (fun i0 _ => .lst 1 ((yy.getD i0 []).length) (fun i1 _ => .bool ((yy.getD i0 []).getD i1 false))))), (1, .one (.int .i64 ((a + ((xx.take k).map (ctL c1)).sum : Nat) : Int))), (5, .one (.int .i64 (k : Int)))], []⟩) (fun k => k ≤ xx.length) (fun k => xx.length - k) 0 (Nat.zero_le _) ⟨⟨⟨_, rfl, rfl⟩, ⟨_, rfl, by simp⟩, ⟨_, rfl, rfl⟩, trivial⟩, trivial⟩ ?_
  intro k hk
  refine AW.seq ?_
  refine AW.seq ?_
  refine AW.region ?_
  refine ARun.pure (PureOp.move rfl (.tmp rfl)) rfl rfl (Nat.le_of_ble_eq_true rfl) ?_
  refine ARun.pure (PureOp.move rfl (.tmp rfl)) rfl rfl (Nat.le_of_ble_eq_true rfl) ?_
  refine ARun.pure (PureOp.lenLst rfl (.tmp rfl) vh_sl_47) rfl rfl (Nat.le_of_ble_eq_true rfl) ?_
  refine ARun.pure (PureOp.intOp rfl (.tmp rfl) (.tmp rfl) rfl) rfl rfl (Nat.le_of_ble_eq_true rfl) ?_
  refine ARun.nil ?_
  refine AW.cond (.tmp rfl) (fun hb1 => ?_) (fun hb1 => ?_)
  · have _u := True.intro
    replace hb1 := of_decide_eq_true hb1
    have hkl : k < xx.length := by omega
    obtain ⟨hst, hsm⟩ := ct_step (ct := (ctL c1)) ([] : List Bool) hkl
    have he : yy.getD k ([] : List Bool) = (mkL c1 mkB) (xx.getD k ([] : List Bool)) (a + ((xx.take k).map (ctL c1)).sum) := by rw [hy]; exact mkL_get ([] : List Bool) hkl
    refine AW.skip ?_
    refine AW.seq ?_
    refine AW.block ?_
    refine AW.seq ?_
    refine AW.region ?_
    refine ARun.pure (PureOp.move rfl (.tmp rfl)) rfl rfl (Nat.le_of_ble_eq_true rfl) ?_
    refine ARun.pure (PureOp.move rfl (.tmp rfl)) rfl rfl (Nat.le_of_ble_eq_true rfl) ?_
    refine ARun.pure (PureOp.indexLst (i := k) rfl (.tmp rfl) vh_el_47_1 (.tmp rfl) rfl (by omega)) rfl rfl (Nat.le_of_ble_eq_true rfl) ?_
    refine ARun.pure (PureOp.loadRef rfl (.tmp rfl) vh_pl_107 (Nat.le_of_ble_eq_true rfl)) rfl rfl (Nat.le_of_ble_eq_true rfl) ?_
    refine ARun.pure (PureOp.move rfl (.tmp rfl)) rfl rfl (Nat.le_of_ble_eq_true rfl) ?_
    refine ARun.pure (PureOp.call rfl (h_BoolS (xx.getD k []) (yy.getD k []) (a + ((xx.take k).map (ctL c1)).sum) (by first | exact he | (rw [he]; rfl)) ⟨by omega, by omega⟩) ⟨⟨_, (.tmp rfl), .lst⟩, ⟨_, (.tmp rfl), .int⟩, trivial⟩ vh_ca_132 trivial) rfl rfl (Nat.le_of_ble_eq_true rfl) ?_
    refine ARun.pure (PureOp.assign rfl (.tmp rfl)) rfl rfl (Nat.le_of_ble_eq_true rfl) ?_
    refine ARun.nil ?_
    refine AW.seq ?_
    refine AW.region ?_
    refine ARun.pure (PureOp.move rfl (.tmp rfl)) rfl rfl (Nat.le_of_ble_eq_true rfl) ?_
    refine ARun.pure (PureOp.intOp rfl (.tmp rfl) .int rfl) rfl rfl (Nat.le_of_ble_eq_true rfl) ?_
    refine ARun.nil ?_
    refine AW.cond (.tmp rfl) (fun hb2 => ?_) (fun hb2 => ?_)
    · have _u := True.intro
      replace hb2 := of_decide_eq_true hb2
      exact absurd hb2 (by omega)
      --end
    · have _u := True.intro
      replace hb2 := of_decide_eq_false hb2
      refine AW.skip ?_
      refine AW.region ?_
      refine ARun.pure (PureOp.move rfl (.tmp rfl)) rfl rfl (Nat.le_of_ble_eq_true rfl) ?_
      refine ARun.pure (PureOp.add (c := ((k + 1 : Nat) : Int)) rfl (.tmp rfl) .int (by rw [wrap_id (by omega) (by omega)]; omega)) rfl rfl (Nat.le_of_ble_eq_true rfl) ?_
      refine ARun.pure (PureOp.assign rfl (.tmp rfl)) rfl rfl (Nat.le_of_ble_eq_true rfl) ?_
      refine ARun.nil ?_
      exact ⟨k + 1, by omega, by dsimp only; omega, ⟨⟨⟨_, rfl, rfl⟩, ⟨_, rfl, congrArg (fun z : Nat => SV.one (.int .i64 (z : Int))) (by omega)⟩, ⟨_, rfl, rfl⟩, trivial⟩, trivial⟩⟩
  · have _u := True.intro
    replace hb1 := of_decide_eq_false hb1
    have hkl : ¬ k < xx.length := by omega
    refine AW.exit ?_
    refine AW.seq ?_
    refine AW.region ?_
    refine ARun.pure (PureOp.move rfl (.tmp rfl)) rfl rfl (Nat.le_of_ble_eq_true rfl) ?_
    refine ARun.pure (PureOp.assign rfl (.tmp rfl)) rfl rfl (Nat.le_of_ble_eq_true rfl) ?_
    refine ARun.nil ?_
    refine AW.ret (show ResL _ _ [.tmp 4] _ from resI rfl ?_)
    have hend : ctL (ctL c1) xx = ((xx.take k).map (ctL c1)).sum := (ct_end hkl).symm
    omega

theorem h_Bank (xx yy : GBank) (a : Nat) (hy : yy = mvBank xx a) (ha : 0 < a ∧ a + cvBank xx ≤ 900000000) : Fn Try.prog 32 [.agg [.lst 1 yy.cCoins.length (fun i0 _ => .int .i64 (yy.cCoins.getD i0 0)), .lst 1 yy.cWays.length (fun i0 _ => .lst 1 ((yy.cWays.getD i0 []).length) (fun i1 _ => .int .i64 ((yy.cWays.getD i0 []).getD i1 0))), .lst 1 yy.cKept.length (fun i0 _ => .int .i64 (yy.cKept.getD i0 0)), .lst 1 yy.cHeard.length (fun i0 _ => .lst 1 ((yy.cHeard.getD i0 []).length) (fun i1 _ => .bool ((yy.cHeard.getD i0 []).getD i1 false))), .lst 1 yy.cFound.length (fun i0 _ => .lst 1 ((yy.cFound.getD i0 []).length) (fun i1 _ => .int .i64 ((yy.cFound.getD i0 []).getD i1 0)))], .one (.int .i64 (a : Int))] (.one (.int .i64 ((a + cvBank xx : Nat) : Int))) := by
  obtain ⟨ha0, ha1⟩ := ha
  have hcv : cvBank xx = 0 + ctL c1 (xx.cCoins) + ctL (ctL c1) (xx.cWays) + ctL c1 (xx.cKept) + ctL (ctL c1) (xx.cHeard) + ctL (ctL c1) (xx.cFound) := rfl
  refine Fn.of_body (fn := Try.f32) Try.func32 rfl (Nat.le_of_ble_eq_true rfl) trivial ?_
  intro w0
  show AW _ 36 _ _ _ _
  refine AW.seq ?_
  refine AW.region ?_
  refine ARun.box (id := 0) rfl (.tmp rfl) (SV.cells_of (by exact ⟨trivial, trivial, trivial, trivial, trivial, trivial⟩)) ⟨rfl, (by repeat first | exact trivial | refine ⟨by decide, by first | rfl | exact trivial | (intro i j; first | rfl | exact getD_no rfl | (dsimp only; split <;> first | rfl | exact getD_no rfl)), ?_⟩)⟩ rfl rfl rfl (Nat.le_of_ble_eq_true rfl) ?_
  refine ARun.pure (PureOp.assign rfl .int) rfl rfl (Nat.le_of_ble_eq_true rfl) ?_
  refine ARun.nil ?_
  refine AW.seq ?_
  refine AW.region ?_
  refine ARun.pure (PureOp.fieldPtr rfl (.tmp rfl) vh_fi_49_0_0) rfl rfl (Nat.le_of_ble_eq_true rfl) ?_
  refine ARun.pure (PureOp.loadPtr rfl (.tmp rfl) vh_pl_22 rfl rfl (Nat.le_of_ble_eq_true rfl) (Nat.le_of_ble_eq_true rfl)) rfl rfl (Nat.le_of_ble_eq_true rfl) ?_
  refine ARun.pure (PureOp.move rfl (.tmp rfl)) rfl rfl (Nat.le_of_ble_eq_true rfl) ?_
  refine ARun.pure (PureOp.call rfl (h_IntS xx.cCoins yy.cCoins a (by rw [hy]; rfl) ⟨by omega, by omega⟩) ⟨⟨_, (.tmp rfl), .lst⟩, ⟨_, (.tmp rfl), .int⟩, trivial⟩ vh_ca_86 trivial) rfl rfl (Nat.le_of_ble_eq_true rfl) ?_
  refine ARun.pure (PureOp.assign rfl (.tmp rfl)) rfl rfl (Nat.le_of_ble_eq_true rfl) ?_
  refine ARun.nil ?_
  refine AW.seq ?_
  refine AW.seq ?_
  refine AW.region ?_
  refine ARun.pure (PureOp.move rfl (.tmp rfl)) rfl rfl (Nat.le_of_ble_eq_true rfl) ?_
  refine ARun.pure (PureOp.intOp rfl (.tmp rfl) .int rfl) rfl rfl (Nat.le_of_ble_eq_true rfl) ?_
  refine ARun.nil ?_
  refine AW.cond (.tmp rfl) (fun hb1 => ?_) (fun hb1 => ?_)
  · have _u := True.intro
    replace hb1 := of_decide_eq_true hb1
    exact absurd hb1 (by omega)
    --end
  · have _u := True.intro
    replace hb1 := of_decide_eq_false hb1
    refine AW.skip ?_
    refine AW.seq ?_
    refine AW.region ?_
    refine ARun.pure (PureOp.fieldPtr rfl (.tmp rfl) vh_fi_49_1_1) rfl rfl (Nat.le_of_ble_eq_true rfl) ?_
    refine ARun.pure (PureOp.loadPtr rfl (.tmp rfl) vh_pl_25 rfl rfl (Nat.le_of_ble_eq_true rfl) (Nat.le_of_ble_eq_true rfl)) rfl rfl (Nat.le_of_ble_eq_true rfl) ?_
    refine ARun.pure (PureOp.move rfl (.tmp rfl)) rfl rfl (Nat.le_of_ble_eq_true rfl) ?_
    refine ARun.pure (PureOp.call rfl (h_IntSS xx.cWays yy.cWays (a + ctL c1 xx.cCoins) (by rw [hy]; rfl) ⟨by omega, by omega⟩) ⟨⟨_, (.tmp rfl), .lst⟩, ⟨_, (.tmp rfl), .int⟩, trivial⟩ vh_ca_72 trivial) rfl rfl (Nat.le_of_ble_eq_true rfl) ?_
    refine ARun.pure (PureOp.assign rfl (.tmp rfl)) rfl rfl (Nat.le_of_ble_eq_true rfl) ?_
    refine ARun.nil ?_
    refine AW.seq ?_
    refine AW.seq ?_
    refine AW.region ?_
    refine ARun.pure (PureOp.move rfl (.tmp rfl)) rfl rfl (Nat.le_of_ble_eq_true rfl) ?_
    refine ARun.pure (PureOp.intOp rfl (.tmp rfl) .int rfl) rfl rfl (Nat.le_of_ble_eq_true rfl) ?_
    refine ARun.nil ?_
    refine AW.cond (.tmp rfl) (fun hb2 => ?_) (fun hb2 => ?_)
    · have _u := True.intro
      replace hb2 := of_decide_eq_true hb2
      exact absurd hb2 (by omega)
      --end
    · have _u := True.intro
      replace hb2 := of_decide_eq_false hb2
      refine AW.skip ?_
      refine AW.seq ?_
      refine AW.region ?_
      refine ARun.pure (PureOp.fieldPtr rfl (.tmp rfl) vh_fi_49_2_2) rfl rfl (Nat.le_of_ble_eq_true rfl) ?_
      refine ARun.pure (PureOp.loadPtr rfl (.tmp rfl) vh_pl_22 rfl rfl (Nat.le_of_ble_eq_true rfl) (Nat.le_of_ble_eq_true rfl)) rfl rfl (Nat.le_of_ble_eq_true rfl) ?_
      refine ARun.pure (PureOp.move rfl (.tmp rfl)) rfl rfl (Nat.le_of_ble_eq_true rfl) ?_
      refine ARun.pure (PureOp.call rfl (h_IntS xx.cKept yy.cKept (a + ctL c1 xx.cCoins + ctL (ctL c1) xx.cWays) (by rw [hy]; rfl) ⟨by omega, by omega⟩) ⟨⟨_, (.tmp rfl), .lst⟩, ⟨_, (.tmp rfl), .int⟩, trivial⟩ vh_ca_86 trivial) rfl rfl (Nat.le_of_ble_eq_true rfl) ?_
      refine ARun.pure (PureOp.assign rfl (.tmp rfl)) rfl rfl (Nat.le_of_ble_eq_true rfl) ?_
      refine ARun.nil ?_
      refine AW.seq ?_
      refine AW.seq ?_
      refine AW.region ?_
      refine ARun.pure (PureOp.move rfl (.tmp rfl)) rfl rfl (Nat.le_of_ble_eq_true rfl) ?_
      refine ARun.pure (PureOp.intOp rfl (.tmp rfl) .int rfl) rfl rfl (Nat.le_of_ble_eq_true rfl) ?_
      refine ARun.nil ?_
      refine AW.cond (.tmp rfl) (fun hb3 => ?_) (fun hb3 => ?_)
      · have _u := True.intro
        replace hb3 := of_decide_eq_true hb3
        exact absurd hb3 (by omega)
        --end
      · have _u := True.intro
        replace hb3 := of_decide_eq_false hb3
        refine AW.skip ?_
        refine AW.seq ?_
        refine AW.region ?_
        refine ARun.pure (PureOp.fieldPtr rfl (.tmp rfl) vh_fi_49_3_3) rfl rfl (Nat.le_of_ble_eq_true rfl) ?_
        refine ARun.pure (PureOp.loadPtr rfl (.tmp rfl) vh_pl_47 rfl rfl (Nat.le_of_ble_eq_true rfl) (Nat.le_of_ble_eq_true rfl)) rfl rfl (Nat.le_of_ble_eq_true rfl) ?_
        refine ARun.pure (PureOp.move rfl (.tmp rfl)) rfl rfl (Nat.le_of_ble_eq_true rfl) ?_
        refine ARun.pure (PureOp.call rfl (h_BoolSS xx.cHeard yy.cHeard (a + ctL c1 xx.cCoins + ctL (ctL c1) xx.cWays + ctL c1 xx.cKept) (by rw [hy]; rfl) ⟨by omega, by omega⟩) ⟨⟨_, (.tmp rfl), .lst⟩, ⟨_, (.tmp rfl), .int⟩, trivial⟩ vh_ca_87 trivial) rfl rfl (Nat.le_of_ble_eq_true rfl) ?_
        refine ARun.pure (PureOp.assign rfl (.tmp rfl)) rfl rfl (Nat.le_of_ble_eq_true rfl) ?_
        refine ARun.nil ?_
        refine AW.seq ?_
        refine AW.seq ?_
        refine AW.region ?_
        refine ARun.pure (PureOp.move rfl (.tmp rfl)) rfl rfl (Nat.le_of_ble_eq_true rfl) ?_
        refine ARun.pure (PureOp.intOp rfl (.tmp rfl) .int rfl) rfl rfl (Nat.le_of_ble_eq_true rfl) ?_
        refine ARun.nil ?_
        refine AW.cond (.tmp rfl) (fun hb4 => ?_) (fun hb4 => ?_)
        · have _u := True.intro
          replace hb4 := of_decide_eq_true hb4
          exact absurd hb4 (by omega)
          --end
        · have _u := True.intro
          replace hb4 := of_decide_eq_false hb4
          refine AW.skip ?_
          refine AW.seq ?_
          refine AW.region ?_
          refine ARun.pure (PureOp.fieldPtr rfl (.tmp rfl) vh_fi_49_4_4) rfl rfl (Nat.le_of_ble_eq_true rfl) ?_
          refine ARun.pure (PureOp.loadPtr rfl (.tmp rfl) vh_pl_25 rfl rfl (Nat.le_of_ble_eq_true rfl) (Nat.le_of_ble_eq_true rfl)) rfl rfl (Nat.le_of_ble_eq_true rfl) ?_
          refine ARun.pure (PureOp.move rfl (.tmp rfl)) rfl rfl (Nat.le_of_ble_eq_true rfl) ?_
          refine ARun.pure (PureOp.call rfl (h_IntSS xx.cFound yy.cFound (a + ctL c1 xx.cCoins + ctL (ctL c1) xx.cWays + ctL c1 xx.cKept + ctL (ctL c1) xx.cHeard) (by rw [hy]; rfl) ⟨by omega, by omega⟩) ⟨⟨_, (.tmp rfl), .lst⟩, ⟨_, (.tmp rfl), .int⟩, trivial⟩ vh_ca_72 trivial) rfl rfl (Nat.le_of_ble_eq_true rfl) ?_
          refine ARun.pure (PureOp.assign rfl (.tmp rfl)) rfl rfl (Nat.le_of_ble_eq_true rfl) ?_
          refine ARun.nil ?_
          refine AW.seq ?_
          refine AW.seq ?_
          refine AW.region ?_
          refine ARun.pure (PureOp.move rfl (.tmp rfl)) rfl rfl (Nat.le_of_ble_eq_true rfl) ?_
          refine ARun.pure (PureOp.intOp rfl (.tmp rfl) .int rfl) rfl rfl (Nat.le_of_ble_eq_true rfl) ?_
          refine ARun.nil ?_
          refine AW.cond (.tmp rfl) (fun hb5 => ?_) (fun hb5 => ?_)
          · have _u := True.intro
            replace hb5 := of_decide_eq_true hb5
            exact absurd hb5 (by omega)
            --end
          · have _u := True.intro
            replace hb5 := of_decide_eq_false hb5
            refine AW.skip ?_
            refine AW.seq ?_
            refine AW.region ?_
            refine ARun.pure (PureOp.move rfl (.tmp rfl)) rfl rfl (Nat.le_of_ble_eq_true rfl) ?_
            refine ARun.pure (PureOp.assign rfl (.tmp rfl)) rfl rfl (Nat.le_of_ble_eq_true rfl) ?_
            refine ARun.nil ?_
            refine AW.ret (show ResL _ _ [.tmp 4] _ from resI rfl ?_)
            omega
end Go.Proofs.Ytlbnodmebehpiaa
