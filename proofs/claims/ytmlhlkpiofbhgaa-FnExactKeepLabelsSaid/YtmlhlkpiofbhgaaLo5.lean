/-
  The laws' own copies (to), as trees.
-/
import Derived.Test.YtmlhlkpiofbhgaaTm5
namespace Go.Proofs.Ytmlhlkpiofbhgaa
open Go.ChangeShapes Go.WideShapes Go.ChangeAt Go.RowKit Go.BigFrame Go.Deep
set_option linter.unusedVariables false
set_option linter.unusedSimpArgs false
theorem vp_ag_104_2 : aggB Try.prog 104 2 = true := by kernel_rfl
theorem vp_ag_106_2 : aggB Try.prog 106 2 = true := by kernel_rfl
theorem vp_ag_120_2 : aggB Try.prog 120 2 = true := by kernel_rfl
theorem vp_ag_122_2 : aggB Try.prog 122 2 = true := by kernel_rfl
theorem vp_ag_27_6 : aggB Try.prog 27 6 = true := by kernel_rfl
theorem vp_ca_67 : callB Try.prog 67 = true := by kernel_rfl
theorem vp_ca_68 : callB Try.prog 68 = true := by kernel_rfl
theorem vp_ca_69 : callB Try.prog 69 = true := by kernel_rfl
theorem vp_ca_70 : callB Try.prog 70 = true := by kernel_rfl
theorem vp_ca_83 : callB Try.prog 83 = true := by kernel_rfl
theorem vp_ca_96 : callB Try.prog 96 = true := by kernel_rfl
theorem vp_el_22_1 : elemB Try.prog 22 1 = true := by kernel_rfl
theorem vp_el_23_1 : elemB Try.prog 23 1 = true := by kernel_rfl
theorem vp_el_24_1 : elemB Try.prog 24 1 = true := by kernel_rfl
theorem vp_el_25_2 : elemB Try.prog 25 2 = true := by kernel_rfl
theorem vp_el_33_1 : elemB Try.prog 33 1 = true := by kernel_rfl
theorem vp_el_34_2 : elemB Try.prog 34 2 = true := by kernel_rfl
theorem vp_el_53_2 : elemB Try.prog 53 2 = true := by kernel_rfl
theorem vp_el_54_1 : elemB Try.prog 54 1 = true := by kernel_rfl
theorem vp_el_57_2 : elemB Try.prog 57 2 = true := by kernel_rfl
theorem vp_fi_104_0_0 : fieldB Try.prog 104 0 0 = true := by kernel_rfl
theorem vp_fi_104_1_1 : fieldB Try.prog 104 1 1 = true := by kernel_rfl
theorem vp_fi_106_0_0 : fieldB Try.prog 106 0 0 = true := by kernel_rfl
theorem vp_fi_106_1_1 : fieldB Try.prog 106 1 1 = true := by kernel_rfl
theorem vp_fi_120_0_0 : fieldB Try.prog 120 0 0 = true := by kernel_rfl
theorem vp_fi_120_1_1 : fieldB Try.prog 120 1 1 = true := by kernel_rfl
theorem vp_fi_122_0_0 : fieldB Try.prog 122 0 0 = true := by kernel_rfl
theorem vp_fi_122_1_1 : fieldB Try.prog 122 1 1 = true := by kernel_rfl
theorem vp_fi_27_0_0 : fieldB Try.prog 27 0 0 = true := by kernel_rfl
theorem vp_fi_27_1_1 : fieldB Try.prog 27 1 1 = true := by kernel_rfl
theorem vp_fi_27_2_2 : fieldB Try.prog 27 2 2 = true := by kernel_rfl
theorem vp_fi_27_3_3 : fieldB Try.prog 27 3 3 = true := by kernel_rfl
theorem vp_fi_27_4_4 : fieldB Try.prog 27 4 4 = true := by kernel_rfl
theorem vp_fi_27_5_5 : fieldB Try.prog 27 5 5 = true := by kernel_rfl
theorem vp_fi_36_0_0 : fieldB Try.prog 36 0 0 = true := by kernel_rfl
theorem vp_fi_36_1_1 : fieldB Try.prog 36 1 1 = true := by kernel_rfl
theorem vp_fi_36_2_2 : fieldB Try.prog 36 2 2 = true := by kernel_rfl
theorem vp_fi_36_3_3 : fieldB Try.prog 36 3 3 = true := by kernel_rfl
theorem vp_fi_36_4_4 : fieldB Try.prog 36 4 4 = true := by kernel_rfl
theorem vp_fi_36_5_5 : fieldB Try.prog 36 5 5 = true := by kernel_rfl
theorem vp_pl_23 : plainB Try.prog 23 = true := by kernel_rfl
theorem vp_pl_24 : plainB Try.prog 24 = true := by kernel_rfl
theorem vp_pl_3 : plainB Try.prog 3 = true := by kernel_rfl
theorem vp_pl_33 : plainB Try.prog 33 = true := by kernel_rfl
theorem vp_pl_34 : plainB Try.prog 34 = true := by kernel_rfl
theorem vp_pl_4 : plainB Try.prog 4 = true := by kernel_rfl
theorem vp_pl_9 : plainB Try.prog 9 = true := by kernel_rfl
theorem vp_sl_23 : sliceB Try.prog 23 = true := by kernel_rfl
theorem vp_sl_24 : sliceB Try.prog 24 = true := by kernel_rfl
theorem vp_sl_33 : sliceB Try.prog 33 = true := by kernel_rfl
theorem vp_sl_34 : sliceB Try.prog 34 = true := by kernel_rfl
theorem vp_sl_53 : sliceB Try.prog 53 = true := by kernel_rfl
theorem vp_sl_54 : sliceB Try.prog 54 = true := by kernel_rfl
theorem vp_sz_106_2 : sizeB Try.prog 106 2 = true := by kernel_rfl
theorem vp_sz_120_2 : sizeB Try.prog 120 2 = true := by kernel_rfl
theorem vp_sz_22_1 : sizeB Try.prog 22 1 = true := by kernel_rfl
theorem vp_sz_23_1 : sizeB Try.prog 23 1 = true := by kernel_rfl
theorem vp_sz_24_1 : sizeB Try.prog 24 1 = true := by kernel_rfl
theorem vp_sz_25_1 : sizeB Try.prog 25 1 = true := by kernel_rfl
theorem vp_sz_27_6 : sizeB Try.prog 27 6 = true := by kernel_rfl
theorem vp_sz_3_1 : sizeB Try.prog 3 1 = true := by kernel_rfl
theorem vp_sz_4_1 : sizeB Try.prog 4 1 = true := by kernel_rfl
theorem vp_sz_9_1 : sizeB Try.prog 9 1 = true := by kernel_rfl
theorem v_toLabel (x : GLabel) (hw : Small (wtLabel x)) : FnF Try.prog 83 [.agg [.str x.lname, .str x.lvalue]] (.agg [.str x.lname, .str x.lvalue]) := by
  unfold Small wtLabel at hw
  refine FnF.of_body (fn := Try.f83) Try.func83 rfl (Nat.le_of_ble_eq_true rfl)  ?_
  intro w0
  show AW _ 11 _ _ _ _
  refine AW.seq ?_
  refine AW.region ?_
  refine ARun.box (id := 0) rfl (.tmp rfl) (SV.cells_of (by exact ⟨trivial, trivial, trivial⟩)) ⟨rfl, (by repeat first | exact trivial | refine ⟨by decide, by first | rfl | exact trivial | (intro i j; first | rfl | exact getD_no rfl | (dsimp only; split <;> first | rfl | exact getD_no rfl)), ?_⟩)⟩ rfl rfl rfl (Nat.le_of_ble_eq_true rfl) ?_
  refine ARun.alloc (id := 1) (l := [.str ByteArray.empty, .str ByteArray.empty]) (z := (.agg #[.string ByteArray.empty, .string ByteArray.empty])) rfl (by kernel_rfl) (fun _ _ _ => ⟨_, _, rfl, ⟨rfl, by decide⟩, ⟨_, _, rfl, ⟨rfl, by decide⟩, rfl⟩⟩) ⟨rfl, (by repeat first | exact trivial | refine ⟨by decide, by first | rfl | exact trivial | (intro i j; first | rfl | exact getD_no rfl | (dsimp only; split <;> first | rfl | exact getD_no rfl)), ?_⟩)⟩ rfl rfl rfl (Nat.le_of_ble_eq_true rfl) ?_
  refine ARun.nil ?_
  refine AW.seq ?_
  refine AW.region ?_
  refine ARun.alloc (id := 2) (l := [.str ByteArray.empty, .str ByteArray.empty]) (z := (.agg #[.string ByteArray.empty, .string ByteArray.empty])) rfl (by kernel_rfl) (fun _ _ _ => ⟨_, _, rfl, ⟨rfl, by decide⟩, ⟨_, _, rfl, ⟨rfl, by decide⟩, rfl⟩⟩) ⟨rfl, (by repeat first | exact trivial | refine ⟨by decide, by first | rfl | exact trivial | (intro i j; first | rfl | exact getD_no rfl | (dsimp only; split <;> first | rfl | exact getD_no rfl)), ?_⟩)⟩ rfl rfl rfl (Nat.le_of_ble_eq_true rfl) ?_
  refine ARun.nil ?_
  refine AW.seq ?_
  refine AW.region ?_
  refine ARun.pure (PureOp.fieldPtr rfl (.tmp rfl) vp_fi_104_0_0) rfl rfl (Nat.le_of_ble_eq_true rfl) ?_
  refine ARun.pure (PureOp.loadPtr rfl (.tmp rfl) vp_pl_9 rfl rfl (Nat.le_of_ble_eq_true rfl) (Nat.le_of_ble_eq_true rfl)) rfl rfl (Nat.le_of_ble_eq_true rfl) ?_
  refine ARun.pure (PureOp.fieldPtr rfl (.tmp rfl) vp_fi_106_0_0) rfl rfl (Nat.le_of_ble_eq_true rfl) ?_
  refine ARun.store rfl (.tmp rfl) (.tmp rfl) trivial rfl (Nat.le_of_ble_eq_true rfl) vp_sz_9_1 rfl rfl ?_
  refine ARun.nil ?_
  refine AW.seq ?_
  refine AW.region ?_
  refine ARun.pure (PureOp.fieldPtr rfl (.tmp rfl) vp_fi_104_1_1) rfl rfl (Nat.le_of_ble_eq_true rfl) ?_
  refine ARun.pure (PureOp.loadPtr rfl (.tmp rfl) vp_pl_9 rfl rfl (Nat.le_of_ble_eq_true rfl) (Nat.le_of_ble_eq_true rfl)) rfl rfl (Nat.le_of_ble_eq_true rfl) ?_
  refine ARun.pure (PureOp.fieldPtr rfl (.tmp rfl) vp_fi_106_1_1) rfl rfl (Nat.le_of_ble_eq_true rfl) ?_
  refine ARun.store rfl (.tmp rfl) (.tmp rfl) trivial rfl (Nat.le_of_ble_eq_true rfl) vp_sz_9_1 rfl rfl ?_
  refine ARun.nil ?_
  refine AW.seq ?_
  refine AW.region ?_
  refine ARun.pure (PureOp.loadPtrAgg rfl (.tmp rfl) vp_ag_106_2 rfl rfl (Nat.le_of_ble_eq_true rfl) (Nat.le_of_ble_eq_true rfl)) rfl rfl (Nat.le_of_ble_eq_true rfl) ?_
  refine ARun.store rfl (.tmp rfl) (.tmp rfl) (SV.cells_of (by exact ⟨trivial, trivial, trivial⟩)) rfl (Nat.le_of_ble_eq_true rfl) vp_sz_106_2 rfl rfl ?_
  refine ARun.nil ?_
  exact AW.ret (show ∃ s, ResL _ _ [.cell 2 106] s ∧ FvS _ s _ from ⟨_, .inl ⟨_, rfl, .cells rfl vp_ag_106_2 rfl rfl (Nat.le_of_ble_eq_true rfl) (Nat.le_of_ble_eq_true rfl)⟩, ⟨.str, .str, trivial⟩⟩)

theorem v_toLabelS (x : List GLabel) (hw : Small (wtl wtLabel x)) : FnT Try.prog 31 [.one (.lst 2 x.length (fun i0 j0 => ([.str ((x.getD i0 (default : GLabel)).lname), .str ((x.getD i0 (default : GLabel)).lvalue)] : List AV).getD j0 (.con undef)))] (.one (.lst 2 x.length (fun i0 j0 => ([.str ((x.getD i0 (default : GLabel)).lname), .str ((x.getD i0 (default : GLabel)).lvalue)] : List AV).getD j0 (.con undef)))) := by
  unfold Small at hw
  replace hw : x.length + (x.map wtLabel).sum ≤ 1048576 := hw
  have hlen : x.length ≤ 1048576 := by omega
  refine FnT.of_body (fn := Try.f31) Try.func31 rfl (Nat.le_of_ble_eq_true rfl)  ?_
  intro w0
  show AW _ 23 _ _ _ _
  refine AW.seq ?_
  refine AW.region ?_
  refine ARun.pure (PureOp.assign rfl .con) rfl rfl (Nat.le_of_ble_eq_true rfl) ?_
  refine ARun.nil ?_
  refine AW.seq ?_
  refine AW.region ?_
  refine ARun.pure (PureOp.move rfl (.tmp rfl)) rfl rfl (Nat.le_of_ble_eq_true rfl) ?_
  refine ARun.pure (PureOp.lenLst rfl (.tmp rfl) vp_sl_53) rfl rfl (Nat.le_of_ble_eq_true rfl) ?_
  refine ARun.make (id := 0) (n := x.length) (l := [.str ByteArray.empty, .str ByteArray.empty]) (z := (.agg #[.string ByteArray.empty, .string ByteArray.empty])) (by_ := 32) rfl (by kernel_rfl) (fun _ _ _ => ⟨_, _, rfl, ⟨rfl, by decide⟩, ⟨_, _, rfl, ⟨rfl, by decide⟩, rfl⟩⟩) (.tmp rfl) (.tmp rfl) rfl rfl (by omega) (by omega) (by decide) ⟨rfl, (by repeat first | exact trivial | refine ⟨by decide, by first | rfl | exact trivial | (intro i j; first | rfl | exact getD_no rfl | (dsimp only; split <;> first | rfl | exact getD_no rfl)), ?_⟩)⟩ rfl rfl rfl (Nat.le_of_ble_eq_true rfl) ?_
  refine ARun.pure (PureOp.assign rfl (.tmp rfl)) rfl rfl (Nat.le_of_ble_eq_true rfl) ?_
  refine ARun.nil ?_
  refine AW.seq ?_
  refine AW.seq ?_
  refine AW.region ?_
  refine ARun.pure (PureOp.assign rfl .int) rfl rfl (Nat.le_of_ble_eq_true rfl) ?_
  refine ARun.nil ?_
  refine AW.block ?_
  refine AW.loop (ι := Nat) (fun k => ⟨[(0, .one (.lst 2 x.length (fun i0 j0 => ([.str ((x.getD i0 (default : GLabel)).lname), .str ((x.getD i0 (default : GLabel)).lvalue)] : List AV).getD j0 (.con undef)))), (3, .one (.own 0 2 x.length)), (4, .one (.int .i64 (k : Int)))], [(0, .arr 2 x.length (fun a b => if a < k then ceLabel (x.getD a (default : GLabel)) b else ([.str ByteArray.empty, .str ByteArray.empty] : List AV).getD b (.con undef)))]⟩) (fun k => k ≤ x.length) (fun k => x.length - k) 0 (Nat.zero_le _) ⟨⟨⟨_, rfl, rfl⟩, ⟨_, rfl, rfl⟩, ⟨_, rfl, rfl⟩, trivial⟩, ⟨⟨_, rfl, rfl, Nat.le_refl _, fun a b _ _ => by simp [AObj.f]⟩, trivial⟩⟩ ?_
  intro k hk
  refine AW.seq ?_
  refine AW.seq ?_
  refine AW.region ?_
  refine ARun.pure (PureOp.move rfl (.tmp rfl)) rfl rfl (Nat.le_of_ble_eq_true rfl) ?_
  refine ARun.pure (PureOp.move rfl (.tmp rfl)) rfl rfl (Nat.le_of_ble_eq_true rfl) ?_
  refine ARun.pure (PureOp.lenLst rfl (.tmp rfl) vp_sl_53) rfl rfl (Nat.le_of_ble_eq_true rfl) ?_
  refine ARun.pure (PureOp.intOp rfl (.tmp rfl) (.tmp rfl) rfl) rfl rfl (Nat.le_of_ble_eq_true rfl) ?_
  refine ARun.nil ?_
  refine AW.cond (.tmp rfl) (fun hb1 => ?_) (fun hb1 => ?_)
  · have _u := True.intro
    replace hb1 := of_decide_eq_true hb1
    have hlt : k < x.length := by omega
    have hwk := wt_at (f := wtLabel) (default : GLabel) hlt
    refine AW.skip ?_
    refine AW.seq ?_
    refine AW.block ?_
    refine AW.region ?_
    refine ARun.pure (PureOp.move rfl (.tmp rfl)) rfl rfl (Nat.le_of_ble_eq_true rfl) ?_
    refine ARun.pure (PureOp.move rfl (.tmp rfl)) rfl rfl (Nat.le_of_ble_eq_true rfl) ?_
    refine ARun.pure (PureOp.move rfl (.tmp rfl)) rfl rfl (Nat.le_of_ble_eq_true rfl) ?_
    refine ARun.pure (PureOp.move rfl (.tmp rfl)) rfl rfl (Nat.le_of_ble_eq_true rfl) ?_
    refine ARun.pure (PureOp.indexLst (i := k) rfl (.tmp rfl) vp_el_53_2 (.tmp rfl) rfl (by omega)) rfl rfl (Nat.le_of_ble_eq_true rfl) ?_
    refine ARun.pure (PureOp.loadRefAgg rfl (.tmp rfl) vp_ag_104_2 (Nat.le_of_ble_eq_true rfl)) rfl rfl (Nat.le_of_ble_eq_true rfl) ?_
    refine ARun.fresh (FreshOp.callS rfl (v_toLabel (x.getD k (default : GLabel)) (Small.mk (by omega))) ⟨⟨_, (.tmp rfl), ⟨.str, .str, trivial⟩⟩, trivial⟩ vp_ca_83 rfl) rfl rfl (Nat.le_of_ble_eq_true rfl) ?_
    refine ARun.pure (PureOp.indexOwn (i := k) rfl (.tmp rfl) vp_el_57_2 (.tmp rfl) rfl (by omega)) rfl rfl (Nat.le_of_ble_eq_true rfl) ?_
    refine ARun.storeElem rfl (.tmp rfl) (.tmp rfl) (SV.cells_of (by exact ⟨trivial, trivial, trivial⟩)) rfl (by omega) rfl vp_sz_106_2 rfl rfl ?_
    refine ARun.nil ?_
    refine AW.region ?_
    refine ARun.pure (PureOp.move rfl (.tmp rfl)) rfl rfl (Nat.le_of_ble_eq_true rfl) ?_
    refine ARun.pure (PureOp.add (c := ((k + 1 : Nat) : Int)) rfl (.tmp rfl) .int (by rw [wrap_id (by omega) (by omega)]; omega)) rfl rfl (Nat.le_of_ble_eq_true rfl) ?_
    refine ARun.pure (PureOp.assign rfl (.tmp rfl)) rfl rfl (Nat.le_of_ble_eq_true rfl) ?_
    refine ARun.nil ?_
    exact ⟨k + 1, by omega, by dsimp only; omega, ⟨⟨⟨_, rfl, rfl⟩, ⟨_, rfl, rfl⟩, ⟨_, rfl, rfl⟩, trivial⟩, ⟨⟨_, rfl, rfl, Nat.le_refl _, fun a b _ hb => fill_next (sz := 2) (k := k) (g := fun a b => ceLabel (x.getD a (default : GLabel)) b) (z := fun b => ([.str ByteArray.empty, .str ByteArray.empty] : List AV).getD b (.con undef)) (c := fun b => ([.str ((x.getD k (default : GLabel)).lname), .str ((x.getD k (default : GLabel)).lvalue)] : List AV).getD b (.con undef)) (fun b hb => match b, hb with | 0, _ => rfl | 1, _ => rfl | _ + 2, h => absurd h (by omega)) a b hb⟩, trivial⟩⟩⟩
  · have _u := True.intro
    replace hb1 := of_decide_eq_false hb1
    have hlt : ¬ k < x.length := by omega
    obtain rfl : k = x.length := by omega
    refine AW.exit ?_
    refine AW.seq ?_
    refine AW.region ?_
    refine ARun.pure (PureOp.move rfl (.tmp rfl)) rfl rfl (Nat.le_of_ble_eq_true rfl) ?_
    refine ARun.pure (PureOp.assign rfl (.tmp rfl)) rfl rfl (Nat.le_of_ble_eq_true rfl) ?_
    refine ARun.nil ?_
    exact AW.ret (show ∃ s t, ResL _ _ [.tmp 2] s ∧ TvS _ (ofLeaf t) 0 s _ from ⟨_, fun a b => if a = 0 then 0 else 1000, .inl ⟨_, rfl, .tmp rfl⟩, (Tv.flat rfl rfl rfl (Nat.le_refl _) (by rfl) (fun i j hi hj => if_pos hi) (fun i j hi hj => match j, hj with | 0, _ => rfl | 1, _ => rfl | _ + 2, h => absurd h (by omega)))⟩)

theorem v_toStringS (x : List ByteArray) (hw : Small (wtl ByteArray.size x)) : FnT Try.prog 32 [.one (.lst 1 x.length (fun i0 _ => .str (x.getD i0 ByteArray.empty)))] (.one (.lst 1 x.length (fun i0 _ => .str (x.getD i0 ByteArray.empty)))) := by
  unfold Small at hw
  replace hw : x.length + (x.map ByteArray.size).sum ≤ 1048576 := hw
  have hlen : x.length ≤ 1048576 := by omega
  refine FnT.of_body (fn := Try.f32) Try.func32 rfl (Nat.le_of_ble_eq_true rfl)  ?_
  intro w0
  show AW _ 22 _ _ _ _
  refine AW.seq ?_
  refine AW.region ?_
  refine ARun.pure (PureOp.assign rfl .con) rfl rfl (Nat.le_of_ble_eq_true rfl) ?_
  refine ARun.nil ?_
  refine AW.seq ?_
  refine AW.region ?_
  refine ARun.pure (PureOp.move rfl (.tmp rfl)) rfl rfl (Nat.le_of_ble_eq_true rfl) ?_
  refine ARun.pure (PureOp.lenLst rfl (.tmp rfl) vp_sl_54) rfl rfl (Nat.le_of_ble_eq_true rfl) ?_
  refine ARun.make (id := 0) (n := x.length) (l := [.str ByteArray.empty]) (z := (.string ByteArray.empty)) (by_ := 16) rfl (by kernel_rfl) (fun _ _ _ => ⟨_, _, rfl, ⟨rfl, by decide⟩, rfl⟩) (.tmp rfl) (.tmp rfl) rfl rfl (by omega) (by omega) (by decide) ⟨rfl, (by repeat first | exact trivial | refine ⟨by decide, by first | rfl | exact trivial | (intro i j; first | rfl | exact getD_no rfl | (dsimp only; split <;> first | rfl | exact getD_no rfl)), ?_⟩)⟩ rfl rfl rfl (Nat.le_of_ble_eq_true rfl) ?_
  refine ARun.pure (PureOp.assign rfl (.tmp rfl)) rfl rfl (Nat.le_of_ble_eq_true rfl) ?_
  refine ARun.nil ?_
  refine AW.seq ?_
  refine AW.seq ?_
  refine AW.region ?_
  refine ARun.pure (PureOp.assign rfl .int) rfl rfl (Nat.le_of_ble_eq_true rfl) ?_
  refine ARun.nil ?_
  refine AW.block ?_
  refine AW.loop (ι := Nat) (fun k => ⟨[(0, .one (.lst 1 x.length (fun i0 _ => .str (x.getD i0 ByteArray.empty)))), (3, .one (.own 0 1 x.length)), (4, .one (.int .i64 (k : Int)))], [(0, .arr 1 x.length (fun a b => if a < k then ceString (x.getD a (ByteArray.empty : ByteArray)) b else ([.str ByteArray.empty] : List AV).getD b (.con undef)))]⟩) (fun k => k ≤ x.length) (fun k => x.length - k) 0 (Nat.zero_le _) ⟨⟨⟨_, rfl, rfl⟩, ⟨_, rfl, rfl⟩, ⟨_, rfl, rfl⟩, trivial⟩, ⟨⟨_, rfl, rfl, Nat.le_refl _, fun a b _ _ => by simp [AObj.f]⟩, trivial⟩⟩ ?_
  intro k hk
  refine AW.seq ?_
  refine AW.seq ?_
  refine AW.region ?_
  refine ARun.pure (PureOp.move rfl (.tmp rfl)) rfl rfl (Nat.le_of_ble_eq_true rfl) ?_
  refine ARun.pure (PureOp.move rfl (.tmp rfl)) rfl rfl (Nat.le_of_ble_eq_true rfl) ?_
  refine ARun.pure (PureOp.lenLst rfl (.tmp rfl) vp_sl_54) rfl rfl (Nat.le_of_ble_eq_true rfl) ?_
  refine ARun.pure (PureOp.intOp rfl (.tmp rfl) (.tmp rfl) rfl) rfl rfl (Nat.le_of_ble_eq_true rfl) ?_
  refine ARun.nil ?_
  refine AW.cond (.tmp rfl) (fun hb1 => ?_) (fun hb1 => ?_)
  · have _u := True.intro
    replace hb1 := of_decide_eq_true hb1
    have hlt : k < x.length := by omega
    have hwk := wt_at (f := ByteArray.size) (ByteArray.empty : ByteArray) hlt
    refine AW.skip ?_
    refine AW.seq ?_
    refine AW.block ?_
    refine AW.region ?_
    refine ARun.pure (PureOp.move rfl (.tmp rfl)) rfl rfl (Nat.le_of_ble_eq_true rfl) ?_
    refine ARun.pure (PureOp.move rfl (.tmp rfl)) rfl rfl (Nat.le_of_ble_eq_true rfl) ?_
    refine ARun.pure (PureOp.move rfl (.tmp rfl)) rfl rfl (Nat.le_of_ble_eq_true rfl) ?_
    refine ARun.pure (PureOp.move rfl (.tmp rfl)) rfl rfl (Nat.le_of_ble_eq_true rfl) ?_
    refine ARun.pure (PureOp.indexLst (i := k) rfl (.tmp rfl) vp_el_54_1 (.tmp rfl) rfl (by omega)) rfl rfl (Nat.le_of_ble_eq_true rfl) ?_
    refine ARun.pure (PureOp.loadRef rfl (.tmp rfl) vp_pl_9 (Nat.le_of_ble_eq_true rfl)) rfl rfl (Nat.le_of_ble_eq_true rfl) ?_
    refine ARun.pure (PureOp.indexOwn (i := k) rfl (.tmp rfl) vp_el_54_1 (.tmp rfl) rfl (by omega)) rfl rfl (Nat.le_of_ble_eq_true rfl) ?_
    refine ARun.storeElem rfl (.tmp rfl) (.tmp rfl) trivial rfl (by omega) rfl vp_sz_9_1 rfl rfl ?_
    refine ARun.nil ?_
    refine AW.region ?_
    refine ARun.pure (PureOp.move rfl (.tmp rfl)) rfl rfl (Nat.le_of_ble_eq_true rfl) ?_
    refine ARun.pure (PureOp.add (c := ((k + 1 : Nat) : Int)) rfl (.tmp rfl) .int (by rw [wrap_id (by omega) (by omega)]; omega)) rfl rfl (Nat.le_of_ble_eq_true rfl) ?_
    refine ARun.pure (PureOp.assign rfl (.tmp rfl)) rfl rfl (Nat.le_of_ble_eq_true rfl) ?_
    refine ARun.nil ?_
    exact ⟨k + 1, by omega, by dsimp only; omega, ⟨⟨⟨_, rfl, rfl⟩, ⟨_, rfl, rfl⟩, ⟨_, rfl, rfl⟩, trivial⟩, ⟨⟨_, rfl, rfl, Nat.le_refl _, fun a b _ hb => fill_next (sz := 1) (k := k) (g := fun a b => ceString (x.getD a (ByteArray.empty : ByteArray)) b) (z := fun b => ([.str ByteArray.empty] : List AV).getD b (.con undef)) (c := fun b => ([.str (x.getD k ByteArray.empty)] : List AV).getD b (.con undef)) (fun b hb => match b, hb with | 0, _ => rfl | _ + 1, h => absurd h (by omega)) a b hb⟩, trivial⟩⟩⟩
  · have _u := True.intro
    replace hb1 := of_decide_eq_false hb1
    have hlt : ¬ k < x.length := by omega
    obtain rfl : k = x.length := by omega
    refine AW.exit ?_
    refine AW.seq ?_
    refine AW.region ?_
    refine ARun.pure (PureOp.move rfl (.tmp rfl)) rfl rfl (Nat.le_of_ble_eq_true rfl) ?_
    refine ARun.pure (PureOp.assign rfl (.tmp rfl)) rfl rfl (Nat.le_of_ble_eq_true rfl) ?_
    refine ARun.nil ?_
    exact AW.ret (show ∃ s t, ResL _ _ [.tmp 2] s ∧ TvS _ (ofLeaf t) 0 s _ from ⟨_, fun a b => if a = 0 then 0 else 1000, .inl ⟨_, rfl, .tmp rfl⟩, (Tv.flat rfl rfl rfl (Nat.le_refl _) (by rfl) (fun i j hi hj => if_pos hi) (fun i j hi hj => match j, hj with | 0, _ => rfl | _ + 1, h => absurd h (by omega)))⟩)

theorem v_toEntry (x : GEntry) (hw : Small (wtEntry x)) : FnF Try.prog 96 [.agg [.int .i64 x.epoch, .str x.text]] (.agg [.int .i64 x.epoch, .str x.text]) := by
  unfold Small wtEntry at hw
  refine FnF.of_body (fn := Try.f96) Try.func96 rfl (Nat.le_of_ble_eq_true rfl)  ?_
  intro w0
  show AW _ 11 _ _ _ _
  refine AW.seq ?_
  refine AW.region ?_
  refine ARun.box (id := 0) rfl (.tmp rfl) (SV.cells_of (by exact ⟨trivial, trivial, trivial⟩)) ⟨rfl, (by repeat first | exact trivial | refine ⟨by decide, by first | rfl | exact trivial | (intro i j; first | rfl | exact getD_no rfl | (dsimp only; split <;> first | rfl | exact getD_no rfl)), ?_⟩)⟩ rfl rfl rfl (Nat.le_of_ble_eq_true rfl) ?_
  refine ARun.alloc (id := 1) (l := [.int .i64 0, .str ByteArray.empty]) (z := (.agg #[.int .i64 0, .string ByteArray.empty])) rfl (by kernel_rfl) (fun _ _ _ => ⟨_, _, rfl, rfl, ⟨_, _, rfl, ⟨rfl, by decide⟩, rfl⟩⟩) ⟨rfl, (by repeat first | exact trivial | refine ⟨by decide, by first | rfl | exact trivial | (intro i j; first | rfl | exact getD_no rfl | (dsimp only; split <;> first | rfl | exact getD_no rfl)), ?_⟩)⟩ rfl rfl rfl (Nat.le_of_ble_eq_true rfl) ?_
  refine ARun.nil ?_
  refine AW.seq ?_
  refine AW.region ?_
  refine ARun.alloc (id := 2) (l := [.int .i64 0, .str ByteArray.empty]) (z := (.agg #[.int .i64 0, .string ByteArray.empty])) rfl (by kernel_rfl) (fun _ _ _ => ⟨_, _, rfl, rfl, ⟨_, _, rfl, ⟨rfl, by decide⟩, rfl⟩⟩) ⟨rfl, (by repeat first | exact trivial | refine ⟨by decide, by first | rfl | exact trivial | (intro i j; first | rfl | exact getD_no rfl | (dsimp only; split <;> first | rfl | exact getD_no rfl)), ?_⟩)⟩ rfl rfl rfl (Nat.le_of_ble_eq_true rfl) ?_
  refine ARun.nil ?_
  refine AW.seq ?_
  refine AW.region ?_
  refine ARun.pure (PureOp.fieldPtr rfl (.tmp rfl) vp_fi_122_0_0) rfl rfl (Nat.le_of_ble_eq_true rfl) ?_
  refine ARun.pure (PureOp.loadPtr rfl (.tmp rfl) vp_pl_3 rfl rfl (Nat.le_of_ble_eq_true rfl) (Nat.le_of_ble_eq_true rfl)) rfl rfl (Nat.le_of_ble_eq_true rfl) ?_
  refine ARun.pure (PureOp.fieldPtr rfl (.tmp rfl) vp_fi_120_0_0) rfl rfl (Nat.le_of_ble_eq_true rfl) ?_
  refine ARun.store rfl (.tmp rfl) (.tmp rfl) trivial rfl (Nat.le_of_ble_eq_true rfl) vp_sz_3_1 rfl rfl ?_
  refine ARun.nil ?_
  refine AW.seq ?_
  refine AW.region ?_
  refine ARun.pure (PureOp.fieldPtr rfl (.tmp rfl) vp_fi_122_1_1) rfl rfl (Nat.le_of_ble_eq_true rfl) ?_
  refine ARun.pure (PureOp.loadPtr rfl (.tmp rfl) vp_pl_9 rfl rfl (Nat.le_of_ble_eq_true rfl) (Nat.le_of_ble_eq_true rfl)) rfl rfl (Nat.le_of_ble_eq_true rfl) ?_
  refine ARun.pure (PureOp.fieldPtr rfl (.tmp rfl) vp_fi_120_1_1) rfl rfl (Nat.le_of_ble_eq_true rfl) ?_
  refine ARun.store rfl (.tmp rfl) (.tmp rfl) trivial rfl (Nat.le_of_ble_eq_true rfl) vp_sz_9_1 rfl rfl ?_
  refine ARun.nil ?_
  refine AW.seq ?_
  refine AW.region ?_
  refine ARun.pure (PureOp.loadPtrAgg rfl (.tmp rfl) vp_ag_120_2 rfl rfl (Nat.le_of_ble_eq_true rfl) (Nat.le_of_ble_eq_true rfl)) rfl rfl (Nat.le_of_ble_eq_true rfl) ?_
  refine ARun.store rfl (.tmp rfl) (.tmp rfl) (SV.cells_of (by exact ⟨trivial, trivial, trivial⟩)) rfl (Nat.le_of_ble_eq_true rfl) vp_sz_120_2 rfl rfl ?_
  refine ARun.nil ?_
  exact AW.ret (show ∃ s, ResL _ _ [.cell 2 120] s ∧ FvS _ s _ from ⟨_, .inl ⟨_, rfl, .cells rfl vp_ag_120_2 rfl rfl (Nat.le_of_ble_eq_true rfl) (Nat.le_of_ble_eq_true rfl)⟩, ⟨.int, .str, trivial⟩⟩)

theorem v_toEntryS (x : List GEntry) (hw : Small (wtl wtEntry x)) : FnT Try.prog 70 [.one (.lst 2 x.length (fun i0 j0 => ([.int .i64 ((x.getD i0 (default : GEntry)).epoch), .str ((x.getD i0 (default : GEntry)).text)] : List AV).getD j0 (.con undef)))] (.one (.lst 2 x.length (fun i0 j0 => ([.int .i64 ((x.getD i0 (default : GEntry)).epoch), .str ((x.getD i0 (default : GEntry)).text)] : List AV).getD j0 (.con undef)))) := by
  unfold Small at hw
  replace hw : x.length + (x.map wtEntry).sum ≤ 1048576 := hw
  have hlen : x.length ≤ 1048576 := by omega
  refine FnT.of_body (fn := Try.f70) Try.func70 rfl (Nat.le_of_ble_eq_true rfl)  ?_
  intro w0
  show AW _ 23 _ _ _ _
  refine AW.seq ?_
  refine AW.region ?_
  refine ARun.pure (PureOp.assign rfl .con) rfl rfl (Nat.le_of_ble_eq_true rfl) ?_
  refine ARun.nil ?_
  refine AW.seq ?_
  refine AW.region ?_
  refine ARun.pure (PureOp.move rfl (.tmp rfl)) rfl rfl (Nat.le_of_ble_eq_true rfl) ?_
  refine ARun.pure (PureOp.lenLst rfl (.tmp rfl) vp_sl_34) rfl rfl (Nat.le_of_ble_eq_true rfl) ?_
  refine ARun.make (id := 0) (n := x.length) (l := [.int .i64 0, .str ByteArray.empty]) (z := (.agg #[.int .i64 0, .string ByteArray.empty])) (by_ := 24) rfl (by kernel_rfl) (fun _ _ _ => ⟨_, _, rfl, rfl, ⟨_, _, rfl, ⟨rfl, by decide⟩, rfl⟩⟩) (.tmp rfl) (.tmp rfl) rfl rfl (by omega) (by omega) (by decide) ⟨rfl, (by repeat first | exact trivial | refine ⟨by decide, by first | rfl | exact trivial | (intro i j; first | rfl | exact getD_no rfl | (dsimp only; split <;> first | rfl | exact getD_no rfl)), ?_⟩)⟩ rfl rfl rfl (Nat.le_of_ble_eq_true rfl) ?_
  refine ARun.pure (PureOp.assign rfl (.tmp rfl)) rfl rfl (Nat.le_of_ble_eq_true rfl) ?_
  refine ARun.nil ?_
  refine AW.seq ?_
  refine AW.seq ?_
  refine AW.region ?_
  refine ARun.pure (PureOp.assign rfl .int) rfl rfl (Nat.le_of_ble_eq_true rfl) ?_
  refine ARun.nil ?_
  refine AW.block ?_
  refine AW.loop (ι := Nat) (fun k => ⟨[(0, .one (.lst 2 x.length (fun i0 j0 => ([.int .i64 ((x.getD i0 (default : GEntry)).epoch), .str ((x.getD i0 (default : GEntry)).text)] : List AV).getD j0 (.con undef)))), (3, .one (.own 0 2 x.length)), (4, .one (.int .i64 (k : Int)))], [(0, .arr 2 x.length (fun a b => if a < k then ceEntry (x.getD a (default : GEntry)) b else ([.int .i64 0, .str ByteArray.empty] : List AV).getD b (.con undef)))]⟩) (fun k => k ≤ x.length) (fun k => x.length - k) 0 (Nat.zero_le _) ⟨⟨⟨_, rfl, rfl⟩, ⟨_, rfl, rfl⟩, ⟨_, rfl, rfl⟩, trivial⟩, ⟨⟨_, rfl, rfl, Nat.le_refl _, fun a b _ _ => by simp [AObj.f]⟩, trivial⟩⟩ ?_
  intro k hk
  refine AW.seq ?_
  refine AW.seq ?_
  refine AW.region ?_
  refine ARun.pure (PureOp.move rfl (.tmp rfl)) rfl rfl (Nat.le_of_ble_eq_true rfl) ?_
  refine ARun.pure (PureOp.move rfl (.tmp rfl)) rfl rfl (Nat.le_of_ble_eq_true rfl) ?_
  refine ARun.pure (PureOp.lenLst rfl (.tmp rfl) vp_sl_34) rfl rfl (Nat.le_of_ble_eq_true rfl) ?_
  refine ARun.pure (PureOp.intOp rfl (.tmp rfl) (.tmp rfl) rfl) rfl rfl (Nat.le_of_ble_eq_true rfl) ?_
  refine ARun.nil ?_
  refine AW.cond (.tmp rfl) (fun hb1 => ?_) (fun hb1 => ?_)
  · have _u := True.intro
    replace hb1 := of_decide_eq_true hb1
    have hlt : k < x.length := by omega
    have hwk := wt_at (f := wtEntry) (default : GEntry) hlt
    refine AW.skip ?_
    refine AW.seq ?_
    refine AW.block ?_
    refine AW.region ?_
    refine ARun.pure (PureOp.move rfl (.tmp rfl)) rfl rfl (Nat.le_of_ble_eq_true rfl) ?_
    refine ARun.pure (PureOp.move rfl (.tmp rfl)) rfl rfl (Nat.le_of_ble_eq_true rfl) ?_
    refine ARun.pure (PureOp.move rfl (.tmp rfl)) rfl rfl (Nat.le_of_ble_eq_true rfl) ?_
    refine ARun.pure (PureOp.move rfl (.tmp rfl)) rfl rfl (Nat.le_of_ble_eq_true rfl) ?_
    refine ARun.pure (PureOp.indexLst (i := k) rfl (.tmp rfl) vp_el_34_2 (.tmp rfl) rfl (by omega)) rfl rfl (Nat.le_of_ble_eq_true rfl) ?_
    refine ARun.pure (PureOp.loadRefAgg rfl (.tmp rfl) vp_ag_122_2 (Nat.le_of_ble_eq_true rfl)) rfl rfl (Nat.le_of_ble_eq_true rfl) ?_
    refine ARun.fresh (FreshOp.callS rfl (v_toEntry (x.getD k (default : GEntry)) (Small.mk (by omega))) ⟨⟨_, (.tmp rfl), ⟨.int, .str, trivial⟩⟩, trivial⟩ vp_ca_96 rfl) rfl rfl (Nat.le_of_ble_eq_true rfl) ?_
    refine ARun.pure (PureOp.indexOwn (i := k) rfl (.tmp rfl) vp_el_25_2 (.tmp rfl) rfl (by omega)) rfl rfl (Nat.le_of_ble_eq_true rfl) ?_
    refine ARun.storeElem rfl (.tmp rfl) (.tmp rfl) (SV.cells_of (by exact ⟨trivial, trivial, trivial⟩)) rfl (by omega) rfl vp_sz_120_2 rfl rfl ?_
    refine ARun.nil ?_
    refine AW.region ?_
    refine ARun.pure (PureOp.move rfl (.tmp rfl)) rfl rfl (Nat.le_of_ble_eq_true rfl) ?_
    refine ARun.pure (PureOp.add (c := ((k + 1 : Nat) : Int)) rfl (.tmp rfl) .int (by rw [wrap_id (by omega) (by omega)]; omega)) rfl rfl (Nat.le_of_ble_eq_true rfl) ?_
    refine ARun.pure (PureOp.assign rfl (.tmp rfl)) rfl rfl (Nat.le_of_ble_eq_true rfl) ?_
    refine ARun.nil ?_
    exact ⟨k + 1, by omega, by dsimp only; omega, ⟨⟨⟨_, rfl, rfl⟩, ⟨_, rfl, rfl⟩, ⟨_, rfl, rfl⟩, trivial⟩, ⟨⟨_, rfl, rfl, Nat.le_refl _, fun a b _ hb => fill_next (sz := 2) (k := k) (g := fun a b => ceEntry (x.getD a (default : GEntry)) b) (z := fun b => ([.int .i64 0, .str ByteArray.empty] : List AV).getD b (.con undef)) (c := fun b => ([.int .i64 ((x.getD k (default : GEntry)).epoch), .str ((x.getD k (default : GEntry)).text)] : List AV).getD b (.con undef)) (fun b hb => match b, hb with | 0, _ => rfl | 1, _ => rfl | _ + 2, h => absurd h (by omega)) a b hb⟩, trivial⟩⟩⟩
  · have _u := True.intro
    replace hb1 := of_decide_eq_false hb1
    have hlt : ¬ k < x.length := by omega
    obtain rfl : k = x.length := by omega
    refine AW.exit ?_
    refine AW.seq ?_
    refine AW.region ?_
    refine ARun.pure (PureOp.move rfl (.tmp rfl)) rfl rfl (Nat.le_of_ble_eq_true rfl) ?_
    refine ARun.pure (PureOp.assign rfl (.tmp rfl)) rfl rfl (Nat.le_of_ble_eq_true rfl) ?_
    refine ARun.nil ?_
    exact AW.ret (show ∃ s t, ResL _ _ [.tmp 2] s ∧ TvS _ (ofLeaf t) 0 s _ from ⟨_, fun a b => if a = 0 then 0 else 1000, .inl ⟨_, rfl, .tmp rfl⟩, (Tv.flat rfl rfl rfl (Nat.le_refl _) (by rfl) (fun i j hi hj => if_pos hi) (fun i j hi hj => match j, hj with | 0, _ => rfl | 1, _ => rfl | _ + 2, h => absurd h (by omega)))⟩)

theorem v_toEntrySS (x : List (List GEntry)) (hw : Small (wtl (wtl wtEntry) x)) : FnT Try.prog 67 [.one (.lst 1 x.length (fun i0 _ => .lst 2 ((x.getD i0 []).length) (fun i1 j1 => ([.int .i64 (((x.getD i0 []).getD i1 (default : GEntry)).epoch), .str (((x.getD i0 []).getD i1 (default : GEntry)).text)] : List AV).getD j1 (.con undef))))] (.one (.lst 1 x.length (fun i0 _ => .lst 2 ((x.getD i0 []).length) (fun i1 j1 => ([.int .i64 (((x.getD i0 []).getD i1 (default : GEntry)).epoch), .str (((x.getD i0 []).getD i1 (default : GEntry)).text)] : List AV).getD j1 (.con undef))))) := by
  unfold Small at hw
  replace hw : x.length + (x.map (wtl wtEntry)).sum ≤ 1048576 := hw
  have hlen : x.length ≤ 1048576 := by omega
  refine FnT.of_body (fn := Try.f67) Try.func67 rfl (Nat.le_of_ble_eq_true rfl)  ?_
  intro w0
  show AW _ 23 _ _ _ _
  refine AW.fam (id := 0) (famX 1 (fun i j => ceEntryS (x.getD i ([] : List GEntry)) j)) ⟨rfl, (by exact trivial)⟩ ?_
  refine AW.seq ?_
  refine AW.region ?_
  refine ARun.pure (PureOp.assign rfl .con) rfl rfl (Nat.le_of_ble_eq_true rfl) ?_
  refine ARun.nil ?_
  refine AW.seq ?_
  refine AW.region ?_
  refine ARun.pure (PureOp.move rfl (.tmp rfl)) rfl rfl (Nat.le_of_ble_eq_true rfl) ?_
  refine ARun.pure (PureOp.lenLst rfl (.tmp rfl) vp_sl_33) rfl rfl (Nat.le_of_ble_eq_true rfl) ?_
  refine ARun.make (id := 1) (n := x.length) (l := [.con (.slice none 0 0)]) (z := (.slice none 0 0)) (by_ := 24) rfl (by kernel_rfl) (fun _ _ _ => ⟨_, _, rfl, rfl, rfl⟩) (.tmp rfl) (.tmp rfl) rfl rfl (by omega) (by omega) (by decide) ⟨rfl, (by repeat first | exact trivial | refine ⟨by decide, by first | rfl | exact trivial | (intro i j; first | rfl | exact getD_no rfl | (dsimp only; split <;> first | rfl | exact getD_no rfl)), ?_⟩)⟩ rfl rfl rfl (Nat.le_of_ble_eq_true rfl) ?_
  refine ARun.pure (PureOp.assign rfl (.tmp rfl)) rfl rfl (Nat.le_of_ble_eq_true rfl) ?_
  refine ARun.nil ?_
  refine AW.seq ?_
  refine AW.seq ?_
  refine AW.region ?_
  refine ARun.pure (PureOp.assign rfl .int) rfl rfl (Nat.le_of_ble_eq_true rfl) ?_
  refine ARun.nil ?_
  refine AW.block ?_
  refine AW.loop (ι := Nat) (fun k => ⟨[(0, .one (.lst 1 x.length (fun i0 _ => .lst 2 ((x.getD i0 []).length) (fun i1 j1 => ([.int .i64 (((x.getD i0 []).getD i1 (default : GEntry)).epoch), .str (((x.getD i0 []).getD i1 (default : GEntry)).text)] : List AV).getD j1 (.con undef))))), (3, .one (.own 1 1 x.length)), (4, .one (.int .i64 (k : Int)))], [(0, .trees (k * 1) (famX 1 (fun i j => ceEntryS (x.getD i ([] : List GEntry)) j))), (1, .arr 1 x.length (fun a b => if a < k then nmA 0 (a * 1 + b) (ceEntryS (x.getD a ([] : List GEntry)) b) else ([.con (.slice none 0 0)] : List AV).getD b (.con undef)))]⟩) (fun k => k ≤ x.length) (fun k => x.length - k) 0 (Nat.zero_le _) ⟨⟨⟨_, rfl, rfl⟩, ⟨_, rfl, rfl⟩, ⟨_, rfl, rfl⟩, trivial⟩, ⟨⟨_, rfl, fun _ _ => rfl⟩, ⟨_, rfl, rfl, Nat.le_refl _, fun a b _ _ => by simp [AObj.f]⟩, trivial⟩⟩ ?_
  intro k hk
  refine AW.seq ?_
  refine AW.seq ?_
  refine AW.region ?_
  refine ARun.pure (PureOp.move rfl (.tmp rfl)) rfl rfl (Nat.le_of_ble_eq_true rfl) ?_
  refine ARun.pure (PureOp.move rfl (.tmp rfl)) rfl rfl (Nat.le_of_ble_eq_true rfl) ?_
  refine ARun.pure (PureOp.lenLst rfl (.tmp rfl) vp_sl_33) rfl rfl (Nat.le_of_ble_eq_true rfl) ?_
  refine ARun.pure (PureOp.intOp rfl (.tmp rfl) (.tmp rfl) rfl) rfl rfl (Nat.le_of_ble_eq_true rfl) ?_
  refine ARun.nil ?_
  refine AW.cond (.tmp rfl) (fun hb1 => ?_) (fun hb1 => ?_)
  · have _u := True.intro
    replace hb1 := of_decide_eq_true hb1
    have hlt : k < x.length := by omega
    have hwk := wt_at (f := (wtl wtEntry)) ([] : List GEntry) hlt
    refine AW.skip ?_
    refine AW.seq ?_
    refine AW.block ?_
    refine AW.region ?_
    refine ARun.pure (PureOp.move rfl (.tmp rfl)) rfl rfl (Nat.le_of_ble_eq_true rfl) ?_
    refine ARun.pure (PureOp.move rfl (.tmp rfl)) rfl rfl (Nat.le_of_ble_eq_true rfl) ?_
    refine ARun.pure (PureOp.move rfl (.tmp rfl)) rfl rfl (Nat.le_of_ble_eq_true rfl) ?_
    refine ARun.pure (PureOp.move rfl (.tmp rfl)) rfl rfl (Nat.le_of_ble_eq_true rfl) ?_
    refine ARun.pure (PureOp.indexLst (i := k) rfl (.tmp rfl) vp_el_33_1 (.tmp rfl) rfl (by omega)) rfl rfl (Nat.le_of_ble_eq_true rfl) ?_
    refine ARun.pure (PureOp.loadRef rfl (.tmp rfl) vp_pl_34 (Nat.le_of_ble_eq_true rfl)) rfl rfl (Nat.le_of_ble_eq_true rfl) ?_
    refine ARun.prodTo (K := 0) (n := k * 1) (X := famX 1 (fun i j => ceEntryS (x.getD i ([] : List GEntry)) j)) (X' := famX 1 (fun i j => ceEntryS (x.getD i ([] : List GEntry)) j)) (m := (k + 1) * 1) rfl (v_toEntryS (x.getD k []) (Small.mk (by omega))) ⟨⟨_, (.tmp rfl), .lst⟩, trivial⟩ vp_ca_70 rfl rfl (fun _ _ => rfl) (fun p hp => (famX_at (show p < 1 from hp)).trans (match p, hp with | 0, _ => rfl | _ + 1, h => absurd h (by simp [SV.leaves]))) rfl (Nat.succ_mul k 1).symm rfl rfl (Nat.le_of_ble_eq_true rfl) ?_
    refine ARun.pure (PureOp.indexOwn (i := k) rfl (.tmp rfl) vp_el_22_1 (.tmp rfl) rfl (by omega)) rfl rfl (Nat.le_of_ble_eq_true rfl) ?_
    refine ARun.storeElem rfl (.tmp rfl) (.tmp rfl) trivial rfl (by omega) rfl vp_sz_25_1 rfl rfl ?_
    refine ARun.nil ?_
    refine AW.region ?_
    refine ARun.pure (PureOp.move rfl (.tmp rfl)) rfl rfl (Nat.le_of_ble_eq_true rfl) ?_
    refine ARun.pure (PureOp.add (c := ((k + 1 : Nat) : Int)) rfl (.tmp rfl) .int (by rw [wrap_id (by omega) (by omega)]; omega)) rfl rfl (Nat.le_of_ble_eq_true rfl) ?_
    refine ARun.pure (PureOp.assign rfl (.tmp rfl)) rfl rfl (Nat.le_of_ble_eq_true rfl) ?_
    refine ARun.nil ?_
    exact ⟨k + 1, by omega, by dsimp only; omega, ⟨⟨⟨_, rfl, rfl⟩, ⟨_, rfl, rfl⟩, ⟨_, rfl, rfl⟩, trivial⟩, ⟨⟨_, rfl, fun _ _ => rfl⟩, ⟨_, rfl, rfl, Nat.le_refl _, fun a b _ hb => fill_next (sz := 1) (k := k) (g := fun a b => nmA 0 (a * 1 + b) (ceEntryS (x.getD a ([] : List GEntry)) b)) (z := fun b => ([.con (.slice none 0 0)] : List AV).getD b (.con undef)) (c := fun b => ([.tre 0 (k * 1 + 0)] : List AV).getD b (.con undef)) (fun b hb => match b, hb with | 0, _ => rfl | _ + 1, h => absurd h (by omega)) a b hb⟩, trivial⟩⟩⟩
  · have _u := True.intro
    replace hb1 := of_decide_eq_false hb1
    have hlt : ¬ k < x.length := by omega
    obtain rfl : k = x.length := by omega
    refine AW.exit ?_
    refine AW.seq ?_
    refine AW.region ?_
    refine ARun.pure (PureOp.move rfl (.tmp rfl)) rfl rfl (Nat.le_of_ble_eq_true rfl) ?_
    refine ARun.pure (PureOp.assign rfl (.tmp rfl)) rfl rfl (Nat.le_of_ble_eq_true rfl) ?_
    refine ARun.nil ?_
    exact AW.ret (show ∃ s t, ResL _ _ [.tmp 2] s ∧ TvS _ (ofLeaf t) 0 s _ from ⟨_, fun a b => if a = 1 then 0 else if a = 0 then 0 else 1000, .inl ⟨_, rfl, .tmp rfl⟩, (Tv.rowN (K := 0) rfl rfl rfl (Nat.le_refl _) (by rfl) (fun i j hi hj => if_pos hi) rfl (by decide) (fun _ => by rfl) (fun i j hi hj => match j, hj with | 0, _ => rfl | _ + 1, h => absurd h (by omega)))⟩)

theorem v_toBoolS (x : List Bool) (hw : Small (x.length)) : FnT Try.prog 68 [.one (.lst 1 x.length (fun i0 _ => .bool (x.getD i0 false)))] (.one (.lst 1 x.length (fun i0 _ => .bool (x.getD i0 false)))) := by
  unfold Small at hw
  have hlen : x.length ≤ 1048576 := by omega
  refine FnT.of_body (fn := Try.f68) Try.func68 rfl (Nat.le_of_ble_eq_true rfl)  ?_
  intro w0
  show AW _ 22 _ _ _ _
  refine AW.seq ?_
  refine AW.region ?_
  refine ARun.pure (PureOp.assign rfl .con) rfl rfl (Nat.le_of_ble_eq_true rfl) ?_
  refine ARun.nil ?_
  refine AW.seq ?_
  refine AW.region ?_
  refine ARun.pure (PureOp.move rfl (.tmp rfl)) rfl rfl (Nat.le_of_ble_eq_true rfl) ?_
  refine ARun.pure (PureOp.lenLst rfl (.tmp rfl) vp_sl_23) rfl rfl (Nat.le_of_ble_eq_true rfl) ?_
  refine ARun.make (id := 0) (n := x.length) (l := [.bool false]) (z := (.bool false)) (by_ := 1) rfl (by kernel_rfl) (fun _ _ _ => ⟨_, _, rfl, rfl, rfl⟩) (.tmp rfl) (.tmp rfl) rfl rfl (by omega) (by omega) (by decide) ⟨rfl, (by repeat first | exact trivial | refine ⟨by decide, by first | rfl | exact trivial | (intro i j; first | rfl | exact getD_no rfl | (dsimp only; split <;> first | rfl | exact getD_no rfl)), ?_⟩)⟩ rfl rfl rfl (Nat.le_of_ble_eq_true rfl) ?_
  refine ARun.pure (PureOp.assign rfl (.tmp rfl)) rfl rfl (Nat.le_of_ble_eq_true rfl) ?_
  refine ARun.nil ?_
  refine AW.seq ?_
  refine AW.seq ?_
  refine AW.region ?_
  refine ARun.pure (PureOp.assign rfl .int) rfl rfl (Nat.le_of_ble_eq_true rfl) ?_
  refine ARun.nil ?_
  refine AW.block ?_
  refine AW.loop (ι := Nat) (fun k => ⟨[(0, .one (.lst 1 x.length (fun i0 _ => .bool (x.getD i0 false)))), (3, .one (.own 0 1 x.length)), (4, .one (.int .i64 (k : Int)))], [(0, .arr 1 x.length (fun a b => if a < k then ceBool (x.getD a (false : Bool)) b else ([.bool false] : List AV).getD b (.con undef)))]⟩) (fun k => k ≤ x.length) (fun k => x.length - k) 0 (Nat.zero_le _) ⟨⟨⟨_, rfl, rfl⟩, ⟨_, rfl, rfl⟩, ⟨_, rfl, rfl⟩, trivial⟩, ⟨⟨_, rfl, rfl, Nat.le_refl _, fun a b _ _ => by simp [AObj.f]⟩, trivial⟩⟩ ?_
  intro k hk
  refine AW.seq ?_
  refine AW.seq ?_
  refine AW.region ?_
  refine ARun.pure (PureOp.move rfl (.tmp rfl)) rfl rfl (Nat.le_of_ble_eq_true rfl) ?_
  refine ARun.pure (PureOp.move rfl (.tmp rfl)) rfl rfl (Nat.le_of_ble_eq_true rfl) ?_
  refine ARun.pure (PureOp.lenLst rfl (.tmp rfl) vp_sl_23) rfl rfl (Nat.le_of_ble_eq_true rfl) ?_
  refine ARun.pure (PureOp.intOp rfl (.tmp rfl) (.tmp rfl) rfl) rfl rfl (Nat.le_of_ble_eq_true rfl) ?_
  refine ARun.nil ?_
  refine AW.cond (.tmp rfl) (fun hb1 => ?_) (fun hb1 => ?_)
  · have _u := True.intro
    replace hb1 := of_decide_eq_true hb1
    have hlt : k < x.length := by omega
    refine AW.skip ?_
    refine AW.seq ?_
    refine AW.block ?_
    refine AW.region ?_
    refine ARun.pure (PureOp.move rfl (.tmp rfl)) rfl rfl (Nat.le_of_ble_eq_true rfl) ?_
    refine ARun.pure (PureOp.move rfl (.tmp rfl)) rfl rfl (Nat.le_of_ble_eq_true rfl) ?_
    refine ARun.pure (PureOp.move rfl (.tmp rfl)) rfl rfl (Nat.le_of_ble_eq_true rfl) ?_
    refine ARun.pure (PureOp.move rfl (.tmp rfl)) rfl rfl (Nat.le_of_ble_eq_true rfl) ?_
    refine ARun.pure (PureOp.indexLst (i := k) rfl (.tmp rfl) vp_el_23_1 (.tmp rfl) rfl (by omega)) rfl rfl (Nat.le_of_ble_eq_true rfl) ?_
    refine ARun.pure (PureOp.loadRef rfl (.tmp rfl) vp_pl_4 (Nat.le_of_ble_eq_true rfl)) rfl rfl (Nat.le_of_ble_eq_true rfl) ?_
    refine ARun.pure (PureOp.indexOwn (i := k) rfl (.tmp rfl) vp_el_23_1 (.tmp rfl) rfl (by omega)) rfl rfl (Nat.le_of_ble_eq_true rfl) ?_
    refine ARun.storeElem rfl (.tmp rfl) (.tmp rfl) trivial rfl (by omega) rfl vp_sz_4_1 rfl rfl ?_
    refine ARun.nil ?_
    refine AW.region ?_
    refine ARun.pure (PureOp.move rfl (.tmp rfl)) rfl rfl (Nat.le_of_ble_eq_true rfl) ?_
    refine ARun.pure (PureOp.add (c := ((k + 1 : Nat) : Int)) rfl (.tmp rfl) .int (by rw [wrap_id (by omega) (by omega)]; omega)) rfl rfl (Nat.le_of_ble_eq_true rfl) ?_
    refine ARun.pure (PureOp.assign rfl (.tmp rfl)) rfl rfl (Nat.le_of_ble_eq_true rfl) ?_
    refine ARun.nil ?_
    exact ⟨k + 1, by omega, by dsimp only; omega, ⟨⟨⟨_, rfl, rfl⟩, ⟨_, rfl, rfl⟩, ⟨_, rfl, rfl⟩, trivial⟩, ⟨⟨_, rfl, rfl, Nat.le_refl _, fun a b _ hb => fill_next (sz := 1) (k := k) (g := fun a b => ceBool (x.getD a (false : Bool)) b) (z := fun b => ([.bool false] : List AV).getD b (.con undef)) (c := fun b => ([.bool (x.getD k false)] : List AV).getD b (.con undef)) (fun b hb => match b, hb with | 0, _ => rfl | _ + 1, h => absurd h (by omega)) a b hb⟩, trivial⟩⟩⟩
  · have _u := True.intro
    replace hb1 := of_decide_eq_false hb1
    have hlt : ¬ k < x.length := by omega
    obtain rfl : k = x.length := by omega
    refine AW.exit ?_
    refine AW.seq ?_
    refine AW.region ?_
    refine ARun.pure (PureOp.move rfl (.tmp rfl)) rfl rfl (Nat.le_of_ble_eq_true rfl) ?_
    refine ARun.pure (PureOp.assign rfl (.tmp rfl)) rfl rfl (Nat.le_of_ble_eq_true rfl) ?_
    refine ARun.nil ?_
    exact AW.ret (show ∃ s t, ResL _ _ [.tmp 2] s ∧ TvS _ (ofLeaf t) 0 s _ from ⟨_, fun a b => if a = 0 then 0 else 1000, .inl ⟨_, rfl, .tmp rfl⟩, (Tv.flat rfl rfl rfl (Nat.le_refl _) (by rfl) (fun i j hi hj => if_pos hi) (fun i j hi hj => match j, hj with | 0, _ => rfl | _ + 1, h => absurd h (by omega)))⟩)

theorem v_toIntS (x : List Int) (hw : Small (x.length)) : FnT Try.prog 69 [.one (.lst 1 x.length (fun i0 _ => .int .i64 (x.getD i0 0)))] (.one (.lst 1 x.length (fun i0 _ => .int .i64 (x.getD i0 0)))) := by
  unfold Small at hw
  have hlen : x.length ≤ 1048576 := by omega
  refine FnT.of_body (fn := Try.f69) Try.func69 rfl (Nat.le_of_ble_eq_true rfl)  ?_
  intro w0
  show AW _ 22 _ _ _ _
  refine AW.seq ?_
  refine AW.region ?_
  refine ARun.pure (PureOp.assign rfl .con) rfl rfl (Nat.le_of_ble_eq_true rfl) ?_
  refine ARun.nil ?_
  refine AW.seq ?_
  refine AW.region ?_
  refine ARun.pure (PureOp.move rfl (.tmp rfl)) rfl rfl (Nat.le_of_ble_eq_true rfl) ?_
  refine ARun.pure (PureOp.lenLst rfl (.tmp rfl) vp_sl_24) rfl rfl (Nat.le_of_ble_eq_true rfl) ?_
  refine ARun.make (id := 0) (n := x.length) (l := [.int .i64 0]) (z := (.int .i64 0)) (by_ := 8) rfl (by kernel_rfl) (fun _ _ _ => ⟨_, _, rfl, rfl, rfl⟩) (.tmp rfl) (.tmp rfl) rfl rfl (by omega) (by omega) (by decide) ⟨rfl, (by repeat first | exact trivial | refine ⟨by decide, by first | rfl | exact trivial | (intro i j; first | rfl | exact getD_no rfl | (dsimp only; split <;> first | rfl | exact getD_no rfl)), ?_⟩)⟩ rfl rfl rfl (Nat.le_of_ble_eq_true rfl) ?_
  refine ARun.pure (PureOp.assign rfl (.tmp rfl)) rfl rfl (Nat.le_of_ble_eq_true rfl) ?_
  refine ARun.nil ?_
  refine AW.seq ?_
  refine AW.seq ?_
  refine AW.region ?_
  refine ARun.pure (PureOp.assign rfl .int) rfl rfl (Nat.le_of_ble_eq_true rfl) ?_
  refine ARun.nil ?_
  refine AW.block ?_
  refine AW.loop (ι := Nat) (fun k => ⟨[(0, .one (.lst 1 x.length (fun i0 _ => .int .i64 (x.getD i0 0)))), (3, .one (.own 0 1 x.length)), (4, .one (.int .i64 (k : Int)))], [(0, .arr 1 x.length (fun a b => if a < k then ceInt (x.getD a (0 : Int)) b else ([.int .i64 0] : List AV).getD b (.con undef)))]⟩) (fun k => k ≤ x.length) (fun k => x.length - k) 0 (Nat.zero_le _) ⟨⟨⟨_, rfl, rfl⟩, ⟨_, rfl, rfl⟩, ⟨_, rfl, rfl⟩, trivial⟩, ⟨⟨_, rfl, rfl, Nat.le_refl _, fun a b _ _ => by simp [AObj.f]⟩, trivial⟩⟩ ?_
  intro k hk
  refine AW.seq ?_
  refine AW.seq ?_
  refine AW.region ?_
  refine ARun.pure (PureOp.move rfl (.tmp rfl)) rfl rfl (Nat.le_of_ble_eq_true rfl) ?_
  refine ARun.pure (PureOp.move rfl (.tmp rfl)) rfl rfl (Nat.le_of_ble_eq_true rfl) ?_
  refine ARun.pure (PureOp.lenLst rfl (.tmp rfl) vp_sl_24) rfl rfl (Nat.le_of_ble_eq_true rfl) ?_
  refine ARun.pure (PureOp.intOp rfl (.tmp rfl) (.tmp rfl) rfl) rfl rfl (Nat.le_of_ble_eq_true rfl) ?_
  refine ARun.nil ?_
  refine AW.cond (.tmp rfl) (fun hb1 => ?_) (fun hb1 => ?_)
  · have _u := True.intro
    replace hb1 := of_decide_eq_true hb1
    have hlt : k < x.length := by omega
    refine AW.skip ?_
    refine AW.seq ?_
    refine AW.block ?_
    refine AW.region ?_
    refine ARun.pure (PureOp.move rfl (.tmp rfl)) rfl rfl (Nat.le_of_ble_eq_true rfl) ?_
    refine ARun.pure (PureOp.move rfl (.tmp rfl)) rfl rfl (Nat.le_of_ble_eq_true rfl) ?_
    refine ARun.pure (PureOp.move rfl (.tmp rfl)) rfl rfl (Nat.le_of_ble_eq_true rfl) ?_
    refine ARun.pure (PureOp.move rfl (.tmp rfl)) rfl rfl (Nat.le_of_ble_eq_true rfl) ?_
    refine ARun.pure (PureOp.indexLst (i := k) rfl (.tmp rfl) vp_el_24_1 (.tmp rfl) rfl (by omega)) rfl rfl (Nat.le_of_ble_eq_true rfl) ?_
    refine ARun.pure (PureOp.loadRef rfl (.tmp rfl) vp_pl_3 (Nat.le_of_ble_eq_true rfl)) rfl rfl (Nat.le_of_ble_eq_true rfl) ?_
    refine ARun.pure (PureOp.indexOwn (i := k) rfl (.tmp rfl) vp_el_24_1 (.tmp rfl) rfl (by omega)) rfl rfl (Nat.le_of_ble_eq_true rfl) ?_
    refine ARun.storeElem rfl (.tmp rfl) (.tmp rfl) trivial rfl (by omega) rfl vp_sz_3_1 rfl rfl ?_
    refine ARun.nil ?_
    refine AW.region ?_
    refine ARun.pure (PureOp.move rfl (.tmp rfl)) rfl rfl (Nat.le_of_ble_eq_true rfl) ?_
    refine ARun.pure (PureOp.add (c := ((k + 1 : Nat) : Int)) rfl (.tmp rfl) .int (by rw [wrap_id (by omega) (by omega)]; omega)) rfl rfl (Nat.le_of_ble_eq_true rfl) ?_
    refine ARun.pure (PureOp.assign rfl (.tmp rfl)) rfl rfl (Nat.le_of_ble_eq_true rfl) ?_
    refine ARun.nil ?_
    exact ⟨k + 1, by omega, by dsimp only; omega, ⟨⟨⟨_, rfl, rfl⟩, ⟨_, rfl, rfl⟩, ⟨_, rfl, rfl⟩, trivial⟩, ⟨⟨_, rfl, rfl, Nat.le_refl _, fun a b _ hb => fill_next (sz := 1) (k := k) (g := fun a b => ceInt (x.getD a (0 : Int)) b) (z := fun b => ([.int .i64 0] : List AV).getD b (.con undef)) (c := fun b => ([.int .i64 (x.getD k 0)] : List AV).getD b (.con undef)) (fun b hb => match b, hb with | 0, _ => rfl | _ + 1, h => absurd h (by omega)) a b hb⟩, trivial⟩⟩⟩
  · have _u := True.intro
    replace hb1 := of_decide_eq_false hb1
    have hlt : ¬ k < x.length := by omega
    obtain rfl : k = x.length := by omega
    refine AW.exit ?_
    refine AW.seq ?_
    refine AW.region ?_
    refine ARun.pure (PureOp.move rfl (.tmp rfl)) rfl rfl (Nat.le_of_ble_eq_true rfl) ?_
    refine ARun.pure (PureOp.assign rfl (.tmp rfl)) rfl rfl (Nat.le_of_ble_eq_true rfl) ?_
    refine ARun.nil ?_
    exact AW.ret (show ∃ s t, ResL _ _ [.tmp 2] s ∧ TvS _ (ofLeaf t) 0 s _ from ⟨_, fun a b => if a = 0 then 0 else 1000, .inl ⟨_, rfl, .tmp rfl⟩, (Tv.flat rfl rfl rfl (Nat.le_refl _) (by rfl) (fun i j hi hj => if_pos hi) (fun i j hi hj => match j, hj with | 0, _ => rfl | _ + 1, h => absurd h (by omega)))⟩)

theorem v_toRepl (x : GRepl) (hw : Small (wtRepl x)) : FnT Try.prog 17 [.agg [.lst 1 x.logs.length (fun i0 _ => .lst 2 ((x.logs.getD i0 []).length) (fun i1 j1 => ([.int .i64 (((x.logs.getD i0 []).getD i1 (default : GEntry)).epoch), .str (((x.logs.getD i0 []).getD i1 (default : GEntry)).text)] : List AV).getD j1 (.con undef))), .lst 1 x.down.length (fun i0 _ => .bool (x.down.getD i0 false)), .int .i64 x.leader, .int .i64 x.epoch, .lst 1 x.inSync.length (fun i0 _ => .int .i64 (x.inSync.getD i0 0)), .lst 2 x.certain.length (fun i0 j0 => ([.int .i64 ((x.certain.getD i0 (default : GEntry)).epoch), .str ((x.certain.getD i0 (default : GEntry)).text)] : List AV).getD j0 (.con undef))]] (.agg [.lst 1 x.logs.length (fun i0 _ => .lst 2 ((x.logs.getD i0 []).length) (fun i1 j1 => ([.int .i64 (((x.logs.getD i0 []).getD i1 (default : GEntry)).epoch), .str (((x.logs.getD i0 []).getD i1 (default : GEntry)).text)] : List AV).getD j1 (.con undef))), .lst 1 x.down.length (fun i0 _ => .bool (x.down.getD i0 false)), .int .i64 x.leader, .int .i64 x.epoch, .lst 1 x.inSync.length (fun i0 _ => .int .i64 (x.inSync.getD i0 0)), .lst 2 x.certain.length (fun i0 j0 => ([.int .i64 ((x.certain.getD i0 (default : GEntry)).epoch), .str ((x.certain.getD i0 (default : GEntry)).text)] : List AV).getD j0 (.con undef))]) := by
  unfold Small wtRepl at hw
  refine FnT.of_body (fn := Try.f17) Try.func17 rfl (Nat.le_of_ble_eq_true rfl)  ?_
  intro w0
  show AW _ 27 _ _ _ _
  refine AW.seq ?_
  refine AW.region ?_
  refine ARun.box (id := 0) rfl (.tmp rfl) (SV.cells_of (by exact ⟨trivial, trivial, trivial, trivial, trivial, trivial, trivial⟩)) ⟨rfl, (by repeat first | exact trivial | refine ⟨by decide, by first | rfl | exact trivial | (intro i j; first | rfl | exact getD_no rfl | (dsimp only; split <;> first | rfl | exact getD_no rfl)), ?_⟩)⟩ rfl rfl rfl (Nat.le_of_ble_eq_true rfl) ?_
  refine ARun.alloc (id := 1) (l := [.con (.slice none 0 0), .con (.slice none 0 0), .int .i64 0, .int .i64 0, .con (.slice none 0 0), .con (.slice none 0 0)]) (z := (.agg #[.slice none 0 0, .slice none 0 0, .int .i64 0, .int .i64 0, .slice none 0 0, .slice none 0 0])) rfl (by kernel_rfl) (fun _ _ _ => ⟨_, _, rfl, rfl, ⟨_, _, rfl, rfl, ⟨_, _, rfl, rfl, ⟨_, _, rfl, rfl, ⟨_, _, rfl, rfl, ⟨_, _, rfl, rfl, rfl⟩⟩⟩⟩⟩⟩) ⟨rfl, (by repeat first | exact trivial | refine ⟨by decide, by first | rfl | exact trivial | (intro i j; first | rfl | exact getD_no rfl | (dsimp only; split <;> first | rfl | exact getD_no rfl)), ?_⟩)⟩ rfl rfl rfl (Nat.le_of_ble_eq_true rfl) ?_
  refine ARun.nil ?_
  refine AW.seq ?_
  refine AW.region ?_
  refine ARun.alloc (id := 2) (l := [.con (.slice none 0 0), .con (.slice none 0 0), .int .i64 0, .int .i64 0, .con (.slice none 0 0), .con (.slice none 0 0)]) (z := (.agg #[.slice none 0 0, .slice none 0 0, .int .i64 0, .int .i64 0, .slice none 0 0, .slice none 0 0])) rfl (by kernel_rfl) (fun _ _ _ => ⟨_, _, rfl, rfl, ⟨_, _, rfl, rfl, ⟨_, _, rfl, rfl, ⟨_, _, rfl, rfl, ⟨_, _, rfl, rfl, ⟨_, _, rfl, rfl, rfl⟩⟩⟩⟩⟩⟩) ⟨rfl, (by repeat first | exact trivial | refine ⟨by decide, by first | rfl | exact trivial | (intro i j; first | rfl | exact getD_no rfl | (dsimp only; split <;> first | rfl | exact getD_no rfl)), ?_⟩)⟩ rfl rfl rfl (Nat.le_of_ble_eq_true rfl) ?_
  refine ARun.nil ?_
  refine AW.seq ?_
  refine AW.region ?_
  refine ARun.pure (PureOp.fieldPtr rfl (.tmp rfl) vp_fi_36_0_0) rfl rfl (Nat.le_of_ble_eq_true rfl) ?_
  refine ARun.pure (PureOp.loadPtr rfl (.tmp rfl) vp_pl_33 rfl rfl (Nat.le_of_ble_eq_true rfl) (Nat.le_of_ble_eq_true rfl)) rfl rfl (Nat.le_of_ble_eq_true rfl) ?_
  refine ARun.prod (K := 3) rfl (v_toEntrySS x.logs (Small.mk (by omega))) ⟨rfl, (by repeat first | exact trivial | refine ⟨by decide, by first | rfl | exact trivial | (intro i j; first | rfl | exact getD_no rfl | (dsimp only; split <;> first | rfl | exact getD_no rfl)), ?_⟩)⟩ ⟨⟨_, (.tmp rfl), .lst⟩, trivial⟩ vp_ca_67 rfl rfl rfl rfl rfl (Nat.le_of_ble_eq_true rfl) ?_
  refine ARun.pure (PureOp.fieldPtr rfl (.tmp rfl) vp_fi_27_0_0) rfl rfl (Nat.le_of_ble_eq_true rfl) ?_
  refine ARun.store rfl (.tmp rfl) (.tmp rfl) trivial rfl (Nat.le_of_ble_eq_true rfl) vp_sz_22_1 rfl rfl ?_
  refine ARun.nil ?_
  refine AW.seq ?_
  refine AW.region ?_
  refine ARun.pure (PureOp.fieldPtr rfl (.tmp rfl) vp_fi_36_1_1) rfl rfl (Nat.le_of_ble_eq_true rfl) ?_
  refine ARun.pure (PureOp.loadPtr rfl (.tmp rfl) vp_pl_23 rfl rfl (Nat.le_of_ble_eq_true rfl) (Nat.le_of_ble_eq_true rfl)) rfl rfl (Nat.le_of_ble_eq_true rfl) ?_
  refine ARun.prod (K := 4) rfl (v_toBoolS x.down (Small.mk (by omega))) ⟨rfl, (by repeat first | exact trivial | refine ⟨by decide, by first | rfl | exact trivial | (intro i j; first | rfl | exact getD_no rfl | (dsimp only; split <;> first | rfl | exact getD_no rfl)), ?_⟩)⟩ ⟨⟨_, (.tmp rfl), .lst⟩, trivial⟩ vp_ca_68 rfl rfl rfl rfl rfl (Nat.le_of_ble_eq_true rfl) ?_
  refine ARun.pure (PureOp.fieldPtr rfl (.tmp rfl) vp_fi_27_1_1) rfl rfl (Nat.le_of_ble_eq_true rfl) ?_
  refine ARun.store rfl (.tmp rfl) (.tmp rfl) trivial rfl (Nat.le_of_ble_eq_true rfl) vp_sz_23_1 rfl rfl ?_
  refine ARun.nil ?_
  refine AW.seq ?_
  refine AW.region ?_
  refine ARun.pure (PureOp.fieldPtr rfl (.tmp rfl) vp_fi_36_2_2) rfl rfl (Nat.le_of_ble_eq_true rfl) ?_
  refine ARun.pure (PureOp.loadPtr rfl (.tmp rfl) vp_pl_3 rfl rfl (Nat.le_of_ble_eq_true rfl) (Nat.le_of_ble_eq_true rfl)) rfl rfl (Nat.le_of_ble_eq_true rfl) ?_
  refine ARun.pure (PureOp.fieldPtr rfl (.tmp rfl) vp_fi_27_2_2) rfl rfl (Nat.le_of_ble_eq_true rfl) ?_
  refine ARun.store rfl (.tmp rfl) (.tmp rfl) trivial rfl (Nat.le_of_ble_eq_true rfl) vp_sz_3_1 rfl rfl ?_
  refine ARun.nil ?_
  refine AW.seq ?_
  refine AW.region ?_
  refine ARun.pure (PureOp.fieldPtr rfl (.tmp rfl) vp_fi_36_3_3) rfl rfl (Nat.le_of_ble_eq_true rfl) ?_
  refine ARun.pure (PureOp.loadPtr rfl (.tmp rfl) vp_pl_3 rfl rfl (Nat.le_of_ble_eq_true rfl) (Nat.le_of_ble_eq_true rfl)) rfl rfl (Nat.le_of_ble_eq_true rfl) ?_
  refine ARun.pure (PureOp.fieldPtr rfl (.tmp rfl) vp_fi_27_3_3) rfl rfl (Nat.le_of_ble_eq_true rfl) ?_
  refine ARun.store rfl (.tmp rfl) (.tmp rfl) trivial rfl (Nat.le_of_ble_eq_true rfl) vp_sz_3_1 rfl rfl ?_
  refine ARun.nil ?_
  refine AW.seq ?_
  refine AW.region ?_
  refine ARun.pure (PureOp.fieldPtr rfl (.tmp rfl) vp_fi_36_4_4) rfl rfl (Nat.le_of_ble_eq_true rfl) ?_
  refine ARun.pure (PureOp.loadPtr rfl (.tmp rfl) vp_pl_24 rfl rfl (Nat.le_of_ble_eq_true rfl) (Nat.le_of_ble_eq_true rfl)) rfl rfl (Nat.le_of_ble_eq_true rfl) ?_
  refine ARun.prod (K := 5) rfl (v_toIntS x.inSync (Small.mk (by omega))) ⟨rfl, (by repeat first | exact trivial | refine ⟨by decide, by first | rfl | exact trivial | (intro i j; first | rfl | exact getD_no rfl | (dsimp only; split <;> first | rfl | exact getD_no rfl)), ?_⟩)⟩ ⟨⟨_, (.tmp rfl), .lst⟩, trivial⟩ vp_ca_69 rfl rfl rfl rfl rfl (Nat.le_of_ble_eq_true rfl) ?_
  refine ARun.pure (PureOp.fieldPtr rfl (.tmp rfl) vp_fi_27_4_4) rfl rfl (Nat.le_of_ble_eq_true rfl) ?_
  refine ARun.store rfl (.tmp rfl) (.tmp rfl) trivial rfl (Nat.le_of_ble_eq_true rfl) vp_sz_24_1 rfl rfl ?_
  refine ARun.nil ?_
  refine AW.seq ?_
  refine AW.region ?_
  refine ARun.pure (PureOp.fieldPtr rfl (.tmp rfl) vp_fi_36_5_5) rfl rfl (Nat.le_of_ble_eq_true rfl) ?_
  refine ARun.pure (PureOp.loadPtr rfl (.tmp rfl) vp_pl_34 rfl rfl (Nat.le_of_ble_eq_true rfl) (Nat.le_of_ble_eq_true rfl)) rfl rfl (Nat.le_of_ble_eq_true rfl) ?_
  refine ARun.prod (K := 6) rfl (v_toEntryS x.certain (Small.mk (by omega))) ⟨rfl, (by repeat first | exact trivial | refine ⟨by decide, by first | rfl | exact trivial | (intro i j; first | rfl | exact getD_no rfl | (dsimp only; split <;> first | rfl | exact getD_no rfl)), ?_⟩)⟩ ⟨⟨_, (.tmp rfl), .lst⟩, trivial⟩ vp_ca_70 rfl rfl rfl rfl rfl (Nat.le_of_ble_eq_true rfl) ?_
  refine ARun.pure (PureOp.fieldPtr rfl (.tmp rfl) vp_fi_27_5_5) rfl rfl (Nat.le_of_ble_eq_true rfl) ?_
  refine ARun.store rfl (.tmp rfl) (.tmp rfl) trivial rfl (Nat.le_of_ble_eq_true rfl) vp_sz_25_1 rfl rfl ?_
  refine ARun.nil ?_
  refine AW.seq ?_
  refine AW.region ?_
  refine ARun.pure (PureOp.loadPtrAgg rfl (.tmp rfl) vp_ag_27_6 rfl rfl (Nat.le_of_ble_eq_true rfl) (Nat.le_of_ble_eq_true rfl)) rfl rfl (Nat.le_of_ble_eq_true rfl) ?_
  refine ARun.store rfl (.tmp rfl) (.tmp rfl) (SV.cells_of (by exact ⟨trivial, trivial, trivial, trivial, trivial, trivial, trivial⟩)) rfl (Nat.le_of_ble_eq_true rfl) vp_sz_27_6 rfl rfl ?_
  refine ARun.nil ?_
  exact AW.ret (show ∃ s t, ResL _ _ [.cell 2 27] s ∧ TvS _ (ofLeaf t) 0 s _ from ⟨_, fun a b => if a = 3 then 0 else if a = 4 then 1 else if a = 5 then 4 else if a = 6 then 5 else 1000, .inl ⟨_, rfl, .cells rfl vp_ag_27_6 rfl rfl (Nat.le_of_ble_eq_true rfl) (Nat.le_of_ble_eq_true rfl)⟩, ⟨(Tv.cast (Tv.tre rfl (Nat.le_of_ble_eq_true rfl) (by rfl)) rfl), (Tv.cast (Tv.tre rfl (Nat.le_of_ble_eq_true rfl) (by rfl)) rfl), .int, .int, (Tv.cast (Tv.tre rfl (Nat.le_of_ble_eq_true rfl) (by rfl)) rfl), (Tv.cast (Tv.tre rfl (Nat.le_of_ble_eq_true rfl) (by rfl)) rfl), trivial⟩⟩)
end Go.Proofs.Ytmlhlkpiofbhgaa
