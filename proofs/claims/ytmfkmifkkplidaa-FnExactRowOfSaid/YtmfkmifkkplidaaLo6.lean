/-
  The laws' own copies (to), as trees.
-/
import Derived.Test.YtmfkmifkkplidaaTm6
namespace Go.Proofs.Ytmfkmifkkplidaa
open Go.ChangeShapes Go.WideShapes Go.ChangeAt Go.RowKit Go.BigFrame Go.Deep
set_option linter.unusedVariables false
set_option linter.unusedSimpArgs false
theorem vp_ag_103_2 : aggB Try.prog 103 2 = true := by kernel_rfl
theorem vp_ag_124_2 : aggB Try.prog 124 2 = true := by kernel_rfl
theorem vp_ag_29_2 : aggB Try.prog 29 2 = true := by kernel_rfl
theorem vp_ag_67_2 : aggB Try.prog 67 2 = true := by kernel_rfl
theorem vp_ag_81_2 : aggB Try.prog 81 2 = true := by kernel_rfl
theorem vp_ca_45 : callB Try.prog 45 = true := by kernel_rfl
theorem vp_ca_69 : callB Try.prog 69 = true := by kernel_rfl
theorem vp_ca_85 : callB Try.prog 85 = true := by kernel_rfl
theorem vp_ca_90 : callB Try.prog 90 = true := by kernel_rfl
theorem vp_el_101_2 : elemB Try.prog 101 2 = true := by kernel_rfl
theorem vp_el_22_2 : elemB Try.prog 22 2 = true := by kernel_rfl
theorem vp_el_27_2 : elemB Try.prog 27 2 = true := by kernel_rfl
theorem vp_el_33_2 : elemB Try.prog 33 2 = true := by kernel_rfl
theorem vp_fi_103_0_0 : fieldB Try.prog 103 0 0 = true := by kernel_rfl
theorem vp_fi_103_1_1 : fieldB Try.prog 103 1 1 = true := by kernel_rfl
theorem vp_fi_124_0_0 : fieldB Try.prog 124 0 0 = true := by kernel_rfl
theorem vp_fi_124_1_1 : fieldB Try.prog 124 1 1 = true := by kernel_rfl
theorem vp_fi_24_0_0 : fieldB Try.prog 24 0 0 = true := by kernel_rfl
theorem vp_fi_24_1_1 : fieldB Try.prog 24 1 1 = true := by kernel_rfl
theorem vp_fi_29_0_0 : fieldB Try.prog 29 0 0 = true := by kernel_rfl
theorem vp_fi_29_1_1 : fieldB Try.prog 29 1 1 = true := by kernel_rfl
theorem vp_fi_67_0_0 : fieldB Try.prog 67 0 0 = true := by kernel_rfl
theorem vp_fi_67_1_1 : fieldB Try.prog 67 1 1 = true := by kernel_rfl
theorem vp_fi_81_0_0 : fieldB Try.prog 81 0 0 = true := by kernel_rfl
theorem vp_fi_81_1_1 : fieldB Try.prog 81 1 1 = true := by kernel_rfl
theorem vp_pl_101 : plainB Try.prog 101 = true := by kernel_rfl
theorem vp_pl_22 : plainB Try.prog 22 = true := by kernel_rfl
theorem vp_pl_3 : plainB Try.prog 3 = true := by kernel_rfl
theorem vp_pl_9 : plainB Try.prog 9 = true := by kernel_rfl
theorem vp_sl_101 : sliceB Try.prog 101 = true := by kernel_rfl
theorem vp_sl_22 : sliceB Try.prog 22 = true := by kernel_rfl
theorem vp_sz_27_1 : sizeB Try.prog 27 1 = true := by kernel_rfl
theorem vp_sz_29_2 : sizeB Try.prog 29 2 = true := by kernel_rfl
theorem vp_sz_33_1 : sizeB Try.prog 33 1 = true := by kernel_rfl
theorem vp_sz_3_1 : sizeB Try.prog 3 1 = true := by kernel_rfl
theorem vp_sz_67_2 : sizeB Try.prog 67 2 = true := by kernel_rfl
theorem vp_sz_81_2 : sizeB Try.prog 81 2 = true := by kernel_rfl
theorem vp_sz_9_1 : sizeB Try.prog 9 1 = true := by kernel_rfl
theorem v_toSample (x : GSample) : FnF Try.prog 90 [.agg [.int .i64 x.at_, .int .i64 x.value]] (.agg [.int .i64 x.at_, .int .i64 x.value]) := by
  refine FnF.of_body (fn := Try.f90) Try.func90 rfl (Nat.le_of_ble_eq_true rfl)  ?_
  intro w0
  show AW _ 11 _ _ _ _
  refine AW.seq ?_
  refine AW.region ?_
  refine ARun.box (id := 0) rfl (.tmp rfl) (SV.cells_of (by exact ⟨trivial, trivial, trivial⟩)) ⟨rfl, (by repeat first | exact trivial | refine ⟨by decide, by first | rfl | exact trivial | (intro i j; first | rfl | exact getD_no rfl | (dsimp only; split <;> first | rfl | exact getD_no rfl)), ?_⟩)⟩ rfl rfl rfl (Nat.le_of_ble_eq_true rfl) ?_
  refine ARun.alloc (id := 1) (l := [.int .i64 0, .int .i64 0]) (z := (.agg #[.int .i64 0, .int .i64 0])) rfl (by kernel_rfl) (fun _ _ _ => ⟨_, _, rfl, rfl, ⟨_, _, rfl, rfl, rfl⟩⟩) ⟨rfl, (by repeat first | exact trivial | refine ⟨by decide, by first | rfl | exact trivial | (intro i j; first | rfl | exact getD_no rfl | (dsimp only; split <;> first | rfl | exact getD_no rfl)), ?_⟩)⟩ rfl rfl rfl (Nat.le_of_ble_eq_true rfl) ?_
  refine ARun.nil ?_
  refine AW.seq ?_
  refine AW.region ?_
  refine ARun.alloc (id := 2) (l := [.int .i64 0, .int .i64 0]) (z := (.agg #[.int .i64 0, .int .i64 0])) rfl (by kernel_rfl) (fun _ _ _ => ⟨_, _, rfl, rfl, ⟨_, _, rfl, rfl, rfl⟩⟩) ⟨rfl, (by repeat first | exact trivial | refine ⟨by decide, by first | rfl | exact trivial | (intro i j; first | rfl | exact getD_no rfl | (dsimp only; split <;> first | rfl | exact getD_no rfl)), ?_⟩)⟩ rfl rfl rfl (Nat.le_of_ble_eq_true rfl) ?_
  refine ARun.nil ?_
  refine AW.seq ?_
  refine AW.region ?_
  refine ARun.pure (PureOp.fieldPtr rfl (.tmp rfl) vp_fi_124_0_0) rfl rfl (Nat.le_of_ble_eq_true rfl) ?_
  refine ARun.pure (PureOp.loadPtr rfl (.tmp rfl) vp_pl_3 rfl rfl (Nat.le_of_ble_eq_true rfl) (Nat.le_of_ble_eq_true rfl)) rfl rfl (Nat.le_of_ble_eq_true rfl) ?_
  refine ARun.pure (PureOp.fieldPtr rfl (.tmp rfl) vp_fi_81_0_0) rfl rfl (Nat.le_of_ble_eq_true rfl) ?_
  refine ARun.store rfl (.tmp rfl) (.tmp rfl) trivial rfl (Nat.le_of_ble_eq_true rfl) vp_sz_3_1 rfl rfl ?_
  refine ARun.nil ?_
  refine AW.seq ?_
  refine AW.region ?_
  refine ARun.pure (PureOp.fieldPtr rfl (.tmp rfl) vp_fi_124_1_1) rfl rfl (Nat.le_of_ble_eq_true rfl) ?_
  refine ARun.pure (PureOp.loadPtr rfl (.tmp rfl) vp_pl_3 rfl rfl (Nat.le_of_ble_eq_true rfl) (Nat.le_of_ble_eq_true rfl)) rfl rfl (Nat.le_of_ble_eq_true rfl) ?_
  refine ARun.pure (PureOp.fieldPtr rfl (.tmp rfl) vp_fi_81_1_1) rfl rfl (Nat.le_of_ble_eq_true rfl) ?_
  refine ARun.store rfl (.tmp rfl) (.tmp rfl) trivial rfl (Nat.le_of_ble_eq_true rfl) vp_sz_3_1 rfl rfl ?_
  refine ARun.nil ?_
  refine AW.seq ?_
  refine AW.region ?_
  refine ARun.pure (PureOp.loadPtrAgg rfl (.tmp rfl) vp_ag_81_2 rfl rfl (Nat.le_of_ble_eq_true rfl) (Nat.le_of_ble_eq_true rfl)) rfl rfl (Nat.le_of_ble_eq_true rfl) ?_
  refine ARun.store rfl (.tmp rfl) (.tmp rfl) (SV.cells_of (by exact ⟨trivial, trivial, trivial⟩)) rfl (Nat.le_of_ble_eq_true rfl) vp_sz_81_2 rfl rfl ?_
  refine ARun.nil ?_
  exact AW.ret (show ∃ s, ResL _ _ [.cell 2 81] s ∧ FvS _ s _ from ⟨_, .inl ⟨_, rfl, .cells rfl vp_ag_81_2 rfl rfl (Nat.le_of_ble_eq_true rfl) (Nat.le_of_ble_eq_true rfl)⟩, ⟨.int, .int, trivial⟩⟩)

theorem v_toSampleS (x : List GSample) (hw : Small (x.length)) : FnT Try.prog 85 [.one (.lst 2 x.length (fun i0 j0 => ([.int .i64 ((x.getD i0 (default : GSample)).at_), .int .i64 ((x.getD i0 (default : GSample)).value)] : List AV).getD j0 (.con undef)))] (.one (.lst 2 x.length (fun i0 j0 => ([.int .i64 ((x.getD i0 (default : GSample)).at_), .int .i64 ((x.getD i0 (default : GSample)).value)] : List AV).getD j0 (.con undef)))) := by
  unfold Small at hw
  have hlen : x.length ≤ 1048576 := by omega
  refine FnT.of_body (fn := Try.f85) Try.func85 rfl (Nat.le_of_ble_eq_true rfl)  ?_
  intro w0
  show AW _ 23 _ _ _ _
  refine AW.seq ?_
  refine AW.region ?_
  refine ARun.pure (PureOp.assign rfl .con) rfl rfl (Nat.le_of_ble_eq_true rfl) ?_
  refine ARun.nil ?_
  refine AW.seq ?_
  refine AW.region ?_
  refine ARun.pure (PureOp.move rfl (.tmp rfl)) rfl rfl (Nat.le_of_ble_eq_true rfl) ?_
  refine ARun.pure (PureOp.lenLst rfl (.tmp rfl) vp_sl_101) rfl rfl (Nat.le_of_ble_eq_true rfl) ?_
  refine ARun.make (id := 0) (n := x.length) (l := [.int .i64 0, .int .i64 0]) (z := (.agg #[.int .i64 0, .int .i64 0])) (by_ := 16) rfl (by kernel_rfl) (fun _ _ _ => ⟨_, _, rfl, rfl, ⟨_, _, rfl, rfl, rfl⟩⟩) (.tmp rfl) (.tmp rfl) rfl rfl (by omega) (by omega) (by decide) ⟨rfl, (by repeat first | exact trivial | refine ⟨by decide, by first | rfl | exact trivial | (intro i j; first | rfl | exact getD_no rfl | (dsimp only; split <;> first | rfl | exact getD_no rfl)), ?_⟩)⟩ rfl rfl rfl (Nat.le_of_ble_eq_true rfl) ?_
  refine ARun.pure (PureOp.assign rfl (.tmp rfl)) rfl rfl (Nat.le_of_ble_eq_true rfl) ?_
  refine ARun.nil ?_
  refine AW.seq ?_
  refine AW.seq ?_
  refine AW.region ?_
  refine ARun.pure (PureOp.assign rfl .int) rfl rfl (Nat.le_of_ble_eq_true rfl) ?_
  refine ARun.nil ?_
  refine AW.block ?_
  refine AW.loop (ι := Nat) (fun k => ⟨[(0, .one (.lst 2 x.length (fun i0 j0 => ([.int .i64 ((x.getD i0 (default : GSample)).at_), .int .i64 ((x.getD i0 (default : GSample)).value)] : List AV).getD j0 (.con undef)))), (3, .one (.own 0 2 x.length)), (4, .one (.int .i64 (k : Int)))], [(0, .arr 2 x.length (fun a b => if a < k then ceSample (x.getD a (default : GSample)) b else ([.int .i64 0, .int .i64 0] : List AV).getD b (.con undef)))]⟩) (fun k => k ≤ x.length) (fun k => x.length - k) 0 (Nat.zero_le _) ⟨⟨⟨_, rfl, rfl⟩, ⟨_, rfl, rfl⟩, ⟨_, rfl, rfl⟩, trivial⟩, ⟨⟨_, rfl, rfl, Nat.le_refl _, fun a b _ _ => by simp [AObj.f]⟩, trivial⟩⟩ ?_
  intro k hk
  refine AW.seq ?_
  refine AW.seq ?_
  refine AW.region ?_
  refine ARun.pure (PureOp.move rfl (.tmp rfl)) rfl rfl (Nat.le_of_ble_eq_true rfl) ?_
  refine ARun.pure (PureOp.move rfl (.tmp rfl)) rfl rfl (Nat.le_of_ble_eq_true rfl) ?_
  refine ARun.pure (PureOp.lenLst rfl (.tmp rfl) vp_sl_101) rfl rfl (Nat.le_of_ble_eq_true rfl) ?_
  refine ARun.pure (PureOp.intOp rfl (.tmp rfl) (.tmp rfl) rfl) rfl rfl (Nat.le_of_ble_eq_true rfl) ?_
  refine ARun.nil ?_
  refine AW.cond (.tmp rfl) (fun hb1 => ?_) (fun hb1 => ?_)
  · have _u := True.intro
    replace hb1 := of_decide_eq_true hb1
    have hlt : k < x.length := by omega
    refine AW.skip ?_
    refine AW.seq ?_
    refine AW.block ?_
    refine AW.region ?_
    refine ARun.pure (PureOp.move rfl (.tmp rfl)) rfl rfl (Nat.le_of_ble_eq_true rfl) ?_
    refine ARun.pure (PureOp.move rfl (.tmp rfl)) rfl rfl (Nat.le_of_ble_eq_true rfl) ?_
    refine ARun.pure (PureOp.move rfl (.tmp rfl)) rfl rfl (Nat.le_of_ble_eq_true rfl) ?_
    refine ARun.pure (PureOp.move rfl (.tmp rfl)) rfl rfl (Nat.le_of_ble_eq_true rfl) ?_
    refine ARun.pure (PureOp.indexLst (i := k) rfl (.tmp rfl) vp_el_101_2 (.tmp rfl) rfl (by omega)) rfl rfl (Nat.le_of_ble_eq_true rfl) ?_
    refine ARun.pure (PureOp.loadRefAgg rfl (.tmp rfl) vp_ag_124_2 (Nat.le_of_ble_eq_true rfl)) rfl rfl (Nat.le_of_ble_eq_true rfl) ?_
    refine ARun.fresh (FreshOp.callS rfl (v_toSample (x.getD k (default : GSample))) ⟨⟨_, (.tmp rfl), ⟨.int, .int, trivial⟩⟩, trivial⟩ vp_ca_90 rfl) rfl rfl (Nat.le_of_ble_eq_true rfl) ?_
    refine ARun.pure (PureOp.indexOwn (i := k) rfl (.tmp rfl) vp_el_33_2 (.tmp rfl) rfl (by omega)) rfl rfl (Nat.le_of_ble_eq_true rfl) ?_
    refine ARun.storeElem rfl (.tmp rfl) (.tmp rfl) (SV.cells_of (by exact ⟨trivial, trivial, trivial⟩)) rfl (by omega) rfl vp_sz_81_2 rfl rfl ?_
    refine ARun.nil ?_
    refine AW.region ?_
    refine ARun.pure (PureOp.move rfl (.tmp rfl)) rfl rfl (Nat.le_of_ble_eq_true rfl) ?_
    refine ARun.pure (PureOp.add (c := ((k + 1 : Nat) : Int)) rfl (.tmp rfl) .int (by rw [wrap_id (by omega) (by omega)]; omega)) rfl rfl (Nat.le_of_ble_eq_true rfl) ?_
    refine ARun.pure (PureOp.assign rfl (.tmp rfl)) rfl rfl (Nat.le_of_ble_eq_true rfl) ?_
    refine ARun.nil ?_
    exact ⟨k + 1, by omega, by dsimp only; omega, ⟨⟨⟨_, rfl, rfl⟩, ⟨_, rfl, rfl⟩, ⟨_, rfl, rfl⟩, trivial⟩, ⟨⟨_, rfl, rfl, Nat.le_refl _, fun a b _ hb => fill_next (sz := 2) (k := k) (g := fun a b => ceSample (x.getD a (default : GSample)) b) (z := fun b => ([.int .i64 0, .int .i64 0] : List AV).getD b (.con undef)) (c := fun b => ([.int .i64 ((x.getD k (default : GSample)).at_), .int .i64 ((x.getD k (default : GSample)).value)] : List AV).getD b (.con undef)) (fun b hb => match b, hb with | 0, _ => rfl | 1, _ => rfl | _ + 2, h => absurd h (by omega)) a b hb⟩, trivial⟩⟩⟩
  · have _u := True.intro
    replace hb1 := of_decide_eq_false hb1
    have hlt : ¬ k < x.length := by omega
    obtain rfl : k = x.length := by omega
    refine AW.exit ?_
    refine AW.seq ?_
    refine AW.region ?_
    refine ARun.pure (PureOp.move rfl (.tmp rfl)) rfl rfl (Nat.le_of_ble_eq_true rfl) ?_
    refine ARun.pure (PureOp.assign rfl (.tmp rfl)) rfl rfl (Nat.le_of_ble_eq_true rfl) ?_
    refine ARun.nil ?_
    exact AW.ret (show ∃ s t, ResL _ _ [.tmp 2] s ∧ TvS _ (ofLeaf t) 0 s _ from ⟨_, fun a b => if a = 0 then 0 else 1000, .inl ⟨_, rfl, .tmp rfl⟩, (Tv.flat rfl rfl rfl (Nat.le_refl _) (by rfl) (fun i j hi hj => if_pos hi) (fun i j hi hj => match j, hj with | 0, _ => rfl | 1, _ => rfl | _ + 2, h => absurd h (by omega)))⟩)

theorem v_toRow (x : GRow) (hw : Small (wtRow x)) : FnT Try.prog 69 [.agg [.str x.name, .lst 2 x.samples.length (fun i0 j0 => ([.int .i64 ((x.samples.getD i0 (default : GSample)).at_), .int .i64 ((x.samples.getD i0 (default : GSample)).value)] : List AV).getD j0 (.con undef))]] (.agg [.str x.name, .lst 2 x.samples.length (fun i0 j0 => ([.int .i64 ((x.samples.getD i0 (default : GSample)).at_), .int .i64 ((x.samples.getD i0 (default : GSample)).value)] : List AV).getD j0 (.con undef))]) := by
  unfold Small wtRow at hw
  refine FnT.of_body (fn := Try.f69) Try.func69 rfl (Nat.le_of_ble_eq_true rfl)  ?_
  intro w0
  show AW _ 12 _ _ _ _
  refine AW.seq ?_
  refine AW.region ?_
  refine ARun.box (id := 0) rfl (.tmp rfl) (SV.cells_of (by exact ⟨trivial, trivial, trivial⟩)) ⟨rfl, (by repeat first | exact trivial | refine ⟨by decide, by first | rfl | exact trivial | (intro i j; first | rfl | exact getD_no rfl | (dsimp only; split <;> first | rfl | exact getD_no rfl)), ?_⟩)⟩ rfl rfl rfl (Nat.le_of_ble_eq_true rfl) ?_
  refine ARun.alloc (id := 1) (l := [.str ByteArray.empty, .con (.slice none 0 0)]) (z := (.agg #[.string ByteArray.empty, .slice none 0 0])) rfl (by kernel_rfl) (fun _ _ _ => ⟨_, _, rfl, ⟨rfl, by decide⟩, ⟨_, _, rfl, rfl, rfl⟩⟩) ⟨rfl, (by repeat first | exact trivial | refine ⟨by decide, by first | rfl | exact trivial | (intro i j; first | rfl | exact getD_no rfl | (dsimp only; split <;> first | rfl | exact getD_no rfl)), ?_⟩)⟩ rfl rfl rfl (Nat.le_of_ble_eq_true rfl) ?_
  refine ARun.nil ?_
  refine AW.seq ?_
  refine AW.region ?_
  refine ARun.alloc (id := 2) (l := [.str ByteArray.empty, .con (.slice none 0 0)]) (z := (.agg #[.string ByteArray.empty, .slice none 0 0])) rfl (by kernel_rfl) (fun _ _ _ => ⟨_, _, rfl, ⟨rfl, by decide⟩, ⟨_, _, rfl, rfl, rfl⟩⟩) ⟨rfl, (by repeat first | exact trivial | refine ⟨by decide, by first | rfl | exact trivial | (intro i j; first | rfl | exact getD_no rfl | (dsimp only; split <;> first | rfl | exact getD_no rfl)), ?_⟩)⟩ rfl rfl rfl (Nat.le_of_ble_eq_true rfl) ?_
  refine ARun.nil ?_
  refine AW.seq ?_
  refine AW.region ?_
  refine ARun.pure (PureOp.fieldPtr rfl (.tmp rfl) vp_fi_103_0_0) rfl rfl (Nat.le_of_ble_eq_true rfl) ?_
  refine ARun.pure (PureOp.loadPtr rfl (.tmp rfl) vp_pl_9 rfl rfl (Nat.le_of_ble_eq_true rfl) (Nat.le_of_ble_eq_true rfl)) rfl rfl (Nat.le_of_ble_eq_true rfl) ?_
  refine ARun.pure (PureOp.fieldPtr rfl (.tmp rfl) vp_fi_67_0_0) rfl rfl (Nat.le_of_ble_eq_true rfl) ?_
  refine ARun.store rfl (.tmp rfl) (.tmp rfl) trivial rfl (Nat.le_of_ble_eq_true rfl) vp_sz_9_1 rfl rfl ?_
  refine ARun.nil ?_
  refine AW.seq ?_
  refine AW.region ?_
  refine ARun.pure (PureOp.fieldPtr rfl (.tmp rfl) vp_fi_103_1_1) rfl rfl (Nat.le_of_ble_eq_true rfl) ?_
  refine ARun.pure (PureOp.loadPtr rfl (.tmp rfl) vp_pl_101 rfl rfl (Nat.le_of_ble_eq_true rfl) (Nat.le_of_ble_eq_true rfl)) rfl rfl (Nat.le_of_ble_eq_true rfl) ?_
  refine ARun.prod (K := 3) rfl (v_toSampleS x.samples (Small.mk (by omega))) ⟨rfl, (by repeat first | exact trivial | refine ⟨by decide, by first | rfl | exact trivial | (intro i j; first | rfl | exact getD_no rfl | (dsimp only; split <;> first | rfl | exact getD_no rfl)), ?_⟩)⟩ ⟨⟨_, (.tmp rfl), .lst⟩, trivial⟩ vp_ca_85 rfl rfl rfl rfl rfl (Nat.le_of_ble_eq_true rfl) ?_
  refine ARun.pure (PureOp.fieldPtr rfl (.tmp rfl) vp_fi_67_1_1) rfl rfl (Nat.le_of_ble_eq_true rfl) ?_
  refine ARun.store rfl (.tmp rfl) (.tmp rfl) trivial rfl (Nat.le_of_ble_eq_true rfl) vp_sz_33_1 rfl rfl ?_
  refine ARun.nil ?_
  refine AW.seq ?_
  refine AW.region ?_
  refine ARun.pure (PureOp.loadPtrAgg rfl (.tmp rfl) vp_ag_67_2 rfl rfl (Nat.le_of_ble_eq_true rfl) (Nat.le_of_ble_eq_true rfl)) rfl rfl (Nat.le_of_ble_eq_true rfl) ?_
  refine ARun.store rfl (.tmp rfl) (.tmp rfl) (SV.cells_of (by exact ⟨trivial, trivial, trivial⟩)) rfl (Nat.le_of_ble_eq_true rfl) vp_sz_67_2 rfl rfl ?_
  refine ARun.nil ?_
  exact AW.ret (show ∃ s t, ResL _ _ [.cell 2 67] s ∧ TvS _ (ofLeaf t) 0 s _ from ⟨_, fun a b => if a = 3 then 1 else 1000, .inl ⟨_, rfl, .cells rfl vp_ag_67_2 rfl rfl (Nat.le_of_ble_eq_true rfl) (Nat.le_of_ble_eq_true rfl)⟩, ⟨.str, (Tv.cast (Tv.tre rfl (Nat.le_of_ble_eq_true rfl) (by rfl)) rfl), trivial⟩⟩)

theorem v_toRowS (x : List GRow) (hw : Small (wtl wtRow x)) : FnT Try.prog 45 [.one (.lst 2 x.length (fun i0 j0 => ([.str ((x.getD i0 (default : GRow)).name), .lst 2 (((x.getD i0 (default : GRow)).samples).length) (fun i1 j1 => ([.int .i64 ((((x.getD i0 (default : GRow)).samples).getD i1 (default : GSample)).at_), .int .i64 ((((x.getD i0 (default : GRow)).samples).getD i1 (default : GSample)).value)] : List AV).getD j1 (.con undef))] : List AV).getD j0 (.con undef)))] (.one (.lst 2 x.length (fun i0 j0 => ([.str ((x.getD i0 (default : GRow)).name), .lst 2 (((x.getD i0 (default : GRow)).samples).length) (fun i1 j1 => ([.int .i64 ((((x.getD i0 (default : GRow)).samples).getD i1 (default : GSample)).at_), .int .i64 ((((x.getD i0 (default : GRow)).samples).getD i1 (default : GSample)).value)] : List AV).getD j1 (.con undef))] : List AV).getD j0 (.con undef)))) := by
  unfold Small at hw
  replace hw : x.length + (x.map wtRow).sum ≤ 1048576 := hw
  have hlen : x.length ≤ 1048576 := by omega
  refine FnT.of_body (fn := Try.f45) Try.func45 rfl (Nat.le_of_ble_eq_true rfl)  ?_
  intro w0
  show AW _ 23 _ _ _ _
  refine AW.fam (id := 0) (famX 2 (fun i j => ceRow (x.getD i (default : GRow)) j)) ⟨rfl, (by exact trivial)⟩ ?_
  refine AW.seq ?_
  refine AW.region ?_
  refine ARun.pure (PureOp.assign rfl .con) rfl rfl (Nat.le_of_ble_eq_true rfl) ?_
  refine ARun.nil ?_
  refine AW.seq ?_
  refine AW.region ?_
  refine ARun.pure (PureOp.move rfl (.tmp rfl)) rfl rfl (Nat.le_of_ble_eq_true rfl) ?_
  refine ARun.pure (PureOp.lenLst rfl (.tmp rfl) vp_sl_22) rfl rfl (Nat.le_of_ble_eq_true rfl) ?_
  refine ARun.make (id := 1) (n := x.length) (l := [.str ByteArray.empty, .con (.slice none 0 0)]) (z := (.agg #[.string ByteArray.empty, .slice none 0 0])) (by_ := 40) rfl (by kernel_rfl) (fun _ _ _ => ⟨_, _, rfl, ⟨rfl, by decide⟩, ⟨_, _, rfl, rfl, rfl⟩⟩) (.tmp rfl) (.tmp rfl) rfl rfl (by omega) (by omega) (by decide) ⟨rfl, (by repeat first | exact trivial | refine ⟨by decide, by first | rfl | exact trivial | (intro i j; first | rfl | exact getD_no rfl | (dsimp only; split <;> first | rfl | exact getD_no rfl)), ?_⟩)⟩ rfl rfl rfl (Nat.le_of_ble_eq_true rfl) ?_
  refine ARun.pure (PureOp.assign rfl (.tmp rfl)) rfl rfl (Nat.le_of_ble_eq_true rfl) ?_
  refine ARun.nil ?_
  refine AW.seq ?_
  refine AW.seq ?_
  refine AW.region ?_
  refine ARun.pure (PureOp.assign rfl .int) rfl rfl (Nat.le_of_ble_eq_true rfl) ?_
  refine ARun.nil ?_
  refine AW.block ?_
  refine AW.loop (ι := Nat) (fun k => ⟨[(0, .one (.lst 2 x.length (fun i0 j0 => ([.str ((x.getD i0 (default : GRow)).name), .lst 2 (((x.getD i0 (default : GRow)).samples).length) (fun i1 j1 => ([.int .i64 ((((x.getD i0 (default : GRow)).samples).getD i1 (default : GSample)).at_), .int .i64 ((((x.getD i0 (default : GRow)).samples).getD i1 (default : GSample)).value)] : List AV).getD j1 (.con undef))] : List AV).getD j0 (.con undef)))), (3, .one (.own 1 2 x.length)), (4, .one (.int .i64 (k : Int)))], [(0, .trees (k * 2) (famX 2 (fun i j => ceRow (x.getD i (default : GRow)) j))), (1, .arr 2 x.length (fun a b => if a < k then nmA 0 (a * 2 + b) (ceRow (x.getD a (default : GRow)) b) else ([.str ByteArray.empty, .con (.slice none 0 0)] : List AV).getD b (.con undef)))]⟩) (fun k => k ≤ x.length) (fun k => x.length - k) 0 (Nat.zero_le _) ⟨⟨⟨_, rfl, rfl⟩, ⟨_, rfl, rfl⟩, ⟨_, rfl, rfl⟩, trivial⟩, ⟨⟨_, rfl, fun _ _ => rfl⟩, ⟨_, rfl, rfl, Nat.le_refl _, fun a b _ _ => by simp [AObj.f]⟩, trivial⟩⟩ ?_
  intro k hk
  refine AW.seq ?_
  refine AW.seq ?_
  refine AW.region ?_
  refine ARun.pure (PureOp.move rfl (.tmp rfl)) rfl rfl (Nat.le_of_ble_eq_true rfl) ?_
  refine ARun.pure (PureOp.move rfl (.tmp rfl)) rfl rfl (Nat.le_of_ble_eq_true rfl) ?_
  refine ARun.pure (PureOp.lenLst rfl (.tmp rfl) vp_sl_22) rfl rfl (Nat.le_of_ble_eq_true rfl) ?_
  refine ARun.pure (PureOp.intOp rfl (.tmp rfl) (.tmp rfl) rfl) rfl rfl (Nat.le_of_ble_eq_true rfl) ?_
  refine ARun.nil ?_
  refine AW.cond (.tmp rfl) (fun hb1 => ?_) (fun hb1 => ?_)
  · have _u := True.intro
    replace hb1 := of_decide_eq_true hb1
    have hlt : k < x.length := by omega
    have hwk := wt_at (f := wtRow) (default : GRow) hlt
    refine AW.skip ?_
    refine AW.seq ?_
    refine AW.block ?_
    refine AW.region ?_
    refine ARun.pure (PureOp.move rfl (.tmp rfl)) rfl rfl (Nat.le_of_ble_eq_true rfl) ?_
    refine ARun.pure (PureOp.move rfl (.tmp rfl)) rfl rfl (Nat.le_of_ble_eq_true rfl) ?_
    refine ARun.pure (PureOp.move rfl (.tmp rfl)) rfl rfl (Nat.le_of_ble_eq_true rfl) ?_
    refine ARun.pure (PureOp.move rfl (.tmp rfl)) rfl rfl (Nat.le_of_ble_eq_true rfl) ?_
    refine ARun.pure (PureOp.indexLst (i := k) rfl (.tmp rfl) vp_el_22_2 (.tmp rfl) rfl (by omega)) rfl rfl (Nat.le_of_ble_eq_true rfl) ?_
    refine ARun.pure (PureOp.loadRefAgg rfl (.tmp rfl) vp_ag_103_2 (Nat.le_of_ble_eq_true rfl)) rfl rfl (Nat.le_of_ble_eq_true rfl) ?_
    refine ARun.prodTo (K := 0) (n := k * 2) (X := famX 2 (fun i j => ceRow (x.getD i (default : GRow)) j)) (X' := famX 2 (fun i j => ceRow (x.getD i (default : GRow)) j)) (m := (k + 1) * 2) rfl (v_toRow (x.getD k (default : GRow)) (Small.mk (by omega))) ⟨⟨_, (.tmp rfl), ⟨.str, .lst, trivial⟩⟩, trivial⟩ vp_ca_69 rfl rfl (fun _ _ => rfl) (fun p hp => (famX_at (show p < 2 from hp)).trans (match p, hp with | 0, _ => rfl | 1, _ => rfl | _ + 2, h => absurd h (by simp [SV.leaves]))) rfl (Nat.succ_mul k 2).symm rfl rfl (Nat.le_of_ble_eq_true rfl) ?_
    refine ARun.pure (PureOp.indexOwn (i := k) rfl (.tmp rfl) vp_el_27_2 (.tmp rfl) rfl (by omega)) rfl rfl (Nat.le_of_ble_eq_true rfl) ?_
    refine ARun.storeElem rfl (.tmp rfl) (.tmp rfl) (SV.cells_of (by exact ⟨trivial, trivial, trivial⟩)) rfl (by omega) rfl vp_sz_67_2 rfl rfl ?_
    refine ARun.nil ?_
    refine AW.region ?_
    refine ARun.pure (PureOp.move rfl (.tmp rfl)) rfl rfl (Nat.le_of_ble_eq_true rfl) ?_
    refine ARun.pure (PureOp.add (c := ((k + 1 : Nat) : Int)) rfl (.tmp rfl) .int (by rw [wrap_id (by omega) (by omega)]; omega)) rfl rfl (Nat.le_of_ble_eq_true rfl) ?_
    refine ARun.pure (PureOp.assign rfl (.tmp rfl)) rfl rfl (Nat.le_of_ble_eq_true rfl) ?_
    refine ARun.nil ?_
    exact ⟨k + 1, by omega, by dsimp only; omega, ⟨⟨⟨_, rfl, rfl⟩, ⟨_, rfl, rfl⟩, ⟨_, rfl, rfl⟩, trivial⟩, ⟨⟨_, rfl, fun _ _ => rfl⟩, ⟨_, rfl, rfl, Nat.le_refl _, fun a b _ hb => fill_next (sz := 2) (k := k) (g := fun a b => nmA 0 (a * 2 + b) (ceRow (x.getD a (default : GRow)) b)) (z := fun b => ([.str ByteArray.empty, .con (.slice none 0 0)] : List AV).getD b (.con undef)) (c := fun b => ([.str ((x.getD k (default : GRow)).name), .tre 0 (k * 2 + 1)] : List AV).getD b (.con undef)) (fun b hb => match b, hb with | 0, _ => rfl | 1, _ => rfl | _ + 2, h => absurd h (by omega)) a b hb⟩, trivial⟩⟩⟩
  · have _u := True.intro
    replace hb1 := of_decide_eq_false hb1
    have hlt : ¬ k < x.length := by omega
    obtain rfl : k = x.length := by omega
    refine AW.exit ?_
    refine AW.seq ?_
    refine AW.region ?_
    refine ARun.pure (PureOp.move rfl (.tmp rfl)) rfl rfl (Nat.le_of_ble_eq_true rfl) ?_
    refine ARun.pure (PureOp.assign rfl (.tmp rfl)) rfl rfl (Nat.le_of_ble_eq_true rfl) ?_
    refine ARun.nil ?_
    exact AW.ret (show ∃ s t, ResL _ _ [.tmp 2] s ∧ TvS _ (ofLeaf t) 0 s _ from ⟨_, fun a b => if a = 1 then 0 else if a = 0 then 0 else 1000, .inl ⟨_, rfl, .tmp rfl⟩, (Tv.rowN (K := 0) rfl rfl rfl (Nat.le_refl _) (by rfl) (fun i j hi hj => if_pos hi) rfl (by decide) (fun _ => by rfl) (fun i j hi hj => match j, hj with | 0, _ => rfl | 1, _ => rfl | _ + 2, h => absurd h (by omega)))⟩)

theorem v_toHead (x : GHead) (hw : Small (wtHead x)) : FnT Try.prog 11 [.agg [.lst 2 x.rows.length (fun i0 j0 => ([.str ((x.rows.getD i0 (default : GRow)).name), .lst 2 (((x.rows.getD i0 (default : GRow)).samples).length) (fun i1 j1 => ([.int .i64 ((((x.rows.getD i0 (default : GRow)).samples).getD i1 (default : GSample)).at_), .int .i64 ((((x.rows.getD i0 (default : GRow)).samples).getD i1 (default : GSample)).value)] : List AV).getD j1 (.con undef))] : List AV).getD j0 (.con undef)), .int .i64 x.offset]] (.agg [.lst 2 x.rows.length (fun i0 j0 => ([.str ((x.rows.getD i0 (default : GRow)).name), .lst 2 (((x.rows.getD i0 (default : GRow)).samples).length) (fun i1 j1 => ([.int .i64 ((((x.rows.getD i0 (default : GRow)).samples).getD i1 (default : GSample)).at_), .int .i64 ((((x.rows.getD i0 (default : GRow)).samples).getD i1 (default : GSample)).value)] : List AV).getD j1 (.con undef))] : List AV).getD j0 (.con undef)), .int .i64 x.offset]) := by
  unfold Small wtHead at hw
  refine FnT.of_body (fn := Try.f11) Try.func11 rfl (Nat.le_of_ble_eq_true rfl)  ?_
  intro w0
  show AW _ 12 _ _ _ _
  refine AW.seq ?_
  refine AW.region ?_
  refine ARun.box (id := 0) rfl (.tmp rfl) (SV.cells_of (by exact ⟨trivial, trivial, trivial⟩)) ⟨rfl, (by repeat first | exact trivial | refine ⟨by decide, by first | rfl | exact trivial | (intro i j; first | rfl | exact getD_no rfl | (dsimp only; split <;> first | rfl | exact getD_no rfl)), ?_⟩)⟩ rfl rfl rfl (Nat.le_of_ble_eq_true rfl) ?_
  refine ARun.alloc (id := 1) (l := [.con (.slice none 0 0), .int .i64 0]) (z := (.agg #[.slice none 0 0, .int .i64 0])) rfl (by kernel_rfl) (fun _ _ _ => ⟨_, _, rfl, rfl, ⟨_, _, rfl, rfl, rfl⟩⟩) ⟨rfl, (by repeat first | exact trivial | refine ⟨by decide, by first | rfl | exact trivial | (intro i j; first | rfl | exact getD_no rfl | (dsimp only; split <;> first | rfl | exact getD_no rfl)), ?_⟩)⟩ rfl rfl rfl (Nat.le_of_ble_eq_true rfl) ?_
  refine ARun.nil ?_
  refine AW.seq ?_
  refine AW.region ?_
  refine ARun.alloc (id := 2) (l := [.con (.slice none 0 0), .int .i64 0]) (z := (.agg #[.slice none 0 0, .int .i64 0])) rfl (by kernel_rfl) (fun _ _ _ => ⟨_, _, rfl, rfl, ⟨_, _, rfl, rfl, rfl⟩⟩) ⟨rfl, (by repeat first | exact trivial | refine ⟨by decide, by first | rfl | exact trivial | (intro i j; first | rfl | exact getD_no rfl | (dsimp only; split <;> first | rfl | exact getD_no rfl)), ?_⟩)⟩ rfl rfl rfl (Nat.le_of_ble_eq_true rfl) ?_
  refine ARun.nil ?_
  refine AW.seq ?_
  refine AW.region ?_
  refine ARun.pure (PureOp.fieldPtr rfl (.tmp rfl) vp_fi_24_0_0) rfl rfl (Nat.le_of_ble_eq_true rfl) ?_
  refine ARun.pure (PureOp.loadPtr rfl (.tmp rfl) vp_pl_22 rfl rfl (Nat.le_of_ble_eq_true rfl) (Nat.le_of_ble_eq_true rfl)) rfl rfl (Nat.le_of_ble_eq_true rfl) ?_
  refine ARun.prod (K := 3) rfl (v_toRowS x.rows (Small.mk (by omega))) ⟨rfl, (by repeat first | exact trivial | refine ⟨by decide, by first | rfl | exact trivial | (intro i j; first | rfl | exact getD_no rfl | (dsimp only; split <;> first | rfl | exact getD_no rfl)), ?_⟩)⟩ ⟨⟨_, (.tmp rfl), .lst⟩, trivial⟩ vp_ca_45 rfl rfl rfl rfl rfl (Nat.le_of_ble_eq_true rfl) ?_
  refine ARun.pure (PureOp.fieldPtr rfl (.tmp rfl) vp_fi_29_0_0) rfl rfl (Nat.le_of_ble_eq_true rfl) ?_
  refine ARun.store rfl (.tmp rfl) (.tmp rfl) trivial rfl (Nat.le_of_ble_eq_true rfl) vp_sz_27_1 rfl rfl ?_
  refine ARun.nil ?_
  refine AW.seq ?_
  refine AW.region ?_
  refine ARun.pure (PureOp.fieldPtr rfl (.tmp rfl) vp_fi_24_1_1) rfl rfl (Nat.le_of_ble_eq_true rfl) ?_
  refine ARun.pure (PureOp.loadPtr rfl (.tmp rfl) vp_pl_3 rfl rfl (Nat.le_of_ble_eq_true rfl) (Nat.le_of_ble_eq_true rfl)) rfl rfl (Nat.le_of_ble_eq_true rfl) ?_
  refine ARun.pure (PureOp.fieldPtr rfl (.tmp rfl) vp_fi_29_1_1) rfl rfl (Nat.le_of_ble_eq_true rfl) ?_
  refine ARun.store rfl (.tmp rfl) (.tmp rfl) trivial rfl (Nat.le_of_ble_eq_true rfl) vp_sz_3_1 rfl rfl ?_
  refine ARun.nil ?_
  refine AW.seq ?_
  refine AW.region ?_
  refine ARun.pure (PureOp.loadPtrAgg rfl (.tmp rfl) vp_ag_29_2 rfl rfl (Nat.le_of_ble_eq_true rfl) (Nat.le_of_ble_eq_true rfl)) rfl rfl (Nat.le_of_ble_eq_true rfl) ?_
  refine ARun.store rfl (.tmp rfl) (.tmp rfl) (SV.cells_of (by exact ⟨trivial, trivial, trivial⟩)) rfl (Nat.le_of_ble_eq_true rfl) vp_sz_29_2 rfl rfl ?_
  refine ARun.nil ?_
  exact AW.ret (show ∃ s t, ResL _ _ [.cell 2 29] s ∧ TvS _ (ofLeaf t) 0 s _ from ⟨_, fun a b => if a = 3 then 0 else 1000, .inl ⟨_, rfl, .cells rfl vp_ag_29_2 rfl rfl (Nat.le_of_ble_eq_true rfl) (Nat.le_of_ble_eq_true rfl)⟩, ⟨(Tv.cast (Tv.tre rfl (Nat.le_of_ble_eq_true rfl) (by rfl)) rfl), .int, trivial⟩⟩)
end Go.Proofs.Ytmfkmifkkplidaa
