/-
  The laws' own copies (to) over the data of this seat.
-/
import Derived.Test.YtmfkmifkkplidaaTy6
namespace Go.Proofs.Ytmfkmifkkplidaa
open Go.ChangeShapes Go.WideShapes Go.ChangeAt Go.RowKit Go.BigFrame Go.Deep
set_option linter.unusedVariables false
set_option linter.unusedSimpArgs false
theorem vo_ag_103_2 : aggB Try.prog 103 2 = true := by kernel_rfl
theorem vo_ag_124_2 : aggB Try.prog 124 2 = true := by kernel_rfl
theorem vo_ag_29_2 : aggB Try.prog 29 2 = true := by kernel_rfl
theorem vo_ag_47_3 : aggB Try.prog 47 3 = true := by kernel_rfl
theorem vo_ag_67_2 : aggB Try.prog 67 2 = true := by kernel_rfl
theorem vo_ag_81_2 : aggB Try.prog 81 2 = true := by kernel_rfl
theorem vo_ca_45 : callB Try.prog 45 = true := by kernel_rfl
theorem vo_ca_69 : callB Try.prog 69 = true := by kernel_rfl
theorem vo_ca_85 : callB Try.prog 85 = true := by kernel_rfl
theorem vo_ca_90 : callB Try.prog 90 = true := by kernel_rfl
theorem vo_el_101_2 : elemB Try.prog 101 2 = true := by kernel_rfl
theorem vo_el_22_2 : elemB Try.prog 22 2 = true := by kernel_rfl
theorem vo_el_27_2 : elemB Try.prog 27 2 = true := by kernel_rfl
theorem vo_el_33_2 : elemB Try.prog 33 2 = true := by kernel_rfl
theorem vo_fi_103_0_0 : fieldB Try.prog 103 0 0 = true := by kernel_rfl
theorem vo_fi_103_1_1 : fieldB Try.prog 103 1 1 = true := by kernel_rfl
theorem vo_fi_124_0_0 : fieldB Try.prog 124 0 0 = true := by kernel_rfl
theorem vo_fi_124_1_1 : fieldB Try.prog 124 1 1 = true := by kernel_rfl
theorem vo_fi_24_0_0 : fieldB Try.prog 24 0 0 = true := by kernel_rfl
theorem vo_fi_24_1_1 : fieldB Try.prog 24 1 1 = true := by kernel_rfl
theorem vo_fi_29_0_0 : fieldB Try.prog 29 0 0 = true := by kernel_rfl
theorem vo_fi_29_1_1 : fieldB Try.prog 29 1 1 = true := by kernel_rfl
theorem vo_fi_44_0_0 : fieldB Try.prog 44 0 0 = true := by kernel_rfl
theorem vo_fi_44_1_1 : fieldB Try.prog 44 1 1 = true := by kernel_rfl
theorem vo_fi_44_2_2 : fieldB Try.prog 44 2 2 = true := by kernel_rfl
theorem vo_fi_47_0_0 : fieldB Try.prog 47 0 0 = true := by kernel_rfl
theorem vo_fi_47_1_1 : fieldB Try.prog 47 1 1 = true := by kernel_rfl
theorem vo_fi_47_2_2 : fieldB Try.prog 47 2 2 = true := by kernel_rfl
theorem vo_fi_67_0_0 : fieldB Try.prog 67 0 0 = true := by kernel_rfl
theorem vo_fi_67_1_1 : fieldB Try.prog 67 1 1 = true := by kernel_rfl
theorem vo_fi_81_0_0 : fieldB Try.prog 81 0 0 = true := by kernel_rfl
theorem vo_fi_81_1_1 : fieldB Try.prog 81 1 1 = true := by kernel_rfl
theorem vo_pl_101 : plainB Try.prog 101 = true := by kernel_rfl
theorem vo_pl_22 : plainB Try.prog 22 = true := by kernel_rfl
theorem vo_pl_3 : plainB Try.prog 3 = true := by kernel_rfl
theorem vo_pl_9 : plainB Try.prog 9 = true := by kernel_rfl
theorem vo_sl_101 : sliceB Try.prog 101 = true := by kernel_rfl
theorem vo_sl_22 : sliceB Try.prog 22 = true := by kernel_rfl
theorem vo_sz_27_1 : sizeB Try.prog 27 1 = true := by kernel_rfl
theorem vo_sz_29_2 : sizeB Try.prog 29 2 = true := by kernel_rfl
theorem vo_sz_33_1 : sizeB Try.prog 33 1 = true := by kernel_rfl
theorem vo_sz_3_1 : sizeB Try.prog 3 1 = true := by kernel_rfl
theorem vo_sz_47_3 : sizeB Try.prog 47 3 = true := by kernel_rfl
theorem vo_sz_67_2 : sizeB Try.prog 67 2 = true := by kernel_rfl
theorem vo_sz_81_2 : sizeB Try.prog 81 2 = true := by kernel_rfl
theorem vo_sz_9_1 : sizeB Try.prog 9 1 = true := by kernel_rfl
theorem v_toSample (x : GSample) : FnF Try.prog 90 [.agg [.int .i64 x.at_, .int .i64 x.value]] (.agg [.int .i64 x.at_, .int .i64 x.value]) := by
  refine FnF.of_body (fn := Try.f90) Try.func90 rfl (Nat.le_of_ble_eq_true rfl)  ?_
  intro w0
  show AW _ 11 _ _ _ _
  refine AW.seq ?_
  refine AW.region ?_
  refine ARun.box (id := 0) rfl (.tmp rfl) (SV.cells_of (by exact ⟨trivial, trivial, trivial⟩)) ⟨rfl, (by repeat first | exact trivial | refine ⟨by decide, by first | rfl | (intro i j; first | rfl | (dsimp only; split <;> rfl)), ?_⟩)⟩ rfl rfl rfl (Nat.le_of_ble_eq_true rfl) ?_
  refine ARun.alloc (id := 1) (l := [.int .i64 0, .int .i64 0]) (z := (.agg #[.int .i64 0, .int .i64 0])) rfl (by kernel_rfl) (fun _ _ _ => ⟨_, _, rfl, rfl, ⟨_, _, rfl, rfl, rfl⟩⟩) ⟨rfl, (by repeat first | exact trivial | refine ⟨by decide, by first | rfl | (intro i j; first | rfl | (dsimp only; split <;> rfl)), ?_⟩)⟩ rfl rfl rfl (Nat.le_of_ble_eq_true rfl) ?_
  refine ARun.nil ?_
  refine AW.seq ?_
  refine AW.region ?_
  refine ARun.alloc (id := 2) (l := [.int .i64 0, .int .i64 0]) (z := (.agg #[.int .i64 0, .int .i64 0])) rfl (by kernel_rfl) (fun _ _ _ => ⟨_, _, rfl, rfl, ⟨_, _, rfl, rfl, rfl⟩⟩) ⟨rfl, (by repeat first | exact trivial | refine ⟨by decide, by first | rfl | (intro i j; first | rfl | (dsimp only; split <;> rfl)), ?_⟩)⟩ rfl rfl rfl (Nat.le_of_ble_eq_true rfl) ?_
  refine ARun.nil ?_
  refine AW.seq ?_
  refine AW.region ?_
  refine ARun.pure (PureOp.fieldPtr rfl (.tmp rfl) vo_fi_124_0_0) rfl rfl (Nat.le_of_ble_eq_true rfl) ?_
  refine ARun.pure (PureOp.loadPtr rfl (.tmp rfl) vo_pl_3 rfl rfl (Nat.le_of_ble_eq_true rfl) (Nat.le_of_ble_eq_true rfl)) rfl rfl (Nat.le_of_ble_eq_true rfl) ?_
  refine ARun.pure (PureOp.fieldPtr rfl (.tmp rfl) vo_fi_81_0_0) rfl rfl (Nat.le_of_ble_eq_true rfl) ?_
  refine ARun.store rfl (.tmp rfl) (.tmp rfl) trivial rfl (Nat.le_of_ble_eq_true rfl) vo_sz_3_1 rfl rfl ?_
  refine ARun.nil ?_
  refine AW.seq ?_
  refine AW.region ?_
  refine ARun.pure (PureOp.fieldPtr rfl (.tmp rfl) vo_fi_124_1_1) rfl rfl (Nat.le_of_ble_eq_true rfl) ?_
  refine ARun.pure (PureOp.loadPtr rfl (.tmp rfl) vo_pl_3 rfl rfl (Nat.le_of_ble_eq_true rfl) (Nat.le_of_ble_eq_true rfl)) rfl rfl (Nat.le_of_ble_eq_true rfl) ?_
  refine ARun.pure (PureOp.fieldPtr rfl (.tmp rfl) vo_fi_81_1_1) rfl rfl (Nat.le_of_ble_eq_true rfl) ?_
  refine ARun.store rfl (.tmp rfl) (.tmp rfl) trivial rfl (Nat.le_of_ble_eq_true rfl) vo_sz_3_1 rfl rfl ?_
  refine ARun.nil ?_
  refine AW.seq ?_
  refine AW.region ?_
  refine ARun.pure (PureOp.loadPtrAgg rfl (.tmp rfl) vo_ag_81_2 rfl rfl (Nat.le_of_ble_eq_true rfl) (Nat.le_of_ble_eq_true rfl)) rfl rfl (Nat.le_of_ble_eq_true rfl) ?_
  refine ARun.store rfl (.tmp rfl) (.tmp rfl) (SV.cells_of (by exact ⟨trivial, trivial, trivial⟩)) rfl (Nat.le_of_ble_eq_true rfl) vo_sz_81_2 rfl rfl ?_
  refine ARun.nil ?_
  exact AW.ret (show ∃ s, ResL _ _ [.cell 2 81] s ∧ FvS _ s _ from ⟨_, .inl ⟨_, rfl, .cells rfl vo_ag_81_2 rfl rfl (Nat.le_of_ble_eq_true rfl) (Nat.le_of_ble_eq_true rfl)⟩, ⟨.int, .int, trivial⟩⟩)

theorem v_toSampleS (x : List GSample) (hw : Small (x.length)) : FnF Try.prog 85 [.one (.lst 2 x.length (fun i0 j0 => ([.int .i64 ((x.getD i0 (default : GSample)).at_), .int .i64 ((x.getD i0 (default : GSample)).value)] : List AV).getD j0 (.con undef)))] (.one (.lst 2 x.length (fun i0 j0 => ([.int .i64 ((x.getD i0 (default : GSample)).at_), .int .i64 ((x.getD i0 (default : GSample)).value)] : List AV).getD j0 (.con undef)))) := by
  unfold Small at hw
  have hlen : x.length ≤ 1048576 := by omega
  refine FnF.of_body (fn := Try.f85) Try.func85 rfl (Nat.le_of_ble_eq_true rfl)  ?_
  intro w0
  show AW _ 23 _ _ _ _
  refine AW.seq ?_
  refine AW.region ?_
  refine ARun.pure (PureOp.assign rfl (.nil 1 (fun _ _ => .con undef))) rfl rfl (Nat.le_of_ble_eq_true rfl) ?_
  refine ARun.nil ?_
  refine AW.seq ?_
  refine AW.region ?_
  refine ARun.pure (PureOp.move rfl (.tmp rfl)) rfl rfl (Nat.le_of_ble_eq_true rfl) ?_
  refine ARun.pure (PureOp.lenLst rfl (.tmp rfl) vo_sl_101) rfl rfl (Nat.le_of_ble_eq_true rfl) ?_
  refine ARun.make (id := 0) (n := x.length) (l := [.int .i64 0, .int .i64 0]) (z := (.agg #[.int .i64 0, .int .i64 0])) (by_ := 16) rfl (by kernel_rfl) (fun _ _ _ => ⟨_, _, rfl, rfl, ⟨_, _, rfl, rfl, rfl⟩⟩) (.tmp rfl) (.tmp rfl) rfl rfl (by omega) (by omega) (by decide) ⟨rfl, (by repeat first | exact trivial | refine ⟨by decide, by first | rfl | (intro i j; first | rfl | (dsimp only; split <;> rfl)), ?_⟩)⟩ rfl rfl rfl (Nat.le_of_ble_eq_true rfl) ?_
  refine ARun.pure (PureOp.assign rfl (.tmp rfl)) rfl rfl (Nat.le_of_ble_eq_true rfl) ?_
  refine ARun.nil ?_
  refine AW.seq ?_
  refine AW.seq ?_
  refine AW.region ?_
  refine ARun.pure (PureOp.assign rfl .int) rfl rfl (Nat.le_of_ble_eq_true rfl) ?_
  refine ARun.nil ?_
  refine AW.block ?_
  refine AW.loop (ι := Nat) (fun k => ⟨[(0, .one (.lst 2 x.length (fun i0 j0 => ([.int .i64 ((x.getD i0 (default : GSample)).at_), .int .i64 ((x.getD i0 (default : GSample)).value)] : List AV).getD j0 (.con undef)))), (3, .one (.own 0 2 x.length)), (4, .one (.int .i64 (k : Int)))], [(0, .arr 2 x.length (fun a b => if a < k then (fun i0 j0 => ([.int .i64 ((x.getD i0 (default : GSample)).at_), .int .i64 ((x.getD i0 (default : GSample)).value)] : List AV).getD j0 (.con undef)) a b else ([.int .i64 0, .int .i64 0] : List AV).getD b (.con undef)))]⟩) (fun k => k ≤ x.length) (fun k => x.length - k) 0 (Nat.zero_le _) ⟨⟨⟨_, rfl, rfl⟩, ⟨_, rfl, rfl⟩, ⟨_, rfl, rfl⟩, trivial⟩, ⟨⟨_, rfl, rfl, Nat.le_refl _, fun a b _ _ => by simp [AObj.f]⟩, trivial⟩⟩ ?_
  intro k hk
  refine AW.seq ?_
  refine AW.seq ?_
  refine AW.region ?_
  refine ARun.pure (PureOp.move rfl (.tmp rfl)) rfl rfl (Nat.le_of_ble_eq_true rfl) ?_
  refine ARun.pure (PureOp.move rfl (.tmp rfl)) rfl rfl (Nat.le_of_ble_eq_true rfl) ?_
  refine ARun.pure (PureOp.lenLst rfl (.tmp rfl) vo_sl_101) rfl rfl (Nat.le_of_ble_eq_true rfl) ?_
  refine ARun.pure (PureOp.intOp rfl (.tmp rfl) (.tmp rfl) rfl) rfl rfl (Nat.le_of_ble_eq_true rfl) ?_
  refine ARun.nil ?_
  refine AW.cond (.tmp rfl) (fun hb1 => ?_) (fun hb1 => ?_)
  · have _u := True.intro
    replace hb1 := of_decide_eq_true hb1
    have hlt : k < x.length := by omega
    refine AW.skip ?_
    refine AW.seq ?_
    refine AW.block ?_
    refine AW.region ?_
    refine ARun.pure (PureOp.move rfl (.tmp rfl)) rfl rfl (Nat.le_of_ble_eq_true rfl) ?_
    refine ARun.pure (PureOp.move rfl (.tmp rfl)) rfl rfl (Nat.le_of_ble_eq_true rfl) ?_
    refine ARun.pure (PureOp.move rfl (.tmp rfl)) rfl rfl (Nat.le_of_ble_eq_true rfl) ?_
    refine ARun.pure (PureOp.move rfl (.tmp rfl)) rfl rfl (Nat.le_of_ble_eq_true rfl) ?_
    refine ARun.pure (PureOp.indexLst (i := k) rfl (.tmp rfl) vo_el_101_2 (.tmp rfl) rfl (by omega)) rfl rfl (Nat.le_of_ble_eq_true rfl) ?_
    refine ARun.pure (PureOp.loadRefAgg rfl (.tmp rfl) vo_ag_124_2 (Nat.le_of_ble_eq_true rfl)) rfl rfl (Nat.le_of_ble_eq_true rfl) ?_
    refine ARun.fresh (FreshOp.callS rfl (v_toSample (x.getD k (default : GSample))) ⟨⟨_, (.tmp rfl), ⟨.int, .int, trivial⟩⟩, trivial⟩ vo_ca_90 rfl) rfl rfl (Nat.le_of_ble_eq_true rfl) ?_
    refine ARun.pure (PureOp.indexOwn (i := k) rfl (.tmp rfl) vo_el_33_2 (.tmp rfl) rfl (by omega)) rfl rfl (Nat.le_of_ble_eq_true rfl) ?_
    refine ARun.storeElem rfl (.tmp rfl) (.tmp rfl) (SV.cells_of (by exact ⟨trivial, trivial, trivial⟩)) rfl (by omega) rfl vo_sz_81_2 rfl rfl ?_
    refine ARun.nil ?_
    refine AW.region ?_
    refine ARun.pure (PureOp.move rfl (.tmp rfl)) rfl rfl (Nat.le_of_ble_eq_true rfl) ?_
    refine ARun.pure (PureOp.add (c := ((k + 1 : Nat) : Int)) rfl (.tmp rfl) .int (by rw [wrap_id (by omega) (by omega)]; omega)) rfl rfl (Nat.le_of_ble_eq_true rfl) ?_
    refine ARun.pure (PureOp.assign rfl (.tmp rfl)) rfl rfl (Nat.le_of_ble_eq_true rfl) ?_
    refine ARun.nil ?_
    exact ⟨k + 1, by omega, by dsimp only; omega, ⟨⟨⟨_, rfl, rfl⟩, ⟨_, rfl, rfl⟩, ⟨_, rfl, rfl⟩, trivial⟩, ⟨⟨_, rfl, rfl, Nat.le_refl _, fun a b _ hb => fill_next (sz := 2) (k := k) (g := fun i0 j0 => ([.int .i64 ((x.getD i0 (default : GSample)).at_), .int .i64 ((x.getD i0 (default : GSample)).value)] : List AV).getD j0 (.con undef)) (z := fun b => ([.int .i64 0, .int .i64 0] : List AV).getD b (.con undef)) (c := fun b => ([.int .i64 ((x.getD k (default : GSample)).at_), .int .i64 ((x.getD k (default : GSample)).value)] : List AV).getD b (.con undef)) (fun b hb => match b, hb with | 0, _ => rfl | 1, _ => rfl | _ + 2, h => absurd h (by omega)) a b hb⟩, trivial⟩⟩⟩
  · have _u := True.intro
    replace hb1 := of_decide_eq_false hb1
    have hlt : ¬ k < x.length := by omega
    refine AW.exit ?_
    refine AW.seq ?_
    refine AW.region ?_
    refine ARun.pure (PureOp.move rfl (.tmp rfl)) rfl rfl (Nat.le_of_ble_eq_true rfl) ?_
    refine ARun.pure (PureOp.assign rfl (.tmp rfl)) rfl rfl (Nat.le_of_ble_eq_true rfl) ?_
    refine ARun.nil ?_
    exact AW.ret (show ∃ s, ResL _ _ [.tmp 2] s ∧ FvS _ s _ from ⟨_, .inl ⟨_, rfl, .tmp rfl⟩, (.own rfl rfl (Nat.le_refl _) (fun i j hi hj => Fv.ite (show i < k by omega) (match j, hj with | 0, _ => .int | 1, _ => .int | _ + 2, h => absurd h (by omega))))⟩)

theorem v_toRow (x : GRow) (hw : Small (wtRow x)) : FnF Try.prog 69 [.agg [.str x.name, .lst 2 x.samples.length (fun i0 j0 => ([.int .i64 ((x.samples.getD i0 (default : GSample)).at_), .int .i64 ((x.samples.getD i0 (default : GSample)).value)] : List AV).getD j0 (.con undef))]] (.agg [.str x.name, .lst 2 x.samples.length (fun i0 j0 => ([.int .i64 ((x.samples.getD i0 (default : GSample)).at_), .int .i64 ((x.samples.getD i0 (default : GSample)).value)] : List AV).getD j0 (.con undef))]) := by
  unfold Small wtRow at hw
  refine FnF.of_body (fn := Try.f69) Try.func69 rfl (Nat.le_of_ble_eq_true rfl)  ?_
  intro w0
  show AW _ 12 _ _ _ _
  refine AW.seq ?_
  refine AW.region ?_
  refine ARun.box (id := 0) rfl (.tmp rfl) (SV.cells_of (by exact ⟨trivial, trivial, trivial⟩)) ⟨rfl, (by repeat first | exact trivial | refine ⟨by decide, by first | rfl | (intro i j; first | rfl | (dsimp only; split <;> rfl)), ?_⟩)⟩ rfl rfl rfl (Nat.le_of_ble_eq_true rfl) ?_
  refine ARun.alloc (id := 1) (l := [.str ByteArray.empty, .lst 2 0 (fun _ _ => .con undef)]) (z := (.agg #[.string ByteArray.empty, .slice none 0 0])) rfl (by kernel_rfl) (fun _ _ _ => ⟨_, _, rfl, ⟨rfl, by decide⟩, ⟨_, _, rfl, ⟨none, 0, rfl, Nat.le_refl _, by decide, fun _ => rfl, fun i hi => absurd hi (by omega)⟩, rfl⟩⟩) ⟨rfl, (by repeat first | exact trivial | refine ⟨by decide, by first | rfl | (intro i j; first | rfl | (dsimp only; split <;> rfl)), ?_⟩)⟩ rfl rfl rfl (Nat.le_of_ble_eq_true rfl) ?_
  refine ARun.nil ?_
  refine AW.seq ?_
  refine AW.region ?_
  refine ARun.alloc (id := 2) (l := [.str ByteArray.empty, .lst 2 0 (fun _ _ => .con undef)]) (z := (.agg #[.string ByteArray.empty, .slice none 0 0])) rfl (by kernel_rfl) (fun _ _ _ => ⟨_, _, rfl, ⟨rfl, by decide⟩, ⟨_, _, rfl, ⟨none, 0, rfl, Nat.le_refl _, by decide, fun _ => rfl, fun i hi => absurd hi (by omega)⟩, rfl⟩⟩) ⟨rfl, (by repeat first | exact trivial | refine ⟨by decide, by first | rfl | (intro i j; first | rfl | (dsimp only; split <;> rfl)), ?_⟩)⟩ rfl rfl rfl (Nat.le_of_ble_eq_true rfl) ?_
  refine ARun.nil ?_
  refine AW.seq ?_
  refine AW.region ?_
  refine ARun.pure (PureOp.fieldPtr rfl (.tmp rfl) vo_fi_103_0_0) rfl rfl (Nat.le_of_ble_eq_true rfl) ?_
  refine ARun.pure (PureOp.loadPtr rfl (.tmp rfl) vo_pl_9 rfl rfl (Nat.le_of_ble_eq_true rfl) (Nat.le_of_ble_eq_true rfl)) rfl rfl (Nat.le_of_ble_eq_true rfl) ?_
  refine ARun.pure (PureOp.fieldPtr rfl (.tmp rfl) vo_fi_67_0_0) rfl rfl (Nat.le_of_ble_eq_true rfl) ?_
  refine ARun.store rfl (.tmp rfl) (.tmp rfl) trivial rfl (Nat.le_of_ble_eq_true rfl) vo_sz_9_1 rfl rfl ?_
  refine ARun.nil ?_
  refine AW.seq ?_
  refine AW.region ?_
  refine ARun.pure (PureOp.fieldPtr rfl (.tmp rfl) vo_fi_103_1_1) rfl rfl (Nat.le_of_ble_eq_true rfl) ?_
  refine ARun.pure (PureOp.loadPtr rfl (.tmp rfl) vo_pl_101 rfl rfl (Nat.le_of_ble_eq_true rfl) (Nat.le_of_ble_eq_true rfl)) rfl rfl (Nat.le_of_ble_eq_true rfl) ?_
  refine ARun.fresh (FreshOp.callS rfl (v_toSampleS x.samples (Small.mk (by omega))) ⟨⟨_, (.tmp rfl), .lst⟩, trivial⟩ vo_ca_85 rfl) rfl rfl (Nat.le_of_ble_eq_true rfl) ?_
  refine ARun.pure (PureOp.fieldPtr rfl (.tmp rfl) vo_fi_67_1_1) rfl rfl (Nat.le_of_ble_eq_true rfl) ?_
  refine ARun.store rfl (.tmp rfl) (.tmp rfl) trivial rfl (Nat.le_of_ble_eq_true rfl) vo_sz_33_1 rfl rfl ?_
  refine ARun.nil ?_
  refine AW.seq ?_
  refine AW.region ?_
  refine ARun.pure (PureOp.loadPtrAgg rfl (.tmp rfl) vo_ag_67_2 rfl rfl (Nat.le_of_ble_eq_true rfl) (Nat.le_of_ble_eq_true rfl)) rfl rfl (Nat.le_of_ble_eq_true rfl) ?_
  refine ARun.store rfl (.tmp rfl) (.tmp rfl) (SV.cells_of (by exact ⟨trivial, trivial, trivial⟩)) rfl (Nat.le_of_ble_eq_true rfl) vo_sz_67_2 rfl rfl ?_
  refine ARun.nil ?_
  exact AW.ret (show ∃ s, ResL _ _ [.cell 2 67] s ∧ FvS _ s _ from ⟨_, .inl ⟨_, rfl, .cells rfl vo_ag_67_2 rfl rfl (Nat.le_of_ble_eq_true rfl) (Nat.le_of_ble_eq_true rfl)⟩, ⟨.str, .frs, trivial⟩⟩)

theorem v_toRowS (x : List GRow) (hw : Small (wtl wtRow x)) : FnF Try.prog 45 [.one (.lst 2 x.length (fun i0 j0 => ([.str ((x.getD i0 (default : GRow)).name), .lst 2 (((x.getD i0 (default : GRow)).samples).length) (fun i1 j1 => ([.int .i64 ((((x.getD i0 (default : GRow)).samples).getD i1 (default : GSample)).at_), .int .i64 ((((x.getD i0 (default : GRow)).samples).getD i1 (default : GSample)).value)] : List AV).getD j1 (.con undef))] : List AV).getD j0 (.con undef)))] (.one (.lst 2 x.length (fun i0 j0 => ([.str ((x.getD i0 (default : GRow)).name), .lst 2 (((x.getD i0 (default : GRow)).samples).length) (fun i1 j1 => ([.int .i64 ((((x.getD i0 (default : GRow)).samples).getD i1 (default : GSample)).at_), .int .i64 ((((x.getD i0 (default : GRow)).samples).getD i1 (default : GSample)).value)] : List AV).getD j1 (.con undef))] : List AV).getD j0 (.con undef)))) := by
  unfold Small at hw
  replace hw : x.length + (x.map wtRow).sum ≤ 1048576 := hw
  have hlen : x.length ≤ 1048576 := by omega
  refine FnF.of_body (fn := Try.f45) Try.func45 rfl (Nat.le_of_ble_eq_true rfl)  ?_
  intro w0
  show AW _ 23 _ _ _ _
  refine AW.seq ?_
  refine AW.region ?_
  refine ARun.pure (PureOp.assign rfl (.nil 1 (fun _ _ => .con undef))) rfl rfl (Nat.le_of_ble_eq_true rfl) ?_
  refine ARun.nil ?_
  refine AW.seq ?_
  refine AW.region ?_
  refine ARun.pure (PureOp.move rfl (.tmp rfl)) rfl rfl (Nat.le_of_ble_eq_true rfl) ?_
  refine ARun.pure (PureOp.lenLst rfl (.tmp rfl) vo_sl_22) rfl rfl (Nat.le_of_ble_eq_true rfl) ?_
  refine ARun.make (id := 0) (n := x.length) (l := [.str ByteArray.empty, .lst 2 0 (fun _ _ => .con undef)]) (z := (.agg #[.string ByteArray.empty, .slice none 0 0])) (by_ := 40) rfl (by kernel_rfl) (fun _ _ _ => ⟨_, _, rfl, ⟨rfl, by decide⟩, ⟨_, _, rfl, ⟨none, 0, rfl, Nat.le_refl _, by decide, fun _ => rfl, fun i hi => absurd hi (by omega)⟩, rfl⟩⟩) (.tmp rfl) (.tmp rfl) rfl rfl (by omega) (by omega) (by decide) ⟨rfl, (by repeat first | exact trivial | refine ⟨by decide, by first | rfl | (intro i j; first | rfl | (dsimp only; split <;> rfl)), ?_⟩)⟩ rfl rfl rfl (Nat.le_of_ble_eq_true rfl) ?_
  refine ARun.pure (PureOp.assign rfl (.tmp rfl)) rfl rfl (Nat.le_of_ble_eq_true rfl) ?_
  refine ARun.nil ?_
  refine AW.seq ?_
  refine AW.seq ?_
  refine AW.region ?_
  refine ARun.pure (PureOp.assign rfl .int) rfl rfl (Nat.le_of_ble_eq_true rfl) ?_
  refine ARun.nil ?_
  refine AW.block ?_
  refine AW.loop (ι := Nat) (fun k => ⟨[(0, .one (.lst 2 x.length (fun i0 j0 => ([.str ((x.getD i0 (default : GRow)).name), .lst 2 (((x.getD i0 (default : GRow)).samples).length) (fun i1 j1 => ([.int .i64 ((((x.getD i0 (default : GRow)).samples).getD i1 (default : GSample)).at_), .int .i64 ((((x.getD i0 (default : GRow)).samples).getD i1 (default : GSample)).value)] : List AV).getD j1 (.con undef))] : List AV).getD j0 (.con undef)))), (3, .one (.own 0 2 x.length)), (4, .one (.int .i64 (k : Int)))], [(0, .arr 2 x.length (fun a b => if a < k then (fun i0 j0 => ([.str ((x.getD i0 (default : GRow)).name), .frs (.lst 2 (((x.getD i0 (default : GRow)).samples).length) (fun i1 j1 => ([.int .i64 ((((x.getD i0 (default : GRow)).samples).getD i1 (default : GSample)).at_), .int .i64 ((((x.getD i0 (default : GRow)).samples).getD i1 (default : GSample)).value)] : List AV).getD j1 (.con undef)))] : List AV).getD j0 (.con undef)) a b else ([.str ByteArray.empty, .lst 2 0 (fun _ _ => .con undef)] : List AV).getD b (.con undef)))]⟩) (fun k => k ≤ x.length) (fun k => x.length - k) 0 (Nat.zero_le _) ⟨⟨⟨_, rfl, rfl⟩, ⟨_, rfl, rfl⟩, ⟨_, rfl, rfl⟩, trivial⟩, ⟨⟨_, rfl, rfl, Nat.le_refl _, fun a b _ _ => by simp [AObj.f]⟩, trivial⟩⟩ ?_
  intro k hk
  refine AW.seq ?_
  refine AW.seq ?_
  refine AW.region ?_
  refine ARun.pure (PureOp.move rfl (.tmp rfl)) rfl rfl (Nat.le_of_ble_eq_true rfl) ?_
  refine ARun.pure (PureOp.move rfl (.tmp rfl)) rfl rfl (Nat.le_of_ble_eq_true rfl) ?_
  refine ARun.pure (PureOp.lenLst rfl (.tmp rfl) vo_sl_22) rfl rfl (Nat.le_of_ble_eq_true rfl) ?_
  refine ARun.pure (PureOp.intOp rfl (.tmp rfl) (.tmp rfl) rfl) rfl rfl (Nat.le_of_ble_eq_true rfl) ?_
  refine ARun.nil ?_
  refine AW.cond (.tmp rfl) (fun hb1 => ?_) (fun hb1 => ?_)
  · have _u := True.intro
    replace hb1 := of_decide_eq_true hb1
    have hlt : k < x.length := by omega
    have hwk := wt_at (f := wtRow) (default : GRow) hlt
    refine AW.skip ?_
    refine AW.seq ?_
    refine AW.block ?_
    refine AW.region ?_
    refine ARun.pure (PureOp.move rfl (.tmp rfl)) rfl rfl (Nat.le_of_ble_eq_true rfl) ?_
    refine ARun.pure (PureOp.move rfl (.tmp rfl)) rfl rfl (Nat.le_of_ble_eq_true rfl) ?_
    refine ARun.pure (PureOp.move rfl (.tmp rfl)) rfl rfl (Nat.le_of_ble_eq_true rfl) ?_
    refine ARun.pure (PureOp.move rfl (.tmp rfl)) rfl rfl (Nat.le_of_ble_eq_true rfl) ?_
    refine ARun.pure (PureOp.indexLst (i := k) rfl (.tmp rfl) vo_el_22_2 (.tmp rfl) rfl (by omega)) rfl rfl (Nat.le_of_ble_eq_true rfl) ?_
    refine ARun.pure (PureOp.loadRefAgg rfl (.tmp rfl) vo_ag_103_2 (Nat.le_of_ble_eq_true rfl)) rfl rfl (Nat.le_of_ble_eq_true rfl) ?_
    refine ARun.fresh (FreshOp.callS rfl (v_toRow (x.getD k (default : GRow)) (Small.mk (by omega))) ⟨⟨_, (.tmp rfl), ⟨.str, .lst, trivial⟩⟩, trivial⟩ vo_ca_69 rfl) rfl rfl (Nat.le_of_ble_eq_true rfl) ?_
    refine ARun.pure (PureOp.indexOwn (i := k) rfl (.tmp rfl) vo_el_27_2 (.tmp rfl) rfl (by omega)) rfl rfl (Nat.le_of_ble_eq_true rfl) ?_
    refine ARun.storeElem rfl (.tmp rfl) (.tmp rfl) (SV.cells_of (by exact ⟨trivial, trivial, trivial⟩)) rfl (by omega) rfl vo_sz_67_2 rfl rfl ?_
    refine ARun.nil ?_
    refine AW.region ?_
    refine ARun.pure (PureOp.move rfl (.tmp rfl)) rfl rfl (Nat.le_of_ble_eq_true rfl) ?_
    refine ARun.pure (PureOp.add (c := ((k + 1 : Nat) : Int)) rfl (.tmp rfl) .int (by rw [wrap_id (by omega) (by omega)]; omega)) rfl rfl (Nat.le_of_ble_eq_true rfl) ?_
    refine ARun.pure (PureOp.assign rfl (.tmp rfl)) rfl rfl (Nat.le_of_ble_eq_true rfl) ?_
    refine ARun.nil ?_
    exact ⟨k + 1, by omega, by dsimp only; omega, ⟨⟨⟨_, rfl, rfl⟩, ⟨_, rfl, rfl⟩, ⟨_, rfl, rfl⟩, trivial⟩, ⟨⟨_, rfl, rfl, Nat.le_refl _, fun a b _ hb => fill_next (sz := 2) (k := k) (g := fun i0 j0 => ([.str ((x.getD i0 (default : GRow)).name), .frs (.lst 2 (((x.getD i0 (default : GRow)).samples).length) (fun i1 j1 => ([.int .i64 ((((x.getD i0 (default : GRow)).samples).getD i1 (default : GSample)).at_), .int .i64 ((((x.getD i0 (default : GRow)).samples).getD i1 (default : GSample)).value)] : List AV).getD j1 (.con undef)))] : List AV).getD j0 (.con undef)) (z := fun b => ([.str ByteArray.empty, .lst 2 0 (fun _ _ => .con undef)] : List AV).getD b (.con undef)) (c := fun b => ([.str ((x.getD k (default : GRow)).name), .frs (.lst 2 (((x.getD k (default : GRow)).samples).length) (fun i1 j1 => ([.int .i64 ((((x.getD k (default : GRow)).samples).getD i1 (default : GSample)).at_), .int .i64 ((((x.getD k (default : GRow)).samples).getD i1 (default : GSample)).value)] : List AV).getD j1 (.con undef)))] : List AV).getD b (.con undef)) (fun b hb => match b, hb with | 0, _ => rfl | 1, _ => rfl | _ + 2, h => absurd h (by omega)) a b hb⟩, trivial⟩⟩⟩
  · have _u := True.intro
    replace hb1 := of_decide_eq_false hb1
    have hlt : ¬ k < x.length := by omega
    refine AW.exit ?_
    refine AW.seq ?_
    refine AW.region ?_
    refine ARun.pure (PureOp.move rfl (.tmp rfl)) rfl rfl (Nat.le_of_ble_eq_true rfl) ?_
    refine ARun.pure (PureOp.assign rfl (.tmp rfl)) rfl rfl (Nat.le_of_ble_eq_true rfl) ?_
    refine ARun.nil ?_
    exact AW.ret (show ∃ s, ResL _ _ [.tmp 2] s ∧ FvS _ s _ from ⟨_, .inl ⟨_, rfl, .tmp rfl⟩, (.own rfl rfl (Nat.le_refl _) (fun i j hi hj => Fv.ite (show i < k by omega) (match j, hj with | 0, _ => .str | 1, _ => .frs | _ + 2, h => absurd h (by omega))))⟩)

theorem v_toHead (x : GHead) (hw : Small (wtHead x)) : FnF Try.prog 11 [.agg [.lst 2 x.rows.length (fun i0 j0 => ([.str ((x.rows.getD i0 (default : GRow)).name), .lst 2 (((x.rows.getD i0 (default : GRow)).samples).length) (fun i1 j1 => ([.int .i64 ((((x.rows.getD i0 (default : GRow)).samples).getD i1 (default : GSample)).at_), .int .i64 ((((x.rows.getD i0 (default : GRow)).samples).getD i1 (default : GSample)).value)] : List AV).getD j1 (.con undef))] : List AV).getD j0 (.con undef)), .int .i64 x.offset]] (.agg [.lst 2 x.rows.length (fun i0 j0 => ([.str ((x.rows.getD i0 (default : GRow)).name), .lst 2 (((x.rows.getD i0 (default : GRow)).samples).length) (fun i1 j1 => ([.int .i64 ((((x.rows.getD i0 (default : GRow)).samples).getD i1 (default : GSample)).at_), .int .i64 ((((x.rows.getD i0 (default : GRow)).samples).getD i1 (default : GSample)).value)] : List AV).getD j1 (.con undef))] : List AV).getD j0 (.con undef)), .int .i64 x.offset]) := by
  unfold Small wtHead at hw
  refine FnF.of_body (fn := Try.f11) Try.func11 rfl (Nat.le_of_ble_eq_true rfl)  ?_
  intro w0
  show AW _ 12 _ _ _ _
  refine AW.seq ?_
  refine AW.region ?_
  refine ARun.box (id := 0) rfl (.tmp rfl) (SV.cells_of (by exact ⟨trivial, trivial, trivial⟩)) ⟨rfl, (by repeat first | exact trivial | refine ⟨by decide, by first | rfl | (intro i j; first | rfl | (dsimp only; split <;> rfl)), ?_⟩)⟩ rfl rfl rfl (Nat.le_of_ble_eq_true rfl) ?_
  refine ARun.alloc (id := 1) (l := [.lst 2 0 (fun _ _ => .con undef), .int .i64 0]) (z := (.agg #[.slice none 0 0, .int .i64 0])) rfl (by kernel_rfl) (fun _ _ _ => ⟨_, _, rfl, ⟨none, 0, rfl, Nat.le_refl _, by decide, fun _ => rfl, fun i hi => absurd hi (by omega)⟩, ⟨_, _, rfl, rfl, rfl⟩⟩) ⟨rfl, (by repeat first | exact trivial | refine ⟨by decide, by first | rfl | (intro i j; first | rfl | (dsimp only; split <;> rfl)), ?_⟩)⟩ rfl rfl rfl (Nat.le_of_ble_eq_true rfl) ?_
  refine ARun.nil ?_
  refine AW.seq ?_
  refine AW.region ?_
  refine ARun.alloc (id := 2) (l := [.lst 2 0 (fun _ _ => .con undef), .int .i64 0]) (z := (.agg #[.slice none 0 0, .int .i64 0])) rfl (by kernel_rfl) (fun _ _ _ => ⟨_, _, rfl, ⟨none, 0, rfl, Nat.le_refl _, by decide, fun _ => rfl, fun i hi => absurd hi (by omega)⟩, ⟨_, _, rfl, rfl, rfl⟩⟩) ⟨rfl, (by repeat first | exact trivial | refine ⟨by decide, by first | rfl | (intro i j; first | rfl | (dsimp only; split <;> rfl)), ?_⟩)⟩ rfl rfl rfl (Nat.le_of_ble_eq_true rfl) ?_
  refine ARun.nil ?_
  refine AW.seq ?_
  refine AW.region ?_
  refine ARun.pure (PureOp.fieldPtr rfl (.tmp rfl) vo_fi_24_0_0) rfl rfl (Nat.le_of_ble_eq_true rfl) ?_
  refine ARun.pure (PureOp.loadPtr rfl (.tmp rfl) vo_pl_22 rfl rfl (Nat.le_of_ble_eq_true rfl) (Nat.le_of_ble_eq_true rfl)) rfl rfl (Nat.le_of_ble_eq_true rfl) ?_
  refine ARun.fresh (FreshOp.callS rfl (v_toRowS x.rows (Small.mk (by omega))) ⟨⟨_, (.tmp rfl), .lst⟩, trivial⟩ vo_ca_45 rfl) rfl rfl (Nat.le_of_ble_eq_true rfl) ?_
  refine ARun.pure (PureOp.fieldPtr rfl (.tmp rfl) vo_fi_29_0_0) rfl rfl (Nat.le_of_ble_eq_true rfl) ?_
  refine ARun.store rfl (.tmp rfl) (.tmp rfl) trivial rfl (Nat.le_of_ble_eq_true rfl) vo_sz_27_1 rfl rfl ?_
  refine ARun.nil ?_
  refine AW.seq ?_
  refine AW.region ?_
  refine ARun.pure (PureOp.fieldPtr rfl (.tmp rfl) vo_fi_24_1_1) rfl rfl (Nat.le_of_ble_eq_true rfl) ?_
  refine ARun.pure (PureOp.loadPtr rfl (.tmp rfl) vo_pl_3 rfl rfl (Nat.le_of_ble_eq_true rfl) (Nat.le_of_ble_eq_true rfl)) rfl rfl (Nat.le_of_ble_eq_true rfl) ?_
  refine ARun.pure (PureOp.fieldPtr rfl (.tmp rfl) vo_fi_29_1_1) rfl rfl (Nat.le_of_ble_eq_true rfl) ?_
  refine ARun.store rfl (.tmp rfl) (.tmp rfl) trivial rfl (Nat.le_of_ble_eq_true rfl) vo_sz_3_1 rfl rfl ?_
  refine ARun.nil ?_
  refine AW.seq ?_
  refine AW.region ?_
  refine ARun.pure (PureOp.loadPtrAgg rfl (.tmp rfl) vo_ag_29_2 rfl rfl (Nat.le_of_ble_eq_true rfl) (Nat.le_of_ble_eq_true rfl)) rfl rfl (Nat.le_of_ble_eq_true rfl) ?_
  refine ARun.store rfl (.tmp rfl) (.tmp rfl) (SV.cells_of (by exact ⟨trivial, trivial, trivial⟩)) rfl (Nat.le_of_ble_eq_true rfl) vo_sz_29_2 rfl rfl ?_
  refine ARun.nil ?_
  exact AW.ret (show ∃ s, ResL _ _ [.cell 2 29] s ∧ FvS _ s _ from ⟨_, .inl ⟨_, rfl, .cells rfl vo_ag_29_2 rfl rfl (Nat.le_of_ble_eq_true rfl) (Nat.le_of_ble_eq_true rfl)⟩, ⟨.frs, .int, trivial⟩⟩)

theorem v_toSay (x : GSay) (hw : Small (wtSay x)) : FnF Try.prog 25 [.agg [.str x.name, .int .i64 x.at_, .int .i64 x.value]] (.agg [.str x.name, .int .i64 x.at_, .int .i64 x.value]) := by
  unfold Small wtSay at hw
  refine FnF.of_body (fn := Try.f25) Try.func25 rfl (Nat.le_of_ble_eq_true rfl)  ?_
  intro w0
  show AW _ 14 _ _ _ _
  refine AW.seq ?_
  refine AW.region ?_
  refine ARun.box (id := 0) rfl (.tmp rfl) (SV.cells_of (by exact ⟨trivial, trivial, trivial, trivial⟩)) ⟨rfl, (by repeat first | exact trivial | refine ⟨by decide, by first | rfl | (intro i j; first | rfl | (dsimp only; split <;> rfl)), ?_⟩)⟩ rfl rfl rfl (Nat.le_of_ble_eq_true rfl) ?_
  refine ARun.alloc (id := 1) (l := [.str ByteArray.empty, .int .i64 0, .int .i64 0]) (z := (.agg #[.string ByteArray.empty, .int .i64 0, .int .i64 0])) rfl (by kernel_rfl) (fun _ _ _ => ⟨_, _, rfl, ⟨rfl, by decide⟩, ⟨_, _, rfl, rfl, ⟨_, _, rfl, rfl, rfl⟩⟩⟩) ⟨rfl, (by repeat first | exact trivial | refine ⟨by decide, by first | rfl | (intro i j; first | rfl | (dsimp only; split <;> rfl)), ?_⟩)⟩ rfl rfl rfl (Nat.le_of_ble_eq_true rfl) ?_
  refine ARun.nil ?_
  refine AW.seq ?_
  refine AW.region ?_
  refine ARun.alloc (id := 2) (l := [.str ByteArray.empty, .int .i64 0, .int .i64 0]) (z := (.agg #[.string ByteArray.empty, .int .i64 0, .int .i64 0])) rfl (by kernel_rfl) (fun _ _ _ => ⟨_, _, rfl, ⟨rfl, by decide⟩, ⟨_, _, rfl, rfl, ⟨_, _, rfl, rfl, rfl⟩⟩⟩) ⟨rfl, (by repeat first | exact trivial | refine ⟨by decide, by first | rfl | (intro i j; first | rfl | (dsimp only; split <;> rfl)), ?_⟩)⟩ rfl rfl rfl (Nat.le_of_ble_eq_true rfl) ?_
  refine ARun.nil ?_
  refine AW.seq ?_
  refine AW.region ?_
  refine ARun.pure (PureOp.fieldPtr rfl (.tmp rfl) vo_fi_44_0_0) rfl rfl (Nat.le_of_ble_eq_true rfl) ?_
  refine ARun.pure (PureOp.loadPtr rfl (.tmp rfl) vo_pl_9 rfl rfl (Nat.le_of_ble_eq_true rfl) (Nat.le_of_ble_eq_true rfl)) rfl rfl (Nat.le_of_ble_eq_true rfl) ?_
  refine ARun.pure (PureOp.fieldPtr rfl (.tmp rfl) vo_fi_47_0_0) rfl rfl (Nat.le_of_ble_eq_true rfl) ?_
  refine ARun.store rfl (.tmp rfl) (.tmp rfl) trivial rfl (Nat.le_of_ble_eq_true rfl) vo_sz_9_1 rfl rfl ?_
  refine ARun.nil ?_
  refine AW.seq ?_
  refine AW.region ?_
  refine ARun.pure (PureOp.fieldPtr rfl (.tmp rfl) vo_fi_44_1_1) rfl rfl (Nat.le_of_ble_eq_true rfl) ?_
  refine ARun.pure (PureOp.loadPtr rfl (.tmp rfl) vo_pl_3 rfl rfl (Nat.le_of_ble_eq_true rfl) (Nat.le_of_ble_eq_true rfl)) rfl rfl (Nat.le_of_ble_eq_true rfl) ?_
  refine ARun.pure (PureOp.fieldPtr rfl (.tmp rfl) vo_fi_47_1_1) rfl rfl (Nat.le_of_ble_eq_true rfl) ?_
  refine ARun.store rfl (.tmp rfl) (.tmp rfl) trivial rfl (Nat.le_of_ble_eq_true rfl) vo_sz_3_1 rfl rfl ?_
  refine ARun.nil ?_
  refine AW.seq ?_
  refine AW.region ?_
  refine ARun.pure (PureOp.fieldPtr rfl (.tmp rfl) vo_fi_44_2_2) rfl rfl (Nat.le_of_ble_eq_true rfl) ?_
  refine ARun.pure (PureOp.loadPtr rfl (.tmp rfl) vo_pl_3 rfl rfl (Nat.le_of_ble_eq_true rfl) (Nat.le_of_ble_eq_true rfl)) rfl rfl (Nat.le_of_ble_eq_true rfl) ?_
  refine ARun.pure (PureOp.fieldPtr rfl (.tmp rfl) vo_fi_47_2_2) rfl rfl (Nat.le_of_ble_eq_true rfl) ?_
  refine ARun.store rfl (.tmp rfl) (.tmp rfl) trivial rfl (Nat.le_of_ble_eq_true rfl) vo_sz_3_1 rfl rfl ?_
  refine ARun.nil ?_
  refine AW.seq ?_
  refine AW.region ?_
  refine ARun.pure (PureOp.loadPtrAgg rfl (.tmp rfl) vo_ag_47_3 rfl rfl (Nat.le_of_ble_eq_true rfl) (Nat.le_of_ble_eq_true rfl)) rfl rfl (Nat.le_of_ble_eq_true rfl) ?_
  refine ARun.store rfl (.tmp rfl) (.tmp rfl) (SV.cells_of (by exact ⟨trivial, trivial, trivial, trivial⟩)) rfl (Nat.le_of_ble_eq_true rfl) vo_sz_47_3 rfl rfl ?_
  refine ARun.nil ?_
  exact AW.ret (show ∃ s, ResL _ _ [.cell 2 47] s ∧ FvS _ s _ from ⟨_, .inl ⟨_, rfl, .cells rfl vo_ag_47_3 rfl rfl (Nat.le_of_ble_eq_true rfl) (Nat.le_of_ble_eq_true rfl)⟩, ⟨.str, .int, .int, trivial⟩⟩)
end Go.Proofs.Ytmfkmifkkplidaa
