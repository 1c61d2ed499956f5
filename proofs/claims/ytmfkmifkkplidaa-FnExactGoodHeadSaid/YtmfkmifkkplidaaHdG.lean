/-
  Proved: the law FnExactGoodHead returns true for every input: the program's GoodHead answers what the reference's does, and leaves its argument alone. Conditions: none.
-/
import Derived.Test.YtmfkmifkkplidaaHd6
import Derived.Test.YtmfkmifkkplidaaLz6
import Derived.Test.YtmfkmifkkplidaaLe6
import Derived.Test.YtmfkmifkkplidaaLt6
import Derived.Test.YtmfkmifkkplidaaVo
namespace Go.Proofs.Ytmfkmifkkplidaa
open Go.ChangeShapes Go.WideShapes Go.ChangeAt Go.RowKit Go.BigFrame Go.Deep
set_option linter.unusedVariables false
set_option linter.unusedSimpArgs false
theorem vl_ag_24_2 : aggB Try.prog 24 2 = true := by kernel_rfl
theorem vl_ag_29_2 : aggB Try.prog 29 2 = true := by kernel_rfl
theorem vl_bo_4 : boolB Try.prog 4 = true := by kernel_rfl
theorem vl_ca_10 : callB Try.prog 10 = true := by kernel_rfl
theorem vl_ca_11 : callB Try.prog 11 = true := by kernel_rfl
theorem vl_ca_12 : callB Try.prog 12 = true := by kernel_rfl
theorem vl_ca_13 : callB Try.prog 13 = true := by kernel_rfl
theorem vl_ca_9 : callB Try.prog 9 = true := by kernel_rfl
theorem vl_sz_29_2 : sizeB Try.prog 29 2 = true := by kernel_rfl
theorem opensC_9 : OpensC Try.prog 9 (fun x : ByteArray => [.str x]) := OpensC.string Try.underlying9
theorem opensC_3 : OpensC Try.prog 3 (fun x : Int => [.int .i64 x]) := OpensC.int Try.underlying3
theorem opensC_124 : OpensC Try.prog 124 (fun x : GSample => [.int .i64 x.at_, .int .i64 x.value]) := fun H eh w fuel cs x h => by
  have hS : Try.prog.underlying 124 = some (.struct (Try.prog.fieldsOf 124)) := by kernel_rfl
  obtain ⟨xs, n, _, rfl, hl, hlen, hf⟩ := DataW.trod_struct hS h
  have hsz : (Try.prog.fieldsOf 124).size = 2 := by kernel_rfl
  have hC : Try.prog.cellsOf 124 = 2 := by kernel_rfl
  rw [hC] at hl
  have t0 : ((Try.prog.fieldsOf 124)[0]?).map (fun f => (f.type, f.offset, Try.prog.cellsOf f.type)) = some (3, 0, 1) := by kernel_rfl
  obtain ⟨f0, j0, y0⟩ := Option.map_eq_some_iff.1 t0
  simp only [Prod.mk.injEq] at y0
  have g0 := hf 0 f0 j0
  rw [y0.2.2, y0.2.1, y0.1, List.getElem?_eq_getElem (by omega)] at g0
  obtain ⟨a0, r0⟩ := opensC_3 H eh w n _ _ g0
  have t1 : ((Try.prog.fieldsOf 124)[1]?).map (fun f => (f.type, f.offset, Try.prog.cellsOf f.type)) = some (3, 1, 1) := by kernel_rfl
  obtain ⟨f1, j1, y1⟩ := Option.map_eq_some_iff.1 t1
  simp only [Prod.mk.injEq] at y1
  have g1 := hf 1 f1 j1
  rw [y1.2.2, y1.2.1, y1.1, List.getElem?_eq_getElem (by omega)] at g1
  obtain ⟨a1, r1⟩ := opensC_3 H eh w n _ _ g1
  have e2 : DL w (· < w.heap.size) [] (cs.drop 2) := List.drop_of_length_le (by omega)
  have e1 := DL.part (o := 1) (s := 1) r1 e2
  have e0 := DL.part (o := 0) (s := 1) r0 e1
  exact ⟨⟨a0, a1⟩, e0⟩
theorem opensC_101 : OpensC Try.prog 101 (fun x : List GSample => [.lst 2 x.length (fun i0 j0 => ([.int .i64 ((x.getD i0 (default : GSample)).at_), .int .i64 ((x.getD i0 (default : GSample)).value)] : List AV).getD j0 (.con undef))]) := OpensC.slice (default : GSample) Try.underlying101 (by kernel_rfl) (by decide) opensC_124 (fun _ => rfl) (fun l i j _ hj => match j, hj with | 0, _ => rfl | 1, _ => rfl | _ + 2, h => absurd h (by omega))
theorem opensC_103 : OpensC Try.prog 103 (fun x : GRow => [.str x.name, .lst 2 x.samples.length (fun i0 j0 => ([.int .i64 ((x.samples.getD i0 (default : GSample)).at_), .int .i64 ((x.samples.getD i0 (default : GSample)).value)] : List AV).getD j0 (.con undef))]) := fun H eh w fuel cs x h => by
  have hS : Try.prog.underlying 103 = some (.struct (Try.prog.fieldsOf 103)) := by kernel_rfl
  obtain ⟨xs, n, _, rfl, hl, hlen, hf⟩ := DataW.trod_struct hS h
  have hsz : (Try.prog.fieldsOf 103).size = 2 := by kernel_rfl
  have hC : Try.prog.cellsOf 103 = 2 := by kernel_rfl
  rw [hC] at hl
  have t0 : ((Try.prog.fieldsOf 103)[0]?).map (fun f => (f.type, f.offset, Try.prog.cellsOf f.type)) = some (9, 0, 1) := by kernel_rfl
  obtain ⟨f0, j0, y0⟩ := Option.map_eq_some_iff.1 t0
  simp only [Prod.mk.injEq] at y0
  have g0 := hf 0 f0 j0
  rw [y0.2.2, y0.2.1, y0.1, List.getElem?_eq_getElem (by omega)] at g0
  obtain ⟨a0, r0⟩ := opensC_9 H eh w n _ _ g0
  have t1 : ((Try.prog.fieldsOf 103)[1]?).map (fun f => (f.type, f.offset, Try.prog.cellsOf f.type)) = some (101, 1, 1) := by kernel_rfl
  obtain ⟨f1, j1, y1⟩ := Option.map_eq_some_iff.1 t1
  simp only [Prod.mk.injEq] at y1
  have g1 := hf 1 f1 j1
  rw [y1.2.2, y1.2.1, y1.1, List.getElem?_eq_getElem (by omega)] at g1
  obtain ⟨a1, r1⟩ := opensC_101 H eh w n _ _ g1
  have e2 : DL w (· < w.heap.size) [] (cs.drop 2) := List.drop_of_length_le (by omega)
  have e1 := DL.part (o := 1) (s := 1) r1 e2
  have e0 := DL.part (o := 0) (s := 1) r0 e1
  exact ⟨⟨a0, a1⟩, e0⟩
theorem opensC_22 : OpensC Try.prog 22 (fun x : List GRow => [.lst 2 x.length (fun i0 j0 => ([.str ((x.getD i0 (default : GRow)).name), .lst 2 (((x.getD i0 (default : GRow)).samples).length) (fun i1 j1 => ([.int .i64 ((((x.getD i0 (default : GRow)).samples).getD i1 (default : GSample)).at_), .int .i64 ((((x.getD i0 (default : GRow)).samples).getD i1 (default : GSample)).value)] : List AV).getD j1 (.con undef))] : List AV).getD j0 (.con undef))]) := OpensC.slice (default : GRow) Try.underlying22 (by kernel_rfl) (by decide) opensC_103 (fun _ => rfl) (fun l i j _ hj => match j, hj with | 0, _ => rfl | 1, _ => rfl | _ + 2, h => absurd h (by omega))
theorem opensC_24 : OpensC Try.prog 24 (fun x : GHead => [.lst 2 x.rows.length (fun i0 j0 => ([.str ((x.rows.getD i0 (default : GRow)).name), .lst 2 (((x.rows.getD i0 (default : GRow)).samples).length) (fun i1 j1 => ([.int .i64 ((((x.rows.getD i0 (default : GRow)).samples).getD i1 (default : GSample)).at_), .int .i64 ((((x.rows.getD i0 (default : GRow)).samples).getD i1 (default : GSample)).value)] : List AV).getD j1 (.con undef))] : List AV).getD j0 (.con undef)), .int .i64 x.offset]) := fun H eh w fuel cs x h => by
  have hS : Try.prog.underlying 24 = some (.struct (Try.prog.fieldsOf 24)) := by kernel_rfl
  obtain ⟨xs, n, _, rfl, hl, hlen, hf⟩ := DataW.trod_struct hS h
  have hsz : (Try.prog.fieldsOf 24).size = 2 := by kernel_rfl
  have hC : Try.prog.cellsOf 24 = 2 := by kernel_rfl
  rw [hC] at hl
  have t0 : ((Try.prog.fieldsOf 24)[0]?).map (fun f => (f.type, f.offset, Try.prog.cellsOf f.type)) = some (22, 0, 1) := by kernel_rfl
  obtain ⟨f0, j0, y0⟩ := Option.map_eq_some_iff.1 t0
  simp only [Prod.mk.injEq] at y0
  have g0 := hf 0 f0 j0
  rw [y0.2.2, y0.2.1, y0.1, List.getElem?_eq_getElem (by omega)] at g0
  obtain ⟨a0, r0⟩ := opensC_22 H eh w n _ _ g0
  have t1 : ((Try.prog.fieldsOf 24)[1]?).map (fun f => (f.type, f.offset, Try.prog.cellsOf f.type)) = some (3, 1, 1) := by kernel_rfl
  obtain ⟨f1, j1, y1⟩ := Option.map_eq_some_iff.1 t1
  simp only [Prod.mk.injEq] at y1
  have g1 := hf 1 f1 j1
  rw [y1.2.2, y1.2.1, y1.1, List.getElem?_eq_getElem (by omega)] at g1
  obtain ⟨a1, r1⟩ := opensC_3 H eh w n _ _ g1
  have e2 : DL w (· < w.heap.size) [] (cs.drop 2) := List.drop_of_length_le (by omega)
  have e1 := DL.part (o := 1) (s := 1) r1 e2
  have e0 := DL.part (o := 0) (s := 1) r0 e1
  exact ⟨⟨a0, a1⟩, e0⟩

theorem law_GoodHead (x0 : GHead) : Fn Try.prog 3 [.agg [.lst 2 x0.rows.length (fun i0 j0 => ([.str ((x0.rows.getD i0 (default : GRow)).name), .lst 2 (((x0.rows.getD i0 (default : GRow)).samples).length) (fun i1 j1 => ([.int .i64 ((((x0.rows.getD i0 (default : GRow)).samples).getD i1 (default : GSample)).at_), .int .i64 ((((x0.rows.getD i0 (default : GRow)).samples).getD i1 (default : GSample)).value)] : List AV).getD j1 (.con undef))] : List AV).getD j0 (.con undef)), .int .i64 x0.offset]] (.one (.bool true)) := by
  refine Fn.of_body (fn := Try.f3) Try.func3 rfl (Nat.le_of_ble_eq_true rfl) trivial ?_
  intro w0
  show AW _ 27 _ _ _ _
  refine AW.seq ?_
  refine AW.region ?_
  refine ARun.box (id := 0) rfl (.tmp rfl) (SV.cells_of (by exact ⟨trivial, trivial, trivial⟩)) ⟨rfl, (by repeat first | exact trivial | refine ⟨by decide, by first | rfl | (intro i j; first | rfl | (dsimp only; split <;> rfl)), ?_⟩)⟩ rfl rfl rfl (Nat.le_of_ble_eq_true rfl) ?_
  refine ARun.pure (PureOp.assign rfl .bool) rfl rfl (Nat.le_of_ble_eq_true rfl) ?_
  refine ARun.nil ?_
  refine AW.seq ?_
  refine AW.region ?_
  refine ARun.pure (PureOp.assign rfl .int) rfl rfl (Nat.le_of_ble_eq_true rfl) ?_
  refine ARun.nil ?_
  refine AW.seq ?_
  refine AW.region ?_
  refine ARun.pure (PureOp.loadPtrAgg rfl (.tmp rfl) vl_ag_24_2 rfl rfl (Nat.le_of_ble_eq_true rfl) (Nat.le_of_ble_eq_true rfl)) rfl rfl (Nat.le_of_ble_eq_true rfl) ?_
  refine ARun.pure (PureOp.move rfl (.tmp rfl)) rfl rfl (Nat.le_of_ble_eq_true rfl) ?_
  refine ARun.pure (PureOp.call rfl (v_szHead x0 1048576 (by first | omega | (unfold szR at *; split at * <;> omega))) ⟨⟨_, (.tmp rfl), ⟨.lst, .int, trivial⟩⟩, ⟨_, (.tmp rfl), .int⟩, trivial⟩ vl_ca_9 trivial) rfl rfl (Nat.le_of_ble_eq_true rfl) ?_
  refine ARun.pure (PureOp.assign rfl (.tmp rfl)) rfl rfl (Nat.le_of_ble_eq_true rfl) ?_
  refine ARun.nil ?_
  refine AW.seq ?_
  refine AW.seq ?_
  refine AW.region ?_
  refine ARun.pure (PureOp.move rfl (.tmp rfl)) rfl rfl (Nat.le_of_ble_eq_true rfl) ?_
  refine ARun.pure (PureOp.intOp rfl (.tmp rfl) .int rfl) rfl rfl (Nat.le_of_ble_eq_true rfl) ?_
  refine ARun.nil ?_
  refine AW.cond (.tmp rfl) (fun hb1 => ?_) (fun hb1 => ?_)
  · have _u := True.intro
    replace hb1 := of_decide_eq_true hb1
    refine AW.seq ?_
    refine AW.region ?_
    refine ARun.pure (PureOp.assign rfl .bool) rfl rfl (Nat.le_of_ble_eq_true rfl) ?_
    refine ARun.nil ?_
    refine AW.ret (show ResL _ _ [.tmp 2] _ from resB rfl ?_)
    rfl
  · have _u := True.intro
    replace hb1 := of_decide_eq_false hb1
    obtain ⟨hs2, hs2b, hs2c⟩ := szR_ok (by omega) hb1
    refine AW.skip ?_
    refine AW.seq ?_
    refine AW.region ?_
    refine ARun.pure (PureOp.loadPtrAgg rfl (.tmp rfl) vl_ag_24_2 rfl rfl (Nat.le_of_ble_eq_true rfl) (Nat.le_of_ble_eq_true rfl)) rfl rfl (Nat.le_of_ble_eq_true rfl) ?_
    refine ARun.fresh (FreshOp.callS rfl (v_toHead x0 (Small.mk (by omega))) ⟨⟨_, (.tmp rfl), ⟨.lst, .int, trivial⟩⟩, trivial⟩ vl_ca_11 rfl) rfl rfl (Nat.le_of_ble_eq_true rfl) ?_
    refine ARun.pure (PureOp.call rfl (v_specGoodHead x0) ⟨⟨_, (.tmp rfl), ⟨.frs, .int, trivial⟩⟩, trivial⟩ vl_ca_10 trivial) rfl rfl (Nat.le_of_ble_eq_true rfl) ?_
    refine ARun.pure (PureOp.assign rfl (.tmp rfl)) rfl rfl (Nat.le_of_ble_eq_true rfl) ?_
    refine ARun.nil ?_
    refine AW.seq ?_
    refine AW.region ?_
    refine ARun.pure (PureOp.loadPtrAgg rfl (.tmp rfl) vl_ag_24_2 rfl rfl (Nat.le_of_ble_eq_true rfl) (Nat.le_of_ble_eq_true rfl)) rfl rfl (Nat.le_of_ble_eq_true rfl) ?_
    refine ARun.fresh (FreshOp.callS rfl (v_toHead x0 (Small.mk (by omega))) ⟨⟨_, (.tmp rfl), ⟨.lst, .int, trivial⟩⟩, trivial⟩ vl_ca_11 rfl) rfl rfl (Nat.le_of_ble_eq_true rfl) ?_
    refine ARun.alloc (id := 1) (l := [.lst 2 0 (fun _ _ => .con undef), .int .i64 0]) (z := (.agg #[.slice none 0 0, .int .i64 0])) rfl (by kernel_rfl) (fun _ _ _ => ⟨_, _, rfl, ⟨none, 0, rfl, Nat.le_refl _, by decide, fun _ => rfl, fun i hi => absurd hi (by omega)⟩, ⟨_, _, rfl, rfl, rfl⟩⟩) ⟨rfl, (by repeat first | exact trivial | refine ⟨by decide, by first | rfl | (intro i j; first | rfl | (dsimp only; split <;> rfl)), ?_⟩)⟩ rfl rfl rfl (Nat.le_of_ble_eq_true rfl) ?_
    refine ARun.store rfl (.tmp rfl) (.tmp rfl) (SV.cells_of (by exact ⟨trivial, trivial, trivial⟩)) rfl (Nat.le_of_ble_eq_true rfl) vl_sz_29_2 rfl rfl ?_
    refine ARun.nil ?_
    refine AW.seq ?_
    refine AW.region ?_
    refine ARun.pure (PureOp.loadPtrAgg rfl (.tmp rfl) vl_ag_29_2 rfl rfl (Nat.le_of_ble_eq_true rfl) (Nat.le_of_ble_eq_true rfl)) rfl rfl (Nat.le_of_ble_eq_true rfl) ?_
    refine ARun.pure (PureOp.call rfl (v_implGoodHead x0) ⟨⟨_, (.tmp rfl), ⟨.frs, .int, trivial⟩⟩, trivial⟩ vl_ca_12 trivial) rfl rfl (Nat.le_of_ble_eq_true rfl) ?_
    refine ARun.pure (PureOp.assign rfl (.tmp rfl)) rfl rfl (Nat.le_of_ble_eq_true rfl) ?_
    refine ARun.nil ?_
    refine AW.seq ?_
    refine AW.seq ?_
    refine AW.region ?_
    refine ARun.pure (PureOp.move rfl (.tmp rfl)) rfl rfl (Nat.le_of_ble_eq_true rfl) ?_
    refine ARun.pure (PureOp.move rfl (.tmp rfl)) rfl rfl (Nat.le_of_ble_eq_true rfl) ?_
    refine ARun.pure (PureOp.boolNe rfl (.tmp rfl) (.tmp rfl) vl_bo_4) rfl rfl (Nat.le_of_ble_eq_true rfl) ?_
    refine ARun.nil ?_
    refine AW.cond (.tmp rfl) (fun hb3 => ?_) (fun hb3 => ?_)
    · have _u := True.intro
      replace hb3 := beq_f (of_not hb3)
      exact absurd rfl hb3
      --end
    · have _u := True.intro
      replace hb3 := beq_t (not_f hb3)
      refine AW.skip ?_
      refine AW.seq ?_
      refine AW.seq ?_
      refine AW.any (by kernel_rfl) (by kernel_rfl) ?_
      refine AD.pure (PureOp.loadPtrAgg rfl (.tmp rfl) vl_ag_29_2 rfl rfl (Nat.le_of_ble_eq_true rfl) (Nat.le_of_ble_eq_true rfl)) rfl rfl (Nat.le_of_ble_eq_true rfl) ?_
      refine AD.pure (PureOp.loadPtrAgg rfl (.tmp rfl) vl_ag_24_2 rfl rfl (Nat.le_of_ble_eq_true rfl) (Nat.le_of_ble_eq_true rfl)) rfl rfl (Nat.le_of_ble_eq_true rfl) ?_
      refine AD.fresh (FreshOp.callS rfl (v_toHead x0 (Small.mk (by omega))) ⟨⟨_, (.tmp rfl), ⟨.lst, .int, trivial⟩⟩, trivial⟩ vl_ca_11 rfl) rfl rfl (Nat.le_of_ble_eq_true rfl) ?_
      refine AD.pure (PureOp.call rfl (v_eqHead x0 x0) ⟨⟨_, (.tmp rfl), ⟨.frs, .int, trivial⟩⟩, ⟨_, (.tmp rfl), ⟨.frs, .int, trivial⟩⟩, trivial⟩ vl_ca_13 trivial) rfl rfl (Nat.le_of_ble_eq_true rfl) ?_
      refine AD.pure (PureOp.not rfl (.tmp rfl)) rfl rfl (Nat.le_of_ble_eq_true rfl) ?_
      refine AD.nil ?_
      refine AW.cond (.tmp rfl) (fun hb4 => ?_) (fun hb4 => ?_)
      · have _u := True.intro
        replace hb4 := of_decide_eq_false (of_not hb4)
        exact absurd rfl hb4
        --end
      · have _u := True.intro
        replace hb4 := of_decide_eq_true (not_f hb4)
        refine AW.skip ?_
        refine AW.seq ?_
        refine AW.region ?_
        refine ARun.pure (PureOp.assign rfl .bool) rfl rfl (Nat.le_of_ble_eq_true rfl) ?_
        refine ARun.nil ?_
        refine AW.ret (show ResL _ _ [.tmp 2] _ from resB rfl ?_)
        rfl

set_option maxRecDepth 100000 in
theorem lifted_GoodHead (os : Os) (started : os.Started) (H : Type) (enc : TypeId × Value → H) :
    ReturnsInHanded {} Try.checked os 3 .any (Rows.fnExactGoodHeadSpec.pre6 enc Try.prog Try.f3 Rows.fnExactGoodHeadRow.domain false) (Rows.fnExactGoodHeadSpec.post enc Try.prog Try.f3 false true false false) := by
  refine returnsInHanded_of_change (C := Try.checked) own started (by kernel_rfl) Try.func3
    (ChangeSpec.witness6 (enc := enc) (C := Try.checked) false ⟨#[], #[.agg #[.slice none 0 0, .int .i64 0]], []⟩ 8 (by kernel_rfl) (by kernel_rfl) (by kernel_rfl) (by kernel_rfl)) ?_
  intro W base args ds gs before hval0 hW hcnd _
  have hval : ∀ (j : Nat) t v, Try.f3.params[j]? = some t → args[j]? = some v → Value.okWide Try.prog W .any base t v := hval0
  have hW' := hW
  obtain ⟨p, q, hA0, hV, rfl, hfz, hnd⟩ := hW
  have hA : DataW.TrodAll enc Try.prog W 0 (fun _ => true) true Try.f3.params.toList args.toList ds p := hA0
  rw [Try.params3] at hA hval
  obtain ⟨v0, vs0, d0, ds0, p0, q0, hargs, rfl, rfl, h0, r0⟩ := trodAll_cons hA
  obtain ⟨rfl, rfl, rfl⟩ := trodAll_nil r0
  obtain rfl : args = #[v0] := by cases args; simp_all
  obtain ⟨rfl, rfl⟩ := trodVars_none hV
  obtain ⟨x0, R0⟩ := OpensC.arg opensC_24 h0
  have E0 : DS W (· < W.heap.size) (.agg [.lst 2 x0.rows.length (fun i0 j0 => ([.str ((x0.rows.getD i0 (default : GRow)).name), .lst 2 (((x0.rows.getD i0 (default : GRow)).samples).length) (fun i1 j1 => ([.int .i64 ((((x0.rows.getD i0 (default : GRow)).samples).getD i1 (default : GSample)).at_), .int .i64 ((((x0.rows.getD i0 (default : GRow)).samples).getD i1 (default : GSample)).value)] : List AV).getD j1 (.con undef))] : List AV).getD j0 (.con undef)), .int .i64 x0.offset]) v0 := DS.agg_of (let ⟨cs, e, _⟩ := okWide_struct Try.underlying24 (hval 0 24 v0 rfl rfl); ⟨cs, e⟩) R0
  clear hA0 hval0
  refine (law_GoodHead x0 W _ _ (fun _ h => h) ⟨_, _, rfl, E0, rfl⟩).mono fun e W' ⟨he, hg⟩ => ?_
  subst he
  exact ⟨_, rfl, law_post hW' rfl laidOut (by kernel_rfl) hg rfl rfl Try.underlying4⟩
/-- The statement. -/
theorem proved_GoodHead : Rows.FnExactGoodHeadSaid :=
  OpenClaim.holds_of_wide 3 Try.f3 rfl rfl rfl rfl rfl rfl rfl ⟨rfl, rfl, rfl, rfl, rfl⟩ rfl rfl rfl rfl rfl (by kernel_rfl) Try.func3 (by kernel_rfl)
    (of_decide_eq_true (by kernel_rfl)) (by unfold Func.isWrapper; first | (rw [if_pos (by decide +kernel)]; kernel_rfl) | (rw [if_neg (by decide +kernel)]; exact ⟨rfl, rfl⟩))
    (fun os started H enc _ => lifted_GoodHead os started H enc)
#print axioms proved_GoodHead
end Go.Proofs.Ytmfkmifkkplidaa
