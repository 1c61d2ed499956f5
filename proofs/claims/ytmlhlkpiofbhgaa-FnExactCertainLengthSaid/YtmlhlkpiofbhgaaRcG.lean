/-
  Proved: the law FnExactCertainLength returns true for every input: the program's CertainLength answers what the reference's does, and leaves its argument alone. Conditions: none.
-/
import Derived.Test.YtmlhlkpiofbhgaaRb
import Derived.Test.YtmlhlkpiofbhgaaLz5
import Derived.Test.YtmlhlkpiofbhgaaLe5
import Derived.Test.YtmlhlkpiofbhgaaLt5
import Derived.Test.YtmlhlkpiofbhgaaVo
namespace Go.Proofs.Ytmlhlkpiofbhgaa
open Go.ChangeShapes Go.WideShapes Go.ChangeAt Go.RowKit Go.BigFrame Go.Deep
set_option linter.unusedVariables false
set_option linter.unusedSimpArgs false
theorem vd_ag_27_6 : aggB Try.prog 27 6 = true := by kernel_rfl
theorem vd_ag_36_6 : aggB Try.prog 36 6 = true := by kernel_rfl
theorem vd_bo_4 : boolB Try.prog 4 = true := by kernel_rfl
theorem vd_ca_12 : callB Try.prog 12 = true := by kernel_rfl
theorem vd_ca_15 : callB Try.prog 15 = true := by kernel_rfl
theorem vd_ca_17 : callB Try.prog 17 = true := by kernel_rfl
theorem vd_ca_21 : callB Try.prog 21 = true := by kernel_rfl
theorem vd_ca_22 : callB Try.prog 22 = true := by kernel_rfl
theorem vd_sz_27_6 : sizeB Try.prog 27 6 = true := by kernel_rfl
theorem opensC_3 : OpensC Try.prog 3 (fun x : Int => [.int .i64 x]) := OpensC.int Try.underlying3
theorem opensC_9 : OpensC Try.prog 9 (fun x : ByteArray => [.str x]) := OpensC.string Try.underlying9
theorem opensC_122 : OpensC Try.prog 122 (fun x : GEntry => [.int .i64 x.epoch, .str x.text]) := fun H eh w fuel cs x h => by
  have hS : Try.prog.underlying 122 = some (.struct (Try.prog.fieldsOf 122)) := by kernel_rfl
  obtain ⟨xs, n, _, rfl, hl, hlen, hf⟩ := DataW.trod_struct hS h
  have hsz : (Try.prog.fieldsOf 122).size = 2 := by kernel_rfl
  have hC : Try.prog.cellsOf 122 = 2 := by kernel_rfl
  rw [hC] at hl
  have t0 : ((Try.prog.fieldsOf 122)[0]?).map (fun f => (f.type, f.offset, Try.prog.cellsOf f.type)) = some (3, 0, 1) := by kernel_rfl
  obtain ⟨f0, j0, y0⟩ := Option.map_eq_some_iff.1 t0
  simp only [Prod.mk.injEq] at y0
  have g0 := hf 0 f0 j0
  rw [y0.2.2, y0.2.1, y0.1, List.getElem?_eq_getElem (by omega)] at g0
  obtain ⟨a0, r0⟩ := opensC_3 H eh w n _ _ g0
  have t1 : ((Try.prog.fieldsOf 122)[1]?).map (fun f => (f.type, f.offset, Try.prog.cellsOf f.type)) = some (9, 1, 1) := by kernel_rfl
  obtain ⟨f1, j1, y1⟩ := Option.map_eq_some_iff.1 t1
  simp only [Prod.mk.injEq] at y1
  have g1 := hf 1 f1 j1
  rw [y1.2.2, y1.2.1, y1.1, List.getElem?_eq_getElem (by omega)] at g1
  obtain ⟨a1, r1⟩ := opensC_9 H eh w n _ _ g1
  have e2 : DL w (· < w.heap.size) [] (cs.drop 2) := List.drop_of_length_le (by omega)
  have e1 := DL.part (o := 1) (s := 1) r1 e2
  have e0 := DL.part (o := 0) (s := 1) r0 e1
  exact ⟨⟨a0, a1⟩, e0⟩
theorem opensC_34 : OpensC Try.prog 34 (fun x : List GEntry => [.lst 2 x.length (fun i0 j0 => ([.int .i64 ((x.getD i0 (default : GEntry)).epoch), .str ((x.getD i0 (default : GEntry)).text)] : List AV).getD j0 (.con undef))]) := OpensC.slice (default : GEntry) Try.underlying34 (by kernel_rfl) (by decide) opensC_122 (fun _ => rfl) (fun l i j _ hj => match j, hj with | 0, _ => rfl | 1, _ => rfl | _ + 2, h => absurd h (by omega))
theorem opensC_33 : OpensC Try.prog 33 (fun x : List (List GEntry) => [.lst 1 x.length (fun i0 _ => .lst 2 ((x.getD i0 []).length) (fun i1 j1 => ([.int .i64 (((x.getD i0 []).getD i1 (default : GEntry)).epoch), .str (((x.getD i0 []).getD i1 (default : GEntry)).text)] : List AV).getD j1 (.con undef)))]) := OpensC.slice ([] : List GEntry) Try.underlying33 (by kernel_rfl) (by decide) opensC_34 (fun _ => rfl) (fun l i j _ hj => match j, hj with | 0, _ => rfl | _ + 1, h => absurd h (by omega))
theorem opensC_4 : OpensC Try.prog 4 (fun x : Bool => [.bool x]) := OpensC.bool Try.underlying4
theorem opensC_23 : OpensC Try.prog 23 (fun x : List Bool => [.lst 1 x.length (fun i0 _ => .bool (x.getD i0 false))]) := OpensC.slice (false : Bool) Try.underlying23 (by kernel_rfl) (by decide) opensC_4 (fun _ => rfl) (fun l i j _ hj => match j, hj with | 0, _ => rfl | _ + 1, h => absurd h (by omega))
theorem opensC_24 : OpensC Try.prog 24 (fun x : List Int => [.lst 1 x.length (fun i0 _ => .int .i64 (x.getD i0 0))]) := OpensC.slice (0 : Int) Try.underlying24 (by kernel_rfl) (by decide) opensC_3 (fun _ => rfl) (fun l i j _ hj => match j, hj with | 0, _ => rfl | _ + 1, h => absurd h (by omega))
theorem opensC_36 : OpensC Try.prog 36 (fun x : GRepl => [.lst 1 x.logs.length (fun i0 _ => .lst 2 ((x.logs.getD i0 []).length) (fun i1 j1 => ([.int .i64 (((x.logs.getD i0 []).getD i1 (default : GEntry)).epoch), .str (((x.logs.getD i0 []).getD i1 (default : GEntry)).text)] : List AV).getD j1 (.con undef))), .lst 1 x.down.length (fun i0 _ => .bool (x.down.getD i0 false)), .int .i64 x.leader, .int .i64 x.epoch, .lst 1 x.inSync.length (fun i0 _ => .int .i64 (x.inSync.getD i0 0)), .lst 2 x.certain.length (fun i0 j0 => ([.int .i64 ((x.certain.getD i0 (default : GEntry)).epoch), .str ((x.certain.getD i0 (default : GEntry)).text)] : List AV).getD j0 (.con undef))]) := fun H eh w fuel cs x h => by
  have hS : Try.prog.underlying 36 = some (.struct (Try.prog.fieldsOf 36)) := by kernel_rfl
  obtain ⟨xs, n, _, rfl, hl, hlen, hf⟩ := DataW.trod_struct hS h
  have hsz : (Try.prog.fieldsOf 36).size = 6 := by kernel_rfl
  have hC : Try.prog.cellsOf 36 = 6 := by kernel_rfl
  rw [hC] at hl
  have t0 : ((Try.prog.fieldsOf 36)[0]?).map (fun f => (f.type, f.offset, Try.prog.cellsOf f.type)) = some (33, 0, 1) := by kernel_rfl
  obtain ⟨f0, j0, y0⟩ := Option.map_eq_some_iff.1 t0
  simp only [Prod.mk.injEq] at y0
  have g0 := hf 0 f0 j0
  rw [y0.2.2, y0.2.1, y0.1, List.getElem?_eq_getElem (by omega)] at g0
  obtain ⟨a0, r0⟩ := opensC_33 H eh w n _ _ g0
  have t1 : ((Try.prog.fieldsOf 36)[1]?).map (fun f => (f.type, f.offset, Try.prog.cellsOf f.type)) = some (23, 1, 1) := by kernel_rfl
  obtain ⟨f1, j1, y1⟩ := Option.map_eq_some_iff.1 t1
  simp only [Prod.mk.injEq] at y1
  have g1 := hf 1 f1 j1
  rw [y1.2.2, y1.2.1, y1.1, List.getElem?_eq_getElem (by omega)] at g1
  obtain ⟨a1, r1⟩ := opensC_23 H eh w n _ _ g1
  have t2 : ((Try.prog.fieldsOf 36)[2]?).map (fun f => (f.type, f.offset, Try.prog.cellsOf f.type)) = some (3, 2, 1) := by kernel_rfl
  obtain ⟨f2, j2, y2⟩ := Option.map_eq_some_iff.1 t2
  simp only [Prod.mk.injEq] at y2
  have g2 := hf 2 f2 j2
  rw [y2.2.2, y2.2.1, y2.1, List.getElem?_eq_getElem (by omega)] at g2
  obtain ⟨a2, r2⟩ := opensC_3 H eh w n _ _ g2
  have t3 : ((Try.prog.fieldsOf 36)[3]?).map (fun f => (f.type, f.offset, Try.prog.cellsOf f.type)) = some (3, 3, 1) := by kernel_rfl
  obtain ⟨f3, j3, y3⟩ := Option.map_eq_some_iff.1 t3
  simp only [Prod.mk.injEq] at y3
  have g3 := hf 3 f3 j3
  rw [y3.2.2, y3.2.1, y3.1, List.getElem?_eq_getElem (by omega)] at g3
  obtain ⟨a3, r3⟩ := opensC_3 H eh w n _ _ g3
  have t4 : ((Try.prog.fieldsOf 36)[4]?).map (fun f => (f.type, f.offset, Try.prog.cellsOf f.type)) = some (24, 4, 1) := by kernel_rfl
  obtain ⟨f4, j4, y4⟩ := Option.map_eq_some_iff.1 t4
  simp only [Prod.mk.injEq] at y4
  have g4 := hf 4 f4 j4
  rw [y4.2.2, y4.2.1, y4.1, List.getElem?_eq_getElem (by omega)] at g4
  obtain ⟨a4, r4⟩ := opensC_24 H eh w n _ _ g4
  have t5 : ((Try.prog.fieldsOf 36)[5]?).map (fun f => (f.type, f.offset, Try.prog.cellsOf f.type)) = some (34, 5, 1) := by kernel_rfl
  obtain ⟨f5, j5, y5⟩ := Option.map_eq_some_iff.1 t5
  simp only [Prod.mk.injEq] at y5
  have g5 := hf 5 f5 j5
  rw [y5.2.2, y5.2.1, y5.1, List.getElem?_eq_getElem (by omega)] at g5
  obtain ⟨a5, r5⟩ := opensC_34 H eh w n _ _ g5
  have e6 : DL w (· < w.heap.size) [] (cs.drop 6) := List.drop_of_length_le (by omega)
  have e5 := DL.part (o := 5) (s := 1) r5 e6
  have e4 := DL.part (o := 4) (s := 1) r4 e5
  have e3 := DL.part (o := 3) (s := 1) r3 e4
  have e2 := DL.part (o := 2) (s := 1) r2 e3
  have e1 := DL.part (o := 1) (s := 1) r1 e2
  have e0 := DL.part (o := 0) (s := 1) r0 e1
  exact ⟨⟨a0, a1, a2, a3, a4, a5⟩, e0⟩

theorem law_CertainLength (x0 : GRepl) : Fn Try.prog 6 [.agg [.lst 1 x0.logs.length (fun i0 _ => .lst 2 ((x0.logs.getD i0 []).length) (fun i1 j1 => ([.int .i64 (((x0.logs.getD i0 []).getD i1 (default : GEntry)).epoch), .str (((x0.logs.getD i0 []).getD i1 (default : GEntry)).text)] : List AV).getD j1 (.con undef))), .lst 1 x0.down.length (fun i0 _ => .bool (x0.down.getD i0 false)), .int .i64 x0.leader, .int .i64 x0.epoch, .lst 1 x0.inSync.length (fun i0 _ => .int .i64 (x0.inSync.getD i0 0)), .lst 2 x0.certain.length (fun i0 j0 => ([.int .i64 ((x0.certain.getD i0 (default : GEntry)).epoch), .str ((x0.certain.getD i0 (default : GEntry)).text)] : List AV).getD j0 (.con undef))]] (.one (.bool true)) := by
  refine Fn.of_body (fn := Try.f6) Try.func6 rfl (Nat.le_of_ble_eq_true rfl) trivial ?_
  intro w0
  show AW _ 40 _ _ _ _
  refine AW.seq ?_
  refine AW.region ?_
  refine ARun.box (id := 0) rfl (.tmp rfl) (SV.cells_of (by exact ⟨trivial, trivial, trivial, trivial, trivial, trivial, trivial⟩)) ⟨rfl, (by repeat first | exact trivial | refine ⟨by decide, by first | rfl | (intro i j; first | rfl | (dsimp only; split <;> rfl)), ?_⟩)⟩ rfl rfl rfl (Nat.le_of_ble_eq_true rfl) ?_
  refine ARun.pure (PureOp.assign rfl .bool) rfl rfl (Nat.le_of_ble_eq_true rfl) ?_
  refine ARun.nil ?_
  refine AW.seq ?_
  refine AW.region ?_
  refine ARun.pure (PureOp.assign rfl .int) rfl rfl (Nat.le_of_ble_eq_true rfl) ?_
  refine ARun.nil ?_
  refine AW.seq ?_
  refine AW.region ?_
  refine ARun.pure (PureOp.loadPtrAgg rfl (.tmp rfl) vd_ag_36_6 rfl rfl (Nat.le_of_ble_eq_true rfl) (Nat.le_of_ble_eq_true rfl)) rfl rfl (Nat.le_of_ble_eq_true rfl) ?_
  refine ARun.pure (PureOp.move rfl (.tmp rfl)) rfl rfl (Nat.le_of_ble_eq_true rfl) ?_
  refine ARun.pure (PureOp.call rfl (v_szRepl x0 1048576 (by first | omega | (unfold szR at *; split at * <;> omega))) ⟨⟨_, (.tmp rfl), ⟨.lst, .lst, .int, .int, .lst, .lst, trivial⟩⟩, ⟨_, (.tmp rfl), .int⟩, trivial⟩ vd_ca_15 trivial) rfl rfl (Nat.le_of_ble_eq_true rfl) ?_
  refine ARun.pure (PureOp.assign rfl (.tmp rfl)) rfl rfl (Nat.le_of_ble_eq_true rfl) ?_
  refine ARun.nil ?_
  refine AW.seq ?_
  refine AW.seq ?_
  refine AW.region ?_
  refine ARun.pure (PureOp.move rfl (.tmp rfl)) rfl rfl (Nat.le_of_ble_eq_true rfl) ?_
  refine ARun.pure (PureOp.intOp rfl (.tmp rfl) .int rfl) rfl rfl (Nat.le_of_ble_eq_true rfl) ?_
  refine ARun.nil ?_
  refine AW.cond (.tmp rfl) (fun hb1 => ?_) (fun hb1 => ?_)
  · have _u := True.intro
    replace hb1 := of_decide_eq_true hb1
    refine AW.seq ?_
    refine AW.region ?_
    refine ARun.pure (PureOp.assign rfl .bool) rfl rfl (Nat.le_of_ble_eq_true rfl) ?_
    refine ARun.nil ?_
    refine AW.ret (show ResL _ _ [.tmp 2] _ from resB rfl ?_)
    rfl
  · have _u := True.intro
    replace hb1 := of_decide_eq_false hb1
    obtain ⟨hs2, hs2b, hs2c⟩ := szR_ok (by omega) hb1
    refine AW.skip ?_
    refine AW.seq ?_
    refine AW.region ?_
    refine ARun.pure (PureOp.loadPtrAgg rfl (.tmp rfl) vd_ag_36_6 rfl rfl (Nat.le_of_ble_eq_true rfl) (Nat.le_of_ble_eq_true rfl)) rfl rfl (Nat.le_of_ble_eq_true rfl) ?_
    refine ARun.fresh (FreshOp.callS rfl (v_toRepl x0 (Small.mk (by omega))) ⟨⟨_, (.tmp rfl), ⟨.lst, .lst, .int, .int, .lst, .lst, trivial⟩⟩, trivial⟩ vd_ca_17 rfl) rfl rfl (Nat.le_of_ble_eq_true rfl) ?_
    refine ARun.pure (PureOp.call rfl (v_specCert x0) ⟨⟨_, (.tmp rfl), ⟨.frs, .frs, .int, .int, .frs, .frs, trivial⟩⟩, trivial⟩ vd_ca_21 ⟨trivial, trivial⟩) rfl rfl (Nat.le_of_ble_eq_true rfl) ?_
    refine ARun.pure (PureOp.move rfl (.tmp rfl)) rfl rfl (Nat.le_of_ble_eq_true rfl) ?_
    refine ARun.pure (PureOp.ext2a rfl (.tmp rfl)) rfl rfl (Nat.le_of_ble_eq_true rfl) ?_
    refine ARun.pure (PureOp.ext2b rfl (.tmp rfl)) rfl rfl (Nat.le_of_ble_eq_true rfl) ?_
    refine ARun.pure (PureOp.assign rfl (.tmp rfl)) rfl rfl (Nat.le_of_ble_eq_true rfl) ?_
    refine ARun.pure (PureOp.assign rfl (.tmp rfl)) rfl rfl (Nat.le_of_ble_eq_true rfl) ?_
    refine ARun.nil ?_
    refine AW.seq ?_
    refine AW.region ?_
    refine ARun.pure (PureOp.loadPtrAgg rfl (.tmp rfl) vd_ag_36_6 rfl rfl (Nat.le_of_ble_eq_true rfl) (Nat.le_of_ble_eq_true rfl)) rfl rfl (Nat.le_of_ble_eq_true rfl) ?_
    refine ARun.fresh (FreshOp.callS rfl (v_toRepl x0 (Small.mk (by omega))) ⟨⟨_, (.tmp rfl), ⟨.lst, .lst, .int, .int, .lst, .lst, trivial⟩⟩, trivial⟩ vd_ca_17 rfl) rfl rfl (Nat.le_of_ble_eq_true rfl) ?_
    refine ARun.alloc (id := 1) (l := [.lst 1 0 (fun _ _ => .con undef), .lst 1 0 (fun _ _ => .con undef), .int .i64 0, .int .i64 0, .lst 1 0 (fun _ _ => .con undef), .lst 2 0 (fun _ _ => .con undef)]) (z := (.agg #[.slice none 0 0, .slice none 0 0, .int .i64 0, .int .i64 0, .slice none 0 0, .slice none 0 0])) rfl (by kernel_rfl) (fun _ _ _ => ⟨_, _, rfl, ⟨none, 0, rfl, Nat.le_refl _, by decide, fun _ => rfl, fun i hi => absurd hi (by omega)⟩, ⟨_, _, rfl, ⟨none, 0, rfl, Nat.le_refl _, by decide, fun _ => rfl, fun i hi => absurd hi (by omega)⟩, ⟨_, _, rfl, rfl, ⟨_, _, rfl, rfl, ⟨_, _, rfl, ⟨none, 0, rfl, Nat.le_refl _, by decide, fun _ => rfl, fun i hi => absurd hi (by omega)⟩, ⟨_, _, rfl, ⟨none, 0, rfl, Nat.le_refl _, by decide, fun _ => rfl, fun i hi => absurd hi (by omega)⟩, rfl⟩⟩⟩⟩⟩⟩) ⟨rfl, (by repeat first | exact trivial | refine ⟨by decide, by first | rfl | (intro i j; first | rfl | (dsimp only; split <;> rfl)), ?_⟩)⟩ rfl rfl rfl (Nat.le_of_ble_eq_true rfl) ?_
    refine ARun.store rfl (.tmp rfl) (.tmp rfl) (SV.cells_of (by exact ⟨trivial, trivial, trivial, trivial, trivial, trivial, trivial⟩)) rfl (Nat.le_of_ble_eq_true rfl) vd_sz_27_6 rfl rfl ?_
    refine ARun.nil ?_
    refine AW.seq ?_
    refine AW.region ?_
    refine ARun.pure (PureOp.loadPtrAgg rfl (.tmp rfl) vd_ag_27_6 rfl rfl (Nat.le_of_ble_eq_true rfl) (Nat.le_of_ble_eq_true rfl)) rfl rfl (Nat.le_of_ble_eq_true rfl) ?_
    refine ARun.pure (PureOp.call rfl (v_implCert x0) ⟨⟨_, (.tmp rfl), ⟨.frs, .frs, .int, .int, .frs, .frs, trivial⟩⟩, trivial⟩ vd_ca_22 ⟨trivial, trivial⟩) rfl rfl (Nat.le_of_ble_eq_true rfl) ?_
    refine ARun.pure (PureOp.move rfl (.tmp rfl)) rfl rfl (Nat.le_of_ble_eq_true rfl) ?_
    refine ARun.pure (PureOp.ext2a rfl (.tmp rfl)) rfl rfl (Nat.le_of_ble_eq_true rfl) ?_
    refine ARun.pure (PureOp.ext2b rfl (.tmp rfl)) rfl rfl (Nat.le_of_ble_eq_true rfl) ?_
    refine ARun.pure (PureOp.assign rfl (.tmp rfl)) rfl rfl (Nat.le_of_ble_eq_true rfl) ?_
    refine ARun.pure (PureOp.assign rfl (.tmp rfl)) rfl rfl (Nat.le_of_ble_eq_true rfl) ?_
    refine ARun.nil ?_
    refine AW.seq ?_
    refine AW.seq ?_
    refine AW.region ?_
    refine ARun.pure (PureOp.move rfl (.tmp rfl)) rfl rfl (Nat.le_of_ble_eq_true rfl) ?_
    refine ARun.pure (PureOp.move rfl (.tmp rfl)) rfl rfl (Nat.le_of_ble_eq_true rfl) ?_
    refine ARun.pure (PureOp.intOp rfl (.tmp rfl) (.tmp rfl) rfl) rfl rfl (Nat.le_of_ble_eq_true rfl) ?_
    refine ARun.pure (PureOp.move rfl (.tmp rfl)) rfl rfl (Nat.le_of_ble_eq_true rfl) ?_
    refine ARun.gpure (want := false) (.tf rfl) (fun hg3 => PureOp.move rfl (.tmp rfl)) rfl rfl (Nat.le_of_ble_eq_true rfl) rfl (Nat.le_of_ble_eq_true rfl) ?_
    refine ARun.gpure (want := false) (.tf rfl) (fun hg4 => PureOp.move rfl (.tmp rfl)) rfl rfl (Nat.le_of_ble_eq_true rfl) rfl (Nat.le_of_ble_eq_true rfl) ?_
    refine ARun.gpure (want := false) (.tf rfl) (fun hg5 => PureOp.boolNe rfl (.gtmp rfl hg5) (.gtmp rfl hg5) vd_bo_4) rfl rfl (Nat.le_of_ble_eq_true rfl) rfl (Nat.le_of_ble_eq_true rfl) ?_
    refine ARun.pure (PureOp.pick rfl (.tmp rfl) (fun _ => .bool) (fun hp7 => .gtmp rfl (not_of hp7))) rfl rfl (Nat.le_of_ble_eq_true rfl) ?_
    refine ARun.nil ?_
    refine AW.cond (.tmp rfl) (fun hb8 => ?_) (fun hb8 => ?_)
    · have _u := True.intro
      exact absurd (show (cond (!decide (certV x0 = certV x0)) true (!((goodRepl x0) == (goodRepl x0)))) = false by simp) (by rw [hb8]; simp)
      --end
    · have _u := True.intro
      refine AW.skip ?_
      refine AW.seq ?_
      refine AW.seq ?_
      refine AW.any (by kernel_rfl) (by kernel_rfl) ?_
      refine AD.pure (PureOp.loadPtrAgg rfl (.tmp rfl) vd_ag_27_6 rfl rfl (Nat.le_of_ble_eq_true rfl) (Nat.le_of_ble_eq_true rfl)) rfl rfl (Nat.le_of_ble_eq_true rfl) ?_
      refine AD.pure (PureOp.loadPtrAgg rfl (.tmp rfl) vd_ag_36_6 rfl rfl (Nat.le_of_ble_eq_true rfl) (Nat.le_of_ble_eq_true rfl)) rfl rfl (Nat.le_of_ble_eq_true rfl) ?_
      refine AD.fresh (FreshOp.callS rfl (v_toRepl x0 (Small.mk (by omega))) ⟨⟨_, (.tmp rfl), ⟨.lst, .lst, .int, .int, .lst, .lst, trivial⟩⟩, trivial⟩ vd_ca_17 rfl) rfl rfl (Nat.le_of_ble_eq_true rfl) ?_
      refine AD.pure (PureOp.call rfl (v_eqRepl x0 x0) ⟨⟨_, (.tmp rfl), ⟨.frs, .frs, .int, .int, .frs, .frs, trivial⟩⟩, ⟨_, (.tmp rfl), ⟨.frs, .frs, .int, .int, .frs, .frs, trivial⟩⟩, trivial⟩ vd_ca_12 trivial) rfl rfl (Nat.le_of_ble_eq_true rfl) ?_
      refine AD.pure (PureOp.not rfl (.tmp rfl)) rfl rfl (Nat.le_of_ble_eq_true rfl) ?_
      refine AD.nil ?_
      refine AW.cond (.tmp rfl) (fun hb9 => ?_) (fun hb9 => ?_)
      · have _u := True.intro
        replace hb9 := of_decide_eq_false (of_not hb9)
        exact absurd rfl hb9
        --end
      · have _u := True.intro
        replace hb9 := of_decide_eq_true (not_f hb9)
        refine AW.skip ?_
        refine AW.seq ?_
        refine AW.region ?_
        refine ARun.pure (PureOp.assign rfl .bool) rfl rfl (Nat.le_of_ble_eq_true rfl) ?_
        refine ARun.nil ?_
        refine AW.ret (show ResL _ _ [.tmp 2] _ from resB rfl ?_)
        rfl

set_option maxRecDepth 100000 in
theorem lifted_CertainLength (os : Os) (started : os.Started) (H : Type) (enc : TypeId × Value → H) :
    ReturnsInHanded {} Try.checked os 6 .any (Rows.fnExactCertainLengthSpec.pre6 enc Try.prog Try.f6 Rows.fnExactCertainLengthRow.domain false) (Rows.fnExactCertainLengthSpec.post enc Try.prog Try.f6 false true false false) := by
  refine returnsInHanded_of_change (C := Try.checked) own started (by kernel_rfl) Try.func6
    (ChangeSpec.witness6 (enc := enc) (C := Try.checked) false ⟨#[], #[.agg #[.slice none 0 0, .slice none 0 0, .int .i64 0, .int .i64 0, .slice none 0 0, .slice none 0 0]], []⟩ 8 (by kernel_rfl) (by kernel_rfl) (by kernel_rfl) (by kernel_rfl)) ?_
  intro W base args ds gs before hval0 hW hcnd _
  have hval : ∀ (j : Nat) t v, Try.f6.params[j]? = some t → args[j]? = some v → Value.okWide Try.prog W .any base t v := hval0
  have hW' := hW
  obtain ⟨p, q, hA0, hV, rfl, hfz, hnd⟩ := hW
  have hA : DataW.TrodAll enc Try.prog W 0 (fun _ => true) true Try.f6.params.toList args.toList ds p := hA0
  rw [Try.params6] at hA hval
  obtain ⟨v0, vs0, d0, ds0, p0, q0, hargs, rfl, rfl, h0, r0⟩ := trodAll_cons hA
  obtain ⟨rfl, rfl, rfl⟩ := trodAll_nil r0
  obtain rfl : args = #[v0] := by cases args; simp_all
  obtain ⟨rfl, rfl⟩ := trodVars_none hV
  obtain ⟨x0, R0⟩ := OpensC.arg opensC_36 h0
  have E0 : DS W (· < W.heap.size) (.agg [.lst 1 x0.logs.length (fun i0 _ => .lst 2 ((x0.logs.getD i0 []).length) (fun i1 j1 => ([.int .i64 (((x0.logs.getD i0 []).getD i1 (default : GEntry)).epoch), .str (((x0.logs.getD i0 []).getD i1 (default : GEntry)).text)] : List AV).getD j1 (.con undef))), .lst 1 x0.down.length (fun i0 _ => .bool (x0.down.getD i0 false)), .int .i64 x0.leader, .int .i64 x0.epoch, .lst 1 x0.inSync.length (fun i0 _ => .int .i64 (x0.inSync.getD i0 0)), .lst 2 x0.certain.length (fun i0 j0 => ([.int .i64 ((x0.certain.getD i0 (default : GEntry)).epoch), .str ((x0.certain.getD i0 (default : GEntry)).text)] : List AV).getD j0 (.con undef))]) v0 := DS.agg_of (let ⟨cs, e, _⟩ := okWide_struct Try.underlying36 (hval 0 36 v0 rfl rfl); ⟨cs, e⟩) R0
  clear hA0 hval0
  refine (law_CertainLength x0 W _ _ (fun _ h => h) ⟨_, _, rfl, E0, rfl⟩).mono fun e W' ⟨he, hg⟩ => ?_
  subst he
  exact ⟨_, rfl, law_post hW' rfl laidOut (by kernel_rfl) hg rfl rfl Try.underlying4⟩
/-- The statement. -/
theorem proved_CertainLength : Rows.FnExactCertainLengthSaid :=
  OpenClaim.holds_of_wide 6 Try.f6 rfl rfl rfl rfl rfl rfl rfl ⟨rfl, rfl, rfl, rfl, rfl⟩ rfl rfl rfl rfl rfl (by kernel_rfl) Try.func6 (by kernel_rfl)
    (of_decide_eq_true (by kernel_rfl)) (by unfold Func.isWrapper; first | (rw [if_pos (by decide +kernel)]; kernel_rfl) | (rw [if_neg (by decide +kernel)]; exact ⟨rfl, rfl⟩))
    (fun os started H enc _ => lifted_CertainLength os started H enc)
#print axioms proved_CertainLength
end Go.Proofs.Ytmlhlkpiofbhgaa
