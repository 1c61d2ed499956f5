/-
  Proved: the law FnExactPictureOf returns true for every input: the program's PictureOf answers what the reference's does, and leaves its argument alone. Conditions: none.
-/
import Derived.Test.YtlbnodmebehpiaaTt0
import Derived.Test.YtlbnodmebehpiaaLz
import Derived.Test.YtlbnodmebehpiaaLe
import Derived.Test.YtlbnodmebehpiaaLt
import Derived.Test.YtlbnodmebehpiaaVo
namespace Go.Proofs.Ytlbnodmebehpiaa
open Go.ChangeShapes Go.WideShapes Go.ChangeAt Go.RowKit Go.BigFrame Go.Deep
set_option linter.unusedVariables false
set_option linter.unusedSimpArgs false
theorem vtb_ag_49_5 : aggB Try.prog 49 5 = true := by kernel_rfl
theorem vtb_ag_54_5 : aggB Try.prog 54 5 = true := by kernel_rfl
theorem vtb_bo_4 : boolB Try.prog 4 = true := by kernel_rfl
theorem vtb_ca_30 : callB Try.prog 30 = true := by kernel_rfl
theorem vtb_ca_33 : callB Try.prog 33 = true := by kernel_rfl
theorem vtb_ca_35 : callB Try.prog 35 = true := by kernel_rfl
theorem vtb_ca_41 : callB Try.prog 41 = true := by kernel_rfl
theorem vtb_ca_42 : callB Try.prog 42 = true := by kernel_rfl
theorem vtb_sz_49_5 : sizeB Try.prog 49 5 = true := by kernel_rfl
theorem opensC_3 : OpensC Try.prog 3 (fun x : Int => [.int .i64 x]) := OpensC.int Try.underlying3
theorem opensC_22 : OpensC Try.prog 22 (fun x : List Int => [.lst 1 x.length (fun i0 _ => .int .i64 (x.getD i0 0))]) := OpensC.slice (0 : Int) Try.underlying22 (by kernel_rfl) (by decide) opensC_3 (fun _ => rfl) (fun l i j _ hj => match j, hj with | 0, _ => rfl | _ + 1, h => absurd h (by omega))
theorem opensC_25 : OpensC Try.prog 25 (fun x : List (List Int) => [.lst 1 x.length (fun i0 _ => .lst 1 ((x.getD i0 []).length) (fun i1 _ => .int .i64 ((x.getD i0 []).getD i1 0)))]) := OpensC.slice ([] : List Int) Try.underlying25 (by kernel_rfl) (by decide) opensC_22 (fun _ => rfl) (fun l i j _ hj => match j, hj with | 0, _ => rfl | _ + 1, h => absurd h (by omega))
theorem opensC_4 : OpensC Try.prog 4 (fun x : Bool => [.bool x]) := OpensC.bool Try.underlying4
theorem opensC_107 : OpensC Try.prog 107 (fun x : List Bool => [.lst 1 x.length (fun i0 _ => .bool (x.getD i0 false))]) := OpensC.slice (false : Bool) Try.underlying107 (by kernel_rfl) (by decide) opensC_4 (fun _ => rfl) (fun l i j _ hj => match j, hj with | 0, _ => rfl | _ + 1, h => absurd h (by omega))
theorem opensC_47 : OpensC Try.prog 47 (fun x : List (List Bool) => [.lst 1 x.length (fun i0 _ => .lst 1 ((x.getD i0 []).length) (fun i1 _ => .bool ((x.getD i0 []).getD i1 false)))]) := OpensC.slice ([] : List Bool) Try.underlying47 (by kernel_rfl) (by decide) opensC_107 (fun _ => rfl) (fun l i j _ hj => match j, hj with | 0, _ => rfl | _ + 1, h => absurd h (by omega))
theorem opensC_54 : OpensC Try.prog 54 (fun x : GBank => [.lst 1 x.cCoins.length (fun i0 _ => .int .i64 (x.cCoins.getD i0 0)), .lst 1 x.cWays.length (fun i0 _ => .lst 1 ((x.cWays.getD i0 []).length) (fun i1 _ => .int .i64 ((x.cWays.getD i0 []).getD i1 0))), .lst 1 x.cKept.length (fun i0 _ => .int .i64 (x.cKept.getD i0 0)), .lst 1 x.cHeard.length (fun i0 _ => .lst 1 ((x.cHeard.getD i0 []).length) (fun i1 _ => .bool ((x.cHeard.getD i0 []).getD i1 false))), .lst 1 x.cFound.length (fun i0 _ => .lst 1 ((x.cFound.getD i0 []).length) (fun i1 _ => .int .i64 ((x.cFound.getD i0 []).getD i1 0)))]) := fun H eh w fuel cs x h => by
  have hS : Try.prog.underlying 54 = some (.struct (Try.prog.fieldsOf 54)) := by kernel_rfl
  obtain ⟨xs, n, _, rfl, hl, hlen, hf⟩ := DataW.trod_struct hS h
  have hsz : (Try.prog.fieldsOf 54).size = 5 := by kernel_rfl
  have hC : Try.prog.cellsOf 54 = 5 := by kernel_rfl
  rw [hC] at hl
  have t0 : ((Try.prog.fieldsOf 54)[0]?).map (fun f => (f.type, f.offset, Try.prog.cellsOf f.type)) = some (22, 0, 1) := by kernel_rfl
  obtain ⟨f0, j0, y0⟩ := Option.map_eq_some_iff.1 t0
  simp only [Prod.mk.injEq] at y0
  have g0 := hf 0 f0 j0
  rw [y0.2.2, y0.2.1, y0.1, List.getElem?_eq_getElem (by omega)] at g0
  obtain ⟨a0, r0⟩ := opensC_22 H eh w n _ _ g0
  have t1 : ((Try.prog.fieldsOf 54)[1]?).map (fun f => (f.type, f.offset, Try.prog.cellsOf f.type)) = some (25, 1, 1) := by kernel_rfl
  obtain ⟨f1, j1, y1⟩ := Option.map_eq_some_iff.1 t1
  simp only [Prod.mk.injEq] at y1
  have g1 := hf 1 f1 j1
  rw [y1.2.2, y1.2.1, y1.1, List.getElem?_eq_getElem (by omega)] at g1
  obtain ⟨a1, r1⟩ := opensC_25 H eh w n _ _ g1
  have t2 : ((Try.prog.fieldsOf 54)[2]?).map (fun f => (f.type, f.offset, Try.prog.cellsOf f.type)) = some (22, 2, 1) := by kernel_rfl
  obtain ⟨f2, j2, y2⟩ := Option.map_eq_some_iff.1 t2
  simp only [Prod.mk.injEq] at y2
  have g2 := hf 2 f2 j2
  rw [y2.2.2, y2.2.1, y2.1, List.getElem?_eq_getElem (by omega)] at g2
  obtain ⟨a2, r2⟩ := opensC_22 H eh w n _ _ g2
  have t3 : ((Try.prog.fieldsOf 54)[3]?).map (fun f => (f.type, f.offset, Try.prog.cellsOf f.type)) = some (47, 3, 1) := by kernel_rfl
  obtain ⟨f3, j3, y3⟩ := Option.map_eq_some_iff.1 t3
  simp only [Prod.mk.injEq] at y3
  have g3 := hf 3 f3 j3
  rw [y3.2.2, y3.2.1, y3.1, List.getElem?_eq_getElem (by omega)] at g3
  obtain ⟨a3, r3⟩ := opensC_47 H eh w n _ _ g3
  have t4 : ((Try.prog.fieldsOf 54)[4]?).map (fun f => (f.type, f.offset, Try.prog.cellsOf f.type)) = some (25, 4, 1) := by kernel_rfl
  obtain ⟨f4, j4, y4⟩ := Option.map_eq_some_iff.1 t4
  simp only [Prod.mk.injEq] at y4
  have g4 := hf 4 f4 j4
  rw [y4.2.2, y4.2.1, y4.1, List.getElem?_eq_getElem (by omega)] at g4
  obtain ⟨a4, r4⟩ := opensC_25 H eh w n _ _ g4
  have e5 : DL w (· < w.heap.size) [] (cs.drop 5) := List.drop_of_length_le (by omega)
  have e4 := DL.part (o := 4) (s := 1) r4 e5
  have e3 := DL.part (o := 3) (s := 1) r3 e4
  have e2 := DL.part (o := 2) (s := 1) r2 e3
  have e1 := DL.part (o := 1) (s := 1) r1 e2
  have e0 := DL.part (o := 0) (s := 1) r0 e1
  exact ⟨⟨a0, a1, a2, a3, a4⟩, e0⟩

theorem law_PictureOf (x0 : GBank) : Fn Try.prog 10 [.agg [.lst 1 x0.cCoins.length (fun i0 _ => .int .i64 (x0.cCoins.getD i0 0)), .lst 1 x0.cWays.length (fun i0 _ => .lst 1 ((x0.cWays.getD i0 []).length) (fun i1 _ => .int .i64 ((x0.cWays.getD i0 []).getD i1 0))), .lst 1 x0.cKept.length (fun i0 _ => .int .i64 (x0.cKept.getD i0 0)), .lst 1 x0.cHeard.length (fun i0 _ => .lst 1 ((x0.cHeard.getD i0 []).length) (fun i1 _ => .bool ((x0.cHeard.getD i0 []).getD i1 false))), .lst 1 x0.cFound.length (fun i0 _ => .lst 1 ((x0.cFound.getD i0 []).length) (fun i1 _ => .int .i64 ((x0.cFound.getD i0 []).getD i1 0)))]] (.one (.bool true)) := by
  refine Fn.of_body (fn := Try.f10) Try.func10 rfl (Nat.le_of_ble_eq_true rfl) trivial ?_
  intro w0
  show AW _ 40 _ _ _ _
  refine AW.seq ?_
  refine AW.region ?_
  refine ARun.box (id := 0) rfl (.tmp rfl) (SV.cells_of (by exact ⟨trivial, trivial, trivial, trivial, trivial, trivial⟩)) ⟨rfl, (by repeat first | exact trivial | refine ⟨by decide, by first | rfl | (intro i j; first | rfl | (dsimp only; split <;> rfl)), ?_⟩)⟩ rfl rfl rfl (Nat.le_of_ble_eq_true rfl) ?_
  refine ARun.pure (PureOp.assign rfl .bool) rfl rfl (Nat.le_of_ble_eq_true rfl) ?_
  refine ARun.nil ?_
  refine AW.seq ?_
  refine AW.region ?_
  refine ARun.pure (PureOp.assign rfl .int) rfl rfl (Nat.le_of_ble_eq_true rfl) ?_
  refine ARun.nil ?_
  refine AW.seq ?_
  refine AW.region ?_
  refine ARun.pure (PureOp.loadPtrAgg rfl (.tmp rfl) vtb_ag_54_5 rfl rfl (Nat.le_of_ble_eq_true rfl) (Nat.le_of_ble_eq_true rfl)) rfl rfl (Nat.le_of_ble_eq_true rfl) ?_
  refine ARun.pure (PureOp.move rfl (.tmp rfl)) rfl rfl (Nat.le_of_ble_eq_true rfl) ?_
  refine ARun.pure (PureOp.call rfl (v_szBank x0 1048576 (by first | omega | (unfold szR at *; split at * <;> omega))) ⟨⟨_, (.tmp rfl), ⟨.lst, .lst, .lst, .lst, .lst, trivial⟩⟩, ⟨_, (.tmp rfl), .int⟩, trivial⟩ vtb_ca_33 trivial) rfl rfl (Nat.le_of_ble_eq_true rfl) ?_
  refine ARun.pure (PureOp.assign rfl (.tmp rfl)) rfl rfl (Nat.le_of_ble_eq_true rfl) ?_
  refine ARun.nil ?_
  refine AW.seq ?_
  refine AW.seq ?_
  refine AW.region ?_
  refine ARun.pure (PureOp.move rfl (.tmp rfl)) rfl rfl (Nat.le_of_ble_eq_true rfl) ?_
  refine ARun.pure (PureOp.intOp rfl (.tmp rfl) .int rfl) rfl rfl (Nat.le_of_ble_eq_true rfl) ?_
  refine ARun.nil ?_
  refine AW.cond (.tmp rfl) (fun hb1 => ?_) (fun hb1 => ?_)
  · have _u := True.intro
    replace hb1 := of_decide_eq_true hb1
    refine AW.seq ?_
    refine AW.region ?_
    refine ARun.pure (PureOp.assign rfl .bool) rfl rfl (Nat.le_of_ble_eq_true rfl) ?_
    refine ARun.nil ?_
    refine AW.ret (show ResL _ _ [.tmp 2] _ from resB rfl ?_)
    rfl
  · have _u := True.intro
    replace hb1 := of_decide_eq_false hb1
    obtain ⟨hs2, hs2b, hs2c⟩ := szR_ok (by omega) hb1
    refine AW.skip ?_
    refine AW.seq ?_
    refine AW.region ?_
    refine ARun.pure (PureOp.loadPtrAgg rfl (.tmp rfl) vtb_ag_54_5 rfl rfl (Nat.le_of_ble_eq_true rfl) (Nat.le_of_ble_eq_true rfl)) rfl rfl (Nat.le_of_ble_eq_true rfl) ?_
    refine ARun.fresh (FreshOp.callS rfl (v_toBank x0 (Small.mk (by omega))) ⟨⟨_, (.tmp rfl), ⟨.lst, .lst, .lst, .lst, .lst, trivial⟩⟩, trivial⟩ vtb_ca_35 rfl) rfl rfl (Nat.le_of_ble_eq_true rfl) ?_
    refine ARun.pure (PureOp.call rfl (v_specPictureOf x0) ⟨⟨_, (.tmp rfl), ⟨.frs, .frs, .frs, .frs, .frs, trivial⟩⟩, trivial⟩ vtb_ca_41 ⟨trivial, trivial⟩) rfl rfl (Nat.le_of_ble_eq_true rfl) ?_
    refine ARun.pure (PureOp.move rfl (.tmp rfl)) rfl rfl (Nat.le_of_ble_eq_true rfl) ?_
    refine ARun.pure (PureOp.ext2a rfl (.tmp rfl)) rfl rfl (Nat.le_of_ble_eq_true rfl) ?_
    refine ARun.pure (PureOp.ext2b rfl (.tmp rfl)) rfl rfl (Nat.le_of_ble_eq_true rfl) ?_
    refine ARun.pure (PureOp.assign rfl (.tmp rfl)) rfl rfl (Nat.le_of_ble_eq_true rfl) ?_
    refine ARun.pure (PureOp.assign rfl (.tmp rfl)) rfl rfl (Nat.le_of_ble_eq_true rfl) ?_
    refine ARun.nil ?_
    refine AW.seq ?_
    refine AW.region ?_
    refine ARun.pure (PureOp.loadPtrAgg rfl (.tmp rfl) vtb_ag_54_5 rfl rfl (Nat.le_of_ble_eq_true rfl) (Nat.le_of_ble_eq_true rfl)) rfl rfl (Nat.le_of_ble_eq_true rfl) ?_
    refine ARun.fresh (FreshOp.callS rfl (v_toBank x0 (Small.mk (by omega))) ⟨⟨_, (.tmp rfl), ⟨.lst, .lst, .lst, .lst, .lst, trivial⟩⟩, trivial⟩ vtb_ca_35 rfl) rfl rfl (Nat.le_of_ble_eq_true rfl) ?_
    refine ARun.alloc (id := 1) (l := [.lst 1 0 (fun _ _ => .con undef), .lst 1 0 (fun _ _ => .con undef), .lst 1 0 (fun _ _ => .con undef), .lst 1 0 (fun _ _ => .con undef), .lst 1 0 (fun _ _ => .con undef)]) (z := (.agg #[.slice none 0 0, .slice none 0 0, .slice none 0 0, .slice none 0 0, .slice none 0 0])) rfl (by kernel_rfl) (fun _ _ _ => ⟨_, _, rfl, ⟨none, 0, rfl, Nat.le_refl _, by decide, fun _ => rfl, fun i hi => absurd hi (by omega)⟩, ⟨_, _, rfl, ⟨none, 0, rfl, Nat.le_refl _, by decide, fun _ => rfl, fun i hi => absurd hi (by omega)⟩, ⟨_, _, rfl, ⟨none, 0, rfl, Nat.le_refl _, by decide, fun _ => rfl, fun i hi => absurd hi (by omega)⟩, ⟨_, _, rfl, ⟨none, 0, rfl, Nat.le_refl _, by decide, fun _ => rfl, fun i hi => absurd hi (by omega)⟩, ⟨_, _, rfl, ⟨none, 0, rfl, Nat.le_refl _, by decide, fun _ => rfl, fun i hi => absurd hi (by omega)⟩, rfl⟩⟩⟩⟩⟩) ⟨rfl, (by repeat first | exact trivial | refine ⟨by decide, by first | rfl | (intro i j; first | rfl | (dsimp only; split <;> rfl)), ?_⟩)⟩ rfl rfl rfl (Nat.le_of_ble_eq_true rfl) ?_
    refine ARun.store rfl (.tmp rfl) (.tmp rfl) (SV.cells_of (by exact ⟨trivial, trivial, trivial, trivial, trivial, trivial⟩)) rfl (Nat.le_of_ble_eq_true rfl) vtb_sz_49_5 rfl rfl ?_
    refine ARun.nil ?_
    refine AW.seq ?_
    refine AW.region ?_
    refine ARun.pure (PureOp.loadPtrAgg rfl (.tmp rfl) vtb_ag_49_5 rfl rfl (Nat.le_of_ble_eq_true rfl) (Nat.le_of_ble_eq_true rfl)) rfl rfl (Nat.le_of_ble_eq_true rfl) ?_
    refine ARun.pure (PureOp.call rfl (v_implPictureOf x0) ⟨⟨_, (.tmp rfl), ⟨.frs, .frs, .frs, .frs, .frs, trivial⟩⟩, trivial⟩ vtb_ca_42 ⟨trivial, trivial⟩) rfl rfl (Nat.le_of_ble_eq_true rfl) ?_
    refine ARun.pure (PureOp.move rfl (.tmp rfl)) rfl rfl (Nat.le_of_ble_eq_true rfl) ?_
    refine ARun.pure (PureOp.ext2a rfl (.tmp rfl)) rfl rfl (Nat.le_of_ble_eq_true rfl) ?_
    refine ARun.pure (PureOp.ext2b rfl (.tmp rfl)) rfl rfl (Nat.le_of_ble_eq_true rfl) ?_
    refine ARun.pure (PureOp.assign rfl (.tmp rfl)) rfl rfl (Nat.le_of_ble_eq_true rfl) ?_
    refine ARun.pure (PureOp.assign rfl (.tmp rfl)) rfl rfl (Nat.le_of_ble_eq_true rfl) ?_
    refine ARun.nil ?_
    refine AW.seq ?_
    refine AW.seq ?_
    refine AW.region ?_
    refine ARun.pure (PureOp.move rfl (.tmp rfl)) rfl rfl (Nat.le_of_ble_eq_true rfl) ?_
    refine ARun.pure (PureOp.move rfl (.tmp rfl)) rfl rfl (Nat.le_of_ble_eq_true rfl) ?_
    refine ARun.pure (PureOp.intOp rfl (.tmp rfl) (.tmp rfl) rfl) rfl rfl (Nat.le_of_ble_eq_true rfl) ?_
    refine ARun.pure (PureOp.move rfl (.tmp rfl)) rfl rfl (Nat.le_of_ble_eq_true rfl) ?_
    refine ARun.gpure (want := false) (.tf rfl) (fun hg3 => PureOp.move rfl (.tmp rfl)) rfl rfl (Nat.le_of_ble_eq_true rfl) rfl (Nat.le_of_ble_eq_true rfl) ?_
    refine ARun.gpure (want := false) (.tf rfl) (fun hg4 => PureOp.move rfl (.tmp rfl)) rfl rfl (Nat.le_of_ble_eq_true rfl) rfl (Nat.le_of_ble_eq_true rfl) ?_
    refine ARun.gpure (want := false) (.tf rfl) (fun hg5 => PureOp.boolNe rfl (.gtmp rfl hg5) (.gtmp rfl hg5) vtb_bo_4) rfl rfl (Nat.le_of_ble_eq_true rfl) rfl (Nat.le_of_ble_eq_true rfl) ?_
    refine ARun.pure (PureOp.pick rfl (.tmp rfl) (fun _ => .bool) (fun hp7 => .gtmp rfl (not_of hp7))) rfl rfl (Nat.le_of_ble_eq_true rfl) ?_
    refine ARun.nil ?_
    refine AW.cond (.tmp rfl) (fun hb8 => ?_) (fun hb8 => ?_)
    · have _u := True.intro
      exact absurd (show (cond (!decide (cond (picB x0) (sumOf x0.cKept x0.cFound) 0 = cond (picB x0) (sumOf x0.cKept x0.cFound) 0)) true (!((picB x0) == (picB x0)))) = false by simp) (by rw [hb8]; simp)
      --end
    · have _u := True.intro
      refine AW.skip ?_
      refine AW.seq ?_
      refine AW.seq ?_
      refine AW.any (by kernel_rfl) (by kernel_rfl) ?_
      refine AD.pure (PureOp.loadPtrAgg rfl (.tmp rfl) vtb_ag_49_5 rfl rfl (Nat.le_of_ble_eq_true rfl) (Nat.le_of_ble_eq_true rfl)) rfl rfl (Nat.le_of_ble_eq_true rfl) ?_
      refine AD.pure (PureOp.loadPtrAgg rfl (.tmp rfl) vtb_ag_54_5 rfl rfl (Nat.le_of_ble_eq_true rfl) (Nat.le_of_ble_eq_true rfl)) rfl rfl (Nat.le_of_ble_eq_true rfl) ?_
      refine AD.fresh (FreshOp.callS rfl (v_toBank x0 (Small.mk (by omega))) ⟨⟨_, (.tmp rfl), ⟨.lst, .lst, .lst, .lst, .lst, trivial⟩⟩, trivial⟩ vtb_ca_35 rfl) rfl rfl (Nat.le_of_ble_eq_true rfl) ?_
      refine AD.pure (PureOp.call rfl (v_eqBank x0 x0) ⟨⟨_, (.tmp rfl), ⟨.frs, .frs, .frs, .frs, .frs, trivial⟩⟩, ⟨_, (.tmp rfl), ⟨.frs, .frs, .frs, .frs, .frs, trivial⟩⟩, trivial⟩ vtb_ca_30 trivial) rfl rfl (Nat.le_of_ble_eq_true rfl) ?_
      refine AD.pure (PureOp.not rfl (.tmp rfl)) rfl rfl (Nat.le_of_ble_eq_true rfl) ?_
      refine AD.nil ?_
      refine AW.cond (.tmp rfl) (fun hb9 => ?_) (fun hb9 => ?_)
      · have _u := True.intro
        replace hb9 := of_decide_eq_false (of_not hb9)
        exact absurd rfl hb9
        --end
      · have _u := True.intro
        replace hb9 := of_decide_eq_true (not_f hb9)
        refine AW.skip ?_
        refine AW.seq ?_
        refine AW.region ?_
        refine ARun.pure (PureOp.assign rfl .bool) rfl rfl (Nat.le_of_ble_eq_true rfl) ?_
        refine ARun.nil ?_
        refine AW.ret (show ResL _ _ [.tmp 2] _ from resB rfl ?_)
        rfl

set_option maxRecDepth 100000 in
theorem lifted_PictureOf (os : Os) (started : os.Started) (H : Type) (enc : TypeId × Value → H) :
    ReturnsInHanded {} Try.checked os 10 .any (Rows.fnExactPictureOfSpec.pre6 enc Try.prog Try.f10 Rows.fnExactPictureOfRow.domain false) (Rows.fnExactPictureOfSpec.post enc Try.prog Try.f10 false true false false) := by
  refine returnsInHanded_of_change (C := Try.checked) own started (by kernel_rfl) Try.func10
    (ChangeSpec.witness6 (enc := enc) (C := Try.checked) false ⟨#[], #[.agg #[.slice none 0 0, .slice none 0 0, .slice none 0 0, .slice none 0 0, .slice none 0 0]], []⟩ 8 (by kernel_rfl) (by kernel_rfl) (by kernel_rfl) (by kernel_rfl)) ?_
  intro W base args ds gs before hval0 hW hcnd _
  have hval : ∀ (j : Nat) t v, Try.f10.params[j]? = some t → args[j]? = some v → Value.okWide Try.prog W .any base t v := hval0
  have hW' := hW
  obtain ⟨p, q, hA0, hV, rfl, hfz, hnd⟩ := hW
  have hA : DataW.TrodAll enc Try.prog W 0 (fun _ => true) true Try.f10.params.toList args.toList ds p := hA0
  rw [Try.params10] at hA hval
  obtain ⟨v0, vs0, d0, ds0, p0, q0, hargs, rfl, rfl, h0, r0⟩ := trodAll_cons hA
  obtain ⟨rfl, rfl, rfl⟩ := trodAll_nil r0
  obtain rfl : args = #[v0] := by cases args; simp_all
  obtain ⟨rfl, rfl⟩ := trodVars_none hV
  obtain ⟨x0, R0⟩ := OpensC.arg opensC_54 h0
  have E0 : DS W (· < W.heap.size) (.agg [.lst 1 x0.cCoins.length (fun i0 _ => .int .i64 (x0.cCoins.getD i0 0)), .lst 1 x0.cWays.length (fun i0 _ => .lst 1 ((x0.cWays.getD i0 []).length) (fun i1 _ => .int .i64 ((x0.cWays.getD i0 []).getD i1 0))), .lst 1 x0.cKept.length (fun i0 _ => .int .i64 (x0.cKept.getD i0 0)), .lst 1 x0.cHeard.length (fun i0 _ => .lst 1 ((x0.cHeard.getD i0 []).length) (fun i1 _ => .bool ((x0.cHeard.getD i0 []).getD i1 false))), .lst 1 x0.cFound.length (fun i0 _ => .lst 1 ((x0.cFound.getD i0 []).length) (fun i1 _ => .int .i64 ((x0.cFound.getD i0 []).getD i1 0)))]) v0 := DS.agg_of (let ⟨cs, e, _⟩ := okWide_struct Try.underlying54 (hval 0 54 v0 rfl rfl); ⟨cs, e⟩) R0
  clear hA0 hval0
  refine (law_PictureOf x0 W _ _ (fun _ h => h) ⟨_, _, rfl, E0, rfl⟩).mono fun e W' ⟨he, hg⟩ => ?_
  subst he
  exact ⟨_, rfl, law_post hW' rfl laidOut (by kernel_rfl) hg rfl rfl Try.underlying4⟩
/-- The statement. -/
theorem proved_PictureOf : Rows.FnExactPictureOfSaid :=
  OpenClaim.holds_of_wide 10 Try.f10 rfl rfl rfl rfl rfl rfl rfl ⟨rfl, rfl, rfl, rfl, rfl⟩ rfl rfl rfl rfl rfl (by kernel_rfl) Try.func10 (by kernel_rfl)
    (of_decide_eq_true (by kernel_rfl)) (by unfold Func.isWrapper; first | (rw [if_pos (by decide +kernel)]; kernel_rfl) | (rw [if_neg (by decide +kernel)]; exact ⟨rfl, rfl⟩))
    (fun os started H enc _ => lifted_PictureOf os started H enc)
#print axioms proved_PictureOf
end Go.Proofs.Ytlbnodmebehpiaa
