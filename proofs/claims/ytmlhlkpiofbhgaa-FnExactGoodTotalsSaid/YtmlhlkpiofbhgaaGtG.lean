/-
  Proved: the law FnExactGoodTotals returns true for every input: the program's GoodTotals answers what the reference's does, and leaves its argument alone. Conditions: none.
-/
import Derived.Test.YtmlhlkpiofbhgaaGt5
import Derived.Test.YtmlhlkpiofbhgaaLz5
import Derived.Test.YtmlhlkpiofbhgaaLe5
import Derived.Test.YtmlhlkpiofbhgaaLt5
import Derived.Test.YtmlhlkpiofbhgaaVo
namespace Go.Proofs.Ytmlhlkpiofbhgaa
open Go.ChangeShapes Go.WideShapes Go.ChangeAt Go.RowKit Go.BigFrame Go.Deep
set_option linter.unusedVariables false
set_option linter.unusedSimpArgs false
theorem vjd_bo_4 : boolB Try.prog 4 = true := by kernel_rfl
theorem vjd_ca_39 : callB Try.prog 39 = true := by kernel_rfl
theorem vjd_ca_40 : callB Try.prog 40 = true := by kernel_rfl
theorem vjd_ca_41 : callB Try.prog 41 = true := by kernel_rfl
theorem vjd_ca_42 : callB Try.prog 42 = true := by kernel_rfl
theorem vjd_ca_43 : callB Try.prog 43 = true := by kernel_rfl
theorem opensC_9 : OpensC Try.prog 9 (fun x : ByteArray => [.str x]) := OpensC.string Try.underlying9
theorem opensC_104 : OpensC Try.prog 104 (fun x : GLabel => [.str x.lname, .str x.lvalue]) := fun H eh w fuel cs x h => by
  have hS : Try.prog.underlying 104 = some (.struct (Try.prog.fieldsOf 104)) := by kernel_rfl
  obtain ⟨xs, n, _, rfl, hl, hlen, hf⟩ := DataW.trod_struct hS h
  have hsz : (Try.prog.fieldsOf 104).size = 2 := by kernel_rfl
  have hC : Try.prog.cellsOf 104 = 2 := by kernel_rfl
  rw [hC] at hl
  have t0 : ((Try.prog.fieldsOf 104)[0]?).map (fun f => (f.type, f.offset, Try.prog.cellsOf f.type)) = some (9, 0, 1) := by kernel_rfl
  obtain ⟨f0, j0, y0⟩ := Option.map_eq_some_iff.1 t0
  simp only [Prod.mk.injEq] at y0
  have g0 := hf 0 f0 j0
  rw [y0.2.2, y0.2.1, y0.1, List.getElem?_eq_getElem (by omega)] at g0
  obtain ⟨a0, r0⟩ := opensC_9 H eh w n _ _ g0
  have t1 : ((Try.prog.fieldsOf 104)[1]?).map (fun f => (f.type, f.offset, Try.prog.cellsOf f.type)) = some (9, 1, 1) := by kernel_rfl
  obtain ⟨f1, j1, y1⟩ := Option.map_eq_some_iff.1 t1
  simp only [Prod.mk.injEq] at y1
  have g1 := hf 1 f1 j1
  rw [y1.2.2, y1.2.1, y1.1, List.getElem?_eq_getElem (by omega)] at g1
  obtain ⟨a1, r1⟩ := opensC_9 H eh w n _ _ g1
  have e2 : DL w (· < w.heap.size) [] (cs.drop 2) := List.drop_of_length_le (by omega)
  have e1 := DL.part (o := 1) (s := 1) r1 e2
  have e0 := DL.part (o := 0) (s := 1) r0 e1
  exact ⟨⟨a0, a1⟩, e0⟩
theorem opensC_53 : OpensC Try.prog 53 (fun x : List GLabel => [.lst 2 x.length (fun i0 j0 => ([.str ((x.getD i0 (default : GLabel)).lname), .str ((x.getD i0 (default : GLabel)).lvalue)] : List AV).getD j0 (.con undef))]) := OpensC.slice (default : GLabel) Try.underlying53 (by kernel_rfl) (by decide) opensC_104 (fun _ => rfl) (fun l i j _ hj => match j, hj with | 0, _ => rfl | 1, _ => rfl | _ + 2, h => absurd h (by omega))
theorem opensC_3 : OpensC Try.prog 3 (fun x : Int => [.int .i64 x]) := OpensC.int Try.underlying3
theorem opensC_112 : OpensC Try.prog 112 (fun x : GTotal => [.lst 2 x.labels.length (fun i0 j0 => ([.str ((x.labels.getD i0 (default : GLabel)).lname), .str ((x.labels.getD i0 (default : GLabel)).lvalue)] : List AV).getD j0 (.con undef)), .int .i64 x.sum, .int .i64 x.count, .int .i64 x.least, .int .i64 x.most]) := fun H eh w fuel cs x h => by
  have hS : Try.prog.underlying 112 = some (.struct (Try.prog.fieldsOf 112)) := by kernel_rfl
  obtain ⟨xs, n, _, rfl, hl, hlen, hf⟩ := DataW.trod_struct hS h
  have hsz : (Try.prog.fieldsOf 112).size = 5 := by kernel_rfl
  have hC : Try.prog.cellsOf 112 = 5 := by kernel_rfl
  rw [hC] at hl
  have t0 : ((Try.prog.fieldsOf 112)[0]?).map (fun f => (f.type, f.offset, Try.prog.cellsOf f.type)) = some (53, 0, 1) := by kernel_rfl
  obtain ⟨f0, j0, y0⟩ := Option.map_eq_some_iff.1 t0
  simp only [Prod.mk.injEq] at y0
  have g0 := hf 0 f0 j0
  rw [y0.2.2, y0.2.1, y0.1, List.getElem?_eq_getElem (by omega)] at g0
  obtain ⟨a0, r0⟩ := opensC_53 H eh w n _ _ g0
  have t1 : ((Try.prog.fieldsOf 112)[1]?).map (fun f => (f.type, f.offset, Try.prog.cellsOf f.type)) = some (3, 1, 1) := by kernel_rfl
  obtain ⟨f1, j1, y1⟩ := Option.map_eq_some_iff.1 t1
  simp only [Prod.mk.injEq] at y1
  have g1 := hf 1 f1 j1
  rw [y1.2.2, y1.2.1, y1.1, List.getElem?_eq_getElem (by omega)] at g1
  obtain ⟨a1, r1⟩ := opensC_3 H eh w n _ _ g1
  have t2 : ((Try.prog.fieldsOf 112)[2]?).map (fun f => (f.type, f.offset, Try.prog.cellsOf f.type)) = some (3, 2, 1) := by kernel_rfl
  obtain ⟨f2, j2, y2⟩ := Option.map_eq_some_iff.1 t2
  simp only [Prod.mk.injEq] at y2
  have g2 := hf 2 f2 j2
  rw [y2.2.2, y2.2.1, y2.1, List.getElem?_eq_getElem (by omega)] at g2
  obtain ⟨a2, r2⟩ := opensC_3 H eh w n _ _ g2
  have t3 : ((Try.prog.fieldsOf 112)[3]?).map (fun f => (f.type, f.offset, Try.prog.cellsOf f.type)) = some (3, 3, 1) := by kernel_rfl
  obtain ⟨f3, j3, y3⟩ := Option.map_eq_some_iff.1 t3
  simp only [Prod.mk.injEq] at y3
  have g3 := hf 3 f3 j3
  rw [y3.2.2, y3.2.1, y3.1, List.getElem?_eq_getElem (by omega)] at g3
  obtain ⟨a3, r3⟩ := opensC_3 H eh w n _ _ g3
  have t4 : ((Try.prog.fieldsOf 112)[4]?).map (fun f => (f.type, f.offset, Try.prog.cellsOf f.type)) = some (3, 4, 1) := by kernel_rfl
  obtain ⟨f4, j4, y4⟩ := Option.map_eq_some_iff.1 t4
  simp only [Prod.mk.injEq] at y4
  have g4 := hf 4 f4 j4
  rw [y4.2.2, y4.2.1, y4.1, List.getElem?_eq_getElem (by omega)] at g4
  obtain ⟨a4, r4⟩ := opensC_3 H eh w n _ _ g4
  have e5 : DL w (· < w.heap.size) [] (cs.drop 5) := List.drop_of_length_le (by omega)
  have e4 := DL.part (o := 4) (s := 1) r4 e5
  have e3 := DL.part (o := 3) (s := 1) r3 e4
  have e2 := DL.part (o := 2) (s := 1) r2 e3
  have e1 := DL.part (o := 1) (s := 1) r1 e2
  have e0 := DL.part (o := 0) (s := 1) r0 e1
  exact ⟨⟨a0, a1, a2, a3, a4⟩, e0⟩
theorem opensC_66 : OpensC Try.prog 66 (fun x : List GTotal => [.lst 5 x.length (fun i0 j0 => ([.lst 2 (((x.getD i0 (default : GTotal)).labels).length) (fun i1 j1 => ([.str ((((x.getD i0 (default : GTotal)).labels).getD i1 (default : GLabel)).lname), .str ((((x.getD i0 (default : GTotal)).labels).getD i1 (default : GLabel)).lvalue)] : List AV).getD j1 (.con undef)), .int .i64 ((x.getD i0 (default : GTotal)).sum), .int .i64 ((x.getD i0 (default : GTotal)).count), .int .i64 ((x.getD i0 (default : GTotal)).least), .int .i64 ((x.getD i0 (default : GTotal)).most)] : List AV).getD j0 (.con undef))]) := OpensC.slice (default : GTotal) Try.underlying66 (by kernel_rfl) (by decide) opensC_112 (fun _ => rfl) (fun l i j _ hj => match j, hj with | 0, _ => rfl | 1, _ => rfl | 2, _ => rfl | 3, _ => rfl | 4, _ => rfl | _ + 5, h => absurd h (by omega))

theorem law_GoodTotals (x0 : List GTotal) : Fn Try.prog 9 [.one (.lst 5 x0.length (fun i0 j0 => ([.lst 2 (((x0.getD i0 (default : GTotal)).labels).length) (fun i1 j1 => ([.str ((((x0.getD i0 (default : GTotal)).labels).getD i1 (default : GLabel)).lname), .str ((((x0.getD i0 (default : GTotal)).labels).getD i1 (default : GLabel)).lvalue)] : List AV).getD j1 (.con undef)), .int .i64 ((x0.getD i0 (default : GTotal)).sum), .int .i64 ((x0.getD i0 (default : GTotal)).count), .int .i64 ((x0.getD i0 (default : GTotal)).least), .int .i64 ((x0.getD i0 (default : GTotal)).most)] : List AV).getD j0 (.con undef)))] (.one (.bool true)) := by
  refine Fn.of_body (fn := Try.f9) Try.func9 rfl (Nat.le_of_ble_eq_true rfl) trivial ?_
  intro w0
  show AW _ 27 _ _ _ _
  refine AW.seq ?_
  refine AW.region ?_
  refine ARun.pure (PureOp.assign rfl .bool) rfl rfl (Nat.le_of_ble_eq_true rfl) ?_
  refine ARun.nil ?_
  refine AW.seq ?_
  refine AW.region ?_
  refine ARun.pure (PureOp.assign rfl .int) rfl rfl (Nat.le_of_ble_eq_true rfl) ?_
  refine ARun.nil ?_
  refine AW.seq ?_
  refine AW.region ?_
  refine ARun.pure (PureOp.move rfl (.tmp rfl)) rfl rfl (Nat.le_of_ble_eq_true rfl) ?_
  refine ARun.pure (PureOp.move rfl (.tmp rfl)) rfl rfl (Nat.le_of_ble_eq_true rfl) ?_
  refine ARun.pure (PureOp.call rfl (v_szTotalS x0 1048576 (by first | omega | (unfold szR at *; split at * <;> omega))) ⟨⟨_, (.tmp rfl), .lst⟩, ⟨_, (.tmp rfl), .int⟩, trivial⟩ vjd_ca_39 trivial) rfl rfl (Nat.le_of_ble_eq_true rfl) ?_
  refine ARun.pure (PureOp.assign rfl (.tmp rfl)) rfl rfl (Nat.le_of_ble_eq_true rfl) ?_
  refine ARun.nil ?_
  refine AW.seq ?_
  refine AW.seq ?_
  refine AW.region ?_
  refine ARun.pure (PureOp.move rfl (.tmp rfl)) rfl rfl (Nat.le_of_ble_eq_true rfl) ?_
  refine ARun.pure (PureOp.intOp rfl (.tmp rfl) .int rfl) rfl rfl (Nat.le_of_ble_eq_true rfl) ?_
  refine ARun.nil ?_
  refine AW.cond (.tmp rfl) (fun hb1 => ?_) (fun hb1 => ?_)
  · have _u := True.intro
    replace hb1 := of_decide_eq_true hb1
    refine AW.seq ?_
    refine AW.region ?_
    refine ARun.pure (PureOp.assign rfl .bool) rfl rfl (Nat.le_of_ble_eq_true rfl) ?_
    refine ARun.nil ?_
    refine AW.ret (show ResL _ _ [.tmp 2] _ from resB rfl ?_)
    rfl
  · have _u := True.intro
    replace hb1 := of_decide_eq_false hb1
    obtain ⟨hs2, hs2b, hs2c⟩ := szR_ok (by omega) hb1
    refine AW.skip ?_
    refine AW.seq ?_
    refine AW.region ?_
    refine ARun.pure (PureOp.move rfl (.tmp rfl)) rfl rfl (Nat.le_of_ble_eq_true rfl) ?_
    refine ARun.fresh (FreshOp.callS rfl (v_toTotalS x0 (Small.mk (by omega))) ⟨⟨_, (.tmp rfl), .lst⟩, trivial⟩ vjd_ca_41 rfl) rfl rfl (Nat.le_of_ble_eq_true rfl) ?_
    refine ARun.pure (PureOp.call rfl (v_specGoodTotals x0) ⟨⟨_, (.tmp rfl), .frs⟩, trivial⟩ vjd_ca_40 trivial) rfl rfl (Nat.le_of_ble_eq_true rfl) ?_
    refine ARun.pure (PureOp.assign rfl (.tmp rfl)) rfl rfl (Nat.le_of_ble_eq_true rfl) ?_
    refine ARun.nil ?_
    refine AW.seq ?_
    refine AW.region ?_
    refine ARun.pure (PureOp.move rfl (.tmp rfl)) rfl rfl (Nat.le_of_ble_eq_true rfl) ?_
    refine ARun.fresh (FreshOp.callS rfl (v_toTotalS x0 (Small.mk (by omega))) ⟨⟨_, (.tmp rfl), .lst⟩, trivial⟩ vjd_ca_41 rfl) rfl rfl (Nat.le_of_ble_eq_true rfl) ?_
    refine ARun.pure (PureOp.assign rfl (.tmp rfl)) rfl rfl (Nat.le_of_ble_eq_true rfl) ?_
    refine ARun.nil ?_
    refine AW.seq ?_
    refine AW.region ?_
    refine ARun.pure (PureOp.move rfl (.tmp rfl)) rfl rfl (Nat.le_of_ble_eq_true rfl) ?_
    refine ARun.pure (PureOp.call rfl (v_implGoodTotals x0) ⟨⟨_, (.tmp rfl), .frs⟩, trivial⟩ vjd_ca_42 trivial) rfl rfl (Nat.le_of_ble_eq_true rfl) ?_
    refine ARun.pure (PureOp.assign rfl (.tmp rfl)) rfl rfl (Nat.le_of_ble_eq_true rfl) ?_
    refine ARun.nil ?_
    refine AW.seq ?_
    refine AW.seq ?_
    refine AW.region ?_
    refine ARun.pure (PureOp.move rfl (.tmp rfl)) rfl rfl (Nat.le_of_ble_eq_true rfl) ?_
    refine ARun.pure (PureOp.move rfl (.tmp rfl)) rfl rfl (Nat.le_of_ble_eq_true rfl) ?_
    refine ARun.pure (PureOp.boolNe rfl (.tmp rfl) (.tmp rfl) vjd_bo_4) rfl rfl (Nat.le_of_ble_eq_true rfl) ?_
    refine ARun.nil ?_
    refine AW.cond (.tmp rfl) (fun hb3 => ?_) (fun hb3 => ?_)
    · have _u := True.intro
      replace hb3 := beq_f (of_not hb3)
      exact absurd rfl hb3
      --end
    · have _u := True.intro
      replace hb3 := beq_t (not_f hb3)
      refine AW.skip ?_
      refine AW.seq ?_
      refine AW.seq ?_
      refine AW.region ?_
      refine ARun.pure (PureOp.move rfl (.tmp rfl)) rfl rfl (Nat.le_of_ble_eq_true rfl) ?_
      refine ARun.pure (PureOp.move rfl (.tmp rfl)) rfl rfl (Nat.le_of_ble_eq_true rfl) ?_
      refine ARun.fresh (FreshOp.callS rfl (v_toTotalS x0 (Small.mk (by omega))) ⟨⟨_, (.tmp rfl), .lst⟩, trivial⟩ vjd_ca_41 rfl) rfl rfl (Nat.le_of_ble_eq_true rfl) ?_
      refine ARun.pure (PureOp.call rfl (v_eqTotalS x0 x0) ⟨⟨_, (.tmp rfl), .frs⟩, ⟨_, (.tmp rfl), .frs⟩, trivial⟩ vjd_ca_43 trivial) rfl rfl (Nat.le_of_ble_eq_true rfl) ?_
      refine ARun.pure (PureOp.not rfl (.tmp rfl)) rfl rfl (Nat.le_of_ble_eq_true rfl) ?_
      refine ARun.nil ?_
      refine AW.cond (.tmp rfl) (fun hb4 => ?_) (fun hb4 => ?_)
      · have _u := True.intro
        replace hb4 := of_decide_eq_false (of_not hb4)
        exact absurd rfl hb4
        --end
      · have _u := True.intro
        replace hb4 := of_decide_eq_true (not_f hb4)
        refine AW.skip ?_
        refine AW.seq ?_
        refine AW.region ?_
        refine ARun.pure (PureOp.assign rfl .bool) rfl rfl (Nat.le_of_ble_eq_true rfl) ?_
        refine ARun.nil ?_
        refine AW.ret (show ResL _ _ [.tmp 2] _ from resB rfl ?_)
        rfl

set_option maxRecDepth 100000 in
theorem lifted_GoodTotals (os : Os) (started : os.Started) (H : Type) (enc : TypeId × Value → H) :
    ReturnsInHanded {} Try.checked os 9 .any (Rows.fnExactGoodTotalsSpec.pre6 enc Try.prog Try.f9 Rows.fnExactGoodTotalsRow.domain false) (Rows.fnExactGoodTotalsSpec.post enc Try.prog Try.f9 false true false false) := by
  refine returnsInHanded_of_change (C := Try.checked) own started (by kernel_rfl) Try.func9
    (ChangeSpec.witness6 (enc := enc) (C := Try.checked) false ⟨#[], #[.slice none 0 0], []⟩ 8 (by kernel_rfl) (by kernel_rfl) (by kernel_rfl) (by kernel_rfl)) ?_
  intro W base args ds gs before hval0 hW hcnd _
  have hval : ∀ (j : Nat) t v, Try.f9.params[j]? = some t → args[j]? = some v → Value.okWide Try.prog W .any base t v := hval0
  have hW' := hW
  obtain ⟨p, q, hA0, hV, rfl, hfz, hnd⟩ := hW
  have hA : DataW.TrodAll enc Try.prog W 0 (fun _ => true) true Try.f9.params.toList args.toList ds p := hA0
  rw [Try.params9] at hA hval
  obtain ⟨v0, vs0, d0, ds0, p0, q0, hargs, rfl, rfl, h0, r0⟩ := trodAll_cons hA
  obtain ⟨rfl, rfl, rfl⟩ := trodAll_nil r0
  obtain rfl : args = #[v0] := by cases args; simp_all
  obtain ⟨rfl, rfl⟩ := trodVars_none hV
  obtain ⟨x0, R0⟩ := OpensC.arg opensC_66 h0
  have E0 : DS W (· < W.heap.size) (.one (.lst 5 x0.length (fun i0 j0 => ([.lst 2 (((x0.getD i0 (default : GTotal)).labels).length) (fun i1 j1 => ([.str ((((x0.getD i0 (default : GTotal)).labels).getD i1 (default : GLabel)).lname), .str ((((x0.getD i0 (default : GTotal)).labels).getD i1 (default : GLabel)).lvalue)] : List AV).getD j1 (.con undef)), .int .i64 ((x0.getD i0 (default : GTotal)).sum), .int .i64 ((x0.getD i0 (default : GTotal)).count), .int .i64 ((x0.getD i0 (default : GTotal)).least), .int .i64 ((x0.getD i0 (default : GTotal)).most)] : List AV).getD j0 (.con undef)))) v0 := DS.one_of (by obtain ⟨a, n, c, rfl⟩ := okWide_slice Try.underlying66 (hval 0 66 v0 rfl rfl); rfl) R0
  clear hA0 hval0
  refine (law_GoodTotals x0 W _ _ (fun _ h => h) ⟨_, _, rfl, E0, rfl⟩).mono fun e W' ⟨he, hg⟩ => ?_
  subst he
  exact ⟨_, rfl, law_post hW' rfl laidOut (by kernel_rfl) hg rfl rfl Try.underlying4⟩
/-- The statement. -/
theorem proved_GoodTotals : Rows.FnExactGoodTotalsSaid :=
  OpenClaim.holds_of_wide 9 Try.f9 rfl rfl rfl rfl rfl rfl rfl ⟨rfl, rfl, rfl, rfl, rfl⟩ rfl rfl rfl rfl rfl (by kernel_rfl) Try.func9 (by kernel_rfl)
    (of_decide_eq_true (by kernel_rfl)) (by unfold Func.isWrapper; first | (rw [if_pos (by decide +kernel)]; kernel_rfl) | (rw [if_neg (by decide +kernel)]; exact ⟨rfl, rfl⟩))
    (fun os started H enc _ => lifted_GoodTotals os started H enc)
#print axioms proved_GoodTotals
end Go.Proofs.Ytmlhlkpiofbhgaa
