/-
  Proved: the law FnExactGoodTell returns true for every input: the program's GoodTell answers what the reference's does, and leaves its argument alone. Conditions: none.
-/
import Derived.Test.YtlbnodmebehpiaaTi
import Derived.Test.YtlbnodmebehpiaaLz
import Derived.Test.YtlbnodmebehpiaaLe
import Derived.Test.YtlbnodmebehpiaaLt
import Derived.Test.YtlbnodmebehpiaaVo
namespace Go.Proofs.Ytlbnodmebehpiaa
open Go.ChangeShapes Go.WideShapes Go.ChangeAt Go.RowKit Go.BigFrame Go.Deep
set_option linter.unusedVariables false
set_option linter.unusedSimpArgs false
theorem va_ag_66_5 : aggB Try.prog 66 5 = true := by kernel_rfl
theorem va_ag_75_5 : aggB Try.prog 75 5 = true := by kernel_rfl
theorem va_bo_4 : boolB Try.prog 4 = true := by kernel_rfl
theorem va_ca_45 : callB Try.prog 45 = true := by kernel_rfl
theorem va_ca_48 : callB Try.prog 48 = true := by kernel_rfl
theorem va_ca_49 : callB Try.prog 49 = true := by kernel_rfl
theorem va_ca_50 : callB Try.prog 50 = true := by kernel_rfl
theorem va_ca_51 : callB Try.prog 51 = true := by kernel_rfl
theorem va_sz_66_5 : sizeB Try.prog 66 5 = true := by kernel_rfl
theorem opensC_9 : OpensC Try.prog 9 (fun x : ByteArray => [.str x]) := OpensC.string Try.underlying9
theorem opensC_80 : OpensC Try.prog 80 (fun x : List ByteArray => [.lst 1 x.length (fun i0 _ => .str (x.getD i0 ByteArray.empty))]) := OpensC.slice (ByteArray.empty : ByteArray) Try.underlying80 (by kernel_rfl) (by decide) opensC_9 (fun _ => rfl) (fun l i j _ hj => match j, hj with | 0, _ => rfl | _ + 1, h => absurd h (by omega))
theorem opensC_62 : OpensC Try.prog 62 (fun x : List (List ByteArray) => [.lst 1 x.length (fun i0 _ => .lst 1 ((x.getD i0 []).length) (fun i1 _ => .str ((x.getD i0 []).getD i1 ByteArray.empty)))]) := OpensC.slice ([] : List ByteArray) Try.underlying62 (by kernel_rfl) (by decide) opensC_80 (fun _ => rfl) (fun l i j _ hj => match j, hj with | 0, _ => rfl | _ + 1, h => absurd h (by omega))
theorem opensC_3 : OpensC Try.prog 3 (fun x : Int => [.int .i64 x]) := OpensC.int Try.underlying3
theorem opensC_22 : OpensC Try.prog 22 (fun x : List Int => [.lst 1 x.length (fun i0 _ => .int .i64 (x.getD i0 0))]) := OpensC.slice (0 : Int) Try.underlying22 (by kernel_rfl) (by decide) opensC_3 (fun _ => rfl) (fun l i j _ hj => match j, hj with | 0, _ => rfl | _ + 1, h => absurd h (by omega))
theorem opensC_4 : OpensC Try.prog 4 (fun x : Bool => [.bool x]) := OpensC.bool Try.underlying4
theorem opensC_153 : OpensC Try.prog 153 (fun x : GTold => [.int .i64 x.who, .int .i64 x.no, .str x.text]) := fun H eh w fuel cs x h => by
  have hS : Try.prog.underlying 153 = some (.struct (Try.prog.fieldsOf 153)) := by kernel_rfl
  obtain ⟨xs, n, _, rfl, hl, hlen, hf⟩ := DataW.trod_struct hS h
  have hsz : (Try.prog.fieldsOf 153).size = 3 := by kernel_rfl
  have hC : Try.prog.cellsOf 153 = 3 := by kernel_rfl
  rw [hC] at hl
  have t0 : ((Try.prog.fieldsOf 153)[0]?).map (fun f => (f.type, f.offset, Try.prog.cellsOf f.type)) = some (3, 0, 1) := by kernel_rfl
  obtain ⟨f0, j0, y0⟩ := Option.map_eq_some_iff.1 t0
  simp only [Prod.mk.injEq] at y0
  have g0 := hf 0 f0 j0
  rw [y0.2.2, y0.2.1, y0.1, List.getElem?_eq_getElem (by omega)] at g0
  obtain ⟨a0, r0⟩ := opensC_3 H eh w n _ _ g0
  have t1 : ((Try.prog.fieldsOf 153)[1]?).map (fun f => (f.type, f.offset, Try.prog.cellsOf f.type)) = some (3, 1, 1) := by kernel_rfl
  obtain ⟨f1, j1, y1⟩ := Option.map_eq_some_iff.1 t1
  simp only [Prod.mk.injEq] at y1
  have g1 := hf 1 f1 j1
  rw [y1.2.2, y1.2.1, y1.1, List.getElem?_eq_getElem (by omega)] at g1
  obtain ⟨a1, r1⟩ := opensC_3 H eh w n _ _ g1
  have t2 : ((Try.prog.fieldsOf 153)[2]?).map (fun f => (f.type, f.offset, Try.prog.cellsOf f.type)) = some (9, 2, 1) := by kernel_rfl
  obtain ⟨f2, j2, y2⟩ := Option.map_eq_some_iff.1 t2
  simp only [Prod.mk.injEq] at y2
  have g2 := hf 2 f2 j2
  rw [y2.2.2, y2.2.1, y2.1, List.getElem?_eq_getElem (by omega)] at g2
  obtain ⟨a2, r2⟩ := opensC_9 H eh w n _ _ g2
  have e3 : DL w (· < w.heap.size) [] (cs.drop 3) := List.drop_of_length_le (by omega)
  have e2 := DL.part (o := 2) (s := 1) r2 e3
  have e1 := DL.part (o := 1) (s := 1) r1 e2
  have e0 := DL.part (o := 0) (s := 1) r0 e1
  exact ⟨⟨a0, a1, a2⟩, e0⟩
theorem opensC_155 : OpensC Try.prog 155 (fun x : GNote => [.bool x.back, .int .i64 x.what.who, .int .i64 x.what.no, .str x.what.text]) := fun H eh w fuel cs x h => by
  have hS : Try.prog.underlying 155 = some (.struct (Try.prog.fieldsOf 155)) := by kernel_rfl
  obtain ⟨xs, n, _, rfl, hl, hlen, hf⟩ := DataW.trod_struct hS h
  have hsz : (Try.prog.fieldsOf 155).size = 2 := by kernel_rfl
  have hC : Try.prog.cellsOf 155 = 4 := by kernel_rfl
  rw [hC] at hl
  have t0 : ((Try.prog.fieldsOf 155)[0]?).map (fun f => (f.type, f.offset, Try.prog.cellsOf f.type)) = some (4, 0, 1) := by kernel_rfl
  obtain ⟨f0, j0, y0⟩ := Option.map_eq_some_iff.1 t0
  simp only [Prod.mk.injEq] at y0
  have g0 := hf 0 f0 j0
  rw [y0.2.2, y0.2.1, y0.1, List.getElem?_eq_getElem (by omega)] at g0
  obtain ⟨a0, r0⟩ := opensC_4 H eh w n _ _ g0
  have t1 : ((Try.prog.fieldsOf 155)[1]?).map (fun f => (f.type, f.offset, Try.prog.cellsOf f.type)) = some (153, 1, 3) := by kernel_rfl
  obtain ⟨f1, j1, y1⟩ := Option.map_eq_some_iff.1 t1
  simp only [Prod.mk.injEq] at y1
  have g1 := hf 1 f1 j1
  rw [y1.2.2, y1.2.1, y1.1, List.getElem?_eq_getElem (by omega)] at g1
  obtain ⟨a1, r1⟩ := opensC_153 H eh w n _ _ g1
  have e2 : DL w (· < w.heap.size) [] (cs.drop 4) := List.drop_of_length_le (by omega)
  have e1 := DL.part (o := 1) (s := 3) r1 e2
  have e0 := DL.part (o := 0) (s := 1) r0 e1
  exact ⟨⟨a0, a1⟩, e0⟩
theorem opensC_72 : OpensC Try.prog 72 (fun x : List GNote => [.lst 4 x.length (fun i0 j0 => ([.bool ((x.getD i0 (default : GNote)).back), .int .i64 (((x.getD i0 (default : GNote)).what).who), .int .i64 (((x.getD i0 (default : GNote)).what).no), .str (((x.getD i0 (default : GNote)).what).text)] : List AV).getD j0 (.con undef))]) := OpensC.slice (default : GNote) Try.underlying72 (by kernel_rfl) (by decide) opensC_155 (fun _ => rfl) (fun l i j _ hj => match j, hj with | 0, _ => rfl | 1, _ => rfl | 2, _ => rfl | 3, _ => rfl | _ + 4, h => absurd h (by omega))
theorem opensC_73 : OpensC Try.prog 73 (fun x : List GTold => [.lst 3 x.length (fun i0 j0 => ([.int .i64 ((x.getD i0 (default : GTold)).who), .int .i64 ((x.getD i0 (default : GTold)).no), .str ((x.getD i0 (default : GTold)).text)] : List AV).getD j0 (.con undef))]) := OpensC.slice (default : GTold) Try.underlying73 (by kernel_rfl) (by decide) opensC_153 (fun _ => rfl) (fun l i j _ hj => match j, hj with | 0, _ => rfl | 1, _ => rfl | 2, _ => rfl | _ + 3, h => absurd h (by omega))
theorem opensC_75 : OpensC Try.prog 75 (fun x : GTell => [.lst 1 x.texts.length (fun i0 _ => .lst 1 ((x.texts.getD i0 []).length) (fun i1 _ => .str ((x.texts.getD i0 []).getD i1 ByteArray.empty))), .lst 1 x.heard.length (fun i0 _ => .int .i64 (x.heard.getD i0 0)), .lst 4 x.line.length (fun i0 j0 => ([.bool ((x.line.getD i0 (default : GNote)).back), .int .i64 (((x.line.getD i0 (default : GNote)).what).who), .int .i64 (((x.line.getD i0 (default : GNote)).what).no), .str (((x.line.getD i0 (default : GNote)).what).text)] : List AV).getD j0 (.con undef)), .lst 3 x.log.length (fun i0 j0 => ([.int .i64 ((x.log.getD i0 (default : GTold)).who), .int .i64 ((x.log.getD i0 (default : GTold)).no), .str ((x.log.getD i0 (default : GTold)).text)] : List AV).getD j0 (.con undef)), .lst 1 x.next.length (fun i0 _ => .int .i64 (x.next.getD i0 0))]) := fun H eh w fuel cs x h => by
  have hS : Try.prog.underlying 75 = some (.struct (Try.prog.fieldsOf 75)) := by kernel_rfl
  obtain ⟨xs, n, _, rfl, hl, hlen, hf⟩ := DataW.trod_struct hS h
  have hsz : (Try.prog.fieldsOf 75).size = 5 := by kernel_rfl
  have hC : Try.prog.cellsOf 75 = 5 := by kernel_rfl
  rw [hC] at hl
  have t0 : ((Try.prog.fieldsOf 75)[0]?).map (fun f => (f.type, f.offset, Try.prog.cellsOf f.type)) = some (62, 0, 1) := by kernel_rfl
  obtain ⟨f0, j0, y0⟩ := Option.map_eq_some_iff.1 t0
  simp only [Prod.mk.injEq] at y0
  have g0 := hf 0 f0 j0
  rw [y0.2.2, y0.2.1, y0.1, List.getElem?_eq_getElem (by omega)] at g0
  obtain ⟨a0, r0⟩ := opensC_62 H eh w n _ _ g0
  have t1 : ((Try.prog.fieldsOf 75)[1]?).map (fun f => (f.type, f.offset, Try.prog.cellsOf f.type)) = some (22, 1, 1) := by kernel_rfl
  obtain ⟨f1, j1, y1⟩ := Option.map_eq_some_iff.1 t1
  simp only [Prod.mk.injEq] at y1
  have g1 := hf 1 f1 j1
  rw [y1.2.2, y1.2.1, y1.1, List.getElem?_eq_getElem (by omega)] at g1
  obtain ⟨a1, r1⟩ := opensC_22 H eh w n _ _ g1
  have t2 : ((Try.prog.fieldsOf 75)[2]?).map (fun f => (f.type, f.offset, Try.prog.cellsOf f.type)) = some (72, 2, 1) := by kernel_rfl
  obtain ⟨f2, j2, y2⟩ := Option.map_eq_some_iff.1 t2
  simp only [Prod.mk.injEq] at y2
  have g2 := hf 2 f2 j2
  rw [y2.2.2, y2.2.1, y2.1, List.getElem?_eq_getElem (by omega)] at g2
  obtain ⟨a2, r2⟩ := opensC_72 H eh w n _ _ g2
  have t3 : ((Try.prog.fieldsOf 75)[3]?).map (fun f => (f.type, f.offset, Try.prog.cellsOf f.type)) = some (73, 3, 1) := by kernel_rfl
  obtain ⟨f3, j3, y3⟩ := Option.map_eq_some_iff.1 t3
  simp only [Prod.mk.injEq] at y3
  have g3 := hf 3 f3 j3
  rw [y3.2.2, y3.2.1, y3.1, List.getElem?_eq_getElem (by omega)] at g3
  obtain ⟨a3, r3⟩ := opensC_73 H eh w n _ _ g3
  have t4 : ((Try.prog.fieldsOf 75)[4]?).map (fun f => (f.type, f.offset, Try.prog.cellsOf f.type)) = some (22, 4, 1) := by kernel_rfl
  obtain ⟨f4, j4, y4⟩ := Option.map_eq_some_iff.1 t4
  simp only [Prod.mk.injEq] at y4
  have g4 := hf 4 f4 j4
  rw [y4.2.2, y4.2.1, y4.1, List.getElem?_eq_getElem (by omega)] at g4
  obtain ⟨a4, r4⟩ := opensC_22 H eh w n _ _ g4
  have e5 : DL w (· < w.heap.size) [] (cs.drop 5) := List.drop_of_length_le (by omega)
  have e4 := DL.part (o := 4) (s := 1) r4 e5
  have e3 := DL.part (o := 3) (s := 1) r3 e4
  have e2 := DL.part (o := 2) (s := 1) r2 e3
  have e1 := DL.part (o := 1) (s := 1) r1 e2
  have e0 := DL.part (o := 0) (s := 1) r0 e1
  exact ⟨⟨a0, a1, a2, a3, a4⟩, e0⟩

theorem law_GoodTell (x0 : GTell) : Fn Try.prog 12 [.agg [.lst 1 x0.texts.length (fun i0 _ => .lst 1 ((x0.texts.getD i0 []).length) (fun i1 _ => .str ((x0.texts.getD i0 []).getD i1 ByteArray.empty))), .lst 1 x0.heard.length (fun i0 _ => .int .i64 (x0.heard.getD i0 0)), .lst 4 x0.line.length (fun i0 j0 => ([.bool ((x0.line.getD i0 (default : GNote)).back), .int .i64 (((x0.line.getD i0 (default : GNote)).what).who), .int .i64 (((x0.line.getD i0 (default : GNote)).what).no), .str (((x0.line.getD i0 (default : GNote)).what).text)] : List AV).getD j0 (.con undef)), .lst 3 x0.log.length (fun i0 j0 => ([.int .i64 ((x0.log.getD i0 (default : GTold)).who), .int .i64 ((x0.log.getD i0 (default : GTold)).no), .str ((x0.log.getD i0 (default : GTold)).text)] : List AV).getD j0 (.con undef)), .lst 1 x0.next.length (fun i0 _ => .int .i64 (x0.next.getD i0 0))]] (.one (.bool true)) := by
  refine Fn.of_body (fn := Try.f12) Try.func12 rfl (Nat.le_of_ble_eq_true rfl) trivial ?_
  intro w0
  show AW _ 27 _ _ _ _
  refine AW.seq ?_
  refine AW.region ?_
  refine ARun.box (id := 0) rfl (.tmp rfl) (SV.cells_of (by exact ⟨trivial, trivial, trivial, trivial, trivial, trivial⟩)) ⟨rfl, (by repeat first | exact trivial | refine ⟨by decide, by first | rfl | (intro i j; first | rfl | (dsimp only; split <;> rfl)), ?_⟩)⟩ rfl rfl rfl (Nat.le_of_ble_eq_true rfl) ?_
  refine ARun.pure (PureOp.assign rfl .bool) rfl rfl (Nat.le_of_ble_eq_true rfl) ?_
  refine ARun.nil ?_
  refine AW.seq ?_
  refine AW.region ?_
  refine ARun.pure (PureOp.assign rfl .int) rfl rfl (Nat.le_of_ble_eq_true rfl) ?_
  refine ARun.nil ?_
  refine AW.seq ?_
  refine AW.region ?_
  refine ARun.pure (PureOp.loadPtrAgg rfl (.tmp rfl) va_ag_75_5 rfl rfl (Nat.le_of_ble_eq_true rfl) (Nat.le_of_ble_eq_true rfl)) rfl rfl (Nat.le_of_ble_eq_true rfl) ?_
  refine ARun.pure (PureOp.move rfl (.tmp rfl)) rfl rfl (Nat.le_of_ble_eq_true rfl) ?_
  refine ARun.pure (PureOp.call rfl (v_szTell x0 1048576 (by first | omega | (unfold szR at *; split at * <;> omega))) ⟨⟨_, (.tmp rfl), ⟨.lst, .lst, .lst, .lst, .lst, trivial⟩⟩, ⟨_, (.tmp rfl), .int⟩, trivial⟩ va_ca_48 trivial) rfl rfl (Nat.le_of_ble_eq_true rfl) ?_
  refine ARun.pure (PureOp.assign rfl (.tmp rfl)) rfl rfl (Nat.le_of_ble_eq_true rfl) ?_
  refine ARun.nil ?_
  refine AW.seq ?_
  refine AW.seq ?_
  refine AW.region ?_
  refine ARun.pure (PureOp.move rfl (.tmp rfl)) rfl rfl (Nat.le_of_ble_eq_true rfl) ?_
  refine ARun.pure (PureOp.intOp rfl (.tmp rfl) .int rfl) rfl rfl (Nat.le_of_ble_eq_true rfl) ?_
  refine ARun.nil ?_
  refine AW.cond (.tmp rfl) (fun hb1 => ?_) (fun hb1 => ?_)
  · have _u := True.intro
    replace hb1 := of_decide_eq_true hb1
    refine AW.seq ?_
    refine AW.region ?_
    refine ARun.pure (PureOp.assign rfl .bool) rfl rfl (Nat.le_of_ble_eq_true rfl) ?_
    refine ARun.nil ?_
    refine AW.ret (show ResL _ _ [.tmp 2] _ from resB rfl ?_)
    rfl
  · have _u := True.intro
    replace hb1 := of_decide_eq_false hb1
    obtain ⟨hs2, hs2b, hs2c⟩ := szR_ok (by omega) hb1
    refine AW.skip ?_
    refine AW.seq ?_
    refine AW.region ?_
    refine ARun.pure (PureOp.loadPtrAgg rfl (.tmp rfl) va_ag_75_5 rfl rfl (Nat.le_of_ble_eq_true rfl) (Nat.le_of_ble_eq_true rfl)) rfl rfl (Nat.le_of_ble_eq_true rfl) ?_
    refine ARun.fresh (FreshOp.callS rfl (v_toTell x0 (Small.mk (by omega))) ⟨⟨_, (.tmp rfl), ⟨.lst, .lst, .lst, .lst, .lst, trivial⟩⟩, trivial⟩ va_ca_50 rfl) rfl rfl (Nat.le_of_ble_eq_true rfl) ?_
    refine ARun.pure (PureOp.call rfl (v_specGoodTell x0) ⟨⟨_, (.tmp rfl), ⟨.frs, .frs, .frs, .frs, .frs, trivial⟩⟩, trivial⟩ va_ca_49 trivial) rfl rfl (Nat.le_of_ble_eq_true rfl) ?_
    refine ARun.pure (PureOp.assign rfl (.tmp rfl)) rfl rfl (Nat.le_of_ble_eq_true rfl) ?_
    refine ARun.nil ?_
    refine AW.seq ?_
    refine AW.region ?_
    refine ARun.pure (PureOp.loadPtrAgg rfl (.tmp rfl) va_ag_75_5 rfl rfl (Nat.le_of_ble_eq_true rfl) (Nat.le_of_ble_eq_true rfl)) rfl rfl (Nat.le_of_ble_eq_true rfl) ?_
    refine ARun.fresh (FreshOp.callS rfl (v_toTell x0 (Small.mk (by omega))) ⟨⟨_, (.tmp rfl), ⟨.lst, .lst, .lst, .lst, .lst, trivial⟩⟩, trivial⟩ va_ca_50 rfl) rfl rfl (Nat.le_of_ble_eq_true rfl) ?_
    refine ARun.alloc (id := 1) (l := [.lst 1 0 (fun _ _ => .con undef), .lst 1 0 (fun _ _ => .con undef), .lst 4 0 (fun _ _ => .con undef), .lst 3 0 (fun _ _ => .con undef), .lst 1 0 (fun _ _ => .con undef)]) (z := (.agg #[.slice none 0 0, .slice none 0 0, .slice none 0 0, .slice none 0 0, .slice none 0 0])) rfl (by kernel_rfl) (fun _ _ _ => ⟨_, _, rfl, ⟨none, 0, rfl, Nat.le_refl _, by decide, fun _ => rfl, fun i hi => absurd hi (by omega)⟩, ⟨_, _, rfl, ⟨none, 0, rfl, Nat.le_refl _, by decide, fun _ => rfl, fun i hi => absurd hi (by omega)⟩, ⟨_, _, rfl, ⟨none, 0, rfl, Nat.le_refl _, by decide, fun _ => rfl, fun i hi => absurd hi (by omega)⟩, ⟨_, _, rfl, ⟨none, 0, rfl, Nat.le_refl _, by decide, fun _ => rfl, fun i hi => absurd hi (by omega)⟩, ⟨_, _, rfl, ⟨none, 0, rfl, Nat.le_refl _, by decide, fun _ => rfl, fun i hi => absurd hi (by omega)⟩, rfl⟩⟩⟩⟩⟩) ⟨rfl, (by repeat first | exact trivial | refine ⟨by decide, by first | rfl | (intro i j; first | rfl | (dsimp only; split <;> rfl)), ?_⟩)⟩ rfl rfl rfl (Nat.le_of_ble_eq_true rfl) ?_
    refine ARun.store rfl (.tmp rfl) (.tmp rfl) (SV.cells_of (by exact ⟨trivial, trivial, trivial, trivial, trivial, trivial⟩)) rfl (Nat.le_of_ble_eq_true rfl) va_sz_66_5 rfl rfl ?_
    refine ARun.nil ?_
    refine AW.seq ?_
    refine AW.region ?_
    refine ARun.pure (PureOp.loadPtrAgg rfl (.tmp rfl) va_ag_66_5 rfl rfl (Nat.le_of_ble_eq_true rfl) (Nat.le_of_ble_eq_true rfl)) rfl rfl (Nat.le_of_ble_eq_true rfl) ?_
    refine ARun.pure (PureOp.call rfl (v_implGoodTell x0) ⟨⟨_, (.tmp rfl), ⟨.frs, .frs, .frs, .frs, .frs, trivial⟩⟩, trivial⟩ va_ca_51 trivial) rfl rfl (Nat.le_of_ble_eq_true rfl) ?_
    refine ARun.pure (PureOp.assign rfl (.tmp rfl)) rfl rfl (Nat.le_of_ble_eq_true rfl) ?_
    refine ARun.nil ?_
    refine AW.seq ?_
    refine AW.seq ?_
    refine AW.region ?_
    refine ARun.pure (PureOp.move rfl (.tmp rfl)) rfl rfl (Nat.le_of_ble_eq_true rfl) ?_
    refine ARun.pure (PureOp.move rfl (.tmp rfl)) rfl rfl (Nat.le_of_ble_eq_true rfl) ?_
    refine ARun.pure (PureOp.boolNe rfl (.tmp rfl) (.tmp rfl) va_bo_4) rfl rfl (Nat.le_of_ble_eq_true rfl) ?_
    refine ARun.nil ?_
    refine AW.cond (.tmp rfl) (fun hb3 => ?_) (fun hb3 => ?_)
    · have _u := True.intro
      replace hb3 := beq_f (of_not hb3)
      exact absurd rfl hb3
      --end
    · have _u := True.intro
      replace hb3 := beq_t (not_f hb3)
      refine AW.skip ?_
      refine AW.seq ?_
      refine AW.seq ?_
      refine AW.any (by kernel_rfl) (by kernel_rfl) ?_
      refine AD.pure (PureOp.loadPtrAgg rfl (.tmp rfl) va_ag_66_5 rfl rfl (Nat.le_of_ble_eq_true rfl) (Nat.le_of_ble_eq_true rfl)) rfl rfl (Nat.le_of_ble_eq_true rfl) ?_
      refine AD.pure (PureOp.loadPtrAgg rfl (.tmp rfl) va_ag_75_5 rfl rfl (Nat.le_of_ble_eq_true rfl) (Nat.le_of_ble_eq_true rfl)) rfl rfl (Nat.le_of_ble_eq_true rfl) ?_
      refine AD.fresh (FreshOp.callS rfl (v_toTell x0 (Small.mk (by omega))) ⟨⟨_, (.tmp rfl), ⟨.lst, .lst, .lst, .lst, .lst, trivial⟩⟩, trivial⟩ va_ca_50 rfl) rfl rfl (Nat.le_of_ble_eq_true rfl) ?_
      refine AD.pure (PureOp.call rfl (v_eqTell x0 x0) ⟨⟨_, (.tmp rfl), ⟨.frs, .frs, .frs, .frs, .frs, trivial⟩⟩, ⟨_, (.tmp rfl), ⟨.frs, .frs, .frs, .frs, .frs, trivial⟩⟩, trivial⟩ va_ca_45 trivial) rfl rfl (Nat.le_of_ble_eq_true rfl) ?_
      refine AD.pure (PureOp.not rfl (.tmp rfl)) rfl rfl (Nat.le_of_ble_eq_true rfl) ?_
      refine AD.nil ?_
      refine AW.cond (.tmp rfl) (fun hb4 => ?_) (fun hb4 => ?_)
      · have _u := True.intro
        replace hb4 := of_decide_eq_false (of_not hb4)
        exact absurd rfl hb4
        --end
      · have _u := True.intro
        replace hb4 := of_decide_eq_true (not_f hb4)
        refine AW.skip ?_
        refine AW.seq ?_
        refine AW.region ?_
        refine ARun.pure (PureOp.assign rfl .bool) rfl rfl (Nat.le_of_ble_eq_true rfl) ?_
        refine ARun.nil ?_
        refine AW.ret (show ResL _ _ [.tmp 2] _ from resB rfl ?_)
        rfl

set_option maxRecDepth 100000 in
theorem lifted_GoodTell (os : Os) (started : os.Started) (H : Type) (enc : TypeId × Value → H) :
    ReturnsInHanded {} Try.checked os 12 .any (Rows.fnExactGoodTellSpec.pre6 enc Try.prog Try.f12 Rows.fnExactGoodTellRow.domain false) (Rows.fnExactGoodTellSpec.post enc Try.prog Try.f12 false true false false) := by
  refine returnsInHanded_of_change (C := Try.checked) own started (by kernel_rfl) Try.func12
    (ChangeSpec.witness6 (enc := enc) (C := Try.checked) false ⟨#[], #[.agg #[.slice none 0 0, .slice none 0 0, .slice none 0 0, .slice none 0 0, .slice none 0 0]], []⟩ 8 (by kernel_rfl) (by kernel_rfl) (by kernel_rfl) (by kernel_rfl)) ?_
  intro W base args ds gs before hval0 hW hcnd _
  have hval : ∀ (j : Nat) t v, Try.f12.params[j]? = some t → args[j]? = some v → Value.okWide Try.prog W .any base t v := hval0
  have hW' := hW
  obtain ⟨p, q, hA0, hV, rfl, hfz, hnd⟩ := hW
  have hA : DataW.TrodAll enc Try.prog W 0 (fun _ => true) true Try.f12.params.toList args.toList ds p := hA0
  rw [Try.params12] at hA hval
  obtain ⟨v0, vs0, d0, ds0, p0, q0, hargs, rfl, rfl, h0, r0⟩ := trodAll_cons hA
  obtain ⟨rfl, rfl, rfl⟩ := trodAll_nil r0
  obtain rfl : args = #[v0] := by cases args; simp_all
  obtain ⟨rfl, rfl⟩ := trodVars_none hV
  obtain ⟨x0, R0⟩ := OpensC.arg opensC_75 h0
  have E0 : DS W (· < W.heap.size) (.agg [.lst 1 x0.texts.length (fun i0 _ => .lst 1 ((x0.texts.getD i0 []).length) (fun i1 _ => .str ((x0.texts.getD i0 []).getD i1 ByteArray.empty))), .lst 1 x0.heard.length (fun i0 _ => .int .i64 (x0.heard.getD i0 0)), .lst 4 x0.line.length (fun i0 j0 => ([.bool ((x0.line.getD i0 (default : GNote)).back), .int .i64 (((x0.line.getD i0 (default : GNote)).what).who), .int .i64 (((x0.line.getD i0 (default : GNote)).what).no), .str (((x0.line.getD i0 (default : GNote)).what).text)] : List AV).getD j0 (.con undef)), .lst 3 x0.log.length (fun i0 j0 => ([.int .i64 ((x0.log.getD i0 (default : GTold)).who), .int .i64 ((x0.log.getD i0 (default : GTold)).no), .str ((x0.log.getD i0 (default : GTold)).text)] : List AV).getD j0 (.con undef)), .lst 1 x0.next.length (fun i0 _ => .int .i64 (x0.next.getD i0 0))]) v0 := DS.agg_of (let ⟨cs, e, _⟩ := okWide_struct Try.underlying75 (hval 0 75 v0 rfl rfl); ⟨cs, e⟩) R0
  clear hA0 hval0
  refine (law_GoodTell x0 W _ _ (fun _ h => h) ⟨_, _, rfl, E0, rfl⟩).mono fun e W' ⟨he, hg⟩ => ?_
  subst he
  exact ⟨_, rfl, law_post hW' rfl laidOut (by kernel_rfl) hg rfl rfl Try.underlying4⟩
/-- The statement. -/
theorem proved_GoodTell : Rows.FnExactGoodTellSaid :=
  OpenClaim.holds_of_wide 12 Try.f12 rfl rfl rfl rfl rfl rfl rfl ⟨rfl, rfl, rfl, rfl, rfl⟩ rfl rfl rfl rfl rfl (by kernel_rfl) Try.func12 (by kernel_rfl)
    (of_decide_eq_true (by kernel_rfl)) (by unfold Func.isWrapper; first | (rw [if_pos (by decide +kernel)]; kernel_rfl) | (rw [if_neg (by decide +kernel)]; exact ⟨rfl, rfl⟩))
    (fun os started H enc _ => lifted_GoodTell os started H enc)
#print axioms proved_GoodTell
end Go.Proofs.Ytlbnodmebehpiaa
