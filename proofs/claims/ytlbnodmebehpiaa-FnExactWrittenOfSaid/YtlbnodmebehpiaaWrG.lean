/-
  Proved: the law FnExactWrittenOf returns true for every input: the program's WrittenOf answers what the reference's does, leaves its arguments alone, and hands out memory that nobody else holds. Conditions: none.
-/
import Derived.Test.YtlbnodmebehpiaaWr
import Derived.Test.YtlbnodmebehpiaaLa
import Derived.Test.YtlbnodmebehpiaaLh
import Derived.Test.YtlbnodmebehpiaaLo
import Derived.Test.YtlbnodmebehpiaaLz
import Derived.Test.YtlbnodmebehpiaaLe
import Derived.Test.YtlbnodmebehpiaaVo
namespace Go.Proofs.Ytlbnodmebehpiaa
open Go.ChangeShapes Go.WideShapes Go.ChangeAt Go.RowKit Go.BigFrame Go.Deep
set_option linter.unusedVariables false
set_option linter.unusedSimpArgs false
theorem vl_ag_66_5 : aggB Try.prog 66 5 = true := by kernel_rfl
theorem vl_ag_75_5 : aggB Try.prog 75 5 = true := by kernel_rfl
theorem vl_bo_4 : boolB Try.prog 4 = true := by kernel_rfl
theorem vl_ca_45 : callB Try.prog 45 = true := by kernel_rfl
theorem vl_ca_46 : callB Try.prog 46 = true := by kernel_rfl
theorem vl_ca_48 : callB Try.prog 48 = true := by kernel_rfl
theorem vl_ca_50 : callB Try.prog 50 = true := by kernel_rfl
theorem vl_ca_52 : callB Try.prog 52 = true := by kernel_rfl
theorem vl_ca_53 : callB Try.prog 53 = true := by kernel_rfl
theorem vl_ca_54 : callB Try.prog 54 = true := by kernel_rfl
theorem vl_ca_55 : callB Try.prog 55 = true := by kernel_rfl
theorem vl_ca_56 : callB Try.prog 56 = true := by kernel_rfl
theorem vl_sz_66_5 : sizeB Try.prog 66 5 = true := by kernel_rfl
theorem tell_cnt (x : GTell) : cvTell x ≤ 4 * wtTell x := by
  have h1 : ctL (ctL c1) x.texts ≤ 1 * wtl (wtl ByteArray.size) x.texts := ctL_wtl (fun l => by rw [ctL_one (fun _ => rfl)]; unfold wtl; omega) _
  have h2 : ctL c1 x.heard = x.heard.length := ctL_one (fun _ => rfl) _
  have h3 : ctL crNote x.line ≤ 4 * wtl wtNote x.line := ctL_wtl (fun d => by have e : crNote d = 4 := rfl; omega) _
  have h4 : ctL crTold x.log ≤ 4 * wtl wtTold x.log := ctL_wtl (fun d => by have e : crTold d = 3 := rfl; omega) _
  have h5 : ctL c1 x.next = x.next.length := ctL_one (fun _ => rfl) _
  have e : cvTell x = 0 + ctL (ctL c1) x.texts + ctL c1 x.heard + ctL crNote x.line + ctL crTold x.log + ctL c1 x.next := rfl
  have e2 : wtTell x = (wtl (wtl ByteArray.size) x.texts) + (x.heard.length + ((wtl wtNote x.line) + ((wtl wtTold x.log) + x.next.length))) := rfl
  rw [e, e2]; omega
theorem log_le (x : GTell) : x.log.length ≤ wtTell x := by
  have e2 : wtTell x = (wtl (wtl ByteArray.size) x.texts) + (x.heard.length + ((wtl wtNote x.line) + ((wtl wtTold x.log) + x.next.length))) := rfl
  have e3 : wtl wtTold x.log = x.log.length + (x.log.map wtTold).sum := rfl
  rw [e2, e3]; omega

theorem opensC_9 : OpensC Try.prog 9 (fun x : ByteArray => [.str x]) := OpensC.string Try.underlying9
theorem opensC_80 : OpensC Try.prog 80 (fun x : List ByteArray => [.lst 1 x.length (fun i0 _ => .str (x.getD i0 ByteArray.empty))]) := OpensC.slice (ByteArray.empty : ByteArray) Try.underlying80 (by kernel_rfl) (by decide) opensC_9 (fun _ => rfl) (fun l i j _ hj => match j, hj with | 0, _ => rfl | _ + 1, h => absurd h (by omega))
theorem opensC_62 : OpensC Try.prog 62 (fun x : List (List ByteArray) => [.lst 1 x.length (fun i0 _ => .lst 1 ((x.getD i0 []).length) (fun i1 _ => .str ((x.getD i0 []).getD i1 ByteArray.empty)))]) := OpensC.slice ([] : List ByteArray) Try.underlying62 (by kernel_rfl) (by decide) opensC_80 (fun _ => rfl) (fun l i j _ hj => match j, hj with | 0, _ => rfl | _ + 1, h => absurd h (by omega))
theorem opensC_3 : OpensC Try.prog 3 (fun x : Int => [.int .i64 x]) := OpensC.int Try.underlying3
theorem opensC_22 : OpensC Try.prog 22 (fun x : List Int => [.lst 1 x.length (fun i0 _ => .int .i64 (x.getD i0 0))]) := OpensC.slice (0 : Int) Try.underlying22 (by kernel_rfl) (by decide) opensC_3 (fun _ => rfl) (fun l i j _ hj => match j, hj with | 0, _ => rfl | _ + 1, h => absurd h (by omega))
theorem opensC_4 : OpensC Try.prog 4 (fun x : Bool => [.bool x]) := OpensC.bool Try.underlying4
theorem opensC_153 : OpensC Try.prog 153 (fun x : GTold => [.int .i64 x.who, .int .i64 x.no, .str x.text]) := fun H eh w fuel cs x h => by
  have hS : Try.prog.underlying 153 = some (.struct (Try.prog.fieldsOf 153)) := by kernel_rfl
  obtain ⟨xs, n, _, rfl, hl, hlen, hf⟩ := DataW.trod_struct hS h
  have hsz : (Try.prog.fieldsOf 153).size = 3 := by kernel_rfl
  have hC : Try.prog.cellsOf 153 = 3 := by kernel_rfl
  rw [hC] at hl
  have t0 : ((Try.prog.fieldsOf 153)[0]?).map (fun f => (f.type, f.offset, Try.prog.cellsOf f.type)) = some (3, 0, 1) := by kernel_rfl
  obtain ⟨f0, j0, y0⟩ := Option.map_eq_some_iff.1 t0
  simp only [Prod.mk.injEq] at y0
  have g0 := hf 0 f0 j0
  rw [y0.2.2, y0.2.1, y0.1, List.getElem?_eq_getElem (by omega)] at g0
  obtain ⟨a0, r0⟩ := opensC_3 H eh w n _ _ g0
  have t1 : ((Try.prog.fieldsOf 153)[1]?).map (fun f => (f.type, f.offset, Try.prog.cellsOf f.type)) = some (3, 1, 1) := by kernel_rfl
  obtain ⟨f1, j1, y1⟩ := Option.map_eq_some_iff.1 t1
  simp only [Prod.mk.injEq] at y1
  have g1 := hf 1 f1 j1
  rw [y1.2.2, y1.2.1, y1.1, List.getElem?_eq_getElem (by omega)] at g1
  obtain ⟨a1, r1⟩ := opensC_3 H eh w n _ _ g1
  have t2 : ((Try.prog.fieldsOf 153)[2]?).map (fun f => (f.type, f.offset, Try.prog.cellsOf f.type)) = some (9, 2, 1) := by kernel_rfl
  obtain ⟨f2, j2, y2⟩ := Option.map_eq_some_iff.1 t2
  simp only [Prod.mk.injEq] at y2
  have g2 := hf 2 f2 j2
  rw [y2.2.2, y2.2.1, y2.1, List.getElem?_eq_getElem (by omega)] at g2
  obtain ⟨a2, r2⟩ := opensC_9 H eh w n _ _ g2
  have e3 : DL w (· < w.heap.size) [] (cs.drop 3) := List.drop_of_length_le (by omega)
  have e2 := DL.part (o := 2) (s := 1) r2 e3
  have e1 := DL.part (o := 1) (s := 1) r1 e2
  have e0 := DL.part (o := 0) (s := 1) r0 e1
  exact ⟨⟨a0, a1, a2⟩, e0⟩
theorem opensC_155 : OpensC Try.prog 155 (fun x : GNote => [.bool x.back, .int .i64 x.what.who, .int .i64 x.what.no, .str x.what.text]) := fun H eh w fuel cs x h => by
  have hS : Try.prog.underlying 155 = some (.struct (Try.prog.fieldsOf 155)) := by kernel_rfl
  obtain ⟨xs, n, _, rfl, hl, hlen, hf⟩ := DataW.trod_struct hS h
  have hsz : (Try.prog.fieldsOf 155).size = 2 := by kernel_rfl
  have hC : Try.prog.cellsOf 155 = 4 := by kernel_rfl
  rw [hC] at hl
  have t0 : ((Try.prog.fieldsOf 155)[0]?).map (fun f => (f.type, f.offset, Try.prog.cellsOf f.type)) = some (4, 0, 1) := by kernel_rfl
  obtain ⟨f0, j0, y0⟩ := Option.map_eq_some_iff.1 t0
  simp only [Prod.mk.injEq] at y0
  have g0 := hf 0 f0 j0
  rw [y0.2.2, y0.2.1, y0.1, List.getElem?_eq_getElem (by omega)] at g0
  obtain ⟨a0, r0⟩ := opensC_4 H eh w n _ _ g0
  have t1 : ((Try.prog.fieldsOf 155)[1]?).map (fun f => (f.type, f.offset, Try.prog.cellsOf f.type)) = some (153, 1, 3) := by kernel_rfl
  obtain ⟨f1, j1, y1⟩ := Option.map_eq_some_iff.1 t1
  simp only [Prod.mk.injEq] at y1
  have g1 := hf 1 f1 j1
  rw [y1.2.2, y1.2.1, y1.1, List.getElem?_eq_getElem (by omega)] at g1
  obtain ⟨a1, r1⟩ := opensC_153 H eh w n _ _ g1
  have e2 : DL w (· < w.heap.size) [] (cs.drop 4) := List.drop_of_length_le (by omega)
  have e1 := DL.part (o := 1) (s := 3) r1 e2
  have e0 := DL.part (o := 0) (s := 1) r0 e1
  exact ⟨⟨a0, a1⟩, e0⟩
theorem opensC_72 : OpensC Try.prog 72 (fun x : List GNote => [.lst 4 x.length (fun i0 j0 => ([.bool ((x.getD i0 (default : GNote)).back), .int .i64 (((x.getD i0 (default : GNote)).what).who), .int .i64 (((x.getD i0 (default : GNote)).what).no), .str (((x.getD i0 (default : GNote)).what).text)] : List AV).getD j0 (.con undef))]) := OpensC.slice (default : GNote) Try.underlying72 (by kernel_rfl) (by decide) opensC_155 (fun _ => rfl) (fun l i j _ hj => match j, hj with | 0, _ => rfl | 1, _ => rfl | 2, _ => rfl | 3, _ => rfl | _ + 4, h => absurd h (by omega))
theorem opensC_73 : OpensC Try.prog 73 (fun x : List GTold => [.lst 3 x.length (fun i0 j0 => ([.int .i64 ((x.getD i0 (default : GTold)).who), .int .i64 ((x.getD i0 (default : GTold)).no), .str ((x.getD i0 (default : GTold)).text)] : List AV).getD j0 (.con undef))]) := OpensC.slice (default : GTold) Try.underlying73 (by kernel_rfl) (by decide) opensC_153 (fun _ => rfl) (fun l i j _ hj => match j, hj with | 0, _ => rfl | 1, _ => rfl | 2, _ => rfl | _ + 3, h => absurd h (by omega))
theorem opensC_75 : OpensC Try.prog 75 (fun x : GTell => [.lst 1 x.texts.length (fun i0 _ => .lst 1 ((x.texts.getD i0 []).length) (fun i1 _ => .str ((x.texts.getD i0 []).getD i1 ByteArray.empty))), .lst 1 x.heard.length (fun i0 _ => .int .i64 (x.heard.getD i0 0)), .lst 4 x.line.length (fun i0 j0 => ([.bool ((x.line.getD i0 (default : GNote)).back), .int .i64 (((x.line.getD i0 (default : GNote)).what).who), .int .i64 (((x.line.getD i0 (default : GNote)).what).no), .str (((x.line.getD i0 (default : GNote)).what).text)] : List AV).getD j0 (.con undef)), .lst 3 x.log.length (fun i0 j0 => ([.int .i64 ((x.log.getD i0 (default : GTold)).who), .int .i64 ((x.log.getD i0 (default : GTold)).no), .str ((x.log.getD i0 (default : GTold)).text)] : List AV).getD j0 (.con undef)), .lst 1 x.next.length (fun i0 _ => .int .i64 (x.next.getD i0 0))]) := fun H eh w fuel cs x h => by
  have hS : Try.prog.underlying 75 = some (.struct (Try.prog.fieldsOf 75)) := by kernel_rfl
  obtain ⟨xs, n, _, rfl, hl, hlen, hf⟩ := DataW.trod_struct hS h
  have hsz : (Try.prog.fieldsOf 75).size = 5 := by kernel_rfl
  have hC : Try.prog.cellsOf 75 = 5 := by kernel_rfl
  rw [hC] at hl
  have t0 : ((Try.prog.fieldsOf 75)[0]?).map (fun f => (f.type, f.offset, Try.prog.cellsOf f.type)) = some (62, 0, 1) := by kernel_rfl
  obtain ⟨f0, j0, y0⟩ := Option.map_eq_some_iff.1 t0
  simp only [Prod.mk.injEq] at y0
  have g0 := hf 0 f0 j0
  rw [y0.2.2, y0.2.1, y0.1, List.getElem?_eq_getElem (by omega)] at g0
  obtain ⟨a0, r0⟩ := opensC_62 H eh w n _ _ g0
  have t1 : ((Try.prog.fieldsOf 75)[1]?).map (fun f => (f.type, f.offset, Try.prog.cellsOf f.type)) = some (22, 1, 1) := by kernel_rfl
  obtain ⟨f1, j1, y1⟩ := Option.map_eq_some_iff.1 t1
  simp only [Prod.mk.injEq] at y1
  have g1 := hf 1 f1 j1
  rw [y1.2.2, y1.2.1, y1.1, List.getElem?_eq_getElem (by omega)] at g1
  obtain ⟨a1, r1⟩ := opensC_22 H eh w n _ _ g1
  have t2 : ((Try.prog.fieldsOf 75)[2]?).map (fun f => (f.type, f.offset, Try.prog.cellsOf f.type)) = some (72, 2, 1) := by kernel_rfl
  obtain ⟨f2, j2, y2⟩ := Option.map_eq_some_iff.1 t2
  simp only [Prod.mk.injEq] at y2
  have g2 := hf 2 f2 j2
  rw [y2.2.2, y2.2.1, y2.1, List.getElem?_eq_getElem (by omega)] at g2
  obtain ⟨a2, r2⟩ := opensC_72 H eh w n _ _ g2
  have t3 : ((Try.prog.fieldsOf 75)[3]?).map (fun f => (f.type, f.offset, Try.prog.cellsOf f.type)) = some (73, 3, 1) := by kernel_rfl
  obtain ⟨f3, j3, y3⟩ := Option.map_eq_some_iff.1 t3
  simp only [Prod.mk.injEq] at y3
  have g3 := hf 3 f3 j3
  rw [y3.2.2, y3.2.1, y3.1, List.getElem?_eq_getElem (by omega)] at g3
  obtain ⟨a3, r3⟩ := opensC_73 H eh w n _ _ g3
  have t4 : ((Try.prog.fieldsOf 75)[4]?).map (fun f => (f.type, f.offset, Try.prog.cellsOf f.type)) = some (22, 4, 1) := by kernel_rfl
  obtain ⟨f4, j4, y4⟩ := Option.map_eq_some_iff.1 t4
  simp only [Prod.mk.injEq] at y4
  have g4 := hf 4 f4 j4
  rw [y4.2.2, y4.2.1, y4.1, List.getElem?_eq_getElem (by omega)] at g4
  obtain ⟨a4, r4⟩ := opensC_22 H eh w n _ _ g4
  have e5 : DL w (· < w.heap.size) [] (cs.drop 5) := List.drop_of_length_le (by omega)
  have e4 := DL.part (o := 4) (s := 1) r4 e5
  have e3 := DL.part (o := 3) (s := 1) r3 e4
  have e2 := DL.part (o := 2) (s := 1) r2 e3
  have e1 := DL.part (o := 1) (s := 1) r1 e2
  have e0 := DL.part (o := 0) (s := 1) r0 e1
  exact ⟨⟨a0, a1, a2, a3, a4⟩, e0⟩

theorem law_WrittenOf (x0 : GTell) (x1 : Int) (hx1 : I64 x1) : Fn Try.prog 13 [.agg [.lst 1 x0.texts.length (fun i0 _ => .lst 1 ((x0.texts.getD i0 []).length) (fun i1 _ => .str ((x0.texts.getD i0 []).getD i1 ByteArray.empty))), .lst 1 x0.heard.length (fun i0 _ => .int .i64 (x0.heard.getD i0 0)), .lst 4 x0.line.length (fun i0 j0 => ([.bool ((x0.line.getD i0 (default : GNote)).back), .int .i64 (((x0.line.getD i0 (default : GNote)).what).who), .int .i64 (((x0.line.getD i0 (default : GNote)).what).no), .str (((x0.line.getD i0 (default : GNote)).what).text)] : List AV).getD j0 (.con undef)), .lst 3 x0.log.length (fun i0 j0 => ([.int .i64 ((x0.log.getD i0 (default : GTold)).who), .int .i64 ((x0.log.getD i0 (default : GTold)).no), .str ((x0.log.getD i0 (default : GTold)).text)] : List AV).getD j0 (.con undef)), .lst 1 x0.next.length (fun i0 _ => .int .i64 (x0.next.getD i0 0))], .one (.int .i64 x1)] (.one (.bool true)) := by
  have hll := log_le x0
  have hct0 : cvTell x0 ≤ 4 * wtTell x0 := tell_cnt x0
  have hcnt : ctL c1 (writV x0 x1).1 ≤ wtTell x0 := by rw [ctL_one (fun _ => rfl)]; exact Nat.le_trans (writ_le x0 x1) (log_le x0)
  have hx1' : -9223372036854775808 ≤ x1 ∧ x1 ≤ 9223372036854775807 := hx1
  refine Fn.of_body (fn := Try.f13) Try.func13 rfl (Nat.le_of_ble_eq_true rfl) trivial ?_
  intro w0
  show AW _ 101 _ _ _ _
  refine AW.seq ?_
  refine AW.region ?_
  refine ARun.box (id := 0) rfl (.tmp rfl) (SV.cells_of (by exact ⟨trivial, trivial, trivial, trivial, trivial, trivial⟩)) ⟨rfl, (by repeat first | exact trivial | refine ⟨by decide, by first | rfl | exact trivial | (intro i j; first | rfl | exact getD_no rfl | (dsimp only; split <;> first | rfl | exact getD_no rfl)), ?_⟩)⟩ rfl rfl rfl (Nat.le_of_ble_eq_true rfl) ?_
  refine ARun.pure (PureOp.assign rfl .bool) rfl rfl (Nat.le_of_ble_eq_true rfl) ?_
  refine ARun.nil ?_
  refine AW.seq ?_
  refine AW.region ?_
  refine ARun.pure (PureOp.assign rfl .int) rfl rfl (Nat.le_of_ble_eq_true rfl) ?_
  refine ARun.nil ?_
  refine AW.seq ?_
  refine AW.region ?_
  refine ARun.pure (PureOp.loadPtrAgg rfl (.tmp rfl) vl_ag_75_5 rfl rfl (Nat.le_of_ble_eq_true rfl) (Nat.le_of_ble_eq_true rfl)) rfl rfl (Nat.le_of_ble_eq_true rfl) ?_
  refine ARun.pure (PureOp.move rfl (.tmp rfl)) rfl rfl (Nat.le_of_ble_eq_true rfl) ?_
  refine ARun.pure (PureOp.call rfl (v_szTell x0 1048576 (by first | omega | (unfold szR at *; split at * <;> omega))) ⟨⟨_, (.tmp rfl), ⟨.lst, .lst, .lst, .lst, .lst, trivial⟩⟩, ⟨_, (.tmp rfl), .int⟩, trivial⟩ vl_ca_48 trivial) rfl rfl (Nat.le_of_ble_eq_true rfl) ?_
  refine ARun.pure (PureOp.assign rfl (.tmp rfl)) rfl rfl (Nat.le_of_ble_eq_true rfl) ?_
  refine ARun.nil ?_
  refine AW.seq ?_
  refine AW.seq ?_
  refine AW.region ?_
  refine ARun.pure (PureOp.move rfl (.tmp rfl)) rfl rfl (Nat.le_of_ble_eq_true rfl) ?_
  refine ARun.pure (PureOp.intOp rfl (.tmp rfl) .int rfl) rfl rfl (Nat.le_of_ble_eq_true rfl) ?_
  refine ARun.nil ?_
  refine AW.cond (.tmp rfl) (fun hb1 => ?_) (fun hb1 => ?_)
  · have _u := True.intro
    replace hb1 := of_decide_eq_true hb1
    refine AW.seq ?_
    refine AW.region ?_
    refine ARun.pure (PureOp.assign rfl .bool) rfl rfl (Nat.le_of_ble_eq_true rfl) ?_
    refine ARun.nil ?_
    refine AW.ret (show ResL _ _ [.tmp 4] _ from resB rfl ?_)
    rfl
  · have _u := True.intro
    replace hb1 := of_decide_eq_false hb1
    obtain ⟨hs2, hs2b, hs2c⟩ := szR_ok (by omega) hb1
    refine AW.skip ?_
    refine AW.seq ?_
    refine AW.region ?_
    refine ARun.pure (PureOp.loadPtrAgg rfl (.tmp rfl) vl_ag_75_5 rfl rfl (Nat.le_of_ble_eq_true rfl) (Nat.le_of_ble_eq_true rfl)) rfl rfl (Nat.le_of_ble_eq_true rfl) ?_
    refine ARun.prod (K := 1) rfl (v_toTell x0 (Small.mk (by omega))) ⟨rfl, (by repeat first | exact trivial | refine ⟨by decide, by first | rfl | exact trivial | (intro i j; first | rfl | exact getD_no rfl | (dsimp only; split <;> first | rfl | exact getD_no rfl)), ?_⟩)⟩ ⟨⟨_, (.tmp rfl), ⟨.lst, .lst, .lst, .lst, .lst, trivial⟩⟩, trivial⟩ vl_ca_50 rfl rfl rfl rfl rfl (Nat.le_of_ble_eq_true rfl) ?_
    refine ARun.pure (PureOp.move rfl (.tmp rfl)) rfl rfl (Nat.le_of_ble_eq_true rfl) ?_
    refine ARun.prod (K := 2) rfl (v_sWrittenOf x0 x1 (by omega)) ⟨rfl, (by repeat first | exact trivial | refine ⟨by decide, by first | rfl | exact trivial | (intro i j; first | rfl | exact getD_no rfl | (dsimp only; split <;> first | rfl | exact getD_no rfl)), ?_⟩)⟩ ⟨⟨_, (.tmp rfl), ⟨(Vw.cast (Vw.tre rfl (Nat.le_of_ble_eq_true rfl)) rfl), (Vw.cast (Vw.tre rfl (Nat.le_of_ble_eq_true rfl)) rfl), (Vw.cast (Vw.tre rfl (Nat.le_of_ble_eq_true rfl)) rfl), (Vw.cast (Vw.tre rfl (Nat.le_of_ble_eq_true rfl)) rfl), (Vw.cast (Vw.tre rfl (Nat.le_of_ble_eq_true rfl)) rfl), trivial⟩⟩, ⟨_, (.tmp rfl), .int⟩, trivial⟩ vl_ca_52 rfl rfl rfl rfl rfl (Nat.le_of_ble_eq_true rfl) ?_
    refine ARun.pure (PureOp.move rfl (.tmp rfl)) rfl rfl (Nat.le_of_ble_eq_true rfl) ?_
    refine ARun.pure (PureOp.ext2a rfl (.tmp rfl)) rfl rfl (Nat.le_of_ble_eq_true rfl) ?_
    refine ARun.pure (PureOp.ext2b rfl (.tmp rfl)) rfl rfl (Nat.le_of_ble_eq_true rfl) ?_
    refine ARun.pure (PureOp.assign rfl (.tmp rfl)) rfl rfl (Nat.le_of_ble_eq_true rfl) ?_
    refine ARun.pure (PureOp.assign rfl (.tmp rfl)) rfl rfl (Nat.le_of_ble_eq_true rfl) ?_
    refine ARun.nil ?_
    refine AW.seq ?_
    refine AW.region ?_
    refine ARun.pure (PureOp.loadPtrAgg rfl (.tmp rfl) vl_ag_75_5 rfl rfl (Nat.le_of_ble_eq_true rfl) (Nat.le_of_ble_eq_true rfl)) rfl rfl (Nat.le_of_ble_eq_true rfl) ?_
    refine ARun.prod (K := 3) rfl (v_toTell x0 (Small.mk (by omega))) ⟨rfl, (by repeat first | exact trivial | refine ⟨by decide, by first | rfl | exact trivial | (intro i j; first | rfl | exact getD_no rfl | (dsimp only; split <;> first | rfl | exact getD_no rfl)), ?_⟩)⟩ ⟨⟨_, (.tmp rfl), ⟨.lst, .lst, .lst, .lst, .lst, trivial⟩⟩, trivial⟩ vl_ca_50 rfl rfl rfl rfl rfl (Nat.le_of_ble_eq_true rfl) ?_
    refine ARun.alloc (id := 4) (l := [.con (.slice none 0 0), .con (.slice none 0 0), .con (.slice none 0 0), .con (.slice none 0 0), .con (.slice none 0 0)]) (z := (.agg #[.slice none 0 0, .slice none 0 0, .slice none 0 0, .slice none 0 0, .slice none 0 0])) rfl (by kernel_rfl) (fun _ _ _ => ⟨_, _, rfl, rfl, ⟨_, _, rfl, rfl, ⟨_, _, rfl, rfl, ⟨_, _, rfl, rfl, ⟨_, _, rfl, rfl, rfl⟩⟩⟩⟩⟩) ⟨rfl, (by repeat first | exact trivial | refine ⟨by decide, by first | rfl | exact trivial | (intro i j; first | rfl | exact getD_no rfl | (dsimp only; split <;> first | rfl | exact getD_no rfl)), ?_⟩)⟩ rfl rfl rfl (Nat.le_of_ble_eq_true rfl) ?_
    refine ARun.store rfl (.tmp rfl) (.tmp rfl) (SV.cells_of (by exact ⟨trivial, trivial, trivial, trivial, trivial, trivial⟩)) rfl (Nat.le_of_ble_eq_true rfl) vl_sz_66_5 rfl rfl ?_
    refine ARun.nil ?_
    refine AW.seq ?_
    refine AW.region ?_
    refine ARun.pure (PureOp.loadPtrAgg rfl (.tmp rfl) vl_ag_66_5 rfl rfl (Nat.le_of_ble_eq_true rfl) (Nat.le_of_ble_eq_true rfl)) rfl rfl (Nat.le_of_ble_eq_true rfl) ?_
    refine ARun.pure (PureOp.move rfl (.tmp rfl)) rfl rfl (Nat.le_of_ble_eq_true rfl) ?_
    refine ARun.prod (K := 5) rfl (v_iWrittenOf x0 x1 (by omega)) ⟨rfl, (by repeat first | exact trivial | refine ⟨by decide, by first | rfl | exact trivial | (intro i j; first | rfl | exact getD_no rfl | (dsimp only; split <;> first | rfl | exact getD_no rfl)), ?_⟩)⟩ ⟨⟨_, (.tmp rfl), ⟨(Vw.cast (Vw.tre rfl (Nat.le_of_ble_eq_true rfl)) rfl), (Vw.cast (Vw.tre rfl (Nat.le_of_ble_eq_true rfl)) rfl), (Vw.cast (Vw.tre rfl (Nat.le_of_ble_eq_true rfl)) rfl), (Vw.cast (Vw.tre rfl (Nat.le_of_ble_eq_true rfl)) rfl), (Vw.cast (Vw.tre rfl (Nat.le_of_ble_eq_true rfl)) rfl), trivial⟩⟩, ⟨_, (.tmp rfl), .int⟩, trivial⟩ vl_ca_53 rfl rfl rfl rfl rfl (Nat.le_of_ble_eq_true rfl) ?_
    refine ARun.pure (PureOp.move rfl (.tmp rfl)) rfl rfl (Nat.le_of_ble_eq_true rfl) ?_
    refine ARun.pure (PureOp.ext2a rfl (.tmp rfl)) rfl rfl (Nat.le_of_ble_eq_true rfl) ?_
    refine ARun.pure (PureOp.ext2b rfl (.tmp rfl)) rfl rfl (Nat.le_of_ble_eq_true rfl) ?_
    refine ARun.pure (PureOp.assign rfl (.tmp rfl)) rfl rfl (Nat.le_of_ble_eq_true rfl) ?_
    refine ARun.pure (PureOp.assign rfl (.tmp rfl)) rfl rfl (Nat.le_of_ble_eq_true rfl) ?_
    refine ARun.nil ?_
    refine AW.seq ?_
    refine AW.seq ?_
    refine AW.region ?_
    refine ARun.pure (PureOp.move rfl (.tmp rfl)) rfl rfl (Nat.le_of_ble_eq_true rfl) ?_
    refine ARun.pure (PureOp.move rfl (.tmp rfl)) rfl rfl (Nat.le_of_ble_eq_true rfl) ?_
    refine ARun.pure (PureOp.call rfl (v_eqStringS ((writV x0 x1).1) ((writV x0 x1).1)) ⟨⟨_, (.tmp rfl), (Vw.cast (Vw.tre rfl (Nat.le_of_ble_eq_true rfl)) rfl)⟩, ⟨_, (.tmp rfl), (Vw.cast (Vw.tre rfl (Nat.le_of_ble_eq_true rfl)) rfl)⟩, trivial⟩ vl_ca_54 trivial) rfl rfl (Nat.le_of_ble_eq_true rfl) ?_
    refine ARun.pure (PureOp.not rfl (.tmp rfl)) rfl rfl (Nat.le_of_ble_eq_true rfl) ?_
    refine ARun.pure (PureOp.move rfl (.tmp rfl)) rfl rfl (Nat.le_of_ble_eq_true rfl) ?_
    refine ARun.gpure (want := false) (.tf rfl) (fun hg3 => PureOp.move rfl (.tmp rfl)) rfl rfl (Nat.le_of_ble_eq_true rfl) rfl (Nat.le_of_ble_eq_true rfl) ?_
    refine ARun.gpure (want := false) (.tf rfl) (fun hg4 => PureOp.move rfl (.tmp rfl)) rfl rfl (Nat.le_of_ble_eq_true rfl) rfl (Nat.le_of_ble_eq_true rfl) ?_
    refine ARun.gpure (want := false) (.tf rfl) (fun hg5 => PureOp.boolNe rfl (.gtmp rfl hg5) (.gtmp rfl hg5) vl_bo_4) rfl rfl (Nat.le_of_ble_eq_true rfl) rfl (Nat.le_of_ble_eq_true rfl) ?_
    refine ARun.pure (PureOp.pick rfl (.tmp rfl) (fun _ => .bool) (fun hp7 => .gtmp rfl (not_of hp7))) rfl rfl (Nat.le_of_ble_eq_true rfl) ?_
    refine ARun.nil ?_
    refine AW.cond (.tmp rfl) (fun hb8 => ?_) (fun hb8 => ?_)
    · have _u := True.intro
      exact absurd (show (cond (!(decide ((writV x0 x1).1 = (writV x0 x1).1))) true (!(((writV x0 x1).2) == ((writV x0 x1).2)))) = false by first | (simp; done) | (rw [cast_neg]; simp; done)) (by rw [hb8]; simp)
      --end
    · have _u := True.intro
      refine AW.skip ?_
      refine AW.seq ?_
      refine AW.seq ?_
      refine AW.any (by kernel_rfl) (by kernel_rfl) ?_
      refine AD.pure (PureOp.loadPtrAgg rfl (.tmp rfl) vl_ag_66_5 rfl rfl (Nat.le_of_ble_eq_true rfl) (Nat.le_of_ble_eq_true rfl)) rfl rfl (Nat.le_of_ble_eq_true rfl) ?_
      refine AD.pure (PureOp.loadPtrAgg rfl (.tmp rfl) vl_ag_75_5 rfl rfl (Nat.le_of_ble_eq_true rfl) (Nat.le_of_ble_eq_true rfl)) rfl rfl (Nat.le_of_ble_eq_true rfl) ?_
      refine AD.fresh (FreshOp.callS rfl (FnT.toF (v_toTell x0 (Small.mk (by omega)))) ⟨⟨_, (.tmp rfl), ⟨.lst, .lst, .lst, .lst, .lst, trivial⟩⟩, trivial⟩ vl_ca_50 rfl) rfl rfl (Nat.le_of_ble_eq_true rfl) ?_
      refine AD.pure (PureOp.call rfl (v_eqTell x0 x0) ⟨⟨_, (.tmp rfl), ⟨(Vw.cast (Vw.tre rfl (Nat.le_of_ble_eq_true rfl)) rfl), (Vw.cast (Vw.tre rfl (Nat.le_of_ble_eq_true rfl)) rfl), (Vw.cast (Vw.tre rfl (Nat.le_of_ble_eq_true rfl)) rfl), (Vw.cast (Vw.tre rfl (Nat.le_of_ble_eq_true rfl)) rfl), (Vw.cast (Vw.tre rfl (Nat.le_of_ble_eq_true rfl)) rfl), trivial⟩⟩, ⟨_, (.tmp rfl), ⟨.frs, .frs, .frs, .frs, .frs, trivial⟩⟩, trivial⟩ vl_ca_45 trivial) rfl rfl (Nat.le_of_ble_eq_true rfl) ?_
      refine AD.pure (PureOp.not rfl (.tmp rfl)) rfl rfl (Nat.le_of_ble_eq_true rfl) ?_
      refine AD.nil ?_
      refine AW.cond (.tmp rfl) (fun hb9 => ?_) (fun hb9 => ?_)
      · have _u := True.intro
        replace hb9 := of_decide_eq_false (of_not hb9)
        exact absurd rfl hb9
        --end
      · have _u := True.intro
        replace hb9 := of_decide_eq_true (not_f hb9)
        refine AW.skip ?_
        refine AW.seq ?_
        refine AW.region ?_
        refine ARun.pure (PureOp.assign rfl .int) rfl rfl (Nat.le_of_ble_eq_true rfl) ?_
        refine ARun.nil ?_
        refine AW.seq ?_
        refine AW.region ?_
        refine ARun.pure (PureOp.loadPtrAgg rfl (.tmp rfl) vl_ag_66_5 rfl rfl (Nat.le_of_ble_eq_true rfl) (Nat.le_of_ble_eq_true rfl)) rfl rfl (Nat.le_of_ble_eq_true rfl) ?_
        refine ARun.pure (PureOp.move rfl (.tmp rfl)) rfl rfl (Nat.le_of_ble_eq_true rfl) ?_
        refine ARun.mark (id := 3) (q0 := 0) (X' := fun p => ([.lst 1 (((mvTell x0 1).texts).length) (fun i0 _ => .lst 1 ((((mvTell x0 1).texts).getD i0 []).length) (fun i1 _ => .str ((((mvTell x0 1).texts).getD i0 []).getD i1 ByteArray.empty))), .lst 1 (((mvTell x0 1).heard).length) (fun i0 _ => .int .i64 (((mvTell x0 1).heard).getD i0 0)), .lst 4 (((mvTell x0 1).line).length) (fun i0 j0 => ([.bool ((((mvTell x0 1).line).getD i0 (default : GNote)).back), .int .i64 (((((mvTell x0 1).line).getD i0 (default : GNote)).what).who), .int .i64 (((((mvTell x0 1).line).getD i0 (default : GNote)).what).no), .str (((((mvTell x0 1).line).getD i0 (default : GNote)).what).text)] : List AV).getD j0 (.con undef)), .lst 3 (((mvTell x0 1).log).length) (fun i0 j0 => ([.int .i64 ((((mvTell x0 1).log).getD i0 (default : GTold)).who), .int .i64 ((((mvTell x0 1).log).getD i0 (default : GTold)).no), .str ((((mvTell x0 1).log).getD i0 (default : GTold)).text)] : List AV).getD j0 (.con undef)), .lst 1 (((mvTell x0 1).next).length) (fun i0 _ => .int .i64 (((mvTell x0 1).next).getD i0 0))] : List AV).getD p (.con undef)) rfl (m_Tell x0 1 ⟨by omega, by omega⟩) vl_ca_46 trivial (.tmp rfl) rfl rfl rfl (Nat.le_of_ble_eq_true rfl) (fun p hp _ => match p, hp with | 0, _ => rfl | 1, _ => rfl | 2, _ => rfl | 3, _ => rfl | 4, _ => rfl | _ + 5, h => absurd h (by simp [SV.leaves])) rfl rfl (fun p hp _ => match p, hp with | 0, _ => rfl | 1, _ => rfl | 2, _ => rfl | 3, _ => rfl | 4, _ => rfl | _ + 5, h => absurd h (by simp [SV.leaves])) (fun q hq hne => match q, hq, hne with | 0, _, h => absurd rfl (h 0 (Nat.le_of_ble_eq_true rfl) rfl) | 1, _, h => absurd rfl (h 1 (Nat.le_of_ble_eq_true rfl) rfl) | 2, _, h => absurd rfl (h 2 (Nat.le_of_ble_eq_true rfl) rfl) | 3, _, h => absurd rfl (h 3 (Nat.le_of_ble_eq_true rfl) rfl) | 4, _, h => absurd rfl (h 4 (Nat.le_of_ble_eq_true rfl) rfl) | _ + 5, h, _ => absurd (show _ < 5 from h) (by omega)) ⟨(.tmp rfl), trivial, trivial⟩ rfl rfl (Nat.le_of_ble_eq_true rfl) ?_
        refine ARun.pure (PureOp.assign rfl (.tmp rfl)) rfl rfl (Nat.le_of_ble_eq_true rfl) ?_
        refine ARun.nil ?_
        refine AW.seq ?_
        refine AW.seq ?_
        refine AW.region ?_
        refine ARun.pure (PureOp.move rfl (.tmp rfl)) rfl rfl (Nat.le_of_ble_eq_true rfl) ?_
        refine ARun.pure (PureOp.intOp rfl (.tmp rfl) .int rfl) rfl rfl (Nat.le_of_ble_eq_true rfl) ?_
        refine ARun.pure (PureOp.move rfl (.tmp rfl)) rfl rfl (Nat.le_of_ble_eq_true rfl) ?_
        refine ARun.gpure (want := false) (.tf rfl) (fun hg10 => PureOp.move rfl (.tmp rfl)) rfl rfl (Nat.le_of_ble_eq_true rfl) rfl (Nat.le_of_ble_eq_true rfl) ?_
        refine ARun.gpure (want := false) (.tf rfl) (fun hg11 => PureOp.move rfl (.tmp rfl)) rfl rfl (Nat.le_of_ble_eq_true rfl) rfl (Nat.le_of_ble_eq_true rfl) ?_
        refine ARun.gpure (want := false) (.tf rfl) (fun hg12 => PureOp.call rfl (v_eqStringS ((writV x0 x1).1) ((writV x0 x1).1)) ⟨⟨_, (.gtmp rfl hg12), (Vw.cast (Vw.tre rfl (Nat.le_of_ble_eq_true rfl)) rfl)⟩, ⟨_, (.gtmp rfl hg12), (Vw.cast (Vw.tre rfl (Nat.le_of_ble_eq_true rfl)) rfl)⟩, trivial⟩ vl_ca_54 trivial) rfl rfl (Nat.le_of_ble_eq_true rfl) rfl (Nat.le_of_ble_eq_true rfl) ?_
        refine ARun.gpure (want := false) (.tf rfl) (fun hg13 => PureOp.not rfl (.gtmp rfl hg13)) rfl rfl (Nat.le_of_ble_eq_true rfl) rfl (Nat.le_of_ble_eq_true rfl) ?_
        refine ARun.pure (PureOp.pick rfl (.tmp rfl) (fun _ => .bool) (fun hp15 => .gtmp rfl (not_of hp15))) rfl rfl (Nat.le_of_ble_eq_true rfl) ?_
        refine ARun.pure (PureOp.move rfl (.tmp rfl)) rfl rfl (Nat.le_of_ble_eq_true rfl) ?_
        refine ARun.gpure (want := false) (.tf rfl) (fun hg16 => PureOp.move rfl (.tmp rfl)) rfl rfl (Nat.le_of_ble_eq_true rfl) rfl (Nat.le_of_ble_eq_true rfl) ?_
        refine ARun.gpure (want := false) (.tf rfl) (fun hg17 => PureOp.move rfl (.tmp rfl)) rfl rfl (Nat.le_of_ble_eq_true rfl) rfl (Nat.le_of_ble_eq_true rfl) ?_
        refine ARun.gpure (want := false) (.tf rfl) (fun hg18 => PureOp.boolNe rfl (.gtmp rfl hg18) (.gtmp rfl hg18) vl_bo_4) rfl rfl (Nat.le_of_ble_eq_true rfl) rfl (Nat.le_of_ble_eq_true rfl) ?_
        refine ARun.pure (PureOp.pick rfl (.tmp rfl) (fun _ => .bool) (fun hp20 => .gtmp rfl (not_of hp20))) rfl rfl (Nat.le_of_ble_eq_true rfl) ?_
        refine ARun.nil ?_
        refine AW.cond (.tmp rfl) (fun hb21 => ?_) (fun hb21 => ?_)
        · have _u := True.intro
          exact absurd (show (cond (cond (decide (((1 + cvTell x0 : Nat) : Int) < 0)) true (!(decide ((writV x0 x1).1 = (writV x0 x1).1)))) true (!(((writV x0 x1).2) == ((writV x0 x1).2)))) = false by first | (simp; done) | (rw [cast_neg]; simp; done)) (by rw [hb21]; simp)
          --end
        · have _u := True.intro
          refine AW.skip ?_
          refine AW.seq ?_
          refine AW.region ?_
          refine ARun.pure (PureOp.assign rfl .int) rfl rfl (Nat.le_of_ble_eq_true rfl) ?_
          refine ARun.nil ?_
          refine AW.seq ?_
          refine AW.region ?_
          refine ARun.pure (PureOp.move rfl (.tmp rfl)) rfl rfl (Nat.le_of_ble_eq_true rfl) ?_
          refine ARun.pure (PureOp.move rfl (.tmp rfl)) rfl rfl (Nat.le_of_ble_eq_true rfl) ?_
          refine ARun.mark (id := 5) (q0 := 0) (X' := fun q => if q = 0 then .lst 1 ((mkL c1 mkS ((writV x0 x1).1) 1).length) (fun i0 _ => .str ((mkL c1 mkS ((writV x0 x1).1) 1).getD i0 ByteArray.empty)) else (fun p => ([.lst 1 (((writV x0 x1).1).length) (fun i0 _ => .str (((writV x0 x1).1).getD i0 ByteArray.empty)), .bool ((writV x0 x1).2)] : List AV).getD p (.con undef)) q) rfl (m_StringS ((writV x0 x1).1) 1 ⟨by omega, by omega⟩) vl_ca_55 trivial (.tmp rfl) rfl rfl rfl (Nat.le_of_ble_eq_true rfl) (fun p hp _ => match p, hp with | 0, _ => rfl | _ + 1, h => absurd h (by simp [SV.leaves])) rfl trivial (fun p hp _ => match p, hp with | 0, _ => if_pos rfl | _ + 1, h => absurd h (by simp [SV.leaves])) (fun q _ hne => if_neg (fun e => hne 0 (Nat.zero_lt_one) rfl e)) ⟨(.tmp rfl), trivial, trivial⟩ rfl rfl (Nat.le_of_ble_eq_true rfl) ?_
          refine ARun.pure (PureOp.assign rfl (.tmp rfl)) rfl rfl (Nat.le_of_ble_eq_true rfl) ?_
          refine ARun.nil ?_
          refine AW.seq ?_
          refine AW.region ?_
          refine ARun.pure (PureOp.assign rfl .int) rfl rfl (Nat.le_of_ble_eq_true rfl) ?_
          refine ARun.nil ?_
          refine AW.seq ?_
          refine AW.region ?_
          refine ARun.pure (PureOp.move rfl (.tmp rfl)) rfl rfl (Nat.le_of_ble_eq_true rfl) ?_
          refine ARun.pure (PureOp.move rfl (.tmp rfl)) rfl rfl (Nat.le_of_ble_eq_true rfl) ?_
          refine ARun.pure (PureOp.call rfl (h_StringS ((writV x0 x1).1) (mkL c1 mkS ((writV x0 x1).1) 1) 1 rfl ⟨by omega, by omega⟩) ⟨⟨_, (.tmp rfl), (Vw.cast (Vw.tre rfl (Nat.le_of_ble_eq_true rfl)) rfl)⟩, ⟨_, (.tmp rfl), .int⟩, trivial⟩ vl_ca_56 trivial) rfl rfl (Nat.le_of_ble_eq_true rfl) ?_
          refine ARun.pure (PureOp.assign rfl (.tmp rfl)) rfl rfl (Nat.le_of_ble_eq_true rfl) ?_
          refine ARun.nil ?_
          refine AW.seq ?_
          refine AW.seq ?_
          refine AW.region ?_
          refine ARun.pure (PureOp.move rfl (.tmp rfl)) rfl rfl (Nat.le_of_ble_eq_true rfl) ?_
          refine ARun.pure (PureOp.intOp rfl (.tmp rfl) .int rfl) rfl rfl (Nat.le_of_ble_eq_true rfl) ?_
          refine ARun.nil ?_
          refine AW.cond (.tmp rfl) (fun hb22 => ?_) (fun hb22 => ?_)
          · have _u := True.intro
            replace hb22 := of_decide_eq_true hb22
            exact absurd hb22 (by omega)
            --end
          · have _u := True.intro
            replace hb22 := of_decide_eq_false hb22
            refine AW.skip ?_
            refine AW.seq ?_
            refine AW.seq ?_
            refine AW.region ?_
            refine ARun.pure (PureOp.move rfl (.tmp rfl)) rfl rfl (Nat.le_of_ble_eq_true rfl) ?_
            refine ARun.pure (PureOp.move rfl (.tmp rfl)) rfl rfl (Nat.le_of_ble_eq_true rfl) ?_
            refine ARun.pure (PureOp.intOp rfl (.tmp rfl) (.tmp rfl) rfl) rfl rfl (Nat.le_of_ble_eq_true rfl) ?_
            refine ARun.nil ?_
            refine AW.cond (.tmp rfl) (fun hb23 => ?_) (fun hb23 => ?_)
            · have _u := True.intro
              replace hb23 := of_decide_eq_false (of_not hb23)
              exact absurd rfl hb23
              --end
            · have _u := True.intro
              replace hb23 := of_decide_eq_true (not_f hb23)
              refine AW.skip ?_
              refine AW.seq ?_
              refine AW.region ?_
              refine ARun.pure (PureOp.loadPtrAgg rfl (.tmp rfl) vl_ag_75_5 rfl rfl (Nat.le_of_ble_eq_true rfl) (Nat.le_of_ble_eq_true rfl)) rfl rfl (Nat.le_of_ble_eq_true rfl) ?_
              refine ARun.prod (K := 6) rfl (v_toTell x0 (Small.mk (by omega))) ⟨rfl, (by repeat first | exact trivial | refine ⟨by decide, by first | rfl | exact trivial | (intro i j; first | rfl | exact getD_no rfl | (dsimp only; split <;> first | rfl | exact getD_no rfl)), ?_⟩)⟩ ⟨⟨_, (.tmp rfl), ⟨.lst, .lst, .lst, .lst, .lst, trivial⟩⟩, trivial⟩ vl_ca_50 rfl rfl rfl rfl rfl (Nat.le_of_ble_eq_true rfl) ?_
              refine ARun.pure (PureOp.move rfl (.tmp rfl)) rfl rfl (Nat.le_of_ble_eq_true rfl) ?_
              refine ARun.prod (K := 7) rfl (v_iWrittenOf x0 x1 (by omega)) ⟨rfl, (by repeat first | exact trivial | refine ⟨by decide, by first | rfl | exact trivial | (intro i j; first | rfl | exact getD_no rfl | (dsimp only; split <;> first | rfl | exact getD_no rfl)), ?_⟩)⟩ ⟨⟨_, (.tmp rfl), ⟨(Vw.cast (Vw.tre rfl (Nat.le_of_ble_eq_true rfl)) rfl), (Vw.cast (Vw.tre rfl (Nat.le_of_ble_eq_true rfl)) rfl), (Vw.cast (Vw.tre rfl (Nat.le_of_ble_eq_true rfl)) rfl), (Vw.cast (Vw.tre rfl (Nat.le_of_ble_eq_true rfl)) rfl), (Vw.cast (Vw.tre rfl (Nat.le_of_ble_eq_true rfl)) rfl), trivial⟩⟩, ⟨_, (.tmp rfl), .int⟩, trivial⟩ vl_ca_53 rfl rfl rfl rfl rfl (Nat.le_of_ble_eq_true rfl) ?_
              refine ARun.pure (PureOp.move rfl (.tmp rfl)) rfl rfl (Nat.le_of_ble_eq_true rfl) ?_
              refine ARun.pure (PureOp.ext2a rfl (.tmp rfl)) rfl rfl (Nat.le_of_ble_eq_true rfl) ?_
              refine ARun.pure (PureOp.ext2b rfl (.tmp rfl)) rfl rfl (Nat.le_of_ble_eq_true rfl) ?_
              refine ARun.pure (PureOp.assign rfl (.tmp rfl)) rfl rfl (Nat.le_of_ble_eq_true rfl) ?_
              refine ARun.pure (PureOp.assign rfl (.tmp rfl)) rfl rfl (Nat.le_of_ble_eq_true rfl) ?_
              refine ARun.nil ?_
              refine AW.seq ?_
              refine AW.seq ?_
              refine AW.region ?_
              refine ARun.pure (PureOp.move rfl (.tmp rfl)) rfl rfl (Nat.le_of_ble_eq_true rfl) ?_
              refine ARun.pure (PureOp.move rfl (.tmp rfl)) rfl rfl (Nat.le_of_ble_eq_true rfl) ?_
              refine ARun.pure (PureOp.call rfl (v_eqStringS ((writV x0 x1).1) ((writV x0 x1).1)) ⟨⟨_, (.tmp rfl), (Vw.cast (Vw.tre rfl (Nat.le_of_ble_eq_true rfl)) rfl)⟩, ⟨_, (.tmp rfl), (Vw.cast (Vw.tre rfl (Nat.le_of_ble_eq_true rfl)) rfl)⟩, trivial⟩ vl_ca_54 trivial) rfl rfl (Nat.le_of_ble_eq_true rfl) ?_
              refine ARun.pure (PureOp.not rfl (.tmp rfl)) rfl rfl (Nat.le_of_ble_eq_true rfl) ?_
              refine ARun.pure (PureOp.move rfl (.tmp rfl)) rfl rfl (Nat.le_of_ble_eq_true rfl) ?_
              refine ARun.gpure (want := false) (.tf rfl) (fun hg24 => PureOp.move rfl (.tmp rfl)) rfl rfl (Nat.le_of_ble_eq_true rfl) rfl (Nat.le_of_ble_eq_true rfl) ?_
              refine ARun.gpure (want := false) (.tf rfl) (fun hg25 => PureOp.move rfl (.tmp rfl)) rfl rfl (Nat.le_of_ble_eq_true rfl) rfl (Nat.le_of_ble_eq_true rfl) ?_
              refine ARun.gpure (want := false) (.tf rfl) (fun hg26 => PureOp.boolNe rfl (.gtmp rfl hg26) (.gtmp rfl hg26) vl_bo_4) rfl rfl (Nat.le_of_ble_eq_true rfl) rfl (Nat.le_of_ble_eq_true rfl) ?_
              refine ARun.pure (PureOp.pick rfl (.tmp rfl) (fun _ => .bool) (fun hp28 => .gtmp rfl (not_of hp28))) rfl rfl (Nat.le_of_ble_eq_true rfl) ?_
              refine ARun.nil ?_
              refine AW.cond (.tmp rfl) (fun hb29 => ?_) (fun hb29 => ?_)
              · have _u := True.intro
                exact absurd (show (cond (!(decide ((writV x0 x1).1 = (writV x0 x1).1))) true (!(((writV x0 x1).2) == ((writV x0 x1).2)))) = false by first | (simp; done) | (rw [cast_neg]; simp; done)) (by rw [hb29]; simp)
                --end
              · have _u := True.intro
                refine AW.skip ?_
                refine AW.seq ?_
                refine AW.region ?_
                refine ARun.pure (PureOp.assign rfl .int) rfl rfl (Nat.le_of_ble_eq_true rfl) ?_
                refine ARun.nil ?_
                refine AW.seq ?_
                refine AW.region ?_
                refine ARun.pure (PureOp.move rfl (.tmp rfl)) rfl rfl (Nat.le_of_ble_eq_true rfl) ?_
                refine ARun.pure (PureOp.move rfl (.tmp rfl)) rfl rfl (Nat.le_of_ble_eq_true rfl) ?_
                refine ARun.pure (PureOp.call rfl (h_StringS ((writV x0 x1).1) (mkL c1 mkS ((writV x0 x1).1) 1) 1 rfl ⟨by omega, by omega⟩) ⟨⟨_, (.tmp rfl), (Vw.cast (Vw.tre rfl (Nat.le_of_ble_eq_true rfl)) rfl)⟩, ⟨_, (.tmp rfl), .int⟩, trivial⟩ vl_ca_56 trivial) rfl rfl (Nat.le_of_ble_eq_true rfl) ?_
                refine ARun.pure (PureOp.assign rfl (.tmp rfl)) rfl rfl (Nat.le_of_ble_eq_true rfl) ?_
                refine ARun.nil ?_
                refine AW.seq ?_
                refine AW.seq ?_
                refine AW.region ?_
                refine ARun.pure (PureOp.move rfl (.tmp rfl)) rfl rfl (Nat.le_of_ble_eq_true rfl) ?_
                refine ARun.pure (PureOp.intOp rfl (.tmp rfl) .int rfl) rfl rfl (Nat.le_of_ble_eq_true rfl) ?_
                refine ARun.nil ?_
                refine AW.cond (.tmp rfl) (fun hb30 => ?_) (fun hb30 => ?_)
                · have _u := True.intro
                  replace hb30 := of_decide_eq_true hb30
                  exact absurd hb30 (by omega)
                  --end
                · have _u := True.intro
                  replace hb30 := of_decide_eq_false hb30
                  refine AW.skip ?_
                  refine AW.seq ?_
                  refine AW.seq ?_
                  refine AW.region ?_
                  refine ARun.pure (PureOp.move rfl (.tmp rfl)) rfl rfl (Nat.le_of_ble_eq_true rfl) ?_
                  refine ARun.pure (PureOp.move rfl (.tmp rfl)) rfl rfl (Nat.le_of_ble_eq_true rfl) ?_
                  refine ARun.pure (PureOp.intOp rfl (.tmp rfl) (.tmp rfl) rfl) rfl rfl (Nat.le_of_ble_eq_true rfl) ?_
                  refine ARun.nil ?_
                  refine AW.cond (.tmp rfl) (fun hb31 => ?_) (fun hb31 => ?_)
                  · have _u := True.intro
                    replace hb31 := of_decide_eq_false (of_not hb31)
                    exact absurd rfl hb31
                    --end
                  · have _u := True.intro
                    replace hb31 := of_decide_eq_true (not_f hb31)
                    refine AW.skip ?_
                    refine AW.seq ?_
                    refine AW.region ?_
                    refine ARun.pure (PureOp.assign rfl .bool) rfl rfl (Nat.le_of_ble_eq_true rfl) ?_
                    refine ARun.nil ?_
                    refine AW.ret (show ResL _ _ [.tmp 4] _ from resB rfl ?_)
                    rfl

set_option maxRecDepth 100000 in
theorem lifted_WrittenOf (os : Os) (started : os.Started) (H : Type) (enc : TypeId × Value → H) :
    ReturnsInHanded {} Try.checked os 13 .any (Rows.fnExactWrittenOfSpec.pre6 enc Try.prog Try.f13 Rows.fnExactWrittenOfRow.domain false) (Rows.fnExactWrittenOfSpec.post enc Try.prog Try.f13 false true false false) := by
  refine returnsInHanded_of_change (C := Try.checked) own started (by kernel_rfl) Try.func13
    (ChangeSpec.witness6 (enc := enc) (C := Try.checked) false ⟨#[], #[.agg #[.slice none 0 0, .slice none 0 0, .slice none 0 0, .slice none 0 0, .slice none 0 0], .int .i64 0], []⟩ 8 (by kernel_rfl) (by kernel_rfl) (by kernel_rfl) (by kernel_rfl)) ?_
  intro W base args ds gs before hval0 hW hcnd _
  have hval : ∀ (j : Nat) t v, Try.f13.params[j]? = some t → args[j]? = some v → Value.okWide Try.prog W .any base t v := hval0
  have hW' := hW
  obtain ⟨p, q, hA0, hV, rfl, hfz, hnd⟩ := hW
  have hA : DataW.TrodAll enc Try.prog W 0 (fun _ => true) true Try.f13.params.toList args.toList ds p := hA0
  rw [Try.params13] at hA hval
  obtain ⟨v0, vs0, d0, ds0, p0, q0, hargs, rfl, rfl, h0, r0⟩ := trodAll_cons hA
  obtain ⟨v1, vs1, d1, ds1, p1, q1, rfl, rfl, rfl, h1, r1⟩ := trodAll_cons r0
  obtain ⟨rfl, rfl, rfl⟩ := trodAll_nil r1
  obtain rfl : args = #[v0, v1] := by cases args; simp_all
  obtain ⟨rfl, rfl⟩ := trodVars_none hV
  obtain ⟨x0, R0⟩ := OpensC.arg opensC_75 h0
  have E0 : DS W (· < W.heap.size) (.agg [.lst 1 x0.texts.length (fun i0 _ => .lst 1 ((x0.texts.getD i0 []).length) (fun i1 _ => .str ((x0.texts.getD i0 []).getD i1 ByteArray.empty))), .lst 1 x0.heard.length (fun i0 _ => .int .i64 (x0.heard.getD i0 0)), .lst 4 x0.line.length (fun i0 j0 => ([.bool ((x0.line.getD i0 (default : GNote)).back), .int .i64 (((x0.line.getD i0 (default : GNote)).what).who), .int .i64 (((x0.line.getD i0 (default : GNote)).what).no), .str (((x0.line.getD i0 (default : GNote)).what).text)] : List AV).getD j0 (.con undef)), .lst 3 x0.log.length (fun i0 j0 => ([.int .i64 ((x0.log.getD i0 (default : GTold)).who), .int .i64 ((x0.log.getD i0 (default : GTold)).no), .str ((x0.log.getD i0 (default : GTold)).text)] : List AV).getD j0 (.con undef)), .lst 1 x0.next.length (fun i0 _ => .int .i64 (x0.next.getD i0 0))]) v0 := DS.agg_of (let ⟨cs, e, _⟩ := okWide_struct Try.underlying75 (hval 0 75 v0 rfl rfl); ⟨cs, e⟩) R0
  obtain ⟨x1, rfl, rfl, rfl, w1⟩ := open_int Try.underlying3 (hval 1 3 v1 rfl rfl) h1
  have E1 : DS W (· < W.heap.size) (.one (.int .i64 x1)) _ := rfl
  clear hA0 hval0
  refine (law_WrittenOf x0 x1 (i64_of_wf w1) W _ _ (fun _ h => h) ⟨_, _, rfl, E0, ⟨_, _, rfl, E1, rfl⟩⟩).mono fun e W' ⟨he, hg⟩ => ?_
  subst he
  exact ⟨_, rfl, law_post hW' rfl laidOut (by kernel_rfl) hg rfl rfl Try.underlying4⟩
/-- The statement. -/
theorem proved_WrittenOf : Rows.FnExactWrittenOfSaid :=
  OpenClaim.holds_of_wide 13 Try.f13 rfl rfl rfl rfl rfl rfl rfl ⟨rfl, rfl, rfl, rfl, rfl⟩ rfl rfl rfl rfl rfl (by kernel_rfl) Try.func13 (by kernel_rfl)
    (of_decide_eq_true (by kernel_rfl)) (by unfold Func.isWrapper; first | (rw [if_pos (by decide +kernel)]; kernel_rfl) | (rw [if_neg (by decide +kernel)]; exact ⟨rfl, rfl⟩))
    (fun os started H enc _ => lifted_WrittenOf os started H enc)
#print axioms proved_WrittenOf
end Go.Proofs.Ytlbnodmebehpiaa
