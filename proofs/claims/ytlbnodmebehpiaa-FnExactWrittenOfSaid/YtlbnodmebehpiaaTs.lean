/-
  The reference's GoodTell.
-/
import Derived.Test.YtlbnodmebehpiaaLb
import Derived.Test.YtlbnodmebehpiaaVl
namespace Go.Proofs.Ytlbnodmebehpiaa
open Go.ChangeShapes Go.WideShapes Go.ChangeAt Go.RowKit Go.BigFrame Go.Deep
set_option linter.unusedVariables false
set_option linter.unusedSimpArgs false
theorem vw_ag_125_3 : aggB Try.prog 125 3 = true := by kernel_rfl
theorem vw_ag_127_4 : aggB Try.prog 127 4 = true := by kernel_rfl
theorem vw_ag_66_5 : aggB Try.prog 66 5 = true := by kernel_rfl
theorem vw_ca_110 : callB Try.prog 110 = true := by kernel_rfl
theorem vw_ca_111 : callB Try.prog 111 = true := by kernel_rfl
theorem vw_ca_112 : callB Try.prog 112 = true := by kernel_rfl
theorem vw_ca_57 : callB Try.prog 57 = true := by kernel_rfl
theorem vw_ca_59 : callB Try.prog 59 = true := by kernel_rfl
theorem vw_el_22_1 : elemB Try.prog 22 1 = true := by kernel_rfl
theorem vw_el_62_1 : elemB Try.prog 62 1 = true := by kernel_rfl
theorem vw_el_63_4 : elemB Try.prog 63 4 = true := by kernel_rfl
theorem vw_el_64_3 : elemB Try.prog 64 3 = true := by kernel_rfl
theorem vw_el_80_1 : elemB Try.prog 80 1 = true := by kernel_rfl
theorem vw_fi_125_0_0 : fieldB Try.prog 125 0 0 = true := by kernel_rfl
theorem vw_fi_125_1_1 : fieldB Try.prog 125 1 1 = true := by kernel_rfl
theorem vw_fi_125_2_2 : fieldB Try.prog 125 2 2 = true := by kernel_rfl
theorem vw_fi_127_0_0 : fieldB Try.prog 127 0 0 = true := by kernel_rfl
theorem vw_fi_127_1_1 : fieldB Try.prog 127 1 1 = true := by kernel_rfl
theorem vw_fi_66_0_0 : fieldB Try.prog 66 0 0 = true := by kernel_rfl
theorem vw_fi_66_1_1 : fieldB Try.prog 66 1 1 = true := by kernel_rfl
theorem vw_fi_66_2_2 : fieldB Try.prog 66 2 2 = true := by kernel_rfl
theorem vw_fi_66_3_3 : fieldB Try.prog 66 3 3 = true := by kernel_rfl
theorem vw_fi_66_4_4 : fieldB Try.prog 66 4 4 = true := by kernel_rfl
theorem vw_pl_22 : plainB Try.prog 22 = true := by kernel_rfl
theorem vw_pl_3 : plainB Try.prog 3 = true := by kernel_rfl
theorem vw_pl_4 : plainB Try.prog 4 = true := by kernel_rfl
theorem vw_pl_62 : plainB Try.prog 62 = true := by kernel_rfl
theorem vw_pl_63 : plainB Try.prog 63 = true := by kernel_rfl
theorem vw_pl_64 : plainB Try.prog 64 = true := by kernel_rfl
theorem vw_pl_80 : plainB Try.prog 80 = true := by kernel_rfl
theorem vw_pl_9 : plainB Try.prog 9 = true := by kernel_rfl
theorem vw_sl_22 : sliceB Try.prog 22 = true := by kernel_rfl
theorem vw_sl_62 : sliceB Try.prog 62 = true := by kernel_rfl
theorem vw_sl_63 : sliceB Try.prog 63 = true := by kernel_rfl
theorem vw_sl_64 : sliceB Try.prog 64 = true := by kernel_rfl
theorem vw_sl_80 : sliceB Try.prog 80 = true := by kernel_rfl
theorem vw_st_9 : stringB Try.prog 9 = true := by kernel_rfl
theorem vw_sz_125_3 : sizeB Try.prog 125 3 = true := by kernel_rfl
theorem vw_sz_127_4 : sizeB Try.prog 127 4 = true := by kernel_rfl
theorem vw_sz_3_1 : sizeB Try.prog 3 1 = true := by kernel_rfl
theorem v_l10Who (t : GTell) (x : Int) : Fn Try.prog 110 [.agg [.lst 1 t.texts.length (fun i0 _ => .lst 1 ((t.texts.getD i0 []).length) (fun i1 _ => .str ((t.texts.getD i0 []).getD i1 ByteArray.empty))), .lst 1 t.heard.length (fun i0 _ => .int .i64 (t.heard.getD i0 0)), .lst 4 t.line.length (fun i0 j0 => ([.bool ((t.line.getD i0 (default : GNote)).back), .int .i64 (((t.line.getD i0 (default : GNote)).what).who), .int .i64 (((t.line.getD i0 (default : GNote)).what).no), .str (((t.line.getD i0 (default : GNote)).what).text)] : List AV).getD j0 (.con undef)), .lst 3 t.log.length (fun i0 j0 => ([.int .i64 ((t.log.getD i0 (default : GTold)).who), .int .i64 ((t.log.getD i0 (default : GTold)).no), .str ((t.log.getD i0 (default : GTold)).text)] : List AV).getD j0 (.con undef)), .lst 1 t.next.length (fun i0 _ => .int .i64 (t.next.getD i0 0))], .one (.int .i64 x)] (.one (.bool (inB 0 ((t.texts.length : Int) - 1) x))) := by
  refine Fn.of_body (fn := Try.f110) Try.func110 rfl (Nat.le_of_ble_eq_true rfl) trivial ?_
  intro w0
  show AW _ 14 _ _ _ _
  refine AW.boundAL (t := 0) (j := 0) rfl rfl fun hx => ?_
  refine AW.seq ?_
  refine AW.region ?_
  refine ARun.box (id := 0) rfl (.tmp rfl) (SV.cells_of (by exact ⟨trivial, trivial, trivial, trivial, trivial, trivial⟩)) ⟨rfl, (by repeat first | exact trivial | refine ⟨by decide, by first | rfl | exact trivial | (intro i j; first | rfl | exact getD_no rfl | (dsimp only; split <;> first | rfl | exact getD_no rfl)), ?_⟩)⟩ rfl rfl rfl (Nat.le_of_ble_eq_true rfl) ?_
  refine ARun.pure (PureOp.assign rfl .bool) rfl rfl (Nat.le_of_ble_eq_true rfl) ?_
  refine ARun.nil ?_
  refine AW.seq ?_
  refine AW.region ?_
  refine ARun.pure (PureOp.move rfl (.tmp rfl)) rfl rfl (Nat.le_of_ble_eq_true rfl) ?_
  refine ARun.pure (PureOp.intOp rfl (.tmp rfl) .int rfl) rfl rfl (Nat.le_of_ble_eq_true rfl) ?_
  refine ARun.pure (PureOp.move rfl (.tmp rfl)) rfl rfl (Nat.le_of_ble_eq_true rfl) ?_
  refine ARun.gpure (want := true) (.tt rfl) (fun hg1 => PureOp.move rfl (.tmp rfl)) rfl rfl (Nat.le_of_ble_eq_true rfl) rfl (Nat.le_of_ble_eq_true rfl) ?_
  refine ARun.gpure (want := true) (.tt rfl) (fun hg2 => PureOp.fieldPtr rfl (.tmp rfl) vw_fi_66_0_0) rfl rfl (Nat.le_of_ble_eq_true rfl) rfl (Nat.le_of_ble_eq_true rfl) ?_
  refine ARun.gpure (want := true) (.tt rfl) (fun hg3 => PureOp.loadPtr rfl (.gtmp rfl hg3) vw_pl_62 rfl rfl (Nat.le_of_ble_eq_true rfl) (Nat.le_of_ble_eq_true rfl)) rfl rfl (Nat.le_of_ble_eq_true rfl) rfl (Nat.le_of_ble_eq_true rfl) ?_
  refine ARun.gpure (want := true) (.tt rfl) (fun hg4 => PureOp.lenLst rfl (.gtmp rfl hg4) vw_sl_62) rfl rfl (Nat.le_of_ble_eq_true rfl) rfl (Nat.le_of_ble_eq_true rfl) ?_
  refine ARun.gpure (want := true) (.tt rfl) (fun hg5 => PureOp.intOp rfl (.gtmp rfl hg5) (.gtmp rfl hg5) rfl) rfl rfl (Nat.le_of_ble_eq_true rfl) rfl (Nat.le_of_ble_eq_true rfl) ?_
  refine ARun.pure (PureOp.pick rfl (.tmp rfl) (fun hp6 => .gtmp rfl hp6) (fun _ => .bool)) rfl rfl (Nat.le_of_ble_eq_true rfl) ?_
  refine ARun.pure (PureOp.assign rfl (.tmp rfl)) rfl rfl (Nat.le_of_ble_eq_true rfl) ?_
  refine ARun.nil ?_
  refine AW.ret (show ResL _ _ [.tmp 4] _ from resB rfl ?_)
  unfold inB
  by_cases h1 : (0 : Int) ≤ x <;> by_cases h2 : x < (t.texts.length : Int) <;> simp only [h1, h2, decide_true, decide_false, cond_true, cond_false, true_and, false_and] <;> first | rfl | (symm; simp only [decide_eq_true_eq, decide_eq_false_iff_not]; omega)

def saidB (t : GTell) (d : GTold) : Bool :=
  cond (cond (cond (inB 0 ((t.texts.length : Int) - 1) d.who) (decide (0 ≤ d.no)) false) (decide (d.no < (((t.texts.getD d.who.toNat []).length : Nat) : Int))) false) (decide (((t.texts.getD d.who.toNat []).getD d.no.toNat ByteArray.empty) = d.text)) false
theorem v_l10Said (t : GTell) (d : GTold) : Fn Try.prog 111 [.agg [.lst 1 t.texts.length (fun i0 _ => .lst 1 ((t.texts.getD i0 []).length) (fun i1 _ => .str ((t.texts.getD i0 []).getD i1 ByteArray.empty))), .lst 1 t.heard.length (fun i0 _ => .int .i64 (t.heard.getD i0 0)), .lst 4 t.line.length (fun i0 j0 => ([.bool ((t.line.getD i0 (default : GNote)).back), .int .i64 (((t.line.getD i0 (default : GNote)).what).who), .int .i64 (((t.line.getD i0 (default : GNote)).what).no), .str (((t.line.getD i0 (default : GNote)).what).text)] : List AV).getD j0 (.con undef)), .lst 3 t.log.length (fun i0 j0 => ([.int .i64 ((t.log.getD i0 (default : GTold)).who), .int .i64 ((t.log.getD i0 (default : GTold)).no), .str ((t.log.getD i0 (default : GTold)).text)] : List AV).getD j0 (.con undef)), .lst 1 t.next.length (fun i0 _ => .int .i64 (t.next.getD i0 0))], .agg [.int .i64 d.who, .int .i64 d.no, .str d.text]] (.one (.bool (saidB t d))) := by
  refine Fn.of_body (fn := Try.f111) Try.func111 rfl (Nat.le_of_ble_eq_true rfl) trivial ?_
  intro w0
  show AW _ 41 _ _ _ _
  refine AW.seq ?_
  refine AW.region ?_
  refine ARun.box (id := 0) rfl (.tmp rfl) (SV.cells_of (by exact ⟨trivial, trivial, trivial, trivial, trivial, trivial⟩)) ⟨rfl, (by repeat first | exact trivial | refine ⟨by decide, by first | rfl | exact trivial | (intro i j; first | rfl | exact getD_no rfl | (dsimp only; split <;> first | rfl | exact getD_no rfl)), ?_⟩)⟩ rfl rfl rfl (Nat.le_of_ble_eq_true rfl) ?_
  refine ARun.box (id := 1) rfl (.tmp rfl) (SV.cells_of (by exact ⟨trivial, trivial, trivial, trivial⟩)) ⟨rfl, (by repeat first | exact trivial | refine ⟨by decide, by first | rfl | exact trivial | (intro i j; first | rfl | exact getD_no rfl | (dsimp only; split <;> first | rfl | exact getD_no rfl)), ?_⟩)⟩ rfl rfl rfl (Nat.le_of_ble_eq_true rfl) ?_
  refine ARun.pure (PureOp.assign rfl .bool) rfl rfl (Nat.le_of_ble_eq_true rfl) ?_
  refine ARun.nil ?_
  refine AW.seq ?_
  refine AW.any (by kernel_rfl) (by kernel_rfl) ?_
  refine AD.pure (PureOp.loadPtrAgg rfl (.tmp rfl) vw_ag_66_5 rfl rfl (Nat.le_of_ble_eq_true rfl) (Nat.le_of_ble_eq_true rfl)) rfl rfl (Nat.le_of_ble_eq_true rfl) ?_
  refine AD.pure (PureOp.fieldPtr rfl (.tmp rfl) vw_fi_125_0_0) rfl rfl (Nat.le_of_ble_eq_true rfl) ?_
  refine AD.pure (PureOp.loadPtr rfl (.tmp rfl) vw_pl_3 rfl rfl (Nat.le_of_ble_eq_true rfl) (Nat.le_of_ble_eq_true rfl)) rfl rfl (Nat.le_of_ble_eq_true rfl) ?_
  refine AD.pure (PureOp.call rfl (v_l10Who t d.who) ⟨⟨_, (.tmp rfl), ⟨.lst, .lst, .lst, .lst, .lst, trivial⟩⟩, ⟨_, (.tmp rfl), .int⟩, trivial⟩ vw_ca_110 trivial) rfl rfl (Nat.le_of_ble_eq_true rfl) ?_
  refine AD.pure (PureOp.move rfl (.tmp rfl)) rfl rfl (Nat.le_of_ble_eq_true rfl) ?_
  refine AD.gpure (want := true) (.tt rfl) (fun hg1 => PureOp.fieldPtr rfl (.tmp rfl) vw_fi_125_1_1) rfl rfl rfl (Nat.le_of_ble_eq_true rfl) ?_
  refine AD.gpure (want := true) (.tt rfl) (fun hg2 => PureOp.loadPtr rfl (.gtmp rfl hg2) vw_pl_3 rfl rfl (Nat.le_of_ble_eq_true rfl) (Nat.le_of_ble_eq_true rfl)) rfl rfl rfl (Nat.le_of_ble_eq_true rfl) ?_
  refine AD.gpure (want := true) (.tt rfl) (fun hg3 => PureOp.intOp rfl (.gtmp rfl hg3) .int rfl) rfl rfl rfl (Nat.le_of_ble_eq_true rfl) ?_
  refine AD.pure (PureOp.pick rfl (.tmp rfl) (fun hp4 => .gtmp rfl hp4) (fun _ => .bool)) rfl rfl (Nat.le_of_ble_eq_true rfl) ?_
  refine AD.pure (PureOp.move rfl (.tmp rfl)) rfl rfl (Nat.le_of_ble_eq_true rfl) ?_
  refine AD.gpure (want := true) (.tt rfl) (fun hg6 => PureOp.fieldPtr rfl (.tmp rfl) vw_fi_125_1_1) rfl rfl rfl (Nat.le_of_ble_eq_true rfl) ?_
  refine AD.gpure (want := true) (.tt rfl) (fun hg7 => PureOp.loadPtr rfl (.gtmp rfl hg7) vw_pl_3 rfl rfl (Nat.le_of_ble_eq_true rfl) (Nat.le_of_ble_eq_true rfl)) rfl rfl rfl (Nat.le_of_ble_eq_true rfl) ?_
  refine AD.gpure (want := true) (.tt rfl) (fun hg8 => PureOp.fieldPtr rfl (.tmp rfl) vw_fi_66_0_0) rfl rfl rfl (Nat.le_of_ble_eq_true rfl) ?_
  refine AD.gpure (want := true) (.tt rfl) (fun hg9 => PureOp.loadPtr rfl (.gtmp rfl hg9) vw_pl_62 rfl rfl (Nat.le_of_ble_eq_true rfl) (Nat.le_of_ble_eq_true rfl)) rfl rfl rfl (Nat.le_of_ble_eq_true rfl) ?_
  refine AD.gpure (want := true) (.tt rfl) (fun hg10 => PureOp.fieldPtr rfl (.tmp rfl) vw_fi_125_0_0) rfl rfl rfl (Nat.le_of_ble_eq_true rfl) ?_
  refine AD.gpure (want := true) (.tt rfl) (fun hg11 => PureOp.loadPtr rfl (.gtmp rfl hg11) vw_pl_3 rfl rfl (Nat.le_of_ble_eq_true rfl) (Nat.le_of_ble_eq_true rfl)) rfl rfl rfl (Nat.le_of_ble_eq_true rfl) ?_
  refine AD.gpure (want := true) (.tt rfl) (fun hg12 => PureOp.indexLst (i := d.who.toNat) rfl (.gtmp rfl hg12) vw_el_62_1 (.gtmp rfl hg12) (by have q := hg12; simp only [Bool.cond_true_left, Bool.cond_false_right, Bool.not_eq_true', Bool.or_eq_false_iff, Bool.not_eq_false', Bool.and_eq_true, Bool.not_not, decide_eq_true_eq, decide_eq_false_iff_not, inB] at q; (try have q' := saidB_who q); omega) (by have q := hg12; simp only [Bool.cond_true_left, Bool.cond_false_right, Bool.not_eq_true', Bool.or_eq_false_iff, Bool.not_eq_false', Bool.and_eq_true, Bool.not_not, decide_eq_true_eq, decide_eq_false_iff_not, inB] at q; (try have q' := saidB_who q); omega)) rfl rfl rfl (Nat.le_of_ble_eq_true rfl) ?_
  refine AD.gpure (want := true) (.tt rfl) (fun hg13 => PureOp.loadRef rfl (.gtmp rfl hg13) vw_pl_80 (Nat.le_of_ble_eq_true rfl)) rfl rfl rfl (Nat.le_of_ble_eq_true rfl) ?_
  refine AD.gpure (want := true) (.tt rfl) (fun hg14 => PureOp.lenLst rfl (.gtmp rfl hg14) vw_sl_80) rfl rfl rfl (Nat.le_of_ble_eq_true rfl) ?_
  refine AD.gpure (want := true) (.tt rfl) (fun hg15 => PureOp.intOp rfl (.gtmp rfl hg15) (.gtmp rfl hg15) rfl) rfl rfl rfl (Nat.le_of_ble_eq_true rfl) ?_
  refine AD.pure (PureOp.pick rfl (.tmp rfl) (fun hp16 => .gtmp rfl hp16) (fun _ => .bool)) rfl rfl (Nat.le_of_ble_eq_true rfl) ?_
  refine AD.pure (PureOp.move rfl (.tmp rfl)) rfl rfl (Nat.le_of_ble_eq_true rfl) ?_
  refine AD.gpure (want := true) (.tt rfl) (fun hg18 => PureOp.fieldPtr rfl (.tmp rfl) vw_fi_66_0_0) rfl rfl rfl (Nat.le_of_ble_eq_true rfl) ?_
  refine AD.gpure (want := true) (.tt rfl) (fun hg19 => PureOp.loadPtr rfl (.gtmp rfl hg19) vw_pl_62 rfl rfl (Nat.le_of_ble_eq_true rfl) (Nat.le_of_ble_eq_true rfl)) rfl rfl rfl (Nat.le_of_ble_eq_true rfl) ?_
  refine AD.gpure (want := true) (.tt rfl) (fun hg20 => PureOp.fieldPtr rfl (.tmp rfl) vw_fi_125_0_0) rfl rfl rfl (Nat.le_of_ble_eq_true rfl) ?_
  refine AD.gpure (want := true) (.tt rfl) (fun hg21 => PureOp.loadPtr rfl (.gtmp rfl hg21) vw_pl_3 rfl rfl (Nat.le_of_ble_eq_true rfl) (Nat.le_of_ble_eq_true rfl)) rfl rfl rfl (Nat.le_of_ble_eq_true rfl) ?_
  refine AD.gpure (want := true) (.tt rfl) (fun hg22 => PureOp.indexLst (i := d.who.toNat) rfl (.gtmp rfl hg22) vw_el_62_1 (.gtmp rfl hg22) (by have q := hg22; simp only [Bool.cond_true_left, Bool.cond_false_right, Bool.not_eq_true', Bool.or_eq_false_iff, Bool.not_eq_false', Bool.and_eq_true, Bool.not_not, decide_eq_true_eq, decide_eq_false_iff_not, inB] at q; (try have q' := saidB_who q); omega) (by have q := hg22; simp only [Bool.cond_true_left, Bool.cond_false_right, Bool.not_eq_true', Bool.or_eq_false_iff, Bool.not_eq_false', Bool.and_eq_true, Bool.not_not, decide_eq_true_eq, decide_eq_false_iff_not, inB] at q; (try have q' := saidB_who q); omega)) rfl rfl rfl (Nat.le_of_ble_eq_true rfl) ?_
  refine AD.gpure (want := true) (.tt rfl) (fun hg23 => PureOp.loadRef rfl (.gtmp rfl hg23) vw_pl_80 (Nat.le_of_ble_eq_true rfl)) rfl rfl rfl (Nat.le_of_ble_eq_true rfl) ?_
  refine AD.gpure (want := true) (.tt rfl) (fun hg24 => PureOp.fieldPtr rfl (.tmp rfl) vw_fi_125_1_1) rfl rfl rfl (Nat.le_of_ble_eq_true rfl) ?_
  refine AD.gpure (want := true) (.tt rfl) (fun hg25 => PureOp.loadPtr rfl (.gtmp rfl hg25) vw_pl_3 rfl rfl (Nat.le_of_ble_eq_true rfl) (Nat.le_of_ble_eq_true rfl)) rfl rfl rfl (Nat.le_of_ble_eq_true rfl) ?_
  refine AD.gpure (want := true) (.tt rfl) (fun hg26 => PureOp.indexLst (i := d.no.toNat) rfl (.gtmp rfl hg26) vw_el_80_1 (.gtmp rfl hg26) (by have q := hg26; simp only [Bool.cond_true_left, Bool.cond_false_right, Bool.not_eq_true', Bool.or_eq_false_iff, Bool.not_eq_false', Bool.and_eq_true, Bool.not_not, decide_eq_true_eq, decide_eq_false_iff_not, inB] at q; (try have q' := saidB_who q); omega) (by have q := hg26; simp only [Bool.cond_true_left, Bool.cond_false_right, Bool.not_eq_true', Bool.or_eq_false_iff, Bool.not_eq_false', Bool.and_eq_true, Bool.not_not, decide_eq_true_eq, decide_eq_false_iff_not, inB] at q; (try have q' := saidB_who q); omega)) rfl rfl rfl (Nat.le_of_ble_eq_true rfl) ?_
  refine AD.gpure (want := true) (.tt rfl) (fun hg27 => PureOp.loadRef rfl (.gtmp rfl hg27) vw_pl_9 (Nat.le_of_ble_eq_true rfl)) rfl rfl rfl (Nat.le_of_ble_eq_true rfl) ?_
  refine AD.gpure (want := true) (.tt rfl) (fun hg28 => PureOp.fieldPtr rfl (.tmp rfl) vw_fi_125_2_2) rfl rfl rfl (Nat.le_of_ble_eq_true rfl) ?_
  refine AD.gpure (want := true) (.tt rfl) (fun hg29 => PureOp.loadPtr rfl (.gtmp rfl hg29) vw_pl_9 rfl rfl (Nat.le_of_ble_eq_true rfl) (Nat.le_of_ble_eq_true rfl)) rfl rfl rfl (Nat.le_of_ble_eq_true rfl) ?_
  refine AD.gpure (want := true) (.tt rfl) (fun hg30 => PureOp.strOp rfl (.gtmp rfl hg30) (.gtmp rfl hg30) rfl) rfl rfl rfl (Nat.le_of_ble_eq_true rfl) ?_
  refine AD.pure (PureOp.pick rfl (.tmp rfl) (fun hp31 => .gtmp rfl hp31) (fun _ => .bool)) rfl rfl (Nat.le_of_ble_eq_true rfl) ?_
  refine AD.pure (PureOp.assign rfl (.tmp rfl)) rfl rfl (Nat.le_of_ble_eq_true rfl) ?_
  refine AD.nil ?_
  refine AW.ret (show ResL _ _ [.tmp 4] _ from resB rfl ?_)
  rfl

def isTextB (t : GTell) (d : GTold) : Bool :=
  cond (inB 0 ((((t.texts.getD d.who.toNat []).length : Nat) : Int) - 1) d.no) (decide (((t.texts.getD d.who.toNat []).getD d.no.toNat ByteArray.empty) = d.text)) false
theorem v_isText (t : GTell) (d : GTold) (hw : 0 ≤ d.who ∧ d.who < (t.texts.length : Int)) (hl : (t.texts.getD (d.who).toNat []).length ≤ 20) : Fn Try.prog 147 [.one (.ref 5 (fun j => ([.lst 1 t.texts.length (fun i0 _ => .lst 1 ((t.texts.getD i0 []).length) (fun i1 _ => .str ((t.texts.getD i0 []).getD i1 ByteArray.empty))), .lst 1 t.heard.length (fun i0 _ => .int .i64 (t.heard.getD i0 0)), .lst 4 t.line.length (fun i0 j0 => ([.bool ((t.line.getD i0 (default : GNote)).back), .int .i64 (((t.line.getD i0 (default : GNote)).what).who), .int .i64 (((t.line.getD i0 (default : GNote)).what).no), .str (((t.line.getD i0 (default : GNote)).what).text)] : List AV).getD j0 (.con undef)), .lst 3 t.log.length (fun i0 j0 => ([.int .i64 ((t.log.getD i0 (default : GTold)).who), .int .i64 ((t.log.getD i0 (default : GTold)).no), .str ((t.log.getD i0 (default : GTold)).text)] : List AV).getD j0 (.con undef)), .lst 1 t.next.length (fun i0 _ => .int .i64 (t.next.getD i0 0))] : List AV).getD j (.con undef))), .agg [.int .i64 d.who, .int .i64 d.no, .str d.text]] (.one (.bool (isTextB t d))) := by
  obtain ⟨hw0, hw1⟩ := hw
  refine Fn.of_body (fn := Try.f147) Try.func147 rfl (Nat.le_of_ble_eq_true rfl) trivial ?_
  intro w0
  show AW _ 30 _ _ _ _
  refine AW.seq ?_
  refine AW.region ?_
  refine ARun.box (id := 0) rfl (.tmp rfl) (SV.cells_of (by exact ⟨trivial, trivial, trivial, trivial⟩)) ⟨rfl, (by repeat first | exact trivial | refine ⟨by decide, by first | rfl | exact trivial | (intro i j; first | rfl | exact getD_no rfl | (dsimp only; split <;> first | rfl | exact getD_no rfl)), ?_⟩)⟩ rfl rfl rfl (Nat.le_of_ble_eq_true rfl) ?_
  refine ARun.pure (PureOp.assign rfl .bool) rfl rfl (Nat.le_of_ble_eq_true rfl) ?_
  refine ARun.nil ?_
  refine AW.seq ?_
  refine AW.any (by kernel_rfl) (by kernel_rfl) ?_
  refine AD.pure (PureOp.move rfl (.tmp rfl)) rfl rfl (Nat.le_of_ble_eq_true rfl) ?_
  refine AD.pure (PureOp.nilRef rfl (.tmp rfl)) rfl rfl (Nat.le_of_ble_eq_true rfl) ?_
  refine AD.pure (PureOp.fieldRef rfl (.tmp rfl) vw_fi_66_0_0 (Nat.le_of_ble_eq_true rfl)) rfl rfl (Nat.le_of_ble_eq_true rfl) ?_
  refine AD.pure (PureOp.loadRef rfl (.tmp rfl) vw_pl_62 (Nat.le_of_ble_eq_true rfl)) rfl rfl (Nat.le_of_ble_eq_true rfl) ?_
  refine AD.pure (PureOp.fieldPtr rfl (.tmp rfl) vw_fi_125_0_0) rfl rfl (Nat.le_of_ble_eq_true rfl) ?_
  refine AD.pure (PureOp.loadPtr rfl (.tmp rfl) vw_pl_3 rfl rfl (Nat.le_of_ble_eq_true rfl) (Nat.le_of_ble_eq_true rfl)) rfl rfl (Nat.le_of_ble_eq_true rfl) ?_
  refine AD.pure (PureOp.indexLst (i := d.who.toNat) rfl (.tmp rfl) vw_el_62_1 (.tmp rfl) (by omega) (by omega)) rfl rfl (Nat.le_of_ble_eq_true rfl) ?_
  refine AD.pure (PureOp.loadRef rfl (.tmp rfl) vw_pl_80 (Nat.le_of_ble_eq_true rfl)) rfl rfl (Nat.le_of_ble_eq_true rfl) ?_
  refine AD.pure (PureOp.assign rfl (.tmp rfl)) rfl rfl (Nat.le_of_ble_eq_true rfl) ?_
  refine AD.nil ?_
  refine AW.seq ?_
  refine AW.any (by kernel_rfl) (by kernel_rfl) ?_
  refine AD.pure (PureOp.fieldPtr rfl (.tmp rfl) vw_fi_125_1_1) rfl rfl (Nat.le_of_ble_eq_true rfl) ?_
  refine AD.pure (PureOp.loadPtr rfl (.tmp rfl) vw_pl_3 rfl rfl (Nat.le_of_ble_eq_true rfl) (Nat.le_of_ble_eq_true rfl)) rfl rfl (Nat.le_of_ble_eq_true rfl) ?_
  refine AD.pure (PureOp.move rfl (.tmp rfl)) rfl rfl (Nat.le_of_ble_eq_true rfl) ?_
  refine AD.pure (PureOp.lenLst rfl (.tmp rfl) vw_sl_80) rfl rfl (Nat.le_of_ble_eq_true rfl) ?_
  refine AD.pure (PureOp.sub (c := (((t.texts.getD d.who.toNat []).length : Nat) : Int) - 1) rfl (.tmp rfl) .int (wrap_id (by omega) (by omega))) rfl rfl (Nat.le_of_ble_eq_true rfl) ?_
  refine AD.pure (PureOp.call rfl (v_within d.no 0 ((((t.texts.getD d.who.toNat []).length : Nat) : Int) - 1)) ⟨⟨_, (.tmp rfl), .int⟩, ⟨_, .int, .int⟩, ⟨_, (.tmp rfl), .int⟩, trivial⟩ vw_ca_59 trivial) rfl rfl (Nat.le_of_ble_eq_true rfl) ?_
  refine AD.pure (PureOp.move rfl (.tmp rfl)) rfl rfl (Nat.le_of_ble_eq_true rfl) ?_
  refine AD.gpure (want := true) (.tt rfl) (fun hg1 => PureOp.move rfl (.tmp rfl)) rfl rfl rfl (Nat.le_of_ble_eq_true rfl) ?_
  refine AD.gpure (want := true) (.tt rfl) (fun hg2 => PureOp.fieldPtr rfl (.tmp rfl) vw_fi_125_1_1) rfl rfl rfl (Nat.le_of_ble_eq_true rfl) ?_
  refine AD.gpure (want := true) (.tt rfl) (fun hg3 => PureOp.loadPtr rfl (.gtmp rfl hg3) vw_pl_3 rfl rfl (Nat.le_of_ble_eq_true rfl) (Nat.le_of_ble_eq_true rfl)) rfl rfl rfl (Nat.le_of_ble_eq_true rfl) ?_
  refine AD.gpure (want := true) (.tt rfl) (fun hg4 => PureOp.indexLst (i := d.no.toNat) rfl (.gtmp rfl hg4) vw_el_80_1 (.gtmp rfl hg4) (by have q := hg4; simp only [Bool.cond_true_left, Bool.cond_false_right, Bool.not_eq_true', Bool.or_eq_false_iff, Bool.not_eq_false', Bool.and_eq_true, Bool.not_not, decide_eq_true_eq, decide_eq_false_iff_not, inB] at q; (try have q' := saidB_who q); omega) (by have q := hg4; simp only [Bool.cond_true_left, Bool.cond_false_right, Bool.not_eq_true', Bool.or_eq_false_iff, Bool.not_eq_false', Bool.and_eq_true, Bool.not_not, decide_eq_true_eq, decide_eq_false_iff_not, inB] at q; (try have q' := saidB_who q); omega)) rfl rfl rfl (Nat.le_of_ble_eq_true rfl) ?_
  refine AD.gpure (want := true) (.tt rfl) (fun hg5 => PureOp.loadRef rfl (.gtmp rfl hg5) vw_pl_9 (Nat.le_of_ble_eq_true rfl)) rfl rfl rfl (Nat.le_of_ble_eq_true rfl) ?_
  refine AD.gpure (want := true) (.tt rfl) (fun hg6 => PureOp.fieldPtr rfl (.tmp rfl) vw_fi_125_2_2) rfl rfl rfl (Nat.le_of_ble_eq_true rfl) ?_
  refine AD.gpure (want := true) (.tt rfl) (fun hg7 => PureOp.loadPtr rfl (.gtmp rfl hg7) vw_pl_9 rfl rfl (Nat.le_of_ble_eq_true rfl) (Nat.le_of_ble_eq_true rfl)) rfl rfl rfl (Nat.le_of_ble_eq_true rfl) ?_
  refine AD.gpure (want := true) (.tt rfl) (fun hg8 => PureOp.strOp rfl (.gtmp rfl hg8) (.gtmp rfl hg8) rfl) rfl rfl rfl (Nat.le_of_ble_eq_true rfl) ?_
  refine AD.pure (PureOp.pick rfl (.tmp rfl) (fun hp9 => .gtmp rfl hp9) (fun _ => .bool)) rfl rfl (Nat.le_of_ble_eq_true rfl) ?_
  refine AD.pure (PureOp.assign rfl (.tmp rfl)) rfl rfl (Nat.le_of_ble_eq_true rfl) ?_
  refine AD.nil ?_
  refine AW.ret (show ResL _ _ [.tmp 4] _ from resB rfl ?_)
  rfl

def sameAt (f g : Nat → Int) (k : Nat) : Bool := decide (f k = g k)
def sameB (a b : Nat) (f g : Nat → Int) : Bool := decide (a = b) && (List.range a).all (sameAt f g)
theorem v_l1Same (a b : Nat) (f g : Nat → Int) : Fn Try.prog 112 [.one (.lst 1 a (fun i _ => .int .i64 (f i))), .one (.lst 1 b (fun i _ => .int .i64 (g i)))] (.one (.bool (sameB a b f g))) := by
  refine Fn.of_body (fn := Try.f112) Try.func112 rfl (Nat.le_of_ble_eq_true rfl) trivial ?_
  intro w0
  show AW _ 26 _ _ _ _
  refine AW.bound (t := 0) rfl fun hx => ?_
  refine AW.bound (t := 1) rfl fun hy => ?_
  refine AW.seq ?_
  refine AW.region ?_
  refine ARun.pure (PureOp.assign rfl .bool) rfl rfl (Nat.le_of_ble_eq_true rfl) ?_
  refine ARun.nil ?_
  refine AW.seq ?_
  refine AW.seq ?_
  refine AW.region ?_
  refine ARun.pure (PureOp.move rfl (.tmp rfl)) rfl rfl (Nat.le_of_ble_eq_true rfl) ?_
  refine ARun.pure (PureOp.lenLst rfl (.tmp rfl) vw_sl_22) rfl rfl (Nat.le_of_ble_eq_true rfl) ?_
  refine ARun.pure (PureOp.move rfl (.tmp rfl)) rfl rfl (Nat.le_of_ble_eq_true rfl) ?_
  refine ARun.pure (PureOp.lenLst rfl (.tmp rfl) vw_sl_22) rfl rfl (Nat.le_of_ble_eq_true rfl) ?_
  refine ARun.pure (PureOp.intOp rfl (.tmp rfl) (.tmp rfl) rfl) rfl rfl (Nat.le_of_ble_eq_true rfl) ?_
  refine ARun.nil ?_
  refine AW.cond (.tmp rfl) (fun hb1 => ?_) (fun hb1 => ?_)
  · have _u := True.intro
    replace hb1 := of_decide_eq_false (of_not hb1)
    refine AW.seq ?_
    refine AW.region ?_
    refine ARun.pure (PureOp.assign rfl .bool) rfl rfl (Nat.le_of_ble_eq_true rfl) ?_
    refine ARun.nil ?_
    refine AW.ret (show ResL _ _ [.tmp 4] _ from resB rfl ?_)
    unfold sameB; rw [decide_eq_false (by omega : ¬ a = b)]; rfl
  · have _u := True.intro
    replace hb1 := of_decide_eq_true (not_f hb1)
    have hab : a = b := by omega
    refine AW.skip ?_
    refine AW.seq ?_
    refine AW.seq ?_
    refine AW.region ?_
    refine ARun.pure (PureOp.move rfl (.tmp rfl)) rfl rfl (Nat.le_of_ble_eq_true rfl) ?_
    refine ARun.pure (PureOp.lenLst rfl (.tmp rfl) vw_sl_22) rfl rfl (Nat.le_of_ble_eq_true rfl) ?_
    refine ARun.pure (PureOp.move rfl .int) rfl rfl (Nat.le_of_ble_eq_true rfl) ?_
    refine ARun.nil ?_
    refine AW.block ?_
    refine AW.loop (ι := Nat) (fun k => ⟨[(0, .one (.lst 1 a (fun i _ => .int .i64 (f i)))), (1, .one (.lst 1 b (fun i _ => .int .i64 (g i)))), (12, .one (.int .i64 (a : Int))), (13, .one (.int .i64 (k : Int)))], []⟩) (fun k => k ≤ a ∧ ∀ j, j < k → sameAt f g j = true) (fun k => a - k) 0 ⟨Nat.zero_le _, fun j hj => absurd hj (by omega)⟩ ⟨⟨⟨_, rfl, rfl⟩, ⟨_, rfl, rfl⟩, ⟨_, rfl, rfl⟩, ⟨_, rfl, rfl⟩, trivial⟩, trivial⟩ ?_
    intro k hI
    obtain ⟨hk, hks⟩ := hI
    refine AW.seq ?_
    refine AW.region ?_
    refine ARun.pure (PureOp.intOp rfl (.tmp rfl) (.tmp rfl) rfl) rfl rfl (Nat.le_of_ble_eq_true rfl) ?_
    refine ARun.nil ?_
    refine AW.seq ?_
    refine AW.cond (.tmp rfl) (fun hb2 => ?_) (fun hb2 => ?_)
    · have _u := True.intro
      replace hb2 := of_decide_eq_true hb2
      have hkl : k < a := by omega
      have hkl2 : k < b := by omega
      refine AW.skip ?_
      refine AW.seq ?_
      refine AW.block ?_
      refine AW.seq ?_
      refine AW.region ?_
      refine ARun.pure (PureOp.move rfl (.tmp rfl)) rfl rfl (Nat.le_of_ble_eq_true rfl) ?_
      refine ARun.pure (PureOp.assign rfl (.tmp rfl)) rfl rfl (Nat.le_of_ble_eq_true rfl) ?_
      refine ARun.nil ?_
      refine AW.seq ?_
      refine AW.any (by kernel_rfl) (by kernel_rfl) ?_
      refine AD.pure (PureOp.move rfl (.tmp rfl)) rfl rfl (Nat.le_of_ble_eq_true rfl) ?_
      refine AD.pure (PureOp.move rfl (.tmp rfl)) rfl rfl (Nat.le_of_ble_eq_true rfl) ?_
      refine AD.pure (PureOp.indexLst (i := k) rfl (.tmp rfl) vw_el_22_1 (.tmp rfl) rfl (by omega)) rfl rfl (Nat.le_of_ble_eq_true rfl) ?_
      refine AD.pure (PureOp.loadRef rfl (.tmp rfl) vw_pl_3 (Nat.le_of_ble_eq_true rfl)) rfl rfl (Nat.le_of_ble_eq_true rfl) ?_
      refine AD.pure (PureOp.move rfl (.tmp rfl)) rfl rfl (Nat.le_of_ble_eq_true rfl) ?_
      refine AD.pure (PureOp.move rfl (.tmp rfl)) rfl rfl (Nat.le_of_ble_eq_true rfl) ?_
      refine AD.pure (PureOp.indexLst (i := k) rfl (.tmp rfl) vw_el_22_1 (.tmp rfl) rfl (by omega)) rfl rfl (Nat.le_of_ble_eq_true rfl) ?_
      refine AD.pure (PureOp.loadRef rfl (.tmp rfl) vw_pl_3 (Nat.le_of_ble_eq_true rfl)) rfl rfl (Nat.le_of_ble_eq_true rfl) ?_
      refine AD.pure (PureOp.intOp rfl (.tmp rfl) (.tmp rfl) rfl) rfl rfl (Nat.le_of_ble_eq_true rfl) ?_
      refine AD.nil ?_
      refine AW.cond (.tmp rfl) (fun hb3 => ?_) (fun hb3 => ?_)
      · have _u := True.intro
        replace hb3 := of_decide_eq_false (of_not hb3)
        refine AW.seq ?_
        refine AW.region ?_
        refine ARun.pure (PureOp.assign rfl .bool) rfl rfl (Nat.le_of_ble_eq_true rfl) ?_
        refine ARun.nil ?_
        refine AW.ret (show ResL _ _ [.tmp 4] _ from resB rfl ?_)
        unfold sameB; rw [rng_no (p := sameAt f g) hkl (decide_eq_false hb3)]; simp
      · have _u := True.intro
        replace hb3 := of_decide_eq_true (not_f hb3)
        have hsm := hb3
        refine AW.skip ?_
        refine AW.region ?_
        refine ARun.pure (PureOp.add (c := ((k + 1 : Nat) : Int)) rfl (.tmp rfl) .int (by rw [wrap_id (by omega) (by omega)]; omega)) rfl rfl (Nat.le_of_ble_eq_true rfl) ?_
        refine ARun.pure (PureOp.move rfl (.tmp rfl)) rfl rfl (Nat.le_of_ble_eq_true rfl) ?_
        refine ARun.nil ?_
        exact ⟨k + 1, ⟨by omega, rng_succ (p := fun j => sameAt f g j = true) hks (show sameAt f g k = true from decide_eq_true hsm)⟩, by dsimp only; omega, ⟨⟨⟨_, rfl, rfl⟩, ⟨_, rfl, rfl⟩, ⟨_, rfl, rfl⟩, ⟨_, rfl, rfl⟩, trivial⟩, trivial⟩⟩
    · have _u := True.intro
      replace hb2 := of_decide_eq_false hb2
      have hkl : ¬ k < a := by omega
      refine AW.exit ?_
      refine AW.seq ?_
      refine AW.region ?_
      refine ARun.pure (PureOp.assign rfl .bool) rfl rfl (Nat.le_of_ble_eq_true rfl) ?_
      refine ARun.nil ?_
      refine AW.ret (show ResL _ _ [.tmp 4] _ from resB rfl ?_)
      unfold sameB; rw [decide_eq_true hab, rng_yes (fun j hj => hks j (by omega))]; rfl

theorem v_Equal (a b : Nat) (f g : Nat → Int) : Fn Try.prog 148 [.one (.lst 1 a (fun i _ => .int .i64 (f i))), .one (.lst 1 b (fun i _ => .int .i64 (g i)))] (.one (.bool (sameB a b f g))) := by
  refine Fn.of_body (fn := Try.f148) Try.func148 rfl (Nat.le_of_ble_eq_true rfl) trivial ?_
  intro w0
  show AW _ 26 _ _ _ _
  refine AW.bound (t := 0) rfl fun hx => ?_
  refine AW.bound (t := 1) rfl fun hy => ?_
  refine AW.seq ?_
  refine AW.region ?_
  refine ARun.pure (PureOp.assign rfl .bool) rfl rfl (Nat.le_of_ble_eq_true rfl) ?_
  refine ARun.nil ?_
  refine AW.seq ?_
  refine AW.seq ?_
  refine AW.region ?_
  refine ARun.pure (PureOp.move rfl (.tmp rfl)) rfl rfl (Nat.le_of_ble_eq_true rfl) ?_
  refine ARun.pure (PureOp.lenLst rfl (.tmp rfl) vw_sl_22) rfl rfl (Nat.le_of_ble_eq_true rfl) ?_
  refine ARun.pure (PureOp.move rfl (.tmp rfl)) rfl rfl (Nat.le_of_ble_eq_true rfl) ?_
  refine ARun.pure (PureOp.lenLst rfl (.tmp rfl) vw_sl_22) rfl rfl (Nat.le_of_ble_eq_true rfl) ?_
  refine ARun.pure (PureOp.intOp rfl (.tmp rfl) (.tmp rfl) rfl) rfl rfl (Nat.le_of_ble_eq_true rfl) ?_
  refine ARun.nil ?_
  refine AW.cond (.tmp rfl) (fun hb1 => ?_) (fun hb1 => ?_)
  · have _u := True.intro
    replace hb1 := of_decide_eq_false (of_not hb1)
    refine AW.seq ?_
    refine AW.region ?_
    refine ARun.pure (PureOp.assign rfl .bool) rfl rfl (Nat.le_of_ble_eq_true rfl) ?_
    refine ARun.nil ?_
    refine AW.ret (show ResL _ _ [.tmp 4] _ from resB rfl ?_)
    unfold sameB; rw [decide_eq_false (by omega : ¬ a = b)]; rfl
  · have _u := True.intro
    replace hb1 := of_decide_eq_true (not_f hb1)
    have hab : a = b := by omega
    refine AW.skip ?_
    refine AW.seq ?_
    refine AW.seq ?_
    refine AW.region ?_
    refine ARun.pure (PureOp.move rfl (.tmp rfl)) rfl rfl (Nat.le_of_ble_eq_true rfl) ?_
    refine ARun.pure (PureOp.lenLst rfl (.tmp rfl) vw_sl_22) rfl rfl (Nat.le_of_ble_eq_true rfl) ?_
    refine ARun.pure (PureOp.move rfl .int) rfl rfl (Nat.le_of_ble_eq_true rfl) ?_
    refine ARun.nil ?_
    refine AW.block ?_
    refine AW.loop (ι := Nat) (fun k => ⟨[(0, .one (.lst 1 a (fun i _ => .int .i64 (f i)))), (1, .one (.lst 1 b (fun i _ => .int .i64 (g i)))), (12, .one (.int .i64 (a : Int))), (13, .one (.int .i64 (k : Int)))], []⟩) (fun k => k ≤ a ∧ ∀ j, j < k → sameAt f g j = true) (fun k => a - k) 0 ⟨Nat.zero_le _, fun j hj => absurd hj (by omega)⟩ ⟨⟨⟨_, rfl, rfl⟩, ⟨_, rfl, rfl⟩, ⟨_, rfl, rfl⟩, ⟨_, rfl, rfl⟩, trivial⟩, trivial⟩ ?_
    intro k hI
    obtain ⟨hk, hks⟩ := hI
    refine AW.seq ?_
    refine AW.region ?_
    refine ARun.pure (PureOp.intOp rfl (.tmp rfl) (.tmp rfl) rfl) rfl rfl (Nat.le_of_ble_eq_true rfl) ?_
    refine ARun.nil ?_
    refine AW.seq ?_
    refine AW.cond (.tmp rfl) (fun hb2 => ?_) (fun hb2 => ?_)
    · have _u := True.intro
      replace hb2 := of_decide_eq_true hb2
      have hkl : k < a := by omega
      have hkl2 : k < b := by omega
      refine AW.skip ?_
      refine AW.seq ?_
      refine AW.block ?_
      refine AW.seq ?_
      refine AW.region ?_
      refine ARun.pure (PureOp.move rfl (.tmp rfl)) rfl rfl (Nat.le_of_ble_eq_true rfl) ?_
      refine ARun.pure (PureOp.assign rfl (.tmp rfl)) rfl rfl (Nat.le_of_ble_eq_true rfl) ?_
      refine ARun.nil ?_
      refine AW.seq ?_
      refine AW.any (by kernel_rfl) (by kernel_rfl) ?_
      refine AD.pure (PureOp.move rfl (.tmp rfl)) rfl rfl (Nat.le_of_ble_eq_true rfl) ?_
      refine AD.pure (PureOp.move rfl (.tmp rfl)) rfl rfl (Nat.le_of_ble_eq_true rfl) ?_
      refine AD.pure (PureOp.indexLst (i := k) rfl (.tmp rfl) vw_el_22_1 (.tmp rfl) rfl (by omega)) rfl rfl (Nat.le_of_ble_eq_true rfl) ?_
      refine AD.pure (PureOp.loadRef rfl (.tmp rfl) vw_pl_3 (Nat.le_of_ble_eq_true rfl)) rfl rfl (Nat.le_of_ble_eq_true rfl) ?_
      refine AD.pure (PureOp.move rfl (.tmp rfl)) rfl rfl (Nat.le_of_ble_eq_true rfl) ?_
      refine AD.pure (PureOp.move rfl (.tmp rfl)) rfl rfl (Nat.le_of_ble_eq_true rfl) ?_
      refine AD.pure (PureOp.indexLst (i := k) rfl (.tmp rfl) vw_el_22_1 (.tmp rfl) rfl (by omega)) rfl rfl (Nat.le_of_ble_eq_true rfl) ?_
      refine AD.pure (PureOp.loadRef rfl (.tmp rfl) vw_pl_3 (Nat.le_of_ble_eq_true rfl)) rfl rfl (Nat.le_of_ble_eq_true rfl) ?_
      refine AD.pure (PureOp.intOp rfl (.tmp rfl) (.tmp rfl) rfl) rfl rfl (Nat.le_of_ble_eq_true rfl) ?_
      refine AD.nil ?_
      refine AW.cond (.tmp rfl) (fun hb3 => ?_) (fun hb3 => ?_)
      · have _u := True.intro
        replace hb3 := of_decide_eq_false (of_not hb3)
        refine AW.seq ?_
        refine AW.region ?_
        refine ARun.pure (PureOp.assign rfl .bool) rfl rfl (Nat.le_of_ble_eq_true rfl) ?_
        refine ARun.nil ?_
        refine AW.ret (show ResL _ _ [.tmp 4] _ from resB rfl ?_)
        unfold sameB; rw [rng_no (p := sameAt f g) hkl (decide_eq_false hb3)]; simp
      · have _u := True.intro
        replace hb3 := of_decide_eq_true (not_f hb3)
        have hsm := hb3
        refine AW.skip ?_
        refine AW.region ?_
        refine ARun.pure (PureOp.add (c := ((k + 1 : Nat) : Int)) rfl (.tmp rfl) .int (by rw [wrap_id (by omega) (by omega)]; omega)) rfl rfl (Nat.le_of_ble_eq_true rfl) ?_
        refine ARun.pure (PureOp.move rfl (.tmp rfl)) rfl rfl (Nat.le_of_ble_eq_true rfl) ?_
        refine ARun.nil ?_
        exact ⟨k + 1, ⟨by omega, rng_succ (p := fun j => sameAt f g j = true) hks (show sameAt f g k = true from decide_eq_true hsm)⟩, by dsimp only; omega, ⟨⟨⟨_, rfl, rfl⟩, ⟨_, rfl, rfl⟩, ⟨_, rfl, rfl⟩, ⟨_, rfl, rfl⟩, trivial⟩, trivial⟩⟩
    · have _u := True.intro
      replace hb2 := of_decide_eq_false hb2
      have hkl : ¬ k < a := by omega
      refine AW.exit ?_
      refine AW.seq ?_
      refine AW.region ?_
      refine ARun.pure (PureOp.assign rfl .bool) rfl rfl (Nat.le_of_ble_eq_true rfl) ?_
      refine ARun.nil ?_
      refine AW.ret (show ResL _ _ [.tmp 4] _ from resB rfl ?_)
      unfold sameB; rw [decide_eq_true hab, rng_yes (fun j hj => hks j (by omega))]; rfl

/-- How many of the first k lines of the log the teller a told. -/
def cnt (t : GTell) : Nat → Nat → Nat
  | 0, _ => 0
  | k + 1, a => cnt t k a + if ((t.log.getD k (default : GTold)).who).toNat = a then 1 else 0
theorem cnt_le (t : GTell) : ∀ k a, cnt t k a ≤ k
  | 0, _ => Nat.le_refl _
  | k + 1, a => by have := cnt_le t k a; unfold cnt; split <;> omega
def longAny (t : GTell) (i : Nat) : Bool := (t.texts.getD i []).any fun s => decide ((20 : Int) < (s.size : Int))
def tellHead (t : GTell) : Bool := inB 1 4 (t.texts.length : Int) && (decide (t.heard.length = t.texts.length) && (decide (t.next.length = t.texts.length) && decide (t.line.length ≤ 30)))
theorem cnt_step (t : GTell) (k a : Nat) {x : Nat} (e : x = ((t.log.getD k (default : GTold)).who).toNat) :
    (if a = x then ([.int .i64 ((cnt t k x + 1 : Nat) : Int)] : List AV).getD 0 (.con undef) else .int .i64 ((cnt t k a : Nat) : Int)) = .int .i64 ((cnt t (k + 1) a : Nat) : Int) := by
  subst e
  by_cases h : a = ((t.log.getD k (default : GTold)).who).toNat
  · rw [if_pos h]; subst h; simp [cnt]
  · rw [if_neg h]; simp only [cnt]; rw [if_neg (Ne.symm h)]; rfl
def textBad (t : GTell) (i : Nat) : Bool :=
  cond (cond (decide (20 < (((t.texts.getD i []).length : Nat) : Int))) true (!(inB 0 (((t.texts.getD i []).length : Nat) : Int) (t.next.getD i 0)))) true (!(inB 0 (t.next.getD i 0) (t.heard.getD i 0)))
def lineBad (t : GTell) (e : Nat) : Bool :=
  cond (cond (!(inB 0 ((t.texts.length : Int) - 1) (((t.line.getD e (default : GNote)).what).who))) true (cond ((t.line.getD e (default : GNote)).back) (cond (!decide (((t.line.getD e (default : GNote)).what).text = ByteArray.empty)) true (!(inB 0 (t.next.getD ((((t.line.getD e (default : GNote)).what).who).toNat) 0) (((t.line.getD e (default : GNote)).what).no)))) false)) true (cond (!((t.line.getD e (default : GNote)).back)) (!(saidB t ((t.line.getD e (default : GNote)).what))) false)
def logBad (t : GTell) (k : Nat) : Bool :=
  cond (!(saidB t (t.log.getD k (default : GTold)))) true (!decide (((cnt t k (((t.log.getD k (default : GTold)).who).toNat) : Nat) : Int) = (t.log.getD k (default : GTold)).no))
def rowBad (t : GTell) (i : Nat) : Bool := longAny t i || textBad t i
def goodTell (t : GTell) : Bool := tellHead t && ((List.range t.texts.length).all (fun j => !rowBad t j) && ((List.range t.line.length).all (fun j => !lineBad t j) && ((List.range t.log.length).all (fun j => !logBad t j) && sameB t.texts.length t.next.length (fun a => ((cnt t t.log.length a : Nat) : Int)) (fun i => t.next.getD i 0))))
theorem rowBad_len {t : GTell} {i : Nat} (h : rowBad t i = false) : (t.texts.getD i []).length ≤ 20 := by
  unfold rowBad textBad at h
  simp only [Bool.cond_true_left, Bool.or_eq_false_iff, decide_eq_false_iff_not] at h
  omega
theorem saidB_who {t : GTell} {d : GTold} (h : saidB t d = true) : 0 ≤ d.who ∧ d.who < (t.texts.length : Int) := by
  unfold saidB at h
  simp only [Bool.cond_false_right, Bool.and_eq_true] at h
  have := inB_true h.1.1.1
  omega
theorem logBad_who {t : GTell} {k : Nat} (h : logBad t k = false) : 0 ≤ (t.log.getD k (default : GTold)).who ∧ (t.log.getD k (default : GTold)).who < (t.texts.length : Int) := by
  unfold logBad at h
  simp only [Bool.cond_true_left, Bool.or_eq_false_iff, Bool.not_eq_false'] at h
  exact saidB_who h.1
theorem v_specGoodTell (t : GTell) : Fn Try.prog 49 [.agg [.lst 1 t.texts.length (fun i0 _ => .lst 1 ((t.texts.getD i0 []).length) (fun i1 _ => .str ((t.texts.getD i0 []).getD i1 ByteArray.empty))), .lst 1 t.heard.length (fun i0 _ => .int .i64 (t.heard.getD i0 0)), .lst 4 t.line.length (fun i0 j0 => ([.bool ((t.line.getD i0 (default : GNote)).back), .int .i64 (((t.line.getD i0 (default : GNote)).what).who), .int .i64 (((t.line.getD i0 (default : GNote)).what).no), .str (((t.line.getD i0 (default : GNote)).what).text)] : List AV).getD j0 (.con undef)), .lst 3 t.log.length (fun i0 j0 => ([.int .i64 ((t.log.getD i0 (default : GTold)).who), .int .i64 ((t.log.getD i0 (default : GTold)).no), .str ((t.log.getD i0 (default : GTold)).text)] : List AV).getD j0 (.con undef)), .lst 1 t.next.length (fun i0 _ => .int .i64 (t.next.getD i0 0))]] (.one (.bool (goodTell t))) := by
  refine Fn.of_body (fn := Try.f49) Try.func49 rfl (Nat.le_of_ble_eq_true rfl) trivial ?_
  intro w0
  show AW _ 171 _ _ _ _
  refine AW.seq ?_
  refine AW.region ?_
  refine ARun.box (id := 0) rfl (.tmp rfl) (SV.cells_of (by exact ⟨trivial, trivial, trivial, trivial, trivial, trivial⟩)) ⟨rfl, (by repeat first | exact trivial | refine ⟨by decide, by first | rfl | exact trivial | (intro i j; first | rfl | exact getD_no rfl | (dsimp only; split <;> first | rfl | exact getD_no rfl)), ?_⟩)⟩ rfl rfl rfl (Nat.le_of_ble_eq_true rfl) ?_
  refine ARun.pure (PureOp.assign rfl .bool) rfl rfl (Nat.le_of_ble_eq_true rfl) ?_
  refine ARun.nil ?_
  refine AW.seq ?_
  refine AW.region ?_
  refine ARun.pure (PureOp.fieldPtr rfl (.tmp rfl) vw_fi_66_0_0) rfl rfl (Nat.le_of_ble_eq_true rfl) ?_
  refine ARun.pure (PureOp.loadPtr rfl (.tmp rfl) vw_pl_62 rfl rfl (Nat.le_of_ble_eq_true rfl) (Nat.le_of_ble_eq_true rfl)) rfl rfl (Nat.le_of_ble_eq_true rfl) ?_
  refine ARun.pure (PureOp.lenLst rfl (.tmp rfl) vw_sl_62) rfl rfl (Nat.le_of_ble_eq_true rfl) ?_
  refine ARun.pure (PureOp.assign rfl (.tmp rfl)) rfl rfl (Nat.le_of_ble_eq_true rfl) ?_
  refine ARun.nil ?_
  refine AW.seq ?_
  refine AW.seq ?_
  refine AW.region ?_
  refine ARun.pure (PureOp.move rfl (.tmp rfl)) rfl rfl (Nat.le_of_ble_eq_true rfl) ?_
  refine ARun.pure (PureOp.call rfl (v_l1In (t.texts.length : Int) 1 4) ⟨⟨_, (.tmp rfl), .int⟩, ⟨_, .int, .int⟩, ⟨_, .int, .int⟩, trivial⟩ vw_ca_57 trivial) rfl rfl (Nat.le_of_ble_eq_true rfl) ?_
  refine ARun.pure (PureOp.not rfl (.tmp rfl)) rfl rfl (Nat.le_of_ble_eq_true rfl) ?_
  refine ARun.pure (PureOp.move rfl (.tmp rfl)) rfl rfl (Nat.le_of_ble_eq_true rfl) ?_
  refine ARun.gpure (want := false) (.tf rfl) (fun hg1 => PureOp.fieldPtr rfl (.tmp rfl) vw_fi_66_1_1) rfl rfl (Nat.le_of_ble_eq_true rfl) rfl (Nat.le_of_ble_eq_true rfl) ?_
  refine ARun.gpure (want := false) (.tf rfl) (fun hg2 => PureOp.loadPtr rfl (.gtmp rfl hg2) vw_pl_22 rfl rfl (Nat.le_of_ble_eq_true rfl) (Nat.le_of_ble_eq_true rfl)) rfl rfl (Nat.le_of_ble_eq_true rfl) rfl (Nat.le_of_ble_eq_true rfl) ?_
  refine ARun.gpure (want := false) (.tf rfl) (fun hg3 => PureOp.lenLst rfl (.gtmp rfl hg3) vw_sl_22) rfl rfl (Nat.le_of_ble_eq_true rfl) rfl (Nat.le_of_ble_eq_true rfl) ?_
  refine ARun.gpure (want := false) (.tf rfl) (fun hg4 => PureOp.move rfl (.tmp rfl)) rfl rfl (Nat.le_of_ble_eq_true rfl) rfl (Nat.le_of_ble_eq_true rfl) ?_
  refine ARun.gpure (want := false) (.tf rfl) (fun hg5 => PureOp.intOp rfl (.gtmp rfl hg5) (.gtmp rfl hg5) rfl) rfl rfl (Nat.le_of_ble_eq_true rfl) rfl (Nat.le_of_ble_eq_true rfl) ?_
  refine ARun.pure (PureOp.pick rfl (.tmp rfl) (fun _ => .bool) (fun hp7 => .gtmp rfl (not_of hp7))) rfl rfl (Nat.le_of_ble_eq_true rfl) ?_
  refine ARun.pure (PureOp.move rfl (.tmp rfl)) rfl rfl (Nat.le_of_ble_eq_true rfl) ?_
  refine ARun.gpure (want := false) (.tf rfl) (fun hg8 => PureOp.fieldPtr rfl (.tmp rfl) vw_fi_66_4_4) rfl rfl (Nat.le_of_ble_eq_true rfl) rfl (Nat.le_of_ble_eq_true rfl) ?_
  refine ARun.gpure (want := false) (.tf rfl) (fun hg9 => PureOp.loadPtr rfl (.gtmp rfl hg9) vw_pl_22 rfl rfl (Nat.le_of_ble_eq_true rfl) (Nat.le_of_ble_eq_true rfl)) rfl rfl (Nat.le_of_ble_eq_true rfl) rfl (Nat.le_of_ble_eq_true rfl) ?_
  refine ARun.gpure (want := false) (.tf rfl) (fun hg10 => PureOp.lenLst rfl (.gtmp rfl hg10) vw_sl_22) rfl rfl (Nat.le_of_ble_eq_true rfl) rfl (Nat.le_of_ble_eq_true rfl) ?_
  refine ARun.gpure (want := false) (.tf rfl) (fun hg11 => PureOp.move rfl (.tmp rfl)) rfl rfl (Nat.le_of_ble_eq_true rfl) rfl (Nat.le_of_ble_eq_true rfl) ?_
  refine ARun.gpure (want := false) (.tf rfl) (fun hg12 => PureOp.intOp rfl (.gtmp rfl hg12) (.gtmp rfl hg12) rfl) rfl rfl (Nat.le_of_ble_eq_true rfl) rfl (Nat.le_of_ble_eq_true rfl) ?_
  refine ARun.pure (PureOp.pick rfl (.tmp rfl) (fun _ => .bool) (fun hp14 => .gtmp rfl (not_of hp14))) rfl rfl (Nat.le_of_ble_eq_true rfl) ?_
  refine ARun.pure (PureOp.move rfl (.tmp rfl)) rfl rfl (Nat.le_of_ble_eq_true rfl) ?_
  refine ARun.gpure (want := false) (.tf rfl) (fun hg15 => PureOp.fieldPtr rfl (.tmp rfl) vw_fi_66_2_2) rfl rfl (Nat.le_of_ble_eq_true rfl) rfl (Nat.le_of_ble_eq_true rfl) ?_
  refine ARun.gpure (want := false) (.tf rfl) (fun hg16 => PureOp.loadPtr rfl (.gtmp rfl hg16) vw_pl_63 rfl rfl (Nat.le_of_ble_eq_true rfl) (Nat.le_of_ble_eq_true rfl)) rfl rfl (Nat.le_of_ble_eq_true rfl) rfl (Nat.le_of_ble_eq_true rfl) ?_
  refine ARun.gpure (want := false) (.tf rfl) (fun hg17 => PureOp.lenLst rfl (.gtmp rfl hg17) vw_sl_63) rfl rfl (Nat.le_of_ble_eq_true rfl) rfl (Nat.le_of_ble_eq_true rfl) ?_
  refine ARun.gpure (want := false) (.tf rfl) (fun hg18 => PureOp.intOp rfl (.gtmp rfl hg18) .int rfl) rfl rfl (Nat.le_of_ble_eq_true rfl) rfl (Nat.le_of_ble_eq_true rfl) ?_
  refine ARun.pure (PureOp.pick rfl (.tmp rfl) (fun _ => .bool) (fun hp20 => .gtmp rfl (not_of hp20))) rfl rfl (Nat.le_of_ble_eq_true rfl) ?_
  refine ARun.nil ?_
  refine AW.cond (.tmp rfl) (fun hb21 => ?_) (fun hb21 => ?_)
  · have _u := True.intro
    refine AW.seq ?_
    refine AW.region ?_
    refine ARun.pure (PureOp.assign rfl .bool) rfl rfl (Nat.le_of_ble_eq_true rfl) ?_
    refine ARun.nil ?_
    refine AW.ret (show ResL _ _ [.tmp 2] _ from resB rfl ?_)
    have hf : tellHead t = false := by
      rw [← Bool.not_eq_true]
      intro hh
      simp only [tellHead, Bool.and_eq_true, decide_eq_true_eq] at hh
      obtain ⟨g0, g1, g2, g3⟩ := hh
      rw [g0] at hb21
      simp only [Bool.cond_true_left, Bool.or_eq_true, Bool.not_eq_true', decide_eq_true_eq, decide_eq_false_iff_not] at hb21
      simp only [Bool.true_eq_false, false_or, or_false] at hb21
      omega
    unfold goodTell; rw [hf]; rfl
  · have _u := True.intro
    simp only [Bool.cond_true_left, Bool.or_eq_false_iff, Bool.not_eq_false', decide_eq_true_eq, decide_eq_false_iff_not] at hb21
    obtain ⟨⟨⟨q0, q1⟩, q2⟩, q3⟩ := hb21
    have hn4 : t.texts.length ≤ 4 := by have := (inB_true q0).2; omega
    have q1' : t.heard.length = t.texts.length := by omega
    have q2' : t.next.length = t.texts.length := by omega
    have q3' : t.line.length ≤ 30 := by omega
    have hH : tellHead t = true := by
      simp only [tellHead, Bool.and_eq_true, decide_eq_true_eq]
      exact ⟨q0, q1', q2', q3'⟩
    clear q0 q1 q2 q3
    refine AW.skip ?_
    refine AW.seq ?_
    refine AW.seq ?_
    refine AW.region ?_
    refine ARun.pure (PureOp.fieldPtr rfl (.tmp rfl) vw_fi_66_0_0) rfl rfl (Nat.le_of_ble_eq_true rfl) ?_
    refine ARun.pure (PureOp.loadPtr rfl (.tmp rfl) vw_pl_62 rfl rfl (Nat.le_of_ble_eq_true rfl) (Nat.le_of_ble_eq_true rfl)) rfl rfl (Nat.le_of_ble_eq_true rfl) ?_
    refine ARun.pure (PureOp.lenLst rfl (.tmp rfl) vw_sl_62) rfl rfl (Nat.le_of_ble_eq_true rfl) ?_
    refine ARun.pure (PureOp.move rfl .int) rfl rfl (Nat.le_of_ble_eq_true rfl) ?_
    refine ARun.nil ?_
    refine AW.block ?_
    refine AW.loop (ι := Nat) (fun i => ⟨[(1, .one (.ptr 0 5 0 0)), (3, .one (.int .i64 (t.texts.length : Int))), (40, .one (.lst 1 t.texts.length (fun i0 _ => .lst 1 ((t.texts.getD i0 []).length) (fun i1 _ => .str ((t.texts.getD i0 []).getD i1 ByteArray.empty))))), (41, .one (.int .i64 (t.texts.length : Int))), (42, .one (.int .i64 (i : Int)))], [(0, .cells [.lst 1 t.texts.length (fun i0 _ => .lst 1 ((t.texts.getD i0 []).length) (fun i1 _ => .str ((t.texts.getD i0 []).getD i1 ByteArray.empty))), .lst 1 t.heard.length (fun i0 _ => .int .i64 (t.heard.getD i0 0)), .lst 4 t.line.length (fun i0 j0 => ([.bool ((t.line.getD i0 (default : GNote)).back), .int .i64 (((t.line.getD i0 (default : GNote)).what).who), .int .i64 (((t.line.getD i0 (default : GNote)).what).no), .str (((t.line.getD i0 (default : GNote)).what).text)] : List AV).getD j0 (.con undef)), .lst 3 t.log.length (fun i0 j0 => ([.int .i64 ((t.log.getD i0 (default : GTold)).who), .int .i64 ((t.log.getD i0 (default : GTold)).no), .str ((t.log.getD i0 (default : GTold)).text)] : List AV).getD j0 (.con undef)), .lst 1 t.next.length (fun i0 _ => .int .i64 (t.next.getD i0 0))])]⟩) (fun i => i ≤ t.texts.length ∧ ∀ j, j < i → rowBad t j = false) (fun i => t.texts.length - i) 0 ⟨Nat.zero_le _, fun j hj => absurd hj (by omega)⟩ ⟨⟨⟨_, rfl, rfl⟩, ⟨_, rfl, rfl⟩, ⟨_, rfl, rfl⟩, ⟨_, rfl, rfl⟩, ⟨_, rfl, rfl⟩, trivial⟩, HeapLe.one rfl trivial⟩ ?_
    intro i hI
    obtain ⟨hi, his⟩ := hI
    refine AW.seq ?_
    refine AW.region ?_
    refine ARun.pure (PureOp.intOp rfl (.tmp rfl) (.tmp rfl) rfl) rfl rfl (Nat.le_of_ble_eq_true rfl) ?_
    refine ARun.nil ?_
    refine AW.seq ?_
    refine AW.cond (.tmp rfl) (fun hb22 => ?_) (fun hb22 => ?_)
    · have _u := True.intro
      replace hb22 := of_decide_eq_true hb22
      have hil : i < t.texts.length := by omega
      refine AW.skip ?_
      refine AW.seq ?_
      refine AW.block ?_
      refine AW.seq ?_
      refine AW.region ?_
      refine ARun.pure (PureOp.move rfl (.tmp rfl)) rfl rfl (Nat.le_of_ble_eq_true rfl) ?_
      refine ARun.pure (PureOp.indexLst (i := i) rfl (.tmp rfl) vw_el_62_1 (.tmp rfl) rfl (by omega)) rfl rfl (Nat.le_of_ble_eq_true rfl) ?_
      refine ARun.pure (PureOp.loadRef rfl (.tmp rfl) vw_pl_80 (Nat.le_of_ble_eq_true rfl)) rfl rfl (Nat.le_of_ble_eq_true rfl) ?_
      refine ARun.pure (PureOp.assign rfl (.tmp rfl)) rfl rfl (Nat.le_of_ble_eq_true rfl) ?_
      refine ARun.pure (PureOp.assign rfl (.tmp rfl)) rfl rfl (Nat.le_of_ble_eq_true rfl) ?_
      refine ARun.nil ?_
      refine AW.seq ?_
      refine AW.seq ?_
      refine AW.region ?_
      refine ARun.pure (PureOp.move rfl (.tmp rfl)) rfl rfl (Nat.le_of_ble_eq_true rfl) ?_
      refine ARun.pure (PureOp.lenLst rfl (.tmp rfl) vw_sl_80) rfl rfl (Nat.le_of_ble_eq_true rfl) ?_
      refine ARun.pure (PureOp.move rfl .int) rfl rfl (Nat.le_of_ble_eq_true rfl) ?_
      refine ARun.nil ?_
      refine AW.block ?_
      refine AW.loop (ι := Nat) (fun m => ⟨[(1, .one (.ptr 0 5 0 0)), (3, .one (.int .i64 (t.texts.length : Int))), (4, .one (.int .i64 (i : Int))), (5, .one (.lst 1 ((t.texts.getD i []).length) (fun i0 _ => .str ((t.texts.getD i []).getD i0 ByteArray.empty)))), (40, .one (.lst 1 t.texts.length (fun i0 _ => .lst 1 ((t.texts.getD i0 []).length) (fun i1 _ => .str ((t.texts.getD i0 []).getD i1 ByteArray.empty))))), (41, .one (.int .i64 (t.texts.length : Int))), (42, .one (.int .i64 (i : Int))), (47, .one (.lst 1 ((t.texts.getD i []).length) (fun i0 _ => .str ((t.texts.getD i []).getD i0 ByteArray.empty)))), (48, .one (.int .i64 (((t.texts.getD i []).length : Nat) : Int))), (49, .one (.int .i64 (m : Int)))], [(0, .cells [.lst 1 t.texts.length (fun i0 _ => .lst 1 ((t.texts.getD i0 []).length) (fun i1 _ => .str ((t.texts.getD i0 []).getD i1 ByteArray.empty))), .lst 1 t.heard.length (fun i0 _ => .int .i64 (t.heard.getD i0 0)), .lst 4 t.line.length (fun i0 j0 => ([.bool ((t.line.getD i0 (default : GNote)).back), .int .i64 (((t.line.getD i0 (default : GNote)).what).who), .int .i64 (((t.line.getD i0 (default : GNote)).what).no), .str (((t.line.getD i0 (default : GNote)).what).text)] : List AV).getD j0 (.con undef)), .lst 3 t.log.length (fun i0 j0 => ([.int .i64 ((t.log.getD i0 (default : GTold)).who), .int .i64 ((t.log.getD i0 (default : GTold)).no), .str ((t.log.getD i0 (default : GTold)).text)] : List AV).getD j0 (.con undef)), .lst 1 t.next.length (fun i0 _ => .int .i64 (t.next.getD i0 0))])]⟩) (fun m => m ≤ (t.texts.getD i []).length ∧ ∀ j, j < m → decide ((20 : Int) < (((t.texts.getD i []).getD j ByteArray.empty).size : Int)) = false) (fun m => (t.texts.getD i []).length - m) 0 ⟨Nat.zero_le _, fun j hj => absurd hj (by omega)⟩ ⟨⟨⟨_, rfl, rfl⟩, ⟨_, rfl, rfl⟩, ⟨_, rfl, rfl⟩, ⟨_, rfl, rfl⟩, ⟨_, rfl, rfl⟩, ⟨_, rfl, rfl⟩, ⟨_, rfl, rfl⟩, ⟨_, rfl, rfl⟩, ⟨_, rfl, rfl⟩, ⟨_, rfl, rfl⟩, trivial⟩, HeapLe.one rfl trivial⟩ ?_
      intro m hI
      obtain ⟨hm, hms⟩ := hI
      refine AW.bound (t := 47) rfl fun hmb => ?_
      refine AW.seq ?_
      refine AW.region ?_
      refine ARun.pure (PureOp.intOp rfl (.tmp rfl) (.tmp rfl) rfl) rfl rfl (Nat.le_of_ble_eq_true rfl) ?_
      refine ARun.nil ?_
      refine AW.seq ?_
      refine AW.cond (.tmp rfl) (fun hb23 => ?_) (fun hb23 => ?_)
      · have _u := True.intro
        replace hb23 := of_decide_eq_true hb23
        have hml : m < (t.texts.getD i []).length := by omega
        refine AW.skip ?_
        refine AW.seq ?_
        refine AW.block ?_
        refine AW.seq ?_
        refine AW.region ?_
        refine ARun.pure (PureOp.indexLst (i := m) rfl (.tmp rfl) vw_el_80_1 (.tmp rfl) rfl (by omega)) rfl rfl (Nat.le_of_ble_eq_true rfl) ?_
        refine ARun.pure (PureOp.loadRef rfl (.tmp rfl) vw_pl_9 (Nat.le_of_ble_eq_true rfl)) rfl rfl (Nat.le_of_ble_eq_true rfl) ?_
        refine ARun.pure (PureOp.assign rfl (.tmp rfl)) rfl rfl (Nat.le_of_ble_eq_true rfl) ?_
        refine ARun.nil ?_
        refine AW.seq ?_
        refine AW.region ?_
        refine ARun.pure (PureOp.move rfl (.tmp rfl)) rfl rfl (Nat.le_of_ble_eq_true rfl) ?_
        refine ARun.pure (PureOp.lenStr rfl (.tmp rfl) vw_st_9) rfl rfl (Nat.le_of_ble_eq_true rfl) ?_
        refine ARun.pure (PureOp.intOp rfl (.tmp rfl) .int rfl) rfl rfl (Nat.le_of_ble_eq_true rfl) ?_
        refine ARun.nil ?_
        refine AW.cond (.tmp rfl) (fun hb24 => ?_) (fun hb24 => ?_)
        · have _u := True.intro
          refine AW.seq ?_
          refine AW.region ?_
          refine ARun.pure (PureOp.assign rfl .bool) rfl rfl (Nat.le_of_ble_eq_true rfl) ?_
          refine ARun.nil ?_
          refine AW.ret (show ResL _ _ [.tmp 2] _ from resB rfl ?_)
          have hlo : longAny t i = true := by
            unfold longAny; rw [any_rng ByteArray.empty, rng_no hml (by rw [hb24]; rfl)]; rfl
          have hN : (List.range t.texts.length).all (fun j => !rowBad t j) = false := rng_no hil (by rw [(show rowBad t i = true by unfold rowBad; rw [hlo]; rfl)]; rfl)
          unfold goodTell; rw [hN]; simp only [Bool.and_false, Bool.false_and]
        · have _u := True.intro
          have hst := hb24
          refine AW.skip ?_
          refine AW.region ?_
          refine ARun.pure (PureOp.add (c := ((m + 1 : Nat) : Int)) rfl (.tmp rfl) .int (by rw [wrap_id (by omega) (by omega)]; omega)) rfl rfl (Nat.le_of_ble_eq_true rfl) ?_
          refine ARun.pure (PureOp.move rfl (.tmp rfl)) rfl rfl (Nat.le_of_ble_eq_true rfl) ?_
          refine ARun.nil ?_
          exact ⟨m + 1, ⟨by omega, rng_succ (p := fun j => decide ((20 : Int) < (((t.texts.getD i []).getD j ByteArray.empty).size : Int)) = false) hms hst⟩, by dsimp only; omega, ⟨⟨⟨_, rfl, rfl⟩, ⟨_, rfl, rfl⟩, ⟨_, rfl, rfl⟩, ⟨_, rfl, rfl⟩, ⟨_, rfl, rfl⟩, ⟨_, rfl, rfl⟩, ⟨_, rfl, rfl⟩, ⟨_, rfl, rfl⟩, ⟨_, rfl, rfl⟩, ⟨_, rfl, rfl⟩, trivial⟩, HeapLe.one rfl trivial⟩⟩
      · have _u := True.intro
        replace hb23 := of_decide_eq_false hb23
        have hml : ¬ m < (t.texts.getD i []).length := by omega
        have hlo : longAny t i = false := by
          unfold longAny; rw [any_rng ByteArray.empty, rng_yes (fun j hj => by rw [hms j (by omega)]; rfl)]; rfl
        refine AW.exit ?_
        refine AW.seq ?_
        refine AW.any (by kernel_rfl) (by kernel_rfl) ?_
        refine AD.pure (PureOp.move rfl (.tmp rfl)) rfl rfl (Nat.le_of_ble_eq_true rfl) ?_
        refine AD.pure (PureOp.lenLst rfl (.tmp rfl) vw_sl_80) rfl rfl (Nat.le_of_ble_eq_true rfl) ?_
        refine AD.pure (PureOp.intOp rfl (.tmp rfl) .int rfl) rfl rfl (Nat.le_of_ble_eq_true rfl) ?_
        refine AD.pure (PureOp.move rfl (.tmp rfl)) rfl rfl (Nat.le_of_ble_eq_true rfl) ?_
        refine AD.gpure (want := false) (.tf rfl) (fun hg25 => PureOp.fieldPtr rfl (.tmp rfl) vw_fi_66_4_4) rfl rfl rfl (Nat.le_of_ble_eq_true rfl) ?_
        refine AD.gpure (want := false) (.tf rfl) (fun hg26 => PureOp.loadPtr rfl (.gtmp rfl hg26) vw_pl_22 rfl rfl (Nat.le_of_ble_eq_true rfl) (Nat.le_of_ble_eq_true rfl)) rfl rfl rfl (Nat.le_of_ble_eq_true rfl) ?_
        refine AD.gpure (want := false) (.tf rfl) (fun hg27 => PureOp.move rfl (.tmp rfl)) rfl rfl rfl (Nat.le_of_ble_eq_true rfl) ?_
        refine AD.gpure (want := false) (.tf rfl) (fun hg28 => PureOp.indexLst (i := i) rfl (.gtmp rfl hg28) vw_el_22_1 (.gtmp rfl hg28) rfl (by have q := hg28; simp only [Bool.cond_true_left, Bool.cond_false_right, Bool.not_eq_true', Bool.or_eq_false_iff, Bool.not_eq_false', Bool.and_eq_true, Bool.not_not, decide_eq_true_eq, decide_eq_false_iff_not, inB] at q; (try have q' := saidB_who q); first | omega | (simp only [List.getD_eq_getElem?_getD] at *; omega))) rfl rfl rfl (Nat.le_of_ble_eq_true rfl) ?_
        refine AD.gpure (want := false) (.tf rfl) (fun hg29 => PureOp.loadRef rfl (.gtmp rfl hg29) vw_pl_3 (Nat.le_of_ble_eq_true rfl)) rfl rfl rfl (Nat.le_of_ble_eq_true rfl) ?_
        refine AD.gpure (want := false) (.tf rfl) (fun hg30 => PureOp.move rfl (.tmp rfl)) rfl rfl rfl (Nat.le_of_ble_eq_true rfl) ?_
        refine AD.gpure (want := false) (.tf rfl) (fun hg31 => PureOp.lenLst rfl (.gtmp rfl hg31) vw_sl_80) rfl rfl rfl (Nat.le_of_ble_eq_true rfl) ?_
        refine AD.gpure (want := false) (.tf rfl) (fun hg32 => PureOp.call rfl (v_l1In (t.next.getD i 0) 0 (((t.texts.getD i []).length : Nat) : Int)) ⟨⟨_, (.gtmp rfl hg32), .int⟩, ⟨_, .int, .int⟩, ⟨_, (.gtmp rfl hg32), .int⟩, trivial⟩ vw_ca_57 trivial) rfl rfl rfl (Nat.le_of_ble_eq_true rfl) ?_
        refine AD.gpure (want := false) (.tf rfl) (fun hg33 => PureOp.not rfl (.gtmp rfl hg33)) rfl rfl rfl (Nat.le_of_ble_eq_true rfl) ?_
        refine AD.pure (PureOp.pick rfl (.tmp rfl) (fun _ => .bool) (fun hp35 => .gtmp rfl (not_of hp35))) rfl rfl (Nat.le_of_ble_eq_true rfl) ?_
        refine AD.pure (PureOp.move rfl (.tmp rfl)) rfl rfl (Nat.le_of_ble_eq_true rfl) ?_
        refine AD.gpure (want := false) (.tf rfl) (fun hg36 => PureOp.fieldPtr rfl (.tmp rfl) vw_fi_66_1_1) rfl rfl rfl (Nat.le_of_ble_eq_true rfl) ?_
        refine AD.gpure (want := false) (.tf rfl) (fun hg37 => PureOp.loadPtr rfl (.gtmp rfl hg37) vw_pl_22 rfl rfl (Nat.le_of_ble_eq_true rfl) (Nat.le_of_ble_eq_true rfl)) rfl rfl rfl (Nat.le_of_ble_eq_true rfl) ?_
        refine AD.gpure (want := false) (.tf rfl) (fun hg38 => PureOp.move rfl (.tmp rfl)) rfl rfl rfl (Nat.le_of_ble_eq_true rfl) ?_
        refine AD.gpure (want := false) (.tf rfl) (fun hg39 => PureOp.indexLst (i := i) rfl (.gtmp rfl hg39) vw_el_22_1 (.gtmp rfl hg39) rfl (by have q := hg39; simp only [Bool.cond_true_left, Bool.cond_false_right, Bool.not_eq_true', Bool.or_eq_false_iff, Bool.not_eq_false', Bool.and_eq_true, Bool.not_not, decide_eq_true_eq, decide_eq_false_iff_not, inB] at q; (try have q' := saidB_who q); first | omega | (simp only [List.getD_eq_getElem?_getD] at *; omega))) rfl rfl rfl (Nat.le_of_ble_eq_true rfl) ?_
        refine AD.gpure (want := false) (.tf rfl) (fun hg40 => PureOp.loadRef rfl (.gtmp rfl hg40) vw_pl_3 (Nat.le_of_ble_eq_true rfl)) rfl rfl rfl (Nat.le_of_ble_eq_true rfl) ?_
        refine AD.gpure (want := false) (.tf rfl) (fun hg41 => PureOp.fieldPtr rfl (.tmp rfl) vw_fi_66_4_4) rfl rfl rfl (Nat.le_of_ble_eq_true rfl) ?_
        refine AD.gpure (want := false) (.tf rfl) (fun hg42 => PureOp.loadPtr rfl (.gtmp rfl hg42) vw_pl_22 rfl rfl (Nat.le_of_ble_eq_true rfl) (Nat.le_of_ble_eq_true rfl)) rfl rfl rfl (Nat.le_of_ble_eq_true rfl) ?_
        refine AD.gpure (want := false) (.tf rfl) (fun hg43 => PureOp.move rfl (.tmp rfl)) rfl rfl rfl (Nat.le_of_ble_eq_true rfl) ?_
        refine AD.gpure (want := false) (.tf rfl) (fun hg44 => PureOp.indexLst (i := i) rfl (.gtmp rfl hg44) vw_el_22_1 (.gtmp rfl hg44) rfl (by have q := hg44; simp only [Bool.cond_true_left, Bool.cond_false_right, Bool.not_eq_true', Bool.or_eq_false_iff, Bool.not_eq_false', Bool.and_eq_true, Bool.not_not, decide_eq_true_eq, decide_eq_false_iff_not, inB] at q; (try have q' := saidB_who q); first | omega | (simp only [List.getD_eq_getElem?_getD] at *; omega))) rfl rfl rfl (Nat.le_of_ble_eq_true rfl) ?_
        refine AD.gpure (want := false) (.tf rfl) (fun hg45 => PureOp.loadRef rfl (.gtmp rfl hg45) vw_pl_3 (Nat.le_of_ble_eq_true rfl)) rfl rfl rfl (Nat.le_of_ble_eq_true rfl) ?_
        refine AD.gpure (want := false) (.tf rfl) (fun hg46 => PureOp.call rfl (v_l1In (t.heard.getD i 0) 0 (t.next.getD i 0)) ⟨⟨_, (.gtmp rfl hg46), .int⟩, ⟨_, .int, .int⟩, ⟨_, (.gtmp rfl hg46), .int⟩, trivial⟩ vw_ca_57 trivial) rfl rfl rfl (Nat.le_of_ble_eq_true rfl) ?_
        refine AD.gpure (want := false) (.tf rfl) (fun hg47 => PureOp.not rfl (.gtmp rfl hg47)) rfl rfl rfl (Nat.le_of_ble_eq_true rfl) ?_
        refine AD.pure (PureOp.pick rfl (.tmp rfl) (fun _ => .bool) (fun hp49 => .gtmp rfl (not_of hp49))) rfl rfl (Nat.le_of_ble_eq_true rfl) ?_
        refine AD.nil ?_
        refine AW.cond (.tmp rfl) (fun hb50 => ?_) (fun hb50 => ?_)
        · have _u := True.intro
          refine AW.seq ?_
          refine AW.region ?_
          refine ARun.pure (PureOp.assign rfl .bool) rfl rfl (Nat.le_of_ble_eq_true rfl) ?_
          refine ARun.nil ?_
          refine AW.ret (show ResL _ _ [.tmp 2] _ from resB rfl ?_)
          have hN : (List.range t.texts.length).all (fun j => !rowBad t j) = false := rng_no hil (by rw [(show rowBad t i = true by unfold rowBad; rw [show textBad t i = true from hb50]; simp)]; rfl)
          unfold goodTell; rw [hN]; simp only [Bool.and_false, Bool.false_and]
        · have _u := True.intro
          have htb : textBad t i = false := hb50
          refine AW.skip ?_
          refine AW.region ?_
          refine ARun.pure (PureOp.add (c := ((i + 1 : Nat) : Int)) rfl (.tmp rfl) .int (by rw [wrap_id (by omega) (by omega)]; omega)) rfl rfl (Nat.le_of_ble_eq_true rfl) ?_
          refine ARun.pure (PureOp.move rfl (.tmp rfl)) rfl rfl (Nat.le_of_ble_eq_true rfl) ?_
          refine ARun.nil ?_
          exact ⟨i + 1, ⟨by omega, rng_succ (p := fun j => rowBad t j = false) his (show rowBad t i = false by unfold rowBad; rw [hlo, htb]; rfl)⟩, by dsimp only; omega, ⟨⟨⟨_, rfl, rfl⟩, ⟨_, rfl, rfl⟩, ⟨_, rfl, rfl⟩, ⟨_, rfl, rfl⟩, ⟨_, rfl, rfl⟩, trivial⟩, HeapLe.one rfl trivial⟩⟩
    · have _u := True.intro
      replace hb22 := of_decide_eq_false hb22
      have hil : ¬ i < t.texts.length := by omega
      have hA0 : (List.range t.texts.length).all (fun j => !rowBad t j) = true := rng_yes (fun j hj => by rw [his j (by omega)]; rfl)
      have hlen : ∀ j, j < t.texts.length → (t.texts.getD j []).length ≤ 20 := fun j hj => rowBad_len (his j (by omega))
      refine AW.exit ?_
      refine AW.seq ?_
      refine AW.seq ?_
      refine AW.region ?_
      refine ARun.pure (PureOp.fieldPtr rfl (.tmp rfl) vw_fi_66_2_2) rfl rfl (Nat.le_of_ble_eq_true rfl) ?_
      refine ARun.pure (PureOp.loadPtr rfl (.tmp rfl) vw_pl_63 rfl rfl (Nat.le_of_ble_eq_true rfl) (Nat.le_of_ble_eq_true rfl)) rfl rfl (Nat.le_of_ble_eq_true rfl) ?_
      refine ARun.pure (PureOp.lenLst rfl (.tmp rfl) vw_sl_63) rfl rfl (Nat.le_of_ble_eq_true rfl) ?_
      refine ARun.pure (PureOp.move rfl .int) rfl rfl (Nat.le_of_ble_eq_true rfl) ?_
      refine ARun.nil ?_
      refine AW.block ?_
      refine AW.loop (ι := Nat) (fun e => ⟨[(1, .one (.ptr 0 5 0 0)), (3, .one (.int .i64 (t.texts.length : Int))), (87, .one (.lst 4 t.line.length (fun i0 j0 => ([.bool ((t.line.getD i0 (default : GNote)).back), .int .i64 (((t.line.getD i0 (default : GNote)).what).who), .int .i64 (((t.line.getD i0 (default : GNote)).what).no), .str (((t.line.getD i0 (default : GNote)).what).text)] : List AV).getD j0 (.con undef)))), (88, .one (.int .i64 (t.line.length : Int))), (89, .one (.int .i64 (e : Int)))], [(0, .cells [.lst 1 t.texts.length (fun i0 _ => .lst 1 ((t.texts.getD i0 []).length) (fun i1 _ => .str ((t.texts.getD i0 []).getD i1 ByteArray.empty))), .lst 1 t.heard.length (fun i0 _ => .int .i64 (t.heard.getD i0 0)), .lst 4 t.line.length (fun i0 j0 => ([.bool ((t.line.getD i0 (default : GNote)).back), .int .i64 (((t.line.getD i0 (default : GNote)).what).who), .int .i64 (((t.line.getD i0 (default : GNote)).what).no), .str (((t.line.getD i0 (default : GNote)).what).text)] : List AV).getD j0 (.con undef)), .lst 3 t.log.length (fun i0 j0 => ([.int .i64 ((t.log.getD i0 (default : GTold)).who), .int .i64 ((t.log.getD i0 (default : GTold)).no), .str ((t.log.getD i0 (default : GTold)).text)] : List AV).getD j0 (.con undef)), .lst 1 t.next.length (fun i0 _ => .int .i64 (t.next.getD i0 0))])]⟩) (fun e => e ≤ t.line.length ∧ ∀ j, j < e → lineBad t j = false) (fun e => t.line.length - e) 0 ⟨Nat.zero_le _, fun j hj => absurd hj (by omega)⟩ ⟨⟨⟨_, rfl, rfl⟩, ⟨_, rfl, rfl⟩, ⟨_, rfl, rfl⟩, ⟨_, rfl, rfl⟩, ⟨_, rfl, rfl⟩, trivial⟩, HeapLe.one rfl trivial⟩ ?_
      intro e hI
      obtain ⟨he, hes⟩ := hI
      refine AW.seq ?_
      refine AW.region ?_
      refine ARun.pure (PureOp.intOp rfl (.tmp rfl) (.tmp rfl) rfl) rfl rfl (Nat.le_of_ble_eq_true rfl) ?_
      refine ARun.nil ?_
      refine AW.seq ?_
      refine AW.cond (.tmp rfl) (fun hb51 => ?_) (fun hb51 => ?_)
      · have _u := True.intro
        replace hb51 := of_decide_eq_true hb51
        have hel : e < t.line.length := by omega
        refine AW.skip ?_
        refine AW.seq ?_
        refine AW.block ?_
        refine AW.seq ?_
        refine AW.region ?_
        refine ARun.pure (PureOp.indexLst (i := e) rfl (.tmp rfl) vw_el_63_4 (.tmp rfl) rfl (by omega)) rfl rfl (Nat.le_of_ble_eq_true rfl) ?_
        refine ARun.pure (PureOp.loadRefAgg rfl (.tmp rfl) vw_ag_127_4 (Nat.le_of_ble_eq_true rfl)) rfl rfl (Nat.le_of_ble_eq_true rfl) ?_
        refine ARun.alloc (id := 1) (l := [.bool false, .int .i64 0, .int .i64 0, .str ByteArray.empty]) (z := (.agg #[.bool false, .int .i64 0, .int .i64 0, .string ByteArray.empty])) rfl (by kernel_rfl) (fun _ _ _ => ⟨_, _, rfl, rfl, ⟨_, _, rfl, rfl, ⟨_, _, rfl, rfl, ⟨_, _, rfl, ⟨rfl, by decide⟩, rfl⟩⟩⟩⟩) ⟨rfl, (by repeat first | exact trivial | refine ⟨by decide, by first | rfl | exact trivial | (intro i j; first | rfl | exact getD_no rfl | (dsimp only; split <;> first | rfl | exact getD_no rfl)), ?_⟩)⟩ rfl rfl rfl (Nat.le_of_ble_eq_true rfl) ?_
        refine ARun.store rfl (.tmp rfl) (.tmp rfl) (SV.cells_of (by exact ⟨trivial, trivial, trivial, trivial, trivial⟩)) rfl (Nat.le_of_ble_eq_true rfl) vw_sz_127_4 rfl rfl ?_
        refine ARun.nil ?_
        refine AW.seq ?_
        refine AW.any (by kernel_rfl) (by kernel_rfl) ?_
        refine AD.pure (PureOp.loadPtrAgg rfl (.tmp rfl) vw_ag_66_5 rfl rfl (Nat.le_of_ble_eq_true rfl) (Nat.le_of_ble_eq_true rfl)) rfl rfl (Nat.le_of_ble_eq_true rfl) ?_
        refine AD.pure (PureOp.fieldPtr rfl (.tmp rfl) vw_fi_127_1_1) rfl rfl (Nat.le_of_ble_eq_true rfl) ?_
        refine AD.pure (PureOp.fieldPtr rfl (.tmp rfl) vw_fi_125_0_0) rfl rfl (Nat.le_of_ble_eq_true rfl) ?_
        refine AD.pure (PureOp.loadPtr rfl (.tmp rfl) vw_pl_3 rfl rfl (Nat.le_of_ble_eq_true rfl) (Nat.le_of_ble_eq_true rfl)) rfl rfl (Nat.le_of_ble_eq_true rfl) ?_
        refine AD.pure (PureOp.call rfl (v_l10Who t (((t.line.getD e (default : GNote)).what).who)) ⟨⟨_, (.tmp rfl), ⟨.lst, .lst, .lst, .lst, .lst, trivial⟩⟩, ⟨_, (.tmp rfl), .int⟩, trivial⟩ vw_ca_110 trivial) rfl rfl (Nat.le_of_ble_eq_true rfl) ?_
        refine AD.pure (PureOp.not rfl (.tmp rfl)) rfl rfl (Nat.le_of_ble_eq_true rfl) ?_
        refine AD.pure (PureOp.move rfl (.tmp rfl)) rfl rfl (Nat.le_of_ble_eq_true rfl) ?_
        refine AD.gpure (want := false) (.tf rfl) (fun hg52 => PureOp.fieldPtr rfl (.tmp rfl) vw_fi_127_0_0) rfl rfl rfl (Nat.le_of_ble_eq_true rfl) ?_
        refine AD.gpure (want := false) (.tf rfl) (fun hg53 => PureOp.loadPtr rfl (.gtmp rfl hg53) vw_pl_4 rfl rfl (Nat.le_of_ble_eq_true rfl) (Nat.le_of_ble_eq_true rfl)) rfl rfl rfl (Nat.le_of_ble_eq_true rfl) ?_
        refine AD.gpure (want := false) (.tf rfl) (fun hg54 => PureOp.move rfl (.gtmp rfl hg54)) rfl rfl rfl (Nat.le_of_ble_eq_true rfl) ?_
        refine AD.gpure (want := true) (.gt rfl) (fun hg55 => PureOp.fieldPtr rfl (.tmp rfl) vw_fi_127_1_1) rfl rfl rfl (Nat.le_of_ble_eq_true rfl) ?_
        refine AD.gpure (want := true) (.gt rfl) (fun hg56 => PureOp.fieldPtr rfl (.gtmp rfl hg56) vw_fi_125_2_2) rfl rfl rfl (Nat.le_of_ble_eq_true rfl) ?_
        refine AD.gpure (want := true) (.gt rfl) (fun hg57 => PureOp.loadPtr rfl (.gtmp rfl hg57) vw_pl_9 rfl rfl (Nat.le_of_ble_eq_true rfl) (Nat.le_of_ble_eq_true rfl)) rfl rfl rfl (Nat.le_of_ble_eq_true rfl) ?_
        refine AD.gpure (want := true) (.gt rfl) (fun hg58 => PureOp.strOp rfl (.gtmp rfl hg58) (.str (by decide)) rfl) rfl rfl rfl (Nat.le_of_ble_eq_true rfl) ?_
        refine AD.gpure (want := true) (.gt rfl) (fun hg59 => PureOp.move rfl (.gtmp rfl hg59)) rfl rfl rfl (Nat.le_of_ble_eq_true rfl) ?_
        refine AD.gpure (want := false) (.gf rfl) (fun hg60 => PureOp.fieldPtr rfl (.tmp rfl) vw_fi_127_1_1) rfl rfl rfl (Nat.le_of_ble_eq_true rfl) ?_
        refine AD.gpure (want := false) (.gf rfl) (fun hg61 => PureOp.fieldPtr rfl (.gtmp rfl hg61) vw_fi_125_1_1) rfl rfl rfl (Nat.le_of_ble_eq_true rfl) ?_
        refine AD.gpure (want := false) (.gf rfl) (fun hg62 => PureOp.loadPtr rfl (.gtmp rfl hg62) vw_pl_3 rfl rfl (Nat.le_of_ble_eq_true rfl) (Nat.le_of_ble_eq_true rfl)) rfl rfl rfl (Nat.le_of_ble_eq_true rfl) ?_
        refine AD.gpure (want := false) (.gf rfl) (fun hg63 => PureOp.fieldPtr rfl (.tmp rfl) vw_fi_66_4_4) rfl rfl rfl (Nat.le_of_ble_eq_true rfl) ?_
        refine AD.gpure (want := false) (.gf rfl) (fun hg64 => PureOp.loadPtr rfl (.gtmp rfl hg64) vw_pl_22 rfl rfl (Nat.le_of_ble_eq_true rfl) (Nat.le_of_ble_eq_true rfl)) rfl rfl rfl (Nat.le_of_ble_eq_true rfl) ?_
        refine AD.gpure (want := false) (.gf rfl) (fun hg65 => PureOp.fieldPtr rfl (.tmp rfl) vw_fi_127_1_1) rfl rfl rfl (Nat.le_of_ble_eq_true rfl) ?_
        refine AD.gpure (want := false) (.gf rfl) (fun hg66 => PureOp.fieldPtr rfl (.gtmp rfl hg66) vw_fi_125_0_0) rfl rfl rfl (Nat.le_of_ble_eq_true rfl) ?_
        refine AD.gpure (want := false) (.gf rfl) (fun hg67 => PureOp.loadPtr rfl (.gtmp rfl hg67) vw_pl_3 rfl rfl (Nat.le_of_ble_eq_true rfl) (Nat.le_of_ble_eq_true rfl)) rfl rfl rfl (Nat.le_of_ble_eq_true rfl) ?_
        refine AD.gpure (want := false) (.gf rfl) (fun hg68 => PureOp.indexLst (i := (((t.line.getD e (default : GNote)).what).who).toNat) rfl (.gtmp rfl hg68) vw_el_22_1 (.gtmp rfl hg68) (by have q := hg68; simp only [Bool.cond_true_left, Bool.cond_false_right, Bool.not_eq_true', Bool.or_eq_false_iff, Bool.not_eq_false', Bool.and_eq_true, Bool.not_not, decide_eq_true_eq, decide_eq_false_iff_not, inB] at q; (try have q' := saidB_who q); omega) (by have q := hg68; simp only [Bool.cond_true_left, Bool.cond_false_right, Bool.not_eq_true', Bool.or_eq_false_iff, Bool.not_eq_false', Bool.and_eq_true, Bool.not_not, decide_eq_true_eq, decide_eq_false_iff_not, inB] at q; (try have q' := saidB_who q); omega)) rfl rfl rfl (Nat.le_of_ble_eq_true rfl) ?_
        refine AD.gpure (want := false) (.gf rfl) (fun hg69 => PureOp.loadRef rfl (.gtmp rfl hg69) vw_pl_3 (Nat.le_of_ble_eq_true rfl)) rfl rfl rfl (Nat.le_of_ble_eq_true rfl) ?_
        refine AD.gpure (want := false) (.gf rfl) (fun hg70 => PureOp.call rfl (v_l1In (((t.line.getD e (default : GNote)).what).no) 0 (t.next.getD ((((t.line.getD e (default : GNote)).what).who).toNat) 0)) ⟨⟨_, (.gtmp rfl hg70), .int⟩, ⟨_, .int, .int⟩, ⟨_, (.gtmp rfl hg70), .int⟩, trivial⟩ vw_ca_57 trivial) rfl rfl rfl (Nat.le_of_ble_eq_true rfl) ?_
        refine AD.gpure (want := false) (.gf rfl) (fun hg71 => PureOp.not rfl (.gtmp rfl hg71)) rfl rfl rfl (Nat.le_of_ble_eq_true rfl) ?_
        refine AD.gpure (want := true) (.gt rfl) (fun hg72 => PureOp.pick rfl (.gtmp rfl hg72) (fun _ => .bool) (fun hp74 => .gtmp rfl (and_mk hg72 (not_of hp74)))) rfl rfl rfl (Nat.le_of_ble_eq_true rfl) ?_
        refine AD.gpure (want := false) (.tf rfl) (fun hg75 => PureOp.pick rfl (.gtmp rfl hg75) (fun hp76 => .gtmp rfl (and_mk hg75 hp76)) (fun _ => .bool)) rfl rfl rfl (Nat.le_of_ble_eq_true rfl) ?_
        refine AD.pure (PureOp.pick rfl (.tmp rfl) (fun _ => .bool) (fun hp79 => .gtmp rfl (not_of hp79))) rfl rfl (Nat.le_of_ble_eq_true rfl) ?_
        refine AD.pure (PureOp.move rfl (.tmp rfl)) rfl rfl (Nat.le_of_ble_eq_true rfl) ?_
        refine AD.gpure (want := false) (.tf rfl) (fun hg80 => PureOp.fieldPtr rfl (.tmp rfl) vw_fi_127_0_0) rfl rfl rfl (Nat.le_of_ble_eq_true rfl) ?_
        refine AD.gpure (want := false) (.tf rfl) (fun hg81 => PureOp.loadPtr rfl (.gtmp rfl hg81) vw_pl_4 rfl rfl (Nat.le_of_ble_eq_true rfl) (Nat.le_of_ble_eq_true rfl)) rfl rfl rfl (Nat.le_of_ble_eq_true rfl) ?_
        refine AD.gpure (want := false) (.tf rfl) (fun hg82 => PureOp.not rfl (.gtmp rfl hg82)) rfl rfl rfl (Nat.le_of_ble_eq_true rfl) ?_
        refine AD.gpure (want := false) (.tf rfl) (fun hg83 => PureOp.move rfl (.gtmp rfl hg83)) rfl rfl rfl (Nat.le_of_ble_eq_true rfl) ?_
        refine AD.gpure (want := true) (.gt rfl) (fun hg84 => PureOp.loadPtrAgg rfl (.tmp rfl) vw_ag_66_5 rfl rfl (Nat.le_of_ble_eq_true rfl) (Nat.le_of_ble_eq_true rfl)) rfl rfl rfl (Nat.le_of_ble_eq_true rfl) ?_
        refine AD.gpure (want := true) (.gt rfl) (fun hg85 => PureOp.fieldPtr rfl (.tmp rfl) vw_fi_127_1_1) rfl rfl rfl (Nat.le_of_ble_eq_true rfl) ?_
        refine AD.gpure (want := true) (.gt rfl) (fun hg86 => PureOp.loadPtrAgg rfl (.gtmp rfl hg86) vw_ag_125_3 rfl rfl (Nat.le_of_ble_eq_true rfl) (Nat.le_of_ble_eq_true rfl)) rfl rfl rfl (Nat.le_of_ble_eq_true rfl) ?_
        refine AD.gpure (want := true) (.gt rfl) (fun hg87 => PureOp.call rfl (v_l10Said t ((t.line.getD e (default : GNote)).what)) ⟨⟨_, (.gtmp rfl hg87), ⟨.lst, .lst, .lst, .lst, .lst, trivial⟩⟩, ⟨_, (.gtmp rfl hg87), ⟨.int, .int, .str, trivial⟩⟩, trivial⟩ vw_ca_111 trivial) rfl rfl rfl (Nat.le_of_ble_eq_true rfl) ?_
        refine AD.gpure (want := true) (.gt rfl) (fun hg88 => PureOp.not rfl (.gtmp rfl hg88)) rfl rfl rfl (Nat.le_of_ble_eq_true rfl) ?_
        refine AD.gpure (want := false) (.tf rfl) (fun hg89 => PureOp.pick rfl (.gtmp rfl hg89) (fun hp90 => .gtmp rfl (and_mk hg89 hp90)) (fun _ => .bool)) rfl rfl rfl (Nat.le_of_ble_eq_true rfl) ?_
        refine AD.pure (PureOp.pick rfl (.tmp rfl) (fun _ => .bool) (fun hp93 => .gtmp rfl (not_of hp93))) rfl rfl (Nat.le_of_ble_eq_true rfl) ?_
        refine AD.nil ?_
        refine AW.cond (.tmp rfl) (fun hb94 => ?_) (fun hb94 => ?_)
        · have _u := True.intro
          refine AW.seq ?_
          refine AW.region ?_
          refine ARun.pure (PureOp.assign rfl .bool) rfl rfl (Nat.le_of_ble_eq_true rfl) ?_
          refine ARun.nil ?_
          refine AW.ret (show ResL _ _ [.tmp 2] _ from resB rfl ?_)
          have hN : (List.range t.line.length).all (fun j => !lineBad t j) = false := rng_no hel (by rw [(show lineBad t e = true from hb94)]; rfl)
          unfold goodTell; rw [hN]; simp only [Bool.and_false, Bool.false_and]
        · have _u := True.intro
          have hlb : lineBad t e = false := hb94
          refine AW.skip ?_
          refine AW.region ?_
          refine ARun.pure (PureOp.add (c := ((e + 1 : Nat) : Int)) rfl (.tmp rfl) .int (by rw [wrap_id (by omega) (by omega)]; omega)) rfl rfl (Nat.le_of_ble_eq_true rfl) ?_
          refine ARun.pure (PureOp.move rfl (.tmp rfl)) rfl rfl (Nat.le_of_ble_eq_true rfl) ?_
          refine ARun.nil ?_
          exact ⟨e + 1, ⟨by omega, rng_succ (p := fun j => lineBad t j = false) hes hlb⟩, by dsimp only; omega, ⟨⟨⟨_, rfl, rfl⟩, ⟨_, rfl, rfl⟩, ⟨_, rfl, rfl⟩, ⟨_, rfl, rfl⟩, ⟨_, rfl, rfl⟩, trivial⟩, HeapLe.one rfl trivial⟩⟩
      · have _u := True.intro
        replace hb51 := of_decide_eq_false hb51
        have hel : ¬ e < t.line.length := by omega
        have hA2 : (List.range t.line.length).all (fun j => !lineBad t j) = true := rng_yes (fun j hj => by rw [hes j (by omega)]; rfl)
        refine AW.exit ?_
        refine AW.seq ?_
        refine AW.region ?_
        refine ARun.pure (PureOp.move rfl (.tmp rfl)) rfl rfl (Nat.le_of_ble_eq_true rfl) ?_
        refine ARun.make (id := 2) (n := t.texts.length) (l := [.int .i64 0]) (z := (.int .i64 0)) (by_ := 8) rfl (by kernel_rfl) (fun _ _ _ => ⟨_, _, rfl, rfl, rfl⟩) (.tmp rfl) (.tmp rfl) rfl rfl (by omega) (by omega) (by decide) ⟨rfl, (by repeat first | exact trivial | refine ⟨by decide, by first | rfl | exact trivial | (intro i j; first | rfl | exact getD_no rfl | (dsimp only; split <;> first | rfl | exact getD_no rfl)), ?_⟩)⟩ rfl rfl rfl (Nat.le_of_ble_eq_true rfl) ?_
        refine ARun.pure (PureOp.assign rfl (.tmp rfl)) rfl rfl (Nat.le_of_ble_eq_true rfl) ?_
        refine ARun.nil ?_
        refine AW.seq ?_
        refine AW.seq ?_
        refine AW.region ?_
        refine ARun.pure (PureOp.fieldPtr rfl (.tmp rfl) vw_fi_66_3_3) rfl rfl (Nat.le_of_ble_eq_true rfl) ?_
        refine ARun.pure (PureOp.loadPtr rfl (.tmp rfl) vw_pl_64 rfl rfl (Nat.le_of_ble_eq_true rfl) (Nat.le_of_ble_eq_true rfl)) rfl rfl (Nat.le_of_ble_eq_true rfl) ?_
        refine ARun.pure (PureOp.lenLst rfl (.tmp rfl) vw_sl_64) rfl rfl (Nat.le_of_ble_eq_true rfl) ?_
        refine ARun.pure (PureOp.move rfl .int) rfl rfl (Nat.le_of_ble_eq_true rfl) ?_
        refine ARun.nil ?_
        refine AW.block ?_
        refine AW.loop (ι := Nat) (fun k => ⟨[(1, .one (.ptr 0 5 0 0)), (10, .one (.own 2 1 t.texts.length)), (139, .one (.lst 3 t.log.length (fun i0 j0 => ([.int .i64 ((t.log.getD i0 (default : GTold)).who), .int .i64 ((t.log.getD i0 (default : GTold)).no), .str ((t.log.getD i0 (default : GTold)).text)] : List AV).getD j0 (.con undef)))), (140, .one (.int .i64 (t.log.length : Int))), (141, .one (.int .i64 (k : Int)))], [(0, .cells [.lst 1 t.texts.length (fun i0 _ => .lst 1 ((t.texts.getD i0 []).length) (fun i1 _ => .str ((t.texts.getD i0 []).getD i1 ByteArray.empty))), .lst 1 t.heard.length (fun i0 _ => .int .i64 (t.heard.getD i0 0)), .lst 4 t.line.length (fun i0 j0 => ([.bool ((t.line.getD i0 (default : GNote)).back), .int .i64 (((t.line.getD i0 (default : GNote)).what).who), .int .i64 (((t.line.getD i0 (default : GNote)).what).no), .str (((t.line.getD i0 (default : GNote)).what).text)] : List AV).getD j0 (.con undef)), .lst 3 t.log.length (fun i0 j0 => ([.int .i64 ((t.log.getD i0 (default : GTold)).who), .int .i64 ((t.log.getD i0 (default : GTold)).no), .str ((t.log.getD i0 (default : GTold)).text)] : List AV).getD j0 (.con undef)), .lst 1 t.next.length (fun i0 _ => .int .i64 (t.next.getD i0 0))]), (2, .arr 1 t.texts.length (fun a _ => .int .i64 ((cnt t k a : Nat) : Int)))]⟩) (fun k => k ≤ t.log.length ∧ ∀ j, j < k → logBad t j = false) (fun k => t.log.length - k) 0 ⟨Nat.zero_le _, fun j hj => absurd hj (by omega)⟩ ⟨⟨⟨_, rfl, rfl⟩, ⟨_, rfl, rfl⟩, ⟨_, rfl, rfl⟩, ⟨_, rfl, rfl⟩, ⟨_, rfl, rfl⟩, trivial⟩, HeapLe.one rfl (⟨⟨_, rfl, rfl, Nat.le_refl _, fun a b _ (hb : b < 1) => (match b, hb with | 0, _ => rfl | n + 1, h => absurd h (by omega))⟩, trivial⟩)⟩ ?_
        intro k hI
        obtain ⟨hk, hks⟩ := hI
        refine AW.bound (t := 139) rfl fun hlgb => ?_
        have hcb := cnt_le t k ((t.log.getD k (default : GTold)).who).toNat
        have hcb2 := cnt_le t k (((t.log.getD k (default : GTold)).who)).toNat
        refine AW.seq ?_
        refine AW.region ?_
        refine ARun.pure (PureOp.intOp rfl (.tmp rfl) (.tmp rfl) rfl) rfl rfl (Nat.le_of_ble_eq_true rfl) ?_
        refine ARun.nil ?_
        refine AW.seq ?_
        refine AW.cond (.tmp rfl) (fun hb95 => ?_) (fun hb95 => ?_)
        · have _u := True.intro
          replace hb95 := of_decide_eq_true hb95
          have hkl : k < t.log.length := by omega
          refine AW.skip ?_
          refine AW.seq ?_
          refine AW.block ?_
          refine AW.seq ?_
          refine AW.region ?_
          refine ARun.pure (PureOp.indexLst (i := k) rfl (.tmp rfl) vw_el_64_3 (.tmp rfl) rfl (by omega)) rfl rfl (Nat.le_of_ble_eq_true rfl) ?_
          refine ARun.pure (PureOp.loadRefAgg rfl (.tmp rfl) vw_ag_125_3 (Nat.le_of_ble_eq_true rfl)) rfl rfl (Nat.le_of_ble_eq_true rfl) ?_
          refine ARun.alloc (id := 3) (l := [.int .i64 0, .int .i64 0, .str ByteArray.empty]) (z := (.agg #[.int .i64 0, .int .i64 0, .string ByteArray.empty])) rfl (by kernel_rfl) (fun _ _ _ => ⟨_, _, rfl, rfl, ⟨_, _, rfl, rfl, ⟨_, _, rfl, ⟨rfl, by decide⟩, rfl⟩⟩⟩) ⟨rfl, (by repeat first | exact trivial | refine ⟨by decide, by first | rfl | exact trivial | (intro i j; first | rfl | exact getD_no rfl | (dsimp only; split <;> first | rfl | exact getD_no rfl)), ?_⟩)⟩ rfl rfl rfl (Nat.le_of_ble_eq_true rfl) ?_
          refine ARun.store rfl (.tmp rfl) (.tmp rfl) (SV.cells_of (by exact ⟨trivial, trivial, trivial, trivial⟩)) rfl (Nat.le_of_ble_eq_true rfl) vw_sz_125_3 rfl rfl ?_
          refine ARun.nil ?_
          refine AW.seq ?_
          refine AW.seq ?_
          refine AW.any (by kernel_rfl) (by kernel_rfl) ?_
          refine AD.pure (PureOp.loadPtrAgg rfl (.tmp rfl) vw_ag_66_5 rfl rfl (Nat.le_of_ble_eq_true rfl) (Nat.le_of_ble_eq_true rfl)) rfl rfl (Nat.le_of_ble_eq_true rfl) ?_
          refine AD.pure (PureOp.loadPtrAgg rfl (.tmp rfl) vw_ag_125_3 rfl rfl (Nat.le_of_ble_eq_true rfl) (Nat.le_of_ble_eq_true rfl)) rfl rfl (Nat.le_of_ble_eq_true rfl) ?_
          refine AD.pure (PureOp.call rfl (v_l10Said t (t.log.getD k (default : GTold))) ⟨⟨_, (.tmp rfl), ⟨.lst, .lst, .lst, .lst, .lst, trivial⟩⟩, ⟨_, (.tmp rfl), ⟨.int, .int, .str, trivial⟩⟩, trivial⟩ vw_ca_111 trivial) rfl rfl (Nat.le_of_ble_eq_true rfl) ?_
          refine AD.pure (PureOp.not rfl (.tmp rfl)) rfl rfl (Nat.le_of_ble_eq_true rfl) ?_
          refine AD.pure (PureOp.move rfl (.tmp rfl)) rfl rfl (Nat.le_of_ble_eq_true rfl) ?_
          refine AD.gpure (want := false) (.tf rfl) (fun hg96 => PureOp.move rfl (.tmp rfl)) rfl rfl rfl (Nat.le_of_ble_eq_true rfl) ?_
          refine AD.gpure (want := false) (.tf rfl) (fun hg97 => PureOp.fieldPtr rfl (.tmp rfl) vw_fi_125_0_0) rfl rfl rfl (Nat.le_of_ble_eq_true rfl) ?_
          refine AD.gpure (want := false) (.tf rfl) (fun hg98 => PureOp.loadPtr rfl (.gtmp rfl hg98) vw_pl_3 rfl rfl (Nat.le_of_ble_eq_true rfl) (Nat.le_of_ble_eq_true rfl)) rfl rfl rfl (Nat.le_of_ble_eq_true rfl) ?_
          refine AD.gpure (want := false) (.tf rfl) (fun hg99 => PureOp.indexOwn (i := ((t.log.getD k (default : GTold)).who).toNat) rfl (.gtmp rfl hg99) vw_el_22_1 (.gtmp rfl hg99) (by have q := hg99; simp only [Bool.cond_true_left, Bool.cond_false_right, Bool.not_eq_true', Bool.or_eq_false_iff, Bool.not_eq_false', Bool.and_eq_true, Bool.not_not, decide_eq_true_eq, decide_eq_false_iff_not, inB] at q; (try have q' := saidB_who q); omega) (by have q := hg99; simp only [Bool.cond_true_left, Bool.cond_false_right, Bool.not_eq_true', Bool.or_eq_false_iff, Bool.not_eq_false', Bool.and_eq_true, Bool.not_not, decide_eq_true_eq, decide_eq_false_iff_not, inB] at q; (try have q' := saidB_who q); omega)) rfl rfl rfl (Nat.le_of_ble_eq_true rfl) ?_
          refine AD.gpure (want := false) (.tf rfl) (fun hg100 => PureOp.loadPtr rfl (.gtmp rfl hg100) vw_pl_3 rfl rfl (show (((t.log.getD k (default : GTold)).who).toNat) < t.texts.length from by have q := hg100; simp only [Bool.cond_true_left, Bool.cond_false_right, Bool.not_eq_true', Bool.or_eq_false_iff, Bool.not_eq_false', Bool.and_eq_true, Bool.not_not, decide_eq_true_eq, decide_eq_false_iff_not, inB] at q; (try have q' := saidB_who q); omega) (Nat.le_of_ble_eq_true rfl)) rfl rfl rfl (Nat.le_of_ble_eq_true rfl) ?_
          refine AD.gpure (want := false) (.tf rfl) (fun hg101 => PureOp.fieldPtr rfl (.tmp rfl) vw_fi_125_1_1) rfl rfl rfl (Nat.le_of_ble_eq_true rfl) ?_
          refine AD.gpure (want := false) (.tf rfl) (fun hg102 => PureOp.loadPtr rfl (.gtmp rfl hg102) vw_pl_3 rfl rfl (Nat.le_of_ble_eq_true rfl) (Nat.le_of_ble_eq_true rfl)) rfl rfl rfl (Nat.le_of_ble_eq_true rfl) ?_
          refine AD.gpure (want := false) (.tf rfl) (fun hg103 => PureOp.intOp rfl (.gtmp rfl hg103) (.gtmp rfl hg103) rfl) rfl rfl rfl (Nat.le_of_ble_eq_true rfl) ?_
          refine AD.pure (PureOp.pick rfl (.tmp rfl) (fun _ => .bool) (fun hp105 => .gtmp rfl (not_of hp105))) rfl rfl (Nat.le_of_ble_eq_true rfl) ?_
          refine AD.nil ?_
          refine AW.cond (.tmp rfl) (fun hb106 => ?_) (fun hb106 => ?_)
          · have _u := True.intro
            refine AW.seq ?_
            refine AW.region ?_
            refine ARun.pure (PureOp.assign rfl .bool) rfl rfl (Nat.le_of_ble_eq_true rfl) ?_
            refine ARun.nil ?_
            refine AW.ret (show ResL _ _ [.tmp 2] _ from resB rfl ?_)
            have hN : (List.range t.log.length).all (fun j => !logBad t j) = false := rng_no hkl (by rw [(show logBad t k = true from hb106)]; rfl)
            unfold goodTell; rw [hN]; simp only [Bool.and_false, Bool.false_and]
          · have _u := True.intro
            have hlg : logBad t k = false := hb106
            have hwho := logBad_who hlg
            refine AW.skip ?_
            refine AW.region ?_
            refine ARun.pure (PureOp.move rfl (.tmp rfl)) rfl rfl (Nat.le_of_ble_eq_true rfl) ?_
            refine ARun.pure (PureOp.fieldPtr rfl (.tmp rfl) vw_fi_125_0_0) rfl rfl (Nat.le_of_ble_eq_true rfl) ?_
            refine ARun.pure (PureOp.loadPtr rfl (.tmp rfl) vw_pl_3 rfl rfl (Nat.le_of_ble_eq_true rfl) (Nat.le_of_ble_eq_true rfl)) rfl rfl (Nat.le_of_ble_eq_true rfl) ?_
            refine ARun.pure (PureOp.indexOwn (i := ((t.log.getD k (default : GTold)).who).toNat) rfl (.tmp rfl) vw_el_22_1 (.tmp rfl) (by omega) (by omega)) rfl rfl (Nat.le_of_ble_eq_true rfl) ?_
            refine ARun.pure (PureOp.loadPtr rfl (.tmp rfl) vw_pl_3 rfl rfl (show (((t.log.getD k (default : GTold)).who).toNat) < t.texts.length from by omega) (Nat.le_of_ble_eq_true rfl)) rfl rfl (Nat.le_of_ble_eq_true rfl) ?_
            refine ARun.pure (PureOp.add (c := ((cnt t k (((t.log.getD k (default : GTold)).who).toNat) + 1 : Nat) : Int)) rfl (.tmp rfl) .int (by rw [wrap_id (by omega) (by omega)]; omega)) rfl rfl (Nat.le_of_ble_eq_true rfl) ?_
            refine ARun.pure (PureOp.indexOwn (i := ((t.log.getD k (default : GTold)).who).toNat) rfl (.tmp rfl) vw_el_22_1 (.tmp rfl) (by omega) (by omega)) rfl rfl (Nat.le_of_ble_eq_true rfl) ?_
            refine ARun.storeElem rfl (.tmp rfl) (.tmp rfl) trivial rfl (show (((t.log.getD k (default : GTold)).who).toNat) < t.texts.length from by omega) rfl vw_sz_3_1 rfl rfl ?_
            refine ARun.nil ?_
            refine AW.region ?_
            refine ARun.pure (PureOp.add (c := ((k + 1 : Nat) : Int)) rfl (.tmp rfl) .int (by rw [wrap_id (by omega) (by omega)]; omega)) rfl rfl (Nat.le_of_ble_eq_true rfl) ?_
            refine ARun.pure (PureOp.move rfl (.tmp rfl)) rfl rfl (Nat.le_of_ble_eq_true rfl) ?_
            refine ARun.nil ?_
            exact ⟨k + 1, ⟨by omega, rng_succ (p := fun j => logBad t j = false) hks hlg⟩, by dsimp only; omega, ⟨⟨⟨_, rfl, rfl⟩, ⟨_, rfl, rfl⟩, ⟨_, rfl, rfl⟩, ⟨_, rfl, rfl⟩, ⟨_, rfl, rfl⟩, trivial⟩, HeapLe.one rfl (⟨⟨_, rfl, rfl, Nat.le_refl _, fun a b _ (hb : b < 1) => (match b, hb with | 0, _ => cnt_step t k a rfl | n + 1, h => absurd h (by omega))⟩, trivial⟩)⟩⟩
        · have _u := True.intro
          replace hb95 := of_decide_eq_false hb95
          have hkl : ¬ k < t.log.length := by omega
          have hA3 : (List.range t.log.length).all (fun j => !logBad t j) = true := rng_yes (fun j hj => by rw [hks j (by omega)]; rfl)
          have hkk : k = t.log.length := by omega
          refine AW.exit ?_
          refine AW.seq ?_
          refine AW.region ?_
          refine ARun.pure (PureOp.move rfl (.tmp rfl)) rfl rfl (Nat.le_of_ble_eq_true rfl) ?_
          refine ARun.pure (PureOp.fieldPtr rfl (.tmp rfl) vw_fi_66_4_4) rfl rfl (Nat.le_of_ble_eq_true rfl) ?_
          refine ARun.pure (PureOp.loadPtr rfl (.tmp rfl) vw_pl_22 rfl rfl (Nat.le_of_ble_eq_true rfl) (Nat.le_of_ble_eq_true rfl)) rfl rfl (Nat.le_of_ble_eq_true rfl) ?_
          refine ARun.pure (PureOp.call rfl (v_l1Same t.texts.length t.next.length (fun a => ((cnt t k a : Nat) : Int)) (fun i => t.next.getD i 0)) ⟨⟨_, (.tmp rfl), (.own rfl rfl (Nat.le_refl _) (fun i j hi hj => (match j, (show j < 1 from hj) with | 0, _ => .int | n + 1, h => absurd h (by omega))))⟩, ⟨_, (.tmp rfl), .lst⟩, trivial⟩ vw_ca_112 trivial) rfl rfl (Nat.le_of_ble_eq_true rfl) ?_
          refine ARun.pure (PureOp.assign rfl (.tmp rfl)) rfl rfl (Nat.le_of_ble_eq_true rfl) ?_
          refine ARun.nil ?_
          refine AW.ret (show ResL _ _ [.tmp 2] _ from resB rfl ?_)
          unfold goodTell; rw [hH, hA0, hA2, hA3, ← hkk]; simp only [Bool.true_and]
end Go.Proofs.Ytlbnodmebehpiaa
