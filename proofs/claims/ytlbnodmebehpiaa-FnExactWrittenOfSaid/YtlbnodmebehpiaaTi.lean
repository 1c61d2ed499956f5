/-
  The program's GoodTell.
-/
import Derived.Test.YtlbnodmebehpiaaTs
namespace Go.Proofs.Ytlbnodmebehpiaa
open Go.ChangeShapes Go.WideShapes Go.ChangeAt Go.RowKit Go.BigFrame Go.Deep
set_option linter.unusedVariables false
set_option linter.unusedSimpArgs false
theorem vx_ag_125_3 : aggB Try.prog 125 3 = true := by kernel_rfl
theorem vx_ag_127_4 : aggB Try.prog 127 4 = true := by kernel_rfl
theorem vx_ag_66_5 : aggB Try.prog 66 5 = true := by kernel_rfl
theorem vx_ca_116 : callB Try.prog 116 = true := by kernel_rfl
theorem vx_ca_145 : callB Try.prog 145 = true := by kernel_rfl
theorem vx_ca_146 : callB Try.prog 146 = true := by kernel_rfl
theorem vx_ca_147 : callB Try.prog 147 = true := by kernel_rfl
theorem vx_ca_148 : callB Try.prog 148 = true := by kernel_rfl
theorem vx_ca_59 : callB Try.prog 59 = true := by kernel_rfl
theorem vx_el_22_1 : elemB Try.prog 22 1 = true := by kernel_rfl
theorem vx_el_62_1 : elemB Try.prog 62 1 = true := by kernel_rfl
theorem vx_el_63_4 : elemB Try.prog 63 4 = true := by kernel_rfl
theorem vx_el_64_3 : elemB Try.prog 64 3 = true := by kernel_rfl
theorem vx_fi_125_0_0 : fieldB Try.prog 125 0 0 = true := by kernel_rfl
theorem vx_fi_125_1_1 : fieldB Try.prog 125 1 1 = true := by kernel_rfl
theorem vx_fi_125_2_2 : fieldB Try.prog 125 2 2 = true := by kernel_rfl
theorem vx_fi_127_0_0 : fieldB Try.prog 127 0 0 = true := by kernel_rfl
theorem vx_fi_127_1_1 : fieldB Try.prog 127 1 1 = true := by kernel_rfl
theorem vx_fi_66_0_0 : fieldB Try.prog 66 0 0 = true := by kernel_rfl
theorem vx_fi_66_1_1 : fieldB Try.prog 66 1 1 = true := by kernel_rfl
theorem vx_fi_66_2_2 : fieldB Try.prog 66 2 2 = true := by kernel_rfl
theorem vx_fi_66_3_3 : fieldB Try.prog 66 3 3 = true := by kernel_rfl
theorem vx_fi_66_4_4 : fieldB Try.prog 66 4 4 = true := by kernel_rfl
theorem vx_pl_22 : plainB Try.prog 22 = true := by kernel_rfl
theorem vx_pl_3 : plainB Try.prog 3 = true := by kernel_rfl
theorem vx_pl_4 : plainB Try.prog 4 = true := by kernel_rfl
theorem vx_pl_62 : plainB Try.prog 62 = true := by kernel_rfl
theorem vx_pl_63 : plainB Try.prog 63 = true := by kernel_rfl
theorem vx_pl_64 : plainB Try.prog 64 = true := by kernel_rfl
theorem vx_pl_80 : plainB Try.prog 80 = true := by kernel_rfl
theorem vx_pl_9 : plainB Try.prog 9 = true := by kernel_rfl
theorem vx_sl_22 : sliceB Try.prog 22 = true := by kernel_rfl
theorem vx_sl_62 : sliceB Try.prog 62 = true := by kernel_rfl
theorem vx_sl_63 : sliceB Try.prog 63 = true := by kernel_rfl
theorem vx_sl_64 : sliceB Try.prog 64 = true := by kernel_rfl
theorem vx_sl_80 : sliceB Try.prog 80 = true := by kernel_rfl
theorem vx_st_9 : stringB Try.prog 9 = true := by kernel_rfl
theorem vx_sz_125_3 : sizeB Try.prog 125 3 = true := by kernel_rfl
theorem vx_sz_127_4 : sizeB Try.prog 127 4 = true := by kernel_rfl
theorem vx_sz_3_1 : sizeB Try.prog 3 1 = true := by kernel_rfl
theorem v_isTell1 (s : ByteArray) : Fn Try.prog 146 [.one (.str s)] (.one (.bool (decide ((20 : Int) < (s.size : Int))))) := by
  refine Fn.of_body (fn := Try.f146) Try.func146 rfl (Nat.le_of_ble_eq_true rfl) trivial ?_
  intro w0
  show AW _ 6 _ _ _ _
  refine AW.seq ?_
  refine AW.region ?_
  refine ARun.pure (PureOp.assign rfl .bool) rfl rfl (Nat.le_of_ble_eq_true rfl) ?_
  refine ARun.nil ?_
  refine AW.seq ?_
  refine AW.region ?_
  refine ARun.pure (PureOp.move rfl (.tmp rfl)) rfl rfl (Nat.le_of_ble_eq_true rfl) ?_
  refine ARun.pure (PureOp.lenStr rfl (.tmp rfl) vx_st_9) rfl rfl (Nat.le_of_ble_eq_true rfl) ?_
  refine ARun.pure (PureOp.intOp rfl (.tmp rfl) .int rfl) rfl rfl (Nat.le_of_ble_eq_true rfl) ?_
  refine ARun.pure (PureOp.assign rfl (.tmp rfl)) rfl rfl (Nat.le_of_ble_eq_true rfl) ?_
  refine ARun.nil ?_
  refine AW.ret (show ResL _ _ [.tmp 2] _ from resB rfl ?_)
  rfl

def rowBadI (t : GTell) (i : Nat) : Bool :=
  cond (cond (cond (decide (20 < (((t.texts.getD i []).length : Nat) : Int))) true ((t.texts.getD i []).any (fun s => decide ((20 : Int) < (s.size : Int))))) true (!(inB 0 (((t.texts.getD i []).length : Nat) : Int) (t.next.getD i 0)))) true (!(inB 0 (t.next.getD i 0) (t.heard.getD i 0)))
def lineBadI (t : GTell) (e : Nat) : Bool :=
  cond (cond (!(inB 0 ((t.texts.length : Int) - 1) (((t.line.getD e (default : GNote)).what).who))) true (cond ((t.line.getD e (default : GNote)).back) (cond (!(inB 0 (t.next.getD ((((t.line.getD e (default : GNote)).what).who).toNat) 0) (((t.line.getD e (default : GNote)).what).no))) true (!decide (((t.line.getD e (default : GNote)).what).text = ByteArray.empty))) false)) true (cond (!((t.line.getD e (default : GNote)).back)) (!(isTextB t ((t.line.getD e (default : GNote)).what))) false)
def logBadI (t : GTell) (k : Nat) : Bool :=
  cond (cond (!(inB 0 ((t.texts.length : Int) - 1) ((t.log.getD k (default : GTold)).who))) true (!decide ((t.log.getD k (default : GTold)).no = ((cnt t k (((t.log.getD k (default : GTold)).who).toNat) : Nat) : Int)))) true (!(isTextB t (t.log.getD k (default : GTold))))
theorem rowBad_eq (t : GTell) (i : Nat) : rowBad t i = rowBadI t i := by
  unfold rowBad textBad rowBadI longAny
  generalize decide ((20 : Int) < ((((t.texts.getD i []).length : Nat)) : Int)) = q1
  generalize (t.texts.getD i []).any (fun s => decide ((20 : Int) < (s.size : Int))) = q2
  generalize inB 0 _ (t.next.getD i 0) = q3
  generalize inB 0 _ (t.heard.getD i 0) = q4
  revert q1 q2 q3 q4; decide
theorem said_eq {t : GTell} {d : GTold} (hw : inB 0 ((t.texts.length : Int) - 1) d.who = true) : saidB t d = isTextB t d := by
  unfold saidB isTextB
  rw [hw]
  have u : cond (decide (0 ≤ d.no)) (decide (d.no < ((t.texts.getD (d.who).toNat []).length : Int))) false = inB 0 (((t.texts.getD (d.who).toNat []).length : Int) - 1) d.no := by
    unfold inB
    by_cases h1 : (0 : Int) ≤ d.no <;> by_cases h2 : d.no < ((t.texts.getD (d.who).toNat []).length : Int) <;> simp only [h1, h2, decide_true, decide_false, cond_true, cond_false, true_and, false_and] <;> first | rfl | (symm; simp only [decide_eq_true_eq, decide_eq_false_iff_not]; omega)
  rw [← u]
  generalize decide (0 ≤ d.no) = a1
  generalize decide (d.no < _) = a2
  generalize decide (_ = d.text) = a3
  revert a1 a2 a3; decide
theorem said_who {t : GTell} {d : GTold} (hw : inB 0 ((t.texts.length : Int) - 1) d.who = false) : saidB t d = false := by
  unfold saidB; rw [hw]; rfl
theorem lineBad_eq {t : GTell} {e : Nat} (hlen : ∀ j, j < t.texts.length → (t.texts.getD j []).length ≤ 20) : lineBad t e = lineBadI t e := by
  unfold lineBad lineBadI
  cases hw : inB 0 ((t.texts.length : Int) - 1) ((t.line.getD e (default : GNote)).what.who) with
  | false => rfl
  | true =>
    rw [said_eq (d := (t.line.getD e (default : GNote)).what) hw]
    generalize (t.line.getD e (default : GNote)).back = a1
    generalize isTextB t _ = a2
    generalize inB 0 _ ((t.line.getD e (default : GNote)).what.no) = a3
    generalize decide ((t.line.getD e (default : GNote)).what.text = _) = a4
    revert a1 a2 a3 a4; decide
theorem logBad_eq {t : GTell} {k : Nat} (hlen : ∀ j, j < t.texts.length → (t.texts.getD j []).length ≤ 20) : logBad t k = logBadI t k := by
  unfold logBad logBadI
  have u : decide (((cnt t k ((t.log.getD k (default : GTold)).who).toNat : Nat) : Int) = (t.log.getD k (default : GTold)).no) = decide ((t.log.getD k (default : GTold)).no = ((cnt t k ((t.log.getD k (default : GTold)).who).toNat : Nat) : Int)) := decide_eq_decide.2 eq_comm
  rw [u]
  cases hw : inB 0 ((t.texts.length : Int) - 1) ((t.log.getD k (default : GTold)).who) with
  | false => rw [said_who hw]; rfl
  | true =>
    rw [said_eq hw]
    generalize isTextB t _ = a2
    generalize decide ((t.log.getD k (default : GTold)).no = _) = a3
    revert a2 a3; decide
theorem v_isTell (t : GTell) : Fn Try.prog 116 [.agg [.lst 1 t.texts.length (fun i0 _ => .lst 1 ((t.texts.getD i0 []).length) (fun i1 _ => .str ((t.texts.getD i0 []).getD i1 ByteArray.empty))), .lst 1 t.heard.length (fun i0 _ => .int .i64 (t.heard.getD i0 0)), .lst 4 t.line.length (fun i0 j0 => ([.bool ((t.line.getD i0 (default : GNote)).back), .int .i64 (((t.line.getD i0 (default : GNote)).what).who), .int .i64 (((t.line.getD i0 (default : GNote)).what).no), .str (((t.line.getD i0 (default : GNote)).what).text)] : List AV).getD j0 (.con undef)), .lst 3 t.log.length (fun i0 j0 => ([.int .i64 ((t.log.getD i0 (default : GTold)).who), .int .i64 ((t.log.getD i0 (default : GTold)).no), .str ((t.log.getD i0 (default : GTold)).text)] : List AV).getD j0 (.con undef)), .lst 1 t.next.length (fun i0 _ => .int .i64 (t.next.getD i0 0))]] (.one (.bool (goodTell t))) := by
  refine Fn.of_body (fn := Try.f116) Try.func116 rfl (Nat.le_of_ble_eq_true rfl) trivial ?_
  intro w0
  show AW _ 168 _ _ _ _
  refine AW.seq ?_
  refine AW.region ?_
  refine ARun.box (id := 0) rfl (.tmp rfl) (SV.cells_of (by exact ⟨trivial, trivial, trivial, trivial, trivial, trivial⟩)) ⟨rfl, (by repeat first | exact trivial | refine ⟨by decide, by first | rfl | exact trivial | (intro i j; first | rfl | exact getD_no rfl | (dsimp only; split <;> first | rfl | exact getD_no rfl)), ?_⟩)⟩ rfl rfl rfl (Nat.le_of_ble_eq_true rfl) ?_
  refine ARun.pure (PureOp.assign rfl .bool) rfl rfl (Nat.le_of_ble_eq_true rfl) ?_
  refine ARun.nil ?_
  refine AW.seq ?_
  refine AW.region ?_
  refine ARun.pure (PureOp.fieldPtr rfl (.tmp rfl) vx_fi_66_0_0) rfl rfl (Nat.le_of_ble_eq_true rfl) ?_
  refine ARun.pure (PureOp.loadPtr rfl (.tmp rfl) vx_pl_62 rfl rfl (Nat.le_of_ble_eq_true rfl) (Nat.le_of_ble_eq_true rfl)) rfl rfl (Nat.le_of_ble_eq_true rfl) ?_
  refine ARun.pure (PureOp.lenLst rfl (.tmp rfl) vx_sl_62) rfl rfl (Nat.le_of_ble_eq_true rfl) ?_
  refine ARun.pure (PureOp.assign rfl (.tmp rfl)) rfl rfl (Nat.le_of_ble_eq_true rfl) ?_
  refine ARun.nil ?_
  refine AW.seq ?_
  refine AW.seq ?_
  refine AW.region ?_
  refine ARun.pure (PureOp.move rfl (.tmp rfl)) rfl rfl (Nat.le_of_ble_eq_true rfl) ?_
  refine ARun.pure (PureOp.call rfl (v_within (t.texts.length : Int) 1 4) ⟨⟨_, (.tmp rfl), .int⟩, ⟨_, .int, .int⟩, ⟨_, .int, .int⟩, trivial⟩ vx_ca_59 trivial) rfl rfl (Nat.le_of_ble_eq_true rfl) ?_
  refine ARun.pure (PureOp.not rfl (.tmp rfl)) rfl rfl (Nat.le_of_ble_eq_true rfl) ?_
  refine ARun.pure (PureOp.move rfl (.tmp rfl)) rfl rfl (Nat.le_of_ble_eq_true rfl) ?_
  refine ARun.gpure (want := false) (.tf rfl) (fun hg1 => PureOp.fieldPtr rfl (.tmp rfl) vx_fi_66_1_1) rfl rfl (Nat.le_of_ble_eq_true rfl) rfl (Nat.le_of_ble_eq_true rfl) ?_
  refine ARun.gpure (want := false) (.tf rfl) (fun hg2 => PureOp.loadPtr rfl (.gtmp rfl hg2) vx_pl_22 rfl rfl (Nat.le_of_ble_eq_true rfl) (Nat.le_of_ble_eq_true rfl)) rfl rfl (Nat.le_of_ble_eq_true rfl) rfl (Nat.le_of_ble_eq_true rfl) ?_
  refine ARun.gpure (want := false) (.tf rfl) (fun hg3 => PureOp.lenLst rfl (.gtmp rfl hg3) vx_sl_22) rfl rfl (Nat.le_of_ble_eq_true rfl) rfl (Nat.le_of_ble_eq_true rfl) ?_
  refine ARun.gpure (want := false) (.tf rfl) (fun hg4 => PureOp.move rfl (.tmp rfl)) rfl rfl (Nat.le_of_ble_eq_true rfl) rfl (Nat.le_of_ble_eq_true rfl) ?_
  refine ARun.gpure (want := false) (.tf rfl) (fun hg5 => PureOp.intOp rfl (.gtmp rfl hg5) (.gtmp rfl hg5) rfl) rfl rfl (Nat.le_of_ble_eq_true rfl) rfl (Nat.le_of_ble_eq_true rfl) ?_
  refine ARun.pure (PureOp.pick rfl (.tmp rfl) (fun _ => .bool) (fun hp7 => .gtmp rfl (not_of hp7))) rfl rfl (Nat.le_of_ble_eq_true rfl) ?_
  refine ARun.pure (PureOp.move rfl (.tmp rfl)) rfl rfl (Nat.le_of_ble_eq_true rfl) ?_
  refine ARun.gpure (want := false) (.tf rfl) (fun hg8 => PureOp.fieldPtr rfl (.tmp rfl) vx_fi_66_4_4) rfl rfl (Nat.le_of_ble_eq_true rfl) rfl (Nat.le_of_ble_eq_true rfl) ?_
  refine ARun.gpure (want := false) (.tf rfl) (fun hg9 => PureOp.loadPtr rfl (.gtmp rfl hg9) vx_pl_22 rfl rfl (Nat.le_of_ble_eq_true rfl) (Nat.le_of_ble_eq_true rfl)) rfl rfl (Nat.le_of_ble_eq_true rfl) rfl (Nat.le_of_ble_eq_true rfl) ?_
  refine ARun.gpure (want := false) (.tf rfl) (fun hg10 => PureOp.lenLst rfl (.gtmp rfl hg10) vx_sl_22) rfl rfl (Nat.le_of_ble_eq_true rfl) rfl (Nat.le_of_ble_eq_true rfl) ?_
  refine ARun.gpure (want := false) (.tf rfl) (fun hg11 => PureOp.move rfl (.tmp rfl)) rfl rfl (Nat.le_of_ble_eq_true rfl) rfl (Nat.le_of_ble_eq_true rfl) ?_
  refine ARun.gpure (want := false) (.tf rfl) (fun hg12 => PureOp.intOp rfl (.gtmp rfl hg12) (.gtmp rfl hg12) rfl) rfl rfl (Nat.le_of_ble_eq_true rfl) rfl (Nat.le_of_ble_eq_true rfl) ?_
  refine ARun.pure (PureOp.pick rfl (.tmp rfl) (fun _ => .bool) (fun hp14 => .gtmp rfl (not_of hp14))) rfl rfl (Nat.le_of_ble_eq_true rfl) ?_
  refine ARun.pure (PureOp.move rfl (.tmp rfl)) rfl rfl (Nat.le_of_ble_eq_true rfl) ?_
  refine ARun.gpure (want := false) (.tf rfl) (fun hg15 => PureOp.fieldPtr rfl (.tmp rfl) vx_fi_66_2_2) rfl rfl (Nat.le_of_ble_eq_true rfl) rfl (Nat.le_of_ble_eq_true rfl) ?_
  refine ARun.gpure (want := false) (.tf rfl) (fun hg16 => PureOp.loadPtr rfl (.gtmp rfl hg16) vx_pl_63 rfl rfl (Nat.le_of_ble_eq_true rfl) (Nat.le_of_ble_eq_true rfl)) rfl rfl (Nat.le_of_ble_eq_true rfl) rfl (Nat.le_of_ble_eq_true rfl) ?_
  refine ARun.gpure (want := false) (.tf rfl) (fun hg17 => PureOp.lenLst rfl (.gtmp rfl hg17) vx_sl_63) rfl rfl (Nat.le_of_ble_eq_true rfl) rfl (Nat.le_of_ble_eq_true rfl) ?_
  refine ARun.gpure (want := false) (.tf rfl) (fun hg18 => PureOp.intOp rfl (.gtmp rfl hg18) .int rfl) rfl rfl (Nat.le_of_ble_eq_true rfl) rfl (Nat.le_of_ble_eq_true rfl) ?_
  refine ARun.pure (PureOp.pick rfl (.tmp rfl) (fun _ => .bool) (fun hp20 => .gtmp rfl (not_of hp20))) rfl rfl (Nat.le_of_ble_eq_true rfl) ?_
  refine ARun.nil ?_
  refine AW.cond (.tmp rfl) (fun hb21 => ?_) (fun hb21 => ?_)
  · have _u := True.intro
    refine AW.seq ?_
    refine AW.region ?_
    refine ARun.pure (PureOp.assign rfl .bool) rfl rfl (Nat.le_of_ble_eq_true rfl) ?_
    refine ARun.nil ?_
    refine AW.ret (show ResL _ _ [.tmp 2] _ from resB rfl ?_)
    have hf : tellHead t = false := by
      rw [← Bool.not_eq_true]
      intro hh
      simp only [tellHead, Bool.and_eq_true, decide_eq_true_eq] at hh
      obtain ⟨g0, g1, g2, g3⟩ := hh
      rw [g0] at hb21
      simp only [Bool.cond_true_left, Bool.or_eq_true, Bool.not_eq_true', decide_eq_true_eq, decide_eq_false_iff_not] at hb21
      simp only [Bool.true_eq_false, false_or, or_false] at hb21
      omega
    unfold goodTell; rw [hf]; rfl
  · have _u := True.intro
    simp only [Bool.cond_true_left, Bool.or_eq_false_iff, Bool.not_eq_false', decide_eq_true_eq, decide_eq_false_iff_not] at hb21
    obtain ⟨⟨⟨q0, q1⟩, q2⟩, q3⟩ := hb21
    have hn4 : t.texts.length ≤ 4 := by have := (inB_true q0).2; omega
    have q1' : t.heard.length = t.texts.length := by omega
    have q2' : t.next.length = t.texts.length := by omega
    have q3' : t.line.length ≤ 30 := by omega
    have hH : tellHead t = true := by
      simp only [tellHead, Bool.and_eq_true, decide_eq_true_eq]
      exact ⟨q0, q1', q2', q3'⟩
    clear q0 q1 q2 q3
    refine AW.skip ?_
    refine AW.seq ?_
    refine AW.seq ?_
    refine AW.region ?_
    refine ARun.pure (PureOp.fieldPtr rfl (.tmp rfl) vx_fi_66_0_0) rfl rfl (Nat.le_of_ble_eq_true rfl) ?_
    refine ARun.pure (PureOp.loadPtr rfl (.tmp rfl) vx_pl_62 rfl rfl (Nat.le_of_ble_eq_true rfl) (Nat.le_of_ble_eq_true rfl)) rfl rfl (Nat.le_of_ble_eq_true rfl) ?_
    refine ARun.pure (PureOp.lenLst rfl (.tmp rfl) vx_sl_62) rfl rfl (Nat.le_of_ble_eq_true rfl) ?_
    refine ARun.pure (PureOp.move rfl .int) rfl rfl (Nat.le_of_ble_eq_true rfl) ?_
    refine ARun.nil ?_
    refine AW.block ?_
    refine AW.loop (ι := Nat) (fun i => ⟨[(1, .one (.ptr 0 5 0 0)), (3, .one (.int .i64 (t.texts.length : Int))), (39, .one (.lst 1 t.texts.length (fun i0 _ => .lst 1 ((t.texts.getD i0 []).length) (fun i1 _ => .str ((t.texts.getD i0 []).getD i1 ByteArray.empty))))), (40, .one (.int .i64 (t.texts.length : Int))), (41, .one (.int .i64 (i : Int)))], [(0, .cells [.lst 1 t.texts.length (fun i0 _ => .lst 1 ((t.texts.getD i0 []).length) (fun i1 _ => .str ((t.texts.getD i0 []).getD i1 ByteArray.empty))), .lst 1 t.heard.length (fun i0 _ => .int .i64 (t.heard.getD i0 0)), .lst 4 t.line.length (fun i0 j0 => ([.bool ((t.line.getD i0 (default : GNote)).back), .int .i64 (((t.line.getD i0 (default : GNote)).what).who), .int .i64 (((t.line.getD i0 (default : GNote)).what).no), .str (((t.line.getD i0 (default : GNote)).what).text)] : List AV).getD j0 (.con undef)), .lst 3 t.log.length (fun i0 j0 => ([.int .i64 ((t.log.getD i0 (default : GTold)).who), .int .i64 ((t.log.getD i0 (default : GTold)).no), .str ((t.log.getD i0 (default : GTold)).text)] : List AV).getD j0 (.con undef)), .lst 1 t.next.length (fun i0 _ => .int .i64 (t.next.getD i0 0))])]⟩) (fun i => i ≤ t.texts.length ∧ ∀ j, j < i → rowBad t j = false) (fun i => t.texts.length - i) 0 ⟨Nat.zero_le _, fun j hj => absurd hj (by omega)⟩ ⟨⟨⟨_, rfl, rfl⟩, ⟨_, rfl, rfl⟩, ⟨_, rfl, rfl⟩, ⟨_, rfl, rfl⟩, ⟨_, rfl, rfl⟩, trivial⟩, HeapLe.one rfl trivial⟩ ?_
    intro i hI
    obtain ⟨hi, his⟩ := hI
    refine AW.seq ?_
    refine AW.region ?_
    refine ARun.pure (PureOp.intOp rfl (.tmp rfl) (.tmp rfl) rfl) rfl rfl (Nat.le_of_ble_eq_true rfl) ?_
    refine ARun.nil ?_
    refine AW.seq ?_
    refine AW.cond (.tmp rfl) (fun hb22 => ?_) (fun hb22 => ?_)
    · have _u := True.intro
      replace hb22 := of_decide_eq_true hb22
      have hil : i < t.texts.length := by omega
      refine AW.skip ?_
      refine AW.seq ?_
      refine AW.block ?_
      refine AW.seq ?_
      refine AW.region ?_
      refine ARun.pure (PureOp.move rfl (.tmp rfl)) rfl rfl (Nat.le_of_ble_eq_true rfl) ?_
      refine ARun.pure (PureOp.indexLst (i := i) rfl (.tmp rfl) vx_el_62_1 (.tmp rfl) rfl (by omega)) rfl rfl (Nat.le_of_ble_eq_true rfl) ?_
      refine ARun.pure (PureOp.loadRef rfl (.tmp rfl) vx_pl_80 (Nat.le_of_ble_eq_true rfl)) rfl rfl (Nat.le_of_ble_eq_true rfl) ?_
      refine ARun.pure (PureOp.assign rfl (.tmp rfl)) rfl rfl (Nat.le_of_ble_eq_true rfl) ?_
      refine ARun.pure (PureOp.assign rfl (.tmp rfl)) rfl rfl (Nat.le_of_ble_eq_true rfl) ?_
      refine ARun.nil ?_
      refine AW.seq ?_
      refine AW.any (by kernel_rfl) (by kernel_rfl) ?_
      refine AD.pure (PureOp.move rfl (.tmp rfl)) rfl rfl (Nat.le_of_ble_eq_true rfl) ?_
      refine AD.pure (PureOp.lenLst rfl (.tmp rfl) vx_sl_80) rfl rfl (Nat.le_of_ble_eq_true rfl) ?_
      refine AD.pure (PureOp.intOp rfl (.tmp rfl) .int rfl) rfl rfl (Nat.le_of_ble_eq_true rfl) ?_
      refine AD.pure (PureOp.move rfl (.tmp rfl)) rfl rfl (Nat.le_of_ble_eq_true rfl) ?_
      refine AD.gpure (want := false) (.tf rfl) (fun hg23 => PureOp.move rfl (.tmp rfl)) rfl rfl rfl (Nat.le_of_ble_eq_true rfl) ?_
      refine AD.gpure (want := false) (.tf rfl) (fun hg24 => PureOp.call rfl (v_ContainsFunc_String (t.texts.getD i []) 146 0 (fun _ => .con undef) (fun s => decide ((20 : Int) < (s.size : Int))) (fun j h => absurd h (by omega)) vx_ca_146 (fun k hk => v_isTell1 _)) ⟨⟨_, (.gtmp rfl hg24), .lst⟩, ⟨_, .func, (.fn (fun j h => absurd h (by omega)))⟩, trivial⟩ vx_ca_145 trivial) rfl rfl rfl (Nat.le_of_ble_eq_true rfl) ?_
      refine AD.pure (PureOp.pick rfl (.tmp rfl) (fun _ => .bool) (fun hp26 => .gtmp rfl (not_of hp26))) rfl rfl (Nat.le_of_ble_eq_true rfl) ?_
      refine AD.pure (PureOp.move rfl (.tmp rfl)) rfl rfl (Nat.le_of_ble_eq_true rfl) ?_
      refine AD.gpure (want := false) (.tf rfl) (fun hg27 => PureOp.fieldPtr rfl (.tmp rfl) vx_fi_66_4_4) rfl rfl rfl (Nat.le_of_ble_eq_true rfl) ?_
      refine AD.gpure (want := false) (.tf rfl) (fun hg28 => PureOp.loadPtr rfl (.gtmp rfl hg28) vx_pl_22 rfl rfl (Nat.le_of_ble_eq_true rfl) (Nat.le_of_ble_eq_true rfl)) rfl rfl rfl (Nat.le_of_ble_eq_true rfl) ?_
      refine AD.gpure (want := false) (.tf rfl) (fun hg29 => PureOp.move rfl (.tmp rfl)) rfl rfl rfl (Nat.le_of_ble_eq_true rfl) ?_
      refine AD.gpure (want := false) (.tf rfl) (fun hg30 => PureOp.indexLst (i := i) rfl (.gtmp rfl hg30) vx_el_22_1 (.gtmp rfl hg30) rfl (by have q := hg30; simp only [Bool.cond_true_left, Bool.cond_false_right, Bool.not_eq_true', Bool.or_eq_false_iff, Bool.not_eq_false', Bool.and_eq_true, Bool.not_not, decide_eq_true_eq, decide_eq_false_iff_not, inB] at q; (try have q' := saidB_who q); first | omega | (simp only [List.getD_eq_getElem?_getD] at *; omega))) rfl rfl rfl (Nat.le_of_ble_eq_true rfl) ?_
      refine AD.gpure (want := false) (.tf rfl) (fun hg31 => PureOp.loadRef rfl (.gtmp rfl hg31) vx_pl_3 (Nat.le_of_ble_eq_true rfl)) rfl rfl rfl (Nat.le_of_ble_eq_true rfl) ?_
      refine AD.gpure (want := false) (.tf rfl) (fun hg32 => PureOp.move rfl (.tmp rfl)) rfl rfl rfl (Nat.le_of_ble_eq_true rfl) ?_
      refine AD.gpure (want := false) (.tf rfl) (fun hg33 => PureOp.lenLst rfl (.gtmp rfl hg33) vx_sl_80) rfl rfl rfl (Nat.le_of_ble_eq_true rfl) ?_
      refine AD.gpure (want := false) (.tf rfl) (fun hg34 => PureOp.call rfl (v_within (t.next.getD i 0) 0 (((t.texts.getD i []).length : Nat) : Int)) ⟨⟨_, (.gtmp rfl hg34), .int⟩, ⟨_, .int, .int⟩, ⟨_, (.gtmp rfl hg34), .int⟩, trivial⟩ vx_ca_59 trivial) rfl rfl rfl (Nat.le_of_ble_eq_true rfl) ?_
      refine AD.gpure (want := false) (.tf rfl) (fun hg35 => PureOp.not rfl (.gtmp rfl hg35)) rfl rfl rfl (Nat.le_of_ble_eq_true rfl) ?_
      refine AD.pure (PureOp.pick rfl (.tmp rfl) (fun _ => .bool) (fun hp37 => .gtmp rfl (not_of hp37))) rfl rfl (Nat.le_of_ble_eq_true rfl) ?_
      refine AD.pure (PureOp.move rfl (.tmp rfl)) rfl rfl (Nat.le_of_ble_eq_true rfl) ?_
      refine AD.gpure (want := false) (.tf rfl) (fun hg38 => PureOp.fieldPtr rfl (.tmp rfl) vx_fi_66_1_1) rfl rfl rfl (Nat.le_of_ble_eq_true rfl) ?_
      refine AD.gpure (want := false) (.tf rfl) (fun hg39 => PureOp.loadPtr rfl (.gtmp rfl hg39) vx_pl_22 rfl rfl (Nat.le_of_ble_eq_true rfl) (Nat.le_of_ble_eq_true rfl)) rfl rfl rfl (Nat.le_of_ble_eq_true rfl) ?_
      refine AD.gpure (want := false) (.tf rfl) (fun hg40 => PureOp.move rfl (.tmp rfl)) rfl rfl rfl (Nat.le_of_ble_eq_true rfl) ?_
      refine AD.gpure (want := false) (.tf rfl) (fun hg41 => PureOp.indexLst (i := i) rfl (.gtmp rfl hg41) vx_el_22_1 (.gtmp rfl hg41) rfl (by have q := hg41; simp only [Bool.cond_true_left, Bool.cond_false_right, Bool.not_eq_true', Bool.or_eq_false_iff, Bool.not_eq_false', Bool.and_eq_true, Bool.not_not, decide_eq_true_eq, decide_eq_false_iff_not, inB] at q; (try have q' := saidB_who q); first | omega | (simp only [List.getD_eq_getElem?_getD] at *; omega))) rfl rfl rfl (Nat.le_of_ble_eq_true rfl) ?_
      refine AD.gpure (want := false) (.tf rfl) (fun hg42 => PureOp.loadRef rfl (.gtmp rfl hg42) vx_pl_3 (Nat.le_of_ble_eq_true rfl)) rfl rfl rfl (Nat.le_of_ble_eq_true rfl) ?_
      refine AD.gpure (want := false) (.tf rfl) (fun hg43 => PureOp.fieldPtr rfl (.tmp rfl) vx_fi_66_4_4) rfl rfl rfl (Nat.le_of_ble_eq_true rfl) ?_
      refine AD.gpure (want := false) (.tf rfl) (fun hg44 => PureOp.loadPtr rfl (.gtmp rfl hg44) vx_pl_22 rfl rfl (Nat.le_of_ble_eq_true rfl) (Nat.le_of_ble_eq_true rfl)) rfl rfl rfl (Nat.le_of_ble_eq_true rfl) ?_
      refine AD.gpure (want := false) (.tf rfl) (fun hg45 => PureOp.move rfl (.tmp rfl)) rfl rfl rfl (Nat.le_of_ble_eq_true rfl) ?_
      refine AD.gpure (want := false) (.tf rfl) (fun hg46 => PureOp.indexLst (i := i) rfl (.gtmp rfl hg46) vx_el_22_1 (.gtmp rfl hg46) rfl (by have q := hg46; simp only [Bool.cond_true_left, Bool.cond_false_right, Bool.not_eq_true', Bool.or_eq_false_iff, Bool.not_eq_false', Bool.and_eq_true, Bool.not_not, decide_eq_true_eq, decide_eq_false_iff_not, inB] at q; (try have q' := saidB_who q); first | omega | (simp only [List.getD_eq_getElem?_getD] at *; omega))) rfl rfl rfl (Nat.le_of_ble_eq_true rfl) ?_
      refine AD.gpure (want := false) (.tf rfl) (fun hg47 => PureOp.loadRef rfl (.gtmp rfl hg47) vx_pl_3 (Nat.le_of_ble_eq_true rfl)) rfl rfl rfl (Nat.le_of_ble_eq_true rfl) ?_
      refine AD.gpure (want := false) (.tf rfl) (fun hg48 => PureOp.call rfl (v_within (t.heard.getD i 0) 0 (t.next.getD i 0)) ⟨⟨_, (.gtmp rfl hg48), .int⟩, ⟨_, .int, .int⟩, ⟨_, (.gtmp rfl hg48), .int⟩, trivial⟩ vx_ca_59 trivial) rfl rfl rfl (Nat.le_of_ble_eq_true rfl) ?_
      refine AD.gpure (want := false) (.tf rfl) (fun hg49 => PureOp.not rfl (.gtmp rfl hg49)) rfl rfl rfl (Nat.le_of_ble_eq_true rfl) ?_
      refine AD.pure (PureOp.pick rfl (.tmp rfl) (fun _ => .bool) (fun hp51 => .gtmp rfl (not_of hp51))) rfl rfl (Nat.le_of_ble_eq_true rfl) ?_
      refine AD.nil ?_
      refine AW.cond (.tmp rfl) (fun hb52 => ?_) (fun hb52 => ?_)
      · have _u := True.intro
        have hrb : rowBad t i = true := (rowBad_eq t i).trans hb52
        refine AW.seq ?_
        refine AW.region ?_
        refine ARun.pure (PureOp.assign rfl .bool) rfl rfl (Nat.le_of_ble_eq_true rfl) ?_
        refine ARun.nil ?_
        refine AW.ret (show ResL _ _ [.tmp 2] _ from resB rfl ?_)
        have hN : (List.range t.texts.length).all (fun j => !rowBad t j) = false := rng_no hil (by rw [hrb]; rfl)
        unfold goodTell; rw [hN]; simp only [Bool.and_false, Bool.false_and]
      · have _u := True.intro
        have hrb : rowBad t i = false := (rowBad_eq t i).trans hb52
        refine AW.skip ?_
        refine AW.region ?_
        refine ARun.pure (PureOp.add (c := ((i + 1 : Nat) : Int)) rfl (.tmp rfl) .int (by rw [wrap_id (by omega) (by omega)]; omega)) rfl rfl (Nat.le_of_ble_eq_true rfl) ?_
        refine ARun.pure (PureOp.move rfl (.tmp rfl)) rfl rfl (Nat.le_of_ble_eq_true rfl) ?_
        refine ARun.nil ?_
        exact ⟨i + 1, ⟨by omega, rng_succ (p := fun j => rowBad t j = false) his hrb⟩, by dsimp only; omega, ⟨⟨⟨_, rfl, rfl⟩, ⟨_, rfl, rfl⟩, ⟨_, rfl, rfl⟩, ⟨_, rfl, rfl⟩, ⟨_, rfl, rfl⟩, trivial⟩, HeapLe.one rfl trivial⟩⟩
    · have _u := True.intro
      replace hb22 := of_decide_eq_false hb22
      have hil : ¬ i < t.texts.length := by omega
      have hA0 : (List.range t.texts.length).all (fun j => !rowBad t j) = true := rng_yes (fun j hj => by rw [his j (by omega)]; rfl)
      have hlen : ∀ j, j < t.texts.length → (t.texts.getD j []).length ≤ 20 := fun j hj => rowBad_len (his j (by omega))
      refine AW.exit ?_
      refine AW.seq ?_
      refine AW.seq ?_
      refine AW.region ?_
      refine ARun.pure (PureOp.fieldPtr rfl (.tmp rfl) vx_fi_66_2_2) rfl rfl (Nat.le_of_ble_eq_true rfl) ?_
      refine ARun.pure (PureOp.loadPtr rfl (.tmp rfl) vx_pl_63 rfl rfl (Nat.le_of_ble_eq_true rfl) (Nat.le_of_ble_eq_true rfl)) rfl rfl (Nat.le_of_ble_eq_true rfl) ?_
      refine ARun.pure (PureOp.lenLst rfl (.tmp rfl) vx_sl_63) rfl rfl (Nat.le_of_ble_eq_true rfl) ?_
      refine ARun.pure (PureOp.move rfl .int) rfl rfl (Nat.le_of_ble_eq_true rfl) ?_
      refine ARun.nil ?_
      refine AW.block ?_
      refine AW.loop (ι := Nat) (fun e => ⟨[(1, .one (.ptr 0 5 0 0)), (3, .one (.int .i64 (t.texts.length : Int))), (80, .one (.lst 4 t.line.length (fun i0 j0 => ([.bool ((t.line.getD i0 (default : GNote)).back), .int .i64 (((t.line.getD i0 (default : GNote)).what).who), .int .i64 (((t.line.getD i0 (default : GNote)).what).no), .str (((t.line.getD i0 (default : GNote)).what).text)] : List AV).getD j0 (.con undef)))), (81, .one (.int .i64 (t.line.length : Int))), (82, .one (.int .i64 (e : Int)))], [(0, .cells [.lst 1 t.texts.length (fun i0 _ => .lst 1 ((t.texts.getD i0 []).length) (fun i1 _ => .str ((t.texts.getD i0 []).getD i1 ByteArray.empty))), .lst 1 t.heard.length (fun i0 _ => .int .i64 (t.heard.getD i0 0)), .lst 4 t.line.length (fun i0 j0 => ([.bool ((t.line.getD i0 (default : GNote)).back), .int .i64 (((t.line.getD i0 (default : GNote)).what).who), .int .i64 (((t.line.getD i0 (default : GNote)).what).no), .str (((t.line.getD i0 (default : GNote)).what).text)] : List AV).getD j0 (.con undef)), .lst 3 t.log.length (fun i0 j0 => ([.int .i64 ((t.log.getD i0 (default : GTold)).who), .int .i64 ((t.log.getD i0 (default : GTold)).no), .str ((t.log.getD i0 (default : GTold)).text)] : List AV).getD j0 (.con undef)), .lst 1 t.next.length (fun i0 _ => .int .i64 (t.next.getD i0 0))])]⟩) (fun e => e ≤ t.line.length ∧ ∀ j, j < e → lineBad t j = false) (fun e => t.line.length - e) 0 ⟨Nat.zero_le _, fun j hj => absurd hj (by omega)⟩ ⟨⟨⟨_, rfl, rfl⟩, ⟨_, rfl, rfl⟩, ⟨_, rfl, rfl⟩, ⟨_, rfl, rfl⟩, ⟨_, rfl, rfl⟩, trivial⟩, HeapLe.one rfl trivial⟩ ?_
      intro e hI
      obtain ⟨he, hes⟩ := hI
      refine AW.seq ?_
      refine AW.region ?_
      refine ARun.pure (PureOp.intOp rfl (.tmp rfl) (.tmp rfl) rfl) rfl rfl (Nat.le_of_ble_eq_true rfl) ?_
      refine ARun.nil ?_
      refine AW.seq ?_
      refine AW.cond (.tmp rfl) (fun hb53 => ?_) (fun hb53 => ?_)
      · have _u := True.intro
        replace hb53 := of_decide_eq_true hb53
        have hel : e < t.line.length := by omega
        refine AW.skip ?_
        refine AW.seq ?_
        refine AW.block ?_
        refine AW.seq ?_
        refine AW.region ?_
        refine ARun.pure (PureOp.indexLst (i := e) rfl (.tmp rfl) vx_el_63_4 (.tmp rfl) rfl (by omega)) rfl rfl (Nat.le_of_ble_eq_true rfl) ?_
        refine ARun.pure (PureOp.loadRefAgg rfl (.tmp rfl) vx_ag_127_4 (Nat.le_of_ble_eq_true rfl)) rfl rfl (Nat.le_of_ble_eq_true rfl) ?_
        refine ARun.alloc (id := 1) (l := [.bool false, .int .i64 0, .int .i64 0, .str ByteArray.empty]) (z := (.agg #[.bool false, .int .i64 0, .int .i64 0, .string ByteArray.empty])) rfl (by kernel_rfl) (fun _ _ _ => ⟨_, _, rfl, rfl, ⟨_, _, rfl, rfl, ⟨_, _, rfl, rfl, ⟨_, _, rfl, ⟨rfl, by decide⟩, rfl⟩⟩⟩⟩) ⟨rfl, (by repeat first | exact trivial | refine ⟨by decide, by first | rfl | exact trivial | (intro i j; first | rfl | exact getD_no rfl | (dsimp only; split <;> first | rfl | exact getD_no rfl)), ?_⟩)⟩ rfl rfl rfl (Nat.le_of_ble_eq_true rfl) ?_
        refine ARun.store rfl (.tmp rfl) (.tmp rfl) (SV.cells_of (by exact ⟨trivial, trivial, trivial, trivial, trivial⟩)) rfl (Nat.le_of_ble_eq_true rfl) vx_sz_127_4 rfl rfl ?_
        refine ARun.nil ?_
        refine AW.seq ?_
        refine AW.region ?_
        refine ARun.pure (PureOp.fieldPtr rfl (.tmp rfl) vx_fi_127_1_1) rfl rfl (Nat.le_of_ble_eq_true rfl) ?_
        refine ARun.pure (PureOp.loadPtrAgg rfl (.tmp rfl) vx_ag_125_3 rfl rfl (Nat.le_of_ble_eq_true rfl) (Nat.le_of_ble_eq_true rfl)) rfl rfl (Nat.le_of_ble_eq_true rfl) ?_
        refine ARun.alloc (id := 2) (l := [.int .i64 0, .int .i64 0, .str ByteArray.empty]) (z := (.agg #[.int .i64 0, .int .i64 0, .string ByteArray.empty])) rfl (by kernel_rfl) (fun _ _ _ => ⟨_, _, rfl, rfl, ⟨_, _, rfl, rfl, ⟨_, _, rfl, ⟨rfl, by decide⟩, rfl⟩⟩⟩) ⟨rfl, (by repeat first | exact trivial | refine ⟨by decide, by first | rfl | exact trivial | (intro i j; first | rfl | exact getD_no rfl | (dsimp only; split <;> first | rfl | exact getD_no rfl)), ?_⟩)⟩ rfl rfl rfl (Nat.le_of_ble_eq_true rfl) ?_
        refine ARun.store rfl (.tmp rfl) (.tmp rfl) (SV.cells_of (by exact ⟨trivial, trivial, trivial, trivial⟩)) rfl (Nat.le_of_ble_eq_true rfl) vx_sz_125_3 rfl rfl ?_
        refine ARun.nil ?_
        refine AW.seq ?_
        refine AW.any (by kernel_rfl) (by kernel_rfl) ?_
        refine AD.pure (PureOp.fieldPtr rfl (.tmp rfl) vx_fi_125_0_0) rfl rfl (Nat.le_of_ble_eq_true rfl) ?_
        refine AD.pure (PureOp.loadPtr rfl (.tmp rfl) vx_pl_3 rfl rfl (Nat.le_of_ble_eq_true rfl) (Nat.le_of_ble_eq_true rfl)) rfl rfl (Nat.le_of_ble_eq_true rfl) ?_
        refine AD.pure (PureOp.move rfl (.tmp rfl)) rfl rfl (Nat.le_of_ble_eq_true rfl) ?_
        refine AD.pure (PureOp.sub (c := (t.texts.length : Int) - 1) rfl (.tmp rfl) .int (wrap_id (by omega) (by omega))) rfl rfl (Nat.le_of_ble_eq_true rfl) ?_
        refine AD.pure (PureOp.call rfl (v_within (((t.line.getD e (default : GNote)).what).who) 0 ((t.texts.length : Int) - 1)) ⟨⟨_, (.tmp rfl), .int⟩, ⟨_, .int, .int⟩, ⟨_, (.tmp rfl), .int⟩, trivial⟩ vx_ca_59 trivial) rfl rfl (Nat.le_of_ble_eq_true rfl) ?_
        refine AD.pure (PureOp.not rfl (.tmp rfl)) rfl rfl (Nat.le_of_ble_eq_true rfl) ?_
        refine AD.pure (PureOp.move rfl (.tmp rfl)) rfl rfl (Nat.le_of_ble_eq_true rfl) ?_
        refine AD.gpure (want := false) (.tf rfl) (fun hg54 => PureOp.fieldPtr rfl (.tmp rfl) vx_fi_127_0_0) rfl rfl rfl (Nat.le_of_ble_eq_true rfl) ?_
        refine AD.gpure (want := false) (.tf rfl) (fun hg55 => PureOp.loadPtr rfl (.gtmp rfl hg55) vx_pl_4 rfl rfl (Nat.le_of_ble_eq_true rfl) (Nat.le_of_ble_eq_true rfl)) rfl rfl rfl (Nat.le_of_ble_eq_true rfl) ?_
        refine AD.gpure (want := false) (.tf rfl) (fun hg56 => PureOp.move rfl (.gtmp rfl hg56)) rfl rfl rfl (Nat.le_of_ble_eq_true rfl) ?_
        refine AD.gpure (want := true) (.gt rfl) (fun hg57 => PureOp.fieldPtr rfl (.tmp rfl) vx_fi_125_1_1) rfl rfl rfl (Nat.le_of_ble_eq_true rfl) ?_
        refine AD.gpure (want := true) (.gt rfl) (fun hg58 => PureOp.loadPtr rfl (.gtmp rfl hg58) vx_pl_3 rfl rfl (Nat.le_of_ble_eq_true rfl) (Nat.le_of_ble_eq_true rfl)) rfl rfl rfl (Nat.le_of_ble_eq_true rfl) ?_
        refine AD.gpure (want := true) (.gt rfl) (fun hg59 => PureOp.fieldPtr rfl (.tmp rfl) vx_fi_66_4_4) rfl rfl rfl (Nat.le_of_ble_eq_true rfl) ?_
        refine AD.gpure (want := true) (.gt rfl) (fun hg60 => PureOp.loadPtr rfl (.gtmp rfl hg60) vx_pl_22 rfl rfl (Nat.le_of_ble_eq_true rfl) (Nat.le_of_ble_eq_true rfl)) rfl rfl rfl (Nat.le_of_ble_eq_true rfl) ?_
        refine AD.gpure (want := true) (.gt rfl) (fun hg61 => PureOp.fieldPtr rfl (.tmp rfl) vx_fi_125_0_0) rfl rfl rfl (Nat.le_of_ble_eq_true rfl) ?_
        refine AD.gpure (want := true) (.gt rfl) (fun hg62 => PureOp.loadPtr rfl (.gtmp rfl hg62) vx_pl_3 rfl rfl (Nat.le_of_ble_eq_true rfl) (Nat.le_of_ble_eq_true rfl)) rfl rfl rfl (Nat.le_of_ble_eq_true rfl) ?_
        refine AD.gpure (want := true) (.gt rfl) (fun hg63 => PureOp.indexLst (i := (((t.line.getD e (default : GNote)).what).who).toNat) rfl (.gtmp rfl hg63) vx_el_22_1 (.gtmp rfl hg63) (by have q := hg63; simp only [Bool.cond_true_left, Bool.cond_false_right, Bool.not_eq_true', Bool.or_eq_false_iff, Bool.not_eq_false', Bool.and_eq_true, Bool.not_not, decide_eq_true_eq, decide_eq_false_iff_not, inB] at q; (try have q' := saidB_who q); omega) (by have q := hg63; simp only [Bool.cond_true_left, Bool.cond_false_right, Bool.not_eq_true', Bool.or_eq_false_iff, Bool.not_eq_false', Bool.and_eq_true, Bool.not_not, decide_eq_true_eq, decide_eq_false_iff_not, inB] at q; (try have q' := saidB_who q); omega)) rfl rfl rfl (Nat.le_of_ble_eq_true rfl) ?_
        refine AD.gpure (want := true) (.gt rfl) (fun hg64 => PureOp.loadRef rfl (.gtmp rfl hg64) vx_pl_3 (Nat.le_of_ble_eq_true rfl)) rfl rfl rfl (Nat.le_of_ble_eq_true rfl) ?_
        refine AD.gpure (want := true) (.gt rfl) (fun hg65 => PureOp.call rfl (v_within (((t.line.getD e (default : GNote)).what).no) 0 (t.next.getD ((((t.line.getD e (default : GNote)).what).who).toNat) 0)) ⟨⟨_, (.gtmp rfl hg65), .int⟩, ⟨_, .int, .int⟩, ⟨_, (.gtmp rfl hg65), .int⟩, trivial⟩ vx_ca_59 trivial) rfl rfl rfl (Nat.le_of_ble_eq_true rfl) ?_
        refine AD.gpure (want := true) (.gt rfl) (fun hg66 => PureOp.not rfl (.gtmp rfl hg66)) rfl rfl rfl (Nat.le_of_ble_eq_true rfl) ?_
        refine AD.gpure (want := true) (.gt rfl) (fun hg67 => PureOp.move rfl (.gtmp rfl hg67)) rfl rfl rfl (Nat.le_of_ble_eq_true rfl) ?_
        refine AD.gpure (want := false) (.gf rfl) (fun hg68 => PureOp.fieldPtr rfl (.tmp rfl) vx_fi_125_2_2) rfl rfl rfl (Nat.le_of_ble_eq_true rfl) ?_
        refine AD.gpure (want := false) (.gf rfl) (fun hg69 => PureOp.loadPtr rfl (.gtmp rfl hg69) vx_pl_9 rfl rfl (Nat.le_of_ble_eq_true rfl) (Nat.le_of_ble_eq_true rfl)) rfl rfl rfl (Nat.le_of_ble_eq_true rfl) ?_
        refine AD.gpure (want := false) (.gf rfl) (fun hg70 => PureOp.strOp rfl (.gtmp rfl hg70) (.str (by decide)) rfl) rfl rfl rfl (Nat.le_of_ble_eq_true rfl) ?_
        refine AD.gpure (want := true) (.gt rfl) (fun hg71 => PureOp.pick rfl (.gtmp rfl hg71) (fun _ => .bool) (fun hp73 => .gtmp rfl (and_mk hg71 (not_of hp73)))) rfl rfl rfl (Nat.le_of_ble_eq_true rfl) ?_
        refine AD.gpure (want := false) (.tf rfl) (fun hg74 => PureOp.pick rfl (.gtmp rfl hg74) (fun hp75 => .gtmp rfl (and_mk hg74 hp75)) (fun _ => .bool)) rfl rfl rfl (Nat.le_of_ble_eq_true rfl) ?_
        refine AD.pure (PureOp.pick rfl (.tmp rfl) (fun _ => .bool) (fun hp78 => .gtmp rfl (not_of hp78))) rfl rfl (Nat.le_of_ble_eq_true rfl) ?_
        refine AD.pure (PureOp.move rfl (.tmp rfl)) rfl rfl (Nat.le_of_ble_eq_true rfl) ?_
        refine AD.gpure (want := false) (.tf rfl) (fun hg79 => PureOp.fieldPtr rfl (.tmp rfl) vx_fi_127_0_0) rfl rfl rfl (Nat.le_of_ble_eq_true rfl) ?_
        refine AD.gpure (want := false) (.tf rfl) (fun hg80 => PureOp.loadPtr rfl (.gtmp rfl hg80) vx_pl_4 rfl rfl (Nat.le_of_ble_eq_true rfl) (Nat.le_of_ble_eq_true rfl)) rfl rfl rfl (Nat.le_of_ble_eq_true rfl) ?_
        refine AD.gpure (want := false) (.tf rfl) (fun hg81 => PureOp.not rfl (.gtmp rfl hg81)) rfl rfl rfl (Nat.le_of_ble_eq_true rfl) ?_
        refine AD.gpure (want := false) (.tf rfl) (fun hg82 => PureOp.move rfl (.gtmp rfl hg82)) rfl rfl rfl (Nat.le_of_ble_eq_true rfl) ?_
        refine AD.gpure (want := true) (.gt rfl) (fun hg83 => PureOp.loadPtrAgg rfl (.tmp rfl) vx_ag_125_3 rfl rfl (Nat.le_of_ble_eq_true rfl) (Nat.le_of_ble_eq_true rfl)) rfl rfl rfl (Nat.le_of_ble_eq_true rfl) ?_
        refine AD.gpure (want := true) (.gt rfl) (fun hg84 => PureOp.call rfl (v_isText t ((t.line.getD e (default : GNote)).what) (by have q := hg84; simp only [Bool.cond_true_left, Bool.cond_false_right, Bool.not_eq_true', Bool.or_eq_false_iff, Bool.not_eq_false', Bool.and_eq_true, Bool.not_not, decide_eq_true_eq, decide_eq_false_iff_not, inB] at q; (try have q' := saidB_who q); omega) (hlen _ (by have q := hg84; simp only [Bool.cond_true_left, Bool.cond_false_right, Bool.not_eq_true', Bool.or_eq_false_iff, Bool.not_eq_false', Bool.and_eq_true, Bool.not_not, decide_eq_true_eq, decide_eq_false_iff_not, inB] at q; (try have q' := saidB_who q); omega))) ⟨⟨_, (.tmp rfl), (.ptr (m := 5) rfl rfl (Nat.le_of_ble_eq_true rfl) (Nat.le_of_ble_eq_true rfl) (fun | 0, _ => .lst | 1, _ => .lst | 2, _ => .lst | 3, _ => .lst | 4, _ => .lst | _ + 5, h => absurd h (by omega)))⟩, ⟨_, (.gtmp rfl hg84), ⟨.int, .int, .str, trivial⟩⟩, trivial⟩ vx_ca_147 trivial) rfl rfl rfl (Nat.le_of_ble_eq_true rfl) ?_
        refine AD.gpure (want := true) (.gt rfl) (fun hg85 => PureOp.not rfl (.gtmp rfl hg85)) rfl rfl rfl (Nat.le_of_ble_eq_true rfl) ?_
        refine AD.gpure (want := false) (.tf rfl) (fun hg86 => PureOp.pick rfl (.gtmp rfl hg86) (fun hp87 => .gtmp rfl (and_mk hg86 hp87)) (fun _ => .bool)) rfl rfl rfl (Nat.le_of_ble_eq_true rfl) ?_
        refine AD.pure (PureOp.pick rfl (.tmp rfl) (fun _ => .bool) (fun hp90 => .gtmp rfl (not_of hp90))) rfl rfl (Nat.le_of_ble_eq_true rfl) ?_
        refine AD.nil ?_
        refine AW.cond (.tmp rfl) (fun hb91 => ?_) (fun hb91 => ?_)
        · have _u := True.intro
          have hlb : lineBad t e = true := (lineBad_eq hlen).trans hb91
          refine AW.seq ?_
          refine AW.region ?_
          refine ARun.pure (PureOp.assign rfl .bool) rfl rfl (Nat.le_of_ble_eq_true rfl) ?_
          refine ARun.nil ?_
          refine AW.ret (show ResL _ _ [.tmp 2] _ from resB rfl ?_)
          have hN : (List.range t.line.length).all (fun j => !lineBad t j) = false := rng_no hel (by rw [hlb]; rfl)
          unfold goodTell; rw [hN]; simp only [Bool.and_false, Bool.false_and]
        · have _u := True.intro
          have hlb : lineBad t e = false := (lineBad_eq hlen).trans hb91
          refine AW.skip ?_
          refine AW.region ?_
          refine ARun.pure (PureOp.add (c := ((e + 1 : Nat) : Int)) rfl (.tmp rfl) .int (by rw [wrap_id (by omega) (by omega)]; omega)) rfl rfl (Nat.le_of_ble_eq_true rfl) ?_
          refine ARun.pure (PureOp.move rfl (.tmp rfl)) rfl rfl (Nat.le_of_ble_eq_true rfl) ?_
          refine ARun.nil ?_
          exact ⟨e + 1, ⟨by omega, rng_succ (p := fun j => lineBad t j = false) hes hlb⟩, by dsimp only; omega, ⟨⟨⟨_, rfl, rfl⟩, ⟨_, rfl, rfl⟩, ⟨_, rfl, rfl⟩, ⟨_, rfl, rfl⟩, ⟨_, rfl, rfl⟩, trivial⟩, HeapLe.one rfl trivial⟩⟩
      · have _u := True.intro
        replace hb53 := of_decide_eq_false hb53
        have hel : ¬ e < t.line.length := by omega
        have hA2 : (List.range t.line.length).all (fun j => !lineBad t j) = true := rng_yes (fun j hj => by rw [hes j (by omega)]; rfl)
        refine AW.exit ?_
        refine AW.seq ?_
        refine AW.region ?_
        refine ARun.pure (PureOp.move rfl (.tmp rfl)) rfl rfl (Nat.le_of_ble_eq_true rfl) ?_
        refine ARun.make (id := 3) (n := t.texts.length) (l := [.int .i64 0]) (z := (.int .i64 0)) (by_ := 8) rfl (by kernel_rfl) (fun _ _ _ => ⟨_, _, rfl, rfl, rfl⟩) (.tmp rfl) (.tmp rfl) rfl rfl (by omega) (by omega) (by decide) ⟨rfl, (by repeat first | exact trivial | refine ⟨by decide, by first | rfl | exact trivial | (intro i j; first | rfl | exact getD_no rfl | (dsimp only; split <;> first | rfl | exact getD_no rfl)), ?_⟩)⟩ rfl rfl rfl (Nat.le_of_ble_eq_true rfl) ?_
        refine ARun.pure (PureOp.assign rfl (.tmp rfl)) rfl rfl (Nat.le_of_ble_eq_true rfl) ?_
        refine ARun.nil ?_
        refine AW.seq ?_
        refine AW.seq ?_
        refine AW.region ?_
        refine ARun.pure (PureOp.fieldPtr rfl (.tmp rfl) vx_fi_66_3_3) rfl rfl (Nat.le_of_ble_eq_true rfl) ?_
        refine ARun.pure (PureOp.loadPtr rfl (.tmp rfl) vx_pl_64 rfl rfl (Nat.le_of_ble_eq_true rfl) (Nat.le_of_ble_eq_true rfl)) rfl rfl (Nat.le_of_ble_eq_true rfl) ?_
        refine ARun.pure (PureOp.lenLst rfl (.tmp rfl) vx_sl_64) rfl rfl (Nat.le_of_ble_eq_true rfl) ?_
        refine ARun.pure (PureOp.move rfl .int) rfl rfl (Nat.le_of_ble_eq_true rfl) ?_
        refine ARun.nil ?_
        refine AW.block ?_
        refine AW.loop (ι := Nat) (fun k => ⟨[(1, .one (.ptr 0 5 0 0)), (3, .one (.int .i64 (t.texts.length : Int))), (9, .one (.own 3 1 t.texts.length)), (129, .one (.lst 3 t.log.length (fun i0 j0 => ([.int .i64 ((t.log.getD i0 (default : GTold)).who), .int .i64 ((t.log.getD i0 (default : GTold)).no), .str ((t.log.getD i0 (default : GTold)).text)] : List AV).getD j0 (.con undef)))), (130, .one (.int .i64 (t.log.length : Int))), (131, .one (.int .i64 (k : Int)))], [(0, .cells [.lst 1 t.texts.length (fun i0 _ => .lst 1 ((t.texts.getD i0 []).length) (fun i1 _ => .str ((t.texts.getD i0 []).getD i1 ByteArray.empty))), .lst 1 t.heard.length (fun i0 _ => .int .i64 (t.heard.getD i0 0)), .lst 4 t.line.length (fun i0 j0 => ([.bool ((t.line.getD i0 (default : GNote)).back), .int .i64 (((t.line.getD i0 (default : GNote)).what).who), .int .i64 (((t.line.getD i0 (default : GNote)).what).no), .str (((t.line.getD i0 (default : GNote)).what).text)] : List AV).getD j0 (.con undef)), .lst 3 t.log.length (fun i0 j0 => ([.int .i64 ((t.log.getD i0 (default : GTold)).who), .int .i64 ((t.log.getD i0 (default : GTold)).no), .str ((t.log.getD i0 (default : GTold)).text)] : List AV).getD j0 (.con undef)), .lst 1 t.next.length (fun i0 _ => .int .i64 (t.next.getD i0 0))]), (3, .arr 1 t.texts.length (fun a _ => .int .i64 ((cnt t k a : Nat) : Int)))]⟩) (fun k => k ≤ t.log.length ∧ ∀ j, j < k → logBad t j = false) (fun k => t.log.length - k) 0 ⟨Nat.zero_le _, fun j hj => absurd hj (by omega)⟩ ⟨⟨⟨_, rfl, rfl⟩, ⟨_, rfl, rfl⟩, ⟨_, rfl, rfl⟩, ⟨_, rfl, rfl⟩, ⟨_, rfl, rfl⟩, ⟨_, rfl, rfl⟩, trivial⟩, HeapLe.one rfl (⟨⟨_, rfl, rfl, Nat.le_refl _, fun a b _ (hb : b < 1) => (match b, hb with | 0, _ => rfl | n + 1, h => absurd h (by omega))⟩, trivial⟩)⟩ ?_
        intro k hI
        obtain ⟨hk, hks⟩ := hI
        refine AW.bound (t := 129) rfl fun hlgb => ?_
        have hcb := cnt_le t k ((t.log.getD k (default : GTold)).who).toNat
        have hcb2 := cnt_le t k (((t.log.getD k (default : GTold)).who)).toNat
        refine AW.seq ?_
        refine AW.region ?_
        refine ARun.pure (PureOp.intOp rfl (.tmp rfl) (.tmp rfl) rfl) rfl rfl (Nat.le_of_ble_eq_true rfl) ?_
        refine ARun.nil ?_
        refine AW.seq ?_
        refine AW.cond (.tmp rfl) (fun hb92 => ?_) (fun hb92 => ?_)
        · have _u := True.intro
          replace hb92 := of_decide_eq_true hb92
          have hkl : k < t.log.length := by omega
          refine AW.skip ?_
          refine AW.seq ?_
          refine AW.block ?_
          refine AW.seq ?_
          refine AW.region ?_
          refine ARun.pure (PureOp.indexLst (i := k) rfl (.tmp rfl) vx_el_64_3 (.tmp rfl) rfl (by omega)) rfl rfl (Nat.le_of_ble_eq_true rfl) ?_
          refine ARun.pure (PureOp.loadRefAgg rfl (.tmp rfl) vx_ag_125_3 (Nat.le_of_ble_eq_true rfl)) rfl rfl (Nat.le_of_ble_eq_true rfl) ?_
          refine ARun.alloc (id := 4) (l := [.int .i64 0, .int .i64 0, .str ByteArray.empty]) (z := (.agg #[.int .i64 0, .int .i64 0, .string ByteArray.empty])) rfl (by kernel_rfl) (fun _ _ _ => ⟨_, _, rfl, rfl, ⟨_, _, rfl, rfl, ⟨_, _, rfl, ⟨rfl, by decide⟩, rfl⟩⟩⟩) ⟨rfl, (by repeat first | exact trivial | refine ⟨by decide, by first | rfl | exact trivial | (intro i j; first | rfl | exact getD_no rfl | (dsimp only; split <;> first | rfl | exact getD_no rfl)), ?_⟩)⟩ rfl rfl rfl (Nat.le_of_ble_eq_true rfl) ?_
          refine ARun.store rfl (.tmp rfl) (.tmp rfl) (SV.cells_of (by exact ⟨trivial, trivial, trivial, trivial⟩)) rfl (Nat.le_of_ble_eq_true rfl) vx_sz_125_3 rfl rfl ?_
          refine ARun.nil ?_
          refine AW.seq ?_
          refine AW.seq ?_
          refine AW.any (by kernel_rfl) (by kernel_rfl) ?_
          refine AD.pure (PureOp.fieldPtr rfl (.tmp rfl) vx_fi_125_0_0) rfl rfl (Nat.le_of_ble_eq_true rfl) ?_
          refine AD.pure (PureOp.loadPtr rfl (.tmp rfl) vx_pl_3 rfl rfl (Nat.le_of_ble_eq_true rfl) (Nat.le_of_ble_eq_true rfl)) rfl rfl (Nat.le_of_ble_eq_true rfl) ?_
          refine AD.pure (PureOp.move rfl (.tmp rfl)) rfl rfl (Nat.le_of_ble_eq_true rfl) ?_
          refine AD.pure (PureOp.sub (c := (t.texts.length : Int) - 1) rfl (.tmp rfl) .int (wrap_id (by omega) (by omega))) rfl rfl (Nat.le_of_ble_eq_true rfl) ?_
          refine AD.pure (PureOp.call rfl (v_within ((t.log.getD k (default : GTold)).who) 0 ((t.texts.length : Int) - 1)) ⟨⟨_, (.tmp rfl), .int⟩, ⟨_, .int, .int⟩, ⟨_, (.tmp rfl), .int⟩, trivial⟩ vx_ca_59 trivial) rfl rfl (Nat.le_of_ble_eq_true rfl) ?_
          refine AD.pure (PureOp.not rfl (.tmp rfl)) rfl rfl (Nat.le_of_ble_eq_true rfl) ?_
          refine AD.pure (PureOp.move rfl (.tmp rfl)) rfl rfl (Nat.le_of_ble_eq_true rfl) ?_
          refine AD.gpure (want := false) (.tf rfl) (fun hg93 => PureOp.fieldPtr rfl (.tmp rfl) vx_fi_125_1_1) rfl rfl rfl (Nat.le_of_ble_eq_true rfl) ?_
          refine AD.gpure (want := false) (.tf rfl) (fun hg94 => PureOp.loadPtr rfl (.gtmp rfl hg94) vx_pl_3 rfl rfl (Nat.le_of_ble_eq_true rfl) (Nat.le_of_ble_eq_true rfl)) rfl rfl rfl (Nat.le_of_ble_eq_true rfl) ?_
          refine AD.gpure (want := false) (.tf rfl) (fun hg95 => PureOp.move rfl (.tmp rfl)) rfl rfl rfl (Nat.le_of_ble_eq_true rfl) ?_
          refine AD.gpure (want := false) (.tf rfl) (fun hg96 => PureOp.fieldPtr rfl (.tmp rfl) vx_fi_125_0_0) rfl rfl rfl (Nat.le_of_ble_eq_true rfl) ?_
          refine AD.gpure (want := false) (.tf rfl) (fun hg97 => PureOp.loadPtr rfl (.gtmp rfl hg97) vx_pl_3 rfl rfl (Nat.le_of_ble_eq_true rfl) (Nat.le_of_ble_eq_true rfl)) rfl rfl rfl (Nat.le_of_ble_eq_true rfl) ?_
          refine AD.gpure (want := false) (.tf rfl) (fun hg98 => PureOp.indexOwn (i := ((t.log.getD k (default : GTold)).who).toNat) rfl (.gtmp rfl hg98) vx_el_22_1 (.gtmp rfl hg98) (by have q := hg98; simp only [Bool.cond_true_left, Bool.cond_false_right, Bool.not_eq_true', Bool.or_eq_false_iff, Bool.not_eq_false', Bool.and_eq_true, Bool.not_not, decide_eq_true_eq, decide_eq_false_iff_not, inB] at q; (try have q' := saidB_who q); omega) (by have q := hg98; simp only [Bool.cond_true_left, Bool.cond_false_right, Bool.not_eq_true', Bool.or_eq_false_iff, Bool.not_eq_false', Bool.and_eq_true, Bool.not_not, decide_eq_true_eq, decide_eq_false_iff_not, inB] at q; (try have q' := saidB_who q); omega)) rfl rfl rfl (Nat.le_of_ble_eq_true rfl) ?_
          refine AD.gpure (want := false) (.tf rfl) (fun hg99 => PureOp.loadPtr rfl (.gtmp rfl hg99) vx_pl_3 rfl rfl (show (((t.log.getD k (default : GTold)).who).toNat) < t.texts.length from by have q := hg99; simp only [Bool.cond_true_left, Bool.cond_false_right, Bool.not_eq_true', Bool.or_eq_false_iff, Bool.not_eq_false', Bool.and_eq_true, Bool.not_not, decide_eq_true_eq, decide_eq_false_iff_not, inB] at q; (try have q' := saidB_who q); omega) (Nat.le_of_ble_eq_true rfl)) rfl rfl rfl (Nat.le_of_ble_eq_true rfl) ?_
          refine AD.gpure (want := false) (.tf rfl) (fun hg100 => PureOp.intOp rfl (.gtmp rfl hg100) (.gtmp rfl hg100) rfl) rfl rfl rfl (Nat.le_of_ble_eq_true rfl) ?_
          refine AD.pure (PureOp.pick rfl (.tmp rfl) (fun _ => .bool) (fun hp102 => .gtmp rfl (not_of hp102))) rfl rfl (Nat.le_of_ble_eq_true rfl) ?_
          refine AD.pure (PureOp.move rfl (.tmp rfl)) rfl rfl (Nat.le_of_ble_eq_true rfl) ?_
          refine AD.gpure (want := false) (.tf rfl) (fun hg103 => PureOp.loadPtrAgg rfl (.tmp rfl) vx_ag_125_3 rfl rfl (Nat.le_of_ble_eq_true rfl) (Nat.le_of_ble_eq_true rfl)) rfl rfl rfl (Nat.le_of_ble_eq_true rfl) ?_
          refine AD.gpure (want := false) (.tf rfl) (fun hg104 => PureOp.call rfl (v_isText t (t.log.getD k (default : GTold)) (by have q := hg104; simp only [Bool.cond_true_left, Bool.cond_false_right, Bool.not_eq_true', Bool.or_eq_false_iff, Bool.not_eq_false', Bool.and_eq_true, Bool.not_not, decide_eq_true_eq, decide_eq_false_iff_not, inB] at q; (try have q' := saidB_who q); omega) (hlen _ (by have q := hg104; simp only [Bool.cond_true_left, Bool.cond_false_right, Bool.not_eq_true', Bool.or_eq_false_iff, Bool.not_eq_false', Bool.and_eq_true, Bool.not_not, decide_eq_true_eq, decide_eq_false_iff_not, inB] at q; (try have q' := saidB_who q); omega))) ⟨⟨_, (.tmp rfl), (.ptr (m := 5) rfl rfl (Nat.le_of_ble_eq_true rfl) (Nat.le_of_ble_eq_true rfl) (fun | 0, _ => .lst | 1, _ => .lst | 2, _ => .lst | 3, _ => .lst | 4, _ => .lst | _ + 5, h => absurd h (by omega)))⟩, ⟨_, (.gtmp rfl hg104), ⟨.int, .int, .str, trivial⟩⟩, trivial⟩ vx_ca_147 trivial) rfl rfl rfl (Nat.le_of_ble_eq_true rfl) ?_
          refine AD.gpure (want := false) (.tf rfl) (fun hg105 => PureOp.not rfl (.gtmp rfl hg105)) rfl rfl rfl (Nat.le_of_ble_eq_true rfl) ?_
          refine AD.pure (PureOp.pick rfl (.tmp rfl) (fun _ => .bool) (fun hp107 => .gtmp rfl (not_of hp107))) rfl rfl (Nat.le_of_ble_eq_true rfl) ?_
          refine AD.nil ?_
          refine AW.cond (.tmp rfl) (fun hb108 => ?_) (fun hb108 => ?_)
          · have _u := True.intro
            have hlg : logBad t k = true := (logBad_eq hlen).trans hb108
            refine AW.seq ?_
            refine AW.region ?_
            refine ARun.pure (PureOp.assign rfl .bool) rfl rfl (Nat.le_of_ble_eq_true rfl) ?_
            refine ARun.nil ?_
            refine AW.ret (show ResL _ _ [.tmp 2] _ from resB rfl ?_)
            have hN : (List.range t.log.length).all (fun j => !logBad t j) = false := rng_no hkl (by rw [hlg]; rfl)
            unfold goodTell; rw [hN]; simp only [Bool.and_false, Bool.false_and]
          · have _u := True.intro
            have hlg : logBad t k = false := (logBad_eq hlen).trans hb108
            have hwho := logBad_who hlg
            refine AW.skip ?_
            refine AW.region ?_
            refine ARun.pure (PureOp.move rfl (.tmp rfl)) rfl rfl (Nat.le_of_ble_eq_true rfl) ?_
            refine ARun.pure (PureOp.fieldPtr rfl (.tmp rfl) vx_fi_125_0_0) rfl rfl (Nat.le_of_ble_eq_true rfl) ?_
            refine ARun.pure (PureOp.loadPtr rfl (.tmp rfl) vx_pl_3 rfl rfl (Nat.le_of_ble_eq_true rfl) (Nat.le_of_ble_eq_true rfl)) rfl rfl (Nat.le_of_ble_eq_true rfl) ?_
            refine ARun.pure (PureOp.indexOwn (i := ((t.log.getD k (default : GTold)).who).toNat) rfl (.tmp rfl) vx_el_22_1 (.tmp rfl) (by omega) (by omega)) rfl rfl (Nat.le_of_ble_eq_true rfl) ?_
            refine ARun.pure (PureOp.loadPtr rfl (.tmp rfl) vx_pl_3 rfl rfl (show (((t.log.getD k (default : GTold)).who).toNat) < t.texts.length from by omega) (Nat.le_of_ble_eq_true rfl)) rfl rfl (Nat.le_of_ble_eq_true rfl) ?_
            refine ARun.pure (PureOp.add (c := ((cnt t k (((t.log.getD k (default : GTold)).who).toNat) + 1 : Nat) : Int)) rfl (.tmp rfl) .int (by rw [wrap_id (by omega) (by omega)]; omega)) rfl rfl (Nat.le_of_ble_eq_true rfl) ?_
            refine ARun.pure (PureOp.indexOwn (i := ((t.log.getD k (default : GTold)).who).toNat) rfl (.tmp rfl) vx_el_22_1 (.tmp rfl) (by omega) (by omega)) rfl rfl (Nat.le_of_ble_eq_true rfl) ?_
            refine ARun.storeElem rfl (.tmp rfl) (.tmp rfl) trivial rfl (show (((t.log.getD k (default : GTold)).who).toNat) < t.texts.length from by omega) rfl vx_sz_3_1 rfl rfl ?_
            refine ARun.nil ?_
            refine AW.region ?_
            refine ARun.pure (PureOp.add (c := ((k + 1 : Nat) : Int)) rfl (.tmp rfl) .int (by rw [wrap_id (by omega) (by omega)]; omega)) rfl rfl (Nat.le_of_ble_eq_true rfl) ?_
            refine ARun.pure (PureOp.move rfl (.tmp rfl)) rfl rfl (Nat.le_of_ble_eq_true rfl) ?_
            refine ARun.nil ?_
            exact ⟨k + 1, ⟨by omega, rng_succ (p := fun j => logBad t j = false) hks hlg⟩, by dsimp only; omega, ⟨⟨⟨_, rfl, rfl⟩, ⟨_, rfl, rfl⟩, ⟨_, rfl, rfl⟩, ⟨_, rfl, rfl⟩, ⟨_, rfl, rfl⟩, ⟨_, rfl, rfl⟩, trivial⟩, HeapLe.one rfl (⟨⟨_, rfl, rfl, Nat.le_refl _, fun a b _ (hb : b < 1) => (match b, hb with | 0, _ => cnt_step t k a rfl | n + 1, h => absurd h (by omega))⟩, trivial⟩)⟩⟩
        · have _u := True.intro
          replace hb92 := of_decide_eq_false hb92
          have hkl : ¬ k < t.log.length := by omega
          have hA3 : (List.range t.log.length).all (fun j => !logBad t j) = true := rng_yes (fun j hj => by rw [hks j (by omega)]; rfl)
          have hkk : k = t.log.length := by omega
          refine AW.exit ?_
          refine AW.seq ?_
          refine AW.region ?_
          refine ARun.pure (PureOp.move rfl (.tmp rfl)) rfl rfl (Nat.le_of_ble_eq_true rfl) ?_
          refine ARun.pure (PureOp.fieldPtr rfl (.tmp rfl) vx_fi_66_4_4) rfl rfl (Nat.le_of_ble_eq_true rfl) ?_
          refine ARun.pure (PureOp.loadPtr rfl (.tmp rfl) vx_pl_22 rfl rfl (Nat.le_of_ble_eq_true rfl) (Nat.le_of_ble_eq_true rfl)) rfl rfl (Nat.le_of_ble_eq_true rfl) ?_
          refine ARun.pure (PureOp.call rfl (v_Equal t.texts.length t.next.length (fun a => ((cnt t k a : Nat) : Int)) (fun i => t.next.getD i 0)) ⟨⟨_, (.tmp rfl), (.own rfl rfl (Nat.le_refl _) (fun i j hi hj => (match j, (show j < 1 from hj) with | 0, _ => .int | n + 1, h => absurd h (by omega))))⟩, ⟨_, (.tmp rfl), .lst⟩, trivial⟩ vx_ca_148 trivial) rfl rfl (Nat.le_of_ble_eq_true rfl) ?_
          refine ARun.pure (PureOp.assign rfl (.tmp rfl)) rfl rfl (Nat.le_of_ble_eq_true rfl) ?_
          refine ARun.nil ?_
          refine AW.ret (show ResL _ _ [.tmp 2] _ from resB rfl ?_)
          unfold goodTell; rw [hH, hA0, hA2, hA3, ← hkk]; simp only [Bool.true_and]

theorem v_implGoodTell (t : GTell) : Fn Try.prog 51 [.agg [.lst 1 t.texts.length (fun i0 _ => .lst 1 ((t.texts.getD i0 []).length) (fun i1 _ => .str ((t.texts.getD i0 []).getD i1 ByteArray.empty))), .lst 1 t.heard.length (fun i0 _ => .int .i64 (t.heard.getD i0 0)), .lst 4 t.line.length (fun i0 j0 => ([.bool ((t.line.getD i0 (default : GNote)).back), .int .i64 (((t.line.getD i0 (default : GNote)).what).who), .int .i64 (((t.line.getD i0 (default : GNote)).what).no), .str (((t.line.getD i0 (default : GNote)).what).text)] : List AV).getD j0 (.con undef)), .lst 3 t.log.length (fun i0 j0 => ([.int .i64 ((t.log.getD i0 (default : GTold)).who), .int .i64 ((t.log.getD i0 (default : GTold)).no), .str ((t.log.getD i0 (default : GTold)).text)] : List AV).getD j0 (.con undef)), .lst 1 t.next.length (fun i0 _ => .int .i64 (t.next.getD i0 0))]] (.one (.bool (goodTell t))) := by
  refine Fn.of_body (fn := Try.f51) Try.func51 rfl (Nat.le_of_ble_eq_true rfl) trivial ?_
  intro w0
  show AW _ 5 _ _ _ _
  refine AW.seq ?_
  refine AW.region ?_
  refine ARun.box (id := 0) rfl (.tmp rfl) (SV.cells_of (by exact ⟨trivial, trivial, trivial, trivial, trivial, trivial⟩)) ⟨rfl, (by repeat first | exact trivial | refine ⟨by decide, by first | rfl | exact trivial | (intro i j; first | rfl | exact getD_no rfl | (dsimp only; split <;> first | rfl | exact getD_no rfl)), ?_⟩)⟩ rfl rfl rfl (Nat.le_of_ble_eq_true rfl) ?_
  refine ARun.pure (PureOp.assign rfl .bool) rfl rfl (Nat.le_of_ble_eq_true rfl) ?_
  refine ARun.nil ?_
  refine AW.seq ?_
  refine AW.region ?_
  refine ARun.pure (PureOp.loadPtrAgg rfl (.tmp rfl) vx_ag_66_5 rfl rfl (Nat.le_of_ble_eq_true rfl) (Nat.le_of_ble_eq_true rfl)) rfl rfl (Nat.le_of_ble_eq_true rfl) ?_
  refine ARun.pure (PureOp.call rfl (v_isTell t) ⟨⟨_, (.tmp rfl), ⟨.lst, .lst, .lst, .lst, .lst, trivial⟩⟩, trivial⟩ vx_ca_116 trivial) rfl rfl (Nat.le_of_ble_eq_true rfl) ?_
  refine ARun.pure (PureOp.assign rfl (.tmp rfl)) rfl rfl (Nat.le_of_ble_eq_true rfl) ?_
  refine ARun.nil ?_
  refine AW.ret (show ResL _ _ [.tmp 2] _ from resB rfl ?_)
  rfl
end Go.Proofs.Ytlbnodmebehpiaa
