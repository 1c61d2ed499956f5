/-
  The program's GoodPoll; LeaderOf.
-/
import Derived.Test.YtlbnodmebehpiaaPs
namespace Go.Proofs.Ytlbnodmebehpiaa
open Go.ChangeShapes Go.WideShapes Go.ChangeAt Go.RowKit Go.BigFrame Go.Deep
set_option linter.unusedVariables false
set_option linter.unusedSimpArgs false
theorem vq_ag_102_5 : aggB Try.prog 102 5 = true := by kernel_rfl
theorem vq_ag_27_3 : aggB Try.prog 27 3 = true := by kernel_rfl
theorem vq_ag_89_5 : aggB Try.prog 89 5 = true := by kernel_rfl
theorem vq_ca_124 : callB Try.prog 124 = true := by kernel_rfl
theorem vq_ca_125 : callB Try.prog 125 = true := by kernel_rfl
theorem vq_ca_126 : callB Try.prog 126 = true := by kernel_rfl
theorem vq_ca_23 : callB Try.prog 23 = true := by kernel_rfl
theorem vq_ca_59 : callB Try.prog 59 = true := by kernel_rfl
theorem vq_ca_62 : callB Try.prog 62 = true := by kernel_rfl
theorem vq_ca_81 : callB Try.prog 81 = true := by kernel_rfl
theorem vq_el_22_1 : elemB Try.prog 22 1 = true := by kernel_rfl
theorem vq_el_23_5 : elemB Try.prog 23 5 = true := by kernel_rfl
theorem vq_el_24_5 : elemB Try.prog 24 5 = true := by kernel_rfl
theorem vq_el_25_1 : elemB Try.prog 25 1 = true := by kernel_rfl
theorem vq_fi_102_0_0 : fieldB Try.prog 102 0 0 = true := by kernel_rfl
theorem vq_fi_102_1_1 : fieldB Try.prog 102 1 1 = true := by kernel_rfl
theorem vq_fi_102_2_2 : fieldB Try.prog 102 2 2 = true := by kernel_rfl
theorem vq_fi_102_3_3 : fieldB Try.prog 102 3 3 = true := by kernel_rfl
theorem vq_fi_102_4_4 : fieldB Try.prog 102 4 4 = true := by kernel_rfl
theorem vq_fi_27_0_0 : fieldB Try.prog 27 0 0 = true := by kernel_rfl
theorem vq_fi_27_1_1 : fieldB Try.prog 27 1 1 = true := by kernel_rfl
theorem vq_fi_27_2_2 : fieldB Try.prog 27 2 2 = true := by kernel_rfl
theorem vq_fi_89_0_0 : fieldB Try.prog 89 0 0 = true := by kernel_rfl
theorem vq_fi_89_1_1 : fieldB Try.prog 89 1 1 = true := by kernel_rfl
theorem vq_fi_89_2_2 : fieldB Try.prog 89 2 2 = true := by kernel_rfl
theorem vq_fi_89_3_3 : fieldB Try.prog 89 3 3 = true := by kernel_rfl
theorem vq_fi_89_4_4 : fieldB Try.prog 89 4 4 = true := by kernel_rfl
theorem vq_pl_22 : plainB Try.prog 22 = true := by kernel_rfl
theorem vq_pl_23 : plainB Try.prog 23 = true := by kernel_rfl
theorem vq_pl_24 : plainB Try.prog 24 = true := by kernel_rfl
theorem vq_pl_25 : plainB Try.prog 25 = true := by kernel_rfl
theorem vq_pl_3 : plainB Try.prog 3 = true := by kernel_rfl
theorem vq_pl_4 : plainB Try.prog 4 = true := by kernel_rfl
theorem vq_sl_22 : sliceB Try.prog 22 = true := by kernel_rfl
theorem vq_sl_23 : sliceB Try.prog 23 = true := by kernel_rfl
theorem vq_sl_24 : sliceB Try.prog 24 = true := by kernel_rfl
theorem vq_sl_25 : sliceB Try.prog 25 = true := by kernel_rfl
theorem vq_sz_102_5 : sizeB Try.prog 102 5 = true := by kernel_rfl
theorem vq_sz_3_1 : sizeB Try.prog 3 1 = true := by kernel_rfl
theorem vq_sz_89_5 : sizeB Try.prog 89 5 = true := by kernel_rfl
def leadBadI (l : List Int) (m : Nat) : Bool :=
  cond (cond (!decide ((l.length : Int) = 2)) true (!(inB 0 200 (l.getD 0 0)))) true (!(inB 0 ((m : Int) - 1) (l.getD 1 0)))
theorem v_isPoll1 (l : List Int) (m : Nat) (hm : m ≤ 9223372036854775807) : Fn Try.prog 126 [.one (.lst 1 l.length (fun i0 _ => .int .i64 (l.getD i0 0))), .one (.ref 1 (fun _ => .int .i64 (m : Int)))] (.one (.bool (leadBadI l m))) := by
  refine Fn.of_body (fn := Try.f126) Try.func126 rfl (Nat.le_of_ble_eq_true rfl) trivial ?_
  intro w0
  show AW _ 23 _ _ _ _
  refine AW.bound (t := 0) rfl fun hx => ?_
  refine AW.seq ?_
  refine AW.region ?_
  refine ARun.pure (PureOp.assign rfl .bool) rfl rfl (Nat.le_of_ble_eq_true rfl) ?_
  refine ARun.nil ?_
  refine AW.seq ?_
  refine AW.any (by kernel_rfl) (by kernel_rfl) ?_
  refine AD.pure (PureOp.move rfl (.tmp rfl)) rfl rfl (Nat.le_of_ble_eq_true rfl) ?_
  refine AD.pure (PureOp.lenLst rfl (.tmp rfl) vq_sl_22) rfl rfl (Nat.le_of_ble_eq_true rfl) ?_
  refine AD.pure (PureOp.intOp rfl (.tmp rfl) .int rfl) rfl rfl (Nat.le_of_ble_eq_true rfl) ?_
  refine AD.pure (PureOp.move rfl (.tmp rfl)) rfl rfl (Nat.le_of_ble_eq_true rfl) ?_
  refine AD.gpure (want := false) (.tf rfl) (fun hg1 => PureOp.move rfl (.tmp rfl)) rfl rfl rfl (Nat.le_of_ble_eq_true rfl) ?_
  refine AD.gpure (want := false) (.tf rfl) (fun hg2 => PureOp.indexLst (i := 0) rfl (.gtmp rfl hg2) vq_el_22_1 .int rfl (by have q := hg2; simp only [Bool.cond_true_left, Bool.cond_false_right, Bool.not_eq_true', Bool.or_eq_false_iff, Bool.not_eq_false', Bool.and_eq_true, Bool.not_not, decide_eq_true_eq, decide_eq_false_iff_not, inB] at q; omega)) rfl rfl rfl (Nat.le_of_ble_eq_true rfl) ?_
  refine AD.gpure (want := false) (.tf rfl) (fun hg3 => PureOp.loadRef rfl (.gtmp rfl hg3) vq_pl_3 (Nat.le_of_ble_eq_true rfl)) rfl rfl rfl (Nat.le_of_ble_eq_true rfl) ?_
  refine AD.gpure (want := false) (.tf rfl) (fun hg4 => PureOp.call rfl (v_within (l.getD 0 0) 0 200) ⟨⟨_, (.gtmp rfl hg4), .int⟩, ⟨_, .int, .int⟩, ⟨_, .int, .int⟩, trivial⟩ vq_ca_59 trivial) rfl rfl rfl (Nat.le_of_ble_eq_true rfl) ?_
  refine AD.gpure (want := false) (.tf rfl) (fun hg5 => PureOp.not rfl (.gtmp rfl hg5)) rfl rfl rfl (Nat.le_of_ble_eq_true rfl) ?_
  refine AD.pure (PureOp.pick rfl (.tmp rfl) (fun _ => .bool) (fun hp7 => .gtmp rfl (not_of hp7))) rfl rfl (Nat.le_of_ble_eq_true rfl) ?_
  refine AD.pure (PureOp.move rfl (.tmp rfl)) rfl rfl (Nat.le_of_ble_eq_true rfl) ?_
  refine AD.gpure (want := false) (.tf rfl) (fun hg8 => PureOp.move rfl (.tmp rfl)) rfl rfl rfl (Nat.le_of_ble_eq_true rfl) ?_
  refine AD.gpure (want := false) (.tf rfl) (fun hg9 => PureOp.indexLst (i := 1) rfl (.gtmp rfl hg9) vq_el_22_1 .int rfl (by have q := hg9; simp only [Bool.cond_true_left, Bool.cond_false_right, Bool.not_eq_true', Bool.or_eq_false_iff, Bool.not_eq_false', Bool.and_eq_true, Bool.not_not, decide_eq_true_eq, decide_eq_false_iff_not, inB] at q; omega)) rfl rfl rfl (Nat.le_of_ble_eq_true rfl) ?_
  refine AD.gpure (want := false) (.tf rfl) (fun hg10 => PureOp.loadRef rfl (.gtmp rfl hg10) vq_pl_3 (Nat.le_of_ble_eq_true rfl)) rfl rfl rfl (Nat.le_of_ble_eq_true rfl) ?_
  refine AD.gpure (want := false) (.tf rfl) (fun hg11 => PureOp.loadRef rfl (.tmp rfl) vq_pl_3 (Nat.le_of_ble_eq_true rfl)) rfl rfl rfl (Nat.le_of_ble_eq_true rfl) ?_
  refine AD.gpure (want := false) (.tf rfl) (fun hg12 => PureOp.sub (c := (m : Int) - 1) rfl (.gtmp rfl hg12) .int (wrap_id (by omega) (by omega))) rfl rfl rfl (Nat.le_of_ble_eq_true rfl) ?_
  refine AD.gpure (want := false) (.tf rfl) (fun hg13 => PureOp.call rfl (v_within (l.getD 1 0) 0 ((m : Int) - 1)) ⟨⟨_, (.gtmp rfl hg13), .int⟩, ⟨_, .int, .int⟩, ⟨_, (.gtmp rfl hg13), .int⟩, trivial⟩ vq_ca_59 trivial) rfl rfl rfl (Nat.le_of_ble_eq_true rfl) ?_
  refine AD.gpure (want := false) (.tf rfl) (fun hg14 => PureOp.not rfl (.gtmp rfl hg14)) rfl rfl rfl (Nat.le_of_ble_eq_true rfl) ?_
  refine AD.pure (PureOp.pick rfl (.tmp rfl) (fun _ => .bool) (fun hp16 => .gtmp rfl (not_of hp16))) rfl rfl (Nat.le_of_ble_eq_true rfl) ?_
  refine AD.pure (PureOp.assign rfl (.tmp rfl)) rfl rfl (Nat.le_of_ble_eq_true rfl) ?_
  refine AD.nil ?_
  refine AW.ret (show ResL _ _ [.tmp 3] _ from resB rfl ?_)
  rfl

def pollSizeI (p : GPoll) : Bool :=
  cond (cond (!(inB 1 5 (p.nodes.length : Int))) true (decide (60 < (p.letters.length : Int)))) true (decide (300 < (p.leaders.length : Int)))
def letBad1 (p : GPoll) (b : Nat) : Bool :=
  cond (cond (!(inB 0 ((p.nodes.length : Int) - 1) ((p.letters.getD b (default : GLetter)).from_))) true (!(inB 0 ((p.nodes.length : Int) - 1) ((p.letters.getD b (default : GLetter)).to)))) true (!(inB 1 200 ((p.letters.getD b (default : GLetter)).term)))
def letBad2 (p : GPoll) (b : Nat) : Bool :=
  cond (cond ((p.letters.getD b (default : GLetter)).ask) (!(inB 0 9 ((p.letters.getD b (default : GLetter)).age))) false) true (cond (!((p.letters.getD b (default : GLetter)).ask)) (!decide ((p.letters.getD b (default : GLetter)).age = 0)) false)
def letBadI (p : GPoll) (b : Nat) : Bool := letBad1 p b || letBad2 p b
def isPollB (p : GPoll) : Bool := !pollSizeI p && ((List.range p.nodes.length).all (fun j => !nodeBad p j) && ((List.range p.letters.length).all (fun j => !letBadI p j) && !p.leaders.any (fun l => leadBadI l p.nodes.length)))
theorem v_isPoll (p : GPoll) : Fn Try.prog 81 [.agg [.lst 5 p.nodes.length (fun i0 j0 => ([.int .i64 ((p.nodes.getD i0 (default : GNode)).term), .int .i64 ((p.nodes.getD i0 (default : GNode)).voted), .int .i64 ((p.nodes.getD i0 (default : GNode)).age), .lst 1 (((p.nodes.getD i0 (default : GNode)).heard).length) (fun i1 _ => .int .i64 (((p.nodes.getD i0 (default : GNode)).heard).getD i1 0)), .int .i64 ((p.nodes.getD i0 (default : GNode)).role)] : List AV).getD j0 (.con undef)), .lst 5 p.letters.length (fun i0 j0 => ([.int .i64 ((p.letters.getD i0 (default : GLetter)).from_), .int .i64 ((p.letters.getD i0 (default : GLetter)).to), .int .i64 ((p.letters.getD i0 (default : GLetter)).term), .bool ((p.letters.getD i0 (default : GLetter)).ask), .int .i64 ((p.letters.getD i0 (default : GLetter)).age)] : List AV).getD j0 (.con undef)), .lst 1 p.leaders.length (fun i0 _ => .lst 1 ((p.leaders.getD i0 []).length) (fun i1 _ => .int .i64 ((p.leaders.getD i0 []).getD i1 0)))]] (.one (.bool (isPollB p))) := by
  refine Fn.of_body (fn := Try.f81) Try.func81 rfl (Nat.le_of_ble_eq_true rfl) trivial ?_
  intro w0
  show AW _ 127 _ _ _ _
  refine AW.boundAL (t := 0) (j := 0) rfl rfl fun hx0 => ?_
  refine AW.boundAL (t := 0) (j := 1) rfl rfl fun hx1 => ?_
  refine AW.boundAL (t := 0) (j := 2) rfl rfl fun hx2 => ?_
  refine AW.seq ?_
  refine AW.region ?_
  refine ARun.box (id := 0) rfl (.tmp rfl) (SV.cells_of (by exact ⟨trivial, trivial, trivial, trivial⟩)) ⟨rfl, (by repeat first | exact trivial | refine ⟨by decide, by first | rfl | (intro i j; first | rfl | (dsimp only; split <;> rfl)), ?_⟩)⟩ rfl rfl rfl (Nat.le_of_ble_eq_true rfl) ?_
  refine ARun.pure (PureOp.assign rfl .bool) rfl rfl (Nat.le_of_ble_eq_true rfl) ?_
  refine ARun.nil ?_
  refine AW.seq ?_
  refine AW.region ?_
  refine ARun.pure (PureOp.fieldPtr rfl (.tmp rfl) vq_fi_27_0_0) rfl rfl (Nat.le_of_ble_eq_true rfl) ?_
  refine ARun.pure (PureOp.loadPtr rfl (.tmp rfl) vq_pl_23 rfl rfl (Nat.le_of_ble_eq_true rfl) (Nat.le_of_ble_eq_true rfl)) rfl rfl (Nat.le_of_ble_eq_true rfl) ?_
  refine ARun.pure (PureOp.lenLst rfl (.tmp rfl) vq_sl_23) rfl rfl (Nat.le_of_ble_eq_true rfl) ?_
  refine ARun.alloc (id := 1) (l := [.int .i64 0]) (z := (.int .i64 0)) rfl (by kernel_rfl) (fun _ _ _ => ⟨_, _, rfl, rfl, rfl⟩) ⟨rfl, (by repeat first | exact trivial | refine ⟨by decide, by first | rfl | (intro i j; first | rfl | (dsimp only; split <;> rfl)), ?_⟩)⟩ rfl rfl rfl (Nat.le_of_ble_eq_true rfl) ?_
  refine ARun.store rfl (.tmp rfl) (.tmp rfl) trivial rfl (Nat.le_of_ble_eq_true rfl) vq_sz_3_1 rfl rfl ?_
  refine ARun.nil ?_
  refine AW.seq ?_
  refine AW.seq ?_
  refine AW.region ?_
  refine ARun.pure (PureOp.loadPtr rfl (.tmp rfl) vq_pl_3 rfl rfl (Nat.le_of_ble_eq_true rfl) (Nat.le_of_ble_eq_true rfl)) rfl rfl (Nat.le_of_ble_eq_true rfl) ?_
  refine ARun.pure (PureOp.call rfl (v_within (p.nodes.length : Int) 1 5) ⟨⟨_, (.tmp rfl), .int⟩, ⟨_, .int, .int⟩, ⟨_, .int, .int⟩, trivial⟩ vq_ca_59 trivial) rfl rfl (Nat.le_of_ble_eq_true rfl) ?_
  refine ARun.pure (PureOp.not rfl (.tmp rfl)) rfl rfl (Nat.le_of_ble_eq_true rfl) ?_
  refine ARun.pure (PureOp.move rfl (.tmp rfl)) rfl rfl (Nat.le_of_ble_eq_true rfl) ?_
  refine ARun.gpure (want := false) (.tf rfl) (fun hg1 => PureOp.fieldPtr rfl (.tmp rfl) vq_fi_27_1_1) rfl rfl (Nat.le_of_ble_eq_true rfl) rfl (Nat.le_of_ble_eq_true rfl) ?_
  refine ARun.gpure (want := false) (.tf rfl) (fun hg2 => PureOp.loadPtr rfl (.gtmp rfl hg2) vq_pl_24 rfl rfl (Nat.le_of_ble_eq_true rfl) (Nat.le_of_ble_eq_true rfl)) rfl rfl (Nat.le_of_ble_eq_true rfl) rfl (Nat.le_of_ble_eq_true rfl) ?_
  refine ARun.gpure (want := false) (.tf rfl) (fun hg3 => PureOp.lenLst rfl (.gtmp rfl hg3) vq_sl_24) rfl rfl (Nat.le_of_ble_eq_true rfl) rfl (Nat.le_of_ble_eq_true rfl) ?_
  refine ARun.gpure (want := false) (.tf rfl) (fun hg4 => PureOp.intOp rfl (.gtmp rfl hg4) .int rfl) rfl rfl (Nat.le_of_ble_eq_true rfl) rfl (Nat.le_of_ble_eq_true rfl) ?_
  refine ARun.pure (PureOp.pick rfl (.tmp rfl) (fun _ => .bool) (fun hp6 => .gtmp rfl (not_of hp6))) rfl rfl (Nat.le_of_ble_eq_true rfl) ?_
  refine ARun.pure (PureOp.move rfl (.tmp rfl)) rfl rfl (Nat.le_of_ble_eq_true rfl) ?_
  refine ARun.gpure (want := false) (.tf rfl) (fun hg7 => PureOp.fieldPtr rfl (.tmp rfl) vq_fi_27_2_2) rfl rfl (Nat.le_of_ble_eq_true rfl) rfl (Nat.le_of_ble_eq_true rfl) ?_
  refine ARun.gpure (want := false) (.tf rfl) (fun hg8 => PureOp.loadPtr rfl (.gtmp rfl hg8) vq_pl_25 rfl rfl (Nat.le_of_ble_eq_true rfl) (Nat.le_of_ble_eq_true rfl)) rfl rfl (Nat.le_of_ble_eq_true rfl) rfl (Nat.le_of_ble_eq_true rfl) ?_
  refine ARun.gpure (want := false) (.tf rfl) (fun hg9 => PureOp.lenLst rfl (.gtmp rfl hg9) vq_sl_25) rfl rfl (Nat.le_of_ble_eq_true rfl) rfl (Nat.le_of_ble_eq_true rfl) ?_
  refine ARun.gpure (want := false) (.tf rfl) (fun hg10 => PureOp.intOp rfl (.gtmp rfl hg10) .int rfl) rfl rfl (Nat.le_of_ble_eq_true rfl) rfl (Nat.le_of_ble_eq_true rfl) ?_
  refine ARun.pure (PureOp.pick rfl (.tmp rfl) (fun _ => .bool) (fun hp12 => .gtmp rfl (not_of hp12))) rfl rfl (Nat.le_of_ble_eq_true rfl) ?_
  refine ARun.nil ?_
  refine AW.cond (.tmp rfl) (fun hb13 => ?_) (fun hb13 => ?_)
  · have _u := True.intro
    refine AW.seq ?_
    refine AW.region ?_
    refine ARun.pure (PureOp.assign rfl .bool) rfl rfl (Nat.le_of_ble_eq_true rfl) ?_
    refine ARun.nil ?_
    refine AW.ret (show ResL _ _ [.tmp 2] _ from resB rfl ?_)
    unfold isPollB; rw [show pollSizeI p = true from hb13]; rfl
  · have _u := True.intro
    have hsz : pollSizeI p = false := hb13
    clear hb13
    refine AW.skip ?_
    refine AW.seq ?_
    refine AW.seq ?_
    refine AW.region ?_
    refine ARun.pure (PureOp.fieldPtr rfl (.tmp rfl) vq_fi_27_0_0) rfl rfl (Nat.le_of_ble_eq_true rfl) ?_
    refine ARun.pure (PureOp.loadPtr rfl (.tmp rfl) vq_pl_23 rfl rfl (Nat.le_of_ble_eq_true rfl) (Nat.le_of_ble_eq_true rfl)) rfl rfl (Nat.le_of_ble_eq_true rfl) ?_
    refine ARun.pure (PureOp.lenLst rfl (.tmp rfl) vq_sl_23) rfl rfl (Nat.le_of_ble_eq_true rfl) ?_
    refine ARun.pure (PureOp.move rfl .int) rfl rfl (Nat.le_of_ble_eq_true rfl) ?_
    refine ARun.nil ?_
    refine AW.block ?_
    refine AW.loop (ι := Nat) (fun a => ⟨[(1, .one (.ptr 0 3 0 0)), (3, .one (.ptr 1 1 0 0)), (27, .one (.lst 5 p.nodes.length (fun i0 j0 => ([.int .i64 ((p.nodes.getD i0 (default : GNode)).term), .int .i64 ((p.nodes.getD i0 (default : GNode)).voted), .int .i64 ((p.nodes.getD i0 (default : GNode)).age), .lst 1 (((p.nodes.getD i0 (default : GNode)).heard).length) (fun i1 _ => .int .i64 (((p.nodes.getD i0 (default : GNode)).heard).getD i1 0)), .int .i64 ((p.nodes.getD i0 (default : GNode)).role)] : List AV).getD j0 (.con undef)))), (28, .one (.int .i64 (p.nodes.length : Int))), (29, .one (.int .i64 (a : Int)))], [(0, .cells [.lst 5 p.nodes.length (fun i0 j0 => ([.int .i64 ((p.nodes.getD i0 (default : GNode)).term), .int .i64 ((p.nodes.getD i0 (default : GNode)).voted), .int .i64 ((p.nodes.getD i0 (default : GNode)).age), .lst 1 (((p.nodes.getD i0 (default : GNode)).heard).length) (fun i1 _ => .int .i64 (((p.nodes.getD i0 (default : GNode)).heard).getD i1 0)), .int .i64 ((p.nodes.getD i0 (default : GNode)).role)] : List AV).getD j0 (.con undef)), .lst 5 p.letters.length (fun i0 j0 => ([.int .i64 ((p.letters.getD i0 (default : GLetter)).from_), .int .i64 ((p.letters.getD i0 (default : GLetter)).to), .int .i64 ((p.letters.getD i0 (default : GLetter)).term), .bool ((p.letters.getD i0 (default : GLetter)).ask), .int .i64 ((p.letters.getD i0 (default : GLetter)).age)] : List AV).getD j0 (.con undef)), .lst 1 p.leaders.length (fun i0 _ => .lst 1 ((p.leaders.getD i0 []).length) (fun i1 _ => .int .i64 ((p.leaders.getD i0 []).getD i1 0)))]), (1, .cells [.int .i64 (p.nodes.length : Int)])]⟩) (fun a => a ≤ p.nodes.length ∧ ∀ j, j < a → nodeBad p j = false) (fun a => p.nodes.length - a) 0 ⟨Nat.zero_le _, fun j hj => absurd hj (by omega)⟩ ⟨⟨⟨_, rfl, rfl⟩, ⟨_, rfl, rfl⟩, ⟨_, rfl, rfl⟩, ⟨_, rfl, rfl⟩, ⟨_, rfl, rfl⟩, trivial⟩, HeapLe.one rfl (HeapLe.one rfl trivial)⟩ ?_
    intro a hI
    obtain ⟨ha, has⟩ := hI
    refine AW.seq ?_
    refine AW.region ?_
    refine ARun.pure (PureOp.intOp rfl (.tmp rfl) (.tmp rfl) rfl) rfl rfl (Nat.le_of_ble_eq_true rfl) ?_
    refine ARun.nil ?_
    refine AW.seq ?_
    refine AW.cond (.tmp rfl) (fun hb14 => ?_) (fun hb14 => ?_)
    · have _u := True.intro
      replace hb14 := of_decide_eq_true hb14
      have hal : a < p.nodes.length := by omega
      refine AW.skip ?_
      refine AW.seq ?_
      refine AW.block ?_
      refine AW.seq ?_
      refine AW.region ?_
      refine ARun.pure (PureOp.indexLst (i := a) rfl (.tmp rfl) vq_el_23_5 (.tmp rfl) rfl (by omega)) rfl rfl (Nat.le_of_ble_eq_true rfl) ?_
      refine ARun.pure (PureOp.loadRefAgg rfl (.tmp rfl) vq_ag_89_5 (Nat.le_of_ble_eq_true rfl)) rfl rfl (Nat.le_of_ble_eq_true rfl) ?_
      refine ARun.alloc (id := 2) (l := [.int .i64 0, .int .i64 0, .int .i64 0, .lst 1 0 (fun _ _ => .con undef), .int .i64 0]) (z := (.agg #[.int .i64 0, .int .i64 0, .int .i64 0, .slice none 0 0, .int .i64 0])) rfl (by kernel_rfl) (fun _ _ _ => ⟨_, _, rfl, rfl, ⟨_, _, rfl, rfl, ⟨_, _, rfl, rfl, ⟨_, _, rfl, ⟨none, 0, rfl, Nat.le_refl _, by decide, fun _ => rfl, fun i hi => absurd hi (by omega)⟩, ⟨_, _, rfl, rfl, rfl⟩⟩⟩⟩⟩) ⟨rfl, (by repeat first | exact trivial | refine ⟨by decide, by first | rfl | (intro i j; first | rfl | (dsimp only; split <;> rfl)), ?_⟩)⟩ rfl rfl rfl (Nat.le_of_ble_eq_true rfl) ?_
      refine ARun.store rfl (.tmp rfl) (.tmp rfl) (SV.cells_of (by exact ⟨trivial, trivial, trivial, trivial, trivial, trivial⟩)) rfl (Nat.le_of_ble_eq_true rfl) vq_sz_89_5 rfl rfl ?_
      refine ARun.nil ?_
      refine AW.seq ?_
      refine AW.region ?_
      refine ARun.pure (PureOp.fieldPtr rfl (.tmp rfl) vq_fi_89_0_0) rfl rfl (Nat.le_of_ble_eq_true rfl) ?_
      refine ARun.pure (PureOp.loadPtr rfl (.tmp rfl) vq_pl_3 rfl rfl (Nat.le_of_ble_eq_true rfl) (Nat.le_of_ble_eq_true rfl)) rfl rfl (Nat.le_of_ble_eq_true rfl) ?_
      refine ARun.pure (PureOp.call rfl (v_within ((p.nodes.getD a (default : GNode)).term) 0 200) ⟨⟨_, (.tmp rfl), .int⟩, ⟨_, .int, .int⟩, ⟨_, .int, .int⟩, trivial⟩ vq_ca_59 trivial) rfl rfl (Nat.le_of_ble_eq_true rfl) ?_
      refine ARun.pure (PureOp.not rfl (.tmp rfl)) rfl rfl (Nat.le_of_ble_eq_true rfl) ?_
      refine ARun.pure (PureOp.move rfl (.tmp rfl)) rfl rfl (Nat.le_of_ble_eq_true rfl) ?_
      refine ARun.gpure (want := false) (.tf rfl) (fun hg15 => PureOp.fieldPtr rfl (.tmp rfl) vq_fi_89_1_1) rfl rfl (Nat.le_of_ble_eq_true rfl) rfl (Nat.le_of_ble_eq_true rfl) ?_
      refine ARun.gpure (want := false) (.tf rfl) (fun hg16 => PureOp.loadPtr rfl (.gtmp rfl hg16) vq_pl_3 rfl rfl (Nat.le_of_ble_eq_true rfl) (Nat.le_of_ble_eq_true rfl)) rfl rfl (Nat.le_of_ble_eq_true rfl) rfl (Nat.le_of_ble_eq_true rfl) ?_
      refine ARun.gpure (want := false) (.tf rfl) (fun hg17 => PureOp.loadPtr rfl (.tmp rfl) vq_pl_3 rfl rfl (Nat.le_of_ble_eq_true rfl) (Nat.le_of_ble_eq_true rfl)) rfl rfl (Nat.le_of_ble_eq_true rfl) rfl (Nat.le_of_ble_eq_true rfl) ?_
      refine ARun.gpure (want := false) (.tf rfl) (fun hg18 => PureOp.sub (c := (p.nodes.length : Int) - 1) rfl (.gtmp rfl hg18) .int (wrap_id (by omega) (by omega))) rfl rfl (Nat.le_of_ble_eq_true rfl) rfl (Nat.le_of_ble_eq_true rfl) ?_
      refine ARun.gpure (want := false) (.tf rfl) (fun hg19 => PureOp.call rfl (v_within ((p.nodes.getD a (default : GNode)).voted) (-1) ((p.nodes.length : Int) - 1)) ⟨⟨_, (.gtmp rfl hg19), .int⟩, ⟨_, .int, .int⟩, ⟨_, (.gtmp rfl hg19), .int⟩, trivial⟩ vq_ca_59 trivial) rfl rfl (Nat.le_of_ble_eq_true rfl) rfl (Nat.le_of_ble_eq_true rfl) ?_
      refine ARun.gpure (want := false) (.tf rfl) (fun hg20 => PureOp.not rfl (.gtmp rfl hg20)) rfl rfl (Nat.le_of_ble_eq_true rfl) rfl (Nat.le_of_ble_eq_true rfl) ?_
      refine ARun.pure (PureOp.pick rfl (.tmp rfl) (fun _ => .bool) (fun hp22 => .gtmp rfl (not_of hp22))) rfl rfl (Nat.le_of_ble_eq_true rfl) ?_
      refine ARun.pure (PureOp.move rfl (.tmp rfl)) rfl rfl (Nat.le_of_ble_eq_true rfl) ?_
      refine ARun.gpure (want := false) (.tf rfl) (fun hg23 => PureOp.fieldPtr rfl (.tmp rfl) vq_fi_89_2_2) rfl rfl (Nat.le_of_ble_eq_true rfl) rfl (Nat.le_of_ble_eq_true rfl) ?_
      refine ARun.gpure (want := false) (.tf rfl) (fun hg24 => PureOp.loadPtr rfl (.gtmp rfl hg24) vq_pl_3 rfl rfl (Nat.le_of_ble_eq_true rfl) (Nat.le_of_ble_eq_true rfl)) rfl rfl (Nat.le_of_ble_eq_true rfl) rfl (Nat.le_of_ble_eq_true rfl) ?_
      refine ARun.gpure (want := false) (.tf rfl) (fun hg25 => PureOp.call rfl (v_isAge ((p.nodes.getD a (default : GNode)).age)) ⟨⟨_, (.gtmp rfl hg25), .int⟩, trivial⟩ vq_ca_62 trivial) rfl rfl (Nat.le_of_ble_eq_true rfl) rfl (Nat.le_of_ble_eq_true rfl) ?_
      refine ARun.gpure (want := false) (.tf rfl) (fun hg26 => PureOp.not rfl (.gtmp rfl hg26)) rfl rfl (Nat.le_of_ble_eq_true rfl) rfl (Nat.le_of_ble_eq_true rfl) ?_
      refine ARun.pure (PureOp.pick rfl (.tmp rfl) (fun _ => .bool) (fun hp28 => .gtmp rfl (not_of hp28))) rfl rfl (Nat.le_of_ble_eq_true rfl) ?_
      refine ARun.pure (PureOp.move rfl (.tmp rfl)) rfl rfl (Nat.le_of_ble_eq_true rfl) ?_
      refine ARun.gpure (want := false) (.tf rfl) (fun hg29 => PureOp.loadPtr rfl (.tmp rfl) vq_pl_3 rfl rfl (Nat.le_of_ble_eq_true rfl) (Nat.le_of_ble_eq_true rfl)) rfl rfl (Nat.le_of_ble_eq_true rfl) rfl (Nat.le_of_ble_eq_true rfl) ?_
      refine ARun.gpure (want := false) (.tf rfl) (fun hg30 => PureOp.fieldPtr rfl (.tmp rfl) vq_fi_89_3_3) rfl rfl (Nat.le_of_ble_eq_true rfl) rfl (Nat.le_of_ble_eq_true rfl) ?_
      refine ARun.gpure (want := false) (.tf rfl) (fun hg31 => PureOp.loadPtr rfl (.gtmp rfl hg31) vq_pl_22 rfl rfl (Nat.le_of_ble_eq_true rfl) (Nat.le_of_ble_eq_true rfl)) rfl rfl (Nat.le_of_ble_eq_true rfl) rfl (Nat.le_of_ble_eq_true rfl) ?_
      refine ARun.gpure (want := false) (.tf rfl) (fun hg32 => PureOp.call rfl (v_areNodes ((p.nodes.getD a (default : GNode)).heard) p.nodes.length (by omega)) ⟨⟨_, (.gtmp rfl hg32), .int⟩, ⟨_, (.gtmp rfl hg32), .lst⟩, trivial⟩ vq_ca_124 trivial) rfl rfl (Nat.le_of_ble_eq_true rfl) rfl (Nat.le_of_ble_eq_true rfl) ?_
      refine ARun.gpure (want := false) (.tf rfl) (fun hg33 => PureOp.not rfl (.gtmp rfl hg33)) rfl rfl (Nat.le_of_ble_eq_true rfl) rfl (Nat.le_of_ble_eq_true rfl) ?_
      refine ARun.pure (PureOp.pick rfl (.tmp rfl) (fun _ => .bool) (fun hp35 => .gtmp rfl (not_of hp35))) rfl rfl (Nat.le_of_ble_eq_true rfl) ?_
      refine ARun.pure (PureOp.move rfl (.tmp rfl)) rfl rfl (Nat.le_of_ble_eq_true rfl) ?_
      refine ARun.gpure (want := false) (.tf rfl) (fun hg36 => PureOp.fieldPtr rfl (.tmp rfl) vq_fi_89_4_4) rfl rfl (Nat.le_of_ble_eq_true rfl) rfl (Nat.le_of_ble_eq_true rfl) ?_
      refine ARun.gpure (want := false) (.tf rfl) (fun hg37 => PureOp.loadPtr rfl (.gtmp rfl hg37) vq_pl_3 rfl rfl (Nat.le_of_ble_eq_true rfl) (Nat.le_of_ble_eq_true rfl)) rfl rfl (Nat.le_of_ble_eq_true rfl) rfl (Nat.le_of_ble_eq_true rfl) ?_
      refine ARun.gpure (want := false) (.tf rfl) (fun hg38 => PureOp.call rfl (v_within ((p.nodes.getD a (default : GNode)).role) 0 2) ⟨⟨_, (.gtmp rfl hg38), .int⟩, ⟨_, .int, .int⟩, ⟨_, .int, .int⟩, trivial⟩ vq_ca_59 trivial) rfl rfl (Nat.le_of_ble_eq_true rfl) rfl (Nat.le_of_ble_eq_true rfl) ?_
      refine ARun.gpure (want := false) (.tf rfl) (fun hg39 => PureOp.not rfl (.gtmp rfl hg39)) rfl rfl (Nat.le_of_ble_eq_true rfl) rfl (Nat.le_of_ble_eq_true rfl) ?_
      refine ARun.pure (PureOp.pick rfl (.tmp rfl) (fun _ => .bool) (fun hp41 => .gtmp rfl (not_of hp41))) rfl rfl (Nat.le_of_ble_eq_true rfl) ?_
      refine ARun.pure (PureOp.move rfl (.tmp rfl)) rfl rfl (Nat.le_of_ble_eq_true rfl) ?_
      refine ARun.gpure (want := false) (.tf rfl) (fun hg42 => PureOp.fieldPtr rfl (.tmp rfl) vq_fi_89_4_4) rfl rfl (Nat.le_of_ble_eq_true rfl) rfl (Nat.le_of_ble_eq_true rfl) ?_
      refine ARun.gpure (want := false) (.tf rfl) (fun hg43 => PureOp.loadPtr rfl (.gtmp rfl hg43) vq_pl_3 rfl rfl (Nat.le_of_ble_eq_true rfl) (Nat.le_of_ble_eq_true rfl)) rfl rfl (Nat.le_of_ble_eq_true rfl) rfl (Nat.le_of_ble_eq_true rfl) ?_
      refine ARun.gpure (want := false) (.tf rfl) (fun hg44 => PureOp.intOp rfl (.gtmp rfl hg44) .int rfl) rfl rfl (Nat.le_of_ble_eq_true rfl) rfl (Nat.le_of_ble_eq_true rfl) ?_
      refine ARun.gpure (want := false) (.tf rfl) (fun hg45 => PureOp.move rfl (.gtmp rfl hg45)) rfl rfl (Nat.le_of_ble_eq_true rfl) rfl (Nat.le_of_ble_eq_true rfl) ?_
      refine ARun.gpure (want := true) (.gt rfl) (fun hg46 => PureOp.fieldPtr rfl (.tmp rfl) vq_fi_89_3_3) rfl rfl (Nat.le_of_ble_eq_true rfl) rfl (Nat.le_of_ble_eq_true rfl) ?_
      refine ARun.gpure (want := true) (.gt rfl) (fun hg47 => PureOp.loadPtr rfl (.gtmp rfl hg47) vq_pl_22 rfl rfl (Nat.le_of_ble_eq_true rfl) (Nat.le_of_ble_eq_true rfl)) rfl rfl (Nat.le_of_ble_eq_true rfl) rfl (Nat.le_of_ble_eq_true rfl) ?_
      refine ARun.gpure (want := true) (.gt rfl) (fun hg48 => PureOp.lenLst rfl (.gtmp rfl hg48) vq_sl_22) rfl rfl (Nat.le_of_ble_eq_true rfl) rfl (Nat.le_of_ble_eq_true rfl) ?_
      refine ARun.gpure (want := true) (.gt rfl) (fun hg49 => PureOp.intOp rfl (.gtmp rfl hg49) .int rfl) rfl rfl (Nat.le_of_ble_eq_true rfl) rfl (Nat.le_of_ble_eq_true rfl) ?_
      refine ARun.gpure (want := false) (.tf rfl) (fun hg50 => PureOp.pick rfl (.gtmp rfl hg50) (fun hp51 => .gtmp rfl (and_mk hg50 hp51)) (fun _ => .bool)) rfl rfl (Nat.le_of_ble_eq_true rfl) rfl (Nat.le_of_ble_eq_true rfl) ?_
      refine ARun.pure (PureOp.pick rfl (.tmp rfl) (fun _ => .bool) (fun hp54 => .gtmp rfl (not_of hp54))) rfl rfl (Nat.le_of_ble_eq_true rfl) ?_
      refine ARun.nil ?_
      refine AW.cond (.tmp rfl) (fun hb55 => ?_) (fun hb55 => ?_)
      · have _u := True.intro
        refine AW.seq ?_
        refine AW.region ?_
        refine ARun.pure (PureOp.assign rfl .bool) rfl rfl (Nat.le_of_ble_eq_true rfl) ?_
        refine ARun.nil ?_
        refine AW.ret (show ResL _ _ [.tmp 2] _ from resB rfl ?_)
        have hN : (List.range p.nodes.length).all (fun j => !nodeBad p j) = false := rng_no hal (by rw [show nodeBad p a = true from hb55]; rfl)
        unfold isPollB; rw [hN]; simp only [Bool.and_false, Bool.false_and]
      · have _u := True.intro
        have hnodeBad : nodeBad p a = false := hb55
        refine AW.skip ?_
        refine AW.region ?_
        refine ARun.pure (PureOp.add (c := ((a + 1 : Nat) : Int)) rfl (.tmp rfl) .int (by rw [wrap_id (by omega) (by omega)]; omega)) rfl rfl (Nat.le_of_ble_eq_true rfl) ?_
        refine ARun.pure (PureOp.move rfl (.tmp rfl)) rfl rfl (Nat.le_of_ble_eq_true rfl) ?_
        refine ARun.nil ?_
        exact ⟨a + 1, ⟨by omega, rng_succ (p := fun j => nodeBad p j = false) has hnodeBad⟩, by dsimp only; omega, ⟨⟨⟨_, rfl, rfl⟩, ⟨_, rfl, rfl⟩, ⟨_, rfl, rfl⟩, ⟨_, rfl, rfl⟩, ⟨_, rfl, rfl⟩, trivial⟩, HeapLe.one rfl (HeapLe.one rfl trivial)⟩⟩
    · have _u := True.intro
      replace hb14 := of_decide_eq_false hb14
      have hal : ¬ a < p.nodes.length := by omega
      have haA : (List.range p.nodes.length).all (fun j => !nodeBad p j) = true := rng_yes (fun j hj => by rw [has j (by omega)]; rfl)
      refine AW.exit ?_
      refine AW.seq ?_
      refine AW.seq ?_
      refine AW.region ?_
      refine ARun.pure (PureOp.fieldPtr rfl (.tmp rfl) vq_fi_27_1_1) rfl rfl (Nat.le_of_ble_eq_true rfl) ?_
      refine ARun.pure (PureOp.loadPtr rfl (.tmp rfl) vq_pl_24 rfl rfl (Nat.le_of_ble_eq_true rfl) (Nat.le_of_ble_eq_true rfl)) rfl rfl (Nat.le_of_ble_eq_true rfl) ?_
      refine ARun.pure (PureOp.lenLst rfl (.tmp rfl) vq_sl_24) rfl rfl (Nat.le_of_ble_eq_true rfl) ?_
      refine ARun.pure (PureOp.move rfl .int) rfl rfl (Nat.le_of_ble_eq_true rfl) ?_
      refine ARun.nil ?_
      refine AW.block ?_
      refine AW.loop (ι := Nat) (fun b => ⟨[(1, .one (.ptr 0 3 0 0)), (3, .one (.ptr 1 1 0 0)), (77, .one (.lst 5 p.letters.length (fun i0 j0 => ([.int .i64 ((p.letters.getD i0 (default : GLetter)).from_), .int .i64 ((p.letters.getD i0 (default : GLetter)).to), .int .i64 ((p.letters.getD i0 (default : GLetter)).term), .bool ((p.letters.getD i0 (default : GLetter)).ask), .int .i64 ((p.letters.getD i0 (default : GLetter)).age)] : List AV).getD j0 (.con undef)))), (78, .one (.int .i64 (p.letters.length : Int))), (79, .one (.int .i64 (b : Int)))], [(0, .cells [.lst 5 p.nodes.length (fun i0 j0 => ([.int .i64 ((p.nodes.getD i0 (default : GNode)).term), .int .i64 ((p.nodes.getD i0 (default : GNode)).voted), .int .i64 ((p.nodes.getD i0 (default : GNode)).age), .lst 1 (((p.nodes.getD i0 (default : GNode)).heard).length) (fun i1 _ => .int .i64 (((p.nodes.getD i0 (default : GNode)).heard).getD i1 0)), .int .i64 ((p.nodes.getD i0 (default : GNode)).role)] : List AV).getD j0 (.con undef)), .lst 5 p.letters.length (fun i0 j0 => ([.int .i64 ((p.letters.getD i0 (default : GLetter)).from_), .int .i64 ((p.letters.getD i0 (default : GLetter)).to), .int .i64 ((p.letters.getD i0 (default : GLetter)).term), .bool ((p.letters.getD i0 (default : GLetter)).ask), .int .i64 ((p.letters.getD i0 (default : GLetter)).age)] : List AV).getD j0 (.con undef)), .lst 1 p.leaders.length (fun i0 _ => .lst 1 ((p.leaders.getD i0 []).length) (fun i1 _ => .int .i64 ((p.leaders.getD i0 []).getD i1 0)))]), (1, .cells [.int .i64 (p.nodes.length : Int)])]⟩) (fun b => b ≤ p.letters.length ∧ ∀ j, j < b → letBadI p j = false) (fun b => p.letters.length - b) 0 ⟨Nat.zero_le _, fun j hj => absurd hj (by omega)⟩ ⟨⟨⟨_, rfl, rfl⟩, ⟨_, rfl, rfl⟩, ⟨_, rfl, rfl⟩, ⟨_, rfl, rfl⟩, ⟨_, rfl, rfl⟩, trivial⟩, HeapLe.one rfl (HeapLe.one rfl trivial)⟩ ?_
      intro b hI
      obtain ⟨hb, hbs⟩ := hI
      refine AW.seq ?_
      refine AW.region ?_
      refine ARun.pure (PureOp.intOp rfl (.tmp rfl) (.tmp rfl) rfl) rfl rfl (Nat.le_of_ble_eq_true rfl) ?_
      refine ARun.nil ?_
      refine AW.seq ?_
      refine AW.cond (.tmp rfl) (fun hb56 => ?_) (fun hb56 => ?_)
      · have _u := True.intro
        replace hb56 := of_decide_eq_true hb56
        have hbl : b < p.letters.length := by omega
        refine AW.skip ?_
        refine AW.seq ?_
        refine AW.block ?_
        refine AW.seq ?_
        refine AW.region ?_
        refine ARun.pure (PureOp.indexLst (i := b) rfl (.tmp rfl) vq_el_24_5 (.tmp rfl) rfl (by omega)) rfl rfl (Nat.le_of_ble_eq_true rfl) ?_
        refine ARun.pure (PureOp.loadRefAgg rfl (.tmp rfl) vq_ag_102_5 (Nat.le_of_ble_eq_true rfl)) rfl rfl (Nat.le_of_ble_eq_true rfl) ?_
        refine ARun.alloc (id := 3) (l := [.int .i64 0, .int .i64 0, .int .i64 0, .bool false, .int .i64 0]) (z := (.agg #[.int .i64 0, .int .i64 0, .int .i64 0, .bool false, .int .i64 0])) rfl (by kernel_rfl) (fun _ _ _ => ⟨_, _, rfl, rfl, ⟨_, _, rfl, rfl, ⟨_, _, rfl, rfl, ⟨_, _, rfl, rfl, ⟨_, _, rfl, rfl, rfl⟩⟩⟩⟩⟩) ⟨rfl, (by repeat first | exact trivial | refine ⟨by decide, by first | rfl | (intro i j; first | rfl | (dsimp only; split <;> rfl)), ?_⟩)⟩ rfl rfl rfl (Nat.le_of_ble_eq_true rfl) ?_
        refine ARun.store rfl (.tmp rfl) (.tmp rfl) (SV.cells_of (by exact ⟨trivial, trivial, trivial, trivial, trivial, trivial⟩)) rfl (Nat.le_of_ble_eq_true rfl) vq_sz_102_5 rfl rfl ?_
        refine ARun.nil ?_
        refine AW.seq ?_
        refine AW.seq ?_
        refine AW.region ?_
        refine ARun.pure (PureOp.fieldPtr rfl (.tmp rfl) vq_fi_102_0_0) rfl rfl (Nat.le_of_ble_eq_true rfl) ?_
        refine ARun.pure (PureOp.loadPtr rfl (.tmp rfl) vq_pl_3 rfl rfl (Nat.le_of_ble_eq_true rfl) (Nat.le_of_ble_eq_true rfl)) rfl rfl (Nat.le_of_ble_eq_true rfl) ?_
        refine ARun.pure (PureOp.loadPtr rfl (.tmp rfl) vq_pl_3 rfl rfl (Nat.le_of_ble_eq_true rfl) (Nat.le_of_ble_eq_true rfl)) rfl rfl (Nat.le_of_ble_eq_true rfl) ?_
        refine ARun.pure (PureOp.sub (c := (p.nodes.length : Int) - 1) rfl (.tmp rfl) .int (wrap_id (by omega) (by omega))) rfl rfl (Nat.le_of_ble_eq_true rfl) ?_
        refine ARun.pure (PureOp.call rfl (v_within ((p.letters.getD b (default : GLetter)).from_) 0 ((p.nodes.length : Int) - 1)) ⟨⟨_, (.tmp rfl), .int⟩, ⟨_, .int, .int⟩, ⟨_, (.tmp rfl), .int⟩, trivial⟩ vq_ca_59 trivial) rfl rfl (Nat.le_of_ble_eq_true rfl) ?_
        refine ARun.pure (PureOp.not rfl (.tmp rfl)) rfl rfl (Nat.le_of_ble_eq_true rfl) ?_
        refine ARun.pure (PureOp.move rfl (.tmp rfl)) rfl rfl (Nat.le_of_ble_eq_true rfl) ?_
        refine ARun.gpure (want := false) (.tf rfl) (fun hg57 => PureOp.fieldPtr rfl (.tmp rfl) vq_fi_102_1_1) rfl rfl (Nat.le_of_ble_eq_true rfl) rfl (Nat.le_of_ble_eq_true rfl) ?_
        refine ARun.gpure (want := false) (.tf rfl) (fun hg58 => PureOp.loadPtr rfl (.gtmp rfl hg58) vq_pl_3 rfl rfl (Nat.le_of_ble_eq_true rfl) (Nat.le_of_ble_eq_true rfl)) rfl rfl (Nat.le_of_ble_eq_true rfl) rfl (Nat.le_of_ble_eq_true rfl) ?_
        refine ARun.gpure (want := false) (.tf rfl) (fun hg59 => PureOp.loadPtr rfl (.tmp rfl) vq_pl_3 rfl rfl (Nat.le_of_ble_eq_true rfl) (Nat.le_of_ble_eq_true rfl)) rfl rfl (Nat.le_of_ble_eq_true rfl) rfl (Nat.le_of_ble_eq_true rfl) ?_
        refine ARun.gpure (want := false) (.tf rfl) (fun hg60 => PureOp.sub (c := (p.nodes.length : Int) - 1) rfl (.gtmp rfl hg60) .int (wrap_id (by omega) (by omega))) rfl rfl (Nat.le_of_ble_eq_true rfl) rfl (Nat.le_of_ble_eq_true rfl) ?_
        refine ARun.gpure (want := false) (.tf rfl) (fun hg61 => PureOp.call rfl (v_within ((p.letters.getD b (default : GLetter)).to) 0 ((p.nodes.length : Int) - 1)) ⟨⟨_, (.gtmp rfl hg61), .int⟩, ⟨_, .int, .int⟩, ⟨_, (.gtmp rfl hg61), .int⟩, trivial⟩ vq_ca_59 trivial) rfl rfl (Nat.le_of_ble_eq_true rfl) rfl (Nat.le_of_ble_eq_true rfl) ?_
        refine ARun.gpure (want := false) (.tf rfl) (fun hg62 => PureOp.not rfl (.gtmp rfl hg62)) rfl rfl (Nat.le_of_ble_eq_true rfl) rfl (Nat.le_of_ble_eq_true rfl) ?_
        refine ARun.pure (PureOp.pick rfl (.tmp rfl) (fun _ => .bool) (fun hp64 => .gtmp rfl (not_of hp64))) rfl rfl (Nat.le_of_ble_eq_true rfl) ?_
        refine ARun.pure (PureOp.move rfl (.tmp rfl)) rfl rfl (Nat.le_of_ble_eq_true rfl) ?_
        refine ARun.gpure (want := false) (.tf rfl) (fun hg65 => PureOp.fieldPtr rfl (.tmp rfl) vq_fi_102_2_2) rfl rfl (Nat.le_of_ble_eq_true rfl) rfl (Nat.le_of_ble_eq_true rfl) ?_
        refine ARun.gpure (want := false) (.tf rfl) (fun hg66 => PureOp.loadPtr rfl (.gtmp rfl hg66) vq_pl_3 rfl rfl (Nat.le_of_ble_eq_true rfl) (Nat.le_of_ble_eq_true rfl)) rfl rfl (Nat.le_of_ble_eq_true rfl) rfl (Nat.le_of_ble_eq_true rfl) ?_
        refine ARun.gpure (want := false) (.tf rfl) (fun hg67 => PureOp.call rfl (v_within ((p.letters.getD b (default : GLetter)).term) 1 200) ⟨⟨_, (.gtmp rfl hg67), .int⟩, ⟨_, .int, .int⟩, ⟨_, .int, .int⟩, trivial⟩ vq_ca_59 trivial) rfl rfl (Nat.le_of_ble_eq_true rfl) rfl (Nat.le_of_ble_eq_true rfl) ?_
        refine ARun.gpure (want := false) (.tf rfl) (fun hg68 => PureOp.not rfl (.gtmp rfl hg68)) rfl rfl (Nat.le_of_ble_eq_true rfl) rfl (Nat.le_of_ble_eq_true rfl) ?_
        refine ARun.pure (PureOp.pick rfl (.tmp rfl) (fun _ => .bool) (fun hp70 => .gtmp rfl (not_of hp70))) rfl rfl (Nat.le_of_ble_eq_true rfl) ?_
        refine ARun.nil ?_
        refine AW.cond (.tmp rfl) (fun hb71 => ?_) (fun hb71 => ?_)
        · have _u := True.intro
          refine AW.seq ?_
          refine AW.region ?_
          refine ARun.pure (PureOp.assign rfl .bool) rfl rfl (Nat.le_of_ble_eq_true rfl) ?_
          refine ARun.nil ?_
          refine AW.ret (show ResL _ _ [.tmp 2] _ from resB rfl ?_)
          have hN : (List.range p.letters.length).all (fun j => !letBadI p j) = false := rng_no hbl (by unfold letBadI; rw [show letBad1 p b = true from hb71]; simp)
          unfold isPollB; rw [hN]; simp only [Bool.and_false, Bool.false_and]
        · have _u := True.intro
          have hL1 : letBad1 p b = false := hb71
          refine AW.skip ?_
          refine AW.seq ?_
          refine AW.region ?_
          refine ARun.pure (PureOp.fieldPtr rfl (.tmp rfl) vq_fi_102_3_3) rfl rfl (Nat.le_of_ble_eq_true rfl) ?_
          refine ARun.pure (PureOp.loadPtr rfl (.tmp rfl) vq_pl_4 rfl rfl (Nat.le_of_ble_eq_true rfl) (Nat.le_of_ble_eq_true rfl)) rfl rfl (Nat.le_of_ble_eq_true rfl) ?_
          refine ARun.pure (PureOp.move rfl (.tmp rfl)) rfl rfl (Nat.le_of_ble_eq_true rfl) ?_
          refine ARun.gpure (want := true) (.tt rfl) (fun hg72 => PureOp.fieldPtr rfl (.tmp rfl) vq_fi_102_4_4) rfl rfl (Nat.le_of_ble_eq_true rfl) rfl (Nat.le_of_ble_eq_true rfl) ?_
          refine ARun.gpure (want := true) (.tt rfl) (fun hg73 => PureOp.loadPtr rfl (.gtmp rfl hg73) vq_pl_3 rfl rfl (Nat.le_of_ble_eq_true rfl) (Nat.le_of_ble_eq_true rfl)) rfl rfl (Nat.le_of_ble_eq_true rfl) rfl (Nat.le_of_ble_eq_true rfl) ?_
          refine ARun.gpure (want := true) (.tt rfl) (fun hg74 => PureOp.call rfl (v_isAge ((p.letters.getD b (default : GLetter)).age)) ⟨⟨_, (.gtmp rfl hg74), .int⟩, trivial⟩ vq_ca_62 trivial) rfl rfl (Nat.le_of_ble_eq_true rfl) rfl (Nat.le_of_ble_eq_true rfl) ?_
          refine ARun.gpure (want := true) (.tt rfl) (fun hg75 => PureOp.not rfl (.gtmp rfl hg75)) rfl rfl (Nat.le_of_ble_eq_true rfl) rfl (Nat.le_of_ble_eq_true rfl) ?_
          refine ARun.pure (PureOp.pick rfl (.tmp rfl) (fun hp76 => .gtmp rfl hp76) (fun _ => .bool)) rfl rfl (Nat.le_of_ble_eq_true rfl) ?_
          refine ARun.pure (PureOp.move rfl (.tmp rfl)) rfl rfl (Nat.le_of_ble_eq_true rfl) ?_
          refine ARun.gpure (want := false) (.tf rfl) (fun hg78 => PureOp.fieldPtr rfl (.tmp rfl) vq_fi_102_3_3) rfl rfl (Nat.le_of_ble_eq_true rfl) rfl (Nat.le_of_ble_eq_true rfl) ?_
          refine ARun.gpure (want := false) (.tf rfl) (fun hg79 => PureOp.loadPtr rfl (.gtmp rfl hg79) vq_pl_4 rfl rfl (Nat.le_of_ble_eq_true rfl) (Nat.le_of_ble_eq_true rfl)) rfl rfl (Nat.le_of_ble_eq_true rfl) rfl (Nat.le_of_ble_eq_true rfl) ?_
          refine ARun.gpure (want := false) (.tf rfl) (fun hg80 => PureOp.not rfl (.gtmp rfl hg80)) rfl rfl (Nat.le_of_ble_eq_true rfl) rfl (Nat.le_of_ble_eq_true rfl) ?_
          refine ARun.gpure (want := false) (.tf rfl) (fun hg81 => PureOp.move rfl (.gtmp rfl hg81)) rfl rfl (Nat.le_of_ble_eq_true rfl) rfl (Nat.le_of_ble_eq_true rfl) ?_
          refine ARun.gpure (want := true) (.gt rfl) (fun hg82 => PureOp.fieldPtr rfl (.tmp rfl) vq_fi_102_4_4) rfl rfl (Nat.le_of_ble_eq_true rfl) rfl (Nat.le_of_ble_eq_true rfl) ?_
          refine ARun.gpure (want := true) (.gt rfl) (fun hg83 => PureOp.loadPtr rfl (.gtmp rfl hg83) vq_pl_3 rfl rfl (Nat.le_of_ble_eq_true rfl) (Nat.le_of_ble_eq_true rfl)) rfl rfl (Nat.le_of_ble_eq_true rfl) rfl (Nat.le_of_ble_eq_true rfl) ?_
          refine ARun.gpure (want := true) (.gt rfl) (fun hg84 => PureOp.intOp rfl (.gtmp rfl hg84) .int rfl) rfl rfl (Nat.le_of_ble_eq_true rfl) rfl (Nat.le_of_ble_eq_true rfl) ?_
          refine ARun.gpure (want := false) (.tf rfl) (fun hg85 => PureOp.pick rfl (.gtmp rfl hg85) (fun hp86 => .gtmp rfl (and_mk hg85 hp86)) (fun _ => .bool)) rfl rfl (Nat.le_of_ble_eq_true rfl) rfl (Nat.le_of_ble_eq_true rfl) ?_
          refine ARun.pure (PureOp.pick rfl (.tmp rfl) (fun _ => .bool) (fun hp89 => .gtmp rfl (not_of hp89))) rfl rfl (Nat.le_of_ble_eq_true rfl) ?_
          refine ARun.nil ?_
          refine AW.cond (.tmp rfl) (fun hb90 => ?_) (fun hb90 => ?_)
          · have _u := True.intro
            refine AW.seq ?_
            refine AW.region ?_
            refine ARun.pure (PureOp.assign rfl .bool) rfl rfl (Nat.le_of_ble_eq_true rfl) ?_
            refine ARun.nil ?_
            refine AW.ret (show ResL _ _ [.tmp 2] _ from resB rfl ?_)
            have hN : (List.range p.letters.length).all (fun j => !letBadI p j) = false := rng_no hbl (by unfold letBadI; rw [show letBad2 p b = true from hb90]; simp)
            unfold isPollB; rw [hN]; simp only [Bool.and_false, Bool.false_and]
          · have _u := True.intro
            have hL2 : letBad2 p b = false := hb90
            refine AW.skip ?_
            refine AW.region ?_
            refine ARun.pure (PureOp.add (c := ((b + 1 : Nat) : Int)) rfl (.tmp rfl) .int (by rw [wrap_id (by omega) (by omega)]; omega)) rfl rfl (Nat.le_of_ble_eq_true rfl) ?_
            refine ARun.pure (PureOp.move rfl (.tmp rfl)) rfl rfl (Nat.le_of_ble_eq_true rfl) ?_
            refine ARun.nil ?_
            exact ⟨b + 1, ⟨by omega, rng_succ (p := fun j => letBadI p j = false) hbs (show letBadI p b = false by unfold letBadI; rw [hL1, hL2]; rfl)⟩, by dsimp only; omega, ⟨⟨⟨_, rfl, rfl⟩, ⟨_, rfl, rfl⟩, ⟨_, rfl, rfl⟩, ⟨_, rfl, rfl⟩, ⟨_, rfl, rfl⟩, trivial⟩, HeapLe.one rfl (HeapLe.one rfl trivial)⟩⟩
      · have _u := True.intro
        replace hb56 := of_decide_eq_false hb56
        have hbl : ¬ b < p.letters.length := by omega
        have hbA : (List.range p.letters.length).all (fun j => !letBadI p j) = true := rng_yes (fun j hj => by rw [hbs j (by omega)]; rfl)
        refine AW.exit ?_
        refine AW.seq ?_
        refine AW.region ?_
        refine ARun.pure (PureOp.fieldPtr rfl (.tmp rfl) vq_fi_27_2_2) rfl rfl (Nat.le_of_ble_eq_true rfl) ?_
        refine ARun.pure (PureOp.loadPtr rfl (.tmp rfl) vq_pl_25 rfl rfl (Nat.le_of_ble_eq_true rfl) (Nat.le_of_ble_eq_true rfl)) rfl rfl (Nat.le_of_ble_eq_true rfl) ?_
        refine ARun.pure (PureOp.makeFn (caps := [.ptr 1 1 0 0]) rfl ⟨(.tmp rfl), trivial⟩ rfl) rfl rfl (Nat.le_of_ble_eq_true rfl) ?_
        refine ARun.pure (PureOp.call rfl (v_ContainsFunc_IntS p.leaders 126 1 (fun _ => .ref 1 (fun _ => .int .i64 (p.nodes.length : Int))) (fun l => leadBadI l p.nodes.length) (fun j h => match j, h with | 0, _ => trivial | _ + 1, h => absurd h (by omega)) vq_ca_126 (fun k hk => v_isPoll1 _ _ (by omega))) ⟨⟨_, (.tmp rfl), .lst⟩, ⟨_, (.tmp rfl), (.fn (m := 1) (fun | 0, _ => (.ptr (m := 1) rfl rfl (Nat.le_of_ble_eq_true rfl) (Nat.le_of_ble_eq_true rfl) (fun | 0, _ => .int | _ + 1, h => absurd h (by omega))) | n + 1, (h : n + 1 < 1) => absurd h (by omega)))⟩, trivial⟩ vq_ca_125 trivial) rfl rfl (Nat.le_of_ble_eq_true rfl) ?_
        refine ARun.pure (PureOp.not rfl (.tmp rfl)) rfl rfl (Nat.le_of_ble_eq_true rfl) ?_
        refine ARun.pure (PureOp.assign rfl (.tmp rfl)) rfl rfl (Nat.le_of_ble_eq_true rfl) ?_
        refine ARun.nil ?_
        refine AW.ret (show ResL _ _ [.tmp 2] _ from resB rfl ?_)
        unfold isPollB; rw [hsz, haA, hbA]; simp only [Bool.and_true, Bool.true_and, Bool.not_false]

theorem pollLaw (p : GPoll) : isPollB p = goodPoll p := by
  unfold isPollB goodPoll
  have e1 : (!pollSizeI p) = pollSize p := by
    unfold pollSizeI pollSize
    generalize inB 1 5 (p.nodes.length : Int) = q1
    have u1 : decide ((60 : Int) < (p.letters.length : Int)) = !decide ((p.letters.length : Int) ≤ 60) := by rw [← decide_not]; exact decide_eq_decide.2 (by omega)
    have u2 : decide ((300 : Int) < (p.leaders.length : Int)) = !decide ((p.leaders.length : Int) ≤ 300) := by rw [← decide_not]; exact decide_eq_decide.2 (by omega)
    rw [u1, u2]
    generalize decide ((p.letters.length : Int) ≤ 60) = q2
    generalize decide ((p.leaders.length : Int) ≤ 300) = q3
    revert q1 q2 q3; decide
  have e2 : (List.range p.letters.length).all (fun j => !letBadI p j) = (List.range p.letters.length).all (fun j => !letBad p j) := by
    refine rng_congr fun k _ => congrArg (!·) ?_
    unfold letBadI letBad1 letBad2 letBad
    have u : decide ((p.letters.getD k (default : GLetter)).age = 0) = true → inB 0 9 (p.letters.getD k (default : GLetter)).age = true := by
      intro h; rw [of_decide_eq_true h]; decide
    revert u
    generalize inB 0 9 (p.letters.getD k (default : GLetter)).age = q1
    generalize decide ((p.letters.getD k (default : GLetter)).age = 0) = q2
    generalize (p.letters.getD k (default : GLetter)).ask = q3
    generalize inB 0 ((p.nodes.length : Int) - 1) (p.letters.getD k (default : GLetter)).from_ = q4
    generalize inB 0 ((p.nodes.length : Int) - 1) (p.letters.getD k (default : GLetter)).to = q5
    generalize inB 1 200 (p.letters.getD k (default : GLetter)).term = q6
    revert q1 q2 q3 q4 q5 q6; decide
  have e3 : (!p.leaders.any (fun l => leadBadI l p.nodes.length)) = (List.range p.leaders.length).all (fun j => !leadBad p j) := by
    rw [any_rng ([] : List Int), Bool.not_not]
    exact rng_congr fun k _ => rfl
  rw [e1, e2, e3]
theorem v_isPollG (p : GPoll) : Fn Try.prog 81 [.agg [.lst 5 p.nodes.length (fun i0 j0 => ([.int .i64 ((p.nodes.getD i0 (default : GNode)).term), .int .i64 ((p.nodes.getD i0 (default : GNode)).voted), .int .i64 ((p.nodes.getD i0 (default : GNode)).age), .lst 1 (((p.nodes.getD i0 (default : GNode)).heard).length) (fun i1 _ => .int .i64 (((p.nodes.getD i0 (default : GNode)).heard).getD i1 0)), .int .i64 ((p.nodes.getD i0 (default : GNode)).role)] : List AV).getD j0 (.con undef)), .lst 5 p.letters.length (fun i0 j0 => ([.int .i64 ((p.letters.getD i0 (default : GLetter)).from_), .int .i64 ((p.letters.getD i0 (default : GLetter)).to), .int .i64 ((p.letters.getD i0 (default : GLetter)).term), .bool ((p.letters.getD i0 (default : GLetter)).ask), .int .i64 ((p.letters.getD i0 (default : GLetter)).age)] : List AV).getD j0 (.con undef)), .lst 1 p.leaders.length (fun i0 _ => .lst 1 ((p.leaders.getD i0 []).length) (fun i1 _ => .int .i64 ((p.leaders.getD i0 []).getD i1 0)))]] (.one (.bool (goodPoll p))) := by rw [← pollLaw]; exact v_isPoll p
theorem v_implGoodPoll (p : GPoll) : Fn Try.prog 25 [.agg [.lst 5 p.nodes.length (fun i0 j0 => ([.int .i64 ((p.nodes.getD i0 (default : GNode)).term), .int .i64 ((p.nodes.getD i0 (default : GNode)).voted), .int .i64 ((p.nodes.getD i0 (default : GNode)).age), .lst 1 (((p.nodes.getD i0 (default : GNode)).heard).length) (fun i1 _ => .int .i64 (((p.nodes.getD i0 (default : GNode)).heard).getD i1 0)), .int .i64 ((p.nodes.getD i0 (default : GNode)).role)] : List AV).getD j0 (.con undef)), .lst 5 p.letters.length (fun i0 j0 => ([.int .i64 ((p.letters.getD i0 (default : GLetter)).from_), .int .i64 ((p.letters.getD i0 (default : GLetter)).to), .int .i64 ((p.letters.getD i0 (default : GLetter)).term), .bool ((p.letters.getD i0 (default : GLetter)).ask), .int .i64 ((p.letters.getD i0 (default : GLetter)).age)] : List AV).getD j0 (.con undef)), .lst 1 p.leaders.length (fun i0 _ => .lst 1 ((p.leaders.getD i0 []).length) (fun i1 _ => .int .i64 ((p.leaders.getD i0 []).getD i1 0)))]] (.one (.bool (goodPoll p))) := by
  refine Fn.of_body (fn := Try.f25) Try.func25 rfl (Nat.le_of_ble_eq_true rfl) trivial ?_
  intro w0
  show AW _ 5 _ _ _ _
  refine AW.seq ?_
  refine AW.region ?_
  refine ARun.box (id := 0) rfl (.tmp rfl) (SV.cells_of (by exact ⟨trivial, trivial, trivial, trivial⟩)) ⟨rfl, (by repeat first | exact trivial | refine ⟨by decide, by first | rfl | (intro i j; first | rfl | (dsimp only; split <;> rfl)), ?_⟩)⟩ rfl rfl rfl (Nat.le_of_ble_eq_true rfl) ?_
  refine ARun.pure (PureOp.assign rfl .bool) rfl rfl (Nat.le_of_ble_eq_true rfl) ?_
  refine ARun.nil ?_
  refine AW.seq ?_
  refine AW.region ?_
  refine ARun.pure (PureOp.loadPtrAgg rfl (.tmp rfl) vq_ag_27_3 rfl rfl (Nat.le_of_ble_eq_true rfl) (Nat.le_of_ble_eq_true rfl)) rfl rfl (Nat.le_of_ble_eq_true rfl) ?_
  refine ARun.pure (PureOp.call rfl (v_isPollG p) ⟨⟨_, (.tmp rfl), ⟨.lst, .lst, .lst, trivial⟩⟩, trivial⟩ vq_ca_81 trivial) rfl rfl (Nat.le_of_ble_eq_true rfl) ?_
  refine ARun.pure (PureOp.assign rfl (.tmp rfl)) rfl rfl (Nat.le_of_ble_eq_true rfl) ?_
  refine ARun.nil ?_
  refine AW.ret (show ResL _ _ [.tmp 2] _ from resB rfl ?_)
  rfl

def leadIs (p : GPoll) (x : Int) (k : Nat) : Bool := decide ((p.leaders.getD k []).getD 0 0 = x)
def leaderOf (p : GPoll) (x : Int) : Option Nat := firstAt (leadIs p x) 0 p.leaders.length
def leaderV (p : GPoll) (x : Int) : Int := cond (goodPoll p) (((leaderOf p x).map fun k => (p.leaders.getD k []).getD 1 0).getD 0) 0
def leaderB (p : GPoll) (x : Int) : Bool := goodPoll p && (leaderOf p x).isSome
theorem goodPoll_lead {p : GPoll} (h : goodPoll p = true) {k : Nat} (hk : k < p.leaders.length) : (p.leaders.getD k []).length = 2 := by
  unfold goodPoll at h
  simp only [Bool.and_eq_true] at h
  have h := rng_at h.2.2.2 hk
  unfold leadBad at h
  have u : (((p.leaders.getD k []).length : Int) = 2) := by
    revert h
    by_cases e : ((p.leaders.getD k []).length : Int) = 2
    · exact fun _ => e
    · rw [decide_eq_false e]; intro h; exact absurd h (by simp)
  omega
theorem v_specLeaderOf (p : GPoll) (x : Int) : Fn Try.prog 26 [.agg [.lst 5 p.nodes.length (fun i0 j0 => ([.int .i64 ((p.nodes.getD i0 (default : GNode)).term), .int .i64 ((p.nodes.getD i0 (default : GNode)).voted), .int .i64 ((p.nodes.getD i0 (default : GNode)).age), .lst 1 (((p.nodes.getD i0 (default : GNode)).heard).length) (fun i1 _ => .int .i64 (((p.nodes.getD i0 (default : GNode)).heard).getD i1 0)), .int .i64 ((p.nodes.getD i0 (default : GNode)).role)] : List AV).getD j0 (.con undef)), .lst 5 p.letters.length (fun i0 j0 => ([.int .i64 ((p.letters.getD i0 (default : GLetter)).from_), .int .i64 ((p.letters.getD i0 (default : GLetter)).to), .int .i64 ((p.letters.getD i0 (default : GLetter)).term), .bool ((p.letters.getD i0 (default : GLetter)).ask), .int .i64 ((p.letters.getD i0 (default : GLetter)).age)] : List AV).getD j0 (.con undef)), .lst 1 p.leaders.length (fun i0 _ => .lst 1 ((p.leaders.getD i0 []).length) (fun i1 _ => .int .i64 ((p.leaders.getD i0 []).getD i1 0)))], .one (.int .i64 x)] (.tup2 (.one (.int .i64 (leaderV p x))) (.one (.bool (leaderB p x)))) := by
  refine Fn.of_body (fn := Try.f26) Try.func26 rfl (Nat.le_of_ble_eq_true rfl) ⟨trivial, trivial⟩ ?_
  intro w0
  show AW _ 27 _ _ _ _
  refine AW.boundAL (t := 0) (j := 2) rfl rfl fun hx2 => ?_
  refine AW.seq ?_
  refine AW.region ?_
  refine ARun.box (id := 0) rfl (.tmp rfl) (SV.cells_of (by exact ⟨trivial, trivial, trivial, trivial⟩)) ⟨rfl, (by repeat first | exact trivial | refine ⟨by decide, by first | rfl | (intro i j; first | rfl | (dsimp only; split <;> rfl)), ?_⟩)⟩ rfl rfl rfl (Nat.le_of_ble_eq_true rfl) ?_
  refine ARun.pure (PureOp.assign rfl .int) rfl rfl (Nat.le_of_ble_eq_true rfl) ?_
  refine ARun.pure (PureOp.assign rfl .bool) rfl rfl (Nat.le_of_ble_eq_true rfl) ?_
  refine ARun.nil ?_
  refine AW.seq ?_
  refine AW.seq ?_
  refine AW.region ?_
  refine ARun.pure (PureOp.loadPtrAgg rfl (.tmp rfl) vq_ag_27_3 rfl rfl (Nat.le_of_ble_eq_true rfl) (Nat.le_of_ble_eq_true rfl)) rfl rfl (Nat.le_of_ble_eq_true rfl) ?_
  refine ARun.pure (PureOp.call rfl (v_specGoodPoll p) ⟨⟨_, (.tmp rfl), ⟨.lst, .lst, .lst, trivial⟩⟩, trivial⟩ vq_ca_23 trivial) rfl rfl (Nat.le_of_ble_eq_true rfl) ?_
  refine ARun.pure (PureOp.not rfl (.tmp rfl)) rfl rfl (Nat.le_of_ble_eq_true rfl) ?_
  refine ARun.nil ?_
  refine AW.cond (.tmp rfl) (fun hb1 => ?_) (fun hb1 => ?_)
  · have _u := True.intro
    replace hb1 := of_not hb1
    refine AW.seq ?_
    refine AW.region ?_
    refine ARun.pure (PureOp.assign rfl .int) rfl rfl (Nat.le_of_ble_eq_true rfl) ?_
    refine ARun.pure (PureOp.assign rfl .bool) rfl rfl (Nat.le_of_ble_eq_true rfl) ?_
    refine ARun.nil ?_
    refine AW.ret (show ResL _ _ [.tmp 4, .tmp 5] _ from res2I rfl rfl ?_)
    unfold leaderV leaderB; rw [hb1]; exact ⟨rfl, rfl⟩
  · have _u := True.intro
    replace hb1 := not_f hb1
    have hgood := hb1
    refine AW.skip ?_
    refine AW.seq ?_
    refine AW.seq ?_
    refine AW.region ?_
    refine ARun.pure (PureOp.fieldPtr rfl (.tmp rfl) vq_fi_27_2_2) rfl rfl (Nat.le_of_ble_eq_true rfl) ?_
    refine ARun.pure (PureOp.loadPtr rfl (.tmp rfl) vq_pl_25 rfl rfl (Nat.le_of_ble_eq_true rfl) (Nat.le_of_ble_eq_true rfl)) rfl rfl (Nat.le_of_ble_eq_true rfl) ?_
    refine ARun.pure (PureOp.lenLst rfl (.tmp rfl) vq_sl_25) rfl rfl (Nat.le_of_ble_eq_true rfl) ?_
    refine ARun.pure (PureOp.move rfl .int) rfl rfl (Nat.le_of_ble_eq_true rfl) ?_
    refine ARun.nil ?_
    refine AW.block ?_
    refine AW.loop (ι := Nat) (fun k => ⟨[(1, .one (.int .i64 x)), (12, .one (.lst 1 p.leaders.length (fun i0 _ => .lst 1 ((p.leaders.getD i0 []).length) (fun i1 _ => .int .i64 ((p.leaders.getD i0 []).getD i1 0))))), (13, .one (.int .i64 (p.leaders.length : Int))), (14, .one (.int .i64 (k : Int)))], []⟩) (fun k => k ≤ p.leaders.length ∧ ∀ j, j < k → leadIs p x j = false) (fun k => p.leaders.length - k) 0 ⟨Nat.zero_le _, fun j hj => absurd hj (by omega)⟩ ⟨⟨⟨_, rfl, rfl⟩, ⟨_, rfl, rfl⟩, ⟨_, rfl, rfl⟩, ⟨_, rfl, rfl⟩, trivial⟩, trivial⟩ ?_
    intro k hI
    obtain ⟨hk, hks⟩ := hI
    refine AW.seq ?_
    refine AW.region ?_
    refine ARun.pure (PureOp.intOp rfl (.tmp rfl) (.tmp rfl) rfl) rfl rfl (Nat.le_of_ble_eq_true rfl) ?_
    refine ARun.nil ?_
    refine AW.seq ?_
    refine AW.cond (.tmp rfl) (fun hb2 => ?_) (fun hb2 => ?_)
    · have _u := True.intro
      replace hb2 := of_decide_eq_true hb2
      have hkl : k < p.leaders.length := by omega
      have h2 := goodPoll_lead hgood hkl
      refine AW.skip ?_
      refine AW.seq ?_
      refine AW.block ?_
      refine AW.seq ?_
      refine AW.region ?_
      refine ARun.pure (PureOp.indexLst (i := k) rfl (.tmp rfl) vq_el_25_1 (.tmp rfl) rfl (by omega)) rfl rfl (Nat.le_of_ble_eq_true rfl) ?_
      refine ARun.pure (PureOp.loadRef rfl (.tmp rfl) vq_pl_22 (Nat.le_of_ble_eq_true rfl)) rfl rfl (Nat.le_of_ble_eq_true rfl) ?_
      refine ARun.pure (PureOp.assign rfl (.tmp rfl)) rfl rfl (Nat.le_of_ble_eq_true rfl) ?_
      refine ARun.nil ?_
      refine AW.seq ?_
      refine AW.region ?_
      refine ARun.pure (PureOp.move rfl (.tmp rfl)) rfl rfl (Nat.le_of_ble_eq_true rfl) ?_
      refine ARun.pure (PureOp.indexLst (i := 0) rfl (.tmp rfl) vq_el_22_1 .int rfl (by omega)) rfl rfl (Nat.le_of_ble_eq_true rfl) ?_
      refine ARun.pure (PureOp.loadRef rfl (.tmp rfl) vq_pl_3 (Nat.le_of_ble_eq_true rfl)) rfl rfl (Nat.le_of_ble_eq_true rfl) ?_
      refine ARun.pure (PureOp.move rfl (.tmp rfl)) rfl rfl (Nat.le_of_ble_eq_true rfl) ?_
      refine ARun.pure (PureOp.intOp rfl (.tmp rfl) (.tmp rfl) rfl) rfl rfl (Nat.le_of_ble_eq_true rfl) ?_
      refine ARun.nil ?_
      refine AW.cond (.tmp rfl) (fun hb3 => ?_) (fun hb3 => ?_)
      · have _u := True.intro
        replace hb3 := of_decide_eq_true hb3
        refine AW.seq ?_
        refine AW.region ?_
        refine ARun.pure (PureOp.move rfl (.tmp rfl)) rfl rfl (Nat.le_of_ble_eq_true rfl) ?_
        refine ARun.pure (PureOp.indexLst (i := 1) rfl (.tmp rfl) vq_el_22_1 .int rfl (by omega)) rfl rfl (Nat.le_of_ble_eq_true rfl) ?_
        refine ARun.pure (PureOp.loadRef rfl (.tmp rfl) vq_pl_3 (Nat.le_of_ble_eq_true rfl)) rfl rfl (Nat.le_of_ble_eq_true rfl) ?_
        refine ARun.pure (PureOp.assign rfl (.tmp rfl)) rfl rfl (Nat.le_of_ble_eq_true rfl) ?_
        refine ARun.pure (PureOp.assign rfl .bool) rfl rfl (Nat.le_of_ble_eq_true rfl) ?_
        refine ARun.nil ?_
        refine AW.ret (show ResL _ _ [.tmp 4, .tmp 5] _ from res2I rfl rfl ?_)
        have ho : leaderOf p x = some k := firstAt_hit (decide_eq_true hb3) (fun j _ hj => hks j hj) (by omega) (by omega)
        unfold leaderV leaderB; rw [hgood, ho]; exact ⟨rfl, rfl⟩
      · have _u := True.intro
        replace hb3 := of_decide_eq_false hb3
        have hmiss : leadIs p x k = false := decide_eq_false hb3
        refine AW.skip ?_
        refine AW.region ?_
        refine ARun.pure (PureOp.add (c := ((k + 1 : Nat) : Int)) rfl (.tmp rfl) .int (by rw [wrap_id (by omega) (by omega)]; omega)) rfl rfl (Nat.le_of_ble_eq_true rfl) ?_
        refine ARun.pure (PureOp.move rfl (.tmp rfl)) rfl rfl (Nat.le_of_ble_eq_true rfl) ?_
        refine ARun.nil ?_
        exact ⟨k + 1, ⟨by omega, rng_succ (p := fun j => leadIs p x j = false) hks hmiss⟩, by dsimp only; omega, ⟨⟨⟨_, rfl, rfl⟩, ⟨_, rfl, rfl⟩, ⟨_, rfl, rfl⟩, ⟨_, rfl, rfl⟩, trivial⟩, trivial⟩⟩
    · have _u := True.intro
      replace hb2 := of_decide_eq_false hb2
      have hkl : ¬ k < p.leaders.length := by omega
      refine AW.exit ?_
      refine AW.seq ?_
      refine AW.region ?_
      refine ARun.pure (PureOp.assign rfl .int) rfl rfl (Nat.le_of_ble_eq_true rfl) ?_
      refine ARun.pure (PureOp.assign rfl .bool) rfl rfl (Nat.le_of_ble_eq_true rfl) ?_
      refine ARun.nil ?_
      refine AW.ret (show ResL _ _ [.tmp 4, .tmp 5] _ from res2I rfl rfl ?_)
      have ho : leaderOf p x = none := firstAt_none fun j _ hj => hks j (by omega)
      unfold leaderV leaderB; rw [hgood, ho]; exact ⟨rfl, rfl⟩

theorem v_implLeaderOf (p : GPoll) (x : Int) : Fn Try.prog 27 [.agg [.lst 5 p.nodes.length (fun i0 j0 => ([.int .i64 ((p.nodes.getD i0 (default : GNode)).term), .int .i64 ((p.nodes.getD i0 (default : GNode)).voted), .int .i64 ((p.nodes.getD i0 (default : GNode)).age), .lst 1 (((p.nodes.getD i0 (default : GNode)).heard).length) (fun i1 _ => .int .i64 (((p.nodes.getD i0 (default : GNode)).heard).getD i1 0)), .int .i64 ((p.nodes.getD i0 (default : GNode)).role)] : List AV).getD j0 (.con undef)), .lst 5 p.letters.length (fun i0 j0 => ([.int .i64 ((p.letters.getD i0 (default : GLetter)).from_), .int .i64 ((p.letters.getD i0 (default : GLetter)).to), .int .i64 ((p.letters.getD i0 (default : GLetter)).term), .bool ((p.letters.getD i0 (default : GLetter)).ask), .int .i64 ((p.letters.getD i0 (default : GLetter)).age)] : List AV).getD j0 (.con undef)), .lst 1 p.leaders.length (fun i0 _ => .lst 1 ((p.leaders.getD i0 []).length) (fun i1 _ => .int .i64 ((p.leaders.getD i0 []).getD i1 0)))], .one (.int .i64 x)] (.tup2 (.one (.int .i64 (leaderV p x))) (.one (.bool (leaderB p x)))) := by
  refine Fn.of_body (fn := Try.f27) Try.func27 rfl (Nat.le_of_ble_eq_true rfl) ⟨trivial, trivial⟩ ?_
  intro w0
  show AW _ 27 _ _ _ _
  refine AW.boundAL (t := 0) (j := 2) rfl rfl fun hx2 => ?_
  refine AW.seq ?_
  refine AW.region ?_
  refine ARun.box (id := 0) rfl (.tmp rfl) (SV.cells_of (by exact ⟨trivial, trivial, trivial, trivial⟩)) ⟨rfl, (by repeat first | exact trivial | refine ⟨by decide, by first | rfl | (intro i j; first | rfl | (dsimp only; split <;> rfl)), ?_⟩)⟩ rfl rfl rfl (Nat.le_of_ble_eq_true rfl) ?_
  refine ARun.pure (PureOp.assign rfl .int) rfl rfl (Nat.le_of_ble_eq_true rfl) ?_
  refine ARun.pure (PureOp.assign rfl .bool) rfl rfl (Nat.le_of_ble_eq_true rfl) ?_
  refine ARun.nil ?_
  refine AW.seq ?_
  refine AW.seq ?_
  refine AW.region ?_
  refine ARun.pure (PureOp.loadPtrAgg rfl (.tmp rfl) vq_ag_27_3 rfl rfl (Nat.le_of_ble_eq_true rfl) (Nat.le_of_ble_eq_true rfl)) rfl rfl (Nat.le_of_ble_eq_true rfl) ?_
  refine ARun.pure (PureOp.call rfl (v_isPollG p) ⟨⟨_, (.tmp rfl), ⟨.lst, .lst, .lst, trivial⟩⟩, trivial⟩ vq_ca_81 trivial) rfl rfl (Nat.le_of_ble_eq_true rfl) ?_
  refine ARun.pure (PureOp.not rfl (.tmp rfl)) rfl rfl (Nat.le_of_ble_eq_true rfl) ?_
  refine ARun.nil ?_
  refine AW.cond (.tmp rfl) (fun hb1 => ?_) (fun hb1 => ?_)
  · have _u := True.intro
    replace hb1 := of_not hb1
    refine AW.seq ?_
    refine AW.region ?_
    refine ARun.pure (PureOp.assign rfl .int) rfl rfl (Nat.le_of_ble_eq_true rfl) ?_
    refine ARun.pure (PureOp.assign rfl .bool) rfl rfl (Nat.le_of_ble_eq_true rfl) ?_
    refine ARun.nil ?_
    refine AW.ret (show ResL _ _ [.tmp 4, .tmp 5] _ from res2I rfl rfl ?_)
    unfold leaderV leaderB; rw [hb1]; exact ⟨rfl, rfl⟩
  · have _u := True.intro
    replace hb1 := not_f hb1
    have hgood := hb1
    refine AW.skip ?_
    refine AW.seq ?_
    refine AW.seq ?_
    refine AW.region ?_
    refine ARun.pure (PureOp.fieldPtr rfl (.tmp rfl) vq_fi_27_2_2) rfl rfl (Nat.le_of_ble_eq_true rfl) ?_
    refine ARun.pure (PureOp.loadPtr rfl (.tmp rfl) vq_pl_25 rfl rfl (Nat.le_of_ble_eq_true rfl) (Nat.le_of_ble_eq_true rfl)) rfl rfl (Nat.le_of_ble_eq_true rfl) ?_
    refine ARun.pure (PureOp.lenLst rfl (.tmp rfl) vq_sl_25) rfl rfl (Nat.le_of_ble_eq_true rfl) ?_
    refine ARun.pure (PureOp.move rfl .int) rfl rfl (Nat.le_of_ble_eq_true rfl) ?_
    refine ARun.nil ?_
    refine AW.block ?_
    refine AW.loop (ι := Nat) (fun k => ⟨[(1, .one (.int .i64 x)), (12, .one (.lst 1 p.leaders.length (fun i0 _ => .lst 1 ((p.leaders.getD i0 []).length) (fun i1 _ => .int .i64 ((p.leaders.getD i0 []).getD i1 0))))), (13, .one (.int .i64 (p.leaders.length : Int))), (14, .one (.int .i64 (k : Int)))], []⟩) (fun k => k ≤ p.leaders.length ∧ ∀ j, j < k → leadIs p x j = false) (fun k => p.leaders.length - k) 0 ⟨Nat.zero_le _, fun j hj => absurd hj (by omega)⟩ ⟨⟨⟨_, rfl, rfl⟩, ⟨_, rfl, rfl⟩, ⟨_, rfl, rfl⟩, ⟨_, rfl, rfl⟩, trivial⟩, trivial⟩ ?_
    intro k hI
    obtain ⟨hk, hks⟩ := hI
    refine AW.seq ?_
    refine AW.region ?_
    refine ARun.pure (PureOp.intOp rfl (.tmp rfl) (.tmp rfl) rfl) rfl rfl (Nat.le_of_ble_eq_true rfl) ?_
    refine ARun.nil ?_
    refine AW.seq ?_
    refine AW.cond (.tmp rfl) (fun hb2 => ?_) (fun hb2 => ?_)
    · have _u := True.intro
      replace hb2 := of_decide_eq_true hb2
      have hkl : k < p.leaders.length := by omega
      have h2 := goodPoll_lead hgood hkl
      refine AW.skip ?_
      refine AW.seq ?_
      refine AW.block ?_
      refine AW.seq ?_
      refine AW.region ?_
      refine ARun.pure (PureOp.indexLst (i := k) rfl (.tmp rfl) vq_el_25_1 (.tmp rfl) rfl (by omega)) rfl rfl (Nat.le_of_ble_eq_true rfl) ?_
      refine ARun.pure (PureOp.loadRef rfl (.tmp rfl) vq_pl_22 (Nat.le_of_ble_eq_true rfl)) rfl rfl (Nat.le_of_ble_eq_true rfl) ?_
      refine ARun.pure (PureOp.assign rfl (.tmp rfl)) rfl rfl (Nat.le_of_ble_eq_true rfl) ?_
      refine ARun.nil ?_
      refine AW.seq ?_
      refine AW.region ?_
      refine ARun.pure (PureOp.move rfl (.tmp rfl)) rfl rfl (Nat.le_of_ble_eq_true rfl) ?_
      refine ARun.pure (PureOp.indexLst (i := 0) rfl (.tmp rfl) vq_el_22_1 .int rfl (by omega)) rfl rfl (Nat.le_of_ble_eq_true rfl) ?_
      refine ARun.pure (PureOp.loadRef rfl (.tmp rfl) vq_pl_3 (Nat.le_of_ble_eq_true rfl)) rfl rfl (Nat.le_of_ble_eq_true rfl) ?_
      refine ARun.pure (PureOp.move rfl (.tmp rfl)) rfl rfl (Nat.le_of_ble_eq_true rfl) ?_
      refine ARun.pure (PureOp.intOp rfl (.tmp rfl) (.tmp rfl) rfl) rfl rfl (Nat.le_of_ble_eq_true rfl) ?_
      refine ARun.nil ?_
      refine AW.cond (.tmp rfl) (fun hb3 => ?_) (fun hb3 => ?_)
      · have _u := True.intro
        replace hb3 := of_decide_eq_true hb3
        refine AW.seq ?_
        refine AW.region ?_
        refine ARun.pure (PureOp.move rfl (.tmp rfl)) rfl rfl (Nat.le_of_ble_eq_true rfl) ?_
        refine ARun.pure (PureOp.indexLst (i := 1) rfl (.tmp rfl) vq_el_22_1 .int rfl (by omega)) rfl rfl (Nat.le_of_ble_eq_true rfl) ?_
        refine ARun.pure (PureOp.loadRef rfl (.tmp rfl) vq_pl_3 (Nat.le_of_ble_eq_true rfl)) rfl rfl (Nat.le_of_ble_eq_true rfl) ?_
        refine ARun.pure (PureOp.assign rfl (.tmp rfl)) rfl rfl (Nat.le_of_ble_eq_true rfl) ?_
        refine ARun.pure (PureOp.assign rfl .bool) rfl rfl (Nat.le_of_ble_eq_true rfl) ?_
        refine ARun.nil ?_
        refine AW.ret (show ResL _ _ [.tmp 4, .tmp 5] _ from res2I rfl rfl ?_)
        have ho : leaderOf p x = some k := firstAt_hit (decide_eq_true hb3) (fun j _ hj => hks j hj) (by omega) (by omega)
        unfold leaderV leaderB; rw [hgood, ho]; exact ⟨rfl, rfl⟩
      · have _u := True.intro
        replace hb3 := of_decide_eq_false hb3
        have hmiss : leadIs p x k = false := decide_eq_false hb3
        refine AW.skip ?_
        refine AW.region ?_
        refine ARun.pure (PureOp.add (c := ((k + 1 : Nat) : Int)) rfl (.tmp rfl) .int (by rw [wrap_id (by omega) (by omega)]; omega)) rfl rfl (Nat.le_of_ble_eq_true rfl) ?_
        refine ARun.pure (PureOp.move rfl (.tmp rfl)) rfl rfl (Nat.le_of_ble_eq_true rfl) ?_
        refine ARun.nil ?_
        exact ⟨k + 1, ⟨by omega, rng_succ (p := fun j => leadIs p x j = false) hks hmiss⟩, by dsimp only; omega, ⟨⟨⟨_, rfl, rfl⟩, ⟨_, rfl, rfl⟩, ⟨_, rfl, rfl⟩, ⟨_, rfl, rfl⟩, trivial⟩, trivial⟩⟩
    · have _u := True.intro
      replace hb2 := of_decide_eq_false hb2
      have hkl : ¬ k < p.leaders.length := by omega
      refine AW.exit ?_
      refine AW.seq ?_
      refine AW.region ?_
      refine ARun.pure (PureOp.assign rfl .int) rfl rfl (Nat.le_of_ble_eq_true rfl) ?_
      refine ARun.pure (PureOp.assign rfl .bool) rfl rfl (Nat.le_of_ble_eq_true rfl) ?_
      refine ARun.nil ?_
      refine AW.ret (show ResL _ _ [.tmp 4, .tmp 5] _ from res2I rfl rfl ?_)
      have ho : leaderOf p x = none := firstAt_none fun j _ hj => hks j (by omega)
      unfold leaderV leaderB; rw [hgood, ho]; exact ⟨rfl, rfl⟩
end Go.Proofs.Ytlbnodmebehpiaa
