/-
  The reference's GoodPoll.
-/
import Derived.Test.YtlbnodmebehpiaaLb
import Derived.Test.YtlbnodmebehpiaaVl
namespace Go.Proofs.Ytlbnodmebehpiaa
open Go.ChangeShapes Go.WideShapes Go.ChangeAt Go.RowKit Go.BigFrame Go.Deep
set_option linter.unusedVariables false
set_option linter.unusedSimpArgs false
theorem vp_ag_102_5 : aggB Try.prog 102 5 = true := by kernel_rfl
theorem vp_ag_27_3 : aggB Try.prog 27 3 = true := by kernel_rfl
theorem vp_ag_89_5 : aggB Try.prog 89 5 = true := by kernel_rfl
theorem vp_ca_57 : callB Try.prog 57 = true := by kernel_rfl
theorem vp_ca_59 : callB Try.prog 59 = true := by kernel_rfl
theorem vp_ca_76 : callB Try.prog 76 = true := by kernel_rfl
theorem vp_ca_77 : callB Try.prog 77 = true := by kernel_rfl
theorem vp_el_22_1 : elemB Try.prog 22 1 = true := by kernel_rfl
theorem vp_el_23_5 : elemB Try.prog 23 5 = true := by kernel_rfl
theorem vp_el_24_5 : elemB Try.prog 24 5 = true := by kernel_rfl
theorem vp_el_25_1 : elemB Try.prog 25 1 = true := by kernel_rfl
theorem vp_fi_102_0_0 : fieldB Try.prog 102 0 0 = true := by kernel_rfl
theorem vp_fi_102_1_1 : fieldB Try.prog 102 1 1 = true := by kernel_rfl
theorem vp_fi_102_2_2 : fieldB Try.prog 102 2 2 = true := by kernel_rfl
theorem vp_fi_102_3_3 : fieldB Try.prog 102 3 3 = true := by kernel_rfl
theorem vp_fi_102_4_4 : fieldB Try.prog 102 4 4 = true := by kernel_rfl
theorem vp_fi_27_0_0 : fieldB Try.prog 27 0 0 = true := by kernel_rfl
theorem vp_fi_27_1_1 : fieldB Try.prog 27 1 1 = true := by kernel_rfl
theorem vp_fi_27_2_2 : fieldB Try.prog 27 2 2 = true := by kernel_rfl
theorem vp_fi_89_0_0 : fieldB Try.prog 89 0 0 = true := by kernel_rfl
theorem vp_fi_89_1_1 : fieldB Try.prog 89 1 1 = true := by kernel_rfl
theorem vp_fi_89_2_2 : fieldB Try.prog 89 2 2 = true := by kernel_rfl
theorem vp_fi_89_3_3 : fieldB Try.prog 89 3 3 = true := by kernel_rfl
theorem vp_fi_89_4_4 : fieldB Try.prog 89 4 4 = true := by kernel_rfl
theorem vp_pl_22 : plainB Try.prog 22 = true := by kernel_rfl
theorem vp_pl_23 : plainB Try.prog 23 = true := by kernel_rfl
theorem vp_pl_24 : plainB Try.prog 24 = true := by kernel_rfl
theorem vp_pl_25 : plainB Try.prog 25 = true := by kernel_rfl
theorem vp_pl_3 : plainB Try.prog 3 = true := by kernel_rfl
theorem vp_pl_4 : plainB Try.prog 4 = true := by kernel_rfl
theorem vp_sl_22 : sliceB Try.prog 22 = true := by kernel_rfl
theorem vp_sl_23 : sliceB Try.prog 23 = true := by kernel_rfl
theorem vp_sl_24 : sliceB Try.prog 24 = true := by kernel_rfl
theorem vp_sl_25 : sliceB Try.prog 25 = true := by kernel_rfl
theorem vp_sz_102_5 : sizeB Try.prog 102 5 = true := by kernel_rfl
theorem vp_sz_89_5 : sizeB Try.prog 89 5 = true := by kernel_rfl
theorem v_isAge (x : Int) : Fn Try.prog 62 [.one (.int .i64 x)] (.one (.bool (inB 0 9 x))) := by
  refine Fn.of_body (fn := Try.f62) Try.func62 rfl (Nat.le_of_ble_eq_true rfl) trivial ?_
  intro w0
  show AW _ 5 _ _ _ _
  refine AW.seq ?_
  refine AW.region ?_
  refine ARun.pure (PureOp.assign rfl .bool) rfl rfl (Nat.le_of_ble_eq_true rfl) ?_
  refine ARun.nil ?_
  refine AW.seq ?_
  refine AW.region ?_
  refine ARun.pure (PureOp.move rfl (.tmp rfl)) rfl rfl (Nat.le_of_ble_eq_true rfl) ?_
  refine ARun.pure (PureOp.call rfl (v_within x 0 9) ⟨⟨_, (.tmp rfl), .int⟩, ⟨_, .int, .int⟩, ⟨_, .int, .int⟩, trivial⟩ vp_ca_59 trivial) rfl rfl (Nat.le_of_ble_eq_true rfl) ?_
  refine ARun.pure (PureOp.assign rfl (.tmp rfl)) rfl rfl (Nat.le_of_ble_eq_true rfl) ?_
  refine ARun.nil ?_
  refine AW.ret (show ResL _ _ [.tmp 2] _ from resB rfl ?_)
  rfl

def risBad (l : List Int) (m k : Nat) : Bool :=
  cond (!(inB 0 ((m : Int) - 1) (l.getD k 0))) true (cond (decide (0 < (k : Int))) (decide ((l.getD k 0) ≤ (l.getD (k - 1) 0))) false)
def risB (l : List Int) (m : Nat) : Bool := (List.range l.length).all fun k => !risBad l m k
theorem v_l8Rising (l : List Int) (m : Nat) (hm : m ≤ 9223372036854775807) : Fn Try.prog 76 [.one (.lst 1 l.length (fun i0 _ => .int .i64 (l.getD i0 0))), .one (.int .i64 (m : Int))] (.one (.bool (risB l m))) := by
  refine Fn.of_body (fn := Try.f76) Try.func76 rfl (Nat.le_of_ble_eq_true rfl) trivial ?_
  intro w0
  show AW _ 33 _ _ _ _
  refine AW.bound (t := 0) rfl fun hx => ?_
  refine AW.seq ?_
  refine AW.region ?_
  refine ARun.pure (PureOp.assign rfl .bool) rfl rfl (Nat.le_of_ble_eq_true rfl) ?_
  refine ARun.nil ?_
  refine AW.seq ?_
  refine AW.seq ?_
  refine AW.region ?_
  refine ARun.pure (PureOp.move rfl (.tmp rfl)) rfl rfl (Nat.le_of_ble_eq_true rfl) ?_
  refine ARun.pure (PureOp.lenLst rfl (.tmp rfl) vp_sl_22) rfl rfl (Nat.le_of_ble_eq_true rfl) ?_
  refine ARun.pure (PureOp.move rfl .int) rfl rfl (Nat.le_of_ble_eq_true rfl) ?_
  refine ARun.nil ?_
  refine AW.block ?_
  refine AW.loop (ι := Nat) (fun k => ⟨[(0, .one (.lst 1 l.length (fun i0 _ => .int .i64 (l.getD i0 0)))), (1, .one (.int .i64 (m : Int))), (7, .one (.lst 1 l.length (fun i0 _ => .int .i64 (l.getD i0 0)))), (8, .one (.int .i64 (l.length : Int))), (9, .one (.int .i64 (k : Int)))], []⟩) (fun k => k ≤ l.length ∧ ∀ j, j < k → risBad l m j = false) (fun k => l.length - k) 0 ⟨Nat.zero_le _, fun j hj => absurd hj (by omega)⟩ ⟨⟨⟨_, rfl, rfl⟩, ⟨_, rfl, rfl⟩, ⟨_, rfl, rfl⟩, ⟨_, rfl, rfl⟩, ⟨_, rfl, rfl⟩, trivial⟩, trivial⟩ ?_
  intro k hI
  obtain ⟨hk, hks⟩ := hI
  refine AW.seq ?_
  refine AW.region ?_
  refine ARun.pure (PureOp.intOp rfl (.tmp rfl) (.tmp rfl) rfl) rfl rfl (Nat.le_of_ble_eq_true rfl) ?_
  refine ARun.nil ?_
  refine AW.seq ?_
  refine AW.cond (.tmp rfl) (fun hb1 => ?_) (fun hb1 => ?_)
  · have _u := True.intro
    replace hb1 := of_decide_eq_true hb1
    have hkl : k < l.length := by omega
    refine AW.skip ?_
    refine AW.seq ?_
    refine AW.block ?_
    refine AW.seq ?_
    refine AW.region ?_
    refine ARun.pure (PureOp.move rfl (.tmp rfl)) rfl rfl (Nat.le_of_ble_eq_true rfl) ?_
    refine ARun.pure (PureOp.indexLst (i := k) rfl (.tmp rfl) vp_el_22_1 (.tmp rfl) rfl (by omega)) rfl rfl (Nat.le_of_ble_eq_true rfl) ?_
    refine ARun.pure (PureOp.loadRef rfl (.tmp rfl) vp_pl_3 (Nat.le_of_ble_eq_true rfl)) rfl rfl (Nat.le_of_ble_eq_true rfl) ?_
    refine ARun.pure (PureOp.assign rfl (.tmp rfl)) rfl rfl (Nat.le_of_ble_eq_true rfl) ?_
    refine ARun.pure (PureOp.assign rfl (.tmp rfl)) rfl rfl (Nat.le_of_ble_eq_true rfl) ?_
    refine ARun.nil ?_
    refine AW.seq ?_
    refine AW.region ?_
    refine ARun.pure (PureOp.move rfl (.tmp rfl)) rfl rfl (Nat.le_of_ble_eq_true rfl) ?_
    refine ARun.pure (PureOp.move rfl (.tmp rfl)) rfl rfl (Nat.le_of_ble_eq_true rfl) ?_
    refine ARun.pure (PureOp.sub (c := (m : Int) - 1) rfl (.tmp rfl) .int (wrap_id (by omega) (by omega))) rfl rfl (Nat.le_of_ble_eq_true rfl) ?_
    refine ARun.pure (PureOp.call rfl (v_l1In (l.getD k 0) 0 ((m : Int) - 1)) ⟨⟨_, (.tmp rfl), .int⟩, ⟨_, .int, .int⟩, ⟨_, (.tmp rfl), .int⟩, trivial⟩ vp_ca_57 trivial) rfl rfl (Nat.le_of_ble_eq_true rfl) ?_
    refine ARun.pure (PureOp.not rfl (.tmp rfl)) rfl rfl (Nat.le_of_ble_eq_true rfl) ?_
    refine ARun.pure (PureOp.move rfl (.tmp rfl)) rfl rfl (Nat.le_of_ble_eq_true rfl) ?_
    refine ARun.gpure (want := false) (.tf rfl) (fun hg2 => PureOp.move rfl (.tmp rfl)) rfl rfl (Nat.le_of_ble_eq_true rfl) rfl (Nat.le_of_ble_eq_true rfl) ?_
    refine ARun.gpure (want := false) (.tf rfl) (fun hg3 => PureOp.intOp rfl (.gtmp rfl hg3) .int rfl) rfl rfl (Nat.le_of_ble_eq_true rfl) rfl (Nat.le_of_ble_eq_true rfl) ?_
    refine ARun.gpure (want := false) (.tf rfl) (fun hg4 => PureOp.move rfl (.gtmp rfl hg4)) rfl rfl (Nat.le_of_ble_eq_true rfl) rfl (Nat.le_of_ble_eq_true rfl) ?_
    refine ARun.gpure (want := true) (.gt rfl) (fun hg5 => PureOp.move rfl (.tmp rfl)) rfl rfl (Nat.le_of_ble_eq_true rfl) rfl (Nat.le_of_ble_eq_true rfl) ?_
    refine ARun.gpure (want := true) (.gt rfl) (fun hg6 => PureOp.move rfl (.tmp rfl)) rfl rfl (Nat.le_of_ble_eq_true rfl) rfl (Nat.le_of_ble_eq_true rfl) ?_
    refine ARun.gpure (want := true) (.gt rfl) (fun hg7 => PureOp.sub (c := (((k - 1) : Nat) : Int)) rfl (.gtmp rfl hg7) .int (by have q := hg7; simp only [Bool.cond_true_left, Bool.cond_false_right, Bool.not_eq_true', Bool.or_eq_false_iff, Bool.not_eq_false', Bool.and_eq_true, Bool.not_not, decide_eq_true_eq, decide_eq_false_iff_not, inB] at q; rw [wrap_id (by omega) (by omega)]; omega)) rfl rfl (Nat.le_of_ble_eq_true rfl) rfl (Nat.le_of_ble_eq_true rfl) ?_
    refine ARun.gpure (want := true) (.gt rfl) (fun hg8 => PureOp.indexLst (i := (k - 1)) rfl (.gtmp rfl hg8) vp_el_22_1 (.gtmp rfl hg8) rfl (by first | omega | (have q := hg8; simp only [Bool.cond_true_left, Bool.cond_false_right, Bool.not_eq_true', Bool.or_eq_false_iff, Bool.not_eq_false', Bool.and_eq_true, Bool.not_not, decide_eq_true_eq, decide_eq_false_iff_not, inB] at q; omega))) rfl rfl (Nat.le_of_ble_eq_true rfl) rfl (Nat.le_of_ble_eq_true rfl) ?_
    refine ARun.gpure (want := true) (.gt rfl) (fun hg9 => PureOp.loadRef rfl (.gtmp rfl hg9) vp_pl_3 (Nat.le_of_ble_eq_true rfl)) rfl rfl (Nat.le_of_ble_eq_true rfl) rfl (Nat.le_of_ble_eq_true rfl) ?_
    refine ARun.gpure (want := true) (.gt rfl) (fun hg10 => PureOp.move rfl (.tmp rfl)) rfl rfl (Nat.le_of_ble_eq_true rfl) rfl (Nat.le_of_ble_eq_true rfl) ?_
    refine ARun.gpure (want := true) (.gt rfl) (fun hg11 => PureOp.intOp rfl (.gtmp rfl hg11) (.gtmp rfl hg11) rfl) rfl rfl (Nat.le_of_ble_eq_true rfl) rfl (Nat.le_of_ble_eq_true rfl) ?_
    refine ARun.gpure (want := false) (.tf rfl) (fun hg12 => PureOp.pick rfl (.gtmp rfl hg12) (fun hp13 => .gtmp rfl (and_mk hg12 hp13)) (fun _ => .bool)) rfl rfl (Nat.le_of_ble_eq_true rfl) rfl (Nat.le_of_ble_eq_true rfl) ?_
    refine ARun.pure (PureOp.pick rfl (.tmp rfl) (fun _ => .bool) (fun hp16 => .gtmp rfl (not_of hp16))) rfl rfl (Nat.le_of_ble_eq_true rfl) ?_
    refine ARun.nil ?_
    refine AW.cond (.tmp rfl) (fun hb17 => ?_) (fun hb17 => ?_)
    · have _u := True.intro
      refine AW.seq ?_
      refine AW.region ?_
      refine ARun.pure (PureOp.assign rfl .bool) rfl rfl (Nat.le_of_ble_eq_true rfl) ?_
      refine ARun.nil ?_
      refine AW.ret (show ResL _ _ [.tmp 4] _ from resB rfl ?_)
      exact (rng_no hkl (by rw [show risBad l m k = true from hb17]; rfl)).symm
    · have _u := True.intro
      refine AW.skip ?_
      refine AW.region ?_
      refine ARun.pure (PureOp.add (c := ((k + 1 : Nat) : Int)) rfl (.tmp rfl) .int (by rw [wrap_id (by omega) (by omega)]; omega)) rfl rfl (Nat.le_of_ble_eq_true rfl) ?_
      refine ARun.pure (PureOp.move rfl (.tmp rfl)) rfl rfl (Nat.le_of_ble_eq_true rfl) ?_
      refine ARun.nil ?_
      exact ⟨k + 1, ⟨by omega, rng_succ (p := fun j => risBad l m j = false) hks hb17⟩, by dsimp only; omega, ⟨⟨⟨_, rfl, rfl⟩, ⟨_, rfl, rfl⟩, ⟨_, rfl, rfl⟩, ⟨_, rfl, rfl⟩, ⟨_, rfl, rfl⟩, trivial⟩, trivial⟩⟩
  · have _u := True.intro
    replace hb1 := of_decide_eq_false hb1
    have hkl : ¬ k < l.length := by omega
    refine AW.exit ?_
    refine AW.seq ?_
    refine AW.region ?_
    refine ARun.pure (PureOp.assign rfl .bool) rfl rfl (Nat.le_of_ble_eq_true rfl) ?_
    refine ARun.nil ?_
    refine AW.ret (show ResL _ _ [.tmp 4] _ from resB rfl ?_)
    exact (rng_yes (fun j hj => by rw [hks j (by omega)]; rfl)).symm

theorem v_areNodes (l : List Int) (m : Nat) (hm : m ≤ 9223372036854775807) : Fn Try.prog 124 [.one (.int .i64 (m : Int)), .one (.lst 1 l.length (fun i0 _ => .int .i64 (l.getD i0 0)))] (.one (.bool (risB l m))) := by
  refine Fn.of_body (fn := Try.f124) Try.func124 rfl (Nat.le_of_ble_eq_true rfl) trivial ?_
  intro w0
  show AW _ 33 _ _ _ _
  refine AW.bound (t := 1) rfl fun hx => ?_
  refine AW.seq ?_
  refine AW.region ?_
  refine ARun.pure (PureOp.assign rfl .bool) rfl rfl (Nat.le_of_ble_eq_true rfl) ?_
  refine ARun.nil ?_
  refine AW.seq ?_
  refine AW.seq ?_
  refine AW.region ?_
  refine ARun.pure (PureOp.move rfl (.tmp rfl)) rfl rfl (Nat.le_of_ble_eq_true rfl) ?_
  refine ARun.pure (PureOp.lenLst rfl (.tmp rfl) vp_sl_22) rfl rfl (Nat.le_of_ble_eq_true rfl) ?_
  refine ARun.pure (PureOp.move rfl .int) rfl rfl (Nat.le_of_ble_eq_true rfl) ?_
  refine ARun.nil ?_
  refine AW.block ?_
  refine AW.loop (ι := Nat) (fun k => ⟨[(0, .one (.int .i64 (m : Int))), (1, .one (.lst 1 l.length (fun i0 _ => .int .i64 (l.getD i0 0)))), (7, .one (.lst 1 l.length (fun i0 _ => .int .i64 (l.getD i0 0)))), (8, .one (.int .i64 (l.length : Int))), (9, .one (.int .i64 (k : Int)))], []⟩) (fun k => k ≤ l.length ∧ ∀ j, j < k → risBad l m j = false) (fun k => l.length - k) 0 ⟨Nat.zero_le _, fun j hj => absurd hj (by omega)⟩ ⟨⟨⟨_, rfl, rfl⟩, ⟨_, rfl, rfl⟩, ⟨_, rfl, rfl⟩, ⟨_, rfl, rfl⟩, ⟨_, rfl, rfl⟩, trivial⟩, trivial⟩ ?_
  intro k hI
  obtain ⟨hk, hks⟩ := hI
  refine AW.seq ?_
  refine AW.region ?_
  refine ARun.pure (PureOp.intOp rfl (.tmp rfl) (.tmp rfl) rfl) rfl rfl (Nat.le_of_ble_eq_true rfl) ?_
  refine ARun.nil ?_
  refine AW.seq ?_
  refine AW.cond (.tmp rfl) (fun hb1 => ?_) (fun hb1 => ?_)
  · have _u := True.intro
    replace hb1 := of_decide_eq_true hb1
    have hkl : k < l.length := by omega
    refine AW.skip ?_
    refine AW.seq ?_
    refine AW.block ?_
    refine AW.seq ?_
    refine AW.region ?_
    refine ARun.pure (PureOp.move rfl (.tmp rfl)) rfl rfl (Nat.le_of_ble_eq_true rfl) ?_
    refine ARun.pure (PureOp.indexLst (i := k) rfl (.tmp rfl) vp_el_22_1 (.tmp rfl) rfl (by omega)) rfl rfl (Nat.le_of_ble_eq_true rfl) ?_
    refine ARun.pure (PureOp.loadRef rfl (.tmp rfl) vp_pl_3 (Nat.le_of_ble_eq_true rfl)) rfl rfl (Nat.le_of_ble_eq_true rfl) ?_
    refine ARun.pure (PureOp.assign rfl (.tmp rfl)) rfl rfl (Nat.le_of_ble_eq_true rfl) ?_
    refine ARun.pure (PureOp.assign rfl (.tmp rfl)) rfl rfl (Nat.le_of_ble_eq_true rfl) ?_
    refine ARun.nil ?_
    refine AW.seq ?_
    refine AW.region ?_
    refine ARun.pure (PureOp.move rfl (.tmp rfl)) rfl rfl (Nat.le_of_ble_eq_true rfl) ?_
    refine ARun.pure (PureOp.move rfl (.tmp rfl)) rfl rfl (Nat.le_of_ble_eq_true rfl) ?_
    refine ARun.pure (PureOp.sub (c := (m : Int) - 1) rfl (.tmp rfl) .int (wrap_id (by omega) (by omega))) rfl rfl (Nat.le_of_ble_eq_true rfl) ?_
    refine ARun.pure (PureOp.call rfl (v_within (l.getD k 0) 0 ((m : Int) - 1)) ⟨⟨_, (.tmp rfl), .int⟩, ⟨_, .int, .int⟩, ⟨_, (.tmp rfl), .int⟩, trivial⟩ vp_ca_59 trivial) rfl rfl (Nat.le_of_ble_eq_true rfl) ?_
    refine ARun.pure (PureOp.not rfl (.tmp rfl)) rfl rfl (Nat.le_of_ble_eq_true rfl) ?_
    refine ARun.pure (PureOp.move rfl (.tmp rfl)) rfl rfl (Nat.le_of_ble_eq_true rfl) ?_
    refine ARun.gpure (want := false) (.tf rfl) (fun hg2 => PureOp.move rfl (.tmp rfl)) rfl rfl (Nat.le_of_ble_eq_true rfl) rfl (Nat.le_of_ble_eq_true rfl) ?_
    refine ARun.gpure (want := false) (.tf rfl) (fun hg3 => PureOp.intOp rfl (.gtmp rfl hg3) .int rfl) rfl rfl (Nat.le_of_ble_eq_true rfl) rfl (Nat.le_of_ble_eq_true rfl) ?_
    refine ARun.gpure (want := false) (.tf rfl) (fun hg4 => PureOp.move rfl (.gtmp rfl hg4)) rfl rfl (Nat.le_of_ble_eq_true rfl) rfl (Nat.le_of_ble_eq_true rfl) ?_
    refine ARun.gpure (want := true) (.gt rfl) (fun hg5 => PureOp.move rfl (.tmp rfl)) rfl rfl (Nat.le_of_ble_eq_true rfl) rfl (Nat.le_of_ble_eq_true rfl) ?_
    refine ARun.gpure (want := true) (.gt rfl) (fun hg6 => PureOp.move rfl (.tmp rfl)) rfl rfl (Nat.le_of_ble_eq_true rfl) rfl (Nat.le_of_ble_eq_true rfl) ?_
    refine ARun.gpure (want := true) (.gt rfl) (fun hg7 => PureOp.sub (c := (((k - 1) : Nat) : Int)) rfl (.gtmp rfl hg7) .int (by have q := hg7; simp only [Bool.cond_true_left, Bool.cond_false_right, Bool.not_eq_true', Bool.or_eq_false_iff, Bool.not_eq_false', Bool.and_eq_true, Bool.not_not, decide_eq_true_eq, decide_eq_false_iff_not, inB] at q; rw [wrap_id (by omega) (by omega)]; omega)) rfl rfl (Nat.le_of_ble_eq_true rfl) rfl (Nat.le_of_ble_eq_true rfl) ?_
    refine ARun.gpure (want := true) (.gt rfl) (fun hg8 => PureOp.indexLst (i := (k - 1)) rfl (.gtmp rfl hg8) vp_el_22_1 (.gtmp rfl hg8) rfl (by first | omega | (have q := hg8; simp only [Bool.cond_true_left, Bool.cond_false_right, Bool.not_eq_true', Bool.or_eq_false_iff, Bool.not_eq_false', Bool.and_eq_true, Bool.not_not, decide_eq_true_eq, decide_eq_false_iff_not, inB] at q; omega))) rfl rfl (Nat.le_of_ble_eq_true rfl) rfl (Nat.le_of_ble_eq_true rfl) ?_
    refine ARun.gpure (want := true) (.gt rfl) (fun hg9 => PureOp.loadRef rfl (.gtmp rfl hg9) vp_pl_3 (Nat.le_of_ble_eq_true rfl)) rfl rfl (Nat.le_of_ble_eq_true rfl) rfl (Nat.le_of_ble_eq_true rfl) ?_
    refine ARun.gpure (want := true) (.gt rfl) (fun hg10 => PureOp.move rfl (.tmp rfl)) rfl rfl (Nat.le_of_ble_eq_true rfl) rfl (Nat.le_of_ble_eq_true rfl) ?_
    refine ARun.gpure (want := true) (.gt rfl) (fun hg11 => PureOp.intOp rfl (.gtmp rfl hg11) (.gtmp rfl hg11) rfl) rfl rfl (Nat.le_of_ble_eq_true rfl) rfl (Nat.le_of_ble_eq_true rfl) ?_
    refine ARun.gpure (want := false) (.tf rfl) (fun hg12 => PureOp.pick rfl (.gtmp rfl hg12) (fun hp13 => .gtmp rfl (and_mk hg12 hp13)) (fun _ => .bool)) rfl rfl (Nat.le_of_ble_eq_true rfl) rfl (Nat.le_of_ble_eq_true rfl) ?_
    refine ARun.pure (PureOp.pick rfl (.tmp rfl) (fun _ => .bool) (fun hp16 => .gtmp rfl (not_of hp16))) rfl rfl (Nat.le_of_ble_eq_true rfl) ?_
    refine ARun.nil ?_
    refine AW.cond (.tmp rfl) (fun hb17 => ?_) (fun hb17 => ?_)
    · have _u := True.intro
      refine AW.seq ?_
      refine AW.region ?_
      refine ARun.pure (PureOp.assign rfl .bool) rfl rfl (Nat.le_of_ble_eq_true rfl) ?_
      refine ARun.nil ?_
      refine AW.ret (show ResL _ _ [.tmp 4] _ from resB rfl ?_)
      exact (rng_no hkl (by rw [show risBad l m k = true from hb17]; rfl)).symm
    · have _u := True.intro
      refine AW.skip ?_
      refine AW.region ?_
      refine ARun.pure (PureOp.add (c := ((k + 1 : Nat) : Int)) rfl (.tmp rfl) .int (by rw [wrap_id (by omega) (by omega)]; omega)) rfl rfl (Nat.le_of_ble_eq_true rfl) ?_
      refine ARun.pure (PureOp.move rfl (.tmp rfl)) rfl rfl (Nat.le_of_ble_eq_true rfl) ?_
      refine ARun.nil ?_
      exact ⟨k + 1, ⟨by omega, rng_succ (p := fun j => risBad l m j = false) hks hb17⟩, by dsimp only; omega, ⟨⟨⟨_, rfl, rfl⟩, ⟨_, rfl, rfl⟩, ⟨_, rfl, rfl⟩, ⟨_, rfl, rfl⟩, ⟨_, rfl, rfl⟩, trivial⟩, trivial⟩⟩
  · have _u := True.intro
    replace hb1 := of_decide_eq_false hb1
    have hkl : ¬ k < l.length := by omega
    refine AW.exit ?_
    refine AW.seq ?_
    refine AW.region ?_
    refine ARun.pure (PureOp.assign rfl .bool) rfl rfl (Nat.le_of_ble_eq_true rfl) ?_
    refine ARun.nil ?_
    refine AW.ret (show ResL _ _ [.tmp 4] _ from resB rfl ?_)
    exact (rng_yes (fun j hj => by rw [hks j (by omega)]; rfl)).symm

theorem v_l8Node (p : GPoll) (x : Int) : Fn Try.prog 77 [.agg [.lst 5 p.nodes.length (fun i0 j0 => ([.int .i64 ((p.nodes.getD i0 (default : GNode)).term), .int .i64 ((p.nodes.getD i0 (default : GNode)).voted), .int .i64 ((p.nodes.getD i0 (default : GNode)).age), .lst 1 (((p.nodes.getD i0 (default : GNode)).heard).length) (fun i1 _ => .int .i64 (((p.nodes.getD i0 (default : GNode)).heard).getD i1 0)), .int .i64 ((p.nodes.getD i0 (default : GNode)).role)] : List AV).getD j0 (.con undef)), .lst 5 p.letters.length (fun i0 j0 => ([.int .i64 ((p.letters.getD i0 (default : GLetter)).from_), .int .i64 ((p.letters.getD i0 (default : GLetter)).to), .int .i64 ((p.letters.getD i0 (default : GLetter)).term), .bool ((p.letters.getD i0 (default : GLetter)).ask), .int .i64 ((p.letters.getD i0 (default : GLetter)).age)] : List AV).getD j0 (.con undef)), .lst 1 p.leaders.length (fun i0 _ => .lst 1 ((p.leaders.getD i0 []).length) (fun i1 _ => .int .i64 ((p.leaders.getD i0 []).getD i1 0)))], .one (.int .i64 x)] (.one (.bool (inB 0 ((p.nodes.length : Int) - 1) x))) := by
  refine Fn.of_body (fn := Try.f77) Try.func77 rfl (Nat.le_of_ble_eq_true rfl) trivial ?_
  intro w0
  show AW _ 14 _ _ _ _
  refine AW.boundAL (t := 0) (j := 0) rfl rfl fun hx => ?_
  refine AW.seq ?_
  refine AW.region ?_
  refine ARun.box (id := 0) rfl (.tmp rfl) (SV.cells_of (by exact ⟨trivial, trivial, trivial, trivial⟩)) ⟨rfl, (by repeat first | exact trivial | refine ⟨by decide, by first | rfl | (intro i j; first | rfl | (dsimp only; split <;> rfl)), ?_⟩)⟩ rfl rfl rfl (Nat.le_of_ble_eq_true rfl) ?_
  refine ARun.pure (PureOp.assign rfl .bool) rfl rfl (Nat.le_of_ble_eq_true rfl) ?_
  refine ARun.nil ?_
  refine AW.seq ?_
  refine AW.region ?_
  refine ARun.pure (PureOp.move rfl (.tmp rfl)) rfl rfl (Nat.le_of_ble_eq_true rfl) ?_
  refine ARun.pure (PureOp.intOp rfl (.tmp rfl) .int rfl) rfl rfl (Nat.le_of_ble_eq_true rfl) ?_
  refine ARun.pure (PureOp.move rfl (.tmp rfl)) rfl rfl (Nat.le_of_ble_eq_true rfl) ?_
  refine ARun.gpure (want := true) (.tt rfl) (fun hg1 => PureOp.move rfl (.tmp rfl)) rfl rfl (Nat.le_of_ble_eq_true rfl) rfl (Nat.le_of_ble_eq_true rfl) ?_
  refine ARun.gpure (want := true) (.tt rfl) (fun hg2 => PureOp.fieldPtr rfl (.tmp rfl) vp_fi_27_0_0) rfl rfl (Nat.le_of_ble_eq_true rfl) rfl (Nat.le_of_ble_eq_true rfl) ?_
  refine ARun.gpure (want := true) (.tt rfl) (fun hg3 => PureOp.loadPtr rfl (.gtmp rfl hg3) vp_pl_23 rfl rfl (Nat.le_of_ble_eq_true rfl) (Nat.le_of_ble_eq_true rfl)) rfl rfl (Nat.le_of_ble_eq_true rfl) rfl (Nat.le_of_ble_eq_true rfl) ?_
  refine ARun.gpure (want := true) (.tt rfl) (fun hg4 => PureOp.lenLst rfl (.gtmp rfl hg4) vp_sl_23) rfl rfl (Nat.le_of_ble_eq_true rfl) rfl (Nat.le_of_ble_eq_true rfl) ?_
  refine ARun.gpure (want := true) (.tt rfl) (fun hg5 => PureOp.intOp rfl (.gtmp rfl hg5) (.gtmp rfl hg5) rfl) rfl rfl (Nat.le_of_ble_eq_true rfl) rfl (Nat.le_of_ble_eq_true rfl) ?_
  refine ARun.pure (PureOp.pick rfl (.tmp rfl) (fun hp6 => .gtmp rfl hp6) (fun _ => .bool)) rfl rfl (Nat.le_of_ble_eq_true rfl) ?_
  refine ARun.pure (PureOp.assign rfl (.tmp rfl)) rfl rfl (Nat.le_of_ble_eq_true rfl) ?_
  refine ARun.nil ?_
  refine AW.ret (show ResL _ _ [.tmp 4] _ from resB rfl ?_)
  unfold inB
  by_cases h1 : (0 : Int) ≤ x <;> by_cases h2 : x < (p.nodes.length : Int) <;> simp only [h1, h2, decide_true, decide_false, cond_true, cond_false, true_and, false_and] <;> first | rfl | (symm; simp only [decide_eq_true_eq, decide_eq_false_iff_not]; omega)

def nodeBad (p : GPoll) (a : Nat) : Bool :=
  cond (cond (cond (cond (cond (!(inB 0 200 ((p.nodes.getD a (default : GNode)).term))) true (!(inB (-1) ((p.nodes.length : Int) - 1) ((p.nodes.getD a (default : GNode)).voted)))) true (!(inB 0 9 ((p.nodes.getD a (default : GNode)).age)))) true (!(risB ((p.nodes.getD a (default : GNode)).heard) p.nodes.length))) true (!(inB 0 2 ((p.nodes.getD a (default : GNode)).role)))) true (cond (decide ((p.nodes.getD a (default : GNode)).role = 0)) (decide (0 < ((((p.nodes.getD a (default : GNode)).heard).length : Nat) : Int))) false)
def letBad (p : GPoll) (b : Nat) : Bool :=
  cond (cond (cond (cond (!(inB 0 ((p.nodes.length : Int) - 1) ((p.letters.getD b (default : GLetter)).from_))) true (!(inB 0 ((p.nodes.length : Int) - 1) ((p.letters.getD b (default : GLetter)).to)))) true (!(inB 1 200 ((p.letters.getD b (default : GLetter)).term)))) true (!(inB 0 9 ((p.letters.getD b (default : GLetter)).age)))) true (cond (!((p.letters.getD b (default : GLetter)).ask)) (!decide ((p.letters.getD b (default : GLetter)).age = 0)) false)
def leadBad (p : GPoll) (c : Nat) : Bool :=
  cond (cond (!decide ((((p.leaders.getD c []).length : Nat) : Int) = 2)) true (!(inB 0 200 ((p.leaders.getD c []).getD 0 0)))) true (!(inB 0 ((p.nodes.length : Int) - 1) ((p.leaders.getD c []).getD 1 0)))
def pollSize (p : GPoll) : Bool := cond (cond (inB 1 5 (p.nodes.length : Int)) (decide ((p.letters.length : Int) ≤ 60)) false) (decide ((p.leaders.length : Int) ≤ 300)) false
def goodPoll (p : GPoll) : Bool := pollSize p && ((List.range p.nodes.length).all (fun j => !nodeBad p j) && ((List.range p.letters.length).all (fun j => !letBad p j) && (List.range p.leaders.length).all (fun j => !leadBad p j)))
theorem v_specGoodPoll (p : GPoll) : Fn Try.prog 23 [.agg [.lst 5 p.nodes.length (fun i0 j0 => ([.int .i64 ((p.nodes.getD i0 (default : GNode)).term), .int .i64 ((p.nodes.getD i0 (default : GNode)).voted), .int .i64 ((p.nodes.getD i0 (default : GNode)).age), .lst 1 (((p.nodes.getD i0 (default : GNode)).heard).length) (fun i1 _ => .int .i64 (((p.nodes.getD i0 (default : GNode)).heard).getD i1 0)), .int .i64 ((p.nodes.getD i0 (default : GNode)).role)] : List AV).getD j0 (.con undef)), .lst 5 p.letters.length (fun i0 j0 => ([.int .i64 ((p.letters.getD i0 (default : GLetter)).from_), .int .i64 ((p.letters.getD i0 (default : GLetter)).to), .int .i64 ((p.letters.getD i0 (default : GLetter)).term), .bool ((p.letters.getD i0 (default : GLetter)).ask), .int .i64 ((p.letters.getD i0 (default : GLetter)).age)] : List AV).getD j0 (.con undef)), .lst 1 p.leaders.length (fun i0 _ => .lst 1 ((p.leaders.getD i0 []).length) (fun i1 _ => .int .i64 ((p.leaders.getD i0 []).getD i1 0)))]] (.one (.bool (goodPoll p))) := by
  refine Fn.of_body (fn := Try.f23) Try.func23 rfl (Nat.le_of_ble_eq_true rfl) trivial ?_
  intro w0
  show AW _ 147 _ _ _ _
  refine AW.boundAL (t := 0) (j := 0) rfl rfl fun hx0 => ?_
  refine AW.boundAL (t := 0) (j := 1) rfl rfl fun hx1 => ?_
  refine AW.boundAL (t := 0) (j := 2) rfl rfl fun hx2 => ?_
  refine AW.seq ?_
  refine AW.region ?_
  refine ARun.box (id := 0) rfl (.tmp rfl) (SV.cells_of (by exact ⟨trivial, trivial, trivial, trivial⟩)) ⟨rfl, (by repeat first | exact trivial | refine ⟨by decide, by first | rfl | (intro i j; first | rfl | (dsimp only; split <;> rfl)), ?_⟩)⟩ rfl rfl rfl (Nat.le_of_ble_eq_true rfl) ?_
  refine ARun.pure (PureOp.assign rfl .bool) rfl rfl (Nat.le_of_ble_eq_true rfl) ?_
  refine ARun.nil ?_
  refine AW.seq ?_
  refine AW.seq ?_
  refine AW.region ?_
  refine ARun.pure (PureOp.fieldPtr rfl (.tmp rfl) vp_fi_27_0_0) rfl rfl (Nat.le_of_ble_eq_true rfl) ?_
  refine ARun.pure (PureOp.loadPtr rfl (.tmp rfl) vp_pl_23 rfl rfl (Nat.le_of_ble_eq_true rfl) (Nat.le_of_ble_eq_true rfl)) rfl rfl (Nat.le_of_ble_eq_true rfl) ?_
  refine ARun.pure (PureOp.lenLst rfl (.tmp rfl) vp_sl_23) rfl rfl (Nat.le_of_ble_eq_true rfl) ?_
  refine ARun.pure (PureOp.move rfl .int) rfl rfl (Nat.le_of_ble_eq_true rfl) ?_
  refine ARun.nil ?_
  refine AW.block ?_
  refine AW.loop (ι := Nat) (fun a => ⟨[(1, .one (.ptr 0 3 0 0)), (10, .one (.lst 5 p.nodes.length (fun i0 j0 => ([.int .i64 ((p.nodes.getD i0 (default : GNode)).term), .int .i64 ((p.nodes.getD i0 (default : GNode)).voted), .int .i64 ((p.nodes.getD i0 (default : GNode)).age), .lst 1 (((p.nodes.getD i0 (default : GNode)).heard).length) (fun i1 _ => .int .i64 (((p.nodes.getD i0 (default : GNode)).heard).getD i1 0)), .int .i64 ((p.nodes.getD i0 (default : GNode)).role)] : List AV).getD j0 (.con undef)))), (11, .one (.int .i64 (p.nodes.length : Int))), (12, .one (.int .i64 (a : Int)))], [(0, .cells [.lst 5 p.nodes.length (fun i0 j0 => ([.int .i64 ((p.nodes.getD i0 (default : GNode)).term), .int .i64 ((p.nodes.getD i0 (default : GNode)).voted), .int .i64 ((p.nodes.getD i0 (default : GNode)).age), .lst 1 (((p.nodes.getD i0 (default : GNode)).heard).length) (fun i1 _ => .int .i64 (((p.nodes.getD i0 (default : GNode)).heard).getD i1 0)), .int .i64 ((p.nodes.getD i0 (default : GNode)).role)] : List AV).getD j0 (.con undef)), .lst 5 p.letters.length (fun i0 j0 => ([.int .i64 ((p.letters.getD i0 (default : GLetter)).from_), .int .i64 ((p.letters.getD i0 (default : GLetter)).to), .int .i64 ((p.letters.getD i0 (default : GLetter)).term), .bool ((p.letters.getD i0 (default : GLetter)).ask), .int .i64 ((p.letters.getD i0 (default : GLetter)).age)] : List AV).getD j0 (.con undef)), .lst 1 p.leaders.length (fun i0 _ => .lst 1 ((p.leaders.getD i0 []).length) (fun i1 _ => .int .i64 ((p.leaders.getD i0 []).getD i1 0)))])]⟩) (fun a => a ≤ p.nodes.length ∧ ∀ j, j < a → nodeBad p j = false) (fun a => p.nodes.length - a) 0 ⟨Nat.zero_le _, fun j hj => absurd hj (by omega)⟩ ⟨⟨⟨_, rfl, rfl⟩, ⟨_, rfl, rfl⟩, ⟨_, rfl, rfl⟩, ⟨_, rfl, rfl⟩, trivial⟩, HeapLe.one rfl trivial⟩ ?_
  intro a hI
  obtain ⟨ha, has⟩ := hI
  refine AW.seq ?_
  refine AW.region ?_
  refine ARun.pure (PureOp.intOp rfl (.tmp rfl) (.tmp rfl) rfl) rfl rfl (Nat.le_of_ble_eq_true rfl) ?_
  refine ARun.nil ?_
  refine AW.seq ?_
  refine AW.cond (.tmp rfl) (fun hb1 => ?_) (fun hb1 => ?_)
  · have _u := True.intro
    replace hb1 := of_decide_eq_true hb1
    have hal : a < p.nodes.length := by omega
    refine AW.skip ?_
    refine AW.seq ?_
    refine AW.block ?_
    refine AW.seq ?_
    refine AW.region ?_
    refine ARun.pure (PureOp.indexLst (i := a) rfl (.tmp rfl) vp_el_23_5 (.tmp rfl) rfl (by omega)) rfl rfl (Nat.le_of_ble_eq_true rfl) ?_
    refine ARun.pure (PureOp.loadRefAgg rfl (.tmp rfl) vp_ag_89_5 (Nat.le_of_ble_eq_true rfl)) rfl rfl (Nat.le_of_ble_eq_true rfl) ?_
    refine ARun.alloc (id := 1) (l := [.int .i64 0, .int .i64 0, .int .i64 0, .lst 1 0 (fun _ _ => .con undef), .int .i64 0]) (z := (.agg #[.int .i64 0, .int .i64 0, .int .i64 0, .slice none 0 0, .int .i64 0])) rfl (by kernel_rfl) (fun _ _ _ => ⟨_, _, rfl, rfl, ⟨_, _, rfl, rfl, ⟨_, _, rfl, rfl, ⟨_, _, rfl, ⟨none, 0, rfl, Nat.le_refl _, by decide, fun _ => rfl, fun i hi => absurd hi (by omega)⟩, ⟨_, _, rfl, rfl, rfl⟩⟩⟩⟩⟩) ⟨rfl, (by repeat first | exact trivial | refine ⟨by decide, by first | rfl | (intro i j; first | rfl | (dsimp only; split <;> rfl)), ?_⟩)⟩ rfl rfl rfl (Nat.le_of_ble_eq_true rfl) ?_
    refine ARun.store rfl (.tmp rfl) (.tmp rfl) (SV.cells_of (by exact ⟨trivial, trivial, trivial, trivial, trivial, trivial⟩)) rfl (Nat.le_of_ble_eq_true rfl) vp_sz_89_5 rfl rfl ?_
    refine ARun.nil ?_
    refine AW.seq ?_
    refine AW.region ?_
    refine ARun.pure (PureOp.fieldPtr rfl (.tmp rfl) vp_fi_89_0_0) rfl rfl (Nat.le_of_ble_eq_true rfl) ?_
    refine ARun.pure (PureOp.loadPtr rfl (.tmp rfl) vp_pl_3 rfl rfl (Nat.le_of_ble_eq_true rfl) (Nat.le_of_ble_eq_true rfl)) rfl rfl (Nat.le_of_ble_eq_true rfl) ?_
    refine ARun.pure (PureOp.call rfl (v_l1In ((p.nodes.getD a (default : GNode)).term) 0 200) ⟨⟨_, (.tmp rfl), .int⟩, ⟨_, .int, .int⟩, ⟨_, .int, .int⟩, trivial⟩ vp_ca_57 trivial) rfl rfl (Nat.le_of_ble_eq_true rfl) ?_
    refine ARun.pure (PureOp.not rfl (.tmp rfl)) rfl rfl (Nat.le_of_ble_eq_true rfl) ?_
    refine ARun.pure (PureOp.move rfl (.tmp rfl)) rfl rfl (Nat.le_of_ble_eq_true rfl) ?_
    refine ARun.gpure (want := false) (.tf rfl) (fun hg2 => PureOp.fieldPtr rfl (.tmp rfl) vp_fi_89_1_1) rfl rfl (Nat.le_of_ble_eq_true rfl) rfl (Nat.le_of_ble_eq_true rfl) ?_
    refine ARun.gpure (want := false) (.tf rfl) (fun hg3 => PureOp.loadPtr rfl (.gtmp rfl hg3) vp_pl_3 rfl rfl (Nat.le_of_ble_eq_true rfl) (Nat.le_of_ble_eq_true rfl)) rfl rfl (Nat.le_of_ble_eq_true rfl) rfl (Nat.le_of_ble_eq_true rfl) ?_
    refine ARun.gpure (want := false) (.tf rfl) (fun hg4 => PureOp.fieldPtr rfl (.tmp rfl) vp_fi_27_0_0) rfl rfl (Nat.le_of_ble_eq_true rfl) rfl (Nat.le_of_ble_eq_true rfl) ?_
    refine ARun.gpure (want := false) (.tf rfl) (fun hg5 => PureOp.loadPtr rfl (.gtmp rfl hg5) vp_pl_23 rfl rfl (Nat.le_of_ble_eq_true rfl) (Nat.le_of_ble_eq_true rfl)) rfl rfl (Nat.le_of_ble_eq_true rfl) rfl (Nat.le_of_ble_eq_true rfl) ?_
    refine ARun.gpure (want := false) (.tf rfl) (fun hg6 => PureOp.lenLst rfl (.gtmp rfl hg6) vp_sl_23) rfl rfl (Nat.le_of_ble_eq_true rfl) rfl (Nat.le_of_ble_eq_true rfl) ?_
    refine ARun.gpure (want := false) (.tf rfl) (fun hg7 => PureOp.sub (c := (p.nodes.length : Int) - 1) rfl (.gtmp rfl hg7) .int (wrap_id (by omega) (by omega))) rfl rfl (Nat.le_of_ble_eq_true rfl) rfl (Nat.le_of_ble_eq_true rfl) ?_
    refine ARun.gpure (want := false) (.tf rfl) (fun hg8 => PureOp.call rfl (v_l1In ((p.nodes.getD a (default : GNode)).voted) (-1) ((p.nodes.length : Int) - 1)) ⟨⟨_, (.gtmp rfl hg8), .int⟩, ⟨_, .int, .int⟩, ⟨_, (.gtmp rfl hg8), .int⟩, trivial⟩ vp_ca_57 trivial) rfl rfl (Nat.le_of_ble_eq_true rfl) rfl (Nat.le_of_ble_eq_true rfl) ?_
    refine ARun.gpure (want := false) (.tf rfl) (fun hg9 => PureOp.not rfl (.gtmp rfl hg9)) rfl rfl (Nat.le_of_ble_eq_true rfl) rfl (Nat.le_of_ble_eq_true rfl) ?_
    refine ARun.pure (PureOp.pick rfl (.tmp rfl) (fun _ => .bool) (fun hp11 => .gtmp rfl (not_of hp11))) rfl rfl (Nat.le_of_ble_eq_true rfl) ?_
    refine ARun.pure (PureOp.move rfl (.tmp rfl)) rfl rfl (Nat.le_of_ble_eq_true rfl) ?_
    refine ARun.gpure (want := false) (.tf rfl) (fun hg12 => PureOp.fieldPtr rfl (.tmp rfl) vp_fi_89_2_2) rfl rfl (Nat.le_of_ble_eq_true rfl) rfl (Nat.le_of_ble_eq_true rfl) ?_
    refine ARun.gpure (want := false) (.tf rfl) (fun hg13 => PureOp.loadPtr rfl (.gtmp rfl hg13) vp_pl_3 rfl rfl (Nat.le_of_ble_eq_true rfl) (Nat.le_of_ble_eq_true rfl)) rfl rfl (Nat.le_of_ble_eq_true rfl) rfl (Nat.le_of_ble_eq_true rfl) ?_
    refine ARun.gpure (want := false) (.tf rfl) (fun hg14 => PureOp.call rfl (v_l1In ((p.nodes.getD a (default : GNode)).age) 0 9) ⟨⟨_, (.gtmp rfl hg14), .int⟩, ⟨_, .int, .int⟩, ⟨_, .int, .int⟩, trivial⟩ vp_ca_57 trivial) rfl rfl (Nat.le_of_ble_eq_true rfl) rfl (Nat.le_of_ble_eq_true rfl) ?_
    refine ARun.gpure (want := false) (.tf rfl) (fun hg15 => PureOp.not rfl (.gtmp rfl hg15)) rfl rfl (Nat.le_of_ble_eq_true rfl) rfl (Nat.le_of_ble_eq_true rfl) ?_
    refine ARun.pure (PureOp.pick rfl (.tmp rfl) (fun _ => .bool) (fun hp17 => .gtmp rfl (not_of hp17))) rfl rfl (Nat.le_of_ble_eq_true rfl) ?_
    refine ARun.pure (PureOp.move rfl (.tmp rfl)) rfl rfl (Nat.le_of_ble_eq_true rfl) ?_
    refine ARun.gpure (want := false) (.tf rfl) (fun hg18 => PureOp.fieldPtr rfl (.tmp rfl) vp_fi_89_3_3) rfl rfl (Nat.le_of_ble_eq_true rfl) rfl (Nat.le_of_ble_eq_true rfl) ?_
    refine ARun.gpure (want := false) (.tf rfl) (fun hg19 => PureOp.loadPtr rfl (.gtmp rfl hg19) vp_pl_22 rfl rfl (Nat.le_of_ble_eq_true rfl) (Nat.le_of_ble_eq_true rfl)) rfl rfl (Nat.le_of_ble_eq_true rfl) rfl (Nat.le_of_ble_eq_true rfl) ?_
    refine ARun.gpure (want := false) (.tf rfl) (fun hg20 => PureOp.fieldPtr rfl (.tmp rfl) vp_fi_27_0_0) rfl rfl (Nat.le_of_ble_eq_true rfl) rfl (Nat.le_of_ble_eq_true rfl) ?_
    refine ARun.gpure (want := false) (.tf rfl) (fun hg21 => PureOp.loadPtr rfl (.gtmp rfl hg21) vp_pl_23 rfl rfl (Nat.le_of_ble_eq_true rfl) (Nat.le_of_ble_eq_true rfl)) rfl rfl (Nat.le_of_ble_eq_true rfl) rfl (Nat.le_of_ble_eq_true rfl) ?_
    refine ARun.gpure (want := false) (.tf rfl) (fun hg22 => PureOp.lenLst rfl (.gtmp rfl hg22) vp_sl_23) rfl rfl (Nat.le_of_ble_eq_true rfl) rfl (Nat.le_of_ble_eq_true rfl) ?_
    refine ARun.gpure (want := false) (.tf rfl) (fun hg23 => PureOp.call rfl (v_l8Rising ((p.nodes.getD a (default : GNode)).heard) p.nodes.length (by omega)) ⟨⟨_, (.gtmp rfl hg23), .lst⟩, ⟨_, (.gtmp rfl hg23), .int⟩, trivial⟩ vp_ca_76 trivial) rfl rfl (Nat.le_of_ble_eq_true rfl) rfl (Nat.le_of_ble_eq_true rfl) ?_
    refine ARun.gpure (want := false) (.tf rfl) (fun hg24 => PureOp.not rfl (.gtmp rfl hg24)) rfl rfl (Nat.le_of_ble_eq_true rfl) rfl (Nat.le_of_ble_eq_true rfl) ?_
    refine ARun.pure (PureOp.pick rfl (.tmp rfl) (fun _ => .bool) (fun hp26 => .gtmp rfl (not_of hp26))) rfl rfl (Nat.le_of_ble_eq_true rfl) ?_
    refine ARun.pure (PureOp.move rfl (.tmp rfl)) rfl rfl (Nat.le_of_ble_eq_true rfl) ?_
    refine ARun.gpure (want := false) (.tf rfl) (fun hg27 => PureOp.fieldPtr rfl (.tmp rfl) vp_fi_89_4_4) rfl rfl (Nat.le_of_ble_eq_true rfl) rfl (Nat.le_of_ble_eq_true rfl) ?_
    refine ARun.gpure (want := false) (.tf rfl) (fun hg28 => PureOp.loadPtr rfl (.gtmp rfl hg28) vp_pl_3 rfl rfl (Nat.le_of_ble_eq_true rfl) (Nat.le_of_ble_eq_true rfl)) rfl rfl (Nat.le_of_ble_eq_true rfl) rfl (Nat.le_of_ble_eq_true rfl) ?_
    refine ARun.gpure (want := false) (.tf rfl) (fun hg29 => PureOp.call rfl (v_l1In ((p.nodes.getD a (default : GNode)).role) 0 2) ⟨⟨_, (.gtmp rfl hg29), .int⟩, ⟨_, .int, .int⟩, ⟨_, .int, .int⟩, trivial⟩ vp_ca_57 trivial) rfl rfl (Nat.le_of_ble_eq_true rfl) rfl (Nat.le_of_ble_eq_true rfl) ?_
    refine ARun.gpure (want := false) (.tf rfl) (fun hg30 => PureOp.not rfl (.gtmp rfl hg30)) rfl rfl (Nat.le_of_ble_eq_true rfl) rfl (Nat.le_of_ble_eq_true rfl) ?_
    refine ARun.pure (PureOp.pick rfl (.tmp rfl) (fun _ => .bool) (fun hp32 => .gtmp rfl (not_of hp32))) rfl rfl (Nat.le_of_ble_eq_true rfl) ?_
    refine ARun.pure (PureOp.move rfl (.tmp rfl)) rfl rfl (Nat.le_of_ble_eq_true rfl) ?_
    refine ARun.gpure (want := false) (.tf rfl) (fun hg33 => PureOp.fieldPtr rfl (.tmp rfl) vp_fi_89_4_4) rfl rfl (Nat.le_of_ble_eq_true rfl) rfl (Nat.le_of_ble_eq_true rfl) ?_
    refine ARun.gpure (want := false) (.tf rfl) (fun hg34 => PureOp.loadPtr rfl (.gtmp rfl hg34) vp_pl_3 rfl rfl (Nat.le_of_ble_eq_true rfl) (Nat.le_of_ble_eq_true rfl)) rfl rfl (Nat.le_of_ble_eq_true rfl) rfl (Nat.le_of_ble_eq_true rfl) ?_
    refine ARun.gpure (want := false) (.tf rfl) (fun hg35 => PureOp.intOp rfl (.gtmp rfl hg35) .int rfl) rfl rfl (Nat.le_of_ble_eq_true rfl) rfl (Nat.le_of_ble_eq_true rfl) ?_
    refine ARun.gpure (want := false) (.tf rfl) (fun hg36 => PureOp.move rfl (.gtmp rfl hg36)) rfl rfl (Nat.le_of_ble_eq_true rfl) rfl (Nat.le_of_ble_eq_true rfl) ?_
    refine ARun.gpure (want := true) (.gt rfl) (fun hg37 => PureOp.fieldPtr rfl (.tmp rfl) vp_fi_89_3_3) rfl rfl (Nat.le_of_ble_eq_true rfl) rfl (Nat.le_of_ble_eq_true rfl) ?_
    refine ARun.gpure (want := true) (.gt rfl) (fun hg38 => PureOp.loadPtr rfl (.gtmp rfl hg38) vp_pl_22 rfl rfl (Nat.le_of_ble_eq_true rfl) (Nat.le_of_ble_eq_true rfl)) rfl rfl (Nat.le_of_ble_eq_true rfl) rfl (Nat.le_of_ble_eq_true rfl) ?_
    refine ARun.gpure (want := true) (.gt rfl) (fun hg39 => PureOp.lenLst rfl (.gtmp rfl hg39) vp_sl_22) rfl rfl (Nat.le_of_ble_eq_true rfl) rfl (Nat.le_of_ble_eq_true rfl) ?_
    refine ARun.gpure (want := true) (.gt rfl) (fun hg40 => PureOp.intOp rfl (.gtmp rfl hg40) .int rfl) rfl rfl (Nat.le_of_ble_eq_true rfl) rfl (Nat.le_of_ble_eq_true rfl) ?_
    refine ARun.gpure (want := false) (.tf rfl) (fun hg41 => PureOp.pick rfl (.gtmp rfl hg41) (fun hp42 => .gtmp rfl (and_mk hg41 hp42)) (fun _ => .bool)) rfl rfl (Nat.le_of_ble_eq_true rfl) rfl (Nat.le_of_ble_eq_true rfl) ?_
    refine ARun.pure (PureOp.pick rfl (.tmp rfl) (fun _ => .bool) (fun hp45 => .gtmp rfl (not_of hp45))) rfl rfl (Nat.le_of_ble_eq_true rfl) ?_
    refine ARun.nil ?_
    refine AW.cond (.tmp rfl) (fun hb46 => ?_) (fun hb46 => ?_)
    · have _u := True.intro
      refine AW.seq ?_
      refine AW.region ?_
      refine ARun.pure (PureOp.assign rfl .bool) rfl rfl (Nat.le_of_ble_eq_true rfl) ?_
      refine ARun.nil ?_
      refine AW.ret (show ResL _ _ [.tmp 2] _ from resB rfl ?_)
      have hN : (List.range p.nodes.length).all (fun j => !nodeBad p j) = false := rng_no hal (by rw [show nodeBad p a = true from hb46]; rfl)
      unfold goodPoll; rw [hN]; simp only [Bool.and_false, Bool.false_and]
    · have _u := True.intro
      have hnodeBad : nodeBad p a = false := hb46
      refine AW.skip ?_
      refine AW.region ?_
      refine ARun.pure (PureOp.add (c := ((a + 1 : Nat) : Int)) rfl (.tmp rfl) .int (by rw [wrap_id (by omega) (by omega)]; omega)) rfl rfl (Nat.le_of_ble_eq_true rfl) ?_
      refine ARun.pure (PureOp.move rfl (.tmp rfl)) rfl rfl (Nat.le_of_ble_eq_true rfl) ?_
      refine ARun.nil ?_
      exact ⟨a + 1, ⟨by omega, rng_succ (p := fun j => nodeBad p j = false) has hnodeBad⟩, by dsimp only; omega, ⟨⟨⟨_, rfl, rfl⟩, ⟨_, rfl, rfl⟩, ⟨_, rfl, rfl⟩, ⟨_, rfl, rfl⟩, trivial⟩, HeapLe.one rfl trivial⟩⟩
  · have _u := True.intro
    replace hb1 := of_decide_eq_false hb1
    have hal : ¬ a < p.nodes.length := by omega
    have haA : (List.range p.nodes.length).all (fun j => !nodeBad p j) = true := rng_yes (fun j hj => by rw [has j (by omega)]; rfl)
    refine AW.exit ?_
    refine AW.seq ?_
    refine AW.seq ?_
    refine AW.region ?_
    refine ARun.pure (PureOp.fieldPtr rfl (.tmp rfl) vp_fi_27_1_1) rfl rfl (Nat.le_of_ble_eq_true rfl) ?_
    refine ARun.pure (PureOp.loadPtr rfl (.tmp rfl) vp_pl_24 rfl rfl (Nat.le_of_ble_eq_true rfl) (Nat.le_of_ble_eq_true rfl)) rfl rfl (Nat.le_of_ble_eq_true rfl) ?_
    refine ARun.pure (PureOp.lenLst rfl (.tmp rfl) vp_sl_24) rfl rfl (Nat.le_of_ble_eq_true rfl) ?_
    refine ARun.pure (PureOp.move rfl .int) rfl rfl (Nat.le_of_ble_eq_true rfl) ?_
    refine ARun.nil ?_
    refine AW.block ?_
    refine AW.loop (ι := Nat) (fun b => ⟨[(1, .one (.ptr 0 3 0 0)), (64, .one (.lst 5 p.letters.length (fun i0 j0 => ([.int .i64 ((p.letters.getD i0 (default : GLetter)).from_), .int .i64 ((p.letters.getD i0 (default : GLetter)).to), .int .i64 ((p.letters.getD i0 (default : GLetter)).term), .bool ((p.letters.getD i0 (default : GLetter)).ask), .int .i64 ((p.letters.getD i0 (default : GLetter)).age)] : List AV).getD j0 (.con undef)))), (65, .one (.int .i64 (p.letters.length : Int))), (66, .one (.int .i64 (b : Int)))], [(0, .cells [.lst 5 p.nodes.length (fun i0 j0 => ([.int .i64 ((p.nodes.getD i0 (default : GNode)).term), .int .i64 ((p.nodes.getD i0 (default : GNode)).voted), .int .i64 ((p.nodes.getD i0 (default : GNode)).age), .lst 1 (((p.nodes.getD i0 (default : GNode)).heard).length) (fun i1 _ => .int .i64 (((p.nodes.getD i0 (default : GNode)).heard).getD i1 0)), .int .i64 ((p.nodes.getD i0 (default : GNode)).role)] : List AV).getD j0 (.con undef)), .lst 5 p.letters.length (fun i0 j0 => ([.int .i64 ((p.letters.getD i0 (default : GLetter)).from_), .int .i64 ((p.letters.getD i0 (default : GLetter)).to), .int .i64 ((p.letters.getD i0 (default : GLetter)).term), .bool ((p.letters.getD i0 (default : GLetter)).ask), .int .i64 ((p.letters.getD i0 (default : GLetter)).age)] : List AV).getD j0 (.con undef)), .lst 1 p.leaders.length (fun i0 _ => .lst 1 ((p.leaders.getD i0 []).length) (fun i1 _ => .int .i64 ((p.leaders.getD i0 []).getD i1 0)))])]⟩) (fun b => b ≤ p.letters.length ∧ ∀ j, j < b → letBad p j = false) (fun b => p.letters.length - b) 0 ⟨Nat.zero_le _, fun j hj => absurd hj (by omega)⟩ ⟨⟨⟨_, rfl, rfl⟩, ⟨_, rfl, rfl⟩, ⟨_, rfl, rfl⟩, ⟨_, rfl, rfl⟩, trivial⟩, HeapLe.one rfl trivial⟩ ?_
    intro b hI
    obtain ⟨hb, hbs⟩ := hI
    refine AW.seq ?_
    refine AW.region ?_
    refine ARun.pure (PureOp.intOp rfl (.tmp rfl) (.tmp rfl) rfl) rfl rfl (Nat.le_of_ble_eq_true rfl) ?_
    refine ARun.nil ?_
    refine AW.seq ?_
    refine AW.cond (.tmp rfl) (fun hb47 => ?_) (fun hb47 => ?_)
    · have _u := True.intro
      replace hb47 := of_decide_eq_true hb47
      have hbl : b < p.letters.length := by omega
      refine AW.skip ?_
      refine AW.seq ?_
      refine AW.block ?_
      refine AW.seq ?_
      refine AW.region ?_
      refine ARun.pure (PureOp.indexLst (i := b) rfl (.tmp rfl) vp_el_24_5 (.tmp rfl) rfl (by omega)) rfl rfl (Nat.le_of_ble_eq_true rfl) ?_
      refine ARun.pure (PureOp.loadRefAgg rfl (.tmp rfl) vp_ag_102_5 (Nat.le_of_ble_eq_true rfl)) rfl rfl (Nat.le_of_ble_eq_true rfl) ?_
      refine ARun.alloc (id := 2) (l := [.int .i64 0, .int .i64 0, .int .i64 0, .bool false, .int .i64 0]) (z := (.agg #[.int .i64 0, .int .i64 0, .int .i64 0, .bool false, .int .i64 0])) rfl (by kernel_rfl) (fun _ _ _ => ⟨_, _, rfl, rfl, ⟨_, _, rfl, rfl, ⟨_, _, rfl, rfl, ⟨_, _, rfl, rfl, ⟨_, _, rfl, rfl, rfl⟩⟩⟩⟩⟩) ⟨rfl, (by repeat first | exact trivial | refine ⟨by decide, by first | rfl | (intro i j; first | rfl | (dsimp only; split <;> rfl)), ?_⟩)⟩ rfl rfl rfl (Nat.le_of_ble_eq_true rfl) ?_
      refine ARun.store rfl (.tmp rfl) (.tmp rfl) (SV.cells_of (by exact ⟨trivial, trivial, trivial, trivial, trivial, trivial⟩)) rfl (Nat.le_of_ble_eq_true rfl) vp_sz_102_5 rfl rfl ?_
      refine ARun.nil ?_
      refine AW.seq ?_
      refine AW.region ?_
      refine ARun.pure (PureOp.loadPtrAgg rfl (.tmp rfl) vp_ag_27_3 rfl rfl (Nat.le_of_ble_eq_true rfl) (Nat.le_of_ble_eq_true rfl)) rfl rfl (Nat.le_of_ble_eq_true rfl) ?_
      refine ARun.pure (PureOp.fieldPtr rfl (.tmp rfl) vp_fi_102_0_0) rfl rfl (Nat.le_of_ble_eq_true rfl) ?_
      refine ARun.pure (PureOp.loadPtr rfl (.tmp rfl) vp_pl_3 rfl rfl (Nat.le_of_ble_eq_true rfl) (Nat.le_of_ble_eq_true rfl)) rfl rfl (Nat.le_of_ble_eq_true rfl) ?_
      refine ARun.pure (PureOp.call rfl (v_l8Node p ((p.letters.getD b (default : GLetter)).from_)) ⟨⟨_, (.tmp rfl), ⟨.lst, .lst, .lst, trivial⟩⟩, ⟨_, (.tmp rfl), .int⟩, trivial⟩ vp_ca_77 trivial) rfl rfl (Nat.le_of_ble_eq_true rfl) ?_
      refine ARun.pure (PureOp.not rfl (.tmp rfl)) rfl rfl (Nat.le_of_ble_eq_true rfl) ?_
      refine ARun.pure (PureOp.move rfl (.tmp rfl)) rfl rfl (Nat.le_of_ble_eq_true rfl) ?_
      refine ARun.gpure (want := false) (.tf rfl) (fun hg48 => PureOp.loadPtrAgg rfl (.tmp rfl) vp_ag_27_3 rfl rfl (Nat.le_of_ble_eq_true rfl) (Nat.le_of_ble_eq_true rfl)) rfl rfl (Nat.le_of_ble_eq_true rfl) rfl (Nat.le_of_ble_eq_true rfl) ?_
      refine ARun.gpure (want := false) (.tf rfl) (fun hg49 => PureOp.fieldPtr rfl (.tmp rfl) vp_fi_102_1_1) rfl rfl (Nat.le_of_ble_eq_true rfl) rfl (Nat.le_of_ble_eq_true rfl) ?_
      refine ARun.gpure (want := false) (.tf rfl) (fun hg50 => PureOp.loadPtr rfl (.gtmp rfl hg50) vp_pl_3 rfl rfl (Nat.le_of_ble_eq_true rfl) (Nat.le_of_ble_eq_true rfl)) rfl rfl (Nat.le_of_ble_eq_true rfl) rfl (Nat.le_of_ble_eq_true rfl) ?_
      refine ARun.gpure (want := false) (.tf rfl) (fun hg51 => PureOp.call rfl (v_l8Node p ((p.letters.getD b (default : GLetter)).to)) ⟨⟨_, (.gtmp rfl hg51), ⟨.lst, .lst, .lst, trivial⟩⟩, ⟨_, (.gtmp rfl hg51), .int⟩, trivial⟩ vp_ca_77 trivial) rfl rfl (Nat.le_of_ble_eq_true rfl) rfl (Nat.le_of_ble_eq_true rfl) ?_
      refine ARun.gpure (want := false) (.tf rfl) (fun hg52 => PureOp.not rfl (.gtmp rfl hg52)) rfl rfl (Nat.le_of_ble_eq_true rfl) rfl (Nat.le_of_ble_eq_true rfl) ?_
      refine ARun.pure (PureOp.pick rfl (.tmp rfl) (fun _ => .bool) (fun hp54 => .gtmp rfl (not_of hp54))) rfl rfl (Nat.le_of_ble_eq_true rfl) ?_
      refine ARun.pure (PureOp.move rfl (.tmp rfl)) rfl rfl (Nat.le_of_ble_eq_true rfl) ?_
      refine ARun.gpure (want := false) (.tf rfl) (fun hg55 => PureOp.fieldPtr rfl (.tmp rfl) vp_fi_102_2_2) rfl rfl (Nat.le_of_ble_eq_true rfl) rfl (Nat.le_of_ble_eq_true rfl) ?_
      refine ARun.gpure (want := false) (.tf rfl) (fun hg56 => PureOp.loadPtr rfl (.gtmp rfl hg56) vp_pl_3 rfl rfl (Nat.le_of_ble_eq_true rfl) (Nat.le_of_ble_eq_true rfl)) rfl rfl (Nat.le_of_ble_eq_true rfl) rfl (Nat.le_of_ble_eq_true rfl) ?_
      refine ARun.gpure (want := false) (.tf rfl) (fun hg57 => PureOp.call rfl (v_l1In ((p.letters.getD b (default : GLetter)).term) 1 200) ⟨⟨_, (.gtmp rfl hg57), .int⟩, ⟨_, .int, .int⟩, ⟨_, .int, .int⟩, trivial⟩ vp_ca_57 trivial) rfl rfl (Nat.le_of_ble_eq_true rfl) rfl (Nat.le_of_ble_eq_true rfl) ?_
      refine ARun.gpure (want := false) (.tf rfl) (fun hg58 => PureOp.not rfl (.gtmp rfl hg58)) rfl rfl (Nat.le_of_ble_eq_true rfl) rfl (Nat.le_of_ble_eq_true rfl) ?_
      refine ARun.pure (PureOp.pick rfl (.tmp rfl) (fun _ => .bool) (fun hp60 => .gtmp rfl (not_of hp60))) rfl rfl (Nat.le_of_ble_eq_true rfl) ?_
      refine ARun.pure (PureOp.move rfl (.tmp rfl)) rfl rfl (Nat.le_of_ble_eq_true rfl) ?_
      refine ARun.gpure (want := false) (.tf rfl) (fun hg61 => PureOp.fieldPtr rfl (.tmp rfl) vp_fi_102_4_4) rfl rfl (Nat.le_of_ble_eq_true rfl) rfl (Nat.le_of_ble_eq_true rfl) ?_
      refine ARun.gpure (want := false) (.tf rfl) (fun hg62 => PureOp.loadPtr rfl (.gtmp rfl hg62) vp_pl_3 rfl rfl (Nat.le_of_ble_eq_true rfl) (Nat.le_of_ble_eq_true rfl)) rfl rfl (Nat.le_of_ble_eq_true rfl) rfl (Nat.le_of_ble_eq_true rfl) ?_
      refine ARun.gpure (want := false) (.tf rfl) (fun hg63 => PureOp.call rfl (v_l1In ((p.letters.getD b (default : GLetter)).age) 0 9) ⟨⟨_, (.gtmp rfl hg63), .int⟩, ⟨_, .int, .int⟩, ⟨_, .int, .int⟩, trivial⟩ vp_ca_57 trivial) rfl rfl (Nat.le_of_ble_eq_true rfl) rfl (Nat.le_of_ble_eq_true rfl) ?_
      refine ARun.gpure (want := false) (.tf rfl) (fun hg64 => PureOp.not rfl (.gtmp rfl hg64)) rfl rfl (Nat.le_of_ble_eq_true rfl) rfl (Nat.le_of_ble_eq_true rfl) ?_
      refine ARun.pure (PureOp.pick rfl (.tmp rfl) (fun _ => .bool) (fun hp66 => .gtmp rfl (not_of hp66))) rfl rfl (Nat.le_of_ble_eq_true rfl) ?_
      refine ARun.pure (PureOp.move rfl (.tmp rfl)) rfl rfl (Nat.le_of_ble_eq_true rfl) ?_
      refine ARun.gpure (want := false) (.tf rfl) (fun hg67 => PureOp.fieldPtr rfl (.tmp rfl) vp_fi_102_3_3) rfl rfl (Nat.le_of_ble_eq_true rfl) rfl (Nat.le_of_ble_eq_true rfl) ?_
      refine ARun.gpure (want := false) (.tf rfl) (fun hg68 => PureOp.loadPtr rfl (.gtmp rfl hg68) vp_pl_4 rfl rfl (Nat.le_of_ble_eq_true rfl) (Nat.le_of_ble_eq_true rfl)) rfl rfl (Nat.le_of_ble_eq_true rfl) rfl (Nat.le_of_ble_eq_true rfl) ?_
      refine ARun.gpure (want := false) (.tf rfl) (fun hg69 => PureOp.not rfl (.gtmp rfl hg69)) rfl rfl (Nat.le_of_ble_eq_true rfl) rfl (Nat.le_of_ble_eq_true rfl) ?_
      refine ARun.gpure (want := false) (.tf rfl) (fun hg70 => PureOp.move rfl (.gtmp rfl hg70)) rfl rfl (Nat.le_of_ble_eq_true rfl) rfl (Nat.le_of_ble_eq_true rfl) ?_
      refine ARun.gpure (want := true) (.gt rfl) (fun hg71 => PureOp.fieldPtr rfl (.tmp rfl) vp_fi_102_4_4) rfl rfl (Nat.le_of_ble_eq_true rfl) rfl (Nat.le_of_ble_eq_true rfl) ?_
      refine ARun.gpure (want := true) (.gt rfl) (fun hg72 => PureOp.loadPtr rfl (.gtmp rfl hg72) vp_pl_3 rfl rfl (Nat.le_of_ble_eq_true rfl) (Nat.le_of_ble_eq_true rfl)) rfl rfl (Nat.le_of_ble_eq_true rfl) rfl (Nat.le_of_ble_eq_true rfl) ?_
      refine ARun.gpure (want := true) (.gt rfl) (fun hg73 => PureOp.intOp rfl (.gtmp rfl hg73) .int rfl) rfl rfl (Nat.le_of_ble_eq_true rfl) rfl (Nat.le_of_ble_eq_true rfl) ?_
      refine ARun.gpure (want := false) (.tf rfl) (fun hg74 => PureOp.pick rfl (.gtmp rfl hg74) (fun hp75 => .gtmp rfl (and_mk hg74 hp75)) (fun _ => .bool)) rfl rfl (Nat.le_of_ble_eq_true rfl) rfl (Nat.le_of_ble_eq_true rfl) ?_
      refine ARun.pure (PureOp.pick rfl (.tmp rfl) (fun _ => .bool) (fun hp78 => .gtmp rfl (not_of hp78))) rfl rfl (Nat.le_of_ble_eq_true rfl) ?_
      refine ARun.nil ?_
      refine AW.cond (.tmp rfl) (fun hb79 => ?_) (fun hb79 => ?_)
      · have _u := True.intro
        refine AW.seq ?_
        refine AW.region ?_
        refine ARun.pure (PureOp.assign rfl .bool) rfl rfl (Nat.le_of_ble_eq_true rfl) ?_
        refine ARun.nil ?_
        refine AW.ret (show ResL _ _ [.tmp 2] _ from resB rfl ?_)
        have hN : (List.range p.letters.length).all (fun j => !letBad p j) = false := rng_no hbl (by rw [show letBad p b = true from hb79]; rfl)
        unfold goodPoll; rw [hN]; simp only [Bool.and_false, Bool.false_and]
      · have _u := True.intro
        have hletBad : letBad p b = false := hb79
        refine AW.skip ?_
        refine AW.region ?_
        refine ARun.pure (PureOp.add (c := ((b + 1 : Nat) : Int)) rfl (.tmp rfl) .int (by rw [wrap_id (by omega) (by omega)]; omega)) rfl rfl (Nat.le_of_ble_eq_true rfl) ?_
        refine ARun.pure (PureOp.move rfl (.tmp rfl)) rfl rfl (Nat.le_of_ble_eq_true rfl) ?_
        refine ARun.nil ?_
        exact ⟨b + 1, ⟨by omega, rng_succ (p := fun j => letBad p j = false) hbs hletBad⟩, by dsimp only; omega, ⟨⟨⟨_, rfl, rfl⟩, ⟨_, rfl, rfl⟩, ⟨_, rfl, rfl⟩, ⟨_, rfl, rfl⟩, trivial⟩, HeapLe.one rfl trivial⟩⟩
    · have _u := True.intro
      replace hb47 := of_decide_eq_false hb47
      have hbl : ¬ b < p.letters.length := by omega
      have hbA : (List.range p.letters.length).all (fun j => !letBad p j) = true := rng_yes (fun j hj => by rw [hbs j (by omega)]; rfl)
      refine AW.exit ?_
      refine AW.seq ?_
      refine AW.seq ?_
      refine AW.region ?_
      refine ARun.pure (PureOp.fieldPtr rfl (.tmp rfl) vp_fi_27_2_2) rfl rfl (Nat.le_of_ble_eq_true rfl) ?_
      refine ARun.pure (PureOp.loadPtr rfl (.tmp rfl) vp_pl_25 rfl rfl (Nat.le_of_ble_eq_true rfl) (Nat.le_of_ble_eq_true rfl)) rfl rfl (Nat.le_of_ble_eq_true rfl) ?_
      refine ARun.pure (PureOp.lenLst rfl (.tmp rfl) vp_sl_25) rfl rfl (Nat.le_of_ble_eq_true rfl) ?_
      refine ARun.pure (PureOp.move rfl .int) rfl rfl (Nat.le_of_ble_eq_true rfl) ?_
      refine ARun.nil ?_
      refine AW.block ?_
      refine AW.loop (ι := Nat) (fun c => ⟨[(1, .one (.ptr 0 3 0 0)), (106, .one (.lst 1 p.leaders.length (fun i0 _ => .lst 1 ((p.leaders.getD i0 []).length) (fun i1 _ => .int .i64 ((p.leaders.getD i0 []).getD i1 0))))), (107, .one (.int .i64 (p.leaders.length : Int))), (108, .one (.int .i64 (c : Int)))], [(0, .cells [.lst 5 p.nodes.length (fun i0 j0 => ([.int .i64 ((p.nodes.getD i0 (default : GNode)).term), .int .i64 ((p.nodes.getD i0 (default : GNode)).voted), .int .i64 ((p.nodes.getD i0 (default : GNode)).age), .lst 1 (((p.nodes.getD i0 (default : GNode)).heard).length) (fun i1 _ => .int .i64 (((p.nodes.getD i0 (default : GNode)).heard).getD i1 0)), .int .i64 ((p.nodes.getD i0 (default : GNode)).role)] : List AV).getD j0 (.con undef)), .lst 5 p.letters.length (fun i0 j0 => ([.int .i64 ((p.letters.getD i0 (default : GLetter)).from_), .int .i64 ((p.letters.getD i0 (default : GLetter)).to), .int .i64 ((p.letters.getD i0 (default : GLetter)).term), .bool ((p.letters.getD i0 (default : GLetter)).ask), .int .i64 ((p.letters.getD i0 (default : GLetter)).age)] : List AV).getD j0 (.con undef)), .lst 1 p.leaders.length (fun i0 _ => .lst 1 ((p.leaders.getD i0 []).length) (fun i1 _ => .int .i64 ((p.leaders.getD i0 []).getD i1 0)))])]⟩) (fun c => c ≤ p.leaders.length ∧ ∀ j, j < c → leadBad p j = false) (fun c => p.leaders.length - c) 0 ⟨Nat.zero_le _, fun j hj => absurd hj (by omega)⟩ ⟨⟨⟨_, rfl, rfl⟩, ⟨_, rfl, rfl⟩, ⟨_, rfl, rfl⟩, ⟨_, rfl, rfl⟩, trivial⟩, HeapLe.one rfl trivial⟩ ?_
      intro c hI
      obtain ⟨hc, hcs⟩ := hI
      refine AW.seq ?_
      refine AW.region ?_
      refine ARun.pure (PureOp.intOp rfl (.tmp rfl) (.tmp rfl) rfl) rfl rfl (Nat.le_of_ble_eq_true rfl) ?_
      refine ARun.nil ?_
      refine AW.seq ?_
      refine AW.cond (.tmp rfl) (fun hb80 => ?_) (fun hb80 => ?_)
      · have _u := True.intro
        replace hb80 := of_decide_eq_true hb80
        have hcl : c < p.leaders.length := by omega
        refine AW.skip ?_
        refine AW.seq ?_
        refine AW.block ?_
        refine AW.seq ?_
        refine AW.region ?_
        refine ARun.pure (PureOp.indexLst (i := c) rfl (.tmp rfl) vp_el_25_1 (.tmp rfl) rfl (by omega)) rfl rfl (Nat.le_of_ble_eq_true rfl) ?_
        refine ARun.pure (PureOp.loadRef rfl (.tmp rfl) vp_pl_22 (Nat.le_of_ble_eq_true rfl)) rfl rfl (Nat.le_of_ble_eq_true rfl) ?_
        refine ARun.pure (PureOp.assign rfl (.tmp rfl)) rfl rfl (Nat.le_of_ble_eq_true rfl) ?_
        refine ARun.nil ?_
        refine AW.seq ?_
        refine AW.any (by kernel_rfl) (by kernel_rfl) ?_
        refine AD.pure (PureOp.move rfl (.tmp rfl)) rfl rfl (Nat.le_of_ble_eq_true rfl) ?_
        refine AD.pure (PureOp.lenLst rfl (.tmp rfl) vp_sl_22) rfl rfl (Nat.le_of_ble_eq_true rfl) ?_
        refine AD.pure (PureOp.intOp rfl (.tmp rfl) .int rfl) rfl rfl (Nat.le_of_ble_eq_true rfl) ?_
        refine AD.pure (PureOp.move rfl (.tmp rfl)) rfl rfl (Nat.le_of_ble_eq_true rfl) ?_
        refine AD.gpure (want := false) (.tf rfl) (fun hg81 => PureOp.move rfl (.tmp rfl)) rfl rfl rfl (Nat.le_of_ble_eq_true rfl) ?_
        refine AD.gpure (want := false) (.tf rfl) (fun hg82 => PureOp.indexLst (i := 0) rfl (.gtmp rfl hg82) vp_el_22_1 .int rfl (by have q := hg82; simp only [Bool.cond_true_left, Bool.cond_false_right, Bool.not_eq_true', Bool.or_eq_false_iff, Bool.not_eq_false', Bool.and_eq_true, Bool.not_not, decide_eq_true_eq, decide_eq_false_iff_not, inB] at q; omega)) rfl rfl rfl (Nat.le_of_ble_eq_true rfl) ?_
        refine AD.gpure (want := false) (.tf rfl) (fun hg83 => PureOp.loadRef rfl (.gtmp rfl hg83) vp_pl_3 (Nat.le_of_ble_eq_true rfl)) rfl rfl rfl (Nat.le_of_ble_eq_true rfl) ?_
        refine AD.gpure (want := false) (.tf rfl) (fun hg84 => PureOp.call rfl (v_l1In ((p.leaders.getD c []).getD 0 0) 0 200) ⟨⟨_, (.gtmp rfl hg84), .int⟩, ⟨_, .int, .int⟩, ⟨_, .int, .int⟩, trivial⟩ vp_ca_57 trivial) rfl rfl rfl (Nat.le_of_ble_eq_true rfl) ?_
        refine AD.gpure (want := false) (.tf rfl) (fun hg85 => PureOp.not rfl (.gtmp rfl hg85)) rfl rfl rfl (Nat.le_of_ble_eq_true rfl) ?_
        refine AD.pure (PureOp.pick rfl (.tmp rfl) (fun _ => .bool) (fun hp87 => .gtmp rfl (not_of hp87))) rfl rfl (Nat.le_of_ble_eq_true rfl) ?_
        refine AD.pure (PureOp.move rfl (.tmp rfl)) rfl rfl (Nat.le_of_ble_eq_true rfl) ?_
        refine AD.gpure (want := false) (.tf rfl) (fun hg88 => PureOp.loadPtrAgg rfl (.tmp rfl) vp_ag_27_3 rfl rfl (Nat.le_of_ble_eq_true rfl) (Nat.le_of_ble_eq_true rfl)) rfl rfl rfl (Nat.le_of_ble_eq_true rfl) ?_
        refine AD.gpure (want := false) (.tf rfl) (fun hg89 => PureOp.move rfl (.tmp rfl)) rfl rfl rfl (Nat.le_of_ble_eq_true rfl) ?_
        refine AD.gpure (want := false) (.tf rfl) (fun hg90 => PureOp.indexLst (i := 1) rfl (.gtmp rfl hg90) vp_el_22_1 .int rfl (by have q := hg90; simp only [Bool.cond_true_left, Bool.cond_false_right, Bool.not_eq_true', Bool.or_eq_false_iff, Bool.not_eq_false', Bool.and_eq_true, Bool.not_not, decide_eq_true_eq, decide_eq_false_iff_not, inB] at q; omega)) rfl rfl rfl (Nat.le_of_ble_eq_true rfl) ?_
        refine AD.gpure (want := false) (.tf rfl) (fun hg91 => PureOp.loadRef rfl (.gtmp rfl hg91) vp_pl_3 (Nat.le_of_ble_eq_true rfl)) rfl rfl rfl (Nat.le_of_ble_eq_true rfl) ?_
        refine AD.gpure (want := false) (.tf rfl) (fun hg92 => PureOp.call rfl (v_l8Node p ((p.leaders.getD c []).getD 1 0)) ⟨⟨_, (.gtmp rfl hg92), ⟨.lst, .lst, .lst, trivial⟩⟩, ⟨_, (.gtmp rfl hg92), .int⟩, trivial⟩ vp_ca_77 trivial) rfl rfl rfl (Nat.le_of_ble_eq_true rfl) ?_
        refine AD.gpure (want := false) (.tf rfl) (fun hg93 => PureOp.not rfl (.gtmp rfl hg93)) rfl rfl rfl (Nat.le_of_ble_eq_true rfl) ?_
        refine AD.pure (PureOp.pick rfl (.tmp rfl) (fun _ => .bool) (fun hp95 => .gtmp rfl (not_of hp95))) rfl rfl (Nat.le_of_ble_eq_true rfl) ?_
        refine AD.nil ?_
        refine AW.cond (.tmp rfl) (fun hb96 => ?_) (fun hb96 => ?_)
        · have _u := True.intro
          refine AW.seq ?_
          refine AW.region ?_
          refine ARun.pure (PureOp.assign rfl .bool) rfl rfl (Nat.le_of_ble_eq_true rfl) ?_
          refine ARun.nil ?_
          refine AW.ret (show ResL _ _ [.tmp 2] _ from resB rfl ?_)
          have hN : (List.range p.leaders.length).all (fun j => !leadBad p j) = false := rng_no hcl (by rw [show leadBad p c = true from hb96]; rfl)
          unfold goodPoll; rw [hN]; simp only [Bool.and_false, Bool.false_and]
        · have _u := True.intro
          have hleadBad : leadBad p c = false := hb96
          refine AW.skip ?_
          refine AW.region ?_
          refine ARun.pure (PureOp.add (c := ((c + 1 : Nat) : Int)) rfl (.tmp rfl) .int (by rw [wrap_id (by omega) (by omega)]; omega)) rfl rfl (Nat.le_of_ble_eq_true rfl) ?_
          refine ARun.pure (PureOp.move rfl (.tmp rfl)) rfl rfl (Nat.le_of_ble_eq_true rfl) ?_
          refine ARun.nil ?_
          exact ⟨c + 1, ⟨by omega, rng_succ (p := fun j => leadBad p j = false) hcs hleadBad⟩, by dsimp only; omega, ⟨⟨⟨_, rfl, rfl⟩, ⟨_, rfl, rfl⟩, ⟨_, rfl, rfl⟩, ⟨_, rfl, rfl⟩, trivial⟩, HeapLe.one rfl trivial⟩⟩
      · have _u := True.intro
        replace hb80 := of_decide_eq_false hb80
        have hcl : ¬ c < p.leaders.length := by omega
        have hcA : (List.range p.leaders.length).all (fun j => !leadBad p j) = true := rng_yes (fun j hj => by rw [hcs j (by omega)]; rfl)
        refine AW.exit ?_
        refine AW.seq ?_
        refine AW.region ?_
        refine ARun.pure (PureOp.fieldPtr rfl (.tmp rfl) vp_fi_27_0_0) rfl rfl (Nat.le_of_ble_eq_true rfl) ?_
        refine ARun.pure (PureOp.loadPtr rfl (.tmp rfl) vp_pl_23 rfl rfl (Nat.le_of_ble_eq_true rfl) (Nat.le_of_ble_eq_true rfl)) rfl rfl (Nat.le_of_ble_eq_true rfl) ?_
        refine ARun.pure (PureOp.lenLst rfl (.tmp rfl) vp_sl_23) rfl rfl (Nat.le_of_ble_eq_true rfl) ?_
        refine ARun.pure (PureOp.call rfl (v_l1In (p.nodes.length : Int) 1 5) ⟨⟨_, (.tmp rfl), .int⟩, ⟨_, .int, .int⟩, ⟨_, .int, .int⟩, trivial⟩ vp_ca_57 trivial) rfl rfl (Nat.le_of_ble_eq_true rfl) ?_
        refine ARun.pure (PureOp.move rfl (.tmp rfl)) rfl rfl (Nat.le_of_ble_eq_true rfl) ?_
        refine ARun.gpure (want := true) (.tt rfl) (fun hg97 => PureOp.fieldPtr rfl (.tmp rfl) vp_fi_27_1_1) rfl rfl (Nat.le_of_ble_eq_true rfl) rfl (Nat.le_of_ble_eq_true rfl) ?_
        refine ARun.gpure (want := true) (.tt rfl) (fun hg98 => PureOp.loadPtr rfl (.gtmp rfl hg98) vp_pl_24 rfl rfl (Nat.le_of_ble_eq_true rfl) (Nat.le_of_ble_eq_true rfl)) rfl rfl (Nat.le_of_ble_eq_true rfl) rfl (Nat.le_of_ble_eq_true rfl) ?_
        refine ARun.gpure (want := true) (.tt rfl) (fun hg99 => PureOp.lenLst rfl (.gtmp rfl hg99) vp_sl_24) rfl rfl (Nat.le_of_ble_eq_true rfl) rfl (Nat.le_of_ble_eq_true rfl) ?_
        refine ARun.gpure (want := true) (.tt rfl) (fun hg100 => PureOp.intOp rfl (.gtmp rfl hg100) .int rfl) rfl rfl (Nat.le_of_ble_eq_true rfl) rfl (Nat.le_of_ble_eq_true rfl) ?_
        refine ARun.pure (PureOp.pick rfl (.tmp rfl) (fun hp101 => .gtmp rfl hp101) (fun _ => .bool)) rfl rfl (Nat.le_of_ble_eq_true rfl) ?_
        refine ARun.pure (PureOp.move rfl (.tmp rfl)) rfl rfl (Nat.le_of_ble_eq_true rfl) ?_
        refine ARun.gpure (want := true) (.tt rfl) (fun hg103 => PureOp.fieldPtr rfl (.tmp rfl) vp_fi_27_2_2) rfl rfl (Nat.le_of_ble_eq_true rfl) rfl (Nat.le_of_ble_eq_true rfl) ?_
        refine ARun.gpure (want := true) (.tt rfl) (fun hg104 => PureOp.loadPtr rfl (.gtmp rfl hg104) vp_pl_25 rfl rfl (Nat.le_of_ble_eq_true rfl) (Nat.le_of_ble_eq_true rfl)) rfl rfl (Nat.le_of_ble_eq_true rfl) rfl (Nat.le_of_ble_eq_true rfl) ?_
        refine ARun.gpure (want := true) (.tt rfl) (fun hg105 => PureOp.lenLst rfl (.gtmp rfl hg105) vp_sl_25) rfl rfl (Nat.le_of_ble_eq_true rfl) rfl (Nat.le_of_ble_eq_true rfl) ?_
        refine ARun.gpure (want := true) (.tt rfl) (fun hg106 => PureOp.intOp rfl (.gtmp rfl hg106) .int rfl) rfl rfl (Nat.le_of_ble_eq_true rfl) rfl (Nat.le_of_ble_eq_true rfl) ?_
        refine ARun.pure (PureOp.pick rfl (.tmp rfl) (fun hp107 => .gtmp rfl hp107) (fun _ => .bool)) rfl rfl (Nat.le_of_ble_eq_true rfl) ?_
        refine ARun.pure (PureOp.assign rfl (.tmp rfl)) rfl rfl (Nat.le_of_ble_eq_true rfl) ?_
        refine ARun.nil ?_
        refine AW.ret (show ResL _ _ [.tmp 2] _ from resB rfl ?_)
        unfold goodPoll pollSize; rw [haA, hbA, hcA]; simp only [Bool.and_true]
end Go.Proofs.Ytlbnodmebehpiaa
