/-
  The program's GoodBank.
-/
import Derived.Test.YtlbnodmebehpiaaBs
namespace Go.Proofs.Ytlbnodmebehpiaa
open Go.ChangeShapes Go.WideShapes Go.ChangeAt Go.RowKit Go.BigFrame Go.Deep
set_option linter.unusedVariables false
set_option linter.unusedSimpArgs false
theorem vq_ag_49_5 : aggB Try.prog 49 5 = true := by kernel_rfl
theorem vq_ca_135 : callB Try.prog 135 = true := by kernel_rfl
theorem vq_ca_151 : callB Try.prog 151 = true := by kernel_rfl
theorem vq_ca_59 : callB Try.prog 59 = true := by kernel_rfl
theorem vq_ca_60 : callB Try.prog 60 = true := by kernel_rfl
theorem vq_ca_92 : callB Try.prog 92 = true := by kernel_rfl
theorem vq_el_107_1 : elemB Try.prog 107 1 = true := by kernel_rfl
theorem vq_el_22_1 : elemB Try.prog 22 1 = true := by kernel_rfl
theorem vq_el_25_1 : elemB Try.prog 25 1 = true := by kernel_rfl
theorem vq_el_47_1 : elemB Try.prog 47 1 = true := by kernel_rfl
theorem vq_fi_49_0_0 : fieldB Try.prog 49 0 0 = true := by kernel_rfl
theorem vq_fi_49_1_1 : fieldB Try.prog 49 1 1 = true := by kernel_rfl
theorem vq_fi_49_2_2 : fieldB Try.prog 49 2 2 = true := by kernel_rfl
theorem vq_fi_49_3_3 : fieldB Try.prog 49 3 3 = true := by kernel_rfl
theorem vq_fi_49_4_4 : fieldB Try.prog 49 4 4 = true := by kernel_rfl
theorem vq_pl_107 : plainB Try.prog 107 = true := by kernel_rfl
theorem vq_pl_22 : plainB Try.prog 22 = true := by kernel_rfl
theorem vq_pl_25 : plainB Try.prog 25 = true := by kernel_rfl
theorem vq_pl_3 : plainB Try.prog 3 = true := by kernel_rfl
theorem vq_pl_4 : plainB Try.prog 4 = true := by kernel_rfl
theorem vq_pl_47 : plainB Try.prog 47 = true := by kernel_rfl
theorem vq_sl_107 : sliceB Try.prog 107 = true := by kernel_rfl
theorem vq_sl_22 : sliceB Try.prog 22 = true := by kernel_rfl
theorem vq_sl_25 : sliceB Try.prog 25 = true := by kernel_rfl
theorem vq_sl_47 : sliceB Try.prog 47 = true := by kernel_rfl
theorem v_isWay1 (x : Int) : Fn Try.prog 151 [.one (.int .i64 x)] (.one (.bool (!inB 0 50 x))) := by
  refine Fn.of_body (fn := Try.f151) Try.func151 rfl (Nat.le_of_ble_eq_true rfl) trivial ?_
  intro w0
  show AW _ 6 _ _ _ _
  refine AW.seq ?_
  refine AW.region ?_
  refine ARun.pure (PureOp.assign rfl .bool) rfl rfl (Nat.le_of_ble_eq_true rfl) ?_
  refine ARun.nil ?_
  refine AW.seq ?_
  refine AW.region ?_
  refine ARun.pure (PureOp.move rfl (.tmp rfl)) rfl rfl (Nat.le_of_ble_eq_true rfl) ?_
  refine ARun.pure (PureOp.call rfl (v_within x 0 50) ⟨⟨_, (.tmp rfl), .int⟩, ⟨_, .int, .int⟩, ⟨_, .int, .int⟩, trivial⟩ vq_ca_59 trivial) rfl rfl (Nat.le_of_ble_eq_true rfl) ?_
  refine ARun.pure (PureOp.not rfl (.tmp rfl)) rfl rfl (Nat.le_of_ble_eq_true rfl) ?_
  refine ARun.pure (PureOp.assign rfl (.tmp rfl)) rfl rfl (Nat.le_of_ble_eq_true rfl) ?_
  refine ARun.nil ?_
  refine AW.ret (show ResL _ _ [.tmp 2] _ from resB rfl ?_)
  rfl

theorem v_isWay (b : GBank) (f t : Nat) (hn5 : b.cCoins.length ≤ 5) (q2 : b.cWays.length = b.cCoins.length * b.cCoins.length) (q3 : b.cKept.length = b.cCoins.length) (q5 : b.cHeard.length = b.cCoins.length) (q6 : b.cFound.length = b.cCoins.length) (r1 : ∀ i, i < b.cCoins.length → (b.cHeard.getD i []).length = b.cCoins.length) (r2 : ∀ i, i < b.cCoins.length → (b.cFound.getD i []).length = b.cCoins.length) (hf : f < b.cCoins.length) (ht : t < b.cCoins.length) : Fn Try.prog 135 [.one (.ref 5 (fun j => ([.lst 1 b.cCoins.length (fun i0 _ => .int .i64 (b.cCoins.getD i0 0)), .lst 1 b.cWays.length (fun i0 _ => .lst 1 ((b.cWays.getD i0 []).length) (fun i1 _ => .int .i64 ((b.cWays.getD i0 []).getD i1 0))), .lst 1 b.cKept.length (fun i0 _ => .int .i64 (b.cKept.getD i0 0)), .lst 1 b.cHeard.length (fun i0 _ => .lst 1 ((b.cHeard.getD i0 []).length) (fun i1 _ => .bool ((b.cHeard.getD i0 []).getD i1 false))), .lst 1 b.cFound.length (fun i0 _ => .lst 1 ((b.cFound.getD i0 []).length) (fun i1 _ => .int .i64 ((b.cFound.getD i0 []).getD i1 0)))] : List AV).getD j (.con undef))), .one (.int .i64 (f : Int)), .one (.int .i64 (t : Int))] (.one (.bool (isWayB b f t))) := by
  have hix := ix_lt hf ht
  have hin : f * b.cCoins.length ≤ 25 := Nat.le_trans (Nat.mul_le_mul (by omega) hn5) (by omega : 5 * 5 ≤ 25)
  have i4 : f * b.cCoins.length + t < b.cWays.length := by rw [q2]; exact hix
  have i1 : f < b.cKept.length := by omega
  have i2 : t < b.cKept.length := by omega
  have i3 : t < b.cHeard.length := by omega
  have i5 : f < b.cFound.length := by omega
  have i6 : f < (b.cHeard.getD t []).length := by rw [r1 t ht]; exact hf
  have i7 : t < (b.cFound.getD f []).length := by rw [r2 f hf]; exact ht
  have u3 : (f == t) = decide ((f : Int) = (t : Int)) := by rw [Bool.eq_iff_iff, beq_iff_eq, decide_eq_true_iff]; omega
  refine Fn.of_body (fn := Try.f135) Try.func135 rfl (Nat.le_of_ble_eq_true rfl) trivial ?_
  intro w0
  show AW _ 121 _ _ _ _
  refine AW.seq ?_
  refine AW.region ?_
  refine ARun.pure (PureOp.assign rfl .bool) rfl rfl (Nat.le_of_ble_eq_true rfl) ?_
  refine ARun.nil ?_
  refine AW.seq ?_
  refine AW.any (by kernel_rfl) (by kernel_rfl) ?_
  refine AD.pure (PureOp.move rfl (.tmp rfl)) rfl rfl (Nat.le_of_ble_eq_true rfl) ?_
  refine AD.pure (PureOp.nilRef rfl (.tmp rfl)) rfl rfl (Nat.le_of_ble_eq_true rfl) ?_
  refine AD.pure (PureOp.fieldRef rfl (.tmp rfl) vq_fi_49_1_1 (Nat.le_of_ble_eq_true rfl)) rfl rfl (Nat.le_of_ble_eq_true rfl) ?_
  refine AD.pure (PureOp.loadRef rfl (.tmp rfl) vq_pl_25 (Nat.le_of_ble_eq_true rfl)) rfl rfl (Nat.le_of_ble_eq_true rfl) ?_
  refine AD.pure (PureOp.move rfl (.tmp rfl)) rfl rfl (Nat.le_of_ble_eq_true rfl) ?_
  refine AD.pure (PureOp.move rfl (.tmp rfl)) rfl rfl (Nat.le_of_ble_eq_true rfl) ?_
  refine AD.pure (PureOp.nilRef rfl (.tmp rfl)) rfl rfl (Nat.le_of_ble_eq_true rfl) ?_
  refine AD.pure (PureOp.fieldRef rfl (.tmp rfl) vq_fi_49_0_0 (Nat.le_of_ble_eq_true rfl)) rfl rfl (Nat.le_of_ble_eq_true rfl) ?_
  refine AD.pure (PureOp.loadRef rfl (.tmp rfl) vq_pl_22 (Nat.le_of_ble_eq_true rfl)) rfl rfl (Nat.le_of_ble_eq_true rfl) ?_
  refine AD.pure (PureOp.lenLst rfl (.tmp rfl) vq_sl_22) rfl rfl (Nat.le_of_ble_eq_true rfl) ?_
  refine AD.pure (PureOp.mul (c := ((f * b.cCoins.length : Nat) : Int)) rfl (.tmp rfl) (.tmp rfl) (wrap_mul5 hn5 hf)) rfl rfl (Nat.le_of_ble_eq_true rfl) ?_
  refine AD.pure (PureOp.move rfl (.tmp rfl)) rfl rfl (Nat.le_of_ble_eq_true rfl) ?_
  refine AD.pure (PureOp.add (c := ((f * b.cCoins.length + t : Nat) : Int)) rfl (.tmp rfl) (.tmp rfl) (by rw [wrap_id (by omega) (by omega)]; omega)) rfl rfl (Nat.le_of_ble_eq_true rfl) ?_
  refine AD.pure (PureOp.indexLst (i := f * b.cCoins.length + t) rfl (.tmp rfl) vq_el_25_1 (.tmp rfl) rfl (by omega)) rfl rfl (Nat.le_of_ble_eq_true rfl) ?_
  refine AD.pure (PureOp.loadRef rfl (.tmp rfl) vq_pl_22 (Nat.le_of_ble_eq_true rfl)) rfl rfl (Nat.le_of_ble_eq_true rfl) ?_
  refine AD.pure (PureOp.assign rfl (.tmp rfl)) rfl rfl (Nat.le_of_ble_eq_true rfl) ?_
  refine AD.nil ?_
  refine AW.seq ?_
  refine AW.region ?_
  refine ARun.pure (PureOp.assign rfl .int) rfl rfl (Nat.le_of_ble_eq_true rfl) ?_
  refine ARun.nil ?_
  refine AW.seq ?_
  refine AW.seq ?_
  refine AW.region ?_
  refine ARun.pure (PureOp.move rfl (.tmp rfl)) rfl rfl (Nat.le_of_ble_eq_true rfl) ?_
  refine ARun.pure (PureOp.nilRef rfl (.tmp rfl)) rfl rfl (Nat.le_of_ble_eq_true rfl) ?_
  refine ARun.pure (PureOp.fieldRef rfl (.tmp rfl) vq_fi_49_2_2 (Nat.le_of_ble_eq_true rfl)) rfl rfl (Nat.le_of_ble_eq_true rfl) ?_
  refine ARun.pure (PureOp.loadRef rfl (.tmp rfl) vq_pl_22 (Nat.le_of_ble_eq_true rfl)) rfl rfl (Nat.le_of_ble_eq_true rfl) ?_
  refine ARun.pure (PureOp.move rfl (.tmp rfl)) rfl rfl (Nat.le_of_ble_eq_true rfl) ?_
  refine ARun.pure (PureOp.indexLst (i := f) rfl (.tmp rfl) vq_el_22_1 (.tmp rfl) rfl (by omega)) rfl rfl (Nat.le_of_ble_eq_true rfl) ?_
  refine ARun.pure (PureOp.loadRef rfl (.tmp rfl) vq_pl_3 (Nat.le_of_ble_eq_true rfl)) rfl rfl (Nat.le_of_ble_eq_true rfl) ?_
  refine ARun.pure (PureOp.intOp rfl (.tmp rfl) .int rfl) rfl rfl (Nat.le_of_ble_eq_true rfl) ?_
  refine ARun.nil ?_
  refine AW.cond (.tmp rfl) (fun hb1 => ?_) (fun hb1 => ?_)
  · have _u := True.intro
    refine AW.region ?_
    refine ARun.pure (PureOp.move rfl (.tmp rfl)) rfl rfl (Nat.le_of_ble_eq_true rfl) ?_
    refine ARun.pure (PureOp.sub (c := 39) rfl (.tmp rfl) .int rfl) rfl rfl (Nat.le_of_ble_eq_true rfl) ?_
    refine ARun.pure (PureOp.assign rfl (.tmp rfl)) rfl rfl (Nat.le_of_ble_eq_true rfl) ?_
    refine ARun.nil ?_
    refine AW.seq ?_
    refine AW.seq ?_
    refine AW.region ?_
    refine ARun.pure (PureOp.move rfl (.tmp rfl)) rfl rfl (Nat.le_of_ble_eq_true rfl) ?_
    refine ARun.pure (PureOp.move rfl (.tmp rfl)) rfl rfl (Nat.le_of_ble_eq_true rfl) ?_
    refine ARun.pure (PureOp.intOp rfl (.tmp rfl) (.tmp rfl) rfl) rfl rfl (Nat.le_of_ble_eq_true rfl) ?_
    refine ARun.nil ?_
    refine AW.cond (.tmp rfl) (fun hb2 => ?_) (fun hb2 => ?_)
    · have _u := True.intro
      refine AW.seq ?_
      refine AW.region ?_
      refine ARun.pure (PureOp.move rfl (.tmp rfl)) rfl rfl (Nat.le_of_ble_eq_true rfl) ?_
      refine ARun.pure (PureOp.lenLst rfl (.tmp rfl) vq_sl_22) rfl rfl (Nat.le_of_ble_eq_true rfl) ?_
      refine ARun.pure (PureOp.intOp rfl (.tmp rfl) .int rfl) rfl rfl (Nat.le_of_ble_eq_true rfl) ?_
      refine ARun.pure (PureOp.move rfl (.tmp rfl)) rfl rfl (Nat.le_of_ble_eq_true rfl) ?_
      refine ARun.gpure (want := true) (.tt rfl) (fun hg3 => PureOp.move rfl (.tmp rfl)) rfl rfl (Nat.le_of_ble_eq_true rfl) rfl (Nat.le_of_ble_eq_true rfl) ?_
      refine ARun.gpure (want := true) (.tt rfl) (fun hg4 => PureOp.nilRef rfl (.gtmp rfl hg4)) rfl rfl (Nat.le_of_ble_eq_true rfl) rfl (Nat.le_of_ble_eq_true rfl) ?_
      refine ARun.gpure (want := true) (.tt rfl) (fun hg5 => PureOp.fieldRef rfl (.gtmp rfl hg5) vq_fi_49_4_4 (Nat.le_of_ble_eq_true rfl)) rfl rfl (Nat.le_of_ble_eq_true rfl) rfl (Nat.le_of_ble_eq_true rfl) ?_
      refine ARun.gpure (want := true) (.tt rfl) (fun hg6 => PureOp.loadRef rfl (.gtmp rfl hg6) vq_pl_25 (Nat.le_of_ble_eq_true rfl)) rfl rfl (Nat.le_of_ble_eq_true rfl) rfl (Nat.le_of_ble_eq_true rfl) ?_
      refine ARun.gpure (want := true) (.tt rfl) (fun hg7 => PureOp.move rfl (.tmp rfl)) rfl rfl (Nat.le_of_ble_eq_true rfl) rfl (Nat.le_of_ble_eq_true rfl) ?_
      refine ARun.gpure (want := true) (.tt rfl) (fun hg8 => PureOp.indexLst (i := f) rfl (.gtmp rfl hg8) vq_el_25_1 (.gtmp rfl hg8) rfl (by first | omega | (have q := hg8; simp only [Bool.cond_true_left, Bool.cond_false_right, Bool.not_eq_true', Bool.or_eq_false_iff, Bool.not_eq_false', Bool.and_eq_true, Bool.not_not, decide_eq_true_eq, decide_eq_false_iff_not, inB] at q; omega))) rfl rfl (Nat.le_of_ble_eq_true rfl) rfl (Nat.le_of_ble_eq_true rfl) ?_
      refine ARun.gpure (want := true) (.tt rfl) (fun hg9 => PureOp.loadRef rfl (.gtmp rfl hg9) vq_pl_22 (Nat.le_of_ble_eq_true rfl)) rfl rfl (Nat.le_of_ble_eq_true rfl) rfl (Nat.le_of_ble_eq_true rfl) ?_
      refine ARun.gpure (want := true) (.tt rfl) (fun hg10 => PureOp.move rfl (.tmp rfl)) rfl rfl (Nat.le_of_ble_eq_true rfl) rfl (Nat.le_of_ble_eq_true rfl) ?_
      refine ARun.gpure (want := true) (.tt rfl) (fun hg11 => PureOp.indexLst (i := t) rfl (.gtmp rfl hg11) vq_el_22_1 (.gtmp rfl hg11) rfl (by first | omega | (have q := hg11; simp only [Bool.cond_true_left, Bool.cond_false_right, Bool.not_eq_true', Bool.or_eq_false_iff, Bool.not_eq_false', Bool.and_eq_true, Bool.not_not, decide_eq_true_eq, decide_eq_false_iff_not, inB] at q; omega))) rfl rfl (Nat.le_of_ble_eq_true rfl) rfl (Nat.le_of_ble_eq_true rfl) ?_
      refine ARun.gpure (want := true) (.tt rfl) (fun hg12 => PureOp.loadRef rfl (.gtmp rfl hg12) vq_pl_3 (Nat.le_of_ble_eq_true rfl)) rfl rfl (Nat.le_of_ble_eq_true rfl) rfl (Nat.le_of_ble_eq_true rfl) ?_
      refine ARun.gpure (want := true) (.tt rfl) (fun hg13 => PureOp.intOp rfl (.gtmp rfl hg13) .int rfl) rfl rfl (Nat.le_of_ble_eq_true rfl) rfl (Nat.le_of_ble_eq_true rfl) ?_
      refine ARun.pure (PureOp.pick rfl (.tmp rfl) (fun hp14 => .gtmp rfl hp14) (fun _ => .bool)) rfl rfl (Nat.le_of_ble_eq_true rfl) ?_
      refine ARun.pure (PureOp.move rfl (.tmp rfl)) rfl rfl (Nat.le_of_ble_eq_true rfl) ?_
      refine ARun.gpure (want := true) (.tt rfl) (fun hg16 => PureOp.move rfl (.tmp rfl)) rfl rfl (Nat.le_of_ble_eq_true rfl) rfl (Nat.le_of_ble_eq_true rfl) ?_
      refine ARun.gpure (want := true) (.tt rfl) (fun hg17 => PureOp.nilRef rfl (.gtmp rfl hg17)) rfl rfl (Nat.le_of_ble_eq_true rfl) rfl (Nat.le_of_ble_eq_true rfl) ?_
      refine ARun.gpure (want := true) (.tt rfl) (fun hg18 => PureOp.fieldRef rfl (.gtmp rfl hg18) vq_fi_49_3_3 (Nat.le_of_ble_eq_true rfl)) rfl rfl (Nat.le_of_ble_eq_true rfl) rfl (Nat.le_of_ble_eq_true rfl) ?_
      refine ARun.gpure (want := true) (.tt rfl) (fun hg19 => PureOp.loadRef rfl (.gtmp rfl hg19) vq_pl_47 (Nat.le_of_ble_eq_true rfl)) rfl rfl (Nat.le_of_ble_eq_true rfl) rfl (Nat.le_of_ble_eq_true rfl) ?_
      refine ARun.gpure (want := true) (.tt rfl) (fun hg20 => PureOp.move rfl (.tmp rfl)) rfl rfl (Nat.le_of_ble_eq_true rfl) rfl (Nat.le_of_ble_eq_true rfl) ?_
      refine ARun.gpure (want := true) (.tt rfl) (fun hg21 => PureOp.indexLst (i := t) rfl (.gtmp rfl hg21) vq_el_47_1 (.gtmp rfl hg21) rfl (by first | omega | (have q := hg21; simp only [Bool.cond_true_left, Bool.cond_false_right, Bool.not_eq_true', Bool.or_eq_false_iff, Bool.not_eq_false', Bool.and_eq_true, Bool.not_not, decide_eq_true_eq, decide_eq_false_iff_not, inB] at q; omega))) rfl rfl (Nat.le_of_ble_eq_true rfl) rfl (Nat.le_of_ble_eq_true rfl) ?_
      refine ARun.gpure (want := true) (.tt rfl) (fun hg22 => PureOp.loadRef rfl (.gtmp rfl hg22) vq_pl_107 (Nat.le_of_ble_eq_true rfl)) rfl rfl (Nat.le_of_ble_eq_true rfl) rfl (Nat.le_of_ble_eq_true rfl) ?_
      refine ARun.gpure (want := true) (.tt rfl) (fun hg23 => PureOp.move rfl (.tmp rfl)) rfl rfl (Nat.le_of_ble_eq_true rfl) rfl (Nat.le_of_ble_eq_true rfl) ?_
      refine ARun.gpure (want := true) (.tt rfl) (fun hg24 => PureOp.indexLst (i := f) rfl (.gtmp rfl hg24) vq_el_107_1 (.gtmp rfl hg24) rfl (by first | omega | (have q := hg24; simp only [Bool.cond_true_left, Bool.cond_false_right, Bool.not_eq_true', Bool.or_eq_false_iff, Bool.not_eq_false', Bool.and_eq_true, Bool.not_not, decide_eq_true_eq, decide_eq_false_iff_not, inB] at q; omega))) rfl rfl (Nat.le_of_ble_eq_true rfl) rfl (Nat.le_of_ble_eq_true rfl) ?_
      refine ARun.gpure (want := true) (.tt rfl) (fun hg25 => PureOp.loadRef rfl (.gtmp rfl hg25) vq_pl_4 (Nat.le_of_ble_eq_true rfl)) rfl rfl (Nat.le_of_ble_eq_true rfl) rfl (Nat.le_of_ble_eq_true rfl) ?_
      refine ARun.gpure (want := true) (.tt rfl) (fun hg26 => PureOp.not rfl (.gtmp rfl hg26)) rfl rfl (Nat.le_of_ble_eq_true rfl) rfl (Nat.le_of_ble_eq_true rfl) ?_
      refine ARun.pure (PureOp.pick rfl (.tmp rfl) (fun hp27 => .gtmp rfl hp27) (fun _ => .bool)) rfl rfl (Nat.le_of_ble_eq_true rfl) ?_
      refine ARun.pure (PureOp.assign rfl (.tmp rfl)) rfl rfl (Nat.le_of_ble_eq_true rfl) ?_
      refine ARun.nil ?_
      refine AW.ret (show ResL _ _ [.tmp 6] _ from resB rfl ?_)
      unfold isWayB atI atB
      rw [u3]
      have e0 : ((b.cWays.getD (f * b.cCoins.length + t) []).any fun x => !decide (0 ≤ x ∧ x ≤ 50)) = (b.cWays.getD (f * b.cCoins.length + t) []).any (fun x => !inB 0 50 x) := rfl
      have e1 : decide (0 ≤ (b.cFound.getD f []).getD t 0 ∧ (b.cFound.getD f []).getD t 0 ≤ 1000) = inB 0 1000 ((b.cFound.getD f []).getD t 0) := rfl
      rw [e0, e1]
      generalize b.cWays.getD (f * b.cCoins.length + t) [] = way at *
      have v1 : decide (way.length = 0) = decide ((way.length : Int) = 0) := decide_eq_decide.2 (by omega)
      have v2 : decide (way.length ≤ 39) = decide ((way.length : Int) ≤ 39) := decide_eq_decide.2 (by omega)
      have v3 : decide (way.length ≤ 40) = decide ((way.length : Int) ≤ 40) := decide_eq_decide.2 (by omega)
      rw [v1, v2, v3]
      revert hb1 hb2
      generalize way.any (fun x => !inB 0 50 x) = q
      generalize inB 0 1000 ((b.cFound.getD f []).getD t 0) = p1
      generalize decide ((b.cFound.getD f []).getD t 0 = 0) = p2
      generalize (b.cHeard.getD t []).getD f false = p3
      generalize decide (b.cKept.getD f 0 < 0) = p4
      generalize decide (b.cKept.getD t 0 < 0) = p5
      generalize decide ((way.length : Int) = 0) = p6
      generalize decide ((way.length : Int) ≤ 39) = p7
      generalize decide ((way.length : Int) ≤ 40) = p8
      generalize decide ((f : Int) = (t : Int)) = p9
      revert q p1 p2 p3 p4 p5 p6 p7 p8 p9
      decide
    · have _u := True.intro
      refine AW.skip ?_
      refine AW.seq ?_
      refine AW.seq ?_
      refine AW.region ?_
      refine ARun.pure (PureOp.move rfl (.tmp rfl)) rfl rfl (Nat.le_of_ble_eq_true rfl) ?_
      refine ARun.pure (PureOp.nilRef rfl (.tmp rfl)) rfl rfl (Nat.le_of_ble_eq_true rfl) ?_
      refine ARun.pure (PureOp.fieldRef rfl (.tmp rfl) vq_fi_49_2_2 (Nat.le_of_ble_eq_true rfl)) rfl rfl (Nat.le_of_ble_eq_true rfl) ?_
      refine ARun.pure (PureOp.loadRef rfl (.tmp rfl) vq_pl_22 (Nat.le_of_ble_eq_true rfl)) rfl rfl (Nat.le_of_ble_eq_true rfl) ?_
      refine ARun.pure (PureOp.move rfl (.tmp rfl)) rfl rfl (Nat.le_of_ble_eq_true rfl) ?_
      refine ARun.pure (PureOp.indexLst (i := t) rfl (.tmp rfl) vq_el_22_1 (.tmp rfl) rfl (by omega)) rfl rfl (Nat.le_of_ble_eq_true rfl) ?_
      refine ARun.pure (PureOp.loadRef rfl (.tmp rfl) vq_pl_3 (Nat.le_of_ble_eq_true rfl)) rfl rfl (Nat.le_of_ble_eq_true rfl) ?_
      refine ARun.pure (PureOp.intOp rfl (.tmp rfl) .int rfl) rfl rfl (Nat.le_of_ble_eq_true rfl) ?_
      refine ARun.pure (PureOp.move rfl (.tmp rfl)) rfl rfl (Nat.le_of_ble_eq_true rfl) ?_
      refine ARun.gpure (want := true) (.tt rfl) (fun hg29 => PureOp.move rfl (.tmp rfl)) rfl rfl (Nat.le_of_ble_eq_true rfl) rfl (Nat.le_of_ble_eq_true rfl) ?_
      refine ARun.gpure (want := true) (.tt rfl) (fun hg30 => PureOp.nilRef rfl (.gtmp rfl hg30)) rfl rfl (Nat.le_of_ble_eq_true rfl) rfl (Nat.le_of_ble_eq_true rfl) ?_
      refine ARun.gpure (want := true) (.tt rfl) (fun hg31 => PureOp.fieldRef rfl (.gtmp rfl hg31) vq_fi_49_4_4 (Nat.le_of_ble_eq_true rfl)) rfl rfl (Nat.le_of_ble_eq_true rfl) rfl (Nat.le_of_ble_eq_true rfl) ?_
      refine ARun.gpure (want := true) (.tt rfl) (fun hg32 => PureOp.loadRef rfl (.gtmp rfl hg32) vq_pl_25 (Nat.le_of_ble_eq_true rfl)) rfl rfl (Nat.le_of_ble_eq_true rfl) rfl (Nat.le_of_ble_eq_true rfl) ?_
      refine ARun.gpure (want := true) (.tt rfl) (fun hg33 => PureOp.move rfl (.tmp rfl)) rfl rfl (Nat.le_of_ble_eq_true rfl) rfl (Nat.le_of_ble_eq_true rfl) ?_
      refine ARun.gpure (want := true) (.tt rfl) (fun hg34 => PureOp.indexLst (i := f) rfl (.gtmp rfl hg34) vq_el_25_1 (.gtmp rfl hg34) rfl (by first | omega | (have q := hg34; simp only [Bool.cond_true_left, Bool.cond_false_right, Bool.not_eq_true', Bool.or_eq_false_iff, Bool.not_eq_false', Bool.and_eq_true, Bool.not_not, decide_eq_true_eq, decide_eq_false_iff_not, inB] at q; omega))) rfl rfl (Nat.le_of_ble_eq_true rfl) rfl (Nat.le_of_ble_eq_true rfl) ?_
      refine ARun.gpure (want := true) (.tt rfl) (fun hg35 => PureOp.loadRef rfl (.gtmp rfl hg35) vq_pl_22 (Nat.le_of_ble_eq_true rfl)) rfl rfl (Nat.le_of_ble_eq_true rfl) rfl (Nat.le_of_ble_eq_true rfl) ?_
      refine ARun.gpure (want := true) (.tt rfl) (fun hg36 => PureOp.move rfl (.tmp rfl)) rfl rfl (Nat.le_of_ble_eq_true rfl) rfl (Nat.le_of_ble_eq_true rfl) ?_
      refine ARun.gpure (want := true) (.tt rfl) (fun hg37 => PureOp.indexLst (i := t) rfl (.gtmp rfl hg37) vq_el_22_1 (.gtmp rfl hg37) rfl (by first | omega | (have q := hg37; simp only [Bool.cond_true_left, Bool.cond_false_right, Bool.not_eq_true', Bool.or_eq_false_iff, Bool.not_eq_false', Bool.and_eq_true, Bool.not_not, decide_eq_true_eq, decide_eq_false_iff_not, inB] at q; omega))) rfl rfl (Nat.le_of_ble_eq_true rfl) rfl (Nat.le_of_ble_eq_true rfl) ?_
      refine ARun.gpure (want := true) (.tt rfl) (fun hg38 => PureOp.loadRef rfl (.gtmp rfl hg38) vq_pl_3 (Nat.le_of_ble_eq_true rfl)) rfl rfl (Nat.le_of_ble_eq_true rfl) rfl (Nat.le_of_ble_eq_true rfl) ?_
      refine ARun.gpure (want := true) (.tt rfl) (fun hg39 => PureOp.intOp rfl (.gtmp rfl hg39) .int rfl) rfl rfl (Nat.le_of_ble_eq_true rfl) rfl (Nat.le_of_ble_eq_true rfl) ?_
      refine ARun.gpure (want := true) (.tt rfl) (fun hg40 => PureOp.move rfl (.gtmp rfl hg40)) rfl rfl (Nat.le_of_ble_eq_true rfl) rfl (Nat.le_of_ble_eq_true rfl) ?_
      refine ARun.gpure (want := false) (.gf rfl) (fun hg41 => PureOp.move rfl (.tmp rfl)) rfl rfl (Nat.le_of_ble_eq_true rfl) rfl (Nat.le_of_ble_eq_true rfl) ?_
      refine ARun.gpure (want := false) (.gf rfl) (fun hg42 => PureOp.nilRef rfl (.gtmp rfl hg42)) rfl rfl (Nat.le_of_ble_eq_true rfl) rfl (Nat.le_of_ble_eq_true rfl) ?_
      refine ARun.gpure (want := false) (.gf rfl) (fun hg43 => PureOp.fieldRef rfl (.gtmp rfl hg43) vq_fi_49_3_3 (Nat.le_of_ble_eq_true rfl)) rfl rfl (Nat.le_of_ble_eq_true rfl) rfl (Nat.le_of_ble_eq_true rfl) ?_
      refine ARun.gpure (want := false) (.gf rfl) (fun hg44 => PureOp.loadRef rfl (.gtmp rfl hg44) vq_pl_47 (Nat.le_of_ble_eq_true rfl)) rfl rfl (Nat.le_of_ble_eq_true rfl) rfl (Nat.le_of_ble_eq_true rfl) ?_
      refine ARun.gpure (want := false) (.gf rfl) (fun hg45 => PureOp.move rfl (.tmp rfl)) rfl rfl (Nat.le_of_ble_eq_true rfl) rfl (Nat.le_of_ble_eq_true rfl) ?_
      refine ARun.gpure (want := false) (.gf rfl) (fun hg46 => PureOp.indexLst (i := t) rfl (.gtmp rfl hg46) vq_el_47_1 (.gtmp rfl hg46) rfl (by first | omega | (have q := hg46; simp only [Bool.cond_true_left, Bool.cond_false_right, Bool.not_eq_true', Bool.or_eq_false_iff, Bool.not_eq_false', Bool.and_eq_true, Bool.not_not, decide_eq_true_eq, decide_eq_false_iff_not, inB] at q; omega))) rfl rfl (Nat.le_of_ble_eq_true rfl) rfl (Nat.le_of_ble_eq_true rfl) ?_
      refine ARun.gpure (want := false) (.gf rfl) (fun hg47 => PureOp.loadRef rfl (.gtmp rfl hg47) vq_pl_107 (Nat.le_of_ble_eq_true rfl)) rfl rfl (Nat.le_of_ble_eq_true rfl) rfl (Nat.le_of_ble_eq_true rfl) ?_
      refine ARun.gpure (want := false) (.gf rfl) (fun hg48 => PureOp.move rfl (.tmp rfl)) rfl rfl (Nat.le_of_ble_eq_true rfl) rfl (Nat.le_of_ble_eq_true rfl) ?_
      refine ARun.gpure (want := false) (.gf rfl) (fun hg49 => PureOp.indexLst (i := f) rfl (.gtmp rfl hg49) vq_el_107_1 (.gtmp rfl hg49) rfl (by first | omega | (have q := hg49; simp only [Bool.cond_true_left, Bool.cond_false_right, Bool.not_eq_true', Bool.or_eq_false_iff, Bool.not_eq_false', Bool.and_eq_true, Bool.not_not, decide_eq_true_eq, decide_eq_false_iff_not, inB] at q; omega))) rfl rfl (Nat.le_of_ble_eq_true rfl) rfl (Nat.le_of_ble_eq_true rfl) ?_
      refine ARun.gpure (want := false) (.gf rfl) (fun hg50 => PureOp.loadRef rfl (.gtmp rfl hg50) vq_pl_4 (Nat.le_of_ble_eq_true rfl)) rfl rfl (Nat.le_of_ble_eq_true rfl) rfl (Nat.le_of_ble_eq_true rfl) ?_
      refine ARun.gpure (want := true) (.tt rfl) (fun hg51 => PureOp.pick rfl (.gtmp rfl hg51) (fun _ => .bool) (fun hp53 => .gtmp rfl (and_mk hg51 (not_of hp53)))) rfl rfl (Nat.le_of_ble_eq_true rfl) rfl (Nat.le_of_ble_eq_true rfl) ?_
      refine ARun.pure (PureOp.pick rfl (.tmp rfl) (fun hp54 => .gtmp rfl hp54) (fun _ => .bool)) rfl rfl (Nat.le_of_ble_eq_true rfl) ?_
      refine ARun.nil ?_
      refine AW.cond (.tmp rfl) (fun hb56 => ?_) (fun hb56 => ?_)
      · have _u := True.intro
        refine AW.seq ?_
        refine AW.region ?_
        refine ARun.pure (PureOp.assign rfl .bool) rfl rfl (Nat.le_of_ble_eq_true rfl) ?_
        refine ARun.nil ?_
        refine AW.ret (show ResL _ _ [.tmp 6] _ from resB rfl ?_)
        unfold isWayB atI atB
        rw [u3]
        have e0 : ((b.cWays.getD (f * b.cCoins.length + t) []).any fun x => !decide (0 ≤ x ∧ x ≤ 50)) = (b.cWays.getD (f * b.cCoins.length + t) []).any (fun x => !inB 0 50 x) := rfl
        have e1 : decide (0 ≤ (b.cFound.getD f []).getD t 0 ∧ (b.cFound.getD f []).getD t 0 ≤ 1000) = inB 0 1000 ((b.cFound.getD f []).getD t 0) := rfl
        rw [e0, e1]
        generalize b.cWays.getD (f * b.cCoins.length + t) [] = way at *
        have v1 : decide (way.length = 0) = decide ((way.length : Int) = 0) := decide_eq_decide.2 (by omega)
        have v2 : decide (way.length ≤ 39) = decide ((way.length : Int) ≤ 39) := decide_eq_decide.2 (by omega)
        have v3 : decide (way.length ≤ 40) = decide ((way.length : Int) ≤ 40) := decide_eq_decide.2 (by omega)
        rw [v1, v2, v3]
        revert hb1 hb2 hb56
        generalize way.any (fun x => !inB 0 50 x) = q
        generalize inB 0 1000 ((b.cFound.getD f []).getD t 0) = p1
        generalize decide ((b.cFound.getD f []).getD t 0 = 0) = p2
        generalize (b.cHeard.getD t []).getD f false = p3
        generalize decide (b.cKept.getD f 0 < 0) = p4
        generalize decide (b.cKept.getD t 0 < 0) = p5
        generalize decide ((way.length : Int) = 0) = p6
        generalize decide ((way.length : Int) ≤ 39) = p7
        generalize decide ((way.length : Int) ≤ 40) = p8
        generalize decide ((f : Int) = (t : Int)) = p9
        revert q p1 p2 p3 p4 p5 p6 p7 p8 p9
        decide
      · have _u := True.intro
        refine AW.skip ?_
        refine AW.seq ?_
        refine AW.region ?_
        refine ARun.pure (PureOp.move rfl (.tmp rfl)) rfl rfl (Nat.le_of_ble_eq_true rfl) ?_
        refine ARun.pure (PureOp.lenLst rfl (.tmp rfl) vq_sl_22) rfl rfl (Nat.le_of_ble_eq_true rfl) ?_
        refine ARun.pure (PureOp.move rfl (.tmp rfl)) rfl rfl (Nat.le_of_ble_eq_true rfl) ?_
        refine ARun.pure (PureOp.intOp rfl (.tmp rfl) (.tmp rfl) rfl) rfl rfl (Nat.le_of_ble_eq_true rfl) ?_
        refine ARun.pure (PureOp.move rfl (.tmp rfl)) rfl rfl (Nat.le_of_ble_eq_true rfl) ?_
        refine ARun.gpure (want := true) (.tt rfl) (fun hg57 => PureOp.move rfl (.tmp rfl)) rfl rfl (Nat.le_of_ble_eq_true rfl) rfl (Nat.le_of_ble_eq_true rfl) ?_
        refine ARun.gpure (want := true) (.tt rfl) (fun hg58 => PureOp.nilRef rfl (.gtmp rfl hg58)) rfl rfl (Nat.le_of_ble_eq_true rfl) rfl (Nat.le_of_ble_eq_true rfl) ?_
        refine ARun.gpure (want := true) (.tt rfl) (fun hg59 => PureOp.fieldRef rfl (.gtmp rfl hg59) vq_fi_49_4_4 (Nat.le_of_ble_eq_true rfl)) rfl rfl (Nat.le_of_ble_eq_true rfl) rfl (Nat.le_of_ble_eq_true rfl) ?_
        refine ARun.gpure (want := true) (.tt rfl) (fun hg60 => PureOp.loadRef rfl (.gtmp rfl hg60) vq_pl_25 (Nat.le_of_ble_eq_true rfl)) rfl rfl (Nat.le_of_ble_eq_true rfl) rfl (Nat.le_of_ble_eq_true rfl) ?_
        refine ARun.gpure (want := true) (.tt rfl) (fun hg61 => PureOp.move rfl (.tmp rfl)) rfl rfl (Nat.le_of_ble_eq_true rfl) rfl (Nat.le_of_ble_eq_true rfl) ?_
        refine ARun.gpure (want := true) (.tt rfl) (fun hg62 => PureOp.indexLst (i := f) rfl (.gtmp rfl hg62) vq_el_25_1 (.gtmp rfl hg62) rfl (by first | omega | (have q := hg62; simp only [Bool.cond_true_left, Bool.cond_false_right, Bool.not_eq_true', Bool.or_eq_false_iff, Bool.not_eq_false', Bool.and_eq_true, Bool.not_not, decide_eq_true_eq, decide_eq_false_iff_not, inB] at q; omega))) rfl rfl (Nat.le_of_ble_eq_true rfl) rfl (Nat.le_of_ble_eq_true rfl) ?_
        refine ARun.gpure (want := true) (.tt rfl) (fun hg63 => PureOp.loadRef rfl (.gtmp rfl hg63) vq_pl_22 (Nat.le_of_ble_eq_true rfl)) rfl rfl (Nat.le_of_ble_eq_true rfl) rfl (Nat.le_of_ble_eq_true rfl) ?_
        refine ARun.gpure (want := true) (.tt rfl) (fun hg64 => PureOp.move rfl (.tmp rfl)) rfl rfl (Nat.le_of_ble_eq_true rfl) rfl (Nat.le_of_ble_eq_true rfl) ?_
        refine ARun.gpure (want := true) (.tt rfl) (fun hg65 => PureOp.indexLst (i := t) rfl (.gtmp rfl hg65) vq_el_22_1 (.gtmp rfl hg65) rfl (by first | omega | (have q := hg65; simp only [Bool.cond_true_left, Bool.cond_false_right, Bool.not_eq_true', Bool.or_eq_false_iff, Bool.not_eq_false', Bool.and_eq_true, Bool.not_not, decide_eq_true_eq, decide_eq_false_iff_not, inB] at q; omega))) rfl rfl (Nat.le_of_ble_eq_true rfl) rfl (Nat.le_of_ble_eq_true rfl) ?_
        refine ARun.gpure (want := true) (.tt rfl) (fun hg66 => PureOp.loadRef rfl (.gtmp rfl hg66) vq_pl_3 (Nat.le_of_ble_eq_true rfl)) rfl rfl (Nat.le_of_ble_eq_true rfl) rfl (Nat.le_of_ble_eq_true rfl) ?_
        refine ARun.gpure (want := true) (.tt rfl) (fun hg67 => PureOp.call rfl (v_within ((b.cFound.getD f []).getD t 0) 0 1000) ⟨⟨_, (.gtmp rfl hg67), .int⟩, ⟨_, .int, .int⟩, ⟨_, .int, .int⟩, trivial⟩ vq_ca_59 trivial) rfl rfl (Nat.le_of_ble_eq_true rfl) rfl (Nat.le_of_ble_eq_true rfl) ?_
        refine ARun.pure (PureOp.pick rfl (.tmp rfl) (fun hp68 => .gtmp rfl hp68) (fun _ => .bool)) rfl rfl (Nat.le_of_ble_eq_true rfl) ?_
        refine ARun.pure (PureOp.move rfl (.tmp rfl)) rfl rfl (Nat.le_of_ble_eq_true rfl) ?_
        refine ARun.gpure (want := true) (.tt rfl) (fun hg70 => PureOp.move rfl (.tmp rfl)) rfl rfl (Nat.le_of_ble_eq_true rfl) rfl (Nat.le_of_ble_eq_true rfl) ?_
        refine ARun.gpure (want := true) (.tt rfl) (fun hg71 => PureOp.call rfl (v_ContainsFunc_Int (b.cWays.getD (f * b.cCoins.length + t) []) 151 0 (fun _ => .con undef) (fun x => !inB 0 50 x) (fun j h => absurd h (by omega)) vq_ca_151 (fun k hk => v_isWay1 _)) ⟨⟨_, (.gtmp rfl hg71), .lst⟩, ⟨_, .func, (.fn (fun j h => absurd h (by omega)))⟩, trivial⟩ vq_ca_60 trivial) rfl rfl (Nat.le_of_ble_eq_true rfl) rfl (Nat.le_of_ble_eq_true rfl) ?_
        refine ARun.gpure (want := true) (.tt rfl) (fun hg72 => PureOp.not rfl (.gtmp rfl hg72)) rfl rfl (Nat.le_of_ble_eq_true rfl) rfl (Nat.le_of_ble_eq_true rfl) ?_
        refine ARun.pure (PureOp.pick rfl (.tmp rfl) (fun hp73 => .gtmp rfl hp73) (fun _ => .bool)) rfl rfl (Nat.le_of_ble_eq_true rfl) ?_
        refine ARun.pure (PureOp.assign rfl (.tmp rfl)) rfl rfl (Nat.le_of_ble_eq_true rfl) ?_
        refine ARun.nil ?_
        refine AW.ret (show ResL _ _ [.tmp 6] _ from resB rfl ?_)
        unfold isWayB atI atB
        rw [u3]
        have e0 : ((b.cWays.getD (f * b.cCoins.length + t) []).any fun x => !decide (0 ≤ x ∧ x ≤ 50)) = (b.cWays.getD (f * b.cCoins.length + t) []).any (fun x => !inB 0 50 x) := rfl
        have e1 : decide (0 ≤ (b.cFound.getD f []).getD t 0 ∧ (b.cFound.getD f []).getD t 0 ≤ 1000) = inB 0 1000 ((b.cFound.getD f []).getD t 0) := rfl
        rw [e0, e1]
        generalize b.cWays.getD (f * b.cCoins.length + t) [] = way at *
        have v1 : decide (way.length = 0) = decide ((way.length : Int) = 0) := decide_eq_decide.2 (by omega)
        have v2 : decide (way.length ≤ 39) = decide ((way.length : Int) ≤ 39) := decide_eq_decide.2 (by omega)
        have v3 : decide (way.length ≤ 40) = decide ((way.length : Int) ≤ 40) := decide_eq_decide.2 (by omega)
        rw [v1, v2, v3]
        revert hb1 hb2 hb56
        generalize way.any (fun x => !inB 0 50 x) = q
        generalize inB 0 1000 ((b.cFound.getD f []).getD t 0) = p1
        generalize decide ((b.cFound.getD f []).getD t 0 = 0) = p2
        generalize (b.cHeard.getD t []).getD f false = p3
        generalize decide (b.cKept.getD f 0 < 0) = p4
        generalize decide (b.cKept.getD t 0 < 0) = p5
        generalize decide ((way.length : Int) = 0) = p6
        generalize decide ((way.length : Int) ≤ 39) = p7
        generalize decide ((way.length : Int) ≤ 40) = p8
        generalize decide ((f : Int) = (t : Int)) = p9
        revert q p1 p2 p3 p4 p5 p6 p7 p8 p9
        decide
  · have _u := True.intro
    refine AW.skip ?_
    refine AW.seq ?_
    refine AW.seq ?_
    refine AW.region ?_
    refine ARun.pure (PureOp.move rfl (.tmp rfl)) rfl rfl (Nat.le_of_ble_eq_true rfl) ?_
    refine ARun.pure (PureOp.move rfl (.tmp rfl)) rfl rfl (Nat.le_of_ble_eq_true rfl) ?_
    refine ARun.pure (PureOp.intOp rfl (.tmp rfl) (.tmp rfl) rfl) rfl rfl (Nat.le_of_ble_eq_true rfl) ?_
    refine ARun.nil ?_
    refine AW.cond (.tmp rfl) (fun hb75 => ?_) (fun hb75 => ?_)
    · have _u := True.intro
      refine AW.seq ?_
      refine AW.region ?_
      refine ARun.pure (PureOp.move rfl (.tmp rfl)) rfl rfl (Nat.le_of_ble_eq_true rfl) ?_
      refine ARun.pure (PureOp.lenLst rfl (.tmp rfl) vq_sl_22) rfl rfl (Nat.le_of_ble_eq_true rfl) ?_
      refine ARun.pure (PureOp.intOp rfl (.tmp rfl) .int rfl) rfl rfl (Nat.le_of_ble_eq_true rfl) ?_
      refine ARun.pure (PureOp.move rfl (.tmp rfl)) rfl rfl (Nat.le_of_ble_eq_true rfl) ?_
      refine ARun.gpure (want := true) (.tt rfl) (fun hg76 => PureOp.move rfl (.tmp rfl)) rfl rfl (Nat.le_of_ble_eq_true rfl) rfl (Nat.le_of_ble_eq_true rfl) ?_
      refine ARun.gpure (want := true) (.tt rfl) (fun hg77 => PureOp.nilRef rfl (.gtmp rfl hg77)) rfl rfl (Nat.le_of_ble_eq_true rfl) rfl (Nat.le_of_ble_eq_true rfl) ?_
      refine ARun.gpure (want := true) (.tt rfl) (fun hg78 => PureOp.fieldRef rfl (.gtmp rfl hg78) vq_fi_49_4_4 (Nat.le_of_ble_eq_true rfl)) rfl rfl (Nat.le_of_ble_eq_true rfl) rfl (Nat.le_of_ble_eq_true rfl) ?_
      refine ARun.gpure (want := true) (.tt rfl) (fun hg79 => PureOp.loadRef rfl (.gtmp rfl hg79) vq_pl_25 (Nat.le_of_ble_eq_true rfl)) rfl rfl (Nat.le_of_ble_eq_true rfl) rfl (Nat.le_of_ble_eq_true rfl) ?_
      refine ARun.gpure (want := true) (.tt rfl) (fun hg80 => PureOp.move rfl (.tmp rfl)) rfl rfl (Nat.le_of_ble_eq_true rfl) rfl (Nat.le_of_ble_eq_true rfl) ?_
      refine ARun.gpure (want := true) (.tt rfl) (fun hg81 => PureOp.indexLst (i := f) rfl (.gtmp rfl hg81) vq_el_25_1 (.gtmp rfl hg81) rfl (by first | omega | (have q := hg81; simp only [Bool.cond_true_left, Bool.cond_false_right, Bool.not_eq_true', Bool.or_eq_false_iff, Bool.not_eq_false', Bool.and_eq_true, Bool.not_not, decide_eq_true_eq, decide_eq_false_iff_not, inB] at q; omega))) rfl rfl (Nat.le_of_ble_eq_true rfl) rfl (Nat.le_of_ble_eq_true rfl) ?_
      refine ARun.gpure (want := true) (.tt rfl) (fun hg82 => PureOp.loadRef rfl (.gtmp rfl hg82) vq_pl_22 (Nat.le_of_ble_eq_true rfl)) rfl rfl (Nat.le_of_ble_eq_true rfl) rfl (Nat.le_of_ble_eq_true rfl) ?_
      refine ARun.gpure (want := true) (.tt rfl) (fun hg83 => PureOp.move rfl (.tmp rfl)) rfl rfl (Nat.le_of_ble_eq_true rfl) rfl (Nat.le_of_ble_eq_true rfl) ?_
      refine ARun.gpure (want := true) (.tt rfl) (fun hg84 => PureOp.indexLst (i := t) rfl (.gtmp rfl hg84) vq_el_22_1 (.gtmp rfl hg84) rfl (by first | omega | (have q := hg84; simp only [Bool.cond_true_left, Bool.cond_false_right, Bool.not_eq_true', Bool.or_eq_false_iff, Bool.not_eq_false', Bool.and_eq_true, Bool.not_not, decide_eq_true_eq, decide_eq_false_iff_not, inB] at q; omega))) rfl rfl (Nat.le_of_ble_eq_true rfl) rfl (Nat.le_of_ble_eq_true rfl) ?_
      refine ARun.gpure (want := true) (.tt rfl) (fun hg85 => PureOp.loadRef rfl (.gtmp rfl hg85) vq_pl_3 (Nat.le_of_ble_eq_true rfl)) rfl rfl (Nat.le_of_ble_eq_true rfl) rfl (Nat.le_of_ble_eq_true rfl) ?_
      refine ARun.gpure (want := true) (.tt rfl) (fun hg86 => PureOp.intOp rfl (.gtmp rfl hg86) .int rfl) rfl rfl (Nat.le_of_ble_eq_true rfl) rfl (Nat.le_of_ble_eq_true rfl) ?_
      refine ARun.pure (PureOp.pick rfl (.tmp rfl) (fun hp87 => .gtmp rfl hp87) (fun _ => .bool)) rfl rfl (Nat.le_of_ble_eq_true rfl) ?_
      refine ARun.pure (PureOp.move rfl (.tmp rfl)) rfl rfl (Nat.le_of_ble_eq_true rfl) ?_
      refine ARun.gpure (want := true) (.tt rfl) (fun hg89 => PureOp.move rfl (.tmp rfl)) rfl rfl (Nat.le_of_ble_eq_true rfl) rfl (Nat.le_of_ble_eq_true rfl) ?_
      refine ARun.gpure (want := true) (.tt rfl) (fun hg90 => PureOp.nilRef rfl (.gtmp rfl hg90)) rfl rfl (Nat.le_of_ble_eq_true rfl) rfl (Nat.le_of_ble_eq_true rfl) ?_
      refine ARun.gpure (want := true) (.tt rfl) (fun hg91 => PureOp.fieldRef rfl (.gtmp rfl hg91) vq_fi_49_3_3 (Nat.le_of_ble_eq_true rfl)) rfl rfl (Nat.le_of_ble_eq_true rfl) rfl (Nat.le_of_ble_eq_true rfl) ?_
      refine ARun.gpure (want := true) (.tt rfl) (fun hg92 => PureOp.loadRef rfl (.gtmp rfl hg92) vq_pl_47 (Nat.le_of_ble_eq_true rfl)) rfl rfl (Nat.le_of_ble_eq_true rfl) rfl (Nat.le_of_ble_eq_true rfl) ?_
      refine ARun.gpure (want := true) (.tt rfl) (fun hg93 => PureOp.move rfl (.tmp rfl)) rfl rfl (Nat.le_of_ble_eq_true rfl) rfl (Nat.le_of_ble_eq_true rfl) ?_
      refine ARun.gpure (want := true) (.tt rfl) (fun hg94 => PureOp.indexLst (i := t) rfl (.gtmp rfl hg94) vq_el_47_1 (.gtmp rfl hg94) rfl (by first | omega | (have q := hg94; simp only [Bool.cond_true_left, Bool.cond_false_right, Bool.not_eq_true', Bool.or_eq_false_iff, Bool.not_eq_false', Bool.and_eq_true, Bool.not_not, decide_eq_true_eq, decide_eq_false_iff_not, inB] at q; omega))) rfl rfl (Nat.le_of_ble_eq_true rfl) rfl (Nat.le_of_ble_eq_true rfl) ?_
      refine ARun.gpure (want := true) (.tt rfl) (fun hg95 => PureOp.loadRef rfl (.gtmp rfl hg95) vq_pl_107 (Nat.le_of_ble_eq_true rfl)) rfl rfl (Nat.le_of_ble_eq_true rfl) rfl (Nat.le_of_ble_eq_true rfl) ?_
      refine ARun.gpure (want := true) (.tt rfl) (fun hg96 => PureOp.move rfl (.tmp rfl)) rfl rfl (Nat.le_of_ble_eq_true rfl) rfl (Nat.le_of_ble_eq_true rfl) ?_
      refine ARun.gpure (want := true) (.tt rfl) (fun hg97 => PureOp.indexLst (i := f) rfl (.gtmp rfl hg97) vq_el_107_1 (.gtmp rfl hg97) rfl (by first | omega | (have q := hg97; simp only [Bool.cond_true_left, Bool.cond_false_right, Bool.not_eq_true', Bool.or_eq_false_iff, Bool.not_eq_false', Bool.and_eq_true, Bool.not_not, decide_eq_true_eq, decide_eq_false_iff_not, inB] at q; omega))) rfl rfl (Nat.le_of_ble_eq_true rfl) rfl (Nat.le_of_ble_eq_true rfl) ?_
      refine ARun.gpure (want := true) (.tt rfl) (fun hg98 => PureOp.loadRef rfl (.gtmp rfl hg98) vq_pl_4 (Nat.le_of_ble_eq_true rfl)) rfl rfl (Nat.le_of_ble_eq_true rfl) rfl (Nat.le_of_ble_eq_true rfl) ?_
      refine ARun.gpure (want := true) (.tt rfl) (fun hg99 => PureOp.not rfl (.gtmp rfl hg99)) rfl rfl (Nat.le_of_ble_eq_true rfl) rfl (Nat.le_of_ble_eq_true rfl) ?_
      refine ARun.pure (PureOp.pick rfl (.tmp rfl) (fun hp100 => .gtmp rfl hp100) (fun _ => .bool)) rfl rfl (Nat.le_of_ble_eq_true rfl) ?_
      refine ARun.pure (PureOp.assign rfl (.tmp rfl)) rfl rfl (Nat.le_of_ble_eq_true rfl) ?_
      refine ARun.nil ?_
      refine AW.ret (show ResL _ _ [.tmp 6] _ from resB rfl ?_)
      unfold isWayB atI atB
      rw [u3]
      have e0 : ((b.cWays.getD (f * b.cCoins.length + t) []).any fun x => !decide (0 ≤ x ∧ x ≤ 50)) = (b.cWays.getD (f * b.cCoins.length + t) []).any (fun x => !inB 0 50 x) := rfl
      have e1 : decide (0 ≤ (b.cFound.getD f []).getD t 0 ∧ (b.cFound.getD f []).getD t 0 ≤ 1000) = inB 0 1000 ((b.cFound.getD f []).getD t 0) := rfl
      rw [e0, e1]
      generalize b.cWays.getD (f * b.cCoins.length + t) [] = way at *
      have v1 : decide (way.length = 0) = decide ((way.length : Int) = 0) := decide_eq_decide.2 (by omega)
      have v2 : decide (way.length ≤ 39) = decide ((way.length : Int) ≤ 39) := decide_eq_decide.2 (by omega)
      have v3 : decide (way.length ≤ 40) = decide ((way.length : Int) ≤ 40) := decide_eq_decide.2 (by omega)
      rw [v1, v2, v3]
      revert hb1 hb75
      generalize way.any (fun x => !inB 0 50 x) = q
      generalize inB 0 1000 ((b.cFound.getD f []).getD t 0) = p1
      generalize decide ((b.cFound.getD f []).getD t 0 = 0) = p2
      generalize (b.cHeard.getD t []).getD f false = p3
      generalize decide (b.cKept.getD f 0 < 0) = p4
      generalize decide (b.cKept.getD t 0 < 0) = p5
      generalize decide ((way.length : Int) = 0) = p6
      generalize decide ((way.length : Int) ≤ 39) = p7
      generalize decide ((way.length : Int) ≤ 40) = p8
      generalize decide ((f : Int) = (t : Int)) = p9
      revert q p1 p2 p3 p4 p5 p6 p7 p8 p9
      decide
    · have _u := True.intro
      refine AW.skip ?_
      refine AW.seq ?_
      refine AW.seq ?_
      refine AW.region ?_
      refine ARun.pure (PureOp.move rfl (.tmp rfl)) rfl rfl (Nat.le_of_ble_eq_true rfl) ?_
      refine ARun.pure (PureOp.nilRef rfl (.tmp rfl)) rfl rfl (Nat.le_of_ble_eq_true rfl) ?_
      refine ARun.pure (PureOp.fieldRef rfl (.tmp rfl) vq_fi_49_2_2 (Nat.le_of_ble_eq_true rfl)) rfl rfl (Nat.le_of_ble_eq_true rfl) ?_
      refine ARun.pure (PureOp.loadRef rfl (.tmp rfl) vq_pl_22 (Nat.le_of_ble_eq_true rfl)) rfl rfl (Nat.le_of_ble_eq_true rfl) ?_
      refine ARun.pure (PureOp.move rfl (.tmp rfl)) rfl rfl (Nat.le_of_ble_eq_true rfl) ?_
      refine ARun.pure (PureOp.indexLst (i := t) rfl (.tmp rfl) vq_el_22_1 (.tmp rfl) rfl (by omega)) rfl rfl (Nat.le_of_ble_eq_true rfl) ?_
      refine ARun.pure (PureOp.loadRef rfl (.tmp rfl) vq_pl_3 (Nat.le_of_ble_eq_true rfl)) rfl rfl (Nat.le_of_ble_eq_true rfl) ?_
      refine ARun.pure (PureOp.intOp rfl (.tmp rfl) .int rfl) rfl rfl (Nat.le_of_ble_eq_true rfl) ?_
      refine ARun.pure (PureOp.move rfl (.tmp rfl)) rfl rfl (Nat.le_of_ble_eq_true rfl) ?_
      refine ARun.gpure (want := true) (.tt rfl) (fun hg102 => PureOp.move rfl (.tmp rfl)) rfl rfl (Nat.le_of_ble_eq_true rfl) rfl (Nat.le_of_ble_eq_true rfl) ?_
      refine ARun.gpure (want := true) (.tt rfl) (fun hg103 => PureOp.nilRef rfl (.gtmp rfl hg103)) rfl rfl (Nat.le_of_ble_eq_true rfl) rfl (Nat.le_of_ble_eq_true rfl) ?_
      refine ARun.gpure (want := true) (.tt rfl) (fun hg104 => PureOp.fieldRef rfl (.gtmp rfl hg104) vq_fi_49_4_4 (Nat.le_of_ble_eq_true rfl)) rfl rfl (Nat.le_of_ble_eq_true rfl) rfl (Nat.le_of_ble_eq_true rfl) ?_
      refine ARun.gpure (want := true) (.tt rfl) (fun hg105 => PureOp.loadRef rfl (.gtmp rfl hg105) vq_pl_25 (Nat.le_of_ble_eq_true rfl)) rfl rfl (Nat.le_of_ble_eq_true rfl) rfl (Nat.le_of_ble_eq_true rfl) ?_
      refine ARun.gpure (want := true) (.tt rfl) (fun hg106 => PureOp.move rfl (.tmp rfl)) rfl rfl (Nat.le_of_ble_eq_true rfl) rfl (Nat.le_of_ble_eq_true rfl) ?_
      refine ARun.gpure (want := true) (.tt rfl) (fun hg107 => PureOp.indexLst (i := f) rfl (.gtmp rfl hg107) vq_el_25_1 (.gtmp rfl hg107) rfl (by first | omega | (have q := hg107; simp only [Bool.cond_true_left, Bool.cond_false_right, Bool.not_eq_true', Bool.or_eq_false_iff, Bool.not_eq_false', Bool.and_eq_true, Bool.not_not, decide_eq_true_eq, decide_eq_false_iff_not, inB] at q; omega))) rfl rfl (Nat.le_of_ble_eq_true rfl) rfl (Nat.le_of_ble_eq_true rfl) ?_
      refine ARun.gpure (want := true) (.tt rfl) (fun hg108 => PureOp.loadRef rfl (.gtmp rfl hg108) vq_pl_22 (Nat.le_of_ble_eq_true rfl)) rfl rfl (Nat.le_of_ble_eq_true rfl) rfl (Nat.le_of_ble_eq_true rfl) ?_
      refine ARun.gpure (want := true) (.tt rfl) (fun hg109 => PureOp.move rfl (.tmp rfl)) rfl rfl (Nat.le_of_ble_eq_true rfl) rfl (Nat.le_of_ble_eq_true rfl) ?_
      refine ARun.gpure (want := true) (.tt rfl) (fun hg110 => PureOp.indexLst (i := t) rfl (.gtmp rfl hg110) vq_el_22_1 (.gtmp rfl hg110) rfl (by first | omega | (have q := hg110; simp only [Bool.cond_true_left, Bool.cond_false_right, Bool.not_eq_true', Bool.or_eq_false_iff, Bool.not_eq_false', Bool.and_eq_true, Bool.not_not, decide_eq_true_eq, decide_eq_false_iff_not, inB] at q; omega))) rfl rfl (Nat.le_of_ble_eq_true rfl) rfl (Nat.le_of_ble_eq_true rfl) ?_
      refine ARun.gpure (want := true) (.tt rfl) (fun hg111 => PureOp.loadRef rfl (.gtmp rfl hg111) vq_pl_3 (Nat.le_of_ble_eq_true rfl)) rfl rfl (Nat.le_of_ble_eq_true rfl) rfl (Nat.le_of_ble_eq_true rfl) ?_
      refine ARun.gpure (want := true) (.tt rfl) (fun hg112 => PureOp.intOp rfl (.gtmp rfl hg112) .int rfl) rfl rfl (Nat.le_of_ble_eq_true rfl) rfl (Nat.le_of_ble_eq_true rfl) ?_
      refine ARun.gpure (want := true) (.tt rfl) (fun hg113 => PureOp.move rfl (.gtmp rfl hg113)) rfl rfl (Nat.le_of_ble_eq_true rfl) rfl (Nat.le_of_ble_eq_true rfl) ?_
      refine ARun.gpure (want := false) (.gf rfl) (fun hg114 => PureOp.move rfl (.tmp rfl)) rfl rfl (Nat.le_of_ble_eq_true rfl) rfl (Nat.le_of_ble_eq_true rfl) ?_
      refine ARun.gpure (want := false) (.gf rfl) (fun hg115 => PureOp.nilRef rfl (.gtmp rfl hg115)) rfl rfl (Nat.le_of_ble_eq_true rfl) rfl (Nat.le_of_ble_eq_true rfl) ?_
      refine ARun.gpure (want := false) (.gf rfl) (fun hg116 => PureOp.fieldRef rfl (.gtmp rfl hg116) vq_fi_49_3_3 (Nat.le_of_ble_eq_true rfl)) rfl rfl (Nat.le_of_ble_eq_true rfl) rfl (Nat.le_of_ble_eq_true rfl) ?_
      refine ARun.gpure (want := false) (.gf rfl) (fun hg117 => PureOp.loadRef rfl (.gtmp rfl hg117) vq_pl_47 (Nat.le_of_ble_eq_true rfl)) rfl rfl (Nat.le_of_ble_eq_true rfl) rfl (Nat.le_of_ble_eq_true rfl) ?_
      refine ARun.gpure (want := false) (.gf rfl) (fun hg118 => PureOp.move rfl (.tmp rfl)) rfl rfl (Nat.le_of_ble_eq_true rfl) rfl (Nat.le_of_ble_eq_true rfl) ?_
      refine ARun.gpure (want := false) (.gf rfl) (fun hg119 => PureOp.indexLst (i := t) rfl (.gtmp rfl hg119) vq_el_47_1 (.gtmp rfl hg119) rfl (by first | omega | (have q := hg119; simp only [Bool.cond_true_left, Bool.cond_false_right, Bool.not_eq_true', Bool.or_eq_false_iff, Bool.not_eq_false', Bool.and_eq_true, Bool.not_not, decide_eq_true_eq, decide_eq_false_iff_not, inB] at q; omega))) rfl rfl (Nat.le_of_ble_eq_true rfl) rfl (Nat.le_of_ble_eq_true rfl) ?_
      refine ARun.gpure (want := false) (.gf rfl) (fun hg120 => PureOp.loadRef rfl (.gtmp rfl hg120) vq_pl_107 (Nat.le_of_ble_eq_true rfl)) rfl rfl (Nat.le_of_ble_eq_true rfl) rfl (Nat.le_of_ble_eq_true rfl) ?_
      refine ARun.gpure (want := false) (.gf rfl) (fun hg121 => PureOp.move rfl (.tmp rfl)) rfl rfl (Nat.le_of_ble_eq_true rfl) rfl (Nat.le_of_ble_eq_true rfl) ?_
      refine ARun.gpure (want := false) (.gf rfl) (fun hg122 => PureOp.indexLst (i := f) rfl (.gtmp rfl hg122) vq_el_107_1 (.gtmp rfl hg122) rfl (by first | omega | (have q := hg122; simp only [Bool.cond_true_left, Bool.cond_false_right, Bool.not_eq_true', Bool.or_eq_false_iff, Bool.not_eq_false', Bool.and_eq_true, Bool.not_not, decide_eq_true_eq, decide_eq_false_iff_not, inB] at q; omega))) rfl rfl (Nat.le_of_ble_eq_true rfl) rfl (Nat.le_of_ble_eq_true rfl) ?_
      refine ARun.gpure (want := false) (.gf rfl) (fun hg123 => PureOp.loadRef rfl (.gtmp rfl hg123) vq_pl_4 (Nat.le_of_ble_eq_true rfl)) rfl rfl (Nat.le_of_ble_eq_true rfl) rfl (Nat.le_of_ble_eq_true rfl) ?_
      refine ARun.gpure (want := true) (.tt rfl) (fun hg124 => PureOp.pick rfl (.gtmp rfl hg124) (fun _ => .bool) (fun hp126 => .gtmp rfl (and_mk hg124 (not_of hp126)))) rfl rfl (Nat.le_of_ble_eq_true rfl) rfl (Nat.le_of_ble_eq_true rfl) ?_
      refine ARun.pure (PureOp.pick rfl (.tmp rfl) (fun hp127 => .gtmp rfl hp127) (fun _ => .bool)) rfl rfl (Nat.le_of_ble_eq_true rfl) ?_
      refine ARun.nil ?_
      refine AW.cond (.tmp rfl) (fun hb129 => ?_) (fun hb129 => ?_)
      · have _u := True.intro
        refine AW.seq ?_
        refine AW.region ?_
        refine ARun.pure (PureOp.assign rfl .bool) rfl rfl (Nat.le_of_ble_eq_true rfl) ?_
        refine ARun.nil ?_
        refine AW.ret (show ResL _ _ [.tmp 6] _ from resB rfl ?_)
        unfold isWayB atI atB
        rw [u3]
        have e0 : ((b.cWays.getD (f * b.cCoins.length + t) []).any fun x => !decide (0 ≤ x ∧ x ≤ 50)) = (b.cWays.getD (f * b.cCoins.length + t) []).any (fun x => !inB 0 50 x) := rfl
        have e1 : decide (0 ≤ (b.cFound.getD f []).getD t 0 ∧ (b.cFound.getD f []).getD t 0 ≤ 1000) = inB 0 1000 ((b.cFound.getD f []).getD t 0) := rfl
        rw [e0, e1]
        generalize b.cWays.getD (f * b.cCoins.length + t) [] = way at *
        have v1 : decide (way.length = 0) = decide ((way.length : Int) = 0) := decide_eq_decide.2 (by omega)
        have v2 : decide (way.length ≤ 39) = decide ((way.length : Int) ≤ 39) := decide_eq_decide.2 (by omega)
        have v3 : decide (way.length ≤ 40) = decide ((way.length : Int) ≤ 40) := decide_eq_decide.2 (by omega)
        rw [v1, v2, v3]
        revert hb1 hb75 hb129
        generalize way.any (fun x => !inB 0 50 x) = q
        generalize inB 0 1000 ((b.cFound.getD f []).getD t 0) = p1
        generalize decide ((b.cFound.getD f []).getD t 0 = 0) = p2
        generalize (b.cHeard.getD t []).getD f false = p3
        generalize decide (b.cKept.getD f 0 < 0) = p4
        generalize decide (b.cKept.getD t 0 < 0) = p5
        generalize decide ((way.length : Int) = 0) = p6
        generalize decide ((way.length : Int) ≤ 39) = p7
        generalize decide ((way.length : Int) ≤ 40) = p8
        generalize decide ((f : Int) = (t : Int)) = p9
        revert q p1 p2 p3 p4 p5 p6 p7 p8 p9
        decide
      · have _u := True.intro
        refine AW.skip ?_
        refine AW.seq ?_
        refine AW.region ?_
        refine ARun.pure (PureOp.move rfl (.tmp rfl)) rfl rfl (Nat.le_of_ble_eq_true rfl) ?_
        refine ARun.pure (PureOp.lenLst rfl (.tmp rfl) vq_sl_22) rfl rfl (Nat.le_of_ble_eq_true rfl) ?_
        refine ARun.pure (PureOp.move rfl (.tmp rfl)) rfl rfl (Nat.le_of_ble_eq_true rfl) ?_
        refine ARun.pure (PureOp.intOp rfl (.tmp rfl) (.tmp rfl) rfl) rfl rfl (Nat.le_of_ble_eq_true rfl) ?_
        refine ARun.pure (PureOp.move rfl (.tmp rfl)) rfl rfl (Nat.le_of_ble_eq_true rfl) ?_
        refine ARun.gpure (want := true) (.tt rfl) (fun hg130 => PureOp.move rfl (.tmp rfl)) rfl rfl (Nat.le_of_ble_eq_true rfl) rfl (Nat.le_of_ble_eq_true rfl) ?_
        refine ARun.gpure (want := true) (.tt rfl) (fun hg131 => PureOp.nilRef rfl (.gtmp rfl hg131)) rfl rfl (Nat.le_of_ble_eq_true rfl) rfl (Nat.le_of_ble_eq_true rfl) ?_
        refine ARun.gpure (want := true) (.tt rfl) (fun hg132 => PureOp.fieldRef rfl (.gtmp rfl hg132) vq_fi_49_4_4 (Nat.le_of_ble_eq_true rfl)) rfl rfl (Nat.le_of_ble_eq_true rfl) rfl (Nat.le_of_ble_eq_true rfl) ?_
        refine ARun.gpure (want := true) (.tt rfl) (fun hg133 => PureOp.loadRef rfl (.gtmp rfl hg133) vq_pl_25 (Nat.le_of_ble_eq_true rfl)) rfl rfl (Nat.le_of_ble_eq_true rfl) rfl (Nat.le_of_ble_eq_true rfl) ?_
        refine ARun.gpure (want := true) (.tt rfl) (fun hg134 => PureOp.move rfl (.tmp rfl)) rfl rfl (Nat.le_of_ble_eq_true rfl) rfl (Nat.le_of_ble_eq_true rfl) ?_
        refine ARun.gpure (want := true) (.tt rfl) (fun hg135 => PureOp.indexLst (i := f) rfl (.gtmp rfl hg135) vq_el_25_1 (.gtmp rfl hg135) rfl (by first | omega | (have q := hg135; simp only [Bool.cond_true_left, Bool.cond_false_right, Bool.not_eq_true', Bool.or_eq_false_iff, Bool.not_eq_false', Bool.and_eq_true, Bool.not_not, decide_eq_true_eq, decide_eq_false_iff_not, inB] at q; omega))) rfl rfl (Nat.le_of_ble_eq_true rfl) rfl (Nat.le_of_ble_eq_true rfl) ?_
        refine ARun.gpure (want := true) (.tt rfl) (fun hg136 => PureOp.loadRef rfl (.gtmp rfl hg136) vq_pl_22 (Nat.le_of_ble_eq_true rfl)) rfl rfl (Nat.le_of_ble_eq_true rfl) rfl (Nat.le_of_ble_eq_true rfl) ?_
        refine ARun.gpure (want := true) (.tt rfl) (fun hg137 => PureOp.move rfl (.tmp rfl)) rfl rfl (Nat.le_of_ble_eq_true rfl) rfl (Nat.le_of_ble_eq_true rfl) ?_
        refine ARun.gpure (want := true) (.tt rfl) (fun hg138 => PureOp.indexLst (i := t) rfl (.gtmp rfl hg138) vq_el_22_1 (.gtmp rfl hg138) rfl (by first | omega | (have q := hg138; simp only [Bool.cond_true_left, Bool.cond_false_right, Bool.not_eq_true', Bool.or_eq_false_iff, Bool.not_eq_false', Bool.and_eq_true, Bool.not_not, decide_eq_true_eq, decide_eq_false_iff_not, inB] at q; omega))) rfl rfl (Nat.le_of_ble_eq_true rfl) rfl (Nat.le_of_ble_eq_true rfl) ?_
        refine ARun.gpure (want := true) (.tt rfl) (fun hg139 => PureOp.loadRef rfl (.gtmp rfl hg139) vq_pl_3 (Nat.le_of_ble_eq_true rfl)) rfl rfl (Nat.le_of_ble_eq_true rfl) rfl (Nat.le_of_ble_eq_true rfl) ?_
        refine ARun.gpure (want := true) (.tt rfl) (fun hg140 => PureOp.call rfl (v_within ((b.cFound.getD f []).getD t 0) 0 1000) ⟨⟨_, (.gtmp rfl hg140), .int⟩, ⟨_, .int, .int⟩, ⟨_, .int, .int⟩, trivial⟩ vq_ca_59 trivial) rfl rfl (Nat.le_of_ble_eq_true rfl) rfl (Nat.le_of_ble_eq_true rfl) ?_
        refine ARun.pure (PureOp.pick rfl (.tmp rfl) (fun hp141 => .gtmp rfl hp141) (fun _ => .bool)) rfl rfl (Nat.le_of_ble_eq_true rfl) ?_
        refine ARun.pure (PureOp.move rfl (.tmp rfl)) rfl rfl (Nat.le_of_ble_eq_true rfl) ?_
        refine ARun.gpure (want := true) (.tt rfl) (fun hg143 => PureOp.move rfl (.tmp rfl)) rfl rfl (Nat.le_of_ble_eq_true rfl) rfl (Nat.le_of_ble_eq_true rfl) ?_
        refine ARun.gpure (want := true) (.tt rfl) (fun hg144 => PureOp.call rfl (v_ContainsFunc_Int (b.cWays.getD (f * b.cCoins.length + t) []) 151 0 (fun _ => .con undef) (fun x => !inB 0 50 x) (fun j h => absurd h (by omega)) vq_ca_151 (fun k hk => v_isWay1 _)) ⟨⟨_, (.gtmp rfl hg144), .lst⟩, ⟨_, .func, (.fn (fun j h => absurd h (by omega)))⟩, trivial⟩ vq_ca_60 trivial) rfl rfl (Nat.le_of_ble_eq_true rfl) rfl (Nat.le_of_ble_eq_true rfl) ?_
        refine ARun.gpure (want := true) (.tt rfl) (fun hg145 => PureOp.not rfl (.gtmp rfl hg145)) rfl rfl (Nat.le_of_ble_eq_true rfl) rfl (Nat.le_of_ble_eq_true rfl) ?_
        refine ARun.pure (PureOp.pick rfl (.tmp rfl) (fun hp146 => .gtmp rfl hp146) (fun _ => .bool)) rfl rfl (Nat.le_of_ble_eq_true rfl) ?_
        refine ARun.pure (PureOp.assign rfl (.tmp rfl)) rfl rfl (Nat.le_of_ble_eq_true rfl) ?_
        refine ARun.nil ?_
        refine AW.ret (show ResL _ _ [.tmp 6] _ from resB rfl ?_)
        unfold isWayB atI atB
        rw [u3]
        have e0 : ((b.cWays.getD (f * b.cCoins.length + t) []).any fun x => !decide (0 ≤ x ∧ x ≤ 50)) = (b.cWays.getD (f * b.cCoins.length + t) []).any (fun x => !inB 0 50 x) := rfl
        have e1 : decide (0 ≤ (b.cFound.getD f []).getD t 0 ∧ (b.cFound.getD f []).getD t 0 ≤ 1000) = inB 0 1000 ((b.cFound.getD f []).getD t 0) := rfl
        rw [e0, e1]
        generalize b.cWays.getD (f * b.cCoins.length + t) [] = way at *
        have v1 : decide (way.length = 0) = decide ((way.length : Int) = 0) := decide_eq_decide.2 (by omega)
        have v2 : decide (way.length ≤ 39) = decide ((way.length : Int) ≤ 39) := decide_eq_decide.2 (by omega)
        have v3 : decide (way.length ≤ 40) = decide ((way.length : Int) ≤ 40) := decide_eq_decide.2 (by omega)
        rw [v1, v2, v3]
        revert hb1 hb75 hb129
        generalize way.any (fun x => !inB 0 50 x) = q
        generalize inB 0 1000 ((b.cFound.getD f []).getD t 0) = p1
        generalize decide ((b.cFound.getD f []).getD t 0 = 0) = p2
        generalize (b.cHeard.getD t []).getD f false = p3
        generalize decide (b.cKept.getD f 0 < 0) = p4
        generalize decide (b.cKept.getD t 0 < 0) = p5
        generalize decide ((way.length : Int) = 0) = p6
        generalize decide ((way.length : Int) ≤ 39) = p7
        generalize decide ((way.length : Int) ≤ 40) = p8
        generalize decide ((f : Int) = (t : Int)) = p9
        revert q p1 p2 p3 p4 p5 p6 p7 p8 p9
        decide

theorem v_isBank (b : GBank) : Fn Try.prog 92 [.agg [.lst 1 b.cCoins.length (fun i0 _ => .int .i64 (b.cCoins.getD i0 0)), .lst 1 b.cWays.length (fun i0 _ => .lst 1 ((b.cWays.getD i0 []).length) (fun i1 _ => .int .i64 ((b.cWays.getD i0 []).getD i1 0))), .lst 1 b.cKept.length (fun i0 _ => .int .i64 (b.cKept.getD i0 0)), .lst 1 b.cHeard.length (fun i0 _ => .lst 1 ((b.cHeard.getD i0 []).length) (fun i1 _ => .bool ((b.cHeard.getD i0 []).getD i1 false))), .lst 1 b.cFound.length (fun i0 _ => .lst 1 ((b.cFound.getD i0 []).length) (fun i1 _ => .int .i64 ((b.cFound.getD i0 []).getD i1 0)))]] (.one (.bool (isBankB b))) := by
  refine Fn.of_body (fn := Try.f92) Try.func92 rfl (Nat.le_of_ble_eq_true rfl) trivial ?_
  intro w0
  show AW _ 98 _ _ _ _
  refine AW.seq ?_
  refine AW.region ?_
  refine ARun.box (id := 0) rfl (.tmp rfl) (SV.cells_of (by exact ⟨trivial, trivial, trivial, trivial, trivial, trivial⟩)) ⟨rfl, (by repeat first | exact trivial | refine ⟨by decide, by first | rfl | (intro i j; first | rfl | (dsimp only; split <;> rfl)), ?_⟩)⟩ rfl rfl rfl (Nat.le_of_ble_eq_true rfl) ?_
  refine ARun.pure (PureOp.assign rfl .bool) rfl rfl (Nat.le_of_ble_eq_true rfl) ?_
  refine ARun.nil ?_
  refine AW.seq ?_
  refine AW.region ?_
  refine ARun.pure (PureOp.fieldPtr rfl (.tmp rfl) vq_fi_49_0_0) rfl rfl (Nat.le_of_ble_eq_true rfl) ?_
  refine ARun.pure (PureOp.loadPtr rfl (.tmp rfl) vq_pl_22 rfl rfl (Nat.le_of_ble_eq_true rfl) (Nat.le_of_ble_eq_true rfl)) rfl rfl (Nat.le_of_ble_eq_true rfl) ?_
  refine ARun.pure (PureOp.lenLst rfl (.tmp rfl) vq_sl_22) rfl rfl (Nat.le_of_ble_eq_true rfl) ?_
  refine ARun.pure (PureOp.assign rfl (.tmp rfl)) rfl rfl (Nat.le_of_ble_eq_true rfl) ?_
  refine ARun.nil ?_
  refine AW.seq ?_
  refine AW.seq ?_
  refine AW.region ?_
  refine ARun.pure (PureOp.move rfl (.tmp rfl)) rfl rfl (Nat.le_of_ble_eq_true rfl) ?_
  refine ARun.pure (PureOp.call rfl (v_within (b.cCoins.length : Int) 1 5) ⟨⟨_, (.tmp rfl), .int⟩, ⟨_, .int, .int⟩, ⟨_, .int, .int⟩, trivial⟩ vq_ca_59 trivial) rfl rfl (Nat.le_of_ble_eq_true rfl) ?_
  refine ARun.pure (PureOp.not rfl (.tmp rfl)) rfl rfl (Nat.le_of_ble_eq_true rfl) ?_
  refine ARun.pure (PureOp.move rfl (.tmp rfl)) rfl rfl (Nat.le_of_ble_eq_true rfl) ?_
  refine ARun.gpure (want := false) (.tf rfl) (fun hg1 => PureOp.fieldPtr rfl (.tmp rfl) vq_fi_49_1_1) rfl rfl (Nat.le_of_ble_eq_true rfl) rfl (Nat.le_of_ble_eq_true rfl) ?_
  refine ARun.gpure (want := false) (.tf rfl) (fun hg2 => PureOp.loadPtr rfl (.gtmp rfl hg2) vq_pl_25 rfl rfl (Nat.le_of_ble_eq_true rfl) (Nat.le_of_ble_eq_true rfl)) rfl rfl (Nat.le_of_ble_eq_true rfl) rfl (Nat.le_of_ble_eq_true rfl) ?_
  refine ARun.gpure (want := false) (.tf rfl) (fun hg3 => PureOp.lenLst rfl (.gtmp rfl hg3) vq_sl_25) rfl rfl (Nat.le_of_ble_eq_true rfl) rfl (Nat.le_of_ble_eq_true rfl) ?_
  refine ARun.gpure (want := false) (.tf rfl) (fun hg4 => PureOp.move rfl (.tmp rfl)) rfl rfl (Nat.le_of_ble_eq_true rfl) rfl (Nat.le_of_ble_eq_true rfl) ?_
  refine ARun.gpure (want := false) (.tf rfl) (fun hg5 => PureOp.move rfl (.tmp rfl)) rfl rfl (Nat.le_of_ble_eq_true rfl) rfl (Nat.le_of_ble_eq_true rfl) ?_
  refine ARun.gpure (want := false) (.tf rfl) (fun hg6 => PureOp.mul (c := ((b.cCoins.length * b.cCoins.length : Nat) : Int)) rfl (.gtmp rfl hg6) (.gtmp rfl hg6) (wrap_sq (by have q := hg6; simp only [Bool.cond_true_left, Bool.cond_false_right, Bool.not_eq_true', Bool.or_eq_false_iff, Bool.not_eq_false', Bool.and_eq_true, Bool.not_not, decide_eq_true_eq, decide_eq_false_iff_not, inB] at q; omega))) rfl rfl (Nat.le_of_ble_eq_true rfl) rfl (Nat.le_of_ble_eq_true rfl) ?_
  refine ARun.gpure (want := false) (.tf rfl) (fun hg7 => PureOp.intOp rfl (.gtmp rfl hg7) (.gtmp rfl hg7) rfl) rfl rfl (Nat.le_of_ble_eq_true rfl) rfl (Nat.le_of_ble_eq_true rfl) ?_
  refine ARun.pure (PureOp.pick rfl (.tmp rfl) (fun _ => .bool) (fun hp9 => .gtmp rfl (not_of hp9))) rfl rfl (Nat.le_of_ble_eq_true rfl) ?_
  refine ARun.pure (PureOp.move rfl (.tmp rfl)) rfl rfl (Nat.le_of_ble_eq_true rfl) ?_
  refine ARun.gpure (want := false) (.tf rfl) (fun hg10 => PureOp.fieldPtr rfl (.tmp rfl) vq_fi_49_2_2) rfl rfl (Nat.le_of_ble_eq_true rfl) rfl (Nat.le_of_ble_eq_true rfl) ?_
  refine ARun.gpure (want := false) (.tf rfl) (fun hg11 => PureOp.loadPtr rfl (.gtmp rfl hg11) vq_pl_22 rfl rfl (Nat.le_of_ble_eq_true rfl) (Nat.le_of_ble_eq_true rfl)) rfl rfl (Nat.le_of_ble_eq_true rfl) rfl (Nat.le_of_ble_eq_true rfl) ?_
  refine ARun.gpure (want := false) (.tf rfl) (fun hg12 => PureOp.lenLst rfl (.gtmp rfl hg12) vq_sl_22) rfl rfl (Nat.le_of_ble_eq_true rfl) rfl (Nat.le_of_ble_eq_true rfl) ?_
  refine ARun.gpure (want := false) (.tf rfl) (fun hg13 => PureOp.move rfl (.tmp rfl)) rfl rfl (Nat.le_of_ble_eq_true rfl) rfl (Nat.le_of_ble_eq_true rfl) ?_
  refine ARun.gpure (want := false) (.tf rfl) (fun hg14 => PureOp.intOp rfl (.gtmp rfl hg14) (.gtmp rfl hg14) rfl) rfl rfl (Nat.le_of_ble_eq_true rfl) rfl (Nat.le_of_ble_eq_true rfl) ?_
  refine ARun.pure (PureOp.pick rfl (.tmp rfl) (fun _ => .bool) (fun hp16 => .gtmp rfl (not_of hp16))) rfl rfl (Nat.le_of_ble_eq_true rfl) ?_
  refine ARun.pure (PureOp.move rfl (.tmp rfl)) rfl rfl (Nat.le_of_ble_eq_true rfl) ?_
  refine ARun.gpure (want := false) (.tf rfl) (fun hg17 => PureOp.fieldPtr rfl (.tmp rfl) vq_fi_49_3_3) rfl rfl (Nat.le_of_ble_eq_true rfl) rfl (Nat.le_of_ble_eq_true rfl) ?_
  refine ARun.gpure (want := false) (.tf rfl) (fun hg18 => PureOp.loadPtr rfl (.gtmp rfl hg18) vq_pl_47 rfl rfl (Nat.le_of_ble_eq_true rfl) (Nat.le_of_ble_eq_true rfl)) rfl rfl (Nat.le_of_ble_eq_true rfl) rfl (Nat.le_of_ble_eq_true rfl) ?_
  refine ARun.gpure (want := false) (.tf rfl) (fun hg19 => PureOp.lenLst rfl (.gtmp rfl hg19) vq_sl_47) rfl rfl (Nat.le_of_ble_eq_true rfl) rfl (Nat.le_of_ble_eq_true rfl) ?_
  refine ARun.gpure (want := false) (.tf rfl) (fun hg20 => PureOp.move rfl (.tmp rfl)) rfl rfl (Nat.le_of_ble_eq_true rfl) rfl (Nat.le_of_ble_eq_true rfl) ?_
  refine ARun.gpure (want := false) (.tf rfl) (fun hg21 => PureOp.intOp rfl (.gtmp rfl hg21) (.gtmp rfl hg21) rfl) rfl rfl (Nat.le_of_ble_eq_true rfl) rfl (Nat.le_of_ble_eq_true rfl) ?_
  refine ARun.pure (PureOp.pick rfl (.tmp rfl) (fun _ => .bool) (fun hp23 => .gtmp rfl (not_of hp23))) rfl rfl (Nat.le_of_ble_eq_true rfl) ?_
  refine ARun.pure (PureOp.move rfl (.tmp rfl)) rfl rfl (Nat.le_of_ble_eq_true rfl) ?_
  refine ARun.gpure (want := false) (.tf rfl) (fun hg24 => PureOp.fieldPtr rfl (.tmp rfl) vq_fi_49_4_4) rfl rfl (Nat.le_of_ble_eq_true rfl) rfl (Nat.le_of_ble_eq_true rfl) ?_
  refine ARun.gpure (want := false) (.tf rfl) (fun hg25 => PureOp.loadPtr rfl (.gtmp rfl hg25) vq_pl_25 rfl rfl (Nat.le_of_ble_eq_true rfl) (Nat.le_of_ble_eq_true rfl)) rfl rfl (Nat.le_of_ble_eq_true rfl) rfl (Nat.le_of_ble_eq_true rfl) ?_
  refine ARun.gpure (want := false) (.tf rfl) (fun hg26 => PureOp.lenLst rfl (.gtmp rfl hg26) vq_sl_25) rfl rfl (Nat.le_of_ble_eq_true rfl) rfl (Nat.le_of_ble_eq_true rfl) ?_
  refine ARun.gpure (want := false) (.tf rfl) (fun hg27 => PureOp.move rfl (.tmp rfl)) rfl rfl (Nat.le_of_ble_eq_true rfl) rfl (Nat.le_of_ble_eq_true rfl) ?_
  refine ARun.gpure (want := false) (.tf rfl) (fun hg28 => PureOp.intOp rfl (.gtmp rfl hg28) (.gtmp rfl hg28) rfl) rfl rfl (Nat.le_of_ble_eq_true rfl) rfl (Nat.le_of_ble_eq_true rfl) ?_
  refine ARun.pure (PureOp.pick rfl (.tmp rfl) (fun _ => .bool) (fun hp30 => .gtmp rfl (not_of hp30))) rfl rfl (Nat.le_of_ble_eq_true rfl) ?_
  refine ARun.nil ?_
  refine AW.cond (.tmp rfl) (fun hb31 => ?_) (fun hb31 => ?_)
  · have _u := True.intro
    refine AW.seq ?_
    refine AW.region ?_
    refine ARun.pure (PureOp.assign rfl .bool) rfl rfl (Nat.le_of_ble_eq_true rfl) ?_
    refine ARun.nil ?_
    refine AW.ret (show ResL _ _ [.tmp 2] _ from resB rfl ?_)
    have hf : headI b = false := by
      rw [← Bool.not_eq_true]
      intro hh
      simp only [headI, Bool.and_eq_true, decide_eq_true_eq] at hh
      obtain ⟨g0, g2, g3, g5, g6⟩ := hh
      have e0 : inB 1 5 (b.cCoins.length : Int) = true := by simp only [inB, decide_eq_true_eq]; exact g0
      rw [e0] at hb31
      simp only [Bool.cond_true_left, Bool.or_eq_true, Bool.not_eq_true', decide_eq_true_eq, decide_eq_false_iff_not] at hb31
      simp only [Bool.true_eq_false, false_or, or_false] at hb31
      omega
    unfold isBankB
    rw [hf]; rfl
  · have _u := True.intro
    simp only [Bool.cond_true_left, Bool.or_eq_false_iff, Bool.not_eq_false', decide_eq_true_eq, decide_eq_false_iff_not] at hb31
    obtain ⟨⟨⟨⟨q0, q2⟩, q3⟩, q5⟩, q6⟩ := hb31
    have hn5 : b.cCoins.length ≤ 5 := by have := (inB_true q0).2; omega
    have q2' : b.cWays.length = b.cCoins.length * b.cCoins.length := by omega
    have q3' : b.cKept.length = b.cCoins.length := by omega
    have q5' : b.cHeard.length = b.cCoins.length := by omega
    have q6' : b.cFound.length = b.cCoins.length := by omega
    have hH : headI b = true := by
      simp only [headI, Bool.and_eq_true, decide_eq_true_eq]
      exact ⟨inB_true q0, q2', q3', q5', q6'⟩
    clear q0 q2 q3 q5 q6
    refine AW.skip ?_
    refine AW.seq ?_
    refine AW.seq ?_
    refine AW.region ?_
    refine ARun.pure (PureOp.move rfl (.tmp rfl)) rfl rfl (Nat.le_of_ble_eq_true rfl) ?_
    refine ARun.pure (PureOp.move rfl .int) rfl rfl (Nat.le_of_ble_eq_true rfl) ?_
    refine ARun.nil ?_
    refine AW.block ?_
    refine AW.loop (ι := Nat) (fun i => ⟨[(1, .one (.ptr 0 5 0 0)), (3, .one (.int .i64 (b.cCoins.length : Int))), (43, .one (.int .i64 (b.cCoins.length : Int))), (44, .one (.int .i64 (i : Int)))], [(0, .cells [.lst 1 b.cCoins.length (fun i0 _ => .int .i64 (b.cCoins.getD i0 0)), .lst 1 b.cWays.length (fun i0 _ => .lst 1 ((b.cWays.getD i0 []).length) (fun i1 _ => .int .i64 ((b.cWays.getD i0 []).getD i1 0))), .lst 1 b.cKept.length (fun i0 _ => .int .i64 (b.cKept.getD i0 0)), .lst 1 b.cHeard.length (fun i0 _ => .lst 1 ((b.cHeard.getD i0 []).length) (fun i1 _ => .bool ((b.cHeard.getD i0 []).getD i1 false))), .lst 1 b.cFound.length (fun i0 _ => .lst 1 ((b.cFound.getD i0 []).length) (fun i1 _ => .int .i64 ((b.cFound.getD i0 []).getD i1 0)))])]⟩) (fun i => i ≤ b.cCoins.length ∧ ∀ j, j < i → rowI b j = true) (fun i => b.cCoins.length - i) 0 ⟨Nat.zero_le _, fun j hj => absurd hj (by omega)⟩ ⟨⟨⟨_, rfl, rfl⟩, ⟨_, rfl, rfl⟩, ⟨_, rfl, rfl⟩, ⟨_, rfl, rfl⟩, trivial⟩, HeapLe.one rfl trivial⟩ ?_
    intro i hI
    obtain ⟨hi, hrows⟩ := hI
    refine AW.seq ?_
    refine AW.region ?_
    refine ARun.pure (PureOp.intOp rfl (.tmp rfl) (.tmp rfl) rfl) rfl rfl (Nat.le_of_ble_eq_true rfl) ?_
    refine ARun.nil ?_
    refine AW.seq ?_
    refine AW.cond (.tmp rfl) (fun hb32 => ?_) (fun hb32 => ?_)
    · have _u := True.intro
      replace hb32 := of_decide_eq_true hb32
      have hil : i < b.cCoins.length := by omega
      have i0 : i < b.cCoins.length := by omega
      have i1 : i < b.cHeard.length := by omega
      have i2 : i < b.cFound.length := by omega
      have i3 : i < b.cKept.length := by omega
      refine AW.skip ?_
      refine AW.seq ?_
      refine AW.block ?_
      refine AW.seq ?_
      refine AW.region ?_
      refine ARun.pure (PureOp.move rfl (.tmp rfl)) rfl rfl (Nat.le_of_ble_eq_true rfl) ?_
      refine ARun.pure (PureOp.assign rfl (.tmp rfl)) rfl rfl (Nat.le_of_ble_eq_true rfl) ?_
      refine ARun.nil ?_
      refine AW.seq ?_
      refine AW.region ?_
      refine ARun.pure (PureOp.fieldPtr rfl (.tmp rfl) vq_fi_49_0_0) rfl rfl (Nat.le_of_ble_eq_true rfl) ?_
      refine ARun.pure (PureOp.loadPtr rfl (.tmp rfl) vq_pl_22 rfl rfl (Nat.le_of_ble_eq_true rfl) (Nat.le_of_ble_eq_true rfl)) rfl rfl (Nat.le_of_ble_eq_true rfl) ?_
      refine ARun.pure (PureOp.move rfl (.tmp rfl)) rfl rfl (Nat.le_of_ble_eq_true rfl) ?_
      refine ARun.pure (PureOp.indexLst (i := i) rfl (.tmp rfl) vq_el_22_1 (.tmp rfl) rfl (by omega)) rfl rfl (Nat.le_of_ble_eq_true rfl) ?_
      refine ARun.pure (PureOp.loadRef rfl (.tmp rfl) vq_pl_3 (Nat.le_of_ble_eq_true rfl)) rfl rfl (Nat.le_of_ble_eq_true rfl) ?_
      refine ARun.pure (PureOp.call rfl (v_within (b.cCoins.getD i 0) 0 1000) ⟨⟨_, (.tmp rfl), .int⟩, ⟨_, .int, .int⟩, ⟨_, .int, .int⟩, trivial⟩ vq_ca_59 trivial) rfl rfl (Nat.le_of_ble_eq_true rfl) ?_
      refine ARun.pure (PureOp.not rfl (.tmp rfl)) rfl rfl (Nat.le_of_ble_eq_true rfl) ?_
      refine ARun.pure (PureOp.move rfl (.tmp rfl)) rfl rfl (Nat.le_of_ble_eq_true rfl) ?_
      refine ARun.gpure (want := false) (.tf rfl) (fun hg33 => PureOp.fieldPtr rfl (.tmp rfl) vq_fi_49_2_2) rfl rfl (Nat.le_of_ble_eq_true rfl) rfl (Nat.le_of_ble_eq_true rfl) ?_
      refine ARun.gpure (want := false) (.tf rfl) (fun hg34 => PureOp.loadPtr rfl (.gtmp rfl hg34) vq_pl_22 rfl rfl (Nat.le_of_ble_eq_true rfl) (Nat.le_of_ble_eq_true rfl)) rfl rfl (Nat.le_of_ble_eq_true rfl) rfl (Nat.le_of_ble_eq_true rfl) ?_
      refine ARun.gpure (want := false) (.tf rfl) (fun hg35 => PureOp.move rfl (.tmp rfl)) rfl rfl (Nat.le_of_ble_eq_true rfl) rfl (Nat.le_of_ble_eq_true rfl) ?_
      refine ARun.gpure (want := false) (.tf rfl) (fun hg36 => PureOp.indexLst (i := i) rfl (.gtmp rfl hg36) vq_el_22_1 (.gtmp rfl hg36) rfl (by first | omega | (have q := hg36; simp only [Bool.cond_true_left, Bool.cond_false_right, Bool.not_eq_true', Bool.or_eq_false_iff, Bool.not_eq_false', Bool.and_eq_true, Bool.not_not, decide_eq_true_eq, decide_eq_false_iff_not, inB] at q; omega))) rfl rfl (Nat.le_of_ble_eq_true rfl) rfl (Nat.le_of_ble_eq_true rfl) ?_
      refine ARun.gpure (want := false) (.tf rfl) (fun hg37 => PureOp.loadRef rfl (.gtmp rfl hg37) vq_pl_3 (Nat.le_of_ble_eq_true rfl)) rfl rfl (Nat.le_of_ble_eq_true rfl) rfl (Nat.le_of_ble_eq_true rfl) ?_
      refine ARun.gpure (want := false) (.tf rfl) (fun hg38 => PureOp.call rfl (v_within (b.cKept.getD i 0) (-1) 1000) ⟨⟨_, (.gtmp rfl hg38), .int⟩, ⟨_, .int, .int⟩, ⟨_, .int, .int⟩, trivial⟩ vq_ca_59 trivial) rfl rfl (Nat.le_of_ble_eq_true rfl) rfl (Nat.le_of_ble_eq_true rfl) ?_
      refine ARun.gpure (want := false) (.tf rfl) (fun hg39 => PureOp.not rfl (.gtmp rfl hg39)) rfl rfl (Nat.le_of_ble_eq_true rfl) rfl (Nat.le_of_ble_eq_true rfl) ?_
      refine ARun.pure (PureOp.pick rfl (.tmp rfl) (fun _ => .bool) (fun hp41 => .gtmp rfl (not_of hp41))) rfl rfl (Nat.le_of_ble_eq_true rfl) ?_
      refine ARun.pure (PureOp.move rfl (.tmp rfl)) rfl rfl (Nat.le_of_ble_eq_true rfl) ?_
      refine ARun.gpure (want := false) (.tf rfl) (fun hg42 => PureOp.fieldPtr rfl (.tmp rfl) vq_fi_49_3_3) rfl rfl (Nat.le_of_ble_eq_true rfl) rfl (Nat.le_of_ble_eq_true rfl) ?_
      refine ARun.gpure (want := false) (.tf rfl) (fun hg43 => PureOp.loadPtr rfl (.gtmp rfl hg43) vq_pl_47 rfl rfl (Nat.le_of_ble_eq_true rfl) (Nat.le_of_ble_eq_true rfl)) rfl rfl (Nat.le_of_ble_eq_true rfl) rfl (Nat.le_of_ble_eq_true rfl) ?_
      refine ARun.gpure (want := false) (.tf rfl) (fun hg44 => PureOp.move rfl (.tmp rfl)) rfl rfl (Nat.le_of_ble_eq_true rfl) rfl (Nat.le_of_ble_eq_true rfl) ?_
      refine ARun.gpure (want := false) (.tf rfl) (fun hg45 => PureOp.indexLst (i := i) rfl (.gtmp rfl hg45) vq_el_47_1 (.gtmp rfl hg45) rfl (by first | omega | (have q := hg45; simp only [Bool.cond_true_left, Bool.cond_false_right, Bool.not_eq_true', Bool.or_eq_false_iff, Bool.not_eq_false', Bool.and_eq_true, Bool.not_not, decide_eq_true_eq, decide_eq_false_iff_not, inB] at q; omega))) rfl rfl (Nat.le_of_ble_eq_true rfl) rfl (Nat.le_of_ble_eq_true rfl) ?_
      refine ARun.gpure (want := false) (.tf rfl) (fun hg46 => PureOp.loadRef rfl (.gtmp rfl hg46) vq_pl_107 (Nat.le_of_ble_eq_true rfl)) rfl rfl (Nat.le_of_ble_eq_true rfl) rfl (Nat.le_of_ble_eq_true rfl) ?_
      refine ARun.gpure (want := false) (.tf rfl) (fun hg47 => PureOp.lenLst rfl (.gtmp rfl hg47) vq_sl_107) rfl rfl (Nat.le_of_ble_eq_true rfl) rfl (Nat.le_of_ble_eq_true rfl) ?_
      refine ARun.gpure (want := false) (.tf rfl) (fun hg48 => PureOp.move rfl (.tmp rfl)) rfl rfl (Nat.le_of_ble_eq_true rfl) rfl (Nat.le_of_ble_eq_true rfl) ?_
      refine ARun.gpure (want := false) (.tf rfl) (fun hg49 => PureOp.intOp rfl (.gtmp rfl hg49) (.gtmp rfl hg49) rfl) rfl rfl (Nat.le_of_ble_eq_true rfl) rfl (Nat.le_of_ble_eq_true rfl) ?_
      refine ARun.pure (PureOp.pick rfl (.tmp rfl) (fun _ => .bool) (fun hp51 => .gtmp rfl (not_of hp51))) rfl rfl (Nat.le_of_ble_eq_true rfl) ?_
      refine ARun.pure (PureOp.move rfl (.tmp rfl)) rfl rfl (Nat.le_of_ble_eq_true rfl) ?_
      refine ARun.gpure (want := false) (.tf rfl) (fun hg52 => PureOp.fieldPtr rfl (.tmp rfl) vq_fi_49_4_4) rfl rfl (Nat.le_of_ble_eq_true rfl) rfl (Nat.le_of_ble_eq_true rfl) ?_
      refine ARun.gpure (want := false) (.tf rfl) (fun hg53 => PureOp.loadPtr rfl (.gtmp rfl hg53) vq_pl_25 rfl rfl (Nat.le_of_ble_eq_true rfl) (Nat.le_of_ble_eq_true rfl)) rfl rfl (Nat.le_of_ble_eq_true rfl) rfl (Nat.le_of_ble_eq_true rfl) ?_
      refine ARun.gpure (want := false) (.tf rfl) (fun hg54 => PureOp.move rfl (.tmp rfl)) rfl rfl (Nat.le_of_ble_eq_true rfl) rfl (Nat.le_of_ble_eq_true rfl) ?_
      refine ARun.gpure (want := false) (.tf rfl) (fun hg55 => PureOp.indexLst (i := i) rfl (.gtmp rfl hg55) vq_el_25_1 (.gtmp rfl hg55) rfl (by first | omega | (have q := hg55; simp only [Bool.cond_true_left, Bool.cond_false_right, Bool.not_eq_true', Bool.or_eq_false_iff, Bool.not_eq_false', Bool.and_eq_true, Bool.not_not, decide_eq_true_eq, decide_eq_false_iff_not, inB] at q; omega))) rfl rfl (Nat.le_of_ble_eq_true rfl) rfl (Nat.le_of_ble_eq_true rfl) ?_
      refine ARun.gpure (want := false) (.tf rfl) (fun hg56 => PureOp.loadRef rfl (.gtmp rfl hg56) vq_pl_22 (Nat.le_of_ble_eq_true rfl)) rfl rfl (Nat.le_of_ble_eq_true rfl) rfl (Nat.le_of_ble_eq_true rfl) ?_
      refine ARun.gpure (want := false) (.tf rfl) (fun hg57 => PureOp.lenLst rfl (.gtmp rfl hg57) vq_sl_22) rfl rfl (Nat.le_of_ble_eq_true rfl) rfl (Nat.le_of_ble_eq_true rfl) ?_
      refine ARun.gpure (want := false) (.tf rfl) (fun hg58 => PureOp.move rfl (.tmp rfl)) rfl rfl (Nat.le_of_ble_eq_true rfl) rfl (Nat.le_of_ble_eq_true rfl) ?_
      refine ARun.gpure (want := false) (.tf rfl) (fun hg59 => PureOp.intOp rfl (.gtmp rfl hg59) (.gtmp rfl hg59) rfl) rfl rfl (Nat.le_of_ble_eq_true rfl) rfl (Nat.le_of_ble_eq_true rfl) ?_
      refine ARun.pure (PureOp.pick rfl (.tmp rfl) (fun _ => .bool) (fun hp61 => .gtmp rfl (not_of hp61))) rfl rfl (Nat.le_of_ble_eq_true rfl) ?_
      refine ARun.nil ?_
      refine AW.cond (.tmp rfl) (fun hb62 => ?_) (fun hb62 => ?_)
      · have _u := True.intro
        have hrow : rowI b i = false := by
          have h0 := hb62
          have u1 : decide ((b.cHeard.getD i []).length = b.cCoins.length) = decide (((b.cHeard.getD i []).length : Int) = (b.cCoins.length : Int)) := decide_eq_decide.2 (by omega)
          have u2 : decide ((b.cFound.getD i []).length = b.cCoins.length) = decide (((b.cFound.getD i []).length : Int) = (b.cCoins.length : Int)) := decide_eq_decide.2 (by omega)
          unfold rowI atI
          rw [u1, u2]
          change (inB 0 1000 _ && (inB (-1) 1000 _ && _)) = _
          revert h0
          generalize decide (((b.cHeard.getD i []).length : Int) = (b.cCoins.length : Int)) = p1
          generalize decide (((b.cFound.getD i []).length : Int) = (b.cCoins.length : Int)) = p2
          generalize inB 0 1000 (b.cCoins.getD i 0) = p3
          generalize inB (-1) 1000 (b.cKept.getD i 0) = p4
          cases p1 <;> cases p2 <;> cases p3 <;> cases p4 <;> simp
        refine AW.seq ?_
        refine AW.region ?_
        refine ARun.pure (PureOp.assign rfl .bool) rfl rfl (Nat.le_of_ble_eq_true rfl) ?_
        refine ARun.nil ?_
        refine AW.ret (show ResL _ _ [.tmp 2] _ from resB rfl ?_)
        have hR : rowsI b = false := all_no hil hrow
        unfold isBankB
        rw [hR, Bool.false_and, Bool.and_false]
      · have _u := True.intro
        have hrow : rowI b i = true := by
          have h0 := hb62
          have u1 : decide ((b.cHeard.getD i []).length = b.cCoins.length) = decide (((b.cHeard.getD i []).length : Int) = (b.cCoins.length : Int)) := decide_eq_decide.2 (by omega)
          have u2 : decide ((b.cFound.getD i []).length = b.cCoins.length) = decide (((b.cFound.getD i []).length : Int) = (b.cCoins.length : Int)) := decide_eq_decide.2 (by omega)
          unfold rowI atI
          rw [u1, u2]
          change (inB 0 1000 _ && (inB (-1) 1000 _ && _)) = _
          revert h0
          generalize decide (((b.cHeard.getD i []).length : Int) = (b.cCoins.length : Int)) = p1
          generalize decide (((b.cFound.getD i []).length : Int) = (b.cCoins.length : Int)) = p2
          generalize inB 0 1000 (b.cCoins.getD i 0) = p3
          generalize inB (-1) 1000 (b.cKept.getD i 0) = p4
          cases p1 <;> cases p2 <;> cases p3 <;> cases p4 <;> simp
        refine AW.skip ?_
        refine AW.region ?_
        refine ARun.pure (PureOp.add (c := ((i + 1 : Nat) : Int)) rfl (.tmp rfl) .int (by rw [wrap_id (by omega) (by omega)]; omega)) rfl rfl (Nat.le_of_ble_eq_true rfl) ?_
        refine ARun.pure (PureOp.move rfl (.tmp rfl)) rfl rfl (Nat.le_of_ble_eq_true rfl) ?_
        refine ARun.nil ?_
        exact ⟨i + 1, ⟨by omega, succ_yes hrows hrow⟩, by dsimp only; omega, ⟨⟨⟨_, rfl, rfl⟩, ⟨_, rfl, rfl⟩, ⟨_, rfl, rfl⟩, ⟨_, rfl, rfl⟩, trivial⟩, HeapLe.one rfl trivial⟩⟩
    · have _u := True.intro
      replace hb32 := of_decide_eq_false hb32
      have hil : ¬ i < b.cCoins.length := by omega
      have hR : rowsI b = true := all_yes (fun j hj => hrows j (by omega))
      have hr1 : ∀ j, j < b.cCoins.length → (b.cHeard.getD j []).length = b.cCoins.length := fun j hj => by have := hrows j (by omega); unfold rowI at this; simp only [Bool.and_eq_true, decide_eq_true_eq] at this; exact this.2.2.1
      have hr2 : ∀ j, j < b.cCoins.length → (b.cFound.getD j []).length = b.cCoins.length := fun j hj => by have := hrows j (by omega); unfold rowI at this; simp only [Bool.and_eq_true, decide_eq_true_eq] at this; exact this.2.2.2
      refine AW.exit ?_
      refine AW.seq ?_
      refine AW.seq ?_
      refine AW.region ?_
      refine ARun.pure (PureOp.move rfl (.tmp rfl)) rfl rfl (Nat.le_of_ble_eq_true rfl) ?_
      refine ARun.pure (PureOp.move rfl .int) rfl rfl (Nat.le_of_ble_eq_true rfl) ?_
      refine ARun.nil ?_
      refine AW.block ?_
      refine AW.loop (ι := Nat) (fun f => ⟨[(1, .one (.ptr 0 5 0 0)), (3, .one (.int .i64 (b.cCoins.length : Int))), (84, .one (.int .i64 (b.cCoins.length : Int))), (85, .one (.int .i64 (f : Int)))], [(0, .cells [.lst 1 b.cCoins.length (fun i0 _ => .int .i64 (b.cCoins.getD i0 0)), .lst 1 b.cWays.length (fun i0 _ => .lst 1 ((b.cWays.getD i0 []).length) (fun i1 _ => .int .i64 ((b.cWays.getD i0 []).getD i1 0))), .lst 1 b.cKept.length (fun i0 _ => .int .i64 (b.cKept.getD i0 0)), .lst 1 b.cHeard.length (fun i0 _ => .lst 1 ((b.cHeard.getD i0 []).length) (fun i1 _ => .bool ((b.cHeard.getD i0 []).getD i1 false))), .lst 1 b.cFound.length (fun i0 _ => .lst 1 ((b.cFound.getD i0 []).length) (fun i1 _ => .int .i64 ((b.cFound.getD i0 []).getD i1 0)))])]⟩) (fun f => f ≤ b.cCoins.length ∧ ∀ j, j < f → ((List.range b.cCoins.length).all fun t => isWayB b j t) = true) (fun f => b.cCoins.length - f) 0 ⟨Nat.zero_le _, fun j hj => absurd hj (by omega)⟩ ⟨⟨⟨_, rfl, rfl⟩, ⟨_, rfl, rfl⟩, ⟨_, rfl, rfl⟩, ⟨_, rfl, rfl⟩, trivial⟩, HeapLe.one rfl trivial⟩ ?_
      intro f hI
      obtain ⟨hf, hfs⟩ := hI
      refine AW.seq ?_
      refine AW.region ?_
      refine ARun.pure (PureOp.intOp rfl (.tmp rfl) (.tmp rfl) rfl) rfl rfl (Nat.le_of_ble_eq_true rfl) ?_
      refine ARun.nil ?_
      refine AW.seq ?_
      refine AW.cond (.tmp rfl) (fun hb63 => ?_) (fun hb63 => ?_)
      · have _u := True.intro
        replace hb63 := of_decide_eq_true hb63
        have hfl : f < b.cCoins.length := by omega
        refine AW.skip ?_
        refine AW.seq ?_
        refine AW.block ?_
        refine AW.seq ?_
        refine AW.region ?_
        refine ARun.pure (PureOp.move rfl (.tmp rfl)) rfl rfl (Nat.le_of_ble_eq_true rfl) ?_
        refine ARun.pure (PureOp.assign rfl (.tmp rfl)) rfl rfl (Nat.le_of_ble_eq_true rfl) ?_
        refine ARun.nil ?_
        refine AW.seq ?_
        refine AW.region ?_
        refine ARun.pure (PureOp.move rfl (.tmp rfl)) rfl rfl (Nat.le_of_ble_eq_true rfl) ?_
        refine ARun.pure (PureOp.move rfl .int) rfl rfl (Nat.le_of_ble_eq_true rfl) ?_
        refine ARun.nil ?_
        refine AW.block ?_
        refine AW.loop (ι := Nat) (fun t => ⟨[(1, .one (.ptr 0 5 0 0)), (3, .one (.int .i64 (b.cCoins.length : Int))), (5, .one (.int .i64 (f : Int))), (84, .one (.int .i64 (b.cCoins.length : Int))), (85, .one (.int .i64 (f : Int))), (88, .one (.int .i64 (b.cCoins.length : Int))), (89, .one (.int .i64 (t : Int)))], [(0, .cells [.lst 1 b.cCoins.length (fun i0 _ => .int .i64 (b.cCoins.getD i0 0)), .lst 1 b.cWays.length (fun i0 _ => .lst 1 ((b.cWays.getD i0 []).length) (fun i1 _ => .int .i64 ((b.cWays.getD i0 []).getD i1 0))), .lst 1 b.cKept.length (fun i0 _ => .int .i64 (b.cKept.getD i0 0)), .lst 1 b.cHeard.length (fun i0 _ => .lst 1 ((b.cHeard.getD i0 []).length) (fun i1 _ => .bool ((b.cHeard.getD i0 []).getD i1 false))), .lst 1 b.cFound.length (fun i0 _ => .lst 1 ((b.cFound.getD i0 []).length) (fun i1 _ => .int .i64 ((b.cFound.getD i0 []).getD i1 0)))])]⟩) (fun t => t ≤ b.cCoins.length ∧ ∀ j, j < t → isWayB b f j = true) (fun t => b.cCoins.length - t) 0 ⟨Nat.zero_le _, fun j hj => absurd hj (by omega)⟩ ⟨⟨⟨_, rfl, rfl⟩, ⟨_, rfl, rfl⟩, ⟨_, rfl, rfl⟩, ⟨_, rfl, rfl⟩, ⟨_, rfl, rfl⟩, ⟨_, rfl, rfl⟩, ⟨_, rfl, rfl⟩, trivial⟩, HeapLe.one rfl trivial⟩ ?_
        intro t hI
        obtain ⟨ht, hts⟩ := hI
        refine AW.seq ?_
        refine AW.region ?_
        refine ARun.pure (PureOp.intOp rfl (.tmp rfl) (.tmp rfl) rfl) rfl rfl (Nat.le_of_ble_eq_true rfl) ?_
        refine ARun.nil ?_
        refine AW.seq ?_
        refine AW.cond (.tmp rfl) (fun hb64 => ?_) (fun hb64 => ?_)
        · have _u := True.intro
          replace hb64 := of_decide_eq_true hb64
          have htl : t < b.cCoins.length := by omega
          refine AW.skip ?_
          refine AW.seq ?_
          refine AW.block ?_
          refine AW.seq ?_
          refine AW.region ?_
          refine ARun.pure (PureOp.move rfl (.tmp rfl)) rfl rfl (Nat.le_of_ble_eq_true rfl) ?_
          refine ARun.pure (PureOp.assign rfl (.tmp rfl)) rfl rfl (Nat.le_of_ble_eq_true rfl) ?_
          refine ARun.nil ?_
          refine AW.seq ?_
          refine AW.region ?_
          refine ARun.pure (PureOp.move rfl (.tmp rfl)) rfl rfl (Nat.le_of_ble_eq_true rfl) ?_
          refine ARun.pure (PureOp.move rfl (.tmp rfl)) rfl rfl (Nat.le_of_ble_eq_true rfl) ?_
          refine ARun.pure (PureOp.call rfl (v_isWay b f t hn5 q2' q3' q5' q6' hr1 hr2 hfl htl) ⟨⟨_, (.tmp rfl), (.ptr (m := 5) rfl rfl (Nat.le_of_ble_eq_true rfl) (Nat.le_of_ble_eq_true rfl) (fun | 0, _ => .lst | 1, _ => .lst | 2, _ => .lst | 3, _ => .lst | 4, _ => .lst | _ + 5, h => absurd h (by omega)))⟩, ⟨_, (.tmp rfl), .int⟩, ⟨_, (.tmp rfl), .int⟩, trivial⟩ vq_ca_135 trivial) rfl rfl (Nat.le_of_ble_eq_true rfl) ?_
          refine ARun.pure (PureOp.not rfl (.tmp rfl)) rfl rfl (Nat.le_of_ble_eq_true rfl) ?_
          refine ARun.nil ?_
          refine AW.cond (.tmp rfl) (fun hb65 => ?_) (fun hb65 => ?_)
          · have _u := True.intro
            replace hb65 := of_not hb65
            refine AW.seq ?_
            refine AW.region ?_
            refine ARun.pure (PureOp.assign rfl .bool) rfl rfl (Nat.le_of_ble_eq_true rfl) ?_
            refine ARun.nil ?_
            refine AW.ret (show ResL _ _ [.tmp 2] _ from resB rfl ?_)
            have hw : waysI b = false := all_no hfl (all_no htl hb65)
            unfold isBankB
            rw [hw, Bool.and_false, Bool.and_false]
          · have _u := True.intro
            replace hb65 := not_f hb65
            refine AW.skip ?_
            refine AW.region ?_
            refine ARun.pure (PureOp.add (c := ((t + 1 : Nat) : Int)) rfl (.tmp rfl) .int (by rw [wrap_id (by omega) (by omega)]; omega)) rfl rfl (Nat.le_of_ble_eq_true rfl) ?_
            refine ARun.pure (PureOp.move rfl (.tmp rfl)) rfl rfl (Nat.le_of_ble_eq_true rfl) ?_
            refine ARun.nil ?_
            exact ⟨t + 1, ⟨by omega, succ_yes hts hb65⟩, by dsimp only; omega, ⟨⟨⟨_, rfl, rfl⟩, ⟨_, rfl, rfl⟩, ⟨_, rfl, rfl⟩, ⟨_, rfl, rfl⟩, ⟨_, rfl, rfl⟩, ⟨_, rfl, rfl⟩, ⟨_, rfl, rfl⟩, trivial⟩, HeapLe.one rfl trivial⟩⟩
        · have _u := True.intro
          replace hb64 := of_decide_eq_false hb64
          have htl : ¬ t < b.cCoins.length := by omega
          refine AW.exit ?_
          refine AW.region ?_
          refine ARun.pure (PureOp.add (c := ((f + 1 : Nat) : Int)) rfl (.tmp rfl) .int (by rw [wrap_id (by omega) (by omega)]; omega)) rfl rfl (Nat.le_of_ble_eq_true rfl) ?_
          refine ARun.pure (PureOp.move rfl (.tmp rfl)) rfl rfl (Nat.le_of_ble_eq_true rfl) ?_
          refine ARun.nil ?_
          exact ⟨f + 1, ⟨by omega, succ_yes hfs (all_yes fun t ht => hts t (by omega))⟩, by dsimp only; omega, ⟨⟨⟨_, rfl, rfl⟩, ⟨_, rfl, rfl⟩, ⟨_, rfl, rfl⟩, ⟨_, rfl, rfl⟩, trivial⟩, HeapLe.one rfl trivial⟩⟩
      · have _u := True.intro
        replace hb63 := of_decide_eq_false hb63
        have hfl : ¬ f < b.cCoins.length := by omega
        refine AW.exit ?_
        refine AW.seq ?_
        refine AW.region ?_
        refine ARun.pure (PureOp.assign rfl .bool) rfl rfl (Nat.le_of_ble_eq_true rfl) ?_
        refine ARun.nil ?_
        refine AW.ret (show ResL _ _ [.tmp 2] _ from resB rfl ?_)
        unfold isBankB
        rw [hH, hR, show waysI b = true from all_yes (fun j hj => hfs j (by omega))]; rfl

theorem v_isBankG (b : GBank) : Fn Try.prog 92 [.agg [.lst 1 b.cCoins.length (fun i0 _ => .int .i64 (b.cCoins.getD i0 0)), .lst 1 b.cWays.length (fun i0 _ => .lst 1 ((b.cWays.getD i0 []).length) (fun i1 _ => .int .i64 ((b.cWays.getD i0 []).getD i1 0))), .lst 1 b.cKept.length (fun i0 _ => .int .i64 (b.cKept.getD i0 0)), .lst 1 b.cHeard.length (fun i0 _ => .lst 1 ((b.cHeard.getD i0 []).length) (fun i1 _ => .bool ((b.cHeard.getD i0 []).getD i1 false))), .lst 1 b.cFound.length (fun i0 _ => .lst 1 ((b.cFound.getD i0 []).length) (fun i1 _ => .int .i64 ((b.cFound.getD i0 []).getD i1 0)))]] (.one (.bool (goodBank b))) := by rw [← bankLaw]; exact v_isBank b
theorem v_implGoodBank (b : GBank) : Fn Try.prog 36 [.agg [.lst 1 b.cCoins.length (fun i0 _ => .int .i64 (b.cCoins.getD i0 0)), .lst 1 b.cWays.length (fun i0 _ => .lst 1 ((b.cWays.getD i0 []).length) (fun i1 _ => .int .i64 ((b.cWays.getD i0 []).getD i1 0))), .lst 1 b.cKept.length (fun i0 _ => .int .i64 (b.cKept.getD i0 0)), .lst 1 b.cHeard.length (fun i0 _ => .lst 1 ((b.cHeard.getD i0 []).length) (fun i1 _ => .bool ((b.cHeard.getD i0 []).getD i1 false))), .lst 1 b.cFound.length (fun i0 _ => .lst 1 ((b.cFound.getD i0 []).length) (fun i1 _ => .int .i64 ((b.cFound.getD i0 []).getD i1 0)))]] (.one (.bool (goodBank b))) := by
  refine Fn.of_body (fn := Try.f36) Try.func36 rfl (Nat.le_of_ble_eq_true rfl) trivial ?_
  intro w0
  show AW _ 5 _ _ _ _
  refine AW.seq ?_
  refine AW.region ?_
  refine ARun.box (id := 0) rfl (.tmp rfl) (SV.cells_of (by exact ⟨trivial, trivial, trivial, trivial, trivial, trivial⟩)) ⟨rfl, (by repeat first | exact trivial | refine ⟨by decide, by first | rfl | (intro i j; first | rfl | (dsimp only; split <;> rfl)), ?_⟩)⟩ rfl rfl rfl (Nat.le_of_ble_eq_true rfl) ?_
  refine ARun.pure (PureOp.assign rfl .bool) rfl rfl (Nat.le_of_ble_eq_true rfl) ?_
  refine ARun.nil ?_
  refine AW.seq ?_
  refine AW.region ?_
  refine ARun.pure (PureOp.loadPtrAgg rfl (.tmp rfl) vq_ag_49_5 rfl rfl (Nat.le_of_ble_eq_true rfl) (Nat.le_of_ble_eq_true rfl)) rfl rfl (Nat.le_of_ble_eq_true rfl) ?_
  refine ARun.pure (PureOp.call rfl (v_isBankG b) ⟨⟨_, (.tmp rfl), ⟨.lst, .lst, .lst, .lst, .lst, trivial⟩⟩, trivial⟩ vq_ca_92 trivial) rfl rfl (Nat.le_of_ble_eq_true rfl) ?_
  refine ARun.pure (PureOp.assign rfl (.tmp rfl)) rfl rfl (Nat.le_of_ble_eq_true rfl) ?_
  refine ARun.nil ?_
  refine AW.ret (show ResL _ _ [.tmp 2] _ from resB rfl ?_)
  rfl
end Go.Proofs.Ytlbnodmebehpiaa
