/-
  The reference's GoodBank.
-/
import Derived.Test.YtlbnodmebehpiaaLb
import Derived.Test.YtlbnodmebehpiaaBp
namespace Go.Proofs.Ytlbnodmebehpiaa
open Go.ChangeShapes Go.WideShapes Go.ChangeAt Go.RowKit Go.BigFrame Go.Deep
set_option linter.unusedVariables false
set_option linter.unusedSimpArgs false
theorem vk_ca_57 : callB Try.prog 57 = true := by kernel_rfl
theorem vk_ca_58 : callB Try.prog 58 = true := by kernel_rfl
theorem vk_ca_90 : callB Try.prog 90 = true := by kernel_rfl
theorem vk_el_107_1 : elemB Try.prog 107 1 = true := by kernel_rfl
theorem vk_el_22_1 : elemB Try.prog 22 1 = true := by kernel_rfl
theorem vk_el_25_1 : elemB Try.prog 25 1 = true := by kernel_rfl
theorem vk_el_47_1 : elemB Try.prog 47 1 = true := by kernel_rfl
theorem vk_fi_49_0_0 : fieldB Try.prog 49 0 0 = true := by kernel_rfl
theorem vk_fi_49_1_1 : fieldB Try.prog 49 1 1 = true := by kernel_rfl
theorem vk_fi_49_2_2 : fieldB Try.prog 49 2 2 = true := by kernel_rfl
theorem vk_fi_49_3_3 : fieldB Try.prog 49 3 3 = true := by kernel_rfl
theorem vk_fi_49_4_4 : fieldB Try.prog 49 4 4 = true := by kernel_rfl
theorem vk_pl_107 : plainB Try.prog 107 = true := by kernel_rfl
theorem vk_pl_22 : plainB Try.prog 22 = true := by kernel_rfl
theorem vk_pl_25 : plainB Try.prog 25 = true := by kernel_rfl
theorem vk_pl_3 : plainB Try.prog 3 = true := by kernel_rfl
theorem vk_pl_4 : plainB Try.prog 4 = true := by kernel_rfl
theorem vk_pl_47 : plainB Try.prog 47 = true := by kernel_rfl
theorem vk_sl_107 : sliceB Try.prog 107 = true := by kernel_rfl
theorem vk_sl_22 : sliceB Try.prog 22 = true := by kernel_rfl
theorem vk_sl_25 : sliceB Try.prog 25 = true := by kernel_rfl
theorem vk_sl_47 : sliceB Try.prog 47 = true := by kernel_rfl
theorem v_l12Way (l : List Int) : Fn Try.prog 90 [.one (.lst 1 l.length (fun i0 _ => .int .i64 (l.getD i0 0)))] (.one (.bool (wayOk l))) := by
  refine Fn.of_body (fn := Try.f90) Try.func90 rfl (Nat.le_of_ble_eq_true rfl) trivial ?_
  intro w0
  show AW _ 10 _ _ _ _
  refine AW.seq ?_
  refine AW.region ?_
  refine ARun.pure (PureOp.assign rfl .bool) rfl rfl (Nat.le_of_ble_eq_true rfl) ?_
  refine ARun.nil ?_
  refine AW.seq ?_
  refine AW.region ?_
  refine ARun.pure (PureOp.move rfl (.tmp rfl)) rfl rfl (Nat.le_of_ble_eq_true rfl) ?_
  refine ARun.pure (PureOp.lenLst rfl (.tmp rfl) vk_sl_22) rfl rfl (Nat.le_of_ble_eq_true rfl) ?_
  refine ARun.pure (PureOp.intOp rfl (.tmp rfl) .int rfl) rfl rfl (Nat.le_of_ble_eq_true rfl) ?_
  refine ARun.pure (PureOp.move rfl (.tmp rfl)) rfl rfl (Nat.le_of_ble_eq_true rfl) ?_
  refine ARun.gpure (want := true) (.tt rfl) (fun hg1 => PureOp.move rfl (.tmp rfl)) rfl rfl (Nat.le_of_ble_eq_true rfl) rfl (Nat.le_of_ble_eq_true rfl) ?_
  refine ARun.gpure (want := true) (.tt rfl) (fun hg2 => PureOp.call rfl (v_l1All l 0 50) ⟨⟨_, (.gtmp rfl hg2), .lst⟩, ⟨_, .int, .int⟩, ⟨_, .int, .int⟩, trivial⟩ vk_ca_58 trivial) rfl rfl (Nat.le_of_ble_eq_true rfl) rfl (Nat.le_of_ble_eq_true rfl) ?_
  refine ARun.pure (PureOp.pick rfl (.tmp rfl) (fun hp3 => .gtmp rfl hp3) (fun _ => .bool)) rfl rfl (Nat.le_of_ble_eq_true rfl) ?_
  refine ARun.pure (PureOp.assign rfl (.tmp rfl)) rfl rfl (Nat.le_of_ble_eq_true rfl) ?_
  refine ARun.nil ?_
  refine AW.ret (show ResL _ _ [.tmp 2] _ from resB rfl ?_)
  unfold wayOk allIn
  by_cases h : l.length ≤ 40
  · have h2 : (l.length : Int) ≤ 40 := by omega
    simp only [h, h2, decide_true, cond_true, Bool.true_and]; rfl
  · have h2 : ¬ (l.length : Int) ≤ 40 := by omega
    simp only [h, h2, decide_false, cond_false, Bool.false_and]

theorem v_specGoodBank (b : GBank) : Fn Try.prog 34 [.agg [.lst 1 b.cCoins.length (fun i0 _ => .int .i64 (b.cCoins.getD i0 0)), .lst 1 b.cWays.length (fun i0 _ => .lst 1 ((b.cWays.getD i0 []).length) (fun i1 _ => .int .i64 ((b.cWays.getD i0 []).getD i1 0))), .lst 1 b.cKept.length (fun i0 _ => .int .i64 (b.cKept.getD i0 0)), .lst 1 b.cHeard.length (fun i0 _ => .lst 1 ((b.cHeard.getD i0 []).length) (fun i1 _ => .bool ((b.cHeard.getD i0 []).getD i1 false))), .lst 1 b.cFound.length (fun i0 _ => .lst 1 ((b.cFound.getD i0 []).length) (fun i1 _ => .int .i64 ((b.cFound.getD i0 []).getD i1 0)))]] (.one (.bool (goodBank b))) := by
  refine Fn.of_body (fn := Try.f34) Try.func34 rfl (Nat.le_of_ble_eq_true rfl) trivial ?_
  intro w0
  show AW _ 179 _ _ _ _
  refine AW.seq ?_
  refine AW.region ?_
  refine ARun.box (id := 0) rfl (.tmp rfl) (SV.cells_of (by exact ⟨trivial, trivial, trivial, trivial, trivial, trivial⟩)) ⟨rfl, (by repeat first | exact trivial | refine ⟨by decide, by first | rfl | (intro i j; first | rfl | (dsimp only; split <;> rfl)), ?_⟩)⟩ rfl rfl rfl (Nat.le_of_ble_eq_true rfl) ?_
  refine ARun.pure (PureOp.assign rfl .bool) rfl rfl (Nat.le_of_ble_eq_true rfl) ?_
  refine ARun.nil ?_
  refine AW.seq ?_
  refine AW.region ?_
  refine ARun.pure (PureOp.fieldPtr rfl (.tmp rfl) vk_fi_49_0_0) rfl rfl (Nat.le_of_ble_eq_true rfl) ?_
  refine ARun.pure (PureOp.loadPtr rfl (.tmp rfl) vk_pl_22 rfl rfl (Nat.le_of_ble_eq_true rfl) (Nat.le_of_ble_eq_true rfl)) rfl rfl (Nat.le_of_ble_eq_true rfl) ?_
  refine ARun.pure (PureOp.lenLst rfl (.tmp rfl) vk_sl_22) rfl rfl (Nat.le_of_ble_eq_true rfl) ?_
  refine ARun.pure (PureOp.assign rfl (.tmp rfl)) rfl rfl (Nat.le_of_ble_eq_true rfl) ?_
  refine ARun.nil ?_
  refine AW.seq ?_
  refine AW.seq ?_
  refine AW.region ?_
  refine ARun.pure (PureOp.move rfl (.tmp rfl)) rfl rfl (Nat.le_of_ble_eq_true rfl) ?_
  refine ARun.pure (PureOp.call rfl (v_l1In (b.cCoins.length : Int) 1 5) ⟨⟨_, (.tmp rfl), .int⟩, ⟨_, .int, .int⟩, ⟨_, .int, .int⟩, trivial⟩ vk_ca_57 trivial) rfl rfl (Nat.le_of_ble_eq_true rfl) ?_
  refine ARun.pure (PureOp.not rfl (.tmp rfl)) rfl rfl (Nat.le_of_ble_eq_true rfl) ?_
  refine ARun.pure (PureOp.move rfl (.tmp rfl)) rfl rfl (Nat.le_of_ble_eq_true rfl) ?_
  refine ARun.gpure (want := false) (.tf rfl) (fun hg1 => PureOp.fieldPtr rfl (.tmp rfl) vk_fi_49_0_0) rfl rfl (Nat.le_of_ble_eq_true rfl) rfl (Nat.le_of_ble_eq_true rfl) ?_
  refine ARun.gpure (want := false) (.tf rfl) (fun hg2 => PureOp.loadPtr rfl (.gtmp rfl hg2) vk_pl_22 rfl rfl (Nat.le_of_ble_eq_true rfl) (Nat.le_of_ble_eq_true rfl)) rfl rfl (Nat.le_of_ble_eq_true rfl) rfl (Nat.le_of_ble_eq_true rfl) ?_
  refine ARun.gpure (want := false) (.tf rfl) (fun hg3 => PureOp.call rfl (v_l1All b.cCoins 0 1000) ⟨⟨_, (.gtmp rfl hg3), .lst⟩, ⟨_, .int, .int⟩, ⟨_, .int, .int⟩, trivial⟩ vk_ca_58 trivial) rfl rfl (Nat.le_of_ble_eq_true rfl) rfl (Nat.le_of_ble_eq_true rfl) ?_
  refine ARun.gpure (want := false) (.tf rfl) (fun hg4 => PureOp.not rfl (.gtmp rfl hg4)) rfl rfl (Nat.le_of_ble_eq_true rfl) rfl (Nat.le_of_ble_eq_true rfl) ?_
  refine ARun.pure (PureOp.pick rfl (.tmp rfl) (fun _ => .bool) (fun hp6 => .gtmp rfl (not_of hp6))) rfl rfl (Nat.le_of_ble_eq_true rfl) ?_
  refine ARun.pure (PureOp.move rfl (.tmp rfl)) rfl rfl (Nat.le_of_ble_eq_true rfl) ?_
  refine ARun.gpure (want := false) (.tf rfl) (fun hg7 => PureOp.fieldPtr rfl (.tmp rfl) vk_fi_49_1_1) rfl rfl (Nat.le_of_ble_eq_true rfl) rfl (Nat.le_of_ble_eq_true rfl) ?_
  refine ARun.gpure (want := false) (.tf rfl) (fun hg8 => PureOp.loadPtr rfl (.gtmp rfl hg8) vk_pl_25 rfl rfl (Nat.le_of_ble_eq_true rfl) (Nat.le_of_ble_eq_true rfl)) rfl rfl (Nat.le_of_ble_eq_true rfl) rfl (Nat.le_of_ble_eq_true rfl) ?_
  refine ARun.gpure (want := false) (.tf rfl) (fun hg9 => PureOp.lenLst rfl (.gtmp rfl hg9) vk_sl_25) rfl rfl (Nat.le_of_ble_eq_true rfl) rfl (Nat.le_of_ble_eq_true rfl) ?_
  refine ARun.gpure (want := false) (.tf rfl) (fun hg10 => PureOp.move rfl (.tmp rfl)) rfl rfl (Nat.le_of_ble_eq_true rfl) rfl (Nat.le_of_ble_eq_true rfl) ?_
  refine ARun.gpure (want := false) (.tf rfl) (fun hg11 => PureOp.move rfl (.tmp rfl)) rfl rfl (Nat.le_of_ble_eq_true rfl) rfl (Nat.le_of_ble_eq_true rfl) ?_
  refine ARun.gpure (want := false) (.tf rfl) (fun hg12 => PureOp.mul (c := ((b.cCoins.length * b.cCoins.length : Nat) : Int)) rfl (.gtmp rfl hg12) (.gtmp rfl hg12) (wrap_sq (by have q := hg12; simp only [Bool.cond_true_left, Bool.cond_false_right, Bool.not_eq_true', Bool.or_eq_false_iff, Bool.not_eq_false', Bool.and_eq_true, Bool.not_not, decide_eq_true_eq, decide_eq_false_iff_not, inB] at q; omega))) rfl rfl (Nat.le_of_ble_eq_true rfl) rfl (Nat.le_of_ble_eq_true rfl) ?_
  refine ARun.gpure (want := false) (.tf rfl) (fun hg13 => PureOp.intOp rfl (.gtmp rfl hg13) (.gtmp rfl hg13) rfl) rfl rfl (Nat.le_of_ble_eq_true rfl) rfl (Nat.le_of_ble_eq_true rfl) ?_
  refine ARun.pure (PureOp.pick rfl (.tmp rfl) (fun _ => .bool) (fun hp15 => .gtmp rfl (not_of hp15))) rfl rfl (Nat.le_of_ble_eq_true rfl) ?_
  refine ARun.pure (PureOp.move rfl (.tmp rfl)) rfl rfl (Nat.le_of_ble_eq_true rfl) ?_
  refine ARun.gpure (want := false) (.tf rfl) (fun hg16 => PureOp.fieldPtr rfl (.tmp rfl) vk_fi_49_2_2) rfl rfl (Nat.le_of_ble_eq_true rfl) rfl (Nat.le_of_ble_eq_true rfl) ?_
  refine ARun.gpure (want := false) (.tf rfl) (fun hg17 => PureOp.loadPtr rfl (.gtmp rfl hg17) vk_pl_22 rfl rfl (Nat.le_of_ble_eq_true rfl) (Nat.le_of_ble_eq_true rfl)) rfl rfl (Nat.le_of_ble_eq_true rfl) rfl (Nat.le_of_ble_eq_true rfl) ?_
  refine ARun.gpure (want := false) (.tf rfl) (fun hg18 => PureOp.lenLst rfl (.gtmp rfl hg18) vk_sl_22) rfl rfl (Nat.le_of_ble_eq_true rfl) rfl (Nat.le_of_ble_eq_true rfl) ?_
  refine ARun.gpure (want := false) (.tf rfl) (fun hg19 => PureOp.move rfl (.tmp rfl)) rfl rfl (Nat.le_of_ble_eq_true rfl) rfl (Nat.le_of_ble_eq_true rfl) ?_
  refine ARun.gpure (want := false) (.tf rfl) (fun hg20 => PureOp.intOp rfl (.gtmp rfl hg20) (.gtmp rfl hg20) rfl) rfl rfl (Nat.le_of_ble_eq_true rfl) rfl (Nat.le_of_ble_eq_true rfl) ?_
  refine ARun.pure (PureOp.pick rfl (.tmp rfl) (fun _ => .bool) (fun hp22 => .gtmp rfl (not_of hp22))) rfl rfl (Nat.le_of_ble_eq_true rfl) ?_
  refine ARun.pure (PureOp.move rfl (.tmp rfl)) rfl rfl (Nat.le_of_ble_eq_true rfl) ?_
  refine ARun.gpure (want := false) (.tf rfl) (fun hg23 => PureOp.fieldPtr rfl (.tmp rfl) vk_fi_49_2_2) rfl rfl (Nat.le_of_ble_eq_true rfl) rfl (Nat.le_of_ble_eq_true rfl) ?_
  refine ARun.gpure (want := false) (.tf rfl) (fun hg24 => PureOp.loadPtr rfl (.gtmp rfl hg24) vk_pl_22 rfl rfl (Nat.le_of_ble_eq_true rfl) (Nat.le_of_ble_eq_true rfl)) rfl rfl (Nat.le_of_ble_eq_true rfl) rfl (Nat.le_of_ble_eq_true rfl) ?_
  refine ARun.gpure (want := false) (.tf rfl) (fun hg25 => PureOp.call rfl (v_l1All b.cKept (-1) 1000) ⟨⟨_, (.gtmp rfl hg25), .lst⟩, ⟨_, .int, .int⟩, ⟨_, .int, .int⟩, trivial⟩ vk_ca_58 trivial) rfl rfl (Nat.le_of_ble_eq_true rfl) rfl (Nat.le_of_ble_eq_true rfl) ?_
  refine ARun.gpure (want := false) (.tf rfl) (fun hg26 => PureOp.not rfl (.gtmp rfl hg26)) rfl rfl (Nat.le_of_ble_eq_true rfl) rfl (Nat.le_of_ble_eq_true rfl) ?_
  refine ARun.pure (PureOp.pick rfl (.tmp rfl) (fun _ => .bool) (fun hp28 => .gtmp rfl (not_of hp28))) rfl rfl (Nat.le_of_ble_eq_true rfl) ?_
  refine ARun.pure (PureOp.move rfl (.tmp rfl)) rfl rfl (Nat.le_of_ble_eq_true rfl) ?_
  refine ARun.gpure (want := false) (.tf rfl) (fun hg29 => PureOp.fieldPtr rfl (.tmp rfl) vk_fi_49_3_3) rfl rfl (Nat.le_of_ble_eq_true rfl) rfl (Nat.le_of_ble_eq_true rfl) ?_
  refine ARun.gpure (want := false) (.tf rfl) (fun hg30 => PureOp.loadPtr rfl (.gtmp rfl hg30) vk_pl_47 rfl rfl (Nat.le_of_ble_eq_true rfl) (Nat.le_of_ble_eq_true rfl)) rfl rfl (Nat.le_of_ble_eq_true rfl) rfl (Nat.le_of_ble_eq_true rfl) ?_
  refine ARun.gpure (want := false) (.tf rfl) (fun hg31 => PureOp.lenLst rfl (.gtmp rfl hg31) vk_sl_47) rfl rfl (Nat.le_of_ble_eq_true rfl) rfl (Nat.le_of_ble_eq_true rfl) ?_
  refine ARun.gpure (want := false) (.tf rfl) (fun hg32 => PureOp.move rfl (.tmp rfl)) rfl rfl (Nat.le_of_ble_eq_true rfl) rfl (Nat.le_of_ble_eq_true rfl) ?_
  refine ARun.gpure (want := false) (.tf rfl) (fun hg33 => PureOp.intOp rfl (.gtmp rfl hg33) (.gtmp rfl hg33) rfl) rfl rfl (Nat.le_of_ble_eq_true rfl) rfl (Nat.le_of_ble_eq_true rfl) ?_
  refine ARun.pure (PureOp.pick rfl (.tmp rfl) (fun _ => .bool) (fun hp35 => .gtmp rfl (not_of hp35))) rfl rfl (Nat.le_of_ble_eq_true rfl) ?_
  refine ARun.pure (PureOp.move rfl (.tmp rfl)) rfl rfl (Nat.le_of_ble_eq_true rfl) ?_
  refine ARun.gpure (want := false) (.tf rfl) (fun hg36 => PureOp.fieldPtr rfl (.tmp rfl) vk_fi_49_4_4) rfl rfl (Nat.le_of_ble_eq_true rfl) rfl (Nat.le_of_ble_eq_true rfl) ?_
  refine ARun.gpure (want := false) (.tf rfl) (fun hg37 => PureOp.loadPtr rfl (.gtmp rfl hg37) vk_pl_25 rfl rfl (Nat.le_of_ble_eq_true rfl) (Nat.le_of_ble_eq_true rfl)) rfl rfl (Nat.le_of_ble_eq_true rfl) rfl (Nat.le_of_ble_eq_true rfl) ?_
  refine ARun.gpure (want := false) (.tf rfl) (fun hg38 => PureOp.lenLst rfl (.gtmp rfl hg38) vk_sl_25) rfl rfl (Nat.le_of_ble_eq_true rfl) rfl (Nat.le_of_ble_eq_true rfl) ?_
  refine ARun.gpure (want := false) (.tf rfl) (fun hg39 => PureOp.move rfl (.tmp rfl)) rfl rfl (Nat.le_of_ble_eq_true rfl) rfl (Nat.le_of_ble_eq_true rfl) ?_
  refine ARun.gpure (want := false) (.tf rfl) (fun hg40 => PureOp.intOp rfl (.gtmp rfl hg40) (.gtmp rfl hg40) rfl) rfl rfl (Nat.le_of_ble_eq_true rfl) rfl (Nat.le_of_ble_eq_true rfl) ?_
  refine ARun.pure (PureOp.pick rfl (.tmp rfl) (fun _ => .bool) (fun hp42 => .gtmp rfl (not_of hp42))) rfl rfl (Nat.le_of_ble_eq_true rfl) ?_
  refine ARun.nil ?_
  refine AW.cond (.tmp rfl) (fun hb43 => ?_) (fun hb43 => ?_)
  · have _u := True.intro
    refine AW.seq ?_
    refine AW.region ?_
    refine ARun.pure (PureOp.assign rfl .bool) rfl rfl (Nat.le_of_ble_eq_true rfl) ?_
    refine ARun.nil ?_
    refine AW.ret (show ResL _ _ [.tmp 2] _ from resB rfl ?_)
    have hf : headOk b = false := by
      rw [← Bool.not_eq_true]
      intro hh
      simp only [headOk, Bool.and_eq_true, decide_eq_true_eq] at hh
      obtain ⟨g0, g1, g2, g3, g4, g5, g6⟩ := hh
      have e0 : inB 1 5 (b.cCoins.length : Int) = true := by simp only [inB, decide_eq_true_eq]; exact g0
      have e1 : b.cCoins.all (inB 0 1000) = true := g1
      have e4 : b.cKept.all (inB (-1) 1000) = true := g4
      rw [e0, e1, e4] at hb43
      simp only [Bool.cond_true_left, Bool.or_eq_true, Bool.not_eq_true', decide_eq_true_eq, decide_eq_false_iff_not] at hb43
      simp only [Bool.true_eq_false, false_or, or_false] at hb43
      omega
    unfold goodBank
    rw [hf]; rfl
  · have _u := True.intro
    simp only [Bool.cond_true_left, Bool.or_eq_false_iff, Bool.not_eq_false', decide_eq_true_eq, decide_eq_false_iff_not] at hb43
    obtain ⟨⟨⟨⟨⟨⟨q0, q1⟩, q2⟩, q3⟩, q4⟩, q5⟩, q6⟩ := hb43
    have hn5 : b.cCoins.length ≤ 5 := by have := (inB_true q0).2; omega
    have hn1 : 1 ≤ b.cCoins.length := by have := (inB_true q0).1; omega
    have q2' : b.cWays.length = b.cCoins.length * b.cCoins.length := by omega
    have q3' : b.cKept.length = b.cCoins.length := by omega
    have q5' : b.cHeard.length = b.cCoins.length := by omega
    have q6' : b.cFound.length = b.cCoins.length := by omega
    have hH : headOk b = true := by
      simp only [headOk, Bool.and_eq_true, decide_eq_true_eq]
      exact ⟨inB_true q0, q1, q2', q3', q4, q5', q6'⟩
    clear q0 q1 q2 q3 q4 q5 q6
    refine AW.skip ?_
    refine AW.seq ?_
    refine AW.seq ?_
    refine AW.region ?_
    refine ARun.pure (PureOp.assign rfl .int) rfl rfl (Nat.le_of_ble_eq_true rfl) ?_
    refine ARun.nil ?_
    refine AW.block ?_
    refine AW.loop (ι := Nat) (fun i => ⟨[(1, .one (.ptr 0 5 0 0)), (3, .one (.int .i64 (b.cCoins.length : Int))), (4, .one (.int .i64 (i : Int)))], [(0, .cells [.lst 1 b.cCoins.length (fun i0 _ => .int .i64 (b.cCoins.getD i0 0)), .lst 1 b.cWays.length (fun i0 _ => .lst 1 ((b.cWays.getD i0 []).length) (fun i1 _ => .int .i64 ((b.cWays.getD i0 []).getD i1 0))), .lst 1 b.cKept.length (fun i0 _ => .int .i64 (b.cKept.getD i0 0)), .lst 1 b.cHeard.length (fun i0 _ => .lst 1 ((b.cHeard.getD i0 []).length) (fun i1 _ => .bool ((b.cHeard.getD i0 []).getD i1 false))), .lst 1 b.cFound.length (fun i0 _ => .lst 1 ((b.cFound.getD i0 []).length) (fun i1 _ => .int .i64 ((b.cFound.getD i0 []).getD i1 0)))])]⟩) (fun i => i ≤ b.cCoins.length ∧ ∀ j, j < i → (rowOk b j && cellsOk b j) = true) (fun i => b.cCoins.length - i) 0 ⟨Nat.zero_le _, fun j hj => absurd hj (by omega)⟩ ⟨⟨⟨_, rfl, rfl⟩, ⟨_, rfl, rfl⟩, ⟨_, rfl, rfl⟩, trivial⟩, HeapLe.one rfl trivial⟩ ?_
    intro i hI
    obtain ⟨hi, hrows⟩ := hI
    refine AW.seq ?_
    refine AW.seq ?_
    refine AW.region ?_
    refine ARun.pure (PureOp.move rfl (.tmp rfl)) rfl rfl (Nat.le_of_ble_eq_true rfl) ?_
    refine ARun.pure (PureOp.move rfl (.tmp rfl)) rfl rfl (Nat.le_of_ble_eq_true rfl) ?_
    refine ARun.pure (PureOp.intOp rfl (.tmp rfl) (.tmp rfl) rfl) rfl rfl (Nat.le_of_ble_eq_true rfl) ?_
    refine ARun.nil ?_
    refine AW.cond (.tmp rfl) (fun hb44 => ?_) (fun hb44 => ?_)
    · have _u := True.intro
      replace hb44 := of_decide_eq_true hb44
      have hil : i < b.cCoins.length := by omega
      have i1 : i < b.cHeard.length := by omega
      have i2 : i < b.cFound.length := by omega
      have i3 : i < b.cKept.length := by omega
      refine AW.skip ?_
      refine AW.seq ?_
      refine AW.block ?_
      refine AW.seq ?_
      refine AW.seq ?_
      refine AW.region ?_
      refine ARun.pure (PureOp.fieldPtr rfl (.tmp rfl) vk_fi_49_3_3) rfl rfl (Nat.le_of_ble_eq_true rfl) ?_
      refine ARun.pure (PureOp.loadPtr rfl (.tmp rfl) vk_pl_47 rfl rfl (Nat.le_of_ble_eq_true rfl) (Nat.le_of_ble_eq_true rfl)) rfl rfl (Nat.le_of_ble_eq_true rfl) ?_
      refine ARun.pure (PureOp.move rfl (.tmp rfl)) rfl rfl (Nat.le_of_ble_eq_true rfl) ?_
      refine ARun.pure (PureOp.indexLst (i := i) rfl (.tmp rfl) vk_el_47_1 (.tmp rfl) rfl (by omega)) rfl rfl (Nat.le_of_ble_eq_true rfl) ?_
      refine ARun.pure (PureOp.loadRef rfl (.tmp rfl) vk_pl_107 (Nat.le_of_ble_eq_true rfl)) rfl rfl (Nat.le_of_ble_eq_true rfl) ?_
      refine ARun.pure (PureOp.lenLst rfl (.tmp rfl) vk_sl_107) rfl rfl (Nat.le_of_ble_eq_true rfl) ?_
      refine ARun.pure (PureOp.move rfl (.tmp rfl)) rfl rfl (Nat.le_of_ble_eq_true rfl) ?_
      refine ARun.pure (PureOp.intOp rfl (.tmp rfl) (.tmp rfl) rfl) rfl rfl (Nat.le_of_ble_eq_true rfl) ?_
      refine ARun.pure (PureOp.move rfl (.tmp rfl)) rfl rfl (Nat.le_of_ble_eq_true rfl) ?_
      refine ARun.gpure (want := false) (.tf rfl) (fun hg45 => PureOp.fieldPtr rfl (.tmp rfl) vk_fi_49_4_4) rfl rfl (Nat.le_of_ble_eq_true rfl) rfl (Nat.le_of_ble_eq_true rfl) ?_
      refine ARun.gpure (want := false) (.tf rfl) (fun hg46 => PureOp.loadPtr rfl (.gtmp rfl hg46) vk_pl_25 rfl rfl (Nat.le_of_ble_eq_true rfl) (Nat.le_of_ble_eq_true rfl)) rfl rfl (Nat.le_of_ble_eq_true rfl) rfl (Nat.le_of_ble_eq_true rfl) ?_
      refine ARun.gpure (want := false) (.tf rfl) (fun hg47 => PureOp.move rfl (.tmp rfl)) rfl rfl (Nat.le_of_ble_eq_true rfl) rfl (Nat.le_of_ble_eq_true rfl) ?_
      refine ARun.gpure (want := false) (.tf rfl) (fun hg48 => PureOp.indexLst (i := i) rfl (.gtmp rfl hg48) vk_el_25_1 (.gtmp rfl hg48) rfl (by first | omega | (have q := hg48; simp only [Bool.cond_true_left, Bool.cond_false_right, Bool.not_eq_true', Bool.or_eq_false_iff, Bool.not_eq_false', Bool.and_eq_true, Bool.not_not, decide_eq_true_eq, decide_eq_false_iff_not, inB] at q; omega))) rfl rfl (Nat.le_of_ble_eq_true rfl) rfl (Nat.le_of_ble_eq_true rfl) ?_
      refine ARun.gpure (want := false) (.tf rfl) (fun hg49 => PureOp.loadRef rfl (.gtmp rfl hg49) vk_pl_22 (Nat.le_of_ble_eq_true rfl)) rfl rfl (Nat.le_of_ble_eq_true rfl) rfl (Nat.le_of_ble_eq_true rfl) ?_
      refine ARun.gpure (want := false) (.tf rfl) (fun hg50 => PureOp.lenLst rfl (.gtmp rfl hg50) vk_sl_22) rfl rfl (Nat.le_of_ble_eq_true rfl) rfl (Nat.le_of_ble_eq_true rfl) ?_
      refine ARun.gpure (want := false) (.tf rfl) (fun hg51 => PureOp.move rfl (.tmp rfl)) rfl rfl (Nat.le_of_ble_eq_true rfl) rfl (Nat.le_of_ble_eq_true rfl) ?_
      refine ARun.gpure (want := false) (.tf rfl) (fun hg52 => PureOp.intOp rfl (.gtmp rfl hg52) (.gtmp rfl hg52) rfl) rfl rfl (Nat.le_of_ble_eq_true rfl) rfl (Nat.le_of_ble_eq_true rfl) ?_
      refine ARun.pure (PureOp.pick rfl (.tmp rfl) (fun _ => .bool) (fun hp54 => .gtmp rfl (not_of hp54))) rfl rfl (Nat.le_of_ble_eq_true rfl) ?_
      refine ARun.pure (PureOp.move rfl (.tmp rfl)) rfl rfl (Nat.le_of_ble_eq_true rfl) ?_
      refine ARun.gpure (want := false) (.tf rfl) (fun hg55 => PureOp.fieldPtr rfl (.tmp rfl) vk_fi_49_4_4) rfl rfl (Nat.le_of_ble_eq_true rfl) rfl (Nat.le_of_ble_eq_true rfl) ?_
      refine ARun.gpure (want := false) (.tf rfl) (fun hg56 => PureOp.loadPtr rfl (.gtmp rfl hg56) vk_pl_25 rfl rfl (Nat.le_of_ble_eq_true rfl) (Nat.le_of_ble_eq_true rfl)) rfl rfl (Nat.le_of_ble_eq_true rfl) rfl (Nat.le_of_ble_eq_true rfl) ?_
      refine ARun.gpure (want := false) (.tf rfl) (fun hg57 => PureOp.move rfl (.tmp rfl)) rfl rfl (Nat.le_of_ble_eq_true rfl) rfl (Nat.le_of_ble_eq_true rfl) ?_
      refine ARun.gpure (want := false) (.tf rfl) (fun hg58 => PureOp.indexLst (i := i) rfl (.gtmp rfl hg58) vk_el_25_1 (.gtmp rfl hg58) rfl (by first | omega | (have q := hg58; simp only [Bool.cond_true_left, Bool.cond_false_right, Bool.not_eq_true', Bool.or_eq_false_iff, Bool.not_eq_false', Bool.and_eq_true, Bool.not_not, decide_eq_true_eq, decide_eq_false_iff_not, inB] at q; omega))) rfl rfl (Nat.le_of_ble_eq_true rfl) rfl (Nat.le_of_ble_eq_true rfl) ?_
      refine ARun.gpure (want := false) (.tf rfl) (fun hg59 => PureOp.loadRef rfl (.gtmp rfl hg59) vk_pl_22 (Nat.le_of_ble_eq_true rfl)) rfl rfl (Nat.le_of_ble_eq_true rfl) rfl (Nat.le_of_ble_eq_true rfl) ?_
      refine ARun.gpure (want := false) (.tf rfl) (fun hg60 => PureOp.call rfl (v_l1All (b.cFound.getD i []) 0 1000) ⟨⟨_, (.gtmp rfl hg60), .lst⟩, ⟨_, .int, .int⟩, ⟨_, .int, .int⟩, trivial⟩ vk_ca_58 trivial) rfl rfl (Nat.le_of_ble_eq_true rfl) rfl (Nat.le_of_ble_eq_true rfl) ?_
      refine ARun.gpure (want := false) (.tf rfl) (fun hg61 => PureOp.not rfl (.gtmp rfl hg61)) rfl rfl (Nat.le_of_ble_eq_true rfl) rfl (Nat.le_of_ble_eq_true rfl) ?_
      refine ARun.pure (PureOp.pick rfl (.tmp rfl) (fun _ => .bool) (fun hp63 => .gtmp rfl (not_of hp63))) rfl rfl (Nat.le_of_ble_eq_true rfl) ?_
      refine ARun.pure (PureOp.move rfl (.tmp rfl)) rfl rfl (Nat.le_of_ble_eq_true rfl) ?_
      refine ARun.gpure (want := false) (.tf rfl) (fun hg64 => PureOp.fieldPtr rfl (.tmp rfl) vk_fi_49_3_3) rfl rfl (Nat.le_of_ble_eq_true rfl) rfl (Nat.le_of_ble_eq_true rfl) ?_
      refine ARun.gpure (want := false) (.tf rfl) (fun hg65 => PureOp.loadPtr rfl (.gtmp rfl hg65) vk_pl_47 rfl rfl (Nat.le_of_ble_eq_true rfl) (Nat.le_of_ble_eq_true rfl)) rfl rfl (Nat.le_of_ble_eq_true rfl) rfl (Nat.le_of_ble_eq_true rfl) ?_
      refine ARun.gpure (want := false) (.tf rfl) (fun hg66 => PureOp.move rfl (.tmp rfl)) rfl rfl (Nat.le_of_ble_eq_true rfl) rfl (Nat.le_of_ble_eq_true rfl) ?_
      refine ARun.gpure (want := false) (.tf rfl) (fun hg67 => PureOp.indexLst (i := i) rfl (.gtmp rfl hg67) vk_el_47_1 (.gtmp rfl hg67) rfl (by first | omega | (have q := hg67; simp only [Bool.cond_true_left, Bool.cond_false_right, Bool.not_eq_true', Bool.or_eq_false_iff, Bool.not_eq_false', Bool.and_eq_true, Bool.not_not, decide_eq_true_eq, decide_eq_false_iff_not, inB] at q; omega))) rfl rfl (Nat.le_of_ble_eq_true rfl) rfl (Nat.le_of_ble_eq_true rfl) ?_
      refine ARun.gpure (want := false) (.tf rfl) (fun hg68 => PureOp.loadRef rfl (.gtmp rfl hg68) vk_pl_107 (Nat.le_of_ble_eq_true rfl)) rfl rfl (Nat.le_of_ble_eq_true rfl) rfl (Nat.le_of_ble_eq_true rfl) ?_
      refine ARun.gpure (want := false) (.tf rfl) (fun hg69 => PureOp.move rfl (.tmp rfl)) rfl rfl (Nat.le_of_ble_eq_true rfl) rfl (Nat.le_of_ble_eq_true rfl) ?_
      refine ARun.gpure (want := false) (.tf rfl) (fun hg70 => PureOp.indexLst (i := i) rfl (.gtmp rfl hg70) vk_el_107_1 (.gtmp rfl hg70) rfl (by first | omega | (have q := hg70; simp only [Bool.cond_true_left, Bool.cond_false_right, Bool.not_eq_true', Bool.or_eq_false_iff, Bool.not_eq_false', Bool.and_eq_true, Bool.not_not, decide_eq_true_eq, decide_eq_false_iff_not, inB] at q; omega))) rfl rfl (Nat.le_of_ble_eq_true rfl) rfl (Nat.le_of_ble_eq_true rfl) ?_
      refine ARun.gpure (want := false) (.tf rfl) (fun hg71 => PureOp.loadRef rfl (.gtmp rfl hg71) vk_pl_4 (Nat.le_of_ble_eq_true rfl)) rfl rfl (Nat.le_of_ble_eq_true rfl) rfl (Nat.le_of_ble_eq_true rfl) ?_
      refine ARun.pure (PureOp.pick rfl (.tmp rfl) (fun _ => .bool) (fun hp73 => .gtmp rfl (not_of hp73))) rfl rfl (Nat.le_of_ble_eq_true rfl) ?_
      refine ARun.nil ?_
      refine AW.cond (.tmp rfl) (fun hb74 => ?_) (fun hb74 => ?_)
      · have _u := True.intro
        have hrow : rowOk b i = false := by
          unfold rowOk atB allIn
          have h0 := hb74
          generalize (b.cHeard.getD i []).getD i false = hd at *
          have u1 : decide ((b.cHeard.getD i []).length = b.cCoins.length) = decide (((b.cHeard.getD i []).length : Int) = (b.cCoins.length : Int)) := decide_eq_decide.2 (by omega)
          have u2 : decide ((b.cFound.getD i []).length = b.cCoins.length) = decide (((b.cFound.getD i []).length : Int) = (b.cCoins.length : Int)) := decide_eq_decide.2 (by omega)
          rw [u1, u2]
          have u3 : (b.cFound.getD i []).all (fun x => decide (0 ≤ x ∧ x ≤ 1000)) = (b.cFound.getD i []).all (inB 0 1000) := rfl
          rw [u3]
          revert h0
          generalize decide (((b.cHeard.getD i []).length : Int) = (b.cCoins.length : Int)) = p1
          generalize decide (((b.cFound.getD i []).length : Int) = (b.cCoins.length : Int)) = p2
          generalize (b.cFound.getD i []).all (inB 0 1000) = p3
          cases p1 <;> cases p2 <;> cases p3 <;> cases hd <;> simp
        refine AW.seq ?_
        refine AW.region ?_
        refine ARun.pure (PureOp.assign rfl .bool) rfl rfl (Nat.le_of_ble_eq_true rfl) ?_
        refine ARun.nil ?_
        refine AW.ret (show ResL _ _ [.tmp 2] _ from resB rfl ?_)
        unfold goodBank rowsOk
        rw [all_no hil (by rw [hrow]; rfl), Bool.and_false]
      · have _u := True.intro
        have hrow : rowOk b i = true := by
          unfold rowOk atB allIn
          have h0 := hb74
          generalize (b.cHeard.getD i []).getD i false = hd at *
          have u1 : decide ((b.cHeard.getD i []).length = b.cCoins.length) = decide (((b.cHeard.getD i []).length : Int) = (b.cCoins.length : Int)) := decide_eq_decide.2 (by omega)
          have u2 : decide ((b.cFound.getD i []).length = b.cCoins.length) = decide (((b.cFound.getD i []).length : Int) = (b.cCoins.length : Int)) := decide_eq_decide.2 (by omega)
          rw [u1, u2]
          have u3 : (b.cFound.getD i []).all (fun x => decide (0 ≤ x ∧ x ≤ 1000)) = (b.cFound.getD i []).all (inB 0 1000) := rfl
          rw [u3]
          revert h0
          generalize decide (((b.cHeard.getD i []).length : Int) = (b.cCoins.length : Int)) = p1
          generalize decide (((b.cFound.getD i []).length : Int) = (b.cCoins.length : Int)) = p2
          generalize (b.cFound.getD i []).all (inB 0 1000) = p3
          cases p1 <;> cases p2 <;> cases p3 <;> cases hd <;> simp
        simp only [Bool.cond_true_left, Bool.or_eq_false_iff, Bool.not_eq_false', decide_eq_true_eq, decide_eq_false_iff_not] at hb74
        obtain ⟨⟨⟨w0', w1'⟩, w2'⟩, w3'⟩ := hb74
        refine AW.skip ?_
        refine AW.seq ?_
        refine AW.region ?_
        refine ARun.pure (PureOp.assign rfl .int) rfl rfl (Nat.le_of_ble_eq_true rfl) ?_
        refine ARun.nil ?_
        refine AW.block ?_
        refine AW.loop (ι := Nat) (fun k => ⟨[(1, .one (.ptr 0 5 0 0)), (3, .one (.int .i64 (b.cCoins.length : Int))), (4, .one (.int .i64 (i : Int))), (5, .one (.int .i64 (k : Int)))], [(0, .cells [.lst 1 b.cCoins.length (fun i0 _ => .int .i64 (b.cCoins.getD i0 0)), .lst 1 b.cWays.length (fun i0 _ => .lst 1 ((b.cWays.getD i0 []).length) (fun i1 _ => .int .i64 ((b.cWays.getD i0 []).getD i1 0))), .lst 1 b.cKept.length (fun i0 _ => .int .i64 (b.cKept.getD i0 0)), .lst 1 b.cHeard.length (fun i0 _ => .lst 1 ((b.cHeard.getD i0 []).length) (fun i1 _ => .bool ((b.cHeard.getD i0 []).getD i1 false))), .lst 1 b.cFound.length (fun i0 _ => .lst 1 ((b.cFound.getD i0 []).length) (fun i1 _ => .int .i64 ((b.cFound.getD i0 []).getD i1 0)))])]⟩) (fun k => k ≤ b.cCoins.length ∧ ∀ j, j < k → cellBad b i j = false) (fun k => b.cCoins.length - k) 0 ⟨Nat.zero_le _, fun j hj => absurd hj (by omega)⟩ ⟨⟨⟨_, rfl, rfl⟩, ⟨_, rfl, rfl⟩, ⟨_, rfl, rfl⟩, ⟨_, rfl, rfl⟩, trivial⟩, HeapLe.one rfl trivial⟩ ?_
        intro k hI
        obtain ⟨hk, hcells⟩ := hI
        refine AW.seq ?_
        refine AW.seq ?_
        refine AW.region ?_
        refine ARun.pure (PureOp.move rfl (.tmp rfl)) rfl rfl (Nat.le_of_ble_eq_true rfl) ?_
        refine ARun.pure (PureOp.move rfl (.tmp rfl)) rfl rfl (Nat.le_of_ble_eq_true rfl) ?_
        refine ARun.pure (PureOp.intOp rfl (.tmp rfl) (.tmp rfl) rfl) rfl rfl (Nat.le_of_ble_eq_true rfl) ?_
        refine ARun.nil ?_
        refine AW.cond (.tmp rfl) (fun hb75 => ?_) (fun hb75 => ?_)
        · have _u := True.intro
          replace hb75 := of_decide_eq_true hb75
          have hkl : k < b.cCoins.length := by omega
          have hix := ix_lt hil hkl
          have hin : i * b.cCoins.length ≤ 25 := Nat.le_trans (Nat.mul_le_mul (by omega) hn5) (by omega : 5 * 5 ≤ 25)
          have i4 : i * b.cCoins.length + k < b.cWays.length := by rw [q2']; exact hix
          have i5 : k < (b.cHeard.getD i []).length := by omega
          have i6 : k < (b.cFound.getD i []).length := by omega
          have i7 : k < b.cKept.length := by omega
          refine AW.skip ?_
          refine AW.seq ?_
          refine AW.block ?_
          refine AW.seq ?_
          refine AW.region ?_
          refine ARun.pure (PureOp.fieldPtr rfl (.tmp rfl) vk_fi_49_1_1) rfl rfl (Nat.le_of_ble_eq_true rfl) ?_
          refine ARun.pure (PureOp.loadPtr rfl (.tmp rfl) vk_pl_25 rfl rfl (Nat.le_of_ble_eq_true rfl) (Nat.le_of_ble_eq_true rfl)) rfl rfl (Nat.le_of_ble_eq_true rfl) ?_
          refine ARun.pure (PureOp.move rfl (.tmp rfl)) rfl rfl (Nat.le_of_ble_eq_true rfl) ?_
          refine ARun.pure (PureOp.move rfl (.tmp rfl)) rfl rfl (Nat.le_of_ble_eq_true rfl) ?_
          refine ARun.pure (PureOp.mul (c := ((i * b.cCoins.length : Nat) : Int)) rfl (.tmp rfl) (.tmp rfl) (wrap_mul5 hn5 (by omega))) rfl rfl (Nat.le_of_ble_eq_true rfl) ?_
          refine ARun.pure (PureOp.move rfl (.tmp rfl)) rfl rfl (Nat.le_of_ble_eq_true rfl) ?_
          refine ARun.pure (PureOp.add (c := ((i * b.cCoins.length + k : Nat) : Int)) rfl (.tmp rfl) (.tmp rfl) (by rw [wrap_id (by omega) (by omega)]; omega)) rfl rfl (Nat.le_of_ble_eq_true rfl) ?_
          refine ARun.pure (PureOp.indexLst (i := i * b.cCoins.length + k) rfl (.tmp rfl) vk_el_25_1 (.tmp rfl) rfl (by omega)) rfl rfl (Nat.le_of_ble_eq_true rfl) ?_
          refine ARun.pure (PureOp.loadRef rfl (.tmp rfl) vk_pl_22 (Nat.le_of_ble_eq_true rfl)) rfl rfl (Nat.le_of_ble_eq_true rfl) ?_
          refine ARun.pure (PureOp.assign rfl (.tmp rfl)) rfl rfl (Nat.le_of_ble_eq_true rfl) ?_
          refine ARun.nil ?_
          refine AW.seq ?_
          refine AW.region ?_
          refine ARun.pure (PureOp.move rfl (.tmp rfl)) rfl rfl (Nat.le_of_ble_eq_true rfl) ?_
          refine ARun.pure (PureOp.call rfl (v_l12Way (b.cWays.getD (i * b.cCoins.length + k) [])) ⟨⟨_, (.tmp rfl), .lst⟩, trivial⟩ vk_ca_90 trivial) rfl rfl (Nat.le_of_ble_eq_true rfl) ?_
          refine ARun.pure (PureOp.not rfl (.tmp rfl)) rfl rfl (Nat.le_of_ble_eq_true rfl) ?_
          refine ARun.pure (PureOp.move rfl (.tmp rfl)) rfl rfl (Nat.le_of_ble_eq_true rfl) ?_
          refine ARun.gpure (want := false) (.tf rfl) (fun hg76 => PureOp.fieldPtr rfl (.tmp rfl) vk_fi_49_2_2) rfl rfl (Nat.le_of_ble_eq_true rfl) rfl (Nat.le_of_ble_eq_true rfl) ?_
          refine ARun.gpure (want := false) (.tf rfl) (fun hg77 => PureOp.loadPtr rfl (.gtmp rfl hg77) vk_pl_22 rfl rfl (Nat.le_of_ble_eq_true rfl) (Nat.le_of_ble_eq_true rfl)) rfl rfl (Nat.le_of_ble_eq_true rfl) rfl (Nat.le_of_ble_eq_true rfl) ?_
          refine ARun.gpure (want := false) (.tf rfl) (fun hg78 => PureOp.move rfl (.tmp rfl)) rfl rfl (Nat.le_of_ble_eq_true rfl) rfl (Nat.le_of_ble_eq_true rfl) ?_
          refine ARun.gpure (want := false) (.tf rfl) (fun hg79 => PureOp.indexLst (i := i) rfl (.gtmp rfl hg79) vk_el_22_1 (.gtmp rfl hg79) rfl (by first | omega | (have q := hg79; simp only [Bool.cond_true_left, Bool.cond_false_right, Bool.not_eq_true', Bool.or_eq_false_iff, Bool.not_eq_false', Bool.and_eq_true, Bool.not_not, decide_eq_true_eq, decide_eq_false_iff_not, inB] at q; omega))) rfl rfl (Nat.le_of_ble_eq_true rfl) rfl (Nat.le_of_ble_eq_true rfl) ?_
          refine ARun.gpure (want := false) (.tf rfl) (fun hg80 => PureOp.loadRef rfl (.gtmp rfl hg80) vk_pl_3 (Nat.le_of_ble_eq_true rfl)) rfl rfl (Nat.le_of_ble_eq_true rfl) rfl (Nat.le_of_ble_eq_true rfl) ?_
          refine ARun.gpure (want := false) (.tf rfl) (fun hg81 => PureOp.intOp rfl (.gtmp rfl hg81) .int rfl) rfl rfl (Nat.le_of_ble_eq_true rfl) rfl (Nat.le_of_ble_eq_true rfl) ?_
          refine ARun.gpure (want := false) (.tf rfl) (fun hg82 => PureOp.move rfl (.gtmp rfl hg82)) rfl rfl (Nat.le_of_ble_eq_true rfl) rfl (Nat.le_of_ble_eq_true rfl) ?_
          refine ARun.gpure (want := true) (.gt rfl) (fun hg83 => PureOp.move rfl (.tmp rfl)) rfl rfl (Nat.le_of_ble_eq_true rfl) rfl (Nat.le_of_ble_eq_true rfl) ?_
          refine ARun.gpure (want := true) (.gt rfl) (fun hg84 => PureOp.lenLst rfl (.gtmp rfl hg84) vk_sl_22) rfl rfl (Nat.le_of_ble_eq_true rfl) rfl (Nat.le_of_ble_eq_true rfl) ?_
          refine ARun.gpure (want := true) (.gt rfl) (fun hg85 => PureOp.intOp rfl (.gtmp rfl hg85) .int rfl) rfl rfl (Nat.le_of_ble_eq_true rfl) rfl (Nat.le_of_ble_eq_true rfl) ?_
          refine ARun.gpure (want := false) (.tf rfl) (fun hg86 => PureOp.pick rfl (.gtmp rfl hg86) (fun hp87 => .gtmp rfl (and_mk hg86 hp87)) (fun _ => .bool)) rfl rfl (Nat.le_of_ble_eq_true rfl) rfl (Nat.le_of_ble_eq_true rfl) ?_
          refine ARun.pure (PureOp.pick rfl (.tmp rfl) (fun _ => .bool) (fun hp90 => .gtmp rfl (not_of hp90))) rfl rfl (Nat.le_of_ble_eq_true rfl) ?_
          refine ARun.pure (PureOp.move rfl (.tmp rfl)) rfl rfl (Nat.le_of_ble_eq_true rfl) ?_
          refine ARun.gpure (want := false) (.tf rfl) (fun hg91 => PureOp.move rfl (.tmp rfl)) rfl rfl (Nat.le_of_ble_eq_true rfl) rfl (Nat.le_of_ble_eq_true rfl) ?_
          refine ARun.gpure (want := false) (.tf rfl) (fun hg92 => PureOp.move rfl (.tmp rfl)) rfl rfl (Nat.le_of_ble_eq_true rfl) rfl (Nat.le_of_ble_eq_true rfl) ?_
          refine ARun.gpure (want := false) (.tf rfl) (fun hg93 => PureOp.intOp rfl (.gtmp rfl hg93) (.gtmp rfl hg93) rfl) rfl rfl (Nat.le_of_ble_eq_true rfl) rfl (Nat.le_of_ble_eq_true rfl) ?_
          refine ARun.gpure (want := false) (.tf rfl) (fun hg94 => PureOp.move rfl (.gtmp rfl hg94)) rfl rfl (Nat.le_of_ble_eq_true rfl) rfl (Nat.le_of_ble_eq_true rfl) ?_
          refine ARun.gpure (want := true) (.gt rfl) (fun hg95 => PureOp.move rfl (.tmp rfl)) rfl rfl (Nat.le_of_ble_eq_true rfl) rfl (Nat.le_of_ble_eq_true rfl) ?_
          refine ARun.gpure (want := true) (.gt rfl) (fun hg96 => PureOp.lenLst rfl (.gtmp rfl hg96) vk_sl_22) rfl rfl (Nat.le_of_ble_eq_true rfl) rfl (Nat.le_of_ble_eq_true rfl) ?_
          refine ARun.gpure (want := true) (.gt rfl) (fun hg97 => PureOp.intOp rfl (.gtmp rfl hg97) .int rfl) rfl rfl (Nat.le_of_ble_eq_true rfl) rfl (Nat.le_of_ble_eq_true rfl) ?_
          refine ARun.gpure (want := false) (.tf rfl) (fun hg98 => PureOp.pick rfl (.gtmp rfl hg98) (fun hp99 => .gtmp rfl (and_mk hg98 hp99)) (fun _ => .bool)) rfl rfl (Nat.le_of_ble_eq_true rfl) rfl (Nat.le_of_ble_eq_true rfl) ?_
          refine ARun.pure (PureOp.pick rfl (.tmp rfl) (fun _ => .bool) (fun hp102 => .gtmp rfl (not_of hp102))) rfl rfl (Nat.le_of_ble_eq_true rfl) ?_
          refine ARun.pure (PureOp.move rfl (.tmp rfl)) rfl rfl (Nat.le_of_ble_eq_true rfl) ?_
          refine ARun.gpure (want := false) (.tf rfl) (fun hg103 => PureOp.fieldPtr rfl (.tmp rfl) vk_fi_49_2_2) rfl rfl (Nat.le_of_ble_eq_true rfl) rfl (Nat.le_of_ble_eq_true rfl) ?_
          refine ARun.gpure (want := false) (.tf rfl) (fun hg104 => PureOp.loadPtr rfl (.gtmp rfl hg104) vk_pl_22 rfl rfl (Nat.le_of_ble_eq_true rfl) (Nat.le_of_ble_eq_true rfl)) rfl rfl (Nat.le_of_ble_eq_true rfl) rfl (Nat.le_of_ble_eq_true rfl) ?_
          refine ARun.gpure (want := false) (.tf rfl) (fun hg105 => PureOp.move rfl (.tmp rfl)) rfl rfl (Nat.le_of_ble_eq_true rfl) rfl (Nat.le_of_ble_eq_true rfl) ?_
          refine ARun.gpure (want := false) (.tf rfl) (fun hg106 => PureOp.indexLst (i := i) rfl (.gtmp rfl hg106) vk_el_22_1 (.gtmp rfl hg106) rfl (by first | omega | (have q := hg106; simp only [Bool.cond_true_left, Bool.cond_false_right, Bool.not_eq_true', Bool.or_eq_false_iff, Bool.not_eq_false', Bool.and_eq_true, Bool.not_not, decide_eq_true_eq, decide_eq_false_iff_not, inB] at q; omega))) rfl rfl (Nat.le_of_ble_eq_true rfl) rfl (Nat.le_of_ble_eq_true rfl) ?_
          refine ARun.gpure (want := false) (.tf rfl) (fun hg107 => PureOp.loadRef rfl (.gtmp rfl hg107) vk_pl_3 (Nat.le_of_ble_eq_true rfl)) rfl rfl (Nat.le_of_ble_eq_true rfl) rfl (Nat.le_of_ble_eq_true rfl) ?_
          refine ARun.gpure (want := false) (.tf rfl) (fun hg108 => PureOp.intOp rfl (.gtmp rfl hg108) .int rfl) rfl rfl (Nat.le_of_ble_eq_true rfl) rfl (Nat.le_of_ble_eq_true rfl) ?_
          refine ARun.gpure (want := false) (.tf rfl) (fun hg109 => PureOp.move rfl (.gtmp rfl hg109)) rfl rfl (Nat.le_of_ble_eq_true rfl) rfl (Nat.le_of_ble_eq_true rfl) ?_
          refine ARun.gpure (want := true) (.gt rfl) (fun hg110 => PureOp.fieldPtr rfl (.tmp rfl) vk_fi_49_3_3) rfl rfl (Nat.le_of_ble_eq_true rfl) rfl (Nat.le_of_ble_eq_true rfl) ?_
          refine ARun.gpure (want := true) (.gt rfl) (fun hg111 => PureOp.loadPtr rfl (.gtmp rfl hg111) vk_pl_47 rfl rfl (Nat.le_of_ble_eq_true rfl) (Nat.le_of_ble_eq_true rfl)) rfl rfl (Nat.le_of_ble_eq_true rfl) rfl (Nat.le_of_ble_eq_true rfl) ?_
          refine ARun.gpure (want := true) (.gt rfl) (fun hg112 => PureOp.move rfl (.tmp rfl)) rfl rfl (Nat.le_of_ble_eq_true rfl) rfl (Nat.le_of_ble_eq_true rfl) ?_
          refine ARun.gpure (want := true) (.gt rfl) (fun hg113 => PureOp.indexLst (i := i) rfl (.gtmp rfl hg113) vk_el_47_1 (.gtmp rfl hg113) rfl (by first | omega | (have q := hg113; simp only [Bool.cond_true_left, Bool.cond_false_right, Bool.not_eq_true', Bool.or_eq_false_iff, Bool.not_eq_false', Bool.and_eq_true, Bool.not_not, decide_eq_true_eq, decide_eq_false_iff_not, inB] at q; omega))) rfl rfl (Nat.le_of_ble_eq_true rfl) rfl (Nat.le_of_ble_eq_true rfl) ?_
          refine ARun.gpure (want := true) (.gt rfl) (fun hg114 => PureOp.loadRef rfl (.gtmp rfl hg114) vk_pl_107 (Nat.le_of_ble_eq_true rfl)) rfl rfl (Nat.le_of_ble_eq_true rfl) rfl (Nat.le_of_ble_eq_true rfl) ?_
          refine ARun.gpure (want := true) (.gt rfl) (fun hg115 => PureOp.move rfl (.tmp rfl)) rfl rfl (Nat.le_of_ble_eq_true rfl) rfl (Nat.le_of_ble_eq_true rfl) ?_
          refine ARun.gpure (want := true) (.gt rfl) (fun hg116 => PureOp.indexLst (i := k) rfl (.gtmp rfl hg116) vk_el_107_1 (.gtmp rfl hg116) rfl (by first | omega | (have q := hg116; simp only [Bool.cond_true_left, Bool.cond_false_right, Bool.not_eq_true', Bool.or_eq_false_iff, Bool.not_eq_false', Bool.and_eq_true, Bool.not_not, decide_eq_true_eq, decide_eq_false_iff_not, inB] at q; omega))) rfl rfl (Nat.le_of_ble_eq_true rfl) rfl (Nat.le_of_ble_eq_true rfl) ?_
          refine ARun.gpure (want := true) (.gt rfl) (fun hg117 => PureOp.loadRef rfl (.gtmp rfl hg117) vk_pl_4 (Nat.le_of_ble_eq_true rfl)) rfl rfl (Nat.le_of_ble_eq_true rfl) rfl (Nat.le_of_ble_eq_true rfl) ?_
          refine ARun.gpure (want := false) (.tf rfl) (fun hg118 => PureOp.pick rfl (.gtmp rfl hg118) (fun hp119 => .gtmp rfl (and_mk hg118 hp119)) (fun _ => .bool)) rfl rfl (Nat.le_of_ble_eq_true rfl) rfl (Nat.le_of_ble_eq_true rfl) ?_
          refine ARun.pure (PureOp.pick rfl (.tmp rfl) (fun _ => .bool) (fun hp122 => .gtmp rfl (not_of hp122))) rfl rfl (Nat.le_of_ble_eq_true rfl) ?_
          refine ARun.pure (PureOp.move rfl (.tmp rfl)) rfl rfl (Nat.le_of_ble_eq_true rfl) ?_
          refine ARun.gpure (want := false) (.tf rfl) (fun hg123 => PureOp.fieldPtr rfl (.tmp rfl) vk_fi_49_4_4) rfl rfl (Nat.le_of_ble_eq_true rfl) rfl (Nat.le_of_ble_eq_true rfl) ?_
          refine ARun.gpure (want := false) (.tf rfl) (fun hg124 => PureOp.loadPtr rfl (.gtmp rfl hg124) vk_pl_25 rfl rfl (Nat.le_of_ble_eq_true rfl) (Nat.le_of_ble_eq_true rfl)) rfl rfl (Nat.le_of_ble_eq_true rfl) rfl (Nat.le_of_ble_eq_true rfl) ?_
          refine ARun.gpure (want := false) (.tf rfl) (fun hg125 => PureOp.move rfl (.tmp rfl)) rfl rfl (Nat.le_of_ble_eq_true rfl) rfl (Nat.le_of_ble_eq_true rfl) ?_
          refine ARun.gpure (want := false) (.tf rfl) (fun hg126 => PureOp.indexLst (i := i) rfl (.gtmp rfl hg126) vk_el_25_1 (.gtmp rfl hg126) rfl (by first | omega | (have q := hg126; simp only [Bool.cond_true_left, Bool.cond_false_right, Bool.not_eq_true', Bool.or_eq_false_iff, Bool.not_eq_false', Bool.and_eq_true, Bool.not_not, decide_eq_true_eq, decide_eq_false_iff_not, inB] at q; omega))) rfl rfl (Nat.le_of_ble_eq_true rfl) rfl (Nat.le_of_ble_eq_true rfl) ?_
          refine ARun.gpure (want := false) (.tf rfl) (fun hg127 => PureOp.loadRef rfl (.gtmp rfl hg127) vk_pl_22 (Nat.le_of_ble_eq_true rfl)) rfl rfl (Nat.le_of_ble_eq_true rfl) rfl (Nat.le_of_ble_eq_true rfl) ?_
          refine ARun.gpure (want := false) (.tf rfl) (fun hg128 => PureOp.move rfl (.tmp rfl)) rfl rfl (Nat.le_of_ble_eq_true rfl) rfl (Nat.le_of_ble_eq_true rfl) ?_
          refine ARun.gpure (want := false) (.tf rfl) (fun hg129 => PureOp.indexLst (i := k) rfl (.gtmp rfl hg129) vk_el_22_1 (.gtmp rfl hg129) rfl (by first | omega | (have q := hg129; simp only [Bool.cond_true_left, Bool.cond_false_right, Bool.not_eq_true', Bool.or_eq_false_iff, Bool.not_eq_false', Bool.and_eq_true, Bool.not_not, decide_eq_true_eq, decide_eq_false_iff_not, inB] at q; omega))) rfl rfl (Nat.le_of_ble_eq_true rfl) rfl (Nat.le_of_ble_eq_true rfl) ?_
          refine ARun.gpure (want := false) (.tf rfl) (fun hg130 => PureOp.loadRef rfl (.gtmp rfl hg130) vk_pl_3 (Nat.le_of_ble_eq_true rfl)) rfl rfl (Nat.le_of_ble_eq_true rfl) rfl (Nat.le_of_ble_eq_true rfl) ?_
          refine ARun.gpure (want := false) (.tf rfl) (fun hg131 => PureOp.intOp rfl (.gtmp rfl hg131) .int rfl) rfl rfl (Nat.le_of_ble_eq_true rfl) rfl (Nat.le_of_ble_eq_true rfl) ?_
          refine ARun.gpure (want := false) (.tf rfl) (fun hg132 => PureOp.move rfl (.gtmp rfl hg132)) rfl rfl (Nat.le_of_ble_eq_true rfl) rfl (Nat.le_of_ble_eq_true rfl) ?_
          refine ARun.gpure (want := true) (.gt rfl) (fun hg133 => PureOp.move rfl (.tmp rfl)) rfl rfl (Nat.le_of_ble_eq_true rfl) rfl (Nat.le_of_ble_eq_true rfl) ?_
          refine ARun.gpure (want := true) (.gt rfl) (fun hg134 => PureOp.move rfl (.tmp rfl)) rfl rfl (Nat.le_of_ble_eq_true rfl) rfl (Nat.le_of_ble_eq_true rfl) ?_
          refine ARun.gpure (want := true) (.gt rfl) (fun hg135 => PureOp.intOp rfl (.gtmp rfl hg135) (.gtmp rfl hg135) rfl) rfl rfl (Nat.le_of_ble_eq_true rfl) rfl (Nat.le_of_ble_eq_true rfl) ?_
          refine ARun.gpure (want := true) (.gt rfl) (fun hg136 => PureOp.move rfl (.gtmp rfl hg136)) rfl rfl (Nat.le_of_ble_eq_true rfl) rfl (Nat.le_of_ble_eq_true rfl) ?_
          refine ARun.gpure (want := false) (.gf rfl) (fun hg137 => PureOp.fieldPtr rfl (.tmp rfl) vk_fi_49_2_2) rfl rfl (Nat.le_of_ble_eq_true rfl) rfl (Nat.le_of_ble_eq_true rfl) ?_
          refine ARun.gpure (want := false) (.gf rfl) (fun hg138 => PureOp.loadPtr rfl (.gtmp rfl hg138) vk_pl_22 rfl rfl (Nat.le_of_ble_eq_true rfl) (Nat.le_of_ble_eq_true rfl)) rfl rfl (Nat.le_of_ble_eq_true rfl) rfl (Nat.le_of_ble_eq_true rfl) ?_
          refine ARun.gpure (want := false) (.gf rfl) (fun hg139 => PureOp.move rfl (.tmp rfl)) rfl rfl (Nat.le_of_ble_eq_true rfl) rfl (Nat.le_of_ble_eq_true rfl) ?_
          refine ARun.gpure (want := false) (.gf rfl) (fun hg140 => PureOp.indexLst (i := k) rfl (.gtmp rfl hg140) vk_el_22_1 (.gtmp rfl hg140) rfl (by first | omega | (have q := hg140; simp only [Bool.cond_true_left, Bool.cond_false_right, Bool.not_eq_true', Bool.or_eq_false_iff, Bool.not_eq_false', Bool.and_eq_true, Bool.not_not, decide_eq_true_eq, decide_eq_false_iff_not, inB] at q; omega))) rfl rfl (Nat.le_of_ble_eq_true rfl) rfl (Nat.le_of_ble_eq_true rfl) ?_
          refine ARun.gpure (want := false) (.gf rfl) (fun hg141 => PureOp.loadRef rfl (.gtmp rfl hg141) vk_pl_3 (Nat.le_of_ble_eq_true rfl)) rfl rfl (Nat.le_of_ble_eq_true rfl) rfl (Nat.le_of_ble_eq_true rfl) ?_
          refine ARun.gpure (want := false) (.gf rfl) (fun hg142 => PureOp.intOp rfl (.gtmp rfl hg142) .int rfl) rfl rfl (Nat.le_of_ble_eq_true rfl) rfl (Nat.le_of_ble_eq_true rfl) ?_
          refine ARun.gpure (want := true) (.gt rfl) (fun hg143 => PureOp.pick rfl (.gtmp rfl hg143) (fun _ => .bool) (fun hp145 => .gtmp rfl (and_mk hg143 (not_of hp145)))) rfl rfl (Nat.le_of_ble_eq_true rfl) rfl (Nat.le_of_ble_eq_true rfl) ?_
          refine ARun.gpure (want := false) (.tf rfl) (fun hg146 => PureOp.pick rfl (.gtmp rfl hg146) (fun hp147 => .gtmp rfl (and_mk hg146 hp147)) (fun _ => .bool)) rfl rfl (Nat.le_of_ble_eq_true rfl) rfl (Nat.le_of_ble_eq_true rfl) ?_
          refine ARun.pure (PureOp.pick rfl (.tmp rfl) (fun _ => .bool) (fun hp150 => .gtmp rfl (not_of hp150))) rfl rfl (Nat.le_of_ble_eq_true rfl) ?_
          refine ARun.nil ?_
          refine AW.cond (.tmp rfl) (fun hb151 => ?_) (fun hb151 => ?_)
          · have _u := True.intro
            have hcb : cellBad b i k = true := by
              refine Eq.trans ?_ hb151
              unfold cellBad atI atB
              generalize b.cWays.getD (i * b.cCoins.length + k) [] = way
              have u1 : decide (39 < way.length) = decide ((39 : Int) < (way.length : Int)) := decide_eq_decide.2 (by omega)
              have u2 : decide (0 < way.length) = decide ((0 : Int) < (way.length : Int)) := decide_eq_decide.2 (by omega)
              have u3 : (i == k) = decide ((i : Int) = (k : Int)) := by rw [Bool.eq_iff_iff, beq_iff_eq, decide_eq_true_iff]; omega
              rw [u1, u2, u3]
              simp only [Bool.cond_true_left, Bool.cond_false_right]
            refine AW.seq ?_
            refine AW.region ?_
            refine ARun.pure (PureOp.assign rfl .bool) rfl rfl (Nat.le_of_ble_eq_true rfl) ?_
            refine ARun.nil ?_
            refine AW.ret (show ResL _ _ [.tmp 2] _ from resB rfl ?_)
            have hro : (rowOk b i && cellsOk b i) = false := by unfold cellsOk; rw [all_no hkl (by rw [hcb]; rfl), Bool.and_false]
            unfold goodBank rowsOk
            rw [all_no hil hro, Bool.and_false]
          · have _u := True.intro
            have hcb : cellBad b i k = false := by
              refine Eq.trans ?_ hb151
              unfold cellBad atI atB
              generalize b.cWays.getD (i * b.cCoins.length + k) [] = way
              have u1 : decide (39 < way.length) = decide ((39 : Int) < (way.length : Int)) := decide_eq_decide.2 (by omega)
              have u2 : decide (0 < way.length) = decide ((0 : Int) < (way.length : Int)) := decide_eq_decide.2 (by omega)
              have u3 : (i == k) = decide ((i : Int) = (k : Int)) := by rw [Bool.eq_iff_iff, beq_iff_eq, decide_eq_true_iff]; omega
              rw [u1, u2, u3]
              simp only [Bool.cond_true_left, Bool.cond_false_right]
            have hcell := hcb
            refine AW.skip ?_
            refine AW.region ?_
            refine ARun.pure (PureOp.move rfl (.tmp rfl)) rfl rfl (Nat.le_of_ble_eq_true rfl) ?_
            refine ARun.pure (PureOp.add (c := ((k + 1 : Nat) : Int)) rfl (.tmp rfl) .int (by rw [wrap_id (by omega) (by omega)]; omega)) rfl rfl (Nat.le_of_ble_eq_true rfl) ?_
            refine ARun.pure (PureOp.assign rfl (.tmp rfl)) rfl rfl (Nat.le_of_ble_eq_true rfl) ?_
            refine ARun.nil ?_
            exact ⟨k + 1, ⟨by omega, fun j hj => by rcases Nat.lt_succ_iff_lt_or_eq.1 hj with h | h; (· exact hcells j h); (· rw [h]; exact hcell)⟩, by dsimp only; omega, ⟨⟨⟨_, rfl, rfl⟩, ⟨_, rfl, rfl⟩, ⟨_, rfl, rfl⟩, ⟨_, rfl, rfl⟩, trivial⟩, HeapLe.one rfl trivial⟩⟩
        · have _u := True.intro
          replace hb75 := of_decide_eq_false hb75
          have hkl : ¬ k < b.cCoins.length := by omega
          refine AW.exit ?_
          refine AW.region ?_
          refine ARun.pure (PureOp.move rfl (.tmp rfl)) rfl rfl (Nat.le_of_ble_eq_true rfl) ?_
          refine ARun.pure (PureOp.add (c := ((i + 1 : Nat) : Int)) rfl (.tmp rfl) .int (by rw [wrap_id (by omega) (by omega)]; omega)) rfl rfl (Nat.le_of_ble_eq_true rfl) ?_
          refine ARun.pure (PureOp.assign rfl (.tmp rfl)) rfl rfl (Nat.le_of_ble_eq_true rfl) ?_
          refine ARun.nil ?_
          exact ⟨i + 1, ⟨by omega, succ_yes hrows (by rw [hrow, Bool.true_and]; exact all_yes (fun j hj => by rw [hcells j (by omega)]; rfl))⟩, by dsimp only; omega, ⟨⟨⟨_, rfl, rfl⟩, ⟨_, rfl, rfl⟩, ⟨_, rfl, rfl⟩, trivial⟩, HeapLe.one rfl trivial⟩⟩
    · have _u := True.intro
      replace hb44 := of_decide_eq_false hb44
      have hil : ¬ i < b.cCoins.length := by omega
      refine AW.exit ?_
      refine AW.seq ?_
      refine AW.region ?_
      refine ARun.pure (PureOp.assign rfl .bool) rfl rfl (Nat.le_of_ble_eq_true rfl) ?_
      refine ARun.nil ?_
      refine AW.ret (show ResL _ _ [.tmp 2] _ from resB rfl ?_)
      unfold goodBank rowsOk
      rw [hH, Bool.true_and, all_yes (fun j hj => hrows j (by omega))]
end Go.Proofs.Ytlbnodmebehpiaa
