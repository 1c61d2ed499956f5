/-
  Proved: the law FnExactNewPoll returns true for every input: the program's NewPoll answers what the reference's does, leaves its arguments alone, and hands out memory that nobody else holds. Conditions: none.
-/
import Derived.Test.YtlbnodmebehpiaaNp
import Derived.Test.YtlbnodmebehpiaaLa
import Derived.Test.YtlbnodmebehpiaaLh
import Derived.Test.YtlbnodmebehpiaaLo
import Derived.Test.YtlbnodmebehpiaaLz
import Derived.Test.YtlbnodmebehpiaaLe
import Derived.Test.YtlbnodmebehpiaaVo
namespace Go.Proofs.Ytlbnodmebehpiaa
open Go.ChangeShapes Go.WideShapes Go.ChangeAt Go.RowKit Go.BigFrame Go.Deep
set_option linter.unusedVariables false
set_option linter.unusedSimpArgs false
theorem vl_ag_27_3 : aggB Try.prog 27 3 = true := by kernel_rfl
theorem vl_bo_4 : boolB Try.prog 4 = true := by kernel_rfl
theorem vl_ca_14 : callB Try.prog 14 = true := by kernel_rfl
theorem vl_ca_15 : callB Try.prog 15 = true := by kernel_rfl
theorem vl_ca_16 : callB Try.prog 16 = true := by kernel_rfl
theorem vl_ca_17 : callB Try.prog 17 = true := by kernel_rfl
theorem vl_ca_18 : callB Try.prog 18 = true := by kernel_rfl
theorem vl_ca_19 : callB Try.prog 19 = true := by kernel_rfl
theorem vl_ca_20 : callB Try.prog 20 = true := by kernel_rfl
theorem vl_ca_21 : callB Try.prog 21 = true := by kernel_rfl
theorem vl_sl_22 : sliceB Try.prog 22 = true := by kernel_rfl
theorem vl_sz_27_3 : sizeB Try.prog 27 3 = true := by kernel_rfl
theorem newPoll_cnt (l : List Int) : cvPoll (newPollV l).1 ≤ 1000 := by
  unfold newPollV
  by_cases h : okAges l = true
  · rw [if_pos h]
    have h5 := (inB_true (and_l (show (inB 1 5 (l.length : Int) && l.all (inB 0 9)) = true from h))).2
    have e : ∀ l : List Int, ctL crNode (pollNodes l) = l.length * 4 := fun l => by
      induction l with
      | nil => rfl
      | cons a l ih =>
        show ctL crNode (⟨0, -1, a, [], 0⟩ :: pollNodes l) = _
        unfold ctL at ih ⊢
        rw [List.map_cons, List.sum_cons, ih, List.length_cons]
        have : crNode ⟨0, -1, a, [], 0⟩ = 4 := rfl
        omega
    show 0 + ctL crNode (pollNodes l) + ctL crLetter [] + ctL (ctL c1) [] ≤ 1000
    rw [e]
    have e1 : ctL crLetter [] = 0 := rfl
    have e2 : ctL (ctL (c1 (α := Int))) [] = 0 := rfl
    rw [e1, e2]; omega
  · rw [if_neg h]; decide

theorem opensC_3 : OpensC Try.prog 3 (fun x : Int => [.int .i64 x]) := OpensC.int Try.underlying3
theorem opensC_22 : OpensC Try.prog 22 (fun x : List Int => [.lst 1 x.length (fun i0 _ => .int .i64 (x.getD i0 0))]) := OpensC.slice (0 : Int) Try.underlying22 (by kernel_rfl) (by decide) opensC_3 (fun _ => rfl) (fun l i j _ hj => match j, hj with | 0, _ => rfl | _ + 1, h => absurd h (by omega))

theorem law_NewPoll (x0 : List Int) : Fn Try.prog 3 [.one (.lst 1 x0.length (fun i0 _ => .int .i64 (x0.getD i0 0)))] (.one (.bool true)) := by
  have hct0 : ctL c1 x0 = x0.length := ctL_one (fun _ => rfl) x0
  have hcnt : cvPoll (newPollV x0).1 ≤ 1000 := newPoll_cnt x0
  refine Fn.of_body (fn := Try.f3) Try.func3 rfl (Nat.le_of_ble_eq_true rfl) trivial ?_
  intro w0
  show AW _ 93 _ _ _ _
  refine AW.seq ?_
  refine AW.region ?_
  refine ARun.pure (PureOp.assign rfl .bool) rfl rfl (Nat.le_of_ble_eq_true rfl) ?_
  refine ARun.nil ?_
  refine AW.seq ?_
  refine AW.seq ?_
  refine AW.region ?_
  refine ARun.pure (PureOp.move rfl (.tmp rfl)) rfl rfl (Nat.le_of_ble_eq_true rfl) ?_
  refine ARun.pure (PureOp.lenLst rfl (.tmp rfl) vl_sl_22) rfl rfl (Nat.le_of_ble_eq_true rfl) ?_
  refine ARun.pure (PureOp.intOp rfl (.tmp rfl) .int rfl) rfl rfl (Nat.le_of_ble_eq_true rfl) ?_
  refine ARun.nil ?_
  refine AW.cond (.tmp rfl) (fun hb1 => ?_) (fun hb1 => ?_)
  · have _u := True.intro
    replace hb1 := of_decide_eq_true hb1
    refine AW.seq ?_
    refine AW.region ?_
    refine ARun.pure (PureOp.assign rfl .bool) rfl rfl (Nat.le_of_ble_eq_true rfl) ?_
    refine ARun.nil ?_
    refine AW.ret (show ResL _ _ [.tmp 2] _ from resB rfl ?_)
    rfl
  · have _u := True.intro
    replace hb1 := of_decide_eq_false hb1
    refine AW.skip ?_
    refine AW.seq ?_
    refine AW.region ?_
    refine ARun.pure (PureOp.move rfl (.tmp rfl)) rfl rfl (Nat.le_of_ble_eq_true rfl) ?_
    refine ARun.prod (K := 0) rfl (v_toIntS x0 (Small.mk (by omega))) ⟨rfl, (by repeat first | exact trivial | refine ⟨by decide, by first | rfl | exact trivial | (intro i j; first | rfl | exact getD_no rfl | (dsimp only; split <;> first | rfl | exact getD_no rfl)), ?_⟩)⟩ ⟨⟨_, (.tmp rfl), .lst⟩, trivial⟩ vl_ca_15 rfl rfl rfl rfl rfl (Nat.le_of_ble_eq_true rfl) ?_
    refine ARun.prod (K := 1) rfl (v_sNewPoll x0) ⟨rfl, (by repeat first | exact trivial | refine ⟨by decide, by first | rfl | exact trivial | (intro i j; first | rfl | exact getD_no rfl | (dsimp only; split <;> first | rfl | exact getD_no rfl)), ?_⟩)⟩ ⟨⟨_, (.tmp rfl), (Vw.cast (Vw.tre rfl (Nat.le_of_ble_eq_true rfl)) rfl)⟩, trivial⟩ vl_ca_14 rfl rfl rfl rfl rfl (Nat.le_of_ble_eq_true rfl) ?_
    refine ARun.pure (PureOp.move rfl (.tmp rfl)) rfl rfl (Nat.le_of_ble_eq_true rfl) ?_
    refine ARun.pure (PureOp.ext2a rfl (.tmp rfl)) rfl rfl (Nat.le_of_ble_eq_true rfl) ?_
    refine ARun.pure (PureOp.ext2b rfl (.tmp rfl)) rfl rfl (Nat.le_of_ble_eq_true rfl) ?_
    refine ARun.alloc (id := 2) (l := [.con (.slice none 0 0), .con (.slice none 0 0), .con (.slice none 0 0)]) (z := (.agg #[.slice none 0 0, .slice none 0 0, .slice none 0 0])) rfl (by kernel_rfl) (fun _ _ _ => ⟨_, _, rfl, rfl, ⟨_, _, rfl, rfl, ⟨_, _, rfl, rfl, rfl⟩⟩⟩) ⟨rfl, (by repeat first | exact trivial | refine ⟨by decide, by first | rfl | exact trivial | (intro i j; first | rfl | exact getD_no rfl | (dsimp only; split <;> first | rfl | exact getD_no rfl)), ?_⟩)⟩ rfl rfl rfl (Nat.le_of_ble_eq_true rfl) ?_
    refine ARun.store rfl (.tmp rfl) (.tmp rfl) (SV.cells_of (by exact ⟨trivial, trivial, trivial, trivial⟩)) rfl (Nat.le_of_ble_eq_true rfl) vl_sz_27_3 rfl rfl ?_
    refine ARun.pure (PureOp.assign rfl (.tmp rfl)) rfl rfl (Nat.le_of_ble_eq_true rfl) ?_
    refine ARun.nil ?_
    refine AW.seq ?_
    refine AW.region ?_
    refine ARun.pure (PureOp.move rfl (.tmp rfl)) rfl rfl (Nat.le_of_ble_eq_true rfl) ?_
    refine ARun.prod (K := 3) rfl (v_toIntS x0 (Small.mk (by omega))) ⟨rfl, (by repeat first | exact trivial | refine ⟨by decide, by first | rfl | exact trivial | (intro i j; first | rfl | exact getD_no rfl | (dsimp only; split <;> first | rfl | exact getD_no rfl)), ?_⟩)⟩ ⟨⟨_, (.tmp rfl), .lst⟩, trivial⟩ vl_ca_15 rfl rfl rfl rfl rfl (Nat.le_of_ble_eq_true rfl) ?_
    refine ARun.pure (PureOp.assign rfl (.tmp rfl)) rfl rfl (Nat.le_of_ble_eq_true rfl) ?_
    refine ARun.nil ?_
    refine AW.seq ?_
    refine AW.region ?_
    refine ARun.pure (PureOp.move rfl (.tmp rfl)) rfl rfl (Nat.le_of_ble_eq_true rfl) ?_
    refine ARun.prod (K := 4) rfl (v_iNewPoll x0) ⟨rfl, (by repeat first | exact trivial | refine ⟨by decide, by first | rfl | exact trivial | (intro i j; first | rfl | exact getD_no rfl | (dsimp only; split <;> first | rfl | exact getD_no rfl)), ?_⟩)⟩ ⟨⟨_, (.tmp rfl), (Vw.cast (Vw.tre rfl (Nat.le_of_ble_eq_true rfl)) rfl)⟩, trivial⟩ vl_ca_16 rfl rfl rfl rfl rfl (Nat.le_of_ble_eq_true rfl) ?_
    refine ARun.pure (PureOp.move rfl (.tmp rfl)) rfl rfl (Nat.le_of_ble_eq_true rfl) ?_
    refine ARun.pure (PureOp.ext2a rfl (.tmp rfl)) rfl rfl (Nat.le_of_ble_eq_true rfl) ?_
    refine ARun.pure (PureOp.ext2b rfl (.tmp rfl)) rfl rfl (Nat.le_of_ble_eq_true rfl) ?_
    refine ARun.alloc (id := 5) (l := [.con (.slice none 0 0), .con (.slice none 0 0), .con (.slice none 0 0)]) (z := (.agg #[.slice none 0 0, .slice none 0 0, .slice none 0 0])) rfl (by kernel_rfl) (fun _ _ _ => ⟨_, _, rfl, rfl, ⟨_, _, rfl, rfl, ⟨_, _, rfl, rfl, rfl⟩⟩⟩) ⟨rfl, (by repeat first | exact trivial | refine ⟨by decide, by first | rfl | exact trivial | (intro i j; first | rfl | exact getD_no rfl | (dsimp only; split <;> first | rfl | exact getD_no rfl)), ?_⟩)⟩ rfl rfl rfl (Nat.le_of_ble_eq_true rfl) ?_
    refine ARun.store rfl (.tmp rfl) (.tmp rfl) (SV.cells_of (by exact ⟨trivial, trivial, trivial, trivial⟩)) rfl (Nat.le_of_ble_eq_true rfl) vl_sz_27_3 rfl rfl ?_
    refine ARun.pure (PureOp.assign rfl (.tmp rfl)) rfl rfl (Nat.le_of_ble_eq_true rfl) ?_
    refine ARun.nil ?_
    refine AW.seq ?_
    refine AW.seq ?_
    refine AW.region ?_
    refine ARun.pure (PureOp.loadPtrAgg rfl (.tmp rfl) vl_ag_27_3 rfl rfl (Nat.le_of_ble_eq_true rfl) (Nat.le_of_ble_eq_true rfl)) rfl rfl (Nat.le_of_ble_eq_true rfl) ?_
    refine ARun.pure (PureOp.loadPtrAgg rfl (.tmp rfl) vl_ag_27_3 rfl rfl (Nat.le_of_ble_eq_true rfl) (Nat.le_of_ble_eq_true rfl)) rfl rfl (Nat.le_of_ble_eq_true rfl) ?_
    refine ARun.pure (PureOp.call rfl (v_eqPoll ((newPollV x0).1) ((newPollV x0).1)) ⟨⟨_, (.tmp rfl), ⟨(Vw.cast (Vw.tre rfl (Nat.le_of_ble_eq_true rfl)) rfl), (Vw.cast (Vw.tre rfl (Nat.le_of_ble_eq_true rfl)) rfl), (Vw.cast (Vw.tre rfl (Nat.le_of_ble_eq_true rfl)) rfl), trivial⟩⟩, ⟨_, (.tmp rfl), ⟨(Vw.cast (Vw.tre rfl (Nat.le_of_ble_eq_true rfl)) rfl), (Vw.cast (Vw.tre rfl (Nat.le_of_ble_eq_true rfl)) rfl), (Vw.cast (Vw.tre rfl (Nat.le_of_ble_eq_true rfl)) rfl), trivial⟩⟩, trivial⟩ vl_ca_17 trivial) rfl rfl (Nat.le_of_ble_eq_true rfl) ?_
    refine ARun.pure (PureOp.not rfl (.tmp rfl)) rfl rfl (Nat.le_of_ble_eq_true rfl) ?_
    refine ARun.pure (PureOp.move rfl (.tmp rfl)) rfl rfl (Nat.le_of_ble_eq_true rfl) ?_
    refine ARun.gpure (want := false) (.tf rfl) (fun hg2 => PureOp.move rfl (.tmp rfl)) rfl rfl (Nat.le_of_ble_eq_true rfl) rfl (Nat.le_of_ble_eq_true rfl) ?_
    refine ARun.gpure (want := false) (.tf rfl) (fun hg3 => PureOp.move rfl (.tmp rfl)) rfl rfl (Nat.le_of_ble_eq_true rfl) rfl (Nat.le_of_ble_eq_true rfl) ?_
    refine ARun.gpure (want := false) (.tf rfl) (fun hg4 => PureOp.boolNe rfl (.gtmp rfl hg4) (.gtmp rfl hg4) vl_bo_4) rfl rfl (Nat.le_of_ble_eq_true rfl) rfl (Nat.le_of_ble_eq_true rfl) ?_
    refine ARun.pure (PureOp.pick rfl (.tmp rfl) (fun _ => .bool) (fun hp6 => .gtmp rfl (not_of hp6))) rfl rfl (Nat.le_of_ble_eq_true rfl) ?_
    refine ARun.nil ?_
    refine AW.cond (.tmp rfl) (fun hb7 => ?_) (fun hb7 => ?_)
    · have _u := True.intro
      exact absurd (show (cond (!(decide (((newPollV x0).1) = ((newPollV x0).1)))) true (!(((newPollV x0).2) == ((newPollV x0).2)))) = false by first | (simp; done) | (rw [cast_neg]; simp; done)) (by rw [hb7]; simp)
      --end
    · have _u := True.intro
      refine AW.skip ?_
      refine AW.seq ?_
      refine AW.seq ?_
      refine AW.region ?_
      refine ARun.pure (PureOp.move rfl (.tmp rfl)) rfl rfl (Nat.le_of_ble_eq_true rfl) ?_
      refine ARun.pure (PureOp.move rfl (.tmp rfl)) rfl rfl (Nat.le_of_ble_eq_true rfl) ?_
      refine ARun.prod (K := 6) rfl (v_toIntS x0 (Small.mk (by omega))) ⟨rfl, (by repeat first | exact trivial | refine ⟨by decide, by first | rfl | exact trivial | (intro i j; first | rfl | exact getD_no rfl | (dsimp only; split <;> first | rfl | exact getD_no rfl)), ?_⟩)⟩ ⟨⟨_, (.tmp rfl), .lst⟩, trivial⟩ vl_ca_15 rfl rfl rfl rfl rfl (Nat.le_of_ble_eq_true rfl) ?_
      refine ARun.pure (PureOp.call rfl (v_eqIntS x0 x0) ⟨⟨_, (.tmp rfl), (Vw.cast (Vw.tre rfl (Nat.le_of_ble_eq_true rfl)) rfl)⟩, ⟨_, (.tmp rfl), (Vw.cast (Vw.tre rfl (Nat.le_of_ble_eq_true rfl)) rfl)⟩, trivial⟩ vl_ca_18 trivial) rfl rfl (Nat.le_of_ble_eq_true rfl) ?_
      refine ARun.pure (PureOp.not rfl (.tmp rfl)) rfl rfl (Nat.le_of_ble_eq_true rfl) ?_
      refine ARun.nil ?_
      refine AW.cond (.tmp rfl) (fun hb8 => ?_) (fun hb8 => ?_)
      · have _u := True.intro
        replace hb8 := of_decide_eq_false (of_not hb8)
        exact absurd rfl hb8
        --end
      · have _u := True.intro
        replace hb8 := of_decide_eq_true (not_f hb8)
        refine AW.skip ?_
        refine AW.seq ?_
        refine AW.region ?_
        refine ARun.pure (PureOp.assign rfl .int) rfl rfl (Nat.le_of_ble_eq_true rfl) ?_
        refine ARun.nil ?_
        refine AW.seq ?_
        refine AW.region ?_
        refine ARun.pure (PureOp.move rfl (.tmp rfl)) rfl rfl (Nat.le_of_ble_eq_true rfl) ?_
        refine ARun.pure (PureOp.move rfl (.tmp rfl)) rfl rfl (Nat.le_of_ble_eq_true rfl) ?_
        refine ARun.mark (id := 3) (q0 := 0) (X' := fun q => if q = 0 then .lst 1 ((mkL c1 mkI x0 1).length) (fun i0 _ => .int .i64 ((mkL c1 mkI x0 1).getD i0 0)) else (fun p => ([.lst 1 x0.length (fun i0 _ => .int .i64 (x0.getD i0 0))] : List AV).getD p (.con undef)) q) rfl (m_IntS x0 1 ⟨by omega, by omega⟩) vl_ca_19 trivial (.tmp rfl) rfl rfl rfl (Nat.le_of_ble_eq_true rfl) (fun p hp _ => match p, hp with | 0, _ => rfl | _ + 1, h => absurd h (by simp [SV.leaves])) rfl trivial (fun p hp _ => match p, hp with | 0, _ => if_pos rfl | _ + 1, h => absurd h (by simp [SV.leaves])) (fun q _ hne => if_neg (fun e => hne 0 (Nat.zero_lt_one) rfl e)) ⟨(.tmp rfl), trivial, trivial⟩ rfl rfl (Nat.le_of_ble_eq_true rfl) ?_
        refine ARun.pure (PureOp.assign rfl (.tmp rfl)) rfl rfl (Nat.le_of_ble_eq_true rfl) ?_
        refine ARun.nil ?_
        refine AW.seq ?_
        refine AW.seq ?_
        refine AW.region ?_
        refine ARun.pure (PureOp.move rfl (.tmp rfl)) rfl rfl (Nat.le_of_ble_eq_true rfl) ?_
        refine ARun.pure (PureOp.intOp rfl (.tmp rfl) .int rfl) rfl rfl (Nat.le_of_ble_eq_true rfl) ?_
        refine ARun.pure (PureOp.move rfl (.tmp rfl)) rfl rfl (Nat.le_of_ble_eq_true rfl) ?_
        refine ARun.gpure (want := false) (.tf rfl) (fun hg9 => PureOp.loadPtrAgg rfl (.tmp rfl) vl_ag_27_3 rfl rfl (Nat.le_of_ble_eq_true rfl) (Nat.le_of_ble_eq_true rfl)) rfl rfl (Nat.le_of_ble_eq_true rfl) rfl (Nat.le_of_ble_eq_true rfl) ?_
        refine ARun.gpure (want := false) (.tf rfl) (fun hg10 => PureOp.loadPtrAgg rfl (.tmp rfl) vl_ag_27_3 rfl rfl (Nat.le_of_ble_eq_true rfl) (Nat.le_of_ble_eq_true rfl)) rfl rfl (Nat.le_of_ble_eq_true rfl) rfl (Nat.le_of_ble_eq_true rfl) ?_
        refine ARun.gpure (want := false) (.tf rfl) (fun hg11 => PureOp.call rfl (v_eqPoll ((newPollV x0).1) ((newPollV x0).1)) ⟨⟨_, (.gtmp rfl hg11), ⟨(Vw.cast (Vw.tre rfl (Nat.le_of_ble_eq_true rfl)) rfl), (Vw.cast (Vw.tre rfl (Nat.le_of_ble_eq_true rfl)) rfl), (Vw.cast (Vw.tre rfl (Nat.le_of_ble_eq_true rfl)) rfl), trivial⟩⟩, ⟨_, (.gtmp rfl hg11), ⟨(Vw.cast (Vw.tre rfl (Nat.le_of_ble_eq_true rfl)) rfl), (Vw.cast (Vw.tre rfl (Nat.le_of_ble_eq_true rfl)) rfl), (Vw.cast (Vw.tre rfl (Nat.le_of_ble_eq_true rfl)) rfl), trivial⟩⟩, trivial⟩ vl_ca_17 trivial) rfl rfl (Nat.le_of_ble_eq_true rfl) rfl (Nat.le_of_ble_eq_true rfl) ?_
        refine ARun.gpure (want := false) (.tf rfl) (fun hg12 => PureOp.not rfl (.gtmp rfl hg12)) rfl rfl (Nat.le_of_ble_eq_true rfl) rfl (Nat.le_of_ble_eq_true rfl) ?_
        refine ARun.pure (PureOp.pick rfl (.tmp rfl) (fun _ => .bool) (fun hp14 => .gtmp rfl (not_of hp14))) rfl rfl (Nat.le_of_ble_eq_true rfl) ?_
        refine ARun.pure (PureOp.move rfl (.tmp rfl)) rfl rfl (Nat.le_of_ble_eq_true rfl) ?_
        refine ARun.gpure (want := false) (.tf rfl) (fun hg15 => PureOp.move rfl (.tmp rfl)) rfl rfl (Nat.le_of_ble_eq_true rfl) rfl (Nat.le_of_ble_eq_true rfl) ?_
        refine ARun.gpure (want := false) (.tf rfl) (fun hg16 => PureOp.move rfl (.tmp rfl)) rfl rfl (Nat.le_of_ble_eq_true rfl) rfl (Nat.le_of_ble_eq_true rfl) ?_
        refine ARun.gpure (want := false) (.tf rfl) (fun hg17 => PureOp.boolNe rfl (.gtmp rfl hg17) (.gtmp rfl hg17) vl_bo_4) rfl rfl (Nat.le_of_ble_eq_true rfl) rfl (Nat.le_of_ble_eq_true rfl) ?_
        refine ARun.pure (PureOp.pick rfl (.tmp rfl) (fun _ => .bool) (fun hp19 => .gtmp rfl (not_of hp19))) rfl rfl (Nat.le_of_ble_eq_true rfl) ?_
        refine ARun.nil ?_
        refine AW.cond (.tmp rfl) (fun hb20 => ?_) (fun hb20 => ?_)
        · have _u := True.intro
          exact absurd (show (cond (cond (decide (((1 + ctL c1 x0 : Nat) : Int) < 0)) true (!(decide (((newPollV x0).1) = ((newPollV x0).1))))) true (!(((newPollV x0).2) == ((newPollV x0).2)))) = false by first | (simp; done) | (rw [cast_neg]; simp; done)) (by rw [hb20]; simp)
          --end
        · have _u := True.intro
          refine AW.skip ?_
          refine AW.seq ?_
          refine AW.region ?_
          refine ARun.pure (PureOp.assign rfl .int) rfl rfl (Nat.le_of_ble_eq_true rfl) ?_
          refine ARun.nil ?_
          refine AW.seq ?_
          refine AW.region ?_
          refine ARun.pure (PureOp.loadPtrAgg rfl (.tmp rfl) vl_ag_27_3 rfl rfl (Nat.le_of_ble_eq_true rfl) (Nat.le_of_ble_eq_true rfl)) rfl rfl (Nat.le_of_ble_eq_true rfl) ?_
          refine ARun.pure (PureOp.move rfl (.tmp rfl)) rfl rfl (Nat.le_of_ble_eq_true rfl) ?_
          refine ARun.mark (id := 4) (q0 := 0) (X' := fun q => if q < 3 then (fun p => ([.lst 5 (((mvPoll ((newPollV x0).1) 1).nodes).length) (fun i0 j0 => ([.int .i64 ((((mvPoll ((newPollV x0).1) 1).nodes).getD i0 (default : GNode)).term), .int .i64 ((((mvPoll ((newPollV x0).1) 1).nodes).getD i0 (default : GNode)).voted), .int .i64 ((((mvPoll ((newPollV x0).1) 1).nodes).getD i0 (default : GNode)).age), .lst 1 (((((mvPoll ((newPollV x0).1) 1).nodes).getD i0 (default : GNode)).heard).length) (fun i1 _ => .int .i64 (((((mvPoll ((newPollV x0).1) 1).nodes).getD i0 (default : GNode)).heard).getD i1 0)), .int .i64 ((((mvPoll ((newPollV x0).1) 1).nodes).getD i0 (default : GNode)).role)] : List AV).getD j0 (.con undef)), .lst 5 (((mvPoll ((newPollV x0).1) 1).letters).length) (fun i0 j0 => ([.int .i64 ((((mvPoll ((newPollV x0).1) 1).letters).getD i0 (default : GLetter)).from_), .int .i64 ((((mvPoll ((newPollV x0).1) 1).letters).getD i0 (default : GLetter)).to), .int .i64 ((((mvPoll ((newPollV x0).1) 1).letters).getD i0 (default : GLetter)).term), .bool ((((mvPoll ((newPollV x0).1) 1).letters).getD i0 (default : GLetter)).ask), .int .i64 ((((mvPoll ((newPollV x0).1) 1).letters).getD i0 (default : GLetter)).age)] : List AV).getD j0 (.con undef)), .lst 1 (((mvPoll ((newPollV x0).1) 1).leaders).length) (fun i0 _ => .lst 1 ((((mvPoll ((newPollV x0).1) 1).leaders).getD i0 []).length) (fun i1 _ => .int .i64 ((((mvPoll ((newPollV x0).1) 1).leaders).getD i0 []).getD i1 0)))] : List AV).getD p (.con undef)) q else (fun p => ([.lst 5 ((((newPollV x0).1).nodes).length) (fun i0 j0 => ([.int .i64 (((((newPollV x0).1).nodes).getD i0 (default : GNode)).term), .int .i64 (((((newPollV x0).1).nodes).getD i0 (default : GNode)).voted), .int .i64 (((((newPollV x0).1).nodes).getD i0 (default : GNode)).age), .lst 1 ((((((newPollV x0).1).nodes).getD i0 (default : GNode)).heard).length) (fun i1 _ => .int .i64 ((((((newPollV x0).1).nodes).getD i0 (default : GNode)).heard).getD i1 0)), .int .i64 (((((newPollV x0).1).nodes).getD i0 (default : GNode)).role)] : List AV).getD j0 (.con undef)), .lst 5 ((((newPollV x0).1).letters).length) (fun i0 j0 => ([.int .i64 (((((newPollV x0).1).letters).getD i0 (default : GLetter)).from_), .int .i64 (((((newPollV x0).1).letters).getD i0 (default : GLetter)).to), .int .i64 (((((newPollV x0).1).letters).getD i0 (default : GLetter)).term), .bool (((((newPollV x0).1).letters).getD i0 (default : GLetter)).ask), .int .i64 (((((newPollV x0).1).letters).getD i0 (default : GLetter)).age)] : List AV).getD j0 (.con undef)), .lst 1 ((((newPollV x0).1).leaders).length) (fun i0 _ => .lst 1 (((((newPollV x0).1).leaders).getD i0 []).length) (fun i1 _ => .int .i64 (((((newPollV x0).1).leaders).getD i0 []).getD i1 0))), .bool ((newPollV x0).2)] : List AV).getD p (.con undef)) q) rfl (m_Poll ((newPollV x0).1) 1 ⟨by omega, by omega⟩) vl_ca_20 trivial (.tmp rfl) rfl rfl rfl (Nat.le_of_ble_eq_true rfl) (fun p hp _ => match p, hp with | 0, _ => rfl | 1, _ => rfl | 2, _ => rfl | _ + 3, h => absurd h (by simp [SV.leaves])) rfl rfl (fun p hp _ => match p, hp with | 0, _ => rfl | 1, _ => rfl | 2, _ => rfl | _ + 3, h => absurd h (by simp [SV.leaves])) (fun q hq hne => match q, hq, hne with | 0, _, h => absurd rfl (h 0 (Nat.le_of_ble_eq_true rfl) rfl) | 1, _, h => absurd rfl (h 1 (Nat.le_of_ble_eq_true rfl) rfl) | 2, _, h => absurd rfl (h 2 (Nat.le_of_ble_eq_true rfl) rfl) | q + 3, _, _ => if_neg (by omega)) ⟨(.tmp rfl), trivial, trivial⟩ rfl rfl (Nat.le_of_ble_eq_true rfl) ?_
          refine ARun.pure (PureOp.assign rfl (.tmp rfl)) rfl rfl (Nat.le_of_ble_eq_true rfl) ?_
          refine ARun.nil ?_
          refine AW.seq ?_
          refine AW.region ?_
          refine ARun.pure (PureOp.assign rfl .int) rfl rfl (Nat.le_of_ble_eq_true rfl) ?_
          refine ARun.nil ?_
          refine AW.seq ?_
          refine AW.region ?_
          refine ARun.pure (PureOp.loadPtrAgg rfl (.tmp rfl) vl_ag_27_3 rfl rfl (Nat.le_of_ble_eq_true rfl) (Nat.le_of_ble_eq_true rfl)) rfl rfl (Nat.le_of_ble_eq_true rfl) ?_
          refine ARun.pure (PureOp.move rfl (.tmp rfl)) rfl rfl (Nat.le_of_ble_eq_true rfl) ?_
          refine ARun.pure (PureOp.call rfl (h_Poll ((newPollV x0).1) (mvPoll ((newPollV x0).1) 1) 1 rfl ⟨by omega, by omega⟩) ⟨⟨_, (.tmp rfl), ⟨(Vw.cast (Vw.tre rfl (Nat.le_of_ble_eq_true rfl)) rfl), (Vw.cast (Vw.tre rfl (Nat.le_of_ble_eq_true rfl)) rfl), (Vw.cast (Vw.tre rfl (Nat.le_of_ble_eq_true rfl)) rfl), trivial⟩⟩, ⟨_, (.tmp rfl), .int⟩, trivial⟩ vl_ca_21 trivial) rfl rfl (Nat.le_of_ble_eq_true rfl) ?_
          refine ARun.pure (PureOp.assign rfl (.tmp rfl)) rfl rfl (Nat.le_of_ble_eq_true rfl) ?_
          refine ARun.nil ?_
          refine AW.seq ?_
          refine AW.seq ?_
          refine AW.region ?_
          refine ARun.pure (PureOp.move rfl (.tmp rfl)) rfl rfl (Nat.le_of_ble_eq_true rfl) ?_
          refine ARun.pure (PureOp.intOp rfl (.tmp rfl) .int rfl) rfl rfl (Nat.le_of_ble_eq_true rfl) ?_
          refine ARun.nil ?_
          refine AW.cond (.tmp rfl) (fun hb21 => ?_) (fun hb21 => ?_)
          · have _u := True.intro
            replace hb21 := of_decide_eq_true hb21
            exact absurd hb21 (by omega)
            --end
          · have _u := True.intro
            replace hb21 := of_decide_eq_false hb21
            refine AW.skip ?_
            refine AW.seq ?_
            refine AW.seq ?_
            refine AW.region ?_
            refine ARun.pure (PureOp.move rfl (.tmp rfl)) rfl rfl (Nat.le_of_ble_eq_true rfl) ?_
            refine ARun.pure (PureOp.move rfl (.tmp rfl)) rfl rfl (Nat.le_of_ble_eq_true rfl) ?_
            refine ARun.pure (PureOp.intOp rfl (.tmp rfl) (.tmp rfl) rfl) rfl rfl (Nat.le_of_ble_eq_true rfl) ?_
            refine ARun.nil ?_
            refine AW.cond (.tmp rfl) (fun hb22 => ?_) (fun hb22 => ?_)
            · have _u := True.intro
              replace hb22 := of_decide_eq_false (of_not hb22)
              exact absurd rfl hb22
              --end
            · have _u := True.intro
              replace hb22 := of_decide_eq_true (not_f hb22)
              refine AW.skip ?_
              refine AW.seq ?_
              refine AW.region ?_
              refine ARun.pure (PureOp.move rfl (.tmp rfl)) rfl rfl (Nat.le_of_ble_eq_true rfl) ?_
              refine ARun.prod (K := 7) rfl (v_toIntS x0 (Small.mk (by omega))) ⟨rfl, (by repeat first | exact trivial | refine ⟨by decide, by first | rfl | exact trivial | (intro i j; first | rfl | exact getD_no rfl | (dsimp only; split <;> first | rfl | exact getD_no rfl)), ?_⟩)⟩ ⟨⟨_, (.tmp rfl), .lst⟩, trivial⟩ vl_ca_15 rfl rfl rfl rfl rfl (Nat.le_of_ble_eq_true rfl) ?_
              refine ARun.prod (K := 8) rfl (v_iNewPoll x0) ⟨rfl, (by repeat first | exact trivial | refine ⟨by decide, by first | rfl | exact trivial | (intro i j; first | rfl | exact getD_no rfl | (dsimp only; split <;> first | rfl | exact getD_no rfl)), ?_⟩)⟩ ⟨⟨_, (.tmp rfl), (Vw.cast (Vw.tre rfl (Nat.le_of_ble_eq_true rfl)) rfl)⟩, trivial⟩ vl_ca_16 rfl rfl rfl rfl rfl (Nat.le_of_ble_eq_true rfl) ?_
              refine ARun.pure (PureOp.move rfl (.tmp rfl)) rfl rfl (Nat.le_of_ble_eq_true rfl) ?_
              refine ARun.pure (PureOp.ext2a rfl (.tmp rfl)) rfl rfl (Nat.le_of_ble_eq_true rfl) ?_
              refine ARun.pure (PureOp.ext2b rfl (.tmp rfl)) rfl rfl (Nat.le_of_ble_eq_true rfl) ?_
              refine ARun.alloc (id := 9) (l := [.con (.slice none 0 0), .con (.slice none 0 0), .con (.slice none 0 0)]) (z := (.agg #[.slice none 0 0, .slice none 0 0, .slice none 0 0])) rfl (by kernel_rfl) (fun _ _ _ => ⟨_, _, rfl, rfl, ⟨_, _, rfl, rfl, ⟨_, _, rfl, rfl, rfl⟩⟩⟩) ⟨rfl, (by repeat first | exact trivial | refine ⟨by decide, by first | rfl | exact trivial | (intro i j; first | rfl | exact getD_no rfl | (dsimp only; split <;> first | rfl | exact getD_no rfl)), ?_⟩)⟩ rfl rfl rfl (Nat.le_of_ble_eq_true rfl) ?_
              refine ARun.store rfl (.tmp rfl) (.tmp rfl) (SV.cells_of (by exact ⟨trivial, trivial, trivial, trivial⟩)) rfl (Nat.le_of_ble_eq_true rfl) vl_sz_27_3 rfl rfl ?_
              refine ARun.pure (PureOp.assign rfl (.tmp rfl)) rfl rfl (Nat.le_of_ble_eq_true rfl) ?_
              refine ARun.nil ?_
              refine AW.seq ?_
              refine AW.seq ?_
              refine AW.region ?_
              refine ARun.pure (PureOp.loadPtrAgg rfl (.tmp rfl) vl_ag_27_3 rfl rfl (Nat.le_of_ble_eq_true rfl) (Nat.le_of_ble_eq_true rfl)) rfl rfl (Nat.le_of_ble_eq_true rfl) ?_
              refine ARun.pure (PureOp.loadPtrAgg rfl (.tmp rfl) vl_ag_27_3 rfl rfl (Nat.le_of_ble_eq_true rfl) (Nat.le_of_ble_eq_true rfl)) rfl rfl (Nat.le_of_ble_eq_true rfl) ?_
              refine ARun.pure (PureOp.call rfl (v_eqPoll ((newPollV x0).1) ((newPollV x0).1)) ⟨⟨_, (.tmp rfl), ⟨(Vw.cast (Vw.tre rfl (Nat.le_of_ble_eq_true rfl)) rfl), (Vw.cast (Vw.tre rfl (Nat.le_of_ble_eq_true rfl)) rfl), (Vw.cast (Vw.tre rfl (Nat.le_of_ble_eq_true rfl)) rfl), trivial⟩⟩, ⟨_, (.tmp rfl), ⟨(Vw.cast (Vw.tre rfl (Nat.le_of_ble_eq_true rfl)) rfl), (Vw.cast (Vw.tre rfl (Nat.le_of_ble_eq_true rfl)) rfl), (Vw.cast (Vw.tre rfl (Nat.le_of_ble_eq_true rfl)) rfl), trivial⟩⟩, trivial⟩ vl_ca_17 trivial) rfl rfl (Nat.le_of_ble_eq_true rfl) ?_
              refine ARun.pure (PureOp.not rfl (.tmp rfl)) rfl rfl (Nat.le_of_ble_eq_true rfl) ?_
              refine ARun.pure (PureOp.move rfl (.tmp rfl)) rfl rfl (Nat.le_of_ble_eq_true rfl) ?_
              refine ARun.gpure (want := false) (.tf rfl) (fun hg23 => PureOp.move rfl (.tmp rfl)) rfl rfl (Nat.le_of_ble_eq_true rfl) rfl (Nat.le_of_ble_eq_true rfl) ?_
              refine ARun.gpure (want := false) (.tf rfl) (fun hg24 => PureOp.move rfl (.tmp rfl)) rfl rfl (Nat.le_of_ble_eq_true rfl) rfl (Nat.le_of_ble_eq_true rfl) ?_
              refine ARun.gpure (want := false) (.tf rfl) (fun hg25 => PureOp.boolNe rfl (.gtmp rfl hg25) (.gtmp rfl hg25) vl_bo_4) rfl rfl (Nat.le_of_ble_eq_true rfl) rfl (Nat.le_of_ble_eq_true rfl) ?_
              refine ARun.pure (PureOp.pick rfl (.tmp rfl) (fun _ => .bool) (fun hp27 => .gtmp rfl (not_of hp27))) rfl rfl (Nat.le_of_ble_eq_true rfl) ?_
              refine ARun.nil ?_
              refine AW.cond (.tmp rfl) (fun hb28 => ?_) (fun hb28 => ?_)
              · have _u := True.intro
                exact absurd (show (cond (!(decide (((newPollV x0).1) = ((newPollV x0).1)))) true (!(((newPollV x0).2) == ((newPollV x0).2)))) = false by first | (simp; done) | (rw [cast_neg]; simp; done)) (by rw [hb28]; simp)
                --end
              · have _u := True.intro
                refine AW.skip ?_
                refine AW.seq ?_
                refine AW.region ?_
                refine ARun.pure (PureOp.assign rfl .int) rfl rfl (Nat.le_of_ble_eq_true rfl) ?_
                refine ARun.nil ?_
                refine AW.seq ?_
                refine AW.region ?_
                refine ARun.pure (PureOp.loadPtrAgg rfl (.tmp rfl) vl_ag_27_3 rfl rfl (Nat.le_of_ble_eq_true rfl) (Nat.le_of_ble_eq_true rfl)) rfl rfl (Nat.le_of_ble_eq_true rfl) ?_
                refine ARun.pure (PureOp.move rfl (.tmp rfl)) rfl rfl (Nat.le_of_ble_eq_true rfl) ?_
                refine ARun.pure (PureOp.call rfl (h_Poll ((newPollV x0).1) (mvPoll ((newPollV x0).1) 1) 1 rfl ⟨by omega, by omega⟩) ⟨⟨_, (.tmp rfl), ⟨(Vw.cast (Vw.tre rfl (Nat.le_of_ble_eq_true rfl)) rfl), (Vw.cast (Vw.tre rfl (Nat.le_of_ble_eq_true rfl)) rfl), (Vw.cast (Vw.tre rfl (Nat.le_of_ble_eq_true rfl)) rfl), trivial⟩⟩, ⟨_, (.tmp rfl), .int⟩, trivial⟩ vl_ca_21 trivial) rfl rfl (Nat.le_of_ble_eq_true rfl) ?_
                refine ARun.pure (PureOp.assign rfl (.tmp rfl)) rfl rfl (Nat.le_of_ble_eq_true rfl) ?_
                refine ARun.nil ?_
                refine AW.seq ?_
                refine AW.seq ?_
                refine AW.region ?_
                refine ARun.pure (PureOp.move rfl (.tmp rfl)) rfl rfl (Nat.le_of_ble_eq_true rfl) ?_
                refine ARun.pure (PureOp.intOp rfl (.tmp rfl) .int rfl) rfl rfl (Nat.le_of_ble_eq_true rfl) ?_
                refine ARun.nil ?_
                refine AW.cond (.tmp rfl) (fun hb29 => ?_) (fun hb29 => ?_)
                · have _u := True.intro
                  replace hb29 := of_decide_eq_true hb29
                  exact absurd hb29 (by omega)
                  --end
                · have _u := True.intro
                  replace hb29 := of_decide_eq_false hb29
                  refine AW.skip ?_
                  refine AW.seq ?_
                  refine AW.seq ?_
                  refine AW.region ?_
                  refine ARun.pure (PureOp.move rfl (.tmp rfl)) rfl rfl (Nat.le_of_ble_eq_true rfl) ?_
                  refine ARun.pure (PureOp.move rfl (.tmp rfl)) rfl rfl (Nat.le_of_ble_eq_true rfl) ?_
                  refine ARun.pure (PureOp.intOp rfl (.tmp rfl) (.tmp rfl) rfl) rfl rfl (Nat.le_of_ble_eq_true rfl) ?_
                  refine ARun.nil ?_
                  refine AW.cond (.tmp rfl) (fun hb30 => ?_) (fun hb30 => ?_)
                  · have _u := True.intro
                    replace hb30 := of_decide_eq_false (of_not hb30)
                    exact absurd rfl hb30
                    --end
                  · have _u := True.intro
                    replace hb30 := of_decide_eq_true (not_f hb30)
                    refine AW.skip ?_
                    refine AW.seq ?_
                    refine AW.region ?_
                    refine ARun.pure (PureOp.assign rfl .bool) rfl rfl (Nat.le_of_ble_eq_true rfl) ?_
                    refine ARun.nil ?_
                    refine AW.ret (show ResL _ _ [.tmp 2] _ from resB rfl ?_)
                    rfl

set_option maxRecDepth 100000 in
theorem lifted_NewPoll (os : Os) (started : os.Started) (H : Type) (enc : TypeId × Value → H) :
    ReturnsInHanded {} Try.checked os 3 .any (Rows.fnExactNewPollSpec.pre6 enc Try.prog Try.f3 Rows.fnExactNewPollRow.domain false) (Rows.fnExactNewPollSpec.post enc Try.prog Try.f3 false true false false) := by
  refine returnsInHanded_of_change (C := Try.checked) own started (by kernel_rfl) Try.func3
    (ChangeSpec.witness6 (enc := enc) (C := Try.checked) false ⟨#[], #[.slice none 0 0], []⟩ 8 (by kernel_rfl) (by kernel_rfl) (by kernel_rfl) (by kernel_rfl)) ?_
  intro W base args ds gs before hval0 hW hcnd _
  have hval : ∀ (j : Nat) t v, Try.f3.params[j]? = some t → args[j]? = some v → Value.okWide Try.prog W .any base t v := hval0
  have hW' := hW
  obtain ⟨p, q, hA0, hV, rfl, hfz, hnd⟩ := hW
  have hA : DataW.TrodAll enc Try.prog W 0 (fun _ => true) true Try.f3.params.toList args.toList ds p := hA0
  rw [Try.params3] at hA hval
  obtain ⟨v0, vs0, d0, ds0, p0, q0, hargs, rfl, rfl, h0, r0⟩ := trodAll_cons hA
  obtain ⟨rfl, rfl, rfl⟩ := trodAll_nil r0
  obtain rfl : args = #[v0] := by cases args; simp_all
  obtain ⟨rfl, rfl⟩ := trodVars_none hV
  obtain ⟨x0, R0⟩ := OpensC.arg opensC_22 h0
  have E0 : DS W (· < W.heap.size) (.one (.lst 1 x0.length (fun i0 _ => .int .i64 (x0.getD i0 0)))) v0 := DS.one_of (by obtain ⟨a, n, c, rfl⟩ := okWide_slice Try.underlying22 (hval 0 22 v0 rfl rfl); rfl) R0
  clear hA0 hval0
  refine (law_NewPoll x0 W _ _ (fun _ h => h) ⟨_, _, rfl, E0, rfl⟩).mono fun e W' ⟨he, hg⟩ => ?_
  subst he
  exact ⟨_, rfl, law_post hW' rfl laidOut (by kernel_rfl) hg rfl rfl Try.underlying4⟩
/-- The statement. -/
theorem proved_NewPoll : Rows.FnExactNewPollSaid :=
  OpenClaim.holds_of_wide 3 Try.f3 rfl rfl rfl rfl rfl rfl rfl ⟨rfl, rfl, rfl, rfl, rfl⟩ rfl rfl rfl rfl rfl (by kernel_rfl) Try.func3 (by kernel_rfl)
    (of_decide_eq_true (by kernel_rfl)) (by unfold Func.isWrapper; first | (rw [if_pos (by decide +kernel)]; kernel_rfl) | (rw [if_neg (by decide +kernel)]; exact ⟨rfl, rfl⟩))
    (fun os started H enc _ => lifted_NewPoll os started H enc)
#print axioms proved_NewPoll
end Go.Proofs.Ytlbnodmebehpiaa
