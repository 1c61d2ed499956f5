/-
  Is the picture whole: the reference's and the program's answer.
-/
import Derived.Test.YtlbnodmebehpiaaBi
namespace Go.Proofs.Ytlbnodmebehpiaa
open Go.ChangeShapes Go.WideShapes Go.ChangeAt Go.RowKit Go.BigFrame Go.Deep
set_option linter.unusedVariables false
set_option linter.unusedSimpArgs false
theorem vt_ag_49_5 : aggB Try.prog 49 5 = true := by kernel_rfl
theorem vt_ca_34 : callB Try.prog 34 = true := by kernel_rfl
theorem vt_ca_92 : callB Try.prog 92 = true := by kernel_rfl
theorem vt_ca_93 : callB Try.prog 93 = true := by kernel_rfl
theorem vt_ca_94 : callB Try.prog 94 = true := by kernel_rfl
theorem vt_el_107_1 : elemB Try.prog 107 1 = true := by kernel_rfl
theorem vt_el_22_1 : elemB Try.prog 22 1 = true := by kernel_rfl
theorem vt_el_47_1 : elemB Try.prog 47 1 = true := by kernel_rfl
theorem vt_fi_49_2_2 : fieldB Try.prog 49 2 2 = true := by kernel_rfl
theorem vt_fi_49_3_3 : fieldB Try.prog 49 3 3 = true := by kernel_rfl
theorem vt_pl_107 : plainB Try.prog 107 = true := by kernel_rfl
theorem vt_pl_22 : plainB Try.prog 22 = true := by kernel_rfl
theorem vt_pl_3 : plainB Try.prog 3 = true := by kernel_rfl
theorem vt_pl_4 : plainB Try.prog 4 = true := by kernel_rfl
theorem vt_pl_47 : plainB Try.prog 47 = true := by kernel_rfl
theorem vt_sl_107 : sliceB Try.prog 107 = true := by kernel_rfl
theorem vt_sl_22 : sliceB Try.prog 22 = true := by kernel_rfl
theorem vt_sl_47 : sliceB Try.prog 47 = true := by kernel_rfl
/-- Is every channel into node i recorded (but its own)? -/
def takenRow (b : GBank) (i : Nat) : Bool := (List.range (b.cHeard.getD i []).length).all fun f => !(cond (!decide ((f : Int) = (i : Int))) (!((b.cHeard.getD i []).getD f false)) false)
def takenAt (b : GBank) (i : Nat) : Bool := !decide (b.cKept.getD i 0 < 0) && takenRow b i
def takenB (b : GBank) : Bool := (List.range b.cKept.length).all (takenAt b)
theorem goodBank_len {b : GBank} (h : goodBank b = true) : b.cHeard.length = b.cKept.length := by
  unfold goodBank headOk at h
  simp only [Bool.and_eq_true, decide_eq_true_eq] at h
  obtain ⟨⟨_, _, _, h3, _, h5, _⟩, _⟩ := h
  omega

theorem v_l12Taken (b : GBank) (hh : b.cHeard.length = b.cKept.length) : Fn Try.prog 93 [.agg [.lst 1 b.cCoins.length (fun i0 _ => .int .i64 (b.cCoins.getD i0 0)), .lst 1 b.cWays.length (fun i0 _ => .lst 1 ((b.cWays.getD i0 []).length) (fun i1 _ => .int .i64 ((b.cWays.getD i0 []).getD i1 0))), .lst 1 b.cKept.length (fun i0 _ => .int .i64 (b.cKept.getD i0 0)), .lst 1 b.cHeard.length (fun i0 _ => .lst 1 ((b.cHeard.getD i0 []).length) (fun i1 _ => .bool ((b.cHeard.getD i0 []).getD i1 false))), .lst 1 b.cFound.length (fun i0 _ => .lst 1 ((b.cFound.getD i0 []).length) (fun i1 _ => .int .i64 ((b.cFound.getD i0 []).getD i1 0)))]] (.one (.bool (takenB b))) := by
  refine Fn.of_body (fn := Try.f93) Try.func93 rfl (Nat.le_of_ble_eq_true rfl) trivial ?_
  intro w0
  show AW _ 37 _ _ _ _
  have hno : takenB b = (List.range (b.cKept.length)).all (takenAt b) := by unfold takenB; first | rfl | rw [hh]
  refine AW.seq ?_
  refine AW.region ?_
  refine ARun.box (id := 0) rfl (.tmp rfl) (SV.cells_of (by exact ⟨trivial, trivial, trivial, trivial, trivial, trivial⟩)) ⟨rfl, (by repeat first | exact trivial | refine ⟨by decide, by first | rfl | (intro i j; first | rfl | (dsimp only; split <;> rfl)), ?_⟩)⟩ rfl rfl rfl (Nat.le_of_ble_eq_true rfl) ?_
  refine ARun.pure (PureOp.assign rfl .bool) rfl rfl (Nat.le_of_ble_eq_true rfl) ?_
  refine ARun.nil ?_
  refine AW.seq ?_
  refine AW.seq ?_
  refine AW.region ?_
  refine ARun.pure (PureOp.fieldPtr rfl (.tmp rfl) vt_fi_49_2_2) rfl rfl (Nat.le_of_ble_eq_true rfl) ?_
  refine ARun.pure (PureOp.loadPtr rfl (.tmp rfl) vt_pl_22 rfl rfl (Nat.le_of_ble_eq_true rfl) (Nat.le_of_ble_eq_true rfl)) rfl rfl (Nat.le_of_ble_eq_true rfl) ?_
  refine ARun.pure (PureOp.lenLst rfl (.tmp rfl) vt_sl_22) rfl rfl (Nat.le_of_ble_eq_true rfl) ?_
  refine ARun.pure (PureOp.move rfl .int) rfl rfl (Nat.le_of_ble_eq_true rfl) ?_
  refine ARun.nil ?_
  refine AW.block ?_
  refine AW.loop (ι := Nat) (fun i => ⟨[(1, .one (.ptr 0 5 0 0)), (8, .one (.lst 1 b.cKept.length (fun i0 _ => .int .i64 (b.cKept.getD i0 0)))), (9, .one (.int .i64 (b.cKept.length : Int))), (10, .one (.int .i64 (i : Int)))], [(0, .cells [.lst 1 b.cCoins.length (fun i0 _ => .int .i64 (b.cCoins.getD i0 0)), .lst 1 b.cWays.length (fun i0 _ => .lst 1 ((b.cWays.getD i0 []).length) (fun i1 _ => .int .i64 ((b.cWays.getD i0 []).getD i1 0))), .lst 1 b.cKept.length (fun i0 _ => .int .i64 (b.cKept.getD i0 0)), .lst 1 b.cHeard.length (fun i0 _ => .lst 1 ((b.cHeard.getD i0 []).length) (fun i1 _ => .bool ((b.cHeard.getD i0 []).getD i1 false))), .lst 1 b.cFound.length (fun i0 _ => .lst 1 ((b.cFound.getD i0 []).length) (fun i1 _ => .int .i64 ((b.cFound.getD i0 []).getD i1 0)))])]⟩) (fun i => i ≤ b.cKept.length ∧ ∀ j, j < i → (takenAt b) j = true) (fun i => b.cKept.length - i) 0 ⟨Nat.zero_le _, fun j hj => absurd hj (by omega)⟩ ⟨⟨⟨_, rfl, rfl⟩, ⟨_, rfl, rfl⟩, ⟨_, rfl, rfl⟩, ⟨_, rfl, rfl⟩, trivial⟩, HeapLe.one rfl trivial⟩ ?_
  intro i hI
  obtain ⟨hi, his⟩ := hI
  refine AW.bound (t := 8) rfl fun hbd0 => ?_
  refine AW.seq ?_
  refine AW.region ?_
  refine ARun.pure (PureOp.intOp rfl (.tmp rfl) (.tmp rfl) rfl) rfl rfl (Nat.le_of_ble_eq_true rfl) ?_
  refine ARun.nil ?_
  refine AW.seq ?_
  refine AW.cond (.tmp rfl) (fun hb1 => ?_) (fun hb1 => ?_)
  · have _u := True.intro
    replace hb1 := of_decide_eq_true hb1
    have hil : i < b.cKept.length := by omega
    have hi1 : i < b.cHeard.length := by omega
    have hi2 : i < b.cKept.length := by omega
    refine AW.skip ?_
    refine AW.seq ?_
    refine AW.block ?_
    refine AW.seq ?_
    refine AW.region ?_
    refine ARun.pure (PureOp.move rfl (.tmp rfl)) rfl rfl (Nat.le_of_ble_eq_true rfl) ?_
    refine ARun.pure (PureOp.indexLst (i := i) rfl (.tmp rfl) vt_el_22_1 (.tmp rfl) rfl (by omega)) rfl rfl (Nat.le_of_ble_eq_true rfl) ?_
    refine ARun.pure (PureOp.loadRef rfl (.tmp rfl) vt_pl_3 (Nat.le_of_ble_eq_true rfl)) rfl rfl (Nat.le_of_ble_eq_true rfl) ?_
    refine ARun.pure (PureOp.assign rfl (.tmp rfl)) rfl rfl (Nat.le_of_ble_eq_true rfl) ?_
    refine ARun.pure (PureOp.assign rfl (.tmp rfl)) rfl rfl (Nat.le_of_ble_eq_true rfl) ?_
    refine ARun.nil ?_
    refine AW.seq ?_
    refine AW.seq ?_
    refine AW.region ?_
    refine ARun.pure (PureOp.move rfl (.tmp rfl)) rfl rfl (Nat.le_of_ble_eq_true rfl) ?_
    refine ARun.pure (PureOp.intOp rfl (.tmp rfl) .int rfl) rfl rfl (Nat.le_of_ble_eq_true rfl) ?_
    refine ARun.nil ?_
    refine AW.cond (.tmp rfl) (fun hb2 => ?_) (fun hb2 => ?_)
    · have _u := True.intro
      refine AW.seq ?_
      refine AW.region ?_
      refine ARun.pure (PureOp.assign rfl .bool) rfl rfl (Nat.le_of_ble_eq_true rfl) ?_
      refine ARun.nil ?_
      refine AW.ret (show ResL _ _ [.tmp 2] _ from resB rfl ?_)
      have ht : takenAt b i = false := by unfold takenAt; rw [hb2]; rfl
      rw [hno]; exact (all_no hil ht).symm
    · have _u := True.intro
      have hk0 := hb2
      refine AW.skip ?_
      refine AW.seq ?_
      refine AW.region ?_
      refine ARun.pure (PureOp.fieldPtr rfl (.tmp rfl) vt_fi_49_3_3) rfl rfl (Nat.le_of_ble_eq_true rfl) ?_
      refine ARun.pure (PureOp.loadPtr rfl (.tmp rfl) vt_pl_47 rfl rfl (Nat.le_of_ble_eq_true rfl) (Nat.le_of_ble_eq_true rfl)) rfl rfl (Nat.le_of_ble_eq_true rfl) ?_
      refine ARun.pure (PureOp.move rfl (.tmp rfl)) rfl rfl (Nat.le_of_ble_eq_true rfl) ?_
      refine ARun.pure (PureOp.indexLst (i := i) rfl (.tmp rfl) vt_el_47_1 (.tmp rfl) rfl (by omega)) rfl rfl (Nat.le_of_ble_eq_true rfl) ?_
      refine ARun.pure (PureOp.loadRef rfl (.tmp rfl) vt_pl_107 (Nat.le_of_ble_eq_true rfl)) rfl rfl (Nat.le_of_ble_eq_true rfl) ?_
      refine ARun.pure (PureOp.lenLst rfl (.tmp rfl) vt_sl_107) rfl rfl (Nat.le_of_ble_eq_true rfl) ?_
      refine ARun.pure (PureOp.move rfl .int) rfl rfl (Nat.le_of_ble_eq_true rfl) ?_
      refine ARun.nil ?_
      refine AW.block ?_
      refine AW.loop (ι := Nat) (fun f => ⟨[(1, .one (.ptr 0 5 0 0)), (3, .one (.int .i64 (i : Int))), (8, .one (.lst 1 b.cKept.length (fun i0 _ => .int .i64 (b.cKept.getD i0 0)))), (9, .one (.int .i64 (b.cKept.length : Int))), (10, .one (.int .i64 (i : Int))), (21, .one (.lst 1 ((b.cHeard.getD i []).length) (fun i0 _ => .bool ((b.cHeard.getD i []).getD i0 false)))), (22, .one (.int .i64 (((b.cHeard.getD i []).length : Nat) : Int))), (23, .one (.int .i64 (f : Int)))], [(0, .cells [.lst 1 b.cCoins.length (fun i0 _ => .int .i64 (b.cCoins.getD i0 0)), .lst 1 b.cWays.length (fun i0 _ => .lst 1 ((b.cWays.getD i0 []).length) (fun i1 _ => .int .i64 ((b.cWays.getD i0 []).getD i1 0))), .lst 1 b.cKept.length (fun i0 _ => .int .i64 (b.cKept.getD i0 0)), .lst 1 b.cHeard.length (fun i0 _ => .lst 1 ((b.cHeard.getD i0 []).length) (fun i1 _ => .bool ((b.cHeard.getD i0 []).getD i1 false))), .lst 1 b.cFound.length (fun i0 _ => .lst 1 ((b.cFound.getD i0 []).length) (fun i1 _ => .int .i64 ((b.cFound.getD i0 []).getD i1 0)))])]⟩) (fun f => f ≤ (b.cHeard.getD i []).length ∧ ∀ j, j < f → (fun (f : Nat) => !(cond (!decide ((f : Int) = (i : Int))) (!((b.cHeard.getD i []).getD f false)) false)) j = true) (fun f => (b.cHeard.getD i []).length - f) 0 ⟨Nat.zero_le _, fun j hj => absurd hj (by omega)⟩ ⟨⟨⟨_, rfl, rfl⟩, ⟨_, rfl, rfl⟩, ⟨_, rfl, rfl⟩, ⟨_, rfl, rfl⟩, ⟨_, rfl, rfl⟩, ⟨_, rfl, rfl⟩, ⟨_, rfl, rfl⟩, ⟨_, rfl, rfl⟩, trivial⟩, HeapLe.one rfl trivial⟩ ?_
      intro f hI
      obtain ⟨hf, hfs⟩ := hI
      refine AW.bound (t := 21) rfl fun hbd1 => ?_
      refine AW.seq ?_
      refine AW.region ?_
      refine ARun.pure (PureOp.intOp rfl (.tmp rfl) (.tmp rfl) rfl) rfl rfl (Nat.le_of_ble_eq_true rfl) ?_
      refine ARun.nil ?_
      refine AW.seq ?_
      refine AW.cond (.tmp rfl) (fun hb3 => ?_) (fun hb3 => ?_)
      · have _u := True.intro
        replace hb3 := of_decide_eq_true hb3
        have hfl : f < (b.cHeard.getD i []).length := by omega
        refine AW.skip ?_
        refine AW.seq ?_
        refine AW.block ?_
        refine AW.seq ?_
        refine AW.region ?_
        refine ARun.pure (PureOp.move rfl (.tmp rfl)) rfl rfl (Nat.le_of_ble_eq_true rfl) ?_
        refine ARun.pure (PureOp.indexLst (i := f) rfl (.tmp rfl) vt_el_107_1 (.tmp rfl) rfl (by omega)) rfl rfl (Nat.le_of_ble_eq_true rfl) ?_
        refine ARun.pure (PureOp.loadRef rfl (.tmp rfl) vt_pl_4 (Nat.le_of_ble_eq_true rfl)) rfl rfl (Nat.le_of_ble_eq_true rfl) ?_
        refine ARun.pure (PureOp.assign rfl (.tmp rfl)) rfl rfl (Nat.le_of_ble_eq_true rfl) ?_
        refine ARun.pure (PureOp.assign rfl (.tmp rfl)) rfl rfl (Nat.le_of_ble_eq_true rfl) ?_
        refine ARun.nil ?_
        refine AW.seq ?_
        refine AW.region ?_
        refine ARun.pure (PureOp.move rfl (.tmp rfl)) rfl rfl (Nat.le_of_ble_eq_true rfl) ?_
        refine ARun.pure (PureOp.move rfl (.tmp rfl)) rfl rfl (Nat.le_of_ble_eq_true rfl) ?_
        refine ARun.pure (PureOp.intOp rfl (.tmp rfl) (.tmp rfl) rfl) rfl rfl (Nat.le_of_ble_eq_true rfl) ?_
        refine ARun.pure (PureOp.move rfl (.tmp rfl)) rfl rfl (Nat.le_of_ble_eq_true rfl) ?_
        refine ARun.gpure (want := true) (.tt rfl) (fun hg4 => PureOp.move rfl (.tmp rfl)) rfl rfl (Nat.le_of_ble_eq_true rfl) rfl (Nat.le_of_ble_eq_true rfl) ?_
        refine ARun.gpure (want := true) (.tt rfl) (fun hg5 => PureOp.not rfl (.gtmp rfl hg5)) rfl rfl (Nat.le_of_ble_eq_true rfl) rfl (Nat.le_of_ble_eq_true rfl) ?_
        refine ARun.pure (PureOp.pick rfl (.tmp rfl) (fun hp6 => .gtmp rfl hp6) (fun _ => .bool)) rfl rfl (Nat.le_of_ble_eq_true rfl) ?_
        refine ARun.nil ?_
        refine AW.cond (.tmp rfl) (fun hb8 => ?_) (fun hb8 => ?_)
        · have _u := True.intro
          refine AW.seq ?_
          refine AW.region ?_
          refine ARun.pure (PureOp.assign rfl .bool) rfl rfl (Nat.le_of_ble_eq_true rfl) ?_
          refine ARun.nil ?_
          refine AW.ret (show ResL _ _ [.tmp 2] _ from resB rfl ?_)
          have hr : takenRow b i = false := all_no hfl (by rw [hb8]; rfl)
          have ht : takenAt b i = false := by unfold takenAt; rw [hr, Bool.and_false]
          rw [hno]; exact (all_no hil ht).symm
        · have _u := True.intro
          have hcell := hb8
          refine AW.skip ?_
          refine AW.region ?_
          refine ARun.pure (PureOp.add (c := ((f + 1 : Nat) : Int)) rfl (.tmp rfl) .int (by rw [wrap_id (by omega) (by omega)]; omega)) rfl rfl (Nat.le_of_ble_eq_true rfl) ?_
          refine ARun.pure (PureOp.move rfl (.tmp rfl)) rfl rfl (Nat.le_of_ble_eq_true rfl) ?_
          refine ARun.nil ?_
          exact ⟨f + 1, ⟨by omega, succ_yes hfs (by rw [hcell]; rfl)⟩, by dsimp only; omega, ⟨⟨⟨_, rfl, rfl⟩, ⟨_, rfl, rfl⟩, ⟨_, rfl, rfl⟩, ⟨_, rfl, rfl⟩, ⟨_, rfl, rfl⟩, ⟨_, rfl, rfl⟩, ⟨_, rfl, rfl⟩, ⟨_, rfl, rfl⟩, trivial⟩, HeapLe.one rfl trivial⟩⟩
      · have _u := True.intro
        replace hb3 := of_decide_eq_false hb3
        have hfl : ¬ f < (b.cHeard.getD i []).length := by omega
        have hrow : takenRow b i = true := all_yes (fun j hj => hfs j (by omega))
        refine AW.exit ?_
        refine AW.region ?_
        refine ARun.pure (PureOp.add (c := ((i + 1 : Nat) : Int)) rfl (.tmp rfl) .int (by rw [wrap_id (by omega) (by omega)]; omega)) rfl rfl (Nat.le_of_ble_eq_true rfl) ?_
        refine ARun.pure (PureOp.move rfl (.tmp rfl)) rfl rfl (Nat.le_of_ble_eq_true rfl) ?_
        refine ARun.nil ?_
        exact ⟨i + 1, ⟨by omega, succ_yes his (show takenAt b i = true by unfold takenAt; rw [hk0, hrow]; rfl)⟩, by dsimp only; omega, ⟨⟨⟨_, rfl, rfl⟩, ⟨_, rfl, rfl⟩, ⟨_, rfl, rfl⟩, ⟨_, rfl, rfl⟩, trivial⟩, HeapLe.one rfl trivial⟩⟩
  · have _u := True.intro
    replace hb1 := of_decide_eq_false hb1
    have hil : ¬ i < b.cKept.length := by omega
    refine AW.exit ?_
    refine AW.seq ?_
    refine AW.region ?_
    refine ARun.pure (PureOp.assign rfl .bool) rfl rfl (Nat.le_of_ble_eq_true rfl) ?_
    refine ARun.nil ?_
    refine AW.ret (show ResL _ _ [.tmp 2] _ from resB rfl ?_)
    rw [hno]; exact (all_yes (fun j hj => his j (by omega))).symm

theorem v_isTaken (b : GBank) (hh : b.cHeard.length = b.cKept.length) : Fn Try.prog 94 [.one (.ref 5 (fun j => ([.lst 1 b.cCoins.length (fun i0 _ => .int .i64 (b.cCoins.getD i0 0)), .lst 1 b.cWays.length (fun i0 _ => .lst 1 ((b.cWays.getD i0 []).length) (fun i1 _ => .int .i64 ((b.cWays.getD i0 []).getD i1 0))), .lst 1 b.cKept.length (fun i0 _ => .int .i64 (b.cKept.getD i0 0)), .lst 1 b.cHeard.length (fun i0 _ => .lst 1 ((b.cHeard.getD i0 []).length) (fun i1 _ => .bool ((b.cHeard.getD i0 []).getD i1 false))), .lst 1 b.cFound.length (fun i0 _ => .lst 1 ((b.cFound.getD i0 []).length) (fun i1 _ => .int .i64 ((b.cFound.getD i0 []).getD i1 0)))] : List AV).getD j (.con undef)))] (.one (.bool (takenB b))) := by
  refine Fn.of_body (fn := Try.f94) Try.func94 rfl (Nat.le_of_ble_eq_true rfl) trivial ?_
  intro w0
  show AW _ 41 _ _ _ _
  have hno : takenB b = (List.range (b.cHeard.length)).all (takenAt b) := by unfold takenB; first | rfl | rw [hh]
  refine AW.seq ?_
  refine AW.region ?_
  refine ARun.pure (PureOp.assign rfl .bool) rfl rfl (Nat.le_of_ble_eq_true rfl) ?_
  refine ARun.nil ?_
  refine AW.seq ?_
  refine AW.seq ?_
  refine AW.region ?_
  refine ARun.pure (PureOp.move rfl (.tmp rfl)) rfl rfl (Nat.le_of_ble_eq_true rfl) ?_
  refine ARun.pure (PureOp.nilRef rfl (.tmp rfl)) rfl rfl (Nat.le_of_ble_eq_true rfl) ?_
  refine ARun.pure (PureOp.fieldRef rfl (.tmp rfl) vt_fi_49_3_3 (Nat.le_of_ble_eq_true rfl)) rfl rfl (Nat.le_of_ble_eq_true rfl) ?_
  refine ARun.pure (PureOp.loadRef rfl (.tmp rfl) vt_pl_47 (Nat.le_of_ble_eq_true rfl)) rfl rfl (Nat.le_of_ble_eq_true rfl) ?_
  refine ARun.pure (PureOp.lenLst rfl (.tmp rfl) vt_sl_47) rfl rfl (Nat.le_of_ble_eq_true rfl) ?_
  refine ARun.pure (PureOp.move rfl .int) rfl rfl (Nat.le_of_ble_eq_true rfl) ?_
  refine ARun.nil ?_
  refine AW.block ?_
  refine AW.loop (ι := Nat) (fun i => ⟨[(0, .one (.ref 5 (fun j => ([.lst 1 b.cCoins.length (fun i0 _ => .int .i64 (b.cCoins.getD i0 0)), .lst 1 b.cWays.length (fun i0 _ => .lst 1 ((b.cWays.getD i0 []).length) (fun i1 _ => .int .i64 ((b.cWays.getD i0 []).getD i1 0))), .lst 1 b.cKept.length (fun i0 _ => .int .i64 (b.cKept.getD i0 0)), .lst 1 b.cHeard.length (fun i0 _ => .lst 1 ((b.cHeard.getD i0 []).length) (fun i1 _ => .bool ((b.cHeard.getD i0 []).getD i1 false))), .lst 1 b.cFound.length (fun i0 _ => .lst 1 ((b.cFound.getD i0 []).length) (fun i1 _ => .int .i64 ((b.cFound.getD i0 []).getD i1 0)))] : List AV).getD j (.con undef)))), (10, .one (.lst 1 b.cHeard.length (fun i0 _ => .lst 1 ((b.cHeard.getD i0 []).length) (fun i1 _ => .bool ((b.cHeard.getD i0 []).getD i1 false))))), (11, .one (.int .i64 (b.cHeard.length : Int))), (12, .one (.int .i64 (i : Int)))], []⟩) (fun i => i ≤ b.cHeard.length ∧ ∀ j, j < i → (takenAt b) j = true) (fun i => b.cHeard.length - i) 0 ⟨Nat.zero_le _, fun j hj => absurd hj (by omega)⟩ ⟨⟨⟨_, rfl, rfl⟩, ⟨_, rfl, rfl⟩, ⟨_, rfl, rfl⟩, ⟨_, rfl, rfl⟩, trivial⟩, trivial⟩ ?_
  intro i hI
  obtain ⟨hi, his⟩ := hI
  refine AW.bound (t := 10) rfl fun hbd0 => ?_
  refine AW.seq ?_
  refine AW.region ?_
  refine ARun.pure (PureOp.intOp rfl (.tmp rfl) (.tmp rfl) rfl) rfl rfl (Nat.le_of_ble_eq_true rfl) ?_
  refine ARun.nil ?_
  refine AW.seq ?_
  refine AW.cond (.tmp rfl) (fun hb1 => ?_) (fun hb1 => ?_)
  · have _u := True.intro
    replace hb1 := of_decide_eq_true hb1
    have hil : i < b.cHeard.length := by omega
    have hi1 : i < b.cHeard.length := by omega
    have hi2 : i < b.cKept.length := by omega
    refine AW.skip ?_
    refine AW.seq ?_
    refine AW.block ?_
    refine AW.seq ?_
    refine AW.region ?_
    refine ARun.pure (PureOp.move rfl (.tmp rfl)) rfl rfl (Nat.le_of_ble_eq_true rfl) ?_
    refine ARun.pure (PureOp.indexLst (i := i) rfl (.tmp rfl) vt_el_47_1 (.tmp rfl) rfl (by omega)) rfl rfl (Nat.le_of_ble_eq_true rfl) ?_
    refine ARun.pure (PureOp.loadRef rfl (.tmp rfl) vt_pl_107 (Nat.le_of_ble_eq_true rfl)) rfl rfl (Nat.le_of_ble_eq_true rfl) ?_
    refine ARun.pure (PureOp.assign rfl (.tmp rfl)) rfl rfl (Nat.le_of_ble_eq_true rfl) ?_
    refine ARun.pure (PureOp.assign rfl (.tmp rfl)) rfl rfl (Nat.le_of_ble_eq_true rfl) ?_
    refine ARun.nil ?_
    refine AW.seq ?_
    refine AW.seq ?_
    refine AW.region ?_
    refine ARun.pure (PureOp.move rfl (.tmp rfl)) rfl rfl (Nat.le_of_ble_eq_true rfl) ?_
    refine ARun.pure (PureOp.nilRef rfl (.tmp rfl)) rfl rfl (Nat.le_of_ble_eq_true rfl) ?_
    refine ARun.pure (PureOp.fieldRef rfl (.tmp rfl) vt_fi_49_2_2 (Nat.le_of_ble_eq_true rfl)) rfl rfl (Nat.le_of_ble_eq_true rfl) ?_
    refine ARun.pure (PureOp.loadRef rfl (.tmp rfl) vt_pl_22 (Nat.le_of_ble_eq_true rfl)) rfl rfl (Nat.le_of_ble_eq_true rfl) ?_
    refine ARun.pure (PureOp.move rfl (.tmp rfl)) rfl rfl (Nat.le_of_ble_eq_true rfl) ?_
    refine ARun.pure (PureOp.indexLst (i := i) rfl (.tmp rfl) vt_el_22_1 (.tmp rfl) rfl (by omega)) rfl rfl (Nat.le_of_ble_eq_true rfl) ?_
    refine ARun.pure (PureOp.loadRef rfl (.tmp rfl) vt_pl_3 (Nat.le_of_ble_eq_true rfl)) rfl rfl (Nat.le_of_ble_eq_true rfl) ?_
    refine ARun.pure (PureOp.intOp rfl (.tmp rfl) .int rfl) rfl rfl (Nat.le_of_ble_eq_true rfl) ?_
    refine ARun.nil ?_
    refine AW.cond (.tmp rfl) (fun hb2 => ?_) (fun hb2 => ?_)
    · have _u := True.intro
      refine AW.seq ?_
      refine AW.region ?_
      refine ARun.pure (PureOp.assign rfl .bool) rfl rfl (Nat.le_of_ble_eq_true rfl) ?_
      refine ARun.nil ?_
      refine AW.ret (show ResL _ _ [.tmp 2] _ from resB rfl ?_)
      have ht : takenAt b i = false := by unfold takenAt; rw [hb2]; rfl
      rw [hno]; exact (all_no hil ht).symm
    · have _u := True.intro
      have hk0 := hb2
      refine AW.skip ?_
      refine AW.seq ?_
      refine AW.region ?_
      refine ARun.pure (PureOp.move rfl (.tmp rfl)) rfl rfl (Nat.le_of_ble_eq_true rfl) ?_
      refine ARun.pure (PureOp.lenLst rfl (.tmp rfl) vt_sl_107) rfl rfl (Nat.le_of_ble_eq_true rfl) ?_
      refine ARun.pure (PureOp.move rfl .int) rfl rfl (Nat.le_of_ble_eq_true rfl) ?_
      refine ARun.nil ?_
      refine AW.block ?_
      refine AW.loop (ι := Nat) (fun f => ⟨[(0, .one (.ref 5 (fun j => ([.lst 1 b.cCoins.length (fun i0 _ => .int .i64 (b.cCoins.getD i0 0)), .lst 1 b.cWays.length (fun i0 _ => .lst 1 ((b.cWays.getD i0 []).length) (fun i1 _ => .int .i64 ((b.cWays.getD i0 []).getD i1 0))), .lst 1 b.cKept.length (fun i0 _ => .int .i64 (b.cKept.getD i0 0)), .lst 1 b.cHeard.length (fun i0 _ => .lst 1 ((b.cHeard.getD i0 []).length) (fun i1 _ => .bool ((b.cHeard.getD i0 []).getD i1 false))), .lst 1 b.cFound.length (fun i0 _ => .lst 1 ((b.cFound.getD i0 []).length) (fun i1 _ => .int .i64 ((b.cFound.getD i0 []).getD i1 0)))] : List AV).getD j (.con undef)))), (3, .one (.int .i64 (i : Int))), (10, .one (.lst 1 b.cHeard.length (fun i0 _ => .lst 1 ((b.cHeard.getD i0 []).length) (fun i1 _ => .bool ((b.cHeard.getD i0 []).getD i1 false))))), (11, .one (.int .i64 (b.cHeard.length : Int))), (12, .one (.int .i64 (i : Int))), (25, .one (.lst 1 ((b.cHeard.getD i []).length) (fun i0 _ => .bool ((b.cHeard.getD i []).getD i0 false)))), (26, .one (.int .i64 (((b.cHeard.getD i []).length : Nat) : Int))), (27, .one (.int .i64 (f : Int)))], []⟩) (fun f => f ≤ (b.cHeard.getD i []).length ∧ ∀ j, j < f → (fun (f : Nat) => !(cond (!decide ((f : Int) = (i : Int))) (!((b.cHeard.getD i []).getD f false)) false)) j = true) (fun f => (b.cHeard.getD i []).length - f) 0 ⟨Nat.zero_le _, fun j hj => absurd hj (by omega)⟩ ⟨⟨⟨_, rfl, rfl⟩, ⟨_, rfl, rfl⟩, ⟨_, rfl, rfl⟩, ⟨_, rfl, rfl⟩, ⟨_, rfl, rfl⟩, ⟨_, rfl, rfl⟩, ⟨_, rfl, rfl⟩, ⟨_, rfl, rfl⟩, trivial⟩, trivial⟩ ?_
      intro f hI
      obtain ⟨hf, hfs⟩ := hI
      refine AW.bound (t := 25) rfl fun hbd1 => ?_
      refine AW.seq ?_
      refine AW.region ?_
      refine ARun.pure (PureOp.intOp rfl (.tmp rfl) (.tmp rfl) rfl) rfl rfl (Nat.le_of_ble_eq_true rfl) ?_
      refine ARun.nil ?_
      refine AW.seq ?_
      refine AW.cond (.tmp rfl) (fun hb3 => ?_) (fun hb3 => ?_)
      · have _u := True.intro
        replace hb3 := of_decide_eq_true hb3
        have hfl : f < (b.cHeard.getD i []).length := by omega
        refine AW.skip ?_
        refine AW.seq ?_
        refine AW.block ?_
        refine AW.seq ?_
        refine AW.region ?_
        refine ARun.pure (PureOp.move rfl (.tmp rfl)) rfl rfl (Nat.le_of_ble_eq_true rfl) ?_
        refine ARun.pure (PureOp.indexLst (i := f) rfl (.tmp rfl) vt_el_107_1 (.tmp rfl) rfl (by omega)) rfl rfl (Nat.le_of_ble_eq_true rfl) ?_
        refine ARun.pure (PureOp.loadRef rfl (.tmp rfl) vt_pl_4 (Nat.le_of_ble_eq_true rfl)) rfl rfl (Nat.le_of_ble_eq_true rfl) ?_
        refine ARun.pure (PureOp.assign rfl (.tmp rfl)) rfl rfl (Nat.le_of_ble_eq_true rfl) ?_
        refine ARun.pure (PureOp.assign rfl (.tmp rfl)) rfl rfl (Nat.le_of_ble_eq_true rfl) ?_
        refine ARun.nil ?_
        refine AW.seq ?_
        refine AW.region ?_
        refine ARun.pure (PureOp.move rfl (.tmp rfl)) rfl rfl (Nat.le_of_ble_eq_true rfl) ?_
        refine ARun.pure (PureOp.move rfl (.tmp rfl)) rfl rfl (Nat.le_of_ble_eq_true rfl) ?_
        refine ARun.pure (PureOp.intOp rfl (.tmp rfl) (.tmp rfl) rfl) rfl rfl (Nat.le_of_ble_eq_true rfl) ?_
        refine ARun.pure (PureOp.move rfl (.tmp rfl)) rfl rfl (Nat.le_of_ble_eq_true rfl) ?_
        refine ARun.gpure (want := true) (.tt rfl) (fun hg4 => PureOp.move rfl (.tmp rfl)) rfl rfl (Nat.le_of_ble_eq_true rfl) rfl (Nat.le_of_ble_eq_true rfl) ?_
        refine ARun.gpure (want := true) (.tt rfl) (fun hg5 => PureOp.not rfl (.gtmp rfl hg5)) rfl rfl (Nat.le_of_ble_eq_true rfl) rfl (Nat.le_of_ble_eq_true rfl) ?_
        refine ARun.pure (PureOp.pick rfl (.tmp rfl) (fun hp6 => .gtmp rfl hp6) (fun _ => .bool)) rfl rfl (Nat.le_of_ble_eq_true rfl) ?_
        refine ARun.nil ?_
        refine AW.cond (.tmp rfl) (fun hb8 => ?_) (fun hb8 => ?_)
        · have _u := True.intro
          refine AW.seq ?_
          refine AW.region ?_
          refine ARun.pure (PureOp.assign rfl .bool) rfl rfl (Nat.le_of_ble_eq_true rfl) ?_
          refine ARun.nil ?_
          refine AW.ret (show ResL _ _ [.tmp 2] _ from resB rfl ?_)
          have hr : takenRow b i = false := all_no hfl (by rw [hb8]; rfl)
          have ht : takenAt b i = false := by unfold takenAt; rw [hr, Bool.and_false]
          rw [hno]; exact (all_no hil ht).symm
        · have _u := True.intro
          have hcell := hb8
          refine AW.skip ?_
          refine AW.region ?_
          refine ARun.pure (PureOp.add (c := ((f + 1 : Nat) : Int)) rfl (.tmp rfl) .int (by rw [wrap_id (by omega) (by omega)]; omega)) rfl rfl (Nat.le_of_ble_eq_true rfl) ?_
          refine ARun.pure (PureOp.move rfl (.tmp rfl)) rfl rfl (Nat.le_of_ble_eq_true rfl) ?_
          refine ARun.nil ?_
          exact ⟨f + 1, ⟨by omega, succ_yes hfs (by rw [hcell]; rfl)⟩, by dsimp only; omega, ⟨⟨⟨_, rfl, rfl⟩, ⟨_, rfl, rfl⟩, ⟨_, rfl, rfl⟩, ⟨_, rfl, rfl⟩, ⟨_, rfl, rfl⟩, ⟨_, rfl, rfl⟩, ⟨_, rfl, rfl⟩, ⟨_, rfl, rfl⟩, trivial⟩, trivial⟩⟩
      · have _u := True.intro
        replace hb3 := of_decide_eq_false hb3
        have hfl : ¬ f < (b.cHeard.getD i []).length := by omega
        have hrow : takenRow b i = true := all_yes (fun j hj => hfs j (by omega))
        refine AW.exit ?_
        refine AW.region ?_
        refine ARun.pure (PureOp.add (c := ((i + 1 : Nat) : Int)) rfl (.tmp rfl) .int (by rw [wrap_id (by omega) (by omega)]; omega)) rfl rfl (Nat.le_of_ble_eq_true rfl) ?_
        refine ARun.pure (PureOp.move rfl (.tmp rfl)) rfl rfl (Nat.le_of_ble_eq_true rfl) ?_
        refine ARun.nil ?_
        exact ⟨i + 1, ⟨by omega, succ_yes his (show takenAt b i = true by unfold takenAt; rw [hk0, hrow]; rfl)⟩, by dsimp only; omega, ⟨⟨⟨_, rfl, rfl⟩, ⟨_, rfl, rfl⟩, ⟨_, rfl, rfl⟩, ⟨_, rfl, rfl⟩, trivial⟩, trivial⟩⟩
  · have _u := True.intro
    replace hb1 := of_decide_eq_false hb1
    have hil : ¬ i < b.cHeard.length := by omega
    refine AW.exit ?_
    refine AW.seq ?_
    refine AW.region ?_
    refine ARun.pure (PureOp.assign rfl .bool) rfl rfl (Nat.le_of_ble_eq_true rfl) ?_
    refine ARun.nil ?_
    refine AW.ret (show ResL _ _ [.tmp 2] _ from resB rfl ?_)
    rw [hno]; exact (all_yes (fun j hj => his j (by omega))).symm

theorem v_specIsTaken (b : GBank) : Fn Try.prog 37 [.agg [.lst 1 b.cCoins.length (fun i0 _ => .int .i64 (b.cCoins.getD i0 0)), .lst 1 b.cWays.length (fun i0 _ => .lst 1 ((b.cWays.getD i0 []).length) (fun i1 _ => .int .i64 ((b.cWays.getD i0 []).getD i1 0))), .lst 1 b.cKept.length (fun i0 _ => .int .i64 (b.cKept.getD i0 0)), .lst 1 b.cHeard.length (fun i0 _ => .lst 1 ((b.cHeard.getD i0 []).length) (fun i1 _ => .bool ((b.cHeard.getD i0 []).getD i1 false))), .lst 1 b.cFound.length (fun i0 _ => .lst 1 ((b.cFound.getD i0 []).length) (fun i1 _ => .int .i64 ((b.cFound.getD i0 []).getD i1 0)))]] (.tup2 (.one (.bool (goodBank b && takenB b))) (.one (.bool (goodBank b)))) := by
  refine Fn.of_body (fn := Try.f37) Try.func37 rfl (Nat.le_of_ble_eq_true rfl) ⟨trivial, trivial⟩ ?_
  intro w0
  show AW _ 9 _ _ _ _
  refine AW.seq ?_
  refine AW.region ?_
  refine ARun.box (id := 0) rfl (.tmp rfl) (SV.cells_of (by exact ⟨trivial, trivial, trivial, trivial, trivial, trivial⟩)) ⟨rfl, (by repeat first | exact trivial | refine ⟨by decide, by first | rfl | (intro i j; first | rfl | (dsimp only; split <;> rfl)), ?_⟩)⟩ rfl rfl rfl (Nat.le_of_ble_eq_true rfl) ?_
  refine ARun.pure (PureOp.assign rfl .bool) rfl rfl (Nat.le_of_ble_eq_true rfl) ?_
  refine ARun.pure (PureOp.assign rfl .bool) rfl rfl (Nat.le_of_ble_eq_true rfl) ?_
  refine ARun.nil ?_
  refine AW.seq ?_
  refine AW.seq ?_
  refine AW.region ?_
  refine ARun.pure (PureOp.loadPtrAgg rfl (.tmp rfl) vt_ag_49_5 rfl rfl (Nat.le_of_ble_eq_true rfl) (Nat.le_of_ble_eq_true rfl)) rfl rfl (Nat.le_of_ble_eq_true rfl) ?_
  refine ARun.pure (PureOp.call rfl (v_specGoodBank b) ⟨⟨_, (.tmp rfl), ⟨.lst, .lst, .lst, .lst, .lst, trivial⟩⟩, trivial⟩ vt_ca_34 trivial) rfl rfl (Nat.le_of_ble_eq_true rfl) ?_
  refine ARun.pure (PureOp.not rfl (.tmp rfl)) rfl rfl (Nat.le_of_ble_eq_true rfl) ?_
  refine ARun.nil ?_
  refine AW.cond (.tmp rfl) (fun hb1 => ?_) (fun hb1 => ?_)
  · have _u := True.intro
    replace hb1 := of_not hb1
    refine AW.seq ?_
    refine AW.region ?_
    refine ARun.pure (PureOp.assign rfl .bool) rfl rfl (Nat.le_of_ble_eq_true rfl) ?_
    refine ARun.pure (PureOp.assign rfl .bool) rfl rfl (Nat.le_of_ble_eq_true rfl) ?_
    refine ARun.nil ?_
    refine AW.ret (show ResL _ _ [.tmp 2, .tmp 3] _ from res2B rfl rfl ?_)
    rw [hb1]; exact ⟨rfl, rfl⟩
  · have _u := True.intro
    replace hb1 := not_f hb1
    have hgood := hb1
    refine AW.skip ?_
    refine AW.seq ?_
    refine AW.region ?_
    refine ARun.pure (PureOp.loadPtrAgg rfl (.tmp rfl) vt_ag_49_5 rfl rfl (Nat.le_of_ble_eq_true rfl) (Nat.le_of_ble_eq_true rfl)) rfl rfl (Nat.le_of_ble_eq_true rfl) ?_
    refine ARun.pure (PureOp.call rfl (v_l12Taken b (goodBank_len hgood)) ⟨⟨_, (.tmp rfl), ⟨.lst, .lst, .lst, .lst, .lst, trivial⟩⟩, trivial⟩ vt_ca_93 trivial) rfl rfl (Nat.le_of_ble_eq_true rfl) ?_
    refine ARun.pure (PureOp.assign rfl (.tmp rfl)) rfl rfl (Nat.le_of_ble_eq_true rfl) ?_
    refine ARun.pure (PureOp.assign rfl .bool) rfl rfl (Nat.le_of_ble_eq_true rfl) ?_
    refine ARun.nil ?_
    refine AW.ret (show ResL _ _ [.tmp 2, .tmp 3] _ from res2B rfl rfl ?_)
    rw [hgood]; exact ⟨rfl, rfl⟩

theorem v_implIsTaken (b : GBank) : Fn Try.prog 38 [.agg [.lst 1 b.cCoins.length (fun i0 _ => .int .i64 (b.cCoins.getD i0 0)), .lst 1 b.cWays.length (fun i0 _ => .lst 1 ((b.cWays.getD i0 []).length) (fun i1 _ => .int .i64 ((b.cWays.getD i0 []).getD i1 0))), .lst 1 b.cKept.length (fun i0 _ => .int .i64 (b.cKept.getD i0 0)), .lst 1 b.cHeard.length (fun i0 _ => .lst 1 ((b.cHeard.getD i0 []).length) (fun i1 _ => .bool ((b.cHeard.getD i0 []).getD i1 false))), .lst 1 b.cFound.length (fun i0 _ => .lst 1 ((b.cFound.getD i0 []).length) (fun i1 _ => .int .i64 ((b.cFound.getD i0 []).getD i1 0)))]] (.tup2 (.one (.bool (goodBank b && takenB b))) (.one (.bool (goodBank b)))) := by
  refine Fn.of_body (fn := Try.f38) Try.func38 rfl (Nat.le_of_ble_eq_true rfl) ⟨trivial, trivial⟩ ?_
  intro w0
  show AW _ 8 _ _ _ _
  refine AW.seq ?_
  refine AW.region ?_
  refine ARun.box (id := 0) rfl (.tmp rfl) (SV.cells_of (by exact ⟨trivial, trivial, trivial, trivial, trivial, trivial⟩)) ⟨rfl, (by repeat first | exact trivial | refine ⟨by decide, by first | rfl | (intro i j; first | rfl | (dsimp only; split <;> rfl)), ?_⟩)⟩ rfl rfl rfl (Nat.le_of_ble_eq_true rfl) ?_
  refine ARun.pure (PureOp.assign rfl .bool) rfl rfl (Nat.le_of_ble_eq_true rfl) ?_
  refine ARun.pure (PureOp.assign rfl .bool) rfl rfl (Nat.le_of_ble_eq_true rfl) ?_
  refine ARun.nil ?_
  refine AW.seq ?_
  refine AW.seq ?_
  refine AW.region ?_
  refine ARun.pure (PureOp.loadPtrAgg rfl (.tmp rfl) vt_ag_49_5 rfl rfl (Nat.le_of_ble_eq_true rfl) (Nat.le_of_ble_eq_true rfl)) rfl rfl (Nat.le_of_ble_eq_true rfl) ?_
  refine ARun.pure (PureOp.call rfl (v_isBankG b) ⟨⟨_, (.tmp rfl), ⟨.lst, .lst, .lst, .lst, .lst, trivial⟩⟩, trivial⟩ vt_ca_92 trivial) rfl rfl (Nat.le_of_ble_eq_true rfl) ?_
  refine ARun.pure (PureOp.not rfl (.tmp rfl)) rfl rfl (Nat.le_of_ble_eq_true rfl) ?_
  refine ARun.nil ?_
  refine AW.cond (.tmp rfl) (fun hb1 => ?_) (fun hb1 => ?_)
  · have _u := True.intro
    replace hb1 := of_not hb1
    refine AW.seq ?_
    refine AW.region ?_
    refine ARun.pure (PureOp.assign rfl .bool) rfl rfl (Nat.le_of_ble_eq_true rfl) ?_
    refine ARun.pure (PureOp.assign rfl .bool) rfl rfl (Nat.le_of_ble_eq_true rfl) ?_
    refine ARun.nil ?_
    refine AW.ret (show ResL _ _ [.tmp 2, .tmp 3] _ from res2B rfl rfl ?_)
    rw [hb1]; exact ⟨rfl, rfl⟩
  · have _u := True.intro
    replace hb1 := not_f hb1
    have hgood := hb1
    refine AW.skip ?_
    refine AW.seq ?_
    refine AW.region ?_
    refine ARun.pure (PureOp.call rfl (v_isTaken b (goodBank_len hgood)) ⟨⟨_, (.tmp rfl), (.ptr (m := 5) rfl rfl (Nat.le_of_ble_eq_true rfl) (Nat.le_of_ble_eq_true rfl) (fun | 0, _ => .lst | 1, _ => .lst | 2, _ => .lst | 3, _ => .lst | 4, _ => .lst | _ + 5, h => absurd h (by omega)))⟩, trivial⟩ vt_ca_94 trivial) rfl rfl (Nat.le_of_ble_eq_true rfl) ?_
    refine ARun.pure (PureOp.assign rfl (.tmp rfl)) rfl rfl (Nat.le_of_ble_eq_true rfl) ?_
    refine ARun.pure (PureOp.assign rfl .bool) rfl rfl (Nat.le_of_ble_eq_true rfl) ?_
    refine ARun.nil ?_
    refine AW.ret (show ResL _ _ [.tmp 2, .tmp 3] _ from res2B rfl rfl ?_)
    rw [hgood]; exact ⟨rfl, rfl⟩
end Go.Proofs.Ytlbnodmebehpiaa
