/-
  Small functions of the program, of the reference and of the library.
-/
import Derived.Test.YtmlhlkpiofbhgaaTy5
namespace Go.Proofs.Ytmlhlkpiofbhgaa
open Go.ChangeShapes Go.WideShapes Go.ChangeAt Go.RowKit Go.BigFrame Go.Deep
set_option linter.unusedVariables false
set_option linter.unusedSimpArgs false
theorem vb_ag_98_2 : aggB Try.prog 98 2 = true := by kernel_rfl
theorem vb_ca_116 : callB Try.prog 116 = true := by kernel_rfl
theorem vb_ca_117 : callB Try.prog 117 = true := by kernel_rfl
theorem vb_ca_118 : callB Try.prog 118 = true := by kernel_rfl
theorem vb_el_22_1 : elemB Try.prog 22 1 = true := by kernel_rfl
theorem vb_el_24_1 : elemB Try.prog 24 1 = true := by kernel_rfl
theorem vb_el_49_2 : elemB Try.prog 49 2 = true := by kernel_rfl
theorem vb_pl_25 : plainB Try.prog 25 = true := by kernel_rfl
theorem vb_pl_3 : plainB Try.prog 3 = true := by kernel_rfl
theorem vb_sl_22 : sliceB Try.prog 22 = true := by kernel_rfl
theorem vb_sl_24 : sliceB Try.prog 24 = true := by kernel_rfl
theorem vb_sl_49 : sliceB Try.prog 49 = true := by kernel_rfl
theorem v_l1In (n lo hi : Int) : Fn Try.prog 44 [.one (.int .i64 n), .one (.int .i64 lo), .one (.int .i64 hi)] (.one (.bool (inB lo hi n))) := by
  refine Fn.of_body (fn := Try.f44) Try.func44 rfl (Nat.le_of_ble_eq_true rfl) trivial ?_
  intro w0
  show AW _ 15 _ _ _ _
  refine AW.seq ?_
  refine AW.region ?_
  refine ARun.pure (PureOp.assign rfl .bool) rfl rfl (Nat.le_of_ble_eq_true rfl) ?_
  refine ARun.nil ?_
  refine AW.seq ?_
  refine AW.region ?_
  refine ARun.pure (PureOp.move rfl (.tmp rfl)) rfl rfl (Nat.le_of_ble_eq_true rfl) ?_
  refine ARun.pure (PureOp.move rfl (.tmp rfl)) rfl rfl (Nat.le_of_ble_eq_true rfl) ?_
  refine ARun.pure (PureOp.intOp rfl (.tmp rfl) (.tmp rfl) rfl) rfl rfl (Nat.le_of_ble_eq_true rfl) ?_
  refine ARun.pure (PureOp.move rfl (.tmp rfl)) rfl rfl (Nat.le_of_ble_eq_true rfl) ?_
  refine ARun.gpure (want := true) (.tt rfl) (fun hg1 => PureOp.move rfl (.tmp rfl)) rfl rfl (Nat.le_of_ble_eq_true rfl) rfl (Nat.le_of_ble_eq_true rfl) ?_
  refine ARun.gpure (want := true) (.tt rfl) (fun hg2 => PureOp.move rfl (.tmp rfl)) rfl rfl (Nat.le_of_ble_eq_true rfl) rfl (Nat.le_of_ble_eq_true rfl) ?_
  refine ARun.gpure (want := true) (.tt rfl) (fun hg3 => PureOp.intOp rfl (.gtmp rfl hg3) (.gtmp rfl hg3) rfl) rfl rfl (Nat.le_of_ble_eq_true rfl) rfl (Nat.le_of_ble_eq_true rfl) ?_
  refine ARun.pure (PureOp.pick rfl (.tmp rfl) (fun hp4 => .gtmp rfl hp4) (fun _ => .bool)) rfl rfl (Nat.le_of_ble_eq_true rfl) ?_
  refine ARun.pure (PureOp.assign rfl (.tmp rfl)) rfl rfl (Nat.le_of_ble_eq_true rfl) ?_
  refine ARun.nil ?_
  refine AW.ret (show ResL _ _ [.tmp 6] _ from resB rfl ?_)
  exact inB_cond _ _ _

theorem v_within (n lo hi : Int) : Fn Try.prog 45 [.one (.int .i64 n), .one (.int .i64 lo), .one (.int .i64 hi)] (.one (.bool (inB lo hi n))) := by
  refine Fn.of_body (fn := Try.f45) Try.func45 rfl (Nat.le_of_ble_eq_true rfl) trivial ?_
  intro w0
  show AW _ 15 _ _ _ _
  refine AW.seq ?_
  refine AW.region ?_
  refine ARun.pure (PureOp.assign rfl .bool) rfl rfl (Nat.le_of_ble_eq_true rfl) ?_
  refine ARun.nil ?_
  refine AW.seq ?_
  refine AW.region ?_
  refine ARun.pure (PureOp.move rfl (.tmp rfl)) rfl rfl (Nat.le_of_ble_eq_true rfl) ?_
  refine ARun.pure (PureOp.move rfl (.tmp rfl)) rfl rfl (Nat.le_of_ble_eq_true rfl) ?_
  refine ARun.pure (PureOp.intOp rfl (.tmp rfl) (.tmp rfl) rfl) rfl rfl (Nat.le_of_ble_eq_true rfl) ?_
  refine ARun.pure (PureOp.move rfl (.tmp rfl)) rfl rfl (Nat.le_of_ble_eq_true rfl) ?_
  refine ARun.gpure (want := true) (.tt rfl) (fun hg1 => PureOp.move rfl (.tmp rfl)) rfl rfl (Nat.le_of_ble_eq_true rfl) rfl (Nat.le_of_ble_eq_true rfl) ?_
  refine ARun.gpure (want := true) (.tt rfl) (fun hg2 => PureOp.move rfl (.tmp rfl)) rfl rfl (Nat.le_of_ble_eq_true rfl) rfl (Nat.le_of_ble_eq_true rfl) ?_
  refine ARun.gpure (want := true) (.tt rfl) (fun hg3 => PureOp.intOp rfl (.gtmp rfl hg3) (.gtmp rfl hg3) rfl) rfl rfl (Nat.le_of_ble_eq_true rfl) rfl (Nat.le_of_ble_eq_true rfl) ?_
  refine ARun.pure (PureOp.pick rfl (.tmp rfl) (fun hp4 => .gtmp rfl hp4) (fun _ => .bool)) rfl rfl (Nat.le_of_ble_eq_true rfl) ?_
  refine ARun.pure (PureOp.assign rfl (.tmp rfl)) rfl rfl (Nat.le_of_ble_eq_true rfl) ?_
  refine ARun.nil ?_
  refine AW.ret (show ResL _ _ [.tmp 6] _ from resB rfl ?_)
  exact inB_cond _ _ _

theorem v_IndexFunc_Int (l : List Int) (g : FuncId) (m : Nat) (caps : Nat → AV) (p : Int → Bool) (hd : ∀ j, j < m → (caps j).Deep) (hB : callB Try.prog g = true) (hp : ∀ k, k < l.length → Fn Try.prog g ([.one (.int .i64 (l.getD k 0))] ++ capL m caps) (.one (.bool (p (l.getD k 0))))) : Fn Try.prog 117 [.one (.lst 1 l.length (fun i0 _ => .int .i64 (l.getD i0 0))), .one (.fn g m caps)] (.one (.int .i64 (idxF p l))) := by
  refine Fn.of_body (fn := Try.f117) Try.func117 rfl (Nat.le_of_ble_eq_true rfl) trivial ?_
  intro w0
  show AW _ 19 _ _ _ _
  refine AW.bound (t := 0) rfl fun hx => ?_
  refine AW.seq ?_
  refine AW.region ?_
  refine ARun.pure (PureOp.assign rfl .int) rfl rfl (Nat.le_of_ble_eq_true rfl) ?_
  refine ARun.nil ?_
  refine AW.seq ?_
  refine AW.seq ?_
  refine AW.region ?_
  refine ARun.pure (PureOp.move rfl (.tmp rfl)) rfl rfl (Nat.le_of_ble_eq_true rfl) ?_
  refine ARun.pure (PureOp.lenLst rfl (.tmp rfl) vb_sl_24) rfl rfl (Nat.le_of_ble_eq_true rfl) ?_
  refine ARun.pure (PureOp.move rfl .int) rfl rfl (Nat.le_of_ble_eq_true rfl) ?_
  refine ARun.nil ?_
  refine AW.block ?_
  refine AW.loop (ι := Nat) (fun k => ⟨[(0, .one (.lst 1 l.length (fun i0 _ => .int .i64 (l.getD i0 0)))), (1, .one (.fn g m caps)), (7, .one (.int .i64 (l.length : Int))), (8, .one (.int .i64 (k : Int)))], []⟩) (fun k => k ≤ l.length ∧ (l.take k).any p = false) (fun k => l.length - k) 0 ⟨Nat.zero_le _, rfl⟩ ⟨⟨⟨_, rfl, rfl⟩, ⟨_, rfl, rfl⟩, ⟨_, rfl, rfl⟩, ⟨_, rfl, rfl⟩, trivial⟩, trivial⟩ ?_
  intro k hI
  obtain ⟨hk, hq⟩ := hI
  refine AW.seq ?_
  refine AW.region ?_
  refine ARun.pure (PureOp.intOp rfl (.tmp rfl) (.tmp rfl) rfl) rfl rfl (Nat.le_of_ble_eq_true rfl) ?_
  refine ARun.nil ?_
  refine AW.seq ?_
  refine AW.cond (.tmp rfl) (fun hb1 => ?_) (fun hb1 => ?_)
  · have _u := True.intro
    replace hb1 := of_decide_eq_true hb1
    have hlt : k < l.length := by omega
    refine AW.skip ?_
    refine AW.seq ?_
    refine AW.block ?_
    refine AW.seq ?_
    refine AW.region ?_
    refine ARun.pure (PureOp.move rfl (.tmp rfl)) rfl rfl (Nat.le_of_ble_eq_true rfl) ?_
    refine ARun.pure (PureOp.assign rfl (.tmp rfl)) rfl rfl (Nat.le_of_ble_eq_true rfl) ?_
    refine ARun.nil ?_
    refine AW.seq ?_
    refine AW.region ?_
    refine ARun.pure (PureOp.move rfl (.tmp rfl)) rfl rfl (Nat.le_of_ble_eq_true rfl) ?_
    refine ARun.pure (PureOp.move rfl (.tmp rfl)) rfl rfl (Nat.le_of_ble_eq_true rfl) ?_
    refine ARun.pure (PureOp.move rfl (.tmp rfl)) rfl rfl (Nat.le_of_ble_eq_true rfl) ?_
    refine ARun.pure (PureOp.indexLst (i := k) rfl (.tmp rfl) vb_el_24_1 (.tmp rfl) rfl (by omega)) rfl rfl (Nat.le_of_ble_eq_true rfl) ?_
    refine ARun.pure (PureOp.loadRef rfl (.tmp rfl) vb_pl_3 (Nat.le_of_ble_eq_true rfl)) rfl rfl (Nat.le_of_ble_eq_true rfl) ?_
    refine ARun.pure (PureOp.callv rfl (.tmp rfl) (hp k hlt) (fun j hj => Vw.of_deep (hd j hj)) ⟨⟨_, (.tmp rfl), .int⟩, trivial⟩ hB trivial) rfl rfl (Nat.le_of_ble_eq_true rfl) ?_
    refine ARun.nil ?_
    refine AW.cond (.tmp rfl) (fun hb2 => ?_) (fun hb2 => ?_)
    · have _u := True.intro
      refine AW.seq ?_
      refine AW.region ?_
      refine ARun.pure (PureOp.move rfl (.tmp rfl)) rfl rfl (Nat.le_of_ble_eq_true rfl) ?_
      refine ARun.pure (PureOp.assign rfl (.tmp rfl)) rfl rfl (Nat.le_of_ble_eq_true rfl) ?_
      refine ARun.nil ?_
      refine AW.ret (show ResL _ _ [.tmp 4] _ from resI rfl ?_)
      exact idxF_hit (0 : Int) hlt hq hb2
    · have _u := True.intro
      refine AW.skip ?_
      refine AW.region ?_
      refine ARun.pure (PureOp.add (c := ((k + 1 : Nat) : Int)) rfl (.tmp rfl) .int (by rw [wrap_id (by omega) (by omega)]; omega)) rfl rfl (Nat.le_of_ble_eq_true rfl) ?_
      refine ARun.pure (PureOp.move rfl (.tmp rfl)) rfl rfl (Nat.le_of_ble_eq_true rfl) ?_
      refine ARun.nil ?_
      exact ⟨k + 1, ⟨by omega, any_take (0 : Int) hlt hq hb2⟩, by dsimp only; omega, ⟨⟨⟨_, rfl, rfl⟩, ⟨_, rfl, rfl⟩, ⟨_, rfl, rfl⟩, ⟨_, rfl, rfl⟩, trivial⟩, trivial⟩⟩
  · have _u := True.intro
    replace hb1 := of_decide_eq_false hb1
    have hlt : ¬ k < l.length := by omega
    refine AW.exit ?_
    refine AW.seq ?_
    refine AW.region ?_
    refine ARun.pure (PureOp.assign rfl .int) rfl rfl (Nat.le_of_ble_eq_true rfl) ?_
    refine ARun.nil ?_
    refine AW.ret (show ResL _ _ [.tmp 4] _ from resI rfl ?_)
    exact idxF_none hlt hq

theorem v_ContainsFunc_Int (l : List Int) (g : FuncId) (m : Nat) (caps : Nat → AV) (p : Int → Bool) (hd : ∀ j, j < m → (caps j).Deep) (hB : callB Try.prog g = true) (hp : ∀ k, k < l.length → Fn Try.prog g ([.one (.int .i64 (l.getD k 0))] ++ capL m caps) (.one (.bool (p (l.getD k 0))))) : Fn Try.prog 102 [.one (.lst 1 l.length (fun i0 _ => .int .i64 (l.getD i0 0))), .one (.fn g m caps)] (.one (.bool (l.any p))) := by
  refine Fn.of_body (fn := Try.f102) Try.func102 rfl (Nat.le_of_ble_eq_true rfl) trivial ?_
  intro w0
  show AW _ 9 _ _ _ _
  refine AW.seq ?_
  refine AW.region ?_
  refine ARun.pure (PureOp.assign rfl .bool) rfl rfl (Nat.le_of_ble_eq_true rfl) ?_
  refine ARun.nil ?_
  refine AW.seq ?_
  refine AW.region ?_
  refine ARun.pure (PureOp.move rfl (.tmp rfl)) rfl rfl (Nat.le_of_ble_eq_true rfl) ?_
  refine ARun.pure (PureOp.move rfl (.tmp rfl)) rfl rfl (Nat.le_of_ble_eq_true rfl) ?_
  refine ARun.pure (PureOp.call rfl (v_IndexFunc_Int l g m caps p hd hB hp) ⟨⟨_, (.tmp rfl), .lst⟩, ⟨_, (.tmp rfl), (.fn (fun j hj => Vw.of_deep (hd j hj)))⟩, trivial⟩ vb_ca_117 trivial) rfl rfl (Nat.le_of_ble_eq_true rfl) ?_
  refine ARun.pure (PureOp.intOp rfl (.tmp rfl) .int rfl) rfl rfl (Nat.le_of_ble_eq_true rfl) ?_
  refine ARun.pure (PureOp.assign rfl (.tmp rfl)) rfl rfl (Nat.le_of_ble_eq_true rfl) ?_
  refine ARun.nil ?_
  refine AW.ret (show ResL _ _ [.tmp 4] _ from resB rfl ?_)
  exact idxF_any p l

theorem v_IndexFunc_EntryS (l : List (List GEntry)) (g : FuncId) (m : Nat) (caps : Nat → AV) (p : (List GEntry) → Bool) (hd : ∀ j, j < m → (caps j).Deep) (hB : callB Try.prog g = true) (hp : ∀ k, k < l.length → Fn Try.prog g ([.one (.lst 2 ((l.getD k []).length) (fun i0 j0 => ([.int .i64 (((l.getD k []).getD i0 (default : GEntry)).epoch), .str (((l.getD k []).getD i0 (default : GEntry)).text)] : List AV).getD j0 (.con undef)))] ++ capL m caps) (.one (.bool (p (l.getD k []))))) : Fn Try.prog 116 [.one (.lst 1 l.length (fun i0 _ => .lst 2 ((l.getD i0 []).length) (fun i1 j1 => ([.int .i64 (((l.getD i0 []).getD i1 (default : GEntry)).epoch), .str (((l.getD i0 []).getD i1 (default : GEntry)).text)] : List AV).getD j1 (.con undef)))), .one (.fn g m caps)] (.one (.int .i64 (idxF p l))) := by
  refine Fn.of_body (fn := Try.f116) Try.func116 rfl (Nat.le_of_ble_eq_true rfl) trivial ?_
  intro w0
  show AW _ 19 _ _ _ _
  refine AW.bound (t := 0) rfl fun hx => ?_
  refine AW.seq ?_
  refine AW.region ?_
  refine ARun.pure (PureOp.assign rfl .int) rfl rfl (Nat.le_of_ble_eq_true rfl) ?_
  refine ARun.nil ?_
  refine AW.seq ?_
  refine AW.seq ?_
  refine AW.region ?_
  refine ARun.pure (PureOp.move rfl (.tmp rfl)) rfl rfl (Nat.le_of_ble_eq_true rfl) ?_
  refine ARun.pure (PureOp.lenLst rfl (.tmp rfl) vb_sl_22) rfl rfl (Nat.le_of_ble_eq_true rfl) ?_
  refine ARun.pure (PureOp.move rfl .int) rfl rfl (Nat.le_of_ble_eq_true rfl) ?_
  refine ARun.nil ?_
  refine AW.block ?_
  refine AW.loop (ι := Nat) (fun k => ⟨[(0, .one (.lst 1 l.length (fun i0 _ => .lst 2 ((l.getD i0 []).length) (fun i1 j1 => ([.int .i64 (((l.getD i0 []).getD i1 (default : GEntry)).epoch), .str (((l.getD i0 []).getD i1 (default : GEntry)).text)] : List AV).getD j1 (.con undef))))), (1, .one (.fn g m caps)), (7, .one (.int .i64 (l.length : Int))), (8, .one (.int .i64 (k : Int)))], []⟩) (fun k => k ≤ l.length ∧ (l.take k).any p = false) (fun k => l.length - k) 0 ⟨Nat.zero_le _, rfl⟩ ⟨⟨⟨_, rfl, rfl⟩, ⟨_, rfl, rfl⟩, ⟨_, rfl, rfl⟩, ⟨_, rfl, rfl⟩, trivial⟩, trivial⟩ ?_
  intro k hI
  obtain ⟨hk, hq⟩ := hI
  refine AW.seq ?_
  refine AW.region ?_
  refine ARun.pure (PureOp.intOp rfl (.tmp rfl) (.tmp rfl) rfl) rfl rfl (Nat.le_of_ble_eq_true rfl) ?_
  refine ARun.nil ?_
  refine AW.seq ?_
  refine AW.cond (.tmp rfl) (fun hb1 => ?_) (fun hb1 => ?_)
  · have _u := True.intro
    replace hb1 := of_decide_eq_true hb1
    have hlt : k < l.length := by omega
    refine AW.skip ?_
    refine AW.seq ?_
    refine AW.block ?_
    refine AW.seq ?_
    refine AW.region ?_
    refine ARun.pure (PureOp.move rfl (.tmp rfl)) rfl rfl (Nat.le_of_ble_eq_true rfl) ?_
    refine ARun.pure (PureOp.assign rfl (.tmp rfl)) rfl rfl (Nat.le_of_ble_eq_true rfl) ?_
    refine ARun.nil ?_
    refine AW.seq ?_
    refine AW.region ?_
    refine ARun.pure (PureOp.move rfl (.tmp rfl)) rfl rfl (Nat.le_of_ble_eq_true rfl) ?_
    refine ARun.pure (PureOp.move rfl (.tmp rfl)) rfl rfl (Nat.le_of_ble_eq_true rfl) ?_
    refine ARun.pure (PureOp.move rfl (.tmp rfl)) rfl rfl (Nat.le_of_ble_eq_true rfl) ?_
    refine ARun.pure (PureOp.indexLst (i := k) rfl (.tmp rfl) vb_el_22_1 (.tmp rfl) rfl (by omega)) rfl rfl (Nat.le_of_ble_eq_true rfl) ?_
    refine ARun.pure (PureOp.loadRef rfl (.tmp rfl) vb_pl_25 (Nat.le_of_ble_eq_true rfl)) rfl rfl (Nat.le_of_ble_eq_true rfl) ?_
    refine ARun.pure (PureOp.callv rfl (.tmp rfl) (hp k hlt) (fun j hj => Vw.of_deep (hd j hj)) ⟨⟨_, (.tmp rfl), .lst⟩, trivial⟩ hB trivial) rfl rfl (Nat.le_of_ble_eq_true rfl) ?_
    refine ARun.nil ?_
    refine AW.cond (.tmp rfl) (fun hb2 => ?_) (fun hb2 => ?_)
    · have _u := True.intro
      refine AW.seq ?_
      refine AW.region ?_
      refine ARun.pure (PureOp.move rfl (.tmp rfl)) rfl rfl (Nat.le_of_ble_eq_true rfl) ?_
      refine ARun.pure (PureOp.assign rfl (.tmp rfl)) rfl rfl (Nat.le_of_ble_eq_true rfl) ?_
      refine ARun.nil ?_
      refine AW.ret (show ResL _ _ [.tmp 4] _ from resI rfl ?_)
      exact idxF_hit ([] : List GEntry) hlt hq hb2
    · have _u := True.intro
      refine AW.skip ?_
      refine AW.region ?_
      refine ARun.pure (PureOp.add (c := ((k + 1 : Nat) : Int)) rfl (.tmp rfl) .int (by rw [wrap_id (by omega) (by omega)]; omega)) rfl rfl (Nat.le_of_ble_eq_true rfl) ?_
      refine ARun.pure (PureOp.move rfl (.tmp rfl)) rfl rfl (Nat.le_of_ble_eq_true rfl) ?_
      refine ARun.nil ?_
      exact ⟨k + 1, ⟨by omega, any_take ([] : List GEntry) hlt hq hb2⟩, by dsimp only; omega, ⟨⟨⟨_, rfl, rfl⟩, ⟨_, rfl, rfl⟩, ⟨_, rfl, rfl⟩, ⟨_, rfl, rfl⟩, trivial⟩, trivial⟩⟩
  · have _u := True.intro
    replace hb1 := of_decide_eq_false hb1
    have hlt : ¬ k < l.length := by omega
    refine AW.exit ?_
    refine AW.seq ?_
    refine AW.region ?_
    refine ARun.pure (PureOp.assign rfl .int) rfl rfl (Nat.le_of_ble_eq_true rfl) ?_
    refine ARun.nil ?_
    refine AW.ret (show ResL _ _ [.tmp 4] _ from resI rfl ?_)
    exact idxF_none hlt hq

theorem v_ContainsFunc_EntryS (l : List (List GEntry)) (g : FuncId) (m : Nat) (caps : Nat → AV) (p : (List GEntry) → Bool) (hd : ∀ j, j < m → (caps j).Deep) (hB : callB Try.prog g = true) (hp : ∀ k, k < l.length → Fn Try.prog g ([.one (.lst 2 ((l.getD k []).length) (fun i0 j0 => ([.int .i64 (((l.getD k []).getD i0 (default : GEntry)).epoch), .str (((l.getD k []).getD i0 (default : GEntry)).text)] : List AV).getD j0 (.con undef)))] ++ capL m caps) (.one (.bool (p (l.getD k []))))) : Fn Try.prog 100 [.one (.lst 1 l.length (fun i0 _ => .lst 2 ((l.getD i0 []).length) (fun i1 j1 => ([.int .i64 (((l.getD i0 []).getD i1 (default : GEntry)).epoch), .str (((l.getD i0 []).getD i1 (default : GEntry)).text)] : List AV).getD j1 (.con undef)))), .one (.fn g m caps)] (.one (.bool (l.any p))) := by
  refine Fn.of_body (fn := Try.f100) Try.func100 rfl (Nat.le_of_ble_eq_true rfl) trivial ?_
  intro w0
  show AW _ 9 _ _ _ _
  refine AW.seq ?_
  refine AW.region ?_
  refine ARun.pure (PureOp.assign rfl .bool) rfl rfl (Nat.le_of_ble_eq_true rfl) ?_
  refine ARun.nil ?_
  refine AW.seq ?_
  refine AW.region ?_
  refine ARun.pure (PureOp.move rfl (.tmp rfl)) rfl rfl (Nat.le_of_ble_eq_true rfl) ?_
  refine ARun.pure (PureOp.move rfl (.tmp rfl)) rfl rfl (Nat.le_of_ble_eq_true rfl) ?_
  refine ARun.pure (PureOp.call rfl (v_IndexFunc_EntryS l g m caps p hd hB hp) ⟨⟨_, (.tmp rfl), .lst⟩, ⟨_, (.tmp rfl), (.fn (fun j hj => Vw.of_deep (hd j hj)))⟩, trivial⟩ vb_ca_116 trivial) rfl rfl (Nat.le_of_ble_eq_true rfl) ?_
  refine ARun.pure (PureOp.intOp rfl (.tmp rfl) .int rfl) rfl rfl (Nat.le_of_ble_eq_true rfl) ?_
  refine ARun.pure (PureOp.assign rfl (.tmp rfl)) rfl rfl (Nat.le_of_ble_eq_true rfl) ?_
  refine ARun.nil ?_
  refine AW.ret (show ResL _ _ [.tmp 4] _ from resB rfl ?_)
  exact idxF_any p l

theorem v_IndexFunc_Item (l : List GItem) (g : FuncId) (m : Nat) (caps : Nat → AV) (p : GItem → Bool) (hd : ∀ j, j < m → (caps j).Deep) (hB : callB Try.prog g = true) (hp : ∀ k, k < l.length → Fn Try.prog g ([.agg [.lst 2 (((l.getD k (default : GItem)).labels).length) (fun i0 j0 => ([.str ((((l.getD k (default : GItem)).labels).getD i0 (default : GLabel)).lname), .str ((((l.getD k (default : GItem)).labels).getD i0 (default : GLabel)).lvalue)] : List AV).getD j0 (.con undef)), .int .i64 ((l.getD k (default : GItem)).value)]] ++ capL m caps) (.one (.bool (p (l.getD k (default : GItem)))))) : Fn Try.prog 118 [.one (.lst 2 l.length (fun i0 j0 => ([.lst 2 (((l.getD i0 (default : GItem)).labels).length) (fun i1 j1 => ([.str ((((l.getD i0 (default : GItem)).labels).getD i1 (default : GLabel)).lname), .str ((((l.getD i0 (default : GItem)).labels).getD i1 (default : GLabel)).lvalue)] : List AV).getD j1 (.con undef)), .int .i64 ((l.getD i0 (default : GItem)).value)] : List AV).getD j0 (.con undef))), .one (.fn g m caps)] (.one (.int .i64 (idxF p l))) := by
  refine Fn.of_body (fn := Try.f118) Try.func118 rfl (Nat.le_of_ble_eq_true rfl) trivial ?_
  intro w0
  show AW _ 19 _ _ _ _
  refine AW.bound (t := 0) rfl fun hx => ?_
  refine AW.seq ?_
  refine AW.region ?_
  refine ARun.pure (PureOp.assign rfl .int) rfl rfl (Nat.le_of_ble_eq_true rfl) ?_
  refine ARun.nil ?_
  refine AW.seq ?_
  refine AW.seq ?_
  refine AW.region ?_
  refine ARun.pure (PureOp.move rfl (.tmp rfl)) rfl rfl (Nat.le_of_ble_eq_true rfl) ?_
  refine ARun.pure (PureOp.lenLst rfl (.tmp rfl) vb_sl_49) rfl rfl (Nat.le_of_ble_eq_true rfl) ?_
  refine ARun.pure (PureOp.move rfl .int) rfl rfl (Nat.le_of_ble_eq_true rfl) ?_
  refine ARun.nil ?_
  refine AW.block ?_
  refine AW.loop (ι := Nat) (fun k => ⟨[(0, .one (.lst 2 l.length (fun i0 j0 => ([.lst 2 (((l.getD i0 (default : GItem)).labels).length) (fun i1 j1 => ([.str ((((l.getD i0 (default : GItem)).labels).getD i1 (default : GLabel)).lname), .str ((((l.getD i0 (default : GItem)).labels).getD i1 (default : GLabel)).lvalue)] : List AV).getD j1 (.con undef)), .int .i64 ((l.getD i0 (default : GItem)).value)] : List AV).getD j0 (.con undef)))), (1, .one (.fn g m caps)), (7, .one (.int .i64 (l.length : Int))), (8, .one (.int .i64 (k : Int)))], []⟩) (fun k => k ≤ l.length ∧ (l.take k).any p = false) (fun k => l.length - k) 0 ⟨Nat.zero_le _, rfl⟩ ⟨⟨⟨_, rfl, rfl⟩, ⟨_, rfl, rfl⟩, ⟨_, rfl, rfl⟩, ⟨_, rfl, rfl⟩, trivial⟩, trivial⟩ ?_
  intro k hI
  obtain ⟨hk, hq⟩ := hI
  refine AW.seq ?_
  refine AW.region ?_
  refine ARun.pure (PureOp.intOp rfl (.tmp rfl) (.tmp rfl) rfl) rfl rfl (Nat.le_of_ble_eq_true rfl) ?_
  refine ARun.nil ?_
  refine AW.seq ?_
  refine AW.cond (.tmp rfl) (fun hb1 => ?_) (fun hb1 => ?_)
  · have _u := True.intro
    replace hb1 := of_decide_eq_true hb1
    have hlt : k < l.length := by omega
    refine AW.skip ?_
    refine AW.seq ?_
    refine AW.block ?_
    refine AW.seq ?_
    refine AW.region ?_
    refine ARun.pure (PureOp.move rfl (.tmp rfl)) rfl rfl (Nat.le_of_ble_eq_true rfl) ?_
    refine ARun.pure (PureOp.assign rfl (.tmp rfl)) rfl rfl (Nat.le_of_ble_eq_true rfl) ?_
    refine ARun.nil ?_
    refine AW.seq ?_
    refine AW.region ?_
    refine ARun.pure (PureOp.move rfl (.tmp rfl)) rfl rfl (Nat.le_of_ble_eq_true rfl) ?_
    refine ARun.pure (PureOp.move rfl (.tmp rfl)) rfl rfl (Nat.le_of_ble_eq_true rfl) ?_
    refine ARun.pure (PureOp.move rfl (.tmp rfl)) rfl rfl (Nat.le_of_ble_eq_true rfl) ?_
    refine ARun.pure (PureOp.indexLst (i := k) rfl (.tmp rfl) vb_el_49_2 (.tmp rfl) rfl (by omega)) rfl rfl (Nat.le_of_ble_eq_true rfl) ?_
    refine ARun.pure (PureOp.loadRefAgg rfl (.tmp rfl) vb_ag_98_2 (Nat.le_of_ble_eq_true rfl)) rfl rfl (Nat.le_of_ble_eq_true rfl) ?_
    refine ARun.pure (PureOp.callv rfl (.tmp rfl) (hp k hlt) (fun j hj => Vw.of_deep (hd j hj)) ⟨⟨_, (.tmp rfl), ⟨.lst, .int, trivial⟩⟩, trivial⟩ hB trivial) rfl rfl (Nat.le_of_ble_eq_true rfl) ?_
    refine ARun.nil ?_
    refine AW.cond (.tmp rfl) (fun hb2 => ?_) (fun hb2 => ?_)
    · have _u := True.intro
      refine AW.seq ?_
      refine AW.region ?_
      refine ARun.pure (PureOp.move rfl (.tmp rfl)) rfl rfl (Nat.le_of_ble_eq_true rfl) ?_
      refine ARun.pure (PureOp.assign rfl (.tmp rfl)) rfl rfl (Nat.le_of_ble_eq_true rfl) ?_
      refine ARun.nil ?_
      refine AW.ret (show ResL _ _ [.tmp 4] _ from resI rfl ?_)
      exact idxF_hit (default : GItem) hlt hq hb2
    · have _u := True.intro
      refine AW.skip ?_
      refine AW.region ?_
      refine ARun.pure (PureOp.add (c := ((k + 1 : Nat) : Int)) rfl (.tmp rfl) .int (by rw [wrap_id (by omega) (by omega)]; omega)) rfl rfl (Nat.le_of_ble_eq_true rfl) ?_
      refine ARun.pure (PureOp.move rfl (.tmp rfl)) rfl rfl (Nat.le_of_ble_eq_true rfl) ?_
      refine ARun.nil ?_
      exact ⟨k + 1, ⟨by omega, any_take (default : GItem) hlt hq hb2⟩, by dsimp only; omega, ⟨⟨⟨_, rfl, rfl⟩, ⟨_, rfl, rfl⟩, ⟨_, rfl, rfl⟩, ⟨_, rfl, rfl⟩, trivial⟩, trivial⟩⟩
  · have _u := True.intro
    replace hb1 := of_decide_eq_false hb1
    have hlt : ¬ k < l.length := by omega
    refine AW.exit ?_
    refine AW.seq ?_
    refine AW.region ?_
    refine ARun.pure (PureOp.assign rfl .int) rfl rfl (Nat.le_of_ble_eq_true rfl) ?_
    refine ARun.nil ?_
    refine AW.ret (show ResL _ _ [.tmp 4] _ from resI rfl ?_)
    exact idxF_none hlt hq

theorem v_ContainsFunc_Item (l : List GItem) (g : FuncId) (m : Nat) (caps : Nat → AV) (p : GItem → Bool) (hd : ∀ j, j < m → (caps j).Deep) (hB : callB Try.prog g = true) (hp : ∀ k, k < l.length → Fn Try.prog g ([.agg [.lst 2 (((l.getD k (default : GItem)).labels).length) (fun i0 j0 => ([.str ((((l.getD k (default : GItem)).labels).getD i0 (default : GLabel)).lname), .str ((((l.getD k (default : GItem)).labels).getD i0 (default : GLabel)).lvalue)] : List AV).getD j0 (.con undef)), .int .i64 ((l.getD k (default : GItem)).value)]] ++ capL m caps) (.one (.bool (p (l.getD k (default : GItem)))))) : Fn Try.prog 107 [.one (.lst 2 l.length (fun i0 j0 => ([.lst 2 (((l.getD i0 (default : GItem)).labels).length) (fun i1 j1 => ([.str ((((l.getD i0 (default : GItem)).labels).getD i1 (default : GLabel)).lname), .str ((((l.getD i0 (default : GItem)).labels).getD i1 (default : GLabel)).lvalue)] : List AV).getD j1 (.con undef)), .int .i64 ((l.getD i0 (default : GItem)).value)] : List AV).getD j0 (.con undef))), .one (.fn g m caps)] (.one (.bool (l.any p))) := by
  refine Fn.of_body (fn := Try.f107) Try.func107 rfl (Nat.le_of_ble_eq_true rfl) trivial ?_
  intro w0
  show AW _ 9 _ _ _ _
  refine AW.seq ?_
  refine AW.region ?_
  refine ARun.pure (PureOp.assign rfl .bool) rfl rfl (Nat.le_of_ble_eq_true rfl) ?_
  refine ARun.nil ?_
  refine AW.seq ?_
  refine AW.region ?_
  refine ARun.pure (PureOp.move rfl (.tmp rfl)) rfl rfl (Nat.le_of_ble_eq_true rfl) ?_
  refine ARun.pure (PureOp.move rfl (.tmp rfl)) rfl rfl (Nat.le_of_ble_eq_true rfl) ?_
  refine ARun.pure (PureOp.call rfl (v_IndexFunc_Item l g m caps p hd hB hp) ⟨⟨_, (.tmp rfl), .lst⟩, ⟨_, (.tmp rfl), (.fn (fun j hj => Vw.of_deep (hd j hj)))⟩, trivial⟩ vb_ca_118 trivial) rfl rfl (Nat.le_of_ble_eq_true rfl) ?_
  refine ARun.pure (PureOp.intOp rfl (.tmp rfl) .int rfl) rfl rfl (Nat.le_of_ble_eq_true rfl) ?_
  refine ARun.pure (PureOp.assign rfl (.tmp rfl)) rfl rfl (Nat.le_of_ble_eq_true rfl) ?_
  refine ARun.nil ?_
  refine AW.ret (show ResL _ _ [.tmp 4] _ from resB rfl ?_)
  exact idxF_any p l
end Go.Proofs.Ytmlhlkpiofbhgaa
