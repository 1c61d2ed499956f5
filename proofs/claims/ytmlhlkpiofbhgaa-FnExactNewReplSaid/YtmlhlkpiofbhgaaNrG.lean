/-
  Proved: the law FnExactNewRepl returns true for every input: the program's NewRepl answers what the reference's does, leaves its arguments alone, and hands out memory that nobody else holds. Conditions: none.
-/
import Derived.Test.YtmlhlkpiofbhgaaNr
import Derived.Test.YtmlhlkpiofbhgaaLa5
import Derived.Test.YtmlhlkpiofbhgaaLh5
import Derived.Test.YtmlhlkpiofbhgaaLo5
import Derived.Test.YtmlhlkpiofbhgaaLz5
import Derived.Test.YtmlhlkpiofbhgaaLe5
import Derived.Test.YtmlhlkpiofbhgaaVo
namespace Go.Proofs.Ytmlhlkpiofbhgaa
open Go.ChangeShapes Go.WideShapes Go.ChangeAt Go.RowKit Go.BigFrame Go.Deep
set_option linter.unusedVariables false
set_option linter.unusedSimpArgs false
theorem vl_ag_27_6 : aggB Try.prog 27 6 = true := by kernel_rfl
theorem vl_bo_4 : boolB Try.prog 4 = true := by kernel_rfl
theorem vl_ca_10 : callB Try.prog 10 = true := by kernel_rfl
theorem vl_ca_11 : callB Try.prog 11 = true := by kernel_rfl
theorem vl_ca_12 : callB Try.prog 12 = true := by kernel_rfl
theorem vl_ca_13 : callB Try.prog 13 = true := by kernel_rfl
theorem vl_ca_14 : callB Try.prog 14 = true := by kernel_rfl
theorem vl_sz_27_6 : sizeB Try.prog 27 6 = true := by kernel_rfl
theorem newRepl_cnt (x : Int) : cvRepl (newReplV x).1 ≤ 1000 := by
  unfold newReplV
  by_cases h : inB 1 5 x = true
  · obtain ⟨h1, h2⟩ := inB_true h
    rw [if_pos h]
    have e0 : ∀ n : Nat, ctL (ctL crEntry) (List.replicate n []) ≤ 0 * n := fun n => by
      have := ctL_len (ct := fun l : List GEntry => 0) (c := 0) (fun _ => Nat.le_refl _) (List.replicate n ([] : List GEntry))
      induction n with
      | zero => exact Nat.zero_le _
      | succ n ih => rw [List.replicate_succ]; show (ctL crEntry [] :: (List.replicate n []).map (ctL crEntry)).sum ≤ _; rw [List.sum_cons]; have h := ih (by simp [ctL]); unfold ctL at h; have e : ctL crEntry [] = 0 := rfl; unfold ctL at e ⊢; omega
    have e1 : ctL c1 (List.replicate x.toNat false) = x.toNat := (ctL_one (fun _ => rfl) _).trans List.length_replicate
    have e2 : ctL c1 (inSyncL x.toNat) = x.toNat := (ctL_one (fun _ => rfl) _).trans (is_len _)
    have e3 : ctL crEntry [] = 0 := rfl
    show 0 + ctL (ctL crEntry) (List.replicate x.toNat []) + ctL c1 (List.replicate x.toNat false) + ctL c1 (inSyncL x.toNat) + ctL crEntry [] ≤ 1000
    have := e0 x.toNat
    omega
  · rw [if_neg h]; decide

theorem opensC_3 : OpensC Try.prog 3 (fun x : Int => [.int .i64 x]) := OpensC.int Try.underlying3

theorem law_NewRepl (x0 : Int) (hx0 : I64 x0) : Fn Try.prog 3 [.one (.int .i64 x0)] (.one (.bool true)) := by
  have hcnt : cvRepl (newReplV x0).1 ≤ 1000 := newRepl_cnt x0
  have hx0' : -9223372036854775808 ≤ x0 ∧ x0 ≤ 9223372036854775807 := hx0
  refine Fn.of_body (fn := Try.f3) Try.func3 rfl (Nat.le_of_ble_eq_true rfl) trivial ?_
  intro w0
  show AW _ 63 _ _ _ _
  refine AW.seq ?_
  refine AW.region ?_
  refine ARun.pure (PureOp.assign rfl .bool) rfl rfl (Nat.le_of_ble_eq_true rfl) ?_
  refine ARun.nil ?_
  refine AW.seq ?_
  refine AW.region ?_
  refine ARun.pure (PureOp.move rfl (.tmp rfl)) rfl rfl (Nat.le_of_ble_eq_true rfl) ?_
  refine ARun.prod (K := 0) rfl (v_sNewRepl x0) ⟨rfl, (by repeat first | exact trivial | refine ⟨by decide, by first | rfl | exact trivial | (intro i j; first | rfl | exact getD_no rfl | (dsimp only; split <;> first | rfl | exact getD_no rfl)), ?_⟩)⟩ ⟨⟨_, (.tmp rfl), .int⟩, trivial⟩ vl_ca_10 rfl rfl rfl rfl rfl (Nat.le_of_ble_eq_true rfl) ?_
  refine ARun.pure (PureOp.move rfl (.tmp rfl)) rfl rfl (Nat.le_of_ble_eq_true rfl) ?_
  refine ARun.pure (PureOp.ext2a rfl (.tmp rfl)) rfl rfl (Nat.le_of_ble_eq_true rfl) ?_
  refine ARun.pure (PureOp.ext2b rfl (.tmp rfl)) rfl rfl (Nat.le_of_ble_eq_true rfl) ?_
  refine ARun.alloc (id := 1) (l := [.con (.slice none 0 0), .con (.slice none 0 0), .int .i64 0, .int .i64 0, .con (.slice none 0 0), .con (.slice none 0 0)]) (z := (.agg #[.slice none 0 0, .slice none 0 0, .int .i64 0, .int .i64 0, .slice none 0 0, .slice none 0 0])) rfl (by kernel_rfl) (fun _ _ _ => ⟨_, _, rfl, rfl, ⟨_, _, rfl, rfl, ⟨_, _, rfl, rfl, ⟨_, _, rfl, rfl, ⟨_, _, rfl, rfl, ⟨_, _, rfl, rfl, rfl⟩⟩⟩⟩⟩⟩) ⟨rfl, (by repeat first | exact trivial | refine ⟨by decide, by first | rfl | exact trivial | (intro i j; first | rfl | exact getD_no rfl | (dsimp only; split <;> first | rfl | exact getD_no rfl)), ?_⟩)⟩ rfl rfl rfl (Nat.le_of_ble_eq_true rfl) ?_
  refine ARun.store rfl (.tmp rfl) (.tmp rfl) (SV.cells_of (by exact ⟨trivial, trivial, trivial, trivial, trivial, trivial, trivial⟩)) rfl (Nat.le_of_ble_eq_true rfl) vl_sz_27_6 rfl rfl ?_
  refine ARun.pure (PureOp.assign rfl (.tmp rfl)) rfl rfl (Nat.le_of_ble_eq_true rfl) ?_
  refine ARun.nil ?_
  refine AW.seq ?_
  refine AW.region ?_
  refine ARun.pure (PureOp.move rfl (.tmp rfl)) rfl rfl (Nat.le_of_ble_eq_true rfl) ?_
  refine ARun.prod (K := 2) rfl (v_iNewRepl x0) ⟨rfl, (by repeat first | exact trivial | refine ⟨by decide, by first | rfl | exact trivial | (intro i j; first | rfl | exact getD_no rfl | (dsimp only; split <;> first | rfl | exact getD_no rfl)), ?_⟩)⟩ ⟨⟨_, (.tmp rfl), .int⟩, trivial⟩ vl_ca_11 rfl rfl rfl rfl rfl (Nat.le_of_ble_eq_true rfl) ?_
  refine ARun.pure (PureOp.move rfl (.tmp rfl)) rfl rfl (Nat.le_of_ble_eq_true rfl) ?_
  refine ARun.pure (PureOp.ext2a rfl (.tmp rfl)) rfl rfl (Nat.le_of_ble_eq_true rfl) ?_
  refine ARun.pure (PureOp.ext2b rfl (.tmp rfl)) rfl rfl (Nat.le_of_ble_eq_true rfl) ?_
  refine ARun.alloc (id := 3) (l := [.con (.slice none 0 0), .con (.slice none 0 0), .int .i64 0, .int .i64 0, .con (.slice none 0 0), .con (.slice none 0 0)]) (z := (.agg #[.slice none 0 0, .slice none 0 0, .int .i64 0, .int .i64 0, .slice none 0 0, .slice none 0 0])) rfl (by kernel_rfl) (fun _ _ _ => ⟨_, _, rfl, rfl, ⟨_, _, rfl, rfl, ⟨_, _, rfl, rfl, ⟨_, _, rfl, rfl, ⟨_, _, rfl, rfl, ⟨_, _, rfl, rfl, rfl⟩⟩⟩⟩⟩⟩) ⟨rfl, (by repeat first | exact trivial | refine ⟨by decide, by first | rfl | exact trivial | (intro i j; first | rfl | exact getD_no rfl | (dsimp only; split <;> first | rfl | exact getD_no rfl)), ?_⟩)⟩ rfl rfl rfl (Nat.le_of_ble_eq_true rfl) ?_
  refine ARun.store rfl (.tmp rfl) (.tmp rfl) (SV.cells_of (by exact ⟨trivial, trivial, trivial, trivial, trivial, trivial, trivial⟩)) rfl (Nat.le_of_ble_eq_true rfl) vl_sz_27_6 rfl rfl ?_
  refine ARun.pure (PureOp.assign rfl (.tmp rfl)) rfl rfl (Nat.le_of_ble_eq_true rfl) ?_
  refine ARun.nil ?_
  refine AW.seq ?_
  refine AW.seq ?_
  refine AW.region ?_
  refine ARun.pure (PureOp.loadPtrAgg rfl (.tmp rfl) vl_ag_27_6 rfl rfl (Nat.le_of_ble_eq_true rfl) (Nat.le_of_ble_eq_true rfl)) rfl rfl (Nat.le_of_ble_eq_true rfl) ?_
  refine ARun.pure (PureOp.loadPtrAgg rfl (.tmp rfl) vl_ag_27_6 rfl rfl (Nat.le_of_ble_eq_true rfl) (Nat.le_of_ble_eq_true rfl)) rfl rfl (Nat.le_of_ble_eq_true rfl) ?_
  refine ARun.pure (PureOp.call rfl (v_eqRepl ((newReplV x0).1) ((newReplV x0).1)) ⟨⟨_, (.tmp rfl), ⟨(Vw.cast (Vw.tre rfl (Nat.le_of_ble_eq_true rfl)) rfl), (Vw.cast (Vw.tre rfl (Nat.le_of_ble_eq_true rfl)) rfl), .int, .int, (Vw.cast (Vw.tre rfl (Nat.le_of_ble_eq_true rfl)) rfl), (Vw.cast (Vw.tre rfl (Nat.le_of_ble_eq_true rfl)) rfl), trivial⟩⟩, ⟨_, (.tmp rfl), ⟨(Vw.cast (Vw.tre rfl (Nat.le_of_ble_eq_true rfl)) rfl), (Vw.cast (Vw.tre rfl (Nat.le_of_ble_eq_true rfl)) rfl), .int, .int, (Vw.cast (Vw.tre rfl (Nat.le_of_ble_eq_true rfl)) rfl), (Vw.cast (Vw.tre rfl (Nat.le_of_ble_eq_true rfl)) rfl), trivial⟩⟩, trivial⟩ vl_ca_12 trivial) rfl rfl (Nat.le_of_ble_eq_true rfl) ?_
  refine ARun.pure (PureOp.not rfl (.tmp rfl)) rfl rfl (Nat.le_of_ble_eq_true rfl) ?_
  refine ARun.pure (PureOp.move rfl (.tmp rfl)) rfl rfl (Nat.le_of_ble_eq_true rfl) ?_
  refine ARun.gpure (want := false) (.tf rfl) (fun hg1 => PureOp.move rfl (.tmp rfl)) rfl rfl (Nat.le_of_ble_eq_true rfl) rfl (Nat.le_of_ble_eq_true rfl) ?_
  refine ARun.gpure (want := false) (.tf rfl) (fun hg2 => PureOp.move rfl (.tmp rfl)) rfl rfl (Nat.le_of_ble_eq_true rfl) rfl (Nat.le_of_ble_eq_true rfl) ?_
  refine ARun.gpure (want := false) (.tf rfl) (fun hg3 => PureOp.boolNe rfl (.gtmp rfl hg3) (.gtmp rfl hg3) vl_bo_4) rfl rfl (Nat.le_of_ble_eq_true rfl) rfl (Nat.le_of_ble_eq_true rfl) ?_
  refine ARun.pure (PureOp.pick rfl (.tmp rfl) (fun _ => .bool) (fun hp5 => .gtmp rfl (not_of hp5))) rfl rfl (Nat.le_of_ble_eq_true rfl) ?_
  refine ARun.nil ?_
  refine AW.cond (.tmp rfl) (fun hb6 => ?_) (fun hb6 => ?_)
  · have _u := True.intro
    exact absurd (show (cond (!(decide (((newReplV x0).1) = ((newReplV x0).1)))) true (!(((newReplV x0).2) == ((newReplV x0).2)))) = false by first | (simp; done) | (rw [cast_neg]; simp; done)) (by rw [hb6]; simp)
    --end
  · have _u := True.intro
    refine AW.skip ?_
    refine AW.seq ?_
    refine AW.region ?_
    refine ARun.pure (PureOp.assign rfl .int) rfl rfl (Nat.le_of_ble_eq_true rfl) ?_
    refine ARun.nil ?_
    refine AW.seq ?_
    refine AW.region ?_
    refine ARun.pure (PureOp.loadPtrAgg rfl (.tmp rfl) vl_ag_27_6 rfl rfl (Nat.le_of_ble_eq_true rfl) (Nat.le_of_ble_eq_true rfl)) rfl rfl (Nat.le_of_ble_eq_true rfl) ?_
    refine ARun.pure (PureOp.move rfl (.tmp rfl)) rfl rfl (Nat.le_of_ble_eq_true rfl) ?_
    refine ARun.mark (id := 2) (q0 := 0) (X' := fun q => if q < 6 then (fun p => ([.lst 1 (((mvRepl ((newReplV x0).1) 1).logs).length) (fun i0 _ => .lst 2 ((((mvRepl ((newReplV x0).1) 1).logs).getD i0 []).length) (fun i1 j1 => ([.int .i64 (((((mvRepl ((newReplV x0).1) 1).logs).getD i0 []).getD i1 (default : GEntry)).epoch), .str (((((mvRepl ((newReplV x0).1) 1).logs).getD i0 []).getD i1 (default : GEntry)).text)] : List AV).getD j1 (.con undef))), .lst 1 (((mvRepl ((newReplV x0).1) 1).down).length) (fun i0 _ => .bool (((mvRepl ((newReplV x0).1) 1).down).getD i0 false)), .int .i64 ((mvRepl ((newReplV x0).1) 1).leader), .int .i64 ((mvRepl ((newReplV x0).1) 1).epoch), .lst 1 (((mvRepl ((newReplV x0).1) 1).inSync).length) (fun i0 _ => .int .i64 (((mvRepl ((newReplV x0).1) 1).inSync).getD i0 0)), .lst 2 (((mvRepl ((newReplV x0).1) 1).certain).length) (fun i0 j0 => ([.int .i64 ((((mvRepl ((newReplV x0).1) 1).certain).getD i0 (default : GEntry)).epoch), .str ((((mvRepl ((newReplV x0).1) 1).certain).getD i0 (default : GEntry)).text)] : List AV).getD j0 (.con undef))] : List AV).getD p (.con undef)) q else (fun p => ([.lst 1 ((((newReplV x0).1).logs).length) (fun i0 _ => .lst 2 (((((newReplV x0).1).logs).getD i0 []).length) (fun i1 j1 => ([.int .i64 ((((((newReplV x0).1).logs).getD i0 []).getD i1 (default : GEntry)).epoch), .str ((((((newReplV x0).1).logs).getD i0 []).getD i1 (default : GEntry)).text)] : List AV).getD j1 (.con undef))), .lst 1 ((((newReplV x0).1).down).length) (fun i0 _ => .bool ((((newReplV x0).1).down).getD i0 false)), .int .i64 (((newReplV x0).1).leader), .int .i64 (((newReplV x0).1).epoch), .lst 1 ((((newReplV x0).1).inSync).length) (fun i0 _ => .int .i64 ((((newReplV x0).1).inSync).getD i0 0)), .lst 2 ((((newReplV x0).1).certain).length) (fun i0 j0 => ([.int .i64 (((((newReplV x0).1).certain).getD i0 (default : GEntry)).epoch), .str (((((newReplV x0).1).certain).getD i0 (default : GEntry)).text)] : List AV).getD j0 (.con undef)), .bool ((newReplV x0).2)] : List AV).getD p (.con undef)) q) rfl (m_Repl ((newReplV x0).1) 1 ⟨by omega, by omega⟩) vl_ca_13 trivial (.tmp rfl) rfl rfl rfl (Nat.le_of_ble_eq_true rfl) (fun p hp _ => match p, hp with | 0, _ => rfl | 1, _ => rfl | 2, _ => rfl | 3, _ => rfl | 4, _ => rfl | 5, _ => rfl | _ + 6, h => absurd h (by simp [SV.leaves])) rfl rfl (fun p hp _ => match p, hp with | 0, _ => rfl | 1, _ => rfl | 2, _ => rfl | 3, _ => rfl | 4, _ => rfl | 5, _ => rfl | _ + 6, h => absurd h (by simp [SV.leaves])) (fun q hq hne => match q, hq, hne with | 0, _, h => absurd rfl (h 0 (Nat.le_of_ble_eq_true rfl) rfl) | 1, _, h => absurd rfl (h 1 (Nat.le_of_ble_eq_true rfl) rfl) | 2, _, _ => rfl | 3, _, _ => rfl | 4, _, h => absurd rfl (h 4 (Nat.le_of_ble_eq_true rfl) rfl) | 5, _, h => absurd rfl (h 5 (Nat.le_of_ble_eq_true rfl) rfl) | q + 6, _, _ => if_neg (by omega)) ⟨(.tmp rfl), trivial, trivial⟩ rfl rfl (Nat.le_of_ble_eq_true rfl) ?_
    refine ARun.pure (PureOp.assign rfl (.tmp rfl)) rfl rfl (Nat.le_of_ble_eq_true rfl) ?_
    refine ARun.nil ?_
    refine AW.seq ?_
    refine AW.region ?_
    refine ARun.pure (PureOp.assign rfl .int) rfl rfl (Nat.le_of_ble_eq_true rfl) ?_
    refine ARun.nil ?_
    refine AW.seq ?_
    refine AW.region ?_
    refine ARun.pure (PureOp.loadPtrAgg rfl (.tmp rfl) vl_ag_27_6 rfl rfl (Nat.le_of_ble_eq_true rfl) (Nat.le_of_ble_eq_true rfl)) rfl rfl (Nat.le_of_ble_eq_true rfl) ?_
    refine ARun.pure (PureOp.move rfl (.tmp rfl)) rfl rfl (Nat.le_of_ble_eq_true rfl) ?_
    refine ARun.pure (PureOp.call rfl (h_Repl ((newReplV x0).1) (mvRepl ((newReplV x0).1) 1) 1 rfl ⟨by omega, by omega⟩) ⟨⟨_, (.tmp rfl), ⟨(Vw.cast (Vw.tre rfl (Nat.le_of_ble_eq_true rfl)) rfl), (Vw.cast (Vw.tre rfl (Nat.le_of_ble_eq_true rfl)) rfl), .int, .int, (Vw.cast (Vw.tre rfl (Nat.le_of_ble_eq_true rfl)) rfl), (Vw.cast (Vw.tre rfl (Nat.le_of_ble_eq_true rfl)) rfl), trivial⟩⟩, ⟨_, (.tmp rfl), .int⟩, trivial⟩ vl_ca_14 trivial) rfl rfl (Nat.le_of_ble_eq_true rfl) ?_
    refine ARun.pure (PureOp.assign rfl (.tmp rfl)) rfl rfl (Nat.le_of_ble_eq_true rfl) ?_
    refine ARun.nil ?_
    refine AW.seq ?_
    refine AW.seq ?_
    refine AW.region ?_
    refine ARun.pure (PureOp.move rfl (.tmp rfl)) rfl rfl (Nat.le_of_ble_eq_true rfl) ?_
    refine ARun.pure (PureOp.intOp rfl (.tmp rfl) .int rfl) rfl rfl (Nat.le_of_ble_eq_true rfl) ?_
    refine ARun.nil ?_
    refine AW.cond (.tmp rfl) (fun hb7 => ?_) (fun hb7 => ?_)
    · have _u := True.intro
      replace hb7 := of_decide_eq_true hb7
      exact absurd hb7 (by omega)
      --end
    · have _u := True.intro
      replace hb7 := of_decide_eq_false hb7
      refine AW.skip ?_
      refine AW.seq ?_
      refine AW.seq ?_
      refine AW.region ?_
      refine ARun.pure (PureOp.move rfl (.tmp rfl)) rfl rfl (Nat.le_of_ble_eq_true rfl) ?_
      refine ARun.pure (PureOp.move rfl (.tmp rfl)) rfl rfl (Nat.le_of_ble_eq_true rfl) ?_
      refine ARun.pure (PureOp.intOp rfl (.tmp rfl) (.tmp rfl) rfl) rfl rfl (Nat.le_of_ble_eq_true rfl) ?_
      refine ARun.nil ?_
      refine AW.cond (.tmp rfl) (fun hb8 => ?_) (fun hb8 => ?_)
      · have _u := True.intro
        replace hb8 := of_decide_eq_false (of_not hb8)
        exact absurd rfl hb8
        --end
      · have _u := True.intro
        replace hb8 := of_decide_eq_true (not_f hb8)
        refine AW.skip ?_
        refine AW.seq ?_
        refine AW.region ?_
        refine ARun.pure (PureOp.move rfl (.tmp rfl)) rfl rfl (Nat.le_of_ble_eq_true rfl) ?_
        refine ARun.prod (K := 4) rfl (v_iNewRepl x0) ⟨rfl, (by repeat first | exact trivial | refine ⟨by decide, by first | rfl | exact trivial | (intro i j; first | rfl | exact getD_no rfl | (dsimp only; split <;> first | rfl | exact getD_no rfl)), ?_⟩)⟩ ⟨⟨_, (.tmp rfl), .int⟩, trivial⟩ vl_ca_11 rfl rfl rfl rfl rfl (Nat.le_of_ble_eq_true rfl) ?_
        refine ARun.pure (PureOp.move rfl (.tmp rfl)) rfl rfl (Nat.le_of_ble_eq_true rfl) ?_
        refine ARun.pure (PureOp.ext2a rfl (.tmp rfl)) rfl rfl (Nat.le_of_ble_eq_true rfl) ?_
        refine ARun.pure (PureOp.ext2b rfl (.tmp rfl)) rfl rfl (Nat.le_of_ble_eq_true rfl) ?_
        refine ARun.alloc (id := 5) (l := [.con (.slice none 0 0), .con (.slice none 0 0), .int .i64 0, .int .i64 0, .con (.slice none 0 0), .con (.slice none 0 0)]) (z := (.agg #[.slice none 0 0, .slice none 0 0, .int .i64 0, .int .i64 0, .slice none 0 0, .slice none 0 0])) rfl (by kernel_rfl) (fun _ _ _ => ⟨_, _, rfl, rfl, ⟨_, _, rfl, rfl, ⟨_, _, rfl, rfl, ⟨_, _, rfl, rfl, ⟨_, _, rfl, rfl, ⟨_, _, rfl, rfl, rfl⟩⟩⟩⟩⟩⟩) ⟨rfl, (by repeat first | exact trivial | refine ⟨by decide, by first | rfl | exact trivial | (intro i j; first | rfl | exact getD_no rfl | (dsimp only; split <;> first | rfl | exact getD_no rfl)), ?_⟩)⟩ rfl rfl rfl (Nat.le_of_ble_eq_true rfl) ?_
        refine ARun.store rfl (.tmp rfl) (.tmp rfl) (SV.cells_of (by exact ⟨trivial, trivial, trivial, trivial, trivial, trivial, trivial⟩)) rfl (Nat.le_of_ble_eq_true rfl) vl_sz_27_6 rfl rfl ?_
        refine ARun.pure (PureOp.assign rfl (.tmp rfl)) rfl rfl (Nat.le_of_ble_eq_true rfl) ?_
        refine ARun.nil ?_
        refine AW.seq ?_
        refine AW.seq ?_
        refine AW.region ?_
        refine ARun.pure (PureOp.loadPtrAgg rfl (.tmp rfl) vl_ag_27_6 rfl rfl (Nat.le_of_ble_eq_true rfl) (Nat.le_of_ble_eq_true rfl)) rfl rfl (Nat.le_of_ble_eq_true rfl) ?_
        refine ARun.pure (PureOp.loadPtrAgg rfl (.tmp rfl) vl_ag_27_6 rfl rfl (Nat.le_of_ble_eq_true rfl) (Nat.le_of_ble_eq_true rfl)) rfl rfl (Nat.le_of_ble_eq_true rfl) ?_
        refine ARun.pure (PureOp.call rfl (v_eqRepl ((newReplV x0).1) ((newReplV x0).1)) ⟨⟨_, (.tmp rfl), ⟨(Vw.cast (Vw.tre rfl (Nat.le_of_ble_eq_true rfl)) rfl), (Vw.cast (Vw.tre rfl (Nat.le_of_ble_eq_true rfl)) rfl), .int, .int, (Vw.cast (Vw.tre rfl (Nat.le_of_ble_eq_true rfl)) rfl), (Vw.cast (Vw.tre rfl (Nat.le_of_ble_eq_true rfl)) rfl), trivial⟩⟩, ⟨_, (.tmp rfl), ⟨(Vw.cast (Vw.tre rfl (Nat.le_of_ble_eq_true rfl)) rfl), (Vw.cast (Vw.tre rfl (Nat.le_of_ble_eq_true rfl)) rfl), .int, .int, (Vw.cast (Vw.tre rfl (Nat.le_of_ble_eq_true rfl)) rfl), (Vw.cast (Vw.tre rfl (Nat.le_of_ble_eq_true rfl)) rfl), trivial⟩⟩, trivial⟩ vl_ca_12 trivial) rfl rfl (Nat.le_of_ble_eq_true rfl) ?_
        refine ARun.pure (PureOp.not rfl (.tmp rfl)) rfl rfl (Nat.le_of_ble_eq_true rfl) ?_
        refine ARun.pure (PureOp.move rfl (.tmp rfl)) rfl rfl (Nat.le_of_ble_eq_true rfl) ?_
        refine ARun.gpure (want := false) (.tf rfl) (fun hg9 => PureOp.move rfl (.tmp rfl)) rfl rfl (Nat.le_of_ble_eq_true rfl) rfl (Nat.le_of_ble_eq_true rfl) ?_
        refine ARun.gpure (want := false) (.tf rfl) (fun hg10 => PureOp.move rfl (.tmp rfl)) rfl rfl (Nat.le_of_ble_eq_true rfl) rfl (Nat.le_of_ble_eq_true rfl) ?_
        refine ARun.gpure (want := false) (.tf rfl) (fun hg11 => PureOp.boolNe rfl (.gtmp rfl hg11) (.gtmp rfl hg11) vl_bo_4) rfl rfl (Nat.le_of_ble_eq_true rfl) rfl (Nat.le_of_ble_eq_true rfl) ?_
        refine ARun.pure (PureOp.pick rfl (.tmp rfl) (fun _ => .bool) (fun hp13 => .gtmp rfl (not_of hp13))) rfl rfl (Nat.le_of_ble_eq_true rfl) ?_
        refine ARun.nil ?_
        refine AW.cond (.tmp rfl) (fun hb14 => ?_) (fun hb14 => ?_)
        · have _u := True.intro
          exact absurd (show (cond (!(decide (((newReplV x0).1) = ((newReplV x0).1)))) true (!(((newReplV x0).2) == ((newReplV x0).2)))) = false by first | (simp; done) | (rw [cast_neg]; simp; done)) (by rw [hb14]; simp)
          --end
        · have _u := True.intro
          refine AW.skip ?_
          refine AW.seq ?_
          refine AW.region ?_
          refine ARun.pure (PureOp.assign rfl .int) rfl rfl (Nat.le_of_ble_eq_true rfl) ?_
          refine ARun.nil ?_
          refine AW.seq ?_
          refine AW.region ?_
          refine ARun.pure (PureOp.loadPtrAgg rfl (.tmp rfl) vl_ag_27_6 rfl rfl (Nat.le_of_ble_eq_true rfl) (Nat.le_of_ble_eq_true rfl)) rfl rfl (Nat.le_of_ble_eq_true rfl) ?_
          refine ARun.pure (PureOp.move rfl (.tmp rfl)) rfl rfl (Nat.le_of_ble_eq_true rfl) ?_
          refine ARun.pure (PureOp.call rfl (h_Repl ((newReplV x0).1) (mvRepl ((newReplV x0).1) 1) 1 rfl ⟨by omega, by omega⟩) ⟨⟨_, (.tmp rfl), ⟨(Vw.cast (Vw.tre rfl (Nat.le_of_ble_eq_true rfl)) rfl), (Vw.cast (Vw.tre rfl (Nat.le_of_ble_eq_true rfl)) rfl), .int, .int, (Vw.cast (Vw.tre rfl (Nat.le_of_ble_eq_true rfl)) rfl), (Vw.cast (Vw.tre rfl (Nat.le_of_ble_eq_true rfl)) rfl), trivial⟩⟩, ⟨_, (.tmp rfl), .int⟩, trivial⟩ vl_ca_14 trivial) rfl rfl (Nat.le_of_ble_eq_true rfl) ?_
          refine ARun.pure (PureOp.assign rfl (.tmp rfl)) rfl rfl (Nat.le_of_ble_eq_true rfl) ?_
          refine ARun.nil ?_
          refine AW.seq ?_
          refine AW.seq ?_
          refine AW.region ?_
          refine ARun.pure (PureOp.move rfl (.tmp rfl)) rfl rfl (Nat.le_of_ble_eq_true rfl) ?_
          refine ARun.pure (PureOp.intOp rfl (.tmp rfl) .int rfl) rfl rfl (Nat.le_of_ble_eq_true rfl) ?_
          refine ARun.nil ?_
          refine AW.cond (.tmp rfl) (fun hb15 => ?_) (fun hb15 => ?_)
          · have _u := True.intro
            replace hb15 := of_decide_eq_true hb15
            exact absurd hb15 (by omega)
            --end
          · have _u := True.intro
            replace hb15 := of_decide_eq_false hb15
            refine AW.skip ?_
            refine AW.seq ?_
            refine AW.seq ?_
            refine AW.region ?_
            refine ARun.pure (PureOp.move rfl (.tmp rfl)) rfl rfl (Nat.le_of_ble_eq_true rfl) ?_
            refine ARun.pure (PureOp.move rfl (.tmp rfl)) rfl rfl (Nat.le_of_ble_eq_true rfl) ?_
            refine ARun.pure (PureOp.intOp rfl (.tmp rfl) (.tmp rfl) rfl) rfl rfl (Nat.le_of_ble_eq_true rfl) ?_
            refine ARun.nil ?_
            refine AW.cond (.tmp rfl) (fun hb16 => ?_) (fun hb16 => ?_)
            · have _u := True.intro
              replace hb16 := of_decide_eq_false (of_not hb16)
              exact absurd rfl hb16
              --end
            · have _u := True.intro
              replace hb16 := of_decide_eq_true (not_f hb16)
              refine AW.skip ?_
              refine AW.seq ?_
              refine AW.region ?_
              refine ARun.pure (PureOp.assign rfl .bool) rfl rfl (Nat.le_of_ble_eq_true rfl) ?_
              refine ARun.nil ?_
              refine AW.ret (show ResL _ _ [.tmp 2] _ from resB rfl ?_)
              rfl

set_option maxRecDepth 100000 in
theorem lifted_NewRepl (os : Os) (started : os.Started) (H : Type) (enc : TypeId × Value → H) :
    ReturnsInHanded {} Try.checked os 3 .any (Rows.fnExactNewReplSpec.pre6 enc Try.prog Try.f3 Rows.fnExactNewReplRow.domain false) (Rows.fnExactNewReplSpec.post enc Try.prog Try.f3 false true false false) := by
  refine returnsInHanded_of_change (C := Try.checked) own started (by kernel_rfl) Try.func3
    (ChangeSpec.witness6 (enc := enc) (C := Try.checked) false ⟨#[], #[.int .i64 0], []⟩ 8 (by kernel_rfl) (by kernel_rfl) (by kernel_rfl) (by kernel_rfl)) ?_
  intro W base args ds gs before hval0 hW hcnd _
  have hval : ∀ (j : Nat) t v, Try.f3.params[j]? = some t → args[j]? = some v → Value.okWide Try.prog W .any base t v := hval0
  have hW' := hW
  obtain ⟨p, q, hA0, hV, rfl, hfz, hnd⟩ := hW
  have hA : DataW.TrodAll enc Try.prog W 0 (fun _ => true) true Try.f3.params.toList args.toList ds p := hA0
  rw [Try.params3] at hA hval
  obtain ⟨v0, vs0, d0, ds0, p0, q0, hargs, rfl, rfl, h0, r0⟩ := trodAll_cons hA
  obtain ⟨rfl, rfl, rfl⟩ := trodAll_nil r0
  obtain rfl : args = #[v0] := by cases args; simp_all
  obtain ⟨rfl, rfl⟩ := trodVars_none hV
  obtain ⟨x0, rfl, rfl, rfl, w0⟩ := open_int Try.underlying3 (hval 0 3 v0 rfl rfl) h0
  have E0 : DS W (· < W.heap.size) (.one (.int .i64 x0)) _ := rfl
  clear hA0 hval0
  refine (law_NewRepl x0 (i64_of_wf w0) W _ _ (fun _ h => h) ⟨_, _, rfl, E0, rfl⟩).mono fun e W' ⟨he, hg⟩ => ?_
  subst he
  exact ⟨_, rfl, law_post hW' rfl laidOut (by kernel_rfl) hg rfl rfl Try.underlying4⟩
/-- The statement. -/
theorem proved_NewRepl : Rows.FnExactNewReplSaid :=
  OpenClaim.holds_of_wide 3 Try.f3 rfl rfl rfl rfl rfl rfl rfl ⟨rfl, rfl, rfl, rfl, rfl⟩ rfl rfl rfl rfl rfl (by kernel_rfl) Try.func3 (by kernel_rfl)
    (of_decide_eq_true (by kernel_rfl)) (by unfold Func.isWrapper; first | (rw [if_pos (by decide +kernel)]; kernel_rfl) | (rw [if_neg (by decide +kernel)]; exact ⟨rfl, rfl⟩))
    (fun os started H enc _ => lifted_NewRepl os started H enc)
#print axioms proved_NewRepl
end Go.Proofs.Ytmlhlkpiofbhgaa
