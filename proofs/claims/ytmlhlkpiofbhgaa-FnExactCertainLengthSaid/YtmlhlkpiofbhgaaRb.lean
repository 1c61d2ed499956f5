/-
  Copies of a log: GoodRepl, InStep, CertainLength, in the reference and in the program.
-/
import Derived.Test.YtmlhlkpiofbhgaaRa
namespace Go.Proofs.Ytmlhlkpiofbhgaa
open Go.ChangeShapes Go.WideShapes Go.ChangeAt Go.RowKit Go.BigFrame Go.Deep
set_option linter.unusedVariables false
set_option linter.unusedSimpArgs false
theorem vr_ag_27_6 : aggB Try.prog 27 6 = true := by kernel_rfl
theorem vr_ca_100 : callB Try.prog 100 = true := by kernel_rfl
theorem vr_ca_101 : callB Try.prog 101 = true := by kernel_rfl
theorem vr_ca_102 : callB Try.prog 102 = true := by kernel_rfl
theorem vr_ca_103 : callB Try.prog 103 = true := by kernel_rfl
theorem vr_ca_104 : callB Try.prog 104 = true := by kernel_rfl
theorem vr_ca_105 : callB Try.prog 105 = true := by kernel_rfl
theorem vr_ca_16 : callB Try.prog 16 = true := by kernel_rfl
theorem vr_ca_44 : callB Try.prog 44 = true := by kernel_rfl
theorem vr_ca_45 : callB Try.prog 45 = true := by kernel_rfl
theorem vr_ca_63 : callB Try.prog 63 = true := by kernel_rfl
theorem vr_ca_64 : callB Try.prog 64 = true := by kernel_rfl
theorem vr_ca_65 : callB Try.prog 65 = true := by kernel_rfl
theorem vr_ca_66 : callB Try.prog 66 = true := by kernel_rfl
theorem vr_ca_71 : callB Try.prog 71 = true := by kernel_rfl
theorem vr_ca_72 : callB Try.prog 72 = true := by kernel_rfl
theorem vr_ca_73 : callB Try.prog 73 = true := by kernel_rfl
theorem vr_ca_74 : callB Try.prog 74 = true := by kernel_rfl
theorem vr_ca_75 : callB Try.prog 75 = true := by kernel_rfl
theorem vr_ca_95 : callB Try.prog 95 = true := by kernel_rfl
theorem vr_ca_97 : callB Try.prog 97 = true := by kernel_rfl
theorem vr_ca_98 : callB Try.prog 98 = true := by kernel_rfl
theorem vr_ca_99 : callB Try.prog 99 = true := by kernel_rfl
theorem vr_el_22_1 : elemB Try.prog 22 1 = true := by kernel_rfl
theorem vr_el_24_1 : elemB Try.prog 24 1 = true := by kernel_rfl
theorem vr_fi_27_0_0 : fieldB Try.prog 27 0 0 = true := by kernel_rfl
theorem vr_fi_27_1_1 : fieldB Try.prog 27 1 1 = true := by kernel_rfl
theorem vr_fi_27_2_2 : fieldB Try.prog 27 2 2 = true := by kernel_rfl
theorem vr_fi_27_3_3 : fieldB Try.prog 27 3 3 = true := by kernel_rfl
theorem vr_fi_27_4_4 : fieldB Try.prog 27 4 4 = true := by kernel_rfl
theorem vr_fi_27_5_5 : fieldB Try.prog 27 5 5 = true := by kernel_rfl
theorem vr_pl_22 : plainB Try.prog 22 = true := by kernel_rfl
theorem vr_pl_23 : plainB Try.prog 23 = true := by kernel_rfl
theorem vr_pl_24 : plainB Try.prog 24 = true := by kernel_rfl
theorem vr_pl_25 : plainB Try.prog 25 = true := by kernel_rfl
theorem vr_pl_3 : plainB Try.prog 3 = true := by kernel_rfl
theorem vr_sl_22 : sliceB Try.prog 22 = true := by kernel_rfl
theorem vr_sl_23 : sliceB Try.prog 23 = true := by kernel_rfl
theorem vr_sl_24 : sliceB Try.prog 24 = true := by kernel_rfl
theorem vr_sl_25 : sliceB Try.prog 25 = true := by kernel_rfl
theorem ris_at {l : List Int} {m k : Nat} (h : risB l m = true) (hk : k < l.length) : 0 ≤ l.getD k 0 ∧ l.getD k 0 < (m : Int) := by
  have h := rng_at (p := fun j => !risBad l m j) h hk
  unfold risBad at h
  simp only [Bool.cond_true_left, Bool.not_eq_true', Bool.or_eq_false_iff, Bool.not_eq_false'] at h
  have := inB_true h.1
  omega
theorem has_at {l : List Int} {x : Int} (h : (l.any fun y => decide (x = y)) = true) : ∃ k, k < l.length ∧ l.getD k 0 = x := by
  obtain ⟨y, hy, e⟩ := List.any_eq_true.1 h
  obtain ⟨k, hk, rfl⟩ := List.mem_iff_getElem.1 hy
  refine ⟨k, hk, ?_⟩
  rw [List.getD_eq_getElem?_getD, List.getElem?_eq_getElem hk]
  exact (of_decide_eq_true e).symm
def headBad (p : GRepl) : Bool :=
  cond (cond (cond (cond (cond (!(inB 1 5 (p.logs.length : Int))) true (!decide ((p.down.length : Int) = (p.logs.length : Int)))) true (!(inB 0 ((p.logs.length : Int) - 1) p.leader))) true (!(inB 1 1000 p.epoch))) true (!(risB p.inSync p.logs.length))) true (!(p.inSync.any fun y => decide (p.leader = y)))
def logBad (p : GRepl) (a : Nat) : Bool :=
  !(entriesB (p.logs.getD a []))
def syncBad (p : GRepl) (b : Nat) : Bool :=
  !(decide (pre (p.logs.getD ((p.inSync.getD b 0).toNat) []) p.certain = p.certain.length))
theorem head_facts {p : GRepl} (h : headBad p = false) : risB p.inSync p.logs.length = true ∧ (p.inSync.any fun y => decide (p.leader = y)) = true ∧ (0 ≤ p.leader ∧ p.leader < (p.logs.length : Int)) := by
  unfold headBad at h
  simp only [Bool.cond_true_left, Bool.or_eq_false_iff, Bool.not_eq_false'] at h
  obtain ⟨⟨⟨⟨⟨h1, h2⟩, h3⟩, h4⟩, h5⟩, h6⟩ := h
  have := inB_true h3
  exact ⟨h5, h6, by omega⟩
def goodRepl (p : GRepl) : Bool := !headBad p && ((List.range p.logs.length).all (fun j => !logBad p j) && (List.range p.inSync.length).all (fun j => !syncBad p j))
theorem v_specGoodRepl (p : GRepl) : Fn Try.prog 16 [.agg [.lst 1 p.logs.length (fun i0 _ => .lst 2 ((p.logs.getD i0 []).length) (fun i1 j1 => ([.int .i64 (((p.logs.getD i0 []).getD i1 (default : GEntry)).epoch), .str (((p.logs.getD i0 []).getD i1 (default : GEntry)).text)] : List AV).getD j1 (.con undef))), .lst 1 p.down.length (fun i0 _ => .bool (p.down.getD i0 false)), .int .i64 p.leader, .int .i64 p.epoch, .lst 1 p.inSync.length (fun i0 _ => .int .i64 (p.inSync.getD i0 0)), .lst 2 p.certain.length (fun i0 j0 => ([.int .i64 ((p.certain.getD i0 (default : GEntry)).epoch), .str ((p.certain.getD i0 (default : GEntry)).text)] : List AV).getD j0 (.con undef))]] (.one (.bool (goodRepl p))) := by
  refine Fn.of_body (fn := Try.f16) Try.func16 rfl (Nat.le_of_ble_eq_true rfl) trivial ?_
  intro w0
  show AW _ 78 _ _ _ _
  refine AW.boundAL (t := 0) (j := 0) rfl rfl fun hx0 => ?_
  refine AW.boundAL (t := 0) (j := 4) rfl rfl fun hx4 => ?_
  refine AW.seq ?_
  refine AW.region ?_
  refine ARun.box (id := 0) rfl (.tmp rfl) (SV.cells_of (by exact ⟨trivial, trivial, trivial, trivial, trivial, trivial, trivial⟩)) ⟨rfl, (by repeat first | exact trivial | refine ⟨by decide, by first | rfl | (intro i j; first | rfl | (dsimp only; split <;> rfl)), ?_⟩)⟩ rfl rfl rfl (Nat.le_of_ble_eq_true rfl) ?_
  refine ARun.pure (PureOp.assign rfl .bool) rfl rfl (Nat.le_of_ble_eq_true rfl) ?_
  refine ARun.nil ?_
  refine AW.seq ?_
  refine AW.region ?_
  refine ARun.pure (PureOp.fieldPtr rfl (.tmp rfl) vr_fi_27_0_0) rfl rfl (Nat.le_of_ble_eq_true rfl) ?_
  refine ARun.pure (PureOp.loadPtr rfl (.tmp rfl) vr_pl_22 rfl rfl (Nat.le_of_ble_eq_true rfl) (Nat.le_of_ble_eq_true rfl)) rfl rfl (Nat.le_of_ble_eq_true rfl) ?_
  refine ARun.pure (PureOp.lenLst rfl (.tmp rfl) vr_sl_22) rfl rfl (Nat.le_of_ble_eq_true rfl) ?_
  refine ARun.pure (PureOp.assign rfl (.tmp rfl)) rfl rfl (Nat.le_of_ble_eq_true rfl) ?_
  refine ARun.nil ?_
  refine AW.seq ?_
  refine AW.seq ?_
  refine AW.region ?_
  refine ARun.pure (PureOp.move rfl (.tmp rfl)) rfl rfl (Nat.le_of_ble_eq_true rfl) ?_
  refine ARun.pure (PureOp.call rfl (v_l1In (p.logs.length : Int) 1 5) ⟨⟨_, (.tmp rfl), .int⟩, ⟨_, .int, .int⟩, ⟨_, .int, .int⟩, trivial⟩ vr_ca_44 trivial) rfl rfl (Nat.le_of_ble_eq_true rfl) ?_
  refine ARun.pure (PureOp.not rfl (.tmp rfl)) rfl rfl (Nat.le_of_ble_eq_true rfl) ?_
  refine ARun.pure (PureOp.move rfl (.tmp rfl)) rfl rfl (Nat.le_of_ble_eq_true rfl) ?_
  refine ARun.gpure (want := false) (.tf rfl) (fun hg1 => PureOp.fieldPtr rfl (.tmp rfl) vr_fi_27_1_1) rfl rfl (Nat.le_of_ble_eq_true rfl) rfl (Nat.le_of_ble_eq_true rfl) ?_
  refine ARun.gpure (want := false) (.tf rfl) (fun hg2 => PureOp.loadPtr rfl (.gtmp rfl hg2) vr_pl_23 rfl rfl (Nat.le_of_ble_eq_true rfl) (Nat.le_of_ble_eq_true rfl)) rfl rfl (Nat.le_of_ble_eq_true rfl) rfl (Nat.le_of_ble_eq_true rfl) ?_
  refine ARun.gpure (want := false) (.tf rfl) (fun hg3 => PureOp.lenLst rfl (.gtmp rfl hg3) vr_sl_23) rfl rfl (Nat.le_of_ble_eq_true rfl) rfl (Nat.le_of_ble_eq_true rfl) ?_
  refine ARun.gpure (want := false) (.tf rfl) (fun hg4 => PureOp.move rfl (.tmp rfl)) rfl rfl (Nat.le_of_ble_eq_true rfl) rfl (Nat.le_of_ble_eq_true rfl) ?_
  refine ARun.gpure (want := false) (.tf rfl) (fun hg5 => PureOp.intOp rfl (.gtmp rfl hg5) (.gtmp rfl hg5) rfl) rfl rfl (Nat.le_of_ble_eq_true rfl) rfl (Nat.le_of_ble_eq_true rfl) ?_
  refine ARun.pure (PureOp.pick rfl (.tmp rfl) (fun _ => .bool) (fun hp7 => .gtmp rfl (not_of hp7))) rfl rfl (Nat.le_of_ble_eq_true rfl) ?_
  refine ARun.pure (PureOp.move rfl (.tmp rfl)) rfl rfl (Nat.le_of_ble_eq_true rfl) ?_
  refine ARun.gpure (want := false) (.tf rfl) (fun hg8 => PureOp.fieldPtr rfl (.tmp rfl) vr_fi_27_2_2) rfl rfl (Nat.le_of_ble_eq_true rfl) rfl (Nat.le_of_ble_eq_true rfl) ?_
  refine ARun.gpure (want := false) (.tf rfl) (fun hg9 => PureOp.loadPtr rfl (.gtmp rfl hg9) vr_pl_3 rfl rfl (Nat.le_of_ble_eq_true rfl) (Nat.le_of_ble_eq_true rfl)) rfl rfl (Nat.le_of_ble_eq_true rfl) rfl (Nat.le_of_ble_eq_true rfl) ?_
  refine ARun.gpure (want := false) (.tf rfl) (fun hg10 => PureOp.move rfl (.tmp rfl)) rfl rfl (Nat.le_of_ble_eq_true rfl) rfl (Nat.le_of_ble_eq_true rfl) ?_
  refine ARun.gpure (want := false) (.tf rfl) (fun hg11 => PureOp.sub (c := (p.logs.length : Int) - 1) rfl (.gtmp rfl hg11) .int (wrap_id (by omega) (by omega))) rfl rfl (Nat.le_of_ble_eq_true rfl) rfl (Nat.le_of_ble_eq_true rfl) ?_
  refine ARun.gpure (want := false) (.tf rfl) (fun hg12 => PureOp.call rfl (v_l1In p.leader 0 ((p.logs.length : Int) - 1)) ⟨⟨_, (.gtmp rfl hg12), .int⟩, ⟨_, .int, .int⟩, ⟨_, (.gtmp rfl hg12), .int⟩, trivial⟩ vr_ca_44 trivial) rfl rfl (Nat.le_of_ble_eq_true rfl) rfl (Nat.le_of_ble_eq_true rfl) ?_
  refine ARun.gpure (want := false) (.tf rfl) (fun hg13 => PureOp.not rfl (.gtmp rfl hg13)) rfl rfl (Nat.le_of_ble_eq_true rfl) rfl (Nat.le_of_ble_eq_true rfl) ?_
  refine ARun.pure (PureOp.pick rfl (.tmp rfl) (fun _ => .bool) (fun hp15 => .gtmp rfl (not_of hp15))) rfl rfl (Nat.le_of_ble_eq_true rfl) ?_
  refine ARun.pure (PureOp.move rfl (.tmp rfl)) rfl rfl (Nat.le_of_ble_eq_true rfl) ?_
  refine ARun.gpure (want := false) (.tf rfl) (fun hg16 => PureOp.fieldPtr rfl (.tmp rfl) vr_fi_27_3_3) rfl rfl (Nat.le_of_ble_eq_true rfl) rfl (Nat.le_of_ble_eq_true rfl) ?_
  refine ARun.gpure (want := false) (.tf rfl) (fun hg17 => PureOp.loadPtr rfl (.gtmp rfl hg17) vr_pl_3 rfl rfl (Nat.le_of_ble_eq_true rfl) (Nat.le_of_ble_eq_true rfl)) rfl rfl (Nat.le_of_ble_eq_true rfl) rfl (Nat.le_of_ble_eq_true rfl) ?_
  refine ARun.gpure (want := false) (.tf rfl) (fun hg18 => PureOp.call rfl (v_l1In p.epoch 1 1000) ⟨⟨_, (.gtmp rfl hg18), .int⟩, ⟨_, .int, .int⟩, ⟨_, .int, .int⟩, trivial⟩ vr_ca_44 trivial) rfl rfl (Nat.le_of_ble_eq_true rfl) rfl (Nat.le_of_ble_eq_true rfl) ?_
  refine ARun.gpure (want := false) (.tf rfl) (fun hg19 => PureOp.not rfl (.gtmp rfl hg19)) rfl rfl (Nat.le_of_ble_eq_true rfl) rfl (Nat.le_of_ble_eq_true rfl) ?_
  refine ARun.pure (PureOp.pick rfl (.tmp rfl) (fun _ => .bool) (fun hp21 => .gtmp rfl (not_of hp21))) rfl rfl (Nat.le_of_ble_eq_true rfl) ?_
  refine ARun.pure (PureOp.move rfl (.tmp rfl)) rfl rfl (Nat.le_of_ble_eq_true rfl) ?_
  refine ARun.gpure (want := false) (.tf rfl) (fun hg22 => PureOp.fieldPtr rfl (.tmp rfl) vr_fi_27_4_4) rfl rfl (Nat.le_of_ble_eq_true rfl) rfl (Nat.le_of_ble_eq_true rfl) ?_
  refine ARun.gpure (want := false) (.tf rfl) (fun hg23 => PureOp.loadPtr rfl (.gtmp rfl hg23) vr_pl_24 rfl rfl (Nat.le_of_ble_eq_true rfl) (Nat.le_of_ble_eq_true rfl)) rfl rfl (Nat.le_of_ble_eq_true rfl) rfl (Nat.le_of_ble_eq_true rfl) ?_
  refine ARun.gpure (want := false) (.tf rfl) (fun hg24 => PureOp.move rfl (.tmp rfl)) rfl rfl (Nat.le_of_ble_eq_true rfl) rfl (Nat.le_of_ble_eq_true rfl) ?_
  refine ARun.gpure (want := false) (.tf rfl) (fun hg25 => PureOp.call rfl (v_l8Rising p.inSync p.logs.length (by omega)) ⟨⟨_, (.gtmp rfl hg25), .lst⟩, ⟨_, (.gtmp rfl hg25), .int⟩, trivial⟩ vr_ca_63 trivial) rfl rfl (Nat.le_of_ble_eq_true rfl) rfl (Nat.le_of_ble_eq_true rfl) ?_
  refine ARun.gpure (want := false) (.tf rfl) (fun hg26 => PureOp.not rfl (.gtmp rfl hg26)) rfl rfl (Nat.le_of_ble_eq_true rfl) rfl (Nat.le_of_ble_eq_true rfl) ?_
  refine ARun.pure (PureOp.pick rfl (.tmp rfl) (fun _ => .bool) (fun hp28 => .gtmp rfl (not_of hp28))) rfl rfl (Nat.le_of_ble_eq_true rfl) ?_
  refine ARun.pure (PureOp.move rfl (.tmp rfl)) rfl rfl (Nat.le_of_ble_eq_true rfl) ?_
  refine ARun.gpure (want := false) (.tf rfl) (fun hg29 => PureOp.fieldPtr rfl (.tmp rfl) vr_fi_27_4_4) rfl rfl (Nat.le_of_ble_eq_true rfl) rfl (Nat.le_of_ble_eq_true rfl) ?_
  refine ARun.gpure (want := false) (.tf rfl) (fun hg30 => PureOp.loadPtr rfl (.gtmp rfl hg30) vr_pl_24 rfl rfl (Nat.le_of_ble_eq_true rfl) (Nat.le_of_ble_eq_true rfl)) rfl rfl (Nat.le_of_ble_eq_true rfl) rfl (Nat.le_of_ble_eq_true rfl) ?_
  refine ARun.gpure (want := false) (.tf rfl) (fun hg31 => PureOp.fieldPtr rfl (.tmp rfl) vr_fi_27_2_2) rfl rfl (Nat.le_of_ble_eq_true rfl) rfl (Nat.le_of_ble_eq_true rfl) ?_
  refine ARun.gpure (want := false) (.tf rfl) (fun hg32 => PureOp.loadPtr rfl (.gtmp rfl hg32) vr_pl_3 rfl rfl (Nat.le_of_ble_eq_true rfl) (Nat.le_of_ble_eq_true rfl)) rfl rfl (Nat.le_of_ble_eq_true rfl) rfl (Nat.le_of_ble_eq_true rfl) ?_
  refine ARun.gpure (want := false) (.tf rfl) (fun hg33 => PureOp.call rfl (v_l1Has p.inSync p.leader) ⟨⟨_, (.gtmp rfl hg33), .lst⟩, ⟨_, (.gtmp rfl hg33), .int⟩, trivial⟩ vr_ca_64 trivial) rfl rfl (Nat.le_of_ble_eq_true rfl) rfl (Nat.le_of_ble_eq_true rfl) ?_
  refine ARun.gpure (want := false) (.tf rfl) (fun hg34 => PureOp.not rfl (.gtmp rfl hg34)) rfl rfl (Nat.le_of_ble_eq_true rfl) rfl (Nat.le_of_ble_eq_true rfl) ?_
  refine ARun.pure (PureOp.pick rfl (.tmp rfl) (fun _ => .bool) (fun hp36 => .gtmp rfl (not_of hp36))) rfl rfl (Nat.le_of_ble_eq_true rfl) ?_
  refine ARun.nil ?_
  refine AW.cond (.tmp rfl) (fun hb37 => ?_) (fun hb37 => ?_)
  · have _u := True.intro
    refine AW.seq ?_
    refine AW.region ?_
    refine ARun.pure (PureOp.assign rfl .bool) rfl rfl (Nat.le_of_ble_eq_true rfl) ?_
    refine ARun.nil ?_
    refine AW.ret (show ResL _ _ [.tmp 2] _ from resB rfl ?_)
    unfold goodRepl; rw [show headBad p = true from hb37]; rfl
  · have _u := True.intro
    have hH : headBad p = false := hb37
    have hris := (head_facts hH).1
    refine AW.skip ?_
    refine AW.seq ?_
    refine AW.seq ?_
    refine AW.region ?_
    refine ARun.pure (PureOp.fieldPtr rfl (.tmp rfl) vr_fi_27_0_0) rfl rfl (Nat.le_of_ble_eq_true rfl) ?_
    refine ARun.pure (PureOp.loadPtr rfl (.tmp rfl) vr_pl_22 rfl rfl (Nat.le_of_ble_eq_true rfl) (Nat.le_of_ble_eq_true rfl)) rfl rfl (Nat.le_of_ble_eq_true rfl) ?_
    refine ARun.pure (PureOp.lenLst rfl (.tmp rfl) vr_sl_22) rfl rfl (Nat.le_of_ble_eq_true rfl) ?_
    refine ARun.pure (PureOp.move rfl .int) rfl rfl (Nat.le_of_ble_eq_true rfl) ?_
    refine ARun.nil ?_
    refine AW.block ?_
    refine AW.loop (ι := Nat) (fun a => ⟨[(1, .one (.ptr 0 6 0 0)), (51, .one (.lst 1 p.logs.length (fun i0 _ => .lst 2 ((p.logs.getD i0 []).length) (fun i1 j1 => ([.int .i64 (((p.logs.getD i0 []).getD i1 (default : GEntry)).epoch), .str (((p.logs.getD i0 []).getD i1 (default : GEntry)).text)] : List AV).getD j1 (.con undef))))), (52, .one (.int .i64 (p.logs.length : Int))), (53, .one (.int .i64 (a : Int)))], [(0, .cells [.lst 1 p.logs.length (fun i0 _ => .lst 2 ((p.logs.getD i0 []).length) (fun i1 j1 => ([.int .i64 (((p.logs.getD i0 []).getD i1 (default : GEntry)).epoch), .str (((p.logs.getD i0 []).getD i1 (default : GEntry)).text)] : List AV).getD j1 (.con undef))), .lst 1 p.down.length (fun i0 _ => .bool (p.down.getD i0 false)), .int .i64 p.leader, .int .i64 p.epoch, .lst 1 p.inSync.length (fun i0 _ => .int .i64 (p.inSync.getD i0 0)), .lst 2 p.certain.length (fun i0 j0 => ([.int .i64 ((p.certain.getD i0 (default : GEntry)).epoch), .str ((p.certain.getD i0 (default : GEntry)).text)] : List AV).getD j0 (.con undef))])]⟩) (fun a => a ≤ p.logs.length ∧ ∀ j, j < a → logBad p j = false) (fun a => p.logs.length - a) 0 ⟨Nat.zero_le _, fun j hj => absurd hj (by omega)⟩ ⟨⟨⟨_, rfl, rfl⟩, ⟨_, rfl, rfl⟩, ⟨_, rfl, rfl⟩, ⟨_, rfl, rfl⟩, trivial⟩, HeapLe.one rfl trivial⟩ ?_
    intro a hI
    obtain ⟨ha, has⟩ := hI
    refine AW.seq ?_
    refine AW.region ?_
    refine ARun.pure (PureOp.intOp rfl (.tmp rfl) (.tmp rfl) rfl) rfl rfl (Nat.le_of_ble_eq_true rfl) ?_
    refine ARun.nil ?_
    refine AW.seq ?_
    refine AW.cond (.tmp rfl) (fun hb38 => ?_) (fun hb38 => ?_)
    · have _u := True.intro
      replace hb38 := of_decide_eq_true hb38
      have hal : a < p.logs.length := by omega
      refine AW.skip ?_
      refine AW.seq ?_
      refine AW.block ?_
      refine AW.seq ?_
      refine AW.region ?_
      refine ARun.pure (PureOp.indexLst (i := a) rfl (.tmp rfl) vr_el_22_1 (.tmp rfl) rfl (by omega)) rfl rfl (Nat.le_of_ble_eq_true rfl) ?_
      refine ARun.pure (PureOp.loadRef rfl (.tmp rfl) vr_pl_25 (Nat.le_of_ble_eq_true rfl)) rfl rfl (Nat.le_of_ble_eq_true rfl) ?_
      refine ARun.pure (PureOp.assign rfl (.tmp rfl)) rfl rfl (Nat.le_of_ble_eq_true rfl) ?_
      refine ARun.nil ?_
      refine AW.seq ?_
      refine AW.region ?_
      refine ARun.pure (PureOp.move rfl (.tmp rfl)) rfl rfl (Nat.le_of_ble_eq_true rfl) ?_
      refine ARun.pure (PureOp.call rfl (v_GoodEntries (p.logs.getD a [])) ⟨⟨_, (.tmp rfl), .lst⟩, trivial⟩ vr_ca_65 trivial) rfl rfl (Nat.le_of_ble_eq_true rfl) ?_
      refine ARun.pure (PureOp.not rfl (.tmp rfl)) rfl rfl (Nat.le_of_ble_eq_true rfl) ?_
      refine ARun.nil ?_
      refine AW.cond (.tmp rfl) (fun hb39 => ?_) (fun hb39 => ?_)
      · have _u := True.intro
        refine AW.seq ?_
        refine AW.region ?_
        refine ARun.pure (PureOp.assign rfl .bool) rfl rfl (Nat.le_of_ble_eq_true rfl) ?_
        refine ARun.nil ?_
        refine AW.ret (show ResL _ _ [.tmp 2] _ from resB rfl ?_)
        have hN : (List.range p.logs.length).all (fun j => !logBad p j) = false := rng_no hal (by rw [show logBad p a = true from hb39]; rfl)
        unfold goodRepl; rw [hN]; simp only [Bool.and_false, Bool.false_and]
      · have _u := True.intro
        have hlogBad : logBad p a = false := hb39
        refine AW.skip ?_
        refine AW.region ?_
        refine ARun.pure (PureOp.add (c := ((a + 1 : Nat) : Int)) rfl (.tmp rfl) .int (by rw [wrap_id (by omega) (by omega)]; omega)) rfl rfl (Nat.le_of_ble_eq_true rfl) ?_
        refine ARun.pure (PureOp.move rfl (.tmp rfl)) rfl rfl (Nat.le_of_ble_eq_true rfl) ?_
        refine ARun.nil ?_
        exact ⟨a + 1, ⟨by omega, rng_succ (p := fun j => logBad p j = false) has hlogBad⟩, by dsimp only; omega, ⟨⟨⟨_, rfl, rfl⟩, ⟨_, rfl, rfl⟩, ⟨_, rfl, rfl⟩, ⟨_, rfl, rfl⟩, trivial⟩, HeapLe.one rfl trivial⟩⟩
    · have _u := True.intro
      replace hb38 := of_decide_eq_false hb38
      have hal : ¬ a < p.logs.length := by omega
      have haA : (List.range p.logs.length).all (fun j => !logBad p j) = true := rng_yes (fun j hj => by rw [has j (by omega)]; rfl)
      refine AW.exit ?_
      refine AW.seq ?_
      refine AW.seq ?_
      refine AW.region ?_
      refine ARun.pure (PureOp.fieldPtr rfl (.tmp rfl) vr_fi_27_4_4) rfl rfl (Nat.le_of_ble_eq_true rfl) ?_
      refine ARun.pure (PureOp.loadPtr rfl (.tmp rfl) vr_pl_24 rfl rfl (Nat.le_of_ble_eq_true rfl) (Nat.le_of_ble_eq_true rfl)) rfl rfl (Nat.le_of_ble_eq_true rfl) ?_
      refine ARun.pure (PureOp.lenLst rfl (.tmp rfl) vr_sl_24) rfl rfl (Nat.le_of_ble_eq_true rfl) ?_
      refine ARun.pure (PureOp.move rfl .int) rfl rfl (Nat.le_of_ble_eq_true rfl) ?_
      refine ARun.nil ?_
      refine AW.block ?_
      refine AW.loop (ι := Nat) (fun b => ⟨[(1, .one (.ptr 0 6 0 0)), (62, .one (.lst 1 p.inSync.length (fun i0 _ => .int .i64 (p.inSync.getD i0 0)))), (63, .one (.int .i64 (p.inSync.length : Int))), (64, .one (.int .i64 (b : Int)))], [(0, .cells [.lst 1 p.logs.length (fun i0 _ => .lst 2 ((p.logs.getD i0 []).length) (fun i1 j1 => ([.int .i64 (((p.logs.getD i0 []).getD i1 (default : GEntry)).epoch), .str (((p.logs.getD i0 []).getD i1 (default : GEntry)).text)] : List AV).getD j1 (.con undef))), .lst 1 p.down.length (fun i0 _ => .bool (p.down.getD i0 false)), .int .i64 p.leader, .int .i64 p.epoch, .lst 1 p.inSync.length (fun i0 _ => .int .i64 (p.inSync.getD i0 0)), .lst 2 p.certain.length (fun i0 j0 => ([.int .i64 ((p.certain.getD i0 (default : GEntry)).epoch), .str ((p.certain.getD i0 (default : GEntry)).text)] : List AV).getD j0 (.con undef))])]⟩) (fun b => b ≤ p.inSync.length ∧ ∀ j, j < b → syncBad p j = false) (fun b => p.inSync.length - b) 0 ⟨Nat.zero_le _, fun j hj => absurd hj (by omega)⟩ ⟨⟨⟨_, rfl, rfl⟩, ⟨_, rfl, rfl⟩, ⟨_, rfl, rfl⟩, ⟨_, rfl, rfl⟩, trivial⟩, HeapLe.one rfl trivial⟩ ?_
      intro b hI
      obtain ⟨hb, hbs⟩ := hI
      refine AW.seq ?_
      refine AW.region ?_
      refine ARun.pure (PureOp.intOp rfl (.tmp rfl) (.tmp rfl) rfl) rfl rfl (Nat.le_of_ble_eq_true rfl) ?_
      refine ARun.nil ?_
      refine AW.seq ?_
      refine AW.cond (.tmp rfl) (fun hb40 => ?_) (fun hb40 => ?_)
      · have _u := True.intro
        replace hb40 := of_decide_eq_true hb40
        have hbl : b < p.inSync.length := by omega
        obtain ⟨hr0, hr1⟩ := ris_at hris hbl
        refine AW.skip ?_
        refine AW.seq ?_
        refine AW.block ?_
        refine AW.seq ?_
        refine AW.region ?_
        refine ARun.pure (PureOp.indexLst (i := b) rfl (.tmp rfl) vr_el_24_1 (.tmp rfl) rfl (by omega)) rfl rfl (Nat.le_of_ble_eq_true rfl) ?_
        refine ARun.pure (PureOp.loadRef rfl (.tmp rfl) vr_pl_3 (Nat.le_of_ble_eq_true rfl)) rfl rfl (Nat.le_of_ble_eq_true rfl) ?_
        refine ARun.pure (PureOp.assign rfl (.tmp rfl)) rfl rfl (Nat.le_of_ble_eq_true rfl) ?_
        refine ARun.nil ?_
        refine AW.seq ?_
        refine AW.any (by kernel_rfl) (by kernel_rfl) ?_
        refine AD.pure (PureOp.fieldPtr rfl (.tmp rfl) vr_fi_27_0_0) rfl rfl (Nat.le_of_ble_eq_true rfl) ?_
        refine AD.pure (PureOp.loadPtr rfl (.tmp rfl) vr_pl_22 rfl rfl (Nat.le_of_ble_eq_true rfl) (Nat.le_of_ble_eq_true rfl)) rfl rfl (Nat.le_of_ble_eq_true rfl) ?_
        refine AD.pure (PureOp.move rfl (.tmp rfl)) rfl rfl (Nat.le_of_ble_eq_true rfl) ?_
        refine AD.pure (PureOp.indexLst (i := (p.inSync.getD b 0).toNat) rfl (.tmp rfl) vr_el_22_1 (.tmp rfl) (by omega) (by omega)) rfl rfl (Nat.le_of_ble_eq_true rfl) ?_
        refine AD.pure (PureOp.loadRef rfl (.tmp rfl) vr_pl_25 (Nat.le_of_ble_eq_true rfl)) rfl rfl (Nat.le_of_ble_eq_true rfl) ?_
        refine AD.pure (PureOp.fieldPtr rfl (.tmp rfl) vr_fi_27_5_5) rfl rfl (Nat.le_of_ble_eq_true rfl) ?_
        refine AD.pure (PureOp.loadPtr rfl (.tmp rfl) vr_pl_25 rfl rfl (Nat.le_of_ble_eq_true rfl) (Nat.le_of_ble_eq_true rfl)) rfl rfl (Nat.le_of_ble_eq_true rfl) ?_
        refine AD.pure (PureOp.call rfl (v_l9Begins (p.logs.getD ((p.inSync.getD b 0).toNat) []) p.certain) ⟨⟨_, (.tmp rfl), .lst⟩, ⟨_, (.tmp rfl), .lst⟩, trivial⟩ vr_ca_66 trivial) rfl rfl (Nat.le_of_ble_eq_true rfl) ?_
        refine AD.pure (PureOp.not rfl (.tmp rfl)) rfl rfl (Nat.le_of_ble_eq_true rfl) ?_
        refine AD.nil ?_
        refine AW.cond (.tmp rfl) (fun hb41 => ?_) (fun hb41 => ?_)
        · have _u := True.intro
          refine AW.seq ?_
          refine AW.region ?_
          refine ARun.pure (PureOp.assign rfl .bool) rfl rfl (Nat.le_of_ble_eq_true rfl) ?_
          refine ARun.nil ?_
          refine AW.ret (show ResL _ _ [.tmp 2] _ from resB rfl ?_)
          have hN : (List.range p.inSync.length).all (fun j => !syncBad p j) = false := rng_no hbl (by rw [show syncBad p b = true from hb41]; rfl)
          unfold goodRepl; rw [hN]; simp only [Bool.and_false, Bool.false_and]
        · have _u := True.intro
          have hsyncBad : syncBad p b = false := hb41
          refine AW.skip ?_
          refine AW.region ?_
          refine ARun.pure (PureOp.add (c := ((b + 1 : Nat) : Int)) rfl (.tmp rfl) .int (by rw [wrap_id (by omega) (by omega)]; omega)) rfl rfl (Nat.le_of_ble_eq_true rfl) ?_
          refine ARun.pure (PureOp.move rfl (.tmp rfl)) rfl rfl (Nat.le_of_ble_eq_true rfl) ?_
          refine ARun.nil ?_
          exact ⟨b + 1, ⟨by omega, rng_succ (p := fun j => syncBad p j = false) hbs hsyncBad⟩, by dsimp only; omega, ⟨⟨⟨_, rfl, rfl⟩, ⟨_, rfl, rfl⟩, ⟨_, rfl, rfl⟩, ⟨_, rfl, rfl⟩, trivial⟩, HeapLe.one rfl trivial⟩⟩
      · have _u := True.intro
        replace hb40 := of_decide_eq_false hb40
        have hbl : ¬ b < p.inSync.length := by omega
        have hbA : (List.range p.inSync.length).all (fun j => !syncBad p j) = true := rng_yes (fun j hj => by rw [hbs j (by omega)]; rfl)
        refine AW.exit ?_
        refine AW.seq ?_
        refine AW.region ?_
        refine ARun.pure (PureOp.assign rfl .bool) rfl rfl (Nat.le_of_ble_eq_true rfl) ?_
        refine ARun.nil ?_
        refine AW.ret (show ResL _ _ [.tmp 2] _ from resB rfl ?_)
        unfold goodRepl; rw [hH, haA, hbA]; rfl

theorem v_isRepl1 (l : List GEntry) : Fn Try.prog 101 [.one (.lst 2 l.length (fun i0 j0 => ([.int .i64 ((l.getD i0 (default : GEntry)).epoch), .str ((l.getD i0 (default : GEntry)).text)] : List AV).getD j0 (.con undef)))] (.one (.bool (!entriesB l))) := by
  refine Fn.of_body (fn := Try.f101) Try.func101 rfl (Nat.le_of_ble_eq_true rfl) trivial ?_
  intro w0
  show AW _ 6 _ _ _ _
  refine AW.seq ?_
  refine AW.region ?_
  refine ARun.pure (PureOp.assign rfl .bool) rfl rfl (Nat.le_of_ble_eq_true rfl) ?_
  refine ARun.nil ?_
  refine AW.seq ?_
  refine AW.region ?_
  refine ARun.pure (PureOp.move rfl (.tmp rfl)) rfl rfl (Nat.le_of_ble_eq_true rfl) ?_
  refine ARun.pure (PureOp.call rfl (v_areEntries l) ⟨⟨_, (.tmp rfl), .lst⟩, trivial⟩ vr_ca_99 trivial) rfl rfl (Nat.le_of_ble_eq_true rfl) ?_
  refine ARun.pure (PureOp.not rfl (.tmp rfl)) rfl rfl (Nat.le_of_ble_eq_true rfl) ?_
  refine ARun.pure (PureOp.assign rfl (.tmp rfl)) rfl rfl (Nat.le_of_ble_eq_true rfl) ?_
  refine ARun.nil ?_
  refine AW.ret (show ResL _ _ [.tmp 2] _ from resB rfl ?_)
  rfl

theorem v_isRepl2 (p : GRepl) (x : Int) (hx : 0 ≤ x ∧ x < (p.logs.length : Int)) : Fn Try.prog 103 [.one (.int .i64 x), .one (.ref 6 (fun j => ([.lst 1 p.logs.length (fun i0 _ => .lst 2 ((p.logs.getD i0 []).length) (fun i1 j1 => ([.int .i64 (((p.logs.getD i0 []).getD i1 (default : GEntry)).epoch), .str (((p.logs.getD i0 []).getD i1 (default : GEntry)).text)] : List AV).getD j1 (.con undef))), .lst 1 p.down.length (fun i0 _ => .bool (p.down.getD i0 false)), .int .i64 p.leader, .int .i64 p.epoch, .lst 1 p.inSync.length (fun i0 _ => .int .i64 (p.inSync.getD i0 0)), .lst 2 p.certain.length (fun i0 j0 => ([.int .i64 ((p.certain.getD i0 (default : GEntry)).epoch), .str ((p.certain.getD i0 (default : GEntry)).text)] : List AV).getD j0 (.con undef))] : List AV).getD j (.con undef)))] (.one (.bool (decide (pre (p.logs.getD x.toNat []) p.certain < p.certain.length)))) := by
  refine Fn.of_body (fn := Try.f103) Try.func103 rfl (Nat.le_of_ble_eq_true rfl) trivial ?_
  intro w0
  show AW _ 16 _ _ _ _
  refine AW.seq ?_
  refine AW.region ?_
  refine ARun.pure (PureOp.assign rfl .bool) rfl rfl (Nat.le_of_ble_eq_true rfl) ?_
  refine ARun.nil ?_
  refine AW.seq ?_
  refine AW.any (by kernel_rfl) (by kernel_rfl) ?_
  refine AD.pure (PureOp.fieldRef rfl (.tmp rfl) vr_fi_27_0_0 (Nat.le_of_ble_eq_true rfl)) rfl rfl (Nat.le_of_ble_eq_true rfl) ?_
  refine AD.pure (PureOp.loadRef rfl (.tmp rfl) vr_pl_22 (Nat.le_of_ble_eq_true rfl)) rfl rfl (Nat.le_of_ble_eq_true rfl) ?_
  refine AD.pure (PureOp.move rfl (.tmp rfl)) rfl rfl (Nat.le_of_ble_eq_true rfl) ?_
  refine AD.pure (PureOp.indexLst (i := x.toNat) rfl (.tmp rfl) vr_el_22_1 (.tmp rfl) (by omega) (by omega)) rfl rfl (Nat.le_of_ble_eq_true rfl) ?_
  refine AD.pure (PureOp.loadRef rfl (.tmp rfl) vr_pl_25 (Nat.le_of_ble_eq_true rfl)) rfl rfl (Nat.le_of_ble_eq_true rfl) ?_
  refine AD.pure (PureOp.fieldRef rfl (.tmp rfl) vr_fi_27_5_5 (Nat.le_of_ble_eq_true rfl)) rfl rfl (Nat.le_of_ble_eq_true rfl) ?_
  refine AD.pure (PureOp.loadRef rfl (.tmp rfl) vr_pl_25 (Nat.le_of_ble_eq_true rfl)) rfl rfl (Nat.le_of_ble_eq_true rfl) ?_
  refine AD.pure (PureOp.call rfl (v_partAt (p.logs.getD x.toNat []) p.certain) ⟨⟨_, (.tmp rfl), .lst⟩, ⟨_, (.tmp rfl), .lst⟩, trivial⟩ vr_ca_104 trivial) rfl rfl (Nat.le_of_ble_eq_true rfl) ?_
  refine AD.pure (PureOp.fieldRef rfl (.tmp rfl) vr_fi_27_5_5 (Nat.le_of_ble_eq_true rfl)) rfl rfl (Nat.le_of_ble_eq_true rfl) ?_
  refine AD.pure (PureOp.loadRef rfl (.tmp rfl) vr_pl_25 (Nat.le_of_ble_eq_true rfl)) rfl rfl (Nat.le_of_ble_eq_true rfl) ?_
  refine AD.pure (PureOp.lenLst rfl (.tmp rfl) vr_sl_25) rfl rfl (Nat.le_of_ble_eq_true rfl) ?_
  refine AD.pure (PureOp.intOp rfl (.tmp rfl) (.tmp rfl) rfl) rfl rfl (Nat.le_of_ble_eq_true rfl) ?_
  refine AD.pure (PureOp.assign rfl (.tmp rfl)) rfl rfl (Nat.le_of_ble_eq_true rfl) ?_
  refine AD.nil ?_
  refine AW.ret (show ResL _ _ [.tmp 3] _ from resB rfl ?_)
  exact decide_eq_decide.2 (by omega)

def headBadI (p : GRepl) : Bool :=
  cond (cond (cond (cond (cond (cond (!(inB 1 5 (p.logs.length : Int))) true (!decide ((p.down.length : Int) = (p.logs.length : Int)))) true (!(inB 0 ((p.logs.length : Int) - 1) p.leader))) true (!(inB 1 1000 p.epoch))) true (!(risB p.inSync p.logs.length))) true (!(p.inSync.any fun y => decide (p.leader = y)))) true (!(entriesB p.certain))
theorem headI_eq (p : GRepl) : headBadI p = (headBad p || !entriesB p.certain) := by
  unfold headBadI headBad
  simp only [Bool.cond_true_left]
theorem headI_head {p : GRepl} (h : headBadI p = false) : headBad p = false := by
  rw [headI_eq, Bool.or_eq_false_iff] at h; exact h.1
def isReplB (p : GRepl) : Bool := !headBadI p && (!(p.logs.any fun l => !entriesB l) && !(p.inSync.any fun x => decide (pre (p.logs.getD x.toNat []) p.certain < p.certain.length)))
theorem v_isRepl (p : GRepl) : Fn Try.prog 71 [.agg [.lst 1 p.logs.length (fun i0 _ => .lst 2 ((p.logs.getD i0 []).length) (fun i1 j1 => ([.int .i64 (((p.logs.getD i0 []).getD i1 (default : GEntry)).epoch), .str (((p.logs.getD i0 []).getD i1 (default : GEntry)).text)] : List AV).getD j1 (.con undef))), .lst 1 p.down.length (fun i0 _ => .bool (p.down.getD i0 false)), .int .i64 p.leader, .int .i64 p.epoch, .lst 1 p.inSync.length (fun i0 _ => .int .i64 (p.inSync.getD i0 0)), .lst 2 p.certain.length (fun i0 j0 => ([.int .i64 ((p.certain.getD i0 (default : GEntry)).epoch), .str ((p.certain.getD i0 (default : GEntry)).text)] : List AV).getD j0 (.con undef))]] (.one (.bool (isReplB p))) := by
  refine Fn.of_body (fn := Try.f71) Try.func71 rfl (Nat.le_of_ble_eq_true rfl) trivial ?_
  intro w0
  show AW _ 63 _ _ _ _
  refine AW.boundAL (t := 0) (j := 0) rfl rfl fun hx0 => ?_
  refine AW.boundAL (t := 0) (j := 4) rfl rfl fun hx4 => ?_
  refine AW.seq ?_
  refine AW.region ?_
  refine ARun.box (id := 0) rfl (.tmp rfl) (SV.cells_of (by exact ⟨trivial, trivial, trivial, trivial, trivial, trivial, trivial⟩)) ⟨rfl, (by repeat first | exact trivial | refine ⟨by decide, by first | rfl | (intro i j; first | rfl | (dsimp only; split <;> rfl)), ?_⟩)⟩ rfl rfl rfl (Nat.le_of_ble_eq_true rfl) ?_
  refine ARun.pure (PureOp.assign rfl .bool) rfl rfl (Nat.le_of_ble_eq_true rfl) ?_
  refine ARun.nil ?_
  refine AW.seq ?_
  refine AW.region ?_
  refine ARun.pure (PureOp.fieldPtr rfl (.tmp rfl) vr_fi_27_0_0) rfl rfl (Nat.le_of_ble_eq_true rfl) ?_
  refine ARun.pure (PureOp.loadPtr rfl (.tmp rfl) vr_pl_22 rfl rfl (Nat.le_of_ble_eq_true rfl) (Nat.le_of_ble_eq_true rfl)) rfl rfl (Nat.le_of_ble_eq_true rfl) ?_
  refine ARun.pure (PureOp.lenLst rfl (.tmp rfl) vr_sl_22) rfl rfl (Nat.le_of_ble_eq_true rfl) ?_
  refine ARun.pure (PureOp.assign rfl (.tmp rfl)) rfl rfl (Nat.le_of_ble_eq_true rfl) ?_
  refine ARun.nil ?_
  refine AW.seq ?_
  refine AW.seq ?_
  refine AW.region ?_
  refine ARun.pure (PureOp.move rfl (.tmp rfl)) rfl rfl (Nat.le_of_ble_eq_true rfl) ?_
  refine ARun.pure (PureOp.call rfl (v_within (p.logs.length : Int) 1 5) ⟨⟨_, (.tmp rfl), .int⟩, ⟨_, .int, .int⟩, ⟨_, .int, .int⟩, trivial⟩ vr_ca_45 trivial) rfl rfl (Nat.le_of_ble_eq_true rfl) ?_
  refine ARun.pure (PureOp.not rfl (.tmp rfl)) rfl rfl (Nat.le_of_ble_eq_true rfl) ?_
  refine ARun.pure (PureOp.move rfl (.tmp rfl)) rfl rfl (Nat.le_of_ble_eq_true rfl) ?_
  refine ARun.gpure (want := false) (.tf rfl) (fun hg1 => PureOp.fieldPtr rfl (.tmp rfl) vr_fi_27_1_1) rfl rfl (Nat.le_of_ble_eq_true rfl) rfl (Nat.le_of_ble_eq_true rfl) ?_
  refine ARun.gpure (want := false) (.tf rfl) (fun hg2 => PureOp.loadPtr rfl (.gtmp rfl hg2) vr_pl_23 rfl rfl (Nat.le_of_ble_eq_true rfl) (Nat.le_of_ble_eq_true rfl)) rfl rfl (Nat.le_of_ble_eq_true rfl) rfl (Nat.le_of_ble_eq_true rfl) ?_
  refine ARun.gpure (want := false) (.tf rfl) (fun hg3 => PureOp.lenLst rfl (.gtmp rfl hg3) vr_sl_23) rfl rfl (Nat.le_of_ble_eq_true rfl) rfl (Nat.le_of_ble_eq_true rfl) ?_
  refine ARun.gpure (want := false) (.tf rfl) (fun hg4 => PureOp.move rfl (.tmp rfl)) rfl rfl (Nat.le_of_ble_eq_true rfl) rfl (Nat.le_of_ble_eq_true rfl) ?_
  refine ARun.gpure (want := false) (.tf rfl) (fun hg5 => PureOp.intOp rfl (.gtmp rfl hg5) (.gtmp rfl hg5) rfl) rfl rfl (Nat.le_of_ble_eq_true rfl) rfl (Nat.le_of_ble_eq_true rfl) ?_
  refine ARun.pure (PureOp.pick rfl (.tmp rfl) (fun _ => .bool) (fun hp7 => .gtmp rfl (not_of hp7))) rfl rfl (Nat.le_of_ble_eq_true rfl) ?_
  refine ARun.pure (PureOp.move rfl (.tmp rfl)) rfl rfl (Nat.le_of_ble_eq_true rfl) ?_
  refine ARun.gpure (want := false) (.tf rfl) (fun hg8 => PureOp.fieldPtr rfl (.tmp rfl) vr_fi_27_2_2) rfl rfl (Nat.le_of_ble_eq_true rfl) rfl (Nat.le_of_ble_eq_true rfl) ?_
  refine ARun.gpure (want := false) (.tf rfl) (fun hg9 => PureOp.loadPtr rfl (.gtmp rfl hg9) vr_pl_3 rfl rfl (Nat.le_of_ble_eq_true rfl) (Nat.le_of_ble_eq_true rfl)) rfl rfl (Nat.le_of_ble_eq_true rfl) rfl (Nat.le_of_ble_eq_true rfl) ?_
  refine ARun.gpure (want := false) (.tf rfl) (fun hg10 => PureOp.move rfl (.tmp rfl)) rfl rfl (Nat.le_of_ble_eq_true rfl) rfl (Nat.le_of_ble_eq_true rfl) ?_
  refine ARun.gpure (want := false) (.tf rfl) (fun hg11 => PureOp.sub (c := (p.logs.length : Int) - 1) rfl (.gtmp rfl hg11) .int (wrap_id (by omega) (by omega))) rfl rfl (Nat.le_of_ble_eq_true rfl) rfl (Nat.le_of_ble_eq_true rfl) ?_
  refine ARun.gpure (want := false) (.tf rfl) (fun hg12 => PureOp.call rfl (v_within p.leader 0 ((p.logs.length : Int) - 1)) ⟨⟨_, (.gtmp rfl hg12), .int⟩, ⟨_, .int, .int⟩, ⟨_, (.gtmp rfl hg12), .int⟩, trivial⟩ vr_ca_45 trivial) rfl rfl (Nat.le_of_ble_eq_true rfl) rfl (Nat.le_of_ble_eq_true rfl) ?_
  refine ARun.gpure (want := false) (.tf rfl) (fun hg13 => PureOp.not rfl (.gtmp rfl hg13)) rfl rfl (Nat.le_of_ble_eq_true rfl) rfl (Nat.le_of_ble_eq_true rfl) ?_
  refine ARun.pure (PureOp.pick rfl (.tmp rfl) (fun _ => .bool) (fun hp15 => .gtmp rfl (not_of hp15))) rfl rfl (Nat.le_of_ble_eq_true rfl) ?_
  refine ARun.pure (PureOp.move rfl (.tmp rfl)) rfl rfl (Nat.le_of_ble_eq_true rfl) ?_
  refine ARun.gpure (want := false) (.tf rfl) (fun hg16 => PureOp.fieldPtr rfl (.tmp rfl) vr_fi_27_3_3) rfl rfl (Nat.le_of_ble_eq_true rfl) rfl (Nat.le_of_ble_eq_true rfl) ?_
  refine ARun.gpure (want := false) (.tf rfl) (fun hg17 => PureOp.loadPtr rfl (.gtmp rfl hg17) vr_pl_3 rfl rfl (Nat.le_of_ble_eq_true rfl) (Nat.le_of_ble_eq_true rfl)) rfl rfl (Nat.le_of_ble_eq_true rfl) rfl (Nat.le_of_ble_eq_true rfl) ?_
  refine ARun.gpure (want := false) (.tf rfl) (fun hg18 => PureOp.call rfl (v_within p.epoch 1 1000) ⟨⟨_, (.gtmp rfl hg18), .int⟩, ⟨_, .int, .int⟩, ⟨_, .int, .int⟩, trivial⟩ vr_ca_45 trivial) rfl rfl (Nat.le_of_ble_eq_true rfl) rfl (Nat.le_of_ble_eq_true rfl) ?_
  refine ARun.gpure (want := false) (.tf rfl) (fun hg19 => PureOp.not rfl (.gtmp rfl hg19)) rfl rfl (Nat.le_of_ble_eq_true rfl) rfl (Nat.le_of_ble_eq_true rfl) ?_
  refine ARun.pure (PureOp.pick rfl (.tmp rfl) (fun _ => .bool) (fun hp21 => .gtmp rfl (not_of hp21))) rfl rfl (Nat.le_of_ble_eq_true rfl) ?_
  refine ARun.pure (PureOp.move rfl (.tmp rfl)) rfl rfl (Nat.le_of_ble_eq_true rfl) ?_
  refine ARun.gpure (want := false) (.tf rfl) (fun hg22 => PureOp.move rfl (.tmp rfl)) rfl rfl (Nat.le_of_ble_eq_true rfl) rfl (Nat.le_of_ble_eq_true rfl) ?_
  refine ARun.gpure (want := false) (.tf rfl) (fun hg23 => PureOp.fieldPtr rfl (.tmp rfl) vr_fi_27_4_4) rfl rfl (Nat.le_of_ble_eq_true rfl) rfl (Nat.le_of_ble_eq_true rfl) ?_
  refine ARun.gpure (want := false) (.tf rfl) (fun hg24 => PureOp.loadPtr rfl (.gtmp rfl hg24) vr_pl_24 rfl rfl (Nat.le_of_ble_eq_true rfl) (Nat.le_of_ble_eq_true rfl)) rfl rfl (Nat.le_of_ble_eq_true rfl) rfl (Nat.le_of_ble_eq_true rfl) ?_
  refine ARun.gpure (want := false) (.tf rfl) (fun hg25 => PureOp.call rfl (v_areNodes p.inSync p.logs.length (by omega)) ⟨⟨_, (.gtmp rfl hg25), .int⟩, ⟨_, (.gtmp rfl hg25), .lst⟩, trivial⟩ vr_ca_97 trivial) rfl rfl (Nat.le_of_ble_eq_true rfl) rfl (Nat.le_of_ble_eq_true rfl) ?_
  refine ARun.gpure (want := false) (.tf rfl) (fun hg26 => PureOp.not rfl (.gtmp rfl hg26)) rfl rfl (Nat.le_of_ble_eq_true rfl) rfl (Nat.le_of_ble_eq_true rfl) ?_
  refine ARun.pure (PureOp.pick rfl (.tmp rfl) (fun _ => .bool) (fun hp28 => .gtmp rfl (not_of hp28))) rfl rfl (Nat.le_of_ble_eq_true rfl) ?_
  refine ARun.pure (PureOp.move rfl (.tmp rfl)) rfl rfl (Nat.le_of_ble_eq_true rfl) ?_
  refine ARun.gpure (want := false) (.tf rfl) (fun hg29 => PureOp.fieldPtr rfl (.tmp rfl) vr_fi_27_4_4) rfl rfl (Nat.le_of_ble_eq_true rfl) rfl (Nat.le_of_ble_eq_true rfl) ?_
  refine ARun.gpure (want := false) (.tf rfl) (fun hg30 => PureOp.loadPtr rfl (.gtmp rfl hg30) vr_pl_24 rfl rfl (Nat.le_of_ble_eq_true rfl) (Nat.le_of_ble_eq_true rfl)) rfl rfl (Nat.le_of_ble_eq_true rfl) rfl (Nat.le_of_ble_eq_true rfl) ?_
  refine ARun.gpure (want := false) (.tf rfl) (fun hg31 => PureOp.fieldPtr rfl (.tmp rfl) vr_fi_27_2_2) rfl rfl (Nat.le_of_ble_eq_true rfl) rfl (Nat.le_of_ble_eq_true rfl) ?_
  refine ARun.gpure (want := false) (.tf rfl) (fun hg32 => PureOp.loadPtr rfl (.gtmp rfl hg32) vr_pl_3 rfl rfl (Nat.le_of_ble_eq_true rfl) (Nat.le_of_ble_eq_true rfl)) rfl rfl (Nat.le_of_ble_eq_true rfl) rfl (Nat.le_of_ble_eq_true rfl) ?_
  refine ARun.gpure (want := false) (.tf rfl) (fun hg33 => PureOp.call rfl (v_Contains p.inSync p.leader) ⟨⟨_, (.gtmp rfl hg33), .lst⟩, ⟨_, (.gtmp rfl hg33), .int⟩, trivial⟩ vr_ca_98 trivial) rfl rfl (Nat.le_of_ble_eq_true rfl) rfl (Nat.le_of_ble_eq_true rfl) ?_
  refine ARun.gpure (want := false) (.tf rfl) (fun hg34 => PureOp.not rfl (.gtmp rfl hg34)) rfl rfl (Nat.le_of_ble_eq_true rfl) rfl (Nat.le_of_ble_eq_true rfl) ?_
  refine ARun.pure (PureOp.pick rfl (.tmp rfl) (fun _ => .bool) (fun hp36 => .gtmp rfl (not_of hp36))) rfl rfl (Nat.le_of_ble_eq_true rfl) ?_
  refine ARun.pure (PureOp.move rfl (.tmp rfl)) rfl rfl (Nat.le_of_ble_eq_true rfl) ?_
  refine ARun.gpure (want := false) (.tf rfl) (fun hg37 => PureOp.fieldPtr rfl (.tmp rfl) vr_fi_27_5_5) rfl rfl (Nat.le_of_ble_eq_true rfl) rfl (Nat.le_of_ble_eq_true rfl) ?_
  refine ARun.gpure (want := false) (.tf rfl) (fun hg38 => PureOp.loadPtr rfl (.gtmp rfl hg38) vr_pl_25 rfl rfl (Nat.le_of_ble_eq_true rfl) (Nat.le_of_ble_eq_true rfl)) rfl rfl (Nat.le_of_ble_eq_true rfl) rfl (Nat.le_of_ble_eq_true rfl) ?_
  refine ARun.gpure (want := false) (.tf rfl) (fun hg39 => PureOp.call rfl (v_areEntries p.certain) ⟨⟨_, (.gtmp rfl hg39), .lst⟩, trivial⟩ vr_ca_99 trivial) rfl rfl (Nat.le_of_ble_eq_true rfl) rfl (Nat.le_of_ble_eq_true rfl) ?_
  refine ARun.gpure (want := false) (.tf rfl) (fun hg40 => PureOp.not rfl (.gtmp rfl hg40)) rfl rfl (Nat.le_of_ble_eq_true rfl) rfl (Nat.le_of_ble_eq_true rfl) ?_
  refine ARun.pure (PureOp.pick rfl (.tmp rfl) (fun _ => .bool) (fun hp42 => .gtmp rfl (not_of hp42))) rfl rfl (Nat.le_of_ble_eq_true rfl) ?_
  refine ARun.nil ?_
  refine AW.cond (.tmp rfl) (fun hb43 => ?_) (fun hb43 => ?_)
  · have _u := True.intro
    refine AW.seq ?_
    refine AW.region ?_
    refine ARun.pure (PureOp.assign rfl .bool) rfl rfl (Nat.le_of_ble_eq_true rfl) ?_
    refine ARun.nil ?_
    refine AW.ret (show ResL _ _ [.tmp 2] _ from resB rfl ?_)
    unfold isReplB; rw [show headBadI p = true from hb43]; rfl
  · have _u := True.intro
    have hHI : headBadI p = false := hb43
    have hris := (head_facts (headI_head hHI)).1
    refine AW.skip ?_
    refine AW.seq ?_
    refine AW.region ?_
    refine ARun.pure (PureOp.fieldPtr rfl (.tmp rfl) vr_fi_27_0_0) rfl rfl (Nat.le_of_ble_eq_true rfl) ?_
    refine ARun.pure (PureOp.loadPtr rfl (.tmp rfl) vr_pl_22 rfl rfl (Nat.le_of_ble_eq_true rfl) (Nat.le_of_ble_eq_true rfl)) rfl rfl (Nat.le_of_ble_eq_true rfl) ?_
    refine ARun.pure (PureOp.call rfl (v_ContainsFunc_EntryS p.logs 101 0 (fun _ => .con undef) (fun l => !entriesB l) (fun j h => absurd h (by omega)) vr_ca_101 (fun k hk => v_isRepl1 _)) ⟨⟨_, (.tmp rfl), .lst⟩, ⟨_, .func, (.fn (fun j h => absurd h (by omega)))⟩, trivial⟩ vr_ca_100 trivial) rfl rfl (Nat.le_of_ble_eq_true rfl) ?_
    refine ARun.pure (PureOp.not rfl (.tmp rfl)) rfl rfl (Nat.le_of_ble_eq_true rfl) ?_
    refine ARun.pure (PureOp.move rfl (.tmp rfl)) rfl rfl (Nat.le_of_ble_eq_true rfl) ?_
    refine ARun.gpure (want := true) (.tt rfl) (fun hg44 => PureOp.fieldPtr rfl (.tmp rfl) vr_fi_27_4_4) rfl rfl (Nat.le_of_ble_eq_true rfl) rfl (Nat.le_of_ble_eq_true rfl) ?_
    refine ARun.gpure (want := true) (.tt rfl) (fun hg45 => PureOp.loadPtr rfl (.gtmp rfl hg45) vr_pl_24 rfl rfl (Nat.le_of_ble_eq_true rfl) (Nat.le_of_ble_eq_true rfl)) rfl rfl (Nat.le_of_ble_eq_true rfl) rfl (Nat.le_of_ble_eq_true rfl) ?_
    refine ARun.gpure (want := true) (.tt rfl) (fun hg46 => PureOp.makeFn (caps := [.ptr 0 6 0 0]) rfl ⟨(.tmp rfl), trivial⟩ rfl) rfl rfl (Nat.le_of_ble_eq_true rfl) rfl (Nat.le_of_ble_eq_true rfl) ?_
    refine ARun.gpure (want := true) (.tt rfl) (fun hg47 => PureOp.call rfl (v_ContainsFunc_Int p.inSync 103 1 (fun _ => .ref 6 (fun j => ([.lst 1 p.logs.length (fun i0 _ => .lst 2 ((p.logs.getD i0 []).length) (fun i1 j1 => ([.int .i64 (((p.logs.getD i0 []).getD i1 (default : GEntry)).epoch), .str (((p.logs.getD i0 []).getD i1 (default : GEntry)).text)] : List AV).getD j1 (.con undef))), .lst 1 p.down.length (fun i0 _ => .bool (p.down.getD i0 false)), .int .i64 p.leader, .int .i64 p.epoch, .lst 1 p.inSync.length (fun i0 _ => .int .i64 (p.inSync.getD i0 0)), .lst 2 p.certain.length (fun i0 j0 => ([.int .i64 ((p.certain.getD i0 (default : GEntry)).epoch), .str ((p.certain.getD i0 (default : GEntry)).text)] : List AV).getD j0 (.con undef))] : List AV).getD j (.con undef))) (fun x => decide (pre (p.logs.getD x.toNat []) p.certain < p.certain.length)) (fun j h => match j, h with | 0, _ => trivial | _ + 1, h => absurd h (by omega)) vr_ca_103 (fun k hk => v_isRepl2 p _ (ris_at hris hk))) ⟨⟨_, (.gtmp rfl hg47), .lst⟩, ⟨_, (.gtmp rfl hg47), (.fn (m := 1) (fun | 0, _ => (.ptr (m := 6) rfl rfl (Nat.le_of_ble_eq_true rfl) (Nat.le_of_ble_eq_true rfl) (fun | 0, _ => .lst | 1, _ => .lst | 2, _ => .int | 3, _ => .int | 4, _ => .lst | 5, _ => .lst | _ + 6, h => absurd h (by omega))) | n + 1, (h : n + 1 < 1) => absurd h (by omega)))⟩, trivial⟩ vr_ca_102 trivial) rfl rfl (Nat.le_of_ble_eq_true rfl) rfl (Nat.le_of_ble_eq_true rfl) ?_
    refine ARun.gpure (want := true) (.tt rfl) (fun hg48 => PureOp.not rfl (.gtmp rfl hg48)) rfl rfl (Nat.le_of_ble_eq_true rfl) rfl (Nat.le_of_ble_eq_true rfl) ?_
    refine ARun.pure (PureOp.pick rfl (.tmp rfl) (fun hp49 => .gtmp rfl hp49) (fun _ => .bool)) rfl rfl (Nat.le_of_ble_eq_true rfl) ?_
    refine ARun.pure (PureOp.assign rfl (.tmp rfl)) rfl rfl (Nat.le_of_ble_eq_true rfl) ?_
    refine ARun.nil ?_
    refine AW.ret (show ResL _ _ [.tmp 2] _ from resB rfl ?_)
    unfold isReplB; rw [hHI]; simp only [Bool.cond_false_right, Bool.not_false, Bool.true_and]

theorem entriesB_take {l : List GEntry} (h : entriesB l = true) (m : Nat) : entriesB (l.take m) = true := by
  unfold entriesB at h ⊢
  rw [Bool.and_eq_true] at h ⊢
  obtain ⟨h1, h2⟩ := h
  have h2 := of_decide_eq_true h2
  refine ⟨rng_yes fun k hk => ?_, decide_eq_true (by rw [List.length_take]; omega)⟩
  rw [List.length_take] at hk
  have h := rng_at h1 (show k < l.length by omega)
  have e (j : Nat) (hj : j ≤ k) : (l.take m).getD j (default : GEntry) = l.getD j (default : GEntry) := by
    rw [List.getD_eq_getElem?_getD, List.getD_eq_getElem?_getD, List.getElem?_take_of_lt (by omega)]
  unfold entBad at h ⊢
  rw [e k (Nat.le_refl _), e (k - 1) (by omega)]
  exact h
theorem replLaw (p : GRepl) : isReplB p = goodRepl p := by
  unfold isReplB goodRepl
  rw [headI_eq]
  cases hH : headBad p with
  | true => rfl
  | false =>
    obtain ⟨hris, hhas, hl0, hl1⟩ := head_facts hH
    have e1 : (!(p.logs.any fun l => !entriesB l)) = (List.range p.logs.length).all (fun j => !logBad p j) := by
      rw [any_rng ([] : List GEntry), Bool.not_not]
      exact rng_congr fun k _ => rfl
    have e2 : (!(p.inSync.any fun x => decide (pre (p.logs.getD x.toNat []) p.certain < p.certain.length))) = (List.range p.inSync.length).all (fun j => !syncBad p j) := by
      rw [any_rng (0 : Int), Bool.not_not]
      refine rng_congr fun k _ => congrArg (!·) ?_
      unfold syncBad
      have := pre_le (p.logs.getD (p.inSync.getD k 0).toNat []) p.certain
      rw [← decide_not]
      exact decide_eq_decide.2 (by omega)
    rw [e1, e2]
    cases hc : entriesB p.certain with
    | true => rfl
    | false =>
      simp only [Bool.false_or, Bool.not_false, Bool.not_true, Bool.false_and, Bool.true_and]
      symm
      rw [← Bool.not_eq_true, Bool.and_eq_true]
      rintro ⟨ha, hb⟩
      obtain ⟨k, hk, ek⟩ := has_at hhas
      have h2 := rng_at hb hk
      unfold syncBad at h2
      simp only [Bool.not_not, decide_eq_true_eq] at h2
      rw [ek] at h2
      have h3 := pre_full h2
      have h1 := rng_at ha (show (p.leader).toNat < p.logs.length by omega)
      unfold logBad at h1
      simp only [Bool.not_not] at h1
      rw [h3, entriesB_take h1] at hc
      cases hc
theorem v_isReplG (p : GRepl) : Fn Try.prog 71 [.agg [.lst 1 p.logs.length (fun i0 _ => .lst 2 ((p.logs.getD i0 []).length) (fun i1 j1 => ([.int .i64 (((p.logs.getD i0 []).getD i1 (default : GEntry)).epoch), .str (((p.logs.getD i0 []).getD i1 (default : GEntry)).text)] : List AV).getD j1 (.con undef))), .lst 1 p.down.length (fun i0 _ => .bool (p.down.getD i0 false)), .int .i64 p.leader, .int .i64 p.epoch, .lst 1 p.inSync.length (fun i0 _ => .int .i64 (p.inSync.getD i0 0)), .lst 2 p.certain.length (fun i0 j0 => ([.int .i64 ((p.certain.getD i0 (default : GEntry)).epoch), .str ((p.certain.getD i0 (default : GEntry)).text)] : List AV).getD j0 (.con undef))]] (.one (.bool (goodRepl p))) := by rw [← replLaw]; exact v_isRepl p
theorem v_implGoodRepl (p : GRepl) : Fn Try.prog 18 [.agg [.lst 1 p.logs.length (fun i0 _ => .lst 2 ((p.logs.getD i0 []).length) (fun i1 j1 => ([.int .i64 (((p.logs.getD i0 []).getD i1 (default : GEntry)).epoch), .str (((p.logs.getD i0 []).getD i1 (default : GEntry)).text)] : List AV).getD j1 (.con undef))), .lst 1 p.down.length (fun i0 _ => .bool (p.down.getD i0 false)), .int .i64 p.leader, .int .i64 p.epoch, .lst 1 p.inSync.length (fun i0 _ => .int .i64 (p.inSync.getD i0 0)), .lst 2 p.certain.length (fun i0 j0 => ([.int .i64 ((p.certain.getD i0 (default : GEntry)).epoch), .str ((p.certain.getD i0 (default : GEntry)).text)] : List AV).getD j0 (.con undef))]] (.one (.bool (goodRepl p))) := by
  refine Fn.of_body (fn := Try.f18) Try.func18 rfl (Nat.le_of_ble_eq_true rfl) trivial ?_
  intro w0
  show AW _ 5 _ _ _ _
  refine AW.seq ?_
  refine AW.region ?_
  refine ARun.box (id := 0) rfl (.tmp rfl) (SV.cells_of (by exact ⟨trivial, trivial, trivial, trivial, trivial, trivial, trivial⟩)) ⟨rfl, (by repeat first | exact trivial | refine ⟨by decide, by first | rfl | (intro i j; first | rfl | (dsimp only; split <;> rfl)), ?_⟩)⟩ rfl rfl rfl (Nat.le_of_ble_eq_true rfl) ?_
  refine ARun.pure (PureOp.assign rfl .bool) rfl rfl (Nat.le_of_ble_eq_true rfl) ?_
  refine ARun.nil ?_
  refine AW.seq ?_
  refine AW.region ?_
  refine ARun.pure (PureOp.loadPtrAgg rfl (.tmp rfl) vr_ag_27_6 rfl rfl (Nat.le_of_ble_eq_true rfl) (Nat.le_of_ble_eq_true rfl)) rfl rfl (Nat.le_of_ble_eq_true rfl) ?_
  refine ARun.pure (PureOp.call rfl (v_isReplG p) ⟨⟨_, (.tmp rfl), ⟨.lst, .lst, .int, .int, .lst, .lst, trivial⟩⟩, trivial⟩ vr_ca_71 trivial) rfl rfl (Nat.le_of_ble_eq_true rfl) ?_
  refine ARun.pure (PureOp.assign rfl (.tmp rfl)) rfl rfl (Nat.le_of_ble_eq_true rfl) ?_
  refine ARun.nil ?_
  refine AW.ret (show ResL _ _ [.tmp 2] _ from resB rfl ?_)
  rfl

theorem goodRepl_facts {p : GRepl} (h : goodRepl p = true) : risB p.inSync p.logs.length = true ∧ (p.inSync.any fun y => decide (p.leader = y)) = true ∧ (0 ≤ p.leader ∧ p.leader < (p.logs.length : Int)) := by
  unfold goodRepl at h
  rw [Bool.and_eq_true, Bool.not_eq_true'] at h
  exact head_facts h.1
theorem goodRepl_log {p : GRepl} (h : goodRepl p = true) {k : Nat} (hk : k < p.logs.length) : (p.logs.getD k []).length ≤ 40 := by
  unfold goodRepl at h
  simp only [Bool.and_eq_true] at h
  have h := rng_at h.2.1 hk
  unfold logBad entriesB at h
  simp only [Bool.not_not, Bool.and_eq_true, decide_eq_true_eq] at h
  omega
def leadLog (p : GRepl) : List GEntry := p.logs.getD (p.leader).toNat []
def stepB (p : GRepl) (x : Int) : Bool := goodRepl p && inB 0 ((p.logs.length : Int) - 1) x
def sameB (p : GRepl) (x : Int) : Bool := decide (p.logs.getD x.toNat [] = leadLog p)
theorem same_pre (a b : List GEntry) : (cond (decide ((a.length : Int) = (b.length : Int))) (decide (((pre a b : Nat) : Int) = (b.length : Int))) false) = decide (a = b) := by
  by_cases h : a = b
  · subst h; rw [pre_self]; simp
  · rw [decide_eq_false h]
    by_cases h1 : (a.length : Int) = (b.length : Int)
    · rw [decide_eq_true h1]
      refine decide_eq_false fun h2 => h ?_
      have h3 := pre_full (a := a) (b := b) (by omega)
      rw [← (show a.length = b.length by omega), List.take_of_length_le (Nat.le_refl _)] at h3
      exact h3.symm
    · rw [decide_eq_false h1]; rfl
theorem v_l9Same (p : GRepl) (x : Int) (hg : goodRepl p = true) (hx : 0 ≤ x ∧ x < (p.logs.length : Int)) : Fn Try.prog 72 [.agg [.lst 1 p.logs.length (fun i0 _ => .lst 2 ((p.logs.getD i0 []).length) (fun i1 j1 => ([.int .i64 (((p.logs.getD i0 []).getD i1 (default : GEntry)).epoch), .str (((p.logs.getD i0 []).getD i1 (default : GEntry)).text)] : List AV).getD j1 (.con undef))), .lst 1 p.down.length (fun i0 _ => .bool (p.down.getD i0 false)), .int .i64 p.leader, .int .i64 p.epoch, .lst 1 p.inSync.length (fun i0 _ => .int .i64 (p.inSync.getD i0 0)), .lst 2 p.certain.length (fun i0 j0 => ([.int .i64 ((p.certain.getD i0 (default : GEntry)).epoch), .str ((p.certain.getD i0 (default : GEntry)).text)] : List AV).getD j0 (.con undef))], .one (.int .i64 x)] (.one (.bool (sameB p x))) := by
  obtain ⟨_, _, hl0, hl1⟩ := goodRepl_facts hg
  obtain ⟨hx0, hx1⟩ := hx
  refine Fn.of_body (fn := Try.f72) Try.func72 rfl (Nat.le_of_ble_eq_true rfl) trivial ?_
  intro w0
  show AW _ 33 _ _ _ _
  refine AW.seq ?_
  refine AW.region ?_
  refine ARun.box (id := 0) rfl (.tmp rfl) (SV.cells_of (by exact ⟨trivial, trivial, trivial, trivial, trivial, trivial, trivial⟩)) ⟨rfl, (by repeat first | exact trivial | refine ⟨by decide, by first | rfl | (intro i j; first | rfl | (dsimp only; split <;> rfl)), ?_⟩)⟩ rfl rfl rfl (Nat.le_of_ble_eq_true rfl) ?_
  refine ARun.pure (PureOp.assign rfl .bool) rfl rfl (Nat.le_of_ble_eq_true rfl) ?_
  refine ARun.nil ?_
  refine AW.seq ?_
  refine AW.region ?_
  refine ARun.pure (PureOp.fieldPtr rfl (.tmp rfl) vr_fi_27_0_0) rfl rfl (Nat.le_of_ble_eq_true rfl) ?_
  refine ARun.pure (PureOp.loadPtr rfl (.tmp rfl) vr_pl_22 rfl rfl (Nat.le_of_ble_eq_true rfl) (Nat.le_of_ble_eq_true rfl)) rfl rfl (Nat.le_of_ble_eq_true rfl) ?_
  refine ARun.pure (PureOp.fieldPtr rfl (.tmp rfl) vr_fi_27_2_2) rfl rfl (Nat.le_of_ble_eq_true rfl) ?_
  refine ARun.pure (PureOp.loadPtr rfl (.tmp rfl) vr_pl_3 rfl rfl (Nat.le_of_ble_eq_true rfl) (Nat.le_of_ble_eq_true rfl)) rfl rfl (Nat.le_of_ble_eq_true rfl) ?_
  refine ARun.pure (PureOp.indexLst (i := p.leader.toNat) rfl (.tmp rfl) vr_el_22_1 (.tmp rfl) (by omega) (by omega)) rfl rfl (Nat.le_of_ble_eq_true rfl) ?_
  refine ARun.pure (PureOp.loadRef rfl (.tmp rfl) vr_pl_25 (Nat.le_of_ble_eq_true rfl)) rfl rfl (Nat.le_of_ble_eq_true rfl) ?_
  refine ARun.pure (PureOp.assign rfl (.tmp rfl)) rfl rfl (Nat.le_of_ble_eq_true rfl) ?_
  refine ARun.nil ?_
  refine AW.seq ?_
  refine AW.region ?_
  refine ARun.pure (PureOp.fieldPtr rfl (.tmp rfl) vr_fi_27_0_0) rfl rfl (Nat.le_of_ble_eq_true rfl) ?_
  refine ARun.pure (PureOp.loadPtr rfl (.tmp rfl) vr_pl_22 rfl rfl (Nat.le_of_ble_eq_true rfl) (Nat.le_of_ble_eq_true rfl)) rfl rfl (Nat.le_of_ble_eq_true rfl) ?_
  refine ARun.pure (PureOp.move rfl (.tmp rfl)) rfl rfl (Nat.le_of_ble_eq_true rfl) ?_
  refine ARun.pure (PureOp.indexLst (i := x.toNat) rfl (.tmp rfl) vr_el_22_1 (.tmp rfl) (by omega) (by omega)) rfl rfl (Nat.le_of_ble_eq_true rfl) ?_
  refine ARun.pure (PureOp.loadRef rfl (.tmp rfl) vr_pl_25 (Nat.le_of_ble_eq_true rfl)) rfl rfl (Nat.le_of_ble_eq_true rfl) ?_
  refine ARun.pure (PureOp.lenLst rfl (.tmp rfl) vr_sl_25) rfl rfl (Nat.le_of_ble_eq_true rfl) ?_
  refine ARun.pure (PureOp.move rfl (.tmp rfl)) rfl rfl (Nat.le_of_ble_eq_true rfl) ?_
  refine ARun.pure (PureOp.lenLst rfl (.tmp rfl) vr_sl_25) rfl rfl (Nat.le_of_ble_eq_true rfl) ?_
  refine ARun.pure (PureOp.intOp rfl (.tmp rfl) (.tmp rfl) rfl) rfl rfl (Nat.le_of_ble_eq_true rfl) ?_
  refine ARun.pure (PureOp.move rfl (.tmp rfl)) rfl rfl (Nat.le_of_ble_eq_true rfl) ?_
  refine ARun.gpure (want := true) (.tt rfl) (fun hg1 => PureOp.fieldPtr rfl (.tmp rfl) vr_fi_27_0_0) rfl rfl (Nat.le_of_ble_eq_true rfl) rfl (Nat.le_of_ble_eq_true rfl) ?_
  refine ARun.gpure (want := true) (.tt rfl) (fun hg2 => PureOp.loadPtr rfl (.gtmp rfl hg2) vr_pl_22 rfl rfl (Nat.le_of_ble_eq_true rfl) (Nat.le_of_ble_eq_true rfl)) rfl rfl (Nat.le_of_ble_eq_true rfl) rfl (Nat.le_of_ble_eq_true rfl) ?_
  refine ARun.gpure (want := true) (.tt rfl) (fun hg3 => PureOp.move rfl (.tmp rfl)) rfl rfl (Nat.le_of_ble_eq_true rfl) rfl (Nat.le_of_ble_eq_true rfl) ?_
  refine ARun.gpure (want := true) (.tt rfl) (fun hg4 => PureOp.indexLst (i := x.toNat) rfl (.gtmp rfl hg4) vr_el_22_1 (.gtmp rfl hg4) (by have q := hg4; simp only [Bool.cond_true_left, Bool.cond_false_right, Bool.not_eq_true', Bool.or_eq_false_iff, Bool.not_eq_false', Bool.and_eq_true, Bool.not_not, decide_eq_true_eq, decide_eq_false_iff_not, inB] at q; omega) (by have q := hg4; simp only [Bool.cond_true_left, Bool.cond_false_right, Bool.not_eq_true', Bool.or_eq_false_iff, Bool.not_eq_false', Bool.and_eq_true, Bool.not_not, decide_eq_true_eq, decide_eq_false_iff_not, inB] at q; omega)) rfl rfl (Nat.le_of_ble_eq_true rfl) rfl (Nat.le_of_ble_eq_true rfl) ?_
  refine ARun.gpure (want := true) (.tt rfl) (fun hg5 => PureOp.loadRef rfl (.gtmp rfl hg5) vr_pl_25 (Nat.le_of_ble_eq_true rfl)) rfl rfl (Nat.le_of_ble_eq_true rfl) rfl (Nat.le_of_ble_eq_true rfl) ?_
  refine ARun.gpure (want := true) (.tt rfl) (fun hg6 => PureOp.move rfl (.tmp rfl)) rfl rfl (Nat.le_of_ble_eq_true rfl) rfl (Nat.le_of_ble_eq_true rfl) ?_
  refine ARun.gpure (want := true) (.tt rfl) (fun hg7 => PureOp.call rfl (v_l7Part (p.logs.getD x.toNat []) (p.logs.getD p.leader.toNat [])) ⟨⟨_, (.gtmp rfl hg7), .lst⟩, ⟨_, (.gtmp rfl hg7), .lst⟩, trivial⟩ vr_ca_95 trivial) rfl rfl (Nat.le_of_ble_eq_true rfl) rfl (Nat.le_of_ble_eq_true rfl) ?_
  refine ARun.gpure (want := true) (.tt rfl) (fun hg8 => PureOp.move rfl (.tmp rfl)) rfl rfl (Nat.le_of_ble_eq_true rfl) rfl (Nat.le_of_ble_eq_true rfl) ?_
  refine ARun.gpure (want := true) (.tt rfl) (fun hg9 => PureOp.lenLst rfl (.gtmp rfl hg9) vr_sl_25) rfl rfl (Nat.le_of_ble_eq_true rfl) rfl (Nat.le_of_ble_eq_true rfl) ?_
  refine ARun.gpure (want := true) (.tt rfl) (fun hg10 => PureOp.intOp rfl (.gtmp rfl hg10) (.gtmp rfl hg10) rfl) rfl rfl (Nat.le_of_ble_eq_true rfl) rfl (Nat.le_of_ble_eq_true rfl) ?_
  refine ARun.pure (PureOp.pick rfl (.tmp rfl) (fun hp11 => .gtmp rfl hp11) (fun _ => .bool)) rfl rfl (Nat.le_of_ble_eq_true rfl) ?_
  refine ARun.pure (PureOp.assign rfl (.tmp rfl)) rfl rfl (Nat.le_of_ble_eq_true rfl) ?_
  refine ARun.nil ?_
  refine AW.ret (show ResL _ _ [.tmp 4] _ from resB rfl ?_)
  exact same_pre _ _

theorem v_inStep (p : GRepl) (x : Int) (hg : goodRepl p = true) (hx : 0 ≤ x ∧ x < (p.logs.length : Int)) : Fn Try.prog 73 [.one (.ref 6 (fun j => ([.lst 1 p.logs.length (fun i0 _ => .lst 2 ((p.logs.getD i0 []).length) (fun i1 j1 => ([.int .i64 (((p.logs.getD i0 []).getD i1 (default : GEntry)).epoch), .str (((p.logs.getD i0 []).getD i1 (default : GEntry)).text)] : List AV).getD j1 (.con undef))), .lst 1 p.down.length (fun i0 _ => .bool (p.down.getD i0 false)), .int .i64 p.leader, .int .i64 p.epoch, .lst 1 p.inSync.length (fun i0 _ => .int .i64 (p.inSync.getD i0 0)), .lst 2 p.certain.length (fun i0 j0 => ([.int .i64 ((p.certain.getD i0 (default : GEntry)).epoch), .str ((p.certain.getD i0 (default : GEntry)).text)] : List AV).getD j0 (.con undef))] : List AV).getD j (.con undef))), .one (.int .i64 x)] (.one (.bool (sameB p x))) := by
  obtain ⟨_, _, hl0, hl1⟩ := goodRepl_facts hg
  obtain ⟨hx0, hx1⟩ := hx
  refine Fn.of_body (fn := Try.f73) Try.func73 rfl (Nat.le_of_ble_eq_true rfl) trivial ?_
  intro w0
  show AW _ 23 _ _ _ _
  refine AW.seq ?_
  refine AW.region ?_
  refine ARun.pure (PureOp.assign rfl .bool) rfl rfl (Nat.le_of_ble_eq_true rfl) ?_
  refine ARun.nil ?_
  refine AW.seq ?_
  refine AW.any (by kernel_rfl) (by kernel_rfl) ?_
  refine AD.pure (PureOp.move rfl (.tmp rfl)) rfl rfl (Nat.le_of_ble_eq_true rfl) ?_
  refine AD.pure (PureOp.nilRef rfl (.tmp rfl)) rfl rfl (Nat.le_of_ble_eq_true rfl) ?_
  refine AD.pure (PureOp.fieldRef rfl (.tmp rfl) vr_fi_27_0_0 (Nat.le_of_ble_eq_true rfl)) rfl rfl (Nat.le_of_ble_eq_true rfl) ?_
  refine AD.pure (PureOp.loadRef rfl (.tmp rfl) vr_pl_22 (Nat.le_of_ble_eq_true rfl)) rfl rfl (Nat.le_of_ble_eq_true rfl) ?_
  refine AD.pure (PureOp.move rfl (.tmp rfl)) rfl rfl (Nat.le_of_ble_eq_true rfl) ?_
  refine AD.pure (PureOp.indexLst (i := x.toNat) rfl (.tmp rfl) vr_el_22_1 (.tmp rfl) (by omega) (by omega)) rfl rfl (Nat.le_of_ble_eq_true rfl) ?_
  refine AD.pure (PureOp.loadRef rfl (.tmp rfl) vr_pl_25 (Nat.le_of_ble_eq_true rfl)) rfl rfl (Nat.le_of_ble_eq_true rfl) ?_
  refine AD.pure (PureOp.move rfl (.tmp rfl)) rfl rfl (Nat.le_of_ble_eq_true rfl) ?_
  refine AD.pure (PureOp.nilRef rfl (.tmp rfl)) rfl rfl (Nat.le_of_ble_eq_true rfl) ?_
  refine AD.pure (PureOp.fieldRef rfl (.tmp rfl) vr_fi_27_0_0 (Nat.le_of_ble_eq_true rfl)) rfl rfl (Nat.le_of_ble_eq_true rfl) ?_
  refine AD.pure (PureOp.loadRef rfl (.tmp rfl) vr_pl_22 (Nat.le_of_ble_eq_true rfl)) rfl rfl (Nat.le_of_ble_eq_true rfl) ?_
  refine AD.pure (PureOp.move rfl (.tmp rfl)) rfl rfl (Nat.le_of_ble_eq_true rfl) ?_
  refine AD.pure (PureOp.nilRef rfl (.tmp rfl)) rfl rfl (Nat.le_of_ble_eq_true rfl) ?_
  refine AD.pure (PureOp.fieldRef rfl (.tmp rfl) vr_fi_27_2_2 (Nat.le_of_ble_eq_true rfl)) rfl rfl (Nat.le_of_ble_eq_true rfl) ?_
  refine AD.pure (PureOp.loadRef rfl (.tmp rfl) vr_pl_3 (Nat.le_of_ble_eq_true rfl)) rfl rfl (Nat.le_of_ble_eq_true rfl) ?_
  refine AD.pure (PureOp.indexLst (i := p.leader.toNat) rfl (.tmp rfl) vr_el_22_1 (.tmp rfl) (by omega) (by omega)) rfl rfl (Nat.le_of_ble_eq_true rfl) ?_
  refine AD.pure (PureOp.loadRef rfl (.tmp rfl) vr_pl_25 (Nat.le_of_ble_eq_true rfl)) rfl rfl (Nat.le_of_ble_eq_true rfl) ?_
  refine AD.pure (PureOp.call rfl (v_EqualE (p.logs.getD x.toNat []) (p.logs.getD p.leader.toNat [])) ⟨⟨_, (.tmp rfl), .lst⟩, ⟨_, (.tmp rfl), .lst⟩, trivial⟩ vr_ca_105 trivial) rfl rfl (Nat.le_of_ble_eq_true rfl) ?_
  refine AD.pure (PureOp.assign rfl (.tmp rfl)) rfl rfl (Nat.le_of_ble_eq_true rfl) ?_
  refine AD.nil ?_
  refine AW.ret (show ResL _ _ [.tmp 4] _ from resB rfl ?_)
  rfl

theorem v_specInStep (p : GRepl) (x : Int) : Fn Try.prog 19 [.agg [.lst 1 p.logs.length (fun i0 _ => .lst 2 ((p.logs.getD i0 []).length) (fun i1 j1 => ([.int .i64 (((p.logs.getD i0 []).getD i1 (default : GEntry)).epoch), .str (((p.logs.getD i0 []).getD i1 (default : GEntry)).text)] : List AV).getD j1 (.con undef))), .lst 1 p.down.length (fun i0 _ => .bool (p.down.getD i0 false)), .int .i64 p.leader, .int .i64 p.epoch, .lst 1 p.inSync.length (fun i0 _ => .int .i64 (p.inSync.getD i0 0)), .lst 2 p.certain.length (fun i0 j0 => ([.int .i64 ((p.certain.getD i0 (default : GEntry)).epoch), .str ((p.certain.getD i0 (default : GEntry)).text)] : List AV).getD j0 (.con undef))], .one (.int .i64 x)] (.tup2 (.one (.bool (stepB p x && sameB p x))) (.one (.bool (stepB p x)))) := by
  refine Fn.of_body (fn := Try.f19) Try.func19 rfl (Nat.le_of_ble_eq_true rfl) ⟨trivial, trivial⟩ ?_
  intro w0
  show AW _ 23 _ _ _ _
  refine AW.boundAL (t := 0) (j := 0) rfl rfl fun hx0 => ?_
  refine AW.seq ?_
  refine AW.region ?_
  refine ARun.box (id := 0) rfl (.tmp rfl) (SV.cells_of (by exact ⟨trivial, trivial, trivial, trivial, trivial, trivial, trivial⟩)) ⟨rfl, (by repeat first | exact trivial | refine ⟨by decide, by first | rfl | (intro i j; first | rfl | (dsimp only; split <;> rfl)), ?_⟩)⟩ rfl rfl rfl (Nat.le_of_ble_eq_true rfl) ?_
  refine ARun.pure (PureOp.assign rfl .bool) rfl rfl (Nat.le_of_ble_eq_true rfl) ?_
  refine ARun.pure (PureOp.assign rfl .bool) rfl rfl (Nat.le_of_ble_eq_true rfl) ?_
  refine ARun.nil ?_
  refine AW.seq ?_
  refine AW.seq ?_
  refine AW.region ?_
  refine ARun.pure (PureOp.loadPtrAgg rfl (.tmp rfl) vr_ag_27_6 rfl rfl (Nat.le_of_ble_eq_true rfl) (Nat.le_of_ble_eq_true rfl)) rfl rfl (Nat.le_of_ble_eq_true rfl) ?_
  refine ARun.pure (PureOp.call rfl (v_specGoodRepl p) ⟨⟨_, (.tmp rfl), ⟨.lst, .lst, .int, .int, .lst, .lst, trivial⟩⟩, trivial⟩ vr_ca_16 trivial) rfl rfl (Nat.le_of_ble_eq_true rfl) ?_
  refine ARun.pure (PureOp.not rfl (.tmp rfl)) rfl rfl (Nat.le_of_ble_eq_true rfl) ?_
  refine ARun.pure (PureOp.move rfl (.tmp rfl)) rfl rfl (Nat.le_of_ble_eq_true rfl) ?_
  refine ARun.gpure (want := false) (.tf rfl) (fun hg1 => PureOp.move rfl (.tmp rfl)) rfl rfl (Nat.le_of_ble_eq_true rfl) rfl (Nat.le_of_ble_eq_true rfl) ?_
  refine ARun.gpure (want := false) (.tf rfl) (fun hg2 => PureOp.intOp rfl (.gtmp rfl hg2) .int rfl) rfl rfl (Nat.le_of_ble_eq_true rfl) rfl (Nat.le_of_ble_eq_true rfl) ?_
  refine ARun.pure (PureOp.pick rfl (.tmp rfl) (fun _ => .bool) (fun hp4 => .gtmp rfl (not_of hp4))) rfl rfl (Nat.le_of_ble_eq_true rfl) ?_
  refine ARun.pure (PureOp.move rfl (.tmp rfl)) rfl rfl (Nat.le_of_ble_eq_true rfl) ?_
  refine ARun.gpure (want := false) (.tf rfl) (fun hg5 => PureOp.move rfl (.tmp rfl)) rfl rfl (Nat.le_of_ble_eq_true rfl) rfl (Nat.le_of_ble_eq_true rfl) ?_
  refine ARun.gpure (want := false) (.tf rfl) (fun hg6 => PureOp.fieldPtr rfl (.tmp rfl) vr_fi_27_0_0) rfl rfl (Nat.le_of_ble_eq_true rfl) rfl (Nat.le_of_ble_eq_true rfl) ?_
  refine ARun.gpure (want := false) (.tf rfl) (fun hg7 => PureOp.loadPtr rfl (.gtmp rfl hg7) vr_pl_22 rfl rfl (Nat.le_of_ble_eq_true rfl) (Nat.le_of_ble_eq_true rfl)) rfl rfl (Nat.le_of_ble_eq_true rfl) rfl (Nat.le_of_ble_eq_true rfl) ?_
  refine ARun.gpure (want := false) (.tf rfl) (fun hg8 => PureOp.lenLst rfl (.gtmp rfl hg8) vr_sl_22) rfl rfl (Nat.le_of_ble_eq_true rfl) rfl (Nat.le_of_ble_eq_true rfl) ?_
  refine ARun.gpure (want := false) (.tf rfl) (fun hg9 => PureOp.intOp rfl (.gtmp rfl hg9) (.gtmp rfl hg9) rfl) rfl rfl (Nat.le_of_ble_eq_true rfl) rfl (Nat.le_of_ble_eq_true rfl) ?_
  refine ARun.pure (PureOp.pick rfl (.tmp rfl) (fun _ => .bool) (fun hp11 => .gtmp rfl (not_of hp11))) rfl rfl (Nat.le_of_ble_eq_true rfl) ?_
  refine ARun.nil ?_
  refine AW.cond (.tmp rfl) (fun hb12 => ?_) (fun hb12 => ?_)
  · have _u := True.intro
    have hs : stepB p x = false := by
      have q := hb12
      unfold stepB
      cases hg : goodRepl p with
      | false => first | rfl | (rw [hg] at q; simp at q)
      | true =>
        rw [hg] at q
        simp only [Bool.cond_true_left, Bool.not_true, Bool.false_or, Bool.or_eq_true, Bool.or_eq_false_iff, Bool.not_eq_true', Bool.not_eq_false', decide_eq_true_eq, decide_eq_false_iff_not] at q
        first | exact q | (simp only [Bool.true_and, inB, decide_eq_true_eq, decide_eq_false_iff_not]; omega)
    refine AW.seq ?_
    refine AW.region ?_
    refine ARun.pure (PureOp.assign rfl .bool) rfl rfl (Nat.le_of_ble_eq_true rfl) ?_
    refine ARun.pure (PureOp.assign rfl .bool) rfl rfl (Nat.le_of_ble_eq_true rfl) ?_
    refine ARun.nil ?_
    refine AW.ret (show ResL _ _ [.tmp 4, .tmp 5] _ from res2B rfl rfl ?_)
    rw [hs]; exact ⟨rfl, rfl⟩
  · have _u := True.intro
    have hs : stepB p x = true := by
      have q := hb12
      unfold stepB
      cases hg : goodRepl p with
      | false => first | rfl | (rw [hg] at q; simp at q)
      | true =>
        rw [hg] at q
        simp only [Bool.cond_true_left, Bool.not_true, Bool.false_or, Bool.or_eq_true, Bool.or_eq_false_iff, Bool.not_eq_true', Bool.not_eq_false', decide_eq_true_eq, decide_eq_false_iff_not] at q
        first | exact q | (simp only [Bool.true_and, inB, decide_eq_true_eq, decide_eq_false_iff_not]; omega)
    have hgood : goodRepl p = true := by have q := hs; unfold stepB at q; rw [Bool.and_eq_true] at q; exact q.1
    have hrng : 0 ≤ x ∧ x < (p.logs.length : Int) := by have q := hs; unfold stepB at q; rw [Bool.and_eq_true] at q; have := inB_true q.2; omega
    refine AW.skip ?_
    refine AW.seq ?_
    refine AW.region ?_
    refine ARun.pure (PureOp.loadPtrAgg rfl (.tmp rfl) vr_ag_27_6 rfl rfl (Nat.le_of_ble_eq_true rfl) (Nat.le_of_ble_eq_true rfl)) rfl rfl (Nat.le_of_ble_eq_true rfl) ?_
    refine ARun.pure (PureOp.move rfl (.tmp rfl)) rfl rfl (Nat.le_of_ble_eq_true rfl) ?_
    refine ARun.pure (PureOp.call rfl (v_l9Same p x hgood hrng) ⟨⟨_, (.tmp rfl), ⟨.lst, .lst, .int, .int, .lst, .lst, trivial⟩⟩, ⟨_, (.tmp rfl), .int⟩, trivial⟩ vr_ca_72 trivial) rfl rfl (Nat.le_of_ble_eq_true rfl) ?_
    refine ARun.pure (PureOp.assign rfl (.tmp rfl)) rfl rfl (Nat.le_of_ble_eq_true rfl) ?_
    refine ARun.pure (PureOp.assign rfl .bool) rfl rfl (Nat.le_of_ble_eq_true rfl) ?_
    refine ARun.nil ?_
    refine AW.ret (show ResL _ _ [.tmp 4, .tmp 5] _ from res2B rfl rfl ?_)
    rw [hs]; exact ⟨rfl, rfl⟩

theorem v_implInStep (p : GRepl) (x : Int) : Fn Try.prog 20 [.agg [.lst 1 p.logs.length (fun i0 _ => .lst 2 ((p.logs.getD i0 []).length) (fun i1 j1 => ([.int .i64 (((p.logs.getD i0 []).getD i1 (default : GEntry)).epoch), .str (((p.logs.getD i0 []).getD i1 (default : GEntry)).text)] : List AV).getD j1 (.con undef))), .lst 1 p.down.length (fun i0 _ => .bool (p.down.getD i0 false)), .int .i64 p.leader, .int .i64 p.epoch, .lst 1 p.inSync.length (fun i0 _ => .int .i64 (p.inSync.getD i0 0)), .lst 2 p.certain.length (fun i0 j0 => ([.int .i64 ((p.certain.getD i0 (default : GEntry)).epoch), .str ((p.certain.getD i0 (default : GEntry)).text)] : List AV).getD j0 (.con undef))], .one (.int .i64 x)] (.tup2 (.one (.bool (stepB p x && sameB p x))) (.one (.bool (stepB p x)))) := by
  refine Fn.of_body (fn := Try.f20) Try.func20 rfl (Nat.le_of_ble_eq_true rfl) ⟨trivial, trivial⟩ ?_
  intro w0
  show AW _ 20 _ _ _ _
  refine AW.boundAL (t := 0) (j := 0) rfl rfl fun hx0 => ?_
  refine AW.seq ?_
  refine AW.region ?_
  refine ARun.box (id := 0) rfl (.tmp rfl) (SV.cells_of (by exact ⟨trivial, trivial, trivial, trivial, trivial, trivial, trivial⟩)) ⟨rfl, (by repeat first | exact trivial | refine ⟨by decide, by first | rfl | (intro i j; first | rfl | (dsimp only; split <;> rfl)), ?_⟩)⟩ rfl rfl rfl (Nat.le_of_ble_eq_true rfl) ?_
  refine ARun.pure (PureOp.assign rfl .bool) rfl rfl (Nat.le_of_ble_eq_true rfl) ?_
  refine ARun.pure (PureOp.assign rfl .bool) rfl rfl (Nat.le_of_ble_eq_true rfl) ?_
  refine ARun.nil ?_
  refine AW.seq ?_
  refine AW.seq ?_
  refine AW.region ?_
  refine ARun.pure (PureOp.loadPtrAgg rfl (.tmp rfl) vr_ag_27_6 rfl rfl (Nat.le_of_ble_eq_true rfl) (Nat.le_of_ble_eq_true rfl)) rfl rfl (Nat.le_of_ble_eq_true rfl) ?_
  refine ARun.pure (PureOp.call rfl (v_isReplG p) ⟨⟨_, (.tmp rfl), ⟨.lst, .lst, .int, .int, .lst, .lst, trivial⟩⟩, trivial⟩ vr_ca_71 trivial) rfl rfl (Nat.le_of_ble_eq_true rfl) ?_
  refine ARun.pure (PureOp.not rfl (.tmp rfl)) rfl rfl (Nat.le_of_ble_eq_true rfl) ?_
  refine ARun.pure (PureOp.move rfl (.tmp rfl)) rfl rfl (Nat.le_of_ble_eq_true rfl) ?_
  refine ARun.gpure (want := false) (.tf rfl) (fun hg1 => PureOp.move rfl (.tmp rfl)) rfl rfl (Nat.le_of_ble_eq_true rfl) rfl (Nat.le_of_ble_eq_true rfl) ?_
  refine ARun.gpure (want := false) (.tf rfl) (fun hg2 => PureOp.fieldPtr rfl (.tmp rfl) vr_fi_27_0_0) rfl rfl (Nat.le_of_ble_eq_true rfl) rfl (Nat.le_of_ble_eq_true rfl) ?_
  refine ARun.gpure (want := false) (.tf rfl) (fun hg3 => PureOp.loadPtr rfl (.gtmp rfl hg3) vr_pl_22 rfl rfl (Nat.le_of_ble_eq_true rfl) (Nat.le_of_ble_eq_true rfl)) rfl rfl (Nat.le_of_ble_eq_true rfl) rfl (Nat.le_of_ble_eq_true rfl) ?_
  refine ARun.gpure (want := false) (.tf rfl) (fun hg4 => PureOp.lenLst rfl (.gtmp rfl hg4) vr_sl_22) rfl rfl (Nat.le_of_ble_eq_true rfl) rfl (Nat.le_of_ble_eq_true rfl) ?_
  refine ARun.gpure (want := false) (.tf rfl) (fun hg5 => PureOp.sub (c := (p.logs.length : Int) - 1) rfl (.gtmp rfl hg5) .int (wrap_id (by omega) (by omega))) rfl rfl (Nat.le_of_ble_eq_true rfl) rfl (Nat.le_of_ble_eq_true rfl) ?_
  refine ARun.gpure (want := false) (.tf rfl) (fun hg6 => PureOp.call rfl (v_within x 0 ((p.logs.length : Int) - 1)) ⟨⟨_, (.gtmp rfl hg6), .int⟩, ⟨_, .int, .int⟩, ⟨_, (.gtmp rfl hg6), .int⟩, trivial⟩ vr_ca_45 trivial) rfl rfl (Nat.le_of_ble_eq_true rfl) rfl (Nat.le_of_ble_eq_true rfl) ?_
  refine ARun.gpure (want := false) (.tf rfl) (fun hg7 => PureOp.not rfl (.gtmp rfl hg7)) rfl rfl (Nat.le_of_ble_eq_true rfl) rfl (Nat.le_of_ble_eq_true rfl) ?_
  refine ARun.pure (PureOp.pick rfl (.tmp rfl) (fun _ => .bool) (fun hp9 => .gtmp rfl (not_of hp9))) rfl rfl (Nat.le_of_ble_eq_true rfl) ?_
  refine ARun.nil ?_
  refine AW.cond (.tmp rfl) (fun hb10 => ?_) (fun hb10 => ?_)
  · have _u := True.intro
    have hs : stepB p x = false := by
      have q := hb10
      unfold stepB
      cases hg : goodRepl p with
      | false => first | rfl | (rw [hg] at q; simp at q)
      | true =>
        rw [hg] at q
        simp only [Bool.cond_true_left, Bool.not_true, Bool.false_or, Bool.or_eq_true, Bool.or_eq_false_iff, Bool.not_eq_true', Bool.not_eq_false', decide_eq_true_eq, decide_eq_false_iff_not] at q
        first | exact q | (simp only [Bool.true_and, inB, decide_eq_true_eq, decide_eq_false_iff_not]; omega)
    refine AW.seq ?_
    refine AW.region ?_
    refine ARun.pure (PureOp.assign rfl .bool) rfl rfl (Nat.le_of_ble_eq_true rfl) ?_
    refine ARun.pure (PureOp.assign rfl .bool) rfl rfl (Nat.le_of_ble_eq_true rfl) ?_
    refine ARun.nil ?_
    refine AW.ret (show ResL _ _ [.tmp 4, .tmp 5] _ from res2B rfl rfl ?_)
    rw [hs]; exact ⟨rfl, rfl⟩
  · have _u := True.intro
    have hs : stepB p x = true := by
      have q := hb10
      unfold stepB
      cases hg : goodRepl p with
      | false => first | rfl | (rw [hg] at q; simp at q)
      | true =>
        rw [hg] at q
        simp only [Bool.cond_true_left, Bool.not_true, Bool.false_or, Bool.or_eq_true, Bool.or_eq_false_iff, Bool.not_eq_true', Bool.not_eq_false', decide_eq_true_eq, decide_eq_false_iff_not] at q
        first | exact q | (simp only [Bool.true_and, inB, decide_eq_true_eq, decide_eq_false_iff_not]; omega)
    have hgood : goodRepl p = true := by have q := hs; unfold stepB at q; rw [Bool.and_eq_true] at q; exact q.1
    have hrng : 0 ≤ x ∧ x < (p.logs.length : Int) := by have q := hs; unfold stepB at q; rw [Bool.and_eq_true] at q; have := inB_true q.2; omega
    refine AW.skip ?_
    refine AW.seq ?_
    refine AW.region ?_
    refine ARun.pure (PureOp.move rfl (.tmp rfl)) rfl rfl (Nat.le_of_ble_eq_true rfl) ?_
    refine ARun.pure (PureOp.call rfl (v_inStep p x hgood hrng) ⟨⟨_, (.tmp rfl), (.ptr (m := 6) rfl rfl (Nat.le_of_ble_eq_true rfl) (Nat.le_of_ble_eq_true rfl) (fun | 0, _ => .lst | 1, _ => .lst | 2, _ => .int | 3, _ => .int | 4, _ => .lst | 5, _ => .lst | _ + 6, h => absurd h (by omega)))⟩, ⟨_, (.tmp rfl), .int⟩, trivial⟩ vr_ca_73 trivial) rfl rfl (Nat.le_of_ble_eq_true rfl) ?_
    refine ARun.pure (PureOp.assign rfl (.tmp rfl)) rfl rfl (Nat.le_of_ble_eq_true rfl) ?_
    refine ARun.pure (PureOp.assign rfl .bool) rfl rfl (Nat.le_of_ble_eq_true rfl) ?_
    refine ARun.nil ?_
    refine AW.ret (show ResL _ _ [.tmp 4, .tmp 5] _ from res2B rfl rfl ?_)
    rw [hs]; exact ⟨rfl, rfl⟩

def agree (p : GRepl) (k : Nat) : Nat := pre (p.logs.getD (p.inSync.getD k 0).toNat []) (leadLog p)
def certN (p : GRepl) : Nat := foldMin (agree p) (leadLog p).length p.inSync.length
theorem certN_eq {p : GRepl} (h : goodRepl p = true) : foldMin (agree p) 40 p.inSync.length = certN p := by
  obtain ⟨_, hhas, hl0, hl1⟩ := goodRepl_facts h
  obtain ⟨k, hk, ek⟩ := has_at hhas
  have h4 := goodRepl_log h (show (p.leader).toNat < p.logs.length by omega)
  have e : agree p k = (leadLog p).length := by unfold agree; rw [ek]; exact pre_self _
  exact foldMin_any hk (by rw [e]; exact h4) (by rw [e]; exact Nat.le_refl _)
def certV (p : GRepl) : Int := cond (goodRepl p) ((certN p : Nat) : Int) 0
theorem foldMin_lt {p : GRepl} {a k : Nat} (h : ((pre (p.logs.getD (p.inSync.getD k 0).toNat []) (leadLog p) : Nat) : Int) < ((foldMin (agree p) a k : Nat) : Int)) : pre (p.logs.getD (p.inSync.getD k 0).toNat []) (leadLog p) = foldMin (agree p) a (k + 1) := by
  have h : ((agree p k : Nat) : Int) < ((foldMin (agree p) a k : Nat) : Int) := h
  simp only [foldMin]; rw [if_pos (by omega)]; rfl
theorem foldMin_ge {p : GRepl} {a k : Nat} (h : ¬ ((pre (p.logs.getD (p.inSync.getD k 0).toNat []) (leadLog p) : Nat) : Int) < ((foldMin (agree p) a k : Nat) : Int)) : foldMin (agree p) a k = foldMin (agree p) a (k + 1) := by
  have h : ¬ ((agree p k : Nat) : Int) < ((foldMin (agree p) a k : Nat) : Int) := h
  simp only [foldMin]; rw [if_neg (by omega)]
theorem minInt_eq {p : GRepl} {a k : Nat} {x : Nat} (h : x = agree p k) : (if (x : Int) < ((foldMin (agree p) a k : Nat) : Int) then (x : Int) else ((foldMin (agree p) a k : Nat) : Int)) = ((foldMin (agree p) a (k + 1) : Nat) : Int) := by
  subst h
  simp only [foldMin]
  by_cases h : agree p k < foldMin (agree p) a k
  · rw [if_pos h, if_pos (by omega)]
  · rw [if_neg h, if_neg (by omega)]
theorem v_l9Certain (p : GRepl) (hg : goodRepl p = true) : Fn Try.prog 74 [.agg [.lst 1 p.logs.length (fun i0 _ => .lst 2 ((p.logs.getD i0 []).length) (fun i1 j1 => ([.int .i64 (((p.logs.getD i0 []).getD i1 (default : GEntry)).epoch), .str (((p.logs.getD i0 []).getD i1 (default : GEntry)).text)] : List AV).getD j1 (.con undef))), .lst 1 p.down.length (fun i0 _ => .bool (p.down.getD i0 false)), .int .i64 p.leader, .int .i64 p.epoch, .lst 1 p.inSync.length (fun i0 _ => .int .i64 (p.inSync.getD i0 0)), .lst 2 p.certain.length (fun i0 j0 => ([.int .i64 ((p.certain.getD i0 (default : GEntry)).epoch), .str ((p.certain.getD i0 (default : GEntry)).text)] : List AV).getD j0 (.con undef))]] (.one (.int .i64 ((certN p : Nat) : Int))) := by
  obtain ⟨hris, _, hl0, hl1⟩ := goodRepl_facts hg
  refine Fn.of_body (fn := Try.f74) Try.func74 rfl (Nat.le_of_ble_eq_true rfl) trivial ?_
  intro w0
  show AW _ 36 _ _ _ _
  refine AW.boundAL (t := 0) (j := 4) rfl rfl fun hx4 => ?_
  refine AW.seq ?_
  refine AW.region ?_
  refine ARun.box (id := 0) rfl (.tmp rfl) (SV.cells_of (by exact ⟨trivial, trivial, trivial, trivial, trivial, trivial, trivial⟩)) ⟨rfl, (by repeat first | exact trivial | refine ⟨by decide, by first | rfl | (intro i j; first | rfl | (dsimp only; split <;> rfl)), ?_⟩)⟩ rfl rfl rfl (Nat.le_of_ble_eq_true rfl) ?_
  refine ARun.pure (PureOp.assign rfl .int) rfl rfl (Nat.le_of_ble_eq_true rfl) ?_
  refine ARun.nil ?_
  refine AW.seq ?_
  refine AW.region ?_
  refine ARun.pure (PureOp.fieldPtr rfl (.tmp rfl) vr_fi_27_0_0) rfl rfl (Nat.le_of_ble_eq_true rfl) ?_
  refine ARun.pure (PureOp.loadPtr rfl (.tmp rfl) vr_pl_22 rfl rfl (Nat.le_of_ble_eq_true rfl) (Nat.le_of_ble_eq_true rfl)) rfl rfl (Nat.le_of_ble_eq_true rfl) ?_
  refine ARun.pure (PureOp.fieldPtr rfl (.tmp rfl) vr_fi_27_2_2) rfl rfl (Nat.le_of_ble_eq_true rfl) ?_
  refine ARun.pure (PureOp.loadPtr rfl (.tmp rfl) vr_pl_3 rfl rfl (Nat.le_of_ble_eq_true rfl) (Nat.le_of_ble_eq_true rfl)) rfl rfl (Nat.le_of_ble_eq_true rfl) ?_
  refine ARun.pure (PureOp.indexLst (i := p.leader.toNat) rfl (.tmp rfl) vr_el_22_1 (.tmp rfl) (by omega) (by omega)) rfl rfl (Nat.le_of_ble_eq_true rfl) ?_
  refine ARun.pure (PureOp.loadRef rfl (.tmp rfl) vr_pl_25 (Nat.le_of_ble_eq_true rfl)) rfl rfl (Nat.le_of_ble_eq_true rfl) ?_
  refine ARun.pure (PureOp.assign rfl (.tmp rfl)) rfl rfl (Nat.le_of_ble_eq_true rfl) ?_
  refine ARun.nil ?_
  refine AW.seq ?_
  refine AW.region ?_
  refine ARun.pure (PureOp.move rfl (.tmp rfl)) rfl rfl (Nat.le_of_ble_eq_true rfl) ?_
  refine ARun.pure (PureOp.lenLst rfl (.tmp rfl) vr_sl_25) rfl rfl (Nat.le_of_ble_eq_true rfl) ?_
  refine ARun.pure (PureOp.assign rfl (.tmp rfl)) rfl rfl (Nat.le_of_ble_eq_true rfl) ?_
  refine ARun.nil ?_
  refine AW.seq ?_
  refine AW.seq ?_
  refine AW.region ?_
  refine ARun.pure (PureOp.fieldPtr rfl (.tmp rfl) vr_fi_27_4_4) rfl rfl (Nat.le_of_ble_eq_true rfl) ?_
  refine ARun.pure (PureOp.loadPtr rfl (.tmp rfl) vr_pl_24 rfl rfl (Nat.le_of_ble_eq_true rfl) (Nat.le_of_ble_eq_true rfl)) rfl rfl (Nat.le_of_ble_eq_true rfl) ?_
  refine ARun.pure (PureOp.lenLst rfl (.tmp rfl) vr_sl_24) rfl rfl (Nat.le_of_ble_eq_true rfl) ?_
  refine ARun.pure (PureOp.move rfl .int) rfl rfl (Nat.le_of_ble_eq_true rfl) ?_
  refine ARun.nil ?_
  refine AW.block ?_
  refine AW.loop (ι := Nat) (fun k => ⟨[(1, .one (.ptr 0 6 0 0)), (3, .one (.lst 2 ((p.logs.getD p.leader.toNat []).length) (fun i0 j0 => ([.int .i64 (((p.logs.getD p.leader.toNat []).getD i0 (default : GEntry)).epoch), .str (((p.logs.getD p.leader.toNat []).getD i0 (default : GEntry)).text)] : List AV).getD j0 (.con undef)))), (4, .one (.int .i64 ((foldMin (agree p) (leadLog p).length k : Nat) : Int))), (17, .one (.lst 1 p.inSync.length (fun i0 _ => .int .i64 (p.inSync.getD i0 0)))), (18, .one (.int .i64 (p.inSync.length : Int))), (19, .one (.int .i64 (k : Int)))], [(0, .cells [.lst 1 p.logs.length (fun i0 _ => .lst 2 ((p.logs.getD i0 []).length) (fun i1 j1 => ([.int .i64 (((p.logs.getD i0 []).getD i1 (default : GEntry)).epoch), .str (((p.logs.getD i0 []).getD i1 (default : GEntry)).text)] : List AV).getD j1 (.con undef))), .lst 1 p.down.length (fun i0 _ => .bool (p.down.getD i0 false)), .int .i64 p.leader, .int .i64 p.epoch, .lst 1 p.inSync.length (fun i0 _ => .int .i64 (p.inSync.getD i0 0)), .lst 2 p.certain.length (fun i0 j0 => ([.int .i64 ((p.certain.getD i0 (default : GEntry)).epoch), .str ((p.certain.getD i0 (default : GEntry)).text)] : List AV).getD j0 (.con undef))])]⟩) (fun k => k ≤ p.inSync.length) (fun k => p.inSync.length - k) 0 (Nat.zero_le _) ⟨⟨⟨_, rfl, rfl⟩, ⟨_, rfl, rfl⟩, ⟨_, rfl, rfl⟩, ⟨_, rfl, rfl⟩, ⟨_, rfl, rfl⟩, ⟨_, rfl, rfl⟩, trivial⟩, HeapLe.one rfl trivial⟩ ?_
  intro k hk
  refine AW.bound (t := 17) rfl fun hbk => ?_
  refine AW.seq ?_
  refine AW.region ?_
  refine ARun.pure (PureOp.intOp rfl (.tmp rfl) (.tmp rfl) rfl) rfl rfl (Nat.le_of_ble_eq_true rfl) ?_
  refine ARun.nil ?_
  refine AW.seq ?_
  refine AW.cond (.tmp rfl) (fun hb1 => ?_) (fun hb1 => ?_)
  · have _u := True.intro
    replace hb1 := of_decide_eq_true hb1
    have hkl : k < p.inSync.length := by omega
    obtain ⟨hr0, hr1⟩ := ris_at hris hkl
    refine AW.skip ?_
    refine AW.seq ?_
    refine AW.block ?_
    refine AW.seq ?_
    refine AW.region ?_
    refine ARun.pure (PureOp.indexLst (i := k) rfl (.tmp rfl) vr_el_24_1 (.tmp rfl) rfl (by omega)) rfl rfl (Nat.le_of_ble_eq_true rfl) ?_
    refine ARun.pure (PureOp.loadRef rfl (.tmp rfl) vr_pl_3 (Nat.le_of_ble_eq_true rfl)) rfl rfl (Nat.le_of_ble_eq_true rfl) ?_
    refine ARun.pure (PureOp.assign rfl (.tmp rfl)) rfl rfl (Nat.le_of_ble_eq_true rfl) ?_
    refine ARun.nil ?_
    refine AW.seq ?_
    refine AW.region ?_
    refine ARun.pure (PureOp.fieldPtr rfl (.tmp rfl) vr_fi_27_0_0) rfl rfl (Nat.le_of_ble_eq_true rfl) ?_
    refine ARun.pure (PureOp.loadPtr rfl (.tmp rfl) vr_pl_22 rfl rfl (Nat.le_of_ble_eq_true rfl) (Nat.le_of_ble_eq_true rfl)) rfl rfl (Nat.le_of_ble_eq_true rfl) ?_
    refine ARun.pure (PureOp.move rfl (.tmp rfl)) rfl rfl (Nat.le_of_ble_eq_true rfl) ?_
    refine ARun.pure (PureOp.indexLst (i := (p.inSync.getD k 0).toNat) rfl (.tmp rfl) vr_el_22_1 (.tmp rfl) (by omega) (by omega)) rfl rfl (Nat.le_of_ble_eq_true rfl) ?_
    refine ARun.pure (PureOp.loadRef rfl (.tmp rfl) vr_pl_25 (Nat.le_of_ble_eq_true rfl)) rfl rfl (Nat.le_of_ble_eq_true rfl) ?_
    refine ARun.pure (PureOp.move rfl (.tmp rfl)) rfl rfl (Nat.le_of_ble_eq_true rfl) ?_
    refine ARun.pure (PureOp.call rfl (v_l7Part (p.logs.getD ((p.inSync.getD k 0).toNat) []) (p.logs.getD p.leader.toNat [])) ⟨⟨_, (.tmp rfl), .lst⟩, ⟨_, (.tmp rfl), .lst⟩, trivial⟩ vr_ca_95 trivial) rfl rfl (Nat.le_of_ble_eq_true rfl) ?_
    refine ARun.pure (PureOp.assign rfl (.tmp rfl)) rfl rfl (Nat.le_of_ble_eq_true rfl) ?_
    refine ARun.nil ?_
    refine AW.seq ?_
    refine AW.region ?_
    refine ARun.pure (PureOp.move rfl (.tmp rfl)) rfl rfl (Nat.le_of_ble_eq_true rfl) ?_
    refine ARun.pure (PureOp.move rfl (.tmp rfl)) rfl rfl (Nat.le_of_ble_eq_true rfl) ?_
    refine ARun.pure (PureOp.intOp rfl (.tmp rfl) (.tmp rfl) rfl) rfl rfl (Nat.le_of_ble_eq_true rfl) ?_
    refine ARun.nil ?_
    refine AW.cond (.tmp rfl) (fun hb2 => ?_) (fun hb2 => ?_)
    · have _u := True.intro
      replace hb2 := of_decide_eq_true hb2
      refine AW.region ?_
      refine ARun.pure (PureOp.move rfl (.tmp rfl)) rfl rfl (Nat.le_of_ble_eq_true rfl) ?_
      refine ARun.pure (PureOp.assign rfl (.tmp rfl)) rfl rfl (Nat.le_of_ble_eq_true rfl) ?_
      refine ARun.nil ?_
      refine AW.region ?_
      refine ARun.pure (PureOp.add (c := ((k + 1 : Nat) : Int)) rfl (.tmp rfl) .int (by rw [wrap_id (by omega) (by omega)]; omega)) rfl rfl (Nat.le_of_ble_eq_true rfl) ?_
      refine ARun.pure (PureOp.move rfl (.tmp rfl)) rfl rfl (Nat.le_of_ble_eq_true rfl) ?_
      refine ARun.nil ?_
      exact ⟨k + 1, by omega, by dsimp only; omega, ⟨⟨⟨_, rfl, rfl⟩, ⟨_, rfl, rfl⟩, ⟨_, rfl, congrArg (fun z : Nat => SV.one (.int .i64 (z : Int))) (foldMin_lt hb2)⟩, ⟨_, rfl, rfl⟩, ⟨_, rfl, rfl⟩, ⟨_, rfl, rfl⟩, trivial⟩, HeapLe.one rfl trivial⟩⟩
    · have _u := True.intro
      replace hb2 := of_decide_eq_false hb2
      refine AW.skip ?_
      refine AW.region ?_
      refine ARun.pure (PureOp.add (c := ((k + 1 : Nat) : Int)) rfl (.tmp rfl) .int (by rw [wrap_id (by omega) (by omega)]; omega)) rfl rfl (Nat.le_of_ble_eq_true rfl) ?_
      refine ARun.pure (PureOp.move rfl (.tmp rfl)) rfl rfl (Nat.le_of_ble_eq_true rfl) ?_
      refine ARun.nil ?_
      exact ⟨k + 1, by omega, by dsimp only; omega, ⟨⟨⟨_, rfl, rfl⟩, ⟨_, rfl, rfl⟩, ⟨_, rfl, congrArg (fun z : Nat => SV.one (.int .i64 (z : Int))) (foldMin_ge hb2)⟩, ⟨_, rfl, rfl⟩, ⟨_, rfl, rfl⟩, ⟨_, rfl, rfl⟩, trivial⟩, HeapLe.one rfl trivial⟩⟩
  · have _u := True.intro
    replace hb1 := of_decide_eq_false hb1
    have hkl : ¬ k < p.inSync.length := by omega
    have hkk : k = p.inSync.length := by omega
    refine AW.exit ?_
    refine AW.seq ?_
    refine AW.region ?_
    refine ARun.pure (PureOp.move rfl (.tmp rfl)) rfl rfl (Nat.le_of_ble_eq_true rfl) ?_
    refine ARun.pure (PureOp.assign rfl (.tmp rfl)) rfl rfl (Nat.le_of_ble_eq_true rfl) ?_
    refine ARun.nil ?_
    refine AW.ret (show ResL _ _ [.tmp 2] _ from resI rfl ?_)
    rw [hkk]; rfl

theorem v_certain (p : GRepl) (hg : goodRepl p = true) : Fn Try.prog 75 [.one (.ref 6 (fun j => ([.lst 1 p.logs.length (fun i0 _ => .lst 2 ((p.logs.getD i0 []).length) (fun i1 j1 => ([.int .i64 (((p.logs.getD i0 []).getD i1 (default : GEntry)).epoch), .str (((p.logs.getD i0 []).getD i1 (default : GEntry)).text)] : List AV).getD j1 (.con undef))), .lst 1 p.down.length (fun i0 _ => .bool (p.down.getD i0 false)), .int .i64 p.leader, .int .i64 p.epoch, .lst 1 p.inSync.length (fun i0 _ => .int .i64 (p.inSync.getD i0 0)), .lst 2 p.certain.length (fun i0 j0 => ([.int .i64 ((p.certain.getD i0 (default : GEntry)).epoch), .str ((p.certain.getD i0 (default : GEntry)).text)] : List AV).getD j0 (.con undef))] : List AV).getD j (.con undef)))] (.one (.int .i64 ((certN p : Nat) : Int))) := by
  obtain ⟨hris, _, hl0, hl1⟩ := goodRepl_facts hg
  refine Fn.of_body (fn := Try.f75) Try.func75 rfl (Nat.le_of_ble_eq_true rfl) trivial ?_
  intro w0
  show AW _ 37 _ _ _ _
  refine AW.seq ?_
  refine AW.region ?_
  refine ARun.pure (PureOp.assign rfl .int) rfl rfl (Nat.le_of_ble_eq_true rfl) ?_
  refine ARun.nil ?_
  refine AW.seq ?_
  refine AW.region ?_
  refine ARun.pure (PureOp.assign rfl .int) rfl rfl (Nat.le_of_ble_eq_true rfl) ?_
  refine ARun.nil ?_
  refine AW.seq ?_
  refine AW.seq ?_
  refine AW.region ?_
  refine ARun.pure (PureOp.move rfl (.tmp rfl)) rfl rfl (Nat.le_of_ble_eq_true rfl) ?_
  refine ARun.pure (PureOp.nilRef rfl (.tmp rfl)) rfl rfl (Nat.le_of_ble_eq_true rfl) ?_
  refine ARun.pure (PureOp.fieldRef rfl (.tmp rfl) vr_fi_27_4_4 (Nat.le_of_ble_eq_true rfl)) rfl rfl (Nat.le_of_ble_eq_true rfl) ?_
  refine ARun.pure (PureOp.loadRef rfl (.tmp rfl) vr_pl_24 (Nat.le_of_ble_eq_true rfl)) rfl rfl (Nat.le_of_ble_eq_true rfl) ?_
  refine ARun.pure (PureOp.lenLst rfl (.tmp rfl) vr_sl_24) rfl rfl (Nat.le_of_ble_eq_true rfl) ?_
  refine ARun.pure (PureOp.move rfl .int) rfl rfl (Nat.le_of_ble_eq_true rfl) ?_
  refine ARun.nil ?_
  refine AW.block ?_
  refine AW.loop (ι := Nat) (fun k => ⟨[(0, .one (.ref 6 (fun j => ([.lst 1 p.logs.length (fun i0 _ => .lst 2 ((p.logs.getD i0 []).length) (fun i1 j1 => ([.int .i64 (((p.logs.getD i0 []).getD i1 (default : GEntry)).epoch), .str (((p.logs.getD i0 []).getD i1 (default : GEntry)).text)] : List AV).getD j1 (.con undef))), .lst 1 p.down.length (fun i0 _ => .bool (p.down.getD i0 false)), .int .i64 p.leader, .int .i64 p.epoch, .lst 1 p.inSync.length (fun i0 _ => .int .i64 (p.inSync.getD i0 0)), .lst 2 p.certain.length (fun i0 j0 => ([.int .i64 ((p.certain.getD i0 (default : GEntry)).epoch), .str ((p.certain.getD i0 (default : GEntry)).text)] : List AV).getD j0 (.con undef))] : List AV).getD j (.con undef)))), (3, .one (.int .i64 ((foldMin (agree p) 40 k : Nat) : Int))), (9, .one (.lst 1 p.inSync.length (fun i0 _ => .int .i64 (p.inSync.getD i0 0)))), (10, .one (.int .i64 (p.inSync.length : Int))), (11, .one (.int .i64 (k : Int)))], []⟩) (fun k => k ≤ p.inSync.length) (fun k => p.inSync.length - k) 0 (Nat.zero_le _) ⟨⟨⟨_, rfl, rfl⟩, ⟨_, rfl, rfl⟩, ⟨_, rfl, rfl⟩, ⟨_, rfl, rfl⟩, ⟨_, rfl, rfl⟩, trivial⟩, trivial⟩ ?_
  intro k hk
  refine AW.bound (t := 9) rfl fun hbk => ?_
  refine AW.seq ?_
  refine AW.region ?_
  refine ARun.pure (PureOp.intOp rfl (.tmp rfl) (.tmp rfl) rfl) rfl rfl (Nat.le_of_ble_eq_true rfl) ?_
  refine ARun.nil ?_
  refine AW.seq ?_
  refine AW.cond (.tmp rfl) (fun hb1 => ?_) (fun hb1 => ?_)
  · have _u := True.intro
    replace hb1 := of_decide_eq_true hb1
    have hkl : k < p.inSync.length := by omega
    obtain ⟨hr0, hr1⟩ := ris_at hris hkl
    refine AW.skip ?_
    refine AW.seq ?_
    refine AW.block ?_
    refine AW.seq ?_
    refine AW.region ?_
    refine ARun.pure (PureOp.indexLst (i := k) rfl (.tmp rfl) vr_el_24_1 (.tmp rfl) rfl (by omega)) rfl rfl (Nat.le_of_ble_eq_true rfl) ?_
    refine ARun.pure (PureOp.loadRef rfl (.tmp rfl) vr_pl_3 (Nat.le_of_ble_eq_true rfl)) rfl rfl (Nat.le_of_ble_eq_true rfl) ?_
    refine ARun.pure (PureOp.assign rfl (.tmp rfl)) rfl rfl (Nat.le_of_ble_eq_true rfl) ?_
    refine ARun.nil ?_
    refine AW.any (by kernel_rfl) (by kernel_rfl) ?_
    refine AD.pure (PureOp.move rfl (.tmp rfl)) rfl rfl (Nat.le_of_ble_eq_true rfl) ?_
    refine AD.pure (PureOp.move rfl (.tmp rfl)) rfl rfl (Nat.le_of_ble_eq_true rfl) ?_
    refine AD.pure (PureOp.nilRef rfl (.tmp rfl)) rfl rfl (Nat.le_of_ble_eq_true rfl) ?_
    refine AD.pure (PureOp.fieldRef rfl (.tmp rfl) vr_fi_27_0_0 (Nat.le_of_ble_eq_true rfl)) rfl rfl (Nat.le_of_ble_eq_true rfl) ?_
    refine AD.pure (PureOp.loadRef rfl (.tmp rfl) vr_pl_22 (Nat.le_of_ble_eq_true rfl)) rfl rfl (Nat.le_of_ble_eq_true rfl) ?_
    refine AD.pure (PureOp.move rfl (.tmp rfl)) rfl rfl (Nat.le_of_ble_eq_true rfl) ?_
    refine AD.pure (PureOp.nilRef rfl (.tmp rfl)) rfl rfl (Nat.le_of_ble_eq_true rfl) ?_
    refine AD.pure (PureOp.fieldRef rfl (.tmp rfl) vr_fi_27_2_2 (Nat.le_of_ble_eq_true rfl)) rfl rfl (Nat.le_of_ble_eq_true rfl) ?_
    refine AD.pure (PureOp.loadRef rfl (.tmp rfl) vr_pl_3 (Nat.le_of_ble_eq_true rfl)) rfl rfl (Nat.le_of_ble_eq_true rfl) ?_
    refine AD.pure (PureOp.indexLst (i := p.leader.toNat) rfl (.tmp rfl) vr_el_22_1 (.tmp rfl) (by omega) (by omega)) rfl rfl (Nat.le_of_ble_eq_true rfl) ?_
    refine AD.pure (PureOp.loadRef rfl (.tmp rfl) vr_pl_25 (Nat.le_of_ble_eq_true rfl)) rfl rfl (Nat.le_of_ble_eq_true rfl) ?_
    refine AD.pure (PureOp.move rfl (.tmp rfl)) rfl rfl (Nat.le_of_ble_eq_true rfl) ?_
    refine AD.pure (PureOp.nilRef rfl (.tmp rfl)) rfl rfl (Nat.le_of_ble_eq_true rfl) ?_
    refine AD.pure (PureOp.fieldRef rfl (.tmp rfl) vr_fi_27_0_0 (Nat.le_of_ble_eq_true rfl)) rfl rfl (Nat.le_of_ble_eq_true rfl) ?_
    refine AD.pure (PureOp.loadRef rfl (.tmp rfl) vr_pl_22 (Nat.le_of_ble_eq_true rfl)) rfl rfl (Nat.le_of_ble_eq_true rfl) ?_
    refine AD.pure (PureOp.move rfl (.tmp rfl)) rfl rfl (Nat.le_of_ble_eq_true rfl) ?_
    refine AD.pure (PureOp.indexLst (i := (p.inSync.getD k 0).toNat) rfl (.tmp rfl) vr_el_22_1 (.tmp rfl) (by omega) (by omega)) rfl rfl (Nat.le_of_ble_eq_true rfl) ?_
    refine AD.pure (PureOp.loadRef rfl (.tmp rfl) vr_pl_25 (Nat.le_of_ble_eq_true rfl)) rfl rfl (Nat.le_of_ble_eq_true rfl) ?_
    refine AD.pure (PureOp.call rfl (v_partAt (p.logs.getD p.leader.toNat []) (p.logs.getD ((p.inSync.getD k 0).toNat) [])) ⟨⟨_, (.tmp rfl), .lst⟩, ⟨_, (.tmp rfl), .lst⟩, trivial⟩ vr_ca_104 trivial) rfl rfl (Nat.le_of_ble_eq_true rfl) ?_
    refine AD.pure (PureOp.min2 rfl (.tmp rfl) (.tmp rfl)) rfl rfl (Nat.le_of_ble_eq_true rfl) ?_
    refine AD.pure (PureOp.assign rfl (.tmp rfl)) rfl rfl (Nat.le_of_ble_eq_true rfl) ?_
    refine AD.nil ?_
    refine AW.region ?_
    refine ARun.pure (PureOp.add (c := ((k + 1 : Nat) : Int)) rfl (.tmp rfl) .int (by rw [wrap_id (by omega) (by omega)]; omega)) rfl rfl (Nat.le_of_ble_eq_true rfl) ?_
    refine ARun.pure (PureOp.move rfl (.tmp rfl)) rfl rfl (Nat.le_of_ble_eq_true rfl) ?_
    refine ARun.nil ?_
    exact ⟨k + 1, by omega, by dsimp only; omega, ⟨⟨⟨_, rfl, rfl⟩, ⟨_, rfl, congrArg (fun z => SV.one (.int .i64 z)) (minInt_eq (pre_comm _ _))⟩, ⟨_, rfl, rfl⟩, ⟨_, rfl, rfl⟩, ⟨_, rfl, rfl⟩, trivial⟩, trivial⟩⟩
  · have _u := True.intro
    replace hb1 := of_decide_eq_false hb1
    have hkl : ¬ k < p.inSync.length := by omega
    have hkk : k = p.inSync.length := by omega
    refine AW.exit ?_
    refine AW.seq ?_
    refine AW.region ?_
    refine ARun.pure (PureOp.move rfl (.tmp rfl)) rfl rfl (Nat.le_of_ble_eq_true rfl) ?_
    refine ARun.pure (PureOp.assign rfl (.tmp rfl)) rfl rfl (Nat.le_of_ble_eq_true rfl) ?_
    refine ARun.nil ?_
    refine AW.ret (show ResL _ _ [.tmp 2] _ from resI rfl ?_)
    rw [hkk]; rw [certN_eq hg]

theorem v_specCert (p : GRepl) : Fn Try.prog 21 [.agg [.lst 1 p.logs.length (fun i0 _ => .lst 2 ((p.logs.getD i0 []).length) (fun i1 j1 => ([.int .i64 (((p.logs.getD i0 []).getD i1 (default : GEntry)).epoch), .str (((p.logs.getD i0 []).getD i1 (default : GEntry)).text)] : List AV).getD j1 (.con undef))), .lst 1 p.down.length (fun i0 _ => .bool (p.down.getD i0 false)), .int .i64 p.leader, .int .i64 p.epoch, .lst 1 p.inSync.length (fun i0 _ => .int .i64 (p.inSync.getD i0 0)), .lst 2 p.certain.length (fun i0 j0 => ([.int .i64 ((p.certain.getD i0 (default : GEntry)).epoch), .str ((p.certain.getD i0 (default : GEntry)).text)] : List AV).getD j0 (.con undef))]] (.tup2 (.one (.int .i64 (certV p))) (.one (.bool (goodRepl p)))) := by
  refine Fn.of_body (fn := Try.f21) Try.func21 rfl (Nat.le_of_ble_eq_true rfl) ⟨trivial, trivial⟩ ?_
  intro w0
  show AW _ 9 _ _ _ _
  refine AW.seq ?_
  refine AW.region ?_
  refine ARun.box (id := 0) rfl (.tmp rfl) (SV.cells_of (by exact ⟨trivial, trivial, trivial, trivial, trivial, trivial, trivial⟩)) ⟨rfl, (by repeat first | exact trivial | refine ⟨by decide, by first | rfl | (intro i j; first | rfl | (dsimp only; split <;> rfl)), ?_⟩)⟩ rfl rfl rfl (Nat.le_of_ble_eq_true rfl) ?_
  refine ARun.pure (PureOp.assign rfl .int) rfl rfl (Nat.le_of_ble_eq_true rfl) ?_
  refine ARun.pure (PureOp.assign rfl .bool) rfl rfl (Nat.le_of_ble_eq_true rfl) ?_
  refine ARun.nil ?_
  refine AW.seq ?_
  refine AW.seq ?_
  refine AW.region ?_
  refine ARun.pure (PureOp.loadPtrAgg rfl (.tmp rfl) vr_ag_27_6 rfl rfl (Nat.le_of_ble_eq_true rfl) (Nat.le_of_ble_eq_true rfl)) rfl rfl (Nat.le_of_ble_eq_true rfl) ?_
  refine ARun.pure (PureOp.call rfl (v_specGoodRepl p) ⟨⟨_, (.tmp rfl), ⟨.lst, .lst, .int, .int, .lst, .lst, trivial⟩⟩, trivial⟩ vr_ca_16 trivial) rfl rfl (Nat.le_of_ble_eq_true rfl) ?_
  refine ARun.pure (PureOp.not rfl (.tmp rfl)) rfl rfl (Nat.le_of_ble_eq_true rfl) ?_
  refine ARun.nil ?_
  refine AW.cond (.tmp rfl) (fun hb1 => ?_) (fun hb1 => ?_)
  · have _u := True.intro
    replace hb1 := of_not hb1
    refine AW.seq ?_
    refine AW.region ?_
    refine ARun.pure (PureOp.assign rfl .int) rfl rfl (Nat.le_of_ble_eq_true rfl) ?_
    refine ARun.pure (PureOp.assign rfl .bool) rfl rfl (Nat.le_of_ble_eq_true rfl) ?_
    refine ARun.nil ?_
    refine AW.ret (show ResL _ _ [.tmp 2, .tmp 3] _ from res2I rfl rfl ?_)
    unfold certV; rw [hb1]; exact ⟨rfl, rfl⟩
  · have _u := True.intro
    replace hb1 := not_f hb1
    have hgood := hb1
    refine AW.skip ?_
    refine AW.seq ?_
    refine AW.region ?_
    refine ARun.pure (PureOp.loadPtrAgg rfl (.tmp rfl) vr_ag_27_6 rfl rfl (Nat.le_of_ble_eq_true rfl) (Nat.le_of_ble_eq_true rfl)) rfl rfl (Nat.le_of_ble_eq_true rfl) ?_
    refine ARun.pure (PureOp.call rfl (v_l9Certain p hgood) ⟨⟨_, (.tmp rfl), ⟨.lst, .lst, .int, .int, .lst, .lst, trivial⟩⟩, trivial⟩ vr_ca_74 trivial) rfl rfl (Nat.le_of_ble_eq_true rfl) ?_
    refine ARun.pure (PureOp.assign rfl (.tmp rfl)) rfl rfl (Nat.le_of_ble_eq_true rfl) ?_
    refine ARun.pure (PureOp.assign rfl .bool) rfl rfl (Nat.le_of_ble_eq_true rfl) ?_
    refine ARun.nil ?_
    refine AW.ret (show ResL _ _ [.tmp 2, .tmp 3] _ from res2I rfl rfl ?_)
    unfold certV; rw [hb1]; exact ⟨rfl, rfl⟩

theorem v_implCert (p : GRepl) : Fn Try.prog 22 [.agg [.lst 1 p.logs.length (fun i0 _ => .lst 2 ((p.logs.getD i0 []).length) (fun i1 j1 => ([.int .i64 (((p.logs.getD i0 []).getD i1 (default : GEntry)).epoch), .str (((p.logs.getD i0 []).getD i1 (default : GEntry)).text)] : List AV).getD j1 (.con undef))), .lst 1 p.down.length (fun i0 _ => .bool (p.down.getD i0 false)), .int .i64 p.leader, .int .i64 p.epoch, .lst 1 p.inSync.length (fun i0 _ => .int .i64 (p.inSync.getD i0 0)), .lst 2 p.certain.length (fun i0 j0 => ([.int .i64 ((p.certain.getD i0 (default : GEntry)).epoch), .str ((p.certain.getD i0 (default : GEntry)).text)] : List AV).getD j0 (.con undef))]] (.tup2 (.one (.int .i64 (certV p))) (.one (.bool (goodRepl p)))) := by
  refine Fn.of_body (fn := Try.f22) Try.func22 rfl (Nat.le_of_ble_eq_true rfl) ⟨trivial, trivial⟩ ?_
  intro w0
  show AW _ 8 _ _ _ _
  refine AW.seq ?_
  refine AW.region ?_
  refine ARun.box (id := 0) rfl (.tmp rfl) (SV.cells_of (by exact ⟨trivial, trivial, trivial, trivial, trivial, trivial, trivial⟩)) ⟨rfl, (by repeat first | exact trivial | refine ⟨by decide, by first | rfl | (intro i j; first | rfl | (dsimp only; split <;> rfl)), ?_⟩)⟩ rfl rfl rfl (Nat.le_of_ble_eq_true rfl) ?_
  refine ARun.pure (PureOp.assign rfl .int) rfl rfl (Nat.le_of_ble_eq_true rfl) ?_
  refine ARun.pure (PureOp.assign rfl .bool) rfl rfl (Nat.le_of_ble_eq_true rfl) ?_
  refine ARun.nil ?_
  refine AW.seq ?_
  refine AW.seq ?_
  refine AW.region ?_
  refine ARun.pure (PureOp.loadPtrAgg rfl (.tmp rfl) vr_ag_27_6 rfl rfl (Nat.le_of_ble_eq_true rfl) (Nat.le_of_ble_eq_true rfl)) rfl rfl (Nat.le_of_ble_eq_true rfl) ?_
  refine ARun.pure (PureOp.call rfl (v_isReplG p) ⟨⟨_, (.tmp rfl), ⟨.lst, .lst, .int, .int, .lst, .lst, trivial⟩⟩, trivial⟩ vr_ca_71 trivial) rfl rfl (Nat.le_of_ble_eq_true rfl) ?_
  refine ARun.pure (PureOp.not rfl (.tmp rfl)) rfl rfl (Nat.le_of_ble_eq_true rfl) ?_
  refine ARun.nil ?_
  refine AW.cond (.tmp rfl) (fun hb1 => ?_) (fun hb1 => ?_)
  · have _u := True.intro
    replace hb1 := of_not hb1
    refine AW.seq ?_
    refine AW.region ?_
    refine ARun.pure (PureOp.assign rfl .int) rfl rfl (Nat.le_of_ble_eq_true rfl) ?_
    refine ARun.pure (PureOp.assign rfl .bool) rfl rfl (Nat.le_of_ble_eq_true rfl) ?_
    refine ARun.nil ?_
    refine AW.ret (show ResL _ _ [.tmp 2, .tmp 3] _ from res2I rfl rfl ?_)
    unfold certV; rw [hb1]; exact ⟨rfl, rfl⟩
  · have _u := True.intro
    replace hb1 := not_f hb1
    have hgood := hb1
    refine AW.skip ?_
    refine AW.seq ?_
    refine AW.region ?_
    refine ARun.pure (PureOp.call rfl (v_certain p hgood) ⟨⟨_, (.tmp rfl), (.ptr (m := 6) rfl rfl (Nat.le_of_ble_eq_true rfl) (Nat.le_of_ble_eq_true rfl) (fun | 0, _ => .lst | 1, _ => .lst | 2, _ => .int | 3, _ => .int | 4, _ => .lst | 5, _ => .lst | _ + 6, h => absurd h (by omega)))⟩, trivial⟩ vr_ca_75 trivial) rfl rfl (Nat.le_of_ble_eq_true rfl) ?_
    refine ARun.pure (PureOp.assign rfl (.tmp rfl)) rfl rfl (Nat.le_of_ble_eq_true rfl) ?_
    refine ARun.pure (PureOp.assign rfl .bool) rfl rfl (Nat.le_of_ble_eq_true rfl) ?_
    refine ARun.nil ?_
    refine AW.ret (show ResL _ _ [.tmp 2, .tmp 3] _ from res2I rfl rfl ?_)
    unfold certV; rw [hb1]; exact ⟨rfl, rfl⟩
end Go.Proofs.Ytmlhlkpiofbhgaa
