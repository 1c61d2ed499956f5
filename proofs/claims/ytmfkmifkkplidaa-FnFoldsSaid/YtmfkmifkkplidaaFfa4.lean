/-
  Part 4 of the proof: the texts of a seat's own library, joined.
-/
import Derived.Shelf.Small.Strs
import Derived.Test.YtmfkmifkkplidaaFfa2
import Derived.Test.YtmfkmifkkplidaaFfa3
/-
  Heads: what a valid one is, in the reference and in the program.
-/
namespace Go.Proofs.Ytmfkmifkkplidaa
open Go.ChangeShapes Go.WideShapes Go.ChangeAt Go.RowKit Go.BigFrame Go.Deep
set_option linter.unusedVariables false
set_option linter.unusedSimpArgs false
theorem vh_ag_29_2 : aggB Try.prog 29 2 = true := by kernel_rfl
theorem vh_ag_67_2 : aggB Try.prog 67 2 = true := by kernel_rfl
theorem vh_ag_81_2 : aggB Try.prog 81 2 = true := by kernel_rfl
theorem vh_ca_42 : callB Try.prog 42 = true := by kernel_rfl
theorem vh_ca_43 : callB Try.prog 43 = true := by kernel_rfl
theorem vh_ca_44 : callB Try.prog 44 = true := by kernel_rfl
theorem vh_ca_46 : callB Try.prog 46 = true := by kernel_rfl
theorem vh_ca_70 : callB Try.prog 70 = true := by kernel_rfl
theorem vh_ca_71 : callB Try.prog 71 = true := by kernel_rfl
theorem vh_ca_72 : callB Try.prog 72 = true := by kernel_rfl
theorem vh_ca_78 : callB Try.prog 78 = true := by kernel_rfl
theorem vh_el_27_2 : elemB Try.prog 27 2 = true := by kernel_rfl
theorem vh_el_33_2 : elemB Try.prog 33 2 = true := by kernel_rfl
theorem vh_fi_29_0_0 : fieldB Try.prog 29 0 0 = true := by kernel_rfl
theorem vh_fi_29_1_1 : fieldB Try.prog 29 1 1 = true := by kernel_rfl
theorem vh_fi_67_0_0 : fieldB Try.prog 67 0 0 = true := by kernel_rfl
theorem vh_fi_67_1_1 : fieldB Try.prog 67 1 1 = true := by kernel_rfl
theorem vh_fi_81_0_0 : fieldB Try.prog 81 0 0 = true := by kernel_rfl
theorem vh_fi_81_1_1 : fieldB Try.prog 81 1 1 = true := by kernel_rfl
theorem vh_pl_27 : plainB Try.prog 27 = true := by kernel_rfl
theorem vh_pl_3 : plainB Try.prog 3 = true := by kernel_rfl
theorem vh_pl_33 : plainB Try.prog 33 = true := by kernel_rfl
theorem vh_pl_9 : plainB Try.prog 9 = true := by kernel_rfl
theorem vh_sl_27 : sliceB Try.prog 27 = true := by kernel_rfl
theorem vh_sl_33 : sliceB Try.prog 33 = true := by kernel_rfl
theorem vh_sz_67_2 : sizeB Try.prog 67 2 = true := by kernel_rfl
theorem vh_sz_81_2 : sizeB Try.prog 81 2 = true := by kernel_rfl
def saBad (l : List GSample) (k : Nat) : Bool :=
  cond (cond (!(inB 0 1000000000 ((l.getD k (default : GSample)).at_))) true (!(inB (-1000000000) 1000000000 ((l.getD k (default : GSample)).value)))) true (cond (decide (0 < (k : Int))) (decide ((l.getD k (default : GSample)).at_ ≤ (l.getD (k - 1) (default : GSample)).at_)) false)
def samplesB (l : List GSample) : Bool := (List.range l.length).all (fun j => !saBad l j) && decide ((l.length : Int) ≤ 40)
theorem v_GoodSamples (l : List GSample) : Fn Try.prog 43 [.one (.lst 2 l.length (fun i0 j0 => ([.int .i64 ((l.getD i0 (default : GSample)).at_), .int .i64 ((l.getD i0 (default : GSample)).value)] : List AV).getD j0 (.con undef)))] (.one (.bool (samplesB l))) := by
  refine Fn.of_body (fn := Try.f43) Try.func43 rfl (Nat.le_of_ble_eq_true rfl) trivial ?_
  intro w0
  show AW _ 41 _ _ _ _
  refine AW.bound (t := 0) rfl fun hx => ?_
  refine AW.seq ?_
  refine AW.region ?_
  refine ARun.pure (PureOp.assign rfl .bool) rfl rfl (Nat.le_of_ble_eq_true rfl) ?_
  refine ARun.nil ?_
  refine AW.seq ?_
  refine AW.seq ?_
  refine AW.region ?_
  refine ARun.pure (PureOp.move rfl (.tmp rfl)) rfl rfl (Nat.le_of_ble_eq_true rfl) ?_
  refine ARun.pure (PureOp.lenLst rfl (.tmp rfl) vh_sl_33) rfl rfl (Nat.le_of_ble_eq_true rfl) ?_
  refine ARun.pure (PureOp.move rfl .int) rfl rfl (Nat.le_of_ble_eq_true rfl) ?_
  refine ARun.nil ?_
  refine AW.block ?_
  refine AW.loop (ι := Nat) (fun k => ⟨[(0, .one (.lst 2 l.length (fun i0 j0 => ([.int .i64 ((l.getD i0 (default : GSample)).at_), .int .i64 ((l.getD i0 (default : GSample)).value)] : List AV).getD j0 (.con undef)))), (5, .one (.lst 2 l.length (fun i0 j0 => ([.int .i64 ((l.getD i0 (default : GSample)).at_), .int .i64 ((l.getD i0 (default : GSample)).value)] : List AV).getD j0 (.con undef)))), (6, .one (.int .i64 (l.length : Int))), (7, .one (.int .i64 (k : Int)))], []⟩) (fun k => k ≤ l.length ∧ ∀ j, j < k → saBad l j = false) (fun k => l.length - k) 0 ⟨Nat.zero_le _, fun j hj => absurd hj (by omega)⟩ ⟨⟨⟨_, rfl, rfl⟩, ⟨_, rfl, rfl⟩, ⟨_, rfl, rfl⟩, ⟨_, rfl, rfl⟩, trivial⟩, trivial⟩ ?_
  intro k hI
  obtain ⟨hk, hks⟩ := hI
  refine AW.seq ?_
  refine AW.region ?_
  refine ARun.pure (PureOp.intOp rfl (.tmp rfl) (.tmp rfl) rfl) rfl rfl (Nat.le_of_ble_eq_true rfl) ?_
  refine ARun.nil ?_
  refine AW.seq ?_
  refine AW.cond (.tmp rfl) (fun hb1 => ?_) (fun hb1 => ?_)
  · have _u := True.intro
    replace hb1 := of_decide_eq_true hb1
    have hkl : k < l.length := by omega
    refine AW.skip ?_
    refine AW.seq ?_
    refine AW.block ?_
    refine AW.seq ?_
    refine AW.region ?_
    refine ARun.pure (PureOp.move rfl (.tmp rfl)) rfl rfl (Nat.le_of_ble_eq_true rfl) ?_
    refine ARun.pure (PureOp.indexLst (i := k) rfl (.tmp rfl) vh_el_33_2 (.tmp rfl) rfl (by omega)) rfl rfl (Nat.le_of_ble_eq_true rfl) ?_
    refine ARun.pure (PureOp.loadRefAgg rfl (.tmp rfl) vh_ag_81_2 (Nat.le_of_ble_eq_true rfl)) rfl rfl (Nat.le_of_ble_eq_true rfl) ?_
    refine ARun.alloc (id := 0) (l := [.int .i64 0, .int .i64 0]) (z := (.agg #[.int .i64 0, .int .i64 0])) rfl (by kernel_rfl) (fun _ _ _ => ⟨_, _, rfl, rfl, ⟨_, _, rfl, rfl, rfl⟩⟩) ⟨rfl, (by repeat first | exact trivial | refine ⟨by decide, by first | rfl | exact trivial | (intro i j; first | rfl | exact getD_no rfl | (dsimp only; split <;> first | rfl | exact getD_no rfl) | exact scl_no (by apply_assumption) _), ?_⟩)⟩ rfl rfl rfl (Nat.le_of_ble_eq_true rfl) ?_
    refine ARun.pure (PureOp.assign rfl (.tmp rfl)) rfl rfl (Nat.le_of_ble_eq_true rfl) ?_
    refine ARun.store rfl (.tmp rfl) (.tmp rfl) (SV.cells_of (by exact ⟨trivial, trivial, trivial⟩)) rfl (Nat.le_of_ble_eq_true rfl) vh_sz_81_2 rfl rfl ?_
    refine ARun.nil ?_
    refine AW.seq ?_
    refine AW.any (by kernel_rfl) (by kernel_rfl) ?_
    refine AD.pure (PureOp.fieldPtr rfl (.tmp rfl) vh_fi_81_0_0) rfl rfl (Nat.le_of_ble_eq_true rfl) ?_
    refine AD.pure (PureOp.loadPtr rfl (.tmp rfl) vh_pl_3 rfl rfl (Nat.le_of_ble_eq_true rfl) (Nat.le_of_ble_eq_true rfl)) rfl rfl (Nat.le_of_ble_eq_true rfl) ?_
    refine AD.pure (PureOp.call rfl (v_l1In ((l.getD k (default : GSample)).at_) 0 1000000000) ⟨⟨_, (.tmp rfl), .int⟩, ⟨_, .int, .int⟩, ⟨_, .int, .int⟩, trivial⟩ vh_ca_44 trivial) rfl rfl (Nat.le_of_ble_eq_true rfl) ?_
    refine AD.pure (PureOp.not rfl (.tmp rfl)) rfl rfl (Nat.le_of_ble_eq_true rfl) ?_
    refine AD.pure (PureOp.move rfl (.tmp rfl)) rfl rfl (Nat.le_of_ble_eq_true rfl) ?_
    refine AD.gpure (want := false) (.tf rfl) (fun hg2 => PureOp.fieldPtr rfl (.tmp rfl) vh_fi_81_1_1) rfl rfl rfl (Nat.le_of_ble_eq_true rfl) ?_
    refine AD.gpure (want := false) (.tf rfl) (fun hg3 => PureOp.loadPtr rfl (.gtmp rfl hg3) vh_pl_3 rfl rfl (Nat.le_of_ble_eq_true rfl) (Nat.le_of_ble_eq_true rfl)) rfl rfl rfl (Nat.le_of_ble_eq_true rfl) ?_
    refine AD.gpure (want := false) (.tf rfl) (fun hg4 => PureOp.call rfl (v_l1In ((l.getD k (default : GSample)).value) (-1000000000) 1000000000) ⟨⟨_, (.gtmp rfl hg4), .int⟩, ⟨_, .int, .int⟩, ⟨_, .int, .int⟩, trivial⟩ vh_ca_44 trivial) rfl rfl rfl (Nat.le_of_ble_eq_true rfl) ?_
    refine AD.gpure (want := false) (.tf rfl) (fun hg5 => PureOp.not rfl (.gtmp rfl hg5)) rfl rfl rfl (Nat.le_of_ble_eq_true rfl) ?_
    refine AD.pure (PureOp.pick rfl (.tmp rfl) (fun _ => .bool) (fun hp7 => .gtmp rfl (not_of hp7))) rfl rfl (Nat.le_of_ble_eq_true rfl) ?_
    refine AD.pure (PureOp.move rfl (.tmp rfl)) rfl rfl (Nat.le_of_ble_eq_true rfl) ?_
    refine AD.gpure (want := false) (.tf rfl) (fun hg8 => PureOp.move rfl (.tmp rfl)) rfl rfl rfl (Nat.le_of_ble_eq_true rfl) ?_
    refine AD.gpure (want := false) (.tf rfl) (fun hg9 => PureOp.intOp rfl (.gtmp rfl hg9) .int rfl) rfl rfl rfl (Nat.le_of_ble_eq_true rfl) ?_
    refine AD.gpure (want := false) (.tf rfl) (fun hg10 => PureOp.move rfl (.gtmp rfl hg10)) rfl rfl rfl (Nat.le_of_ble_eq_true rfl) ?_
    refine AD.gpure (want := true) (.gt rfl) (fun hg11 => PureOp.move rfl (.tmp rfl)) rfl rfl rfl (Nat.le_of_ble_eq_true rfl) ?_
    refine AD.gpure (want := true) (.gt rfl) (fun hg12 => PureOp.move rfl (.tmp rfl)) rfl rfl rfl (Nat.le_of_ble_eq_true rfl) ?_
    refine AD.gpure (want := true) (.gt rfl) (fun hg13 => PureOp.sub (c := (((k - 1) : Nat) : Int)) rfl (.gtmp rfl hg13) .int (by have q := hg13; simp only [Bool.cond_true_left, Bool.cond_false_right, Bool.not_eq_true', Bool.or_eq_false_iff, Bool.not_eq_false', Bool.and_eq_true, Bool.not_not, decide_eq_true_eq, decide_eq_false_iff_not, inB] at q; rw [wrap_id (by omega) (by omega)]; omega)) rfl rfl rfl (Nat.le_of_ble_eq_true rfl) ?_
    refine AD.gpure (want := true) (.gt rfl) (fun hg14 => PureOp.indexLst (i := (k - 1)) rfl (.gtmp rfl hg14) vh_el_33_2 (.gtmp rfl hg14) rfl (by have q := hg14; simp only [Bool.cond_true_left, Bool.cond_false_right, Bool.not_eq_true', Bool.or_eq_false_iff, Bool.not_eq_false', Bool.and_eq_true, Bool.not_not, decide_eq_true_eq, decide_eq_false_iff_not, inB] at q; omega)) rfl rfl rfl (Nat.le_of_ble_eq_true rfl) ?_
    refine AD.gpure (want := true) (.gt rfl) (fun hg15 => PureOp.fieldRef rfl (.gtmp rfl hg15) vh_fi_81_0_0 (Nat.le_of_ble_eq_true rfl)) rfl rfl rfl (Nat.le_of_ble_eq_true rfl) ?_
    refine AD.gpure (want := true) (.gt rfl) (fun hg16 => PureOp.loadRef rfl (.gtmp rfl hg16) vh_pl_3 (Nat.le_of_ble_eq_true rfl)) rfl rfl rfl (Nat.le_of_ble_eq_true rfl) ?_
    refine AD.gpure (want := true) (.gt rfl) (fun hg17 => PureOp.fieldPtr rfl (.tmp rfl) vh_fi_81_0_0) rfl rfl rfl (Nat.le_of_ble_eq_true rfl) ?_
    refine AD.gpure (want := true) (.gt rfl) (fun hg18 => PureOp.loadPtr rfl (.gtmp rfl hg18) vh_pl_3 rfl rfl (Nat.le_of_ble_eq_true rfl) (Nat.le_of_ble_eq_true rfl)) rfl rfl rfl (Nat.le_of_ble_eq_true rfl) ?_
    refine AD.gpure (want := true) (.gt rfl) (fun hg19 => PureOp.intOp rfl (.gtmp rfl hg19) (.gtmp rfl hg19) rfl) rfl rfl rfl (Nat.le_of_ble_eq_true rfl) ?_
    refine AD.gpure (want := false) (.tf rfl) (fun hg20 => PureOp.pick rfl (.gtmp rfl hg20) (fun hp21 => .gtmp rfl (and_mk hg20 hp21)) (fun _ => .bool)) rfl rfl rfl (Nat.le_of_ble_eq_true rfl) ?_
    refine AD.pure (PureOp.pick rfl (.tmp rfl) (fun _ => .bool) (fun hp24 => .gtmp rfl (not_of hp24))) rfl rfl (Nat.le_of_ble_eq_true rfl) ?_
    refine AD.nil ?_
    refine AW.cond (.tmp rfl) (fun hb25 => ?_) (fun hb25 => ?_)
    · have _u := True.intro
      have hbd : saBad l k = true := hb25
      refine AW.seq ?_
      refine AW.region ?_
      refine ARun.pure (PureOp.assign rfl .bool) rfl rfl (Nat.le_of_ble_eq_true rfl) ?_
      refine ARun.nil ?_
      refine AW.ret (show ResL _ _ [.tmp 2] _ from resB rfl ?_)
      have hno : (List.range l.length).all (fun j => !saBad l j) = false := rng_no hkl (by rw [hbd]; rfl)
      unfold samplesB; rw [hno]; rfl
    · have _u := True.intro
      have hbd : saBad l k = false := hb25
      refine AW.skip ?_
      refine AW.region ?_
      refine ARun.pure (PureOp.add (c := ((k + 1 : Nat) : Int)) rfl (.tmp rfl) .int (by rw [wrap_id (by omega) (by omega)]; omega)) rfl rfl (Nat.le_of_ble_eq_true rfl) ?_
      refine ARun.pure (PureOp.move rfl (.tmp rfl)) rfl rfl (Nat.le_of_ble_eq_true rfl) ?_
      refine ARun.nil ?_
      exact ⟨k + 1, ⟨by omega, rng_succ (p := fun j => saBad l j = false) hks hbd⟩, by dsimp only; omega, ⟨⟨⟨_, rfl, rfl⟩, ⟨_, rfl, rfl⟩, ⟨_, rfl, rfl⟩, ⟨_, rfl, rfl⟩, trivial⟩, trivial⟩⟩
  · have _u := True.intro
    replace hb1 := of_decide_eq_false hb1
    have hkl : ¬ k < l.length := by omega
    have hall : (List.range l.length).all (fun j => !saBad l j) = true := rng_yes (fun j hj => by rw [hks j (by omega)]; rfl)
    refine AW.exit ?_
    refine AW.seq ?_
    refine AW.region ?_
    refine ARun.pure (PureOp.move rfl (.tmp rfl)) rfl rfl (Nat.le_of_ble_eq_true rfl) ?_
    refine ARun.pure (PureOp.lenLst rfl (.tmp rfl) vh_sl_33) rfl rfl (Nat.le_of_ble_eq_true rfl) ?_
    refine ARun.pure (PureOp.intOp rfl (.tmp rfl) .int rfl) rfl rfl (Nat.le_of_ble_eq_true rfl) ?_
    refine ARun.pure (PureOp.assign rfl (.tmp rfl)) rfl rfl (Nat.le_of_ble_eq_true rfl) ?_
    refine ARun.nil ?_
    refine AW.ret (show ResL _ _ [.tmp 2] _ from resB rfl ?_)
    unfold samplesB; rw [hall]; rfl

def isSampleB (x : GSample) : Bool :=
  cond (inB 0 1000000000 x.at_) (inB (-1000000000) 1000000000 x.value) false
theorem v_isSample (x : GSample) : Fn Try.prog 78 [.agg [.int .i64 x.at_, .int .i64 x.value]] (.one (.bool (isSampleB x))) := by
  refine Fn.of_body (fn := Try.f78) Try.func78 rfl (Nat.le_of_ble_eq_true rfl) trivial ?_
  intro w0
  show AW _ 11 _ _ _ _
  refine AW.seq ?_
  refine AW.region ?_
  refine ARun.box (id := 0) rfl (.tmp rfl) (SV.cells_of (by exact ⟨trivial, trivial, trivial⟩)) ⟨rfl, (by repeat first | exact trivial | refine ⟨by decide, by first | rfl | exact trivial | (intro i j; first | rfl | exact getD_no rfl | (dsimp only; split <;> first | rfl | exact getD_no rfl) | exact scl_no (by apply_assumption) _), ?_⟩)⟩ rfl rfl rfl (Nat.le_of_ble_eq_true rfl) ?_
  refine ARun.pure (PureOp.assign rfl .bool) rfl rfl (Nat.le_of_ble_eq_true rfl) ?_
  refine ARun.nil ?_
  refine AW.seq ?_
  refine AW.region ?_
  refine ARun.pure (PureOp.fieldPtr rfl (.tmp rfl) vh_fi_81_0_0) rfl rfl (Nat.le_of_ble_eq_true rfl) ?_
  refine ARun.pure (PureOp.loadPtr rfl (.tmp rfl) vh_pl_3 rfl rfl (Nat.le_of_ble_eq_true rfl) (Nat.le_of_ble_eq_true rfl)) rfl rfl (Nat.le_of_ble_eq_true rfl) ?_
  refine ARun.pure (PureOp.call rfl (v_within x.at_ 0 1000000000) ⟨⟨_, (.tmp rfl), .int⟩, ⟨_, .int, .int⟩, ⟨_, .int, .int⟩, trivial⟩ vh_ca_72 trivial) rfl rfl (Nat.le_of_ble_eq_true rfl) ?_
  refine ARun.pure (PureOp.move rfl (.tmp rfl)) rfl rfl (Nat.le_of_ble_eq_true rfl) ?_
  refine ARun.gpure (want := true) (.tt rfl) (fun hg1 => PureOp.fieldPtr rfl (.tmp rfl) vh_fi_81_1_1) rfl rfl (Nat.le_of_ble_eq_true rfl) rfl (Nat.le_of_ble_eq_true rfl) ?_
  refine ARun.gpure (want := true) (.tt rfl) (fun hg2 => PureOp.loadPtr rfl (.gtmp rfl hg2) vh_pl_3 rfl rfl (Nat.le_of_ble_eq_true rfl) (Nat.le_of_ble_eq_true rfl)) rfl rfl (Nat.le_of_ble_eq_true rfl) rfl (Nat.le_of_ble_eq_true rfl) ?_
  refine ARun.gpure (want := true) (.tt rfl) (fun hg3 => PureOp.call rfl (v_within x.value (-1000000000) 1000000000) ⟨⟨_, (.gtmp rfl hg3), .int⟩, ⟨_, .int, .int⟩, ⟨_, .int, .int⟩, trivial⟩ vh_ca_72 trivial) rfl rfl (Nat.le_of_ble_eq_true rfl) rfl (Nat.le_of_ble_eq_true rfl) ?_
  refine ARun.pure (PureOp.pick rfl (.tmp rfl) (fun hp4 => .gtmp rfl hp4) (fun _ => .bool)) rfl rfl (Nat.le_of_ble_eq_true rfl) ?_
  refine ARun.pure (PureOp.assign rfl (.tmp rfl)) rfl rfl (Nat.le_of_ble_eq_true rfl) ?_
  refine ARun.nil ?_
  refine AW.ret (show ResL _ _ [.tmp 2] _ from resB rfl ?_)
  rfl

def saBadI (l : List GSample) (k : Nat) : Bool :=
  cond (!(isSampleB (l.getD k (default : GSample)))) true (cond (decide (0 < (k : Int))) (decide ((l.getD k (default : GSample)).at_ ≤ (l.getD (k - 1) (default : GSample)).at_)) false)
theorem saBad_eq (l : List GSample) (k : Nat) : saBad l k = saBadI l k := by
  unfold saBad saBadI isSampleB
  generalize inB 0 _ _ = a1
  generalize inB (-1000000000) _ _ = a2
  generalize cond (decide ((0 : Int) < (k : Int))) _ false = a3
  revert a1 a2 a3; decide
theorem v_areSamples (l : List GSample) : Fn Try.prog 71 [.one (.lst 2 l.length (fun i0 j0 => ([.int .i64 ((l.getD i0 (default : GSample)).at_), .int .i64 ((l.getD i0 (default : GSample)).value)] : List AV).getD j0 (.con undef)))] (.one (.bool (samplesB l))) := by
  refine Fn.of_body (fn := Try.f71) Try.func71 rfl (Nat.le_of_ble_eq_true rfl) trivial ?_
  intro w0
  show AW _ 34 _ _ _ _
  refine AW.bound (t := 0) rfl fun hx => ?_
  refine AW.seq ?_
  refine AW.region ?_
  refine ARun.pure (PureOp.assign rfl .bool) rfl rfl (Nat.le_of_ble_eq_true rfl) ?_
  refine ARun.nil ?_
  refine AW.seq ?_
  refine AW.seq ?_
  refine AW.region ?_
  refine ARun.pure (PureOp.move rfl (.tmp rfl)) rfl rfl (Nat.le_of_ble_eq_true rfl) ?_
  refine ARun.pure (PureOp.lenLst rfl (.tmp rfl) vh_sl_33) rfl rfl (Nat.le_of_ble_eq_true rfl) ?_
  refine ARun.pure (PureOp.move rfl .int) rfl rfl (Nat.le_of_ble_eq_true rfl) ?_
  refine ARun.nil ?_
  refine AW.block ?_
  refine AW.loop (ι := Nat) (fun k => ⟨[(0, .one (.lst 2 l.length (fun i0 j0 => ([.int .i64 ((l.getD i0 (default : GSample)).at_), .int .i64 ((l.getD i0 (default : GSample)).value)] : List AV).getD j0 (.con undef)))), (5, .one (.lst 2 l.length (fun i0 j0 => ([.int .i64 ((l.getD i0 (default : GSample)).at_), .int .i64 ((l.getD i0 (default : GSample)).value)] : List AV).getD j0 (.con undef)))), (6, .one (.int .i64 (l.length : Int))), (7, .one (.int .i64 (k : Int)))], []⟩) (fun k => k ≤ l.length ∧ ∀ j, j < k → saBad l j = false) (fun k => l.length - k) 0 ⟨Nat.zero_le _, fun j hj => absurd hj (by omega)⟩ ⟨⟨⟨_, rfl, rfl⟩, ⟨_, rfl, rfl⟩, ⟨_, rfl, rfl⟩, ⟨_, rfl, rfl⟩, trivial⟩, trivial⟩ ?_
  intro k hI
  obtain ⟨hk, hks⟩ := hI
  refine AW.seq ?_
  refine AW.region ?_
  refine ARun.pure (PureOp.intOp rfl (.tmp rfl) (.tmp rfl) rfl) rfl rfl (Nat.le_of_ble_eq_true rfl) ?_
  refine ARun.nil ?_
  refine AW.seq ?_
  refine AW.cond (.tmp rfl) (fun hb1 => ?_) (fun hb1 => ?_)
  · have _u := True.intro
    replace hb1 := of_decide_eq_true hb1
    have hkl : k < l.length := by omega
    refine AW.skip ?_
    refine AW.seq ?_
    refine AW.block ?_
    refine AW.seq ?_
    refine AW.region ?_
    refine ARun.pure (PureOp.move rfl (.tmp rfl)) rfl rfl (Nat.le_of_ble_eq_true rfl) ?_
    refine ARun.pure (PureOp.indexLst (i := k) rfl (.tmp rfl) vh_el_33_2 (.tmp rfl) rfl (by omega)) rfl rfl (Nat.le_of_ble_eq_true rfl) ?_
    refine ARun.pure (PureOp.loadRefAgg rfl (.tmp rfl) vh_ag_81_2 (Nat.le_of_ble_eq_true rfl)) rfl rfl (Nat.le_of_ble_eq_true rfl) ?_
    refine ARun.alloc (id := 0) (l := [.int .i64 0, .int .i64 0]) (z := (.agg #[.int .i64 0, .int .i64 0])) rfl (by kernel_rfl) (fun _ _ _ => ⟨_, _, rfl, rfl, ⟨_, _, rfl, rfl, rfl⟩⟩) ⟨rfl, (by repeat first | exact trivial | refine ⟨by decide, by first | rfl | exact trivial | (intro i j; first | rfl | exact getD_no rfl | (dsimp only; split <;> first | rfl | exact getD_no rfl) | exact scl_no (by apply_assumption) _), ?_⟩)⟩ rfl rfl rfl (Nat.le_of_ble_eq_true rfl) ?_
    refine ARun.pure (PureOp.assign rfl (.tmp rfl)) rfl rfl (Nat.le_of_ble_eq_true rfl) ?_
    refine ARun.store rfl (.tmp rfl) (.tmp rfl) (SV.cells_of (by exact ⟨trivial, trivial, trivial⟩)) rfl (Nat.le_of_ble_eq_true rfl) vh_sz_81_2 rfl rfl ?_
    refine ARun.nil ?_
    refine AW.seq ?_
    refine AW.any (by kernel_rfl) (by kernel_rfl) ?_
    refine AD.pure (PureOp.loadPtrAgg rfl (.tmp rfl) vh_ag_81_2 rfl rfl (Nat.le_of_ble_eq_true rfl) (Nat.le_of_ble_eq_true rfl)) rfl rfl (Nat.le_of_ble_eq_true rfl) ?_
    refine AD.pure (PureOp.call rfl (v_isSample (l.getD k (default : GSample))) ⟨⟨_, (.tmp rfl), ⟨.int, .int, trivial⟩⟩, trivial⟩ vh_ca_78 trivial) rfl rfl (Nat.le_of_ble_eq_true rfl) ?_
    refine AD.pure (PureOp.not rfl (.tmp rfl)) rfl rfl (Nat.le_of_ble_eq_true rfl) ?_
    refine AD.pure (PureOp.move rfl (.tmp rfl)) rfl rfl (Nat.le_of_ble_eq_true rfl) ?_
    refine AD.gpure (want := false) (.tf rfl) (fun hg2 => PureOp.move rfl (.tmp rfl)) rfl rfl rfl (Nat.le_of_ble_eq_true rfl) ?_
    refine AD.gpure (want := false) (.tf rfl) (fun hg3 => PureOp.intOp rfl (.gtmp rfl hg3) .int rfl) rfl rfl rfl (Nat.le_of_ble_eq_true rfl) ?_
    refine AD.gpure (want := false) (.tf rfl) (fun hg4 => PureOp.move rfl (.gtmp rfl hg4)) rfl rfl rfl (Nat.le_of_ble_eq_true rfl) ?_
    refine AD.gpure (want := true) (.gt rfl) (fun hg5 => PureOp.move rfl (.tmp rfl)) rfl rfl rfl (Nat.le_of_ble_eq_true rfl) ?_
    refine AD.gpure (want := true) (.gt rfl) (fun hg6 => PureOp.move rfl (.tmp rfl)) rfl rfl rfl (Nat.le_of_ble_eq_true rfl) ?_
    refine AD.gpure (want := true) (.gt rfl) (fun hg7 => PureOp.sub (c := (((k - 1) : Nat) : Int)) rfl (.gtmp rfl hg7) .int (by have q := hg7; simp only [Bool.cond_true_left, Bool.cond_false_right, Bool.not_eq_true', Bool.or_eq_false_iff, Bool.not_eq_false', Bool.and_eq_true, Bool.not_not, decide_eq_true_eq, decide_eq_false_iff_not, inB] at q; rw [wrap_id (by omega) (by omega)]; omega)) rfl rfl rfl (Nat.le_of_ble_eq_true rfl) ?_
    refine AD.gpure (want := true) (.gt rfl) (fun hg8 => PureOp.indexLst (i := (k - 1)) rfl (.gtmp rfl hg8) vh_el_33_2 (.gtmp rfl hg8) rfl (by have q := hg8; simp only [Bool.cond_true_left, Bool.cond_false_right, Bool.not_eq_true', Bool.or_eq_false_iff, Bool.not_eq_false', Bool.and_eq_true, Bool.not_not, decide_eq_true_eq, decide_eq_false_iff_not, inB] at q; omega)) rfl rfl rfl (Nat.le_of_ble_eq_true rfl) ?_
    refine AD.gpure (want := true) (.gt rfl) (fun hg9 => PureOp.fieldRef rfl (.gtmp rfl hg9) vh_fi_81_0_0 (Nat.le_of_ble_eq_true rfl)) rfl rfl rfl (Nat.le_of_ble_eq_true rfl) ?_
    refine AD.gpure (want := true) (.gt rfl) (fun hg10 => PureOp.loadRef rfl (.gtmp rfl hg10) vh_pl_3 (Nat.le_of_ble_eq_true rfl)) rfl rfl rfl (Nat.le_of_ble_eq_true rfl) ?_
    refine AD.gpure (want := true) (.gt rfl) (fun hg11 => PureOp.fieldPtr rfl (.tmp rfl) vh_fi_81_0_0) rfl rfl rfl (Nat.le_of_ble_eq_true rfl) ?_
    refine AD.gpure (want := true) (.gt rfl) (fun hg12 => PureOp.loadPtr rfl (.gtmp rfl hg12) vh_pl_3 rfl rfl (Nat.le_of_ble_eq_true rfl) (Nat.le_of_ble_eq_true rfl)) rfl rfl rfl (Nat.le_of_ble_eq_true rfl) ?_
    refine AD.gpure (want := true) (.gt rfl) (fun hg13 => PureOp.intOp rfl (.gtmp rfl hg13) (.gtmp rfl hg13) rfl) rfl rfl rfl (Nat.le_of_ble_eq_true rfl) ?_
    refine AD.gpure (want := false) (.tf rfl) (fun hg14 => PureOp.pick rfl (.gtmp rfl hg14) (fun hp15 => .gtmp rfl (and_mk hg14 hp15)) (fun _ => .bool)) rfl rfl rfl (Nat.le_of_ble_eq_true rfl) ?_
    refine AD.pure (PureOp.pick rfl (.tmp rfl) (fun _ => .bool) (fun hp18 => .gtmp rfl (not_of hp18))) rfl rfl (Nat.le_of_ble_eq_true rfl) ?_
    refine AD.nil ?_
    refine AW.cond (.tmp rfl) (fun hb19 => ?_) (fun hb19 => ?_)
    · have _u := True.intro
      have hbd : saBad l k = true := (saBad_eq l k).trans hb19
      refine AW.seq ?_
      refine AW.region ?_
      refine ARun.pure (PureOp.assign rfl .bool) rfl rfl (Nat.le_of_ble_eq_true rfl) ?_
      refine ARun.nil ?_
      refine AW.ret (show ResL _ _ [.tmp 2] _ from resB rfl ?_)
      have hno : (List.range l.length).all (fun j => !saBad l j) = false := rng_no hkl (by rw [hbd]; rfl)
      unfold samplesB; rw [hno]; rfl
    · have _u := True.intro
      have hbd : saBad l k = false := (saBad_eq l k).trans hb19
      refine AW.skip ?_
      refine AW.region ?_
      refine ARun.pure (PureOp.add (c := ((k + 1 : Nat) : Int)) rfl (.tmp rfl) .int (by rw [wrap_id (by omega) (by omega)]; omega)) rfl rfl (Nat.le_of_ble_eq_true rfl) ?_
      refine ARun.pure (PureOp.move rfl (.tmp rfl)) rfl rfl (Nat.le_of_ble_eq_true rfl) ?_
      refine ARun.nil ?_
      exact ⟨k + 1, ⟨by omega, rng_succ (p := fun j => saBad l j = false) hks hbd⟩, by dsimp only; omega, ⟨⟨⟨_, rfl, rfl⟩, ⟨_, rfl, rfl⟩, ⟨_, rfl, rfl⟩, ⟨_, rfl, rfl⟩, trivial⟩, trivial⟩⟩
  · have _u := True.intro
    replace hb1 := of_decide_eq_false hb1
    have hkl : ¬ k < l.length := by omega
    have hall : (List.range l.length).all (fun j => !saBad l j) = true := rng_yes (fun j hj => by rw [hks j (by omega)]; rfl)
    refine AW.exit ?_
    refine AW.seq ?_
    refine AW.region ?_
    refine ARun.pure (PureOp.move rfl (.tmp rfl)) rfl rfl (Nat.le_of_ble_eq_true rfl) ?_
    refine ARun.pure (PureOp.lenLst rfl (.tmp rfl) vh_sl_33) rfl rfl (Nat.le_of_ble_eq_true rfl) ?_
    refine ARun.pure (PureOp.intOp rfl (.tmp rfl) .int rfl) rfl rfl (Nat.le_of_ble_eq_true rfl) ?_
    refine ARun.pure (PureOp.assign rfl (.tmp rfl)) rfl rfl (Nat.le_of_ble_eq_true rfl) ?_
    refine ARun.nil ?_
    refine AW.ret (show ResL _ _ [.tmp 2] _ from resB rfl ?_)
    unfold samplesB; rw [hall]; rfl

def rowBad (h : GHead) (k : Nat) : Bool :=
  cond (cond (cond (!(nameB ((h.rows.getD k (default : GRow)).name) false)) true (decide (((((h.rows.getD k (default : GRow)).samples).length : Nat) : Int) = 0))) true (!(samplesB ((h.rows.getD k (default : GRow)).samples)))) true (cond (decide (0 < (k : Int))) (!Op.bytesLess ((h.rows.getD (k - 1) (default : GRow)).name).toList ((h.rows.getD k (default : GRow)).name).toList) false)
def goodHead (h : GHead) : Bool := (List.range h.rows.length).all (fun j => !rowBad h j) && cond (decide ((h.rows.length : Int) ≤ 8)) (inB 0 1000 h.offset) false
theorem v_specGoodHead (h : GHead) : Fn Try.prog 10 [.agg [.lst 2 h.rows.length (fun i0 j0 => ([.str ((h.rows.getD i0 (default : GRow)).name), .lst 2 (((h.rows.getD i0 (default : GRow)).samples).length) (fun i1 j1 => ([.int .i64 ((((h.rows.getD i0 (default : GRow)).samples).getD i1 (default : GSample)).at_), .int .i64 ((((h.rows.getD i0 (default : GRow)).samples).getD i1 (default : GSample)).value)] : List AV).getD j1 (.con undef))] : List AV).getD j0 (.con undef)), .int .i64 h.offset]] (.one (.bool (goodHead h))) := by
  refine Fn.of_body (fn := Try.f10) Try.func10 rfl (Nat.le_of_ble_eq_true rfl) trivial ?_
  intro w0
  show AW _ 55 _ _ _ _
  refine AW.boundAL (t := 0) (j := 0) rfl rfl fun hx => ?_
  refine AW.seq ?_
  refine AW.region ?_
  refine ARun.box (id := 0) rfl (.tmp rfl) (SV.cells_of (by exact ⟨trivial, trivial, trivial⟩)) ⟨rfl, (by repeat first | exact trivial | refine ⟨by decide, by first | rfl | exact trivial | (intro i j; first | rfl | exact getD_no rfl | (dsimp only; split <;> first | rfl | exact getD_no rfl) | exact scl_no (by apply_assumption) _), ?_⟩)⟩ rfl rfl rfl (Nat.le_of_ble_eq_true rfl) ?_
  refine ARun.pure (PureOp.assign rfl .bool) rfl rfl (Nat.le_of_ble_eq_true rfl) ?_
  refine ARun.nil ?_
  refine AW.seq ?_
  refine AW.seq ?_
  refine AW.region ?_
  refine ARun.pure (PureOp.fieldPtr rfl (.tmp rfl) vh_fi_29_0_0) rfl rfl (Nat.le_of_ble_eq_true rfl) ?_
  refine ARun.pure (PureOp.loadPtr rfl (.tmp rfl) vh_pl_27 rfl rfl (Nat.le_of_ble_eq_true rfl) (Nat.le_of_ble_eq_true rfl)) rfl rfl (Nat.le_of_ble_eq_true rfl) ?_
  refine ARun.pure (PureOp.lenLst rfl (.tmp rfl) vh_sl_27) rfl rfl (Nat.le_of_ble_eq_true rfl) ?_
  refine ARun.pure (PureOp.move rfl .int) rfl rfl (Nat.le_of_ble_eq_true rfl) ?_
  refine ARun.nil ?_
  refine AW.block ?_
  refine AW.loop (ι := Nat) (fun k => ⟨[(1, .one (.ptr 0 2 0 0)), (6, .one (.lst 2 h.rows.length (fun i0 j0 => ([.str ((h.rows.getD i0 (default : GRow)).name), .lst 2 (((h.rows.getD i0 (default : GRow)).samples).length) (fun i1 j1 => ([.int .i64 ((((h.rows.getD i0 (default : GRow)).samples).getD i1 (default : GSample)).at_), .int .i64 ((((h.rows.getD i0 (default : GRow)).samples).getD i1 (default : GSample)).value)] : List AV).getD j1 (.con undef))] : List AV).getD j0 (.con undef)))), (7, .one (.int .i64 (h.rows.length : Int))), (8, .one (.int .i64 (k : Int)))], [(0, .cells [.lst 2 h.rows.length (fun i0 j0 => ([.str ((h.rows.getD i0 (default : GRow)).name), .lst 2 (((h.rows.getD i0 (default : GRow)).samples).length) (fun i1 j1 => ([.int .i64 ((((h.rows.getD i0 (default : GRow)).samples).getD i1 (default : GSample)).at_), .int .i64 ((((h.rows.getD i0 (default : GRow)).samples).getD i1 (default : GSample)).value)] : List AV).getD j1 (.con undef))] : List AV).getD j0 (.con undef)), .int .i64 h.offset])]⟩) (fun k => k ≤ h.rows.length ∧ ∀ j, j < k → rowBad h j = false) (fun k => h.rows.length - k) 0 ⟨Nat.zero_le _, fun j hj => absurd hj (by omega)⟩ ⟨⟨⟨_, rfl, rfl⟩, ⟨_, rfl, rfl⟩, ⟨_, rfl, rfl⟩, ⟨_, rfl, rfl⟩, trivial⟩, HeapLe.one rfl trivial⟩ ?_
  intro k hI
  obtain ⟨hk, hks⟩ := hI
  refine AW.seq ?_
  refine AW.region ?_
  refine ARun.pure (PureOp.intOp rfl (.tmp rfl) (.tmp rfl) rfl) rfl rfl (Nat.le_of_ble_eq_true rfl) ?_
  refine ARun.nil ?_
  refine AW.seq ?_
  refine AW.cond (.tmp rfl) (fun hb1 => ?_) (fun hb1 => ?_)
  · have _u := True.intro
    replace hb1 := of_decide_eq_true hb1
    have hkl : k < h.rows.length := by omega
    refine AW.skip ?_
    refine AW.seq ?_
    refine AW.block ?_
    refine AW.seq ?_
    refine AW.region ?_
    refine ARun.pure (PureOp.move rfl (.tmp rfl)) rfl rfl (Nat.le_of_ble_eq_true rfl) ?_
    refine ARun.pure (PureOp.indexLst (i := k) rfl (.tmp rfl) vh_el_27_2 (.tmp rfl) rfl (by omega)) rfl rfl (Nat.le_of_ble_eq_true rfl) ?_
    refine ARun.pure (PureOp.loadRefAgg rfl (.tmp rfl) vh_ag_67_2 (Nat.le_of_ble_eq_true rfl)) rfl rfl (Nat.le_of_ble_eq_true rfl) ?_
    refine ARun.alloc (id := 1) (l := [.str ByteArray.empty, .lst 2 0 (fun _ _ => .con undef)]) (z := (.agg #[.string ByteArray.empty, .slice none 0 0])) rfl (by kernel_rfl) (fun _ _ _ => ⟨_, _, rfl, ⟨rfl, by decide⟩, ⟨_, _, rfl, ⟨none, 0, rfl, Nat.le_refl _, by decide, fun _ => rfl, fun i hi => absurd hi (by omega)⟩, rfl⟩⟩) ⟨rfl, (by repeat first | exact trivial | refine ⟨by decide, by first | rfl | exact trivial | (intro i j; first | rfl | exact getD_no rfl | (dsimp only; split <;> first | rfl | exact getD_no rfl) | exact scl_no (by apply_assumption) _), ?_⟩)⟩ rfl rfl rfl (Nat.le_of_ble_eq_true rfl) ?_
    refine ARun.pure (PureOp.assign rfl (.tmp rfl)) rfl rfl (Nat.le_of_ble_eq_true rfl) ?_
    refine ARun.store rfl (.tmp rfl) (.tmp rfl) (SV.cells_of (by exact ⟨trivial, trivial, trivial⟩)) rfl (Nat.le_of_ble_eq_true rfl) vh_sz_67_2 rfl rfl ?_
    refine ARun.nil ?_
    refine AW.seq ?_
    refine AW.any (by kernel_rfl) (by kernel_rfl) ?_
    refine AD.pure (PureOp.fieldPtr rfl (.tmp rfl) vh_fi_67_0_0) rfl rfl (Nat.le_of_ble_eq_true rfl) ?_
    refine AD.pure (PureOp.loadPtr rfl (.tmp rfl) vh_pl_9 rfl rfl (Nat.le_of_ble_eq_true rfl) (Nat.le_of_ble_eq_true rfl)) rfl rfl (Nat.le_of_ble_eq_true rfl) ?_
    refine AD.pure (PureOp.call rfl (v_l3Name ((h.rows.getD k (default : GRow)).name) false) ⟨⟨_, (.tmp rfl), .str⟩, ⟨_, .bool, .bool⟩, trivial⟩ vh_ca_42 trivial) rfl rfl (Nat.le_of_ble_eq_true rfl) ?_
    refine AD.pure (PureOp.not rfl (.tmp rfl)) rfl rfl (Nat.le_of_ble_eq_true rfl) ?_
    refine AD.pure (PureOp.move rfl (.tmp rfl)) rfl rfl (Nat.le_of_ble_eq_true rfl) ?_
    refine AD.gpure (want := false) (.tf rfl) (fun hg2 => PureOp.fieldPtr rfl (.tmp rfl) vh_fi_67_1_1) rfl rfl rfl (Nat.le_of_ble_eq_true rfl) ?_
    refine AD.gpure (want := false) (.tf rfl) (fun hg3 => PureOp.loadPtr rfl (.gtmp rfl hg3) vh_pl_33 rfl rfl (Nat.le_of_ble_eq_true rfl) (Nat.le_of_ble_eq_true rfl)) rfl rfl rfl (Nat.le_of_ble_eq_true rfl) ?_
    refine AD.gpure (want := false) (.tf rfl) (fun hg4 => PureOp.lenLst rfl (.gtmp rfl hg4) vh_sl_33) rfl rfl rfl (Nat.le_of_ble_eq_true rfl) ?_
    refine AD.gpure (want := false) (.tf rfl) (fun hg5 => PureOp.intOp rfl (.gtmp rfl hg5) .int rfl) rfl rfl rfl (Nat.le_of_ble_eq_true rfl) ?_
    refine AD.pure (PureOp.pick rfl (.tmp rfl) (fun _ => .bool) (fun hp7 => .gtmp rfl (not_of hp7))) rfl rfl (Nat.le_of_ble_eq_true rfl) ?_
    refine AD.pure (PureOp.move rfl (.tmp rfl)) rfl rfl (Nat.le_of_ble_eq_true rfl) ?_
    refine AD.gpure (want := false) (.tf rfl) (fun hg8 => PureOp.fieldPtr rfl (.tmp rfl) vh_fi_67_1_1) rfl rfl rfl (Nat.le_of_ble_eq_true rfl) ?_
    refine AD.gpure (want := false) (.tf rfl) (fun hg9 => PureOp.loadPtr rfl (.gtmp rfl hg9) vh_pl_33 rfl rfl (Nat.le_of_ble_eq_true rfl) (Nat.le_of_ble_eq_true rfl)) rfl rfl rfl (Nat.le_of_ble_eq_true rfl) ?_
    refine AD.gpure (want := false) (.tf rfl) (fun hg10 => PureOp.call rfl (v_GoodSamples ((h.rows.getD k (default : GRow)).samples)) ⟨⟨_, (.gtmp rfl hg10), .lst⟩, trivial⟩ vh_ca_43 trivial) rfl rfl rfl (Nat.le_of_ble_eq_true rfl) ?_
    refine AD.gpure (want := false) (.tf rfl) (fun hg11 => PureOp.not rfl (.gtmp rfl hg11)) rfl rfl rfl (Nat.le_of_ble_eq_true rfl) ?_
    refine AD.pure (PureOp.pick rfl (.tmp rfl) (fun _ => .bool) (fun hp13 => .gtmp rfl (not_of hp13))) rfl rfl (Nat.le_of_ble_eq_true rfl) ?_
    refine AD.pure (PureOp.move rfl (.tmp rfl)) rfl rfl (Nat.le_of_ble_eq_true rfl) ?_
    refine AD.gpure (want := false) (.tf rfl) (fun hg14 => PureOp.move rfl (.tmp rfl)) rfl rfl rfl (Nat.le_of_ble_eq_true rfl) ?_
    refine AD.gpure (want := false) (.tf rfl) (fun hg15 => PureOp.intOp rfl (.gtmp rfl hg15) .int rfl) rfl rfl rfl (Nat.le_of_ble_eq_true rfl) ?_
    refine AD.gpure (want := false) (.tf rfl) (fun hg16 => PureOp.move rfl (.gtmp rfl hg16)) rfl rfl rfl (Nat.le_of_ble_eq_true rfl) ?_
    refine AD.gpure (want := true) (.gt rfl) (fun hg17 => PureOp.fieldPtr rfl (.tmp rfl) vh_fi_29_0_0) rfl rfl rfl (Nat.le_of_ble_eq_true rfl) ?_
    refine AD.gpure (want := true) (.gt rfl) (fun hg18 => PureOp.loadPtr rfl (.gtmp rfl hg18) vh_pl_27 rfl rfl (Nat.le_of_ble_eq_true rfl) (Nat.le_of_ble_eq_true rfl)) rfl rfl rfl (Nat.le_of_ble_eq_true rfl) ?_
    refine AD.gpure (want := true) (.gt rfl) (fun hg19 => PureOp.move rfl (.tmp rfl)) rfl rfl rfl (Nat.le_of_ble_eq_true rfl) ?_
    refine AD.gpure (want := true) (.gt rfl) (fun hg20 => PureOp.sub (c := (((k - 1) : Nat) : Int)) rfl (.gtmp rfl hg20) .int (by have q := hg20; simp only [Bool.cond_true_left, Bool.cond_false_right, Bool.not_eq_true', Bool.or_eq_false_iff, Bool.not_eq_false', Bool.and_eq_true, Bool.not_not, decide_eq_true_eq, decide_eq_false_iff_not, inB] at q; rw [wrap_id (by omega) (by omega)]; omega)) rfl rfl rfl (Nat.le_of_ble_eq_true rfl) ?_
    refine AD.gpure (want := true) (.gt rfl) (fun hg21 => PureOp.indexLst (i := (k - 1)) rfl (.gtmp rfl hg21) vh_el_27_2 (.gtmp rfl hg21) rfl (by have q := hg21; simp only [Bool.cond_true_left, Bool.cond_false_right, Bool.not_eq_true', Bool.or_eq_false_iff, Bool.not_eq_false', Bool.and_eq_true, Bool.not_not, decide_eq_true_eq, decide_eq_false_iff_not, inB] at q; omega)) rfl rfl rfl (Nat.le_of_ble_eq_true rfl) ?_
    refine AD.gpure (want := true) (.gt rfl) (fun hg22 => PureOp.fieldRef rfl (.gtmp rfl hg22) vh_fi_67_0_0 (Nat.le_of_ble_eq_true rfl)) rfl rfl rfl (Nat.le_of_ble_eq_true rfl) ?_
    refine AD.gpure (want := true) (.gt rfl) (fun hg23 => PureOp.loadRef rfl (.gtmp rfl hg23) vh_pl_9 (Nat.le_of_ble_eq_true rfl)) rfl rfl rfl (Nat.le_of_ble_eq_true rfl) ?_
    refine AD.gpure (want := true) (.gt rfl) (fun hg24 => PureOp.fieldPtr rfl (.tmp rfl) vh_fi_67_0_0) rfl rfl rfl (Nat.le_of_ble_eq_true rfl) ?_
    refine AD.gpure (want := true) (.gt rfl) (fun hg25 => PureOp.loadPtr rfl (.gtmp rfl hg25) vh_pl_9 rfl rfl (Nat.le_of_ble_eq_true rfl) (Nat.le_of_ble_eq_true rfl)) rfl rfl rfl (Nat.le_of_ble_eq_true rfl) ?_
    refine AD.gpure (want := true) (.gt rfl) (fun hg26 => PureOp.strOp rfl (.gtmp rfl hg26) (.gtmp rfl hg26) rfl) rfl rfl rfl (Nat.le_of_ble_eq_true rfl) ?_
    refine AD.gpure (want := false) (.tf rfl) (fun hg27 => PureOp.pick rfl (.gtmp rfl hg27) (fun hp28 => .gtmp rfl (and_mk hg27 hp28)) (fun _ => .bool)) rfl rfl rfl (Nat.le_of_ble_eq_true rfl) ?_
    refine AD.pure (PureOp.pick rfl (.tmp rfl) (fun _ => .bool) (fun hp31 => .gtmp rfl (not_of hp31))) rfl rfl (Nat.le_of_ble_eq_true rfl) ?_
    refine AD.nil ?_
    refine AW.cond (.tmp rfl) (fun hb32 => ?_) (fun hb32 => ?_)
    · have _u := True.intro
      have hbd : rowBad h k = true := hb32
      refine AW.seq ?_
      refine AW.region ?_
      refine ARun.pure (PureOp.assign rfl .bool) rfl rfl (Nat.le_of_ble_eq_true rfl) ?_
      refine ARun.nil ?_
      refine AW.ret (show ResL _ _ [.tmp 2] _ from resB rfl ?_)
      have hno : (List.range h.rows.length).all (fun j => !rowBad h j) = false := rng_no hkl (by rw [hbd]; rfl)
      unfold goodHead; rw [hno]; rfl
    · have _u := True.intro
      have hbd : rowBad h k = false := hb32
      refine AW.skip ?_
      refine AW.region ?_
      refine ARun.pure (PureOp.add (c := ((k + 1 : Nat) : Int)) rfl (.tmp rfl) .int (by rw [wrap_id (by omega) (by omega)]; omega)) rfl rfl (Nat.le_of_ble_eq_true rfl) ?_
      refine ARun.pure (PureOp.move rfl (.tmp rfl)) rfl rfl (Nat.le_of_ble_eq_true rfl) ?_
      refine ARun.nil ?_
      exact ⟨k + 1, ⟨by omega, rng_succ (p := fun j => rowBad h j = false) hks hbd⟩, by dsimp only; omega, ⟨⟨⟨_, rfl, rfl⟩, ⟨_, rfl, rfl⟩, ⟨_, rfl, rfl⟩, ⟨_, rfl, rfl⟩, trivial⟩, HeapLe.one rfl trivial⟩⟩
  · have _u := True.intro
    replace hb1 := of_decide_eq_false hb1
    have hkl : ¬ k < h.rows.length := by omega
    have hall : (List.range h.rows.length).all (fun j => !rowBad h j) = true := rng_yes (fun j hj => by rw [hks j (by omega)]; rfl)
    refine AW.exit ?_
    refine AW.seq ?_
    refine AW.region ?_
    refine ARun.pure (PureOp.fieldPtr rfl (.tmp rfl) vh_fi_29_0_0) rfl rfl (Nat.le_of_ble_eq_true rfl) ?_
    refine ARun.pure (PureOp.loadPtr rfl (.tmp rfl) vh_pl_27 rfl rfl (Nat.le_of_ble_eq_true rfl) (Nat.le_of_ble_eq_true rfl)) rfl rfl (Nat.le_of_ble_eq_true rfl) ?_
    refine ARun.pure (PureOp.lenLst rfl (.tmp rfl) vh_sl_27) rfl rfl (Nat.le_of_ble_eq_true rfl) ?_
    refine ARun.pure (PureOp.intOp rfl (.tmp rfl) .int rfl) rfl rfl (Nat.le_of_ble_eq_true rfl) ?_
    refine ARun.pure (PureOp.move rfl (.tmp rfl)) rfl rfl (Nat.le_of_ble_eq_true rfl) ?_
    refine ARun.gpure (want := true) (.tt rfl) (fun hg33 => PureOp.fieldPtr rfl (.tmp rfl) vh_fi_29_1_1) rfl rfl (Nat.le_of_ble_eq_true rfl) rfl (Nat.le_of_ble_eq_true rfl) ?_
    refine ARun.gpure (want := true) (.tt rfl) (fun hg34 => PureOp.loadPtr rfl (.gtmp rfl hg34) vh_pl_3 rfl rfl (Nat.le_of_ble_eq_true rfl) (Nat.le_of_ble_eq_true rfl)) rfl rfl (Nat.le_of_ble_eq_true rfl) rfl (Nat.le_of_ble_eq_true rfl) ?_
    refine ARun.gpure (want := true) (.tt rfl) (fun hg35 => PureOp.call rfl (v_l1In h.offset 0 1000) ⟨⟨_, (.gtmp rfl hg35), .int⟩, ⟨_, .int, .int⟩, ⟨_, .int, .int⟩, trivial⟩ vh_ca_44 trivial) rfl rfl (Nat.le_of_ble_eq_true rfl) rfl (Nat.le_of_ble_eq_true rfl) ?_
    refine ARun.pure (PureOp.pick rfl (.tmp rfl) (fun hp36 => .gtmp rfl hp36) (fun _ => .bool)) rfl rfl (Nat.le_of_ble_eq_true rfl) ?_
    refine ARun.pure (PureOp.assign rfl (.tmp rfl)) rfl rfl (Nat.le_of_ble_eq_true rfl) ?_
    refine ARun.nil ?_
    refine AW.ret (show ResL _ _ [.tmp 2] _ from resB rfl ?_)
    unfold goodHead; rw [hall]; rfl

def rowBadI (h : GHead) (k : Nat) : Bool :=
  cond (cond (cond (!(nameB ((h.rows.getD k (default : GRow)).name) false)) true (cond (decide (0 < (k : Int))) (!Op.bytesLess ((h.rows.getD (k - 1) (default : GRow)).name).toList ((h.rows.getD k (default : GRow)).name).toList) false)) true (decide (((((h.rows.getD k (default : GRow)).samples).length : Nat) : Int) = 0))) true (!(samplesB ((h.rows.getD k (default : GRow)).samples)))
theorem rowBad_eq (h : GHead) (k : Nat) : rowBad h k = rowBadI h k := by
  unfold rowBad rowBadI
  generalize nameB _ false = a1
  generalize samplesB _ = a2
  generalize decide ((_ : Int) = 0) = a3
  generalize cond (decide ((0 : Int) < (k : Int))) _ false = a4
  revert a1 a2 a3 a4; decide
theorem v_isHead (h : GHead) : Fn Try.prog 46 [.agg [.lst 2 h.rows.length (fun i0 j0 => ([.str ((h.rows.getD i0 (default : GRow)).name), .lst 2 (((h.rows.getD i0 (default : GRow)).samples).length) (fun i1 j1 => ([.int .i64 ((((h.rows.getD i0 (default : GRow)).samples).getD i1 (default : GSample)).at_), .int .i64 ((((h.rows.getD i0 (default : GRow)).samples).getD i1 (default : GSample)).value)] : List AV).getD j1 (.con undef))] : List AV).getD j0 (.con undef)), .int .i64 h.offset]] (.one (.bool (goodHead h))) := by
  refine Fn.of_body (fn := Try.f46) Try.func46 rfl (Nat.le_of_ble_eq_true rfl) trivial ?_
  intro w0
  show AW _ 55 _ _ _ _
  refine AW.boundAL (t := 0) (j := 0) rfl rfl fun hx => ?_
  refine AW.seq ?_
  refine AW.region ?_
  refine ARun.box (id := 0) rfl (.tmp rfl) (SV.cells_of (by exact ⟨trivial, trivial, trivial⟩)) ⟨rfl, (by repeat first | exact trivial | refine ⟨by decide, by first | rfl | exact trivial | (intro i j; first | rfl | exact getD_no rfl | (dsimp only; split <;> first | rfl | exact getD_no rfl) | exact scl_no (by apply_assumption) _), ?_⟩)⟩ rfl rfl rfl (Nat.le_of_ble_eq_true rfl) ?_
  refine ARun.pure (PureOp.assign rfl .bool) rfl rfl (Nat.le_of_ble_eq_true rfl) ?_
  refine ARun.nil ?_
  refine AW.seq ?_
  refine AW.seq ?_
  refine AW.region ?_
  refine ARun.pure (PureOp.fieldPtr rfl (.tmp rfl) vh_fi_29_0_0) rfl rfl (Nat.le_of_ble_eq_true rfl) ?_
  refine ARun.pure (PureOp.loadPtr rfl (.tmp rfl) vh_pl_27 rfl rfl (Nat.le_of_ble_eq_true rfl) (Nat.le_of_ble_eq_true rfl)) rfl rfl (Nat.le_of_ble_eq_true rfl) ?_
  refine ARun.pure (PureOp.lenLst rfl (.tmp rfl) vh_sl_27) rfl rfl (Nat.le_of_ble_eq_true rfl) ?_
  refine ARun.pure (PureOp.move rfl .int) rfl rfl (Nat.le_of_ble_eq_true rfl) ?_
  refine ARun.nil ?_
  refine AW.block ?_
  refine AW.loop (ι := Nat) (fun k => ⟨[(1, .one (.ptr 0 2 0 0)), (6, .one (.lst 2 h.rows.length (fun i0 j0 => ([.str ((h.rows.getD i0 (default : GRow)).name), .lst 2 (((h.rows.getD i0 (default : GRow)).samples).length) (fun i1 j1 => ([.int .i64 ((((h.rows.getD i0 (default : GRow)).samples).getD i1 (default : GSample)).at_), .int .i64 ((((h.rows.getD i0 (default : GRow)).samples).getD i1 (default : GSample)).value)] : List AV).getD j1 (.con undef))] : List AV).getD j0 (.con undef)))), (7, .one (.int .i64 (h.rows.length : Int))), (8, .one (.int .i64 (k : Int)))], [(0, .cells [.lst 2 h.rows.length (fun i0 j0 => ([.str ((h.rows.getD i0 (default : GRow)).name), .lst 2 (((h.rows.getD i0 (default : GRow)).samples).length) (fun i1 j1 => ([.int .i64 ((((h.rows.getD i0 (default : GRow)).samples).getD i1 (default : GSample)).at_), .int .i64 ((((h.rows.getD i0 (default : GRow)).samples).getD i1 (default : GSample)).value)] : List AV).getD j1 (.con undef))] : List AV).getD j0 (.con undef)), .int .i64 h.offset])]⟩) (fun k => k ≤ h.rows.length ∧ ∀ j, j < k → rowBad h j = false) (fun k => h.rows.length - k) 0 ⟨Nat.zero_le _, fun j hj => absurd hj (by omega)⟩ ⟨⟨⟨_, rfl, rfl⟩, ⟨_, rfl, rfl⟩, ⟨_, rfl, rfl⟩, ⟨_, rfl, rfl⟩, trivial⟩, HeapLe.one rfl trivial⟩ ?_
  intro k hI
  obtain ⟨hk, hks⟩ := hI
  refine AW.seq ?_
  refine AW.region ?_
  refine ARun.pure (PureOp.intOp rfl (.tmp rfl) (.tmp rfl) rfl) rfl rfl (Nat.le_of_ble_eq_true rfl) ?_
  refine ARun.nil ?_
  refine AW.seq ?_
  refine AW.cond (.tmp rfl) (fun hb1 => ?_) (fun hb1 => ?_)
  · have _u := True.intro
    replace hb1 := of_decide_eq_true hb1
    have hkl : k < h.rows.length := by omega
    refine AW.skip ?_
    refine AW.seq ?_
    refine AW.block ?_
    refine AW.seq ?_
    refine AW.region ?_
    refine ARun.pure (PureOp.move rfl (.tmp rfl)) rfl rfl (Nat.le_of_ble_eq_true rfl) ?_
    refine ARun.pure (PureOp.indexLst (i := k) rfl (.tmp rfl) vh_el_27_2 (.tmp rfl) rfl (by omega)) rfl rfl (Nat.le_of_ble_eq_true rfl) ?_
    refine ARun.pure (PureOp.loadRefAgg rfl (.tmp rfl) vh_ag_67_2 (Nat.le_of_ble_eq_true rfl)) rfl rfl (Nat.le_of_ble_eq_true rfl) ?_
    refine ARun.alloc (id := 1) (l := [.str ByteArray.empty, .lst 2 0 (fun _ _ => .con undef)]) (z := (.agg #[.string ByteArray.empty, .slice none 0 0])) rfl (by kernel_rfl) (fun _ _ _ => ⟨_, _, rfl, ⟨rfl, by decide⟩, ⟨_, _, rfl, ⟨none, 0, rfl, Nat.le_refl _, by decide, fun _ => rfl, fun i hi => absurd hi (by omega)⟩, rfl⟩⟩) ⟨rfl, (by repeat first | exact trivial | refine ⟨by decide, by first | rfl | exact trivial | (intro i j; first | rfl | exact getD_no rfl | (dsimp only; split <;> first | rfl | exact getD_no rfl) | exact scl_no (by apply_assumption) _), ?_⟩)⟩ rfl rfl rfl (Nat.le_of_ble_eq_true rfl) ?_
    refine ARun.pure (PureOp.assign rfl (.tmp rfl)) rfl rfl (Nat.le_of_ble_eq_true rfl) ?_
    refine ARun.store rfl (.tmp rfl) (.tmp rfl) (SV.cells_of (by exact ⟨trivial, trivial, trivial⟩)) rfl (Nat.le_of_ble_eq_true rfl) vh_sz_67_2 rfl rfl ?_
    refine ARun.nil ?_
    refine AW.seq ?_
    refine AW.any (by kernel_rfl) (by kernel_rfl) ?_
    refine AD.pure (PureOp.fieldPtr rfl (.tmp rfl) vh_fi_67_0_0) rfl rfl (Nat.le_of_ble_eq_true rfl) ?_
    refine AD.pure (PureOp.loadPtr rfl (.tmp rfl) vh_pl_9 rfl rfl (Nat.le_of_ble_eq_true rfl) (Nat.le_of_ble_eq_true rfl)) rfl rfl (Nat.le_of_ble_eq_true rfl) ?_
    refine AD.pure (PureOp.call rfl (v_isWord ((h.rows.getD k (default : GRow)).name) false) ⟨⟨_, (.tmp rfl), .str⟩, ⟨_, .bool, .bool⟩, trivial⟩ vh_ca_70 trivial) rfl rfl (Nat.le_of_ble_eq_true rfl) ?_
    refine AD.pure (PureOp.not rfl (.tmp rfl)) rfl rfl (Nat.le_of_ble_eq_true rfl) ?_
    refine AD.pure (PureOp.move rfl (.tmp rfl)) rfl rfl (Nat.le_of_ble_eq_true rfl) ?_
    refine AD.gpure (want := false) (.tf rfl) (fun hg2 => PureOp.move rfl (.tmp rfl)) rfl rfl rfl (Nat.le_of_ble_eq_true rfl) ?_
    refine AD.gpure (want := false) (.tf rfl) (fun hg3 => PureOp.intOp rfl (.gtmp rfl hg3) .int rfl) rfl rfl rfl (Nat.le_of_ble_eq_true rfl) ?_
    refine AD.gpure (want := false) (.tf rfl) (fun hg4 => PureOp.move rfl (.gtmp rfl hg4)) rfl rfl rfl (Nat.le_of_ble_eq_true rfl) ?_
    refine AD.gpure (want := true) (.gt rfl) (fun hg5 => PureOp.fieldPtr rfl (.tmp rfl) vh_fi_29_0_0) rfl rfl rfl (Nat.le_of_ble_eq_true rfl) ?_
    refine AD.gpure (want := true) (.gt rfl) (fun hg6 => PureOp.loadPtr rfl (.gtmp rfl hg6) vh_pl_27 rfl rfl (Nat.le_of_ble_eq_true rfl) (Nat.le_of_ble_eq_true rfl)) rfl rfl rfl (Nat.le_of_ble_eq_true rfl) ?_
    refine AD.gpure (want := true) (.gt rfl) (fun hg7 => PureOp.move rfl (.tmp rfl)) rfl rfl rfl (Nat.le_of_ble_eq_true rfl) ?_
    refine AD.gpure (want := true) (.gt rfl) (fun hg8 => PureOp.sub (c := (((k - 1) : Nat) : Int)) rfl (.gtmp rfl hg8) .int (by have q := hg8; simp only [Bool.cond_true_left, Bool.cond_false_right, Bool.not_eq_true', Bool.or_eq_false_iff, Bool.not_eq_false', Bool.and_eq_true, Bool.not_not, decide_eq_true_eq, decide_eq_false_iff_not, inB] at q; rw [wrap_id (by omega) (by omega)]; omega)) rfl rfl rfl (Nat.le_of_ble_eq_true rfl) ?_
    refine AD.gpure (want := true) (.gt rfl) (fun hg9 => PureOp.indexLst (i := (k - 1)) rfl (.gtmp rfl hg9) vh_el_27_2 (.gtmp rfl hg9) rfl (by have q := hg9; simp only [Bool.cond_true_left, Bool.cond_false_right, Bool.not_eq_true', Bool.or_eq_false_iff, Bool.not_eq_false', Bool.and_eq_true, Bool.not_not, decide_eq_true_eq, decide_eq_false_iff_not, inB] at q; omega)) rfl rfl rfl (Nat.le_of_ble_eq_true rfl) ?_
    refine AD.gpure (want := true) (.gt rfl) (fun hg10 => PureOp.fieldRef rfl (.gtmp rfl hg10) vh_fi_67_0_0 (Nat.le_of_ble_eq_true rfl)) rfl rfl rfl (Nat.le_of_ble_eq_true rfl) ?_
    refine AD.gpure (want := true) (.gt rfl) (fun hg11 => PureOp.loadRef rfl (.gtmp rfl hg11) vh_pl_9 (Nat.le_of_ble_eq_true rfl)) rfl rfl rfl (Nat.le_of_ble_eq_true rfl) ?_
    refine AD.gpure (want := true) (.gt rfl) (fun hg12 => PureOp.fieldPtr rfl (.tmp rfl) vh_fi_67_0_0) rfl rfl rfl (Nat.le_of_ble_eq_true rfl) ?_
    refine AD.gpure (want := true) (.gt rfl) (fun hg13 => PureOp.loadPtr rfl (.gtmp rfl hg13) vh_pl_9 rfl rfl (Nat.le_of_ble_eq_true rfl) (Nat.le_of_ble_eq_true rfl)) rfl rfl rfl (Nat.le_of_ble_eq_true rfl) ?_
    refine AD.gpure (want := true) (.gt rfl) (fun hg14 => PureOp.strOp rfl (.gtmp rfl hg14) (.gtmp rfl hg14) rfl) rfl rfl rfl (Nat.le_of_ble_eq_true rfl) ?_
    refine AD.gpure (want := false) (.tf rfl) (fun hg15 => PureOp.pick rfl (.gtmp rfl hg15) (fun hp16 => .gtmp rfl (and_mk hg15 hp16)) (fun _ => .bool)) rfl rfl rfl (Nat.le_of_ble_eq_true rfl) ?_
    refine AD.pure (PureOp.pick rfl (.tmp rfl) (fun _ => .bool) (fun hp19 => .gtmp rfl (not_of hp19))) rfl rfl (Nat.le_of_ble_eq_true rfl) ?_
    refine AD.pure (PureOp.move rfl (.tmp rfl)) rfl rfl (Nat.le_of_ble_eq_true rfl) ?_
    refine AD.gpure (want := false) (.tf rfl) (fun hg20 => PureOp.fieldPtr rfl (.tmp rfl) vh_fi_67_1_1) rfl rfl rfl (Nat.le_of_ble_eq_true rfl) ?_
    refine AD.gpure (want := false) (.tf rfl) (fun hg21 => PureOp.loadPtr rfl (.gtmp rfl hg21) vh_pl_33 rfl rfl (Nat.le_of_ble_eq_true rfl) (Nat.le_of_ble_eq_true rfl)) rfl rfl rfl (Nat.le_of_ble_eq_true rfl) ?_
    refine AD.gpure (want := false) (.tf rfl) (fun hg22 => PureOp.lenLst rfl (.gtmp rfl hg22) vh_sl_33) rfl rfl rfl (Nat.le_of_ble_eq_true rfl) ?_
    refine AD.gpure (want := false) (.tf rfl) (fun hg23 => PureOp.intOp rfl (.gtmp rfl hg23) .int rfl) rfl rfl rfl (Nat.le_of_ble_eq_true rfl) ?_
    refine AD.pure (PureOp.pick rfl (.tmp rfl) (fun _ => .bool) (fun hp25 => .gtmp rfl (not_of hp25))) rfl rfl (Nat.le_of_ble_eq_true rfl) ?_
    refine AD.pure (PureOp.move rfl (.tmp rfl)) rfl rfl (Nat.le_of_ble_eq_true rfl) ?_
    refine AD.gpure (want := false) (.tf rfl) (fun hg26 => PureOp.fieldPtr rfl (.tmp rfl) vh_fi_67_1_1) rfl rfl rfl (Nat.le_of_ble_eq_true rfl) ?_
    refine AD.gpure (want := false) (.tf rfl) (fun hg27 => PureOp.loadPtr rfl (.gtmp rfl hg27) vh_pl_33 rfl rfl (Nat.le_of_ble_eq_true rfl) (Nat.le_of_ble_eq_true rfl)) rfl rfl rfl (Nat.le_of_ble_eq_true rfl) ?_
    refine AD.gpure (want := false) (.tf rfl) (fun hg28 => PureOp.call rfl (v_areSamples ((h.rows.getD k (default : GRow)).samples)) ⟨⟨_, (.gtmp rfl hg28), .lst⟩, trivial⟩ vh_ca_71 trivial) rfl rfl rfl (Nat.le_of_ble_eq_true rfl) ?_
    refine AD.gpure (want := false) (.tf rfl) (fun hg29 => PureOp.not rfl (.gtmp rfl hg29)) rfl rfl rfl (Nat.le_of_ble_eq_true rfl) ?_
    refine AD.pure (PureOp.pick rfl (.tmp rfl) (fun _ => .bool) (fun hp31 => .gtmp rfl (not_of hp31))) rfl rfl (Nat.le_of_ble_eq_true rfl) ?_
    refine AD.nil ?_
    refine AW.cond (.tmp rfl) (fun hb32 => ?_) (fun hb32 => ?_)
    · have _u := True.intro
      have hbd : rowBad h k = true := (rowBad_eq h k).trans hb32
      refine AW.seq ?_
      refine AW.region ?_
      refine ARun.pure (PureOp.assign rfl .bool) rfl rfl (Nat.le_of_ble_eq_true rfl) ?_
      refine ARun.nil ?_
      refine AW.ret (show ResL _ _ [.tmp 2] _ from resB rfl ?_)
      have hno : (List.range h.rows.length).all (fun j => !rowBad h j) = false := rng_no hkl (by rw [hbd]; rfl)
      unfold goodHead; rw [hno]; rfl
    · have _u := True.intro
      have hbd : rowBad h k = false := (rowBad_eq h k).trans hb32
      refine AW.skip ?_
      refine AW.region ?_
      refine ARun.pure (PureOp.add (c := ((k + 1 : Nat) : Int)) rfl (.tmp rfl) .int (by rw [wrap_id (by omega) (by omega)]; omega)) rfl rfl (Nat.le_of_ble_eq_true rfl) ?_
      refine ARun.pure (PureOp.move rfl (.tmp rfl)) rfl rfl (Nat.le_of_ble_eq_true rfl) ?_
      refine ARun.nil ?_
      exact ⟨k + 1, ⟨by omega, rng_succ (p := fun j => rowBad h j = false) hks hbd⟩, by dsimp only; omega, ⟨⟨⟨_, rfl, rfl⟩, ⟨_, rfl, rfl⟩, ⟨_, rfl, rfl⟩, ⟨_, rfl, rfl⟩, trivial⟩, HeapLe.one rfl trivial⟩⟩
  · have _u := True.intro
    replace hb1 := of_decide_eq_false hb1
    have hkl : ¬ k < h.rows.length := by omega
    have hall : (List.range h.rows.length).all (fun j => !rowBad h j) = true := rng_yes (fun j hj => by rw [hks j (by omega)]; rfl)
    refine AW.exit ?_
    refine AW.seq ?_
    refine AW.region ?_
    refine ARun.pure (PureOp.fieldPtr rfl (.tmp rfl) vh_fi_29_0_0) rfl rfl (Nat.le_of_ble_eq_true rfl) ?_
    refine ARun.pure (PureOp.loadPtr rfl (.tmp rfl) vh_pl_27 rfl rfl (Nat.le_of_ble_eq_true rfl) (Nat.le_of_ble_eq_true rfl)) rfl rfl (Nat.le_of_ble_eq_true rfl) ?_
    refine ARun.pure (PureOp.lenLst rfl (.tmp rfl) vh_sl_27) rfl rfl (Nat.le_of_ble_eq_true rfl) ?_
    refine ARun.pure (PureOp.intOp rfl (.tmp rfl) .int rfl) rfl rfl (Nat.le_of_ble_eq_true rfl) ?_
    refine ARun.pure (PureOp.move rfl (.tmp rfl)) rfl rfl (Nat.le_of_ble_eq_true rfl) ?_
    refine ARun.gpure (want := true) (.tt rfl) (fun hg33 => PureOp.fieldPtr rfl (.tmp rfl) vh_fi_29_1_1) rfl rfl (Nat.le_of_ble_eq_true rfl) rfl (Nat.le_of_ble_eq_true rfl) ?_
    refine ARun.gpure (want := true) (.tt rfl) (fun hg34 => PureOp.loadPtr rfl (.gtmp rfl hg34) vh_pl_3 rfl rfl (Nat.le_of_ble_eq_true rfl) (Nat.le_of_ble_eq_true rfl)) rfl rfl (Nat.le_of_ble_eq_true rfl) rfl (Nat.le_of_ble_eq_true rfl) ?_
    refine ARun.gpure (want := true) (.tt rfl) (fun hg35 => PureOp.call rfl (v_within h.offset 0 1000) ⟨⟨_, (.gtmp rfl hg35), .int⟩, ⟨_, .int, .int⟩, ⟨_, .int, .int⟩, trivial⟩ vh_ca_72 trivial) rfl rfl (Nat.le_of_ble_eq_true rfl) rfl (Nat.le_of_ble_eq_true rfl) ?_
    refine ARun.pure (PureOp.pick rfl (.tmp rfl) (fun hp36 => .gtmp rfl hp36) (fun _ => .bool)) rfl rfl (Nat.le_of_ble_eq_true rfl) ?_
    refine ARun.pure (PureOp.assign rfl (.tmp rfl)) rfl rfl (Nat.le_of_ble_eq_true rfl) ?_
    refine ARun.nil ?_
    refine AW.ret (show ResL _ _ [.tmp 2] _ from resB rfl ?_)
    unfold goodHead; rw [hall]; rfl

theorem v_implGoodHead (h : GHead) : Fn Try.prog 12 [.agg [.lst 2 h.rows.length (fun i0 j0 => ([.str ((h.rows.getD i0 (default : GRow)).name), .lst 2 (((h.rows.getD i0 (default : GRow)).samples).length) (fun i1 j1 => ([.int .i64 ((((h.rows.getD i0 (default : GRow)).samples).getD i1 (default : GSample)).at_), .int .i64 ((((h.rows.getD i0 (default : GRow)).samples).getD i1 (default : GSample)).value)] : List AV).getD j1 (.con undef))] : List AV).getD j0 (.con undef)), .int .i64 h.offset]] (.one (.bool (goodHead h))) := by
  refine Fn.of_body (fn := Try.f12) Try.func12 rfl (Nat.le_of_ble_eq_true rfl) trivial ?_
  intro w0
  show AW _ 5 _ _ _ _
  refine AW.seq ?_
  refine AW.region ?_
  refine ARun.box (id := 0) rfl (.tmp rfl) (SV.cells_of (by exact ⟨trivial, trivial, trivial⟩)) ⟨rfl, (by repeat first | exact trivial | refine ⟨by decide, by first | rfl | exact trivial | (intro i j; first | rfl | exact getD_no rfl | (dsimp only; split <;> first | rfl | exact getD_no rfl) | exact scl_no (by apply_assumption) _), ?_⟩)⟩ rfl rfl rfl (Nat.le_of_ble_eq_true rfl) ?_
  refine ARun.pure (PureOp.assign rfl .bool) rfl rfl (Nat.le_of_ble_eq_true rfl) ?_
  refine ARun.nil ?_
  refine AW.seq ?_
  refine AW.region ?_
  refine ARun.pure (PureOp.loadPtrAgg rfl (.tmp rfl) vh_ag_29_2 rfl rfl (Nat.le_of_ble_eq_true rfl) (Nat.le_of_ble_eq_true rfl)) rfl rfl (Nat.le_of_ble_eq_true rfl) ?_
  refine ARun.pure (PureOp.call rfl (v_isHead h) ⟨⟨_, (.tmp rfl), ⟨.lst, .int, trivial⟩⟩, trivial⟩ vh_ca_46 trivial) rfl rfl (Nat.le_of_ble_eq_true rfl) ?_
  refine ARun.pure (PureOp.assign rfl (.tmp rfl)) rfl rfl (Nat.le_of_ble_eq_true rfl) ?_
  refine ARun.nil ?_
  refine AW.ret (show ResL _ _ [.tmp 2] _ from resB rfl ?_)
  rfl
end Go.Proofs.Ytmfkmifkkplidaa


/-
  strings.Compare and slices.BinarySearchFunc: where a row stands.
-/
namespace Go.Proofs.Ytmfkmifkkplidaa
open Go.Proofs Go.Shelf
open Go.ChangeShapes Go.WideShapes Go.ChangeAt Go.RowKit Go.BigFrame Go.Deep
set_option linter.unusedVariables false
set_option linter.unusedSimpArgs false
theorem vrc_ag_67_2 : aggB Try.prog 67 2 = true := by kernel_rfl
theorem vrc_ca_75 : callB Try.prog 75 = true := by kernel_rfl
theorem vrc_ca_76 : callB Try.prog 76 = true := by kernel_rfl
theorem vrc_cv_120_3_.i64 : convB Try.prog 120 3 .i64 = true := by kernel_rfl
theorem vrc_cv_3_120_.u64 : convB Try.prog 3 120 .u64 = true := by kernel_rfl
theorem vrc_el_27_2 : elemB Try.prog 27 2 = true := by kernel_rfl
theorem vrc_fi_67_0_0 : fieldB Try.prog 67 0 0 = true := by kernel_rfl
theorem vrc_pl_9 : plainB Try.prog 9 = true := by kernel_rfl
theorem vrc_sl_27 : sliceB Try.prog 27 = true := by kernel_rfl
def ren_n106 : Shelf.Ren where
  f := fun x => match x with | 106 => 76 | 213 => 86 | 265 => 91 | n => n
  t := fun x => match x with | 3 => 3 | 9 => 9 | n => n
  g := fun x => x
theorem lays_n106 : Lays.n106 Try.prog ren_n106 where
  mixed := by kernel_rfl
  f106 := by kernel_rfl
  f213 := by kernel_rfl
  f265 := by kernel_rfl
  t3 := Try.underlying3
  a3 := Try.isAgg3
  z3 := Try.sizeOf3
  v3 := Try.zeroValue3
  t9 := Try.underlying9
  a9 := Try.isAgg9
  z9 := Try.sizeOf9
  v9 := Try.zeroValue9

theorem v_Compare (a b : ByteArray) : Fn Try.prog 76 [.one (.str a), .one (.str b)] (.one (.int .i64 (cmpS a b))) := by
  intro w S vs hS hd
  obtain ⟨v, vs1, rfl, ⟨rfl, _⟩, u, vs2, rfl, ⟨rfl, _⟩, h3⟩ := hd
  obtain rfl : vs2 = [] := h3
  exact (Any.strings_Compare lays_n106 a b w).mono fun e w' ⟨he, hw⟩ => ⟨he, hw ▸ Below.refl _ _⟩
/-- The first row whose name is not below s. -/
def loF (h : GHead) (s : ByteArray) : Nat := h.rows.findIdx (fun r => decide (0 ≤ cmpS r.name s))
theorem good_step {h : GHead} (hg : goodHead h = true) {k : Nat} (h0 : 0 < k) (hk : k < h.rows.length) : Op.bytesLess (h.rows.getD (k - 1) (default : GRow)).name.toList (h.rows.getD k (default : GRow)).name.toList = true := by
  unfold goodHead at hg
  rw [Bool.and_eq_true] at hg
  have h1 := List.all_eq_true.1 hg.1 k (List.mem_range.2 hk)
  rw [Bool.not_eq_true'] at h1
  unfold rowBad at h1
  revert h1
  generalize nameB _ false = a1
  generalize samplesB _ = a2
  generalize decide ((_ : Int) = 0) = a3
  have e : decide ((0 : Int) < (k : Int)) = true := decide_eq_true (by omega)
  rw [e]
  generalize Op.bytesLess _ _ = a4
  revert a1 a2 a3 a4; decide
theorem good_lt {h : GHead} (hg : goodHead h = true) : ∀ (d a : Nat), a + (d + 1) < h.rows.length → Op.bytesLess (h.rows.getD a (default : GRow)).name.toList (h.rows.getD (a + (d + 1)) (default : GRow)).name.toList = true
  | 0, a, hl => good_step hg (k := a + 1) (by omega) hl
  | d + 1, a, hl => less_trans (good_lt hg d a (by omega)) (good_step hg (k := a + (d + 1 + 1)) (by omega) hl)
theorem loF_le (h : GHead) (s : ByteArray) : loF h s ≤ h.rows.length := List.findIdx_le_length
theorem loF_lt {h : GHead} {s : ByteArray} {a : Nat} (ha : a < loF h s) : cmpS (h.rows.getD a (default : GRow)).name s < 0 := by
  have hl : a < h.rows.length := Nat.lt_of_lt_of_le ha (loF_le h s)
  have h1 := List.not_of_lt_findIdx ha
  rw [List.getD_eq_getElem?_getD, List.getElem?_eq_getElem hl]
  have := of_decide_eq_false h1
  show cmpS (h.rows[a]).name s < 0
  omega
theorem loF_at {h : GHead} {s : ByteArray} (hl : loF h s < h.rows.length) : 0 ≤ cmpS (h.rows.getD (loF h s) (default : GRow)).name s := by
  rw [List.getD_eq_getElem?_getD, List.getElem?_eq_getElem hl]
  exact of_decide_eq_true (List.findIdx_getElem (w := hl))
theorem loF_ge {h : GHead} {s : ByteArray} (hg : goodHead h = true) {a : Nat} (h1 : loF h s ≤ a) (h2 : a < h.rows.length) : ¬ cmpS (h.rows.getD a (default : GRow)).name s < 0 := by
  intro hc
  have h3 := loF_at (h := h) (s := s) (by omega)
  by_cases e : loF h s = a
  · rw [e] at h3; omega
  · obtain ⟨d, rfl⟩ : ∃ d, a = loF h s + (d + 1) := ⟨a - loF h s - 1, by omega⟩
    have h4 := good_lt hg d (loF h s) h2
    have h5 := (cmpS_lt _ _).2 (less_trans h4 ((cmpS_lt _ _).1 hc))
    omega
theorem loF_eq {h : GHead} {s : ByteArray} (hg : goodHead h = true) {k : Nat} (hk : k < h.rows.length) (he : (h.rows.getD k (default : GRow)).name = s) : loF h s = k := by
  have h0 : cmpS (h.rows.getD k (default : GRow)).name s = 0 := (cmpS_zero _ _).2 he
  rcases Nat.lt_trichotomy (loF h s) k with h1 | h1 | h1
  · have h3 := loF_at (h := h) (s := s) (by omega)
    obtain ⟨d, rfl⟩ : ∃ d, k = loF h s + (d + 1) := ⟨k - loF h s - 1, by omega⟩
    have h4 := good_lt hg d (loF h s) hk
    rw [he] at h4
    have := (cmpS_lt _ _).2 h4
    omega
  · exact h1
  · have := loF_lt h1
    omega
def isRow (h : GHead) (s : ByteArray) : Bool := decide (loF h s < h.rows.length) && decide ((h.rows.getD (loF h s) (default : GRow)).name = s)
def rowV (h : GHead) (s : ByteArray) : List GSample × Bool := if goodHead h = true ∧ isRow h s = true then ((h.rows.getD (loF h s) (default : GRow)).samples, true) else ([], false)

theorem v_Find1 (x : GRow) (s : ByteArray) : Fn Try.prog 75 [.agg [.str x.name, .lst 2 x.samples.length (fun i0 j0 => ([.int .i64 ((x.samples.getD i0 (default : GSample)).at_), .int .i64 ((x.samples.getD i0 (default : GSample)).value)] : List AV).getD j0 (.con undef))], .one (.str s)] (.one (.int .i64 (cmpS x.name s))) := by
  refine Fn.of_body (fn := Try.f75) Try.func75 rfl (Nat.le_of_ble_eq_true rfl) trivial ?_
  intro w0
  show AW _ 9 _ _ _ _
  refine AW.seq ?_
  refine AW.region ?_
  refine ARun.box (id := 0) rfl (.tmp rfl) (SV.cells_of (by exact ⟨trivial, trivial, trivial⟩)) ⟨rfl, (by repeat first | exact trivial | refine ⟨by decide, by first | rfl | exact trivial | (intro i j; first | rfl | exact getD_no rfl | (dsimp only; split <;> first | rfl | exact getD_no rfl) | exact scl_no (by apply_assumption) _), ?_⟩)⟩ rfl rfl rfl (Nat.le_of_ble_eq_true rfl) ?_
  refine ARun.pure (PureOp.assign rfl .int) rfl rfl (Nat.le_of_ble_eq_true rfl) ?_
  refine ARun.nil ?_
  refine AW.seq ?_
  refine AW.region ?_
  refine ARun.pure (PureOp.fieldPtr rfl (.tmp rfl) vrc_fi_67_0_0) rfl rfl (Nat.le_of_ble_eq_true rfl) ?_
  refine ARun.pure (PureOp.loadPtr rfl (.tmp rfl) vrc_pl_9 rfl rfl (Nat.le_of_ble_eq_true rfl) (Nat.le_of_ble_eq_true rfl)) rfl rfl (Nat.le_of_ble_eq_true rfl) ?_
  refine ARun.pure (PureOp.move rfl (.tmp rfl)) rfl rfl (Nat.le_of_ble_eq_true rfl) ?_
  refine ARun.pure (PureOp.call rfl (v_Compare x.name s) ⟨⟨_, (.tmp rfl), .str⟩, ⟨_, (.tmp rfl), .str⟩, trivial⟩ vrc_ca_76 trivial) rfl rfl (Nat.le_of_ble_eq_true rfl) ?_
  refine ARun.pure (PureOp.assign rfl (.tmp rfl)) rfl rfl (Nat.le_of_ble_eq_true rfl) ?_
  refine ARun.nil ?_
  refine AW.ret (show ResL _ _ [.tmp 4] _ from resI rfl ?_)
  rfl

theorem v_Bs (l : List GRow) (s : ByteArray) (lo : Nat) (hl : l.length ≤ 1048576) (hlo : lo ≤ l.length) (hlt : ∀ a, a < lo → cmpS (l.getD a (default : GRow)).name s < 0) (hge : ∀ a, lo ≤ a → a < l.length → ¬ cmpS (l.getD a (default : GRow)).name s < 0) : Fn Try.prog 74 [.one (.lst 2 l.length (fun i0 j0 => ([.str ((l.getD i0 (default : GRow)).name), .lst 2 (((l.getD i0 (default : GRow)).samples).length) (fun i1 j1 => ([.int .i64 ((((l.getD i0 (default : GRow)).samples).getD i1 (default : GSample)).at_), .int .i64 ((((l.getD i0 (default : GRow)).samples).getD i1 (default : GSample)).value)] : List AV).getD j1 (.con undef))] : List AV).getD j0 (.con undef))), .one (.str s), .one (.fn 75 0 (fun _ => .con undef))] (.tup2 (.one (.int .i64 (lo : Int))) (.one (.bool (decide (lo < l.length) && decide ((l.getD lo (default : GRow)).name = s))))) := by
  refine Fn.of_body (fn := Try.f74) Try.func74 rfl (Nat.le_of_ble_eq_true rfl) ⟨trivial, trivial⟩ ?_
  intro w0
  show AW _ 49 _ _ _ _
  refine AW.bound (t := 0) rfl fun hx => ?_
  refine AW.seq ?_
  refine AW.region ?_
  refine ARun.pure (PureOp.assign rfl .int) rfl rfl (Nat.le_of_ble_eq_true rfl) ?_
  refine ARun.pure (PureOp.assign rfl .bool) rfl rfl (Nat.le_of_ble_eq_true rfl) ?_
  refine ARun.nil ?_
  refine AW.seq ?_
  refine AW.region ?_
  refine ARun.pure (PureOp.move rfl (.tmp rfl)) rfl rfl (Nat.le_of_ble_eq_true rfl) ?_
  refine ARun.pure (PureOp.lenLst rfl (.tmp rfl) vrc_sl_27) rfl rfl (Nat.le_of_ble_eq_true rfl) ?_
  refine ARun.pure (PureOp.assign rfl (.tmp rfl)) rfl rfl (Nat.le_of_ble_eq_true rfl) ?_
  refine ARun.nil ?_
  refine AW.seq ?_
  refine AW.region ?_
  refine ARun.pure (PureOp.move rfl (.tmp rfl)) rfl rfl (Nat.le_of_ble_eq_true rfl) ?_
  refine ARun.pure (PureOp.assign rfl .int) rfl rfl (Nat.le_of_ble_eq_true rfl) ?_
  refine ARun.pure (PureOp.assign rfl (.tmp rfl)) rfl rfl (Nat.le_of_ble_eq_true rfl) ?_
  refine ARun.nil ?_
  refine AW.seq ?_
  refine AW.block ?_
  refine AW.loop (ι := Nat × Nat) (fun vv => ⟨[(0, .one (.lst 2 l.length (fun i0 j0 => ([.str ((l.getD i0 (default : GRow)).name), .lst 2 (((l.getD i0 (default : GRow)).samples).length) (fun i1 j1 => ([.int .i64 ((((l.getD i0 (default : GRow)).samples).getD i1 (default : GSample)).at_), .int .i64 ((((l.getD i0 (default : GRow)).samples).getD i1 (default : GSample)).value)] : List AV).getD j1 (.con undef))] : List AV).getD j0 (.con undef)))), (1, .one (.str s)), (2, .one (.fn 75 0 (fun _ => .con undef))), (8, .one (.int .i64 (l.length : Int))), (9, .one (.int .i64 (vv.1 : Int))), (10, .one (.int .i64 (vv.2 : Int)))], []⟩) (fun vv => vv.1 ≤ lo ∧ lo ≤ vv.2 ∧ vv.2 ≤ l.length) (fun vv => vv.2 - vv.1) (0, l.length) ⟨Nat.zero_le _, hlo, Nat.le_refl _⟩ ⟨⟨⟨_, rfl, rfl⟩, ⟨_, rfl, rfl⟩, ⟨_, rfl, rfl⟩, ⟨_, rfl, rfl⟩, ⟨_, rfl, rfl⟩, ⟨_, rfl, rfl⟩, trivial⟩, trivial⟩ ?_
  intro vv hI
  obtain ⟨hi1, hi2, hi3⟩ := hI
  refine AW.seq ?_
  refine AW.seq ?_
  refine AW.region ?_
  refine ARun.pure (PureOp.move rfl (.tmp rfl)) rfl rfl (Nat.le_of_ble_eq_true rfl) ?_
  refine ARun.pure (PureOp.move rfl (.tmp rfl)) rfl rfl (Nat.le_of_ble_eq_true rfl) ?_
  refine ARun.pure (PureOp.intOp rfl (.tmp rfl) (.tmp rfl) rfl) rfl rfl (Nat.le_of_ble_eq_true rfl) ?_
  refine ARun.nil ?_
  refine AW.cond (.tmp rfl) (fun hb1 => ?_) (fun hb1 => ?_)
  · have _u := True.intro
    replace hb1 := of_decide_eq_true hb1
    refine AW.skip ?_
    refine AW.block ?_
    refine AW.seq ?_
    refine AW.region ?_
    refine ARun.pure (PureOp.move rfl (.tmp rfl)) rfl rfl (Nat.le_of_ble_eq_true rfl) ?_
    refine ARun.pure (PureOp.move rfl (.tmp rfl)) rfl rfl (Nat.le_of_ble_eq_true rfl) ?_
    refine ARun.pure (PureOp.add (c := ((vv.1 + vv.2 : Nat) : Int)) rfl (.tmp rfl) (.tmp rfl) (by rw [wrap_id (by omega) (by omega)]; omega)) rfl rfl (Nat.le_of_ble_eq_true rfl) ?_
    refine ARun.pure (PureOp.conv (b := ((vv.1 + vv.2 : Nat) : Int)) rfl (.tmp rfl) vrc_cv_3_120_.u64 (wrap_u64 (by omega) (by omega))) rfl rfl (Nat.le_of_ble_eq_true rfl) ?_
    refine ARun.pure (PureOp.shr1 (a := vv.1 + vv.2) rfl (.tmp rfl) .int) rfl rfl (Nat.le_of_ble_eq_true rfl) ?_
    refine ARun.pure (PureOp.conv (b := (((vv.1 + vv.2) / 2 : Nat) : Int)) rfl (.tmp rfl) vrc_cv_120_3_.i64 (wrap_id (by omega) (by omega))) rfl rfl (Nat.le_of_ble_eq_true rfl) ?_
    refine ARun.pure (PureOp.assign rfl (.tmp rfl)) rfl rfl (Nat.le_of_ble_eq_true rfl) ?_
    refine ARun.nil ?_
    refine AW.seq ?_
    refine AW.region ?_
    refine ARun.pure (PureOp.move rfl (.tmp rfl)) rfl rfl (Nat.le_of_ble_eq_true rfl) ?_
    refine ARun.pure (PureOp.move rfl (.tmp rfl)) rfl rfl (Nat.le_of_ble_eq_true rfl) ?_
    refine ARun.pure (PureOp.move rfl (.tmp rfl)) rfl rfl (Nat.le_of_ble_eq_true rfl) ?_
    refine ARun.pure (PureOp.indexLst (i := (vv.1 + vv.2) / 2) rfl (.tmp rfl) vrc_el_27_2 (.tmp rfl) rfl (by omega)) rfl rfl (Nat.le_of_ble_eq_true rfl) ?_
    refine ARun.pure (PureOp.loadRefAgg rfl (.tmp rfl) vrc_ag_67_2 (Nat.le_of_ble_eq_true rfl)) rfl rfl (Nat.le_of_ble_eq_true rfl) ?_
    refine ARun.pure (PureOp.move rfl (.tmp rfl)) rfl rfl (Nat.le_of_ble_eq_true rfl) ?_
    refine ARun.pure (PureOp.callv rfl (.tmp rfl) (show Fn Try.prog 75 ([.agg [.str ((l.getD ((vv.1 + vv.2) / 2) (default : GRow)).name), .lst 2 (((l.getD ((vv.1 + vv.2) / 2) (default : GRow)).samples).length) (fun i0 j0 => ([.int .i64 ((((l.getD ((vv.1 + vv.2) / 2) (default : GRow)).samples).getD i0 (default : GSample)).at_), .int .i64 ((((l.getD ((vv.1 + vv.2) / 2) (default : GRow)).samples).getD i0 (default : GSample)).value)] : List AV).getD j0 (.con undef))], .one (.str s)] ++ capL 0 (fun _ => .con undef)) _ from v_Find1 (l.getD ((vv.1 + vv.2) / 2) (default : GRow)) s) (fun j h => absurd h (by omega)) ⟨⟨_, (.tmp rfl), ⟨.str, .lst, trivial⟩⟩, ⟨_, (.tmp rfl), .str⟩, trivial⟩ vrc_ca_75 trivial) rfl rfl (Nat.le_of_ble_eq_true rfl) ?_
    refine ARun.pure (PureOp.intOp rfl (.tmp rfl) .int rfl) rfl rfl (Nat.le_of_ble_eq_true rfl) ?_
    refine ARun.nil ?_
    refine AW.cond (.tmp rfl) (fun hb2 => ?_) (fun hb2 => ?_)
    · have _u := True.intro
      replace hb2 := of_decide_eq_true hb2
      have hm : ((vv.1 + vv.2) / 2) < lo := (Nat.lt_or_ge ((vv.1 + vv.2) / 2) lo).elim id (fun hc => absurd hb2 (hge _ hc (by omega)))
      refine AW.region ?_
      refine ARun.pure (PureOp.move rfl (.tmp rfl)) rfl rfl (Nat.le_of_ble_eq_true rfl) ?_
      refine ARun.pure (PureOp.add (c := (((vv.1 + vv.2) / 2 + 1 : Nat) : Int)) rfl (.tmp rfl) .int (by rw [wrap_id (by omega) (by omega)]; omega)) rfl rfl (Nat.le_of_ble_eq_true rfl) ?_
      refine ARun.pure (PureOp.assign rfl (.tmp rfl)) rfl rfl (Nat.le_of_ble_eq_true rfl) ?_
      refine ARun.nil ?_
      exact ⟨((vv.1 + vv.2) / 2 + 1, vv.2), (by dsimp only; omega), by dsimp only; omega, ⟨⟨⟨_, rfl, rfl⟩, ⟨_, rfl, rfl⟩, ⟨_, rfl, rfl⟩, ⟨_, rfl, rfl⟩, ⟨_, rfl, rfl⟩, ⟨_, rfl, rfl⟩, trivial⟩, trivial⟩⟩
    · have _u := True.intro
      replace hb2 := of_decide_eq_false hb2
      have hm : ¬ ((vv.1 + vv.2) / 2) < lo := fun hc => hb2 (hlt _ hc)
      refine AW.region ?_
      refine ARun.pure (PureOp.move rfl (.tmp rfl)) rfl rfl (Nat.le_of_ble_eq_true rfl) ?_
      refine ARun.pure (PureOp.assign rfl (.tmp rfl)) rfl rfl (Nat.le_of_ble_eq_true rfl) ?_
      refine ARun.nil ?_
      exact ⟨(vv.1, (vv.1 + vv.2) / 2), (by dsimp only; omega), by dsimp only; omega, ⟨⟨⟨_, rfl, rfl⟩, ⟨_, rfl, rfl⟩, ⟨_, rfl, rfl⟩, ⟨_, rfl, rfl⟩, ⟨_, rfl, rfl⟩, ⟨_, rfl, rfl⟩, trivial⟩, trivial⟩⟩
  · have _u := True.intro
    replace hb1 := of_decide_eq_false hb1
    refine AW.exit ?_
    refine AW.seq ?_
    refine AW.region ?_
    refine ARun.pure (PureOp.move rfl (.tmp rfl)) rfl rfl (Nat.le_of_ble_eq_true rfl) ?_
    refine ARun.pure (PureOp.move rfl (.tmp rfl)) rfl rfl (Nat.le_of_ble_eq_true rfl) ?_
    refine ARun.pure (PureOp.move rfl (.tmp rfl)) rfl rfl (Nat.le_of_ble_eq_true rfl) ?_
    refine ARun.pure (PureOp.intOp rfl (.tmp rfl) (.tmp rfl) rfl) rfl rfl (Nat.le_of_ble_eq_true rfl) ?_
    refine ARun.pure (PureOp.move rfl (.tmp rfl)) rfl rfl (Nat.le_of_ble_eq_true rfl) ?_
    refine ARun.gpure (want := true) (.tt rfl) (fun hg3 => PureOp.move rfl (.tmp rfl)) rfl rfl (Nat.le_of_ble_eq_true rfl) rfl (Nat.le_of_ble_eq_true rfl) ?_
    refine ARun.gpure (want := true) (.tt rfl) (fun hg4 => PureOp.move rfl (.tmp rfl)) rfl rfl (Nat.le_of_ble_eq_true rfl) rfl (Nat.le_of_ble_eq_true rfl) ?_
    refine ARun.gpure (want := true) (.tt rfl) (fun hg5 => PureOp.move rfl (.tmp rfl)) rfl rfl (Nat.le_of_ble_eq_true rfl) rfl (Nat.le_of_ble_eq_true rfl) ?_
    refine ARun.gpure (want := true) (.tt rfl) (fun hg6 => PureOp.indexLst (i := vv.1) rfl (.gtmp rfl hg6) vrc_el_27_2 (.gtmp rfl hg6) rfl (by have q := hg6; simp only [Bool.cond_true_left, Bool.cond_false_right, Bool.not_eq_true', Bool.or_eq_false_iff, Bool.not_eq_false', Bool.and_eq_true, Bool.not_not, decide_eq_true_eq, decide_eq_false_iff_not, inB] at q; omega)) rfl rfl (Nat.le_of_ble_eq_true rfl) rfl (Nat.le_of_ble_eq_true rfl) ?_
    refine ARun.gpure (want := true) (.tt rfl) (fun hg7 => PureOp.loadRefAgg rfl (.gtmp rfl hg7) vrc_ag_67_2 (Nat.le_of_ble_eq_true rfl)) rfl rfl (Nat.le_of_ble_eq_true rfl) rfl (Nat.le_of_ble_eq_true rfl) ?_
    refine ARun.gpure (want := true) (.tt rfl) (fun hg8 => PureOp.move rfl (.tmp rfl)) rfl rfl (Nat.le_of_ble_eq_true rfl) rfl (Nat.le_of_ble_eq_true rfl) ?_
    refine ARun.gpure (want := true) (.tt rfl) (fun hg9 => PureOp.callv rfl (.gtmp rfl hg9) (show Fn Try.prog 75 ([.agg [.str ((l.getD vv.1 (default : GRow)).name), .lst 2 (((l.getD vv.1 (default : GRow)).samples).length) (fun i0 j0 => ([.int .i64 ((((l.getD vv.1 (default : GRow)).samples).getD i0 (default : GSample)).at_), .int .i64 ((((l.getD vv.1 (default : GRow)).samples).getD i0 (default : GSample)).value)] : List AV).getD j0 (.con undef))], .one (.str s)] ++ capL 0 (fun _ => .con undef)) _ from v_Find1 (l.getD vv.1 (default : GRow)) s) (fun j h => absurd h (by omega)) ⟨⟨_, (.gtmp rfl hg9), ⟨.str, .lst, trivial⟩⟩, ⟨_, (.gtmp rfl hg9), .str⟩, trivial⟩ vrc_ca_75 trivial) rfl rfl (Nat.le_of_ble_eq_true rfl) rfl (Nat.le_of_ble_eq_true rfl) ?_
    refine ARun.gpure (want := true) (.tt rfl) (fun hg10 => PureOp.intOp rfl (.gtmp rfl hg10) .int rfl) rfl rfl (Nat.le_of_ble_eq_true rfl) rfl (Nat.le_of_ble_eq_true rfl) ?_
    refine ARun.pure (PureOp.pick rfl (.tmp rfl) (fun hp11 => .gtmp rfl hp11) (fun _ => .bool)) rfl rfl (Nat.le_of_ble_eq_true rfl) ?_
    refine ARun.pure (PureOp.assign rfl (.tmp rfl)) rfl rfl (Nat.le_of_ble_eq_true rfl) ?_
    refine ARun.pure (PureOp.assign rfl (.tmp rfl)) rfl rfl (Nat.le_of_ble_eq_true rfl) ?_
    refine ARun.nil ?_
    refine AW.ret (show ResL _ _ [.tmp 6, .tmp 7] _ from res2I rfl rfl ?_)
    have he : vv.1 = lo := by omega
    rw [he]
    refine ⟨rfl, ?_⟩
    generalize (l.getD lo _) = rr
    by_cases hc : lo < l.length
    · rw [decide_eq_true (show ((lo : Nat) : Int) < ((l.length : Nat) : Int) by omega), decide_eq_true hc]; exact decide_eq_decide.2 (cmpS_zero _ _)
    · rw [decide_eq_false (show ¬ ((lo : Nat) : Int) < ((l.length : Nat) : Int) by omega), decide_eq_false hc]; rfl

end Go.Proofs.Ytmfkmifkkplidaa


/-
  The program's step (take): what it makes of a head.
-/
namespace Go.Proofs.Ytmfkmifkkplidaa
open Go.ChangeShapes Go.WideShapes Go.ChangeAt Go.RowKit Go.BigFrame Go.Deep
set_option linter.unusedVariables false
set_option linter.unusedSimpArgs false
theorem vtk_ca_48 : callB Try.prog 48 = true := by kernel_rfl
theorem vtk_ca_74 : callB Try.prog 74 = true := by kernel_rfl
theorem vtk_ca_79 : callB Try.prog 79 = true := by kernel_rfl
theorem vtk_el_27_2 : elemB Try.prog 27 2 = true := by kernel_rfl
theorem vtk_el_33_2 : elemB Try.prog 33 2 = true := by kernel_rfl
theorem vtk_fi_29_0_0 : fieldB Try.prog 29 0 0 = true := by kernel_rfl
theorem vtk_fi_29_1_1 : fieldB Try.prog 29 1 1 = true := by kernel_rfl
theorem vtk_fi_47_0_0 : fieldB Try.prog 47 0 0 = true := by kernel_rfl
theorem vtk_fi_47_1_1 : fieldB Try.prog 47 1 1 = true := by kernel_rfl
theorem vtk_fi_47_2_2 : fieldB Try.prog 47 2 2 = true := by kernel_rfl
theorem vtk_fi_67_1_1 : fieldB Try.prog 67 1 1 = true := by kernel_rfl
theorem vtk_fi_81_0_0 : fieldB Try.prog 81 0 0 = true := by kernel_rfl
theorem vtk_pl_27 : plainB Try.prog 27 = true := by kernel_rfl
theorem vtk_pl_3 : plainB Try.prog 3 = true := by kernel_rfl
theorem vtk_pl_33 : plainB Try.prog 33 = true := by kernel_rfl
theorem vtk_pl_9 : plainB Try.prog 9 = true := by kernel_rfl
theorem vtk_sl_27 : sliceB Try.prog 27 = true := by kernel_rfl
theorem vtk_sl_33 : sliceB Try.prog 33 = true := by kernel_rfl
theorem vtk_sz_27_1 : sizeB Try.prog 27 1 = true := by kernel_rfl
theorem vtk_sz_33_1 : sizeB Try.prog 33 1 = true := by kernel_rfl
theorem vtk_sz_3_1 : sizeB Try.prog 3 1 = true := by kernel_rfl
theorem AW.hle {P : Program} {N : Nat} {w0 : Start} {c : Code} {Q : Exit → Sig → Prop} {e : Env} {H H' : Heap} (h : HeapLe H H') (hk : AW P N w0 c Q ⟨e, H'⟩) : AW P N w0 c Q ⟨e, H⟩ :=
  fun ρ S a w Q' hQ hs => hk ρ S a w Q' hQ ⟨hs.size, hs.defers, hs.below, hs.mem.le' fun k p hp => h.get hp, hs.env⟩
/-! What the step makes of a head. -/
abbrev rowK (h : GHead) (x : GSay) : GRow := h.rows.getD (loF h x.name) (default : GRow)
abbrev smpX (x : GSay) : GSample := ⟨x.at_, x.value⟩
abbrev takeLast (h : GHead) (x : GSay) : GSample := (rowK h x).samples.getD ((rowK h x).samples.length - 1) (default : GSample)
def addS (h : GHead) (x : GSay) : List GSample := if isRow h x.name = true then (rowK h x).samples ++ [smpX x] else [smpX x]
def takeCode (h : GHead) (x : GSay) : Nat := if isRow h x.name = true then (if (takeLast h x).at_ = x.at_ then 2 else if x.at_ < (takeLast h x).at_ then 3 else if (rowK h x).samples.length = 40 then 4 else 1) else if h.rows.length = 8 then 4 else 1
def insL {α : Type} (l : List α) (k : Nat) (r : α) : List α := l.take k ++ r :: l.drop k
def takeR (h : GHead) (x : GSay) : List GRow := if takeCode h x = 1 then (if isRow h x.name = true then h.rows.set (loF h x.name) ⟨(rowK h x).name, addS h x⟩ else insL h.rows (loF h x.name) ⟨x.name, addS h x⟩) else h.rows
def takeH (h : GHead) (x : GSay) : GHead := ⟨takeR h x, h.offset + 1⟩
def takeN (h : GHead) (x : GSay) : Nat := if takeCode h x = 1 ∧ isRow h x.name = false then h.rows.length + 1 else h.rows.length
theorem insL_len {α : Type} {l : List α} {k : Nat} {r : α} (hk : k ≤ l.length) : (insL l k r).length = l.length + 1 := by
  unfold insL; rw [List.length_append, List.length_take, List.length_cons, List.length_drop]; omega
theorem insL_at {α : Type} (d : α) {l : List α} {k : Nat} {r : α} (hk : k ≤ l.length) (a : Nat) : (insL l k r).getD a d = if a < k then l.getD a d else if a = k then r else l.getD (a - 1) d := by
  unfold insL
  rw [List.getD_eq_getElem?_getD, List.getD_eq_getElem?_getD, List.getD_eq_getElem?_getD, List.getElem?_append, List.length_take]
  by_cases h1 : a < k
  · rw [if_pos h1, if_pos (by omega), List.getElem?_take, if_pos h1]
  · rw [if_neg h1, if_neg (by omega), show min k l.length = k by omega]
    by_cases h2 : a = k
    · subst h2; rw [if_pos rfl, Nat.sub_self]; rfl
    · rw [if_neg h2]
      obtain ⟨d', hd⟩ : ∃ d', a - k = d' + 1 := ⟨a - k - 1, by omega⟩
      rw [hd, List.getElem?_cons_succ, List.getElem?_drop, show k + d' = a - 1 by omega]
theorem takeN_len (h : GHead) (x : GSay) : takeN h x = (takeH h x).rows.length := by
  show takeN h x = (takeR h x).length
  unfold takeN takeR
  have hk := loF_le h x.name
  by_cases h1 : takeCode h x = 1
  · rw [if_pos h1]
    cases h2 : isRow h x.name with
    | true => rw [if_neg (fun e => by cases e.2), if_pos rfl, List.length_set]
    | false => rw [if_pos ⟨h1, rfl⟩, if_neg (by simp), insL_len hk]
  · rw [if_neg h1, if_neg (fun e => h1 e.1)]
theorem row_lo {h : GHead} {s : ByteArray} (hr : isRow h s = true) : loF h s < h.rows.length := by
  unfold isRow at hr; rw [Bool.and_eq_true] at hr; exact of_decide_eq_true hr.1
theorem good_len {h : GHead} (hg : goodHead h = true) : h.rows.length ≤ 8 := by
  unfold goodHead at hg
  rw [Bool.and_eq_true] at hg
  have h1 := hg.2
  by_cases h2 : (h.rows.length : Int) ≤ 8
  · omega
  · rw [decide_eq_false h2] at h1; cases h1
theorem good_at {h : GHead} (hg : goodHead h = true) {k : Nat} (hk : k < h.rows.length) : nameB (h.rows.getD k (default : GRow)).name false = true ∧ 0 < (h.rows.getD k (default : GRow)).samples.length ∧ samplesB (h.rows.getD k (default : GRow)).samples = true := by
  unfold goodHead at hg
  rw [Bool.and_eq_true] at hg
  have h1 := List.all_eq_true.1 hg.1 k (List.mem_range.2 hk)
  rw [Bool.not_eq_true'] at h1
  unfold rowBad at h1
  revert h1
  generalize nameB _ false = a1
  generalize samplesB _ = a2
  by_cases h3 : ((h.rows.getD k (default : GRow)).samples.length : Int) = 0
  · rw [decide_eq_true h3]
    generalize cond (decide ((0 : Int) < (k : Int))) _ false = a4
    intro h1; revert h1; revert a1 a2 a4; simp
  · rw [decide_eq_false h3]
    generalize cond (decide ((0 : Int) < (k : Int))) _ false = a4
    intro h1
    have : a1 = true ∧ a2 = true := by revert h1; revert a1 a2 a4; decide
    exact ⟨this.1, by omega, this.2⟩
theorem smp_40 {l : List GSample} (h : samplesB l = true) : l.length ≤ 40 := by
  unfold samplesB at h; rw [Bool.and_eq_true] at h
  have := of_decide_eq_true h.2
  omega
theorem tk_full8 {h : GHead} {x : GSay} (hir : isRow h x.name = false) (h8 : h.rows.length = 8) : takeCode h x = 4 := by unfold takeCode; rw [hir, if_neg (by simp), if_pos h8]
theorem tk_ins {h : GHead} {x : GSay} (hir : isRow h x.name = false) (h8 : ¬ h.rows.length = 8) : takeCode h x = 1 := by unfold takeCode; rw [hir, if_neg (by simp), if_neg h8]
theorem tk_again {h : GHead} {x : GSay} (hir : isRow h x.name = true) (h1 : (takeLast h x).at_ = x.at_) : takeCode h x = 2 := by unfold takeCode; rw [hir, if_pos rfl, if_pos h1]
theorem tk_late {h : GHead} {x : GSay} (hir : isRow h x.name = true) (h1 : ¬ (takeLast h x).at_ = x.at_) (h2 : x.at_ < (takeLast h x).at_) : takeCode h x = 3 := by unfold takeCode; rw [hir, if_pos rfl, if_neg h1, if_pos h2]
theorem tk_full {h : GHead} {x : GSay} (hir : isRow h x.name = true) (h1 : ¬ (takeLast h x).at_ = x.at_) (h2 : ¬ x.at_ < (takeLast h x).at_) (h3 : (rowK h x).samples.length = 40) : takeCode h x = 4 := by unfold takeCode; rw [hir, if_pos rfl, if_neg h1, if_neg h2, if_pos h3]
theorem tk_new {h : GHead} {x : GSay} (hir : isRow h x.name = true) (h1 : ¬ (takeLast h x).at_ = x.at_) (h2 : ¬ x.at_ < (takeLast h x).at_) (h3 : ¬ (rowK h x).samples.length = 40) : takeCode h x = 1 := by unfold takeCode; rw [hir, if_pos rfl, if_neg h1, if_neg h2, if_neg h3]
theorem tN_old {h : GHead} {x : GSay} (hc : ¬ takeCode h x = 1) : takeN h x = h.rows.length := if_neg fun e => hc e.1
theorem tN_row {h : GHead} {x : GSay} (hir : isRow h x.name = true) : takeN h x = h.rows.length := if_neg fun e => by rw [hir] at e; cases e.2
theorem tN_ins {h : GHead} {x : GSay} (hir : isRow h x.name = false) (hc : takeCode h x = 1) : takeN h x = h.rows.length + 1 := if_pos ⟨hc, hir⟩
theorem tR_old {h : GHead} {x : GSay} (hc : ¬ takeCode h x = 1) : (takeH h x).rows = h.rows := if_neg hc
theorem tR_row {h : GHead} {x : GSay} (hir : isRow h x.name = true) (hc : takeCode h x = 1) : (takeH h x).rows = h.rows.set (loF h x.name) ⟨(rowK h x).name, addS h x⟩ := by show takeR h x = _; unfold takeR; rw [if_pos hc, if_pos hir]
theorem tR_ins {h : GHead} {x : GSay} (hir : isRow h x.name = false) (hc : takeCode h x = 1) : (takeH h x).rows = insL h.rows (loF h x.name) ⟨x.name, addS h x⟩ := by show takeR h x = _; unfold takeR; rw [if_pos hc, hir, if_neg (by simp)]
theorem getD_app {α : Type} (d : α) (l m : List α) (i : Nat) : (l ++ m).getD i d = if i < l.length then l.getD i d else m.getD (i - l.length) d := by
  rw [List.getD_eq_getElem?_getD, List.getD_eq_getElem?_getD, List.getD_eq_getElem?_getD, List.getElem?_append]
  by_cases h1 : i < l.length
  · rw [if_pos h1, if_pos h1]
  · rw [if_neg h1, if_neg h1]
theorem addS_row {h : GHead} {x : GSay} (hir : isRow h x.name = true) : addS h x = (rowK h x).samples ++ [smpX x] := if_pos hir
theorem addS_ins {h : GHead} {x : GSay} (hir : isRow h x.name = false) : addS h x = [smpX x] := if_neg (by rw [hir]; simp)
theorem addS_cell {h : GHead} {x : GSay} (hir : isRow h x.name = true) {i j : Nat} (hi : i < (rowK h x).samples.length + 1) (hj : j < 2) : (if i < (rowK h x).samples.length then ceSample ((rowK h x).samples.getD i (default : GSample)) j else ([.int .i64 x.at_, .int .i64 x.value] : List AV).getD j (.con undef)) = ceSample ((addS h x).getD i (default : GSample)) j := by
  rw [addS_row hir]
  by_cases h1 : i < (rowK h x).samples.length
  · rw [if_pos h1, getD_app, if_pos h1]
  · rw [if_neg h1, getD_app, if_neg h1, show i - (rowK h x).samples.length = 0 by omega]
    exact (match j, hj with | 0, _ => rfl | 1, _ => rfl | _ + 2, h => absurd h (by omega))
theorem addS_cellN {h : GHead} {x : GSay} (hir : isRow h x.name = false) {i j : Nat} (hi : i < 0 + 1) (hj : j < 2) : (if i < 0 then (.con undef : AV) else ([.int .i64 x.at_, .int .i64 x.value] : List AV).getD j (.con undef)) = ceSample ((addS h x).getD i (default : GSample)) j := by
  obtain rfl : i = 0 := by omega
  rw [addS_ins hir, if_neg (Nat.not_lt_zero _)]
  exact (match j, hj with | 0, _ => rfl | 1, _ => rfl | _ + 2, h => absurd h (by omega))
/-- The family of the walk: the members of the head, and behind them what the step makes. -/
def takeX (h : GHead) (x : GSay) (q : Nat) : AV := if q < h.rows.length then rowX0 h q else .lst 2 (addS h x).length (fun a b => ceSample ((addS h x).getD a (default : GSample)) b)
theorem takeX_lt {h : GHead} {x : GSay} {q : Nat} (hq : q < h.rows.length) : takeX h x q = rowX0 h q := if_pos hq
theorem takeX_n (h : GHead) (x : GSay) : takeX h x h.rows.length = .lst 2 (addS h x).length (fun a b => ceSample ((addS h x).getD a (default : GSample)) b) := if_neg (Nat.lt_irrefl _)
theorem rowC0_ren {h : GHead} {K K' : Nat} {q : Nat → Nat} (hq : q K = K') : ∀ a b, rowC0 h K' a b = (rowC0 h K a b).ren q := fun a b => match b with
  | 0 => rfl
  | 1 => by subst hq; rfl
  | _ + 2 => rfl
theorem rowC0_no {h : GHead} {K id : Nat} (hk : (K == id) = false) (a b : Nat) : (rowC0 h K a b).no id = true := match b with
  | 0 => rfl
  | 1 => by show (!(K == id)) = true; rw [hk]; rfl
  | _ + 2 => rfl
theorem rowC0_oc {h : GHead} {K : Nat} (a b : Nat) (hb : b < 2) : (rowC0 h K a b).oc = true := match b, hb with
  | 0, _ => rfl
  | 1, _ => rfl
  | _ + 2, h => absurd h (by omega)
theorem rowC0_ok (h : GHead) : CellsOk (rowC0 h 1000002) := ⟨rowC0_oc, fun k hk => rowC0_no (by simp; omega)⟩
abbrev newC (x : GSay) : Nat → Nat → AV := fun _ jc => ([.str x.name, .con (.slice none 0 0)] : List AV).getD jc (.con undef)
theorem newC_ok (x : GSay) : CellsOk (newC x) := ⟨fun _ b hb => (match b, hb with | 0, _ => rfl | 1, _ => rfl | _ + 2, h => absurd h (by omega)), fun _ _ _ b => (match b with | 0 => rfl | 1 => rfl | _ + 2 => rfl)⟩
theorem newC_ren (x : GSay) (q : Nat → Nat) (a b : Nat) : newC x a b = (newC x a b).ren q := match b with | 0 => rfl | 1 => rfl | _ + 2 => rfl
theorem insF_ren {f f' g g' : Nat → Nat → AV} {q : Nat → Nat} (hf : ∀ a b, f' a b = (f a b).ren q) (hg : ∀ a b, g' a b = (g a b).ren q) (i a b : Nat) : insF f' g' i a b = (insF f g i a b).ren q := by
  unfold insF
  split
  · exact hf a b
  · split
    · exact hg 0 b
    · exact hf _ b
theorem insF_no {f g : Nat → Nat → AV} {id : Nat} (hf : ∀ a b, (f a b).no id = true) (hg : ∀ a b, (g a b).no id = true) (i a b : Nat) : (insF f g i a b).no id = true := by
  unfold insF
  split
  · exact hf a b
  · split
    · exact hg 0 b
    · exact hf _ b
theorem insF_hx {h : GHead} {x : GSay} {K i a b : Nat} {L : List Nat} (hK : L.contains K = true) : (insF (rowC0 h K) (newC x) i a b).hx L = true := by
  have h1 : ∀ a b, (rowC0 h K a b).hx L = true := fun a b => match b with
    | 0 => rfl
    | 1 => hK
    | _ + 2 => rfl
  have h2 : ∀ a b, (newC x a b).hx L = true := fun a b => match b with | 0 => rfl | 1 => rfl | _ + 2 => rfl
  unfold insF
  split
  · exact h1 a b
  · split
    · exact h2 0 b
    · exact h1 _ b
/-! The names given anew. -/
def pmI (n k q : Nat) : Nat := if q < k then q else if q = k then n else q - 1
theorem pmI_lt {n k : Nat} : ∀ i, i < n + 1 → pmI n k i < n + 1 := fun i hi => by unfold pmI; split <;> (try split) <;> omega
theorem pmI_inj {n k : Nat} (hk : k ≤ n) : ∀ i j, i < n + 1 → j < n + 1 → pmI n k i = pmI n k j → i = j := fun i j hi hj e => by
  unfold pmI at e
  split at e <;> split at e <;> (try split at e) <;> (try split at e) <;> omega
theorem row_id {h : GHead} {K K2 : Nat} : ∀ i j, i < h.rows.length → j < 2 → rowC0 h K2 i j = rowC0 h K i j ∨ ∃ p, p < h.rows.length ∧ rowC0 h K i j = .tre K (id p) ∧ rowC0 h K2 i j = .tre K2 p := fun i j hi hj => match j, hj with
  | 0, _ => .inl rfl
  | 1, _ => .inr ⟨i, hi, rfl, rfl⟩
  | _ + 2, h => absurd h (by omega)
/-- A member left out. -/
def skP (k q : Nat) : Nat := if q < k then q else q + 1
theorem skP_lt {n k : Nat} (hk : k < n) : ∀ i, i < n - 1 → skP k i < n := fun i hi => by unfold skP; split <;> omega
theorem skP_inj {n k : Nat} : ∀ i j, i < n - 1 → j < n - 1 → skP k i = skP k j → i = j := fun i j _ _ e => by unfold skP at e; split at e <;> split at e <;> omega
theorem pmI_lt' {n k : Nat} (hn : 0 < n) : ∀ i, i < n → pmI (n - 1) k i < n - 1 + 1 := fun i hi => pmI_lt i (by omega)
theorem pmI_inj' {n k : Nat} (hk : k < n) : ∀ i j, i < n → j < n → pmI (n - 1) k i = pmI (n - 1) k j → i = j := fun i j hi hj e => pmI_inj (by omega) i j (by omega) (by omega) e
def rowS (h : GHead) (k a b : Nat) : AV := if a = k ∧ b = 1 then .tre 500 k else ([.str (h.rows.getD a (default : GRow)).name, .tre 501 (if a < k then a else a - 1)] : List AV).getD b (.con undef)
theorem rowS_no {h : GHead} {k id : Nat} (h1 : (500 == id) = false) (h2 : (501 == id) = false) (a b : Nat) : (rowS h k a b).no id = true := by
  unfold rowS
  split
  · show (!(500 == id)) = true; rw [h1]; rfl
  · exact (match b with | 0 => rfl | 1 => by show (!(501 == id)) = true; rw [h2]; rfl | _ + 2 => rfl)
theorem row_skip {h : GHead} {k : Nat} (hk : k < h.rows.length) : ∀ i j, i < h.rows.length → j < 2 → rowS h k i j = rowC0 h 500 i j ∨ ∃ p, p < h.rows.length - 1 ∧ rowC0 h 500 i j = .tre 500 (skP k p) ∧ rowS h k i j = .tre 501 p := fun i j hi hj => match j, hj with
  | 0, _ => .inl (by unfold rowS; rw [if_neg (by omega)]; rfl)
  | 1, _ => by
    by_cases e : i = k
    · subst e; exact .inl (if_pos ⟨rfl, rfl⟩)
    · refine .inr ⟨if i < k then i else i - 1, by split <;> omega, ?_, ?_⟩
      · show AV.tre 500 i = AV.tre 500 _
        rw [show skP k (if i < k then i else i - 1) = i from by
          unfold skP
          by_cases h : i < k
          · rw [if_pos h, if_pos h]
          · rw [if_neg h, if_neg (by omega)]; omega]
      · unfold rowS; rw [if_neg (fun h => e h.1)]; rfl
  | _ + 2, h => absurd h (by omega)
theorem rowX_old {h : GHead} {x : GSay} (hc : ¬ takeCode h x = 1) {q : Nat} (hq : q < h.rows.length) : takeX h x q = rowX0 (takeH h x) q := by
  rw [takeX_lt hq]; unfold rowX0; rw [tR_old hc]
theorem rowC_old {h : GHead} {x : GSay} (hc : ¬ takeCode h x = 1) (K a b : Nat) : rowC0 h K a b = rowC0 (takeH h x) K a b := by
  unfold rowC0; rw [tR_old hc]
theorem set_at {α : Type} (d : α) {l : List α} {k : Nat} {r : α} (hk : k < l.length) (a : Nat) : (l.set k r).getD a d = if a = k then r else l.getD a d := by
  rw [List.getD_eq_getElem?_getD, List.getD_eq_getElem?_getD, List.getElem?_set]
  by_cases e : a = k
  · subst e; rw [if_pos rfl, if_pos rfl, if_pos hk]; rfl
  · rw [if_neg e, if_neg (fun h => e h.symm)]
/-- The family without the member that is written, and behind it what the step makes. -/
def takeY (h : GHead) (x : GSay) (q : Nat) : AV := if q < h.rows.length - 1 then takeX h x (skP (loF h x.name) q) else .lst 2 (addS h x).length (fun a b => ceSample ((addS h x).getD a (default : GSample)) b)
theorem takeY_hole {h : GHead} {x : GSay} {vv : Value} {q : Nat} (hq : q < h.rows.length - 1) : (if skP (loF h x.name) q = loF h x.name then .con vv else takeX h x (skP (loF h x.name) q)) = takeY h x q := by
  rw [if_neg (by unfold skP; split <;> omega), takeY, if_pos hq]
theorem takeY_n (h : GHead) (x : GSay) : takeY h x (h.rows.length - 1) = .lst 2 (addS h x).length (fun a b => ceSample ((addS h x).getD a (default : GSample)) b) := if_neg (Nat.lt_irrefl _)
theorem row_back {h : GHead} {k : Nat} : ∀ a b, a < h.rows.length → b < 2 → (if a = k ∧ b = 1 then .tre 500 k else rowC0 h 78 a b) = rowS h k a b ∨ ∃ p, p < h.rows.length ∧ rowS h k a b = .tre 501 (pmI (h.rows.length - 1) k p) ∧ (if a = k ∧ b = 1 then .tre 500 k else rowC0 h 78 a b) = .tre 78 p := fun a b ha hb => match b, hb with
  | 0, _ => by
    refine .inl ?_
    unfold rowS
    rw [if_neg (by omega), if_neg (by omega)]; rfl
  | 1, _ => by
    unfold rowS
    by_cases e2 : a = k
    · rw [if_pos ⟨e2, rfl⟩, if_pos ⟨e2, rfl⟩]; exact .inl rfl
    · refine .inr ⟨a, ha, ?_, ?_⟩
      · rw [if_neg (fun h => e2 h.1)]
        show AV.tre 501 _ = AV.tre 501 _
        rw [show pmI (h.rows.length - 1) k a = if a < k then a else a - 1 from by
          unfold pmI
          by_cases e : a < k
          · rw [if_pos e, if_pos e]
          · rw [if_neg e, if_neg e, if_neg e2]]
      · rw [if_neg (fun h => e2 h.1)]; rfl
  | _ + 2, h => absurd h (by omega)
theorem pmI_self {n k : Nat} : pmI n k k = n := by unfold pmI; rw [if_neg (Nat.lt_irrefl _), if_pos rfl]
theorem rowC_row {h : GHead} {x : GSay} (hir : isRow h x.name = true) (hc : takeCode h x = 1) (K a b : Nat) : (if a = loF h x.name ∧ b = 1 then .tre K (loF h x.name) else if a = loF h x.name ∧ b = 1 then .tre 500 (loF h x.name) else rowC0 h K a b) = rowC0 (takeH h x) K a b := by
  have h1 : rowC0 (takeH h x) K a b = rowC0 h K a b := by
    unfold rowC0; rw [tR_row hir hc, set_at _ (row_lo hir)]
    by_cases e : a = loF h x.name
    · rw [if_pos e, e]
    · rw [if_neg e]
  rw [h1]
  by_cases e : a = loF h x.name ∧ b = 1
  · rw [if_pos e, e.1, e.2]; rfl
  · rw [if_neg e, if_neg e]
theorem rowX_row {h : GHead} {x : GSay} (hir : isRow h x.name = true) (hc : takeCode h x = 1) {q : Nat} (hq : q < h.rows.length) : takeY h x (pmI (h.rows.length - 1) (loF h x.name) q) = rowX0 (takeH h x) q := by
  have hlo := row_lo hir
  unfold rowX0 pmI
  rw [tR_row hir hc, set_at _ hlo]
  by_cases e : q < loF h x.name
  · rw [if_pos e, if_neg (by omega), takeY, if_pos (by omega), skP, if_pos e, takeX_lt hq]; rfl
  · rw [if_neg e]
    by_cases e2 : q = loF h x.name
    · rw [if_pos e2, if_pos e2, takeY_n]
    · rw [if_neg e2, if_neg e2, takeY, if_pos (by omega), skP, if_neg (by omega), show q - 1 + 1 = q by omega, takeX_lt hq]; rfl
theorem rowX_ins {h : GHead} {x : GSay} (hir : isRow h x.name = false) (hc : takeCode h x = 1) {q : Nat} (hq : q < h.rows.length + 1) : takeX h x (pmI h.rows.length (loF h x.name) q) = rowX0 (takeH h x) q := by
  have hlo := loF_le h x.name
  unfold rowX0 pmI
  rw [tR_ins hir hc, insL_at _ hlo]
  by_cases e : q < loF h x.name
  · rw [if_pos e, if_pos e, takeX_lt (by omega)]; rfl
  · rw [if_neg e, if_neg e]
    by_cases e2 : q = loF h x.name
    · rw [if_pos e2, if_pos e2, takeX_n]
    · rw [if_neg e2, if_neg e2, takeX_lt (by omega)]; rfl
theorem row_ins {h : GHead} {x : GSay} (hir : isRow h x.name = false) (hc : takeCode h x = 1) : ∀ a b, a < h.rows.length + 1 → b < 2 → rowC0 (takeH h x) 78 a b = (if a = loF h x.name ∧ b = 1 then .tre 500 h.rows.length else insF (rowC0 h 500) (newC x) (loF h x.name) a b) ∨ ∃ p, p < h.rows.length + 1 ∧ (if a = loF h x.name ∧ b = 1 then .tre 500 h.rows.length else insF (rowC0 h 500) (newC x) (loF h x.name) a b) = .tre 500 (pmI h.rows.length (loF h x.name) p) ∧ rowC0 (takeH h x) 78 a b = .tre 78 p := fun a b ha hb => match b, hb with
  | 0, _ => by
    refine .inl ?_
    rw [if_neg (by omega)]
    unfold insF
    show AV.str ((takeH h x).rows.getD a (default : GRow)).name = _
    rw [tR_ins hir hc, insL_at _ (loF_le h x.name)]
    split
    · rfl
    · split <;> rfl
  | 1, _ => by
    refine .inr ⟨a, ha, ?_, rfl⟩
    unfold insF pmI
    by_cases e2 : a = loF h x.name
    · rw [if_pos ⟨e2, rfl⟩, if_neg (by omega), if_pos e2]
    · rw [if_neg (fun h => e2 h.1)]
      by_cases e : a < loF h x.name
      · rw [if_pos e, if_pos e]; rfl
      · rw [if_neg e, if_neg e, if_neg e2, if_neg e2]; rfl
  | _ + 2, h => absurd h (by omega)
theorem insF_new {f g : Nat → Nat → AV} {i b : Nat} : insF f g i i b = g 0 b := by unfold insF; rw [if_neg (Nat.lt_irrefl _), if_pos rfl]

theorem v_FindR (h : GHead) (o : Int) (s : ByteArray) (hl : h.rows.length ≤ 1048576) (hg : goodHead ⟨h.rows, 0⟩ = true) : Fn Try.prog 48 [.one (.ref 2 (fun j => ([.lst 2 h.rows.length (fun i0 j0 => ([.str ((h.rows.getD i0 (default : GRow)).name), .lst 2 (((h.rows.getD i0 (default : GRow)).samples).length) (fun i1 j1 => ([.int .i64 ((((h.rows.getD i0 (default : GRow)).samples).getD i1 (default : GSample)).at_), .int .i64 ((((h.rows.getD i0 (default : GRow)).samples).getD i1 (default : GSample)).value)] : List AV).getD j1 (.con undef))] : List AV).getD j0 (.con undef)), .int .i64 o] : List AV).getD j (.con undef))), .one (.str s)] (.tup2 (.one (.int .i64 (loF h s : Int))) (.one (.bool (isRow h s)))) := by
  refine Fn.of_body (fn := Try.f48) Try.func48 rfl (Nat.le_of_ble_eq_true rfl) ⟨trivial, trivial⟩ ?_
  intro w0
  show AW _ 14 _ _ _ _
  refine AW.seq ?_
  refine AW.region ?_
  refine ARun.pure (PureOp.assign rfl .int) rfl rfl (Nat.le_of_ble_eq_true rfl) ?_
  refine ARun.pure (PureOp.assign rfl .bool) rfl rfl (Nat.le_of_ble_eq_true rfl) ?_
  refine ARun.nil ?_
  refine AW.seq ?_
  refine AW.region ?_
  refine ARun.pure (PureOp.move rfl (.tmp rfl)) rfl rfl (Nat.le_of_ble_eq_true rfl) ?_
  refine ARun.pure (PureOp.nilRef rfl (.tmp rfl)) rfl rfl (Nat.le_of_ble_eq_true rfl) ?_
  refine ARun.pure (PureOp.fieldRef rfl (.tmp rfl) vtk_fi_29_0_0 (Nat.le_of_ble_eq_true rfl)) rfl rfl (Nat.le_of_ble_eq_true rfl) ?_
  refine ARun.pure (PureOp.loadRef rfl (.tmp rfl) vtk_pl_27 (Nat.le_of_ble_eq_true rfl)) rfl rfl (Nat.le_of_ble_eq_true rfl) ?_
  refine ARun.pure (PureOp.move rfl (.tmp rfl)) rfl rfl (Nat.le_of_ble_eq_true rfl) ?_
  refine ARun.pure (PureOp.call rfl (v_Bs h.rows s (loF h s) (by omega) (loF_le h s) (fun _ hq => loF_lt hq) (fun _ hq1 hq2 => loF_ge (h := ⟨h.rows, 0⟩) (s := s) hg hq1 hq2)) ⟨⟨_, (.tmp rfl), .lst⟩, ⟨_, (.tmp rfl), .str⟩, ⟨_, .func, (.fn (fun j h => absurd h (by omega)))⟩, trivial⟩ vtk_ca_74 ⟨trivial, trivial⟩) rfl rfl (Nat.le_of_ble_eq_true rfl) ?_
  refine ARun.pure (PureOp.ext2a rfl (.tmp rfl)) rfl rfl (Nat.le_of_ble_eq_true rfl) ?_
  refine ARun.pure (PureOp.ext2b rfl (.tmp rfl)) rfl rfl (Nat.le_of_ble_eq_true rfl) ?_
  refine ARun.pure (PureOp.assign rfl (.tmp rfl)) rfl rfl (Nat.le_of_ble_eq_true rfl) ?_
  refine ARun.pure (PureOp.assign rfl (.tmp rfl)) rfl rfl (Nat.le_of_ble_eq_true rfl) ?_
  refine ARun.nil ?_
  refine AW.ret (show ResL _ _ [.tmp 4, .tmp 5] _ from res2I rfl rfl ?_)
  exact ⟨rfl, rfl⟩

theorem v_take0 (h : GHead) (x : GSay) (hg : goodHead ⟨h.rows, 0⟩ = true) (ho : 0 ≤ h.offset ∧ h.offset ≤ 1000000) : FnG Try.prog 60 [.one (.ptr 1000000 2 0 0), .agg [.str x.name, .int .i64 x.at_, .int .i64 x.value]] [(1000000, .cells [.own 1000001 2 h.rows.length, .int .i64 h.offset]), (1000001, .arr 2 h.rows.length (rowC0 h 1000002)), (1000002, .trees h.rows.length (rowX0 h))] (.one (.int .i64 ((takeCode h x : Nat) : Int))) [(77, .arr 2 (takeN h x) (rowC0 (takeH h x) 78)), (78, .trees (takeN h x) (rowX0 (takeH h x))), (1000000, .cells [.own 77 2 (takeN h x), .int .i64 ((takeH h x).offset)])] := by
  obtain ⟨ho0, ho1⟩ := ho
  have hr8 : h.rows.length ≤ 8 := good_len (h := ⟨h.rows, 0⟩) hg
  refine FnG.of_body (fn := Try.f60) Try.func60 rfl (Nat.le_of_ble_eq_true rfl) ?_
  intro w0
  show AW _ 94 _ _ _ _
  refine AW.reindex 1000002 500 1000001 h.rows.length h.rows.length 2 h.rows.length id (rowX0 h) (rowC0 h 1000002) (rowC0 h 500) rfl rfl (fun _ hi => hi) (fun _ _ _ _ e => e) row_id ⟨rfl, (by repeat first | exact trivial | refine ⟨by decide, by first | rfl | exact trivial | (intro a_ b_; first | exact getD_no rfl | exact rowC0_no rfl _ _ | exact rowS_no rfl rfl _ _ | exact insF_no (rowC0_no rfl) (fun _ _ => getD_no rfl) _ _ _ | ((try dsimp only); (repeat' split) <;> first | rfl | exact rowC0_no rfl _ _ | exact getD_no rfl | exact insF_no (rowC0_no rfl) (fun _ _ => getD_no rfl) _ _ _)), ?_⟩)⟩ ?_
  refine AW.hle (H' := [(500, .trees h.rows.length (takeX h x)), (1000000, .cells [.own 1000001 2 h.rows.length, .int .i64 h.offset]), (1000001, .arr 2 h.rows.length (rowC0 h 500))]) ⟨⟨_, rfl, fun _ hi => (takeX_lt hi).symm⟩, HeapLe.one rfl (HeapLe.one rfl trivial)⟩ ?_
  refine AW.seq ?_
  refine AW.region ?_
  refine ARun.box (id := 0) rfl (.tmp rfl) (SV.cells_of (by exact ⟨trivial, trivial, trivial, trivial⟩)) ⟨rfl, (by repeat first | exact trivial | refine ⟨by decide, by first | rfl | exact trivial | (intro a_ b_; first | exact getD_no rfl | exact rowC0_no rfl _ _ | exact rowS_no rfl rfl _ _ | exact insF_no (rowC0_no rfl) (fun _ _ => getD_no rfl) _ _ _ | ((try dsimp only); (repeat' split) <;> first | rfl | exact rowC0_no rfl _ _ | exact getD_no rfl | exact insF_no (rowC0_no rfl) (fun _ _ => getD_no rfl) _ _ _)), ?_⟩)⟩ rfl rfl rfl (Nat.le_of_ble_eq_true rfl) ?_
  refine ARun.pure (PureOp.assign rfl .int) rfl rfl (Nat.le_of_ble_eq_true rfl) ?_
  refine ARun.nil ?_
  refine AW.seq ?_
  refine AW.region ?_
  refine ARun.pure (PureOp.move rfl (.tmp rfl)) rfl rfl (Nat.le_of_ble_eq_true rfl) ?_
  refine ARun.pure (PureOp.nilPtr rfl (.tmp rfl)) rfl rfl (Nat.le_of_ble_eq_true rfl) ?_
  refine ARun.pure (PureOp.fieldPtr rfl (.tmp rfl) vtk_fi_29_1_1) rfl rfl (Nat.le_of_ble_eq_true rfl) ?_
  refine ARun.pure (PureOp.loadPtr rfl (.tmp rfl) vtk_pl_3 rfl rfl (Nat.le_of_ble_eq_true rfl) (Nat.le_of_ble_eq_true rfl)) rfl rfl (Nat.le_of_ble_eq_true rfl) ?_
  refine ARun.pure (PureOp.add (c := h.offset + 1) rfl (.tmp rfl) .int (wrap_id (by omega) (by omega))) rfl rfl (Nat.le_of_ble_eq_true rfl) ?_
  refine ARun.pure (PureOp.nilPtr rfl (.tmp rfl)) rfl rfl (Nat.le_of_ble_eq_true rfl) ?_
  refine ARun.pure (PureOp.fieldPtr rfl (.tmp rfl) vtk_fi_29_1_1) rfl rfl (Nat.le_of_ble_eq_true rfl) ?_
  refine ARun.store rfl (.tmp rfl) (.tmp rfl) trivial rfl (Nat.le_of_ble_eq_true rfl) vtk_sz_3_1 rfl rfl ?_
  refine ARun.nil ?_
  refine AW.seq ?_
  refine AW.region ?_
  refine ARun.pure (PureOp.move rfl (.tmp rfl)) rfl rfl (Nat.le_of_ble_eq_true rfl) ?_
  refine ARun.pure (PureOp.fieldPtr rfl (.tmp rfl) vtk_fi_47_0_0) rfl rfl (Nat.le_of_ble_eq_true rfl) ?_
  refine ARun.pure (PureOp.loadPtr rfl (.tmp rfl) vtk_pl_9 rfl rfl (Nat.le_of_ble_eq_true rfl) (Nat.le_of_ble_eq_true rfl)) rfl rfl (Nat.le_of_ble_eq_true rfl) ?_
  refine ARun.pure (PureOp.call rfl (v_FindR h (h.offset + 1) x.name (by omega) hg) ⟨⟨_, (.tmp rfl), (.ptr (m := 2) rfl rfl (Nat.le_of_ble_eq_true rfl) (Nat.le_of_ble_eq_true rfl) (fun | 0, _ => (.own rfl rfl (Nat.le_refl _) (fun i j hi hj => (match j, hj with | 0, _ => .str | 1, _ => (Vw.cast (Vw.tre rfl hi) ((takeX_lt hi).trans rfl)) | _ + 2, h => absurd h (by omega)))) | 1, _ => .int | _ + 2, h => absurd h (by omega)))⟩, ⟨_, (.tmp rfl), .str⟩, trivial⟩ vtk_ca_48 ⟨trivial, trivial⟩) rfl rfl (Nat.le_of_ble_eq_true rfl) ?_
  refine ARun.pure (PureOp.move rfl (.tmp rfl)) rfl rfl (Nat.le_of_ble_eq_true rfl) ?_
  refine ARun.pure (PureOp.ext2a rfl (.tmp rfl)) rfl rfl (Nat.le_of_ble_eq_true rfl) ?_
  refine ARun.pure (PureOp.ext2b rfl (.tmp rfl)) rfl rfl (Nat.le_of_ble_eq_true rfl) ?_
  refine ARun.pure (PureOp.assign rfl (.tmp rfl)) rfl rfl (Nat.le_of_ble_eq_true rfl) ?_
  refine ARun.pure (PureOp.assign rfl (.tmp rfl)) rfl rfl (Nat.le_of_ble_eq_true rfl) ?_
  refine ARun.nil ?_
  refine AW.seq ?_
  refine AW.seq ?_
  refine AW.region ?_
  refine ARun.pure (PureOp.move rfl (.tmp rfl)) rfl rfl (Nat.le_of_ble_eq_true rfl) ?_
  refine ARun.pure (PureOp.not rfl (.tmp rfl)) rfl rfl (Nat.le_of_ble_eq_true rfl) ?_
  refine ARun.nil ?_
  refine AW.cond (.tmp rfl) (fun hb1 => ?_) (fun hb1 => ?_)
  · have _u := True.intro
    have hir : isRow h x.name = false := of_not hb1
    have hlo := loF_le h x.name
    refine AW.seq ?_
    refine AW.seq ?_
    refine AW.region ?_
    refine ARun.pure (PureOp.move rfl (.tmp rfl)) rfl rfl (Nat.le_of_ble_eq_true rfl) ?_
    refine ARun.pure (PureOp.nilPtr rfl (.tmp rfl)) rfl rfl (Nat.le_of_ble_eq_true rfl) ?_
    refine ARun.pure (PureOp.fieldPtr rfl (.tmp rfl) vtk_fi_29_0_0) rfl rfl (Nat.le_of_ble_eq_true rfl) ?_
    refine ARun.pure (PureOp.loadPtr rfl (.tmp rfl) vtk_pl_27 rfl rfl (Nat.le_of_ble_eq_true rfl) (Nat.le_of_ble_eq_true rfl)) rfl rfl (Nat.le_of_ble_eq_true rfl) ?_
    refine ARun.pure (PureOp.lenOwn rfl (.tmp rfl) vtk_sl_27) rfl rfl (Nat.le_of_ble_eq_true rfl) ?_
    refine ARun.pure (PureOp.intOp rfl (.tmp rfl) .int rfl) rfl rfl (Nat.le_of_ble_eq_true rfl) ?_
    refine ARun.nil ?_
    refine AW.cond (.tmp rfl) (fun hb2 => ?_) (fun hb2 => ?_)
    · have _u := True.intro
      replace hb2 := of_decide_eq_true hb2
      have hcode := tk_full8 hir (show h.rows.length = 8 from by omega)
      have hcn : ¬ takeCode h x = 1 := by omega
      refine AW.seq ?_
      refine AW.region ?_
      refine ARun.pure (PureOp.assign rfl .int) rfl rfl (Nat.le_of_ble_eq_true rfl) ?_
      refine ARun.nil ?_
      rw [tN_old hcn, hcode]
      refine AW.moveCell 1000000 0 1000001 77 2 h.rows.length [.own 1000001 2 h.rows.length, .int .i64 (h.offset + 1)] [.own 77 2 h.rows.length, .int .i64 (h.offset + 1)] rfl rfl rfl rfl rfl (by decide) ⟨rfl, (by repeat first | exact trivial | refine ⟨by decide, by first | rfl | exact trivial | (intro a_ b_; first | exact getD_no rfl | exact rowC0_no rfl _ _ | exact rowS_no rfl rfl _ _ | exact insF_no (rowC0_no rfl) (fun _ _ => getD_no rfl) _ _ _ | ((try dsimp only); (repeat' split) <;> first | rfl | exact rowC0_no rfl _ _ | exact getD_no rfl | exact insF_no (rowC0_no rfl) (fun _ _ => getD_no rfl) _ _ _)), ?_⟩)⟩ ?_
      refine AW.reindex 500 78 77 h.rows.length h.rows.length 2 h.rows.length id (takeX h x) (rowC0 h 500) (rowC0 h 78) rfl rfl (fun _ hi => hi) (fun _ _ _ _ e => e) row_id ⟨rfl, (by repeat first | exact trivial | refine ⟨by decide, by first | rfl | exact trivial | (intro a_ b_; first | exact getD_no rfl | exact rowC0_no rfl _ _ | exact rowS_no rfl rfl _ _ | exact insF_no (rowC0_no rfl) (fun _ _ => getD_no rfl) _ _ _ | ((try dsimp only); (repeat' split) <;> first | rfl | exact rowC0_no rfl _ _ | exact getD_no rfl | exact insF_no (rowC0_no rfl) (fun _ _ => getD_no rfl) _ _ _)), ?_⟩)⟩ ?_
      refine AW.ret (show ResL _ _ [.tmp 4] _ ∧ HeapLe _ _ from ⟨resI rfl ?_, ⟨⟨_, rfl, rfl, Nat.le_refl _, fun a b _ _ => rowC_old hcn 78 a b⟩, ⟨_, rfl, fun q hq => rowX_old hcn hq⟩, HLe.refl rfl, trivial⟩⟩)
      rfl
    · have _u := True.intro
      replace hb2 := of_decide_eq_false hb2
      have hcode := tk_ins hir (show ¬ h.rows.length = 8 from by omega)
      refine AW.skip ?_
      refine AW.anyX [⟨[], [], [], []⟩, ⟨[], [], [], []⟩, ⟨[], [], [], []⟩, ⟨[], [], [], []⟩, ⟨[1000000], [], [], []⟩, ⟨[], [], [], []⟩, ⟨[], [], [], []⟩, ⟨[0], [], [], []⟩, ⟨[], [], [], []⟩, ⟨[], [1], [1], [(1, .arr 2 1 (fun _ jc => ([.str x.name, .con (.slice none 0 0)] : List AV).getD jc (.con undef)))]⟩, ⟨[], [1, 77, 1000001], [77], [(77, .arr 2 (h.rows.length + 1) (insF (rowC0 h 500) (newC x) (loF h x.name)))]⟩, ⟨[], [], [], []⟩, ⟨[], [], [], []⟩, ⟨[], [1000000], [], [(1000000, .cells [.own 77 2 (h.rows.length + 1), .int .i64 (h.offset + 1)])]⟩] (by kernel_rfl) (by kernel_rfl) (by kernel_rfl) ⟨⟨.inl rfl, .inr (.inr trivial), .inr (.inr trivial), .inr (.inr trivial), .inr (.inr trivial), .inr (.inr trivial), .inr (.inr trivial), .inr (.inr trivial), .inr (.inr trivial), .inr (.inr (by repeat first | exact trivial | refine And.intro ?_ ?_ | exact rfl | ((intro a_ b_; first | exact getD_no rfl | exact rowC0_no rfl _ _ | exact rowS_no rfl rfl _ _ | exact insF_no (rowC0_no rfl) (fun _ _ => getD_no rfl) _ _ _ | ((try dsimp only); (repeat' split) <;> first | rfl | exact rowC0_no rfl _ _ | exact getD_no rfl | exact insF_no (rowC0_no rfl) (fun _ _ => getD_no rfl) _ _ _))))), .inr (.inr (by repeat first | exact trivial | refine And.intro ?_ ?_ | exact rfl | ((intro a_ b_; first | exact getD_no rfl | exact rowC0_no rfl _ _ | exact rowS_no rfl rfl _ _ | exact insF_no (rowC0_no rfl) (fun _ _ => getD_no rfl) _ _ _ | ((try dsimp only); (repeat' split) <;> first | rfl | exact rowC0_no rfl _ _ | exact getD_no rfl | exact insF_no (rowC0_no rfl) (fun _ _ => getD_no rfl) _ _ _))))), .inr (.inr trivial), .inr (.inr trivial), .inr (.inr trivial), trivial⟩, ⟨.inr (.inr trivial), .inl rfl, .inr (.inr trivial), .inr (.inr trivial), .inr (.inr trivial), .inr (.inr trivial), .inr (.inr trivial), .inr (.inr trivial), .inr (.inr trivial), .inr (.inr (by repeat first | exact trivial | refine And.intro ?_ ?_ | exact rfl | ((intro a_ b_; first | exact getD_no rfl | exact rowC0_no rfl _ _ | exact rowS_no rfl rfl _ _ | exact insF_no (rowC0_no rfl) (fun _ _ => getD_no rfl) _ _ _ | ((try dsimp only); (repeat' split) <;> first | rfl | exact rowC0_no rfl _ _ | exact getD_no rfl | exact insF_no (rowC0_no rfl) (fun _ _ => getD_no rfl) _ _ _))))), .inr (.inr (by repeat first | exact trivial | refine And.intro ?_ ?_ | exact rfl | ((intro a_ b_; first | exact getD_no rfl | exact rowC0_no rfl _ _ | exact rowS_no rfl rfl _ _ | exact insF_no (rowC0_no rfl) (fun _ _ => getD_no rfl) _ _ _ | ((try dsimp only); (repeat' split) <;> first | rfl | exact rowC0_no rfl _ _ | exact getD_no rfl | exact insF_no (rowC0_no rfl) (fun _ _ => getD_no rfl) _ _ _))))), .inr (.inr trivial), .inr (.inr trivial), .inr (.inr trivial), trivial⟩, ⟨.inr (.inr trivial), .inr (.inr trivial), .inl rfl, .inr (.inr trivial), .inr (.inr trivial), .inr (.inr trivial), .inr (.inr trivial), .inr (.inr trivial), .inr (.inr trivial), .inr (.inr (by repeat first | exact trivial | refine And.intro ?_ ?_ | exact rfl | ((intro a_ b_; first | exact getD_no rfl | exact rowC0_no rfl _ _ | exact rowS_no rfl rfl _ _ | exact insF_no (rowC0_no rfl) (fun _ _ => getD_no rfl) _ _ _ | ((try dsimp only); (repeat' split) <;> first | rfl | exact rowC0_no rfl _ _ | exact getD_no rfl | exact insF_no (rowC0_no rfl) (fun _ _ => getD_no rfl) _ _ _))))), .inr (.inr (by repeat first | exact trivial | refine And.intro ?_ ?_ | exact rfl | ((intro a_ b_; first | exact getD_no rfl | exact rowC0_no rfl _ _ | exact rowS_no rfl rfl _ _ | exact insF_no (rowC0_no rfl) (fun _ _ => getD_no rfl) _ _ _ | ((try dsimp only); (repeat' split) <;> first | rfl | exact rowC0_no rfl _ _ | exact getD_no rfl | exact insF_no (rowC0_no rfl) (fun _ _ => getD_no rfl) _ _ _))))), .inr (.inr trivial), .inr (.inr trivial), .inr (.inr trivial), trivial⟩, ⟨.inr (.inr trivial), .inr (.inr trivial), .inr (.inr trivial), .inl rfl, .inr (.inr trivial), .inr (.inr trivial), .inr (.inr trivial), .inr (.inr trivial), .inr (.inr trivial), .inr (.inr (by repeat first | exact trivial | refine And.intro ?_ ?_ | exact rfl | ((intro a_ b_; first | exact getD_no rfl | exact rowC0_no rfl _ _ | exact rowS_no rfl rfl _ _ | exact insF_no (rowC0_no rfl) (fun _ _ => getD_no rfl) _ _ _ | ((try dsimp only); (repeat' split) <;> first | rfl | exact rowC0_no rfl _ _ | exact getD_no rfl | exact insF_no (rowC0_no rfl) (fun _ _ => getD_no rfl) _ _ _))))), .inr (.inr (by repeat first | exact trivial | refine And.intro ?_ ?_ | exact rfl | ((intro a_ b_; first | exact getD_no rfl | exact rowC0_no rfl _ _ | exact rowS_no rfl rfl _ _ | exact insF_no (rowC0_no rfl) (fun _ _ => getD_no rfl) _ _ _ | ((try dsimp only); (repeat' split) <;> first | rfl | exact rowC0_no rfl _ _ | exact getD_no rfl | exact insF_no (rowC0_no rfl) (fun _ _ => getD_no rfl) _ _ _))))), .inr (.inr trivial), .inr (.inr trivial), .inr (.inr trivial), trivial⟩, ⟨.inr (.inr trivial), .inr (.inr trivial), .inr (.inr trivial), .inr (.inr trivial), .inl rfl, .inr (.inr trivial), .inr (.inr trivial), .inr (.inr trivial), .inr (.inr trivial), .inr (.inr (by repeat first | exact trivial | refine And.intro ?_ ?_ | exact rfl | ((intro a_ b_; first | exact getD_no rfl | exact rowC0_no rfl _ _ | exact rowS_no rfl rfl _ _ | exact insF_no (rowC0_no rfl) (fun _ _ => getD_no rfl) _ _ _ | ((try dsimp only); (repeat' split) <;> first | rfl | exact rowC0_no rfl _ _ | exact getD_no rfl | exact insF_no (rowC0_no rfl) (fun _ _ => getD_no rfl) _ _ _))))), .inr (.inr (by repeat first | exact trivial | refine And.intro ?_ ?_ | exact rfl | ((intro a_ b_; first | exact getD_no rfl | exact rowC0_no rfl _ _ | exact rowS_no rfl rfl _ _ | exact insF_no (rowC0_no rfl) (fun _ _ => getD_no rfl) _ _ _ | ((try dsimp only); (repeat' split) <;> first | rfl | exact rowC0_no rfl _ _ | exact getD_no rfl | exact insF_no (rowC0_no rfl) (fun _ _ => getD_no rfl) _ _ _))))), .inr (.inr trivial), .inr (.inr trivial), .inr (.inr trivial), trivial⟩, ⟨.inr (.inr trivial), .inr (.inr trivial), .inr (.inr trivial), .inr (.inr trivial), .inr (.inr trivial), .inl rfl, .inr (.inr trivial), .inr (.inr trivial), .inr (.inr trivial), .inr (.inr (by repeat first | exact trivial | refine And.intro ?_ ?_ | exact rfl | ((intro a_ b_; first | exact getD_no rfl | exact rowC0_no rfl _ _ | exact rowS_no rfl rfl _ _ | exact insF_no (rowC0_no rfl) (fun _ _ => getD_no rfl) _ _ _ | ((try dsimp only); (repeat' split) <;> first | rfl | exact rowC0_no rfl _ _ | exact getD_no rfl | exact insF_no (rowC0_no rfl) (fun _ _ => getD_no rfl) _ _ _))))), .inr (.inr (by repeat first | exact trivial | refine And.intro ?_ ?_ | exact rfl | ((intro a_ b_; first | exact getD_no rfl | exact rowC0_no rfl _ _ | exact rowS_no rfl rfl _ _ | exact insF_no (rowC0_no rfl) (fun _ _ => getD_no rfl) _ _ _ | ((try dsimp only); (repeat' split) <;> first | rfl | exact rowC0_no rfl _ _ | exact getD_no rfl | exact insF_no (rowC0_no rfl) (fun _ _ => getD_no rfl) _ _ _))))), .inr (.inr trivial), .inr (.inr trivial), .inr (.inr trivial), trivial⟩, ⟨.inr (.inr trivial), .inr (.inr trivial), .inr (.inr trivial), .inr (.inr trivial), .inr (.inr trivial), .inr (.inr trivial), .inl rfl, .inr (.inr trivial), .inr (.inr trivial), .inr (.inr (by repeat first | exact trivial | refine And.intro ?_ ?_ | exact rfl | ((intro a_ b_; first | exact getD_no rfl | exact rowC0_no rfl _ _ | exact rowS_no rfl rfl _ _ | exact insF_no (rowC0_no rfl) (fun _ _ => getD_no rfl) _ _ _ | ((try dsimp only); (repeat' split) <;> first | rfl | exact rowC0_no rfl _ _ | exact getD_no rfl | exact insF_no (rowC0_no rfl) (fun _ _ => getD_no rfl) _ _ _))))), .inr (.inr (by repeat first | exact trivial | refine And.intro ?_ ?_ | exact rfl | ((intro a_ b_; first | exact getD_no rfl | exact rowC0_no rfl _ _ | exact rowS_no rfl rfl _ _ | exact insF_no (rowC0_no rfl) (fun _ _ => getD_no rfl) _ _ _ | ((try dsimp only); (repeat' split) <;> first | rfl | exact rowC0_no rfl _ _ | exact getD_no rfl | exact insF_no (rowC0_no rfl) (fun _ _ => getD_no rfl) _ _ _))))), .inr (.inr trivial), .inr (.inr trivial), .inr (.inr trivial), trivial⟩, ⟨.inr (.inr trivial), .inr (.inr trivial), .inr (.inr trivial), .inr (.inr trivial), .inr (.inr trivial), .inr (.inr trivial), .inr (.inr trivial), .inl rfl, .inr (.inr trivial), .inr (.inr (by repeat first | exact trivial | refine And.intro ?_ ?_ | exact rfl | ((intro a_ b_; first | exact getD_no rfl | exact rowC0_no rfl _ _ | exact rowS_no rfl rfl _ _ | exact insF_no (rowC0_no rfl) (fun _ _ => getD_no rfl) _ _ _ | ((try dsimp only); (repeat' split) <;> first | rfl | exact rowC0_no rfl _ _ | exact getD_no rfl | exact insF_no (rowC0_no rfl) (fun _ _ => getD_no rfl) _ _ _))))), .inr (.inr (by repeat first | exact trivial | refine And.intro ?_ ?_ | exact rfl | ((intro a_ b_; first | exact getD_no rfl | exact rowC0_no rfl _ _ | exact rowS_no rfl rfl _ _ | exact insF_no (rowC0_no rfl) (fun _ _ => getD_no rfl) _ _ _ | ((try dsimp only); (repeat' split) <;> first | rfl | exact rowC0_no rfl _ _ | exact getD_no rfl | exact insF_no (rowC0_no rfl) (fun _ _ => getD_no rfl) _ _ _))))), .inr (.inr trivial), .inr (.inr trivial), .inr (.inr trivial), trivial⟩, ⟨.inr (.inr trivial), .inr (.inr trivial), .inr (.inr trivial), .inr (.inr trivial), .inr (.inr trivial), .inr (.inr trivial), .inr (.inr trivial), .inr (.inr trivial), .inl rfl, .inr (.inr (by repeat first | exact trivial | refine And.intro ?_ ?_ | exact rfl | ((intro a_ b_; first | exact getD_no rfl | exact rowC0_no rfl _ _ | exact rowS_no rfl rfl _ _ | exact insF_no (rowC0_no rfl) (fun _ _ => getD_no rfl) _ _ _ | ((try dsimp only); (repeat' split) <;> first | rfl | exact rowC0_no rfl _ _ | exact getD_no rfl | exact insF_no (rowC0_no rfl) (fun _ _ => getD_no rfl) _ _ _))))), .inr (.inr (by repeat first | exact trivial | refine And.intro ?_ ?_ | exact rfl | ((intro a_ b_; first | exact getD_no rfl | exact rowC0_no rfl _ _ | exact rowS_no rfl rfl _ _ | exact insF_no (rowC0_no rfl) (fun _ _ => getD_no rfl) _ _ _ | ((try dsimp only); (repeat' split) <;> first | rfl | exact rowC0_no rfl _ _ | exact getD_no rfl | exact insF_no (rowC0_no rfl) (fun _ _ => getD_no rfl) _ _ _))))), .inr (.inr trivial), .inr (.inr trivial), .inr (.inr trivial), trivial⟩, ⟨.inr (.inr trivial), .inr (.inr trivial), .inr (.inr trivial), .inr (.inr trivial), .inr (.inr trivial), .inr (.inr trivial), .inr (.inr trivial), .inr (.inr trivial), .inr (.inr trivial), .inl rfl, .inr (.inr (by repeat first | exact trivial | refine And.intro ?_ ?_ | exact rfl | ((intro a_ b_; first | exact getD_no rfl | exact rowC0_no rfl _ _ | exact rowS_no rfl rfl _ _ | exact insF_no (rowC0_no rfl) (fun _ _ => getD_no rfl) _ _ _ | ((try dsimp only); (repeat' split) <;> first | rfl | exact rowC0_no rfl _ _ | exact getD_no rfl | exact insF_no (rowC0_no rfl) (fun _ _ => getD_no rfl) _ _ _))))), .inr (.inr trivial), .inr (.inr trivial), .inr (.inr trivial), trivial⟩, ⟨.inr (.inr trivial), .inr (.inr trivial), .inr (.inr trivial), .inr (.inr trivial), .inr (.inr trivial), .inr (.inr trivial), .inr (.inr trivial), .inr (.inr trivial), .inr (.inr trivial), .inr (.inl (by kernel_rfl)), .inl rfl, .inr (.inr trivial), .inr (.inr trivial), .inr (.inr trivial), trivial⟩, ⟨.inr (.inr trivial), .inr (.inr trivial), .inr (.inr trivial), .inr (.inr trivial), .inr (.inr trivial), .inr (.inr trivial), .inr (.inr trivial), .inr (.inr trivial), .inr (.inr trivial), .inr (.inl (by kernel_rfl)), .inr (.inl (by kernel_rfl)), .inl rfl, .inr (.inr trivial), .inr (.inr trivial), trivial⟩, ⟨.inr (.inr trivial), .inr (.inr trivial), .inr (.inr trivial), .inr (.inr trivial), .inr (.inr trivial), .inr (.inr trivial), .inr (.inr trivial), .inr (.inr trivial), .inr (.inr trivial), .inr (.inl (by kernel_rfl)), .inr (.inl (by kernel_rfl)), .inr (.inr trivial), .inl rfl, .inr (.inr trivial), trivial⟩, ⟨.inr (.inr trivial), .inr (.inr trivial), .inr (.inr trivial), .inr (.inr trivial), .inr (.inr trivial), .inr (.inr trivial), .inr (.inr trivial), .inr (.inr trivial), .inr (.inr trivial), .inr (.inl (by kernel_rfl)), .inr (.inl (by kernel_rfl)), .inr (.inr trivial), .inr (.inr trivial), .inl rfl, trivial⟩, trivial⟩ ⟨trivial, trivial, trivial, trivial, trivial, trivial, trivial, trivial, trivial, ⟨(by repeat first | exact trivial | refine ⟨by decide, by first | rfl | exact trivial | (intro a_ b_; first | exact getD_no rfl | exact rowC0_no rfl _ _ | exact rowS_no rfl rfl _ _ | exact insF_no (rowC0_no rfl) (fun _ _ => getD_no rfl) _ _ _ | ((try dsimp only); (repeat' split) <;> first | rfl | exact rowC0_no rfl _ _ | exact getD_no rfl | exact insF_no (rowC0_no rfl) (fun _ _ => getD_no rfl) _ _ _)), ?_⟩), trivial⟩, ⟨(by repeat first | exact trivial | refine ⟨by decide, by first | rfl | exact trivial | (intro a_ b_; first | exact getD_no rfl | exact rowC0_no rfl _ _ | exact rowS_no rfl rfl _ _ | exact insF_no (rowC0_no rfl) (fun _ _ => getD_no rfl) _ _ _ | ((try dsimp only); (repeat' split) <;> first | rfl | exact rowC0_no rfl _ _ | exact getD_no rfl | exact insF_no (rowC0_no rfl) (fun _ _ => getD_no rfl) _ _ _)), ?_⟩), trivial⟩, trivial, trivial, trivial, trivial⟩ ?_
      refine ADX.pure [] (PureOp.move rfl (.tmp rfl)) rfl rfl (Nat.le_of_ble_eq_true rfl) trivial rfl ?_
      refine ADX.pure [] (PureOp.move rfl (.tmp rfl)) rfl rfl (Nat.le_of_ble_eq_true rfl) trivial rfl ?_
      refine ADX.pure [] (PureOp.nilPtr rfl (.tmp rfl)) rfl rfl (Nat.le_of_ble_eq_true rfl) trivial rfl ?_
      refine ADX.pure [] (PureOp.fieldPtr rfl (.tmp rfl) vtk_fi_29_0_0) rfl rfl (Nat.le_of_ble_eq_true rfl) trivial rfl ?_
      refine ADX.pure [(1000000, .cells [.own 1000001 2 h.rows.length, .int .i64 (h.offset + 1)])] (PureOp.loadPtr rfl (.tmp rfl) vtk_pl_27 rfl rfl (Nat.le_of_ble_eq_true rfl) (Nat.le_of_ble_eq_true rfl)) rfl rfl (Nat.le_of_ble_eq_true rfl) ⟨rfl, trivial⟩ rfl ?_
      refine ADX.pure [] (PureOp.move rfl (.tmp rfl)) rfl rfl (Nat.le_of_ble_eq_true rfl) trivial rfl ?_
      refine ADX.pure [] (PureOp.fieldPtr rfl (.tmp rfl) vtk_fi_47_0_0) rfl rfl (Nat.le_of_ble_eq_true rfl) trivial rfl ?_
      refine ADX.pure [(0, .cells [.str x.name, .int .i64 x.at_, .int .i64 x.value])] (PureOp.loadPtr rfl (.tmp rfl) vtk_pl_9 rfl rfl (Nat.le_of_ble_eq_true rfl) (Nat.le_of_ble_eq_true rfl)) rfl rfl (Nat.le_of_ble_eq_true rfl) ⟨rfl, trivial⟩ rfl ?_
      refine ADX.pure [] (PureOp.build (ys := [.str x.name]) (l := [.str ByteArray.empty, .con (.slice none 0 0)]) (pl := [(0, 1), (1, 1)]) (z := (.agg #[.string ByteArray.empty, .slice none 0 0])) rfl (by kernel_rfl) (by kernel_rfl) (fun _ _ _ => ⟨_, _, rfl, ⟨rfl, by decide⟩, ⟨_, _, rfl, rfl, rfl⟩⟩) ⟨(.tmp rfl), trivial, rfl, trivial⟩ rfl) rfl rfl (Nat.le_of_ble_eq_true rfl) trivial rfl ?_
      refine ADX.eff (tk := [1]) (new := [1]) (s := .one (.own 1 2 1)) (F := [(41, .one (.own 1 2 1))]) (Hin := []) (Hout := [(1, .arr 2 1 (fun _ jc => ([.str x.name, .con (.slice none 0 0)] : List AV).getD jc (.con undef)))]) (fun E X hE hX Q rest hk => ?_) trivial ⟨rfl, rfl⟩ rfl rfl rfl rfl ⟨(by repeat first | exact trivial | refine ⟨by decide, by first | rfl | exact trivial | (intro a_ b_; first | exact getD_no rfl | exact rowC0_no rfl _ _ | exact rowS_no rfl rfl _ _ | exact insF_no (rowC0_no rfl) (fun _ _ => getD_no rfl) _ _ _ | ((try dsimp only); (repeat' split) <;> first | rfl | exact rowC0_no rfl _ _ | exact getD_no rfl | exact insF_no (rowC0_no rfl) (fun _ _ => getD_no rfl) _ _ _)), ?_⟩), trivial⟩ rfl (fun _ e => by cases e; exact Nat.le_of_ble_eq_true rfl) ?_
      · refine ARun.slice1 (id := 1) (z := (.agg #[.string ByteArray.empty, .slice none 0 0])) (by_ := 40) rfl (.tmp rfl) (SV.cells_of (by exact ⟨trivial, ⟨rfl, (fun _ e => by cases e), (fun _ e => by cases e)⟩, trivial⟩)) (by kernel_rfl) rfl rfl (by decide) (by decide) (Fr.ext2 ⟨rfl, (by repeat first | exact trivial | refine ⟨by decide, by first | rfl | exact trivial | (intro a_ b_; first | exact getD_no rfl | exact rowC0_no rfl _ _ | exact rowS_no rfl rfl _ _ | exact insF_no (rowC0_no rfl) (fun _ _ => getD_no rfl) _ _ _ | ((try dsimp only); (repeat' split) <;> first | rfl | exact rowC0_no rfl _ _ | exact getD_no rfl | exact insF_no (rowC0_no rfl) (fun _ _ => getD_no rfl) _ _ _)), ?_⟩)⟩ hE hX rfl rfl) rfl rfl rfl (Nat.le_of_ble_eq_true rfl) ?_
        refine ARun.hleX ?_ ?_ hk
        · exact HeapLe.one rfl trivial
        · repeat (first | exact LkX.refl | refine LkX.cons (hX.none rfl) ?_ | refine LkX.filter (hX.none rfl) ?_)
      refine ADX.eff (tk := [1, 77, 1000001]) (new := [77]) (s := .one (.own 77 2 (h.rows.length + 1))) (F := [(42, .one (.own 77 2 (h.rows.length + 1)))]) (Hin := [(1, .arr 2 1 (fun _ jc => ([.str x.name, .con (.slice none 0 0)] : List AV).getD jc (.con undef))), (1000001, .arr 2 h.rows.length (rowC0 h 500))]) (Hout := [(77, .arr 2 (h.rows.length + 1) (insF (rowC0 h 500) (newC x) (loF h x.name)))]) (fun E X hE hX Q rest hk => ?_) ⟨rfl, rfl, trivial⟩ ⟨rfl, rfl⟩ rfl rfl rfl rfl ⟨(by repeat first | exact trivial | refine ⟨by decide, by first | rfl | exact trivial | (intro a_ b_; first | exact getD_no rfl | exact rowC0_no rfl _ _ | exact rowS_no rfl rfl _ _ | exact insF_no (rowC0_no rfl) (fun _ _ => getD_no rfl) _ _ _ | ((try dsimp only); (repeat' split) <;> first | rfl | exact rowC0_no rfl _ _ | exact getD_no rfl | exact insF_no (rowC0_no rfl) (fun _ _ => getD_no rfl) _ _ _)), ?_⟩), trivial⟩ rfl (fun _ e => by cases e; exact Nat.le_of_ble_eq_true rfl) ?_
      · have hlo := loF_le h x.name
        refine ARun.mutxX hX (Hr := []) (Hn := [(77, .arr 2 (h.rows.length + 1) (insF (rowC0 h 500) (newC x) (loF h x.name)))]) (g := fun zz => if zz = 1000001 then 1000001 else if zz = 1000003 then 1 else if zz = 1000002 then 500 else zz) (g' := fun zz => if zz = 1000001 then 1000001 else if zz = 1000003 then 1 else if zz = 1000002 then 500 else if zz = 77 then 77 else zz) (K := [77, 1000002]) (T := [(77, 77)]) rfl (v_InsertRow (rowC0 h 1000002) (newC x) h.rows.length (loF h x.name) ⟨loF_le h x.name, hr8⟩ (rowC0_ok h) (newC_ok x)) vtk_ca_79 ⟨.inr (.tmp rfl), ⟨.inl ⟨_, (.tmp rfl), .int⟩, ⟨.inr (.tmp rfl), trivial⟩⟩⟩ rfl rfl rfl ⟨⟨_, rfl, ⟨rfl, rfl, fun a b _ _ => rowC0_ren (h := h) (K := 1000002) (K' := 500) rfl a b⟩⟩, ⟨_, rfl, ⟨rfl, rfl, fun a b _ _ => newC_ren x _ a b⟩⟩, trivial⟩ trivial rfl ⟨(Fr.ext2 ⟨rfl, (by repeat first | exact trivial | refine ⟨by decide, by first | rfl | exact trivial | (intro a_ b_; first | exact getD_no rfl | exact rowC0_no rfl _ _ | exact rowS_no rfl rfl _ _ | exact insF_no (rowC0_no rfl) (fun _ _ => getD_no rfl) _ _ _ | ((try dsimp only); (repeat' split) <;> first | rfl | exact rowC0_no rfl _ _ | exact getD_no rfl | exact insF_no (rowC0_no rfl) (fun _ _ => getD_no rfl) _ _ _)), ?_⟩)⟩ hE hX rfl rfl), trivial⟩ (by kernel_rfl) (by kernel_rfl) (by kernel_rfl) ⟨.inr ⟨77, _, rfl, rfl, rfl, ⟨rfl, rfl, fun a b _ _ => insF_ren (f := rowC0 h 1000002) (f' := rowC0 h 500) (rowC0_ren rfl) (newC_ren x _) _ a b⟩, (fun a b _ _ => insF_hx rfl)⟩, trivial⟩ rfl rfl (Nat.le_of_ble_eq_true rfl) (r' := .one (.own 77 2 (h.rows.length + 1))) rfl ?_
        refine ARun.hleX ?_ ?_ hk
        · exact HeapLe.one rfl trivial
        · repeat (first | exact LkX.refl | refine LkX.cons (hX.none rfl) ?_ | refine LkX.filter (hX.none rfl) ?_)
      refine ADX.pure [] (PureOp.nilPtr rfl (.tmp rfl)) rfl rfl (Nat.le_of_ble_eq_true rfl) trivial rfl ?_
      refine ADX.pure [] (PureOp.fieldPtr rfl (.tmp rfl) vtk_fi_29_0_0) rfl rfl (Nat.le_of_ble_eq_true rfl) trivial rfl ?_
      refine ADX.eff (tk := [1000000]) (new := []) (s := .one (.con undef)) (F := []) (Hin := [(1000000, .cells [.own 1000001 2 h.rows.length, .int .i64 (h.offset + 1)])]) (Hout := [(1000000, .cells [.own 77 2 (h.rows.length + 1), .int .i64 (h.offset + 1)])]) (fun E X hE hX Q rest hk => ?_) ⟨rfl, trivial⟩ ⟨rfl, rfl⟩ rfl rfl rfl rfl trivial rfl (fun _ e => by cases e) ?_
      · refine ARun.store rfl (.tmp rfl) (.tmp rfl) trivial rfl (Nat.le_of_ble_eq_true rfl) vtk_sz_27_1 rfl rfl ?_
        refine ARun.hleX ?_ ?_ hk
        · exact HeapLe.one rfl trivial
        · repeat (first | exact LkX.refl | refine LkX.cons (hX.none rfl) ?_ | refine LkX.filter (hX.none rfl) ?_)
      refine ADX.nil (H := [(0, .cells [.str x.name, .int .i64 x.at_, .int .i64 x.value]), (77, .arr 2 (h.rows.length + 1) (insF (rowC0 h 500) (newC x) (loF h x.name))), (500, .trees h.rows.length (takeX h x)), (1000000, .cells [.own 77 2 (h.rows.length + 1), .int .i64 (h.offset + 1)])]) ?_ ?_
      · exact HeapLe.one rfl (HeapLe.one rfl (HeapLe.one rfl (HeapLe.one rfl trivial)))
      refine AW.seq ?_
      refine AW.region ?_
      refine ARun.pure (PureOp.move rfl (.tmp rfl)) rfl rfl (Nat.le_of_ble_eq_true rfl) ?_
      refine ARun.pure (PureOp.nilPtr rfl (.tmp rfl)) rfl rfl (Nat.le_of_ble_eq_true rfl) ?_
      refine ARun.pure (PureOp.fieldPtr rfl (.tmp rfl) vtk_fi_29_0_0) rfl rfl (Nat.le_of_ble_eq_true rfl) ?_
      refine ARun.pure (PureOp.loadPtr rfl (.tmp rfl) vtk_pl_27 rfl rfl (Nat.le_of_ble_eq_true rfl) (Nat.le_of_ble_eq_true rfl)) rfl rfl (Nat.le_of_ble_eq_true rfl) ?_
      refine ARun.pure (PureOp.move rfl (.tmp rfl)) rfl rfl (Nat.le_of_ble_eq_true rfl) ?_
      refine ARun.pure (PureOp.indexOwn (i := loF h x.name) rfl (.tmp rfl) vtk_el_27_2 (.tmp rfl) rfl (show loF h x.name < _ from by omega)) rfl rfl (Nat.le_of_ble_eq_true rfl) ?_
      refine ARun.pure (PureOp.assign rfl (.tmp rfl)) rfl rfl (Nat.le_of_ble_eq_true rfl) ?_
      refine ARun.nil ?_
      refine AW.seq ?_
      refine AW.seq ?_
      refine AW.region ?_
      refine ARun.pure (PureOp.move rfl (.tmp rfl)) rfl rfl (Nat.le_of_ble_eq_true rfl) ?_
      refine ARun.pure (PureOp.nilPtr rfl (.tmp rfl)) rfl rfl (Nat.le_of_ble_eq_true rfl) ?_
      refine ARun.pure (PureOp.fieldPtr rfl (.tmp rfl) vtk_fi_67_1_1) rfl rfl (Nat.le_of_ble_eq_true rfl) ?_
      refine ARun.pure (PureOp.loadPtrE (y := .con (.slice none 0 0)) rfl (.tmp rfl) vtk_pl_33 rfl rfl (show loF h x.name < (h.rows.length + 1) from by omega) (Nat.le_of_ble_eq_true rfl) (show insF _ _ _ _ _ = _ from insF_new)) rfl rfl (Nat.le_of_ble_eq_true rfl) ?_
      refine ARun.pure (PureOp.lenLst rfl (.unnil 1 (fun _ _ => .con undef) (.tmp rfl)) vtk_sl_33) rfl rfl (Nat.le_of_ble_eq_true rfl) ?_
      refine ARun.pure (PureOp.assign rfl (.tmp rfl)) rfl rfl (Nat.le_of_ble_eq_true rfl) ?_
      refine ARun.nil ?_
      refine AW.seq ?_
      refine AW.region ?_
      refine ARun.pure (PureOp.move rfl (.tmp rfl)) rfl rfl (Nat.le_of_ble_eq_true rfl) ?_
      refine ARun.pure (PureOp.intOp rfl (.tmp rfl) .int rfl) rfl rfl (Nat.le_of_ble_eq_true rfl) ?_
      refine ARun.nil ?_
      refine AW.cond (.tmp rfl) (fun hb3 => ?_) (fun hb3 => ?_)
      · have _u := True.intro
        replace hb3 := of_decide_eq_true hb3
        exact absurd hb3 (by decide)
        --end
      · have _u := True.intro
        replace hb3 := of_decide_eq_false hb3
        refine AW.skip ?_
        refine AW.seq ?_
        refine AW.anyX [⟨[], [], [], []⟩, ⟨[], [], [], []⟩, ⟨[], [], [], []⟩, ⟨[], [], [], []⟩, ⟨[77], [], [], []⟩, ⟨[], [], [], []⟩, ⟨[0], [], [], []⟩, ⟨[], [], [], []⟩, ⟨[0], [], [], []⟩, ⟨[], [], [], []⟩, ⟨[], [2], [2], [(2, .arr 2 1 (fun _ jc => ([.int .i64 x.at_, .int .i64 x.value] : List AV).getD jc (.con undef)))]⟩, ⟨[], [2, 3, 500], [3], [(2, .arr 2 1 (fun _ jc => ([.int .i64 x.at_, .int .i64 x.value] : List AV).getD jc (.con undef))), (500, .trees (h.rows.length + 1) (takeX h x))]⟩, ⟨[], [], [], []⟩, ⟨[], [], [], []⟩, ⟨[], [77], [], [(77, .arr 2 (h.rows.length + 1) (fun a b => if a = loF h x.name ∧ b = 1 then .tre 500 h.rows.length else (insF (rowC0 h 500) (newC x) (loF h x.name)) a b))]⟩] (by kernel_rfl) (by kernel_rfl) (by kernel_rfl) ⟨⟨.inl rfl, .inr (.inr trivial), .inr (.inr trivial), .inr (.inr trivial), .inr (.inr trivial), .inr (.inr trivial), .inr (.inr trivial), .inr (.inr trivial), .inr (.inr trivial), .inr (.inr trivial), .inr (.inr (by repeat first | exact trivial | refine And.intro ?_ ?_ | exact rfl | ((intro a_ b_; first | exact getD_no rfl | exact rowC0_no rfl _ _ | exact rowS_no rfl rfl _ _ | exact insF_no (rowC0_no rfl) (fun _ _ => getD_no rfl) _ _ _ | ((try dsimp only); (repeat' split) <;> first | rfl | exact rowC0_no rfl _ _ | exact getD_no rfl | exact insF_no (rowC0_no rfl) (fun _ _ => getD_no rfl) _ _ _))))), .inr (.inr (by repeat first | exact trivial | refine And.intro ?_ ?_ | exact rfl | ((intro a_ b_; first | exact getD_no rfl | exact rowC0_no rfl _ _ | exact rowS_no rfl rfl _ _ | exact insF_no (rowC0_no rfl) (fun _ _ => getD_no rfl) _ _ _ | ((try dsimp only); (repeat' split) <;> first | rfl | exact rowC0_no rfl _ _ | exact getD_no rfl | exact insF_no (rowC0_no rfl) (fun _ _ => getD_no rfl) _ _ _))))), .inr (.inr trivial), .inr (.inr trivial), .inr (.inr trivial), trivial⟩, ⟨.inr (.inr trivial), .inl rfl, .inr (.inr trivial), .inr (.inr trivial), .inr (.inr trivial), .inr (.inr trivial), .inr (.inr trivial), .inr (.inr trivial), .inr (.inr trivial), .inr (.inr trivial), .inr (.inr (by repeat first | exact trivial | refine And.intro ?_ ?_ | exact rfl | ((intro a_ b_; first | exact getD_no rfl | exact rowC0_no rfl _ _ | exact rowS_no rfl rfl _ _ | exact insF_no (rowC0_no rfl) (fun _ _ => getD_no rfl) _ _ _ | ((try dsimp only); (repeat' split) <;> first | rfl | exact rowC0_no rfl _ _ | exact getD_no rfl | exact insF_no (rowC0_no rfl) (fun _ _ => getD_no rfl) _ _ _))))), .inr (.inr (by repeat first | exact trivial | refine And.intro ?_ ?_ | exact rfl | ((intro a_ b_; first | exact getD_no rfl | exact rowC0_no rfl _ _ | exact rowS_no rfl rfl _ _ | exact insF_no (rowC0_no rfl) (fun _ _ => getD_no rfl) _ _ _ | ((try dsimp only); (repeat' split) <;> first | rfl | exact rowC0_no rfl _ _ | exact getD_no rfl | exact insF_no (rowC0_no rfl) (fun _ _ => getD_no rfl) _ _ _))))), .inr (.inr trivial), .inr (.inr trivial), .inr (.inr trivial), trivial⟩, ⟨.inr (.inr trivial), .inr (.inr trivial), .inl rfl, .inr (.inr trivial), .inr (.inr trivial), .inr (.inr trivial), .inr (.inr trivial), .inr (.inr trivial), .inr (.inr trivial), .inr (.inr trivial), .inr (.inr (by repeat first | exact trivial | refine And.intro ?_ ?_ | exact rfl | ((intro a_ b_; first | exact getD_no rfl | exact rowC0_no rfl _ _ | exact rowS_no rfl rfl _ _ | exact insF_no (rowC0_no rfl) (fun _ _ => getD_no rfl) _ _ _ | ((try dsimp only); (repeat' split) <;> first | rfl | exact rowC0_no rfl _ _ | exact getD_no rfl | exact insF_no (rowC0_no rfl) (fun _ _ => getD_no rfl) _ _ _))))), .inr (.inr (by repeat first | exact trivial | refine And.intro ?_ ?_ | exact rfl | ((intro a_ b_; first | exact getD_no rfl | exact rowC0_no rfl _ _ | exact rowS_no rfl rfl _ _ | exact insF_no (rowC0_no rfl) (fun _ _ => getD_no rfl) _ _ _ | ((try dsimp only); (repeat' split) <;> first | rfl | exact rowC0_no rfl _ _ | exact getD_no rfl | exact insF_no (rowC0_no rfl) (fun _ _ => getD_no rfl) _ _ _))))), .inr (.inr trivial), .inr (.inr trivial), .inr (.inr trivial), trivial⟩, ⟨.inr (.inr trivial), .inr (.inr trivial), .inr (.inr trivial), .inl rfl, .inr (.inr trivial), .inr (.inr trivial), .inr (.inr trivial), .inr (.inr trivial), .inr (.inr trivial), .inr (.inr trivial), .inr (.inr (by repeat first | exact trivial | refine And.intro ?_ ?_ | exact rfl | ((intro a_ b_; first | exact getD_no rfl | exact rowC0_no rfl _ _ | exact rowS_no rfl rfl _ _ | exact insF_no (rowC0_no rfl) (fun _ _ => getD_no rfl) _ _ _ | ((try dsimp only); (repeat' split) <;> first | rfl | exact rowC0_no rfl _ _ | exact getD_no rfl | exact insF_no (rowC0_no rfl) (fun _ _ => getD_no rfl) _ _ _))))), .inr (.inr (by repeat first | exact trivial | refine And.intro ?_ ?_ | exact rfl | ((intro a_ b_; first | exact getD_no rfl | exact rowC0_no rfl _ _ | exact rowS_no rfl rfl _ _ | exact insF_no (rowC0_no rfl) (fun _ _ => getD_no rfl) _ _ _ | ((try dsimp only); (repeat' split) <;> first | rfl | exact rowC0_no rfl _ _ | exact getD_no rfl | exact insF_no (rowC0_no rfl) (fun _ _ => getD_no rfl) _ _ _))))), .inr (.inr trivial), .inr (.inr trivial), .inr (.inr trivial), trivial⟩, ⟨.inr (.inr trivial), .inr (.inr trivial), .inr (.inr trivial), .inr (.inr trivial), .inl rfl, .inr (.inr trivial), .inr (.inr trivial), .inr (.inr trivial), .inr (.inr trivial), .inr (.inr trivial), .inr (.inr (by repeat first | exact trivial | refine And.intro ?_ ?_ | exact rfl | ((intro a_ b_; first | exact getD_no rfl | exact rowC0_no rfl _ _ | exact rowS_no rfl rfl _ _ | exact insF_no (rowC0_no rfl) (fun _ _ => getD_no rfl) _ _ _ | ((try dsimp only); (repeat' split) <;> first | rfl | exact rowC0_no rfl _ _ | exact getD_no rfl | exact insF_no (rowC0_no rfl) (fun _ _ => getD_no rfl) _ _ _))))), .inr (.inr (by repeat first | exact trivial | refine And.intro ?_ ?_ | exact rfl | ((intro a_ b_; first | exact getD_no rfl | exact rowC0_no rfl _ _ | exact rowS_no rfl rfl _ _ | exact insF_no (rowC0_no rfl) (fun _ _ => getD_no rfl) _ _ _ | ((try dsimp only); (repeat' split) <;> first | rfl | exact rowC0_no rfl _ _ | exact getD_no rfl | exact insF_no (rowC0_no rfl) (fun _ _ => getD_no rfl) _ _ _))))), .inr (.inr trivial), .inr (.inr trivial), .inr (.inr trivial), trivial⟩, ⟨.inr (.inr trivial), .inr (.inr trivial), .inr (.inr trivial), .inr (.inr trivial), .inr (.inr trivial), .inl rfl, .inr (.inr trivial), .inr (.inr trivial), .inr (.inr trivial), .inr (.inr trivial), .inr (.inr (by repeat first | exact trivial | refine And.intro ?_ ?_ | exact rfl | ((intro a_ b_; first | exact getD_no rfl | exact rowC0_no rfl _ _ | exact rowS_no rfl rfl _ _ | exact insF_no (rowC0_no rfl) (fun _ _ => getD_no rfl) _ _ _ | ((try dsimp only); (repeat' split) <;> first | rfl | exact rowC0_no rfl _ _ | exact getD_no rfl | exact insF_no (rowC0_no rfl) (fun _ _ => getD_no rfl) _ _ _))))), .inr (.inr (by repeat first | exact trivial | refine And.intro ?_ ?_ | exact rfl | ((intro a_ b_; first | exact getD_no rfl | exact rowC0_no rfl _ _ | exact rowS_no rfl rfl _ _ | exact insF_no (rowC0_no rfl) (fun _ _ => getD_no rfl) _ _ _ | ((try dsimp only); (repeat' split) <;> first | rfl | exact rowC0_no rfl _ _ | exact getD_no rfl | exact insF_no (rowC0_no rfl) (fun _ _ => getD_no rfl) _ _ _))))), .inr (.inr trivial), .inr (.inr trivial), .inr (.inr trivial), trivial⟩, ⟨.inr (.inr trivial), .inr (.inr trivial), .inr (.inr trivial), .inr (.inr trivial), .inr (.inr trivial), .inr (.inr trivial), .inl rfl, .inr (.inr trivial), .inr (.inr trivial), .inr (.inr trivial), .inr (.inr (by repeat first | exact trivial | refine And.intro ?_ ?_ | exact rfl | ((intro a_ b_; first | exact getD_no rfl | exact rowC0_no rfl _ _ | exact rowS_no rfl rfl _ _ | exact insF_no (rowC0_no rfl) (fun _ _ => getD_no rfl) _ _ _ | ((try dsimp only); (repeat' split) <;> first | rfl | exact rowC0_no rfl _ _ | exact getD_no rfl | exact insF_no (rowC0_no rfl) (fun _ _ => getD_no rfl) _ _ _))))), .inr (.inr (by repeat first | exact trivial | refine And.intro ?_ ?_ | exact rfl | ((intro a_ b_; first | exact getD_no rfl | exact rowC0_no rfl _ _ | exact rowS_no rfl rfl _ _ | exact insF_no (rowC0_no rfl) (fun _ _ => getD_no rfl) _ _ _ | ((try dsimp only); (repeat' split) <;> first | rfl | exact rowC0_no rfl _ _ | exact getD_no rfl | exact insF_no (rowC0_no rfl) (fun _ _ => getD_no rfl) _ _ _))))), .inr (.inr trivial), .inr (.inr trivial), .inr (.inr trivial), trivial⟩, ⟨.inr (.inr trivial), .inr (.inr trivial), .inr (.inr trivial), .inr (.inr trivial), .inr (.inr trivial), .inr (.inr trivial), .inr (.inr trivial), .inl rfl, .inr (.inr trivial), .inr (.inr trivial), .inr (.inr (by repeat first | exact trivial | refine And.intro ?_ ?_ | exact rfl | ((intro a_ b_; first | exact getD_no rfl | exact rowC0_no rfl _ _ | exact rowS_no rfl rfl _ _ | exact insF_no (rowC0_no rfl) (fun _ _ => getD_no rfl) _ _ _ | ((try dsimp only); (repeat' split) <;> first | rfl | exact rowC0_no rfl _ _ | exact getD_no rfl | exact insF_no (rowC0_no rfl) (fun _ _ => getD_no rfl) _ _ _))))), .inr (.inr (by repeat first | exact trivial | refine And.intro ?_ ?_ | exact rfl | ((intro a_ b_; first | exact getD_no rfl | exact rowC0_no rfl _ _ | exact rowS_no rfl rfl _ _ | exact insF_no (rowC0_no rfl) (fun _ _ => getD_no rfl) _ _ _ | ((try dsimp only); (repeat' split) <;> first | rfl | exact rowC0_no rfl _ _ | exact getD_no rfl | exact insF_no (rowC0_no rfl) (fun _ _ => getD_no rfl) _ _ _))))), .inr (.inr trivial), .inr (.inr trivial), .inr (.inr trivial), trivial⟩, ⟨.inr (.inr trivial), .inr (.inr trivial), .inr (.inr trivial), .inr (.inr trivial), .inr (.inr trivial), .inr (.inr trivial), .inr (.inr trivial), .inr (.inr trivial), .inl rfl, .inr (.inr trivial), .inr (.inr (by repeat first | exact trivial | refine And.intro ?_ ?_ | exact rfl | ((intro a_ b_; first | exact getD_no rfl | exact rowC0_no rfl _ _ | exact rowS_no rfl rfl _ _ | exact insF_no (rowC0_no rfl) (fun _ _ => getD_no rfl) _ _ _ | ((try dsimp only); (repeat' split) <;> first | rfl | exact rowC0_no rfl _ _ | exact getD_no rfl | exact insF_no (rowC0_no rfl) (fun _ _ => getD_no rfl) _ _ _))))), .inr (.inr (by repeat first | exact trivial | refine And.intro ?_ ?_ | exact rfl | ((intro a_ b_; first | exact getD_no rfl | exact rowC0_no rfl _ _ | exact rowS_no rfl rfl _ _ | exact insF_no (rowC0_no rfl) (fun _ _ => getD_no rfl) _ _ _ | ((try dsimp only); (repeat' split) <;> first | rfl | exact rowC0_no rfl _ _ | exact getD_no rfl | exact insF_no (rowC0_no rfl) (fun _ _ => getD_no rfl) _ _ _))))), .inr (.inr trivial), .inr (.inr trivial), .inr (.inr trivial), trivial⟩, ⟨.inr (.inr trivial), .inr (.inr trivial), .inr (.inr trivial), .inr (.inr trivial), .inr (.inr trivial), .inr (.inr trivial), .inr (.inr trivial), .inr (.inr trivial), .inr (.inr trivial), .inl rfl, .inr (.inr (by repeat first | exact trivial | refine And.intro ?_ ?_ | exact rfl | ((intro a_ b_; first | exact getD_no rfl | exact rowC0_no rfl _ _ | exact rowS_no rfl rfl _ _ | exact insF_no (rowC0_no rfl) (fun _ _ => getD_no rfl) _ _ _ | ((try dsimp only); (repeat' split) <;> first | rfl | exact rowC0_no rfl _ _ | exact getD_no rfl | exact insF_no (rowC0_no rfl) (fun _ _ => getD_no rfl) _ _ _))))), .inr (.inr (by repeat first | exact trivial | refine And.intro ?_ ?_ | exact rfl | ((intro a_ b_; first | exact getD_no rfl | exact rowC0_no rfl _ _ | exact rowS_no rfl rfl _ _ | exact insF_no (rowC0_no rfl) (fun _ _ => getD_no rfl) _ _ _ | ((try dsimp only); (repeat' split) <;> first | rfl | exact rowC0_no rfl _ _ | exact getD_no rfl | exact insF_no (rowC0_no rfl) (fun _ _ => getD_no rfl) _ _ _))))), .inr (.inr trivial), .inr (.inr trivial), .inr (.inr trivial), trivial⟩, ⟨.inr (.inr trivial), .inr (.inr trivial), .inr (.inr trivial), .inr (.inr trivial), .inr (.inr trivial), .inr (.inr trivial), .inr (.inr trivial), .inr (.inr trivial), .inr (.inr trivial), .inr (.inr trivial), .inl rfl, .inr (.inr (by repeat first | exact trivial | refine And.intro ?_ ?_ | exact rfl | ((intro a_ b_; first | exact getD_no rfl | exact rowC0_no rfl _ _ | exact rowS_no rfl rfl _ _ | exact insF_no (rowC0_no rfl) (fun _ _ => getD_no rfl) _ _ _ | ((try dsimp only); (repeat' split) <;> first | rfl | exact rowC0_no rfl _ _ | exact getD_no rfl | exact insF_no (rowC0_no rfl) (fun _ _ => getD_no rfl) _ _ _))))), .inr (.inr trivial), .inr (.inr trivial), .inr (.inr trivial), trivial⟩, ⟨.inr (.inr trivial), .inr (.inr trivial), .inr (.inr trivial), .inr (.inr trivial), .inr (.inr trivial), .inr (.inr trivial), .inr (.inr trivial), .inr (.inr trivial), .inr (.inr trivial), .inr (.inr trivial), .inr (.inl (by kernel_rfl)), .inl rfl, .inr (.inr trivial), .inr (.inr trivial), .inr (.inr trivial), trivial⟩, ⟨.inr (.inr trivial), .inr (.inr trivial), .inr (.inr trivial), .inr (.inr trivial), .inr (.inr trivial), .inr (.inr trivial), .inr (.inr trivial), .inr (.inr trivial), .inr (.inr trivial), .inr (.inr trivial), .inr (.inl (by kernel_rfl)), .inr (.inl (by kernel_rfl)), .inl rfl, .inr (.inr trivial), .inr (.inr trivial), trivial⟩, ⟨.inr (.inr trivial), .inr (.inr trivial), .inr (.inr trivial), .inr (.inr trivial), .inr (.inr trivial), .inr (.inr trivial), .inr (.inr trivial), .inr (.inr trivial), .inr (.inr trivial), .inr (.inr trivial), .inr (.inl (by kernel_rfl)), .inr (.inl (by kernel_rfl)), .inr (.inr trivial), .inl rfl, .inr (.inr trivial), trivial⟩, ⟨.inr (.inr trivial), .inr (.inr trivial), .inr (.inr trivial), .inr (.inr trivial), .inr (.inr trivial), .inr (.inr trivial), .inr (.inr trivial), .inr (.inr trivial), .inr (.inr trivial), .inr (.inr trivial), .inr (.inl (by kernel_rfl)), .inr (.inl (by kernel_rfl)), .inr (.inr trivial), .inr (.inr trivial), .inl rfl, trivial⟩, trivial⟩ ⟨trivial, trivial, trivial, trivial, trivial, trivial, trivial, trivial, trivial, trivial, ⟨(by repeat first | exact trivial | refine ⟨by decide, by first | rfl | exact trivial | (intro a_ b_; first | exact getD_no rfl | exact rowC0_no rfl _ _ | exact rowS_no rfl rfl _ _ | exact insF_no (rowC0_no rfl) (fun _ _ => getD_no rfl) _ _ _ | ((try dsimp only); (repeat' split) <;> first | rfl | exact rowC0_no rfl _ _ | exact getD_no rfl | exact insF_no (rowC0_no rfl) (fun _ _ => getD_no rfl) _ _ _)), ?_⟩), trivial⟩, ⟨(by repeat first | exact trivial | refine ⟨by decide, by first | rfl | exact trivial | (intro a_ b_; first | exact getD_no rfl | exact rowC0_no rfl _ _ | exact rowS_no rfl rfl _ _ | exact insF_no (rowC0_no rfl) (fun _ _ => getD_no rfl) _ _ _ | ((try dsimp only); (repeat' split) <;> first | rfl | exact rowC0_no rfl _ _ | exact getD_no rfl | exact insF_no (rowC0_no rfl) (fun _ _ => getD_no rfl) _ _ _)), ?_⟩), trivial⟩, trivial, trivial, trivial, trivial⟩ ?_
        refine ADX.pure [] (PureOp.move rfl (.tmp rfl)) rfl rfl (Nat.le_of_ble_eq_true rfl) trivial rfl ?_
        refine ADX.pure [] (PureOp.move rfl (.tmp rfl)) rfl rfl (Nat.le_of_ble_eq_true rfl) trivial rfl ?_
        refine ADX.pure [] (PureOp.nilPtr rfl (.tmp rfl)) rfl rfl (Nat.le_of_ble_eq_true rfl) trivial rfl ?_
        refine ADX.pure [] (PureOp.fieldPtr rfl (.tmp rfl) vtk_fi_67_1_1) rfl rfl (Nat.le_of_ble_eq_true rfl) trivial rfl ?_
        refine ADX.pure [(77, .arr 2 (h.rows.length + 1) (insF (rowC0 h 500) (newC x) (loF h x.name)))] (PureOp.loadPtrE (y := .con (.slice none 0 0)) rfl (.tmp rfl) vtk_pl_33 rfl rfl (show loF h x.name < (h.rows.length + 1) from by omega) (Nat.le_of_ble_eq_true rfl) (show insF _ _ _ _ _ = _ from insF_new)) rfl rfl (Nat.le_of_ble_eq_true rfl) ⟨rfl, trivial⟩ rfl ?_
        refine ADX.pure [] (PureOp.fieldPtr rfl (.tmp rfl) vtk_fi_47_1_1) rfl rfl (Nat.le_of_ble_eq_true rfl) trivial rfl ?_
        refine ADX.pure [(0, .cells [.str x.name, .int .i64 x.at_, .int .i64 x.value])] (PureOp.loadPtr rfl (.tmp rfl) vtk_pl_3 rfl rfl (Nat.le_of_ble_eq_true rfl) (Nat.le_of_ble_eq_true rfl)) rfl rfl (Nat.le_of_ble_eq_true rfl) ⟨rfl, trivial⟩ rfl ?_
        refine ADX.pure [] (PureOp.fieldPtr rfl (.tmp rfl) vtk_fi_47_2_2) rfl rfl (Nat.le_of_ble_eq_true rfl) trivial rfl ?_
        refine ADX.pure [(0, .cells [.str x.name, .int .i64 x.at_, .int .i64 x.value])] (PureOp.loadPtr rfl (.tmp rfl) vtk_pl_3 rfl rfl (Nat.le_of_ble_eq_true rfl) (Nat.le_of_ble_eq_true rfl)) rfl rfl (Nat.le_of_ble_eq_true rfl) ⟨rfl, trivial⟩ rfl ?_
        refine ADX.pure [] (PureOp.build (ys := [.int .i64 x.at_, .int .i64 x.value]) (l := [.int .i64 0, .int .i64 0]) (pl := [(0, 1), (1, 1)]) (z := (.agg #[.int .i64 0, .int .i64 0])) rfl (by kernel_rfl) (by kernel_rfl) (fun _ _ _ => ⟨_, _, rfl, rfl, ⟨_, _, rfl, rfl, rfl⟩⟩) ⟨(.tmp rfl), trivial, rfl, ⟨(.tmp rfl), trivial, rfl, trivial⟩⟩ rfl) rfl rfl (Nat.le_of_ble_eq_true rfl) trivial rfl ?_
        refine ADX.eff (tk := [2]) (new := [2]) (s := .one (.own 2 2 1)) (F := [(90, .one (.own 2 2 1))]) (Hin := []) (Hout := [(2, .arr 2 1 (fun _ jc => ([.int .i64 x.at_, .int .i64 x.value] : List AV).getD jc (.con undef)))]) (fun E X hE hX Q rest hk => ?_) trivial ⟨rfl, rfl⟩ rfl rfl rfl rfl ⟨(by repeat first | exact trivial | refine ⟨by decide, by first | rfl | exact trivial | (intro a_ b_; first | exact getD_no rfl | exact rowC0_no rfl _ _ | exact rowS_no rfl rfl _ _ | exact insF_no (rowC0_no rfl) (fun _ _ => getD_no rfl) _ _ _ | ((try dsimp only); (repeat' split) <;> first | rfl | exact rowC0_no rfl _ _ | exact getD_no rfl | exact insF_no (rowC0_no rfl) (fun _ _ => getD_no rfl) _ _ _)), ?_⟩), trivial⟩ rfl (fun _ e => by cases e; exact Nat.le_of_ble_eq_true rfl) ?_
        · refine ARun.slice1 (id := 2) (z := (.agg #[.int .i64 0, .int .i64 0])) (by_ := 16) rfl (.tmp rfl) (SV.cells_of (by exact ⟨trivial, trivial, trivial⟩)) (by kernel_rfl) rfl rfl (by decide) (by decide) (Fr.ext2 ⟨rfl, (by repeat first | exact trivial | refine ⟨by decide, by first | rfl | exact trivial | (intro a_ b_; first | exact getD_no rfl | exact rowC0_no rfl _ _ | exact rowS_no rfl rfl _ _ | exact insF_no (rowC0_no rfl) (fun _ _ => getD_no rfl) _ _ _ | ((try dsimp only); (repeat' split) <;> first | rfl | exact rowC0_no rfl _ _ | exact getD_no rfl | exact insF_no (rowC0_no rfl) (fun _ _ => getD_no rfl) _ _ _)), ?_⟩)⟩ hE hX rfl rfl) rfl rfl rfl (Nat.le_of_ble_eq_true rfl) ?_
          refine ARun.hleX ?_ ?_ hk
          · exact HeapLe.one rfl trivial
          · repeat (first | exact LkX.refl | refine LkX.cons (hX.none rfl) ?_ | refine LkX.filter (hX.none rfl) ?_)
        refine ADX.eff (tk := [2, 3, 500]) (new := [3]) (s := .one (.tre 500 h.rows.length)) (F := [(91, .one (.tre 500 h.rows.length)), (91, .one (.own 3 2 (0 + 1)))]) (Hin := [(2, .arr 2 1 (fun _ jc => ([.int .i64 x.at_, .int .i64 x.value] : List AV).getD jc (.con undef))), (500, .trees h.rows.length (takeX h x))]) (Hout := [(2, .arr 2 1 (fun _ jc => ([.int .i64 x.at_, .int .i64 x.value] : List AV).getD jc (.con undef))), (500, .trees (h.rows.length + 1) (takeX h x))]) (fun E X hE hX Q rest hk => ?_) ⟨rfl, rfl, trivial⟩ ⟨rfl, rfl⟩ rfl rfl rfl rfl ⟨(by repeat first | exact trivial | refine ⟨by decide, by first | rfl | exact trivial | (intro a_ b_; first | exact getD_no rfl | exact rowC0_no rfl _ _ | exact rowS_no rfl rfl _ _ | exact insF_no (rowC0_no rfl) (fun _ _ => getD_no rfl) _ _ _ | ((try dsimp only); (repeat' split) <;> first | rfl | exact rowC0_no rfl _ _ | exact getD_no rfl | exact insF_no (rowC0_no rfl) (fun _ _ => getD_no rfl) _ _ _)), ?_⟩), trivial⟩ rfl (fun _ e => by cases e; exact Nat.le_of_ble_eq_true rfl) ?_
        · refine ARun.append (id := 3) (sz := 2) (n := 0) (m := 1) (by_ := 16) (z := (.agg #[.int .i64 0, .int .i64 0])) (f := fun _ _ => .con undef) (g := fun _ jc => ([.int .i64 x.at_, .int .i64 x.value] : List AV).getD jc (.con undef)) (h := fun ia ja => if ia < 0 then (fun _ _ => .con undef : Nat → Nat → AV) ia ja else (fun _ jc => ([.int .i64 x.at_, .int .i64 x.value] : List AV).getD jc (.con undef) : Nat → Nat → AV) (ia - 0) ja) rfl (by kernel_rfl) rfl vtk_sl_33 (.nil (.tmp rfl) rfl) (.own (.tmp rfl) rfl rfl (Nat.le_refl _) (fun _ _ _ _ => rfl)) (by decide) (fun i j hi hj => match j, hj with | 0, _ => rfl | 1, _ => rfl | _ + 2, h => absurd h (by omega)) (fun _ _ _ _ => rfl) (by omega) (by omega) (by repeat first | exact Fr.ext2 ⟨rfl, (by repeat first | exact trivial | refine ⟨by decide, by first | rfl | exact trivial | (intro a_ b_; first | exact getD_no rfl | exact rowC0_no rfl _ _ | exact rowS_no rfl rfl _ _ | exact insF_no (rowC0_no rfl) (fun _ _ => getD_no rfl) _ _ _ | ((try dsimp only); (repeat' split) <;> first | rfl | exact rowC0_no rfl _ _ | exact getD_no rfl | exact insF_no (rowC0_no rfl) (fun _ _ => getD_no rfl) _ _ _)), ?_⟩)⟩ hE hX rfl rfl | refine Fr.consE rfl ?_ | refine Fr.consH (by decide) (by first | rfl | exact trivial | (intro a_ b_; first | exact getD_no rfl | exact rowC0_no rfl _ _ | exact rowS_no rfl rfl _ _ | exact insF_no (rowC0_no rfl) (fun _ _ => getD_no rfl) _ _ _ | ((try dsimp only); (repeat' split) <;> first | rfl | exact rowC0_no rfl _ _ | exact getD_no rfl | exact insF_no (rowC0_no rfl) (fun _ _ => getD_no rfl) _ _ _))) ?_ | refine Fr.filt ?_) (fun i j => by dsimp only; (repeat' split) <;> first | rfl | exact getD_no rfl) rfl rfl (Nat.le_of_ble_eq_true rfl) ?_
          refine ARun.closeRow 91 3 500 h.rows.length 2 (0 + 1) (m' := (addS h x).length) (X := takeX h x) (g := fun a b => ceSample ((addS h x).getD a (default : GSample)) b) rfl rfl rfl rfl (Nat.le_refl _) rfl rfl (takeX_n h x) (by rw [addS_ins hir]; rfl) (fun i j hi hj => (show (if i < 0 then _ else _) = _ from addS_cellN hir hi hj)) (fun i j hi hj => match j, hj with | 0, _ => rfl | 1, _ => rfl | _ + 2, h => absurd h (by omega)) ?_
          refine ARun.hleX ?_ ?_ hk
          · exact HeapLe.one rfl (HeapLe.one rfl trivial)
          · repeat (first | exact LkX.refl | refine LkX.cons (hX.none rfl) ?_ | refine LkX.filter (hX.none rfl) ?_)
        refine ADX.pure [] (PureOp.nilPtr rfl (.tmp rfl)) rfl rfl (Nat.le_of_ble_eq_true rfl) trivial rfl ?_
        refine ADX.pure [] (PureOp.fieldPtr rfl (.tmp rfl) vtk_fi_67_1_1) rfl rfl (Nat.le_of_ble_eq_true rfl) trivial rfl ?_
        refine ADX.eff (tk := [77]) (new := []) (s := .one (.con undef)) (F := []) (Hin := [(77, .arr 2 (h.rows.length + 1) (insF (rowC0 h 500) (newC x) (loF h x.name)))]) (Hout := [(77, .arr 2 (h.rows.length + 1) (fun a b => if a = loF h x.name ∧ b = 1 then .tre 500 h.rows.length else (insF (rowC0 h 500) (newC x) (loF h x.name)) a b))]) (fun E X hE hX Q rest hk => ?_) ⟨rfl, trivial⟩ ⟨rfl, rfl⟩ rfl rfl rfl rfl trivial rfl (fun _ e => by cases e) ?_
        · refine ARun.storeArr rfl (.tmp rfl) (.tmp rfl) trivial rfl (show loF h x.name < (h.rows.length + 1) from by omega) (Nat.le_of_ble_eq_true rfl) vtk_sz_33_1 rfl rfl ?_
          refine ARun.hleX ?_ ?_ hk
          · exact HeapLe.one rfl trivial
          · repeat (first | exact LkX.refl | refine LkX.cons (hX.none rfl) ?_ | refine LkX.filter (hX.none rfl) ?_)
        refine ADX.nil (H := [(0, .cells [.str x.name, .int .i64 x.at_, .int .i64 x.value]), (2, .arr 2 1 (fun _ jc => ([.int .i64 x.at_, .int .i64 x.value] : List AV).getD jc (.con undef))), (77, .arr 2 (h.rows.length + 1) (fun a b => if a = loF h x.name ∧ b = 1 then .tre 500 h.rows.length else (insF (rowC0 h 500) (newC x) (loF h x.name)) a b)), (500, .trees (h.rows.length + 1) (takeX h x)), (1000000, .cells [.own 77 2 (h.rows.length + 1), .int .i64 (h.offset + 1)])]) ?_ ?_
        · exact HeapLe.one rfl (HeapLe.one rfl (HeapLe.one rfl (HeapLe.one rfl (HeapLe.one rfl trivial))))
        refine AW.seq ?_
        refine AW.region ?_
        refine ARun.pure (PureOp.assign rfl .int) rfl rfl (Nat.le_of_ble_eq_true rfl) ?_
        refine ARun.nil ?_
        rw [tN_ins hir hcode, hcode]
        refine AW.reindex 500 78 77 (h.rows.length + 1) (h.rows.length + 1) 2 (h.rows.length + 1) (pmI h.rows.length (loF h x.name)) (takeX h x) (fun a b => if a = loF h x.name ∧ b = 1 then .tre 500 h.rows.length else (insF (rowC0 h 500) (newC x) (loF h x.name)) a b) (rowC0 (takeH h x) 78) rfl rfl pmI_lt (pmI_inj hlo) (row_ins hir hcode) ⟨rfl, (by repeat first | exact trivial | refine ⟨by decide, by first | rfl | exact trivial | (intro a_ b_; first | exact getD_no rfl | exact rowC0_no rfl _ _ | exact rowS_no rfl rfl _ _ | exact insF_no (rowC0_no rfl) (fun _ _ => getD_no rfl) _ _ _ | ((try dsimp only); (repeat' split) <;> first | rfl | exact rowC0_no rfl _ _ | exact getD_no rfl | exact insF_no (rowC0_no rfl) (fun _ _ => getD_no rfl) _ _ _)), ?_⟩)⟩ ?_
        refine AW.ret (show ResL _ _ [.tmp 4] _ ∧ HeapLe _ _ from ⟨resI rfl ?_, ⟨⟨_, rfl, rfl, Nat.le_refl _, fun a b _ _ => rfl⟩, ⟨_, rfl, fun q hq => rowX_ins hir hcode hq⟩, HLe.refl rfl, trivial⟩⟩)
        rfl
  · have _u := True.intro
    have hir : isRow h x.name = true := not_f hb1
    have hlo := row_lo hir
    have hgr := good_at (h := ⟨h.rows, 0⟩) hg hlo
    have hs1 := hgr.2.1
    have hs2 := smp_40 hgr.2.2
    replace hs1 : 0 < (rowK h x).samples.length := hs1
    replace hs2 : (rowK h x).samples.length ≤ 40 := hs2
    refine AW.skip ?_
    refine AW.seq ?_
    refine AW.region ?_
    refine ARun.pure (PureOp.move rfl (.tmp rfl)) rfl rfl (Nat.le_of_ble_eq_true rfl) ?_
    refine ARun.pure (PureOp.nilPtr rfl (.tmp rfl)) rfl rfl (Nat.le_of_ble_eq_true rfl) ?_
    refine ARun.pure (PureOp.fieldPtr rfl (.tmp rfl) vtk_fi_29_0_0) rfl rfl (Nat.le_of_ble_eq_true rfl) ?_
    refine ARun.pure (PureOp.loadPtr rfl (.tmp rfl) vtk_pl_27 rfl rfl (Nat.le_of_ble_eq_true rfl) (Nat.le_of_ble_eq_true rfl)) rfl rfl (Nat.le_of_ble_eq_true rfl) ?_
    refine ARun.pure (PureOp.move rfl (.tmp rfl)) rfl rfl (Nat.le_of_ble_eq_true rfl) ?_
    refine ARun.pure (PureOp.indexOwn (i := loF h x.name) rfl (.tmp rfl) vtk_el_27_2 (.tmp rfl) rfl (show loF h x.name < _ from by omega)) rfl rfl (Nat.le_of_ble_eq_true rfl) ?_
    refine ARun.pure (PureOp.assign rfl (.tmp rfl)) rfl rfl (Nat.le_of_ble_eq_true rfl) ?_
    refine ARun.nil ?_
    refine AW.seq ?_
    refine AW.seq ?_
    refine AW.region ?_
    refine ARun.pure (PureOp.move rfl (.tmp rfl)) rfl rfl (Nat.le_of_ble_eq_true rfl) ?_
    refine ARun.pure (PureOp.nilPtr rfl (.tmp rfl)) rfl rfl (Nat.le_of_ble_eq_true rfl) ?_
    refine ARun.pure (PureOp.fieldPtr rfl (.tmp rfl) vtk_fi_67_1_1) rfl rfl (Nat.le_of_ble_eq_true rfl) ?_
    refine ARun.pure (PureOp.loadPtrE (y := .tre 500 (loF h x.name)) rfl (.tmp rfl) vtk_pl_33 rfl rfl (show loF h x.name < h.rows.length from by omega) (Nat.le_of_ble_eq_true rfl) rfl) rfl rfl (Nat.le_of_ble_eq_true rfl) ?_
    refine ARun.pure (PureOp.lenTre (m := h.rows.length) (sz := 2) (n := (rowK h x).samples.length) (f := (fun a b => ceSample ((rowK h x).samples.getD a (default : GSample)) b)) rfl (.tmp rfl) rfl (by omega) ((takeX_lt (by omega)).trans rfl) vtk_sl_33) rfl rfl (Nat.le_of_ble_eq_true rfl) ?_
    refine ARun.pure (PureOp.assign rfl (.tmp rfl)) rfl rfl (Nat.le_of_ble_eq_true rfl) ?_
    refine ARun.nil ?_
    refine AW.seq ?_
    refine AW.region ?_
    refine ARun.pure (PureOp.move rfl (.tmp rfl)) rfl rfl (Nat.le_of_ble_eq_true rfl) ?_
    refine ARun.pure (PureOp.intOp rfl (.tmp rfl) .int rfl) rfl rfl (Nat.le_of_ble_eq_true rfl) ?_
    refine ARun.nil ?_
    refine AW.cond (.tmp rfl) (fun hb4 => ?_) (fun hb4 => ?_)
    · have _u := True.intro
      replace hb4 := of_decide_eq_true hb4
      refine AW.seq ?_
      refine AW.region ?_
      refine ARun.pure (PureOp.move rfl (.tmp rfl)) rfl rfl (Nat.le_of_ble_eq_true rfl) ?_
      refine ARun.pure (PureOp.nilPtr rfl (.tmp rfl)) rfl rfl (Nat.le_of_ble_eq_true rfl) ?_
      refine ARun.pure (PureOp.fieldPtr rfl (.tmp rfl) vtk_fi_67_1_1) rfl rfl (Nat.le_of_ble_eq_true rfl) ?_
      refine ARun.pure (PureOp.loadPtrE (y := .tre 500 (loF h x.name)) rfl (.tmp rfl) vtk_pl_33 rfl rfl (show loF h x.name < h.rows.length from by omega) (Nat.le_of_ble_eq_true rfl) rfl) rfl rfl (Nat.le_of_ble_eq_true rfl) ?_
      refine ARun.pure (PureOp.move rfl (.tmp rfl)) rfl rfl (Nat.le_of_ble_eq_true rfl) ?_
      refine ARun.pure (PureOp.sub (c := (((rowK h x).samples.length - 1 : Nat) : Int)) rfl (.tmp rfl) .int (by rw [wrap_id (by omega) (by omega)]; omega)) rfl rfl (Nat.le_of_ble_eq_true rfl) ?_
      refine ARun.treeLoad (m := h.rows.length) (sz := 2) (n := (rowK h x).samples.length) (i := ((rowK h x).samples.length - 1)) (off := 0) (f := (fun a b => ceSample ((rowK h x).samples.getD a (default : GSample)) b)) (z := .int .i64 ((takeLast h x).at_)) rfl rfl rfl (.tmp rfl) rfl (by omega) ((takeX_lt (by omega)).trans rfl) vtk_el_33_2 (.tmp rfl) rfl (by omega) vtk_fi_81_0_0 (by decide) vtk_pl_3 rfl rfl rfl rfl rfl rfl rfl rfl (Nat.le_of_ble_eq_true rfl) (Nat.le_of_ble_eq_true rfl) (Nat.le_of_ble_eq_true rfl) rfl rfl ?_
      refine ARun.pure (PureOp.assign rfl (.tmp rfl)) rfl rfl (Nat.le_of_ble_eq_true rfl) ?_
      refine ARun.nil ?_
      refine AW.block ?_
      refine AW.seq ?_
      refine AW.region ?_
      refine ARun.pure (PureOp.move rfl (.tmp rfl)) rfl rfl (Nat.le_of_ble_eq_true rfl) ?_
      refine ARun.pure (PureOp.fieldPtr rfl (.tmp rfl) vtk_fi_47_1_1) rfl rfl (Nat.le_of_ble_eq_true rfl) ?_
      refine ARun.pure (PureOp.loadPtr rfl (.tmp rfl) vtk_pl_3 rfl rfl (Nat.le_of_ble_eq_true rfl) (Nat.le_of_ble_eq_true rfl)) rfl rfl (Nat.le_of_ble_eq_true rfl) ?_
      refine ARun.pure (PureOp.intOp rfl (.tmp rfl) (.tmp rfl) rfl) rfl rfl (Nat.le_of_ble_eq_true rfl) ?_
      refine ARun.pure (PureOp.assign rfl (.tmp rfl)) rfl rfl (Nat.le_of_ble_eq_true rfl) ?_
      refine ARun.nil ?_
      refine AW.cond (.tmp rfl) (fun hb5 => ?_) (fun hb5 => ?_)
      · have _u := True.intro
        replace hb5 := of_decide_eq_true hb5
        have hcode := tk_again hir hb5
        have hcn : ¬ takeCode h x = 1 := by omega
        refine AW.seq ?_
        refine AW.region ?_
        refine ARun.pure (PureOp.assign rfl .int) rfl rfl (Nat.le_of_ble_eq_true rfl) ?_
        refine ARun.nil ?_
        rw [tN_old hcn, hcode]
        refine AW.moveCell 1000000 0 1000001 77 2 h.rows.length [.own 1000001 2 h.rows.length, .int .i64 (h.offset + 1)] [.own 77 2 h.rows.length, .int .i64 (h.offset + 1)] rfl rfl rfl rfl rfl (by decide) ⟨rfl, (by repeat first | exact trivial | refine ⟨by decide, by first | rfl | exact trivial | (intro a_ b_; first | exact getD_no rfl | exact rowC0_no rfl _ _ | exact rowS_no rfl rfl _ _ | exact insF_no (rowC0_no rfl) (fun _ _ => getD_no rfl) _ _ _ | ((try dsimp only); (repeat' split) <;> first | rfl | exact rowC0_no rfl _ _ | exact getD_no rfl | exact insF_no (rowC0_no rfl) (fun _ _ => getD_no rfl) _ _ _)), ?_⟩)⟩ ?_
        refine AW.reindex 500 78 77 h.rows.length h.rows.length 2 h.rows.length id (takeX h x) (rowC0 h 500) (rowC0 h 78) rfl rfl (fun _ hi => hi) (fun _ _ _ _ e => e) row_id ⟨rfl, (by repeat first | exact trivial | refine ⟨by decide, by first | rfl | exact trivial | (intro a_ b_; first | exact getD_no rfl | exact rowC0_no rfl _ _ | exact rowS_no rfl rfl _ _ | exact insF_no (rowC0_no rfl) (fun _ _ => getD_no rfl) _ _ _ | ((try dsimp only); (repeat' split) <;> first | rfl | exact rowC0_no rfl _ _ | exact getD_no rfl | exact insF_no (rowC0_no rfl) (fun _ _ => getD_no rfl) _ _ _)), ?_⟩)⟩ ?_
        refine AW.ret (show ResL _ _ [.tmp 4] _ ∧ HeapLe _ _ from ⟨resI rfl ?_, ⟨⟨_, rfl, rfl, Nat.le_refl _, fun a b _ _ => rowC_old hcn 78 a b⟩, ⟨_, rfl, fun q hq => rowX_old hcn hq⟩, HLe.refl rfl, trivial⟩⟩)
        rfl
      · have _u := True.intro
        replace hb5 := of_decide_eq_false hb5
        have hc1 := hb5
        refine AW.seq ?_
        refine AW.region ?_
        refine ARun.pure (PureOp.move rfl (.tmp rfl)) rfl rfl (Nat.le_of_ble_eq_true rfl) ?_
        refine ARun.pure (PureOp.fieldPtr rfl (.tmp rfl) vtk_fi_47_1_1) rfl rfl (Nat.le_of_ble_eq_true rfl) ?_
        refine ARun.pure (PureOp.loadPtr rfl (.tmp rfl) vtk_pl_3 rfl rfl (Nat.le_of_ble_eq_true rfl) (Nat.le_of_ble_eq_true rfl)) rfl rfl (Nat.le_of_ble_eq_true rfl) ?_
        refine ARun.pure (PureOp.intOp rfl (.tmp rfl) (.tmp rfl) rfl) rfl rfl (Nat.le_of_ble_eq_true rfl) ?_
        refine ARun.pure (PureOp.assign rfl (.tmp rfl)) rfl rfl (Nat.le_of_ble_eq_true rfl) ?_
        refine ARun.nil ?_
        refine AW.cond (.tmp rfl) (fun hb6 => ?_) (fun hb6 => ?_)
        · have _u := True.intro
          replace hb6 := of_decide_eq_true hb6
          have hcode := tk_late hir hc1 hb6
          have hcn : ¬ takeCode h x = 1 := by omega
          refine AW.seq ?_
          refine AW.region ?_
          refine ARun.pure (PureOp.assign rfl .int) rfl rfl (Nat.le_of_ble_eq_true rfl) ?_
          refine ARun.nil ?_
          rw [tN_old hcn, hcode]
          refine AW.moveCell 1000000 0 1000001 77 2 h.rows.length [.own 1000001 2 h.rows.length, .int .i64 (h.offset + 1)] [.own 77 2 h.rows.length, .int .i64 (h.offset + 1)] rfl rfl rfl rfl rfl (by decide) ⟨rfl, (by repeat first | exact trivial | refine ⟨by decide, by first | rfl | exact trivial | (intro a_ b_; first | exact getD_no rfl | exact rowC0_no rfl _ _ | exact rowS_no rfl rfl _ _ | exact insF_no (rowC0_no rfl) (fun _ _ => getD_no rfl) _ _ _ | ((try dsimp only); (repeat' split) <;> first | rfl | exact rowC0_no rfl _ _ | exact getD_no rfl | exact insF_no (rowC0_no rfl) (fun _ _ => getD_no rfl) _ _ _)), ?_⟩)⟩ ?_
          refine AW.reindex 500 78 77 h.rows.length h.rows.length 2 h.rows.length id (takeX h x) (rowC0 h 500) (rowC0 h 78) rfl rfl (fun _ hi => hi) (fun _ _ _ _ e => e) row_id ⟨rfl, (by repeat first | exact trivial | refine ⟨by decide, by first | rfl | exact trivial | (intro a_ b_; first | exact getD_no rfl | exact rowC0_no rfl _ _ | exact rowS_no rfl rfl _ _ | exact insF_no (rowC0_no rfl) (fun _ _ => getD_no rfl) _ _ _ | ((try dsimp only); (repeat' split) <;> first | rfl | exact rowC0_no rfl _ _ | exact getD_no rfl | exact insF_no (rowC0_no rfl) (fun _ _ => getD_no rfl) _ _ _)), ?_⟩)⟩ ?_
          refine AW.ret (show ResL _ _ [.tmp 4] _ ∧ HeapLe _ _ from ⟨resI rfl ?_, ⟨⟨_, rfl, rfl, Nat.le_refl _, fun a b _ _ => rowC_old hcn 78 a b⟩, ⟨_, rfl, fun q hq => rowX_old hcn hq⟩, HLe.refl rfl, trivial⟩⟩)
          rfl
        · have _u := True.intro
          replace hb6 := of_decide_eq_false hb6
          have hc2 := hb6
          refine AW.seq ?_
          refine AW.region ?_
          refine ARun.pure (PureOp.move rfl (.tmp rfl)) rfl rfl (Nat.le_of_ble_eq_true rfl) ?_
          refine ARun.pure (PureOp.intOp rfl (.tmp rfl) .int rfl) rfl rfl (Nat.le_of_ble_eq_true rfl) ?_
          refine ARun.pure (PureOp.assign rfl (.tmp rfl)) rfl rfl (Nat.le_of_ble_eq_true rfl) ?_
          refine ARun.nil ?_
          refine AW.cond (.tmp rfl) (fun hb7 => ?_) (fun hb7 => ?_)
          · have _u := True.intro
            replace hb7 := of_decide_eq_true hb7
            have hcode := tk_full hir hc1 hc2 (show (rowK h x).samples.length = 40 from by omega)
            have hcn : ¬ takeCode h x = 1 := by omega
            refine AW.seq ?_
            refine AW.region ?_
            refine ARun.pure (PureOp.assign rfl .int) rfl rfl (Nat.le_of_ble_eq_true rfl) ?_
            refine ARun.nil ?_
            rw [tN_old hcn, hcode]
            refine AW.moveCell 1000000 0 1000001 77 2 h.rows.length [.own 1000001 2 h.rows.length, .int .i64 (h.offset + 1)] [.own 77 2 h.rows.length, .int .i64 (h.offset + 1)] rfl rfl rfl rfl rfl (by decide) ⟨rfl, (by repeat first | exact trivial | refine ⟨by decide, by first | rfl | exact trivial | (intro a_ b_; first | exact getD_no rfl | exact rowC0_no rfl _ _ | exact rowS_no rfl rfl _ _ | exact insF_no (rowC0_no rfl) (fun _ _ => getD_no rfl) _ _ _ | ((try dsimp only); (repeat' split) <;> first | rfl | exact rowC0_no rfl _ _ | exact getD_no rfl | exact insF_no (rowC0_no rfl) (fun _ _ => getD_no rfl) _ _ _)), ?_⟩)⟩ ?_
            refine AW.reindex 500 78 77 h.rows.length h.rows.length 2 h.rows.length id (takeX h x) (rowC0 h 500) (rowC0 h 78) rfl rfl (fun _ hi => hi) (fun _ _ _ _ e => e) row_id ⟨rfl, (by repeat first | exact trivial | refine ⟨by decide, by first | rfl | exact trivial | (intro a_ b_; first | exact getD_no rfl | exact rowC0_no rfl _ _ | exact rowS_no rfl rfl _ _ | exact insF_no (rowC0_no rfl) (fun _ _ => getD_no rfl) _ _ _ | ((try dsimp only); (repeat' split) <;> first | rfl | exact rowC0_no rfl _ _ | exact getD_no rfl | exact insF_no (rowC0_no rfl) (fun _ _ => getD_no rfl) _ _ _)), ?_⟩)⟩ ?_
            refine AW.ret (show ResL _ _ [.tmp 4] _ ∧ HeapLe _ _ from ⟨resI rfl ?_, ⟨⟨_, rfl, rfl, Nat.le_refl _, fun a b _ _ => rowC_old hcn 78 a b⟩, ⟨_, rfl, fun q hq => rowX_old hcn hq⟩, HLe.refl rfl, trivial⟩⟩)
            rfl
          · have _u := True.intro
            replace hb7 := of_decide_eq_false hb7
            have hcode := tk_new hir hc1 hc2 (show ¬ (rowK h x).samples.length = 40 from by omega)
            refine AW.skip ?_
            refine AW.seq ?_
            refine AW.anyX [⟨[], [], [], []⟩, ⟨[], [], [], []⟩, ⟨[], [], [], []⟩, ⟨[], [], [], []⟩, ⟨[], [4, 500, 501, 1000001], [4, 501], [(4, .arr 2 ((rowK h x).samples.length) (fun a b => ceSample ((rowK h x).samples.getD a (default : GSample)) b)), (501, .trees (h.rows.length - 1) (takeY h x)), (1000001, .arr 2 h.rows.length (rowS h (loF h x.name)))]⟩, ⟨[], [], [], []⟩, ⟨[0], [], [], []⟩, ⟨[], [], [], []⟩, ⟨[0], [], [], []⟩, ⟨[], [], [], []⟩, ⟨[], [5], [5], [(5, .arr 2 1 (fun _ jc => ([.int .i64 x.at_, .int .i64 x.value] : List AV).getD jc (.con undef)))]⟩, ⟨[], [4, 5, 6, 78, 501, 1000001], [6, 78], [(5, .arr 2 1 (fun _ jc => ([.int .i64 x.at_, .int .i64 x.value] : List AV).getD jc (.con undef))), (78, .trees h.rows.length (rowX0 (takeH h x))), (1000001, .arr 2 h.rows.length (fun a b => if a = (loF h x.name) ∧ b = 1 then .tre 500 (loF h x.name) else rowC0 h 78 a b))]⟩, ⟨[], [], [], []⟩, ⟨[], [], [], []⟩, ⟨[], [1000001], [], [(1000001, .arr 2 h.rows.length (fun a b => if a = loF h x.name ∧ b = 1 then .tre 78 (loF h x.name) else (fun a b => if a = (loF h x.name) ∧ b = 1 then .tre 500 (loF h x.name) else rowC0 h 78 a b : Nat → Nat → AV) a b))]⟩] (by kernel_rfl) (by kernel_rfl) (by kernel_rfl) ⟨⟨.inl rfl, .inr (.inr trivial), .inr (.inr trivial), .inr (.inr trivial), .inr (.inr (by repeat first | exact trivial | refine And.intro ?_ ?_ | exact rfl | ((intro a_ b_; first | exact getD_no rfl | exact rowC0_no rfl _ _ | exact rowS_no rfl rfl _ _ | exact insF_no (rowC0_no rfl) (fun _ _ => getD_no rfl) _ _ _ | ((try dsimp only); (repeat' split) <;> first | rfl | exact rowC0_no rfl _ _ | exact getD_no rfl | exact insF_no (rowC0_no rfl) (fun _ _ => getD_no rfl) _ _ _))))), .inr (.inr trivial), .inr (.inr trivial), .inr (.inr trivial), .inr (.inr trivial), .inr (.inr trivial), .inr (.inr (by repeat first | exact trivial | refine And.intro ?_ ?_ | exact rfl | ((intro a_ b_; first | exact getD_no rfl | exact rowC0_no rfl _ _ | exact rowS_no rfl rfl _ _ | exact insF_no (rowC0_no rfl) (fun _ _ => getD_no rfl) _ _ _ | ((try dsimp only); (repeat' split) <;> first | rfl | exact rowC0_no rfl _ _ | exact getD_no rfl | exact insF_no (rowC0_no rfl) (fun _ _ => getD_no rfl) _ _ _))))), .inr (.inr (by repeat first | exact trivial | refine And.intro ?_ ?_ | exact rfl | ((intro a_ b_; first | exact getD_no rfl | exact rowC0_no rfl _ _ | exact rowS_no rfl rfl _ _ | exact insF_no (rowC0_no rfl) (fun _ _ => getD_no rfl) _ _ _ | ((try dsimp only); (repeat' split) <;> first | rfl | exact rowC0_no rfl _ _ | exact getD_no rfl | exact insF_no (rowC0_no rfl) (fun _ _ => getD_no rfl) _ _ _))))), .inr (.inr trivial), .inr (.inr trivial), .inr (.inr trivial), trivial⟩, ⟨.inr (.inr trivial), .inl rfl, .inr (.inr trivial), .inr (.inr trivial), .inr (.inr (by repeat first | exact trivial | refine And.intro ?_ ?_ | exact rfl | ((intro a_ b_; first | exact getD_no rfl | exact rowC0_no rfl _ _ | exact rowS_no rfl rfl _ _ | exact insF_no (rowC0_no rfl) (fun _ _ => getD_no rfl) _ _ _ | ((try dsimp only); (repeat' split) <;> first | rfl | exact rowC0_no rfl _ _ | exact getD_no rfl | exact insF_no (rowC0_no rfl) (fun _ _ => getD_no rfl) _ _ _))))), .inr (.inr trivial), .inr (.inr trivial), .inr (.inr trivial), .inr (.inr trivial), .inr (.inr trivial), .inr (.inr (by repeat first | exact trivial | refine And.intro ?_ ?_ | exact rfl | ((intro a_ b_; first | exact getD_no rfl | exact rowC0_no rfl _ _ | exact rowS_no rfl rfl _ _ | exact insF_no (rowC0_no rfl) (fun _ _ => getD_no rfl) _ _ _ | ((try dsimp only); (repeat' split) <;> first | rfl | exact rowC0_no rfl _ _ | exact getD_no rfl | exact insF_no (rowC0_no rfl) (fun _ _ => getD_no rfl) _ _ _))))), .inr (.inr (by repeat first | exact trivial | refine And.intro ?_ ?_ | exact rfl | ((intro a_ b_; first | exact getD_no rfl | exact rowC0_no rfl _ _ | exact rowS_no rfl rfl _ _ | exact insF_no (rowC0_no rfl) (fun _ _ => getD_no rfl) _ _ _ | ((try dsimp only); (repeat' split) <;> first | rfl | exact rowC0_no rfl _ _ | exact getD_no rfl | exact insF_no (rowC0_no rfl) (fun _ _ => getD_no rfl) _ _ _))))), .inr (.inr trivial), .inr (.inr trivial), .inr (.inr trivial), trivial⟩, ⟨.inr (.inr trivial), .inr (.inr trivial), .inl rfl, .inr (.inr trivial), .inr (.inr (by repeat first | exact trivial | refine And.intro ?_ ?_ | exact rfl | ((intro a_ b_; first | exact getD_no rfl | exact rowC0_no rfl _ _ | exact rowS_no rfl rfl _ _ | exact insF_no (rowC0_no rfl) (fun _ _ => getD_no rfl) _ _ _ | ((try dsimp only); (repeat' split) <;> first | rfl | exact rowC0_no rfl _ _ | exact getD_no rfl | exact insF_no (rowC0_no rfl) (fun _ _ => getD_no rfl) _ _ _))))), .inr (.inr trivial), .inr (.inr trivial), .inr (.inr trivial), .inr (.inr trivial), .inr (.inr trivial), .inr (.inr (by repeat first | exact trivial | refine And.intro ?_ ?_ | exact rfl | ((intro a_ b_; first | exact getD_no rfl | exact rowC0_no rfl _ _ | exact rowS_no rfl rfl _ _ | exact insF_no (rowC0_no rfl) (fun _ _ => getD_no rfl) _ _ _ | ((try dsimp only); (repeat' split) <;> first | rfl | exact rowC0_no rfl _ _ | exact getD_no rfl | exact insF_no (rowC0_no rfl) (fun _ _ => getD_no rfl) _ _ _))))), .inr (.inr (by repeat first | exact trivial | refine And.intro ?_ ?_ | exact rfl | ((intro a_ b_; first | exact getD_no rfl | exact rowC0_no rfl _ _ | exact rowS_no rfl rfl _ _ | exact insF_no (rowC0_no rfl) (fun _ _ => getD_no rfl) _ _ _ | ((try dsimp only); (repeat' split) <;> first | rfl | exact rowC0_no rfl _ _ | exact getD_no rfl | exact insF_no (rowC0_no rfl) (fun _ _ => getD_no rfl) _ _ _))))), .inr (.inr trivial), .inr (.inr trivial), .inr (.inr trivial), trivial⟩, ⟨.inr (.inr trivial), .inr (.inr trivial), .inr (.inr trivial), .inl rfl, .inr (.inr (by repeat first | exact trivial | refine And.intro ?_ ?_ | exact rfl | ((intro a_ b_; first | exact getD_no rfl | exact rowC0_no rfl _ _ | exact rowS_no rfl rfl _ _ | exact insF_no (rowC0_no rfl) (fun _ _ => getD_no rfl) _ _ _ | ((try dsimp only); (repeat' split) <;> first | rfl | exact rowC0_no rfl _ _ | exact getD_no rfl | exact insF_no (rowC0_no rfl) (fun _ _ => getD_no rfl) _ _ _))))), .inr (.inr trivial), .inr (.inr trivial), .inr (.inr trivial), .inr (.inr trivial), .inr (.inr trivial), .inr (.inr (by repeat first | exact trivial | refine And.intro ?_ ?_ | exact rfl | ((intro a_ b_; first | exact getD_no rfl | exact rowC0_no rfl _ _ | exact rowS_no rfl rfl _ _ | exact insF_no (rowC0_no rfl) (fun _ _ => getD_no rfl) _ _ _ | ((try dsimp only); (repeat' split) <;> first | rfl | exact rowC0_no rfl _ _ | exact getD_no rfl | exact insF_no (rowC0_no rfl) (fun _ _ => getD_no rfl) _ _ _))))), .inr (.inr (by repeat first | exact trivial | refine And.intro ?_ ?_ | exact rfl | ((intro a_ b_; first | exact getD_no rfl | exact rowC0_no rfl _ _ | exact rowS_no rfl rfl _ _ | exact insF_no (rowC0_no rfl) (fun _ _ => getD_no rfl) _ _ _ | ((try dsimp only); (repeat' split) <;> first | rfl | exact rowC0_no rfl _ _ | exact getD_no rfl | exact insF_no (rowC0_no rfl) (fun _ _ => getD_no rfl) _ _ _))))), .inr (.inr trivial), .inr (.inr trivial), .inr (.inr trivial), trivial⟩, ⟨.inr (.inr trivial), .inr (.inr trivial), .inr (.inr trivial), .inr (.inr trivial), .inl rfl, .inr (.inr trivial), .inr (.inr trivial), .inr (.inr trivial), .inr (.inr trivial), .inr (.inr trivial), .inr (.inr (by repeat first | exact trivial | refine And.intro ?_ ?_ | exact rfl | ((intro a_ b_; first | exact getD_no rfl | exact rowC0_no rfl _ _ | exact rowS_no rfl rfl _ _ | exact insF_no (rowC0_no rfl) (fun _ _ => getD_no rfl) _ _ _ | ((try dsimp only); (repeat' split) <;> first | rfl | exact rowC0_no rfl _ _ | exact getD_no rfl | exact insF_no (rowC0_no rfl) (fun _ _ => getD_no rfl) _ _ _))))), .inr (.inr (by repeat first | exact trivial | refine And.intro ?_ ?_ | exact rfl | ((intro a_ b_; first | exact getD_no rfl | exact rowC0_no rfl _ _ | exact rowS_no rfl rfl _ _ | exact insF_no (rowC0_no rfl) (fun _ _ => getD_no rfl) _ _ _ | ((try dsimp only); (repeat' split) <;> first | rfl | exact rowC0_no rfl _ _ | exact getD_no rfl | exact insF_no (rowC0_no rfl) (fun _ _ => getD_no rfl) _ _ _))))), .inr (.inr trivial), .inr (.inr trivial), .inr (.inr trivial), trivial⟩, ⟨.inr (.inr trivial), .inr (.inr trivial), .inr (.inr trivial), .inr (.inr trivial), .inr (.inr (by repeat first | exact trivial | refine And.intro ?_ ?_ | exact rfl | ((intro a_ b_; first | exact getD_no rfl | exact rowC0_no rfl _ _ | exact rowS_no rfl rfl _ _ | exact insF_no (rowC0_no rfl) (fun _ _ => getD_no rfl) _ _ _ | ((try dsimp only); (repeat' split) <;> first | rfl | exact rowC0_no rfl _ _ | exact getD_no rfl | exact insF_no (rowC0_no rfl) (fun _ _ => getD_no rfl) _ _ _))))), .inl rfl, .inr (.inr trivial), .inr (.inr trivial), .inr (.inr trivial), .inr (.inr trivial), .inr (.inr (by repeat first | exact trivial | refine And.intro ?_ ?_ | exact rfl | ((intro a_ b_; first | exact getD_no rfl | exact rowC0_no rfl _ _ | exact rowS_no rfl rfl _ _ | exact insF_no (rowC0_no rfl) (fun _ _ => getD_no rfl) _ _ _ | ((try dsimp only); (repeat' split) <;> first | rfl | exact rowC0_no rfl _ _ | exact getD_no rfl | exact insF_no (rowC0_no rfl) (fun _ _ => getD_no rfl) _ _ _))))), .inr (.inr (by repeat first | exact trivial | refine And.intro ?_ ?_ | exact rfl | ((intro a_ b_; first | exact getD_no rfl | exact rowC0_no rfl _ _ | exact rowS_no rfl rfl _ _ | exact insF_no (rowC0_no rfl) (fun _ _ => getD_no rfl) _ _ _ | ((try dsimp only); (repeat' split) <;> first | rfl | exact rowC0_no rfl _ _ | exact getD_no rfl | exact insF_no (rowC0_no rfl) (fun _ _ => getD_no rfl) _ _ _))))), .inr (.inr trivial), .inr (.inr trivial), .inr (.inr trivial), trivial⟩, ⟨.inr (.inr trivial), .inr (.inr trivial), .inr (.inr trivial), .inr (.inr trivial), .inr (.inr (by repeat first | exact trivial | refine And.intro ?_ ?_ | exact rfl | ((intro a_ b_; first | exact getD_no rfl | exact rowC0_no rfl _ _ | exact rowS_no rfl rfl _ _ | exact insF_no (rowC0_no rfl) (fun _ _ => getD_no rfl) _ _ _ | ((try dsimp only); (repeat' split) <;> first | rfl | exact rowC0_no rfl _ _ | exact getD_no rfl | exact insF_no (rowC0_no rfl) (fun _ _ => getD_no rfl) _ _ _))))), .inr (.inr trivial), .inl rfl, .inr (.inr trivial), .inr (.inr trivial), .inr (.inr trivial), .inr (.inr (by repeat first | exact trivial | refine And.intro ?_ ?_ | exact rfl | ((intro a_ b_; first | exact getD_no rfl | exact rowC0_no rfl _ _ | exact rowS_no rfl rfl _ _ | exact insF_no (rowC0_no rfl) (fun _ _ => getD_no rfl) _ _ _ | ((try dsimp only); (repeat' split) <;> first | rfl | exact rowC0_no rfl _ _ | exact getD_no rfl | exact insF_no (rowC0_no rfl) (fun _ _ => getD_no rfl) _ _ _))))), .inr (.inr (by repeat first | exact trivial | refine And.intro ?_ ?_ | exact rfl | ((intro a_ b_; first | exact getD_no rfl | exact rowC0_no rfl _ _ | exact rowS_no rfl rfl _ _ | exact insF_no (rowC0_no rfl) (fun _ _ => getD_no rfl) _ _ _ | ((try dsimp only); (repeat' split) <;> first | rfl | exact rowC0_no rfl _ _ | exact getD_no rfl | exact insF_no (rowC0_no rfl) (fun _ _ => getD_no rfl) _ _ _))))), .inr (.inr trivial), .inr (.inr trivial), .inr (.inr trivial), trivial⟩, ⟨.inr (.inr trivial), .inr (.inr trivial), .inr (.inr trivial), .inr (.inr trivial), .inr (.inr (by repeat first | exact trivial | refine And.intro ?_ ?_ | exact rfl | ((intro a_ b_; first | exact getD_no rfl | exact rowC0_no rfl _ _ | exact rowS_no rfl rfl _ _ | exact insF_no (rowC0_no rfl) (fun _ _ => getD_no rfl) _ _ _ | ((try dsimp only); (repeat' split) <;> first | rfl | exact rowC0_no rfl _ _ | exact getD_no rfl | exact insF_no (rowC0_no rfl) (fun _ _ => getD_no rfl) _ _ _))))), .inr (.inr trivial), .inr (.inr trivial), .inl rfl, .inr (.inr trivial), .inr (.inr trivial), .inr (.inr (by repeat first | exact trivial | refine And.intro ?_ ?_ | exact rfl | ((intro a_ b_; first | exact getD_no rfl | exact rowC0_no rfl _ _ | exact rowS_no rfl rfl _ _ | exact insF_no (rowC0_no rfl) (fun _ _ => getD_no rfl) _ _ _ | ((try dsimp only); (repeat' split) <;> first | rfl | exact rowC0_no rfl _ _ | exact getD_no rfl | exact insF_no (rowC0_no rfl) (fun _ _ => getD_no rfl) _ _ _))))), .inr (.inr (by repeat first | exact trivial | refine And.intro ?_ ?_ | exact rfl | ((intro a_ b_; first | exact getD_no rfl | exact rowC0_no rfl _ _ | exact rowS_no rfl rfl _ _ | exact insF_no (rowC0_no rfl) (fun _ _ => getD_no rfl) _ _ _ | ((try dsimp only); (repeat' split) <;> first | rfl | exact rowC0_no rfl _ _ | exact getD_no rfl | exact insF_no (rowC0_no rfl) (fun _ _ => getD_no rfl) _ _ _))))), .inr (.inr trivial), .inr (.inr trivial), .inr (.inr trivial), trivial⟩, ⟨.inr (.inr trivial), .inr (.inr trivial), .inr (.inr trivial), .inr (.inr trivial), .inr (.inr (by repeat first | exact trivial | refine And.intro ?_ ?_ | exact rfl | ((intro a_ b_; first | exact getD_no rfl | exact rowC0_no rfl _ _ | exact rowS_no rfl rfl _ _ | exact insF_no (rowC0_no rfl) (fun _ _ => getD_no rfl) _ _ _ | ((try dsimp only); (repeat' split) <;> first | rfl | exact rowC0_no rfl _ _ | exact getD_no rfl | exact insF_no (rowC0_no rfl) (fun _ _ => getD_no rfl) _ _ _))))), .inr (.inr trivial), .inr (.inr trivial), .inr (.inr trivial), .inl rfl, .inr (.inr trivial), .inr (.inr (by repeat first | exact trivial | refine And.intro ?_ ?_ | exact rfl | ((intro a_ b_; first | exact getD_no rfl | exact rowC0_no rfl _ _ | exact rowS_no rfl rfl _ _ | exact insF_no (rowC0_no rfl) (fun _ _ => getD_no rfl) _ _ _ | ((try dsimp only); (repeat' split) <;> first | rfl | exact rowC0_no rfl _ _ | exact getD_no rfl | exact insF_no (rowC0_no rfl) (fun _ _ => getD_no rfl) _ _ _))))), .inr (.inr (by repeat first | exact trivial | refine And.intro ?_ ?_ | exact rfl | ((intro a_ b_; first | exact getD_no rfl | exact rowC0_no rfl _ _ | exact rowS_no rfl rfl _ _ | exact insF_no (rowC0_no rfl) (fun _ _ => getD_no rfl) _ _ _ | ((try dsimp only); (repeat' split) <;> first | rfl | exact rowC0_no rfl _ _ | exact getD_no rfl | exact insF_no (rowC0_no rfl) (fun _ _ => getD_no rfl) _ _ _))))), .inr (.inr trivial), .inr (.inr trivial), .inr (.inr trivial), trivial⟩, ⟨.inr (.inr trivial), .inr (.inr trivial), .inr (.inr trivial), .inr (.inr trivial), .inr (.inr (by repeat first | exact trivial | refine And.intro ?_ ?_ | exact rfl | ((intro a_ b_; first | exact getD_no rfl | exact rowC0_no rfl _ _ | exact rowS_no rfl rfl _ _ | exact insF_no (rowC0_no rfl) (fun _ _ => getD_no rfl) _ _ _ | ((try dsimp only); (repeat' split) <;> first | rfl | exact rowC0_no rfl _ _ | exact getD_no rfl | exact insF_no (rowC0_no rfl) (fun _ _ => getD_no rfl) _ _ _))))), .inr (.inr trivial), .inr (.inr trivial), .inr (.inr trivial), .inr (.inr trivial), .inl rfl, .inr (.inr (by repeat first | exact trivial | refine And.intro ?_ ?_ | exact rfl | ((intro a_ b_; first | exact getD_no rfl | exact rowC0_no rfl _ _ | exact rowS_no rfl rfl _ _ | exact insF_no (rowC0_no rfl) (fun _ _ => getD_no rfl) _ _ _ | ((try dsimp only); (repeat' split) <;> first | rfl | exact rowC0_no rfl _ _ | exact getD_no rfl | exact insF_no (rowC0_no rfl) (fun _ _ => getD_no rfl) _ _ _))))), .inr (.inr (by repeat first | exact trivial | refine And.intro ?_ ?_ | exact rfl | ((intro a_ b_; first | exact getD_no rfl | exact rowC0_no rfl _ _ | exact rowS_no rfl rfl _ _ | exact insF_no (rowC0_no rfl) (fun _ _ => getD_no rfl) _ _ _ | ((try dsimp only); (repeat' split) <;> first | rfl | exact rowC0_no rfl _ _ | exact getD_no rfl | exact insF_no (rowC0_no rfl) (fun _ _ => getD_no rfl) _ _ _))))), .inr (.inr trivial), .inr (.inr trivial), .inr (.inr trivial), trivial⟩, ⟨.inr (.inr trivial), .inr (.inr trivial), .inr (.inr trivial), .inr (.inr trivial), .inr (.inr (by repeat first | exact trivial | refine And.intro ?_ ?_ | exact rfl | ((intro a_ b_; first | exact getD_no rfl | exact rowC0_no rfl _ _ | exact rowS_no rfl rfl _ _ | exact insF_no (rowC0_no rfl) (fun _ _ => getD_no rfl) _ _ _ | ((try dsimp only); (repeat' split) <;> first | rfl | exact rowC0_no rfl _ _ | exact getD_no rfl | exact insF_no (rowC0_no rfl) (fun _ _ => getD_no rfl) _ _ _))))), .inr (.inr trivial), .inr (.inr trivial), .inr (.inr trivial), .inr (.inr trivial), .inr (.inr trivial), .inl rfl, .inr (.inr (by repeat first | exact trivial | refine And.intro ?_ ?_ | exact rfl | ((intro a_ b_; first | exact getD_no rfl | exact rowC0_no rfl _ _ | exact rowS_no rfl rfl _ _ | exact insF_no (rowC0_no rfl) (fun _ _ => getD_no rfl) _ _ _ | ((try dsimp only); (repeat' split) <;> first | rfl | exact rowC0_no rfl _ _ | exact getD_no rfl | exact insF_no (rowC0_no rfl) (fun _ _ => getD_no rfl) _ _ _))))), .inr (.inr trivial), .inr (.inr trivial), .inr (.inr trivial), trivial⟩, ⟨.inr (.inr trivial), .inr (.inr trivial), .inr (.inr trivial), .inr (.inr trivial), .inr (.inl (by kernel_rfl)), .inr (.inr trivial), .inr (.inr trivial), .inr (.inr trivial), .inr (.inr trivial), .inr (.inr trivial), .inr (.inl (by kernel_rfl)), .inl rfl, .inr (.inr trivial), .inr (.inr trivial), .inr (.inr trivial), trivial⟩, ⟨.inr (.inr trivial), .inr (.inr trivial), .inr (.inr trivial), .inr (.inr trivial), .inr (.inl (by kernel_rfl)), .inr (.inr trivial), .inr (.inr trivial), .inr (.inr trivial), .inr (.inr trivial), .inr (.inr trivial), .inr (.inl (by kernel_rfl)), .inr (.inl (by kernel_rfl)), .inl rfl, .inr (.inr trivial), .inr (.inr trivial), trivial⟩, ⟨.inr (.inr trivial), .inr (.inr trivial), .inr (.inr trivial), .inr (.inr trivial), .inr (.inl (by kernel_rfl)), .inr (.inr trivial), .inr (.inr trivial), .inr (.inr trivial), .inr (.inr trivial), .inr (.inr trivial), .inr (.inl (by kernel_rfl)), .inr (.inl (by kernel_rfl)), .inr (.inr trivial), .inl rfl, .inr (.inr trivial), trivial⟩, ⟨.inr (.inr trivial), .inr (.inr trivial), .inr (.inr trivial), .inr (.inr trivial), .inr (.inl (by kernel_rfl)), .inr (.inr trivial), .inr (.inr trivial), .inr (.inr trivial), .inr (.inr trivial), .inr (.inr trivial), .inr (.inl (by kernel_rfl)), .inr (.inl (by kernel_rfl)), .inr (.inr trivial), .inr (.inr trivial), .inl rfl, trivial⟩, trivial⟩ ⟨trivial, trivial, trivial, trivial, ⟨(by repeat first | exact trivial | refine ⟨by decide, by first | rfl | exact trivial | (intro a_ b_; first | exact getD_no rfl | exact rowC0_no rfl _ _ | exact rowS_no rfl rfl _ _ | exact insF_no (rowC0_no rfl) (fun _ _ => getD_no rfl) _ _ _ | ((try dsimp only); (repeat' split) <;> first | rfl | exact rowC0_no rfl _ _ | exact getD_no rfl | exact insF_no (rowC0_no rfl) (fun _ _ => getD_no rfl) _ _ _)), ?_⟩), (by repeat first | exact trivial | refine ⟨by decide, by first | rfl | exact trivial | (intro a_ b_; first | exact getD_no rfl | exact rowC0_no rfl _ _ | exact rowS_no rfl rfl _ _ | exact insF_no (rowC0_no rfl) (fun _ _ => getD_no rfl) _ _ _ | ((try dsimp only); (repeat' split) <;> first | rfl | exact rowC0_no rfl _ _ | exact getD_no rfl | exact insF_no (rowC0_no rfl) (fun _ _ => getD_no rfl) _ _ _)), ?_⟩), trivial⟩, trivial, trivial, trivial, trivial, trivial, ⟨(by repeat first | exact trivial | refine ⟨by decide, by first | rfl | exact trivial | (intro a_ b_; first | exact getD_no rfl | exact rowC0_no rfl _ _ | exact rowS_no rfl rfl _ _ | exact insF_no (rowC0_no rfl) (fun _ _ => getD_no rfl) _ _ _ | ((try dsimp only); (repeat' split) <;> first | rfl | exact rowC0_no rfl _ _ | exact getD_no rfl | exact insF_no (rowC0_no rfl) (fun _ _ => getD_no rfl) _ _ _)), ?_⟩), trivial⟩, ⟨(by repeat first | exact trivial | refine ⟨by decide, by first | rfl | exact trivial | (intro a_ b_; first | exact getD_no rfl | exact rowC0_no rfl _ _ | exact rowS_no rfl rfl _ _ | exact insF_no (rowC0_no rfl) (fun _ _ => getD_no rfl) _ _ _ | ((try dsimp only); (repeat' split) <;> first | rfl | exact rowC0_no rfl _ _ | exact getD_no rfl | exact insF_no (rowC0_no rfl) (fun _ _ => getD_no rfl) _ _ _)), ?_⟩), (by repeat first | exact trivial | refine ⟨by decide, by first | rfl | exact trivial | (intro a_ b_; first | exact getD_no rfl | exact rowC0_no rfl _ _ | exact rowS_no rfl rfl _ _ | exact insF_no (rowC0_no rfl) (fun _ _ => getD_no rfl) _ _ _ | ((try dsimp only); (repeat' split) <;> first | rfl | exact rowC0_no rfl _ _ | exact getD_no rfl | exact insF_no (rowC0_no rfl) (fun _ _ => getD_no rfl) _ _ _)), ?_⟩), trivial⟩, trivial, trivial, trivial, trivial⟩ ?_
            refine ADX.pure [] (PureOp.move rfl (.tmp rfl)) rfl rfl (Nat.le_of_ble_eq_true rfl) trivial rfl ?_
            refine ADX.pure [] (PureOp.move rfl (.tmp rfl)) rfl rfl (Nat.le_of_ble_eq_true rfl) trivial rfl ?_
            refine ADX.pure [] (PureOp.nilPtr rfl (.tmp rfl)) rfl rfl (Nat.le_of_ble_eq_true rfl) trivial rfl ?_
            refine ADX.pure [] (PureOp.fieldPtr rfl (.tmp rfl) vtk_fi_67_1_1) rfl rfl (Nat.le_of_ble_eq_true rfl) trivial rfl ?_
            refine ADX.eff (tk := [4, 500, 501, 1000001]) (new := [4, 501]) (s := .one (.own 4 2 ((rowK h x).samples.length))) (F := [(84, .one (.own 4 2 ((rowK h x).samples.length))), (84, .one (.tre 500 (loF h x.name)))]) (Hin := [(500, .trees h.rows.length (takeX h x)), (1000001, .arr 2 h.rows.length (rowC0 h 500))]) (Hout := [(4, .arr 2 ((rowK h x).samples.length) (fun a b => ceSample ((rowK h x).samples.getD a (default : GSample)) b)), (501, .trees (h.rows.length - 1) (takeY h x)), (1000001, .arr 2 h.rows.length (rowS h (loF h x.name)))]) (fun E X hE hX Q rest hk => ?_) ⟨rfl, rfl, trivial⟩ ⟨rfl, rfl⟩ rfl rfl rfl rfl ⟨(by repeat first | exact trivial | refine ⟨by decide, by first | rfl | exact trivial | (intro a_ b_; first | exact getD_no rfl | exact rowC0_no rfl _ _ | exact rowS_no rfl rfl _ _ | exact insF_no (rowC0_no rfl) (fun _ _ => getD_no rfl) _ _ _ | ((try dsimp only); (repeat' split) <;> first | rfl | exact rowC0_no rfl _ _ | exact getD_no rfl | exact insF_no (rowC0_no rfl) (fun _ _ => getD_no rfl) _ _ _)), ?_⟩), (by repeat first | exact trivial | refine ⟨by decide, by first | rfl | exact trivial | (intro a_ b_; first | exact getD_no rfl | exact rowC0_no rfl _ _ | exact rowS_no rfl rfl _ _ | exact insF_no (rowC0_no rfl) (fun _ _ => getD_no rfl) _ _ _ | ((try dsimp only); (repeat' split) <;> first | rfl | exact rowC0_no rfl _ _ | exact getD_no rfl | exact insF_no (rowC0_no rfl) (fun _ _ => getD_no rfl) _ _ _)), ?_⟩), trivial⟩ rfl (fun _ e => by cases e; exact Nat.le_of_ble_eq_true rfl) ?_
            · refine ARun.pure (PureOp.loadPtrE (y := .tre 500 (loF h x.name)) rfl (.tmp rfl) vtk_pl_33 rfl rfl (show loF h x.name < h.rows.length from by omega) (Nat.le_of_ble_eq_true rfl) rfl) rfl rfl (Nat.le_of_ble_eq_true rfl) ?_
              refine ARun.takeOut 84 500 (loF h x.name) h.rows.length 2 (rowK h x).samples.length 4 (takeX h x) (fun a b => ceSample ((rowK h x).samples.getD a (default : GSample)) b) rfl rfl (by omega) ((takeX_lt (by omega)).trans rfl) rfl (fun i j hi hj => match j, hj with | 0, _ => rfl | 1, _ => rfl | _ + 2, h => absurd h (by omega)) (fun _ _ => getD_no rfl) (by repeat first | exact Fr.ext2 ⟨rfl, (by repeat first | exact trivial | refine ⟨by decide, by first | rfl | exact trivial | (intro a_ b_; first | exact getD_no rfl | exact rowC0_no rfl _ _ | exact rowS_no rfl rfl _ _ | exact insF_no (rowC0_no rfl) (fun _ _ => getD_no rfl) _ _ _ | ((try dsimp only); (repeat' split) <;> first | rfl | exact rowC0_no rfl _ _ | exact getD_no rfl | exact insF_no (rowC0_no rfl) (fun _ _ => getD_no rfl) _ _ _)), ?_⟩)⟩ hE hX rfl rfl | refine Fr.consE rfl ?_ | refine Fr.consH (by decide) (by first | rfl | exact trivial | (intro a_ b_; first | exact getD_no rfl | exact rowC0_no rfl _ _ | exact rowS_no rfl rfl _ _ | exact insF_no (rowC0_no rfl) (fun _ _ => getD_no rfl) _ _ _ | ((try dsimp only); (repeat' split) <;> first | rfl | exact rowC0_no rfl _ _ | exact getD_no rfl | exact insF_no (rowC0_no rfl) (fun _ _ => getD_no rfl) _ _ _))) ?_ | refine Fr.filt ?_) (fun vv => ?_)
              refine ARun.reindex 500 501 1000001 h.rows.length (h.rows.length - 1) 2 h.rows.length (skP (loF h x.name)) (fun i => if i = (loF h x.name) then .con vv else takeX h x i) (rowC0 h 500) (rowS h (loF h x.name)) rfl rfl (skP_lt hlo) skP_inj (row_skip hlo) (by repeat first | exact Fr.ext2 ⟨rfl, (by repeat first | exact trivial | refine ⟨by decide, by first | rfl | exact trivial | (intro a_ b_; first | exact getD_no rfl | exact rowC0_no rfl _ _ | exact rowS_no rfl rfl _ _ | exact insF_no (rowC0_no rfl) (fun _ _ => getD_no rfl) _ _ _ | ((try dsimp only); (repeat' split) <;> first | rfl | exact rowC0_no rfl _ _ | exact getD_no rfl | exact insF_no (rowC0_no rfl) (fun _ _ => getD_no rfl) _ _ _)), ?_⟩)⟩ hE hX rfl rfl | refine Fr.consE rfl ?_ | refine Fr.consH (by decide) (by first | rfl | exact trivial | (intro a_ b_; first | exact getD_no rfl | exact rowC0_no rfl _ _ | exact rowS_no rfl rfl _ _ | exact insF_no (rowC0_no rfl) (fun _ _ => getD_no rfl) _ _ _ | ((try dsimp only); (repeat' split) <;> first | rfl | exact rowC0_no rfl _ _ | exact getD_no rfl | exact insF_no (rowC0_no rfl) (fun _ _ => getD_no rfl) _ _ _))) ?_ | refine Fr.filt ?_) ?_
              refine ARun.hleX ?_ ?_ hk
              · exact ⟨HLe.refl rfl, ⟨_, rfl, fun q hq => takeY_hole hq⟩, HLe.refl rfl, trivial⟩
              · repeat (first | exact LkX.refl | refine LkX.cons (hX.none rfl) ?_ | refine LkX.filter (hX.none rfl) ?_)
            refine ADX.pure [] (PureOp.fieldPtr rfl (.tmp rfl) vtk_fi_47_1_1) rfl rfl (Nat.le_of_ble_eq_true rfl) trivial rfl ?_
            refine ADX.pure [(0, .cells [.str x.name, .int .i64 x.at_, .int .i64 x.value])] (PureOp.loadPtr rfl (.tmp rfl) vtk_pl_3 rfl rfl (Nat.le_of_ble_eq_true rfl) (Nat.le_of_ble_eq_true rfl)) rfl rfl (Nat.le_of_ble_eq_true rfl) ⟨rfl, trivial⟩ rfl ?_
            refine ADX.pure [] (PureOp.fieldPtr rfl (.tmp rfl) vtk_fi_47_2_2) rfl rfl (Nat.le_of_ble_eq_true rfl) trivial rfl ?_
            refine ADX.pure [(0, .cells [.str x.name, .int .i64 x.at_, .int .i64 x.value])] (PureOp.loadPtr rfl (.tmp rfl) vtk_pl_3 rfl rfl (Nat.le_of_ble_eq_true rfl) (Nat.le_of_ble_eq_true rfl)) rfl rfl (Nat.le_of_ble_eq_true rfl) ⟨rfl, trivial⟩ rfl ?_
            refine ADX.pure [] (PureOp.build (ys := [.int .i64 x.at_, .int .i64 x.value]) (l := [.int .i64 0, .int .i64 0]) (pl := [(0, 1), (1, 1)]) (z := (.agg #[.int .i64 0, .int .i64 0])) rfl (by kernel_rfl) (by kernel_rfl) (fun _ _ _ => ⟨_, _, rfl, rfl, ⟨_, _, rfl, rfl, rfl⟩⟩) ⟨(.tmp rfl), trivial, rfl, ⟨(.tmp rfl), trivial, rfl, trivial⟩⟩ rfl) rfl rfl (Nat.le_of_ble_eq_true rfl) trivial rfl ?_
            refine ADX.eff (tk := [5]) (new := [5]) (s := .one (.own 5 2 1)) (F := [(90, .one (.own 5 2 1))]) (Hin := []) (Hout := [(5, .arr 2 1 (fun _ jc => ([.int .i64 x.at_, .int .i64 x.value] : List AV).getD jc (.con undef)))]) (fun E X hE hX Q rest hk => ?_) trivial ⟨rfl, rfl⟩ rfl rfl rfl rfl ⟨(by repeat first | exact trivial | refine ⟨by decide, by first | rfl | exact trivial | (intro a_ b_; first | exact getD_no rfl | exact rowC0_no rfl _ _ | exact rowS_no rfl rfl _ _ | exact insF_no (rowC0_no rfl) (fun _ _ => getD_no rfl) _ _ _ | ((try dsimp only); (repeat' split) <;> first | rfl | exact rowC0_no rfl _ _ | exact getD_no rfl | exact insF_no (rowC0_no rfl) (fun _ _ => getD_no rfl) _ _ _)), ?_⟩), trivial⟩ rfl (fun _ e => by cases e; exact Nat.le_of_ble_eq_true rfl) ?_
            · refine ARun.slice1 (id := 5) (z := (.agg #[.int .i64 0, .int .i64 0])) (by_ := 16) rfl (.tmp rfl) (SV.cells_of (by exact ⟨trivial, trivial, trivial⟩)) (by kernel_rfl) rfl rfl (by decide) (by decide) (Fr.ext2 ⟨rfl, (by repeat first | exact trivial | refine ⟨by decide, by first | rfl | exact trivial | (intro a_ b_; first | exact getD_no rfl | exact rowC0_no rfl _ _ | exact rowS_no rfl rfl _ _ | exact insF_no (rowC0_no rfl) (fun _ _ => getD_no rfl) _ _ _ | ((try dsimp only); (repeat' split) <;> first | rfl | exact rowC0_no rfl _ _ | exact getD_no rfl | exact insF_no (rowC0_no rfl) (fun _ _ => getD_no rfl) _ _ _)), ?_⟩)⟩ hE hX rfl rfl) rfl rfl rfl (Nat.le_of_ble_eq_true rfl) ?_
              refine ARun.hleX ?_ ?_ hk
              · exact HeapLe.one rfl trivial
              · repeat (first | exact LkX.refl | refine LkX.cons (hX.none rfl) ?_ | refine LkX.filter (hX.none rfl) ?_)
            refine ADX.eff (tk := [4, 5, 6, 78, 501, 1000001]) (new := [6, 78]) (s := .one (.tre 78 (loF h x.name))) (F := [(91, .one (.tre 78 (loF h x.name))), (91, .one (.tre 501 (h.rows.length - 1))), (91, .one (.own 6 2 ((rowK h x).samples.length + 1)))]) (Hin := [(4, .arr 2 ((rowK h x).samples.length) (fun a b => ceSample ((rowK h x).samples.getD a (default : GSample)) b)), (5, .arr 2 1 (fun _ jc => ([.int .i64 x.at_, .int .i64 x.value] : List AV).getD jc (.con undef))), (501, .trees (h.rows.length - 1) (takeY h x)), (1000001, .arr 2 h.rows.length (rowS h (loF h x.name)))]) (Hout := [(5, .arr 2 1 (fun _ jc => ([.int .i64 x.at_, .int .i64 x.value] : List AV).getD jc (.con undef))), (78, .trees h.rows.length (rowX0 (takeH h x))), (1000001, .arr 2 h.rows.length (fun a b => if a = (loF h x.name) ∧ b = 1 then .tre 500 (loF h x.name) else rowC0 h 78 a b))]) (fun E X hE hX Q rest hk => ?_) ⟨rfl, rfl, rfl, rfl, trivial⟩ ⟨rfl, rfl⟩ rfl rfl rfl rfl ⟨(by repeat first | exact trivial | refine ⟨by decide, by first | rfl | exact trivial | (intro a_ b_; first | exact getD_no rfl | exact rowC0_no rfl _ _ | exact rowS_no rfl rfl _ _ | exact insF_no (rowC0_no rfl) (fun _ _ => getD_no rfl) _ _ _ | ((try dsimp only); (repeat' split) <;> first | rfl | exact rowC0_no rfl _ _ | exact getD_no rfl | exact insF_no (rowC0_no rfl) (fun _ _ => getD_no rfl) _ _ _)), ?_⟩), (by repeat first | exact trivial | refine ⟨by decide, by first | rfl | exact trivial | (intro a_ b_; first | exact getD_no rfl | exact rowC0_no rfl _ _ | exact rowS_no rfl rfl _ _ | exact insF_no (rowC0_no rfl) (fun _ _ => getD_no rfl) _ _ _ | ((try dsimp only); (repeat' split) <;> first | rfl | exact rowC0_no rfl _ _ | exact getD_no rfl | exact insF_no (rowC0_no rfl) (fun _ _ => getD_no rfl) _ _ _)), ?_⟩), trivial⟩ rfl (fun _ e => by cases e; exact Nat.le_of_ble_eq_true rfl) ?_
            · refine ARun.append (id := 6) (sz := 2) (n := (rowK h x).samples.length) (m := 1) (by_ := 16) (z := (.agg #[.int .i64 0, .int .i64 0])) (f := fun a b => ceSample ((rowK h x).samples.getD a (default : GSample)) b) (g := fun _ jc => ([.int .i64 x.at_, .int .i64 x.value] : List AV).getD jc (.con undef)) (h := fun ia ja => if ia < (rowK h x).samples.length then (fun a b => ceSample ((rowK h x).samples.getD a (default : GSample)) b : Nat → Nat → AV) ia ja else (fun _ jc => ([.int .i64 x.at_, .int .i64 x.value] : List AV).getD jc (.con undef) : Nat → Nat → AV) (ia - (rowK h x).samples.length) ja) rfl (by kernel_rfl) rfl vtk_sl_33 (.own (.tmp rfl) rfl rfl rfl (Nat.le_refl _) (fun _ _ _ _ => rfl)) (.own (.tmp rfl) rfl rfl (Nat.le_refl _) (fun _ _ _ _ => rfl)) (by decide) (fun i j hi hj => match j, hj with | 0, _ => rfl | 1, _ => rfl | _ + 2, h => absurd h (by omega)) (fun _ _ _ _ => rfl) (by omega) (by omega) (by repeat first | exact Fr.ext2 ⟨rfl, (by repeat first | exact trivial | refine ⟨by decide, by first | rfl | exact trivial | (intro a_ b_; first | exact getD_no rfl | exact rowC0_no rfl _ _ | exact rowS_no rfl rfl _ _ | exact insF_no (rowC0_no rfl) (fun _ _ => getD_no rfl) _ _ _ | ((try dsimp only); (repeat' split) <;> first | rfl | exact rowC0_no rfl _ _ | exact getD_no rfl | exact insF_no (rowC0_no rfl) (fun _ _ => getD_no rfl) _ _ _)), ?_⟩)⟩ hE hX rfl rfl | refine Fr.consE rfl ?_ | refine Fr.consH (by decide) (by first | rfl | exact trivial | (intro a_ b_; first | exact getD_no rfl | exact rowC0_no rfl _ _ | exact rowS_no rfl rfl _ _ | exact insF_no (rowC0_no rfl) (fun _ _ => getD_no rfl) _ _ _ | ((try dsimp only); (repeat' split) <;> first | rfl | exact rowC0_no rfl _ _ | exact getD_no rfl | exact insF_no (rowC0_no rfl) (fun _ _ => getD_no rfl) _ _ _))) ?_ | refine Fr.filt ?_) (fun i j => by dsimp only; (repeat' split) <;> first | rfl | exact getD_no rfl) rfl rfl (Nat.le_of_ble_eq_true rfl) ?_
              refine ARun.closeRow 91 6 501 (h.rows.length - 1) 2 ((rowK h x).samples.length + 1) (m' := (addS h x).length) (X := takeY h x) (g := fun a b => ceSample ((addS h x).getD a (default : GSample)) b) rfl rfl rfl rfl (Nat.le_refl _) rfl rfl (takeY_n h x) (by rw [addS_row hir, List.length_append]; rfl) (fun i j hi hj => (show (if i < (rowK h x).samples.length then _ else _) = _ from addS_cell hir hi hj)) (fun i j hi hj => match j, hj with | 0, _ => rfl | 1, _ => rfl | _ + 2, h => absurd h (by omega)) ?_
              refine ARun.reindexS 91 501 78 1000001 (h.rows.length - 1 + 1) h.rows.length 2 h.rows.length (loF h x.name) (pmI (h.rows.length - 1) (loF h x.name)) (takeY h x) (rowS h (loF h x.name)) (fun a b => if a = (loF h x.name) ∧ b = 1 then .tre 500 (loF h x.name) else rowC0 h 78 a b) (by rw [pmI_self]; rfl) (by omega) rfl rfl (pmI_lt' (by omega)) (pmI_inj' hlo) row_back (by repeat first | exact Fr.ext2 ⟨rfl, (by repeat first | exact trivial | refine ⟨by decide, by first | rfl | exact trivial | (intro a_ b_; first | exact getD_no rfl | exact rowC0_no rfl _ _ | exact rowS_no rfl rfl _ _ | exact insF_no (rowC0_no rfl) (fun _ _ => getD_no rfl) _ _ _ | ((try dsimp only); (repeat' split) <;> first | rfl | exact rowC0_no rfl _ _ | exact getD_no rfl | exact insF_no (rowC0_no rfl) (fun _ _ => getD_no rfl) _ _ _)), ?_⟩)⟩ hE hX rfl rfl | refine Fr.consE rfl ?_ | refine Fr.consH (by decide) (by first | rfl | exact trivial | (intro a_ b_; first | exact getD_no rfl | exact rowC0_no rfl _ _ | exact rowS_no rfl rfl _ _ | exact insF_no (rowC0_no rfl) (fun _ _ => getD_no rfl) _ _ _ | ((try dsimp only); (repeat' split) <;> first | rfl | exact rowC0_no rfl _ _ | exact getD_no rfl | exact insF_no (rowC0_no rfl) (fun _ _ => getD_no rfl) _ _ _))) ?_ | refine Fr.filt ?_) ?_
              refine ARun.hleX ?_ ?_ hk
              · exact ⟨HLe.refl rfl, ⟨_, rfl, fun q hq => rowX_row hir hcode hq⟩, HLe.refl rfl, trivial⟩
              · repeat (first | exact LkX.refl | refine LkX.cons (hX.none rfl) ?_ | refine LkX.filter (hX.none rfl) ?_)
            refine ADX.pure [] (PureOp.nilPtr rfl (.tmp rfl)) rfl rfl (Nat.le_of_ble_eq_true rfl) trivial rfl ?_
            refine ADX.pure [] (PureOp.fieldPtr rfl (.tmp rfl) vtk_fi_67_1_1) rfl rfl (Nat.le_of_ble_eq_true rfl) trivial rfl ?_
            refine ADX.eff (tk := [1000001]) (new := []) (s := .one (.con undef)) (F := []) (Hin := [(1000001, .arr 2 h.rows.length (fun a b => if a = (loF h x.name) ∧ b = 1 then .tre 500 (loF h x.name) else rowC0 h 78 a b))]) (Hout := [(1000001, .arr 2 h.rows.length (fun a b => if a = loF h x.name ∧ b = 1 then .tre 78 (loF h x.name) else (fun a b => if a = (loF h x.name) ∧ b = 1 then .tre 500 (loF h x.name) else rowC0 h 78 a b : Nat → Nat → AV) a b))]) (fun E X hE hX Q rest hk => ?_) ⟨rfl, trivial⟩ ⟨rfl, rfl⟩ rfl rfl rfl rfl trivial rfl (fun _ e => by cases e) ?_
            · refine ARun.storeArr rfl (.tmp rfl) (.tmp rfl) trivial rfl (show loF h x.name < h.rows.length from by omega) (Nat.le_of_ble_eq_true rfl) vtk_sz_33_1 rfl rfl ?_
              refine ARun.hleX ?_ ?_ hk
              · exact HeapLe.one rfl trivial
              · repeat (first | exact LkX.refl | refine LkX.cons (hX.none rfl) ?_ | refine LkX.filter (hX.none rfl) ?_)
            refine ADX.nil (H := [(0, .cells [.str x.name, .int .i64 x.at_, .int .i64 x.value]), (5, .arr 2 1 (fun _ jc => ([.int .i64 x.at_, .int .i64 x.value] : List AV).getD jc (.con undef))), (78, .trees h.rows.length (rowX0 (takeH h x))), (1000000, .cells [.own 1000001 2 h.rows.length, .int .i64 (h.offset + 1)]), (1000001, .arr 2 h.rows.length (fun a b => if a = loF h x.name ∧ b = 1 then .tre 78 (loF h x.name) else (fun a b => if a = (loF h x.name) ∧ b = 1 then .tre 500 (loF h x.name) else rowC0 h 78 a b : Nat → Nat → AV) a b))]) ?_ ?_
            · exact HeapLe.one rfl (HeapLe.one rfl (HeapLe.one rfl (HeapLe.one rfl (HeapLe.one rfl trivial))))
            refine AW.seq ?_
            refine AW.region ?_
            refine ARun.pure (PureOp.assign rfl .int) rfl rfl (Nat.le_of_ble_eq_true rfl) ?_
            refine ARun.nil ?_
            rw [tN_row hir, hcode]
            refine AW.moveCell 1000000 0 1000001 77 2 h.rows.length [.own 1000001 2 h.rows.length, .int .i64 (h.offset + 1)] [.own 77 2 h.rows.length, .int .i64 (h.offset + 1)] rfl rfl rfl rfl rfl (by decide) ⟨rfl, (by repeat first | exact trivial | refine ⟨by decide, by first | rfl | exact trivial | (intro a_ b_; first | exact getD_no rfl | exact rowC0_no rfl _ _ | exact rowS_no rfl rfl _ _ | exact insF_no (rowC0_no rfl) (fun _ _ => getD_no rfl) _ _ _ | ((try dsimp only); (repeat' split) <;> first | rfl | exact rowC0_no rfl _ _ | exact getD_no rfl | exact insF_no (rowC0_no rfl) (fun _ _ => getD_no rfl) _ _ _)), ?_⟩)⟩ ?_
            refine AW.ret (show ResL _ _ [.tmp 4] _ ∧ HeapLe _ _ from ⟨resI rfl ?_, ⟨⟨_, rfl, rfl, Nat.le_refl _, fun a b _ _ => rowC_row hir hcode 78 a b⟩, ⟨_, rfl, fun q hq => rfl⟩, HLe.refl rfl, trivial⟩⟩)
            rfl
    · have _u := True.intro
      replace hb4 := of_decide_eq_false hb4
      exact absurd hb4 (by omega)
      --end

theorem v_take (h : GHead) (x : GSay) (hg : goodHead ⟨h.rows, 0⟩ = true) (ho : 0 ≤ h.offset ∧ h.offset ≤ 1000000) : FnG Try.prog 60 [.one (.ptr 1000000 2 0 0), .agg [.str x.name, .int .i64 x.at_, .int .i64 x.value]] [(1000000, .cells [.own 1000001 2 h.rows.length, .int .i64 h.offset]), (1000001, .arr 2 h.rows.length (rowC0 h 1000002)), (1000002, .trees h.rows.length (rowX0 h))] (.one (.int .i64 ((takeCode h x : Nat) : Int))) [(77, .arr 2 (takeH h x).rows.length (rowC0 (takeH h x) 78)), (78, .trees (takeH h x).rows.length (rowX0 (takeH h x))), (1000000, .cells [.own 77 2 (takeH h x).rows.length, .int .i64 (takeH h x).offset])] := by
  have h1 := v_take0 h x hg ho
  rw [takeN_len h x] at h1
  exact h1
end Go.Proofs.Ytmfkmifkkplidaa

