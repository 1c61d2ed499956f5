/-
  Proved: the law FnExactReadHead returns true for every input: the program's ReadHead answers what the reference's does. Conditions: the listed variables of the library hold what the program's text lays in them (the card ties them).
-/
import Derived.Test.YtonfeiloekofdaaDoorTie
import Derived.Test.YtonfeiloekofdaaDoorCards
import Derived.LaidMore
import Derived.LaidSub
import Derived.MakeChecks
import Derived.SevenTiedAt
import Derived.Stop.Joined
import Derived.Stop.LaidErr
import Derived.Shelf.Vars
import Derived.Lay
import Derived.ChangeMaps5
import Derived.Test.YtonfeiloekofdaaDoorM1
import Derived.Test.YtonfeiloekofdaaDoorM2
import Derived.Test.YtonfeiloekofdaaDoorM4
/-
  The program's readHead: it answers the head of a text, if there is one.
-/
namespace Go.Proofs.YtonfeiloekofdaaDoor
open Go.ChangeShapes Go.WideShapes Go.ChangeAt Go.RowKit Go.BigFrame Go.Deep
set_option linter.unusedVariables false
set_option linter.unusedSimpArgs false
theorem vhi_ag_24_2 : aggB Tryd.prog 24 2 = true := by kernel_rfl
theorem vhi_ca_16 : callB Tryd.prog 16 = true := by kernel_rfl
theorem vhi_ca_24 : callB Tryd.prog 24 = true := by kernel_rfl
theorem vhi_ca_25 : callB Tryd.prog 25 = true := by kernel_rfl
theorem vhi_ca_26 : callB Tryd.prog 26 = true := by kernel_rfl
theorem vhi_ca_27 : callB Tryd.prog 27 = true := by kernel_rfl
theorem vhi_ca_28 : callB Tryd.prog 28 = true := by kernel_rfl
theorem vhi_el_22_2 : elemB Tryd.prog 22 2 = true := by kernel_rfl
theorem vhi_el_31_1 : elemB Tryd.prog 31 1 = true := by kernel_rfl
theorem vhi_fi_24_0_0 : fieldB Tryd.prog 24 0 0 = true := by kernel_rfl
theorem vhi_fi_36_0_0 : fieldB Tryd.prog 36 0 0 = true := by kernel_rfl
theorem vhi_fi_36_1_1 : fieldB Tryd.prog 36 1 1 = true := by kernel_rfl
theorem vhi_fi_36_2_2 : fieldB Tryd.prog 36 2 2 = true := by kernel_rfl
theorem vhi_fi_49_0_0 : fieldB Tryd.prog 49 0 0 = true := by kernel_rfl
theorem vhi_fi_49_1_1 : fieldB Tryd.prog 49 1 1 = true := by kernel_rfl
theorem vhi_pl_22 : plainB Tryd.prog 22 = true := by kernel_rfl
theorem vhi_pl_3 : plainB Tryd.prog 3 = true := by kernel_rfl
theorem vhi_pl_47 : plainB Tryd.prog 47 = true := by kernel_rfl
theorem vhi_pl_9 : plainB Tryd.prog 9 = true := by kernel_rfl
theorem vhi_sl_22 : sliceB Tryd.prog 22 = true := by kernel_rfl
theorem vhi_sl_31 : sliceB Tryd.prog 31 = true := by kernel_rfl
theorem vhi_sl_47 : sliceB Tryd.prog 47 = true := by kernel_rfl
theorem vhi_st_9 : stringB Tryd.prog 9 = true := by kernel_rfl
theorem vhi_sz_22_1 : sizeB Tryd.prog 22 1 = true := by kernel_rfl
theorem vhi_sz_24_2 : sizeB Tryd.prog 24 2 = true := by kernel_rfl
theorem vhi_sz_36_3 : sizeB Tryd.prog 36 3 = true := by kernel_rfl
theorem vhi_sz_47_1 : sizeB Tryd.prog 47 1 = true := by kernel_rfl
set_option maxHeartbeats 1000000 in
set_option maxRecDepth 20000 in
theorem v_readHead (s : ByteArray) (hs : s.size ≤ 20000) : FnT Tryd.prog 16 [.one (.str s)] (.tup2 (.agg [.lst 2 ((((headRV s).1).rows).length) (fun i0 j0 => ([.str (((((headRV s).1).rows).getD i0 (default : GRow)).name), .lst 2 ((((((headRV s).1).rows).getD i0 (default : GRow)).samples).length) (fun i1 j1 => ([.int .i64 (((((((headRV s).1).rows).getD i0 (default : GRow)).samples).getD i1 (default : GSample)).at_), .int .i64 (((((((headRV s).1).rows).getD i0 (default : GRow)).samples).getD i1 (default : GSample)).value)] : List AV).getD j1 (.con undef))] : List AV).getD j0 (.con undef)), .int .i64 (((headRV s).1).offset)]) (.one (.bool ((headRV s).2)))) := by
  obtain ⟨hL1, hL2⟩ := lines_n hs
  have hln0 := line_le (s := s) (i := 0) (by omega) hs
  refine FnT.of_body (fn := Tryd.f16) Tryd.func16 rfl (Nat.le_of_ble_eq_true rfl)  ?_
  intro w0
  show AW _ 114 _ _ _ _
  refine AW.seq ?_
  refine AW.region ?_
  refine ARun.alloc (id := 0) (l := [.con (.slice none 0 0), .int .i64 0]) (z := (.agg #[.slice none 0 0, .int .i64 0])) rfl (by kernel_rfl) (fun _ _ _ => ⟨_, _, rfl, rfl, ⟨_, _, rfl, rfl, rfl⟩⟩) ⟨rfl, (by repeat first | exact trivial | refine ⟨by decide, by first | rfl | exact trivial | (intro a_ b_; first | exact getD_no rfl | exact rowC0_no rfl _ _ | exact rowS_no rfl rfl _ _ | exact insF_no (rowC0_no rfl) (fun _ _ => getD_no rfl) _ _ _ | ((try dsimp only); (repeat' split) <;> first | rfl | exact rowC0_no rfl _ _ | exact getD_no rfl | exact insF_no (rowC0_no rfl) (fun _ _ => getD_no rfl) _ _ _)), ?_⟩)⟩ rfl rfl rfl (Nat.le_of_ble_eq_true rfl) ?_
  refine ARun.pure (PureOp.assign rfl .bool) rfl rfl (Nat.le_of_ble_eq_true rfl) ?_
  refine ARun.nil ?_
  refine AW.seq ?_
  refine AW.region ?_
  refine ARun.pure (PureOp.move rfl (.tmp rfl)) rfl rfl (Nat.le_of_ble_eq_true rfl) ?_
  refine ARun.fresh (FreshOp.callS rfl (v_Split10 s hs) ⟨⟨_, (.tmp rfl), .str⟩, ⟨_, (.str (by decide)), .str⟩, trivial⟩ vhi_ca_24 rfl) rfl rfl (Nat.le_of_ble_eq_true rfl) ?_
  refine ARun.pure (PureOp.assign rfl (.tmp rfl)) rfl rfl (Nat.le_of_ble_eq_true rfl) ?_
  refine ARun.nil ?_
  refine AW.seq ?_
  refine AW.region ?_
  refine ARun.pure (PureOp.move rfl (.tmp rfl)) rfl rfl (Nat.le_of_ble_eq_true rfl) ?_
  refine ARun.pure (PureOp.indexLst (i := 0) rfl (.frs (.tmp rfl)) vhi_el_31_1 .int rfl (by exact (show 0 < _ from by omega))) rfl rfl (Nat.le_of_ble_eq_true rfl) ?_
  refine ARun.pure (PureOp.loadRef rfl (.tmp rfl) vhi_pl_9 (Nat.le_of_ble_eq_true rfl)) rfl rfl (Nat.le_of_ble_eq_true rfl) ?_
  refine ARun.draw rfl (v_Atoi (bs ((Rd.cutL 10 s.data.toList).getD 0 [])) (by omega)) vhi_ca_25 ⟨⟨_, (.tmp rfl), .str⟩, trivial⟩ rfl rfl (Nat.le_of_ble_eq_true rfl) (fun x1 hd2 => ?_)
  obtain ⟨bb, hbt, hbf, hbv⟩ := ih_num hd2
  refine ARun.pure (PureOp.move rfl (.tmp rfl)) rfl rfl (Nat.le_of_ble_eq_true rfl) ?_
  refine ARun.pure (PureOp.ext2a rfl (.tmp rfl)) rfl rfl (Nat.le_of_ble_eq_true rfl) ?_
  refine ARun.pure (PureOp.ext2b rfl (.tmp rfl)) rfl rfl (Nat.le_of_ble_eq_true rfl) ?_
  refine ARun.pure (PureOp.assign rfl (.tmp rfl)) rfl rfl (Nat.le_of_ble_eq_true rfl) ?_
  refine ARun.pure (PureOp.assign rfl (.tmp rfl)) rfl rfl (Nat.le_of_ble_eq_true rfl) ?_
  refine ARun.nil ?_
  refine AW.seq ?_
  refine AW.seq ?_
  refine AW.region ?_
  refine ARun.pure (PureOp.move rfl (.tmp rfl)) rfl rfl (Nat.le_of_ble_eq_true rfl) ?_
  refine ARun.pure (PureOp.neNil (b := bb) rfl (.tmp rfl) (by kernel_rfl) hbv) rfl rfl (Nat.le_of_ble_eq_true rfl) ?_
  refine ARun.pure (PureOp.move rfl (.tmp rfl)) rfl rfl (Nat.le_of_ble_eq_true rfl) ?_
  refine ARun.gpure (want := false) (.tf rfl) (fun hg3 => PureOp.move rfl (.tmp rfl)) rfl rfl (Nat.le_of_ble_eq_true rfl) rfl (Nat.le_of_ble_eq_true rfl) ?_
  refine ARun.gpure (want := false) (.tf rfl) (fun hg4 => PureOp.move rfl (.tmp rfl)) rfl rfl (Nat.le_of_ble_eq_true rfl) rfl (Nat.le_of_ble_eq_true rfl) ?_
  refine ARun.gpure (want := false) (.tf rfl) (fun hg5 => PureOp.lenLst rfl (.frs (.gtmp rfl hg5)) vhi_sl_31) rfl rfl (Nat.le_of_ble_eq_true rfl) rfl (Nat.le_of_ble_eq_true rfl) ?_
  refine ARun.gpure (want := false) (.tf rfl) (fun hg6 => PureOp.sub (c := ((((Rd.cutL 10 s.data.toList).length - 1) : Nat) : Int)) rfl (.gtmp rfl hg6) .int (by have q := hg6; simp only [Bool.cond_true_left, Bool.cond_false_right, Bool.not_eq_true', Bool.or_eq_false_iff, Bool.not_eq_false', Bool.and_eq_true, Bool.not_not, decide_eq_true_eq, decide_eq_false_iff_not, inB] at q; rw [wrap_id (by omega) (by omega)]; omega)) rfl rfl (Nat.le_of_ble_eq_true rfl) rfl (Nat.le_of_ble_eq_true rfl) ?_
  refine ARun.gpure (want := false) (.tf rfl) (fun hg7 => PureOp.indexLst (i := ((Rd.cutL 10 s.data.toList).length - 1)) rfl (.frs (.gtmp rfl hg7)) vhi_el_31_1 (.gtmp rfl hg7) rfl (by have q := hg7; simp only [Bool.cond_true_left, Bool.cond_false_right, Bool.not_eq_true', Bool.or_eq_false_iff, Bool.not_eq_false', Bool.and_eq_true, Bool.not_not, decide_eq_true_eq, decide_eq_false_iff_not, inB] at q; exact (show ((Rd.cutL 10 s.data.toList).length - 1) < _ from by omega))) rfl rfl (Nat.le_of_ble_eq_true rfl) rfl (Nat.le_of_ble_eq_true rfl) ?_
  refine ARun.gpure (want := false) (.tf rfl) (fun hg8 => PureOp.loadRef rfl (.gtmp rfl hg8) vhi_pl_9 (Nat.le_of_ble_eq_true rfl)) rfl rfl (Nat.le_of_ble_eq_true rfl) rfl (Nat.le_of_ble_eq_true rfl) ?_
  refine ARun.gpure (want := false) (.tf rfl) (fun hg9 => PureOp.strOp rfl (.gtmp rfl hg9) (.str (by decide)) rfl) rfl rfl (Nat.le_of_ble_eq_true rfl) rfl (Nat.le_of_ble_eq_true rfl) ?_
  refine ARun.pure (PureOp.pick rfl (.tmp rfl) (fun _ => .bool) (fun hp11 => .gtmp rfl (not_of hp11))) rfl rfl (Nat.le_of_ble_eq_true rfl) ?_
  refine ARun.nil ?_
  refine AW.cond (.tmp rfl) (fun hb12 => ?_) (fun hb12 => ?_)
  · have _u := True.intro
    have hno : ∀ h, ¬ HeadOf s h := ih_no1 hbt hb12
    refine AW.seq ?_
    refine AW.region ?_
    refine ARun.pure (PureOp.build (ys := []) (l := [.con (.slice none 0 0), .int .i64 0]) (pl := [(0, 1), (1, 1)]) (z := (.agg #[.slice none 0 0, .int .i64 0])) rfl (by kernel_rfl) (by kernel_rfl) (fun _ _ _ => ⟨_, _, rfl, rfl, ⟨_, _, rfl, rfl, rfl⟩⟩) trivial rfl) rfl rfl (Nat.le_of_ble_eq_true rfl) ?_
    refine ARun.store rfl (.tmp rfl) (.tmp rfl) (SV.cells_of (by exact ⟨⟨rfl, (fun _ e => by cases e), (fun _ e => by cases e)⟩, trivial, trivial⟩)) rfl (Nat.le_of_ble_eq_true rfl) vhi_sz_24_2 rfl rfl ?_
    refine ARun.pure (PureOp.assign rfl .bool) rfl rfl (Nat.le_of_ble_eq_true rfl) ?_
    refine ARun.nil ?_
    rw [headRV_no hno]
    exact AW.ret (show ∃ s t, ResL _ _ [.cell 2 24, .tmp 3] s ∧ TvS _ (ofLeaf t) 0 s _ from ⟨_, fun a b => 1000, .inr (.inl ⟨_, _, _, _, rfl, .cells rfl vhi_ag_24_2 rfl rfl (Nat.le_of_ble_eq_true rfl) (Nat.le_of_ble_eq_true rfl), .tmp rfl, rfl⟩), ⟨⟨.nil, .int, trivial⟩, .bool⟩⟩)
  · have _u := True.intro
    have hz := hbf (ih_yes1 (s := s) hb12)
    refine AW.skip ?_
    refine AW.seq ?_
    refine AW.region ?_
    refine ARun.pure (PureOp.move rfl (.tmp rfl)) rfl rfl (Nat.le_of_ble_eq_true rfl) ?_
    refine ARun.pure (PureOp.build (ys := [.int .i64 x1.1]) (l := [.con (.slice none 0 0), .int .i64 0]) (pl := [(0, 1), (1, 1)]) (z := (.agg #[.slice none 0 0, .int .i64 0])) rfl (by kernel_rfl) (by kernel_rfl) (fun _ _ _ => ⟨_, _, rfl, rfl, ⟨_, _, rfl, rfl, rfl⟩⟩) ⟨(.tmp rfl), trivial, rfl, trivial⟩ rfl) rfl rfl (Nat.le_of_ble_eq_true rfl) ?_
    refine ARun.alloc (id := 1) (l := [.con (.slice none 0 0), .int .i64 0]) (z := (.agg #[.slice none 0 0, .int .i64 0])) rfl (by kernel_rfl) (fun _ _ _ => ⟨_, _, rfl, rfl, ⟨_, _, rfl, rfl, rfl⟩⟩) ⟨rfl, (by repeat first | exact trivial | refine ⟨by decide, by first | rfl | exact trivial | (intro a_ b_; first | exact getD_no rfl | exact rowC0_no rfl _ _ | exact rowS_no rfl rfl _ _ | exact insF_no (rowC0_no rfl) (fun _ _ => getD_no rfl) _ _ _ | ((try dsimp only); (repeat' split) <;> first | rfl | exact rowC0_no rfl _ _ | exact getD_no rfl | exact insF_no (rowC0_no rfl) (fun _ _ => getD_no rfl) _ _ _)), ?_⟩)⟩ rfl rfl rfl (Nat.le_of_ble_eq_true rfl) ?_
    refine ARun.store rfl (.tmp rfl) (.tmp rfl) (SV.cells_of (by exact ⟨⟨rfl, (fun _ e => by cases e), (fun _ e => by cases e)⟩, trivial, trivial⟩)) rfl (Nat.le_of_ble_eq_true rfl) vhi_sz_24_2 rfl rfl ?_
    refine ARun.nil ?_
    refine AW.seq ?_
    refine AW.seq ?_
    refine AW.region ?_
    refine ARun.pure (PureOp.move rfl (.tmp rfl)) rfl rfl (Nat.le_of_ble_eq_true rfl) ?_
    refine ARun.pure (PureOp.move rfl (.tmp rfl)) rfl rfl (Nat.le_of_ble_eq_true rfl) ?_
    refine ARun.pure (PureOp.lenLst rfl (.frs (.tmp rfl)) vhi_sl_31) rfl rfl (Nat.le_of_ble_eq_true rfl) ?_
    refine ARun.pure (PureOp.sub (c := ((((Rd.cutL 10 s.data.toList).length - 1) : Nat) : Int)) rfl (.tmp rfl) .int (by rw [wrap_id (by omega) (by omega)]; omega)) rfl rfl (Nat.le_of_ble_eq_true rfl) ?_
    refine ARun.pure (PureOp.max2 (c := ((((Rd.cutL 10 s.data.toList).length - 2 + 1) : Nat) : Int)) rfl .int (.tmp rfl) (by split <;> omega)) rfl rfl (Nat.le_of_ble_eq_true rfl) ?_
    refine ARun.pure (PureOp.lstEq (n' := ((Rd.cutL 10 s.data.toList).length - 2)) (f' := fun i_ _ => .str (bs ((Rd.cutL 10 s.data.toList).getD (i_ + 1) []))) (PureOp.subLst (lo := 1) (hi := ((Rd.cutL 10 s.data.toList).length - 2 + 1)) rfl (.frs (.tmp rfl)) .int (.tmp rfl) rfl rfl (by omega) (by omega) vhi_el_31_1) (by omega) (fun _ _ _ _ => rfl)) rfl rfl (Nat.le_of_ble_eq_true rfl) ?_
    refine ARun.pure (PureOp.lenLst rfl (.tmp rfl) vhi_sl_31) rfl rfl (Nat.le_of_ble_eq_true rfl) ?_
    refine ARun.pure (PureOp.move rfl .int) rfl rfl (Nat.le_of_ble_eq_true rfl) ?_
    refine ARun.nil ?_
    refine AW.block ?_
    refine AW.fam (id := 500) (rowX0 (⟨imRows s 0, x1.1⟩ : GHead)) ⟨rfl, (by repeat first | exact trivial | refine ⟨by decide, by first | rfl | exact trivial | (intro a_ b_; first | exact getD_no rfl | exact rowC0_no rfl _ _ | exact rowS_no rfl rfl _ _ | exact insF_no (rowC0_no rfl) (fun _ _ => getD_no rfl) _ _ _ | ((try dsimp only); (repeat' split) <;> first | rfl | exact rowC0_no rfl _ _ | exact getD_no rfl | exact insF_no (rowC0_no rfl) (fun _ _ => getD_no rfl) _ _ _)), ?_⟩)⟩ ?_
    refine AW.nilCell 1 0 2 2 _ (rowC0 (⟨imRows s 0, x1.1⟩ : GHead) 500) rfl rfl ⟨rfl, (by repeat first | exact trivial | refine ⟨by decide, by first | rfl | exact trivial | (intro a_ b_; first | exact getD_no rfl | exact rowC0_no rfl _ _ | exact rowS_no rfl rfl _ _ | exact insF_no (rowC0_no rfl) (fun _ _ => getD_no rfl) _ _ _ | ((try dsimp only); (repeat' split) <;> first | rfl | exact rowC0_no rfl _ _ | exact getD_no rfl | exact insF_no (rowC0_no rfl) (fun _ _ => getD_no rfl) _ _ _)), ?_⟩)⟩ ?_
    -- objects are renamed
    refine AW.loopR (ι := Nat) (fun k => ⟨[(0, .one (.str s)), (2, .one (.ptr 0 2 0 0)), (7, .one (.ptr 1 2 0 0)), (42, .one (.lst 1 ((Rd.cutL 10 s.data.toList).length - 2) (fun i_ _ => .str (bs ((Rd.cutL 10 s.data.toList).getD (i_ + 1) []))))), (43, .one (.int .i64 ((((Rd.cutL 10 s.data.toList).length - 2) : Nat) : Int))), (44, .one (.int .i64 (k : Int)))], [(0, .cells [.con (.slice none 0 0), .int .i64 0]), (1, .cells [.own 2 2 ((imRows s k).length), .int .i64 x1.1]), (2, .arr 2 ((imRows s k).length) (rowC0 (⟨imRows s k, x1.1⟩ : GHead) 500)), (500, .trees ((imRows s k).length) (rowX0 (⟨imRows s k, x1.1⟩ : GHead)))]⟩) (fun k => k ≤ (Rd.cutL 10 s.data.toList).length - 2) (fun k => (Rd.cutL 10 s.data.toList).length - 2 - k) 0 (Nat.zero_le _) ⟨⟨⟨_, rfl, rfl⟩, ⟨_, rfl, rfl⟩, ⟨_, rfl, rfl⟩, ⟨_, rfl, rfl⟩, ⟨_, rfl, rfl⟩, ⟨_, rfl, rfl⟩, trivial⟩, ⟨⟨_, rfl, rfl, Nat.le_refl _, fun _ _ _ _ => rfl⟩, ⟨_, rfl, rfl, Nat.le_refl _, fun _ _ _ _ => rfl⟩, ⟨_, rfl, rfl, Nat.le_refl _, fun _ _ _ _ => rfl⟩, ⟨_, rfl, fun _ _ => rfl⟩, trivial⟩⟩ ?_
    intro k hk
    have hil := im_len s k
    have hil1 := hil.1
    refine AW.seq ?_
    refine AW.region ?_
    refine ARun.pure (PureOp.intOp rfl (.tmp rfl) (.tmp rfl) rfl) rfl rfl (Nat.le_of_ble_eq_true rfl) ?_
    refine ARun.nil ?_
    refine AW.seq ?_
    refine AW.cond (.tmp rfl) (fun hb13 => ?_) (fun hb13 => ?_)
    · have _u := True.intro
      replace hb13 := of_decide_eq_true hb13
      have hkl : k < (Rd.cutL 10 s.data.toList).length - 2 := by omega
      have hln := line_le (s := s) (i := k + 1) (by omega) hs
      refine AW.skip ?_
      refine AW.seq ?_
      refine AW.block ?_
      refine AW.seq ?_
      refine AW.region ?_
      refine ARun.pure (PureOp.indexLst (i := k) rfl (.tmp rfl) vhi_el_31_1 (.tmp rfl) rfl (by exact (show k < _ from by omega))) rfl rfl (Nat.le_of_ble_eq_true rfl) ?_
      refine ARun.pure (PureOp.loadRef rfl (.tmp rfl) vhi_pl_9 (Nat.le_of_ble_eq_true rfl)) rfl rfl (Nat.le_of_ble_eq_true rfl) ?_
      refine ARun.pure (PureOp.assign rfl (.tmp rfl)) rfl rfl (Nat.le_of_ble_eq_true rfl) ?_
      refine ARun.nil ?_
      refine AW.seq ?_
      refine AW.region ?_
      refine ARun.pure (PureOp.move rfl (.tmp rfl)) rfl rfl (Nat.le_of_ble_eq_true rfl) ?_
      refine ARun.pure (PureOp.call rfl (v_readSay (bs ((Rd.cutL 10 s.data.toList).getD (k + 1) [])) (by omega)) ⟨⟨_, (.tmp rfl), .str⟩, trivial⟩ vhi_ca_26 (gsay_plain (Nat.le_trans (readV_name _ (by omega)) (by decide)))) rfl rfl (Nat.le_of_ble_eq_true rfl) ?_
      refine ARun.pure (PureOp.move rfl (.tmp rfl)) rfl rfl (Nat.le_of_ble_eq_true rfl) ?_
      refine ARun.pure (PureOp.ext2a rfl (.tmp rfl)) rfl rfl (Nat.le_of_ble_eq_true rfl) ?_
      refine ARun.pure (PureOp.ext2b rfl (.tmp rfl)) rfl rfl (Nat.le_of_ble_eq_true rfl) ?_
      refine ARun.alloc (id := 3) (l := [.str ByteArray.empty, .int .i64 0, .int .i64 0]) (z := (.agg #[.string ByteArray.empty, .int .i64 0, .int .i64 0])) rfl (by kernel_rfl) (fun _ _ _ => ⟨_, _, rfl, ⟨rfl, by decide⟩, ⟨_, _, rfl, rfl, ⟨_, _, rfl, rfl, rfl⟩⟩⟩) ⟨rfl, (by repeat first | exact trivial | refine ⟨by decide, by first | rfl | exact trivial | (intro a_ b_; first | exact getD_no rfl | exact rowC0_no rfl _ _ | exact rowS_no rfl rfl _ _ | exact insF_no (rowC0_no rfl) (fun _ _ => getD_no rfl) _ _ _ | ((try dsimp only); (repeat' split) <;> first | rfl | exact rowC0_no rfl _ _ | exact getD_no rfl | exact insF_no (rowC0_no rfl) (fun _ _ => getD_no rfl) _ _ _)), ?_⟩)⟩ rfl rfl rfl (Nat.le_of_ble_eq_true rfl) ?_
      refine ARun.store rfl (.tmp rfl) (.tmp rfl) (SV.cells_of (by exact ⟨trivial, trivial, trivial, trivial⟩)) rfl (Nat.le_of_ble_eq_true rfl) vhi_sz_36_3 rfl rfl ?_
      refine ARun.pure (PureOp.assign rfl (.tmp rfl)) rfl rfl (Nat.le_of_ble_eq_true rfl) ?_
      refine ARun.nil ?_
      refine AW.seq ?_
      refine AW.seq ?_
      refine AW.region ?_
      refine ARun.pure (PureOp.move rfl (.tmp rfl)) rfl rfl (Nat.le_of_ble_eq_true rfl) ?_
      refine ARun.pure (PureOp.not rfl (.tmp rfl)) rfl rfl (Nat.le_of_ble_eq_true rfl) ?_
      refine ARun.nil ?_
      refine AW.cond (.tmp rfl) (fun hb14 => ?_) (fun hb14 => ?_)
      · have _u := True.intro
        have hno : ∀ h, ¬ HeadOf s h := ih_no2 hkl (of_not hb14)
        refine AW.seq ?_
        refine AW.region ?_
        refine ARun.pure (PureOp.build (ys := []) (l := [.con (.slice none 0 0), .int .i64 0]) (pl := [(0, 1), (1, 1)]) (z := (.agg #[.slice none 0 0, .int .i64 0])) rfl (by kernel_rfl) (by kernel_rfl) (fun _ _ _ => ⟨_, _, rfl, rfl, ⟨_, _, rfl, rfl, rfl⟩⟩) trivial rfl) rfl rfl (Nat.le_of_ble_eq_true rfl) ?_
        refine ARun.store rfl (.tmp rfl) (.tmp rfl) (SV.cells_of (by exact ⟨⟨rfl, (fun _ e => by cases e), (fun _ e => by cases e)⟩, trivial, trivial⟩)) rfl (Nat.le_of_ble_eq_true rfl) vhi_sz_24_2 rfl rfl ?_
        refine ARun.pure (PureOp.assign rfl .bool) rfl rfl (Nat.le_of_ble_eq_true rfl) ?_
        refine ARun.nil ?_
        rw [headRV_no hno]
        exact AW.ret (show ∃ s t, ResL _ _ [.cell 2 24, .tmp 3] s ∧ TvS _ (ofLeaf t) 0 s _ from ⟨_, fun a b => 1000, .inr (.inl ⟨_, _, _, _, rfl, .cells rfl vhi_ag_24_2 rfl rfl (Nat.le_of_ble_eq_true rfl) (Nat.le_of_ble_eq_true rfl), .tmp rfl, rfl⟩), ⟨⟨.nil, .int, trivial⟩, .bool⟩⟩)
      · have _u := True.intro
        refine AW.skip ?_
        refine AW.seq ?_
        refine AW.seq ?_
        refine AW.region ?_
        refine ARun.pure (PureOp.fieldPtr rfl (.tmp rfl) vhi_fi_24_0_0) rfl rfl (Nat.le_of_ble_eq_true rfl) ?_
        refine ARun.pure (PureOp.loadPtr rfl (.tmp rfl) vhi_pl_22 rfl rfl (Nat.le_of_ble_eq_true rfl) (Nat.le_of_ble_eq_true rfl)) rfl rfl (Nat.le_of_ble_eq_true rfl) ?_
        refine ARun.pure (PureOp.lenOwn rfl (.tmp rfl) vhi_sl_22) rfl rfl (Nat.le_of_ble_eq_true rfl) ?_
        refine ARun.pure (PureOp.assign rfl (.tmp rfl)) rfl rfl (Nat.le_of_ble_eq_true rfl) ?_
        refine ARun.nil ?_
        refine AW.seq ?_
        refine AW.any (by kernel_rfl) (by kernel_rfl) ?_
        refine AD.pure (PureOp.move rfl (.tmp rfl)) rfl rfl (Nat.le_of_ble_eq_true rfl) ?_
        refine AD.pure (PureOp.intOp rfl (.tmp rfl) .int rfl) rfl rfl (Nat.le_of_ble_eq_true rfl) ?_
        refine AD.pure (PureOp.move rfl (.tmp rfl)) rfl rfl (Nat.le_of_ble_eq_true rfl) ?_
        refine AD.gpure (want := false) (.tf rfl) (fun hg15 => PureOp.fieldPtr rfl (.tmp rfl) vhi_fi_24_0_0) rfl rfl rfl (Nat.le_of_ble_eq_true rfl) ?_
        refine AD.gpure (want := false) (.tf rfl) (fun hg16 => PureOp.loadPtr rfl (.gtmp rfl hg16) vhi_pl_22 rfl rfl (Nat.le_of_ble_eq_true rfl) (Nat.le_of_ble_eq_true rfl)) rfl rfl rfl (Nat.le_of_ble_eq_true rfl) ?_
        refine AD.gpure (want := false) (.tf rfl) (fun hg17 => PureOp.move rfl (.tmp rfl)) rfl rfl rfl (Nat.le_of_ble_eq_true rfl) ?_
        refine AD.gpure (want := false) (.tf rfl) (fun hg18 => PureOp.sub (c := ((((imRows s k).length - 1) : Nat) : Int)) rfl (.gtmp rfl hg18) .int (by have q := hg18; simp only [Bool.cond_true_left, Bool.cond_false_right, Bool.not_eq_true', Bool.or_eq_false_iff, Bool.not_eq_false', Bool.and_eq_true, Bool.not_not, decide_eq_true_eq, decide_eq_false_iff_not, inB] at q; rw [wrap_id (by omega) (by omega)]; omega)) rfl rfl rfl (Nat.le_of_ble_eq_true rfl) ?_
        refine AD.gpure (want := false) (.tf rfl) (fun hg19 => PureOp.indexOwn (i := ((imRows s k).length - 1)) rfl (.gtmp rfl hg19) vhi_el_22_2 (.gtmp rfl hg19) rfl (by have q := hg19; simp only [Bool.cond_true_left, Bool.cond_false_right, Bool.not_eq_true', Bool.or_eq_false_iff, Bool.not_eq_false', Bool.and_eq_true, Bool.not_not, decide_eq_true_eq, decide_eq_false_iff_not, inB] at q; exact (show ((imRows s k).length - 1) < _ from by omega))) rfl rfl rfl (Nat.le_of_ble_eq_true rfl) ?_
        refine AD.gpure (want := false) (.tf rfl) (fun hg20 => PureOp.fieldPtr rfl (.gtmp rfl hg20) vhi_fi_49_0_0) rfl rfl rfl (Nat.le_of_ble_eq_true rfl) ?_
        refine AD.gpure (want := false) (.tf rfl) (fun hg21 => PureOp.loadPtrE (y := .str (((imRows s k).getD ((imRows s k).length - 1) (default : GRow)).name)) rfl (.gtmp rfl hg21) vhi_pl_9 rfl rfl (by have q := hg21; simp only [Bool.cond_true_left, Bool.cond_false_right, Bool.not_eq_true', Bool.or_eq_false_iff, Bool.not_eq_false', Bool.and_eq_true, Bool.not_not, decide_eq_true_eq, decide_eq_false_iff_not, inB] at q; exact (show ((imRows s k).length - 1) < (imRows s k).length from by omega)) (Nat.le_of_ble_eq_true rfl) rfl) rfl rfl rfl (Nat.le_of_ble_eq_true rfl) ?_
        refine AD.gpure (want := false) (.tf rfl) (fun hg22 => PureOp.fieldPtr rfl (.tmp rfl) vhi_fi_36_0_0) rfl rfl rfl (Nat.le_of_ble_eq_true rfl) ?_
        refine AD.gpure (want := false) (.tf rfl) (fun hg23 => PureOp.loadPtr rfl (.gtmp rfl hg23) vhi_pl_9 rfl rfl (Nat.le_of_ble_eq_true rfl) (Nat.le_of_ble_eq_true rfl)) rfl rfl rfl (Nat.le_of_ble_eq_true rfl) ?_
        refine AD.gpure (want := false) (.tf rfl) (fun hg24 => PureOp.strOp rfl (.gtmp rfl hg24) (.gtmp rfl hg24) rfl) rfl rfl rfl (Nat.le_of_ble_eq_true rfl) ?_
        refine AD.pure (PureOp.pick rfl (.tmp rfl) (fun _ => .bool) (fun hp26 => .gtmp rfl (not_of hp26))) rfl rfl (Nat.le_of_ble_eq_true rfl) ?_
        refine AD.nil ?_
        refine AW.cond (.tmp rfl) (fun hb27 => ?_) (fun hb27 => ?_)
        · have _u := True.intro
          have hnx : imRows s (k + 1) = imRows s k ++ [⟨(readV (bs ((Rd.cutL 10 s.data.toList).getD (k + 1) []))).1.name, [⟨(readV (bs ((Rd.cutL 10 s.data.toList).getD (k + 1) []))).1.at_, (readV (bs ((Rd.cutL 10 s.data.toList).getD (k + 1) []))).1.value⟩]⟩] := ih_new hb27
          have hc : (imRows s (k + 1)).length = (imRows s k).length + 1 := by rw [hnx, List.length_append]; rfl
          refine AW.region ?_
          refine ARun.pure (PureOp.fieldPtr rfl (.tmp rfl) vhi_fi_24_0_0) rfl rfl (Nat.le_of_ble_eq_true rfl) ?_
          refine ARun.pure (PureOp.loadPtr rfl (.tmp rfl) vhi_pl_22 rfl rfl (Nat.le_of_ble_eq_true rfl) (Nat.le_of_ble_eq_true rfl)) rfl rfl (Nat.le_of_ble_eq_true rfl) ?_
          refine ARun.pure (PureOp.fieldPtr rfl (.tmp rfl) vhi_fi_36_0_0) rfl rfl (Nat.le_of_ble_eq_true rfl) ?_
          refine ARun.pure (PureOp.loadPtr rfl (.tmp rfl) vhi_pl_9 rfl rfl (Nat.le_of_ble_eq_true rfl) (Nat.le_of_ble_eq_true rfl)) rfl rfl (Nat.le_of_ble_eq_true rfl) ?_
          refine ARun.pure (PureOp.build (ys := [.str ((readV (bs ((Rd.cutL 10 s.data.toList).getD (k + 1) []))).1.name)]) (l := [.str ByteArray.empty, .con (.slice none 0 0)]) (pl := [(0, 1), (1, 1)]) (z := (.agg #[.string ByteArray.empty, .slice none 0 0])) rfl (by kernel_rfl) (by kernel_rfl) (fun _ _ _ => ⟨_, _, rfl, ⟨rfl, by decide⟩, ⟨_, _, rfl, rfl, rfl⟩⟩) ⟨(.tmp rfl), trivial, rfl, trivial⟩ rfl) rfl rfl (Nat.le_of_ble_eq_true rfl) ?_
          refine ARun.slice1 (id := 4) (z := (.agg #[.string ByteArray.empty, .slice none 0 0])) (by_ := 40) rfl (.tmp rfl) (SV.cells_of (by exact ⟨trivial, ⟨rfl, (fun _ e => by cases e), (fun _ e => by cases e)⟩, trivial⟩)) (by kernel_rfl) rfl rfl (by decide) (by decide) ⟨rfl, (by repeat first | exact trivial | refine ⟨by decide, by first | rfl | exact trivial | (intro a_ b_; first | exact getD_no rfl | exact rowC0_no rfl _ _ | exact rowS_no rfl rfl _ _ | exact insF_no (rowC0_no rfl) (fun _ _ => getD_no rfl) _ _ _ | ((try dsimp only); (repeat' split) <;> first | rfl | exact rowC0_no rfl _ _ | exact getD_no rfl | exact insF_no (rowC0_no rfl) (fun _ _ => getD_no rfl) _ _ _)), ?_⟩)⟩ rfl rfl rfl (Nat.le_of_ble_eq_true rfl) ?_
          refine ARun.append (id := 5) (sz := 2) (n := (imRows s k).length) (m := 1) (by_ := 40) (z := (.agg #[.string ByteArray.empty, .slice none 0 0])) (f := rowC0 (⟨imRows s k, x1.1⟩ : GHead) 500) (g := fun _ jc => ([.str ((readV (bs ((Rd.cutL 10 s.data.toList).getD (k + 1) []))).1.name), .con (.slice none 0 0)] : List AV).getD jc (.con undef)) (h := fun ia ja => if ia < (imRows s k).length then (rowC0 (⟨imRows s k, x1.1⟩ : GHead) 500 : Nat → Nat → AV) ia ja else (fun _ jc => ([.str ((readV (bs ((Rd.cutL 10 s.data.toList).getD (k + 1) []))).1.name), .con (.slice none 0 0)] : List AV).getD jc (.con undef) : Nat → Nat → AV) (ia - (imRows s k).length) ja) rfl (by kernel_rfl) rfl vhi_sl_22 (.own (.tmp rfl) rfl rfl rfl (Nat.le_refl _) (fun _ _ _ _ => rfl)) (.own (.tmp rfl) rfl rfl (Nat.le_refl _) (fun _ _ _ _ => rfl)) (by decide) (fun i j hi hj => match j, hj with | 0, _ => rfl | 1, _ => rfl | _ + 2, h => absurd h (by omega)) (fun _ _ _ _ => rfl) (by omega) (by omega) ⟨rfl, (by repeat first | exact trivial | refine ⟨by decide, by first | rfl | exact trivial | (intro a_ b_; first | exact getD_no rfl | exact rowC0_no rfl _ _ | exact rowS_no rfl rfl _ _ | exact insF_no (rowC0_no rfl) (fun _ _ => getD_no rfl) _ _ _ | ((try dsimp only); (repeat' split) <;> first | rfl | exact rowC0_no rfl _ _ | exact getD_no rfl | exact insF_no (rowC0_no rfl) (fun _ _ => getD_no rfl) _ _ _)), ?_⟩)⟩ (fun a_ b_ => by (try dsimp only); (repeat' split) <;> first | rfl | exact rowC0_no rfl _ _ | exact getD_no rfl) rfl rfl (Nat.le_of_ble_eq_true rfl) ?_
          refine ARun.pure (PureOp.fieldPtr rfl (.tmp rfl) vhi_fi_24_0_0) rfl rfl (Nat.le_of_ble_eq_true rfl) ?_
          refine ARun.store rfl (.tmp rfl) (.tmp rfl) trivial rfl (Nat.le_of_ble_eq_true rfl) vhi_sz_22_1 rfl rfl ?_
          refine ARun.nil ?_
          refine AW.seq ?_
          refine AW.region ?_
          refine ARun.pure (PureOp.fieldPtr rfl (.tmp rfl) vhi_fi_24_0_0) rfl rfl (Nat.le_of_ble_eq_true rfl) ?_
          refine ARun.pure (PureOp.loadPtr rfl (.tmp rfl) vhi_pl_22 rfl rfl (Nat.le_of_ble_eq_true rfl) (Nat.le_of_ble_eq_true rfl)) rfl rfl (Nat.le_of_ble_eq_true rfl) ?_
          refine ARun.pure (PureOp.fieldPtr rfl (.tmp rfl) vhi_fi_24_0_0) rfl rfl (Nat.le_of_ble_eq_true rfl) ?_
          refine ARun.pure (PureOp.loadPtr rfl (.tmp rfl) vhi_pl_22 rfl rfl (Nat.le_of_ble_eq_true rfl) (Nat.le_of_ble_eq_true rfl)) rfl rfl (Nat.le_of_ble_eq_true rfl) ?_
          refine ARun.pure (PureOp.lenOwn rfl (.tmp rfl) vhi_sl_22) rfl rfl (Nat.le_of_ble_eq_true rfl) ?_
          refine ARun.pure (PureOp.sub (c := (((imRows s k).length : Nat) : Int)) rfl (.tmp rfl) .int (by rw [wrap_id (by omega) (by omega)]; omega)) rfl rfl (Nat.le_of_ble_eq_true rfl) ?_
          refine ARun.pure (PureOp.indexOwn (i := (imRows s k).length) rfl (.tmp rfl) vhi_el_22_2 (.tmp rfl) rfl (by exact (show (imRows s k).length < _ from by omega))) rfl rfl (Nat.le_of_ble_eq_true rfl) ?_
          refine ARun.pure (PureOp.assign rfl (.tmp rfl)) rfl rfl (Nat.le_of_ble_eq_true rfl) ?_
          refine ARun.nil ?_
          refine AW.hle (H' := [(0, .cells [.con (.slice none 0 0), .int .i64 0]), (1, .cells [.own 5 2 ((imRows s k).length + 1), .int .i64 x1.1]), (3, .cells [.str ((readV (bs ((Rd.cutL 10 s.data.toList).getD (k + 1) []))).1.name), .int .i64 ((readV (bs ((Rd.cutL 10 s.data.toList).getD (k + 1) []))).1.at_), .int .i64 ((readV (bs ((Rd.cutL 10 s.data.toList).getD (k + 1) []))).1.value)]), (4, .arr 2 1 (fun _ jc => ([.str ((readV (bs ((Rd.cutL 10 s.data.toList).getD (k + 1) []))).1.name), .con (.slice none 0 0)] : List AV).getD jc (.con undef))), (5, .arr 2 ((imRows s k).length + 1) (fun ia ja => if ia < (imRows s k).length then (rowC0 (⟨imRows s k, x1.1⟩ : GHead) 500 : Nat → Nat → AV) ia ja else (fun _ jc => ([.str ((readV (bs ((Rd.cutL 10 s.data.toList).getD (k + 1) []))).1.name), .con (.slice none 0 0)] : List AV).getD jc (.con undef) : Nat → Nat → AV) (ia - (imRows s k).length) ja)), (500, .trees ((imRows s k).length) (imX (imRows s k) (readV (bs ((Rd.cutL 10 s.data.toList).getD (k + 1) []))).1))]) ⟨HLe.refl rfl, HLe.refl rfl, HLe.refl rfl, HLe.refl rfl, HLe.refl rfl, ⟨_, rfl, fun _ hi => (imX_lt hi).symm⟩, trivial⟩ ?_
          refine AW.anyX [⟨[], [], [], []⟩, ⟨[], [], [], []⟩, ⟨[], [], [], []⟩, ⟨[], [], [], []⟩, ⟨[5], [], [], []⟩, ⟨[], [], [], []⟩, ⟨[3], [], [], []⟩, ⟨[], [], [], []⟩, ⟨[3], [], [], []⟩, ⟨[], [], [], []⟩, ⟨[], [6], [6], [(6, .arr 2 1 (fun _ jc => ([.int .i64 ((readV (bs ((Rd.cutL 10 s.data.toList).getD (k + 1) []))).1.at_), .int .i64 ((readV (bs ((Rd.cutL 10 s.data.toList).getD (k + 1) []))).1.value)] : List AV).getD jc (.con undef)))]⟩, ⟨[], [6, 7, 500], [7], [(6, .arr 2 1 (fun _ jc => ([.int .i64 ((readV (bs ((Rd.cutL 10 s.data.toList).getD (k + 1) []))).1.at_), .int .i64 ((readV (bs ((Rd.cutL 10 s.data.toList).getD (k + 1) []))).1.value)] : List AV).getD jc (.con undef))), (500, .trees ((imRows s k).length + 1) (imX (imRows s k) (readV (bs ((Rd.cutL 10 s.data.toList).getD (k + 1) []))).1))]⟩, ⟨[], [], [], []⟩, ⟨[], [], [], []⟩, ⟨[], [5], [], [(5, .arr 2 ((imRows s k).length + 1) (fun a b => if a = (imRows s k).length ∧ b = 1 then .tre 500 ((imRows s k).length) else (fun ia ja => if ia < (imRows s k).length then (rowC0 (⟨imRows s k, x1.1⟩ : GHead) 500 : Nat → Nat → AV) ia ja else (fun _ jc => ([.str ((readV (bs ((Rd.cutL 10 s.data.toList).getD (k + 1) []))).1.name), .con (.slice none 0 0)] : List AV).getD jc (.con undef) : Nat → Nat → AV) (ia - (imRows s k).length) ja : Nat → Nat → AV) a b))]⟩] (by kernel_rfl) (by kernel_rfl) (by kernel_rfl) ⟨⟨.inl rfl, .inr (.inr trivial), .inr (.inr trivial), .inr (.inr trivial), .inr (.inr trivial), .inr (.inr trivial), .inr (.inr trivial), .inr (.inr trivial), .inr (.inr trivial), .inr (.inr trivial), .inr (.inr (by repeat first | exact trivial | refine And.intro ?_ ?_ | exact rfl | ((intro a_ b_; first | exact getD_no rfl | exact rowC0_no rfl _ _ | exact rowS_no rfl rfl _ _ | exact insF_no (rowC0_no rfl) (fun _ _ => getD_no rfl) _ _ _ | ((try dsimp only); (repeat' split) <;> first | rfl | exact rowC0_no rfl _ _ | exact getD_no rfl | exact insF_no (rowC0_no rfl) (fun _ _ => getD_no rfl) _ _ _))))), .inr (.inr (by repeat first | exact trivial | refine And.intro ?_ ?_ | exact rfl | ((intro a_ b_; first | exact getD_no rfl | exact rowC0_no rfl _ _ | exact rowS_no rfl rfl _ _ | exact insF_no (rowC0_no rfl) (fun _ _ => getD_no rfl) _ _ _ | ((try dsimp only); (repeat' split) <;> first | rfl | exact rowC0_no rfl _ _ | exact getD_no rfl | exact insF_no (rowC0_no rfl) (fun _ _ => getD_no rfl) _ _ _))))), .inr (.inr trivial), .inr (.inr trivial), .inr (.inr trivial), trivial⟩, ⟨.inr (.inr trivial), .inl rfl, .inr (.inr trivial), .inr (.inr trivial), .inr (.inr trivial), .inr (.inr trivial), .inr (.inr trivial), .inr (.inr trivial), .inr (.inr trivial), .inr (.inr trivial), .inr (.inr (by repeat first | exact trivial | refine And.intro ?_ ?_ | exact rfl | ((intro a_ b_; first | exact getD_no rfl | exact rowC0_no rfl _ _ | exact rowS_no rfl rfl _ _ | exact insF_no (rowC0_no rfl) (fun _ _ => getD_no rfl) _ _ _ | ((try dsimp only); (repeat' split) <;> first | rfl | exact rowC0_no rfl _ _ | exact getD_no rfl | exact insF_no (rowC0_no rfl) (fun _ _ => getD_no rfl) _ _ _))))), .inr (.inr (by repeat first | exact trivial | refine And.intro ?_ ?_ | exact rfl | ((intro a_ b_; first | exact getD_no rfl | exact rowC0_no rfl _ _ | exact rowS_no rfl rfl _ _ | exact insF_no (rowC0_no rfl) (fun _ _ => getD_no rfl) _ _ _ | ((try dsimp only); (repeat' split) <;> first | rfl | exact rowC0_no rfl _ _ | exact getD_no rfl | exact insF_no (rowC0_no rfl) (fun _ _ => getD_no rfl) _ _ _))))), .inr (.inr trivial), .inr (.inr trivial), .inr (.inr trivial), trivial⟩, ⟨.inr (.inr trivial), .inr (.inr trivial), .inl rfl, .inr (.inr trivial), .inr (.inr trivial), .inr (.inr trivial), .inr (.inr trivial), .inr (.inr trivial), .inr (.inr trivial), .inr (.inr trivial), .inr (.inr (by repeat first | exact trivial | refine And.intro ?_ ?_ | exact rfl | ((intro a_ b_; first | exact getD_no rfl | exact rowC0_no rfl _ _ | exact rowS_no rfl rfl _ _ | exact insF_no (rowC0_no rfl) (fun _ _ => getD_no rfl) _ _ _ | ((try dsimp only); (repeat' split) <;> first | rfl | exact rowC0_no rfl _ _ | exact getD_no rfl | exact insF_no (rowC0_no rfl) (fun _ _ => getD_no rfl) _ _ _))))), .inr (.inr (by repeat first | exact trivial | refine And.intro ?_ ?_ | exact rfl | ((intro a_ b_; first | exact getD_no rfl | exact rowC0_no rfl _ _ | exact rowS_no rfl rfl _ _ | exact insF_no (rowC0_no rfl) (fun _ _ => getD_no rfl) _ _ _ | ((try dsimp only); (repeat' split) <;> first | rfl | exact rowC0_no rfl _ _ | exact getD_no rfl | exact insF_no (rowC0_no rfl) (fun _ _ => getD_no rfl) _ _ _))))), .inr (.inr trivial), .inr (.inr trivial), .inr (.inr trivial), trivial⟩, ⟨.inr (.inr trivial), .inr (.inr trivial), .inr (.inr trivial), .inl rfl, .inr (.inr trivial), .inr (.inr trivial), .inr (.inr trivial), .inr (.inr trivial), .inr (.inr trivial), .inr (.inr trivial), .inr (.inr (by repeat first | exact trivial | refine And.intro ?_ ?_ | exact rfl | ((intro a_ b_; first | exact getD_no rfl | exact rowC0_no rfl _ _ | exact rowS_no rfl rfl _ _ | exact insF_no (rowC0_no rfl) (fun _ _ => getD_no rfl) _ _ _ | ((try dsimp only); (repeat' split) <;> first | rfl | exact rowC0_no rfl _ _ | exact getD_no rfl | exact insF_no (rowC0_no rfl) (fun _ _ => getD_no rfl) _ _ _))))), .inr (.inr (by repeat first | exact trivial | refine And.intro ?_ ?_ | exact rfl | ((intro a_ b_; first | exact getD_no rfl | exact rowC0_no rfl _ _ | exact rowS_no rfl rfl _ _ | exact insF_no (rowC0_no rfl) (fun _ _ => getD_no rfl) _ _ _ | ((try dsimp only); (repeat' split) <;> first | rfl | exact rowC0_no rfl _ _ | exact getD_no rfl | exact insF_no (rowC0_no rfl) (fun _ _ => getD_no rfl) _ _ _))))), .inr (.inr trivial), .inr (.inr trivial), .inr (.inr trivial), trivial⟩, ⟨.inr (.inr trivial), .inr (.inr trivial), .inr (.inr trivial), .inr (.inr trivial), .inl rfl, .inr (.inr trivial), .inr (.inr trivial), .inr (.inr trivial), .inr (.inr trivial), .inr (.inr trivial), .inr (.inr (by repeat first | exact trivial | refine And.intro ?_ ?_ | exact rfl | ((intro a_ b_; first | exact getD_no rfl | exact rowC0_no rfl _ _ | exact rowS_no rfl rfl _ _ | exact insF_no (rowC0_no rfl) (fun _ _ => getD_no rfl) _ _ _ | ((try dsimp only); (repeat' split) <;> first | rfl | exact rowC0_no rfl _ _ | exact getD_no rfl | exact insF_no (rowC0_no rfl) (fun _ _ => getD_no rfl) _ _ _))))), .inr (.inr (by repeat first | exact trivial | refine And.intro ?_ ?_ | exact rfl | ((intro a_ b_; first | exact getD_no rfl | exact rowC0_no rfl _ _ | exact rowS_no rfl rfl _ _ | exact insF_no (rowC0_no rfl) (fun _ _ => getD_no rfl) _ _ _ | ((try dsimp only); (repeat' split) <;> first | rfl | exact rowC0_no rfl _ _ | exact getD_no rfl | exact insF_no (rowC0_no rfl) (fun _ _ => getD_no rfl) _ _ _))))), .inr (.inr trivial), .inr (.inr trivial), .inr (.inr trivial), trivial⟩, ⟨.inr (.inr trivial), .inr (.inr trivial), .inr (.inr trivial), .inr (.inr trivial), .inr (.inr trivial), .inl rfl, .inr (.inr trivial), .inr (.inr trivial), .inr (.inr trivial), .inr (.inr trivial), .inr (.inr (by repeat first | exact trivial | refine And.intro ?_ ?_ | exact rfl | ((intro a_ b_; first | exact getD_no rfl | exact rowC0_no rfl _ _ | exact rowS_no rfl rfl _ _ | exact insF_no (rowC0_no rfl) (fun _ _ => getD_no rfl) _ _ _ | ((try dsimp only); (repeat' split) <;> first | rfl | exact rowC0_no rfl _ _ | exact getD_no rfl | exact insF_no (rowC0_no rfl) (fun _ _ => getD_no rfl) _ _ _))))), .inr (.inr (by repeat first | exact trivial | refine And.intro ?_ ?_ | exact rfl | ((intro a_ b_; first | exact getD_no rfl | exact rowC0_no rfl _ _ | exact rowS_no rfl rfl _ _ | exact insF_no (rowC0_no rfl) (fun _ _ => getD_no rfl) _ _ _ | ((try dsimp only); (repeat' split) <;> first | rfl | exact rowC0_no rfl _ _ | exact getD_no rfl | exact insF_no (rowC0_no rfl) (fun _ _ => getD_no rfl) _ _ _))))), .inr (.inr trivial), .inr (.inr trivial), .inr (.inr trivial), trivial⟩, ⟨.inr (.inr trivial), .inr (.inr trivial), .inr (.inr trivial), .inr (.inr trivial), .inr (.inr trivial), .inr (.inr trivial), .inl rfl, .inr (.inr trivial), .inr (.inr trivial), .inr (.inr trivial), .inr (.inr (by repeat first | exact trivial | refine And.intro ?_ ?_ | exact rfl | ((intro a_ b_; first | exact getD_no rfl | exact rowC0_no rfl _ _ | exact rowS_no rfl rfl _ _ | exact insF_no (rowC0_no rfl) (fun _ _ => getD_no rfl) _ _ _ | ((try dsimp only); (repeat' split) <;> first | rfl | exact rowC0_no rfl _ _ | exact getD_no rfl | exact insF_no (rowC0_no rfl) (fun _ _ => getD_no rfl) _ _ _))))), .inr (.inr (by repeat first | exact trivial | refine And.intro ?_ ?_ | exact rfl | ((intro a_ b_; first | exact getD_no rfl | exact rowC0_no rfl _ _ | exact rowS_no rfl rfl _ _ | exact insF_no (rowC0_no rfl) (fun _ _ => getD_no rfl) _ _ _ | ((try dsimp only); (repeat' split) <;> first | rfl | exact rowC0_no rfl _ _ | exact getD_no rfl | exact insF_no (rowC0_no rfl) (fun _ _ => getD_no rfl) _ _ _))))), .inr (.inr trivial), .inr (.inr trivial), .inr (.inr trivial), trivial⟩, ⟨.inr (.inr trivial), .inr (.inr trivial), .inr (.inr trivial), .inr (.inr trivial), .inr (.inr trivial), .inr (.inr trivial), .inr (.inr trivial), .inl rfl, .inr (.inr trivial), .inr (.inr trivial), .inr (.inr (by repeat first | exact trivial | refine And.intro ?_ ?_ | exact rfl | ((intro a_ b_; first | exact getD_no rfl | exact rowC0_no rfl _ _ | exact rowS_no rfl rfl _ _ | exact insF_no (rowC0_no rfl) (fun _ _ => getD_no rfl) _ _ _ | ((try dsimp only); (repeat' split) <;> first | rfl | exact rowC0_no rfl _ _ | exact getD_no rfl | exact insF_no (rowC0_no rfl) (fun _ _ => getD_no rfl) _ _ _))))), .inr (.inr (by repeat first | exact trivial | refine And.intro ?_ ?_ | exact rfl | ((intro a_ b_; first | exact getD_no rfl | exact rowC0_no rfl _ _ | exact rowS_no rfl rfl _ _ | exact insF_no (rowC0_no rfl) (fun _ _ => getD_no rfl) _ _ _ | ((try dsimp only); (repeat' split) <;> first | rfl | exact rowC0_no rfl _ _ | exact getD_no rfl | exact insF_no (rowC0_no rfl) (fun _ _ => getD_no rfl) _ _ _))))), .inr (.inr trivial), .inr (.inr trivial), .inr (.inr trivial), trivial⟩, ⟨.inr (.inr trivial), .inr (.inr trivial), .inr (.inr trivial), .inr (.inr trivial), .inr (.inr trivial), .inr (.inr trivial), .inr (.inr trivial), .inr (.inr trivial), .inl rfl, .inr (.inr trivial), .inr (.inr (by repeat first | exact trivial | refine And.intro ?_ ?_ | exact rfl | ((intro a_ b_; first | exact getD_no rfl | exact rowC0_no rfl _ _ | exact rowS_no rfl rfl _ _ | exact insF_no (rowC0_no rfl) (fun _ _ => getD_no rfl) _ _ _ | ((try dsimp only); (repeat' split) <;> first | rfl | exact rowC0_no rfl _ _ | exact getD_no rfl | exact insF_no (rowC0_no rfl) (fun _ _ => getD_no rfl) _ _ _))))), .inr (.inr (by repeat first | exact trivial | refine And.intro ?_ ?_ | exact rfl | ((intro a_ b_; first | exact getD_no rfl | exact rowC0_no rfl _ _ | exact rowS_no rfl rfl _ _ | exact insF_no (rowC0_no rfl) (fun _ _ => getD_no rfl) _ _ _ | ((try dsimp only); (repeat' split) <;> first | rfl | exact rowC0_no rfl _ _ | exact getD_no rfl | exact insF_no (rowC0_no rfl) (fun _ _ => getD_no rfl) _ _ _))))), .inr (.inr trivial), .inr (.inr trivial), .inr (.inr trivial), trivial⟩, ⟨.inr (.inr trivial), .inr (.inr trivial), .inr (.inr trivial), .inr (.inr trivial), .inr (.inr trivial), .inr (.inr trivial), .inr (.inr trivial), .inr (.inr trivial), .inr (.inr trivial), .inl rfl, .inr (.inr (by repeat first | exact trivial | refine And.intro ?_ ?_ | exact rfl | ((intro a_ b_; first | exact getD_no rfl | exact rowC0_no rfl _ _ | exact rowS_no rfl rfl _ _ | exact insF_no (rowC0_no rfl) (fun _ _ => getD_no rfl) _ _ _ | ((try dsimp only); (repeat' split) <;> first | rfl | exact rowC0_no rfl _ _ | exact getD_no rfl | exact insF_no (rowC0_no rfl) (fun _ _ => getD_no rfl) _ _ _))))), .inr (.inr (by repeat first | exact trivial | refine And.intro ?_ ?_ | exact rfl | ((intro a_ b_; first | exact getD_no rfl | exact rowC0_no rfl _ _ | exact rowS_no rfl rfl _ _ | exact insF_no (rowC0_no rfl) (fun _ _ => getD_no rfl) _ _ _ | ((try dsimp only); (repeat' split) <;> first | rfl | exact rowC0_no rfl _ _ | exact getD_no rfl | exact insF_no (rowC0_no rfl) (fun _ _ => getD_no rfl) _ _ _))))), .inr (.inr trivial), .inr (.inr trivial), .inr (.inr trivial), trivial⟩, ⟨.inr (.inr trivial), .inr (.inr trivial), .inr (.inr trivial), .inr (.inr trivial), .inr (.inr trivial), .inr (.inr trivial), .inr (.inr trivial), .inr (.inr trivial), .inr (.inr trivial), .inr (.inr trivial), .inl rfl, .inr (.inr (by repeat first | exact trivial | refine And.intro ?_ ?_ | exact rfl | ((intro a_ b_; first | exact getD_no rfl | exact rowC0_no rfl _ _ | exact rowS_no rfl rfl _ _ | exact insF_no (rowC0_no rfl) (fun _ _ => getD_no rfl) _ _ _ | ((try dsimp only); (repeat' split) <;> first | rfl | exact rowC0_no rfl _ _ | exact getD_no rfl | exact insF_no (rowC0_no rfl) (fun _ _ => getD_no rfl) _ _ _))))), .inr (.inr trivial), .inr (.inr trivial), .inr (.inr trivial), trivial⟩, ⟨.inr (.inr trivial), .inr (.inr trivial), .inr (.inr trivial), .inr (.inr trivial), .inr (.inr trivial), .inr (.inr trivial), .inr (.inr trivial), .inr (.inr trivial), .inr (.inr trivial), .inr (.inr trivial), .inr (.inl (by kernel_rfl)), .inl rfl, .inr (.inr trivial), .inr (.inr trivial), .inr (.inr trivial), trivial⟩, ⟨.inr (.inr trivial), .inr (.inr trivial), .inr (.inr trivial), .inr (.inr trivial), .inr (.inr trivial), .inr (.inr trivial), .inr (.inr trivial), .inr (.inr trivial), .inr (.inr trivial), .inr (.inr trivial), .inr (.inl (by kernel_rfl)), .inr (.inl (by kernel_rfl)), .inl rfl, .inr (.inr trivial), .inr (.inr trivial), trivial⟩, ⟨.inr (.inr trivial), .inr (.inr trivial), .inr (.inr trivial), .inr (.inr trivial), .inr (.inr trivial), .inr (.inr trivial), .inr (.inr trivial), .inr (.inr trivial), .inr (.inr trivial), .inr (.inr trivial), .inr (.inl (by kernel_rfl)), .inr (.inl (by kernel_rfl)), .inr (.inr trivial), .inl rfl, .inr (.inr trivial), trivial⟩, ⟨.inr (.inr trivial), .inr (.inr trivial), .inr (.inr trivial), .inr (.inr trivial), .inr (.inr trivial), .inr (.inr trivial), .inr (.inr trivial), .inr (.inr trivial), .inr (.inr trivial), .inr (.inr trivial), .inr (.inl (by kernel_rfl)), .inr (.inl (by kernel_rfl)), .inr (.inr trivial), .inr (.inr trivial), .inl rfl, trivial⟩, trivial⟩ ⟨trivial, trivial, trivial, trivial, trivial, trivial, trivial, trivial, trivial, trivial, ⟨(by repeat first | exact trivial | refine ⟨by decide, by first | rfl | exact trivial | (intro a_ b_; first | exact getD_no rfl | exact rowC0_no rfl _ _ | exact rowS_no rfl rfl _ _ | exact insF_no (rowC0_no rfl) (fun _ _ => getD_no rfl) _ _ _ | ((try dsimp only); (repeat' split) <;> first | rfl | exact rowC0_no rfl _ _ | exact getD_no rfl | exact insF_no (rowC0_no rfl) (fun _ _ => getD_no rfl) _ _ _)), ?_⟩), trivial⟩, ⟨(by repeat first | exact trivial | refine ⟨by decide, by first | rfl | exact trivial | (intro a_ b_; first | exact getD_no rfl | exact rowC0_no rfl _ _ | exact rowS_no rfl rfl _ _ | exact insF_no (rowC0_no rfl) (fun _ _ => getD_no rfl) _ _ _ | ((try dsimp only); (repeat' split) <;> first | rfl | exact rowC0_no rfl _ _ | exact getD_no rfl | exact insF_no (rowC0_no rfl) (fun _ _ => getD_no rfl) _ _ _)), ?_⟩), trivial⟩, trivial, trivial, trivial, trivial⟩ ?_
          refine ADX.pure [] (PureOp.move rfl (.tmp rfl)) rfl rfl (Nat.le_of_ble_eq_true rfl) trivial rfl ?_
          refine ADX.pure [] (PureOp.move rfl (.tmp rfl)) rfl rfl (Nat.le_of_ble_eq_true rfl) trivial rfl ?_
          refine ADX.pure [] (PureOp.nilPtr rfl (.tmp rfl)) rfl rfl (Nat.le_of_ble_eq_true rfl) trivial rfl ?_
          refine ADX.pure [] (PureOp.fieldPtr rfl (.tmp rfl) vhi_fi_49_1_1) rfl rfl (Nat.le_of_ble_eq_true rfl) trivial rfl ?_
          refine ADX.pure [(5, .arr 2 ((imRows s k).length + 1) (fun ia ja => if ia < (imRows s k).length then (rowC0 (⟨imRows s k, x1.1⟩ : GHead) 500 : Nat → Nat → AV) ia ja else (fun _ jc => ([.str ((readV (bs ((Rd.cutL 10 s.data.toList).getD (k + 1) []))).1.name), .con (.slice none 0 0)] : List AV).getD jc (.con undef) : Nat → Nat → AV) (ia - (imRows s k).length) ja))] (PureOp.loadPtrE (y := .con (.slice none 0 0)) rfl (.tmp rfl) vhi_pl_47 rfl rfl (by exact (show (imRows s k).length < ((imRows s k).length + 1) from by omega)) (Nat.le_of_ble_eq_true rfl) (by show (if _ < _ then _ else _) = _; rw [if_neg (Nat.lt_irrefl _)]; rfl)) rfl rfl (Nat.le_of_ble_eq_true rfl) ⟨rfl, trivial⟩ rfl ?_
          refine ADX.pure [] (PureOp.fieldPtr rfl (.tmp rfl) vhi_fi_36_1_1) rfl rfl (Nat.le_of_ble_eq_true rfl) trivial rfl ?_
          refine ADX.pure [(3, .cells [.str ((readV (bs ((Rd.cutL 10 s.data.toList).getD (k + 1) []))).1.name), .int .i64 ((readV (bs ((Rd.cutL 10 s.data.toList).getD (k + 1) []))).1.at_), .int .i64 ((readV (bs ((Rd.cutL 10 s.data.toList).getD (k + 1) []))).1.value)])] (PureOp.loadPtr rfl (.tmp rfl) vhi_pl_3 rfl rfl (Nat.le_of_ble_eq_true rfl) (Nat.le_of_ble_eq_true rfl)) rfl rfl (Nat.le_of_ble_eq_true rfl) ⟨rfl, trivial⟩ rfl ?_
          refine ADX.pure [] (PureOp.fieldPtr rfl (.tmp rfl) vhi_fi_36_2_2) rfl rfl (Nat.le_of_ble_eq_true rfl) trivial rfl ?_
          refine ADX.pure [(3, .cells [.str ((readV (bs ((Rd.cutL 10 s.data.toList).getD (k + 1) []))).1.name), .int .i64 ((readV (bs ((Rd.cutL 10 s.data.toList).getD (k + 1) []))).1.at_), .int .i64 ((readV (bs ((Rd.cutL 10 s.data.toList).getD (k + 1) []))).1.value)])] (PureOp.loadPtr rfl (.tmp rfl) vhi_pl_3 rfl rfl (Nat.le_of_ble_eq_true rfl) (Nat.le_of_ble_eq_true rfl)) rfl rfl (Nat.le_of_ble_eq_true rfl) ⟨rfl, trivial⟩ rfl ?_
          refine ADX.pure [] (PureOp.build (ys := [.int .i64 ((readV (bs ((Rd.cutL 10 s.data.toList).getD (k + 1) []))).1.at_), .int .i64 ((readV (bs ((Rd.cutL 10 s.data.toList).getD (k + 1) []))).1.value)]) (l := [.int .i64 0, .int .i64 0]) (pl := [(0, 1), (1, 1)]) (z := (.agg #[.int .i64 0, .int .i64 0])) rfl (by kernel_rfl) (by kernel_rfl) (fun _ _ _ => ⟨_, _, rfl, rfl, ⟨_, _, rfl, rfl, rfl⟩⟩) ⟨(.tmp rfl), trivial, rfl, ⟨(.tmp rfl), trivial, rfl, trivial⟩⟩ rfl) rfl rfl (Nat.le_of_ble_eq_true rfl) trivial rfl ?_
          refine ADX.eff (tk := [6]) (new := [6]) (s := .one (.own 6 2 1)) (F := [(98, .one (.own 6 2 1))]) (Hin := []) (Hout := [(6, .arr 2 1 (fun _ jc => ([.int .i64 ((readV (bs ((Rd.cutL 10 s.data.toList).getD (k + 1) []))).1.at_), .int .i64 ((readV (bs ((Rd.cutL 10 s.data.toList).getD (k + 1) []))).1.value)] : List AV).getD jc (.con undef)))]) (fun E X hE hX Q rest hk => ?_) trivial ⟨rfl, rfl⟩ rfl rfl rfl rfl ⟨(by repeat first | exact trivial | refine ⟨by decide, by first | rfl | exact trivial | (intro a_ b_; first | exact getD_no rfl | exact rowC0_no rfl _ _ | exact rowS_no rfl rfl _ _ | exact insF_no (rowC0_no rfl) (fun _ _ => getD_no rfl) _ _ _ | ((try dsimp only); (repeat' split) <;> first | rfl | exact rowC0_no rfl _ _ | exact getD_no rfl | exact insF_no (rowC0_no rfl) (fun _ _ => getD_no rfl) _ _ _)), ?_⟩), trivial⟩ rfl (fun _ e => by cases e; exact Nat.le_of_ble_eq_true rfl) ?_
          · refine ARun.slice1 (id := 6) (z := (.agg #[.int .i64 0, .int .i64 0])) (by_ := 16) rfl (.tmp rfl) (SV.cells_of (by exact ⟨trivial, trivial, trivial⟩)) (by kernel_rfl) rfl rfl (by decide) (by decide) (Fr.ext2 ⟨rfl, (by repeat first | exact trivial | refine ⟨by decide, by first | rfl | exact trivial | (intro a_ b_; first | exact getD_no rfl | exact rowC0_no rfl _ _ | exact rowS_no rfl rfl _ _ | exact insF_no (rowC0_no rfl) (fun _ _ => getD_no rfl) _ _ _ | ((try dsimp only); (repeat' split) <;> first | rfl | exact rowC0_no rfl _ _ | exact getD_no rfl | exact insF_no (rowC0_no rfl) (fun _ _ => getD_no rfl) _ _ _)), ?_⟩)⟩ hE hX rfl rfl) rfl rfl rfl (Nat.le_of_ble_eq_true rfl) ?_
            refine ARun.hleX ?_ ?_ hk
            · exact HeapLe.one rfl trivial
            · repeat (first | exact LkX.refl | refine LkX.cons (hX.none rfl) ?_ | refine LkX.filter (hX.none rfl) ?_)
          refine ADX.eff (tk := [6, 7, 500]) (new := [7]) (s := .one (.tre 500 ((imRows s k).length))) (F := [(99, .one (.tre 500 ((imRows s k).length))), (99, .one (.own 7 2 (0 + 1)))]) (Hin := [(6, .arr 2 1 (fun _ jc => ([.int .i64 ((readV (bs ((Rd.cutL 10 s.data.toList).getD (k + 1) []))).1.at_), .int .i64 ((readV (bs ((Rd.cutL 10 s.data.toList).getD (k + 1) []))).1.value)] : List AV).getD jc (.con undef))), (500, .trees ((imRows s k).length) (imX (imRows s k) (readV (bs ((Rd.cutL 10 s.data.toList).getD (k + 1) []))).1))]) (Hout := [(6, .arr 2 1 (fun _ jc => ([.int .i64 ((readV (bs ((Rd.cutL 10 s.data.toList).getD (k + 1) []))).1.at_), .int .i64 ((readV (bs ((Rd.cutL 10 s.data.toList).getD (k + 1) []))).1.value)] : List AV).getD jc (.con undef))), (500, .trees ((imRows s k).length + 1) (imX (imRows s k) (readV (bs ((Rd.cutL 10 s.data.toList).getD (k + 1) []))).1))]) (fun E X hE hX Q rest hk => ?_) ⟨rfl, rfl, trivial⟩ ⟨rfl, rfl⟩ rfl rfl rfl rfl ⟨(by repeat first | exact trivial | refine ⟨by decide, by first | rfl | exact trivial | (intro a_ b_; first | exact getD_no rfl | exact rowC0_no rfl _ _ | exact rowS_no rfl rfl _ _ | exact insF_no (rowC0_no rfl) (fun _ _ => getD_no rfl) _ _ _ | ((try dsimp only); (repeat' split) <;> first | rfl | exact rowC0_no rfl _ _ | exact getD_no rfl | exact insF_no (rowC0_no rfl) (fun _ _ => getD_no rfl) _ _ _)), ?_⟩), trivial⟩ rfl (fun _ e => by cases e; exact Nat.le_of_ble_eq_true rfl) ?_
          · refine ARun.append (id := 7) (sz := 2) (n := 0) (m := 1) (by_ := 16) (z := (.agg #[.int .i64 0, .int .i64 0])) (f := fun _ _ => .con undef) (g := fun _ jc => ([.int .i64 ((readV (bs ((Rd.cutL 10 s.data.toList).getD (k + 1) []))).1.at_), .int .i64 ((readV (bs ((Rd.cutL 10 s.data.toList).getD (k + 1) []))).1.value)] : List AV).getD jc (.con undef)) (h := fun ia ja => if ia < 0 then (fun _ _ => .con undef : Nat → Nat → AV) ia ja else (fun _ jc => ([.int .i64 ((readV (bs ((Rd.cutL 10 s.data.toList).getD (k + 1) []))).1.at_), .int .i64 ((readV (bs ((Rd.cutL 10 s.data.toList).getD (k + 1) []))).1.value)] : List AV).getD jc (.con undef) : Nat → Nat → AV) (ia - 0) ja) rfl (by kernel_rfl) rfl vhi_sl_47 (.nil (.tmp rfl) rfl) (.own (.tmp rfl) rfl rfl (Nat.le_refl _) (fun _ _ _ _ => rfl)) (by decide) (fun i j hi hj => match j, hj with | 0, _ => rfl | 1, _ => rfl | _ + 2, h => absurd h (by omega)) (fun _ _ _ _ => rfl) (by omega) (by omega) (by repeat first | exact Fr.ext2 ⟨rfl, (by repeat first | exact trivial | refine ⟨by decide, by first | rfl | exact trivial | (intro a_ b_; first | exact getD_no rfl | exact rowC0_no rfl _ _ | exact rowS_no rfl rfl _ _ | exact insF_no (rowC0_no rfl) (fun _ _ => getD_no rfl) _ _ _ | ((try dsimp only); (repeat' split) <;> first | rfl | exact rowC0_no rfl _ _ | exact getD_no rfl | exact insF_no (rowC0_no rfl) (fun _ _ => getD_no rfl) _ _ _)), ?_⟩)⟩ hE hX rfl rfl | refine Fr.consE rfl ?_ | refine Fr.consH (by decide) (by first | rfl | exact trivial | (intro a_ b_; first | exact getD_no rfl | exact rowC0_no rfl _ _ | exact rowS_no rfl rfl _ _ | exact insF_no (rowC0_no rfl) (fun _ _ => getD_no rfl) _ _ _ | ((try dsimp only); (repeat' split) <;> first | rfl | exact rowC0_no rfl _ _ | exact getD_no rfl | exact insF_no (rowC0_no rfl) (fun _ _ => getD_no rfl) _ _ _))) ?_ | refine Fr.filt ?_) (fun a_ b_ => by (try dsimp only); (repeat' split) <;> first | rfl | exact rowC0_no rfl _ _ | exact getD_no rfl) rfl rfl (Nat.le_of_ble_eq_true rfl) ?_
            refine ARun.closeRow 99 7 500 (imRows s k).length 2 (0 + 1) (m' := 1) (X := imX (imRows s k) (readV (bs ((Rd.cutL 10 s.data.toList).getD (k + 1) []))).1) (g := fun a b => ceSample (([⟨(readV (bs ((Rd.cutL 10 s.data.toList).getD (k + 1) []))).1.at_, (readV (bs ((Rd.cutL 10 s.data.toList).getD (k + 1) []))).1.value⟩] : List GSample).getD a (default : GSample)) b) rfl rfl rfl rfl (Nat.le_refl _) rfl rfl (imX_n _ _) rfl (fun i j hi hj => (show (if i < 0 then _ else _) = _ from im_cellN hi hj)) (fun i j hi hj => match j, hj with | 0, _ => rfl | 1, _ => rfl | _ + 2, h => absurd h (by omega)) ?_
            refine ARun.hleX ?_ ?_ hk
            · exact HeapLe.one rfl (HeapLe.one rfl trivial)
            · repeat (first | exact LkX.refl | refine LkX.cons (hX.none rfl) ?_ | refine LkX.filter (hX.none rfl) ?_)
          refine ADX.pure [] (PureOp.nilPtr rfl (.tmp rfl)) rfl rfl (Nat.le_of_ble_eq_true rfl) trivial rfl ?_
          refine ADX.pure [] (PureOp.fieldPtr rfl (.tmp rfl) vhi_fi_49_1_1) rfl rfl (Nat.le_of_ble_eq_true rfl) trivial rfl ?_
          refine ADX.eff (tk := [5]) (new := []) (s := .one (.con undef)) (F := []) (Hin := [(5, .arr 2 ((imRows s k).length + 1) (fun ia ja => if ia < (imRows s k).length then (rowC0 (⟨imRows s k, x1.1⟩ : GHead) 500 : Nat → Nat → AV) ia ja else (fun _ jc => ([.str ((readV (bs ((Rd.cutL 10 s.data.toList).getD (k + 1) []))).1.name), .con (.slice none 0 0)] : List AV).getD jc (.con undef) : Nat → Nat → AV) (ia - (imRows s k).length) ja))]) (Hout := [(5, .arr 2 ((imRows s k).length + 1) (fun a b => if a = (imRows s k).length ∧ b = 1 then .tre 500 ((imRows s k).length) else (fun ia ja => if ia < (imRows s k).length then (rowC0 (⟨imRows s k, x1.1⟩ : GHead) 500 : Nat → Nat → AV) ia ja else (fun _ jc => ([.str ((readV (bs ((Rd.cutL 10 s.data.toList).getD (k + 1) []))).1.name), .con (.slice none 0 0)] : List AV).getD jc (.con undef) : Nat → Nat → AV) (ia - (imRows s k).length) ja : Nat → Nat → AV) a b))]) (fun E X hE hX Q rest hk => ?_) ⟨rfl, trivial⟩ ⟨rfl, rfl⟩ rfl rfl rfl rfl trivial rfl (fun _ e => by cases e) ?_
          · refine ARun.storeArr rfl (.tmp rfl) (.tmp rfl) trivial rfl (by exact (show (imRows s k).length < ((imRows s k).length + 1) from by omega)) (Nat.le_of_ble_eq_true rfl) vhi_sz_47_1 rfl rfl ?_
            refine ARun.hleX ?_ ?_ hk
            · exact HeapLe.one rfl trivial
            · repeat (first | exact LkX.refl | refine LkX.cons (hX.none rfl) ?_ | refine LkX.filter (hX.none rfl) ?_)
          refine ADX.nil (H := [(0, .cells [.con (.slice none 0 0), .int .i64 0]), (1, .cells [.own 5 2 ((imRows s k).length + 1), .int .i64 x1.1]), (3, .cells [.str ((readV (bs ((Rd.cutL 10 s.data.toList).getD (k + 1) []))).1.name), .int .i64 ((readV (bs ((Rd.cutL 10 s.data.toList).getD (k + 1) []))).1.at_), .int .i64 ((readV (bs ((Rd.cutL 10 s.data.toList).getD (k + 1) []))).1.value)]), (4, .arr 2 1 (fun _ jc => ([.str ((readV (bs ((Rd.cutL 10 s.data.toList).getD (k + 1) []))).1.name), .con (.slice none 0 0)] : List AV).getD jc (.con undef))), (5, .arr 2 ((imRows s k).length + 1) (fun a b => if a = (imRows s k).length ∧ b = 1 then .tre 500 ((imRows s k).length) else (fun ia ja => if ia < (imRows s k).length then (rowC0 (⟨imRows s k, x1.1⟩ : GHead) 500 : Nat → Nat → AV) ia ja else (fun _ jc => ([.str ((readV (bs ((Rd.cutL 10 s.data.toList).getD (k + 1) []))).1.name), .con (.slice none 0 0)] : List AV).getD jc (.con undef) : Nat → Nat → AV) (ia - (imRows s k).length) ja : Nat → Nat → AV) a b)), (6, .arr 2 1 (fun _ jc => ([.int .i64 ((readV (bs ((Rd.cutL 10 s.data.toList).getD (k + 1) []))).1.at_), .int .i64 ((readV (bs ((Rd.cutL 10 s.data.toList).getD (k + 1) []))).1.value)] : List AV).getD jc (.con undef))), (500, .trees ((imRows s k).length + 1) (imX (imRows s k) (readV (bs ((Rd.cutL 10 s.data.toList).getD (k + 1) []))).1))]) ?_ ?_
          · exact HeapLe.one rfl (HeapLe.one rfl (HeapLe.one rfl (HeapLe.one rfl (HeapLe.one rfl (HeapLe.one rfl (HeapLe.one rfl trivial))))))
          refine AW.region ?_
          refine ARun.pure (PureOp.add (c := ((k + 1 : Nat) : Int)) rfl (.tmp rfl) .int (by rw [wrap_id (by omega) (by omega)]; omega)) rfl rfl (Nat.le_of_ble_eq_true rfl) ?_
          refine ARun.pure (PureOp.move rfl (.tmp rfl)) rfl rfl (Nat.le_of_ble_eq_true rfl) ?_
          refine ARun.nil ?_
          exact ⟨k + 1, (swp 2 5), (show k + 1 ≤ (Rd.cutL 10 s.data.toList).length - 2 from by omega), by dsimp only; omega, swp_inj, (swp_fix rfl rfl), ⟨⟨⟨_, rfl, rfl⟩, ⟨_, rfl, rfl⟩, ⟨_, rfl, rfl⟩, ⟨_, rfl, rfl⟩, ⟨_, rfl, rfl⟩, ⟨_, rfl, rfl⟩, trivial⟩, ⟨⟨_, rfl, rfl, Nat.le_refl _, fun _ _ _ _ => rfl⟩, ⟨_, rfl, rfl, Nat.le_refl _, fun i j _ _ => by rw [hc]; rfl⟩, ⟨_, rfl, rfl, Nat.le_of_eq hc, fun i j hi hj => (im_rowN (z := x1.1) (Nat.lt_of_lt_of_eq hi hc) hj).trans ((congrArg (fun r => rowC0 ⟨r, x1.1⟩ 500 i j) hnx.symm).trans (rowC0_ren (h := (⟨imRows s (k + 1), x1.1⟩ : GHead)) (K := 500) (K' := 500) rfl i j))⟩, ⟨imX (imRows s k) (readV (bs ((Rd.cutL 10 s.data.toList).getD (k + 1) []))).1, by rw [hc]; rfl, fun q hq => (im_famN (z := x1.1) (Nat.lt_of_lt_of_eq hq hc)).trans (congrArg (fun r => rowX0 ⟨r, x1.1⟩ q) hnx.symm)⟩, trivial⟩⟩⟩
        · have _u := True.intro
          obtain ⟨h0, hold⟩ := ih_old hb27
          have hnx : imRows s (k + 1) = (imRows s k).set ((imRows s k).length - 1) ⟨((imRows s k).getD ((imRows s k).length - 1) (default : GRow)).name, ((imRows s k).getD ((imRows s k).length - 1) (default : GRow)).samples ++ [⟨(readV (bs ((Rd.cutL 10 s.data.toList).getD (k + 1) []))).1.at_, (readV (bs ((Rd.cutL 10 s.data.toList).getD (k + 1) []))).1.value⟩]⟩ := hold
          have hc : (imRows s (k + 1)).length = (imRows s k).length := by rw [hnx, List.length_set]
          have hsk := hil.2 ((imRows s k).length - 1)
          refine AW.skip ?_
          refine AW.seq ?_
          refine AW.region ?_
          refine ARun.pure (PureOp.fieldPtr rfl (.tmp rfl) vhi_fi_24_0_0) rfl rfl (Nat.le_of_ble_eq_true rfl) ?_
          refine ARun.pure (PureOp.loadPtr rfl (.tmp rfl) vhi_pl_22 rfl rfl (Nat.le_of_ble_eq_true rfl) (Nat.le_of_ble_eq_true rfl)) rfl rfl (Nat.le_of_ble_eq_true rfl) ?_
          refine ARun.pure (PureOp.fieldPtr rfl (.tmp rfl) vhi_fi_24_0_0) rfl rfl (Nat.le_of_ble_eq_true rfl) ?_
          refine ARun.pure (PureOp.loadPtr rfl (.tmp rfl) vhi_pl_22 rfl rfl (Nat.le_of_ble_eq_true rfl) (Nat.le_of_ble_eq_true rfl)) rfl rfl (Nat.le_of_ble_eq_true rfl) ?_
          refine ARun.pure (PureOp.lenOwn rfl (.tmp rfl) vhi_sl_22) rfl rfl (Nat.le_of_ble_eq_true rfl) ?_
          refine ARun.pure (PureOp.sub (c := ((((imRows s k).length - 1) : Nat) : Int)) rfl (.tmp rfl) .int (by rw [wrap_id (by omega) (by omega)]; omega)) rfl rfl (Nat.le_of_ble_eq_true rfl) ?_
          refine ARun.pure (PureOp.indexOwn (i := ((imRows s k).length - 1)) rfl (.tmp rfl) vhi_el_22_2 (.tmp rfl) rfl (by exact (show ((imRows s k).length - 1) < _ from by omega))) rfl rfl (Nat.le_of_ble_eq_true rfl) ?_
          refine ARun.pure (PureOp.assign rfl (.tmp rfl)) rfl rfl (Nat.le_of_ble_eq_true rfl) ?_
          refine ARun.nil ?_
          refine AW.anyX [⟨[], [], [], []⟩, ⟨[], [], [], []⟩, ⟨[], [], [], []⟩, ⟨[], [], [], []⟩, ⟨[], [2, 8, 500, 501], [8, 501], [(2, .arr 2 ((imRows s k).length) (rowS (⟨imRows s k, x1.1⟩ : GHead) ((imRows s k).length - 1))), (8, .arr 2 (((imRows s k).getD ((imRows s k).length - 1) (default : GRow)).samples.length) (fun a b => ceSample (((imRows s k).getD ((imRows s k).length - 1) (default : GRow)).samples.getD a (default : GSample)) b)), (501, .trees ((imRows s k).length - 1) (imY (imRows s k) (readV (bs ((Rd.cutL 10 s.data.toList).getD (k + 1) []))).1))]⟩, ⟨[], [], [], []⟩, ⟨[3], [], [], []⟩, ⟨[], [], [], []⟩, ⟨[3], [], [], []⟩, ⟨[], [], [], []⟩, ⟨[], [9], [9], [(9, .arr 2 1 (fun _ jc => ([.int .i64 ((readV (bs ((Rd.cutL 10 s.data.toList).getD (k + 1) []))).1.at_), .int .i64 ((readV (bs ((Rd.cutL 10 s.data.toList).getD (k + 1) []))).1.value)] : List AV).getD jc (.con undef)))]⟩, ⟨[], [2, 8, 9, 10, 78, 501], [10, 78], [(2, .arr 2 ((imRows s k).length) (fun a b => if a = ((imRows s k).length - 1) ∧ b = 1 then .tre 500 ((imRows s k).length - 1) else rowC0 (⟨imRows s k, x1.1⟩ : GHead) 78 a b)), (9, .arr 2 1 (fun _ jc => ([.int .i64 ((readV (bs ((Rd.cutL 10 s.data.toList).getD (k + 1) []))).1.at_), .int .i64 ((readV (bs ((Rd.cutL 10 s.data.toList).getD (k + 1) []))).1.value)] : List AV).getD jc (.con undef))), (78, .trees ((imRows s k).length) (fun q => imY (imRows s k) (readV (bs ((Rd.cutL 10 s.data.toList).getD (k + 1) []))).1 (pmI ((imRows s k).length - 1) ((imRows s k).length - 1) q)))]⟩, ⟨[], [], [], []⟩, ⟨[], [], [], []⟩, ⟨[], [2], [], [(2, .arr 2 ((imRows s k).length) (fun a b => if a = ((imRows s k).length - 1) ∧ b = 1 then .tre 78 ((imRows s k).length - 1) else (fun a b => if a = ((imRows s k).length - 1) ∧ b = 1 then .tre 500 ((imRows s k).length - 1) else rowC0 (⟨imRows s k, x1.1⟩ : GHead) 78 a b : Nat → Nat → AV) a b))]⟩] (by kernel_rfl) (by kernel_rfl) (by kernel_rfl) ⟨⟨.inl rfl, .inr (.inr trivial), .inr (.inr trivial), .inr (.inr trivial), .inr (.inr (by repeat first | exact trivial | refine And.intro ?_ ?_ | exact rfl | ((intro a_ b_; first | exact getD_no rfl | exact rowC0_no rfl _ _ | exact rowS_no rfl rfl _ _ | exact insF_no (rowC0_no rfl) (fun _ _ => getD_no rfl) _ _ _ | ((try dsimp only); (repeat' split) <;> first | rfl | exact rowC0_no rfl _ _ | exact getD_no rfl | exact insF_no (rowC0_no rfl) (fun _ _ => getD_no rfl) _ _ _))))), .inr (.inr trivial), .inr (.inr trivial), .inr (.inr trivial), .inr (.inr trivial), .inr (.inr trivial), .inr (.inr (by repeat first | exact trivial | refine And.intro ?_ ?_ | exact rfl | ((intro a_ b_; first | exact getD_no rfl | exact rowC0_no rfl _ _ | exact rowS_no rfl rfl _ _ | exact insF_no (rowC0_no rfl) (fun _ _ => getD_no rfl) _ _ _ | ((try dsimp only); (repeat' split) <;> first | rfl | exact rowC0_no rfl _ _ | exact getD_no rfl | exact insF_no (rowC0_no rfl) (fun _ _ => getD_no rfl) _ _ _))))), .inr (.inr (by repeat first | exact trivial | refine And.intro ?_ ?_ | exact rfl | ((intro a_ b_; first | exact getD_no rfl | exact rowC0_no rfl _ _ | exact rowS_no rfl rfl _ _ | exact insF_no (rowC0_no rfl) (fun _ _ => getD_no rfl) _ _ _ | ((try dsimp only); (repeat' split) <;> first | rfl | exact rowC0_no rfl _ _ | exact getD_no rfl | exact insF_no (rowC0_no rfl) (fun _ _ => getD_no rfl) _ _ _))))), .inr (.inr trivial), .inr (.inr trivial), .inr (.inr trivial), trivial⟩, ⟨.inr (.inr trivial), .inl rfl, .inr (.inr trivial), .inr (.inr trivial), .inr (.inr (by repeat first | exact trivial | refine And.intro ?_ ?_ | exact rfl | ((intro a_ b_; first | exact getD_no rfl | exact rowC0_no rfl _ _ | exact rowS_no rfl rfl _ _ | exact insF_no (rowC0_no rfl) (fun _ _ => getD_no rfl) _ _ _ | ((try dsimp only); (repeat' split) <;> first | rfl | exact rowC0_no rfl _ _ | exact getD_no rfl | exact insF_no (rowC0_no rfl) (fun _ _ => getD_no rfl) _ _ _))))), .inr (.inr trivial), .inr (.inr trivial), .inr (.inr trivial), .inr (.inr trivial), .inr (.inr trivial), .inr (.inr (by repeat first | exact trivial | refine And.intro ?_ ?_ | exact rfl | ((intro a_ b_; first | exact getD_no rfl | exact rowC0_no rfl _ _ | exact rowS_no rfl rfl _ _ | exact insF_no (rowC0_no rfl) (fun _ _ => getD_no rfl) _ _ _ | ((try dsimp only); (repeat' split) <;> first | rfl | exact rowC0_no rfl _ _ | exact getD_no rfl | exact insF_no (rowC0_no rfl) (fun _ _ => getD_no rfl) _ _ _))))), .inr (.inr (by repeat first | exact trivial | refine And.intro ?_ ?_ | exact rfl | ((intro a_ b_; first | exact getD_no rfl | exact rowC0_no rfl _ _ | exact rowS_no rfl rfl _ _ | exact insF_no (rowC0_no rfl) (fun _ _ => getD_no rfl) _ _ _ | ((try dsimp only); (repeat' split) <;> first | rfl | exact rowC0_no rfl _ _ | exact getD_no rfl | exact insF_no (rowC0_no rfl) (fun _ _ => getD_no rfl) _ _ _))))), .inr (.inr trivial), .inr (.inr trivial), .inr (.inr trivial), trivial⟩, ⟨.inr (.inr trivial), .inr (.inr trivial), .inl rfl, .inr (.inr trivial), .inr (.inr (by repeat first | exact trivial | refine And.intro ?_ ?_ | exact rfl | ((intro a_ b_; first | exact getD_no rfl | exact rowC0_no rfl _ _ | exact rowS_no rfl rfl _ _ | exact insF_no (rowC0_no rfl) (fun _ _ => getD_no rfl) _ _ _ | ((try dsimp only); (repeat' split) <;> first | rfl | exact rowC0_no rfl _ _ | exact getD_no rfl | exact insF_no (rowC0_no rfl) (fun _ _ => getD_no rfl) _ _ _))))), .inr (.inr trivial), .inr (.inr trivial), .inr (.inr trivial), .inr (.inr trivial), .inr (.inr trivial), .inr (.inr (by repeat first | exact trivial | refine And.intro ?_ ?_ | exact rfl | ((intro a_ b_; first | exact getD_no rfl | exact rowC0_no rfl _ _ | exact rowS_no rfl rfl _ _ | exact insF_no (rowC0_no rfl) (fun _ _ => getD_no rfl) _ _ _ | ((try dsimp only); (repeat' split) <;> first | rfl | exact rowC0_no rfl _ _ | exact getD_no rfl | exact insF_no (rowC0_no rfl) (fun _ _ => getD_no rfl) _ _ _))))), .inr (.inr (by repeat first | exact trivial | refine And.intro ?_ ?_ | exact rfl | ((intro a_ b_; first | exact getD_no rfl | exact rowC0_no rfl _ _ | exact rowS_no rfl rfl _ _ | exact insF_no (rowC0_no rfl) (fun _ _ => getD_no rfl) _ _ _ | ((try dsimp only); (repeat' split) <;> first | rfl | exact rowC0_no rfl _ _ | exact getD_no rfl | exact insF_no (rowC0_no rfl) (fun _ _ => getD_no rfl) _ _ _))))), .inr (.inr trivial), .inr (.inr trivial), .inr (.inr trivial), trivial⟩, ⟨.inr (.inr trivial), .inr (.inr trivial), .inr (.inr trivial), .inl rfl, .inr (.inr (by repeat first | exact trivial | refine And.intro ?_ ?_ | exact rfl | ((intro a_ b_; first | exact getD_no rfl | exact rowC0_no rfl _ _ | exact rowS_no rfl rfl _ _ | exact insF_no (rowC0_no rfl) (fun _ _ => getD_no rfl) _ _ _ | ((try dsimp only); (repeat' split) <;> first | rfl | exact rowC0_no rfl _ _ | exact getD_no rfl | exact insF_no (rowC0_no rfl) (fun _ _ => getD_no rfl) _ _ _))))), .inr (.inr trivial), .inr (.inr trivial), .inr (.inr trivial), .inr (.inr trivial), .inr (.inr trivial), .inr (.inr (by repeat first | exact trivial | refine And.intro ?_ ?_ | exact rfl | ((intro a_ b_; first | exact getD_no rfl | exact rowC0_no rfl _ _ | exact rowS_no rfl rfl _ _ | exact insF_no (rowC0_no rfl) (fun _ _ => getD_no rfl) _ _ _ | ((try dsimp only); (repeat' split) <;> first | rfl | exact rowC0_no rfl _ _ | exact getD_no rfl | exact insF_no (rowC0_no rfl) (fun _ _ => getD_no rfl) _ _ _))))), .inr (.inr (by repeat first | exact trivial | refine And.intro ?_ ?_ | exact rfl | ((intro a_ b_; first | exact getD_no rfl | exact rowC0_no rfl _ _ | exact rowS_no rfl rfl _ _ | exact insF_no (rowC0_no rfl) (fun _ _ => getD_no rfl) _ _ _ | ((try dsimp only); (repeat' split) <;> first | rfl | exact rowC0_no rfl _ _ | exact getD_no rfl | exact insF_no (rowC0_no rfl) (fun _ _ => getD_no rfl) _ _ _))))), .inr (.inr trivial), .inr (.inr trivial), .inr (.inr trivial), trivial⟩, ⟨.inr (.inr trivial), .inr (.inr trivial), .inr (.inr trivial), .inr (.inr trivial), .inl rfl, .inr (.inr trivial), .inr (.inr trivial), .inr (.inr trivial), .inr (.inr trivial), .inr (.inr trivial), .inr (.inr (by repeat first | exact trivial | refine And.intro ?_ ?_ | exact rfl | ((intro a_ b_; first | exact getD_no rfl | exact rowC0_no rfl _ _ | exact rowS_no rfl rfl _ _ | exact insF_no (rowC0_no rfl) (fun _ _ => getD_no rfl) _ _ _ | ((try dsimp only); (repeat' split) <;> first | rfl | exact rowC0_no rfl _ _ | exact getD_no rfl | exact insF_no (rowC0_no rfl) (fun _ _ => getD_no rfl) _ _ _))))), .inr (.inr (by repeat first | exact trivial | refine And.intro ?_ ?_ | exact rfl | ((intro a_ b_; first | exact getD_no rfl | exact rowC0_no rfl _ _ | exact rowS_no rfl rfl _ _ | exact insF_no (rowC0_no rfl) (fun _ _ => getD_no rfl) _ _ _ | ((try dsimp only); (repeat' split) <;> first | rfl | exact rowC0_no rfl _ _ | exact getD_no rfl | exact insF_no (rowC0_no rfl) (fun _ _ => getD_no rfl) _ _ _))))), .inr (.inr trivial), .inr (.inr trivial), .inr (.inr trivial), trivial⟩, ⟨.inr (.inr trivial), .inr (.inr trivial), .inr (.inr trivial), .inr (.inr trivial), .inr (.inr (by repeat first | exact trivial | refine And.intro ?_ ?_ | exact rfl | ((intro a_ b_; first | exact getD_no rfl | exact rowC0_no rfl _ _ | exact rowS_no rfl rfl _ _ | exact insF_no (rowC0_no rfl) (fun _ _ => getD_no rfl) _ _ _ | ((try dsimp only); (repeat' split) <;> first | rfl | exact rowC0_no rfl _ _ | exact getD_no rfl | exact insF_no (rowC0_no rfl) (fun _ _ => getD_no rfl) _ _ _))))), .inl rfl, .inr (.inr trivial), .inr (.inr trivial), .inr (.inr trivial), .inr (.inr trivial), .inr (.inr (by repeat first | exact trivial | refine And.intro ?_ ?_ | exact rfl | ((intro a_ b_; first | exact getD_no rfl | exact rowC0_no rfl _ _ | exact rowS_no rfl rfl _ _ | exact insF_no (rowC0_no rfl) (fun _ _ => getD_no rfl) _ _ _ | ((try dsimp only); (repeat' split) <;> first | rfl | exact rowC0_no rfl _ _ | exact getD_no rfl | exact insF_no (rowC0_no rfl) (fun _ _ => getD_no rfl) _ _ _))))), .inr (.inr (by repeat first | exact trivial | refine And.intro ?_ ?_ | exact rfl | ((intro a_ b_; first | exact getD_no rfl | exact rowC0_no rfl _ _ | exact rowS_no rfl rfl _ _ | exact insF_no (rowC0_no rfl) (fun _ _ => getD_no rfl) _ _ _ | ((try dsimp only); (repeat' split) <;> first | rfl | exact rowC0_no rfl _ _ | exact getD_no rfl | exact insF_no (rowC0_no rfl) (fun _ _ => getD_no rfl) _ _ _))))), .inr (.inr trivial), .inr (.inr trivial), .inr (.inr trivial), trivial⟩, ⟨.inr (.inr trivial), .inr (.inr trivial), .inr (.inr trivial), .inr (.inr trivial), .inr (.inr (by repeat first | exact trivial | refine And.intro ?_ ?_ | exact rfl | ((intro a_ b_; first | exact getD_no rfl | exact rowC0_no rfl _ _ | exact rowS_no rfl rfl _ _ | exact insF_no (rowC0_no rfl) (fun _ _ => getD_no rfl) _ _ _ | ((try dsimp only); (repeat' split) <;> first | rfl | exact rowC0_no rfl _ _ | exact getD_no rfl | exact insF_no (rowC0_no rfl) (fun _ _ => getD_no rfl) _ _ _))))), .inr (.inr trivial), .inl rfl, .inr (.inr trivial), .inr (.inr trivial), .inr (.inr trivial), .inr (.inr (by repeat first | exact trivial | refine And.intro ?_ ?_ | exact rfl | ((intro a_ b_; first | exact getD_no rfl | exact rowC0_no rfl _ _ | exact rowS_no rfl rfl _ _ | exact insF_no (rowC0_no rfl) (fun _ _ => getD_no rfl) _ _ _ | ((try dsimp only); (repeat' split) <;> first | rfl | exact rowC0_no rfl _ _ | exact getD_no rfl | exact insF_no (rowC0_no rfl) (fun _ _ => getD_no rfl) _ _ _))))), .inr (.inr (by repeat first | exact trivial | refine And.intro ?_ ?_ | exact rfl | ((intro a_ b_; first | exact getD_no rfl | exact rowC0_no rfl _ _ | exact rowS_no rfl rfl _ _ | exact insF_no (rowC0_no rfl) (fun _ _ => getD_no rfl) _ _ _ | ((try dsimp only); (repeat' split) <;> first | rfl | exact rowC0_no rfl _ _ | exact getD_no rfl | exact insF_no (rowC0_no rfl) (fun _ _ => getD_no rfl) _ _ _))))), .inr (.inr trivial), .inr (.inr trivial), .inr (.inr trivial), trivial⟩, ⟨.inr (.inr trivial), .inr (.inr trivial), .inr (.inr trivial), .inr (.inr trivial), .inr (.inr (by repeat first | exact trivial | refine And.intro ?_ ?_ | exact rfl | ((intro a_ b_; first | exact getD_no rfl | exact rowC0_no rfl _ _ | exact rowS_no rfl rfl _ _ | exact insF_no (rowC0_no rfl) (fun _ _ => getD_no rfl) _ _ _ | ((try dsimp only); (repeat' split) <;> first | rfl | exact rowC0_no rfl _ _ | exact getD_no rfl | exact insF_no (rowC0_no rfl) (fun _ _ => getD_no rfl) _ _ _))))), .inr (.inr trivial), .inr (.inr trivial), .inl rfl, .inr (.inr trivial), .inr (.inr trivial), .inr (.inr (by repeat first | exact trivial | refine And.intro ?_ ?_ | exact rfl | ((intro a_ b_; first | exact getD_no rfl | exact rowC0_no rfl _ _ | exact rowS_no rfl rfl _ _ | exact insF_no (rowC0_no rfl) (fun _ _ => getD_no rfl) _ _ _ | ((try dsimp only); (repeat' split) <;> first | rfl | exact rowC0_no rfl _ _ | exact getD_no rfl | exact insF_no (rowC0_no rfl) (fun _ _ => getD_no rfl) _ _ _))))), .inr (.inr (by repeat first | exact trivial | refine And.intro ?_ ?_ | exact rfl | ((intro a_ b_; first | exact getD_no rfl | exact rowC0_no rfl _ _ | exact rowS_no rfl rfl _ _ | exact insF_no (rowC0_no rfl) (fun _ _ => getD_no rfl) _ _ _ | ((try dsimp only); (repeat' split) <;> first | rfl | exact rowC0_no rfl _ _ | exact getD_no rfl | exact insF_no (rowC0_no rfl) (fun _ _ => getD_no rfl) _ _ _))))), .inr (.inr trivial), .inr (.inr trivial), .inr (.inr trivial), trivial⟩, ⟨.inr (.inr trivial), .inr (.inr trivial), .inr (.inr trivial), .inr (.inr trivial), .inr (.inr (by repeat first | exact trivial | refine And.intro ?_ ?_ | exact rfl | ((intro a_ b_; first | exact getD_no rfl | exact rowC0_no rfl _ _ | exact rowS_no rfl rfl _ _ | exact insF_no (rowC0_no rfl) (fun _ _ => getD_no rfl) _ _ _ | ((try dsimp only); (repeat' split) <;> first | rfl | exact rowC0_no rfl _ _ | exact getD_no rfl | exact insF_no (rowC0_no rfl) (fun _ _ => getD_no rfl) _ _ _))))), .inr (.inr trivial), .inr (.inr trivial), .inr (.inr trivial), .inl rfl, .inr (.inr trivial), .inr (.inr (by repeat first | exact trivial | refine And.intro ?_ ?_ | exact rfl | ((intro a_ b_; first | exact getD_no rfl | exact rowC0_no rfl _ _ | exact rowS_no rfl rfl _ _ | exact insF_no (rowC0_no rfl) (fun _ _ => getD_no rfl) _ _ _ | ((try dsimp only); (repeat' split) <;> first | rfl | exact rowC0_no rfl _ _ | exact getD_no rfl | exact insF_no (rowC0_no rfl) (fun _ _ => getD_no rfl) _ _ _))))), .inr (.inr (by repeat first | exact trivial | refine And.intro ?_ ?_ | exact rfl | ((intro a_ b_; first | exact getD_no rfl | exact rowC0_no rfl _ _ | exact rowS_no rfl rfl _ _ | exact insF_no (rowC0_no rfl) (fun _ _ => getD_no rfl) _ _ _ | ((try dsimp only); (repeat' split) <;> first | rfl | exact rowC0_no rfl _ _ | exact getD_no rfl | exact insF_no (rowC0_no rfl) (fun _ _ => getD_no rfl) _ _ _))))), .inr (.inr trivial), .inr (.inr trivial), .inr (.inr trivial), trivial⟩, ⟨.inr (.inr trivial), .inr (.inr trivial), .inr (.inr trivial), .inr (.inr trivial), .inr (.inr (by repeat first | exact trivial | refine And.intro ?_ ?_ | exact rfl | ((intro a_ b_; first | exact getD_no rfl | exact rowC0_no rfl _ _ | exact rowS_no rfl rfl _ _ | exact insF_no (rowC0_no rfl) (fun _ _ => getD_no rfl) _ _ _ | ((try dsimp only); (repeat' split) <;> first | rfl | exact rowC0_no rfl _ _ | exact getD_no rfl | exact insF_no (rowC0_no rfl) (fun _ _ => getD_no rfl) _ _ _))))), .inr (.inr trivial), .inr (.inr trivial), .inr (.inr trivial), .inr (.inr trivial), .inl rfl, .inr (.inr (by repeat first | exact trivial | refine And.intro ?_ ?_ | exact rfl | ((intro a_ b_; first | exact getD_no rfl | exact rowC0_no rfl _ _ | exact rowS_no rfl rfl _ _ | exact insF_no (rowC0_no rfl) (fun _ _ => getD_no rfl) _ _ _ | ((try dsimp only); (repeat' split) <;> first | rfl | exact rowC0_no rfl _ _ | exact getD_no rfl | exact insF_no (rowC0_no rfl) (fun _ _ => getD_no rfl) _ _ _))))), .inr (.inr (by repeat first | exact trivial | refine And.intro ?_ ?_ | exact rfl | ((intro a_ b_; first | exact getD_no rfl | exact rowC0_no rfl _ _ | exact rowS_no rfl rfl _ _ | exact insF_no (rowC0_no rfl) (fun _ _ => getD_no rfl) _ _ _ | ((try dsimp only); (repeat' split) <;> first | rfl | exact rowC0_no rfl _ _ | exact getD_no rfl | exact insF_no (rowC0_no rfl) (fun _ _ => getD_no rfl) _ _ _))))), .inr (.inr trivial), .inr (.inr trivial), .inr (.inr trivial), trivial⟩, ⟨.inr (.inr trivial), .inr (.inr trivial), .inr (.inr trivial), .inr (.inr trivial), .inr (.inr (by repeat first | exact trivial | refine And.intro ?_ ?_ | exact rfl | ((intro a_ b_; first | exact getD_no rfl | exact rowC0_no rfl _ _ | exact rowS_no rfl rfl _ _ | exact insF_no (rowC0_no rfl) (fun _ _ => getD_no rfl) _ _ _ | ((try dsimp only); (repeat' split) <;> first | rfl | exact rowC0_no rfl _ _ | exact getD_no rfl | exact insF_no (rowC0_no rfl) (fun _ _ => getD_no rfl) _ _ _))))), .inr (.inr trivial), .inr (.inr trivial), .inr (.inr trivial), .inr (.inr trivial), .inr (.inr trivial), .inl rfl, .inr (.inr (by repeat first | exact trivial | refine And.intro ?_ ?_ | exact rfl | ((intro a_ b_; first | exact getD_no rfl | exact rowC0_no rfl _ _ | exact rowS_no rfl rfl _ _ | exact insF_no (rowC0_no rfl) (fun _ _ => getD_no rfl) _ _ _ | ((try dsimp only); (repeat' split) <;> first | rfl | exact rowC0_no rfl _ _ | exact getD_no rfl | exact insF_no (rowC0_no rfl) (fun _ _ => getD_no rfl) _ _ _))))), .inr (.inr trivial), .inr (.inr trivial), .inr (.inr trivial), trivial⟩, ⟨.inr (.inr trivial), .inr (.inr trivial), .inr (.inr trivial), .inr (.inr trivial), .inr (.inl (by kernel_rfl)), .inr (.inr trivial), .inr (.inr trivial), .inr (.inr trivial), .inr (.inr trivial), .inr (.inr trivial), .inr (.inl (by kernel_rfl)), .inl rfl, .inr (.inr trivial), .inr (.inr trivial), .inr (.inr trivial), trivial⟩, ⟨.inr (.inr trivial), .inr (.inr trivial), .inr (.inr trivial), .inr (.inr trivial), .inr (.inl (by kernel_rfl)), .inr (.inr trivial), .inr (.inr trivial), .inr (.inr trivial), .inr (.inr trivial), .inr (.inr trivial), .inr (.inl (by kernel_rfl)), .inr (.inl (by kernel_rfl)), .inl rfl, .inr (.inr trivial), .inr (.inr trivial), trivial⟩, ⟨.inr (.inr trivial), .inr (.inr trivial), .inr (.inr trivial), .inr (.inr trivial), .inr (.inl (by kernel_rfl)), .inr (.inr trivial), .inr (.inr trivial), .inr (.inr trivial), .inr (.inr trivial), .inr (.inr trivial), .inr (.inl (by kernel_rfl)), .inr (.inl (by kernel_rfl)), .inr (.inr trivial), .inl rfl, .inr (.inr trivial), trivial⟩, ⟨.inr (.inr trivial), .inr (.inr trivial), .inr (.inr trivial), .inr (.inr trivial), .inr (.inl (by kernel_rfl)), .inr (.inr trivial), .inr (.inr trivial), .inr (.inr trivial), .inr (.inr trivial), .inr (.inr trivial), .inr (.inl (by kernel_rfl)), .inr (.inl (by kernel_rfl)), .inr (.inr trivial), .inr (.inr trivial), .inl rfl, trivial⟩, trivial⟩ ⟨trivial, trivial, trivial, trivial, ⟨(by repeat first | exact trivial | refine ⟨by decide, by first | rfl | exact trivial | (intro a_ b_; first | exact getD_no rfl | exact rowC0_no rfl _ _ | exact rowS_no rfl rfl _ _ | exact insF_no (rowC0_no rfl) (fun _ _ => getD_no rfl) _ _ _ | ((try dsimp only); (repeat' split) <;> first | rfl | exact rowC0_no rfl _ _ | exact getD_no rfl | exact insF_no (rowC0_no rfl) (fun _ _ => getD_no rfl) _ _ _)), ?_⟩), (by repeat first | exact trivial | refine ⟨by decide, by first | rfl | exact trivial | (intro a_ b_; first | exact getD_no rfl | exact rowC0_no rfl _ _ | exact rowS_no rfl rfl _ _ | exact insF_no (rowC0_no rfl) (fun _ _ => getD_no rfl) _ _ _ | ((try dsimp only); (repeat' split) <;> first | rfl | exact rowC0_no rfl _ _ | exact getD_no rfl | exact insF_no (rowC0_no rfl) (fun _ _ => getD_no rfl) _ _ _)), ?_⟩), trivial⟩, trivial, trivial, trivial, trivial, trivial, ⟨(by repeat first | exact trivial | refine ⟨by decide, by first | rfl | exact trivial | (intro a_ b_; first | exact getD_no rfl | exact rowC0_no rfl _ _ | exact rowS_no rfl rfl _ _ | exact insF_no (rowC0_no rfl) (fun _ _ => getD_no rfl) _ _ _ | ((try dsimp only); (repeat' split) <;> first | rfl | exact rowC0_no rfl _ _ | exact getD_no rfl | exact insF_no (rowC0_no rfl) (fun _ _ => getD_no rfl) _ _ _)), ?_⟩), trivial⟩, ⟨(by repeat first | exact trivial | refine ⟨by decide, by first | rfl | exact trivial | (intro a_ b_; first | exact getD_no rfl | exact rowC0_no rfl _ _ | exact rowS_no rfl rfl _ _ | exact insF_no (rowC0_no rfl) (fun _ _ => getD_no rfl) _ _ _ | ((try dsimp only); (repeat' split) <;> first | rfl | exact rowC0_no rfl _ _ | exact getD_no rfl | exact insF_no (rowC0_no rfl) (fun _ _ => getD_no rfl) _ _ _)), ?_⟩), (by repeat first | exact trivial | refine ⟨by decide, by first | rfl | exact trivial | (intro a_ b_; first | exact getD_no rfl | exact rowC0_no rfl _ _ | exact rowS_no rfl rfl _ _ | exact insF_no (rowC0_no rfl) (fun _ _ => getD_no rfl) _ _ _ | ((try dsimp only); (repeat' split) <;> first | rfl | exact rowC0_no rfl _ _ | exact getD_no rfl | exact insF_no (rowC0_no rfl) (fun _ _ => getD_no rfl) _ _ _)), ?_⟩), trivial⟩, trivial, trivial, trivial, trivial⟩ ?_
          refine ADX.pure [] (PureOp.move rfl (.tmp rfl)) rfl rfl (Nat.le_of_ble_eq_true rfl) trivial rfl ?_
          refine ADX.pure [] (PureOp.move rfl (.tmp rfl)) rfl rfl (Nat.le_of_ble_eq_true rfl) trivial rfl ?_
          refine ADX.pure [] (PureOp.nilPtr rfl (.tmp rfl)) rfl rfl (Nat.le_of_ble_eq_true rfl) trivial rfl ?_
          refine ADX.pure [] (PureOp.fieldPtr rfl (.tmp rfl) vhi_fi_49_1_1) rfl rfl (Nat.le_of_ble_eq_true rfl) trivial rfl ?_
          refine ADX.eff (tk := [2, 8, 500, 501]) (new := [8, 501]) (s := .one (.own 8 2 (((imRows s k).getD ((imRows s k).length - 1) (default : GRow)).samples.length))) (F := [(92, .one (.own 8 2 (((imRows s k).getD ((imRows s k).length - 1) (default : GRow)).samples.length))), (92, .one (.tre 500 ((imRows s k).length - 1)))]) (Hin := [(2, .arr 2 ((imRows s k).length) (rowC0 (⟨imRows s k, x1.1⟩ : GHead) 500)), (500, .trees ((imRows s k).length) (rowX0 (⟨imRows s k, x1.1⟩ : GHead)))]) (Hout := [(2, .arr 2 ((imRows s k).length) (rowS (⟨imRows s k, x1.1⟩ : GHead) ((imRows s k).length - 1))), (8, .arr 2 (((imRows s k).getD ((imRows s k).length - 1) (default : GRow)).samples.length) (fun a b => ceSample (((imRows s k).getD ((imRows s k).length - 1) (default : GRow)).samples.getD a (default : GSample)) b)), (501, .trees ((imRows s k).length - 1) (imY (imRows s k) (readV (bs ((Rd.cutL 10 s.data.toList).getD (k + 1) []))).1))]) (fun E X hE hX Q rest hk => ?_) ⟨rfl, rfl, trivial⟩ ⟨rfl, rfl⟩ rfl rfl rfl rfl ⟨(by repeat first | exact trivial | refine ⟨by decide, by first | rfl | exact trivial | (intro a_ b_; first | exact getD_no rfl | exact rowC0_no rfl _ _ | exact rowS_no rfl rfl _ _ | exact insF_no (rowC0_no rfl) (fun _ _ => getD_no rfl) _ _ _ | ((try dsimp only); (repeat' split) <;> first | rfl | exact rowC0_no rfl _ _ | exact getD_no rfl | exact insF_no (rowC0_no rfl) (fun _ _ => getD_no rfl) _ _ _)), ?_⟩), (by repeat first | exact trivial | refine ⟨by decide, by first | rfl | exact trivial | (intro a_ b_; first | exact getD_no rfl | exact rowC0_no rfl _ _ | exact rowS_no rfl rfl _ _ | exact insF_no (rowC0_no rfl) (fun _ _ => getD_no rfl) _ _ _ | ((try dsimp only); (repeat' split) <;> first | rfl | exact rowC0_no rfl _ _ | exact getD_no rfl | exact insF_no (rowC0_no rfl) (fun _ _ => getD_no rfl) _ _ _)), ?_⟩), trivial⟩ rfl (fun _ e => by cases e; exact Nat.le_of_ble_eq_true rfl) ?_
          · refine ARun.pure (PureOp.loadPtrE (y := .tre 500 ((imRows s k).length - 1)) rfl (.tmp rfl) vhi_pl_47 rfl rfl (by exact (show ((imRows s k).length - 1) < (imRows s k).length from by omega)) (Nat.le_of_ble_eq_true rfl) rfl) rfl rfl (Nat.le_of_ble_eq_true rfl) ?_
            refine ARun.takeOut 92 500 ((imRows s k).length - 1) (imRows s k).length 2 ((imRows s k).getD ((imRows s k).length - 1) (default : GRow)).samples.length 8 (rowX0 (⟨imRows s k, x1.1⟩ : GHead)) (fun a b => ceSample (((imRows s k).getD ((imRows s k).length - 1) (default : GRow)).samples.getD a (default : GSample)) b) rfl rfl (by omega) rfl rfl (fun i j hi hj => match j, hj with | 0, _ => rfl | 1, _ => rfl | _ + 2, h => absurd h (by omega)) (fun _ _ => getD_no rfl) (by repeat first | exact Fr.ext2 ⟨rfl, (by repeat first | exact trivial | refine ⟨by decide, by first | rfl | exact trivial | (intro a_ b_; first | exact getD_no rfl | exact rowC0_no rfl _ _ | exact rowS_no rfl rfl _ _ | exact insF_no (rowC0_no rfl) (fun _ _ => getD_no rfl) _ _ _ | ((try dsimp only); (repeat' split) <;> first | rfl | exact rowC0_no rfl _ _ | exact getD_no rfl | exact insF_no (rowC0_no rfl) (fun _ _ => getD_no rfl) _ _ _)), ?_⟩)⟩ hE hX rfl rfl | refine Fr.consE rfl ?_ | refine Fr.consH (by decide) (by first | rfl | exact trivial | (intro a_ b_; first | exact getD_no rfl | exact rowC0_no rfl _ _ | exact rowS_no rfl rfl _ _ | exact insF_no (rowC0_no rfl) (fun _ _ => getD_no rfl) _ _ _ | ((try dsimp only); (repeat' split) <;> first | rfl | exact rowC0_no rfl _ _ | exact getD_no rfl | exact insF_no (rowC0_no rfl) (fun _ _ => getD_no rfl) _ _ _))) ?_ | refine Fr.filt ?_) (fun vv => ?_)
            refine ARun.reindex 500 501 2 (imRows s k).length ((imRows s k).length - 1) 2 (imRows s k).length (skP ((imRows s k).length - 1)) (fun i => if i = ((imRows s k).length - 1) then .con vv else rowX0 (⟨imRows s k, x1.1⟩ : GHead) i) (rowC0 (⟨imRows s k, x1.1⟩ : GHead) 500) (rowS (⟨imRows s k, x1.1⟩ : GHead) ((imRows s k).length - 1)) rfl rfl (skP_lt (show ((imRows s k).length - 1) < (imRows s k).length from by omega)) skP_inj (row_skip (h := (⟨imRows s k, x1.1⟩ : GHead)) (k := ((imRows s k).length - 1)) (show ((imRows s k).length - 1) < (imRows s k).length from by omega)) (by repeat first | exact Fr.ext2 ⟨rfl, (by repeat first | exact trivial | refine ⟨by decide, by first | rfl | exact trivial | (intro a_ b_; first | exact getD_no rfl | exact rowC0_no rfl _ _ | exact rowS_no rfl rfl _ _ | exact insF_no (rowC0_no rfl) (fun _ _ => getD_no rfl) _ _ _ | ((try dsimp only); (repeat' split) <;> first | rfl | exact rowC0_no rfl _ _ | exact getD_no rfl | exact insF_no (rowC0_no rfl) (fun _ _ => getD_no rfl) _ _ _)), ?_⟩)⟩ hE hX rfl rfl | refine Fr.consE rfl ?_ | refine Fr.consH (by decide) (by first | rfl | exact trivial | (intro a_ b_; first | exact getD_no rfl | exact rowC0_no rfl _ _ | exact rowS_no rfl rfl _ _ | exact insF_no (rowC0_no rfl) (fun _ _ => getD_no rfl) _ _ _ | ((try dsimp only); (repeat' split) <;> first | rfl | exact rowC0_no rfl _ _ | exact getD_no rfl | exact insF_no (rowC0_no rfl) (fun _ _ => getD_no rfl) _ _ _))) ?_ | refine Fr.filt ?_) ?_
            refine ARun.hleX ?_ ?_ hk
            · exact ⟨HLe.refl rfl, HLe.refl rfl, ⟨_, rfl, fun q hq => imY_hole hq⟩, trivial⟩
            · repeat (first | exact LkX.refl | refine LkX.cons (hX.none rfl) ?_ | refine LkX.filter (hX.none rfl) ?_)
          refine ADX.pure [] (PureOp.fieldPtr rfl (.tmp rfl) vhi_fi_36_1_1) rfl rfl (Nat.le_of_ble_eq_true rfl) trivial rfl ?_
          refine ADX.pure [(3, .cells [.str ((readV (bs ((Rd.cutL 10 s.data.toList).getD (k + 1) []))).1.name), .int .i64 ((readV (bs ((Rd.cutL 10 s.data.toList).getD (k + 1) []))).1.at_), .int .i64 ((readV (bs ((Rd.cutL 10 s.data.toList).getD (k + 1) []))).1.value)])] (PureOp.loadPtr rfl (.tmp rfl) vhi_pl_3 rfl rfl (Nat.le_of_ble_eq_true rfl) (Nat.le_of_ble_eq_true rfl)) rfl rfl (Nat.le_of_ble_eq_true rfl) ⟨rfl, trivial⟩ rfl ?_
          refine ADX.pure [] (PureOp.fieldPtr rfl (.tmp rfl) vhi_fi_36_2_2) rfl rfl (Nat.le_of_ble_eq_true rfl) trivial rfl ?_
          refine ADX.pure [(3, .cells [.str ((readV (bs ((Rd.cutL 10 s.data.toList).getD (k + 1) []))).1.name), .int .i64 ((readV (bs ((Rd.cutL 10 s.data.toList).getD (k + 1) []))).1.at_), .int .i64 ((readV (bs ((Rd.cutL 10 s.data.toList).getD (k + 1) []))).1.value)])] (PureOp.loadPtr rfl (.tmp rfl) vhi_pl_3 rfl rfl (Nat.le_of_ble_eq_true rfl) (Nat.le_of_ble_eq_true rfl)) rfl rfl (Nat.le_of_ble_eq_true rfl) ⟨rfl, trivial⟩ rfl ?_
          refine ADX.pure [] (PureOp.build (ys := [.int .i64 ((readV (bs ((Rd.cutL 10 s.data.toList).getD (k + 1) []))).1.at_), .int .i64 ((readV (bs ((Rd.cutL 10 s.data.toList).getD (k + 1) []))).1.value)]) (l := [.int .i64 0, .int .i64 0]) (pl := [(0, 1), (1, 1)]) (z := (.agg #[.int .i64 0, .int .i64 0])) rfl (by kernel_rfl) (by kernel_rfl) (fun _ _ _ => ⟨_, _, rfl, rfl, ⟨_, _, rfl, rfl, rfl⟩⟩) ⟨(.tmp rfl), trivial, rfl, ⟨(.tmp rfl), trivial, rfl, trivial⟩⟩ rfl) rfl rfl (Nat.le_of_ble_eq_true rfl) trivial rfl ?_
          refine ADX.eff (tk := [9]) (new := [9]) (s := .one (.own 9 2 1)) (F := [(98, .one (.own 9 2 1))]) (Hin := []) (Hout := [(9, .arr 2 1 (fun _ jc => ([.int .i64 ((readV (bs ((Rd.cutL 10 s.data.toList).getD (k + 1) []))).1.at_), .int .i64 ((readV (bs ((Rd.cutL 10 s.data.toList).getD (k + 1) []))).1.value)] : List AV).getD jc (.con undef)))]) (fun E X hE hX Q rest hk => ?_) trivial ⟨rfl, rfl⟩ rfl rfl rfl rfl ⟨(by repeat first | exact trivial | refine ⟨by decide, by first | rfl | exact trivial | (intro a_ b_; first | exact getD_no rfl | exact rowC0_no rfl _ _ | exact rowS_no rfl rfl _ _ | exact insF_no (rowC0_no rfl) (fun _ _ => getD_no rfl) _ _ _ | ((try dsimp only); (repeat' split) <;> first | rfl | exact rowC0_no rfl _ _ | exact getD_no rfl | exact insF_no (rowC0_no rfl) (fun _ _ => getD_no rfl) _ _ _)), ?_⟩), trivial⟩ rfl (fun _ e => by cases e; exact Nat.le_of_ble_eq_true rfl) ?_
          · refine ARun.slice1 (id := 9) (z := (.agg #[.int .i64 0, .int .i64 0])) (by_ := 16) rfl (.tmp rfl) (SV.cells_of (by exact ⟨trivial, trivial, trivial⟩)) (by kernel_rfl) rfl rfl (by decide) (by decide) (Fr.ext2 ⟨rfl, (by repeat first | exact trivial | refine ⟨by decide, by first | rfl | exact trivial | (intro a_ b_; first | exact getD_no rfl | exact rowC0_no rfl _ _ | exact rowS_no rfl rfl _ _ | exact insF_no (rowC0_no rfl) (fun _ _ => getD_no rfl) _ _ _ | ((try dsimp only); (repeat' split) <;> first | rfl | exact rowC0_no rfl _ _ | exact getD_no rfl | exact insF_no (rowC0_no rfl) (fun _ _ => getD_no rfl) _ _ _)), ?_⟩)⟩ hE hX rfl rfl) rfl rfl rfl (Nat.le_of_ble_eq_true rfl) ?_
            refine ARun.hleX ?_ ?_ hk
            · exact HeapLe.one rfl trivial
            · repeat (first | exact LkX.refl | refine LkX.cons (hX.none rfl) ?_ | refine LkX.filter (hX.none rfl) ?_)
          refine ADX.eff (tk := [2, 8, 9, 10, 78, 501]) (new := [10, 78]) (s := .one (.tre 78 ((imRows s k).length - 1))) (F := [(99, .one (.tre 78 ((imRows s k).length - 1))), (99, .one (.tre 501 ((imRows s k).length - 1))), (99, .one (.own 10 2 (((imRows s k).getD ((imRows s k).length - 1) (default : GRow)).samples.length + 1)))]) (Hin := [(2, .arr 2 ((imRows s k).length) (rowS (⟨imRows s k, x1.1⟩ : GHead) ((imRows s k).length - 1))), (8, .arr 2 (((imRows s k).getD ((imRows s k).length - 1) (default : GRow)).samples.length) (fun a b => ceSample (((imRows s k).getD ((imRows s k).length - 1) (default : GRow)).samples.getD a (default : GSample)) b)), (9, .arr 2 1 (fun _ jc => ([.int .i64 ((readV (bs ((Rd.cutL 10 s.data.toList).getD (k + 1) []))).1.at_), .int .i64 ((readV (bs ((Rd.cutL 10 s.data.toList).getD (k + 1) []))).1.value)] : List AV).getD jc (.con undef))), (501, .trees ((imRows s k).length - 1) (imY (imRows s k) (readV (bs ((Rd.cutL 10 s.data.toList).getD (k + 1) []))).1))]) (Hout := [(2, .arr 2 ((imRows s k).length) (fun a b => if a = ((imRows s k).length - 1) ∧ b = 1 then .tre 500 ((imRows s k).length - 1) else rowC0 (⟨imRows s k, x1.1⟩ : GHead) 78 a b)), (9, .arr 2 1 (fun _ jc => ([.int .i64 ((readV (bs ((Rd.cutL 10 s.data.toList).getD (k + 1) []))).1.at_), .int .i64 ((readV (bs ((Rd.cutL 10 s.data.toList).getD (k + 1) []))).1.value)] : List AV).getD jc (.con undef))), (78, .trees ((imRows s k).length) (fun q => imY (imRows s k) (readV (bs ((Rd.cutL 10 s.data.toList).getD (k + 1) []))).1 (pmI ((imRows s k).length - 1) ((imRows s k).length - 1) q)))]) (fun E X hE hX Q rest hk => ?_) ⟨rfl, rfl, rfl, rfl, trivial⟩ ⟨rfl, rfl⟩ rfl rfl rfl rfl ⟨(by repeat first | exact trivial | refine ⟨by decide, by first | rfl | exact trivial | (intro a_ b_; first | exact getD_no rfl | exact rowC0_no rfl _ _ | exact rowS_no rfl rfl _ _ | exact insF_no (rowC0_no rfl) (fun _ _ => getD_no rfl) _ _ _ | ((try dsimp only); (repeat' split) <;> first | rfl | exact rowC0_no rfl _ _ | exact getD_no rfl | exact insF_no (rowC0_no rfl) (fun _ _ => getD_no rfl) _ _ _)), ?_⟩), (by repeat first | exact trivial | refine ⟨by decide, by first | rfl | exact trivial | (intro a_ b_; first | exact getD_no rfl | exact rowC0_no rfl _ _ | exact rowS_no rfl rfl _ _ | exact insF_no (rowC0_no rfl) (fun _ _ => getD_no rfl) _ _ _ | ((try dsimp only); (repeat' split) <;> first | rfl | exact rowC0_no rfl _ _ | exact getD_no rfl | exact insF_no (rowC0_no rfl) (fun _ _ => getD_no rfl) _ _ _)), ?_⟩), trivial⟩ rfl (fun _ e => by cases e; exact Nat.le_of_ble_eq_true rfl) ?_
          · refine ARun.append (id := 10) (sz := 2) (n := ((imRows s k).getD ((imRows s k).length - 1) (default : GRow)).samples.length) (m := 1) (by_ := 16) (z := (.agg #[.int .i64 0, .int .i64 0])) (f := fun a b => ceSample (((imRows s k).getD ((imRows s k).length - 1) (default : GRow)).samples.getD a (default : GSample)) b) (g := fun _ jc => ([.int .i64 ((readV (bs ((Rd.cutL 10 s.data.toList).getD (k + 1) []))).1.at_), .int .i64 ((readV (bs ((Rd.cutL 10 s.data.toList).getD (k + 1) []))).1.value)] : List AV).getD jc (.con undef)) (h := fun ia ja => if ia < ((imRows s k).getD ((imRows s k).length - 1) (default : GRow)).samples.length then (fun a b => ceSample (((imRows s k).getD ((imRows s k).length - 1) (default : GRow)).samples.getD a (default : GSample)) b : Nat → Nat → AV) ia ja else (fun _ jc => ([.int .i64 ((readV (bs ((Rd.cutL 10 s.data.toList).getD (k + 1) []))).1.at_), .int .i64 ((readV (bs ((Rd.cutL 10 s.data.toList).getD (k + 1) []))).1.value)] : List AV).getD jc (.con undef) : Nat → Nat → AV) (ia - ((imRows s k).getD ((imRows s k).length - 1) (default : GRow)).samples.length) ja) rfl (by kernel_rfl) rfl vhi_sl_47 (.own (.tmp rfl) rfl rfl rfl (Nat.le_refl _) (fun _ _ _ _ => rfl)) (.own (.tmp rfl) rfl rfl (Nat.le_refl _) (fun _ _ _ _ => rfl)) (by decide) (fun i j hi hj => match j, hj with | 0, _ => rfl | 1, _ => rfl | _ + 2, h => absurd h (by omega)) (fun _ _ _ _ => rfl) (by omega) (by omega) (by repeat first | exact Fr.ext2 ⟨rfl, (by repeat first | exact trivial | refine ⟨by decide, by first | rfl | exact trivial | (intro a_ b_; first | exact getD_no rfl | exact rowC0_no rfl _ _ | exact rowS_no rfl rfl _ _ | exact insF_no (rowC0_no rfl) (fun _ _ => getD_no rfl) _ _ _ | ((try dsimp only); (repeat' split) <;> first | rfl | exact rowC0_no rfl _ _ | exact getD_no rfl | exact insF_no (rowC0_no rfl) (fun _ _ => getD_no rfl) _ _ _)), ?_⟩)⟩ hE hX rfl rfl | refine Fr.consE rfl ?_ | refine Fr.consH (by decide) (by first | rfl | exact trivial | (intro a_ b_; first | exact getD_no rfl | exact rowC0_no rfl _ _ | exact rowS_no rfl rfl _ _ | exact insF_no (rowC0_no rfl) (fun _ _ => getD_no rfl) _ _ _ | ((try dsimp only); (repeat' split) <;> first | rfl | exact rowC0_no rfl _ _ | exact getD_no rfl | exact insF_no (rowC0_no rfl) (fun _ _ => getD_no rfl) _ _ _))) ?_ | refine Fr.filt ?_) (fun a_ b_ => by (try dsimp only); (repeat' split) <;> first | rfl | exact rowC0_no rfl _ _ | exact getD_no rfl) rfl rfl (Nat.le_of_ble_eq_true rfl) ?_
            refine ARun.closeRow 99 10 501 ((imRows s k).length - 1) 2 (((imRows s k).getD ((imRows s k).length - 1) (default : GRow)).samples.length + 1) (m' := ((imRows s k).getD ((imRows s k).length - 1) (default : GRow)).samples.length + 1) (X := imY (imRows s k) (readV (bs ((Rd.cutL 10 s.data.toList).getD (k + 1) []))).1) (g := fun a b => ceSample ((((imRows s k).getD ((imRows s k).length - 1) (default : GRow)).samples ++ ([⟨(readV (bs ((Rd.cutL 10 s.data.toList).getD (k + 1) []))).1.at_, (readV (bs ((Rd.cutL 10 s.data.toList).getD (k + 1) []))).1.value⟩] : List GSample)).getD a (default : GSample)) b) rfl rfl rfl rfl (Nat.le_refl _) rfl rfl (imY_n _ _) rfl (fun i j hi hj => (show (if i < ((imRows s k).getD ((imRows s k).length - 1) (default : GRow)).samples.length then _ else _) = _ from im_cell hi hj)) (fun i j hi hj => match j, hj with | 0, _ => rfl | 1, _ => rfl | _ + 2, h => absurd h (by omega)) ?_
            refine ARun.reindexS 99 501 78 2 ((imRows s k).length - 1 + 1) (imRows s k).length 2 (imRows s k).length ((imRows s k).length - 1) (pmI ((imRows s k).length - 1) ((imRows s k).length - 1)) (imY (imRows s k) (readV (bs ((Rd.cutL 10 s.data.toList).getD (k + 1) []))).1) (rowS (⟨imRows s k, x1.1⟩ : GHead) ((imRows s k).length - 1)) (fun a b => if a = ((imRows s k).length - 1) ∧ b = 1 then .tre 500 ((imRows s k).length - 1) else rowC0 (⟨imRows s k, x1.1⟩ : GHead) 78 a b) (by rw [pmI_self]; rfl) (by omega) rfl rfl (pmI_lt' (by omega)) (pmI_inj' (show ((imRows s k).length - 1) < (imRows s k).length from by omega)) (row_back (h := (⟨imRows s k, x1.1⟩ : GHead)) (k := ((imRows s k).length - 1))) (by repeat first | exact Fr.ext2 ⟨rfl, (by repeat first | exact trivial | refine ⟨by decide, by first | rfl | exact trivial | (intro a_ b_; first | exact getD_no rfl | exact rowC0_no rfl _ _ | exact rowS_no rfl rfl _ _ | exact insF_no (rowC0_no rfl) (fun _ _ => getD_no rfl) _ _ _ | ((try dsimp only); (repeat' split) <;> first | rfl | exact rowC0_no rfl _ _ | exact getD_no rfl | exact insF_no (rowC0_no rfl) (fun _ _ => getD_no rfl) _ _ _)), ?_⟩)⟩ hE hX rfl rfl | refine Fr.consE rfl ?_ | refine Fr.consH (by decide) (by first | rfl | exact trivial | (intro a_ b_; first | exact getD_no rfl | exact rowC0_no rfl _ _ | exact rowS_no rfl rfl _ _ | exact insF_no (rowC0_no rfl) (fun _ _ => getD_no rfl) _ _ _ | ((try dsimp only); (repeat' split) <;> first | rfl | exact rowC0_no rfl _ _ | exact getD_no rfl | exact insF_no (rowC0_no rfl) (fun _ _ => getD_no rfl) _ _ _))) ?_ | refine Fr.filt ?_) ?_
            refine ARun.hleX ?_ ?_ hk
            · exact HeapLe.one rfl (HeapLe.one rfl (HeapLe.one rfl trivial))
            · repeat (first | exact LkX.refl | refine LkX.cons (hX.none rfl) ?_ | refine LkX.filter (hX.none rfl) ?_)
          refine ADX.pure [] (PureOp.nilPtr rfl (.tmp rfl)) rfl rfl (Nat.le_of_ble_eq_true rfl) trivial rfl ?_
          refine ADX.pure [] (PureOp.fieldPtr rfl (.tmp rfl) vhi_fi_49_1_1) rfl rfl (Nat.le_of_ble_eq_true rfl) trivial rfl ?_
          refine ADX.eff (tk := [2]) (new := []) (s := .one (.con undef)) (F := []) (Hin := [(2, .arr 2 ((imRows s k).length) (fun a b => if a = ((imRows s k).length - 1) ∧ b = 1 then .tre 500 ((imRows s k).length - 1) else rowC0 (⟨imRows s k, x1.1⟩ : GHead) 78 a b))]) (Hout := [(2, .arr 2 ((imRows s k).length) (fun a b => if a = ((imRows s k).length - 1) ∧ b = 1 then .tre 78 ((imRows s k).length - 1) else (fun a b => if a = ((imRows s k).length - 1) ∧ b = 1 then .tre 500 ((imRows s k).length - 1) else rowC0 (⟨imRows s k, x1.1⟩ : GHead) 78 a b : Nat → Nat → AV) a b))]) (fun E X hE hX Q rest hk => ?_) ⟨rfl, trivial⟩ ⟨rfl, rfl⟩ rfl rfl rfl rfl trivial rfl (fun _ e => by cases e) ?_
          · refine ARun.storeArr rfl (.tmp rfl) (.tmp rfl) trivial rfl (by exact (show ((imRows s k).length - 1) < (imRows s k).length from by omega)) (Nat.le_of_ble_eq_true rfl) vhi_sz_47_1 rfl rfl ?_
            refine ARun.hleX ?_ ?_ hk
            · exact HeapLe.one rfl trivial
            · repeat (first | exact LkX.refl | refine LkX.cons (hX.none rfl) ?_ | refine LkX.filter (hX.none rfl) ?_)
          refine ADX.nil (H := [(0, .cells [.con (.slice none 0 0), .int .i64 0]), (1, .cells [.own 2 2 ((imRows s k).length), .int .i64 x1.1]), (2, .arr 2 ((imRows s k).length) (fun a b => if a = ((imRows s k).length - 1) ∧ b = 1 then .tre 78 ((imRows s k).length - 1) else (fun a b => if a = ((imRows s k).length - 1) ∧ b = 1 then .tre 500 ((imRows s k).length - 1) else rowC0 (⟨imRows s k, x1.1⟩ : GHead) 78 a b : Nat → Nat → AV) a b)), (3, .cells [.str ((readV (bs ((Rd.cutL 10 s.data.toList).getD (k + 1) []))).1.name), .int .i64 ((readV (bs ((Rd.cutL 10 s.data.toList).getD (k + 1) []))).1.at_), .int .i64 ((readV (bs ((Rd.cutL 10 s.data.toList).getD (k + 1) []))).1.value)]), (9, .arr 2 1 (fun _ jc => ([.int .i64 ((readV (bs ((Rd.cutL 10 s.data.toList).getD (k + 1) []))).1.at_), .int .i64 ((readV (bs ((Rd.cutL 10 s.data.toList).getD (k + 1) []))).1.value)] : List AV).getD jc (.con undef))), (78, .trees ((imRows s k).length) (fun q => imY (imRows s k) (readV (bs ((Rd.cutL 10 s.data.toList).getD (k + 1) []))).1 (pmI ((imRows s k).length - 1) ((imRows s k).length - 1) q)))]) ?_ ?_
          · exact HeapLe.one rfl (HeapLe.one rfl (HeapLe.one rfl (HeapLe.one rfl (HeapLe.one rfl (HeapLe.one rfl trivial)))))
          refine AW.region ?_
          refine ARun.pure (PureOp.add (c := ((k + 1 : Nat) : Int)) rfl (.tmp rfl) .int (by rw [wrap_id (by omega) (by omega)]; omega)) rfl rfl (Nat.le_of_ble_eq_true rfl) ?_
          refine ARun.pure (PureOp.move rfl (.tmp rfl)) rfl rfl (Nat.le_of_ble_eq_true rfl) ?_
          refine ARun.nil ?_
          exact ⟨k + 1, (swp 500 78), (show k + 1 ≤ (Rd.cutL 10 s.data.toList).length - 2 from by omega), by dsimp only; omega, swp_inj, (swp_fix rfl rfl), ⟨⟨⟨_, rfl, rfl⟩, ⟨_, rfl, rfl⟩, ⟨_, rfl, rfl⟩, ⟨_, rfl, rfl⟩, ⟨_, rfl, rfl⟩, ⟨_, rfl, rfl⟩, trivial⟩, ⟨⟨_, rfl, rfl, Nat.le_refl _, fun _ _ _ _ => rfl⟩, ⟨_, rfl, rfl, Nat.le_refl _, fun i j _ _ => by rw [hc]; rfl⟩, ⟨_, rfl, rfl, Nat.le_of_eq hc, fun i j hi hj => (im_rowS (r := ⟨((imRows s k).getD ((imRows s k).length - 1) (default : GRow)).name, ((imRows s k).getD ((imRows s k).length - 1) (default : GRow)).samples ++ [⟨(readV (bs ((Rd.cutL 10 s.data.toList).getD (k + 1) []))).1.at_, (readV (bs ((Rd.cutL 10 s.data.toList).getD (k + 1) []))).1.value⟩]⟩) (z := x1.1) h0 rfl (Nat.lt_of_lt_of_eq hi hc) hj).trans ((congrArg (fun r => rowC0 ⟨r, x1.1⟩ 78 i j) hnx.symm).trans (rowC0_ren (h := (⟨imRows s (k + 1), x1.1⟩ : GHead)) (K := 500) (K' := 78) (q := swp 500 78) rfl i j))⟩, ⟨_, by rw [hc]; rfl, fun q hq => (im_famS (z := x1.1) h0 (Nat.lt_of_lt_of_eq hq hc)).trans (congrArg (fun r => rowX0 ⟨r, x1.1⟩ q) hnx.symm)⟩, trivial⟩⟩⟩
    · have _u := True.intro
      replace hb13 := of_decide_eq_false hb13
      have hke : k = (Rd.cutL 10 s.data.toList).length - 2 := by omega
      refine AW.exit ?_
      refine AW.seq ?_
      refine AW.seq ?_
      refine AW.region ?_
      refine ARun.pure (PureOp.loadPtrAgg rfl (.tmp rfl) vhi_ag_24_2 rfl rfl (Nat.le_of_ble_eq_true rfl) (Nat.le_of_ble_eq_true rfl)) rfl rfl (Nat.le_of_ble_eq_true rfl) ?_
      refine ARun.pure (PureOp.call rfl (v_isHead (⟨imRows s k, x1.1⟩ : GHead)) ⟨⟨_, (.tmp rfl), ⟨(.own rfl rfl (Nat.le_refl _) (fun i j hi hj => (match j, hj with | 0, _ => .str | 1, _ => (Vw.cast (Vw.tre rfl hi) rfl) | _ + 2, h => absurd h (by omega)))), .int, trivial⟩⟩, trivial⟩ vhi_ca_27 trivial) rfl rfl (Nat.le_of_ble_eq_true rfl) ?_
      refine ARun.pure (PureOp.not rfl (.tmp rfl)) rfl rfl (Nat.le_of_ble_eq_true rfl) ?_
      refine ARun.pure (PureOp.move rfl (.tmp rfl)) rfl rfl (Nat.le_of_ble_eq_true rfl) ?_
      refine ARun.gpure (want := false) (.tf rfl) (fun hg28 => PureOp.loadPtrAgg rfl (.tmp rfl) vhi_ag_24_2 rfl rfl (Nat.le_of_ble_eq_true rfl) (Nat.le_of_ble_eq_true rfl)) rfl rfl (Nat.le_of_ble_eq_true rfl) rfl (Nat.le_of_ble_eq_true rfl) ?_
      refine ARun.gpure (s := .one (.str (headT (⟨imRows s k, x1.1⟩ : GHead)))) (want := false) (.tf rfl) (fun hg29 => ?_) rfl rfl (Nat.le_of_ble_eq_true rfl) rfl (Nat.le_of_ble_eq_true rfl) ?_
      · have hgd : goodHead (⟨imRows s k, x1.1⟩ : GHead) = true := by have q := hg29; revert q; cases goodHead (⟨imRows s k, x1.1⟩ : GHead) <;> simp
        exact PureOp.call rfl (v_headText (⟨imRows s k, x1.1⟩ : GHead) (good_ok hgd)) ⟨⟨_, (.gtmp rfl hg29), ⟨(.own rfl rfl (Nat.le_refl _) (fun i j hi hj => (match j, hj with | 0, _ => .str | 1, _ => (Vw.cast (Vw.tre rfl hi) rfl) | _ + 2, h => absurd h (by omega)))), .int, trivial⟩⟩, trivial⟩ vhi_ca_28 (headT_plain (good_ok hgd))
      refine ARun.gpure (want := false) (.tf rfl) (fun hg30 => PureOp.move rfl (.tmp rfl)) rfl rfl (Nat.le_of_ble_eq_true rfl) rfl (Nat.le_of_ble_eq_true rfl) ?_
      refine ARun.gpure (want := false) (.tf rfl) (fun hg31 => PureOp.strOp rfl (.gtmp rfl hg31) (.gtmp rfl hg31) rfl) rfl rfl (Nat.le_of_ble_eq_true rfl) rfl (Nat.le_of_ble_eq_true rfl) ?_
      refine ARun.pure (PureOp.pick rfl (.tmp rfl) (fun _ => .bool) (fun hp33 => .gtmp rfl (not_of hp33))) rfl rfl (Nat.le_of_ble_eq_true rfl) ?_
      refine ARun.nil ?_
      refine AW.cond (.tmp rfl) (fun hb34 => ?_) (fun hb34 => ?_)
      · have _u := True.intro
        have hno : ∀ h, ¬ HeadOf s h := ih_no3 hz hke hb34
        refine AW.seq ?_
        refine AW.region ?_
        refine ARun.pure (PureOp.build (ys := []) (l := [.con (.slice none 0 0), .int .i64 0]) (pl := [(0, 1), (1, 1)]) (z := (.agg #[.slice none 0 0, .int .i64 0])) rfl (by kernel_rfl) (by kernel_rfl) (fun _ _ _ => ⟨_, _, rfl, rfl, ⟨_, _, rfl, rfl, rfl⟩⟩) trivial rfl) rfl rfl (Nat.le_of_ble_eq_true rfl) ?_
        refine ARun.store rfl (.tmp rfl) (.tmp rfl) (SV.cells_of (by exact ⟨⟨rfl, (fun _ e => by cases e), (fun _ e => by cases e)⟩, trivial, trivial⟩)) rfl (Nat.le_of_ble_eq_true rfl) vhi_sz_24_2 rfl rfl ?_
        refine ARun.pure (PureOp.assign rfl .bool) rfl rfl (Nat.le_of_ble_eq_true rfl) ?_
        refine ARun.nil ?_
        rw [headRV_no hno]
        exact AW.ret (show ∃ s t, ResL _ _ [.cell 2 24, .tmp 3] s ∧ TvS _ (ofLeaf t) 0 s _ from ⟨_, fun a b => 1000, .inr (.inl ⟨_, _, _, _, rfl, .cells rfl vhi_ag_24_2 rfl rfl (Nat.le_of_ble_eq_true rfl) (Nat.le_of_ble_eq_true rfl), .tmp rfl, rfl⟩), ⟨⟨.nil, .int, trivial⟩, .bool⟩⟩)
      · have _u := True.intro
        have hH := ih_yes3 hs hb34
        refine AW.skip ?_
        refine AW.seq ?_
        refine AW.region ?_
        refine ARun.pure (PureOp.loadPtrAgg rfl (.tmp rfl) vhi_ag_24_2 rfl rfl (Nat.le_of_ble_eq_true rfl) (Nat.le_of_ble_eq_true rfl)) rfl rfl (Nat.le_of_ble_eq_true rfl) ?_
        refine ARun.store rfl (.tmp rfl) (.tmp rfl) (SV.cells_of (by exact ⟨trivial, trivial, trivial⟩)) rfl (Nat.le_of_ble_eq_true rfl) vhi_sz_24_2 rfl rfl ?_
        refine ARun.pure (PureOp.assign rfl .bool) rfl rfl (Nat.le_of_ble_eq_true rfl) ?_
        refine ARun.nil ?_
        rw [headRV_yes hH]
        exact AW.ret (show ∃ s t, ResL _ _ [.cell 2 24, .tmp 3] s ∧ TvS _ (ofLeaf t) 0 s _ from ⟨_, fun a b => if a = 2 then 0 else if a = 500 then 0 else 1000, .inr (.inl ⟨_, _, _, _, rfl, .cells rfl vhi_ag_24_2 rfl rfl (Nat.le_of_ble_eq_true rfl) (Nat.le_of_ble_eq_true rfl), .tmp rfl, rfl⟩), ⟨⟨(Tv.colK (K := 500) (c := 1) (X := rowX0 (⟨imRows s k, x1.1⟩ : GHead)) rfl rfl rfl rfl (Nat.le_refl _) (by rfl) (fun i j hi hj hne => match j, hj, hne with | 0, _, _ => ⟨rfl, rfl⟩ | 1, _, h => absurd rfl h | _ + 2, h, _ => absurd h (by omega)) (fun i hi => ⟨rfl, rfl⟩) rfl (by decide) (fun _ => by rfl)), .int, trivial⟩, .bool⟩⟩)

theorem v_iReadHead (s : ByteArray) : FnT Tryd.prog 5 [.one (.str s)] (.tup2 (.agg [.lst 2 ((((headRV s).1).rows).length) (fun i0 j0 => ([.str (((((headRV s).1).rows).getD i0 (default : GRow)).name), .lst 2 ((((((headRV s).1).rows).getD i0 (default : GRow)).samples).length) (fun i1 j1 => ([.int .i64 (((((((headRV s).1).rows).getD i0 (default : GRow)).samples).getD i1 (default : GSample)).at_), .int .i64 (((((((headRV s).1).rows).getD i0 (default : GRow)).samples).getD i1 (default : GSample)).value)] : List AV).getD j1 (.con undef))] : List AV).getD j0 (.con undef)), .int .i64 (((headRV s).1).offset)]) (.one (.bool ((headRV s).2)))) := by
  refine FnT.of_body (fn := Tryd.f5) Tryd.func5 rfl (Nat.le_of_ble_eq_true rfl)  ?_
  intro w0
  show AW _ 12 _ _ _ _
  refine AW.seq ?_
  refine AW.region ?_
  refine ARun.alloc (id := 0) (l := [.con (.slice none 0 0), .int .i64 0]) (z := (.agg #[.slice none 0 0, .int .i64 0])) rfl (by kernel_rfl) (fun _ _ _ => ⟨_, _, rfl, rfl, ⟨_, _, rfl, rfl, rfl⟩⟩) ⟨rfl, (by repeat first | exact trivial | refine ⟨by decide, by first | rfl | exact trivial | (intro i j; first | rfl | exact getD_no rfl | (dsimp only; split <;> first | rfl | exact getD_no rfl) | exact scl_no (by apply_assumption) _), ?_⟩)⟩ rfl rfl rfl (Nat.le_of_ble_eq_true rfl) ?_
  refine ARun.pure (PureOp.assign rfl .bool) rfl rfl (Nat.le_of_ble_eq_true rfl) ?_
  refine ARun.nil ?_
  refine AW.seq ?_
  refine AW.seq ?_
  refine AW.region ?_
  refine ARun.pure (PureOp.move rfl (.tmp rfl)) rfl rfl (Nat.le_of_ble_eq_true rfl) ?_
  refine ARun.pure (PureOp.lenStr rfl (.tmp rfl) vhi_st_9) rfl rfl (Nat.le_of_ble_eq_true rfl) ?_
  refine ARun.pure (PureOp.intOp rfl (.tmp rfl) .int rfl) rfl rfl (Nat.le_of_ble_eq_true rfl) ?_
  refine ARun.nil ?_
  refine AW.cond (.tmp rfl) (fun hb1 => ?_) (fun hb1 => ?_)
  · have _u := True.intro
    replace hb1 := of_decide_eq_true hb1
    have hno : ∀ h, ¬ HeadOf s h := fun h H => by have := H.len; omega
    refine AW.seq ?_
    refine AW.region ?_
    refine ARun.pure (PureOp.build (ys := []) (l := [.con (.slice none 0 0), .int .i64 0]) (pl := [(0, 1), (1, 1)]) (z := (.agg #[.slice none 0 0, .int .i64 0])) rfl (by kernel_rfl) (by kernel_rfl) (fun _ _ _ => ⟨_, _, rfl, rfl, ⟨_, _, rfl, rfl, rfl⟩⟩) trivial rfl) rfl rfl (Nat.le_of_ble_eq_true rfl) ?_
    refine ARun.store rfl (.tmp rfl) (.tmp rfl) (SV.cells_of (by exact ⟨⟨rfl, (fun _ e => by cases e), (fun _ e => by cases e)⟩, trivial, trivial⟩)) rfl (Nat.le_of_ble_eq_true rfl) vhi_sz_24_2 rfl rfl ?_
    refine ARun.pure (PureOp.assign rfl .bool) rfl rfl (Nat.le_of_ble_eq_true rfl) ?_
    refine ARun.nil ?_
    rw [headRV_no hno]
    exact AW.ret (show ∃ s t, ResL _ _ [.cell 2 24, .tmp 3] s ∧ TvS _ (ofLeaf t) 0 s _ from ⟨_, fun a b => 1000, .inr (.inl ⟨_, _, _, _, rfl, .cells rfl vhi_ag_24_2 rfl rfl (Nat.le_of_ble_eq_true rfl) (Nat.le_of_ble_eq_true rfl), .tmp rfl, rfl⟩), ⟨⟨.nil, .int, trivial⟩, .bool⟩⟩)
  · have _u := True.intro
    replace hb1 := of_decide_eq_false hb1
    refine AW.skip ?_
    refine AW.seq ?_
    refine AW.region ?_
    refine ARun.pure (PureOp.move rfl (.tmp rfl)) rfl rfl (Nat.le_of_ble_eq_true rfl) ?_
    refine ARun.prod (K := 1) rfl (v_readHead s (by omega)) ⟨rfl, (by repeat first | exact trivial | refine ⟨by decide, by first | rfl | exact trivial | (intro i j; first | rfl | exact getD_no rfl | (dsimp only; split <;> first | rfl | exact getD_no rfl) | exact scl_no (by apply_assumption) _), ?_⟩)⟩ ⟨⟨_, (.tmp rfl), .str⟩, trivial⟩ vhi_ca_16 rfl rfl rfl rfl rfl (Nat.le_of_ble_eq_true rfl) ?_
    refine ARun.pure (PureOp.ext2a rfl (.tmp rfl)) rfl rfl (Nat.le_of_ble_eq_true rfl) ?_
    refine ARun.pure (PureOp.ext2b rfl (.tmp rfl)) rfl rfl (Nat.le_of_ble_eq_true rfl) ?_
    refine ARun.store rfl (.tmp rfl) (.tmp rfl) (SV.cells_of (by exact ⟨trivial, trivial, trivial⟩)) rfl (Nat.le_of_ble_eq_true rfl) vhi_sz_24_2 rfl rfl ?_
    refine ARun.pure (PureOp.assign rfl (.tmp rfl)) rfl rfl (Nat.le_of_ble_eq_true rfl) ?_
    refine ARun.nil ?_
    exact AW.ret (show ∃ s t, ResL _ _ [.cell 2 24, .tmp 3] s ∧ TvS _ (ofLeaf t) 0 s _ from ⟨_, fun a b => if a = 1 then 0 else 1000, .inr (.inl ⟨_, _, _, _, rfl, .cells rfl vhi_ag_24_2 rfl rfl (Nat.le_of_ble_eq_true rfl) (Nat.le_of_ble_eq_true rfl), .tmp rfl, rfl⟩), ⟨⟨(Tv.cast (Tv.tre rfl (Nat.le_of_ble_eq_true rfl) (by rfl)) rfl), .int, trivial⟩, .bool⟩⟩)
end Go.Proofs.YtonfeiloekofdaaDoor


/-
  What the reference's walk over a head's text needs.
-/
namespace Go.Proofs.YtonfeiloekofdaaDoor
open Go.ChangeShapes Go.WideShapes Go.ChangeAt Go.RowKit Go.BigFrame Go.Deep
set_option linter.unusedVariables false
set_option linter.unusedSimpArgs false

theorem cutL_snoc (c : UInt8) : ∀ l : List UInt8, Rd.cutL c (l ++ [c]) = Rd.cutL c l ++ [[]]
  | [] => by rw [List.nil_append, Rd.cutL_hit]; rfl
  | b :: l => by
    have ih := cutL_snoc c l
    by_cases hb : b = c
    · subst hb
      rw [List.cons_append, Rd.cutL_hit, Rd.cutL_hit, ih]; rfl
    · rw [List.cons_append, Rd.cutL_miss hb, Rd.cutL_miss hb, ih]
      have hne := Rd.cutL_ne c l
      match Rd.cutL c l, hne with
      | x :: r, _ => rfl
theorem last_ten {s : ByteArray} (h0 : 1 ≤ s.size) (h : byteAt s (s.size - 1) = 10) : s.data.toList = (s.extract 0 (s.size - 1)).data.toList ++ [10] := by
  have hlt : s.size - 1 < s.size := by omega
  have hsl := Lib.size_eq s
  have h3 : s.data.toList[s.size - 1]? = some (s.get (s.size - 1) hlt) := by rw [List.getElem?_eq_getElem (by rw [← hsl]; exact hlt)]; rfl
  have h4 : s.get (s.size - 1) hlt = 10 := by
    unfold byteAt at h
    rw [dif_pos hlt] at h
    apply UInt8.toNat_inj.1
    show _ = 10
    omega
  rw [h4] at h3
  have h5 : (s.extract 0 (s.size - 1)).data.toList = s.data.toList.take (s.size - 1) := by
    rw [Lib.extract_eq]
    show ((s.data.toList.drop 0).take (s.size - 1 - 0)) = _
    rw [List.drop_zero, Nat.sub_zero]
  rw [h5]
  conv => lhs; rw [← List.take_append_drop (s.size - 1) s.data.toList]
  congr 1
  have h6 := (List.getElem?_eq_some_iff.1 h3)
  obtain ⟨h7, h8⟩ := h6
  rw [List.drop_eq_getElem_cons h7, h8, List.drop_eq_nil_of_le (by omega)]
theorem but_last {s : ByteArray} (h0 : 1 ≤ s.size) (h : byteAt s (s.size - 1) = 10) : Rd.cutL 10 s.data.toList = Rd.cutL 10 (s.extract 0 (s.size - 1)).data.toList ++ [[]] := by
  conv => lhs; rw [last_ten h0 h]
  exact cutL_snoc 10 _
theorem but_len {s : ByteArray} (h0 : 1 ≤ s.size) (h : byteAt s (s.size - 1) = 10) : 2 ≤ (Rd.cutL 10 s.data.toList).length := by
  rw [but_last h0 h, List.length_append, List.length_singleton]
  have := (cutL_count 10 (s.extract 0 (s.size - 1)).data.toList).1
  omega
theorem v_l3SplitB (s : ByteArray) (hs : s.size ≤ 20000) (h0 : 1 ≤ s.size) (h : byteAt s (s.size - 1) = 10) : FnF Tryd.prog 10 [.one (.str (s.extract 0 (s.size - 1))), .one (.int .u8 10)] (.one (.lst 1 ((Rd.cutL 10 s.data.toList).length - 1) fun i _ => .str (bs ((Rd.cutL 10 s.data.toList).getD i [])))) := by
  have hb := but_last h0 h
  have h1 : FnF Tryd.prog 10 [.one (.str (s.extract 0 (s.size - 1))), .one (.int .u8 10)] _ := v_l3Split 10 (s.extract 0 (s.size - 1)) (by rw [ByteArray.size_extract]; omega)
  refine h1.lst_congr ?_ fun i j hi _ => ?_
  · rw [hb, List.length_append, List.length_singleton]; rfl
  · rw [hb, getD_left _ hi]
theorem HeadOf.ends {s : ByteArray} {h : GHead} (H : HeadOf s h) : 1 ≤ s.size ∧ byteAt s (s.size - 1) = 10 := by
  have hd : ∃ l, s.data.toList = l ++ [10] := by
    rw [← H.text, headT_data]
    have : ∀ l : List GSay, ∀ a : List UInt8, ∃ r, a ++ 10 :: linesT l = r ++ [10] := by
      intro l
      induction l with
      | nil => exact fun a => ⟨a, rfl⟩
      | cons x l ih =>
        intro a
        obtain ⟨r, hr⟩ := ih (a ++ 10 :: (sayT x).data.toList)
        refine ⟨r, ?_⟩
        rw [← hr]
        simp [linesT]
    exact this _ _
  obtain ⟨l, hl⟩ := hd
  have hsl := Lib.size_eq s
  have hlen : s.data.toList.length = l.length + 1 := by rw [hl]; simp
  have h1 : 1 ≤ s.size := by omega
  refine ⟨h1, ?_⟩
  have hlt : s.size - 1 < s.size := by omega
  have h3 : s.data.toList[s.size - 1]? = some (s.get (s.size - 1) hlt) := by rw [List.getElem?_eq_getElem (by rw [← hsl]; exact hlt)]; rfl
  have h4 : byteAt s (s.size - 1) = ((s.get (s.size - 1) hlt).toNat : Int) := by unfold byteAt; rw [dif_pos hlt]
  rw [h4]
  generalize s.get (s.size - 1) hlt = b at h3 ⊢
  rw [hl, show s.size - 1 = l.length by omega, List.getElem?_append_right (Nat.le_refl _), Nat.sub_self] at h3
  have h6 : (10 : UInt8) = b := Option.some.inj h3
  rw [← h6]; rfl
theorem js_no1 {s : ByteArray} (e : cond (!inB 1 20000 (s.size : Int)) true (!decide (byteAt s (s.size - 1) = 10)) = true) : ∀ h, ¬ HeadOf s h := by
  intro h H
  obtain ⟨h1, h2⟩ := H.ends
  have h3 := H.len
  rw [show inB 1 20000 (s.size : Int) = true from decide_eq_true ⟨by omega, by omega⟩, decide_eq_true h2] at e
  cases e
theorem js_yes1 {s : ByteArray} (e : cond (!inB 1 20000 (s.size : Int)) true (!decide (byteAt s (s.size - 1) = 10)) = false) : (1 ≤ s.size ∧ s.size ≤ 20000) ∧ byteAt s (s.size - 1) = 10 := by
  cases h : inB 1 20000 (s.size : Int) with
  | false => rw [h] at e; cases e
  | true =>
    rw [h] at e
    have := inB_true h
    exact ⟨by omega, by simpa using e⟩
theorem HeadOf.int {s : ByteArray} {h : GHead} (H : HeadOf s h) : Rd.intL (bs ((Rd.cutL 10 s.data.toList).getD 0 [])).data.toList = (h.offset, true) := by
  have o := H.off
  rw [data_bs, H.parts.num]
  exact Rd.intL_itoa (by omega) (by omega)
theorem js_no2 {s : ByteArray} (e : cond (!(Rd.intL (bs ((Rd.cutL 10 s.data.toList).getD 0 [])).data.toList).2) true (!inB 0 1000 (Rd.intL (bs ((Rd.cutL 10 s.data.toList).getD 0 [])).data.toList).1) = true) : ∀ h, ¬ HeadOf s h := by
  intro h H
  have o := H.off
  rw [H.int] at e
  have h1 : inB 0 1000 h.offset = true := decide_eq_true ⟨o.1, o.2⟩
  simp only [h1] at e
  cases e
theorem js_yes2 {r : Int × Bool} (e : cond (!r.2) true (!inB 0 1000 r.1) = false) : r.2 = true ∧ inB 0 1000 r.1 = true := by
  revert e
  cases r.2 <;> cases inB 0 1000 r.1 <;> decide
theorem js_no3 {s : ByteArray} {k : Nat} (hk : k < (Rd.cutL 10 s.data.toList).length - 2) (e : (rdX (bs ((Rd.cutL 10 s.data.toList).getD (k + 1) []))).2 = false) : ∀ h, ¬ HeadOf s h := by
  intro h H
  have P := H.parts
  have h2 := P.cut
  rw [P.readX (by omega)] at e
  cases e
theorem js_no4 {s : ByteArray} {k : Nat} (hk : k < (Rd.cutL 10 s.data.toList).length - 2) (e : ¬ takeCode (spHead s k) (rdX (bs ((Rd.cutL 10 s.data.toList).getD (k + 1) []))).1 = 1) : ∀ h, ¬ HeadOf s h := by
  intro h H
  have h2 := H.parts.cut
  exact e (H.code (by omega))
theorem js_head {s : ByteArray} {h : GHead} (H : HeadOf s h) : (⟨(spHead s ((Rd.cutL 10 s.data.toList).length - 2)).rows, (Rd.intL (bs ((Rd.cutL 10 s.data.toList).getD 0 [])).data.toList).1⟩ : GHead) = h := by
  have h2 := H.parts.cut
  rw [show (Rd.cutL 10 s.data.toList).length - 2 = (saysH h.rows).length by omega, H.sp, H.int]
theorem js_no5 {s : ByteArray} {k : Nat} (hk : k = (Rd.cutL 10 s.data.toList).length - 2) (e : ¬ headT ⟨(spHead s k).rows, (Rd.intL (bs ((Rd.cutL 10 s.data.toList).getD 0 [])).data.toList).1⟩ = s) : ∀ h, ¬ HeadOf s h := by
  intro h H
  rw [hk, js_head H] at e
  exact e H.text
theorem rdX_say {s : ByteArray} (h : (rdX s).2 = true) : sayB (rdX s).1 = true := by
  unfold rdX at h ⊢
  by_cases hc : (Rd.cutL 32 s.data.toList).length = 3
  · rw [if_pos hc] at h ⊢
    simp only [Bool.cond_false_right, Bool.and_eq_true] at h
    exact h.2
  · rw [if_neg hc] at h; cases h
theorem sp_off (s : ByteArray) : ∀ k, (spHead s k).offset = (k : Int)
  | 0 => rfl
  | k + 1 => by
    show (spHead s k).offset + 1 = _
    rw [sp_off s k]; omega
theorem sp_good {s : ByteArray} : ∀ k, (∀ j, j < k → (rdX (bs ((Rd.cutL 10 s.data.toList).getD (j + 1) []))).2 = true) → goodHead ⟨(spHead s k).rows, 0⟩ = true
  | 0, _ => by show goodHead ⟨[], 0⟩ = true; decide
  | k + 1, h => good_take (sp_good k fun j hj => h j (by omega)) (rdX_say (h k (by omega)))
theorem sp_goodO {s : ByteArray} {k : Nat} {o : Int} (h : goodHead ⟨(spHead s k).rows, 0⟩ = true) (ho : inB 0 1000 o = true) : goodHead ⟨(spHead s k).rows, o⟩ = true := (GoodR.of h).good ho
end Go.Proofs.YtonfeiloekofdaaDoor


/-
  The reference's ReadHead: it answers the head of a text, if there is one.
-/
namespace Go.Proofs.YtonfeiloekofdaaDoor
open Go.ChangeShapes Go.WideShapes Go.ChangeAt Go.RowKit Go.BigFrame Go.Deep
set_option linter.unusedVariables false
set_option linter.unusedSimpArgs false
theorem vhs_ag_24_2 : aggB Tryd.prog 24 2 = true := by kernel_rfl
theorem vhs_ag_36_3 : aggB Tryd.prog 36 3 = true := by kernel_rfl
theorem vhs_ca_10 : callB Tryd.prog 10 = true := by kernel_rfl
theorem vhs_ca_11 : callB Tryd.prog 11 = true := by kernel_rfl
theorem vhs_ca_12 : callB Tryd.prog 12 = true := by kernel_rfl
theorem vhs_ca_13 : callB Tryd.prog 13 = true := by kernel_rfl
theorem vhs_ca_14 : callB Tryd.prog 14 = true := by kernel_rfl
theorem vhs_ca_15 : callB Tryd.prog 15 = true := by kernel_rfl
theorem vhs_ca_9 : callB Tryd.prog 9 = true := by kernel_rfl
theorem vhs_el_31_1 : elemB Tryd.prog 31 1 = true := by kernel_rfl
theorem vhs_fi_24_1_1 : fieldB Tryd.prog 24 1 1 = true := by kernel_rfl
theorem vhs_pl_9 : plainB Tryd.prog 9 = true := by kernel_rfl
theorem vhs_sl_31 : sliceB Tryd.prog 31 = true := by kernel_rfl
theorem vhs_st_9 : stringB Tryd.prog 9 = true := by kernel_rfl
theorem vhs_sz_24_2 : sizeB Tryd.prog 24 2 = true := by kernel_rfl
theorem vhs_sz_36_3 : sizeB Tryd.prog 36 3 = true := by kernel_rfl
theorem vhs_sz_3_1 : sizeB Tryd.prog 3 1 = true := by kernel_rfl
set_option maxHeartbeats 1000000 in
set_option maxRecDepth 20000 in
theorem v_sReadHead (s : ByteArray) : FnT Tryd.prog 4 [.one (.str s)] (.tup2 (.agg [.lst 2 ((((headRV s).1).rows).length) (fun i0 j0 => ([.str (((((headRV s).1).rows).getD i0 (default : GRow)).name), .lst 2 ((((((headRV s).1).rows).getD i0 (default : GRow)).samples).length) (fun i1 j1 => ([.int .i64 (((((((headRV s).1).rows).getD i0 (default : GRow)).samples).getD i1 (default : GSample)).at_), .int .i64 (((((((headRV s).1).rows).getD i0 (default : GRow)).samples).getD i1 (default : GSample)).value)] : List AV).getD j1 (.con undef))] : List AV).getD j0 (.con undef)), .int .i64 (((headRV s).1).offset)]) (.one (.bool ((headRV s).2)))) := by
  refine FnT.of_body (fn := Tryd.f4) Tryd.func4 rfl (Nat.le_of_ble_eq_true rfl)  ?_
  intro w0
  show AW _ 83 _ _ _ _
  refine AW.boundS (t := 0) rfl fun hx => ?_
  refine AW.seq ?_
  refine AW.region ?_
  refine ARun.alloc (id := 0) (l := [.con (.slice none 0 0), .int .i64 0]) (z := (.agg #[.slice none 0 0, .int .i64 0])) rfl (by kernel_rfl) (fun _ _ _ => ⟨_, _, rfl, rfl, ⟨_, _, rfl, rfl, rfl⟩⟩) ⟨rfl, (by repeat first | exact trivial | refine ⟨by decide, by first | rfl | exact trivial | (intro a_ b_; first | exact getD_no rfl | exact rowC0_no rfl _ _ | ((try dsimp only); (repeat' split) <;> first | rfl | exact rowC0_no rfl _ _ | exact getD_no rfl)), ?_⟩)⟩ rfl rfl rfl (Nat.le_of_ble_eq_true rfl) ?_
  refine ARun.pure (PureOp.assign rfl .bool) rfl rfl (Nat.le_of_ble_eq_true rfl) ?_
  refine ARun.nil ?_
  refine AW.seq ?_
  refine AW.seq ?_
  refine AW.region ?_
  refine ARun.pure (PureOp.move rfl (.tmp rfl)) rfl rfl (Nat.le_of_ble_eq_true rfl) ?_
  refine ARun.pure (PureOp.lenStr rfl (.tmp rfl) vhs_st_9) rfl rfl (Nat.le_of_ble_eq_true rfl) ?_
  refine ARun.pure (PureOp.call rfl (v_l1In (s.size : Int) 1 20000) ⟨⟨_, (.tmp rfl), .int⟩, ⟨_, .int, .int⟩, ⟨_, .int, .int⟩, trivial⟩ vhs_ca_9 trivial) rfl rfl (Nat.le_of_ble_eq_true rfl) ?_
  refine ARun.pure (PureOp.not rfl (.tmp rfl)) rfl rfl (Nat.le_of_ble_eq_true rfl) ?_
  refine ARun.pure (PureOp.move rfl (.tmp rfl)) rfl rfl (Nat.le_of_ble_eq_true rfl) ?_
  refine ARun.gpure (want := false) (.tf rfl) (fun hg1 => PureOp.move rfl (.tmp rfl)) rfl rfl (Nat.le_of_ble_eq_true rfl) rfl (Nat.le_of_ble_eq_true rfl) ?_
  refine ARun.gpure (want := false) (.tf rfl) (fun hg2 => PureOp.move rfl (.tmp rfl)) rfl rfl (Nat.le_of_ble_eq_true rfl) rfl (Nat.le_of_ble_eq_true rfl) ?_
  refine ARun.gpure (want := false) (.tf rfl) (fun hg3 => PureOp.lenStr rfl (.gtmp rfl hg3) vhs_st_9) rfl rfl (Nat.le_of_ble_eq_true rfl) rfl (Nat.le_of_ble_eq_true rfl) ?_
  refine ARun.gpure (want := false) (.tf rfl) (fun hg4 => PureOp.sub (c := (((s.size - 1) : Nat) : Int)) rfl (.gtmp rfl hg4) .int (by have q := hg4; simp only [Bool.cond_true_left, Bool.cond_false_right, Bool.not_eq_true', Bool.or_eq_false_iff, Bool.not_eq_false', Bool.and_eq_true, Bool.not_not, decide_eq_true_eq, decide_eq_false_iff_not, inB] at q; rw [wrap_id (by omega) (by omega)]; omega)) rfl rfl (Nat.le_of_ble_eq_true rfl) rfl (Nat.le_of_ble_eq_true rfl) ?_
  refine ARun.gpure (want := false) (.tf rfl) (fun hg5 => PureOp.indexStrAt (i := (s.size - 1)) rfl (.gtmp rfl hg5) vhs_st_9 (.gtmp rfl hg5) rfl (by have q := hg5; simp only [Bool.cond_true_left, Bool.cond_false_right, Bool.not_eq_true', Bool.or_eq_false_iff, Bool.not_eq_false', Bool.and_eq_true, Bool.not_not, decide_eq_true_eq, decide_eq_false_iff_not, inB] at q; exact (show (s.size - 1) < _ from by omega))) rfl rfl (Nat.le_of_ble_eq_true rfl) rfl (Nat.le_of_ble_eq_true rfl) ?_
  refine ARun.gpure (want := false) (.tf rfl) (fun hg6 => PureOp.intOp rfl (.gtmp rfl hg6) .int rfl) rfl rfl (Nat.le_of_ble_eq_true rfl) rfl (Nat.le_of_ble_eq_true rfl) ?_
  refine ARun.pure (PureOp.pick rfl (.tmp rfl) (fun _ => .bool) (fun hp8 => .gtmp rfl (not_of hp8))) rfl rfl (Nat.le_of_ble_eq_true rfl) ?_
  refine ARun.nil ?_
  refine AW.cond (.tmp rfl) (fun hb9 => ?_) (fun hb9 => ?_)
  · have _u := True.intro
    have hno : ∀ h, ¬ HeadOf s h := js_no1 hb9
    refine AW.seq ?_
    refine AW.region ?_
    refine ARun.pure (PureOp.build (ys := []) (l := [.con (.slice none 0 0), .int .i64 0]) (pl := [(0, 1), (1, 1)]) (z := (.agg #[.slice none 0 0, .int .i64 0])) rfl (by kernel_rfl) (by kernel_rfl) (fun _ _ _ => ⟨_, _, rfl, rfl, ⟨_, _, rfl, rfl, rfl⟩⟩) trivial rfl) rfl rfl (Nat.le_of_ble_eq_true rfl) ?_
    refine ARun.store rfl (.tmp rfl) (.tmp rfl) (SV.cells_of (by exact ⟨⟨rfl, (fun _ e => by cases e), (fun _ e => by cases e)⟩, trivial, trivial⟩)) rfl (Nat.le_of_ble_eq_true rfl) vhs_sz_24_2 rfl rfl ?_
    refine ARun.pure (PureOp.assign rfl .bool) rfl rfl (Nat.le_of_ble_eq_true rfl) ?_
    refine ARun.nil ?_
    rw [headRV_no hno]
    exact AW.ret (show ∃ s t, ResL _ _ [.cell 2 24, .tmp 3] s ∧ TvS _ (ofLeaf t) 0 s _ from ⟨_, fun a b => 1000, .inr (.inl ⟨_, _, _, _, rfl, .cells rfl vhs_ag_24_2 rfl rfl (Nat.le_of_ble_eq_true rfl) (Nat.le_of_ble_eq_true rfl), .tmp rfl, rfl⟩), ⟨⟨.nil, .int, trivial⟩, .bool⟩⟩)
  · have _u := True.intro
    obtain ⟨⟨hs1, hs2⟩, hten⟩ := js_yes1 hb9
    have hL2 := but_len hs1 hten
    obtain ⟨_, hL3⟩ := lines_n hs2
    have hln0 := line_le (s := s) (i := 0) (by omega) hs2
    have hln0' : (bs ((Rd.cutL 10 s.data.toList).getD 0 [])).size ≤ 1048576 := by omega
    refine AW.skip ?_
    refine AW.seq ?_
    refine AW.region ?_
    refine ARun.pure (PureOp.move rfl (.tmp rfl)) rfl rfl (Nat.le_of_ble_eq_true rfl) ?_
    refine ARun.pure (PureOp.move rfl (.tmp rfl)) rfl rfl (Nat.le_of_ble_eq_true rfl) ?_
    refine ARun.pure (PureOp.lenStr rfl (.tmp rfl) vhs_st_9) rfl rfl (Nat.le_of_ble_eq_true rfl) ?_
    refine ARun.pure (PureOp.sub (c := (((s.size - 1) : Nat) : Int)) rfl (.tmp rfl) .int (by rw [wrap_id (by omega) (by omega)]; omega)) rfl rfl (Nat.le_of_ble_eq_true rfl) ?_
    refine ARun.pure (PureOp.takeStr (k := (s.size - 1)) rfl (.tmp rfl) (.tmp rfl) rfl (show s.size - 1 ≤ s.size from by omega) vhs_st_9) rfl rfl (Nat.le_of_ble_eq_true rfl) ?_
    refine ARun.fresh (FreshOp.callS rfl (v_l3SplitB s hs2 hs1 hten) ⟨⟨_, (.tmp rfl), .str⟩, ⟨_, .int, .int⟩, trivial⟩ vhs_ca_10 rfl) rfl rfl (Nat.le_of_ble_eq_true rfl) ?_
    refine ARun.pure (PureOp.assign rfl (.tmp rfl)) rfl rfl (Nat.le_of_ble_eq_true rfl) ?_
    refine ARun.nil ?_
    refine AW.seq ?_
    refine AW.region ?_
    refine ARun.pure (PureOp.move rfl (.tmp rfl)) rfl rfl (Nat.le_of_ble_eq_true rfl) ?_
    refine ARun.pure (PureOp.indexLst (i := 0) rfl (.frs (.tmp rfl)) vhs_el_31_1 .int rfl (by exact (show 0 < _ from by omega))) rfl rfl (Nat.le_of_ble_eq_true rfl) ?_
    refine ARun.pure (PureOp.loadRef rfl (.tmp rfl) vhs_pl_9 (Nat.le_of_ble_eq_true rfl)) rfl rfl (Nat.le_of_ble_eq_true rfl) ?_
    refine ARun.pure (PureOp.call rfl (v_l13Int (bs ((Rd.cutL 10 s.data.toList).getD 0 [])) (by assumption)) ⟨⟨_, (.tmp rfl), .str⟩, trivial⟩ vhs_ca_11 ⟨trivial, trivial⟩) rfl rfl (Nat.le_of_ble_eq_true rfl) ?_
    refine ARun.pure (PureOp.move rfl (.tmp rfl)) rfl rfl (Nat.le_of_ble_eq_true rfl) ?_
    refine ARun.pure (PureOp.ext2a rfl (.tmp rfl)) rfl rfl (Nat.le_of_ble_eq_true rfl) ?_
    refine ARun.pure (PureOp.ext2b rfl (.tmp rfl)) rfl rfl (Nat.le_of_ble_eq_true rfl) ?_
    refine ARun.pure (PureOp.assign rfl (.tmp rfl)) rfl rfl (Nat.le_of_ble_eq_true rfl) ?_
    refine ARun.pure (PureOp.assign rfl (.tmp rfl)) rfl rfl (Nat.le_of_ble_eq_true rfl) ?_
    refine ARun.nil ?_
    refine AW.seq ?_
    refine AW.seq ?_
    refine AW.region ?_
    refine ARun.pure (PureOp.move rfl (.tmp rfl)) rfl rfl (Nat.le_of_ble_eq_true rfl) ?_
    refine ARun.pure (PureOp.not rfl (.tmp rfl)) rfl rfl (Nat.le_of_ble_eq_true rfl) ?_
    refine ARun.pure (PureOp.move rfl (.tmp rfl)) rfl rfl (Nat.le_of_ble_eq_true rfl) ?_
    refine ARun.gpure (want := false) (.tf rfl) (fun hg10 => PureOp.move rfl (.tmp rfl)) rfl rfl (Nat.le_of_ble_eq_true rfl) rfl (Nat.le_of_ble_eq_true rfl) ?_
    refine ARun.gpure (want := false) (.tf rfl) (fun hg11 => PureOp.call rfl (v_l1In ((Rd.intL (bs ((Rd.cutL 10 s.data.toList).getD 0 [])).data.toList).1) 0 1000) ⟨⟨_, (.gtmp rfl hg11), .int⟩, ⟨_, .int, .int⟩, ⟨_, .int, .int⟩, trivial⟩ vhs_ca_9 trivial) rfl rfl (Nat.le_of_ble_eq_true rfl) rfl (Nat.le_of_ble_eq_true rfl) ?_
    refine ARun.gpure (want := false) (.tf rfl) (fun hg12 => PureOp.not rfl (.gtmp rfl hg12)) rfl rfl (Nat.le_of_ble_eq_true rfl) rfl (Nat.le_of_ble_eq_true rfl) ?_
    refine ARun.pure (PureOp.pick rfl (.tmp rfl) (fun _ => .bool) (fun hp14 => .gtmp rfl (not_of hp14))) rfl rfl (Nat.le_of_ble_eq_true rfl) ?_
    refine ARun.nil ?_
    refine AW.cond (.tmp rfl) (fun hb15 => ?_) (fun hb15 => ?_)
    · have _u := True.intro
      have hno : ∀ h, ¬ HeadOf s h := js_no2 hb15
      refine AW.seq ?_
      refine AW.region ?_
      refine ARun.pure (PureOp.build (ys := []) (l := [.con (.slice none 0 0), .int .i64 0]) (pl := [(0, 1), (1, 1)]) (z := (.agg #[.slice none 0 0, .int .i64 0])) rfl (by kernel_rfl) (by kernel_rfl) (fun _ _ _ => ⟨_, _, rfl, rfl, ⟨_, _, rfl, rfl, rfl⟩⟩) trivial rfl) rfl rfl (Nat.le_of_ble_eq_true rfl) ?_
      refine ARun.store rfl (.tmp rfl) (.tmp rfl) (SV.cells_of (by exact ⟨⟨rfl, (fun _ e => by cases e), (fun _ e => by cases e)⟩, trivial, trivial⟩)) rfl (Nat.le_of_ble_eq_true rfl) vhs_sz_24_2 rfl rfl ?_
      refine ARun.pure (PureOp.assign rfl .bool) rfl rfl (Nat.le_of_ble_eq_true rfl) ?_
      refine ARun.nil ?_
      rw [headRV_no hno]
      exact AW.ret (show ∃ s t, ResL _ _ [.cell 2 24, .tmp 3] s ∧ TvS _ (ofLeaf t) 0 s _ from ⟨_, fun a b => 1000, .inr (.inl ⟨_, _, _, _, rfl, .cells rfl vhs_ag_24_2 rfl rfl (Nat.le_of_ble_eq_true rfl) (Nat.le_of_ble_eq_true rfl), .tmp rfl, rfl⟩), ⟨⟨.nil, .int, trivial⟩, .bool⟩⟩)
    · have _u := True.intro
      obtain ⟨hr2, hr1⟩ := js_yes2 hb15
      refine AW.skip ?_
      refine AW.seq ?_
      refine AW.region ?_
      refine ARun.alloc (id := 1) (l := [.con (.slice none 0 0), .int .i64 0]) (z := (.agg #[.slice none 0 0, .int .i64 0])) rfl (by kernel_rfl) (fun _ _ _ => ⟨_, _, rfl, rfl, ⟨_, _, rfl, rfl, rfl⟩⟩) ⟨rfl, (by repeat first | exact trivial | refine ⟨by decide, by first | rfl | exact trivial | (intro a_ b_; first | exact getD_no rfl | exact rowC0_no rfl _ _ | ((try dsimp only); (repeat' split) <;> first | rfl | exact rowC0_no rfl _ _ | exact getD_no rfl)), ?_⟩)⟩ rfl rfl rfl (Nat.le_of_ble_eq_true rfl) ?_
      refine ARun.nil ?_
      refine AW.seq ?_
      refine AW.seq ?_
      refine AW.region ?_
      refine ARun.pure (PureOp.move rfl (.tmp rfl)) rfl rfl (Nat.le_of_ble_eq_true rfl) ?_
      refine ARun.pure (PureOp.lstEq (n' := ((Rd.cutL 10 s.data.toList).length - 2)) (f' := fun i_ _ => .str (bs ((Rd.cutL 10 s.data.toList).getD (i_ + 1) []))) (PureOp.dropLst (k := 1) rfl (.frs (.tmp rfl)) .int rfl (show 1 ≤ _ from by omega) vhs_el_31_1) (by omega) (fun _ _ _ _ => rfl)) rfl rfl (Nat.le_of_ble_eq_true rfl) ?_
      refine ARun.pure (PureOp.lenLst rfl (.tmp rfl) vhs_sl_31) rfl rfl (Nat.le_of_ble_eq_true rfl) ?_
      refine ARun.pure (PureOp.move rfl .int) rfl rfl (Nat.le_of_ble_eq_true rfl) ?_
      refine ARun.nil ?_
      refine AW.block ?_
      refine AW.fam (id := 3) (rowX0 (spHead s 0)) ⟨rfl, (by repeat first | exact trivial | refine ⟨by decide, by first | rfl | exact trivial | (intro a_ b_; first | exact getD_no rfl | exact rowC0_no rfl _ _ | ((try dsimp only); (repeat' split) <;> first | rfl | exact rowC0_no rfl _ _ | exact getD_no rfl)), ?_⟩)⟩ ?_
      refine AW.nilCell 1 0 2 2 _ (rowC0 (spHead s 0) 3) rfl rfl ⟨rfl, (by repeat first | exact trivial | refine ⟨by decide, by first | rfl | exact trivial | (intro a_ b_; first | exact getD_no rfl | exact rowC0_no rfl _ _ | ((try dsimp only); (repeat' split) <;> first | rfl | exact rowC0_no rfl _ _ | exact getD_no rfl)), ?_⟩)⟩ ?_
      -- objects are renamed
      refine AW.loopR (ι := Nat) (fun k => ⟨[(0, .one (.str s)), (2, .one (.ptr 0 2 0 0)), (5, .one (.int .i64 ((Rd.intL (bs ((Rd.cutL 10 s.data.toList).getD 0 [])).data.toList).1))), (7, .one (.ptr 1 2 0 0)), (49, .one (.lst 1 ((Rd.cutL 10 s.data.toList).length - 2) (fun i_ _ => .str (bs ((Rd.cutL 10 s.data.toList).getD (i_ + 1) []))))), (50, .one (.int .i64 ((((Rd.cutL 10 s.data.toList).length - 2) : Nat) : Int))), (51, .one (.int .i64 (k : Int)))], [(0, .cells [.con (.slice none 0 0), .int .i64 0]), (1, .cells [.own 2 2 ((spHead s k).rows.length), .int .i64 ((spHead s k).offset)]), (2, .arr 2 ((spHead s k).rows.length) (rowC0 (spHead s k) 3)), (3, .trees ((spHead s k).rows.length) (rowX0 (spHead s k)))]⟩) (fun k => k ≤ (Rd.cutL 10 s.data.toList).length - 2 ∧ ∀ j, j < k → (rdX (bs ((Rd.cutL 10 s.data.toList).getD (j + 1) []))).2 = true) (fun k => (Rd.cutL 10 s.data.toList).length - 2 - k) 0 ⟨Nat.zero_le _, fun j hj => absurd hj (by omega)⟩ ⟨⟨⟨_, rfl, rfl⟩, ⟨_, rfl, rfl⟩, ⟨_, rfl, rfl⟩, ⟨_, rfl, rfl⟩, ⟨_, rfl, rfl⟩, ⟨_, rfl, rfl⟩, ⟨_, rfl, rfl⟩, trivial⟩, ⟨⟨_, rfl, rfl, Nat.le_refl _, fun _ _ _ _ => rfl⟩, ⟨_, rfl, rfl, Nat.le_refl _, fun _ _ _ _ => rfl⟩, ⟨_, rfl, rfl, Nat.le_refl _, fun _ _ _ _ => rfl⟩, ⟨_, rfl, fun _ _ => rfl⟩, trivial⟩⟩ ?_
      intro k hI
      obtain ⟨hk, hok⟩ := hI
      refine AW.seq ?_
      refine AW.region ?_
      refine ARun.pure (PureOp.intOp rfl (.tmp rfl) (.tmp rfl) rfl) rfl rfl (Nat.le_of_ble_eq_true rfl) ?_
      refine ARun.nil ?_
      refine AW.seq ?_
      refine AW.cond (.tmp rfl) (fun hb16 => ?_) (fun hb16 => ?_)
      · have _u := True.intro
        replace hb16 := of_decide_eq_true hb16
        have hkl : k < (Rd.cutL 10 s.data.toList).length - 2 := by omega
        have hln := line_le (s := s) (i := k + 1) (by omega) hs2
        have hgk := sp_good k hok
        have hfk := sp_off s k
        refine AW.skip ?_
        refine AW.seq ?_
        refine AW.block ?_
        refine AW.seq ?_
        refine AW.region ?_
        refine ARun.pure (PureOp.indexLst (i := k) rfl (.tmp rfl) vhs_el_31_1 (.tmp rfl) rfl (by exact (show k < _ from by omega))) rfl rfl (Nat.le_of_ble_eq_true rfl) ?_
        refine ARun.pure (PureOp.loadRef rfl (.tmp rfl) vhs_pl_9 (Nat.le_of_ble_eq_true rfl)) rfl rfl (Nat.le_of_ble_eq_true rfl) ?_
        refine ARun.pure (PureOp.assign rfl (.tmp rfl)) rfl rfl (Nat.le_of_ble_eq_true rfl) ?_
        refine ARun.nil ?_
        refine AW.seq ?_
        refine AW.region ?_
        refine ARun.pure (PureOp.move rfl (.tmp rfl)) rfl rfl (Nat.le_of_ble_eq_true rfl) ?_
        refine ARun.fresh (FreshOp.callS rfl (v_l13Read (bs ((Rd.cutL 10 s.data.toList).getD (k + 1) [])) (by omega)) ⟨⟨_, (.tmp rfl), .str⟩, trivial⟩ vhs_ca_12 rfl) rfl rfl (Nat.le_of_ble_eq_true rfl) ?_
        refine ARun.pure (PureOp.move rfl (.tmp rfl)) rfl rfl (Nat.le_of_ble_eq_true rfl) ?_
        refine ARun.pure (PureOp.ext2a rfl (.tmp rfl)) rfl rfl (Nat.le_of_ble_eq_true rfl) ?_
        refine ARun.pure (PureOp.ext2b rfl (.tmp rfl)) rfl rfl (Nat.le_of_ble_eq_true rfl) ?_
        refine ARun.alloc (id := 4) (l := [.str ByteArray.empty, .int .i64 0, .int .i64 0]) (z := (.agg #[.string ByteArray.empty, .int .i64 0, .int .i64 0])) rfl (by kernel_rfl) (fun _ _ _ => ⟨_, _, rfl, ⟨rfl, by decide⟩, ⟨_, _, rfl, rfl, ⟨_, _, rfl, rfl, rfl⟩⟩⟩) ⟨rfl, (by repeat first | exact trivial | refine ⟨by decide, by first | rfl | exact trivial | (intro a_ b_; first | exact getD_no rfl | exact rowC0_no rfl _ _ | ((try dsimp only); (repeat' split) <;> first | rfl | exact rowC0_no rfl _ _ | exact getD_no rfl)), ?_⟩)⟩ rfl rfl rfl (Nat.le_of_ble_eq_true rfl) ?_
        refine ARun.store rfl (.tmp rfl) (.tmp rfl) (SV.cells_of (by exact ⟨trivial, trivial, trivial, trivial⟩)) rfl (Nat.le_of_ble_eq_true rfl) vhs_sz_36_3 rfl rfl ?_
        refine ARun.pure (PureOp.assign rfl (.tmp rfl)) rfl rfl (Nat.le_of_ble_eq_true rfl) ?_
        refine ARun.nil ?_
        refine AW.seq ?_
        refine AW.seq ?_
        refine AW.region ?_
        refine ARun.pure (PureOp.move rfl (.tmp rfl)) rfl rfl (Nat.le_of_ble_eq_true rfl) ?_
        refine ARun.pure (PureOp.not rfl (.tmp rfl)) rfl rfl (Nat.le_of_ble_eq_true rfl) ?_
        refine ARun.nil ?_
        refine AW.cond (.tmp rfl) (fun hb17 => ?_) (fun hb17 => ?_)
        · have _u := True.intro
          have hno : ∀ h, ¬ HeadOf s h := js_no3 hkl (of_not hb17)
          refine AW.seq ?_
          refine AW.region ?_
          refine ARun.pure (PureOp.build (ys := []) (l := [.con (.slice none 0 0), .int .i64 0]) (pl := [(0, 1), (1, 1)]) (z := (.agg #[.slice none 0 0, .int .i64 0])) rfl (by kernel_rfl) (by kernel_rfl) (fun _ _ _ => ⟨_, _, rfl, rfl, ⟨_, _, rfl, rfl, rfl⟩⟩) trivial rfl) rfl rfl (Nat.le_of_ble_eq_true rfl) ?_
          refine ARun.store rfl (.tmp rfl) (.tmp rfl) (SV.cells_of (by exact ⟨⟨rfl, (fun _ e => by cases e), (fun _ e => by cases e)⟩, trivial, trivial⟩)) rfl (Nat.le_of_ble_eq_true rfl) vhs_sz_24_2 rfl rfl ?_
          refine ARun.pure (PureOp.assign rfl .bool) rfl rfl (Nat.le_of_ble_eq_true rfl) ?_
          refine ARun.nil ?_
          rw [headRV_no hno]
          exact AW.ret (show ∃ s t, ResL _ _ [.cell 2 24, .tmp 3] s ∧ TvS _ (ofLeaf t) 0 s _ from ⟨_, fun a b => 1000, .inr (.inl ⟨_, _, _, _, rfl, .cells rfl vhs_ag_24_2 rfl rfl (Nat.le_of_ble_eq_true rfl) (Nat.le_of_ble_eq_true rfl), .tmp rfl, rfl⟩), ⟨⟨.nil, .int, trivial⟩, .bool⟩⟩)
        · have _u := True.intro
          have hrk := not_f hb17
          refine AW.skip ?_
          refine AW.seq ?_
          refine AW.region ?_
          refine ARun.pure (PureOp.loadPtrAgg rfl (.tmp rfl) vhs_ag_24_2 rfl rfl (Nat.le_of_ble_eq_true rfl) (Nat.le_of_ble_eq_true rfl)) rfl rfl (Nat.le_of_ble_eq_true rfl) ?_
          refine ARun.pure (PureOp.loadPtrAgg rfl (.tmp rfl) vhs_ag_36_3 rfl rfl (Nat.le_of_ble_eq_true rfl) (Nat.le_of_ble_eq_true rfl)) rfl rfl (Nat.le_of_ble_eq_true rfl) ?_
          refine ARun.mutx (Hr := [(0, .cells [.con (.slice none 0 0), .int .i64 0]), (1, .cells [.own 2 2 ((spHead s k).rows.length), .int .i64 ((spHead s k).offset)]), (4, .cells [.str ((rdX (bs ((Rd.cutL 10 s.data.toList).getD (k + 1) []))).1.name), .int .i64 ((rdX (bs ((Rd.cutL 10 s.data.toList).getD (k + 1) []))).1.at_), .int .i64 ((rdX (bs ((Rd.cutL 10 s.data.toList).getD (k + 1) []))).1.value)])]) (Hn := [(0, .cells [.con (.slice none 0 0), .int .i64 0]), (1, .cells [.own 2 2 ((spHead s k).rows.length), .int .i64 ((spHead s k).offset)]), (4, .cells [.str ((rdX (bs ((Rd.cutL 10 s.data.toList).getD (k + 1) []))).1.name), .int .i64 ((rdX (bs ((Rd.cutL 10 s.data.toList).getD (k + 1) []))).1.at_), .int .i64 ((rdX (bs ((Rd.cutL 10 s.data.toList).getD (k + 1) []))).1.value)]), (5, .arr 2 ((takeH (spHead s k) (rdX (bs ((Rd.cutL 10 s.data.toList).getD (k + 1) []))).1).rows.length) (rowC0 (takeH (spHead s k) (rdX (bs ((Rd.cutL 10 s.data.toList).getD (k + 1) []))).1) 6)), (6, .trees ((takeH (spHead s k) (rdX (bs ((Rd.cutL 10 s.data.toList).getD (k + 1) []))).1).rows.length) (rowX0 (takeH (spHead s k) (rdX (bs ((Rd.cutL 10 s.data.toList).getD (k + 1) []))).1)))]) (g := fun zz => if zz = 1000001 then 2 else if zz = 1000002 then 3 else zz) (g' := fun zz => if zz = 1000001 then 2 else if zz = 1000002 then 3 else if zz = 77 then 5 else if zz = 78 then 6 else zz) (K := [77, 78]) (T := [(5, 77), (6, 78)]) rfl (v_l13Take (spHead s k) (rdX (bs ((Rd.cutL 10 s.data.toList).getD (k + 1) []))).1 hgk ⟨by rw [hfk]; omega, by rw [hfk]; omega⟩) vhs_ca_13 ⟨.inr (.tmp rfl), ⟨.inl ⟨_, (.tmp rfl), ⟨.str, .int, .int, trivial⟩⟩, trivial⟩⟩ ⟨⟨_, rfl, ⟨rfl, rfl, fun a b _ _ => rowC0_ren (h := (spHead s k)) (K := 1000002) (K' := 3) rfl a b⟩⟩, ⟨_, rfl, ⟨rfl, fun _ _ => rfl⟩⟩, trivial⟩ ⟨⟨rfl, rfl⟩, ⟨rfl, rfl⟩, ⟨rfl, rfl⟩, trivial⟩ rfl ⟨⟨rfl, (by repeat first | exact trivial | refine ⟨by decide, by first | rfl | exact trivial | (intro a_ b_; first | exact getD_no rfl | exact rowC0_no rfl _ _ | ((try dsimp only); (repeat' split) <;> first | rfl | exact rowC0_no rfl _ _ | exact getD_no rfl)), ?_⟩)⟩, ⟨rfl, (by repeat first | exact trivial | refine ⟨by decide, by first | rfl | exact trivial | (intro a_ b_; first | exact getD_no rfl | exact rowC0_no rfl _ _ | ((try dsimp only); (repeat' split) <;> first | rfl | exact rowC0_no rfl _ _ | exact getD_no rfl)), ?_⟩)⟩, trivial⟩ (by kernel_rfl) (by kernel_rfl) (by kernel_rfl) ⟨.inl rfl, .inl rfl, .inl rfl, .inr ⟨77, _, rfl, rfl, rfl, ⟨rfl, rfl, fun a b _ _ => rowC0_ren (h := (takeH (spHead s k) (rdX (bs ((Rd.cutL 10 s.data.toList).getD (k + 1) []))).1)) (K := 78) (K' := 6) rfl a b⟩, (fun a b _ _ => rowC0_hx rfl a b)⟩, .inr ⟨78, _, rfl, rfl, rfl, ⟨rfl, fun _ _ => rfl⟩, trivial⟩, trivial⟩ rfl rfl (Nat.le_of_ble_eq_true rfl) (r' := .tup2 (.agg [.own 5 2 ((takeH (spHead s k) (rdX (bs ((Rd.cutL 10 s.data.toList).getD (k + 1) []))).1).rows.length), .int .i64 ((takeH (spHead s k) (rdX (bs ((Rd.cutL 10 s.data.toList).getD (k + 1) []))).1).offset)]) (.one (.int .i64 ((takeCode (spHead s k) (rdX (bs ((Rd.cutL 10 s.data.toList).getD (k + 1) []))).1 : Nat) : Int)))) rfl ?_
          refine ARun.pure (PureOp.move rfl (.tmp rfl)) rfl rfl (Nat.le_of_ble_eq_true rfl) ?_
          refine ARun.pure (PureOp.ext2a rfl (.tmp rfl)) rfl rfl (Nat.le_of_ble_eq_true rfl) ?_
          refine ARun.pure (PureOp.ext2b rfl (.tmp rfl)) rfl rfl (Nat.le_of_ble_eq_true rfl) ?_
          refine ARun.alloc (id := 7) (l := [.con (.slice none 0 0), .int .i64 0]) (z := (.agg #[.slice none 0 0, .int .i64 0])) rfl (by kernel_rfl) (fun _ _ _ => ⟨_, _, rfl, rfl, ⟨_, _, rfl, rfl, rfl⟩⟩) ⟨rfl, (by repeat first | exact trivial | refine ⟨by decide, by first | rfl | exact trivial | (intro a_ b_; first | exact getD_no rfl | exact rowC0_no rfl _ _ | ((try dsimp only); (repeat' split) <;> first | rfl | exact rowC0_no rfl _ _ | exact getD_no rfl)), ?_⟩)⟩ rfl rfl rfl (Nat.le_of_ble_eq_true rfl) ?_
          refine ARun.store rfl (.tmp rfl) (.tmp rfl) (SV.cells_of (by exact ⟨trivial, trivial, trivial⟩)) rfl (Nat.le_of_ble_eq_true rfl) vhs_sz_24_2 rfl rfl ?_
          refine ARun.pure (PureOp.assign rfl (.tmp rfl)) rfl rfl (Nat.le_of_ble_eq_true rfl) ?_
          refine ARun.nil ?_
          refine AW.seq ?_
          refine AW.seq ?_
          refine AW.region ?_
          refine ARun.pure (PureOp.move rfl (.tmp rfl)) rfl rfl (Nat.le_of_ble_eq_true rfl) ?_
          refine ARun.pure (PureOp.intOp rfl (.tmp rfl) .int rfl) rfl rfl (Nat.le_of_ble_eq_true rfl) ?_
          refine ARun.nil ?_
          refine AW.cond (.tmp rfl) (fun hb18 => ?_) (fun hb18 => ?_)
          · have _u := True.intro
            have hno : ∀ h, ¬ HeadOf s h := js_no4 hkl (fun e => by have q := hb18; rw [decide_eq_true (show ((takeCode (spHead s k) (rdX (bs ((Rd.cutL 10 s.data.toList).getD (k + 1) []))).1 : Nat) : Int) = 1 by omega)] at q; cases q)
            refine AW.seq ?_
            refine AW.region ?_
            refine ARun.pure (PureOp.build (ys := []) (l := [.con (.slice none 0 0), .int .i64 0]) (pl := [(0, 1), (1, 1)]) (z := (.agg #[.slice none 0 0, .int .i64 0])) rfl (by kernel_rfl) (by kernel_rfl) (fun _ _ _ => ⟨_, _, rfl, rfl, ⟨_, _, rfl, rfl, rfl⟩⟩) trivial rfl) rfl rfl (Nat.le_of_ble_eq_true rfl) ?_
            refine ARun.store rfl (.tmp rfl) (.tmp rfl) (SV.cells_of (by exact ⟨⟨rfl, (fun _ e => by cases e), (fun _ e => by cases e)⟩, trivial, trivial⟩)) rfl (Nat.le_of_ble_eq_true rfl) vhs_sz_24_2 rfl rfl ?_
            refine ARun.pure (PureOp.assign rfl .bool) rfl rfl (Nat.le_of_ble_eq_true rfl) ?_
            refine ARun.nil ?_
            rw [headRV_no hno]
            exact AW.ret (show ∃ s t, ResL _ _ [.cell 2 24, .tmp 3] s ∧ TvS _ (ofLeaf t) 0 s _ from ⟨_, fun a b => 1000, .inr (.inl ⟨_, _, _, _, rfl, .cells rfl vhs_ag_24_2 rfl rfl (Nat.le_of_ble_eq_true rfl) (Nat.le_of_ble_eq_true rfl), .tmp rfl, rfl⟩), ⟨⟨.nil, .int, trivial⟩, .bool⟩⟩)
          · have _u := True.intro
            refine AW.skip ?_
            refine AW.region ?_
            refine ARun.pure (PureOp.loadPtrAgg rfl (.tmp rfl) vhs_ag_24_2 rfl rfl (Nat.le_of_ble_eq_true rfl) (Nat.le_of_ble_eq_true rfl)) rfl rfl (Nat.le_of_ble_eq_true rfl) ?_
            refine ARun.store rfl (.tmp rfl) (.tmp rfl) (SV.cells_of (by exact ⟨trivial, trivial, trivial⟩)) rfl (Nat.le_of_ble_eq_true rfl) vhs_sz_24_2 rfl rfl ?_
            refine ARun.nil ?_
            refine AW.region ?_
            refine ARun.pure (PureOp.add (c := ((k + 1 : Nat) : Int)) rfl (.tmp rfl) .int (by rw [wrap_id (by omega) (by omega)]; omega)) rfl rfl (Nat.le_of_ble_eq_true rfl) ?_
            refine ARun.pure (PureOp.move rfl (.tmp rfl)) rfl rfl (Nat.le_of_ble_eq_true rfl) ?_
            refine ARun.nil ?_
            exact ⟨k + 1, (fun z => (swp 2 5) ((swp 3 6) z)), ⟨(show k + 1 ≤ (Rd.cutL 10 s.data.toList).length - 2 from by omega), fun j hj => (Nat.lt_succ_iff_lt_or_eq.1 hj).elim (hok j) (fun e => e ▸ hrk)⟩, by dsimp only; omega, (comp_inj swp_inj swp_inj), (comp_fix (swp_fix rfl rfl) (swp_fix rfl rfl)), ⟨⟨⟨_, rfl, rfl⟩, ⟨_, rfl, rfl⟩, ⟨_, rfl, rfl⟩, ⟨_, rfl, rfl⟩, ⟨_, rfl, rfl⟩, ⟨_, rfl, rfl⟩, ⟨_, rfl, rfl⟩, trivial⟩, ⟨⟨_, rfl, rfl, Nat.le_refl _, fun _ _ _ _ => rfl⟩, ⟨_, rfl, rfl, Nat.le_refl _, fun _ _ _ _ => rfl⟩, ⟨_, rfl, rfl, Nat.le_refl _, fun i j _ _ => rowC0_ren (h := spHead s (k + 1)) (K := 3) (K' := 6) rfl i j⟩, ⟨_, rfl, fun _ _ => rfl⟩, trivial⟩⟩⟩
      · have _u := True.intro
        replace hb16 := of_decide_eq_false hb16
        have hke : k = (Rd.cutL 10 s.data.toList).length - 2 := by omega
        have hgE := sp_good k hok
        have hgF := sp_goodO (o := (Rd.intL (bs ((Rd.cutL 10 s.data.toList).getD 0 [])).data.toList).1) hgE hr1
        refine AW.exit ?_
        refine AW.seq ?_
        refine AW.region ?_
        refine ARun.pure (PureOp.move rfl (.tmp rfl)) rfl rfl (Nat.le_of_ble_eq_true rfl) ?_
        refine ARun.pure (PureOp.fieldPtr rfl (.tmp rfl) vhs_fi_24_1_1) rfl rfl (Nat.le_of_ble_eq_true rfl) ?_
        refine ARun.store rfl (.tmp rfl) (.tmp rfl) trivial rfl (Nat.le_of_ble_eq_true rfl) vhs_sz_3_1 rfl rfl ?_
        refine ARun.nil ?_
        refine AW.seq ?_
        refine AW.seq ?_
        refine AW.region ?_
        refine ARun.pure (PureOp.loadPtrAgg rfl (.tmp rfl) vhs_ag_24_2 rfl rfl (Nat.le_of_ble_eq_true rfl) (Nat.le_of_ble_eq_true rfl)) rfl rfl (Nat.le_of_ble_eq_true rfl) ?_
        refine ARun.pure (PureOp.call rfl (v_l13HeadText (⟨(spHead s k).rows, (Rd.intL (bs ((Rd.cutL 10 s.data.toList).getD 0 [])).data.toList).1⟩ : GHead) (good_ok hgF)) ⟨⟨_, (.tmp rfl), ⟨(.own rfl rfl (Nat.le_refl _) (fun i j hi hj => (match j, hj with | 0, _ => .str | 1, _ => (Vw.cast (Vw.tre rfl hi) rfl) | _ + 2, h => absurd h (by omega)))), .int, trivial⟩⟩, trivial⟩ vhs_ca_14 (headT_plain (good_ok hgF))) rfl rfl (Nat.le_of_ble_eq_true rfl) ?_
        refine ARun.pure (PureOp.move rfl (.tmp rfl)) rfl rfl (Nat.le_of_ble_eq_true rfl) ?_
        refine ARun.pure (PureOp.strOp rfl (.tmp rfl) (.tmp rfl) rfl) rfl rfl (Nat.le_of_ble_eq_true rfl) ?_
        refine ARun.nil ?_
        refine AW.cond (.tmp rfl) (fun hb19 => ?_) (fun hb19 => ?_)
        · have _u := True.intro
          have hno : ∀ h, ¬ HeadOf s h := js_no5 hke (by simpa using hb19)
          refine AW.seq ?_
          refine AW.region ?_
          refine ARun.pure (PureOp.build (ys := []) (l := [.con (.slice none 0 0), .int .i64 0]) (pl := [(0, 1), (1, 1)]) (z := (.agg #[.slice none 0 0, .int .i64 0])) rfl (by kernel_rfl) (by kernel_rfl) (fun _ _ _ => ⟨_, _, rfl, rfl, ⟨_, _, rfl, rfl, rfl⟩⟩) trivial rfl) rfl rfl (Nat.le_of_ble_eq_true rfl) ?_
          refine ARun.store rfl (.tmp rfl) (.tmp rfl) (SV.cells_of (by exact ⟨⟨rfl, (fun _ e => by cases e), (fun _ e => by cases e)⟩, trivial, trivial⟩)) rfl (Nat.le_of_ble_eq_true rfl) vhs_sz_24_2 rfl rfl ?_
          refine ARun.pure (PureOp.assign rfl .bool) rfl rfl (Nat.le_of_ble_eq_true rfl) ?_
          refine ARun.nil ?_
          rw [headRV_no hno]
          exact AW.ret (show ∃ s t, ResL _ _ [.cell 2 24, .tmp 3] s ∧ TvS _ (ofLeaf t) 0 s _ from ⟨_, fun a b => 1000, .inr (.inl ⟨_, _, _, _, rfl, .cells rfl vhs_ag_24_2 rfl rfl (Nat.le_of_ble_eq_true rfl) (Nat.le_of_ble_eq_true rfl), .tmp rfl, rfl⟩), ⟨⟨.nil, .int, trivial⟩, .bool⟩⟩)
        · have _u := True.intro
          have hH : HeadOf s (⟨(spHead s k).rows, (Rd.intL (bs ((Rd.cutL 10 s.data.toList).getD 0 [])).data.toList).1⟩ : GHead) := ⟨hs2, hgF, by simpa using hb19⟩
          refine AW.skip ?_
          refine AW.seq ?_
          refine AW.region ?_
          refine ARun.pure (PureOp.loadPtrAgg rfl (.tmp rfl) vhs_ag_24_2 rfl rfl (Nat.le_of_ble_eq_true rfl) (Nat.le_of_ble_eq_true rfl)) rfl rfl (Nat.le_of_ble_eq_true rfl) ?_
          refine ARun.prod (K := 8) rfl (v_l13Own (⟨(spHead s k).rows, (Rd.intL (bs ((Rd.cutL 10 s.data.toList).getD 0 [])).data.toList).1⟩ : GHead) (hd_ok (h := (⟨(spHead s k).rows, (Rd.intL (bs ((Rd.cutL 10 s.data.toList).getD 0 [])).data.toList).1⟩ : GHead)) hgE)) ⟨rfl, (by repeat first | exact trivial | refine ⟨by decide, by first | rfl | exact trivial | (intro a_ b_; first | exact getD_no rfl | exact rowC0_no rfl _ _ | ((try dsimp only); (repeat' split) <;> first | rfl | exact rowC0_no rfl _ _ | exact getD_no rfl)), ?_⟩)⟩ ⟨⟨_, (.tmp rfl), ⟨(.own rfl rfl (Nat.le_refl _) (fun i j hi hj => (match j, hj with | 0, _ => .str | 1, _ => (Vw.cast (Vw.tre rfl hi) rfl) | _ + 2, h => absurd h (by omega)))), .int, trivial⟩⟩, trivial⟩ vhs_ca_15 rfl rfl rfl rfl rfl (Nat.le_of_ble_eq_true rfl) ?_
          refine ARun.store rfl (.tmp rfl) (.tmp rfl) (SV.cells_of (by exact ⟨trivial, trivial, trivial⟩)) rfl (Nat.le_of_ble_eq_true rfl) vhs_sz_24_2 rfl rfl ?_
          refine ARun.pure (PureOp.assign rfl .bool) rfl rfl (Nat.le_of_ble_eq_true rfl) ?_
          refine ARun.nil ?_
          rw [headRV_yes hH]
          exact AW.ret (show ∃ s t, ResL _ _ [.cell 2 24, .tmp 3] s ∧ TvS _ (ofLeaf t) 0 s _ from ⟨_, fun a b => if a = 8 then 0 else 1000, .inr (.inl ⟨_, _, _, _, rfl, .cells rfl vhs_ag_24_2 rfl rfl (Nat.le_of_ble_eq_true rfl) (Nat.le_of_ble_eq_true rfl), .tmp rfl, rfl⟩), ⟨⟨(Tv.cast (Tv.tre rfl (Nat.le_of_ble_eq_true rfl) (by rfl)) rfl), .int, trivial⟩, .bool⟩⟩)
end Go.Proofs.YtonfeiloekofdaaDoor


/-
  Marks.
-/
namespace Go.Proofs.YtonfeiloekofdaaDoor
open Go.ChangeShapes Go.WideShapes Go.ChangeAt Go.RowKit Go.BigFrame Go.Deep
set_option linter.unusedVariables false
set_option linter.unusedSimpArgs false
theorem vq_ca_18 : callB Tryd.prog 18 = true := by kernel_rfl
theorem vq_ca_30 : callB Tryd.prog 30 = true := by kernel_rfl
theorem vq_ca_31 : callB Tryd.prog 31 = true := by kernel_rfl
theorem vq_el_22_2 : elemB Tryd.prog 22 2 = true := by kernel_rfl
theorem vq_el_47_2 : elemB Tryd.prog 47 2 = true := by kernel_rfl
theorem vq_fi_24_0_0 : fieldB Tryd.prog 24 0 0 = true := by kernel_rfl
theorem vq_fi_49_0_0 : fieldB Tryd.prog 49 0 0 = true := by kernel_rfl
theorem vq_fi_49_1_1 : fieldB Tryd.prog 49 1 1 = true := by kernel_rfl
theorem vq_fi_51_0_0 : fieldB Tryd.prog 51 0 0 = true := by kernel_rfl
theorem vq_fi_51_1_1 : fieldB Tryd.prog 51 1 1 = true := by kernel_rfl
theorem vq_pl_22 : plainB Tryd.prog 22 = true := by kernel_rfl
theorem vq_pl_47 : plainB Tryd.prog 47 = true := by kernel_rfl
theorem vq_sl_22 : sliceB Tryd.prog 22 = true := by kernel_rfl
theorem vq_sl_47 : sliceB Tryd.prog 47 = true := by kernel_rfl
theorem vq_sz_3_1 : sizeB Tryd.prog 3 1 = true := by kernel_rfl
theorem vq_sz_9_1 : sizeB Tryd.prog 9 1 = true := by kernel_rfl
theorem digTo_size : ∀ (d f q : Nat) (s : ByteArray), q < 10 ^ d → q ≤ f → (digTo f q s).size ≤ s.size + d
  | 0, f, q, s, hq, _ => by
    obtain rfl : q = 0 := by simpa using hq
    rw [digTo_zero]; omega
  | d + 1, f, q, s, hq, hf => by
    by_cases h : 0 < q
    · rw [digTo_step h hf]
      have h1 : q / 10 < 10 ^ d := by rw [Nat.pow_succ] at hq; omega
      have h2 := digTo_size d (f - 1) (q / 10) ((⟨#[UInt8.ofNat (48 + q % 10)]⟩ : ByteArray) ++ s) h1 (by omega)
      rw [ByteArray.size_append] at h2
      have c : (⟨#[UInt8.ofNat (48 + q % 10)]⟩ : ByteArray).size = 1 := rfl
      omega
    · obtain rfl : q = 0 := by omega
      rw [digTo_zero]; omega
theorem mkText_size {k : Nat} (h : k ≤ 1000000000) : (mkText k).size ≤ 20 := by
  have h1 := digTo_size 10 k k ⟨#[]⟩ (by omega) (Nat.le_refl _)
  unfold mkText
  rw [ByteArray.size_append]
  have c : (⟨#[109]⟩ : ByteArray).size = 1 := rfl
  have c0 : (⟨#[]⟩ : ByteArray).size = 0 := rfl
  omega
theorem v_markText (k : Nat) (hk : 0 < k) (h : k ≤ 1000000000) : Fn Tryd.prog 30 [.one (.int .i64 (k : Int))] (.one (.str (mkText k))) := by
  intro w S vs hS hd
  obtain ⟨v, vs1, rfl, h1, h2⟩ := hd
  obtain rfl : vs1 = [] := h2
  have h1 : v = .int .i64 (k : Int) := h1
  subst h1
  exact (markText_any k hk h w).mono fun e w' ⟨he, _, hb⟩ => ⟨he, hb⟩

theorem g_markSampleS (x : List GSample) (a : Nat) (ha : 0 < a ∧ a + ctL crSample x ≤ 900000000) : FnG Tryd.prog 31 [.one (.own 1000000 2 x.length), .one (.int .i64 (a : Int))] [(1000000, .arr 2 x.length (fun i j => nmA 1000001 (i * 2 + j) (ceSample (x.getD i (default : GSample)) j))), (1000001, .trees (x.length * 2) (fun _ => .int .i64 0))] (.one (.int .i64 ((a + ctL crSample x : Nat) : Int))) [(1000000, .arr 2 x.length (fun i j => nmA 1000001 (i * 2 + j) (ceSample ((mkL crSample mrSample x a).getD i (default : GSample)) j))), (1000001, .trees (x.length * 2) (fun _ => .int .i64 0))] := by
  obtain ⟨ha0, ha1⟩ := ha
  refine FnG.of_body (fn := Tryd.f31) Tryd.func31 rfl (Nat.le_of_ble_eq_true rfl) ?_
  intro w0
  show AW _ 27 _ _ _ _
  refine AW.boundO (t := 0) rfl fun hx => ?_
  refine AW.seq ?_
  refine AW.region ?_
  refine ARun.pure (PureOp.assign rfl .int) rfl rfl (Nat.le_of_ble_eq_true rfl) ?_
  refine ARun.nil ?_
  refine AW.seq ?_
  refine AW.seq ?_
  refine AW.region ?_
  refine ARun.pure (PureOp.assign rfl .int) rfl rfl (Nat.le_of_ble_eq_true rfl) ?_
  refine ARun.nil ?_
  refine AW.block ?_
  refine AW.loop (ι := Nat) (fun k => ⟨[(0, .one (.own 1000000 2 x.length)), (1, .one (.int .i64 ((a + ((x.take k).map crSample).sum : Nat) : Int))), (5, .one (.int .i64 (k : Int)))], [(1000000, .arr 2 x.length (fun i j => nmA 1000001 (i * 2 + j) (ceSample ((mixL crSample mrSample x a k).getD i (default : GSample)) j))), (1000001, .trees (x.length * 2) (fun _ => .int .i64 0))]⟩) (fun k => k ≤ x.length) (fun k => x.length - k) 0 (Nat.zero_le _) ⟨⟨⟨_, rfl, rfl⟩, ⟨_, rfl, by simp⟩, ⟨_, rfl, rfl⟩, trivial⟩, ⟨⟨_, rfl, rfl, Nat.le_refl _, fun i j _ _ => by rw [mix_zero]⟩, ⟨_, rfl, fun _ _ => rfl⟩, trivial⟩⟩ ?_
  intro k hk
  refine AW.seq ?_
  refine AW.seq ?_
  refine AW.region ?_
  refine ARun.pure (PureOp.move rfl (.tmp rfl)) rfl rfl (Nat.le_of_ble_eq_true rfl) ?_
  refine ARun.pure (PureOp.move rfl (.tmp rfl)) rfl rfl (Nat.le_of_ble_eq_true rfl) ?_
  refine ARun.pure (PureOp.lenOwn rfl (.tmp rfl) vq_sl_47) rfl rfl (Nat.le_of_ble_eq_true rfl) ?_
  refine ARun.pure (PureOp.intOp rfl (.tmp rfl) (.tmp rfl) rfl) rfl rfl (Nat.le_of_ble_eq_true rfl) ?_
  refine ARun.nil ?_
  refine AW.cond (.tmp rfl) (fun hb1 => ?_) (fun hb1 => ?_)
  · have _u := True.intro
    replace hb1 := of_decide_eq_true hb1
    have hkl : k < x.length := by omega
    obtain ⟨hst, hsm⟩ := ct_step (ct := crSample) (default : GSample) hkl
    have hce : crSample (x.getD k (default : GSample)) = 0 + 1 + 1 := rfl
    refine AW.skip ?_
    refine AW.seq ?_
    refine AW.block ?_
    refine AW.seq ?_
    refine AW.region ?_
    refine ARun.pure (PureOp.move rfl (.tmp rfl)) rfl rfl (Nat.le_of_ble_eq_true rfl) ?_
    refine ARun.pure (PureOp.move rfl (.tmp rfl)) rfl rfl (Nat.le_of_ble_eq_true rfl) ?_
    refine ARun.pure (PureOp.move rfl (.tmp rfl)) rfl rfl (Nat.le_of_ble_eq_true rfl) ?_
    refine ARun.pure (PureOp.indexOwn (i := k) rfl (.tmp rfl) vq_el_47_2 (.tmp rfl) rfl (by omega)) rfl rfl (Nat.le_of_ble_eq_true rfl) ?_
    refine ARun.pure (PureOp.fieldPtr rfl (.tmp rfl) vq_fi_51_0_0) rfl rfl (Nat.le_of_ble_eq_true rfl) ?_
    refine ARun.storeArr rfl (.tmp rfl) (.tmp rfl) trivial rfl (show k < x.length from by omega) (Nat.le_of_ble_eq_true rfl) vq_sz_3_1 rfl rfl ?_
    refine ARun.nil ?_
    refine AW.seq ?_
    refine AW.region ?_
    refine ARun.pure (PureOp.move rfl (.tmp rfl)) rfl rfl (Nat.le_of_ble_eq_true rfl) ?_
    refine ARun.pure (PureOp.add (c := ((a + ((x.take k).map crSample).sum + 1 : Nat) : Int)) rfl (.tmp rfl) .int (by rw [wrap_id (by omega) (by omega)]; omega)) rfl rfl (Nat.le_of_ble_eq_true rfl) ?_
    refine ARun.pure (PureOp.assign rfl (.tmp rfl)) rfl rfl (Nat.le_of_ble_eq_true rfl) ?_
    refine ARun.nil ?_
    refine AW.seq ?_
    refine AW.region ?_
    refine ARun.pure (PureOp.move rfl (.tmp rfl)) rfl rfl (Nat.le_of_ble_eq_true rfl) ?_
    refine ARun.pure (PureOp.move rfl (.tmp rfl)) rfl rfl (Nat.le_of_ble_eq_true rfl) ?_
    refine ARun.pure (PureOp.move rfl (.tmp rfl)) rfl rfl (Nat.le_of_ble_eq_true rfl) ?_
    refine ARun.pure (PureOp.indexOwn (i := k) rfl (.tmp rfl) vq_el_47_2 (.tmp rfl) rfl (by omega)) rfl rfl (Nat.le_of_ble_eq_true rfl) ?_
    refine ARun.pure (PureOp.fieldPtr rfl (.tmp rfl) vq_fi_51_1_1) rfl rfl (Nat.le_of_ble_eq_true rfl) ?_
    refine ARun.storeArr rfl (.tmp rfl) (.tmp rfl) trivial rfl (show k < x.length from by omega) (Nat.le_of_ble_eq_true rfl) vq_sz_3_1 rfl rfl ?_
    refine ARun.nil ?_
    refine AW.region ?_
    refine ARun.pure (PureOp.move rfl (.tmp rfl)) rfl rfl (Nat.le_of_ble_eq_true rfl) ?_
    refine ARun.pure (PureOp.add (c := ((a + ((x.take k).map crSample).sum + 1 + 1 : Nat) : Int)) rfl (.tmp rfl) .int (by rw [wrap_id (by omega) (by omega)]; omega)) rfl rfl (Nat.le_of_ble_eq_true rfl) ?_
    refine ARun.pure (PureOp.assign rfl (.tmp rfl)) rfl rfl (Nat.le_of_ble_eq_true rfl) ?_
    refine ARun.nil ?_
    refine AW.region ?_
    refine ARun.pure (PureOp.move rfl (.tmp rfl)) rfl rfl (Nat.le_of_ble_eq_true rfl) ?_
    refine ARun.pure (PureOp.add (c := ((k + 1 : Nat) : Int)) rfl (.tmp rfl) .int (by rw [wrap_id (by omega) (by omega)]; omega)) rfl rfl (Nat.le_of_ble_eq_true rfl) ?_
    refine ARun.pure (PureOp.assign rfl (.tmp rfl)) rfl rfl (Nat.le_of_ble_eq_true rfl) ?_
    refine ARun.nil ?_
    exact ⟨k + 1, by omega, by dsimp only; omega, ⟨⟨⟨_, rfl, rfl⟩, ⟨_, rfl, congrArg (fun z : Nat => SV.one (.int .i64 (z : Int))) (by omega)⟩, ⟨_, rfl, rfl⟩, trivial⟩, ⟨⟨_, rfl, rfl, Nat.le_refl _, fun i j hi (hj : j < 2) => by
      by_cases h : i = k
      · subst h; simp only [AObj.f, true_and, mix_new (default : GSample) hkl]; exact (match j, hj with | 0, _ => rfl | 1, _ => rfl | _ + 2, h => absurd h (by omega))
      · simp only [AObj.f, h, false_and, if_false, mix_old (default : GSample) hkl h]⟩, ⟨_, rfl, fun _ _ => rfl⟩, trivial⟩⟩⟩
  · have _u := True.intro
    replace hb1 := of_decide_eq_false hb1
    have hkl : ¬ k < x.length := by omega
    refine AW.exit ?_
    refine AW.seq ?_
    refine AW.region ?_
    refine ARun.pure (PureOp.move rfl (.tmp rfl)) rfl rfl (Nat.le_of_ble_eq_true rfl) ?_
    refine ARun.pure (PureOp.assign rfl (.tmp rfl)) rfl rfl (Nat.le_of_ble_eq_true rfl) ?_
    refine ARun.nil ?_
    refine AW.ret (show ResL _ _ [.tmp 4] _ ∧ HeapLe _ _ from ⟨resI rfl ?_, ⟨⟨_, rfl, rfl, Nat.le_refl _, fun i j _ _ => by rw [mix_all hkl]⟩, ⟨_, rfl, fun _ _ => rfl⟩, trivial⟩⟩)
    rw [show ctL crSample x = _ from (ct_end hkl).symm]

theorem m_SampleS (x : List GSample) (a : Nat) (ha : 0 < a ∧ a + ctL crSample x ≤ 900000000) : FnM Tryd.prog 31 (.one (.lst 2 x.length (fun i0 j0 => ([.int .i64 ((x.getD i0 (default : GSample)).at_), .int .i64 ((x.getD i0 (default : GSample)).value)] : List AV).getD j0 (.con undef)))) [.one (.int .i64 (a : Int))] (.one (.int .i64 ((a + ctL crSample x : Nat) : Int))) (.one (.lst 2 ((mkL crSample mrSample x a).length) (fun i0 j0 => ([.int .i64 (((mkL crSample mrSample x a).getD i0 (default : GSample)).at_), .int .i64 (((mkL crSample mrSample x a).getD i0 (default : GSample)).value)] : List AV).getD j0 (.con undef)))) := by
  have h := FnM.ofRow (r := .one (.int .i64 ((a + ctL crSample x : Nat) : Int))) (args := [.one (.int .i64 (a : Int))]) (g := fun i j => ceSample (x.getD i (default : GSample)) j) (g' := fun i j => ceSample ((mkL crSample mrSample x a).getD i (default : GSample)) j) trivial (fun s hs => by simp only [List.mem_singleton] at hs; subst hs; trivial) (by decide) (fun i j hi hj => ⟨rfl, match j, hj with | 0, _ => rfl | 1, _ => rfl | _ + 2, h => absurd h (by omega)⟩) (fun i j hi hj => ⟨rfl, match j, hj with | 0, _ => fun h => by cases h | 1, _ => fun h => by cases h | _ + 2, h => absurd h (by omega)⟩) (fun i j hi hj => match j, hj with | 0, _ => rfl | 1, _ => rfl | _ + 2, h => absurd h (by omega)) (g_markSampleS x a ha)
  have hl : (mkL crSample mrSample x a).length = x.length := mkL_len
  show FnM _ _ _ _ _ (.one (.lst 2 (mkL crSample mrSample x a).length (fun i j => ceSample ((mkL crSample mrSample x a).getD i (default : GSample)) j)))
  rw [hl]; exact h

theorem g_markRowS (x : List GRow) (a : Nat) (ha : 0 < a ∧ a + ctL crRow x ≤ 900000000) : FnG Tryd.prog 18 [.one (.own 1000000 2 x.length), .one (.int .i64 (a : Int))] [(1000000, .arr 2 x.length (fun i j => nmA 1000001 (i * 2 + j) (ceRow (x.getD i (default : GRow)) j))), (1000001, .trees (x.length * 2) (famX 2 (fun i j => lonly (ceRow (x.getD i (default : GRow)) j))))] (.one (.int .i64 ((a + ctL crRow x : Nat) : Int))) [(1000000, .arr 2 x.length (fun i j => nmA 1000001 (i * 2 + j) (ceRow ((mkL crRow mrRow x a).getD i (default : GRow)) j))), (1000001, .trees (x.length * 2) (famX 2 (fun i j => lonly (ceRow ((mkL crRow mrRow x a).getD i (default : GRow)) j))))] := by
  obtain ⟨ha0, ha1⟩ := ha
  refine FnG.of_body (fn := Tryd.f18) Tryd.func18 rfl (Nat.le_of_ble_eq_true rfl) ?_
  intro w0
  show AW _ 28 _ _ _ _
  refine AW.boundO (t := 0) rfl fun hx => ?_
  refine AW.seq ?_
  refine AW.region ?_
  refine ARun.pure (PureOp.assign rfl .int) rfl rfl (Nat.le_of_ble_eq_true rfl) ?_
  refine ARun.nil ?_
  refine AW.seq ?_
  refine AW.seq ?_
  refine AW.region ?_
  refine ARun.pure (PureOp.assign rfl .int) rfl rfl (Nat.le_of_ble_eq_true rfl) ?_
  refine ARun.nil ?_
  refine AW.block ?_
  refine AW.loop (ι := Nat) (fun k => ⟨[(0, .one (.own 1000000 2 x.length)), (1, .one (.int .i64 ((a + ((x.take k).map crRow).sum : Nat) : Int))), (5, .one (.int .i64 (k : Int)))], [(1000000, .arr 2 x.length (fun i j => nmA 1000001 (i * 2 + j) (ceRow ((mixL crRow mrRow x a k).getD i (default : GRow)) j))), (1000001, .trees (x.length * 2) (famX 2 (fun i j => lonly (ceRow ((mixL crRow mrRow x a k).getD i (default : GRow)) j))))]⟩) (fun k => k ≤ x.length) (fun k => x.length - k) 0 (Nat.zero_le _) ⟨⟨⟨_, rfl, rfl⟩, ⟨_, rfl, by simp⟩, ⟨_, rfl, rfl⟩, trivial⟩, ⟨⟨_, rfl, rfl, Nat.le_refl _, fun i j _ _ => by rw [mix_zero]⟩, ⟨_, rfl, fun q _ => by rw [mix_zero]⟩, trivial⟩⟩ ?_
  intro k hk
  refine AW.seq ?_
  refine AW.seq ?_
  refine AW.region ?_
  refine ARun.pure (PureOp.move rfl (.tmp rfl)) rfl rfl (Nat.le_of_ble_eq_true rfl) ?_
  refine ARun.pure (PureOp.move rfl (.tmp rfl)) rfl rfl (Nat.le_of_ble_eq_true rfl) ?_
  refine ARun.pure (PureOp.lenOwn rfl (.tmp rfl) vq_sl_22) rfl rfl (Nat.le_of_ble_eq_true rfl) ?_
  refine ARun.pure (PureOp.intOp rfl (.tmp rfl) (.tmp rfl) rfl) rfl rfl (Nat.le_of_ble_eq_true rfl) ?_
  refine ARun.nil ?_
  refine AW.cond (.tmp rfl) (fun hb1 => ?_) (fun hb1 => ?_)
  · have _u := True.intro
    replace hb1 := of_decide_eq_true hb1
    have hkl : k < x.length := by omega
    obtain ⟨hst, hsm⟩ := ct_step (ct := crRow) (default : GRow) hkl
    have hce : crRow (x.getD k (default : GRow)) = 0 + 1 + ctL crSample ((x.getD k (default : GRow)).samples) := rfl
    refine AW.skip ?_
    refine AW.seq ?_
    refine AW.block ?_
    refine AW.seq ?_
    refine AW.region ?_
    refine ARun.pure (PureOp.move rfl (.tmp rfl)) rfl rfl (Nat.le_of_ble_eq_true rfl) ?_
    refine ARun.pure (PureOp.move rfl (.tmp rfl)) rfl rfl (Nat.le_of_ble_eq_true rfl) ?_
    refine ARun.pure (PureOp.move rfl (.tmp rfl)) rfl rfl (Nat.le_of_ble_eq_true rfl) ?_
    refine ARun.pure (PureOp.call rfl (v_markText (a + ((x.take k).map crRow).sum) (by omega) (by omega)) ⟨⟨_, (.tmp rfl), .int⟩, trivial⟩ vq_ca_30 (Nat.le_trans (mkText_size (by omega)) (by decide))) rfl rfl (Nat.le_of_ble_eq_true rfl) ?_
    refine ARun.pure (PureOp.indexOwn (i := k) rfl (.tmp rfl) vq_el_22_2 (.tmp rfl) rfl (by omega)) rfl rfl (Nat.le_of_ble_eq_true rfl) ?_
    refine ARun.pure (PureOp.fieldPtr rfl (.tmp rfl) vq_fi_49_0_0) rfl rfl (Nat.le_of_ble_eq_true rfl) ?_
    refine ARun.storeArr rfl (.tmp rfl) (.tmp rfl) trivial rfl (show k < x.length from by omega) (Nat.le_of_ble_eq_true rfl) vq_sz_9_1 rfl rfl ?_
    refine ARun.nil ?_
    refine AW.seq ?_
    refine AW.region ?_
    refine ARun.pure (PureOp.move rfl (.tmp rfl)) rfl rfl (Nat.le_of_ble_eq_true rfl) ?_
    refine ARun.pure (PureOp.add (c := ((a + ((x.take k).map crRow).sum + 1 : Nat) : Int)) rfl (.tmp rfl) .int (by rw [wrap_id (by omega) (by omega)]; omega)) rfl rfl (Nat.le_of_ble_eq_true rfl) ?_
    refine ARun.pure (PureOp.assign rfl (.tmp rfl)) rfl rfl (Nat.le_of_ble_eq_true rfl) ?_
    refine ARun.nil ?_
    refine AW.region ?_
    refine ARun.pure (PureOp.move rfl (.tmp rfl)) rfl rfl (Nat.le_of_ble_eq_true rfl) ?_
    refine ARun.pure (PureOp.move rfl (.tmp rfl)) rfl rfl (Nat.le_of_ble_eq_true rfl) ?_
    refine ARun.pure (PureOp.indexOwn (i := k) rfl (.tmp rfl) vq_el_22_2 (.tmp rfl) rfl (by omega)) rfl rfl (Nat.le_of_ble_eq_true rfl) ?_
    refine ARun.pure (PureOp.fieldPtr rfl (.tmp rfl) vq_fi_49_1_1) rfl rfl (Nat.le_of_ble_eq_true rfl) ?_
    refine ARun.pure (PureOp.loadPtrE (y := .tre 1000001 (k * 2 + 1)) rfl (.tmp rfl) vq_pl_47 rfl rfl (show k < x.length from by omega) (Nat.le_of_ble_eq_true rfl) (by simp only [AObj.f]; (repeat rw [if_neg (by omega)]); rfl)) rfl rfl (Nat.le_of_ble_eq_true rfl) ?_
    refine ARun.pure (PureOp.move rfl (.tmp rfl)) rfl rfl (Nat.le_of_ble_eq_true rfl) ?_
    refine ARun.mark (id := 1000001) (q0 := k * 2 + 1) (X' := fun q => if q = k * 2 + 1 then .lst 2 ((mkL crSample mrSample ((x.getD k (default : GRow)).samples) (a + ((x.take k).map crRow).sum + 1)).length) (fun i0 j0 => ([.int .i64 (((mkL crSample mrSample ((x.getD k (default : GRow)).samples) (a + ((x.take k).map crRow).sum + 1)).getD i0 (default : GSample)).at_), .int .i64 (((mkL crSample mrSample ((x.getD k (default : GRow)).samples) (a + ((x.take k).map crRow).sum + 1)).getD i0 (default : GSample)).value)] : List AV).getD j0 (.con undef)) else (famX 2 (fun i j => lonly (ceRow ((mixL crRow mrRow x a k).getD i (default : GRow)) j))) q) rfl (m_SampleS ((x.getD k (default : GRow)).samples) (a + ((x.take k).map crRow).sum + 1) ⟨by omega, by omega⟩) vq_ca_31 trivial (.tmp rfl) rfl rfl rfl (cell_lt (sz := 2) (j := 1) hkl (by decide)) (fun p hp _ => match p, hp with | 0, _ => (by show (famX 2 (fun i j => lonly (ceRow ((mixL crRow mrRow x a k).getD i (default : GRow)) j))) (k * 2 + 1) = _; (try dsimp only); (repeat rw [if_neg (by omega)]); rw [famX_at (sz := 2) (j := 1) (by decide), mix_at (default : GRow) hkl]; rfl) | _ + 1, h => absurd h (by simp [SV.leaves])) rfl trivial (fun p hp _ => match p, hp with | 0, _ => if_pos rfl | _ + 1, h => absurd h (by simp [SV.leaves])) (fun q _ hne => if_neg (fun e => hne 0 (Nat.zero_lt_one) rfl e)) ⟨(.tmp rfl), trivial, trivial⟩ rfl rfl (Nat.le_of_ble_eq_true rfl) ?_
    refine ARun.pure (PureOp.assign rfl (.tmp rfl)) rfl rfl (Nat.le_of_ble_eq_true rfl) ?_
    refine ARun.nil ?_
    refine AW.region ?_
    refine ARun.pure (PureOp.move rfl (.tmp rfl)) rfl rfl (Nat.le_of_ble_eq_true rfl) ?_
    refine ARun.pure (PureOp.add (c := ((k + 1 : Nat) : Int)) rfl (.tmp rfl) .int (by rw [wrap_id (by omega) (by omega)]; omega)) rfl rfl (Nat.le_of_ble_eq_true rfl) ?_
    refine ARun.pure (PureOp.assign rfl (.tmp rfl)) rfl rfl (Nat.le_of_ble_eq_true rfl) ?_
    refine ARun.nil ?_
    exact ⟨k + 1, by omega, by dsimp only; omega, ⟨⟨⟨_, rfl, rfl⟩, ⟨_, rfl, congrArg (fun z : Nat => SV.one (.int .i64 (z : Int))) (by omega)⟩, ⟨_, rfl, rfl⟩, trivial⟩, ⟨⟨_, rfl, rfl, Nat.le_refl _, fun i j hi (hj : j < 2) => by
      by_cases h : i = k
      · subst h; simp only [AObj.f, true_and, mix_new (default : GRow) hkl]; exact (match j, hj with | 0, _ => rfl | 1, _ => rfl | _ + 2, h => absurd h (by omega))
      · simp only [AObj.f, h, false_and, if_false, mix_old (default : GRow) hkl h]⟩, ⟨_, rfl, fun q hq => famX_ext (X := fun q => if q = k * 2 + 1 then .lst 2 ((mkL crSample mrSample ((x.getD k (default : GRow)).samples) (a + ((x.take k).map crRow).sum + 1)).length) (fun i0 j0 => ([.int .i64 (((mkL crSample mrSample ((x.getD k (default : GRow)).samples) (a + ((x.take k).map crRow).sum + 1)).getD i0 (default : GSample)).at_), .int .i64 (((mkL crSample mrSample ((x.getD k (default : GRow)).samples) (a + ((x.take k).map crRow).sum + 1)).getD i0 (default : GSample)).value)] : List AV).getD j0 (.con undef)) else (famX 2 (fun i j => lonly (ceRow ((mixL crRow mrRow x a k).getD i (default : GRow)) j))) q) (g := fun i j => lonly (ceRow ((mixL crRow mrRow x a (k + 1)).getD i (default : GRow)) j)) (by decide) (fun i j hi (hj : j < 2) => by
      (try dsimp only)
      by_cases h : i = k
      · subst h; rw [upd_at hj (show 1 < 2 by decide)]; simp only [famX_at hj, true_and, mix_new (default : GRow) hkl, mix_at (default : GRow) hkl]; exact (match j, hj with | 0, _ => rfl | 1, _ => rfl | _ + 2, h => absurd h (by omega))
      · rw [upd_at hj (show 1 < 2 by decide)]; simp only [famX_at hj, h, false_and, if_false, mix_old (default : GRow) hkl h]) q hq⟩, trivial⟩⟩⟩
  · have _u := True.intro
    replace hb1 := of_decide_eq_false hb1
    have hkl : ¬ k < x.length := by omega
    refine AW.exit ?_
    refine AW.seq ?_
    refine AW.region ?_
    refine ARun.pure (PureOp.move rfl (.tmp rfl)) rfl rfl (Nat.le_of_ble_eq_true rfl) ?_
    refine ARun.pure (PureOp.assign rfl (.tmp rfl)) rfl rfl (Nat.le_of_ble_eq_true rfl) ?_
    refine ARun.nil ?_
    refine AW.ret (show ResL _ _ [.tmp 4] _ ∧ HeapLe _ _ from ⟨resI rfl ?_, ⟨⟨_, rfl, rfl, Nat.le_refl _, fun i j _ _ => by rw [mix_all hkl]⟩, ⟨_, rfl, fun q _ => by rw [mix_all hkl]⟩, trivial⟩⟩)
    rw [show ctL crRow x = _ from (ct_end hkl).symm]

theorem m_RowS (x : List GRow) (a : Nat) (ha : 0 < a ∧ a + ctL crRow x ≤ 900000000) : FnM Tryd.prog 18 (.one (.lst 2 x.length (fun i0 j0 => ([.str ((x.getD i0 (default : GRow)).name), .lst 2 (((x.getD i0 (default : GRow)).samples).length) (fun i1 j1 => ([.int .i64 ((((x.getD i0 (default : GRow)).samples).getD i1 (default : GSample)).at_), .int .i64 ((((x.getD i0 (default : GRow)).samples).getD i1 (default : GSample)).value)] : List AV).getD j1 (.con undef))] : List AV).getD j0 (.con undef)))) [.one (.int .i64 (a : Int))] (.one (.int .i64 ((a + ctL crRow x : Nat) : Int))) (.one (.lst 2 ((mkL crRow mrRow x a).length) (fun i0 j0 => ([.str (((mkL crRow mrRow x a).getD i0 (default : GRow)).name), .lst 2 ((((mkL crRow mrRow x a).getD i0 (default : GRow)).samples).length) (fun i1 j1 => ([.int .i64 (((((mkL crRow mrRow x a).getD i0 (default : GRow)).samples).getD i1 (default : GSample)).at_), .int .i64 (((((mkL crRow mrRow x a).getD i0 (default : GRow)).samples).getD i1 (default : GSample)).value)] : List AV).getD j1 (.con undef))] : List AV).getD j0 (.con undef)))) := by
  have h := FnM.ofRow (r := .one (.int .i64 ((a + ctL crRow x : Nat) : Int))) (args := [.one (.int .i64 (a : Int))]) (g := fun i j => ceRow (x.getD i (default : GRow)) j) (g' := fun i j => ceRow ((mkL crRow mrRow x a).getD i (default : GRow)) j) trivial (fun s hs => by simp only [List.mem_singleton] at hs; subst hs; trivial) (by decide) (fun i j hi hj => ⟨rfl, famX_at hj⟩) (fun i j hi hj => ⟨rfl, fun h => (famX_at hj).trans (lonly_L h)⟩) (fun i j hi hj => match j, hj with | 0, _ => rfl | 1, _ => rfl | _ + 2, h => absurd h (by omega)) (g_markRowS x a ha)
  have hl : (mkL crRow mrRow x a).length = x.length := mkL_len
  show FnM _ _ _ _ _ (.one (.lst 2 (mkL crRow mrRow x a).length (fun i j => ceRow ((mkL crRow mrRow x a).getD i (default : GRow)) j)))
  rw [hl]; exact h

theorem g_markHead (x : GHead) (a : Nat) (ha : 0 < a ∧ a + cvHead x ≤ 900000000) : FnG Tryd.prog 7 [.agg [.tre 1000000 0, .int .i64 x.offset], .one (.int .i64 (a : Int))] [(1000000, .trees 2 (fun p => ([.lst 2 x.rows.length (fun i0 j0 => ([.str ((x.rows.getD i0 (default : GRow)).name), .lst 2 (((x.rows.getD i0 (default : GRow)).samples).length) (fun i1 j1 => ([.int .i64 ((((x.rows.getD i0 (default : GRow)).samples).getD i1 (default : GSample)).at_), .int .i64 ((((x.rows.getD i0 (default : GRow)).samples).getD i1 (default : GSample)).value)] : List AV).getD j1 (.con undef))] : List AV).getD j0 (.con undef)), .int .i64 x.offset] : List AV).getD p (.con undef)))] (.one (.int .i64 ((a + cvHead x : Nat) : Int))) [(1000000, .trees 2 (fun p => ([.lst 2 (((mvHead x a).rows).length) (fun i0 j0 => ([.str ((((mvHead x a).rows).getD i0 (default : GRow)).name), .lst 2 (((((mvHead x a).rows).getD i0 (default : GRow)).samples).length) (fun i1 j1 => ([.int .i64 ((((((mvHead x a).rows).getD i0 (default : GRow)).samples).getD i1 (default : GSample)).at_), .int .i64 ((((((mvHead x a).rows).getD i0 (default : GRow)).samples).getD i1 (default : GSample)).value)] : List AV).getD j1 (.con undef))] : List AV).getD j0 (.con undef)), .int .i64 ((mvHead x a).offset)] : List AV).getD p (.con undef)))] := by
  obtain ⟨ha0, ha1⟩ := ha
  have hcv : cvHead x = 0 + ctL crRow (x.rows) := rfl
  refine FnG.of_body (fn := Tryd.f7) Tryd.func7 rfl (Nat.le_of_ble_eq_true rfl) ?_
  intro w0
  show AW _ 10 _ _ _ _
  refine AW.seq ?_
  refine AW.region ?_
  refine ARun.box (id := 0) rfl (.tmp rfl) (SV.cells_of (by exact ⟨trivial, trivial, trivial⟩)) ⟨rfl, (by repeat first | exact trivial | refine ⟨by decide, by first | rfl | exact trivial | (intro i j; first | rfl | exact getD_no rfl | (dsimp only; split <;> first | rfl | exact getD_no rfl) | exact scl_no (by apply_assumption) _), ?_⟩)⟩ rfl rfl rfl (Nat.le_of_ble_eq_true rfl) ?_
  refine ARun.pure (PureOp.assign rfl .int) rfl rfl (Nat.le_of_ble_eq_true rfl) ?_
  refine ARun.nil ?_
  refine AW.seq ?_
  refine AW.region ?_
  refine ARun.pure (PureOp.fieldPtr rfl (.tmp rfl) vq_fi_24_0_0) rfl rfl (Nat.le_of_ble_eq_true rfl) ?_
  refine ARun.pure (PureOp.loadPtr rfl (.tmp rfl) vq_pl_22 rfl rfl (Nat.le_of_ble_eq_true rfl) (Nat.le_of_ble_eq_true rfl)) rfl rfl (Nat.le_of_ble_eq_true rfl) ?_
  refine ARun.pure (PureOp.move rfl (.tmp rfl)) rfl rfl (Nat.le_of_ble_eq_true rfl) ?_
  refine ARun.mark (id := 1000000) (q0 := 0) (X' := fun q => if q = 0 then .lst 2 ((mkL crRow mrRow x.rows a).length) (fun i0 j0 => ([.str (((mkL crRow mrRow x.rows a).getD i0 (default : GRow)).name), .lst 2 ((((mkL crRow mrRow x.rows a).getD i0 (default : GRow)).samples).length) (fun i1 j1 => ([.int .i64 (((((mkL crRow mrRow x.rows a).getD i0 (default : GRow)).samples).getD i1 (default : GSample)).at_), .int .i64 (((((mkL crRow mrRow x.rows a).getD i0 (default : GRow)).samples).getD i1 (default : GSample)).value)] : List AV).getD j1 (.con undef))] : List AV).getD j0 (.con undef)) else (fun p => ([.lst 2 x.rows.length (fun i0 j0 => ([.str ((x.rows.getD i0 (default : GRow)).name), .lst 2 (((x.rows.getD i0 (default : GRow)).samples).length) (fun i1 j1 => ([.int .i64 ((((x.rows.getD i0 (default : GRow)).samples).getD i1 (default : GSample)).at_), .int .i64 ((((x.rows.getD i0 (default : GRow)).samples).getD i1 (default : GSample)).value)] : List AV).getD j1 (.con undef))] : List AV).getD j0 (.con undef)), .int .i64 x.offset] : List AV).getD p (.con undef)) q) rfl (m_RowS x.rows a ⟨by omega, by omega⟩) vq_ca_18 trivial (.tmp rfl) rfl rfl rfl (Nat.le_of_ble_eq_true rfl) (fun p hp _ => match p, hp with | 0, _ => rfl | _ + 1, h => absurd h (by simp [SV.leaves])) rfl trivial (fun p hp _ => match p, hp with | 0, _ => if_pos rfl | _ + 1, h => absurd h (by simp [SV.leaves])) (fun q _ hne => if_neg (fun e => hne 0 (Nat.zero_lt_one) rfl e)) ⟨(.tmp rfl), trivial, trivial⟩ rfl rfl (Nat.le_of_ble_eq_true rfl) ?_
  refine ARun.pure (PureOp.assign rfl (.tmp rfl)) rfl rfl (Nat.le_of_ble_eq_true rfl) ?_
  refine ARun.nil ?_
  refine AW.seq ?_
  refine AW.region ?_
  refine ARun.pure (PureOp.move rfl (.tmp rfl)) rfl rfl (Nat.le_of_ble_eq_true rfl) ?_
  refine ARun.pure (PureOp.assign rfl (.tmp rfl)) rfl rfl (Nat.le_of_ble_eq_true rfl) ?_
  refine ARun.nil ?_
  refine AW.ret (show ResL _ _ [.tmp 4] _ ∧ HeapLe _ _ from ⟨resI rfl ?_, ⟨⟨_, rfl, fun q hq => match q, hq with | 0, _ => rfl | 1, _ => rfl | _ + 2, h => absurd h (by omega)⟩, trivial⟩⟩)
  omega

theorem m_Head (x : GHead) (a : Nat) (ha : 0 < a ∧ a + cvHead x ≤ 900000000) : FnM Tryd.prog 7 (.agg [.lst 2 x.rows.length (fun i0 j0 => ([.str ((x.rows.getD i0 (default : GRow)).name), .lst 2 (((x.rows.getD i0 (default : GRow)).samples).length) (fun i1 j1 => ([.int .i64 ((((x.rows.getD i0 (default : GRow)).samples).getD i1 (default : GSample)).at_), .int .i64 ((((x.rows.getD i0 (default : GRow)).samples).getD i1 (default : GSample)).value)] : List AV).getD j1 (.con undef))] : List AV).getD j0 (.con undef)), .int .i64 x.offset]) [.one (.int .i64 (a : Int))] (.one (.int .i64 ((a + cvHead x : Nat) : Int))) (.agg [.lst 2 (((mvHead x a).rows).length) (fun i0 j0 => ([.str ((((mvHead x a).rows).getD i0 (default : GRow)).name), .lst 2 (((((mvHead x a).rows).getD i0 (default : GRow)).samples).length) (fun i1 j1 => ([.int .i64 ((((((mvHead x a).rows).getD i0 (default : GRow)).samples).getD i1 (default : GSample)).at_), .int .i64 ((((((mvHead x a).rows).getD i0 (default : GRow)).samples).getD i1 (default : GSample)).value)] : List AV).getD j1 (.con undef))] : List AV).getD j0 (.con undef)), .int .i64 ((mvHead x a).offset)]) :=
  FnM.ofAgg trivial (fun s hs => by simp only [List.mem_singleton] at hs; subst hs; trivial) rfl (fun _ _ h => h) (g_markHead x a ha)
end Go.Proofs.YtonfeiloekofdaaDoor


/-
  What marks left is looked at again.
-/
namespace Go.Proofs.YtonfeiloekofdaaDoor
open Go.ChangeShapes Go.WideShapes Go.ChangeAt Go.RowKit Go.BigFrame Go.Deep
set_option linter.unusedVariables false
set_option linter.unusedSimpArgs false
theorem vh2_ca_19 : callB Tryd.prog 19 = true := by kernel_rfl
theorem vh2_ca_30 : callB Tryd.prog 30 = true := by kernel_rfl
theorem vh2_ca_32 : callB Tryd.prog 32 = true := by kernel_rfl
theorem vh2_el_22_2 : elemB Tryd.prog 22 2 = true := by kernel_rfl
theorem vh2_el_47_2 : elemB Tryd.prog 47 2 = true := by kernel_rfl
theorem vh2_fi_24_0_0 : fieldB Tryd.prog 24 0 0 = true := by kernel_rfl
theorem vh2_fi_49_0_0 : fieldB Tryd.prog 49 0 0 = true := by kernel_rfl
theorem vh2_fi_49_1_1 : fieldB Tryd.prog 49 1 1 = true := by kernel_rfl
theorem vh2_fi_51_0_0 : fieldB Tryd.prog 51 0 0 = true := by kernel_rfl
theorem vh2_fi_51_1_1 : fieldB Tryd.prog 51 1 1 = true := by kernel_rfl
theorem vh2_pl_22 : plainB Tryd.prog 22 = true := by kernel_rfl
theorem vh2_pl_3 : plainB Tryd.prog 3 = true := by kernel_rfl
theorem vh2_pl_47 : plainB Tryd.prog 47 = true := by kernel_rfl
theorem vh2_pl_9 : plainB Tryd.prog 9 = true := by kernel_rfl
theorem vh2_sl_22 : sliceB Tryd.prog 22 = true := by kernel_rfl
theorem vh2_sl_47 : sliceB Tryd.prog 47 = true := by kernel_rfl
theorem h_SampleS (xx yy : List GSample) (a : Nat) (hy : yy = mkL crSample mrSample xx a) (ha : 0 < a ∧ a + ctL crSample xx ≤ 900000000) : Fn Tryd.prog 32 [.one (.lst 2 yy.length (fun i0 j0 => ([.int .i64 ((yy.getD i0 (default : GSample)).at_), .int .i64 ((yy.getD i0 (default : GSample)).value)] : List AV).getD j0 (.con undef))), .one (.int .i64 (a : Int))] (.one (.int .i64 ((a + ctL crSample xx : Nat) : Int))) := by
  obtain ⟨ha0, ha1⟩ := ha
  have hlen : yy.length = xx.length := by rw [hy]; exact mkL_len
  refine Fn.of_body (fn := Tryd.f32) Tryd.func32 rfl (Nat.le_of_ble_eq_true rfl) trivial ?_
  intro w0
  show AW _ 31 _ _ _ _
  refine AW.bound (t := 0) rfl fun hx => ?_
  refine AW.seq ?_
  refine AW.region ?_
  refine ARun.pure (PureOp.assign rfl .int) rfl rfl (Nat.le_of_ble_eq_true rfl) ?_
  refine ARun.nil ?_
  refine AW.seq ?_
  refine AW.seq ?_
  refine AW.region ?_
  refine ARun.pure (PureOp.assign rfl .int) rfl rfl (Nat.le_of_ble_eq_true rfl) ?_
  refine ARun.nil ?_
  refine AW.block ?_
  refine AW.loop (ι := Nat) (fun k => ⟨[(0, .one (.lst 2 yy.length (fun i0 j0 => ([.int .i64 ((yy.getD i0 (default : GSample)).at_), .int .i64 ((yy.getD i0 (default : GSample)).value)] : List AV).getD j0 (.con undef)))), (1, .one (.int .i64 ((a + ((xx.take k).map crSample).sum : Nat) : Int))), (5, .one (.int .i64 (k : Int)))], []⟩) (fun k => k ≤ xx.length) (fun k => xx.length - k) 0 (Nat.zero_le _) ⟨⟨⟨_, rfl, rfl⟩, ⟨_, rfl, by simp⟩, ⟨_, rfl, rfl⟩, trivial⟩, trivial⟩ ?_
  intro k hk
  refine AW.seq ?_
  refine AW.seq ?_
  refine AW.region ?_
  refine ARun.pure (PureOp.move rfl (.tmp rfl)) rfl rfl (Nat.le_of_ble_eq_true rfl) ?_
  refine ARun.pure (PureOp.move rfl (.tmp rfl)) rfl rfl (Nat.le_of_ble_eq_true rfl) ?_
  refine ARun.pure (PureOp.lenLst rfl (.tmp rfl) vh2_sl_47) rfl rfl (Nat.le_of_ble_eq_true rfl) ?_
  refine ARun.pure (PureOp.intOp rfl (.tmp rfl) (.tmp rfl) rfl) rfl rfl (Nat.le_of_ble_eq_true rfl) ?_
  refine ARun.nil ?_
  refine AW.cond (.tmp rfl) (fun hb1 => ?_) (fun hb1 => ?_)
  · have _u := True.intro
    replace hb1 := of_decide_eq_true hb1
    have hkl : k < xx.length := by omega
    obtain ⟨hst, hsm⟩ := ct_step (ct := crSample) (default : GSample) hkl
    have he : yy.getD k (default : GSample) = mrSample (xx.getD k (default : GSample)) (a + ((xx.take k).map crSample).sum) := by rw [hy]; exact mkL_get (default : GSample) hkl
    have hce : crSample (xx.getD k (default : GSample)) = 0 + 1 + 1 := rfl
    refine AW.skip ?_
    refine AW.seq ?_
    refine AW.block ?_
    refine AW.seq ?_
    refine AW.seq ?_
    refine AW.region ?_
    refine ARun.pure (PureOp.move rfl (.tmp rfl)) rfl rfl (Nat.le_of_ble_eq_true rfl) ?_
    refine ARun.pure (PureOp.move rfl (.tmp rfl)) rfl rfl (Nat.le_of_ble_eq_true rfl) ?_
    refine ARun.pure (PureOp.indexLst (i := k) rfl (.tmp rfl) vh2_el_47_2 (.tmp rfl) rfl (by omega)) rfl rfl (Nat.le_of_ble_eq_true rfl) ?_
    refine ARun.pure (PureOp.fieldRef rfl (.tmp rfl) vh2_fi_51_0_0 (Nat.le_of_ble_eq_true rfl)) rfl rfl (Nat.le_of_ble_eq_true rfl) ?_
    refine ARun.pure (PureOp.loadRef rfl (.tmp rfl) vh2_pl_3 (Nat.le_of_ble_eq_true rfl)) rfl rfl (Nat.le_of_ble_eq_true rfl) ?_
    refine ARun.pure (PureOp.move rfl (.tmp rfl)) rfl rfl (Nat.le_of_ble_eq_true rfl) ?_
    refine ARun.pure (PureOp.intOp rfl (.tmp rfl) (.tmp rfl) rfl) rfl rfl (Nat.le_of_ble_eq_true rfl) ?_
    refine ARun.nil ?_
    refine AW.cond (.tmp rfl) (fun hb2 => ?_) (fun hb2 => ?_)
    · have _u := True.intro
      replace hb2 := of_decide_eq_false (of_not hb2)
      exact absurd (by rw [he]; rfl) hb2
      --end
    · have _u := True.intro
      replace hb2 := of_decide_eq_true (not_f hb2)
      refine AW.skip ?_
      refine AW.seq ?_
      refine AW.region ?_
      refine ARun.pure (PureOp.move rfl (.tmp rfl)) rfl rfl (Nat.le_of_ble_eq_true rfl) ?_
      refine ARun.pure (PureOp.add (c := ((a + ((xx.take k).map crSample).sum + 1 : Nat) : Int)) rfl (.tmp rfl) .int (by rw [wrap_id (by omega) (by omega)]; omega)) rfl rfl (Nat.le_of_ble_eq_true rfl) ?_
      refine ARun.pure (PureOp.assign rfl (.tmp rfl)) rfl rfl (Nat.le_of_ble_eq_true rfl) ?_
      refine ARun.nil ?_
      refine AW.seq ?_
      refine AW.seq ?_
      refine AW.region ?_
      refine ARun.pure (PureOp.move rfl (.tmp rfl)) rfl rfl (Nat.le_of_ble_eq_true rfl) ?_
      refine ARun.pure (PureOp.move rfl (.tmp rfl)) rfl rfl (Nat.le_of_ble_eq_true rfl) ?_
      refine ARun.pure (PureOp.indexLst (i := k) rfl (.tmp rfl) vh2_el_47_2 (.tmp rfl) rfl (by omega)) rfl rfl (Nat.le_of_ble_eq_true rfl) ?_
      refine ARun.pure (PureOp.fieldRef rfl (.tmp rfl) vh2_fi_51_1_1 (Nat.le_of_ble_eq_true rfl)) rfl rfl (Nat.le_of_ble_eq_true rfl) ?_
      refine ARun.pure (PureOp.loadRef rfl (.tmp rfl) vh2_pl_3 (Nat.le_of_ble_eq_true rfl)) rfl rfl (Nat.le_of_ble_eq_true rfl) ?_
      refine ARun.pure (PureOp.move rfl (.tmp rfl)) rfl rfl (Nat.le_of_ble_eq_true rfl) ?_
      refine ARun.pure (PureOp.intOp rfl (.tmp rfl) (.tmp rfl) rfl) rfl rfl (Nat.le_of_ble_eq_true rfl) ?_
      refine ARun.nil ?_
      refine AW.cond (.tmp rfl) (fun hb3 => ?_) (fun hb3 => ?_)
      · have _u := True.intro
        replace hb3 := of_decide_eq_false (of_not hb3)
        exact absurd (by rw [he]; rfl) hb3
        --end
      · have _u := True.intro
        replace hb3 := of_decide_eq_true (not_f hb3)
        refine AW.skip ?_
        refine AW.region ?_
        refine ARun.pure (PureOp.move rfl (.tmp rfl)) rfl rfl (Nat.le_of_ble_eq_true rfl) ?_
        refine ARun.pure (PureOp.add (c := ((a + ((xx.take k).map crSample).sum + 1 + 1 : Nat) : Int)) rfl (.tmp rfl) .int (by rw [wrap_id (by omega) (by omega)]; omega)) rfl rfl (Nat.le_of_ble_eq_true rfl) ?_
        refine ARun.pure (PureOp.assign rfl (.tmp rfl)) rfl rfl (Nat.le_of_ble_eq_true rfl) ?_
        refine ARun.nil ?_
        refine AW.region ?_
        refine ARun.pure (PureOp.move rfl (.tmp rfl)) rfl rfl (Nat.le_of_ble_eq_true rfl) ?_
        refine ARun.pure (PureOp.add (c := ((k + 1 : Nat) : Int)) rfl (.tmp rfl) .int (by rw [wrap_id (by omega) (by omega)]; omega)) rfl rfl (Nat.le_of_ble_eq_true rfl) ?_
        refine ARun.pure (PureOp.assign rfl (.tmp rfl)) rfl rfl (Nat.le_of_ble_eq_true rfl) ?_
        refine ARun.nil ?_
        exact ⟨k + 1, by omega, by dsimp only; omega, ⟨⟨⟨_, rfl, rfl⟩, ⟨_, rfl, congrArg (fun z : Nat => SV.one (.int .i64 (z : Int))) (by omega)⟩, ⟨_, rfl, rfl⟩, trivial⟩, trivial⟩⟩
  · have _u := True.intro
    replace hb1 := of_decide_eq_false hb1
    have hkl : ¬ k < xx.length := by omega
    refine AW.exit ?_
    refine AW.seq ?_
    refine AW.region ?_
    refine ARun.pure (PureOp.move rfl (.tmp rfl)) rfl rfl (Nat.le_of_ble_eq_true rfl) ?_
    refine ARun.pure (PureOp.assign rfl (.tmp rfl)) rfl rfl (Nat.le_of_ble_eq_true rfl) ?_
    refine ARun.nil ?_
    refine AW.ret (show ResL _ _ [.tmp 4] _ from resI rfl ?_)
    have hend : ctL crSample xx = ((xx.take k).map crSample).sum := (ct_end hkl).symm
    omega

theorem h_RowS (xx yy : List GRow) (a : Nat) (hy : yy = mkL crRow mrRow xx a) (ha : 0 < a ∧ a + ctL crRow xx ≤ 900000000) : Fn Tryd.prog 19 [.one (.lst 2 yy.length (fun i0 j0 => ([.str ((yy.getD i0 (default : GRow)).name), .lst 2 (((yy.getD i0 (default : GRow)).samples).length) (fun i1 j1 => ([.int .i64 ((((yy.getD i0 (default : GRow)).samples).getD i1 (default : GSample)).at_), .int .i64 ((((yy.getD i0 (default : GRow)).samples).getD i1 (default : GSample)).value)] : List AV).getD j1 (.con undef))] : List AV).getD j0 (.con undef))), .one (.int .i64 (a : Int))] (.one (.int .i64 ((a + ctL crRow xx : Nat) : Int))) := by
  obtain ⟨ha0, ha1⟩ := ha
  have hlen : yy.length = xx.length := by rw [hy]; exact mkL_len
  refine Fn.of_body (fn := Tryd.f19) Tryd.func19 rfl (Nat.le_of_ble_eq_true rfl) trivial ?_
  intro w0
  show AW _ 32 _ _ _ _
  refine AW.bound (t := 0) rfl fun hx => ?_
  refine AW.seq ?_
  refine AW.region ?_
  refine ARun.pure (PureOp.assign rfl .int) rfl rfl (Nat.le_of_ble_eq_true rfl) ?_
  refine ARun.nil ?_
  refine AW.seq ?_
  refine AW.seq ?_
  refine AW.region ?_
  refine ARun.pure (PureOp.assign rfl .int) rfl rfl (Nat.le_of_ble_eq_true rfl) ?_
  refine ARun.nil ?_
  refine AW.block ?_
  refine AW.loop (ι := Nat) (fun k => ⟨[(0, .one (.lst 2 yy.length (fun i0 j0 => ([.str ((yy.getD i0 (default : GRow)).name), .lst 2 (((yy.getD i0 (default : GRow)).samples).length) (fun i1 j1 => ([.int .i64 ((((yy.getD i0 (default : GRow)).samples).getD i1 (default : GSample)).at_), .int .i64 ((((yy.getD i0 (default : GRow)).samples).getD i1 (default : GSample)).value)] : List AV).getD j1 (.con undef))] : List AV).getD j0 (.con undef)))), (1, .one (.int .i64 ((a + ((xx.take k).map crRow).sum : Nat) : Int))), (5, .one (.int .i64 (k : Int)))], []⟩) (fun k => k ≤ xx.length) (fun k => xx.length - k) 0 (Nat.zero_le _) ⟨⟨⟨_, rfl, rfl⟩, ⟨_, rfl, by simp⟩, ⟨_, rfl, rfl⟩, trivial⟩, trivial⟩ ?_
  intro k hk
  refine AW.seq ?_
  refine AW.seq ?_
  refine AW.region ?_
  refine ARun.pure (PureOp.move rfl (.tmp rfl)) rfl rfl (Nat.le_of_ble_eq_true rfl) ?_
  refine ARun.pure (PureOp.move rfl (.tmp rfl)) rfl rfl (Nat.le_of_ble_eq_true rfl) ?_
  refine ARun.pure (PureOp.lenLst rfl (.tmp rfl) vh2_sl_22) rfl rfl (Nat.le_of_ble_eq_true rfl) ?_
  refine ARun.pure (PureOp.intOp rfl (.tmp rfl) (.tmp rfl) rfl) rfl rfl (Nat.le_of_ble_eq_true rfl) ?_
  refine ARun.nil ?_
  refine AW.cond (.tmp rfl) (fun hb1 => ?_) (fun hb1 => ?_)
  · have _u := True.intro
    replace hb1 := of_decide_eq_true hb1
    have hkl : k < xx.length := by omega
    obtain ⟨hst, hsm⟩ := ct_step (ct := crRow) (default : GRow) hkl
    have he : yy.getD k (default : GRow) = mrRow (xx.getD k (default : GRow)) (a + ((xx.take k).map crRow).sum) := by rw [hy]; exact mkL_get (default : GRow) hkl
    have hce : crRow (xx.getD k (default : GRow)) = 0 + 1 + ctL crSample ((xx.getD k (default : GRow)).samples) := rfl
    refine AW.skip ?_
    refine AW.seq ?_
    refine AW.block ?_
    refine AW.seq ?_
    refine AW.seq ?_
    refine AW.any (by kernel_rfl) (by kernel_rfl) ?_
    refine AD.pure (PureOp.move rfl (.tmp rfl)) rfl rfl (Nat.le_of_ble_eq_true rfl) ?_
    refine AD.pure (PureOp.move rfl (.tmp rfl)) rfl rfl (Nat.le_of_ble_eq_true rfl) ?_
    refine AD.pure (PureOp.indexLst (i := k) rfl (.tmp rfl) vh2_el_22_2 (.tmp rfl) rfl (by omega)) rfl rfl (Nat.le_of_ble_eq_true rfl) ?_
    refine AD.pure (PureOp.fieldRef rfl (.tmp rfl) vh2_fi_49_0_0 (Nat.le_of_ble_eq_true rfl)) rfl rfl (Nat.le_of_ble_eq_true rfl) ?_
    refine AD.pure (PureOp.loadRef rfl (.tmp rfl) vh2_pl_9 (Nat.le_of_ble_eq_true rfl)) rfl rfl (Nat.le_of_ble_eq_true rfl) ?_
    refine AD.pure (PureOp.move rfl (.tmp rfl)) rfl rfl (Nat.le_of_ble_eq_true rfl) ?_
    refine AD.pure (PureOp.call rfl (v_markText (a + ((xx.take k).map crRow).sum) (by omega) (by omega)) ⟨⟨_, (.tmp rfl), .int⟩, trivial⟩ vh2_ca_30 (Nat.le_trans (mkText_size (by omega)) (by decide))) rfl rfl (Nat.le_of_ble_eq_true rfl) ?_
    refine AD.pure (PureOp.strOp rfl (.tmp rfl) (.tmp rfl) rfl) rfl rfl (Nat.le_of_ble_eq_true rfl) ?_
    refine AD.nil ?_
    refine AW.cond (.tmp rfl) (fun hb2 => ?_) (fun hb2 => ?_)
    · have _u := True.intro
      replace hb2 := of_decide_eq_false (of_not hb2)
      exact absurd (by rw [he]; rfl) hb2
      --end
    · have _u := True.intro
      replace hb2 := of_decide_eq_true (not_f hb2)
      refine AW.skip ?_
      refine AW.seq ?_
      refine AW.region ?_
      refine ARun.pure (PureOp.move rfl (.tmp rfl)) rfl rfl (Nat.le_of_ble_eq_true rfl) ?_
      refine ARun.pure (PureOp.add (c := ((a + ((xx.take k).map crRow).sum + 1 : Nat) : Int)) rfl (.tmp rfl) .int (by rw [wrap_id (by omega) (by omega)]; omega)) rfl rfl (Nat.le_of_ble_eq_true rfl) ?_
      refine ARun.pure (PureOp.assign rfl (.tmp rfl)) rfl rfl (Nat.le_of_ble_eq_true rfl) ?_
      refine ARun.nil ?_
      refine AW.seq ?_
      refine AW.region ?_
      refine ARun.pure (PureOp.move rfl (.tmp rfl)) rfl rfl (Nat.le_of_ble_eq_true rfl) ?_
      refine ARun.pure (PureOp.move rfl (.tmp rfl)) rfl rfl (Nat.le_of_ble_eq_true rfl) ?_
      refine ARun.pure (PureOp.indexLst (i := k) rfl (.tmp rfl) vh2_el_22_2 (.tmp rfl) rfl (by omega)) rfl rfl (Nat.le_of_ble_eq_true rfl) ?_
      refine ARun.pure (PureOp.fieldRef rfl (.tmp rfl) vh2_fi_49_1_1 (Nat.le_of_ble_eq_true rfl)) rfl rfl (Nat.le_of_ble_eq_true rfl) ?_
      refine ARun.pure (PureOp.loadRef rfl (.tmp rfl) vh2_pl_47 (Nat.le_of_ble_eq_true rfl)) rfl rfl (Nat.le_of_ble_eq_true rfl) ?_
      refine ARun.pure (PureOp.move rfl (.tmp rfl)) rfl rfl (Nat.le_of_ble_eq_true rfl) ?_
      refine ARun.pure (PureOp.call rfl (h_SampleS ((xx.getD k (default : GRow)).samples) ((yy.getD k (default : GRow)).samples) (a + ((xx.take k).map crRow).sum + 1) (by first | exact he | (rw [he]; rfl)) ⟨by omega, by omega⟩) ⟨⟨_, (.tmp rfl), .lst⟩, ⟨_, (.tmp rfl), .int⟩, trivial⟩ vh2_ca_32 trivial) rfl rfl (Nat.le_of_ble_eq_true rfl) ?_
      refine ARun.pure (PureOp.assign rfl (.tmp rfl)) rfl rfl (Nat.le_of_ble_eq_true rfl) ?_
      refine ARun.nil ?_
      refine AW.seq ?_
      refine AW.region ?_
      refine ARun.pure (PureOp.move rfl (.tmp rfl)) rfl rfl (Nat.le_of_ble_eq_true rfl) ?_
      refine ARun.pure (PureOp.intOp rfl (.tmp rfl) .int rfl) rfl rfl (Nat.le_of_ble_eq_true rfl) ?_
      refine ARun.nil ?_
      refine AW.cond (.tmp rfl) (fun hb3 => ?_) (fun hb3 => ?_)
      · have _u := True.intro
        replace hb3 := of_decide_eq_true hb3
        exact absurd hb3 (by omega)
        --end
      · have _u := True.intro
        replace hb3 := of_decide_eq_false hb3
        refine AW.skip ?_
        refine AW.region ?_
        refine ARun.pure (PureOp.move rfl (.tmp rfl)) rfl rfl (Nat.le_of_ble_eq_true rfl) ?_
        refine ARun.pure (PureOp.add (c := ((k + 1 : Nat) : Int)) rfl (.tmp rfl) .int (by rw [wrap_id (by omega) (by omega)]; omega)) rfl rfl (Nat.le_of_ble_eq_true rfl) ?_
        refine ARun.pure (PureOp.assign rfl (.tmp rfl)) rfl rfl (Nat.le_of_ble_eq_true rfl) ?_
        refine ARun.nil ?_
        exact ⟨k + 1, by omega, by dsimp only; omega, ⟨⟨⟨_, rfl, rfl⟩, ⟨_, rfl, congrArg (fun z : Nat => SV.one (.int .i64 (z : Int))) (by omega)⟩, ⟨_, rfl, rfl⟩, trivial⟩, trivial⟩⟩
  · have _u := True.intro
    replace hb1 := of_decide_eq_false hb1
    have hkl : ¬ k < xx.length := by omega
    refine AW.exit ?_
    refine AW.seq ?_
    refine AW.region ?_
    refine ARun.pure (PureOp.move rfl (.tmp rfl)) rfl rfl (Nat.le_of_ble_eq_true rfl) ?_
    refine ARun.pure (PureOp.assign rfl (.tmp rfl)) rfl rfl (Nat.le_of_ble_eq_true rfl) ?_
    refine ARun.nil ?_
    refine AW.ret (show ResL _ _ [.tmp 4] _ from resI rfl ?_)
    have hend : ctL crRow xx = ((xx.take k).map crRow).sum := (ct_end hkl).symm
    omega

theorem h_Head (xx yy : GHead) (a : Nat) (hy : yy = mvHead xx a) (ha : 0 < a ∧ a + cvHead xx ≤ 900000000) : Fn Tryd.prog 8 [.agg [.lst 2 yy.rows.length (fun i0 j0 => ([.str ((yy.rows.getD i0 (default : GRow)).name), .lst 2 (((yy.rows.getD i0 (default : GRow)).samples).length) (fun i1 j1 => ([.int .i64 ((((yy.rows.getD i0 (default : GRow)).samples).getD i1 (default : GSample)).at_), .int .i64 ((((yy.rows.getD i0 (default : GRow)).samples).getD i1 (default : GSample)).value)] : List AV).getD j1 (.con undef))] : List AV).getD j0 (.con undef)), .int .i64 yy.offset], .one (.int .i64 (a : Int))] (.one (.int .i64 ((a + cvHead xx : Nat) : Int))) := by
  obtain ⟨ha0, ha1⟩ := ha
  have hcv : cvHead xx = 0 + ctL crRow (xx.rows) := rfl
  refine Fn.of_body (fn := Tryd.f8) Tryd.func8 rfl (Nat.le_of_ble_eq_true rfl) trivial ?_
  intro w0
  show AW _ 12 _ _ _ _
  refine AW.seq ?_
  refine AW.region ?_
  refine ARun.box (id := 0) rfl (.tmp rfl) (SV.cells_of (by exact ⟨trivial, trivial, trivial⟩)) ⟨rfl, (by repeat first | exact trivial | refine ⟨by decide, by first | rfl | exact trivial | (intro i j; first | rfl | exact getD_no rfl | (dsimp only; split <;> first | rfl | exact getD_no rfl) | exact scl_no (by apply_assumption) _), ?_⟩)⟩ rfl rfl rfl (Nat.le_of_ble_eq_true rfl) ?_
  refine ARun.pure (PureOp.assign rfl .int) rfl rfl (Nat.le_of_ble_eq_true rfl) ?_
  refine ARun.nil ?_
  refine AW.seq ?_
  refine AW.region ?_
  refine ARun.pure (PureOp.fieldPtr rfl (.tmp rfl) vh2_fi_24_0_0) rfl rfl (Nat.le_of_ble_eq_true rfl) ?_
  refine ARun.pure (PureOp.loadPtr rfl (.tmp rfl) vh2_pl_22 rfl rfl (Nat.le_of_ble_eq_true rfl) (Nat.le_of_ble_eq_true rfl)) rfl rfl (Nat.le_of_ble_eq_true rfl) ?_
  refine ARun.pure (PureOp.move rfl (.tmp rfl)) rfl rfl (Nat.le_of_ble_eq_true rfl) ?_
  refine ARun.pure (PureOp.call rfl (h_RowS xx.rows yy.rows a (by rw [hy]; rfl) ⟨by omega, by omega⟩) ⟨⟨_, (.tmp rfl), .lst⟩, ⟨_, (.tmp rfl), .int⟩, trivial⟩ vh2_ca_19 trivial) rfl rfl (Nat.le_of_ble_eq_true rfl) ?_
  refine ARun.pure (PureOp.assign rfl (.tmp rfl)) rfl rfl (Nat.le_of_ble_eq_true rfl) ?_
  refine ARun.nil ?_
  refine AW.seq ?_
  refine AW.seq ?_
  refine AW.region ?_
  refine ARun.pure (PureOp.move rfl (.tmp rfl)) rfl rfl (Nat.le_of_ble_eq_true rfl) ?_
  refine ARun.pure (PureOp.intOp rfl (.tmp rfl) .int rfl) rfl rfl (Nat.le_of_ble_eq_true rfl) ?_
  refine ARun.nil ?_
  refine AW.cond (.tmp rfl) (fun hb1 => ?_) (fun hb1 => ?_)
  · have _u := True.intro
    replace hb1 := of_decide_eq_true hb1
    exact absurd hb1 (by omega)
    --end
  · have _u := True.intro
    replace hb1 := of_decide_eq_false hb1
    refine AW.skip ?_
    refine AW.seq ?_
    refine AW.region ?_
    refine ARun.pure (PureOp.move rfl (.tmp rfl)) rfl rfl (Nat.le_of_ble_eq_true rfl) ?_
    refine ARun.pure (PureOp.assign rfl (.tmp rfl)) rfl rfl (Nat.le_of_ble_eq_true rfl) ?_
    refine ARun.nil ?_
    refine AW.ret (show ResL _ _ [.tmp 4] _ from resI rfl ?_)
    omega
end Go.Proofs.YtonfeiloekofdaaDoor


/-
  The laws' own budgets (sz) over the data of this seat.
-/
namespace Go.Proofs.YtonfeiloekofdaaDoor
open Go.ChangeShapes Go.WideShapes Go.ChangeAt Go.RowKit Go.BigFrame Go.Deep
set_option linter.unusedVariables false
set_option linter.unusedSimpArgs false


end Go.Proofs.YtonfeiloekofdaaDoor


/-
  The laws' own comparisons (eq) over the data of this seat.
-/
namespace Go.Proofs.YtonfeiloekofdaaDoor
open Go.ChangeShapes Go.WideShapes Go.ChangeAt Go.RowKit Go.BigFrame Go.Deep
set_option linter.unusedVariables false
set_option linter.unusedSimpArgs false
theorem ve_ag_49_2 : aggB Tryd.prog 49 2 = true := by kernel_rfl
theorem ve_ag_51_2 : aggB Tryd.prog 51 2 = true := by kernel_rfl
theorem ve_ca_17 : callB Tryd.prog 17 = true := by kernel_rfl
theorem ve_ca_29 : callB Tryd.prog 29 = true := by kernel_rfl
theorem ve_ca_45 : callB Tryd.prog 45 = true := by kernel_rfl
theorem ve_ca_57 : callB Tryd.prog 57 = true := by kernel_rfl
theorem ve_el_22_2 : elemB Tryd.prog 22 2 = true := by kernel_rfl
theorem ve_el_47_2 : elemB Tryd.prog 47 2 = true := by kernel_rfl
theorem ve_fi_24_0_0 : fieldB Tryd.prog 24 0 0 = true := by kernel_rfl
theorem ve_fi_24_1_1 : fieldB Tryd.prog 24 1 1 = true := by kernel_rfl
theorem ve_fi_49_0_0 : fieldB Tryd.prog 49 0 0 = true := by kernel_rfl
theorem ve_fi_49_1_1 : fieldB Tryd.prog 49 1 1 = true := by kernel_rfl
theorem ve_fi_51_0_0 : fieldB Tryd.prog 51 0 0 = true := by kernel_rfl
theorem ve_fi_51_1_1 : fieldB Tryd.prog 51 1 1 = true := by kernel_rfl
theorem ve_pl_22 : plainB Tryd.prog 22 = true := by kernel_rfl
theorem ve_pl_3 : plainB Tryd.prog 3 = true := by kernel_rfl
theorem ve_pl_47 : plainB Tryd.prog 47 = true := by kernel_rfl
theorem ve_pl_9 : plainB Tryd.prog 9 = true := by kernel_rfl
theorem ve_sl_22 : sliceB Tryd.prog 22 = true := by kernel_rfl
theorem ve_sl_47 : sliceB Tryd.prog 47 = true := by kernel_rfl
theorem v_eqSample (x y : GSample) : Fn Tryd.prog 57 [.agg [.int .i64 x.at_, .int .i64 x.value], .agg [.int .i64 y.at_, .int .i64 y.value]] (.one (.bool (decide (x = y)))) := by
  refine Fn.of_body (fn := Tryd.f57) Tryd.func57 rfl (Nat.le_of_ble_eq_true rfl) trivial ?_
  intro w0
  show AW _ 15 _ _ _ _
  refine AW.seq ?_
  refine AW.region ?_
  refine ARun.box (id := 0) rfl (.tmp rfl) (SV.cells_of (by exact ⟨trivial, trivial, trivial⟩)) ⟨rfl, (by repeat first | exact trivial | refine ⟨by decide, by first | rfl | exact trivial | (intro i j; first | rfl | exact getD_no rfl | (dsimp only; split <;> first | rfl | exact getD_no rfl) | exact scl_no (by apply_assumption) _), ?_⟩)⟩ rfl rfl rfl (Nat.le_of_ble_eq_true rfl) ?_
  refine ARun.box (id := 1) rfl (.tmp rfl) (SV.cells_of (by exact ⟨trivial, trivial, trivial⟩)) ⟨rfl, (by repeat first | exact trivial | refine ⟨by decide, by first | rfl | exact trivial | (intro i j; first | rfl | exact getD_no rfl | (dsimp only; split <;> first | rfl | exact getD_no rfl) | exact scl_no (by apply_assumption) _), ?_⟩)⟩ rfl rfl rfl (Nat.le_of_ble_eq_true rfl) ?_
  refine ARun.pure (PureOp.assign rfl .bool) rfl rfl (Nat.le_of_ble_eq_true rfl) ?_
  refine ARun.nil ?_
  refine AW.seq ?_
  refine AW.seq ?_
  refine AW.region ?_
  refine ARun.pure (PureOp.fieldPtr rfl (.tmp rfl) ve_fi_51_0_0) rfl rfl (Nat.le_of_ble_eq_true rfl) ?_
  refine ARun.pure (PureOp.loadPtr rfl (.tmp rfl) ve_pl_3 rfl rfl (Nat.le_of_ble_eq_true rfl) (Nat.le_of_ble_eq_true rfl)) rfl rfl (Nat.le_of_ble_eq_true rfl) ?_
  refine ARun.pure (PureOp.fieldPtr rfl (.tmp rfl) ve_fi_51_0_0) rfl rfl (Nat.le_of_ble_eq_true rfl) ?_
  refine ARun.pure (PureOp.loadPtr rfl (.tmp rfl) ve_pl_3 rfl rfl (Nat.le_of_ble_eq_true rfl) (Nat.le_of_ble_eq_true rfl)) rfl rfl (Nat.le_of_ble_eq_true rfl) ?_
  refine ARun.pure (PureOp.intOp rfl (.tmp rfl) (.tmp rfl) rfl) rfl rfl (Nat.le_of_ble_eq_true rfl) ?_
  refine ARun.nil ?_
  refine AW.cond (.tmp rfl) (fun hb1 => ?_) (fun hb1 => ?_)
  · have _u := True.intro
    replace hb1 := of_decide_eq_false (of_not hb1)
    refine AW.seq ?_
    refine AW.region ?_
    refine ARun.pure (PureOp.assign rfl .bool) rfl rfl (Nat.le_of_ble_eq_true rfl) ?_
    refine ARun.nil ?_
    refine AW.ret (show ResL _ _ [.tmp 4] _ from resB rfl ?_)
    exact (decide_eq_false (fun e => hb1 (by rw [e]))).symm
  · have _u := True.intro
    replace hb1 := of_decide_eq_true (not_f hb1)
    refine AW.skip ?_
    refine AW.seq ?_
    refine AW.seq ?_
    refine AW.region ?_
    refine ARun.pure (PureOp.fieldPtr rfl (.tmp rfl) ve_fi_51_1_1) rfl rfl (Nat.le_of_ble_eq_true rfl) ?_
    refine ARun.pure (PureOp.loadPtr rfl (.tmp rfl) ve_pl_3 rfl rfl (Nat.le_of_ble_eq_true rfl) (Nat.le_of_ble_eq_true rfl)) rfl rfl (Nat.le_of_ble_eq_true rfl) ?_
    refine ARun.pure (PureOp.fieldPtr rfl (.tmp rfl) ve_fi_51_1_1) rfl rfl (Nat.le_of_ble_eq_true rfl) ?_
    refine ARun.pure (PureOp.loadPtr rfl (.tmp rfl) ve_pl_3 rfl rfl (Nat.le_of_ble_eq_true rfl) (Nat.le_of_ble_eq_true rfl)) rfl rfl (Nat.le_of_ble_eq_true rfl) ?_
    refine ARun.pure (PureOp.intOp rfl (.tmp rfl) (.tmp rfl) rfl) rfl rfl (Nat.le_of_ble_eq_true rfl) ?_
    refine ARun.nil ?_
    refine AW.cond (.tmp rfl) (fun hb2 => ?_) (fun hb2 => ?_)
    · have _u := True.intro
      replace hb2 := of_decide_eq_false (of_not hb2)
      refine AW.seq ?_
      refine AW.region ?_
      refine ARun.pure (PureOp.assign rfl .bool) rfl rfl (Nat.le_of_ble_eq_true rfl) ?_
      refine ARun.nil ?_
      refine AW.ret (show ResL _ _ [.tmp 4] _ from resB rfl ?_)
      exact (decide_eq_false (fun e => hb2 (by rw [e]))).symm
    · have _u := True.intro
      replace hb2 := of_decide_eq_true (not_f hb2)
      refine AW.skip ?_
      refine AW.seq ?_
      refine AW.region ?_
      refine ARun.pure (PureOp.assign rfl .bool) rfl rfl (Nat.le_of_ble_eq_true rfl) ?_
      refine ARun.nil ?_
      refine AW.ret (show ResL _ _ [.tmp 4] _ from resB rfl ?_)
      exact (decide_eq_true (by cases x; cases y; simp_all)).symm

theorem v_eqSampleS (x y : List GSample) : Fn Tryd.prog 45 [.one (.lst 2 x.length (fun i0 j0 => ([.int .i64 ((x.getD i0 (default : GSample)).at_), .int .i64 ((x.getD i0 (default : GSample)).value)] : List AV).getD j0 (.con undef))), .one (.lst 2 y.length (fun i0 j0 => ([.int .i64 ((y.getD i0 (default : GSample)).at_), .int .i64 ((y.getD i0 (default : GSample)).value)] : List AV).getD j0 (.con undef)))] (.one (.bool (decide (x = y)))) := by
  refine Fn.of_body (fn := Tryd.f45) Tryd.func45 rfl (Nat.le_of_ble_eq_true rfl) trivial ?_
  intro w0
  show AW _ 27 _ _ _ _
  refine AW.bound (t := 0) rfl fun hx => ?_
  refine AW.seq ?_
  refine AW.region ?_
  refine ARun.pure (PureOp.assign rfl .bool) rfl rfl (Nat.le_of_ble_eq_true rfl) ?_
  refine ARun.nil ?_
  refine AW.seq ?_
  refine AW.seq ?_
  refine AW.region ?_
  refine ARun.pure (PureOp.move rfl (.tmp rfl)) rfl rfl (Nat.le_of_ble_eq_true rfl) ?_
  refine ARun.pure (PureOp.lenLst rfl (.tmp rfl) ve_sl_47) rfl rfl (Nat.le_of_ble_eq_true rfl) ?_
  refine ARun.pure (PureOp.move rfl (.tmp rfl)) rfl rfl (Nat.le_of_ble_eq_true rfl) ?_
  refine ARun.pure (PureOp.lenLst rfl (.tmp rfl) ve_sl_47) rfl rfl (Nat.le_of_ble_eq_true rfl) ?_
  refine ARun.pure (PureOp.intOp rfl (.tmp rfl) (.tmp rfl) rfl) rfl rfl (Nat.le_of_ble_eq_true rfl) ?_
  refine ARun.nil ?_
  refine AW.cond (.tmp rfl) (fun hb1 => ?_) (fun hb1 => ?_)
  · have _u := True.intro
    replace hb1 := of_decide_eq_false (of_not hb1)
    refine AW.seq ?_
    refine AW.region ?_
    refine ARun.pure (PureOp.assign rfl .bool) rfl rfl (Nat.le_of_ble_eq_true rfl) ?_
    refine ARun.nil ?_
    refine AW.ret (show ResL _ _ [.tmp 4] _ from resB rfl ?_)
    exact (decide_eq_false (fun e => by rw [e] at hb1; omega)).symm
  · have _u := True.intro
    replace hb1 := of_decide_eq_true (not_f hb1)
    refine AW.skip ?_
    refine AW.seq ?_
    refine AW.seq ?_
    refine AW.region ?_
    refine ARun.pure (PureOp.assign rfl .int) rfl rfl (Nat.le_of_ble_eq_true rfl) ?_
    refine ARun.nil ?_
    refine AW.block ?_
    refine AW.loop (ι := Nat) (fun k => ⟨[(0, .one (.lst 2 x.length (fun i0 j0 => ([.int .i64 ((x.getD i0 (default : GSample)).at_), .int .i64 ((x.getD i0 (default : GSample)).value)] : List AV).getD j0 (.con undef)))), (1, .one (.lst 2 y.length (fun i0 j0 => ([.int .i64 ((y.getD i0 (default : GSample)).at_), .int .i64 ((y.getD i0 (default : GSample)).value)] : List AV).getD j0 (.con undef)))), (5, .one (.int .i64 (k : Int)))], []⟩) (fun k => k ≤ x.length ∧ x.take k = y.take k) (fun k => x.length - k) 0 ⟨Nat.zero_le _, rfl⟩ ⟨⟨⟨_, rfl, rfl⟩, ⟨_, rfl, rfl⟩, ⟨_, rfl, rfl⟩, trivial⟩, trivial⟩ ?_
    intro k hI
    obtain ⟨hk, hq⟩ := hI
    refine AW.seq ?_
    refine AW.seq ?_
    refine AW.region ?_
    refine ARun.pure (PureOp.move rfl (.tmp rfl)) rfl rfl (Nat.le_of_ble_eq_true rfl) ?_
    refine ARun.pure (PureOp.move rfl (.tmp rfl)) rfl rfl (Nat.le_of_ble_eq_true rfl) ?_
    refine ARun.pure (PureOp.lenLst rfl (.tmp rfl) ve_sl_47) rfl rfl (Nat.le_of_ble_eq_true rfl) ?_
    refine ARun.pure (PureOp.intOp rfl (.tmp rfl) (.tmp rfl) rfl) rfl rfl (Nat.le_of_ble_eq_true rfl) ?_
    refine ARun.nil ?_
    refine AW.cond (.tmp rfl) (fun hb2 => ?_) (fun hb2 => ?_)
    · have _u := True.intro
      replace hb2 := of_decide_eq_true hb2
      have hlt : k < x.length := by omega
      have hlt2 : k < y.length := by omega
      refine AW.skip ?_
      refine AW.seq ?_
      refine AW.block ?_
      refine AW.seq ?_
      refine AW.any (by kernel_rfl) (by kernel_rfl) ?_
      refine AD.pure (PureOp.move rfl (.tmp rfl)) rfl rfl (Nat.le_of_ble_eq_true rfl) ?_
      refine AD.pure (PureOp.move rfl (.tmp rfl)) rfl rfl (Nat.le_of_ble_eq_true rfl) ?_
      refine AD.pure (PureOp.indexLst (i := k) rfl (.tmp rfl) ve_el_47_2 (.tmp rfl) rfl (by omega)) rfl rfl (Nat.le_of_ble_eq_true rfl) ?_
      refine AD.pure (PureOp.loadRefAgg rfl (.tmp rfl) ve_ag_51_2 (Nat.le_of_ble_eq_true rfl)) rfl rfl (Nat.le_of_ble_eq_true rfl) ?_
      refine AD.pure (PureOp.move rfl (.tmp rfl)) rfl rfl (Nat.le_of_ble_eq_true rfl) ?_
      refine AD.pure (PureOp.move rfl (.tmp rfl)) rfl rfl (Nat.le_of_ble_eq_true rfl) ?_
      refine AD.pure (PureOp.indexLst (i := k) rfl (.tmp rfl) ve_el_47_2 (.tmp rfl) rfl (by omega)) rfl rfl (Nat.le_of_ble_eq_true rfl) ?_
      refine AD.pure (PureOp.loadRefAgg rfl (.tmp rfl) ve_ag_51_2 (Nat.le_of_ble_eq_true rfl)) rfl rfl (Nat.le_of_ble_eq_true rfl) ?_
      refine AD.pure (PureOp.call rfl (v_eqSample (x.getD k (default : GSample)) (y.getD k (default : GSample))) ⟨⟨_, (.tmp rfl), ⟨.int, .int, trivial⟩⟩, ⟨_, (.tmp rfl), ⟨.int, .int, trivial⟩⟩, trivial⟩ ve_ca_57 trivial) rfl rfl (Nat.le_of_ble_eq_true rfl) ?_
      refine AD.pure (PureOp.not rfl (.tmp rfl)) rfl rfl (Nat.le_of_ble_eq_true rfl) ?_
      refine AD.nil ?_
      refine AW.cond (.tmp rfl) (fun hb3 => ?_) (fun hb3 => ?_)
      · have _u := True.intro
        replace hb3 := of_decide_eq_false (of_not hb3)
        refine AW.seq ?_
        refine AW.region ?_
        refine ARun.pure (PureOp.assign rfl .bool) rfl rfl (Nat.le_of_ble_eq_true rfl) ?_
        refine ARun.nil ?_
        refine AW.ret (show ResL _ _ [.tmp 4] _ from resB rfl ?_)
        exact (decide_eq_false (fun e => hb3 (by rw [e]))).symm
      · have _u := True.intro
        replace hb3 := of_decide_eq_true (not_f hb3)
        refine AW.skip ?_
        refine AW.region ?_
        refine ARun.pure (PureOp.move rfl (.tmp rfl)) rfl rfl (Nat.le_of_ble_eq_true rfl) ?_
        refine ARun.pure (PureOp.add (c := ((k + 1 : Nat) : Int)) rfl (.tmp rfl) .int (by rw [wrap_id (by omega) (by omega)]; omega)) rfl rfl (Nat.le_of_ble_eq_true rfl) ?_
        refine ARun.pure (PureOp.assign rfl (.tmp rfl)) rfl rfl (Nat.le_of_ble_eq_true rfl) ?_
        refine ARun.nil ?_
        exact ⟨k + 1, ⟨by omega, take_next (default : GSample) hlt (by omega) hq hb3⟩, by dsimp only; omega, ⟨⟨⟨_, rfl, rfl⟩, ⟨_, rfl, rfl⟩, ⟨_, rfl, rfl⟩, trivial⟩, trivial⟩⟩
    · have _u := True.intro
      replace hb2 := of_decide_eq_false hb2
      have hlt : ¬ k < x.length := by omega
      refine AW.exit ?_
      refine AW.seq ?_
      refine AW.region ?_
      refine ARun.pure (PureOp.assign rfl .bool) rfl rfl (Nat.le_of_ble_eq_true rfl) ?_
      refine ARun.nil ?_
      refine AW.ret (show ResL _ _ [.tmp 4] _ from resB rfl ?_)
      exact (decide_eq_true (eqL_yes hlt (by omega) hq)).symm

theorem v_eqRow (x y : GRow) : Fn Tryd.prog 29 [.agg [.str x.name, .lst 2 x.samples.length (fun i0 j0 => ([.int .i64 ((x.samples.getD i0 (default : GSample)).at_), .int .i64 ((x.samples.getD i0 (default : GSample)).value)] : List AV).getD j0 (.con undef))], .agg [.str y.name, .lst 2 y.samples.length (fun i0 j0 => ([.int .i64 ((y.samples.getD i0 (default : GSample)).at_), .int .i64 ((y.samples.getD i0 (default : GSample)).value)] : List AV).getD j0 (.con undef))]] (.one (.bool (decide (x = y)))) := by
  refine Fn.of_body (fn := Tryd.f29) Tryd.func29 rfl (Nat.le_of_ble_eq_true rfl) trivial ?_
  intro w0
  show AW _ 16 _ _ _ _
  refine AW.seq ?_
  refine AW.region ?_
  refine ARun.box (id := 0) rfl (.tmp rfl) (SV.cells_of (by exact ⟨trivial, trivial, trivial⟩)) ⟨rfl, (by repeat first | exact trivial | refine ⟨by decide, by first | rfl | exact trivial | (intro i j; first | rfl | exact getD_no rfl | (dsimp only; split <;> first | rfl | exact getD_no rfl) | exact scl_no (by apply_assumption) _), ?_⟩)⟩ rfl rfl rfl (Nat.le_of_ble_eq_true rfl) ?_
  refine ARun.box (id := 1) rfl (.tmp rfl) (SV.cells_of (by exact ⟨trivial, trivial, trivial⟩)) ⟨rfl, (by repeat first | exact trivial | refine ⟨by decide, by first | rfl | exact trivial | (intro i j; first | rfl | exact getD_no rfl | (dsimp only; split <;> first | rfl | exact getD_no rfl) | exact scl_no (by apply_assumption) _), ?_⟩)⟩ rfl rfl rfl (Nat.le_of_ble_eq_true rfl) ?_
  refine ARun.pure (PureOp.assign rfl .bool) rfl rfl (Nat.le_of_ble_eq_true rfl) ?_
  refine ARun.nil ?_
  refine AW.seq ?_
  refine AW.seq ?_
  refine AW.region ?_
  refine ARun.pure (PureOp.fieldPtr rfl (.tmp rfl) ve_fi_49_0_0) rfl rfl (Nat.le_of_ble_eq_true rfl) ?_
  refine ARun.pure (PureOp.loadPtr rfl (.tmp rfl) ve_pl_9 rfl rfl (Nat.le_of_ble_eq_true rfl) (Nat.le_of_ble_eq_true rfl)) rfl rfl (Nat.le_of_ble_eq_true rfl) ?_
  refine ARun.pure (PureOp.fieldPtr rfl (.tmp rfl) ve_fi_49_0_0) rfl rfl (Nat.le_of_ble_eq_true rfl) ?_
  refine ARun.pure (PureOp.loadPtr rfl (.tmp rfl) ve_pl_9 rfl rfl (Nat.le_of_ble_eq_true rfl) (Nat.le_of_ble_eq_true rfl)) rfl rfl (Nat.le_of_ble_eq_true rfl) ?_
  refine ARun.pure (PureOp.strOp rfl (.tmp rfl) (.tmp rfl) rfl) rfl rfl (Nat.le_of_ble_eq_true rfl) ?_
  refine ARun.nil ?_
  refine AW.cond (.tmp rfl) (fun hb1 => ?_) (fun hb1 => ?_)
  · have _u := True.intro
    replace hb1 := of_decide_eq_false (of_not hb1)
    refine AW.seq ?_
    refine AW.region ?_
    refine ARun.pure (PureOp.assign rfl .bool) rfl rfl (Nat.le_of_ble_eq_true rfl) ?_
    refine ARun.nil ?_
    refine AW.ret (show ResL _ _ [.tmp 4] _ from resB rfl ?_)
    exact (decide_eq_false (fun e => hb1 (by rw [e]))).symm
  · have _u := True.intro
    replace hb1 := of_decide_eq_true (not_f hb1)
    refine AW.skip ?_
    refine AW.seq ?_
    refine AW.seq ?_
    refine AW.region ?_
    refine ARun.pure (PureOp.fieldPtr rfl (.tmp rfl) ve_fi_49_1_1) rfl rfl (Nat.le_of_ble_eq_true rfl) ?_
    refine ARun.pure (PureOp.loadPtr rfl (.tmp rfl) ve_pl_47 rfl rfl (Nat.le_of_ble_eq_true rfl) (Nat.le_of_ble_eq_true rfl)) rfl rfl (Nat.le_of_ble_eq_true rfl) ?_
    refine ARun.pure (PureOp.fieldPtr rfl (.tmp rfl) ve_fi_49_1_1) rfl rfl (Nat.le_of_ble_eq_true rfl) ?_
    refine ARun.pure (PureOp.loadPtr rfl (.tmp rfl) ve_pl_47 rfl rfl (Nat.le_of_ble_eq_true rfl) (Nat.le_of_ble_eq_true rfl)) rfl rfl (Nat.le_of_ble_eq_true rfl) ?_
    refine ARun.pure (PureOp.call rfl (v_eqSampleS x.samples y.samples) ⟨⟨_, (.tmp rfl), .lst⟩, ⟨_, (.tmp rfl), .lst⟩, trivial⟩ ve_ca_45 trivial) rfl rfl (Nat.le_of_ble_eq_true rfl) ?_
    refine ARun.pure (PureOp.not rfl (.tmp rfl)) rfl rfl (Nat.le_of_ble_eq_true rfl) ?_
    refine ARun.nil ?_
    refine AW.cond (.tmp rfl) (fun hb2 => ?_) (fun hb2 => ?_)
    · have _u := True.intro
      replace hb2 := of_decide_eq_false (of_not hb2)
      refine AW.seq ?_
      refine AW.region ?_
      refine ARun.pure (PureOp.assign rfl .bool) rfl rfl (Nat.le_of_ble_eq_true rfl) ?_
      refine ARun.nil ?_
      refine AW.ret (show ResL _ _ [.tmp 4] _ from resB rfl ?_)
      exact (decide_eq_false (fun e => hb2 (by rw [e]))).symm
    · have _u := True.intro
      replace hb2 := of_decide_eq_true (not_f hb2)
      refine AW.skip ?_
      refine AW.seq ?_
      refine AW.region ?_
      refine ARun.pure (PureOp.assign rfl .bool) rfl rfl (Nat.le_of_ble_eq_true rfl) ?_
      refine ARun.nil ?_
      refine AW.ret (show ResL _ _ [.tmp 4] _ from resB rfl ?_)
      exact (decide_eq_true (by cases x; cases y; simp_all)).symm

theorem v_eqRowS (x y : List GRow) : Fn Tryd.prog 17 [.one (.lst 2 x.length (fun i0 j0 => ([.str ((x.getD i0 (default : GRow)).name), .lst 2 (((x.getD i0 (default : GRow)).samples).length) (fun i1 j1 => ([.int .i64 ((((x.getD i0 (default : GRow)).samples).getD i1 (default : GSample)).at_), .int .i64 ((((x.getD i0 (default : GRow)).samples).getD i1 (default : GSample)).value)] : List AV).getD j1 (.con undef))] : List AV).getD j0 (.con undef))), .one (.lst 2 y.length (fun i0 j0 => ([.str ((y.getD i0 (default : GRow)).name), .lst 2 (((y.getD i0 (default : GRow)).samples).length) (fun i1 j1 => ([.int .i64 ((((y.getD i0 (default : GRow)).samples).getD i1 (default : GSample)).at_), .int .i64 ((((y.getD i0 (default : GRow)).samples).getD i1 (default : GSample)).value)] : List AV).getD j1 (.con undef))] : List AV).getD j0 (.con undef)))] (.one (.bool (decide (x = y)))) := by
  refine Fn.of_body (fn := Tryd.f17) Tryd.func17 rfl (Nat.le_of_ble_eq_true rfl) trivial ?_
  intro w0
  show AW _ 27 _ _ _ _
  refine AW.bound (t := 0) rfl fun hx => ?_
  refine AW.seq ?_
  refine AW.region ?_
  refine ARun.pure (PureOp.assign rfl .bool) rfl rfl (Nat.le_of_ble_eq_true rfl) ?_
  refine ARun.nil ?_
  refine AW.seq ?_
  refine AW.seq ?_
  refine AW.region ?_
  refine ARun.pure (PureOp.move rfl (.tmp rfl)) rfl rfl (Nat.le_of_ble_eq_true rfl) ?_
  refine ARun.pure (PureOp.lenLst rfl (.tmp rfl) ve_sl_22) rfl rfl (Nat.le_of_ble_eq_true rfl) ?_
  refine ARun.pure (PureOp.move rfl (.tmp rfl)) rfl rfl (Nat.le_of_ble_eq_true rfl) ?_
  refine ARun.pure (PureOp.lenLst rfl (.tmp rfl) ve_sl_22) rfl rfl (Nat.le_of_ble_eq_true rfl) ?_
  refine ARun.pure (PureOp.intOp rfl (.tmp rfl) (.tmp rfl) rfl) rfl rfl (Nat.le_of_ble_eq_true rfl) ?_
  refine ARun.nil ?_
  refine AW.cond (.tmp rfl) (fun hb1 => ?_) (fun hb1 => ?_)
  · have _u := True.intro
    replace hb1 := of_decide_eq_false (of_not hb1)
    refine AW.seq ?_
    refine AW.region ?_
    refine ARun.pure (PureOp.assign rfl .bool) rfl rfl (Nat.le_of_ble_eq_true rfl) ?_
    refine ARun.nil ?_
    refine AW.ret (show ResL _ _ [.tmp 4] _ from resB rfl ?_)
    exact (decide_eq_false (fun e => by rw [e] at hb1; omega)).symm
  · have _u := True.intro
    replace hb1 := of_decide_eq_true (not_f hb1)
    refine AW.skip ?_
    refine AW.seq ?_
    refine AW.seq ?_
    refine AW.region ?_
    refine ARun.pure (PureOp.assign rfl .int) rfl rfl (Nat.le_of_ble_eq_true rfl) ?_
    refine ARun.nil ?_
    refine AW.block ?_
    refine AW.loop (ι := Nat) (fun k => ⟨[(0, .one (.lst 2 x.length (fun i0 j0 => ([.str ((x.getD i0 (default : GRow)).name), .lst 2 (((x.getD i0 (default : GRow)).samples).length) (fun i1 j1 => ([.int .i64 ((((x.getD i0 (default : GRow)).samples).getD i1 (default : GSample)).at_), .int .i64 ((((x.getD i0 (default : GRow)).samples).getD i1 (default : GSample)).value)] : List AV).getD j1 (.con undef))] : List AV).getD j0 (.con undef)))), (1, .one (.lst 2 y.length (fun i0 j0 => ([.str ((y.getD i0 (default : GRow)).name), .lst 2 (((y.getD i0 (default : GRow)).samples).length) (fun i1 j1 => ([.int .i64 ((((y.getD i0 (default : GRow)).samples).getD i1 (default : GSample)).at_), .int .i64 ((((y.getD i0 (default : GRow)).samples).getD i1 (default : GSample)).value)] : List AV).getD j1 (.con undef))] : List AV).getD j0 (.con undef)))), (5, .one (.int .i64 (k : Int)))], []⟩) (fun k => k ≤ x.length ∧ x.take k = y.take k) (fun k => x.length - k) 0 ⟨Nat.zero_le _, rfl⟩ ⟨⟨⟨_, rfl, rfl⟩, ⟨_, rfl, rfl⟩, ⟨_, rfl, rfl⟩, trivial⟩, trivial⟩ ?_
    intro k hI
    obtain ⟨hk, hq⟩ := hI
    refine AW.seq ?_
    refine AW.seq ?_
    refine AW.region ?_
    refine ARun.pure (PureOp.move rfl (.tmp rfl)) rfl rfl (Nat.le_of_ble_eq_true rfl) ?_
    refine ARun.pure (PureOp.move rfl (.tmp rfl)) rfl rfl (Nat.le_of_ble_eq_true rfl) ?_
    refine ARun.pure (PureOp.lenLst rfl (.tmp rfl) ve_sl_22) rfl rfl (Nat.le_of_ble_eq_true rfl) ?_
    refine ARun.pure (PureOp.intOp rfl (.tmp rfl) (.tmp rfl) rfl) rfl rfl (Nat.le_of_ble_eq_true rfl) ?_
    refine ARun.nil ?_
    refine AW.cond (.tmp rfl) (fun hb2 => ?_) (fun hb2 => ?_)
    · have _u := True.intro
      replace hb2 := of_decide_eq_true hb2
      have hlt : k < x.length := by omega
      have hlt2 : k < y.length := by omega
      refine AW.skip ?_
      refine AW.seq ?_
      refine AW.block ?_
      refine AW.seq ?_
      refine AW.any (by kernel_rfl) (by kernel_rfl) ?_
      refine AD.pure (PureOp.move rfl (.tmp rfl)) rfl rfl (Nat.le_of_ble_eq_true rfl) ?_
      refine AD.pure (PureOp.move rfl (.tmp rfl)) rfl rfl (Nat.le_of_ble_eq_true rfl) ?_
      refine AD.pure (PureOp.indexLst (i := k) rfl (.tmp rfl) ve_el_22_2 (.tmp rfl) rfl (by omega)) rfl rfl (Nat.le_of_ble_eq_true rfl) ?_
      refine AD.pure (PureOp.loadRefAgg rfl (.tmp rfl) ve_ag_49_2 (Nat.le_of_ble_eq_true rfl)) rfl rfl (Nat.le_of_ble_eq_true rfl) ?_
      refine AD.pure (PureOp.move rfl (.tmp rfl)) rfl rfl (Nat.le_of_ble_eq_true rfl) ?_
      refine AD.pure (PureOp.move rfl (.tmp rfl)) rfl rfl (Nat.le_of_ble_eq_true rfl) ?_
      refine AD.pure (PureOp.indexLst (i := k) rfl (.tmp rfl) ve_el_22_2 (.tmp rfl) rfl (by omega)) rfl rfl (Nat.le_of_ble_eq_true rfl) ?_
      refine AD.pure (PureOp.loadRefAgg rfl (.tmp rfl) ve_ag_49_2 (Nat.le_of_ble_eq_true rfl)) rfl rfl (Nat.le_of_ble_eq_true rfl) ?_
      refine AD.pure (PureOp.call rfl (v_eqRow (x.getD k (default : GRow)) (y.getD k (default : GRow))) ⟨⟨_, (.tmp rfl), ⟨.str, .lst, trivial⟩⟩, ⟨_, (.tmp rfl), ⟨.str, .lst, trivial⟩⟩, trivial⟩ ve_ca_29 trivial) rfl rfl (Nat.le_of_ble_eq_true rfl) ?_
      refine AD.pure (PureOp.not rfl (.tmp rfl)) rfl rfl (Nat.le_of_ble_eq_true rfl) ?_
      refine AD.nil ?_
      refine AW.cond (.tmp rfl) (fun hb3 => ?_) (fun hb3 => ?_)
      · have _u := True.intro
        replace hb3 := of_decide_eq_false (of_not hb3)
        refine AW.seq ?_
        refine AW.region ?_
        refine ARun.pure (PureOp.assign rfl .bool) rfl rfl (Nat.le_of_ble_eq_true rfl) ?_
        refine ARun.nil ?_
        refine AW.ret (show ResL _ _ [.tmp 4] _ from resB rfl ?_)
        exact (decide_eq_false (fun e => hb3 (by rw [e]))).symm
      · have _u := True.intro
        replace hb3 := of_decide_eq_true (not_f hb3)
        refine AW.skip ?_
        refine AW.region ?_
        refine ARun.pure (PureOp.move rfl (.tmp rfl)) rfl rfl (Nat.le_of_ble_eq_true rfl) ?_
        refine ARun.pure (PureOp.add (c := ((k + 1 : Nat) : Int)) rfl (.tmp rfl) .int (by rw [wrap_id (by omega) (by omega)]; omega)) rfl rfl (Nat.le_of_ble_eq_true rfl) ?_
        refine ARun.pure (PureOp.assign rfl (.tmp rfl)) rfl rfl (Nat.le_of_ble_eq_true rfl) ?_
        refine ARun.nil ?_
        exact ⟨k + 1, ⟨by omega, take_next (default : GRow) hlt (by omega) hq hb3⟩, by dsimp only; omega, ⟨⟨⟨_, rfl, rfl⟩, ⟨_, rfl, rfl⟩, ⟨_, rfl, rfl⟩, trivial⟩, trivial⟩⟩
    · have _u := True.intro
      replace hb2 := of_decide_eq_false hb2
      have hlt : ¬ k < x.length := by omega
      refine AW.exit ?_
      refine AW.seq ?_
      refine AW.region ?_
      refine ARun.pure (PureOp.assign rfl .bool) rfl rfl (Nat.le_of_ble_eq_true rfl) ?_
      refine ARun.nil ?_
      refine AW.ret (show ResL _ _ [.tmp 4] _ from resB rfl ?_)
      exact (decide_eq_true (eqL_yes hlt (by omega) hq)).symm

theorem v_eqHead (x y : GHead) : Fn Tryd.prog 6 [.agg [.lst 2 x.rows.length (fun i0 j0 => ([.str ((x.rows.getD i0 (default : GRow)).name), .lst 2 (((x.rows.getD i0 (default : GRow)).samples).length) (fun i1 j1 => ([.int .i64 ((((x.rows.getD i0 (default : GRow)).samples).getD i1 (default : GSample)).at_), .int .i64 ((((x.rows.getD i0 (default : GRow)).samples).getD i1 (default : GSample)).value)] : List AV).getD j1 (.con undef))] : List AV).getD j0 (.con undef)), .int .i64 x.offset], .agg [.lst 2 y.rows.length (fun i0 j0 => ([.str ((y.rows.getD i0 (default : GRow)).name), .lst 2 (((y.rows.getD i0 (default : GRow)).samples).length) (fun i1 j1 => ([.int .i64 ((((y.rows.getD i0 (default : GRow)).samples).getD i1 (default : GSample)).at_), .int .i64 ((((y.rows.getD i0 (default : GRow)).samples).getD i1 (default : GSample)).value)] : List AV).getD j1 (.con undef))] : List AV).getD j0 (.con undef)), .int .i64 y.offset]] (.one (.bool (decide (x = y)))) := by
  refine Fn.of_body (fn := Tryd.f6) Tryd.func6 rfl (Nat.le_of_ble_eq_true rfl) trivial ?_
  intro w0
  show AW _ 16 _ _ _ _
  refine AW.seq ?_
  refine AW.region ?_
  refine ARun.box (id := 0) rfl (.tmp rfl) (SV.cells_of (by exact ⟨trivial, trivial, trivial⟩)) ⟨rfl, (by repeat first | exact trivial | refine ⟨by decide, by first | rfl | exact trivial | (intro i j; first | rfl | exact getD_no rfl | (dsimp only; split <;> first | rfl | exact getD_no rfl) | exact scl_no (by apply_assumption) _), ?_⟩)⟩ rfl rfl rfl (Nat.le_of_ble_eq_true rfl) ?_
  refine ARun.box (id := 1) rfl (.tmp rfl) (SV.cells_of (by exact ⟨trivial, trivial, trivial⟩)) ⟨rfl, (by repeat first | exact trivial | refine ⟨by decide, by first | rfl | exact trivial | (intro i j; first | rfl | exact getD_no rfl | (dsimp only; split <;> first | rfl | exact getD_no rfl) | exact scl_no (by apply_assumption) _), ?_⟩)⟩ rfl rfl rfl (Nat.le_of_ble_eq_true rfl) ?_
  refine ARun.pure (PureOp.assign rfl .bool) rfl rfl (Nat.le_of_ble_eq_true rfl) ?_
  refine ARun.nil ?_
  refine AW.seq ?_
  refine AW.seq ?_
  refine AW.region ?_
  refine ARun.pure (PureOp.fieldPtr rfl (.tmp rfl) ve_fi_24_0_0) rfl rfl (Nat.le_of_ble_eq_true rfl) ?_
  refine ARun.pure (PureOp.loadPtr rfl (.tmp rfl) ve_pl_22 rfl rfl (Nat.le_of_ble_eq_true rfl) (Nat.le_of_ble_eq_true rfl)) rfl rfl (Nat.le_of_ble_eq_true rfl) ?_
  refine ARun.pure (PureOp.fieldPtr rfl (.tmp rfl) ve_fi_24_0_0) rfl rfl (Nat.le_of_ble_eq_true rfl) ?_
  refine ARun.pure (PureOp.loadPtr rfl (.tmp rfl) ve_pl_22 rfl rfl (Nat.le_of_ble_eq_true rfl) (Nat.le_of_ble_eq_true rfl)) rfl rfl (Nat.le_of_ble_eq_true rfl) ?_
  refine ARun.pure (PureOp.call rfl (v_eqRowS x.rows y.rows) ⟨⟨_, (.tmp rfl), .lst⟩, ⟨_, (.tmp rfl), .lst⟩, trivial⟩ ve_ca_17 trivial) rfl rfl (Nat.le_of_ble_eq_true rfl) ?_
  refine ARun.pure (PureOp.not rfl (.tmp rfl)) rfl rfl (Nat.le_of_ble_eq_true rfl) ?_
  refine ARun.nil ?_
  refine AW.cond (.tmp rfl) (fun hb1 => ?_) (fun hb1 => ?_)
  · have _u := True.intro
    replace hb1 := of_decide_eq_false (of_not hb1)
    refine AW.seq ?_
    refine AW.region ?_
    refine ARun.pure (PureOp.assign rfl .bool) rfl rfl (Nat.le_of_ble_eq_true rfl) ?_
    refine ARun.nil ?_
    refine AW.ret (show ResL _ _ [.tmp 4] _ from resB rfl ?_)
    exact (decide_eq_false (fun e => hb1 (by rw [e]))).symm
  · have _u := True.intro
    replace hb1 := of_decide_eq_true (not_f hb1)
    refine AW.skip ?_
    refine AW.seq ?_
    refine AW.seq ?_
    refine AW.region ?_
    refine ARun.pure (PureOp.fieldPtr rfl (.tmp rfl) ve_fi_24_1_1) rfl rfl (Nat.le_of_ble_eq_true rfl) ?_
    refine ARun.pure (PureOp.loadPtr rfl (.tmp rfl) ve_pl_3 rfl rfl (Nat.le_of_ble_eq_true rfl) (Nat.le_of_ble_eq_true rfl)) rfl rfl (Nat.le_of_ble_eq_true rfl) ?_
    refine ARun.pure (PureOp.fieldPtr rfl (.tmp rfl) ve_fi_24_1_1) rfl rfl (Nat.le_of_ble_eq_true rfl) ?_
    refine ARun.pure (PureOp.loadPtr rfl (.tmp rfl) ve_pl_3 rfl rfl (Nat.le_of_ble_eq_true rfl) (Nat.le_of_ble_eq_true rfl)) rfl rfl (Nat.le_of_ble_eq_true rfl) ?_
    refine ARun.pure (PureOp.intOp rfl (.tmp rfl) (.tmp rfl) rfl) rfl rfl (Nat.le_of_ble_eq_true rfl) ?_
    refine ARun.nil ?_
    refine AW.cond (.tmp rfl) (fun hb2 => ?_) (fun hb2 => ?_)
    · have _u := True.intro
      replace hb2 := of_decide_eq_false (of_not hb2)
      refine AW.seq ?_
      refine AW.region ?_
      refine ARun.pure (PureOp.assign rfl .bool) rfl rfl (Nat.le_of_ble_eq_true rfl) ?_
      refine ARun.nil ?_
      refine AW.ret (show ResL _ _ [.tmp 4] _ from resB rfl ?_)
      exact (decide_eq_false (fun e => hb2 (by rw [e]))).symm
    · have _u := True.intro
      replace hb2 := of_decide_eq_true (not_f hb2)
      refine AW.skip ?_
      refine AW.seq ?_
      refine AW.region ?_
      refine ARun.pure (PureOp.assign rfl .bool) rfl rfl (Nat.le_of_ble_eq_true rfl) ?_
      refine ARun.nil ?_
      refine AW.ret (show ResL _ _ [.tmp 4] _ from resB rfl ?_)
      exact (decide_eq_true (by cases x; cases y; simp_all)).symm
end Go.Proofs.YtonfeiloekofdaaDoor


namespace Go.Proofs.YtonfeiloekofdaaDoor
open Go.ChangeShapes Go.WideShapes Go.ChangeAt Go.RowKit Go.BigFrame Go.Deep
set_option linter.unusedVariables false
set_option linter.unusedSimpArgs false
theorem vhg_ag_24_2 : aggB Tryd.prog 24 2 = true := by kernel_rfl
theorem vhg_bo_4 : boolB Tryd.prog 4 = true := by kernel_rfl
theorem vhg_ca_4 : callB Tryd.prog 4 = true := by kernel_rfl
theorem vhg_ca_5 : callB Tryd.prog 5 = true := by kernel_rfl
theorem vhg_ca_6 : callB Tryd.prog 6 = true := by kernel_rfl
theorem vhg_ca_7 : callB Tryd.prog 7 = true := by kernel_rfl
theorem vhg_ca_8 : callB Tryd.prog 8 = true := by kernel_rfl
theorem vhg_st_9 : stringB Tryd.prog 9 = true := by kernel_rfl
theorem vhg_sz_24_2 : sizeB Tryd.prog 24 2 = true := by kernel_rfl
/-- What the row lists. -/
def laidD : List (String × DataW Unit) := [("math/bits.deBruijn32tab", Rows.laid_math_bits_deBruijn32tab), ("math/bits.deBruijn64tab", Rows.laid_math_bits_deBruijn64tab), ("internal/strconv.uint64pow10", Rows.laid_internal_strconv_uint64pow10), ("unicode/utf8.acceptRanges", Rows.laid_unicode_utf8_acceptRanges), ("strconv.ErrRange", Rows.laid_strconv_ErrRange), ("strconv.ErrSyntax", Rows.laid_strconv_ErrSyntax), ("unicode/utf8.first", Rows.laid_unicode_utf8_first)]
theorem gTenType : (Tryd.prog.globals[5]?).map (·.type) = some 116 := by kernel_rfl
theorem gSynType : (Tryd.prog.globals[0]?).map (·.type) = some 55 := by kernel_rfl
theorem gRanType : (Tryd.prog.globals[1]?).map (·.type) = some 55 := by kernel_rfl
theorem star_err : "*" ++ "errors.errorString" = "*errors.errorString" := by decide
theorem row_err (u : TypeId) (h : Tryd.prog.typeName? 3 u = some "*errors.errorString") : u = 100 :=
  typeName_ptr_named (nm := "errors.errorString") (by rw [star_err]; kernel_rfl) (by kernel_rfl) (by decide) u (by rw [star_err]; exact h)
theorem ten_only : (laidD.filter fun x => x.1 == "internal/strconv.uint64pow10") = [("internal/strconv.uint64pow10", Lib.tabData .u64 Lib.pow10Tab)] := by kernel_rfl
theorem syn_only : (laidD.filter fun x => x.1 == "strconv.ErrSyntax") = [("strconv.ErrSyntax", Rows.laid_strconv_ErrSyntax)] := by kernel_rfl
theorem ran_only : (laidD.filter fun x => x.1 == "strconv.ErrRange") = [("strconv.ErrRange", Rows.laid_strconv_ErrRange)] := by kernel_rfl
theorem cells_es : Tryd.prog.cellsOf 102 = 1 := by kernel_rfl
theorem cells_s : Tryd.prog.cellsOf 9 = 1 := by kernel_rfl
theorem pre_of_laid {W : World} (h : laidMetH Tryd.prog laidD W) (hsh : W.ShapedOpen Tryd.prog) : Pre W.heap.size W := by
  rw [MakeChecks.laidMetH_plain _ _ _ (by kernel_rfl)] at h
  have hL := laidMet.filter (fun x => x.1 == "internal/strconv.uint64pow10") h
  rw [ten_only] at hL
  have ht : Lib.TabIs Tryd.prog W "internal/strconv.uint64pow10" .u64 Lib.pow10Tab := Lib.tabIs_of_head gTen gTenType Tryd.underlying116 Tryd.underlying87 (by kernel_rfl) (by kernel_rfl) hL
  have hS := laidMet.filter (fun x => x.1 == "strconv.ErrSyntax") h
  rw [syn_only] at hS
  have hR := laidMet.filter (fun x => x.1 == "strconv.ErrRange") h
  rw [ran_only] at hR
  obtain ⟨a0, s0, hv0, _, _, _⟩ := laid_sentinel hS gSyn gSynType Tryd.underlying55 row_err Tryd.underlying100 Tryd.underlying102 rfl rfl Tryd.underlying9 cells_es cells_s
  obtain ⟨a1, s1, hv1, _, _, _⟩ := laid_sentinel hR gRan gRanType Tryd.underlying55 row_err Tryd.underlying100 Tryd.underlying102 rfl rfl Tryd.underlying9 cells_es cells_s
  refine ⟨?_, ht, ⟨_, _, hv0⟩, ⟨_, _, hv1⟩, cell_of_shapedOpen_int (zero := #[.int .i64 0]) (t := 3) hsh (of_decide_eq_true (by kernel_rfl)) (by kernel_rfl) rfl (by kernel_rfl) (by kernel_rfl) Tryd.underlying3⟩
  unfold Lib.TabIs World.var? at ht
  rw [gTen] at ht
  simp only [Option.bind_some] at ht
  by_cases h0 : 5 < W.heap.size
  · exact h0
  · rw [Array.getElem?_eq_none (by omega)] at ht; cases ht
theorem door_met (os : Os) (args : Array Value) : laidMetH Tryd.prog laidD ((World.laidAll Tryd.prog os laidD).forCall (fun _ _ => 0) ⟨#[], args, []⟩).memory := by
  rw [MakeChecks.laidMetH_plain _ _ _ (by kernel_rfl)]
  exact laidMet_laidAll _ (by kernel_rfl) (by kernel_rfl)
section
variable {H : Type} {enc : TypeId × Value → H}
/-- The wrap for a row that lists variables; the contract is told the world's shape. -/
theorem handed_shaped {a : Assume} {C : Checked} {os : Os} {f : FuncId} {fn : Func} {s : ChangeSpec} {conds : List PathCond} {apart fresh handsOn again : Bool} {X : World → Array Value → Prop}
    (hX : ∀ (w w' : World) (args : Array Value), w.heap = w'.heap → X w args → X w' args)
    (own : ownKnob C.prog.godebug = none) (started : os.Started) (noInit : C.prog.inits.idxOf? f = none) (hfn : C.prog.funcs[f]? = some fn)
    (witness : ∃ (w : World) (tape : Tape) (i : Input), w.os = os ∧ (w.forCall tape i).Shaped C.prog ∧ i.vars = [] ∧ Input.okWide C.prog (w.forCall tape i) .any w.heap.size f i ∧
      ((s.pre enc C.prog fn conds apart (w.forCall tape i).memory i.args ∧ X (w.forCall tape i).memory i.args) ∧ sizedMet enc C.prog fn (OpenSpec.ofChange s) apart (w.forCall tape i).memory i.args) ∧ a.holds C.prog (lone (Frame.enter C.prog f i.args .normal) [] (w.forCall tape i)))
    (contract : ∀ (W : World) (base : Nat) (args : Array Value) (ds gs : List (DataW H)) (before : List MemPlace), W.ShapedOpen C.prog →
      (∀ (j : Nat) t v, fn.params[j]? = some t → args[j]? = some v → Value.okWide C.prog W .any base t v) →
      DataW.Whole enc C.prog fn.params.toList s.vars apart W args.toList ds gs before →
      conds.all (PathCond.test C.prog ⟨fn.params.toList, ds, s.plain.varTypes C.prog, gs⟩) = true →
      (DataW.weightsEach C.prog (fn.params.toList ++ s.plain.varTypes C.prog) (ds ++ gs)).all (· ≤ reachBytes) = true → X W args →
      a.holds C.prog (lone (Frame.enter C.prog f args .normal) [] W) →
      Calls C.prog f args W fun e W' => ∃ v, e = .returned v ∧ s.post enc C.prog fn apart fresh handsOn again W args v W') :
    ReturnsInHanded a C os f .any (fun w args => (s.pre enc C.prog fn conds apart w args ∧ X w args) ∧ sizedMet enc C.prog fn (OpenSpec.ofChange s) apart w args) (s.post enc C.prog fn apart fresh handsOn again) := by
  refine returnsInHanded_of_calls own started noInit witness ?_
  intro w tape i _ hsh _ hok hpre hholds
  obtain ⟨_, _, _, fn', hfn', _, _, _, _, hval⟩ := hok
  have e : fn' = fn := Option.some.inj (hfn'.symm.trans hfn)
  subst e
  obtain ⟨⟨⟨ds, gs, before, hw, hc⟩, hx⟩, hz⟩ := hpre
  have hw' := DataW.Whole.of_heap (w' := w.forCall tape i) (by rfl) hw
  refine (contract (w.forCall tape i) w.heap.size i.args ds gs before hsh hval hw' hc (hz.weights hw) (hX _ _ _ (by rfl) hx) hholds).mono fun e W' ⟨v, he, hp⟩ => ?_
  subst he
  exact ChangeSpec.post_blind hp
end

theorem smp_cnt (l : List GSample) : ctL crSample l ≤ 2 * l.length := ctL_len (fun _ => Nat.le_refl 2) l
theorem ctL_mem {α : Type} {ct : α → Nat} {c : Nat} : ∀ {l : List α}, (∀ x ∈ l, ct x ≤ c) → ctL ct l ≤ c * l.length
  | [], _ => Nat.zero_le _
  | a :: l, h => by
    have h1 := h a (List.mem_cons_self ..)
    have h2 := ctL_mem (l := l) fun x hx => h x (List.mem_cons_of_mem _ hx)
    have e : ctL ct (a :: l) = ct a + ctL ct l := by simp [ctL]
    rw [e, List.length_cons, Nat.mul_add]; omega
theorem good_cnt {h : GHead} (hg : goodHead ⟨h.rows, 0⟩ = true) : cvHead h ≤ 1000 := by
  have h1 : ctL crRow h.rows ≤ 81 * h.rows.length := ctL_mem fun r hr => by
    obtain ⟨k, hk, rfl⟩ := List.mem_iff_getElem.1 hr
    have h2 := smp_40 (good_at (h := ⟨h.rows, 0⟩) hg hk).2.2
    have e : h.rows.getD k (default : GRow) = h.rows[k] := by rw [List.getD_eq_getElem?_getD, List.getElem?_eq_getElem hk]; rfl
    have h2 : (h.rows.getD k (default : GRow)).samples.length ≤ 40 := h2
    rw [e] at h2
    have h3 := smp_cnt (h.rows[k]).samples
    have e2 : crRow h.rows[k] = 0 + 1 + ctL crSample (h.rows[k]).samples := rfl
    omega
  have h2 := good_len (h := ⟨h.rows, 0⟩) hg
  have h2 : h.rows.length ≤ 8 := h2
  show 0 + ctL crRow h.rows ≤ _
  omega
theorem headRV_cnt (s : ByteArray) : cvHead (headRV s).1 ≤ 1000 := by
  by_cases h : ∃ h, HeadOf s h
  · obtain ⟨h, H⟩ := h
    rw [headRV_yes H]; exact good_cnt (good0 H.good)
  · rw [headRV_no fun x hx => h ⟨x, hx⟩]; exact Nat.zero_le _
theorem law_ReadHead (x0 : ByteArray) : Fn Tryd.prog 3 [.one (.str x0)] (.one (.bool true)) := by
  have hcnt := headRV_cnt x0
  refine Fn.of_body (fn := Tryd.f3) Tryd.func3 rfl (Nat.le_of_ble_eq_true rfl) trivial ?_
  intro w0
  show AW _ 66 _ _ _ _
  refine AW.seq ?_
  refine AW.region ?_
  refine ARun.pure (PureOp.assign rfl .bool) rfl rfl (Nat.le_of_ble_eq_true rfl) ?_
  refine ARun.nil ?_
  refine AW.seq ?_
  refine AW.seq ?_
  refine AW.region ?_
  refine ARun.pure (PureOp.move rfl (.tmp rfl)) rfl rfl (Nat.le_of_ble_eq_true rfl) ?_
  refine ARun.pure (PureOp.lenStr rfl (.tmp rfl) vhg_st_9) rfl rfl (Nat.le_of_ble_eq_true rfl) ?_
  refine ARun.pure (PureOp.intOp rfl (.tmp rfl) .int rfl) rfl rfl (Nat.le_of_ble_eq_true rfl) ?_
  refine ARun.nil ?_
  refine AW.cond (.tmp rfl) (fun hb1 => ?_) (fun hb1 => ?_)
  · have _u := True.intro
    replace hb1 := of_decide_eq_true hb1
    refine AW.seq ?_
    refine AW.region ?_
    refine ARun.pure (PureOp.assign rfl .bool) rfl rfl (Nat.le_of_ble_eq_true rfl) ?_
    refine ARun.nil ?_
    refine AW.ret (show ResL _ _ [.tmp 2] _ from resB rfl ?_)
    rfl
  · have _u := True.intro
    replace hb1 := of_decide_eq_false hb1
    refine AW.skip ?_
    refine AW.seq ?_
    refine AW.region ?_
    refine ARun.pure (PureOp.move rfl (.tmp rfl)) rfl rfl (Nat.le_of_ble_eq_true rfl) ?_
    refine ARun.prod (K := 0) rfl (v_sReadHead x0) ⟨rfl, (by repeat first | exact trivial | refine ⟨by decide, by first | rfl | exact trivial | (intro i j; first | rfl | exact getD_no rfl | (dsimp only; split <;> first | rfl | exact getD_no rfl) | exact scl_no (by apply_assumption) _), ?_⟩)⟩ ⟨⟨_, (.tmp rfl), .str⟩, trivial⟩ vhg_ca_4 rfl rfl rfl rfl rfl (Nat.le_of_ble_eq_true rfl) ?_
    refine ARun.pure (PureOp.move rfl (.tmp rfl)) rfl rfl (Nat.le_of_ble_eq_true rfl) ?_
    refine ARun.pure (PureOp.ext2a rfl (.tmp rfl)) rfl rfl (Nat.le_of_ble_eq_true rfl) ?_
    refine ARun.pure (PureOp.ext2b rfl (.tmp rfl)) rfl rfl (Nat.le_of_ble_eq_true rfl) ?_
    refine ARun.alloc (id := 1) (l := [.con (.slice none 0 0), .int .i64 0]) (z := (.agg #[.slice none 0 0, .int .i64 0])) rfl (by kernel_rfl) (fun _ _ _ => ⟨_, _, rfl, rfl, ⟨_, _, rfl, rfl, rfl⟩⟩) ⟨rfl, (by repeat first | exact trivial | refine ⟨by decide, by first | rfl | exact trivial | (intro i j; first | rfl | exact getD_no rfl | (dsimp only; split <;> first | rfl | exact getD_no rfl) | exact scl_no (by apply_assumption) _), ?_⟩)⟩ rfl rfl rfl (Nat.le_of_ble_eq_true rfl) ?_
    refine ARun.store rfl (.tmp rfl) (.tmp rfl) (SV.cells_of (by exact ⟨trivial, trivial, trivial⟩)) rfl (Nat.le_of_ble_eq_true rfl) vhg_sz_24_2 rfl rfl ?_
    refine ARun.pure (PureOp.assign rfl (.tmp rfl)) rfl rfl (Nat.le_of_ble_eq_true rfl) ?_
    refine ARun.nil ?_
    refine AW.seq ?_
    refine AW.region ?_
    refine ARun.pure (PureOp.move rfl (.tmp rfl)) rfl rfl (Nat.le_of_ble_eq_true rfl) ?_
    refine ARun.prod (K := 2) rfl (v_iReadHead x0) ⟨rfl, (by repeat first | exact trivial | refine ⟨by decide, by first | rfl | exact trivial | (intro i j; first | rfl | exact getD_no rfl | (dsimp only; split <;> first | rfl | exact getD_no rfl) | exact scl_no (by apply_assumption) _), ?_⟩)⟩ ⟨⟨_, (.tmp rfl), .str⟩, trivial⟩ vhg_ca_5 rfl rfl rfl rfl rfl (Nat.le_of_ble_eq_true rfl) ?_
    refine ARun.pure (PureOp.move rfl (.tmp rfl)) rfl rfl (Nat.le_of_ble_eq_true rfl) ?_
    refine ARun.pure (PureOp.ext2a rfl (.tmp rfl)) rfl rfl (Nat.le_of_ble_eq_true rfl) ?_
    refine ARun.pure (PureOp.ext2b rfl (.tmp rfl)) rfl rfl (Nat.le_of_ble_eq_true rfl) ?_
    refine ARun.alloc (id := 3) (l := [.con (.slice none 0 0), .int .i64 0]) (z := (.agg #[.slice none 0 0, .int .i64 0])) rfl (by kernel_rfl) (fun _ _ _ => ⟨_, _, rfl, rfl, ⟨_, _, rfl, rfl, rfl⟩⟩) ⟨rfl, (by repeat first | exact trivial | refine ⟨by decide, by first | rfl | exact trivial | (intro i j; first | rfl | exact getD_no rfl | (dsimp only; split <;> first | rfl | exact getD_no rfl) | exact scl_no (by apply_assumption) _), ?_⟩)⟩ rfl rfl rfl (Nat.le_of_ble_eq_true rfl) ?_
    refine ARun.store rfl (.tmp rfl) (.tmp rfl) (SV.cells_of (by exact ⟨trivial, trivial, trivial⟩)) rfl (Nat.le_of_ble_eq_true rfl) vhg_sz_24_2 rfl rfl ?_
    refine ARun.pure (PureOp.assign rfl (.tmp rfl)) rfl rfl (Nat.le_of_ble_eq_true rfl) ?_
    refine ARun.nil ?_
    refine AW.seq ?_
    refine AW.seq ?_
    refine AW.region ?_
    refine ARun.pure (PureOp.loadPtrAgg rfl (.tmp rfl) vhg_ag_24_2 rfl rfl (Nat.le_of_ble_eq_true rfl) (Nat.le_of_ble_eq_true rfl)) rfl rfl (Nat.le_of_ble_eq_true rfl) ?_
    refine ARun.pure (PureOp.loadPtrAgg rfl (.tmp rfl) vhg_ag_24_2 rfl rfl (Nat.le_of_ble_eq_true rfl) (Nat.le_of_ble_eq_true rfl)) rfl rfl (Nat.le_of_ble_eq_true rfl) ?_
    refine ARun.pure (PureOp.call rfl (v_eqHead ((headRV x0).1) ((headRV x0).1)) ⟨⟨_, (.tmp rfl), ⟨(Vw.cast (Vw.tre rfl (Nat.le_of_ble_eq_true rfl)) rfl), .int, trivial⟩⟩, ⟨_, (.tmp rfl), ⟨(Vw.cast (Vw.tre rfl (Nat.le_of_ble_eq_true rfl)) rfl), .int, trivial⟩⟩, trivial⟩ vhg_ca_6 trivial) rfl rfl (Nat.le_of_ble_eq_true rfl) ?_
    refine ARun.pure (PureOp.not rfl (.tmp rfl)) rfl rfl (Nat.le_of_ble_eq_true rfl) ?_
    refine ARun.pure (PureOp.move rfl (.tmp rfl)) rfl rfl (Nat.le_of_ble_eq_true rfl) ?_
    refine ARun.gpure (want := false) (.tf rfl) (fun hg2 => PureOp.move rfl (.tmp rfl)) rfl rfl (Nat.le_of_ble_eq_true rfl) rfl (Nat.le_of_ble_eq_true rfl) ?_
    refine ARun.gpure (want := false) (.tf rfl) (fun hg3 => PureOp.move rfl (.tmp rfl)) rfl rfl (Nat.le_of_ble_eq_true rfl) rfl (Nat.le_of_ble_eq_true rfl) ?_
    refine ARun.gpure (want := false) (.tf rfl) (fun hg4 => PureOp.boolNe rfl (.gtmp rfl hg4) (.gtmp rfl hg4) vhg_bo_4) rfl rfl (Nat.le_of_ble_eq_true rfl) rfl (Nat.le_of_ble_eq_true rfl) ?_
    refine ARun.pure (PureOp.pick rfl (.tmp rfl) (fun _ => .bool) (fun hp6 => .gtmp rfl (not_of hp6))) rfl rfl (Nat.le_of_ble_eq_true rfl) ?_
    refine ARun.nil ?_
    refine AW.cond (.tmp rfl) (fun hb7 => ?_) (fun hb7 => ?_)
    · have _u := True.intro
      exact absurd (show (cond (!(decide (((headRV x0).1) = ((headRV x0).1)))) true (!(((headRV x0).2) == ((headRV x0).2)))) = false by first | (simp; done) | (rw [cast_neg]; simp; done)) (by rw [hb7]; simp)
      --end
    · have _u := True.intro
      refine AW.skip ?_
      refine AW.seq ?_
      refine AW.region ?_
      refine ARun.pure (PureOp.assign rfl .int) rfl rfl (Nat.le_of_ble_eq_true rfl) ?_
      refine ARun.nil ?_
      refine AW.seq ?_
      refine AW.region ?_
      refine ARun.pure (PureOp.loadPtrAgg rfl (.tmp rfl) vhg_ag_24_2 rfl rfl (Nat.le_of_ble_eq_true rfl) (Nat.le_of_ble_eq_true rfl)) rfl rfl (Nat.le_of_ble_eq_true rfl) ?_
      refine ARun.pure (PureOp.move rfl (.tmp rfl)) rfl rfl (Nat.le_of_ble_eq_true rfl) ?_
      refine ARun.mark (id := 2) (q0 := 0) (X' := fun q => if q < 2 then (fun p => ([.lst 2 (((mvHead ((headRV x0).1) 1).rows).length) (fun i0 j0 => ([.str ((((mvHead ((headRV x0).1) 1).rows).getD i0 (default : GRow)).name), .lst 2 (((((mvHead ((headRV x0).1) 1).rows).getD i0 (default : GRow)).samples).length) (fun i1 j1 => ([.int .i64 ((((((mvHead ((headRV x0).1) 1).rows).getD i0 (default : GRow)).samples).getD i1 (default : GSample)).at_), .int .i64 ((((((mvHead ((headRV x0).1) 1).rows).getD i0 (default : GRow)).samples).getD i1 (default : GSample)).value)] : List AV).getD j1 (.con undef))] : List AV).getD j0 (.con undef)), .int .i64 ((mvHead ((headRV x0).1) 1).offset)] : List AV).getD p (.con undef)) q else (fun p => ([.lst 2 ((((headRV x0).1).rows).length) (fun i0 j0 => ([.str (((((headRV x0).1).rows).getD i0 (default : GRow)).name), .lst 2 ((((((headRV x0).1).rows).getD i0 (default : GRow)).samples).length) (fun i1 j1 => ([.int .i64 (((((((headRV x0).1).rows).getD i0 (default : GRow)).samples).getD i1 (default : GSample)).at_), .int .i64 (((((((headRV x0).1).rows).getD i0 (default : GRow)).samples).getD i1 (default : GSample)).value)] : List AV).getD j1 (.con undef))] : List AV).getD j0 (.con undef)), .int .i64 (((headRV x0).1).offset), .bool ((headRV x0).2)] : List AV).getD p (.con undef)) q) rfl (m_Head ((headRV x0).1) 1 ⟨by omega, by omega⟩) vhg_ca_7 trivial (.tmp rfl) rfl rfl rfl (Nat.le_of_ble_eq_true rfl) (fun p hp _ => match p, hp with | 0, _ => rfl | 1, _ => rfl | _ + 2, h => absurd h (by simp [SV.leaves])) rfl rfl (fun p hp _ => match p, hp with | 0, _ => rfl | 1, _ => rfl | _ + 2, h => absurd h (by simp [SV.leaves])) (fun q hq hne => match q, hq, hne with | 0, _, h => absurd rfl (h 0 (Nat.le_of_ble_eq_true rfl) rfl) | 1, _, _ => rfl | q + 2, _, _ => if_neg (by omega)) ⟨(.tmp rfl), trivial, trivial⟩ rfl rfl (Nat.le_of_ble_eq_true rfl) ?_
      refine ARun.pure (PureOp.assign rfl (.tmp rfl)) rfl rfl (Nat.le_of_ble_eq_true rfl) ?_
      refine ARun.nil ?_
      refine AW.seq ?_
      refine AW.region ?_
      refine ARun.pure (PureOp.assign rfl .int) rfl rfl (Nat.le_of_ble_eq_true rfl) ?_
      refine ARun.nil ?_
      refine AW.seq ?_
      refine AW.region ?_
      refine ARun.pure (PureOp.loadPtrAgg rfl (.tmp rfl) vhg_ag_24_2 rfl rfl (Nat.le_of_ble_eq_true rfl) (Nat.le_of_ble_eq_true rfl)) rfl rfl (Nat.le_of_ble_eq_true rfl) ?_
      refine ARun.pure (PureOp.move rfl (.tmp rfl)) rfl rfl (Nat.le_of_ble_eq_true rfl) ?_
      refine ARun.pure (PureOp.call rfl (h_Head ((headRV x0).1) (mvHead ((headRV x0).1) 1) 1 rfl ⟨by omega, by omega⟩) ⟨⟨_, (.tmp rfl), ⟨(Vw.cast (Vw.tre rfl (Nat.le_of_ble_eq_true rfl)) rfl), .int, trivial⟩⟩, ⟨_, (.tmp rfl), .int⟩, trivial⟩ vhg_ca_8 trivial) rfl rfl (Nat.le_of_ble_eq_true rfl) ?_
      refine ARun.pure (PureOp.assign rfl (.tmp rfl)) rfl rfl (Nat.le_of_ble_eq_true rfl) ?_
      refine ARun.nil ?_
      refine AW.seq ?_
      refine AW.seq ?_
      refine AW.region ?_
      refine ARun.pure (PureOp.move rfl (.tmp rfl)) rfl rfl (Nat.le_of_ble_eq_true rfl) ?_
      refine ARun.pure (PureOp.intOp rfl (.tmp rfl) .int rfl) rfl rfl (Nat.le_of_ble_eq_true rfl) ?_
      refine ARun.nil ?_
      refine AW.cond (.tmp rfl) (fun hb8 => ?_) (fun hb8 => ?_)
      · have _u := True.intro
        replace hb8 := of_decide_eq_true hb8
        exact absurd hb8 (by omega)
        --end
      · have _u := True.intro
        replace hb8 := of_decide_eq_false hb8
        refine AW.skip ?_
        refine AW.seq ?_
        refine AW.seq ?_
        refine AW.region ?_
        refine ARun.pure (PureOp.move rfl (.tmp rfl)) rfl rfl (Nat.le_of_ble_eq_true rfl) ?_
        refine ARun.pure (PureOp.move rfl (.tmp rfl)) rfl rfl (Nat.le_of_ble_eq_true rfl) ?_
        refine ARun.pure (PureOp.intOp rfl (.tmp rfl) (.tmp rfl) rfl) rfl rfl (Nat.le_of_ble_eq_true rfl) ?_
        refine ARun.nil ?_
        refine AW.cond (.tmp rfl) (fun hb9 => ?_) (fun hb9 => ?_)
        · have _u := True.intro
          replace hb9 := of_decide_eq_false (of_not hb9)
          exact absurd rfl hb9
          --end
        · have _u := True.intro
          replace hb9 := of_decide_eq_true (not_f hb9)
          refine AW.skip ?_
          refine AW.seq ?_
          refine AW.region ?_
          refine ARun.pure (PureOp.move rfl (.tmp rfl)) rfl rfl (Nat.le_of_ble_eq_true rfl) ?_
          refine ARun.prod (K := 4) rfl (v_iReadHead x0) ⟨rfl, (by repeat first | exact trivial | refine ⟨by decide, by first | rfl | exact trivial | (intro i j; first | rfl | exact getD_no rfl | (dsimp only; split <;> first | rfl | exact getD_no rfl) | exact scl_no (by apply_assumption) _), ?_⟩)⟩ ⟨⟨_, (.tmp rfl), .str⟩, trivial⟩ vhg_ca_5 rfl rfl rfl rfl rfl (Nat.le_of_ble_eq_true rfl) ?_
          refine ARun.pure (PureOp.move rfl (.tmp rfl)) rfl rfl (Nat.le_of_ble_eq_true rfl) ?_
          refine ARun.pure (PureOp.ext2a rfl (.tmp rfl)) rfl rfl (Nat.le_of_ble_eq_true rfl) ?_
          refine ARun.pure (PureOp.ext2b rfl (.tmp rfl)) rfl rfl (Nat.le_of_ble_eq_true rfl) ?_
          refine ARun.alloc (id := 5) (l := [.con (.slice none 0 0), .int .i64 0]) (z := (.agg #[.slice none 0 0, .int .i64 0])) rfl (by kernel_rfl) (fun _ _ _ => ⟨_, _, rfl, rfl, ⟨_, _, rfl, rfl, rfl⟩⟩) ⟨rfl, (by repeat first | exact trivial | refine ⟨by decide, by first | rfl | exact trivial | (intro i j; first | rfl | exact getD_no rfl | (dsimp only; split <;> first | rfl | exact getD_no rfl) | exact scl_no (by apply_assumption) _), ?_⟩)⟩ rfl rfl rfl (Nat.le_of_ble_eq_true rfl) ?_
          refine ARun.store rfl (.tmp rfl) (.tmp rfl) (SV.cells_of (by exact ⟨trivial, trivial, trivial⟩)) rfl (Nat.le_of_ble_eq_true rfl) vhg_sz_24_2 rfl rfl ?_
          refine ARun.pure (PureOp.assign rfl (.tmp rfl)) rfl rfl (Nat.le_of_ble_eq_true rfl) ?_
          refine ARun.nil ?_
          refine AW.seq ?_
          refine AW.seq ?_
          refine AW.region ?_
          refine ARun.pure (PureOp.loadPtrAgg rfl (.tmp rfl) vhg_ag_24_2 rfl rfl (Nat.le_of_ble_eq_true rfl) (Nat.le_of_ble_eq_true rfl)) rfl rfl (Nat.le_of_ble_eq_true rfl) ?_
          refine ARun.pure (PureOp.loadPtrAgg rfl (.tmp rfl) vhg_ag_24_2 rfl rfl (Nat.le_of_ble_eq_true rfl) (Nat.le_of_ble_eq_true rfl)) rfl rfl (Nat.le_of_ble_eq_true rfl) ?_
          refine ARun.pure (PureOp.call rfl (v_eqHead ((headRV x0).1) ((headRV x0).1)) ⟨⟨_, (.tmp rfl), ⟨(Vw.cast (Vw.tre rfl (Nat.le_of_ble_eq_true rfl)) rfl), .int, trivial⟩⟩, ⟨_, (.tmp rfl), ⟨(Vw.cast (Vw.tre rfl (Nat.le_of_ble_eq_true rfl)) rfl), .int, trivial⟩⟩, trivial⟩ vhg_ca_6 trivial) rfl rfl (Nat.le_of_ble_eq_true rfl) ?_
          refine ARun.pure (PureOp.not rfl (.tmp rfl)) rfl rfl (Nat.le_of_ble_eq_true rfl) ?_
          refine ARun.pure (PureOp.move rfl (.tmp rfl)) rfl rfl (Nat.le_of_ble_eq_true rfl) ?_
          refine ARun.gpure (want := false) (.tf rfl) (fun hg10 => PureOp.move rfl (.tmp rfl)) rfl rfl (Nat.le_of_ble_eq_true rfl) rfl (Nat.le_of_ble_eq_true rfl) ?_
          refine ARun.gpure (want := false) (.tf rfl) (fun hg11 => PureOp.move rfl (.tmp rfl)) rfl rfl (Nat.le_of_ble_eq_true rfl) rfl (Nat.le_of_ble_eq_true rfl) ?_
          refine ARun.gpure (want := false) (.tf rfl) (fun hg12 => PureOp.boolNe rfl (.gtmp rfl hg12) (.gtmp rfl hg12) vhg_bo_4) rfl rfl (Nat.le_of_ble_eq_true rfl) rfl (Nat.le_of_ble_eq_true rfl) ?_
          refine ARun.pure (PureOp.pick rfl (.tmp rfl) (fun _ => .bool) (fun hp14 => .gtmp rfl (not_of hp14))) rfl rfl (Nat.le_of_ble_eq_true rfl) ?_
          refine ARun.nil ?_
          refine AW.cond (.tmp rfl) (fun hb15 => ?_) (fun hb15 => ?_)
          · have _u := True.intro
            exact absurd (show (cond (!(decide (((headRV x0).1) = ((headRV x0).1)))) true (!(((headRV x0).2) == ((headRV x0).2)))) = false by first | (simp; done) | (rw [cast_neg]; simp; done)) (by rw [hb15]; simp)
            --end
          · have _u := True.intro
            refine AW.skip ?_
            refine AW.seq ?_
            refine AW.region ?_
            refine ARun.pure (PureOp.assign rfl .int) rfl rfl (Nat.le_of_ble_eq_true rfl) ?_
            refine ARun.nil ?_
            refine AW.seq ?_
            refine AW.region ?_
            refine ARun.pure (PureOp.loadPtrAgg rfl (.tmp rfl) vhg_ag_24_2 rfl rfl (Nat.le_of_ble_eq_true rfl) (Nat.le_of_ble_eq_true rfl)) rfl rfl (Nat.le_of_ble_eq_true rfl) ?_
            refine ARun.pure (PureOp.move rfl (.tmp rfl)) rfl rfl (Nat.le_of_ble_eq_true rfl) ?_
            refine ARun.pure (PureOp.call rfl (h_Head ((headRV x0).1) (mvHead ((headRV x0).1) 1) 1 rfl ⟨by omega, by omega⟩) ⟨⟨_, (.tmp rfl), ⟨(Vw.cast (Vw.tre rfl (Nat.le_of_ble_eq_true rfl)) rfl), .int, trivial⟩⟩, ⟨_, (.tmp rfl), .int⟩, trivial⟩ vhg_ca_8 trivial) rfl rfl (Nat.le_of_ble_eq_true rfl) ?_
            refine ARun.pure (PureOp.assign rfl (.tmp rfl)) rfl rfl (Nat.le_of_ble_eq_true rfl) ?_
            refine ARun.nil ?_
            refine AW.seq ?_
            refine AW.seq ?_
            refine AW.region ?_
            refine ARun.pure (PureOp.move rfl (.tmp rfl)) rfl rfl (Nat.le_of_ble_eq_true rfl) ?_
            refine ARun.pure (PureOp.intOp rfl (.tmp rfl) .int rfl) rfl rfl (Nat.le_of_ble_eq_true rfl) ?_
            refine ARun.nil ?_
            refine AW.cond (.tmp rfl) (fun hb16 => ?_) (fun hb16 => ?_)
            · have _u := True.intro
              replace hb16 := of_decide_eq_true hb16
              exact absurd hb16 (by omega)
              --end
            · have _u := True.intro
              replace hb16 := of_decide_eq_false hb16
              refine AW.skip ?_
              refine AW.seq ?_
              refine AW.seq ?_
              refine AW.region ?_
              refine ARun.pure (PureOp.move rfl (.tmp rfl)) rfl rfl (Nat.le_of_ble_eq_true rfl) ?_
              refine ARun.pure (PureOp.move rfl (.tmp rfl)) rfl rfl (Nat.le_of_ble_eq_true rfl) ?_
              refine ARun.pure (PureOp.intOp rfl (.tmp rfl) (.tmp rfl) rfl) rfl rfl (Nat.le_of_ble_eq_true rfl) ?_
              refine ARun.nil ?_
              refine AW.cond (.tmp rfl) (fun hb17 => ?_) (fun hb17 => ?_)
              · have _u := True.intro
                replace hb17 := of_decide_eq_false (of_not hb17)
                exact absurd rfl hb17
                --end
              · have _u := True.intro
                replace hb17 := of_decide_eq_true (not_f hb17)
                refine AW.skip ?_
                refine AW.seq ?_
                refine AW.region ?_
                refine ARun.pure (PureOp.assign rfl .bool) rfl rfl (Nat.le_of_ble_eq_true rfl) ?_
                refine ARun.nil ?_
                refine AW.ret (show ResL _ _ [.tmp 2] _ from resB rfl ?_)
                rfl

set_option maxRecDepth 100000 in
theorem lifted_ReadHead (os : Os) (started : os.Started) (H : Type) (enc : TypeId × Value → H) :
    ReturnsInHanded {} Tryd.checked os 3 .any (fun w args => (Rows.fnExactReadHeadSpec.pre enc Tryd.prog Tryd.f3 [] false w args ∧ laidMetH Tryd.prog laidD w) ∧ sizedMet enc Tryd.prog Tryd.f3 (OpenSpec.ofChange Rows.fnExactReadHeadSpec) false w args) (Rows.fnExactReadHeadSpec.post enc Tryd.prog Tryd.f3 false true false false) := by
  refine handed_shaped (C := Tryd.checked) (X := fun w _ => laidMetH Tryd.prog laidD w) (fun _ _ _ hh h => h.of_heap hh) own started (by kernel_rfl) Tryd.func3
    (ChangeSpec.witness_shaped (enc := enc) (C := Tryd.checked) (os := os) (X := fun w _ => laidMetH Tryd.prog laidD w) false (World.laidAll Tryd.prog os laidD) #[.string ByteArray.empty] 8 (World.laidAll_os _ _ _) (World.shaped_of_ZipB (by kernel_rfl) (by kernel_rfl)) (by kernel_rfl) (by kernel_rfl) (by kernel_rfl) (door_met os _)) ?_
  intro W base args ds gs before hsh hval0 hW _ _ hL _
  have hval : ∀ (j : Nat) t v, Tryd.f3.params[j]? = some t → args[j]? = some v → Value.okWide Tryd.prog W .any base t v := hval0
  have hW' := hW
  obtain ⟨p, q, hA0, hV, rfl, hfz, hnd⟩ := hW
  have hA : DataW.TrodAll enc Tryd.prog W 0 (fun _ => true) true Tryd.f3.params.toList args.toList ds p := hA0
  rw [Tryd.params3] at hA hval
  obtain ⟨v0, vs0, d0, ds0, p0, q0, hargs, rfl, rfl, h0, r0⟩ := trodAll_cons hA
  obtain ⟨rfl, rfl, rfl⟩ := trodAll_nil r0
  obtain rfl : args = #[v0] := by cases args; simp_all
  obtain ⟨rfl, rfl⟩ := trodVars_none hV
  obtain ⟨x0, rfl, rfl, rfl, w0⟩ := Go.ChangeMaps.open_string Tryd.underlying9 (hval 0 9 v0 rfl rfl) h0
  have E0 : DS W (· < W.heap.size) (.one (.str x0)) _ := ⟨rfl, w0⟩
  clear hA0 hval0
  refine (law_ReadHead x0 W (· < W.heap.size) _ ⟨fun _ h => h, pre_of_laid hL hsh⟩ ⟨_, _, rfl, E0, rfl⟩).mono fun e W' ⟨he, hg⟩ => ?_
  subst he
  exact ⟨_, rfl, law_post hW' rfl laidOut (by kernel_rfl) hg rfl rfl Tryd.underlying4⟩
/-- The statement. -/
theorem said_ReadHead : Rows.FnExactReadHeadSaid :=
  OpenClaim.holds_of_wide 3 Tryd.f3 rfl rfl rfl rfl rfl rfl rfl ⟨rfl, rfl, rfl, rfl, rfl⟩ rfl rfl rfl rfl rfl (by kernel_rfl) Tryd.func3 (by kernel_rfl)
    (of_decide_eq_true (by kernel_rfl)) (by unfold Func.isWrapper; first | (rw [if_pos (by decide +kernel)]; kernel_rfl) | (rw [if_neg (by decide +kernel)]; exact ⟨rfl, rfl⟩))
    (fun os started H enc _ => lifted_ReadHead os started H enc)

/-- The tied card. -/
theorem proved_ReadHead : Rows.FnExactReadHeadCardSaid :=
  Claim7.holds_tied_plain_at .later [] [.data, .data, .data, .data, .sentinel, .sentinel, .pinned] true (true, "aee4fa73cad51eacc0faebab5f13bd38d1e73d7a096ea22b73c793fc36b10876") true
    said_ReadHead (fun _ h => by cases h) (by kernel_rfl) (fun _ h => by cases h) fnExactReadHead_row_tie rfl ⟨rfl, rfl⟩ (by kernel_rfl) rfl
    (fun f fn hf hfn => by
      obtain rfl : f = 3 := Option.some.inj ((show Tryd.prog.funcNamed "loop.example/g00522/laws.FnExactReadHead" = some 3 by kernel_rfl).symm.trans hf) |>.symm
      obtain rfl : fn = Tryd.f3 := (Option.some.inj (Tryd.func3.symm.trans hfn)).symm
      exact ⟨by kernel_rfl, fun j t ht => by
        rw [Tryd.params3] at ht
        have hm : t ∈ [9] := by simpa using Array.mem_of_getElem? ht
        have hall : ([9].all fun u => !Tryd.prog.wantsStandIn u) = true := by kernel_rfl
        exact (show Tryd.prog.wantsStandIn t = false by simpa using List.all_eq_true.1 hall t hm)⟩)
    (by kernel_rfl)
#print axioms proved_ReadHead
end Go.Proofs.YtonfeiloekofdaaDoor

