/-
  Proved: the law FnParts returns true for every input: of all drawn logs, logs that match agree up to where they part, and the starts of epochs tell where the epochs end; the program answers as the reference does. Conditions: none.
-/
import Derived.Test.YtgcliipdkoefaaaMp3
import Derived.Test.YtgcliipdkoefaaaMp4
namespace Go.Proofs.Ytgcliipdkoefaaa
open Go.ChangeShapes Go.WideShapes Go.ChangeAt Go.RowKit Go.BigFrame Go.Deep
set_option linter.unusedVariables false
set_option linter.unusedSimpArgs false
theorem vlp_ag_55_2 : aggB Try.prog 55 2 = true := by kernel_rfl
theorem vlp_bo_4 : boolB Try.prog 4 = true := by kernel_rfl
theorem vlp_ca_10 : callB Try.prog 10 = true := by kernel_rfl
theorem vlp_ca_12 : callB Try.prog 12 = true := by kernel_rfl
theorem vlp_ca_14 : callB Try.prog 14 = true := by kernel_rfl
theorem vlp_ca_15 : callB Try.prog 15 = true := by kernel_rfl
theorem vlp_ca_27 : callB Try.prog 27 = true := by kernel_rfl
theorem vlp_ca_28 : callB Try.prog 28 = true := by kernel_rfl
theorem vlp_ca_29 : callB Try.prog 29 = true := by kernel_rfl
theorem vlp_ca_30 : callB Try.prog 30 = true := by kernel_rfl
theorem vlp_ca_31 : callB Try.prog 31 = true := by kernel_rfl
theorem vlp_ca_32 : callB Try.prog 32 = true := by kernel_rfl
theorem vlp_ca_33 : callB Try.prog 33 = true := by kernel_rfl
theorem vlp_ca_34 : callB Try.prog 34 = true := by kernel_rfl
theorem vlp_ca_35 : callB Try.prog 35 = true := by kernel_rfl
theorem vlp_ca_36 : callB Try.prog 36 = true := by kernel_rfl
theorem vlp_ca_37 : callB Try.prog 37 = true := by kernel_rfl
theorem vlp_ca_38 : callB Try.prog 38 = true := by kernel_rfl
theorem vlp_el_26_2 : elemB Try.prog 26 2 = true := by kernel_rfl
theorem vlp_el_30_2 : elemB Try.prog 30 2 = true := by kernel_rfl
theorem vlp_fi_52_0_0 : fieldB Try.prog 52 0 0 = true := by kernel_rfl
theorem vlp_fi_55_0_0 : fieldB Try.prog 55 0 0 = true := by kernel_rfl
theorem vlp_fi_55_1_1 : fieldB Try.prog 55 1 1 = true := by kernel_rfl
theorem vlp_pl_3 : plainB Try.prog 3 = true := by kernel_rfl
theorem vlp_sl_26 : sliceB Try.prog 26 = true := by kernel_rfl
theorem vlp_sl_30 : sliceB Try.prog 30 = true := by kernel_rfl
theorem vlp_sl_45 : sliceB Try.prog 45 = true := by kernel_rfl
theorem opensC_5 : OpensC Try.prog 5 (fun x : UInt8 => [.int .u8 ((x.toNat : Nat) : Int)]) := OpensC.byte Try.underlying5
theorem opensC_45 : OpensC Try.prog 45 (fun x : List UInt8 => [.lst 1 x.length (fun i0 _ => .int .u8 (((x.getD i0 0).toNat : Nat) : Int))]) := OpensC.slice (0 : UInt8) Try.underlying45 (by kernel_rfl) (by decide) opensC_5 (fun _ => rfl) (fun l i j _ hj => match j, hj with | 0, _ => rfl | _ + 1, h => absurd h (by omega))

theorem law_Parts (x0 x1 : List UInt8) : Fn Try.prog 7 [.one (.lst 1 x0.length (fun i0 _ => .int .u8 (((x0.getD i0 0).toNat : Nat) : Int))), .one (.lst 1 x1.length (fun i0 _ => .int .u8 (((x1.getD i0 0).toNat : Nat) : Int)))] (.one (.bool true)) := by
  refine Fn.of_body (fn := Try.f7) Try.func7 rfl (Nat.le_of_ble_eq_true rfl) trivial ?_
  intro w0
  show AW _ 295 _ _ _ _
  refine AW.seq ?_
  refine AW.region ?_
  refine ARun.pure (PureOp.assign rfl .bool) rfl rfl (Nat.le_of_ble_eq_true rfl) ?_
  refine ARun.nil ?_
  refine AW.seq ?_
  refine AW.seq ?_
  refine AW.region ?_
  refine ARun.pure (PureOp.move rfl (.tmp rfl)) rfl rfl (Nat.le_of_ble_eq_true rfl) ?_
  refine ARun.pure (PureOp.lenLst rfl (.tmp rfl) vlp_sl_45) rfl rfl (Nat.le_of_ble_eq_true rfl) ?_
  refine ARun.pure (PureOp.move rfl (.tmp rfl)) rfl rfl (Nat.le_of_ble_eq_true rfl) ?_
  refine ARun.pure (PureOp.lenLst rfl (.tmp rfl) vlp_sl_45) rfl rfl (Nat.le_of_ble_eq_true rfl) ?_
  refine ARun.pure (PureOp.intOp rfl (.tmp rfl) (.tmp rfl) rfl) rfl rfl (Nat.le_of_ble_eq_true rfl) ?_
  refine ARun.pure (PureOp.intOp rfl (.tmp rfl) .int rfl) rfl rfl (Nat.le_of_ble_eq_true rfl) ?_
  refine ARun.nil ?_
  refine AW.cond (.tmp rfl) (fun hb1 => ?_) (fun hb1 => ?_)
  · have _u := True.intro
    have _h := hb1
    refine AW.seq ?_
    refine AW.region ?_
    refine ARun.pure (PureOp.assign rfl .bool) rfl rfl (Nat.le_of_ble_eq_true rfl) ?_
    refine ARun.nil ?_
    refine AW.ret (show ResL _ _ [.tmp 4] _ from resB rfl ?_)
    rfl
  · have _u := True.intro
    have _h := hb1
    refine AW.skip ?_
    refine AW.seq ?_
    refine AW.region ?_
    refine ARun.pure (PureOp.move rfl (.tmp rfl)) rfl rfl (Nat.le_of_ble_eq_true rfl) ?_
    refine ARun.draw rfl (v_DrawPartAt x0.length (fun i => (x0.getD i 0).toNat) (fun i => UInt8.toNat_lt _)) vlp_ca_27 ⟨⟨_, (.tmp rfl), .lst⟩, trivial⟩ rfl rfl (Nat.le_of_ble_eq_true rfl) (fun x2 hd3 => ?_)
    obtain ⟨⟨ha1, ha2⟩, hb1, hb2⟩ := hd3
    refine ARun.pure (PureOp.move rfl (.tmp rfl)) rfl rfl (Nat.le_of_ble_eq_true rfl) ?_
    refine ARun.pure (PureOp.ext2a rfl (.tmp rfl)) rfl rfl (Nat.le_of_ble_eq_true rfl) ?_
    refine ARun.pure (PureOp.ext2b rfl (.tmp rfl)) rfl rfl (Nat.le_of_ble_eq_true rfl) ?_
    refine ARun.pure (PureOp.assign rfl (.tmp rfl)) rfl rfl (Nat.le_of_ble_eq_true rfl) ?_
    refine ARun.pure (PureOp.assign rfl (.tmp rfl)) rfl rfl (Nat.le_of_ble_eq_true rfl) ?_
    refine ARun.nil ?_
    refine AW.seq ?_
    refine AW.region ?_
    refine ARun.pure (PureOp.move rfl (.tmp rfl)) rfl rfl (Nat.le_of_ble_eq_true rfl) ?_
    refine ARun.pure (PureOp.move rfl (.tmp rfl)) rfl rfl (Nat.le_of_ble_eq_true rfl) ?_
    refine ARun.pure (PureOp.call rfl (v_iPart x2.1 x2.2 ha2 hb2) ⟨⟨_, (.tmp rfl), .frs⟩, ⟨_, (.tmp rfl), .frs⟩, trivial⟩ vlp_ca_28 ⟨trivial, trivial⟩) rfl rfl (Nat.le_of_ble_eq_true rfl) ?_
    refine ARun.pure (PureOp.move rfl (.tmp rfl)) rfl rfl (Nat.le_of_ble_eq_true rfl) ?_
    refine ARun.pure (PureOp.ext2a rfl (.tmp rfl)) rfl rfl (Nat.le_of_ble_eq_true rfl) ?_
    refine ARun.pure (PureOp.ext2b rfl (.tmp rfl)) rfl rfl (Nat.le_of_ble_eq_true rfl) ?_
    refine ARun.pure (PureOp.assign rfl (.tmp rfl)) rfl rfl (Nat.le_of_ble_eq_true rfl) ?_
    refine ARun.pure (PureOp.assign rfl (.tmp rfl)) rfl rfl (Nat.le_of_ble_eq_true rfl) ?_
    refine ARun.nil ?_
    refine AW.seq ?_
    refine AW.region ?_
    refine ARun.pure (PureOp.move rfl (.tmp rfl)) rfl rfl (Nat.le_of_ble_eq_true rfl) ?_
    refine ARun.pure (PureOp.move rfl (.tmp rfl)) rfl rfl (Nat.le_of_ble_eq_true rfl) ?_
    refine ARun.pure (PureOp.call rfl (v_sPart x2.1 x2.2 ha2 hb2) ⟨⟨_, (.tmp rfl), .frs⟩, ⟨_, (.tmp rfl), .frs⟩, trivial⟩ vlp_ca_29 ⟨trivial, trivial⟩) rfl rfl (Nat.le_of_ble_eq_true rfl) ?_
    refine ARun.pure (PureOp.move rfl (.tmp rfl)) rfl rfl (Nat.le_of_ble_eq_true rfl) ?_
    refine ARun.pure (PureOp.ext2a rfl (.tmp rfl)) rfl rfl (Nat.le_of_ble_eq_true rfl) ?_
    refine ARun.pure (PureOp.ext2b rfl (.tmp rfl)) rfl rfl (Nat.le_of_ble_eq_true rfl) ?_
    refine ARun.pure (PureOp.assign rfl (.tmp rfl)) rfl rfl (Nat.le_of_ble_eq_true rfl) ?_
    refine ARun.pure (PureOp.assign rfl (.tmp rfl)) rfl rfl (Nat.le_of_ble_eq_true rfl) ?_
    refine ARun.nil ?_
    refine AW.seq ?_
    refine AW.region ?_
    refine ARun.pure (PureOp.move rfl (.tmp rfl)) rfl rfl (Nat.le_of_ble_eq_true rfl) ?_
    refine ARun.pure (PureOp.move rfl (.tmp rfl)) rfl rfl (Nat.le_of_ble_eq_true rfl) ?_
    refine ARun.pure (PureOp.call rfl (v_iMatch x2.1 x2.2 ha2 hb2) ⟨⟨_, (.tmp rfl), .frs⟩, ⟨_, (.tmp rfl), .frs⟩, trivial⟩ vlp_ca_12 ⟨trivial, trivial⟩) rfl rfl (Nat.le_of_ble_eq_true rfl) ?_
    refine ARun.pure (PureOp.move rfl (.tmp rfl)) rfl rfl (Nat.le_of_ble_eq_true rfl) ?_
    refine ARun.pure (PureOp.ext2a rfl (.tmp rfl)) rfl rfl (Nat.le_of_ble_eq_true rfl) ?_
    refine ARun.pure (PureOp.ext2b rfl (.tmp rfl)) rfl rfl (Nat.le_of_ble_eq_true rfl) ?_
    refine ARun.pure (PureOp.assign rfl (.tmp rfl)) rfl rfl (Nat.le_of_ble_eq_true rfl) ?_
    refine ARun.pure (PureOp.assign rfl (.tmp rfl)) rfl rfl (Nat.le_of_ble_eq_true rfl) ?_
    refine ARun.nil ?_
    refine AW.seq ?_
    refine AW.region ?_
    refine ARun.pure (PureOp.move rfl (.tmp rfl)) rfl rfl (Nat.le_of_ble_eq_true rfl) ?_
    refine ARun.pure (PureOp.move rfl (.tmp rfl)) rfl rfl (Nat.le_of_ble_eq_true rfl) ?_
    refine ARun.pure (PureOp.call rfl (v_sMatch x2.1 x2.2 ha2 hb2) ⟨⟨_, (.tmp rfl), .frs⟩, ⟨_, (.tmp rfl), .frs⟩, trivial⟩ vlp_ca_10 ⟨trivial, trivial⟩) rfl rfl (Nat.le_of_ble_eq_true rfl) ?_
    refine ARun.pure (PureOp.move rfl (.tmp rfl)) rfl rfl (Nat.le_of_ble_eq_true rfl) ?_
    refine ARun.pure (PureOp.ext2a rfl (.tmp rfl)) rfl rfl (Nat.le_of_ble_eq_true rfl) ?_
    refine ARun.pure (PureOp.ext2b rfl (.tmp rfl)) rfl rfl (Nat.le_of_ble_eq_true rfl) ?_
    refine ARun.pure (PureOp.assign rfl (.tmp rfl)) rfl rfl (Nat.le_of_ble_eq_true rfl) ?_
    refine ARun.pure (PureOp.assign rfl (.tmp rfl)) rfl rfl (Nat.le_of_ble_eq_true rfl) ?_
    refine ARun.nil ?_
    refine AW.seq ?_
    refine AW.region ?_
    refine ARun.pure (PureOp.move rfl (.tmp rfl)) rfl rfl (Nat.le_of_ble_eq_true rfl) ?_
    refine ARun.pure (PureOp.move rfl (.tmp rfl)) rfl rfl (Nat.le_of_ble_eq_true rfl) ?_
    refine ARun.pure (PureOp.call rfl (v_iNewer x2.1 x2.2 ha2 hb2) ⟨⟨_, (.tmp rfl), .frs⟩, ⟨_, (.tmp rfl), .frs⟩, trivial⟩ vlp_ca_30 ⟨trivial, trivial⟩) rfl rfl (Nat.le_of_ble_eq_true rfl) ?_
    refine ARun.pure (PureOp.move rfl (.tmp rfl)) rfl rfl (Nat.le_of_ble_eq_true rfl) ?_
    refine ARun.pure (PureOp.ext2a rfl (.tmp rfl)) rfl rfl (Nat.le_of_ble_eq_true rfl) ?_
    refine ARun.pure (PureOp.ext2b rfl (.tmp rfl)) rfl rfl (Nat.le_of_ble_eq_true rfl) ?_
    refine ARun.pure (PureOp.assign rfl (.tmp rfl)) rfl rfl (Nat.le_of_ble_eq_true rfl) ?_
    refine ARun.pure (PureOp.assign rfl (.tmp rfl)) rfl rfl (Nat.le_of_ble_eq_true rfl) ?_
    refine ARun.nil ?_
    refine AW.seq ?_
    refine AW.region ?_
    refine ARun.pure (PureOp.move rfl (.tmp rfl)) rfl rfl (Nat.le_of_ble_eq_true rfl) ?_
    refine ARun.pure (PureOp.move rfl (.tmp rfl)) rfl rfl (Nat.le_of_ble_eq_true rfl) ?_
    refine ARun.pure (PureOp.call rfl (v_sNewer x2.1 x2.2 ha2 hb2) ⟨⟨_, (.tmp rfl), .frs⟩, ⟨_, (.tmp rfl), .frs⟩, trivial⟩ vlp_ca_31 ⟨trivial, trivial⟩) rfl rfl (Nat.le_of_ble_eq_true rfl) ?_
    refine ARun.pure (PureOp.move rfl (.tmp rfl)) rfl rfl (Nat.le_of_ble_eq_true rfl) ?_
    refine ARun.pure (PureOp.ext2a rfl (.tmp rfl)) rfl rfl (Nat.le_of_ble_eq_true rfl) ?_
    refine ARun.pure (PureOp.ext2b rfl (.tmp rfl)) rfl rfl (Nat.le_of_ble_eq_true rfl) ?_
    refine ARun.pure (PureOp.assign rfl (.tmp rfl)) rfl rfl (Nat.le_of_ble_eq_true rfl) ?_
    refine ARun.pure (PureOp.assign rfl (.tmp rfl)) rfl rfl (Nat.le_of_ble_eq_true rfl) ?_
    refine ARun.nil ?_
    refine AW.seq ?_
    refine AW.seq ?_
    refine AW.region ?_
    refine ARun.pure (PureOp.move rfl (.tmp rfl)) rfl rfl (Nat.le_of_ble_eq_true rfl) ?_
    refine ARun.pure (PureOp.move rfl (.tmp rfl)) rfl rfl (Nat.le_of_ble_eq_true rfl) ?_
    refine ARun.pure (PureOp.boolNe rfl (.tmp rfl) (.tmp rfl) vlp_bo_4) rfl rfl (Nat.le_of_ble_eq_true rfl) ?_
    refine ARun.pure (PureOp.move rfl (.tmp rfl)) rfl rfl (Nat.le_of_ble_eq_true rfl) ?_
    refine ARun.gpure (want := false) (.tf rfl) (fun hg4 => PureOp.move rfl (.tmp rfl)) rfl rfl (Nat.le_of_ble_eq_true rfl) rfl (Nat.le_of_ble_eq_true rfl) ?_
    refine ARun.gpure (want := false) (.tf rfl) (fun hg5 => PureOp.move rfl (.tmp rfl)) rfl rfl (Nat.le_of_ble_eq_true rfl) rfl (Nat.le_of_ble_eq_true rfl) ?_
    refine ARun.gpure (want := false) (.tf rfl) (fun hg6 => PureOp.intOp rfl (.gtmp rfl hg6) (.gtmp rfl hg6) rfl) rfl rfl (Nat.le_of_ble_eq_true rfl) rfl (Nat.le_of_ble_eq_true rfl) ?_
    refine ARun.pure (PureOp.pick rfl (.tmp rfl) (fun _ => .bool) (fun hp8 => .gtmp rfl (not_of hp8))) rfl rfl (Nat.le_of_ble_eq_true rfl) ?_
    refine ARun.pure (PureOp.move rfl (.tmp rfl)) rfl rfl (Nat.le_of_ble_eq_true rfl) ?_
    refine ARun.gpure (want := false) (.tf rfl) (fun hg9 => PureOp.move rfl (.tmp rfl)) rfl rfl (Nat.le_of_ble_eq_true rfl) rfl (Nat.le_of_ble_eq_true rfl) ?_
    refine ARun.gpure (want := false) (.tf rfl) (fun hg10 => PureOp.move rfl (.tmp rfl)) rfl rfl (Nat.le_of_ble_eq_true rfl) rfl (Nat.le_of_ble_eq_true rfl) ?_
    refine ARun.gpure (want := false) (.tf rfl) (fun hg11 => PureOp.boolNe rfl (.gtmp rfl hg11) (.gtmp rfl hg11) vlp_bo_4) rfl rfl (Nat.le_of_ble_eq_true rfl) rfl (Nat.le_of_ble_eq_true rfl) ?_
    refine ARun.pure (PureOp.pick rfl (.tmp rfl) (fun _ => .bool) (fun hp13 => .gtmp rfl (not_of hp13))) rfl rfl (Nat.le_of_ble_eq_true rfl) ?_
    refine ARun.pure (PureOp.move rfl (.tmp rfl)) rfl rfl (Nat.le_of_ble_eq_true rfl) ?_
    refine ARun.gpure (want := false) (.tf rfl) (fun hg14 => PureOp.move rfl (.tmp rfl)) rfl rfl (Nat.le_of_ble_eq_true rfl) rfl (Nat.le_of_ble_eq_true rfl) ?_
    refine ARun.gpure (want := false) (.tf rfl) (fun hg15 => PureOp.move rfl (.tmp rfl)) rfl rfl (Nat.le_of_ble_eq_true rfl) rfl (Nat.le_of_ble_eq_true rfl) ?_
    refine ARun.gpure (want := false) (.tf rfl) (fun hg16 => PureOp.boolNe rfl (.gtmp rfl hg16) (.gtmp rfl hg16) vlp_bo_4) rfl rfl (Nat.le_of_ble_eq_true rfl) rfl (Nat.le_of_ble_eq_true rfl) ?_
    refine ARun.pure (PureOp.pick rfl (.tmp rfl) (fun _ => .bool) (fun hp18 => .gtmp rfl (not_of hp18))) rfl rfl (Nat.le_of_ble_eq_true rfl) ?_
    refine ARun.pure (PureOp.move rfl (.tmp rfl)) rfl rfl (Nat.le_of_ble_eq_true rfl) ?_
    refine ARun.gpure (want := false) (.tf rfl) (fun hg19 => PureOp.move rfl (.tmp rfl)) rfl rfl (Nat.le_of_ble_eq_true rfl) rfl (Nat.le_of_ble_eq_true rfl) ?_
    refine ARun.gpure (want := false) (.tf rfl) (fun hg20 => PureOp.move rfl (.tmp rfl)) rfl rfl (Nat.le_of_ble_eq_true rfl) rfl (Nat.le_of_ble_eq_true rfl) ?_
    refine ARun.gpure (want := false) (.tf rfl) (fun hg21 => PureOp.boolNe rfl (.gtmp rfl hg21) (.gtmp rfl hg21) vlp_bo_4) rfl rfl (Nat.le_of_ble_eq_true rfl) rfl (Nat.le_of_ble_eq_true rfl) ?_
    refine ARun.pure (PureOp.pick rfl (.tmp rfl) (fun _ => .bool) (fun hp23 => .gtmp rfl (not_of hp23))) rfl rfl (Nat.le_of_ble_eq_true rfl) ?_
    refine ARun.pure (PureOp.move rfl (.tmp rfl)) rfl rfl (Nat.le_of_ble_eq_true rfl) ?_
    refine ARun.gpure (want := false) (.tf rfl) (fun hg24 => PureOp.move rfl (.tmp rfl)) rfl rfl (Nat.le_of_ble_eq_true rfl) rfl (Nat.le_of_ble_eq_true rfl) ?_
    refine ARun.gpure (want := false) (.tf rfl) (fun hg25 => PureOp.move rfl (.tmp rfl)) rfl rfl (Nat.le_of_ble_eq_true rfl) rfl (Nat.le_of_ble_eq_true rfl) ?_
    refine ARun.gpure (want := false) (.tf rfl) (fun hg26 => PureOp.boolNe rfl (.gtmp rfl hg26) (.gtmp rfl hg26) vlp_bo_4) rfl rfl (Nat.le_of_ble_eq_true rfl) rfl (Nat.le_of_ble_eq_true rfl) ?_
    refine ARun.pure (PureOp.pick rfl (.tmp rfl) (fun _ => .bool) (fun hp28 => .gtmp rfl (not_of hp28))) rfl rfl (Nat.le_of_ble_eq_true rfl) ?_
    refine ARun.pure (PureOp.move rfl (.tmp rfl)) rfl rfl (Nat.le_of_ble_eq_true rfl) ?_
    refine ARun.gpure (want := false) (.tf rfl) (fun hg29 => PureOp.move rfl (.tmp rfl)) rfl rfl (Nat.le_of_ble_eq_true rfl) rfl (Nat.le_of_ble_eq_true rfl) ?_
    refine ARun.gpure (want := false) (.tf rfl) (fun hg30 => PureOp.call rfl (v_iGoodEn x2.1 ha2) ⟨⟨_, (.gtmp rfl hg30), .frs⟩, trivial⟩ vlp_ca_32 trivial) rfl rfl (Nat.le_of_ble_eq_true rfl) rfl (Nat.le_of_ble_eq_true rfl) ?_
    refine ARun.gpure (want := false) (.tf rfl) (fun hg31 => PureOp.move rfl (.tmp rfl)) rfl rfl (Nat.le_of_ble_eq_true rfl) rfl (Nat.le_of_ble_eq_true rfl) ?_
    refine ARun.gpure (want := false) (.tf rfl) (fun hg32 => PureOp.call rfl (v_sGood x2.1 ha2) ⟨⟨_, (.gtmp rfl hg32), .frs⟩, trivial⟩ vlp_ca_33 trivial) rfl rfl (Nat.le_of_ble_eq_true rfl) rfl (Nat.le_of_ble_eq_true rfl) ?_
    refine ARun.gpure (want := false) (.tf rfl) (fun hg33 => PureOp.boolNe rfl (.gtmp rfl hg33) (.gtmp rfl hg33) vlp_bo_4) rfl rfl (Nat.le_of_ble_eq_true rfl) rfl (Nat.le_of_ble_eq_true rfl) ?_
    refine ARun.pure (PureOp.pick rfl (.tmp rfl) (fun _ => .bool) (fun hp35 => .gtmp rfl (not_of hp35))) rfl rfl (Nat.le_of_ble_eq_true rfl) ?_
    refine ARun.nil ?_
    refine AW.cond (.tmp rfl) (fun hb36 => ?_) (fun hb36 => ?_)
    · have _u := True.intro
      exact absurd (show (cond (cond (cond (cond (cond (cond (!((goodEn x2.1 && goodEn x2.2) == (goodEn x2.1 && goodEn x2.2))) true (!decide (partInt x2.1 x2.2 = partInt x2.1 x2.2))) true (!((goodEn x2.1 && goodEn x2.2) == (goodEn x2.1 && goodEn x2.2)))) true (!(((goodEn x2.1 && goodEn x2.2) && mlAns x2.1 x2.2) == ((goodEn x2.1 && goodEn x2.2) && mlAns x2.1 x2.2)))) true (!((goodEn x2.1 && goodEn x2.2) == (goodEn x2.1 && goodEn x2.2)))) true (!(((goodEn x2.1 && goodEn x2.2) && newer x2.1 x2.2) == ((goodEn x2.1 && goodEn x2.2) && newer x2.1 x2.2)))) true (!((goodEn x2.1) == (goodEn x2.1)))) = false by simp) (by rw [hb36]; simp)
      --end
    · have _u := True.intro
      have _h := hb36
      refine AW.skip ?_
      refine AW.seq ?_
      refine AW.seq ?_
      refine AW.region ?_
      refine ARun.pure (PureOp.move rfl (.tmp rfl)) rfl rfl (Nat.le_of_ble_eq_true rfl) ?_
      refine ARun.nil ?_
      refine AW.cond (.tmp rfl) (fun hb37 => ?_) (fun hb37 => ?_)
      · have _u := True.intro
        have hga : goodEn x2.1 = true := (Bool.and_eq_true_iff.1 hb37).1
        have hgb : goodEn x2.2 = true := (Bool.and_eq_true_iff.1 hb37).2
        have hpi : partInt x2.1 x2.2 = (preE x2.1 x2.2 : Int) := if_pos hb37
        have hple := preE_le x2.1 x2.2
        have hpi2 : partInt x2.2 x2.1 = (preE x2.1 x2.2 : Int) := (if_pos (by rw [hga, hgb]; rfl)).trans (by rw [preE_comm])
        have hnw : cond (newer x2.1 x2.2) (newer x2.2 x2.1) false = false := by have := newer_anti x2.1 x2.2; revert this; generalize newer x2.1 x2.2 = u1; generalize newer x2.2 x2.1 = u2; revert u1 u2; decide
        have hmc := mlAns_comm x2.1 x2.2
        have hpt := preE_take x2.1 x2.2
        refine AW.seq ?_
        refine AW.region ?_
        refine ARun.pure (PureOp.move rfl (.tmp rfl)) rfl rfl (Nat.le_of_ble_eq_true rfl) ?_
        refine ARun.pure (PureOp.move rfl (.tmp rfl)) rfl rfl (Nat.le_of_ble_eq_true rfl) ?_
        refine ARun.pure (PureOp.call rfl (v_iPart x2.2 x2.1 hb2 ha2) ⟨⟨_, (.tmp rfl), .frs⟩, ⟨_, (.tmp rfl), .frs⟩, trivial⟩ vlp_ca_28 ⟨trivial, trivial⟩) rfl rfl (Nat.le_of_ble_eq_true rfl) ?_
        refine ARun.pure (PureOp.move rfl (.tmp rfl)) rfl rfl (Nat.le_of_ble_eq_true rfl) ?_
        refine ARun.pure (PureOp.ext2a rfl (.tmp rfl)) rfl rfl (Nat.le_of_ble_eq_true rfl) ?_
        refine ARun.pure (PureOp.ext2b rfl (.tmp rfl)) rfl rfl (Nat.le_of_ble_eq_true rfl) ?_
        refine ARun.pure (PureOp.assign rfl (.tmp rfl)) rfl rfl (Nat.le_of_ble_eq_true rfl) ?_
        refine ARun.pure (PureOp.assign rfl (.tmp rfl)) rfl rfl (Nat.le_of_ble_eq_true rfl) ?_
        refine ARun.nil ?_
        refine AW.seq ?_
        refine AW.region ?_
        refine ARun.pure (PureOp.move rfl (.tmp rfl)) rfl rfl (Nat.le_of_ble_eq_true rfl) ?_
        refine ARun.pure (PureOp.move rfl (.tmp rfl)) rfl rfl (Nat.le_of_ble_eq_true rfl) ?_
        refine ARun.pure (PureOp.call rfl (v_iMatch x2.2 x2.1 hb2 ha2) ⟨⟨_, (.tmp rfl), .frs⟩, ⟨_, (.tmp rfl), .frs⟩, trivial⟩ vlp_ca_12 ⟨trivial, trivial⟩) rfl rfl (Nat.le_of_ble_eq_true rfl) ?_
        refine ARun.pure (PureOp.move rfl (.tmp rfl)) rfl rfl (Nat.le_of_ble_eq_true rfl) ?_
        refine ARun.pure (PureOp.ext2a rfl (.tmp rfl)) rfl rfl (Nat.le_of_ble_eq_true rfl) ?_
        refine ARun.pure (PureOp.ext2b rfl (.tmp rfl)) rfl rfl (Nat.le_of_ble_eq_true rfl) ?_
        refine ARun.pure (PureOp.assign rfl (.tmp rfl)) rfl rfl (Nat.le_of_ble_eq_true rfl) ?_
        refine ARun.pure (PureOp.assign rfl (.tmp rfl)) rfl rfl (Nat.le_of_ble_eq_true rfl) ?_
        refine ARun.nil ?_
        refine AW.seq ?_
        refine AW.region ?_
        refine ARun.pure (PureOp.move rfl (.tmp rfl)) rfl rfl (Nat.le_of_ble_eq_true rfl) ?_
        refine ARun.pure (PureOp.move rfl (.tmp rfl)) rfl rfl (Nat.le_of_ble_eq_true rfl) ?_
        refine ARun.pure (PureOp.call rfl (v_iNewer x2.2 x2.1 hb2 ha2) ⟨⟨_, (.tmp rfl), .frs⟩, ⟨_, (.tmp rfl), .frs⟩, trivial⟩ vlp_ca_30 ⟨trivial, trivial⟩) rfl rfl (Nat.le_of_ble_eq_true rfl) ?_
        refine ARun.pure (PureOp.move rfl (.tmp rfl)) rfl rfl (Nat.le_of_ble_eq_true rfl) ?_
        refine ARun.pure (PureOp.ext2a rfl (.tmp rfl)) rfl rfl (Nat.le_of_ble_eq_true rfl) ?_
        refine ARun.pure (PureOp.ext2b rfl (.tmp rfl)) rfl rfl (Nat.le_of_ble_eq_true rfl) ?_
        refine ARun.pure (PureOp.assign rfl (.tmp rfl)) rfl rfl (Nat.le_of_ble_eq_true rfl) ?_
        refine ARun.pure (PureOp.assign rfl (.tmp rfl)) rfl rfl (Nat.le_of_ble_eq_true rfl) ?_
        refine ARun.nil ?_
        refine AW.seq ?_
        refine AW.seq ?_
        refine AW.any (by kernel_rfl) (by kernel_rfl) ?_
        refine AD.pure (PureOp.move rfl (.tmp rfl)) rfl rfl (Nat.le_of_ble_eq_true rfl) ?_
        refine AD.pure (PureOp.not rfl (.tmp rfl)) rfl rfl (Nat.le_of_ble_eq_true rfl) ?_
        refine AD.pure (PureOp.move rfl (.tmp rfl)) rfl rfl (Nat.le_of_ble_eq_true rfl) ?_
        refine AD.gpure (want := false) (.tf rfl) (fun hg38 => PureOp.move rfl (.tmp rfl)) rfl rfl rfl (Nat.le_of_ble_eq_true rfl) ?_
        refine AD.gpure (want := false) (.tf rfl) (fun hg39 => PureOp.move rfl (.tmp rfl)) rfl rfl rfl (Nat.le_of_ble_eq_true rfl) ?_
        refine AD.gpure (want := false) (.tf rfl) (fun hg40 => PureOp.intOp rfl (.gtmp rfl hg40) (.gtmp rfl hg40) rfl) rfl rfl rfl (Nat.le_of_ble_eq_true rfl) ?_
        refine AD.pure (PureOp.pick rfl (.tmp rfl) (fun _ => .bool) (fun hp42 => .gtmp rfl (not_of hp42))) rfl rfl (Nat.le_of_ble_eq_true rfl) ?_
        refine AD.pure (PureOp.move rfl (.tmp rfl)) rfl rfl (Nat.le_of_ble_eq_true rfl) ?_
        refine AD.gpure (want := false) (.tf rfl) (fun hg43 => PureOp.move rfl (.tmp rfl)) rfl rfl rfl (Nat.le_of_ble_eq_true rfl) ?_
        refine AD.gpure (want := false) (.tf rfl) (fun hg44 => PureOp.not rfl (.gtmp rfl hg44)) rfl rfl rfl (Nat.le_of_ble_eq_true rfl) ?_
        refine AD.pure (PureOp.pick rfl (.tmp rfl) (fun _ => .bool) (fun hp46 => .gtmp rfl (not_of hp46))) rfl rfl (Nat.le_of_ble_eq_true rfl) ?_
        refine AD.pure (PureOp.move rfl (.tmp rfl)) rfl rfl (Nat.le_of_ble_eq_true rfl) ?_
        refine AD.gpure (want := false) (.tf rfl) (fun hg47 => PureOp.move rfl (.tmp rfl)) rfl rfl rfl (Nat.le_of_ble_eq_true rfl) ?_
        refine AD.gpure (want := false) (.tf rfl) (fun hg48 => PureOp.move rfl (.tmp rfl)) rfl rfl rfl (Nat.le_of_ble_eq_true rfl) ?_
        refine AD.gpure (want := false) (.tf rfl) (fun hg49 => PureOp.boolNe rfl (.gtmp rfl hg49) (.gtmp rfl hg49) vlp_bo_4) rfl rfl rfl (Nat.le_of_ble_eq_true rfl) ?_
        refine AD.pure (PureOp.pick rfl (.tmp rfl) (fun _ => .bool) (fun hp51 => .gtmp rfl (not_of hp51))) rfl rfl (Nat.le_of_ble_eq_true rfl) ?_
        refine AD.pure (PureOp.move rfl (.tmp rfl)) rfl rfl (Nat.le_of_ble_eq_true rfl) ?_
        refine AD.gpure (want := false) (.tf rfl) (fun hg52 => PureOp.move rfl (.tmp rfl)) rfl rfl rfl (Nat.le_of_ble_eq_true rfl) ?_
        refine AD.gpure (want := false) (.tf rfl) (fun hg53 => PureOp.move rfl (.tmp rfl)) rfl rfl rfl (Nat.le_of_ble_eq_true rfl) ?_
        refine AD.gpure (want := false) (.tf rfl) (fun hg54 => PureOp.takeLst (k := (preE x2.1 x2.2)) rfl (.frs (.gtmp rfl hg54)) (.gtmp rfl hg54) hpi (by omega) vlp_el_26_2) rfl rfl rfl (Nat.le_of_ble_eq_true rfl) ?_
        refine AD.gpure (want := false) (.tf rfl) (fun hg55 => PureOp.move rfl (.tmp rfl)) rfl rfl rfl (Nat.le_of_ble_eq_true rfl) ?_
        refine AD.gpure (want := false) (.tf rfl) (fun hg56 => PureOp.move rfl (.tmp rfl)) rfl rfl rfl (Nat.le_of_ble_eq_true rfl) ?_
        refine AD.gpure (want := false) (.tf rfl) (fun hg57 => PureOp.takeLst (k := (preE x2.1 x2.2)) rfl (.frs (.gtmp rfl hg57)) (.gtmp rfl hg57) hpi (by omega) vlp_el_26_2) rfl rfl rfl (Nat.le_of_ble_eq_true rfl) ?_
        refine AD.gpure (want := false) (.tf rfl) (fun hg58 => PureOp.call rfl (v_sameEn x2.1 x2.2 (preE x2.1 x2.2) (preE x2.1 x2.2) (by omega) (by omega) (by omega) (by omega)) ⟨⟨_, (.gtmp rfl hg58), .lst⟩, ⟨_, (.gtmp rfl hg58), .lst⟩, trivial⟩ vlp_ca_34 trivial) rfl rfl rfl (Nat.le_of_ble_eq_true rfl) ?_
        refine AD.gpure (want := false) (.tf rfl) (fun hg59 => PureOp.not rfl (.gtmp rfl hg59)) rfl rfl rfl (Nat.le_of_ble_eq_true rfl) ?_
        refine AD.pure (PureOp.pick rfl (.tmp rfl) (fun _ => .bool) (fun hp61 => .gtmp rfl (not_of hp61))) rfl rfl (Nat.le_of_ble_eq_true rfl) ?_
        refine AD.pure (PureOp.move rfl (.tmp rfl)) rfl rfl (Nat.le_of_ble_eq_true rfl) ?_
        refine AD.gpure (want := false) (.tf rfl) (fun hg62 => PureOp.move rfl (.tmp rfl)) rfl rfl rfl (Nat.le_of_ble_eq_true rfl) ?_
        refine AD.gpure (want := false) (.tf rfl) (fun hg63 => PureOp.not rfl (.gtmp rfl hg63)) rfl rfl rfl (Nat.le_of_ble_eq_true rfl) ?_
        refine AD.pure (PureOp.pick rfl (.tmp rfl) (fun _ => .bool) (fun hp65 => .gtmp rfl (not_of hp65))) rfl rfl (Nat.le_of_ble_eq_true rfl) ?_
        refine AD.pure (PureOp.move rfl (.tmp rfl)) rfl rfl (Nat.le_of_ble_eq_true rfl) ?_
        refine AD.gpure (want := false) (.tf rfl) (fun hg66 => PureOp.move rfl (.tmp rfl)) rfl rfl rfl (Nat.le_of_ble_eq_true rfl) ?_
        refine AD.gpure (want := false) (.tf rfl) (fun hg67 => PureOp.move rfl (.gtmp rfl hg67)) rfl rfl rfl (Nat.le_of_ble_eq_true rfl) ?_
        refine AD.gpure (want := true) (.gt rfl) (fun hg68 => PureOp.move rfl (.tmp rfl)) rfl rfl rfl (Nat.le_of_ble_eq_true rfl) ?_
        refine AD.gpure (want := false) (.tf rfl) (fun hg69 => PureOp.pick rfl (.gtmp rfl hg69) (fun hp70 => .gtmp rfl (and_mk hg69 hp70)) (fun _ => .bool)) rfl rfl rfl (Nat.le_of_ble_eq_true rfl) ?_
        refine AD.pure (PureOp.pick rfl (.tmp rfl) (fun _ => .bool) (fun hp73 => .gtmp rfl (not_of hp73))) rfl rfl (Nat.le_of_ble_eq_true rfl) ?_
        refine AD.nil ?_
        refine AW.cond (.tmp rfl) (fun hb74 => ?_) (fun hb74 => ?_)
        · have _u := True.intro
          exact absurd (show (cond (cond (cond (cond (cond (cond (!(goodEn x2.2 && goodEn x2.1)) true (!decide (partInt x2.2 x2.1 = partInt x2.1 x2.2))) true (!(goodEn x2.2 && goodEn x2.1))) true (!(((goodEn x2.2 && goodEn x2.1) && mlAns x2.2 x2.1) == ((goodEn x2.1 && goodEn x2.2) && mlAns x2.1 x2.2)))) true (!(decide (x2.1.take (preE x2.1 x2.2) = x2.2.take (preE x2.1 x2.2))))) true (!(goodEn x2.2 && goodEn x2.1))) true (cond ((goodEn x2.1 && goodEn x2.2) && newer x2.1 x2.2) ((goodEn x2.2 && goodEn x2.1) && newer x2.2 x2.1) false)) = false by rw [hpi, hpi2, hmc, hpt, hga, hgb]; simp only [Bool.true_and, Bool.and_true, beq_self_eq_true, Bool.not_true, decide_true, cond_true, cond_false, hnw]) (by rw [hb74]; simp)
          --end
        · have _u := True.intro
          have _h := hb74
          refine AW.skip ?_
          refine AW.seq ?_
          refine AW.region ?_
          refine ARun.pure (PureOp.move rfl (.tmp rfl)) rfl rfl (Nat.le_of_ble_eq_true rfl) ?_
          refine ARun.nil ?_
          refine AW.cond (.tmp rfl) (fun hb75 => ?_) (fun hb75 => ?_)
          · have _u := True.intro
            have hml : mlAns x2.1 x2.2 = true := (Bool.and_eq_true_iff.1 hb75).2
            refine AW.seq ?_
            refine AW.region ?_
            refine ARun.pure (PureOp.move rfl (.tmp rfl)) rfl rfl (Nat.le_of_ble_eq_true rfl) ?_
            refine ARun.pure (PureOp.assign rfl (.tmp rfl)) rfl rfl (Nat.le_of_ble_eq_true rfl) ?_
            refine ARun.nil ?_
            refine AW.block ?_
            refine AW.loop (ι := Nat) (fun k => ⟨[(1, .one (.lst 1 x1.length (fun i0 _ => .int .u8 (((x1.getD i0 0).toNat : Nat) : Int)))), (5, .one (.frs (.lst 2 x2.1.length (enC x2.1)))), (6, .one (.frs (.lst 2 x2.2.length (enC x2.2)))), (25, .one (.int .i64 (k : Int)))], []⟩) (fun k => preE x2.1 x2.2 ≤ k) (fun k => x2.1.length - k) (preE x2.1 x2.2) (Nat.le_refl _) ⟨⟨⟨_, rfl, rfl⟩, ⟨_, rfl, rfl⟩, ⟨_, rfl, rfl⟩, ⟨_, rfl, congrArg (fun z : Int => SV.one (.int .i64 z)) hpi⟩, trivial⟩, trivial⟩ ?_
            intro k hk
            refine AW.seq ?_
            refine AW.seq ?_
            refine AW.region ?_
            refine ARun.pure (PureOp.move rfl (.tmp rfl)) rfl rfl (Nat.le_of_ble_eq_true rfl) ?_
            refine ARun.pure (PureOp.move rfl (.tmp rfl)) rfl rfl (Nat.le_of_ble_eq_true rfl) ?_
            refine ARun.pure (PureOp.lenLst rfl (.frs (.tmp rfl)) vlp_sl_26) rfl rfl (Nat.le_of_ble_eq_true rfl) ?_
            refine ARun.pure (PureOp.intOp rfl (.tmp rfl) (.tmp rfl) rfl) rfl rfl (Nat.le_of_ble_eq_true rfl) ?_
            refine ARun.pure (PureOp.move rfl (.tmp rfl)) rfl rfl (Nat.le_of_ble_eq_true rfl) ?_
            refine ARun.gpure (want := true) (.tt rfl) (fun hg76 => PureOp.move rfl (.tmp rfl)) rfl rfl (Nat.le_of_ble_eq_true rfl) rfl (Nat.le_of_ble_eq_true rfl) ?_
            refine ARun.gpure (want := true) (.tt rfl) (fun hg77 => PureOp.move rfl (.tmp rfl)) rfl rfl (Nat.le_of_ble_eq_true rfl) rfl (Nat.le_of_ble_eq_true rfl) ?_
            refine ARun.gpure (want := true) (.tt rfl) (fun hg78 => PureOp.lenLst rfl (.frs (.gtmp rfl hg78)) vlp_sl_26) rfl rfl (Nat.le_of_ble_eq_true rfl) rfl (Nat.le_of_ble_eq_true rfl) ?_
            refine ARun.gpure (want := true) (.tt rfl) (fun hg79 => PureOp.intOp rfl (.gtmp rfl hg79) (.gtmp rfl hg79) rfl) rfl rfl (Nat.le_of_ble_eq_true rfl) rfl (Nat.le_of_ble_eq_true rfl) ?_
            refine ARun.pure (PureOp.pick rfl (.tmp rfl) (fun hp80 => .gtmp rfl hp80) (fun _ => .bool)) rfl rfl (Nat.le_of_ble_eq_true rfl) ?_
            refine ARun.nil ?_
            refine AW.cond (.tmp rfl) (fun hb82 => ?_) (fun hb82 => ?_)
            · have _u := True.intro
              obtain ⟨hq1, hq2⟩ := and_condE hb82
              have hka : k < x2.1.length := by have := of_decide_eq_true hq1; omega
              have hkb : k < x2.2.length := by have := of_decide_eq_true hq2; omega
              refine AW.skip ?_
              refine AW.seq ?_
              refine AW.block ?_
              refine AW.seq ?_
              refine AW.any (by kernel_rfl) (by kernel_rfl) ?_
              refine AD.pure (PureOp.move rfl (.tmp rfl)) rfl rfl (Nat.le_of_ble_eq_true rfl) ?_
              refine AD.pure (PureOp.move rfl (.tmp rfl)) rfl rfl (Nat.le_of_ble_eq_true rfl) ?_
              refine AD.pure (PureOp.indexLst (i := k) rfl (.frs (.tmp rfl)) vlp_el_26_2 (.tmp rfl) rfl (by omega)) rfl rfl (Nat.le_of_ble_eq_true rfl) ?_
              refine AD.pure (PureOp.fieldRef rfl (.tmp rfl) vlp_fi_52_0_0 (Nat.le_of_ble_eq_true rfl)) rfl rfl (Nat.le_of_ble_eq_true rfl) ?_
              refine AD.pure (PureOp.loadRef rfl (.tmp rfl) vlp_pl_3 (Nat.le_of_ble_eq_true rfl)) rfl rfl (Nat.le_of_ble_eq_true rfl) ?_
              refine AD.pure (PureOp.move rfl (.tmp rfl)) rfl rfl (Nat.le_of_ble_eq_true rfl) ?_
              refine AD.pure (PureOp.move rfl (.tmp rfl)) rfl rfl (Nat.le_of_ble_eq_true rfl) ?_
              refine AD.pure (PureOp.indexLst (i := k) rfl (.frs (.tmp rfl)) vlp_el_26_2 (.tmp rfl) rfl (by omega)) rfl rfl (Nat.le_of_ble_eq_true rfl) ?_
              refine AD.pure (PureOp.fieldRef rfl (.tmp rfl) vlp_fi_52_0_0 (Nat.le_of_ble_eq_true rfl)) rfl rfl (Nat.le_of_ble_eq_true rfl) ?_
              refine AD.pure (PureOp.loadRef rfl (.tmp rfl) vlp_pl_3 (Nat.le_of_ble_eq_true rfl)) rfl rfl (Nat.le_of_ble_eq_true rfl) ?_
              refine AD.pure (PureOp.intOp rfl (.tmp rfl) (.tmp rfl) rfl) rfl rfl (Nat.le_of_ble_eq_true rfl) ?_
              refine AD.nil ?_
              refine AW.cond (.tmp rfl) (fun hb83 => ?_) (fun hb83 => ?_)
              · have _u := True.intro
                exact absurd (of_decide_eq_true hb83) (ml_apart hml hk hka hkb)
                --end
              · have _u := True.intro
                have _h := hb83
                refine AW.skip ?_
                refine AW.region ?_
                refine ARun.pure (PureOp.move rfl (.tmp rfl)) rfl rfl (Nat.le_of_ble_eq_true rfl) ?_
                refine ARun.pure (PureOp.add (c := ((k + 1 : Nat) : Int)) rfl (.tmp rfl) .int (by rw [wrap_id (by omega) (by omega)]; omega)) rfl rfl (Nat.le_of_ble_eq_true rfl) ?_
                refine ARun.pure (PureOp.assign rfl (.tmp rfl)) rfl rfl (Nat.le_of_ble_eq_true rfl) ?_
                refine ARun.nil ?_
                exact ⟨k + 1, by omega, by dsimp only; omega, ⟨⟨⟨_, rfl, rfl⟩, ⟨_, rfl, rfl⟩, ⟨_, rfl, rfl⟩, ⟨_, rfl, rfl⟩, trivial⟩, trivial⟩⟩
            · have _u := True.intro
              have _h := hb82
              refine AW.exit ?_
              refine AW.seq ?_
              refine AW.region ?_
              refine ARun.pure (PureOp.move rfl (.tmp rfl)) rfl rfl (Nat.le_of_ble_eq_true rfl) ?_
              refine ARun.draw rfl (v_DrawStartsOf x1.length (fun i => (x1.getD i 0).toNat) (fun i => UInt8.toNat_lt _)) vlp_ca_35 ⟨⟨_, (.tmp rfl), .lst⟩, trivial⟩ rfl rfl (Nat.le_of_ble_eq_true rfl) (fun x84 hd85 => ?_)
              obtain ⟨hl1, hl2⟩ := hd85
              have hsl := ss_len (l := x84) (by omega)
              refine ARun.pure (PureOp.assign rfl (.tmp rfl)) rfl rfl (Nat.le_of_ble_eq_true rfl) ?_
              refine ARun.nil ?_
              refine AW.seq ?_
              refine AW.region ?_
              refine ARun.pure (PureOp.move rfl (.tmp rfl)) rfl rfl (Nat.le_of_ble_eq_true rfl) ?_
              refine ARun.fresh (FreshOp.callS rfl (v_iStarts x84 hl2) ⟨⟨_, (.tmp rfl), .frs⟩, trivial⟩ vlp_ca_15 rfl) rfl rfl (Nat.le_of_ble_eq_true rfl) ?_
              refine ARun.pure (PureOp.move rfl (.tmp rfl)) rfl rfl (Nat.le_of_ble_eq_true rfl) ?_
              refine ARun.pure (PureOp.ext2a rfl (.tmp rfl)) rfl rfl (Nat.le_of_ble_eq_true rfl) ?_
              refine ARun.pure (PureOp.ext2b rfl (.tmp rfl)) rfl rfl (Nat.le_of_ble_eq_true rfl) ?_
              refine ARun.pure (PureOp.assign rfl (.tmp rfl)) rfl rfl (Nat.le_of_ble_eq_true rfl) ?_
              refine ARun.pure (PureOp.assign rfl (.tmp rfl)) rfl rfl (Nat.le_of_ble_eq_true rfl) ?_
              refine ARun.nil ?_
              refine AW.seq ?_
              refine AW.region ?_
              refine ARun.pure (PureOp.move rfl (.tmp rfl)) rfl rfl (Nat.le_of_ble_eq_true rfl) ?_
              refine ARun.fresh (FreshOp.callS rfl (v_sStarts x84 hl2) ⟨⟨_, (.tmp rfl), .frs⟩, trivial⟩ vlp_ca_14 rfl) rfl rfl (Nat.le_of_ble_eq_true rfl) ?_
              refine ARun.pure (PureOp.move rfl (.tmp rfl)) rfl rfl (Nat.le_of_ble_eq_true rfl) ?_
              refine ARun.pure (PureOp.ext2a rfl (.tmp rfl)) rfl rfl (Nat.le_of_ble_eq_true rfl) ?_
              refine ARun.pure (PureOp.ext2b rfl (.tmp rfl)) rfl rfl (Nat.le_of_ble_eq_true rfl) ?_
              refine ARun.pure (PureOp.assign rfl (.tmp rfl)) rfl rfl (Nat.le_of_ble_eq_true rfl) ?_
              refine ARun.pure (PureOp.assign rfl (.tmp rfl)) rfl rfl (Nat.le_of_ble_eq_true rfl) ?_
              refine ARun.nil ?_
              refine AW.seq ?_
              refine AW.seq ?_
              refine AW.region ?_
              refine ARun.pure (PureOp.move rfl (.tmp rfl)) rfl rfl (Nat.le_of_ble_eq_true rfl) ?_
              refine ARun.pure (PureOp.move rfl (.tmp rfl)) rfl rfl (Nat.le_of_ble_eq_true rfl) ?_
              refine ARun.pure (PureOp.boolNe rfl (.tmp rfl) (.tmp rfl) vlp_bo_4) rfl rfl (Nat.le_of_ble_eq_true rfl) ?_
              refine ARun.pure (PureOp.move rfl (.tmp rfl)) rfl rfl (Nat.le_of_ble_eq_true rfl) ?_
              refine ARun.gpure (want := false) (.tf rfl) (fun hg86 => PureOp.move rfl (.tmp rfl)) rfl rfl (Nat.le_of_ble_eq_true rfl) rfl (Nat.le_of_ble_eq_true rfl) ?_
              refine ARun.gpure (want := false) (.tf rfl) (fun hg87 => PureOp.lenLst rfl (.frs (.gtmp rfl hg87)) vlp_sl_30) rfl rfl (Nat.le_of_ble_eq_true rfl) rfl (Nat.le_of_ble_eq_true rfl) ?_
              refine ARun.gpure (want := false) (.tf rfl) (fun hg88 => PureOp.move rfl (.tmp rfl)) rfl rfl (Nat.le_of_ble_eq_true rfl) rfl (Nat.le_of_ble_eq_true rfl) ?_
              refine ARun.gpure (want := false) (.tf rfl) (fun hg89 => PureOp.lenLst rfl (.frs (.gtmp rfl hg89)) vlp_sl_30) rfl rfl (Nat.le_of_ble_eq_true rfl) rfl (Nat.le_of_ble_eq_true rfl) ?_
              refine ARun.gpure (want := false) (.tf rfl) (fun hg90 => PureOp.intOp rfl (.gtmp rfl hg90) (.gtmp rfl hg90) rfl) rfl rfl (Nat.le_of_ble_eq_true rfl) rfl (Nat.le_of_ble_eq_true rfl) ?_
              refine ARun.pure (PureOp.pick rfl (.tmp rfl) (fun _ => .bool) (fun hp92 => .gtmp rfl (not_of hp92))) rfl rfl (Nat.le_of_ble_eq_true rfl) ?_
              refine ARun.nil ?_
              refine AW.cond (.tmp rfl) (fun hb93 => ?_) (fun hb93 => ?_)
              · have _u := True.intro
                exact absurd (show (cond (!((goodEn x84) == (goodEn x84))) true (!decide ((((ssOf x84).length : Nat) : Int) = (((ssOf x84).length : Nat) : Int)))) = false by simp) (by rw [hb93]; simp)
                --end
              · have _u := True.intro
                have _h := hb93
                refine AW.skip ?_
                refine AW.seq ?_
                refine AW.seq ?_
                refine AW.region ?_
                refine ARun.pure (PureOp.move rfl (.tmp rfl)) rfl rfl (Nat.le_of_ble_eq_true rfl) ?_
                refine ARun.pure (PureOp.lenLst rfl (.frs (.tmp rfl)) vlp_sl_30) rfl rfl (Nat.le_of_ble_eq_true rfl) ?_
                refine ARun.pure (PureOp.move rfl .int) rfl rfl (Nat.le_of_ble_eq_true rfl) ?_
                refine ARun.nil ?_
                refine AW.block ?_
                refine AW.loop (ι := Nat) (fun i => ⟨[(1, .one (.lst 1 x1.length (fun i0 _ => .int .u8 (((x1.getD i0 0).toNat : Nat) : Int)))), (26, .one (.frs (.lst 2 x84.length (enC x84)))), (27, .one (.frs (.lst 2 ((ssOf x84).length) (stC (ssOf x84))))), (29, .one (.frs (.lst 2 ((ssOf x84).length) (stC (ssOf x84))))), (226, .one (.int .i64 (((ssOf x84).length : Nat) : Int))), (227, .one (.int .i64 (i : Int)))], []⟩) (fun i => i ≤ (ssOf x84).length) (fun i => (ssOf x84).length - i) 0 (Nat.zero_le _) ⟨⟨⟨_, rfl, rfl⟩, ⟨_, rfl, rfl⟩, ⟨_, rfl, rfl⟩, ⟨_, rfl, rfl⟩, ⟨_, rfl, rfl⟩, ⟨_, rfl, rfl⟩, trivial⟩, trivial⟩ ?_
                intro i hi0
                refine AW.seq ?_
                refine AW.region ?_
                refine ARun.pure (PureOp.intOp rfl (.tmp rfl) (.tmp rfl) rfl) rfl rfl (Nat.le_of_ble_eq_true rfl) ?_
                refine ARun.nil ?_
                refine AW.seq ?_
                refine AW.cond (.tmp rfl) (fun hb94 => ?_) (fun hb94 => ?_)
                · have _u := True.intro
                  replace hb94 := of_decide_eq_true hb94
                  have hi : i < (ssOf x84).length := by omega
                  obtain ⟨he1, he2, he3⟩ := ss_end hi
                  have hsb := ss_bd hi
                  refine AW.skip ?_
                  refine AW.seq ?_
                  refine AW.block ?_
                  refine AW.seq ?_
                  refine AW.region ?_
                  refine ARun.pure (PureOp.move rfl (.tmp rfl)) rfl rfl (Nat.le_of_ble_eq_true rfl) ?_
                  refine ARun.pure (PureOp.assign rfl (.tmp rfl)) rfl rfl (Nat.le_of_ble_eq_true rfl) ?_
                  refine ARun.nil ?_
                  refine AW.seq ?_
                  refine AW.seq ?_
                  refine AW.any (by kernel_rfl) (by kernel_rfl) ?_
                  refine AD.pure (PureOp.move rfl (.tmp rfl)) rfl rfl (Nat.le_of_ble_eq_true rfl) ?_
                  refine AD.pure (PureOp.move rfl (.tmp rfl)) rfl rfl (Nat.le_of_ble_eq_true rfl) ?_
                  refine AD.pure (PureOp.indexLst (i := i) rfl (.frs (.tmp rfl)) vlp_el_30_2 (.tmp rfl) rfl (by omega)) rfl rfl (Nat.le_of_ble_eq_true rfl) ?_
                  refine AD.pure (PureOp.loadRefAgg rfl (.tmp rfl) vlp_ag_55_2 (Nat.le_of_ble_eq_true rfl)) rfl rfl (Nat.le_of_ble_eq_true rfl) ?_
                  refine AD.pure (PureOp.move rfl (.tmp rfl)) rfl rfl (Nat.le_of_ble_eq_true rfl) ?_
                  refine AD.pure (PureOp.move rfl (.tmp rfl)) rfl rfl (Nat.le_of_ble_eq_true rfl) ?_
                  refine AD.pure (PureOp.indexLst (i := i) rfl (.frs (.tmp rfl)) vlp_el_30_2 (.tmp rfl) rfl (by omega)) rfl rfl (Nat.le_of_ble_eq_true rfl) ?_
                  refine AD.pure (PureOp.loadRefAgg rfl (.tmp rfl) vlp_ag_55_2 (Nat.le_of_ble_eq_true rfl)) rfl rfl (Nat.le_of_ble_eq_true rfl) ?_
                  refine AD.pure (PureOp.neAgg rfl (.tmp rfl) (.tmp rfl) rfl rfl eqGuardStart (fun w_ => equalStart ((ssOf x84).getD i (default : GStart)) ((ssOf x84).getD i (default : GStart)) _ rfl w_)) rfl rfl (Nat.le_of_ble_eq_true rfl) ?_
                  refine AD.nil ?_
                  refine AW.cond (.tmp rfl) (fun hb95 => ?_) (fun hb95 => ?_)
                  · have _u := True.intro
                    exact absurd (show (!(decide (((ssOf x84).getD i (default : GStart)) = ((ssOf x84).getD i (default : GStart))))) = false by simp) (by rw [hb95]; simp)
                    --end
                  · have _u := True.intro
                    have _h := hb95
                    refine AW.skip ?_
                    refine AW.seq ?_
                    refine AW.region ?_
                    refine ARun.pure (PureOp.move rfl (.tmp rfl)) rfl rfl (Nat.le_of_ble_eq_true rfl) ?_
                    refine ARun.pure (PureOp.move rfl (.tmp rfl)) rfl rfl (Nat.le_of_ble_eq_true rfl) ?_
                    refine ARun.pure (PureOp.move rfl (.tmp rfl)) rfl rfl (Nat.le_of_ble_eq_true rfl) ?_
                    refine ARun.pure (PureOp.indexLst (i := i) rfl (.frs (.tmp rfl)) vlp_el_30_2 (.tmp rfl) rfl (by omega)) rfl rfl (Nat.le_of_ble_eq_true rfl) ?_
                    refine ARun.pure (PureOp.fieldRef rfl (.tmp rfl) vlp_fi_55_0_0 (Nat.le_of_ble_eq_true rfl)) rfl rfl (Nat.le_of_ble_eq_true rfl) ?_
                    refine ARun.pure (PureOp.loadRef rfl (.tmp rfl) vlp_pl_3 (Nat.le_of_ble_eq_true rfl)) rfl rfl (Nat.le_of_ble_eq_true rfl) ?_
                    refine ARun.pure (PureOp.call rfl (v_iEnd x84 hl2 (((ssOf x84).getD i (default : GStart)).a) ⟨by omega, by omega⟩) ⟨⟨_, (.tmp rfl), .frs⟩, ⟨_, (.tmp rfl), .int⟩, trivial⟩ vlp_ca_36 ⟨trivial, trivial⟩) rfl rfl (Nat.le_of_ble_eq_true rfl) ?_
                    refine ARun.pure (PureOp.move rfl (.tmp rfl)) rfl rfl (Nat.le_of_ble_eq_true rfl) ?_
                    refine ARun.pure (PureOp.ext2a rfl (.tmp rfl)) rfl rfl (Nat.le_of_ble_eq_true rfl) ?_
                    refine ARun.pure (PureOp.ext2b rfl (.tmp rfl)) rfl rfl (Nat.le_of_ble_eq_true rfl) ?_
                    refine ARun.pure (PureOp.assign rfl (.tmp rfl)) rfl rfl (Nat.le_of_ble_eq_true rfl) ?_
                    refine ARun.pure (PureOp.assign rfl (.tmp rfl)) rfl rfl (Nat.le_of_ble_eq_true rfl) ?_
                    refine ARun.nil ?_
                    refine AW.seq ?_
                    refine AW.region ?_
                    refine ARun.pure (PureOp.move rfl (.tmp rfl)) rfl rfl (Nat.le_of_ble_eq_true rfl) ?_
                    refine ARun.pure (PureOp.lenLst rfl (.frs (.tmp rfl)) vlp_sl_26) rfl rfl (Nat.le_of_ble_eq_true rfl) ?_
                    refine ARun.pure (PureOp.assign rfl (.tmp rfl)) rfl rfl (Nat.le_of_ble_eq_true rfl) ?_
                    refine ARun.nil ?_
                    refine AW.seq ?_
                    refine AW.seq ?_
                    refine AW.region ?_
                    refine ARun.pure (PureOp.move rfl (.tmp rfl)) rfl rfl (Nat.le_of_ble_eq_true rfl) ?_
                    refine ARun.pure (PureOp.add (c := ((i + 1 : Nat) : Int)) rfl (.tmp rfl) .int (by rw [wrap_id (by omega) (by omega)]; omega)) rfl rfl (Nat.le_of_ble_eq_true rfl) ?_
                    refine ARun.pure (PureOp.move rfl (.tmp rfl)) rfl rfl (Nat.le_of_ble_eq_true rfl) ?_
                    refine ARun.pure (PureOp.lenLst rfl (.frs (.tmp rfl)) vlp_sl_30) rfl rfl (Nat.le_of_ble_eq_true rfl) ?_
                    refine ARun.pure (PureOp.intOp rfl (.tmp rfl) (.tmp rfl) rfl) rfl rfl (Nat.le_of_ble_eq_true rfl) ?_
                    refine ARun.nil ?_
                    refine AW.cond (.tmp rfl) (fun hb96 => ?_) (fun hb96 => ?_)
                    · have _u := True.intro
                      replace hb96 := of_decide_eq_true hb96
                      have hj : i + 1 < (ssOf x84).length := by omega
                      refine AW.region ?_
                      refine ARun.pure (PureOp.move rfl (.tmp rfl)) rfl rfl (Nat.le_of_ble_eq_true rfl) ?_
                      refine ARun.pure (PureOp.move rfl (.tmp rfl)) rfl rfl (Nat.le_of_ble_eq_true rfl) ?_
                      refine ARun.pure (PureOp.add (c := ((i + 1 : Nat) : Int)) rfl (.tmp rfl) .int (by rw [wrap_id (by omega) (by omega)]; omega)) rfl rfl (Nat.le_of_ble_eq_true rfl) ?_
                      refine ARun.pure (PureOp.indexLst (i := (i + 1)) rfl (.frs (.tmp rfl)) vlp_el_30_2 (.tmp rfl) rfl (by omega)) rfl rfl (Nat.le_of_ble_eq_true rfl) ?_
                      refine ARun.pure (PureOp.fieldRef rfl (.tmp rfl) vlp_fi_55_1_1 (Nat.le_of_ble_eq_true rfl)) rfl rfl (Nat.le_of_ble_eq_true rfl) ?_
                      refine ARun.pure (PureOp.loadRef rfl (.tmp rfl) vlp_pl_3 (Nat.le_of_ble_eq_true rfl)) rfl rfl (Nat.le_of_ble_eq_true rfl) ?_
                      refine ARun.pure (PureOp.assign rfl (.tmp rfl)) rfl rfl (Nat.le_of_ble_eq_true rfl) ?_
                      refine ARun.nil ?_
                      refine AW.seq ?_
                      refine AW.region ?_
                      refine ARun.pure (PureOp.move rfl (.tmp rfl)) rfl rfl (Nat.le_of_ble_eq_true rfl) ?_
                      refine ARun.pure (PureOp.not rfl (.tmp rfl)) rfl rfl (Nat.le_of_ble_eq_true rfl) ?_
                      refine ARun.pure (PureOp.move rfl (.tmp rfl)) rfl rfl (Nat.le_of_ble_eq_true rfl) ?_
                      refine ARun.gpure (want := false) (.tf rfl) (fun hg97 => PureOp.move rfl (.tmp rfl)) rfl rfl (Nat.le_of_ble_eq_true rfl) rfl (Nat.le_of_ble_eq_true rfl) ?_
                      refine ARun.gpure (want := false) (.tf rfl) (fun hg98 => PureOp.move rfl (.tmp rfl)) rfl rfl (Nat.le_of_ble_eq_true rfl) rfl (Nat.le_of_ble_eq_true rfl) ?_
                      refine ARun.gpure (want := false) (.tf rfl) (fun hg99 => PureOp.intOp rfl (.gtmp rfl hg99) (.gtmp rfl hg99) rfl) rfl rfl (Nat.le_of_ble_eq_true rfl) rfl (Nat.le_of_ble_eq_true rfl) ?_
                      refine ARun.pure (PureOp.pick rfl (.tmp rfl) (fun _ => .bool) (fun hp101 => .gtmp rfl (not_of hp101))) rfl rfl (Nat.le_of_ble_eq_true rfl) ?_
                      refine ARun.nil ?_
                      refine AW.cond (.tmp rfl) (fun hb102 => ?_) (fun hb102 => ?_)
                      · have _u := True.intro
                        exact absurd (show (cond (!(endOk x84 (((ssOf x84).getD i (default : GStart)).a))) true (!decide (endInt x84 (((ssOf x84).getD i (default : GStart)).a) = ((ssOf x84).getD (i + 1) (default : GStart)).b))) = false by rw [he1, he2 hj]; simp) (by rw [hb102]; simp)
                        --end
                      · have _u := True.intro
                        have _h := hb102
                        refine AW.skip ?_
                        refine AW.region ?_
                        refine ARun.pure (PureOp.add (c := ((i + 1 : Nat) : Int)) rfl (.tmp rfl) .int (by rw [wrap_id (by omega) (by omega)]; omega)) rfl rfl (Nat.le_of_ble_eq_true rfl) ?_
                        refine ARun.pure (PureOp.move rfl (.tmp rfl)) rfl rfl (Nat.le_of_ble_eq_true rfl) ?_
                        refine ARun.nil ?_
                        exact ⟨i + 1, by omega, by dsimp only; omega, ⟨⟨⟨_, rfl, rfl⟩, ⟨_, rfl, rfl⟩, ⟨_, rfl, rfl⟩, ⟨_, rfl, rfl⟩, ⟨_, rfl, rfl⟩, ⟨_, rfl, rfl⟩, trivial⟩, trivial⟩⟩
                    · have _u := True.intro
                      replace hb96 := of_decide_eq_false hb96
                      have hj : ¬ i + 1 < (ssOf x84).length := by omega
                      refine AW.skip ?_
                      refine AW.seq ?_
                      refine AW.region ?_
                      refine ARun.pure (PureOp.move rfl (.tmp rfl)) rfl rfl (Nat.le_of_ble_eq_true rfl) ?_
                      refine ARun.pure (PureOp.not rfl (.tmp rfl)) rfl rfl (Nat.le_of_ble_eq_true rfl) ?_
                      refine ARun.pure (PureOp.move rfl (.tmp rfl)) rfl rfl (Nat.le_of_ble_eq_true rfl) ?_
                      refine ARun.gpure (want := false) (.tf rfl) (fun hg103 => PureOp.move rfl (.tmp rfl)) rfl rfl (Nat.le_of_ble_eq_true rfl) rfl (Nat.le_of_ble_eq_true rfl) ?_
                      refine ARun.gpure (want := false) (.tf rfl) (fun hg104 => PureOp.move rfl (.tmp rfl)) rfl rfl (Nat.le_of_ble_eq_true rfl) rfl (Nat.le_of_ble_eq_true rfl) ?_
                      refine ARun.gpure (want := false) (.tf rfl) (fun hg105 => PureOp.intOp rfl (.gtmp rfl hg105) (.gtmp rfl hg105) rfl) rfl rfl (Nat.le_of_ble_eq_true rfl) rfl (Nat.le_of_ble_eq_true rfl) ?_
                      refine ARun.pure (PureOp.pick rfl (.tmp rfl) (fun _ => .bool) (fun hp107 => .gtmp rfl (not_of hp107))) rfl rfl (Nat.le_of_ble_eq_true rfl) ?_
                      refine ARun.nil ?_
                      refine AW.cond (.tmp rfl) (fun hb108 => ?_) (fun hb108 => ?_)
                      · have _u := True.intro
                        exact absurd (show (cond (!(endOk x84 (((ssOf x84).getD i (default : GStart)).a))) true (!decide (endInt x84 (((ssOf x84).getD i (default : GStart)).a) = (x84.length : Int)))) = false by rw [he1, he3 hj]; simp) (by rw [hb108]; simp)
                        --end
                      · have _u := True.intro
                        have _h := hb108
                        refine AW.skip ?_
                        refine AW.region ?_
                        refine ARun.pure (PureOp.add (c := ((i + 1 : Nat) : Int)) rfl (.tmp rfl) .int (by rw [wrap_id (by omega) (by omega)]; omega)) rfl rfl (Nat.le_of_ble_eq_true rfl) ?_
                        refine ARun.pure (PureOp.move rfl (.tmp rfl)) rfl rfl (Nat.le_of_ble_eq_true rfl) ?_
                        refine ARun.nil ?_
                        exact ⟨i + 1, by omega, by dsimp only; omega, ⟨⟨⟨_, rfl, rfl⟩, ⟨_, rfl, rfl⟩, ⟨_, rfl, rfl⟩, ⟨_, rfl, rfl⟩, ⟨_, rfl, rfl⟩, ⟨_, rfl, rfl⟩, trivial⟩, trivial⟩⟩
                · have _u := True.intro
                  replace hb94 := of_decide_eq_false hb94
                  refine AW.exit ?_
                  refine AW.seq ?_
                  refine AW.region ?_
                  refine ARun.pure (PureOp.move rfl (.tmp rfl)) rfl rfl (Nat.le_of_ble_eq_true rfl) ?_
                  refine ARun.draw rfl (v_DrawEndOfEpoch x1.length (fun i => (x1.getD i 0).toNat) (fun i => UInt8.toNat_lt _)) vlp_ca_37 ⟨⟨_, (.tmp rfl), .lst⟩, trivial⟩ rfl rfl (Nat.le_of_ble_eq_true rfl) (fun x109 hd110 => ?_)
                  obtain ⟨⟨hx1, hx2⟩, hx3, hx4⟩ := hd110
                  refine ARun.pure (PureOp.move rfl (.tmp rfl)) rfl rfl (Nat.le_of_ble_eq_true rfl) ?_
                  refine ARun.pure (PureOp.ext2a rfl (.tmp rfl)) rfl rfl (Nat.le_of_ble_eq_true rfl) ?_
                  refine ARun.pure (PureOp.ext2b rfl (.tmp rfl)) rfl rfl (Nat.le_of_ble_eq_true rfl) ?_
                  refine ARun.pure (PureOp.assign rfl (.tmp rfl)) rfl rfl (Nat.le_of_ble_eq_true rfl) ?_
                  refine ARun.pure (PureOp.assign rfl (.tmp rfl)) rfl rfl (Nat.le_of_ble_eq_true rfl) ?_
                  refine ARun.nil ?_
                  refine AW.seq ?_
                  refine AW.region ?_
                  refine ARun.pure (PureOp.move rfl (.tmp rfl)) rfl rfl (Nat.le_of_ble_eq_true rfl) ?_
                  refine ARun.pure (PureOp.move rfl (.tmp rfl)) rfl rfl (Nat.le_of_ble_eq_true rfl) ?_
                  refine ARun.pure (PureOp.call rfl (v_iEnd x109.1 hx2 x109.2 ⟨by omega, by omega⟩) ⟨⟨_, (.tmp rfl), .frs⟩, ⟨_, (.tmp rfl), .int⟩, trivial⟩ vlp_ca_36 ⟨trivial, trivial⟩) rfl rfl (Nat.le_of_ble_eq_true rfl) ?_
                  refine ARun.pure (PureOp.move rfl (.tmp rfl)) rfl rfl (Nat.le_of_ble_eq_true rfl) ?_
                  refine ARun.pure (PureOp.ext2a rfl (.tmp rfl)) rfl rfl (Nat.le_of_ble_eq_true rfl) ?_
                  refine ARun.pure (PureOp.ext2b rfl (.tmp rfl)) rfl rfl (Nat.le_of_ble_eq_true rfl) ?_
                  refine ARun.pure (PureOp.assign rfl (.tmp rfl)) rfl rfl (Nat.le_of_ble_eq_true rfl) ?_
                  refine ARun.pure (PureOp.assign rfl (.tmp rfl)) rfl rfl (Nat.le_of_ble_eq_true rfl) ?_
                  refine ARun.nil ?_
                  refine AW.seq ?_
                  refine AW.region ?_
                  refine ARun.pure (PureOp.move rfl (.tmp rfl)) rfl rfl (Nat.le_of_ble_eq_true rfl) ?_
                  refine ARun.pure (PureOp.move rfl (.tmp rfl)) rfl rfl (Nat.le_of_ble_eq_true rfl) ?_
                  refine ARun.pure (PureOp.call rfl (v_sEnd x109.1 hx2 x109.2 ⟨by omega, by omega⟩) ⟨⟨_, (.tmp rfl), .frs⟩, ⟨_, (.tmp rfl), .int⟩, trivial⟩ vlp_ca_38 ⟨trivial, trivial⟩) rfl rfl (Nat.le_of_ble_eq_true rfl) ?_
                  refine ARun.pure (PureOp.move rfl (.tmp rfl)) rfl rfl (Nat.le_of_ble_eq_true rfl) ?_
                  refine ARun.pure (PureOp.ext2a rfl (.tmp rfl)) rfl rfl (Nat.le_of_ble_eq_true rfl) ?_
                  refine ARun.pure (PureOp.ext2b rfl (.tmp rfl)) rfl rfl (Nat.le_of_ble_eq_true rfl) ?_
                  refine ARun.pure (PureOp.assign rfl (.tmp rfl)) rfl rfl (Nat.le_of_ble_eq_true rfl) ?_
                  refine ARun.pure (PureOp.assign rfl (.tmp rfl)) rfl rfl (Nat.le_of_ble_eq_true rfl) ?_
                  refine ARun.nil ?_
                  refine AW.seq ?_
                  refine AW.region ?_
                  refine ARun.pure (PureOp.move rfl (.tmp rfl)) rfl rfl (Nat.le_of_ble_eq_true rfl) ?_
                  refine ARun.pure (PureOp.move rfl (.tmp rfl)) rfl rfl (Nat.le_of_ble_eq_true rfl) ?_
                  refine ARun.pure (PureOp.boolEq rfl (.tmp rfl) (.tmp rfl) vlp_bo_4) rfl rfl (Nat.le_of_ble_eq_true rfl) ?_
                  refine ARun.pure (PureOp.move rfl (.tmp rfl)) rfl rfl (Nat.le_of_ble_eq_true rfl) ?_
                  refine ARun.gpure (want := true) (.tt rfl) (fun hg111 => PureOp.move rfl (.tmp rfl)) rfl rfl (Nat.le_of_ble_eq_true rfl) rfl (Nat.le_of_ble_eq_true rfl) ?_
                  refine ARun.gpure (want := true) (.tt rfl) (fun hg112 => PureOp.move rfl (.tmp rfl)) rfl rfl (Nat.le_of_ble_eq_true rfl) rfl (Nat.le_of_ble_eq_true rfl) ?_
                  refine ARun.gpure (want := true) (.tt rfl) (fun hg113 => PureOp.intOp rfl (.gtmp rfl hg113) (.gtmp rfl hg113) rfl) rfl rfl (Nat.le_of_ble_eq_true rfl) rfl (Nat.le_of_ble_eq_true rfl) ?_
                  refine ARun.pure (PureOp.pick rfl (.tmp rfl) (fun hp114 => .gtmp rfl hp114) (fun _ => .bool)) rfl rfl (Nat.le_of_ble_eq_true rfl) ?_
                  refine ARun.pure (PureOp.assign rfl (.tmp rfl)) rfl rfl (Nat.le_of_ble_eq_true rfl) ?_
                  refine ARun.nil ?_
                  refine AW.ret (show ResL _ _ [.tmp 4] _ from resB rfl ?_)
                  simp
          · have _u := True.intro
            have _h := hb75
            refine AW.skip ?_
            refine AW.seq ?_
            refine AW.region ?_
            refine ARun.pure (PureOp.move rfl (.tmp rfl)) rfl rfl (Nat.le_of_ble_eq_true rfl) ?_
            refine ARun.draw rfl (v_DrawStartsOf x1.length (fun i => (x1.getD i 0).toNat) (fun i => UInt8.toNat_lt _)) vlp_ca_35 ⟨⟨_, (.tmp rfl), .lst⟩, trivial⟩ rfl rfl (Nat.le_of_ble_eq_true rfl) (fun x116 hd117 => ?_)
            obtain ⟨hl1, hl2⟩ := hd117
            have hsl := ss_len (l := x116) (by omega)
            refine ARun.pure (PureOp.assign rfl (.tmp rfl)) rfl rfl (Nat.le_of_ble_eq_true rfl) ?_
            refine ARun.nil ?_
            refine AW.seq ?_
            refine AW.region ?_
            refine ARun.pure (PureOp.move rfl (.tmp rfl)) rfl rfl (Nat.le_of_ble_eq_true rfl) ?_
            refine ARun.fresh (FreshOp.callS rfl (v_iStarts x116 hl2) ⟨⟨_, (.tmp rfl), .frs⟩, trivial⟩ vlp_ca_15 rfl) rfl rfl (Nat.le_of_ble_eq_true rfl) ?_
            refine ARun.pure (PureOp.move rfl (.tmp rfl)) rfl rfl (Nat.le_of_ble_eq_true rfl) ?_
            refine ARun.pure (PureOp.ext2a rfl (.tmp rfl)) rfl rfl (Nat.le_of_ble_eq_true rfl) ?_
            refine ARun.pure (PureOp.ext2b rfl (.tmp rfl)) rfl rfl (Nat.le_of_ble_eq_true rfl) ?_
            refine ARun.pure (PureOp.assign rfl (.tmp rfl)) rfl rfl (Nat.le_of_ble_eq_true rfl) ?_
            refine ARun.pure (PureOp.assign rfl (.tmp rfl)) rfl rfl (Nat.le_of_ble_eq_true rfl) ?_
            refine ARun.nil ?_
            refine AW.seq ?_
            refine AW.region ?_
            refine ARun.pure (PureOp.move rfl (.tmp rfl)) rfl rfl (Nat.le_of_ble_eq_true rfl) ?_
            refine ARun.fresh (FreshOp.callS rfl (v_sStarts x116 hl2) ⟨⟨_, (.tmp rfl), .frs⟩, trivial⟩ vlp_ca_14 rfl) rfl rfl (Nat.le_of_ble_eq_true rfl) ?_
            refine ARun.pure (PureOp.move rfl (.tmp rfl)) rfl rfl (Nat.le_of_ble_eq_true rfl) ?_
            refine ARun.pure (PureOp.ext2a rfl (.tmp rfl)) rfl rfl (Nat.le_of_ble_eq_true rfl) ?_
            refine ARun.pure (PureOp.ext2b rfl (.tmp rfl)) rfl rfl (Nat.le_of_ble_eq_true rfl) ?_
            refine ARun.pure (PureOp.assign rfl (.tmp rfl)) rfl rfl (Nat.le_of_ble_eq_true rfl) ?_
            refine ARun.pure (PureOp.assign rfl (.tmp rfl)) rfl rfl (Nat.le_of_ble_eq_true rfl) ?_
            refine ARun.nil ?_
            refine AW.seq ?_
            refine AW.seq ?_
            refine AW.region ?_
            refine ARun.pure (PureOp.move rfl (.tmp rfl)) rfl rfl (Nat.le_of_ble_eq_true rfl) ?_
            refine ARun.pure (PureOp.move rfl (.tmp rfl)) rfl rfl (Nat.le_of_ble_eq_true rfl) ?_
            refine ARun.pure (PureOp.boolNe rfl (.tmp rfl) (.tmp rfl) vlp_bo_4) rfl rfl (Nat.le_of_ble_eq_true rfl) ?_
            refine ARun.pure (PureOp.move rfl (.tmp rfl)) rfl rfl (Nat.le_of_ble_eq_true rfl) ?_
            refine ARun.gpure (want := false) (.tf rfl) (fun hg118 => PureOp.move rfl (.tmp rfl)) rfl rfl (Nat.le_of_ble_eq_true rfl) rfl (Nat.le_of_ble_eq_true rfl) ?_
            refine ARun.gpure (want := false) (.tf rfl) (fun hg119 => PureOp.lenLst rfl (.frs (.gtmp rfl hg119)) vlp_sl_30) rfl rfl (Nat.le_of_ble_eq_true rfl) rfl (Nat.le_of_ble_eq_true rfl) ?_
            refine ARun.gpure (want := false) (.tf rfl) (fun hg120 => PureOp.move rfl (.tmp rfl)) rfl rfl (Nat.le_of_ble_eq_true rfl) rfl (Nat.le_of_ble_eq_true rfl) ?_
            refine ARun.gpure (want := false) (.tf rfl) (fun hg121 => PureOp.lenLst rfl (.frs (.gtmp rfl hg121)) vlp_sl_30) rfl rfl (Nat.le_of_ble_eq_true rfl) rfl (Nat.le_of_ble_eq_true rfl) ?_
            refine ARun.gpure (want := false) (.tf rfl) (fun hg122 => PureOp.intOp rfl (.gtmp rfl hg122) (.gtmp rfl hg122) rfl) rfl rfl (Nat.le_of_ble_eq_true rfl) rfl (Nat.le_of_ble_eq_true rfl) ?_
            refine ARun.pure (PureOp.pick rfl (.tmp rfl) (fun _ => .bool) (fun hp124 => .gtmp rfl (not_of hp124))) rfl rfl (Nat.le_of_ble_eq_true rfl) ?_
            refine ARun.nil ?_
            refine AW.cond (.tmp rfl) (fun hb125 => ?_) (fun hb125 => ?_)
            · have _u := True.intro
              exact absurd (show (cond (!((goodEn x116) == (goodEn x116))) true (!decide ((((ssOf x116).length : Nat) : Int) = (((ssOf x116).length : Nat) : Int)))) = false by simp) (by rw [hb125]; simp)
              --end
            · have _u := True.intro
              have _h := hb125
              refine AW.skip ?_
              refine AW.seq ?_
              refine AW.seq ?_
              refine AW.region ?_
              refine ARun.pure (PureOp.move rfl (.tmp rfl)) rfl rfl (Nat.le_of_ble_eq_true rfl) ?_
              refine ARun.pure (PureOp.lenLst rfl (.frs (.tmp rfl)) vlp_sl_30) rfl rfl (Nat.le_of_ble_eq_true rfl) ?_
              refine ARun.pure (PureOp.move rfl .int) rfl rfl (Nat.le_of_ble_eq_true rfl) ?_
              refine ARun.nil ?_
              refine AW.block ?_
              refine AW.loop (ι := Nat) (fun i => ⟨[(1, .one (.lst 1 x1.length (fun i0 _ => .int .u8 (((x1.getD i0 0).toNat : Nat) : Int)))), (26, .one (.frs (.lst 2 x116.length (enC x116)))), (27, .one (.frs (.lst 2 ((ssOf x116).length) (stC (ssOf x116))))), (29, .one (.frs (.lst 2 ((ssOf x116).length) (stC (ssOf x116))))), (226, .one (.int .i64 (((ssOf x116).length : Nat) : Int))), (227, .one (.int .i64 (i : Int)))], []⟩) (fun i => i ≤ (ssOf x116).length) (fun i => (ssOf x116).length - i) 0 (Nat.zero_le _) ⟨⟨⟨_, rfl, rfl⟩, ⟨_, rfl, rfl⟩, ⟨_, rfl, rfl⟩, ⟨_, rfl, rfl⟩, ⟨_, rfl, rfl⟩, ⟨_, rfl, rfl⟩, trivial⟩, trivial⟩ ?_
              intro i hi0
              refine AW.seq ?_
              refine AW.region ?_
              refine ARun.pure (PureOp.intOp rfl (.tmp rfl) (.tmp rfl) rfl) rfl rfl (Nat.le_of_ble_eq_true rfl) ?_
              refine ARun.nil ?_
              refine AW.seq ?_
              refine AW.cond (.tmp rfl) (fun hb126 => ?_) (fun hb126 => ?_)
              · have _u := True.intro
                replace hb126 := of_decide_eq_true hb126
                have hi : i < (ssOf x116).length := by omega
                obtain ⟨he1, he2, he3⟩ := ss_end hi
                have hsb := ss_bd hi
                refine AW.skip ?_
                refine AW.seq ?_
                refine AW.block ?_
                refine AW.seq ?_
                refine AW.region ?_
                refine ARun.pure (PureOp.move rfl (.tmp rfl)) rfl rfl (Nat.le_of_ble_eq_true rfl) ?_
                refine ARun.pure (PureOp.assign rfl (.tmp rfl)) rfl rfl (Nat.le_of_ble_eq_true rfl) ?_
                refine ARun.nil ?_
                refine AW.seq ?_
                refine AW.seq ?_
                refine AW.any (by kernel_rfl) (by kernel_rfl) ?_
                refine AD.pure (PureOp.move rfl (.tmp rfl)) rfl rfl (Nat.le_of_ble_eq_true rfl) ?_
                refine AD.pure (PureOp.move rfl (.tmp rfl)) rfl rfl (Nat.le_of_ble_eq_true rfl) ?_
                refine AD.pure (PureOp.indexLst (i := i) rfl (.frs (.tmp rfl)) vlp_el_30_2 (.tmp rfl) rfl (by omega)) rfl rfl (Nat.le_of_ble_eq_true rfl) ?_
                refine AD.pure (PureOp.loadRefAgg rfl (.tmp rfl) vlp_ag_55_2 (Nat.le_of_ble_eq_true rfl)) rfl rfl (Nat.le_of_ble_eq_true rfl) ?_
                refine AD.pure (PureOp.move rfl (.tmp rfl)) rfl rfl (Nat.le_of_ble_eq_true rfl) ?_
                refine AD.pure (PureOp.move rfl (.tmp rfl)) rfl rfl (Nat.le_of_ble_eq_true rfl) ?_
                refine AD.pure (PureOp.indexLst (i := i) rfl (.frs (.tmp rfl)) vlp_el_30_2 (.tmp rfl) rfl (by omega)) rfl rfl (Nat.le_of_ble_eq_true rfl) ?_
                refine AD.pure (PureOp.loadRefAgg rfl (.tmp rfl) vlp_ag_55_2 (Nat.le_of_ble_eq_true rfl)) rfl rfl (Nat.le_of_ble_eq_true rfl) ?_
                refine AD.pure (PureOp.neAgg rfl (.tmp rfl) (.tmp rfl) rfl rfl eqGuardStart (fun w_ => equalStart ((ssOf x116).getD i (default : GStart)) ((ssOf x116).getD i (default : GStart)) _ rfl w_)) rfl rfl (Nat.le_of_ble_eq_true rfl) ?_
                refine AD.nil ?_
                refine AW.cond (.tmp rfl) (fun hb127 => ?_) (fun hb127 => ?_)
                · have _u := True.intro
                  exact absurd (show (!(decide (((ssOf x116).getD i (default : GStart)) = ((ssOf x116).getD i (default : GStart))))) = false by simp) (by rw [hb127]; simp)
                  --end
                · have _u := True.intro
                  have _h := hb127
                  refine AW.skip ?_
                  refine AW.seq ?_
                  refine AW.region ?_
                  refine ARun.pure (PureOp.move rfl (.tmp rfl)) rfl rfl (Nat.le_of_ble_eq_true rfl) ?_
                  refine ARun.pure (PureOp.move rfl (.tmp rfl)) rfl rfl (Nat.le_of_ble_eq_true rfl) ?_
                  refine ARun.pure (PureOp.move rfl (.tmp rfl)) rfl rfl (Nat.le_of_ble_eq_true rfl) ?_
                  refine ARun.pure (PureOp.indexLst (i := i) rfl (.frs (.tmp rfl)) vlp_el_30_2 (.tmp rfl) rfl (by omega)) rfl rfl (Nat.le_of_ble_eq_true rfl) ?_
                  refine ARun.pure (PureOp.fieldRef rfl (.tmp rfl) vlp_fi_55_0_0 (Nat.le_of_ble_eq_true rfl)) rfl rfl (Nat.le_of_ble_eq_true rfl) ?_
                  refine ARun.pure (PureOp.loadRef rfl (.tmp rfl) vlp_pl_3 (Nat.le_of_ble_eq_true rfl)) rfl rfl (Nat.le_of_ble_eq_true rfl) ?_
                  refine ARun.pure (PureOp.call rfl (v_iEnd x116 hl2 (((ssOf x116).getD i (default : GStart)).a) ⟨by omega, by omega⟩) ⟨⟨_, (.tmp rfl), .frs⟩, ⟨_, (.tmp rfl), .int⟩, trivial⟩ vlp_ca_36 ⟨trivial, trivial⟩) rfl rfl (Nat.le_of_ble_eq_true rfl) ?_
                  refine ARun.pure (PureOp.move rfl (.tmp rfl)) rfl rfl (Nat.le_of_ble_eq_true rfl) ?_
                  refine ARun.pure (PureOp.ext2a rfl (.tmp rfl)) rfl rfl (Nat.le_of_ble_eq_true rfl) ?_
                  refine ARun.pure (PureOp.ext2b rfl (.tmp rfl)) rfl rfl (Nat.le_of_ble_eq_true rfl) ?_
                  refine ARun.pure (PureOp.assign rfl (.tmp rfl)) rfl rfl (Nat.le_of_ble_eq_true rfl) ?_
                  refine ARun.pure (PureOp.assign rfl (.tmp rfl)) rfl rfl (Nat.le_of_ble_eq_true rfl) ?_
                  refine ARun.nil ?_
                  refine AW.seq ?_
                  refine AW.region ?_
                  refine ARun.pure (PureOp.move rfl (.tmp rfl)) rfl rfl (Nat.le_of_ble_eq_true rfl) ?_
                  refine ARun.pure (PureOp.lenLst rfl (.frs (.tmp rfl)) vlp_sl_26) rfl rfl (Nat.le_of_ble_eq_true rfl) ?_
                  refine ARun.pure (PureOp.assign rfl (.tmp rfl)) rfl rfl (Nat.le_of_ble_eq_true rfl) ?_
                  refine ARun.nil ?_
                  refine AW.seq ?_
                  refine AW.seq ?_
                  refine AW.region ?_
                  refine ARun.pure (PureOp.move rfl (.tmp rfl)) rfl rfl (Nat.le_of_ble_eq_true rfl) ?_
                  refine ARun.pure (PureOp.add (c := ((i + 1 : Nat) : Int)) rfl (.tmp rfl) .int (by rw [wrap_id (by omega) (by omega)]; omega)) rfl rfl (Nat.le_of_ble_eq_true rfl) ?_
                  refine ARun.pure (PureOp.move rfl (.tmp rfl)) rfl rfl (Nat.le_of_ble_eq_true rfl) ?_
                  refine ARun.pure (PureOp.lenLst rfl (.frs (.tmp rfl)) vlp_sl_30) rfl rfl (Nat.le_of_ble_eq_true rfl) ?_
                  refine ARun.pure (PureOp.intOp rfl (.tmp rfl) (.tmp rfl) rfl) rfl rfl (Nat.le_of_ble_eq_true rfl) ?_
                  refine ARun.nil ?_
                  refine AW.cond (.tmp rfl) (fun hb128 => ?_) (fun hb128 => ?_)
                  · have _u := True.intro
                    replace hb128 := of_decide_eq_true hb128
                    have hj : i + 1 < (ssOf x116).length := by omega
                    refine AW.region ?_
                    refine ARun.pure (PureOp.move rfl (.tmp rfl)) rfl rfl (Nat.le_of_ble_eq_true rfl) ?_
                    refine ARun.pure (PureOp.move rfl (.tmp rfl)) rfl rfl (Nat.le_of_ble_eq_true rfl) ?_
                    refine ARun.pure (PureOp.add (c := ((i + 1 : Nat) : Int)) rfl (.tmp rfl) .int (by rw [wrap_id (by omega) (by omega)]; omega)) rfl rfl (Nat.le_of_ble_eq_true rfl) ?_
                    refine ARun.pure (PureOp.indexLst (i := (i + 1)) rfl (.frs (.tmp rfl)) vlp_el_30_2 (.tmp rfl) rfl (by omega)) rfl rfl (Nat.le_of_ble_eq_true rfl) ?_
                    refine ARun.pure (PureOp.fieldRef rfl (.tmp rfl) vlp_fi_55_1_1 (Nat.le_of_ble_eq_true rfl)) rfl rfl (Nat.le_of_ble_eq_true rfl) ?_
                    refine ARun.pure (PureOp.loadRef rfl (.tmp rfl) vlp_pl_3 (Nat.le_of_ble_eq_true rfl)) rfl rfl (Nat.le_of_ble_eq_true rfl) ?_
                    refine ARun.pure (PureOp.assign rfl (.tmp rfl)) rfl rfl (Nat.le_of_ble_eq_true rfl) ?_
                    refine ARun.nil ?_
                    refine AW.seq ?_
                    refine AW.region ?_
                    refine ARun.pure (PureOp.move rfl (.tmp rfl)) rfl rfl (Nat.le_of_ble_eq_true rfl) ?_
                    refine ARun.pure (PureOp.not rfl (.tmp rfl)) rfl rfl (Nat.le_of_ble_eq_true rfl) ?_
                    refine ARun.pure (PureOp.move rfl (.tmp rfl)) rfl rfl (Nat.le_of_ble_eq_true rfl) ?_
                    refine ARun.gpure (want := false) (.tf rfl) (fun hg129 => PureOp.move rfl (.tmp rfl)) rfl rfl (Nat.le_of_ble_eq_true rfl) rfl (Nat.le_of_ble_eq_true rfl) ?_
                    refine ARun.gpure (want := false) (.tf rfl) (fun hg130 => PureOp.move rfl (.tmp rfl)) rfl rfl (Nat.le_of_ble_eq_true rfl) rfl (Nat.le_of_ble_eq_true rfl) ?_
                    refine ARun.gpure (want := false) (.tf rfl) (fun hg131 => PureOp.intOp rfl (.gtmp rfl hg131) (.gtmp rfl hg131) rfl) rfl rfl (Nat.le_of_ble_eq_true rfl) rfl (Nat.le_of_ble_eq_true rfl) ?_
                    refine ARun.pure (PureOp.pick rfl (.tmp rfl) (fun _ => .bool) (fun hp133 => .gtmp rfl (not_of hp133))) rfl rfl (Nat.le_of_ble_eq_true rfl) ?_
                    refine ARun.nil ?_
                    refine AW.cond (.tmp rfl) (fun hb134 => ?_) (fun hb134 => ?_)
                    · have _u := True.intro
                      exact absurd (show (cond (!(endOk x116 (((ssOf x116).getD i (default : GStart)).a))) true (!decide (endInt x116 (((ssOf x116).getD i (default : GStart)).a) = ((ssOf x116).getD (i + 1) (default : GStart)).b))) = false by rw [he1, he2 hj]; simp) (by rw [hb134]; simp)
                      --end
                    · have _u := True.intro
                      have _h := hb134
                      refine AW.skip ?_
                      refine AW.region ?_
                      refine ARun.pure (PureOp.add (c := ((i + 1 : Nat) : Int)) rfl (.tmp rfl) .int (by rw [wrap_id (by omega) (by omega)]; omega)) rfl rfl (Nat.le_of_ble_eq_true rfl) ?_
                      refine ARun.pure (PureOp.move rfl (.tmp rfl)) rfl rfl (Nat.le_of_ble_eq_true rfl) ?_
                      refine ARun.nil ?_
                      exact ⟨i + 1, by omega, by dsimp only; omega, ⟨⟨⟨_, rfl, rfl⟩, ⟨_, rfl, rfl⟩, ⟨_, rfl, rfl⟩, ⟨_, rfl, rfl⟩, ⟨_, rfl, rfl⟩, ⟨_, rfl, rfl⟩, trivial⟩, trivial⟩⟩
                  · have _u := True.intro
                    replace hb128 := of_decide_eq_false hb128
                    have hj : ¬ i + 1 < (ssOf x116).length := by omega
                    refine AW.skip ?_
                    refine AW.seq ?_
                    refine AW.region ?_
                    refine ARun.pure (PureOp.move rfl (.tmp rfl)) rfl rfl (Nat.le_of_ble_eq_true rfl) ?_
                    refine ARun.pure (PureOp.not rfl (.tmp rfl)) rfl rfl (Nat.le_of_ble_eq_true rfl) ?_
                    refine ARun.pure (PureOp.move rfl (.tmp rfl)) rfl rfl (Nat.le_of_ble_eq_true rfl) ?_
                    refine ARun.gpure (want := false) (.tf rfl) (fun hg135 => PureOp.move rfl (.tmp rfl)) rfl rfl (Nat.le_of_ble_eq_true rfl) rfl (Nat.le_of_ble_eq_true rfl) ?_
                    refine ARun.gpure (want := false) (.tf rfl) (fun hg136 => PureOp.move rfl (.tmp rfl)) rfl rfl (Nat.le_of_ble_eq_true rfl) rfl (Nat.le_of_ble_eq_true rfl) ?_
                    refine ARun.gpure (want := false) (.tf rfl) (fun hg137 => PureOp.intOp rfl (.gtmp rfl hg137) (.gtmp rfl hg137) rfl) rfl rfl (Nat.le_of_ble_eq_true rfl) rfl (Nat.le_of_ble_eq_true rfl) ?_
                    refine ARun.pure (PureOp.pick rfl (.tmp rfl) (fun _ => .bool) (fun hp139 => .gtmp rfl (not_of hp139))) rfl rfl (Nat.le_of_ble_eq_true rfl) ?_
                    refine ARun.nil ?_
                    refine AW.cond (.tmp rfl) (fun hb140 => ?_) (fun hb140 => ?_)
                    · have _u := True.intro
                      exact absurd (show (cond (!(endOk x116 (((ssOf x116).getD i (default : GStart)).a))) true (!decide (endInt x116 (((ssOf x116).getD i (default : GStart)).a) = (x116.length : Int)))) = false by rw [he1, he3 hj]; simp) (by rw [hb140]; simp)
                      --end
                    · have _u := True.intro
                      have _h := hb140
                      refine AW.skip ?_
                      refine AW.region ?_
                      refine ARun.pure (PureOp.add (c := ((i + 1 : Nat) : Int)) rfl (.tmp rfl) .int (by rw [wrap_id (by omega) (by omega)]; omega)) rfl rfl (Nat.le_of_ble_eq_true rfl) ?_
                      refine ARun.pure (PureOp.move rfl (.tmp rfl)) rfl rfl (Nat.le_of_ble_eq_true rfl) ?_
                      refine ARun.nil ?_
                      exact ⟨i + 1, by omega, by dsimp only; omega, ⟨⟨⟨_, rfl, rfl⟩, ⟨_, rfl, rfl⟩, ⟨_, rfl, rfl⟩, ⟨_, rfl, rfl⟩, ⟨_, rfl, rfl⟩, ⟨_, rfl, rfl⟩, trivial⟩, trivial⟩⟩
              · have _u := True.intro
                replace hb126 := of_decide_eq_false hb126
                refine AW.exit ?_
                refine AW.seq ?_
                refine AW.region ?_
                refine ARun.pure (PureOp.move rfl (.tmp rfl)) rfl rfl (Nat.le_of_ble_eq_true rfl) ?_
                refine ARun.draw rfl (v_DrawEndOfEpoch x1.length (fun i => (x1.getD i 0).toNat) (fun i => UInt8.toNat_lt _)) vlp_ca_37 ⟨⟨_, (.tmp rfl), .lst⟩, trivial⟩ rfl rfl (Nat.le_of_ble_eq_true rfl) (fun x141 hd142 => ?_)
                obtain ⟨⟨hx1, hx2⟩, hx3, hx4⟩ := hd142
                refine ARun.pure (PureOp.move rfl (.tmp rfl)) rfl rfl (Nat.le_of_ble_eq_true rfl) ?_
                refine ARun.pure (PureOp.ext2a rfl (.tmp rfl)) rfl rfl (Nat.le_of_ble_eq_true rfl) ?_
                refine ARun.pure (PureOp.ext2b rfl (.tmp rfl)) rfl rfl (Nat.le_of_ble_eq_true rfl) ?_
                refine ARun.pure (PureOp.assign rfl (.tmp rfl)) rfl rfl (Nat.le_of_ble_eq_true rfl) ?_
                refine ARun.pure (PureOp.assign rfl (.tmp rfl)) rfl rfl (Nat.le_of_ble_eq_true rfl) ?_
                refine ARun.nil ?_
                refine AW.seq ?_
                refine AW.region ?_
                refine ARun.pure (PureOp.move rfl (.tmp rfl)) rfl rfl (Nat.le_of_ble_eq_true rfl) ?_
                refine ARun.pure (PureOp.move rfl (.tmp rfl)) rfl rfl (Nat.le_of_ble_eq_true rfl) ?_
                refine ARun.pure (PureOp.call rfl (v_iEnd x141.1 hx2 x141.2 ⟨by omega, by omega⟩) ⟨⟨_, (.tmp rfl), .frs⟩, ⟨_, (.tmp rfl), .int⟩, trivial⟩ vlp_ca_36 ⟨trivial, trivial⟩) rfl rfl (Nat.le_of_ble_eq_true rfl) ?_
                refine ARun.pure (PureOp.move rfl (.tmp rfl)) rfl rfl (Nat.le_of_ble_eq_true rfl) ?_
                refine ARun.pure (PureOp.ext2a rfl (.tmp rfl)) rfl rfl (Nat.le_of_ble_eq_true rfl) ?_
                refine ARun.pure (PureOp.ext2b rfl (.tmp rfl)) rfl rfl (Nat.le_of_ble_eq_true rfl) ?_
                refine ARun.pure (PureOp.assign rfl (.tmp rfl)) rfl rfl (Nat.le_of_ble_eq_true rfl) ?_
                refine ARun.pure (PureOp.assign rfl (.tmp rfl)) rfl rfl (Nat.le_of_ble_eq_true rfl) ?_
                refine ARun.nil ?_
                refine AW.seq ?_
                refine AW.region ?_
                refine ARun.pure (PureOp.move rfl (.tmp rfl)) rfl rfl (Nat.le_of_ble_eq_true rfl) ?_
                refine ARun.pure (PureOp.move rfl (.tmp rfl)) rfl rfl (Nat.le_of_ble_eq_true rfl) ?_
                refine ARun.pure (PureOp.call rfl (v_sEnd x141.1 hx2 x141.2 ⟨by omega, by omega⟩) ⟨⟨_, (.tmp rfl), .frs⟩, ⟨_, (.tmp rfl), .int⟩, trivial⟩ vlp_ca_38 ⟨trivial, trivial⟩) rfl rfl (Nat.le_of_ble_eq_true rfl) ?_
                refine ARun.pure (PureOp.move rfl (.tmp rfl)) rfl rfl (Nat.le_of_ble_eq_true rfl) ?_
                refine ARun.pure (PureOp.ext2a rfl (.tmp rfl)) rfl rfl (Nat.le_of_ble_eq_true rfl) ?_
                refine ARun.pure (PureOp.ext2b rfl (.tmp rfl)) rfl rfl (Nat.le_of_ble_eq_true rfl) ?_
                refine ARun.pure (PureOp.assign rfl (.tmp rfl)) rfl rfl (Nat.le_of_ble_eq_true rfl) ?_
                refine ARun.pure (PureOp.assign rfl (.tmp rfl)) rfl rfl (Nat.le_of_ble_eq_true rfl) ?_
                refine ARun.nil ?_
                refine AW.seq ?_
                refine AW.region ?_
                refine ARun.pure (PureOp.move rfl (.tmp rfl)) rfl rfl (Nat.le_of_ble_eq_true rfl) ?_
                refine ARun.pure (PureOp.move rfl (.tmp rfl)) rfl rfl (Nat.le_of_ble_eq_true rfl) ?_
                refine ARun.pure (PureOp.boolEq rfl (.tmp rfl) (.tmp rfl) vlp_bo_4) rfl rfl (Nat.le_of_ble_eq_true rfl) ?_
                refine ARun.pure (PureOp.move rfl (.tmp rfl)) rfl rfl (Nat.le_of_ble_eq_true rfl) ?_
                refine ARun.gpure (want := true) (.tt rfl) (fun hg143 => PureOp.move rfl (.tmp rfl)) rfl rfl (Nat.le_of_ble_eq_true rfl) rfl (Nat.le_of_ble_eq_true rfl) ?_
                refine ARun.gpure (want := true) (.tt rfl) (fun hg144 => PureOp.move rfl (.tmp rfl)) rfl rfl (Nat.le_of_ble_eq_true rfl) rfl (Nat.le_of_ble_eq_true rfl) ?_
                refine ARun.gpure (want := true) (.tt rfl) (fun hg145 => PureOp.intOp rfl (.gtmp rfl hg145) (.gtmp rfl hg145) rfl) rfl rfl (Nat.le_of_ble_eq_true rfl) rfl (Nat.le_of_ble_eq_true rfl) ?_
                refine ARun.pure (PureOp.pick rfl (.tmp rfl) (fun hp146 => .gtmp rfl hp146) (fun _ => .bool)) rfl rfl (Nat.le_of_ble_eq_true rfl) ?_
                refine ARun.pure (PureOp.assign rfl (.tmp rfl)) rfl rfl (Nat.le_of_ble_eq_true rfl) ?_
                refine ARun.nil ?_
                refine AW.ret (show ResL _ _ [.tmp 4] _ from resB rfl ?_)
                simp
      · have _u := True.intro
        have _h := hb37
        refine AW.skip ?_
        refine AW.seq ?_
        refine AW.region ?_
        refine ARun.pure (PureOp.move rfl (.tmp rfl)) rfl rfl (Nat.le_of_ble_eq_true rfl) ?_
        refine ARun.draw rfl (v_DrawStartsOf x1.length (fun i => (x1.getD i 0).toNat) (fun i => UInt8.toNat_lt _)) vlp_ca_35 ⟨⟨_, (.tmp rfl), .lst⟩, trivial⟩ rfl rfl (Nat.le_of_ble_eq_true rfl) (fun x148 hd149 => ?_)
        obtain ⟨hl1, hl2⟩ := hd149
        have hsl := ss_len (l := x148) (by omega)
        refine ARun.pure (PureOp.assign rfl (.tmp rfl)) rfl rfl (Nat.le_of_ble_eq_true rfl) ?_
        refine ARun.nil ?_
        refine AW.seq ?_
        refine AW.region ?_
        refine ARun.pure (PureOp.move rfl (.tmp rfl)) rfl rfl (Nat.le_of_ble_eq_true rfl) ?_
        refine ARun.fresh (FreshOp.callS rfl (v_iStarts x148 hl2) ⟨⟨_, (.tmp rfl), .frs⟩, trivial⟩ vlp_ca_15 rfl) rfl rfl (Nat.le_of_ble_eq_true rfl) ?_
        refine ARun.pure (PureOp.move rfl (.tmp rfl)) rfl rfl (Nat.le_of_ble_eq_true rfl) ?_
        refine ARun.pure (PureOp.ext2a rfl (.tmp rfl)) rfl rfl (Nat.le_of_ble_eq_true rfl) ?_
        refine ARun.pure (PureOp.ext2b rfl (.tmp rfl)) rfl rfl (Nat.le_of_ble_eq_true rfl) ?_
        refine ARun.pure (PureOp.assign rfl (.tmp rfl)) rfl rfl (Nat.le_of_ble_eq_true rfl) ?_
        refine ARun.pure (PureOp.assign rfl (.tmp rfl)) rfl rfl (Nat.le_of_ble_eq_true rfl) ?_
        refine ARun.nil ?_
        refine AW.seq ?_
        refine AW.region ?_
        refine ARun.pure (PureOp.move rfl (.tmp rfl)) rfl rfl (Nat.le_of_ble_eq_true rfl) ?_
        refine ARun.fresh (FreshOp.callS rfl (v_sStarts x148 hl2) ⟨⟨_, (.tmp rfl), .frs⟩, trivial⟩ vlp_ca_14 rfl) rfl rfl (Nat.le_of_ble_eq_true rfl) ?_
        refine ARun.pure (PureOp.move rfl (.tmp rfl)) rfl rfl (Nat.le_of_ble_eq_true rfl) ?_
        refine ARun.pure (PureOp.ext2a rfl (.tmp rfl)) rfl rfl (Nat.le_of_ble_eq_true rfl) ?_
        refine ARun.pure (PureOp.ext2b rfl (.tmp rfl)) rfl rfl (Nat.le_of_ble_eq_true rfl) ?_
        refine ARun.pure (PureOp.assign rfl (.tmp rfl)) rfl rfl (Nat.le_of_ble_eq_true rfl) ?_
        refine ARun.pure (PureOp.assign rfl (.tmp rfl)) rfl rfl (Nat.le_of_ble_eq_true rfl) ?_
        refine ARun.nil ?_
        refine AW.seq ?_
        refine AW.seq ?_
        refine AW.region ?_
        refine ARun.pure (PureOp.move rfl (.tmp rfl)) rfl rfl (Nat.le_of_ble_eq_true rfl) ?_
        refine ARun.pure (PureOp.move rfl (.tmp rfl)) rfl rfl (Nat.le_of_ble_eq_true rfl) ?_
        refine ARun.pure (PureOp.boolNe rfl (.tmp rfl) (.tmp rfl) vlp_bo_4) rfl rfl (Nat.le_of_ble_eq_true rfl) ?_
        refine ARun.pure (PureOp.move rfl (.tmp rfl)) rfl rfl (Nat.le_of_ble_eq_true rfl) ?_
        refine ARun.gpure (want := false) (.tf rfl) (fun hg150 => PureOp.move rfl (.tmp rfl)) rfl rfl (Nat.le_of_ble_eq_true rfl) rfl (Nat.le_of_ble_eq_true rfl) ?_
        refine ARun.gpure (want := false) (.tf rfl) (fun hg151 => PureOp.lenLst rfl (.frs (.gtmp rfl hg151)) vlp_sl_30) rfl rfl (Nat.le_of_ble_eq_true rfl) rfl (Nat.le_of_ble_eq_true rfl) ?_
        refine ARun.gpure (want := false) (.tf rfl) (fun hg152 => PureOp.move rfl (.tmp rfl)) rfl rfl (Nat.le_of_ble_eq_true rfl) rfl (Nat.le_of_ble_eq_true rfl) ?_
        refine ARun.gpure (want := false) (.tf rfl) (fun hg153 => PureOp.lenLst rfl (.frs (.gtmp rfl hg153)) vlp_sl_30) rfl rfl (Nat.le_of_ble_eq_true rfl) rfl (Nat.le_of_ble_eq_true rfl) ?_
        refine ARun.gpure (want := false) (.tf rfl) (fun hg154 => PureOp.intOp rfl (.gtmp rfl hg154) (.gtmp rfl hg154) rfl) rfl rfl (Nat.le_of_ble_eq_true rfl) rfl (Nat.le_of_ble_eq_true rfl) ?_
        refine ARun.pure (PureOp.pick rfl (.tmp rfl) (fun _ => .bool) (fun hp156 => .gtmp rfl (not_of hp156))) rfl rfl (Nat.le_of_ble_eq_true rfl) ?_
        refine ARun.nil ?_
        refine AW.cond (.tmp rfl) (fun hb157 => ?_) (fun hb157 => ?_)
        · have _u := True.intro
          exact absurd (show (cond (!((goodEn x148) == (goodEn x148))) true (!decide ((((ssOf x148).length : Nat) : Int) = (((ssOf x148).length : Nat) : Int)))) = false by simp) (by rw [hb157]; simp)
          --end
        · have _u := True.intro
          have _h := hb157
          refine AW.skip ?_
          refine AW.seq ?_
          refine AW.seq ?_
          refine AW.region ?_
          refine ARun.pure (PureOp.move rfl (.tmp rfl)) rfl rfl (Nat.le_of_ble_eq_true rfl) ?_
          refine ARun.pure (PureOp.lenLst rfl (.frs (.tmp rfl)) vlp_sl_30) rfl rfl (Nat.le_of_ble_eq_true rfl) ?_
          refine ARun.pure (PureOp.move rfl .int) rfl rfl (Nat.le_of_ble_eq_true rfl) ?_
          refine ARun.nil ?_
          refine AW.block ?_
          refine AW.loop (ι := Nat) (fun i => ⟨[(1, .one (.lst 1 x1.length (fun i0 _ => .int .u8 (((x1.getD i0 0).toNat : Nat) : Int)))), (26, .one (.frs (.lst 2 x148.length (enC x148)))), (27, .one (.frs (.lst 2 ((ssOf x148).length) (stC (ssOf x148))))), (29, .one (.frs (.lst 2 ((ssOf x148).length) (stC (ssOf x148))))), (226, .one (.int .i64 (((ssOf x148).length : Nat) : Int))), (227, .one (.int .i64 (i : Int)))], []⟩) (fun i => i ≤ (ssOf x148).length) (fun i => (ssOf x148).length - i) 0 (Nat.zero_le _) ⟨⟨⟨_, rfl, rfl⟩, ⟨_, rfl, rfl⟩, ⟨_, rfl, rfl⟩, ⟨_, rfl, rfl⟩, ⟨_, rfl, rfl⟩, ⟨_, rfl, rfl⟩, trivial⟩, trivial⟩ ?_
          intro i hi0
          refine AW.seq ?_
          refine AW.region ?_
          refine ARun.pure (PureOp.intOp rfl (.tmp rfl) (.tmp rfl) rfl) rfl rfl (Nat.le_of_ble_eq_true rfl) ?_
          refine ARun.nil ?_
          refine AW.seq ?_
          refine AW.cond (.tmp rfl) (fun hb158 => ?_) (fun hb158 => ?_)
          · have _u := True.intro
            replace hb158 := of_decide_eq_true hb158
            have hi : i < (ssOf x148).length := by omega
            obtain ⟨he1, he2, he3⟩ := ss_end hi
            have hsb := ss_bd hi
            refine AW.skip ?_
            refine AW.seq ?_
            refine AW.block ?_
            refine AW.seq ?_
            refine AW.region ?_
            refine ARun.pure (PureOp.move rfl (.tmp rfl)) rfl rfl (Nat.le_of_ble_eq_true rfl) ?_
            refine ARun.pure (PureOp.assign rfl (.tmp rfl)) rfl rfl (Nat.le_of_ble_eq_true rfl) ?_
            refine ARun.nil ?_
            refine AW.seq ?_
            refine AW.seq ?_
            refine AW.any (by kernel_rfl) (by kernel_rfl) ?_
            refine AD.pure (PureOp.move rfl (.tmp rfl)) rfl rfl (Nat.le_of_ble_eq_true rfl) ?_
            refine AD.pure (PureOp.move rfl (.tmp rfl)) rfl rfl (Nat.le_of_ble_eq_true rfl) ?_
            refine AD.pure (PureOp.indexLst (i := i) rfl (.frs (.tmp rfl)) vlp_el_30_2 (.tmp rfl) rfl (by omega)) rfl rfl (Nat.le_of_ble_eq_true rfl) ?_
            refine AD.pure (PureOp.loadRefAgg rfl (.tmp rfl) vlp_ag_55_2 (Nat.le_of_ble_eq_true rfl)) rfl rfl (Nat.le_of_ble_eq_true rfl) ?_
            refine AD.pure (PureOp.move rfl (.tmp rfl)) rfl rfl (Nat.le_of_ble_eq_true rfl) ?_
            refine AD.pure (PureOp.move rfl (.tmp rfl)) rfl rfl (Nat.le_of_ble_eq_true rfl) ?_
            refine AD.pure (PureOp.indexLst (i := i) rfl (.frs (.tmp rfl)) vlp_el_30_2 (.tmp rfl) rfl (by omega)) rfl rfl (Nat.le_of_ble_eq_true rfl) ?_
            refine AD.pure (PureOp.loadRefAgg rfl (.tmp rfl) vlp_ag_55_2 (Nat.le_of_ble_eq_true rfl)) rfl rfl (Nat.le_of_ble_eq_true rfl) ?_
            refine AD.pure (PureOp.neAgg rfl (.tmp rfl) (.tmp rfl) rfl rfl eqGuardStart (fun w_ => equalStart ((ssOf x148).getD i (default : GStart)) ((ssOf x148).getD i (default : GStart)) _ rfl w_)) rfl rfl (Nat.le_of_ble_eq_true rfl) ?_
            refine AD.nil ?_
            refine AW.cond (.tmp rfl) (fun hb159 => ?_) (fun hb159 => ?_)
            · have _u := True.intro
              exact absurd (show (!(decide (((ssOf x148).getD i (default : GStart)) = ((ssOf x148).getD i (default : GStart))))) = false by simp) (by rw [hb159]; simp)
              --end
            · have _u := True.intro
              have _h := hb159
              refine AW.skip ?_
              refine AW.seq ?_
              refine AW.region ?_
              refine ARun.pure (PureOp.move rfl (.tmp rfl)) rfl rfl (Nat.le_of_ble_eq_true rfl) ?_
              refine ARun.pure (PureOp.move rfl (.tmp rfl)) rfl rfl (Nat.le_of_ble_eq_true rfl) ?_
              refine ARun.pure (PureOp.move rfl (.tmp rfl)) rfl rfl (Nat.le_of_ble_eq_true rfl) ?_
              refine ARun.pure (PureOp.indexLst (i := i) rfl (.frs (.tmp rfl)) vlp_el_30_2 (.tmp rfl) rfl (by omega)) rfl rfl (Nat.le_of_ble_eq_true rfl) ?_
              refine ARun.pure (PureOp.fieldRef rfl (.tmp rfl) vlp_fi_55_0_0 (Nat.le_of_ble_eq_true rfl)) rfl rfl (Nat.le_of_ble_eq_true rfl) ?_
              refine ARun.pure (PureOp.loadRef rfl (.tmp rfl) vlp_pl_3 (Nat.le_of_ble_eq_true rfl)) rfl rfl (Nat.le_of_ble_eq_true rfl) ?_
              refine ARun.pure (PureOp.call rfl (v_iEnd x148 hl2 (((ssOf x148).getD i (default : GStart)).a) ⟨by omega, by omega⟩) ⟨⟨_, (.tmp rfl), .frs⟩, ⟨_, (.tmp rfl), .int⟩, trivial⟩ vlp_ca_36 ⟨trivial, trivial⟩) rfl rfl (Nat.le_of_ble_eq_true rfl) ?_
              refine ARun.pure (PureOp.move rfl (.tmp rfl)) rfl rfl (Nat.le_of_ble_eq_true rfl) ?_
              refine ARun.pure (PureOp.ext2a rfl (.tmp rfl)) rfl rfl (Nat.le_of_ble_eq_true rfl) ?_
              refine ARun.pure (PureOp.ext2b rfl (.tmp rfl)) rfl rfl (Nat.le_of_ble_eq_true rfl) ?_
              refine ARun.pure (PureOp.assign rfl (.tmp rfl)) rfl rfl (Nat.le_of_ble_eq_true rfl) ?_
              refine ARun.pure (PureOp.assign rfl (.tmp rfl)) rfl rfl (Nat.le_of_ble_eq_true rfl) ?_
              refine ARun.nil ?_
              refine AW.seq ?_
              refine AW.region ?_
              refine ARun.pure (PureOp.move rfl (.tmp rfl)) rfl rfl (Nat.le_of_ble_eq_true rfl) ?_
              refine ARun.pure (PureOp.lenLst rfl (.frs (.tmp rfl)) vlp_sl_26) rfl rfl (Nat.le_of_ble_eq_true rfl) ?_
              refine ARun.pure (PureOp.assign rfl (.tmp rfl)) rfl rfl (Nat.le_of_ble_eq_true rfl) ?_
              refine ARun.nil ?_
              refine AW.seq ?_
              refine AW.seq ?_
              refine AW.region ?_
              refine ARun.pure (PureOp.move rfl (.tmp rfl)) rfl rfl (Nat.le_of_ble_eq_true rfl) ?_
              refine ARun.pure (PureOp.add (c := ((i + 1 : Nat) : Int)) rfl (.tmp rfl) .int (by rw [wrap_id (by omega) (by omega)]; omega)) rfl rfl (Nat.le_of_ble_eq_true rfl) ?_
              refine ARun.pure (PureOp.move rfl (.tmp rfl)) rfl rfl (Nat.le_of_ble_eq_true rfl) ?_
              refine ARun.pure (PureOp.lenLst rfl (.frs (.tmp rfl)) vlp_sl_30) rfl rfl (Nat.le_of_ble_eq_true rfl) ?_
              refine ARun.pure (PureOp.intOp rfl (.tmp rfl) (.tmp rfl) rfl) rfl rfl (Nat.le_of_ble_eq_true rfl) ?_
              refine ARun.nil ?_
              refine AW.cond (.tmp rfl) (fun hb160 => ?_) (fun hb160 => ?_)
              · have _u := True.intro
                replace hb160 := of_decide_eq_true hb160
                have hj : i + 1 < (ssOf x148).length := by omega
                refine AW.region ?_
                refine ARun.pure (PureOp.move rfl (.tmp rfl)) rfl rfl (Nat.le_of_ble_eq_true rfl) ?_
                refine ARun.pure (PureOp.move rfl (.tmp rfl)) rfl rfl (Nat.le_of_ble_eq_true rfl) ?_
                refine ARun.pure (PureOp.add (c := ((i + 1 : Nat) : Int)) rfl (.tmp rfl) .int (by rw [wrap_id (by omega) (by omega)]; omega)) rfl rfl (Nat.le_of_ble_eq_true rfl) ?_
                refine ARun.pure (PureOp.indexLst (i := (i + 1)) rfl (.frs (.tmp rfl)) vlp_el_30_2 (.tmp rfl) rfl (by omega)) rfl rfl (Nat.le_of_ble_eq_true rfl) ?_
                refine ARun.pure (PureOp.fieldRef rfl (.tmp rfl) vlp_fi_55_1_1 (Nat.le_of_ble_eq_true rfl)) rfl rfl (Nat.le_of_ble_eq_true rfl) ?_
                refine ARun.pure (PureOp.loadRef rfl (.tmp rfl) vlp_pl_3 (Nat.le_of_ble_eq_true rfl)) rfl rfl (Nat.le_of_ble_eq_true rfl) ?_
                refine ARun.pure (PureOp.assign rfl (.tmp rfl)) rfl rfl (Nat.le_of_ble_eq_true rfl) ?_
                refine ARun.nil ?_
                refine AW.seq ?_
                refine AW.region ?_
                refine ARun.pure (PureOp.move rfl (.tmp rfl)) rfl rfl (Nat.le_of_ble_eq_true rfl) ?_
                refine ARun.pure (PureOp.not rfl (.tmp rfl)) rfl rfl (Nat.le_of_ble_eq_true rfl) ?_
                refine ARun.pure (PureOp.move rfl (.tmp rfl)) rfl rfl (Nat.le_of_ble_eq_true rfl) ?_
                refine ARun.gpure (want := false) (.tf rfl) (fun hg161 => PureOp.move rfl (.tmp rfl)) rfl rfl (Nat.le_of_ble_eq_true rfl) rfl (Nat.le_of_ble_eq_true rfl) ?_
                refine ARun.gpure (want := false) (.tf rfl) (fun hg162 => PureOp.move rfl (.tmp rfl)) rfl rfl (Nat.le_of_ble_eq_true rfl) rfl (Nat.le_of_ble_eq_true rfl) ?_
                refine ARun.gpure (want := false) (.tf rfl) (fun hg163 => PureOp.intOp rfl (.gtmp rfl hg163) (.gtmp rfl hg163) rfl) rfl rfl (Nat.le_of_ble_eq_true rfl) rfl (Nat.le_of_ble_eq_true rfl) ?_
                refine ARun.pure (PureOp.pick rfl (.tmp rfl) (fun _ => .bool) (fun hp165 => .gtmp rfl (not_of hp165))) rfl rfl (Nat.le_of_ble_eq_true rfl) ?_
                refine ARun.nil ?_
                refine AW.cond (.tmp rfl) (fun hb166 => ?_) (fun hb166 => ?_)
                · have _u := True.intro
                  exact absurd (show (cond (!(endOk x148 (((ssOf x148).getD i (default : GStart)).a))) true (!decide (endInt x148 (((ssOf x148).getD i (default : GStart)).a) = ((ssOf x148).getD (i + 1) (default : GStart)).b))) = false by rw [he1, he2 hj]; simp) (by rw [hb166]; simp)
                  --end
                · have _u := True.intro
                  have _h := hb166
                  refine AW.skip ?_
                  refine AW.region ?_
                  refine ARun.pure (PureOp.add (c := ((i + 1 : Nat) : Int)) rfl (.tmp rfl) .int (by rw [wrap_id (by omega) (by omega)]; omega)) rfl rfl (Nat.le_of_ble_eq_true rfl) ?_
                  refine ARun.pure (PureOp.move rfl (.tmp rfl)) rfl rfl (Nat.le_of_ble_eq_true rfl) ?_
                  refine ARun.nil ?_
                  exact ⟨i + 1, by omega, by dsimp only; omega, ⟨⟨⟨_, rfl, rfl⟩, ⟨_, rfl, rfl⟩, ⟨_, rfl, rfl⟩, ⟨_, rfl, rfl⟩, ⟨_, rfl, rfl⟩, ⟨_, rfl, rfl⟩, trivial⟩, trivial⟩⟩
              · have _u := True.intro
                replace hb160 := of_decide_eq_false hb160
                have hj : ¬ i + 1 < (ssOf x148).length := by omega
                refine AW.skip ?_
                refine AW.seq ?_
                refine AW.region ?_
                refine ARun.pure (PureOp.move rfl (.tmp rfl)) rfl rfl (Nat.le_of_ble_eq_true rfl) ?_
                refine ARun.pure (PureOp.not rfl (.tmp rfl)) rfl rfl (Nat.le_of_ble_eq_true rfl) ?_
                refine ARun.pure (PureOp.move rfl (.tmp rfl)) rfl rfl (Nat.le_of_ble_eq_true rfl) ?_
                refine ARun.gpure (want := false) (.tf rfl) (fun hg167 => PureOp.move rfl (.tmp rfl)) rfl rfl (Nat.le_of_ble_eq_true rfl) rfl (Nat.le_of_ble_eq_true rfl) ?_
                refine ARun.gpure (want := false) (.tf rfl) (fun hg168 => PureOp.move rfl (.tmp rfl)) rfl rfl (Nat.le_of_ble_eq_true rfl) rfl (Nat.le_of_ble_eq_true rfl) ?_
                refine ARun.gpure (want := false) (.tf rfl) (fun hg169 => PureOp.intOp rfl (.gtmp rfl hg169) (.gtmp rfl hg169) rfl) rfl rfl (Nat.le_of_ble_eq_true rfl) rfl (Nat.le_of_ble_eq_true rfl) ?_
                refine ARun.pure (PureOp.pick rfl (.tmp rfl) (fun _ => .bool) (fun hp171 => .gtmp rfl (not_of hp171))) rfl rfl (Nat.le_of_ble_eq_true rfl) ?_
                refine ARun.nil ?_
                refine AW.cond (.tmp rfl) (fun hb172 => ?_) (fun hb172 => ?_)
                · have _u := True.intro
                  exact absurd (show (cond (!(endOk x148 (((ssOf x148).getD i (default : GStart)).a))) true (!decide (endInt x148 (((ssOf x148).getD i (default : GStart)).a) = (x148.length : Int)))) = false by rw [he1, he3 hj]; simp) (by rw [hb172]; simp)
                  --end
                · have _u := True.intro
                  have _h := hb172
                  refine AW.skip ?_
                  refine AW.region ?_
                  refine ARun.pure (PureOp.add (c := ((i + 1 : Nat) : Int)) rfl (.tmp rfl) .int (by rw [wrap_id (by omega) (by omega)]; omega)) rfl rfl (Nat.le_of_ble_eq_true rfl) ?_
                  refine ARun.pure (PureOp.move rfl (.tmp rfl)) rfl rfl (Nat.le_of_ble_eq_true rfl) ?_
                  refine ARun.nil ?_
                  exact ⟨i + 1, by omega, by dsimp only; omega, ⟨⟨⟨_, rfl, rfl⟩, ⟨_, rfl, rfl⟩, ⟨_, rfl, rfl⟩, ⟨_, rfl, rfl⟩, ⟨_, rfl, rfl⟩, ⟨_, rfl, rfl⟩, trivial⟩, trivial⟩⟩
          · have _u := True.intro
            replace hb158 := of_decide_eq_false hb158
            refine AW.exit ?_
            refine AW.seq ?_
            refine AW.region ?_
            refine ARun.pure (PureOp.move rfl (.tmp rfl)) rfl rfl (Nat.le_of_ble_eq_true rfl) ?_
            refine ARun.draw rfl (v_DrawEndOfEpoch x1.length (fun i => (x1.getD i 0).toNat) (fun i => UInt8.toNat_lt _)) vlp_ca_37 ⟨⟨_, (.tmp rfl), .lst⟩, trivial⟩ rfl rfl (Nat.le_of_ble_eq_true rfl) (fun x173 hd174 => ?_)
            obtain ⟨⟨hx1, hx2⟩, hx3, hx4⟩ := hd174
            refine ARun.pure (PureOp.move rfl (.tmp rfl)) rfl rfl (Nat.le_of_ble_eq_true rfl) ?_
            refine ARun.pure (PureOp.ext2a rfl (.tmp rfl)) rfl rfl (Nat.le_of_ble_eq_true rfl) ?_
            refine ARun.pure (PureOp.ext2b rfl (.tmp rfl)) rfl rfl (Nat.le_of_ble_eq_true rfl) ?_
            refine ARun.pure (PureOp.assign rfl (.tmp rfl)) rfl rfl (Nat.le_of_ble_eq_true rfl) ?_
            refine ARun.pure (PureOp.assign rfl (.tmp rfl)) rfl rfl (Nat.le_of_ble_eq_true rfl) ?_
            refine ARun.nil ?_
            refine AW.seq ?_
            refine AW.region ?_
            refine ARun.pure (PureOp.move rfl (.tmp rfl)) rfl rfl (Nat.le_of_ble_eq_true rfl) ?_
            refine ARun.pure (PureOp.move rfl (.tmp rfl)) rfl rfl (Nat.le_of_ble_eq_true rfl) ?_
            refine ARun.pure (PureOp.call rfl (v_iEnd x173.1 hx2 x173.2 ⟨by omega, by omega⟩) ⟨⟨_, (.tmp rfl), .frs⟩, ⟨_, (.tmp rfl), .int⟩, trivial⟩ vlp_ca_36 ⟨trivial, trivial⟩) rfl rfl (Nat.le_of_ble_eq_true rfl) ?_
            refine ARun.pure (PureOp.move rfl (.tmp rfl)) rfl rfl (Nat.le_of_ble_eq_true rfl) ?_
            refine ARun.pure (PureOp.ext2a rfl (.tmp rfl)) rfl rfl (Nat.le_of_ble_eq_true rfl) ?_
            refine ARun.pure (PureOp.ext2b rfl (.tmp rfl)) rfl rfl (Nat.le_of_ble_eq_true rfl) ?_
            refine ARun.pure (PureOp.assign rfl (.tmp rfl)) rfl rfl (Nat.le_of_ble_eq_true rfl) ?_
            refine ARun.pure (PureOp.assign rfl (.tmp rfl)) rfl rfl (Nat.le_of_ble_eq_true rfl) ?_
            refine ARun.nil ?_
            refine AW.seq ?_
            refine AW.region ?_
            refine ARun.pure (PureOp.move rfl (.tmp rfl)) rfl rfl (Nat.le_of_ble_eq_true rfl) ?_
            refine ARun.pure (PureOp.move rfl (.tmp rfl)) rfl rfl (Nat.le_of_ble_eq_true rfl) ?_
            refine ARun.pure (PureOp.call rfl (v_sEnd x173.1 hx2 x173.2 ⟨by omega, by omega⟩) ⟨⟨_, (.tmp rfl), .frs⟩, ⟨_, (.tmp rfl), .int⟩, trivial⟩ vlp_ca_38 ⟨trivial, trivial⟩) rfl rfl (Nat.le_of_ble_eq_true rfl) ?_
            refine ARun.pure (PureOp.move rfl (.tmp rfl)) rfl rfl (Nat.le_of_ble_eq_true rfl) ?_
            refine ARun.pure (PureOp.ext2a rfl (.tmp rfl)) rfl rfl (Nat.le_of_ble_eq_true rfl) ?_
            refine ARun.pure (PureOp.ext2b rfl (.tmp rfl)) rfl rfl (Nat.le_of_ble_eq_true rfl) ?_
            refine ARun.pure (PureOp.assign rfl (.tmp rfl)) rfl rfl (Nat.le_of_ble_eq_true rfl) ?_
            refine ARun.pure (PureOp.assign rfl (.tmp rfl)) rfl rfl (Nat.le_of_ble_eq_true rfl) ?_
            refine ARun.nil ?_
            refine AW.seq ?_
            refine AW.region ?_
            refine ARun.pure (PureOp.move rfl (.tmp rfl)) rfl rfl (Nat.le_of_ble_eq_true rfl) ?_
            refine ARun.pure (PureOp.move rfl (.tmp rfl)) rfl rfl (Nat.le_of_ble_eq_true rfl) ?_
            refine ARun.pure (PureOp.boolEq rfl (.tmp rfl) (.tmp rfl) vlp_bo_4) rfl rfl (Nat.le_of_ble_eq_true rfl) ?_
            refine ARun.pure (PureOp.move rfl (.tmp rfl)) rfl rfl (Nat.le_of_ble_eq_true rfl) ?_
            refine ARun.gpure (want := true) (.tt rfl) (fun hg175 => PureOp.move rfl (.tmp rfl)) rfl rfl (Nat.le_of_ble_eq_true rfl) rfl (Nat.le_of_ble_eq_true rfl) ?_
            refine ARun.gpure (want := true) (.tt rfl) (fun hg176 => PureOp.move rfl (.tmp rfl)) rfl rfl (Nat.le_of_ble_eq_true rfl) rfl (Nat.le_of_ble_eq_true rfl) ?_
            refine ARun.gpure (want := true) (.tt rfl) (fun hg177 => PureOp.intOp rfl (.gtmp rfl hg177) (.gtmp rfl hg177) rfl) rfl rfl (Nat.le_of_ble_eq_true rfl) rfl (Nat.le_of_ble_eq_true rfl) ?_
            refine ARun.pure (PureOp.pick rfl (.tmp rfl) (fun hp178 => .gtmp rfl hp178) (fun _ => .bool)) rfl rfl (Nat.le_of_ble_eq_true rfl) ?_
            refine ARun.pure (PureOp.assign rfl (.tmp rfl)) rfl rfl (Nat.le_of_ble_eq_true rfl) ?_
            refine ARun.nil ?_
            refine AW.ret (show ResL _ _ [.tmp 4] _ from resB rfl ?_)
            simp

set_option maxRecDepth 100000 in
theorem lifted_Parts (os : Os) (started : os.Started) (H : Type) (enc : TypeId × Value → H) :
    ReturnsInHanded {} Try.checked os 7 .any (Rows.fnPartsSpec.pre6 enc Try.prog Try.f7 Rows.fnPartsRow.domain false) (Rows.fnPartsSpec.post enc Try.prog Try.f7 false true false false) := by
  refine returnsInHanded_of_change (C := Try.checked) own started (by kernel_rfl) Try.func7
    (ChangeSpec.witness6 (enc := enc) (C := Try.checked) false ⟨#[], #[.slice none 0 0, .slice none 0 0], []⟩ 8 (by kernel_rfl) (by kernel_rfl) (by kernel_rfl) (by kernel_rfl)) ?_
  intro W base args ds gs before hval0 hW hcnd _
  have hval : ∀ (j : Nat) t v, Try.f7.params[j]? = some t → args[j]? = some v → Value.okWide Try.prog W .any base t v := hval0
  have hW' := hW
  obtain ⟨p, q, hA0, hV, rfl, hfz, hnd⟩ := hW
  have hA : DataW.TrodAll enc Try.prog W 0 (fun _ => true) true Try.f7.params.toList args.toList ds p := hA0
  rw [Try.params7] at hA hval
  obtain ⟨v0, vs0, d0, ds0, p0, q0, hargs, rfl, rfl, h0, r0⟩ := trodAll_cons hA
  obtain ⟨v1, vs1, d1, ds1, p1, q1, rfl, rfl, rfl, h1, r1⟩ := trodAll_cons r0
  obtain ⟨rfl, rfl, rfl⟩ := trodAll_nil r1
  obtain rfl : args = #[v0, v1] := by cases args; simp_all
  obtain ⟨rfl, rfl⟩ := trodVars_none hV
  obtain ⟨x0, R0⟩ := OpensC.arg opensC_45 h0
  have E0 : DS W (· < W.heap.size) (.one (.lst 1 x0.length (fun i0 _ => .int .u8 (((x0.getD i0 0).toNat : Nat) : Int)))) v0 := DS.one_of (by obtain ⟨a, n, c, rfl⟩ := okWide_slice Try.underlying45 (hval 0 45 v0 rfl rfl); rfl) R0
  obtain ⟨x1, R1⟩ := OpensC.arg opensC_45 h1
  have E1 : DS W (· < W.heap.size) (.one (.lst 1 x1.length (fun i0 _ => .int .u8 (((x1.getD i0 0).toNat : Nat) : Int)))) v1 := DS.one_of (by obtain ⟨a, n, c, rfl⟩ := okWide_slice Try.underlying45 (hval 1 45 v1 rfl rfl); rfl) R1
  clear hA0 hval0
  refine (law_Parts x0 x1 W (· < W.heap.size) _ ⟨fun _ h => h, trivial⟩ ⟨_, _, rfl, E0, ⟨_, _, rfl, E1, rfl⟩⟩).mono fun e W' ⟨he, hg⟩ => ?_
  subst he
  exact ⟨_, rfl, law_post hW' rfl laidOut (by kernel_rfl) hg rfl rfl Try.underlying4⟩
/-- The statement. -/
theorem proved_Parts : Rows.FnPartsSaid :=
  OpenClaim.holds_of_wide 7 Try.f7 rfl rfl rfl rfl rfl rfl rfl ⟨rfl, rfl, rfl, rfl, rfl⟩ rfl rfl rfl rfl rfl (by kernel_rfl) Try.func7 (by kernel_rfl)
    (of_decide_eq_true (by kernel_rfl)) (by unfold Func.isWrapper; first | (rw [if_pos (by decide +kernel)]; kernel_rfl) | (rw [if_neg (by decide +kernel)]; exact ⟨rfl, rfl⟩))
    (fun os started H enc _ => lifted_Parts os started H enc)
#print axioms proved_Parts
end Go.Proofs.Ytgcliipdkoefaaa
