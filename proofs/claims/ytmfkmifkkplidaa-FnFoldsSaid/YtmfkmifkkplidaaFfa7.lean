/-
  Proved: the law FnFolds returns true for every input: a head folded on from what was kept is the head folded from the beginning, as many measurements are new as the head has more, and the same measurement once more changes no row; the program answers as the reference does. Conditions: none.
-/
import Derived.Test.YtmfkmifkkplidaaFfa1
import Derived.Test.YtmfkmifkkplidaaFfa6
namespace Go.Proofs.Ytmfkmifkkplidaa
open Go.ChangeShapes Go.WideShapes Go.ChangeAt Go.RowKit Go.BigFrame Go.Deep
set_option linter.unusedVariables false
set_option linter.unusedSimpArgs false
theorem vlf8_ag_29_2 : aggB Try.prog 29 2 = true := by kernel_rfl
theorem vlf8_ag_47_3 : aggB Try.prog 47 3 = true := by kernel_rfl
theorem vlf8_ag_67_2 : aggB Try.prog 67 2 = true := by kernel_rfl
theorem vlf8_bo_4 : boolB Try.prog 4 = true := by kernel_rfl
theorem vlf8_ca_10 : callB Try.prog 10 = true := by kernel_rfl
theorem vlf8_ca_12 : callB Try.prog 12 = true := by kernel_rfl
theorem vlf8_ca_24 : callB Try.prog 24 = true := by kernel_rfl
theorem vlf8_ca_26 : callB Try.prog 26 = true := by kernel_rfl
theorem vlf8_ca_28 : callB Try.prog 28 = true := by kernel_rfl
theorem vlf8_ca_30 : callB Try.prog 30 = true := by kernel_rfl
theorem vlf8_ca_36 : callB Try.prog 36 = true := by kernel_rfl
theorem vlf8_ca_37 : callB Try.prog 37 = true := by kernel_rfl
theorem vlf8_ca_38 : callB Try.prog 38 = true := by kernel_rfl
theorem vlf8_ca_39 : callB Try.prog 39 = true := by kernel_rfl
theorem vlf8_ca_40 : callB Try.prog 40 = true := by kernel_rfl
theorem vlf8_el_27_2 : elemB Try.prog 27 2 = true := by kernel_rfl
theorem vlf8_el_52_1 : elemB Try.prog 52 1 = true := by kernel_rfl
theorem vlf8_el_55_3 : elemB Try.prog 55 3 = true := by kernel_rfl
theorem vlf8_fi_29_0_0 : fieldB Try.prog 29 0 0 = true := by kernel_rfl
theorem vlf8_fi_29_1_1 : fieldB Try.prog 29 1 1 = true := by kernel_rfl
theorem vlf8_fi_67_1_1 : fieldB Try.prog 67 1 1 = true := by kernel_rfl
theorem vlf8_pl_27 : plainB Try.prog 27 = true := by kernel_rfl
theorem vlf8_pl_3 : plainB Try.prog 3 = true := by kernel_rfl
theorem vlf8_pl_33 : plainB Try.prog 33 = true := by kernel_rfl
theorem vlf8_sl_27 : sliceB Try.prog 27 = true := by kernel_rfl
theorem vlf8_sl_33 : sliceB Try.prog 33 = true := by kernel_rfl
theorem vlf8_sl_52 : sliceB Try.prog 52 = true := by kernel_rfl
theorem vlf8_sl_55 : sliceB Try.prog 55 = true := by kernel_rfl
theorem vlf8_sl_62 : sliceB Try.prog 62 = true := by kernel_rfl
theorem vlf8_sz_29_2 : sizeB Try.prog 29 2 = true := by kernel_rfl
theorem vlf8_sz_47_3 : sizeB Try.prog 47 3 = true := by kernel_rfl
theorem vlf8_sz_67_2 : sizeB Try.prog 67 2 = true := by kernel_rfl
theorem vw_codes {H : Heap} {i n1 : Nat} {c1 c2 : List Int} {x : Int} (hx : (if i < n1 then c1.getD i 0 else c2.getD (i - n1) 0) = x) (f : AV) : Vw H (if i < 0 + n1 then (if i < 0 then f else .int .i64 (c1.getD (i - 0) 0)) else .int .i64 (c2.getD (i - (0 + n1)) 0)) (.int .i64 x) := by
  subst hx
  rw [Nat.zero_add]
  by_cases h : i < n1
  · rw [if_pos h, if_pos h, if_neg (Nat.not_lt_zero _), Nat.sub_zero]; exact .int
  · rw [if_neg h, if_neg h]; exact .int
theorem thr {c d : Nat} (h : c = 1 → d = 2) : cond (decide ((c : Int) = 1)) (!decide ((d : Int) = 2)) false = false := by
  by_cases hc : c = 1
  · rw [decide_eq_true (show (d : Int) = 2 by have := h hc; omega)]; cases decide ((c : Int) = 1) <;> rfl
  · rw [decide_eq_false (show ¬ (c : Int) = 1 by omega)]; rfl
theorem opensC_5 : OpensC Try.prog 5 (fun x : UInt8 => [.int .u8 ((x.toNat : Nat) : Int)]) := OpensC.byte Try.underlying5
theorem opensC_62 : OpensC Try.prog 62 (fun x : List UInt8 => [.lst 1 x.length (fun i0 _ => .int .u8 (((x.getD i0 0).toNat : Nat) : Int))]) := OpensC.slice (0 : UInt8) Try.underlying62 (by kernel_rfl) (by decide) opensC_5 (fun _ => rfl) (fun l i j _ hj => match j, hj with | 0, _ => rfl | _ + 1, h => absurd h (by omega))

theorem law_Folds (x0 x1 : List UInt8) : Fn Try.prog 8 [.one (.lst 1 x0.length (fun i0 _ => .int .u8 (((x0.getD i0 0).toNat : Nat) : Int))), .one (.lst 1 x1.length (fun i0 _ => .int .u8 (((x1.getD i0 0).toNat : Nat) : Int)))] (.one (.bool true)) := by
  refine Fn.of_body (fn := Try.f8) Try.func8 rfl (Nat.le_of_ble_eq_true rfl) trivial ?_
  intro w0
  show AW _ 257 _ _ _ _
  refine AW.seq ?_
  refine AW.region ?_
  refine ARun.pure (PureOp.assign rfl .bool) rfl rfl (Nat.le_of_ble_eq_true rfl) ?_
  refine ARun.nil ?_
  refine AW.seq ?_
  refine AW.seq ?_
  refine AW.region ?_
  refine ARun.pure (PureOp.move rfl (.tmp rfl)) rfl rfl (Nat.le_of_ble_eq_true rfl) ?_
  refine ARun.pure (PureOp.lenLst rfl (.tmp rfl) vlf8_sl_62) rfl rfl (Nat.le_of_ble_eq_true rfl) ?_
  refine ARun.pure (PureOp.move rfl (.tmp rfl)) rfl rfl (Nat.le_of_ble_eq_true rfl) ?_
  refine ARun.pure (PureOp.lenLst rfl (.tmp rfl) vlf8_sl_62) rfl rfl (Nat.le_of_ble_eq_true rfl) ?_
  refine ARun.pure (PureOp.intOp rfl (.tmp rfl) (.tmp rfl) rfl) rfl rfl (Nat.le_of_ble_eq_true rfl) ?_
  refine ARun.pure (PureOp.intOp rfl (.tmp rfl) .int rfl) rfl rfl (Nat.le_of_ble_eq_true rfl) ?_
  refine ARun.nil ?_
  refine AW.cond (.tmp rfl) (fun hb1 => ?_) (fun hb1 => ?_)
  · have _u := True.intro
    have _h := hb1
    refine AW.seq ?_
    refine AW.region ?_
    refine ARun.pure (PureOp.assign rfl .bool) rfl rfl (Nat.le_of_ble_eq_true rfl) ?_
    refine ARun.nil ?_
    refine AW.ret (show ResL _ _ [.tmp 4] _ from resB rfl ?_)
    rfl
  · have _u := True.intro
    have _h := hb1
    refine AW.skip ?_
    refine AW.seq ?_
    refine AW.region ?_
    refine ARun.pure (PureOp.move rfl (.tmp rfl)) rfl rfl (Nat.le_of_ble_eq_true rfl) ?_
    refine ARun.draw rfl (v_DrawFoldSays x0.length (fun i => (x0.getD i 0).toNat) (fun i => UInt8.toNat_lt _)) vlf8_ca_36 ⟨⟨_, (.tmp rfl), .lst⟩, trivial⟩ rfl rfl (Nat.le_of_ble_eq_true rfl) (fun x2 hd3 => ?_)
    have hl61 : x2.2.length ≤ 61 := hd3
    refine ARun.pure (PureOp.move rfl (.tmp rfl)) rfl rfl (Nat.le_of_ble_eq_true rfl) ?_
    refine ARun.pure (PureOp.ext2a rfl (.tmp rfl)) rfl rfl (Nat.le_of_ble_eq_true rfl) ?_
    refine ARun.pure (PureOp.ext2b rfl (.tmp rfl)) rfl rfl (Nat.le_of_ble_eq_true rfl) ?_
    refine ARun.alloc (id := 0) (l := [.lst 2 0 (fun _ _ => .con undef), .int .i64 0]) (z := (.agg #[.slice none 0 0, .int .i64 0])) rfl (by kernel_rfl) (fun _ _ _ => ⟨_, _, rfl, ⟨none, 0, rfl, Nat.le_refl _, by decide, fun _ => rfl, fun i hi => absurd hi (by omega)⟩, ⟨_, _, rfl, rfl, rfl⟩⟩) ⟨rfl, (by repeat first | exact trivial | refine ⟨by decide, by first | rfl | exact trivial | (intro i j; first | rfl | exact getD_no rfl | (dsimp only; split <;> first | rfl | exact getD_no rfl) | exact scl_no (by apply_assumption) _), ?_⟩)⟩ rfl rfl rfl (Nat.le_of_ble_eq_true rfl) ?_
    refine ARun.store rfl (.tmp rfl) (.tmp rfl) (SV.cells_of (by exact ⟨trivial, trivial, trivial⟩)) rfl (Nat.le_of_ble_eq_true rfl) vlf8_sz_29_2 rfl rfl ?_
    refine ARun.pure (PureOp.assign rfl (.tmp rfl)) rfl rfl (Nat.le_of_ble_eq_true rfl) ?_
    refine ARun.nil ?_
    refine AW.seq ?_
    refine AW.region ?_
    refine ARun.pure (PureOp.loadPtrAgg rfl (.tmp rfl) vlf8_ag_29_2 rfl rfl (Nat.le_of_ble_eq_true rfl) (Nat.le_of_ble_eq_true rfl)) rfl rfl (Nat.le_of_ble_eq_true rfl) ?_
    refine ARun.pure (PureOp.move rfl (.tmp rfl)) rfl rfl (Nat.le_of_ble_eq_true rfl) ?_
    refine ARun.fresh (FreshOp.callS rfl (FnT.toF (v_iFold x2.1 x2.2)) ⟨⟨_, (.tmp rfl), ⟨.frs, .int, trivial⟩⟩, ⟨_, (.tmp rfl), .frs⟩, trivial⟩ vlf8_ca_30 rfl) rfl rfl (Nat.le_of_ble_eq_true rfl) ?_
    refine ARun.pure (PureOp.move rfl (.tmp rfl)) rfl rfl (Nat.le_of_ble_eq_true rfl) ?_
    refine ARun.pure (PureOp.ext3a rfl (.tmp rfl)) rfl rfl (Nat.le_of_ble_eq_true rfl) ?_
    refine ARun.pure (PureOp.ext3b rfl (.tmp rfl)) rfl rfl (Nat.le_of_ble_eq_true rfl) ?_
    refine ARun.pure (PureOp.ext3c rfl (.tmp rfl)) rfl rfl (Nat.le_of_ble_eq_true rfl) ?_
    refine ARun.alloc (id := 1) (l := [.lst 2 0 (fun _ _ => .con undef), .int .i64 0]) (z := (.agg #[.slice none 0 0, .int .i64 0])) rfl (by kernel_rfl) (fun _ _ _ => ⟨_, _, rfl, ⟨none, 0, rfl, Nat.le_refl _, by decide, fun _ => rfl, fun i hi => absurd hi (by omega)⟩, ⟨_, _, rfl, rfl, rfl⟩⟩) ⟨rfl, (by repeat first | exact trivial | refine ⟨by decide, by first | rfl | exact trivial | (intro i j; first | rfl | exact getD_no rfl | (dsimp only; split <;> first | rfl | exact getD_no rfl) | exact scl_no (by apply_assumption) _), ?_⟩)⟩ rfl rfl rfl (Nat.le_of_ble_eq_true rfl) ?_
    refine ARun.store rfl (.tmp rfl) (.tmp rfl) (SV.cells_of (by exact ⟨trivial, trivial, trivial⟩)) rfl (Nat.le_of_ble_eq_true rfl) vlf8_sz_29_2 rfl rfl ?_
    refine ARun.pure (PureOp.assign rfl (.tmp rfl)) rfl rfl (Nat.le_of_ble_eq_true rfl) ?_
    refine ARun.pure (PureOp.assign rfl (.tmp rfl)) rfl rfl (Nat.le_of_ble_eq_true rfl) ?_
    refine ARun.nil ?_
    refine AW.seq ?_
    refine AW.region ?_
    refine ARun.pure (PureOp.loadPtrAgg rfl (.tmp rfl) vlf8_ag_29_2 rfl rfl (Nat.le_of_ble_eq_true rfl) (Nat.le_of_ble_eq_true rfl)) rfl rfl (Nat.le_of_ble_eq_true rfl) ?_
    refine ARun.pure (PureOp.move rfl (.tmp rfl)) rfl rfl (Nat.le_of_ble_eq_true rfl) ?_
    refine ARun.fresh (FreshOp.callS rfl (FnT.toF (v_sFold x2.1 x2.2)) ⟨⟨_, (.tmp rfl), ⟨.frs, .int, trivial⟩⟩, ⟨_, (.tmp rfl), .frs⟩, trivial⟩ vlf8_ca_28 rfl) rfl rfl (Nat.le_of_ble_eq_true rfl) ?_
    refine ARun.pure (PureOp.move rfl (.tmp rfl)) rfl rfl (Nat.le_of_ble_eq_true rfl) ?_
    refine ARun.pure (PureOp.ext3a rfl (.tmp rfl)) rfl rfl (Nat.le_of_ble_eq_true rfl) ?_
    refine ARun.pure (PureOp.ext3b rfl (.tmp rfl)) rfl rfl (Nat.le_of_ble_eq_true rfl) ?_
    refine ARun.pure (PureOp.ext3c rfl (.tmp rfl)) rfl rfl (Nat.le_of_ble_eq_true rfl) ?_
    refine ARun.alloc (id := 2) (l := [.lst 2 0 (fun _ _ => .con undef), .int .i64 0]) (z := (.agg #[.slice none 0 0, .int .i64 0])) rfl (by kernel_rfl) (fun _ _ _ => ⟨_, _, rfl, ⟨none, 0, rfl, Nat.le_refl _, by decide, fun _ => rfl, fun i hi => absurd hi (by omega)⟩, ⟨_, _, rfl, rfl, rfl⟩⟩) ⟨rfl, (by repeat first | exact trivial | refine ⟨by decide, by first | rfl | exact trivial | (intro i j; first | rfl | exact getD_no rfl | (dsimp only; split <;> first | rfl | exact getD_no rfl) | exact scl_no (by apply_assumption) _), ?_⟩)⟩ rfl rfl rfl (Nat.le_of_ble_eq_true rfl) ?_
    refine ARun.store rfl (.tmp rfl) (.tmp rfl) (SV.cells_of (by exact ⟨trivial, trivial, trivial⟩)) rfl (Nat.le_of_ble_eq_true rfl) vlf8_sz_29_2 rfl rfl ?_
    refine ARun.pure (PureOp.assign rfl (.tmp rfl)) rfl rfl (Nat.le_of_ble_eq_true rfl) ?_
    refine ARun.pure (PureOp.assign rfl (.tmp rfl)) rfl rfl (Nat.le_of_ble_eq_true rfl) ?_
    refine ARun.nil ?_
    refine AW.seq ?_
    refine AW.seq ?_
    refine AW.any (by kernel_rfl) (by kernel_rfl) ?_
    refine AD.pure (PureOp.move rfl (.tmp rfl)) rfl rfl (Nat.le_of_ble_eq_true rfl) ?_
    refine AD.pure (PureOp.move rfl (.tmp rfl)) rfl rfl (Nat.le_of_ble_eq_true rfl) ?_
    refine AD.pure (PureOp.boolNe rfl (.tmp rfl) (.tmp rfl) vlf8_bo_4) rfl rfl (Nat.le_of_ble_eq_true rfl) ?_
    refine AD.pure (PureOp.move rfl (.tmp rfl)) rfl rfl (Nat.le_of_ble_eq_true rfl) ?_
    refine AD.gpure (want := false) (.tf rfl) (fun hg4 => PureOp.loadPtrAgg rfl (.tmp rfl) vlf8_ag_29_2 rfl rfl (Nat.le_of_ble_eq_true rfl) (Nat.le_of_ble_eq_true rfl)) rfl rfl rfl (Nat.le_of_ble_eq_true rfl) ?_
    refine AD.gpure (want := false) (.tf rfl) (fun hg5 => PureOp.loadPtrAgg rfl (.tmp rfl) vlf8_ag_29_2 rfl rfl (Nat.le_of_ble_eq_true rfl) (Nat.le_of_ble_eq_true rfl)) rfl rfl rfl (Nat.le_of_ble_eq_true rfl) ?_
    refine AD.gpure (want := false) (.tf rfl) (fun hg6 => PureOp.call rfl (v_sameHeads ((foldV x2.1 x2.2).1)) ⟨⟨_, (.gtmp rfl hg6), ⟨.frs, .int, trivial⟩⟩, ⟨_, (.gtmp rfl hg6), ⟨.frs, .int, trivial⟩⟩, trivial⟩ vlf8_ca_37 trivial) rfl rfl rfl (Nat.le_of_ble_eq_true rfl) ?_
    refine AD.gpure (want := false) (.tf rfl) (fun hg7 => PureOp.not rfl (.gtmp rfl hg7)) rfl rfl rfl (Nat.le_of_ble_eq_true rfl) ?_
    refine AD.pure (PureOp.pick rfl (.tmp rfl) (fun _ => .bool) (fun hp9 => .gtmp rfl (not_of hp9))) rfl rfl (Nat.le_of_ble_eq_true rfl) ?_
    refine AD.pure (PureOp.move rfl (.tmp rfl)) rfl rfl (Nat.le_of_ble_eq_true rfl) ?_
    refine AD.gpure (want := false) (.tf rfl) (fun hg10 => PureOp.move rfl (.tmp rfl)) rfl rfl rfl (Nat.le_of_ble_eq_true rfl) ?_
    refine AD.gpure (want := false) (.tf rfl) (fun hg11 => PureOp.move rfl (.tmp rfl)) rfl rfl rfl (Nat.le_of_ble_eq_true rfl) ?_
    refine AD.gpure (want := false) (.tf rfl) (fun hg12 => PureOp.call rfl (v_sameInts ((foldV x2.1 x2.2).2.1) (((foldV x2.1 x2.2).2.1).length) rfl) ⟨⟨_, (.gtmp rfl hg12), .frs⟩, ⟨_, (.gtmp rfl hg12), .frs⟩, trivial⟩ vlf8_ca_38 trivial) rfl rfl rfl (Nat.le_of_ble_eq_true rfl) ?_
    refine AD.gpure (want := false) (.tf rfl) (fun hg13 => PureOp.not rfl (.gtmp rfl hg13)) rfl rfl rfl (Nat.le_of_ble_eq_true rfl) ?_
    refine AD.pure (PureOp.pick rfl (.tmp rfl) (fun _ => .bool) (fun hp15 => .gtmp rfl (not_of hp15))) rfl rfl (Nat.le_of_ble_eq_true rfl) ?_
    refine AD.pure (PureOp.move rfl (.tmp rfl)) rfl rfl (Nat.le_of_ble_eq_true rfl) ?_
    refine AD.gpure (want := false) (.tf rfl) (fun hg16 => PureOp.loadPtrAgg rfl (.tmp rfl) vlf8_ag_29_2 rfl rfl (Nat.le_of_ble_eq_true rfl) (Nat.le_of_ble_eq_true rfl)) rfl rfl rfl (Nat.le_of_ble_eq_true rfl) ?_
    refine AD.gpure (want := false) (.tf rfl) (fun hg17 => PureOp.call rfl (v_implGoodHead x2.1) ⟨⟨_, (.gtmp rfl hg17), ⟨.frs, .int, trivial⟩⟩, trivial⟩ vlf8_ca_12 trivial) rfl rfl rfl (Nat.le_of_ble_eq_true rfl) ?_
    refine AD.gpure (want := false) (.tf rfl) (fun hg18 => PureOp.loadPtrAgg rfl (.tmp rfl) vlf8_ag_29_2 rfl rfl (Nat.le_of_ble_eq_true rfl) (Nat.le_of_ble_eq_true rfl)) rfl rfl rfl (Nat.le_of_ble_eq_true rfl) ?_
    refine AD.gpure (want := false) (.tf rfl) (fun hg19 => PureOp.call rfl (v_specGoodHead x2.1) ⟨⟨_, (.gtmp rfl hg19), ⟨.frs, .int, trivial⟩⟩, trivial⟩ vlf8_ca_10 trivial) rfl rfl rfl (Nat.le_of_ble_eq_true rfl) ?_
    refine AD.gpure (want := false) (.tf rfl) (fun hg20 => PureOp.boolNe rfl (.gtmp rfl hg20) (.gtmp rfl hg20) vlf8_bo_4) rfl rfl rfl (Nat.le_of_ble_eq_true rfl) ?_
    refine AD.pure (PureOp.pick rfl (.tmp rfl) (fun _ => .bool) (fun hp22 => .gtmp rfl (not_of hp22))) rfl rfl (Nat.le_of_ble_eq_true rfl) ?_
    refine AD.nil ?_
    refine AW.cond (.tmp rfl) (fun hb23 => ?_) (fun hb23 => ?_)
    · have _u := True.intro
      exact absurd (show (cond (cond (cond (!(((foldV x2.1 x2.2).2.2) == ((foldV x2.1 x2.2).2.2))) true (!true)) true (!true)) true (!((goodHead x2.1) == (goodHead x2.1)))) = false by simp) (by rw [hb23]; simp)
      --end
    · have _u := True.intro
      have _h := hb23
      refine AW.skip ?_
      refine AW.seq ?_
      refine AW.seq ?_
      refine AW.region ?_
      refine ARun.pure (PureOp.move rfl (.tmp rfl)) rfl rfl (Nat.le_of_ble_eq_true rfl) ?_
      refine ARun.nil ?_
      refine AW.cond (.tmp rfl) (fun hb24 => ?_) (fun hb24 => ?_)
      · have _u := True.intro
        have hF := foldV_ok hb24
        have hnt := numTo_lt x1 x1.length
        have hof := good_off hF.good
        have hln := hF.len
        have hfo := hF.off
        have hkk : (kOf x1 x2.2.length) ≤ x2.2.length := kOf_le x1 _
        have hgf := foldV_good hF
        have hff := foldV_off hF
        have hr8 := good_len hgf
        have hr9 := good_len hF.good
        have hcl : (foldV x2.1 x2.2).2.1.length = x2.2.length := by rw [foldV_21 hF, codes_len]
        have hcl2 := codes_len x2.1 x2.2 (kOf x1 x2.2.length)
        have hcl3 := codes_len (foldH x2.1 x2.2 (kOf x1 x2.2.length)) (x2.2.drop (kOf x1 x2.2.length)) (x2.2.length - (kOf x1 x2.2.length))
        have hsp : ∀ i, i < (kOf x1 x2.2.length) + (x2.2.length - (kOf x1 x2.2.length)) → (if i < (codesL x2.1 x2.2 (kOf x1 x2.2.length)).length then (codesL x2.1 x2.2 (kOf x1 x2.2.length)).getD i 0 else (codesL (foldH x2.1 x2.2 (kOf x1 x2.2.length)) (x2.2.drop (kOf x1 x2.2.length)) (x2.2.length - (kOf x1 x2.2.length))).getD (i - (codesL x2.1 x2.2 (kOf x1 x2.2.length)).length) 0) = (foldV x2.1 x2.2).2.1.getD i 0 := fun i hi => by rw [hcl2]; exact codes_split hF hkk hi
        refine AW.seq ?_
        refine AW.region ?_
        refine ARun.pure (PureOp.move rfl (.tmp rfl)) rfl rfl (Nat.le_of_ble_eq_true rfl) ?_
        refine ARun.pure (PureOp.call rfl (v_numberOf x1) ⟨⟨_, (.tmp rfl), .lst⟩, trivial⟩ vlf8_ca_39 trivial) rfl rfl (Nat.le_of_ble_eq_true rfl) ?_
        refine ARun.pure (PureOp.move rfl (.tmp rfl)) rfl rfl (Nat.le_of_ble_eq_true rfl) ?_
        refine ARun.pure (PureOp.lenLst rfl (.frs (.tmp rfl)) vlf8_sl_55) rfl rfl (Nat.le_of_ble_eq_true rfl) ?_
        refine ARun.pure (PureOp.add (c := ((x2.2.length + 1 : Nat) : Int)) rfl (.tmp rfl) .int (by rw [wrap_id (by omega) (by omega)]; omega)) rfl rfl (Nat.le_of_ble_eq_true rfl) ?_
        refine ARun.pure (PureOp.rem (a := (numTo x1 x1.length)) (b := x2.2.length + 1) rfl (.tmp rfl) (.tmp rfl) rfl (by omega) (by omega)) rfl rfl (Nat.le_of_ble_eq_true rfl) ?_
        refine ARun.pure (PureOp.assign rfl (.tmp rfl)) rfl rfl (Nat.le_of_ble_eq_true rfl) ?_
        refine ARun.nil ?_
        refine AW.seq ?_
        refine AW.anyX [⟨[0], [], [], []⟩, ⟨[], [], [], []⟩, ⟨[], [], [], []⟩, ⟨[], [], [], []⟩, ⟨[], [], [], []⟩, ⟨[], [], [], []⟩, ⟨[], [], [], []⟩, ⟨[], [], [], []⟩, ⟨[], [], [], []⟩, ⟨[], [3], [3], [(3, .cells [.lst 2 0 (fun _ _ => .con undef), .int .i64 0])]⟩, ⟨[], [3], [], [(3, .cells [.frs (.lst 2 (((foldH x2.1 x2.2 (kOf x1 x2.2.length)).rows).length) (fun i0 j0 => ([.str ((((foldH x2.1 x2.2 (kOf x1 x2.2.length)).rows).getD i0 (default : GRow)).name), .lst 2 (((((foldH x2.1 x2.2 (kOf x1 x2.2.length)).rows).getD i0 (default : GRow)).samples).length) (fun i1 j1 => ([.int .i64 ((((((foldH x2.1 x2.2 (kOf x1 x2.2.length)).rows).getD i0 (default : GRow)).samples).getD i1 (default : GSample)).at_), .int .i64 ((((((foldH x2.1 x2.2 (kOf x1 x2.2.length)).rows).getD i0 (default : GRow)).samples).getD i1 (default : GSample)).value)] : List AV).getD j1 (.con undef))] : List AV).getD j0 (.con undef))), .int .i64 ((foldH x2.1 x2.2 (kOf x1 x2.2.length)).offset)])]⟩, ⟨[], [], [], []⟩, ⟨[], [], [], []⟩] (by kernel_rfl) (by kernel_rfl) (by kernel_rfl) ⟨⟨.inl rfl, .inr (.inr trivial), .inr (.inr trivial), .inr (.inr trivial), .inr (.inr trivial), .inr (.inr trivial), .inr (.inr trivial), .inr (.inr trivial), .inr (.inr trivial), .inr (.inr (by repeat first | exact trivial | refine And.intro ?_ ?_ | exact rfl | (intro i j; first | rfl | exact getD_no rfl | (dsimp only; split <;> first | rfl | exact getD_no rfl) | exact scl_no (by apply_assumption) _))), .inr (.inr trivial), .inr (.inr trivial), .inr (.inr trivial), trivial⟩, ⟨.inr (.inr trivial), .inl rfl, .inr (.inr trivial), .inr (.inr trivial), .inr (.inr trivial), .inr (.inr trivial), .inr (.inr trivial), .inr (.inr trivial), .inr (.inr trivial), .inr (.inr (by repeat first | exact trivial | refine And.intro ?_ ?_ | exact rfl | (intro i j; first | rfl | exact getD_no rfl | (dsimp only; split <;> first | rfl | exact getD_no rfl) | exact scl_no (by apply_assumption) _))), .inr (.inr trivial), .inr (.inr trivial), .inr (.inr trivial), trivial⟩, ⟨.inr (.inr trivial), .inr (.inr trivial), .inl rfl, .inr (.inr trivial), .inr (.inr trivial), .inr (.inr trivial), .inr (.inr trivial), .inr (.inr trivial), .inr (.inr trivial), .inr (.inr (by repeat first | exact trivial | refine And.intro ?_ ?_ | exact rfl | (intro i j; first | rfl | exact getD_no rfl | (dsimp only; split <;> first | rfl | exact getD_no rfl) | exact scl_no (by apply_assumption) _))), .inr (.inr trivial), .inr (.inr trivial), .inr (.inr trivial), trivial⟩, ⟨.inr (.inr trivial), .inr (.inr trivial), .inr (.inr trivial), .inl rfl, .inr (.inr trivial), .inr (.inr trivial), .inr (.inr trivial), .inr (.inr trivial), .inr (.inr trivial), .inr (.inr (by repeat first | exact trivial | refine And.intro ?_ ?_ | exact rfl | (intro i j; first | rfl | exact getD_no rfl | (dsimp only; split <;> first | rfl | exact getD_no rfl) | exact scl_no (by apply_assumption) _))), .inr (.inr trivial), .inr (.inr trivial), .inr (.inr trivial), trivial⟩, ⟨.inr (.inr trivial), .inr (.inr trivial), .inr (.inr trivial), .inr (.inr trivial), .inl rfl, .inr (.inr trivial), .inr (.inr trivial), .inr (.inr trivial), .inr (.inr trivial), .inr (.inr (by repeat first | exact trivial | refine And.intro ?_ ?_ | exact rfl | (intro i j; first | rfl | exact getD_no rfl | (dsimp only; split <;> first | rfl | exact getD_no rfl) | exact scl_no (by apply_assumption) _))), .inr (.inr trivial), .inr (.inr trivial), .inr (.inr trivial), trivial⟩, ⟨.inr (.inr trivial), .inr (.inr trivial), .inr (.inr trivial), .inr (.inr trivial), .inr (.inr trivial), .inl rfl, .inr (.inr trivial), .inr (.inr trivial), .inr (.inr trivial), .inr (.inr (by repeat first | exact trivial | refine And.intro ?_ ?_ | exact rfl | (intro i j; first | rfl | exact getD_no rfl | (dsimp only; split <;> first | rfl | exact getD_no rfl) | exact scl_no (by apply_assumption) _))), .inr (.inr trivial), .inr (.inr trivial), .inr (.inr trivial), trivial⟩, ⟨.inr (.inr trivial), .inr (.inr trivial), .inr (.inr trivial), .inr (.inr trivial), .inr (.inr trivial), .inr (.inr trivial), .inl rfl, .inr (.inr trivial), .inr (.inr trivial), .inr (.inr (by repeat first | exact trivial | refine And.intro ?_ ?_ | exact rfl | (intro i j; first | rfl | exact getD_no rfl | (dsimp only; split <;> first | rfl | exact getD_no rfl) | exact scl_no (by apply_assumption) _))), .inr (.inr trivial), .inr (.inr trivial), .inr (.inr trivial), trivial⟩, ⟨.inr (.inr trivial), .inr (.inr trivial), .inr (.inr trivial), .inr (.inr trivial), .inr (.inr trivial), .inr (.inr trivial), .inr (.inr trivial), .inl rfl, .inr (.inr trivial), .inr (.inr (by repeat first | exact trivial | refine And.intro ?_ ?_ | exact rfl | (intro i j; first | rfl | exact getD_no rfl | (dsimp only; split <;> first | rfl | exact getD_no rfl) | exact scl_no (by apply_assumption) _))), .inr (.inr trivial), .inr (.inr trivial), .inr (.inr trivial), trivial⟩, ⟨.inr (.inr trivial), .inr (.inr trivial), .inr (.inr trivial), .inr (.inr trivial), .inr (.inr trivial), .inr (.inr trivial), .inr (.inr trivial), .inr (.inr trivial), .inl rfl, .inr (.inr (by repeat first | exact trivial | refine And.intro ?_ ?_ | exact rfl | (intro i j; first | rfl | exact getD_no rfl | (dsimp only; split <;> first | rfl | exact getD_no rfl) | exact scl_no (by apply_assumption) _))), .inr (.inr trivial), .inr (.inr trivial), .inr (.inr trivial), trivial⟩, ⟨.inr (.inr trivial), .inr (.inr trivial), .inr (.inr trivial), .inr (.inr trivial), .inr (.inr trivial), .inr (.inr trivial), .inr (.inr trivial), .inr (.inr trivial), .inr (.inr trivial), .inl rfl, .inr (.inr trivial), .inr (.inr trivial), .inr (.inr trivial), trivial⟩, ⟨.inr (.inr trivial), .inr (.inr trivial), .inr (.inr trivial), .inr (.inr trivial), .inr (.inr trivial), .inr (.inr trivial), .inr (.inr trivial), .inr (.inr trivial), .inr (.inr trivial), .inr (.inl (by kernel_rfl)), .inl rfl, .inr (.inr trivial), .inr (.inr trivial), trivial⟩, ⟨.inr (.inr trivial), .inr (.inr trivial), .inr (.inr trivial), .inr (.inr trivial), .inr (.inr trivial), .inr (.inr trivial), .inr (.inr trivial), .inr (.inr trivial), .inr (.inr trivial), .inr (.inl (by kernel_rfl)), .inr (.inr trivial), .inl rfl, .inr (.inr trivial), trivial⟩, ⟨.inr (.inr trivial), .inr (.inr trivial), .inr (.inr trivial), .inr (.inr trivial), .inr (.inr trivial), .inr (.inr trivial), .inr (.inr trivial), .inr (.inr trivial), .inr (.inr trivial), .inr (.inl (by kernel_rfl)), .inr (.inr trivial), .inr (.inr trivial), .inl rfl, trivial⟩, trivial⟩ ⟨trivial, trivial, trivial, trivial, trivial, trivial, trivial, trivial, trivial, ⟨(by repeat first | exact trivial | refine ⟨by decide, by first | rfl | exact trivial | (intro i j; first | rfl | exact getD_no rfl | (dsimp only; split <;> first | rfl | exact getD_no rfl) | exact scl_no (by apply_assumption) _), ?_⟩), trivial⟩, trivial, trivial, trivial, trivial⟩ ?_
        refine ADX.pure [(0, .cells [.frs (.lst 2 x2.1.rows.length (fun i0 j0 => ([.str ((x2.1.rows.getD i0 (default : GRow)).name), .lst 2 (((x2.1.rows.getD i0 (default : GRow)).samples).length) (fun i1 j1 => ([.int .i64 ((((x2.1.rows.getD i0 (default : GRow)).samples).getD i1 (default : GSample)).at_), .int .i64 ((((x2.1.rows.getD i0 (default : GRow)).samples).getD i1 (default : GSample)).value)] : List AV).getD j1 (.con undef))] : List AV).getD j0 (.con undef))), .int .i64 x2.1.offset])] (PureOp.loadPtrAgg rfl (.tmp rfl) vlf8_ag_29_2 rfl rfl (Nat.le_of_ble_eq_true rfl) (Nat.le_of_ble_eq_true rfl)) rfl rfl (Nat.le_of_ble_eq_true rfl) ⟨rfl, trivial⟩ rfl ?_
        refine ADX.pure [] (PureOp.move rfl (.tmp rfl)) rfl rfl (Nat.le_of_ble_eq_true rfl) trivial rfl ?_
        refine ADX.pure [] (PureOp.move rfl (.tmp rfl)) rfl rfl (Nat.le_of_ble_eq_true rfl) trivial rfl ?_
        refine ADX.pure [] (PureOp.lstEq (n' := (x2.2.take (kOf x1 x2.2.length)).length) (f' := fun i0 j0 => ([.str (((x2.2.take (kOf x1 x2.2.length)).getD i0 (default : GSay)).name), .int .i64 (((x2.2.take (kOf x1 x2.2.length)).getD i0 (default : GSay)).at_), .int .i64 (((x2.2.take (kOf x1 x2.2.length)).getD i0 (default : GSay)).value)] : List AV).getD j0 (.con undef)) (PureOp.takeLst (k := (kOf x1 x2.2.length)) rfl (.frs (.tmp rfl)) (.tmp rfl) rfl (by omega) vlf8_el_55_3) (by rw [List.length_take]; omega) (fun i j hi _ => by (try dsimp only); rw [gt_take _ hi])) rfl rfl (Nat.le_of_ble_eq_true rfl) trivial rfl ?_
        refine ADX.fresh [] (FreshOp.callS rfl (FnT.toF (v_iFoldV x2.1 (x2.2.take (kOf x1 x2.2.length)) _ (foldV_take hF hkk))) ⟨⟨_, (.tmp rfl), ⟨.frs, .int, trivial⟩⟩, ⟨_, (.tmp rfl), .lst⟩, trivial⟩ vlf8_ca_30 rfl) rfl rfl (Nat.le_of_ble_eq_true rfl) trivial rfl ?_
        refine ADX.pure [] (PureOp.move rfl (.tmp rfl)) rfl rfl (Nat.le_of_ble_eq_true rfl) trivial rfl ?_
        refine ADX.pure [] (PureOp.ext3a rfl (.tmp rfl)) rfl rfl (Nat.le_of_ble_eq_true rfl) trivial rfl ?_
        refine ADX.pure [] (PureOp.ext3b rfl (.tmp rfl)) rfl rfl (Nat.le_of_ble_eq_true rfl) trivial rfl ?_
        refine ADX.pure [] (PureOp.ext3c rfl (.tmp rfl)) rfl rfl (Nat.le_of_ble_eq_true rfl) trivial rfl ?_
        refine ADX.eff (tk := [3]) (new := [3]) (s := .one (.ptr 3 2 0 0)) (F := [(14, .one (.ptr 3 2 0 0))]) (Hin := []) (Hout := [(3, .cells [.lst 2 0 (fun _ _ => .con undef), .int .i64 0])]) (fun E X hE hX Q rest hk => ?_) trivial ⟨rfl, rfl⟩ rfl rfl rfl rfl ⟨(by repeat first | exact trivial | refine ⟨by decide, by first | rfl | exact trivial | (intro i j; first | rfl | exact getD_no rfl | (dsimp only; split <;> first | rfl | exact getD_no rfl) | exact scl_no (by apply_assumption) _), ?_⟩), trivial⟩ rfl (fun _ e => by cases e; exact Nat.le_of_ble_eq_true rfl) ?_
        · refine ARun.alloc (id := 3) (l := [.lst 2 0 (fun _ _ => .con undef), .int .i64 0]) (z := (.agg #[.slice none 0 0, .int .i64 0])) rfl (by kernel_rfl) (fun _ _ _ => ⟨_, _, rfl, ⟨none, 0, rfl, Nat.le_refl _, by decide, fun _ => rfl, fun i hi => absurd hi (by omega)⟩, ⟨_, _, rfl, rfl, rfl⟩⟩) (Fr.ext2 ⟨rfl, (by repeat first | exact trivial | refine ⟨by decide, by first | rfl | exact trivial | (intro i j; first | rfl | exact getD_no rfl | (dsimp only; split <;> first | rfl | exact getD_no rfl) | exact scl_no (by apply_assumption) _), ?_⟩)⟩ hE hX rfl rfl) rfl rfl rfl (Nat.le_of_ble_eq_true rfl) ?_
          refine ARun.hleX ?_ ?_ hk
          · exact HeapLe.one rfl trivial
          · repeat (first | exact LkX.refl | refine LkX.cons (hX.none rfl) ?_ | refine LkX.filter (hX.none rfl) ?_)
        refine ADX.eff (tk := [3]) (new := []) (s := .one (.con undef)) (F := []) (Hin := [(3, .cells [.lst 2 0 (fun _ _ => .con undef), .int .i64 0])]) (Hout := [(3, .cells [.frs (.lst 2 (((foldH x2.1 x2.2 (kOf x1 x2.2.length)).rows).length) (fun i0 j0 => ([.str ((((foldH x2.1 x2.2 (kOf x1 x2.2.length)).rows).getD i0 (default : GRow)).name), .lst 2 (((((foldH x2.1 x2.2 (kOf x1 x2.2.length)).rows).getD i0 (default : GRow)).samples).length) (fun i1 j1 => ([.int .i64 ((((((foldH x2.1 x2.2 (kOf x1 x2.2.length)).rows).getD i0 (default : GRow)).samples).getD i1 (default : GSample)).at_), .int .i64 ((((((foldH x2.1 x2.2 (kOf x1 x2.2.length)).rows).getD i0 (default : GRow)).samples).getD i1 (default : GSample)).value)] : List AV).getD j1 (.con undef))] : List AV).getD j0 (.con undef))), .int .i64 ((foldH x2.1 x2.2 (kOf x1 x2.2.length)).offset)])]) (fun E X hE hX Q rest hk => ?_) ⟨rfl, trivial⟩ ⟨rfl, rfl⟩ rfl rfl rfl rfl trivial rfl (fun _ e => by cases e) ?_
        · refine ARun.store rfl (.tmp rfl) (.tmp rfl) (SV.cells_of (by exact ⟨trivial, trivial, trivial⟩)) rfl (Nat.le_of_ble_eq_true rfl) vlf8_sz_29_2 rfl rfl ?_
          refine ARun.hleX ?_ ?_ hk
          · exact HeapLe.one rfl trivial
          · repeat (first | exact LkX.refl | refine LkX.cons (hX.none rfl) ?_ | refine LkX.filter (hX.none rfl) ?_)
        refine ADX.pure [] (PureOp.assign rfl (.tmp rfl)) rfl rfl (Nat.le_of_ble_eq_true rfl) trivial rfl ?_
        refine ADX.pure [] (PureOp.assign rfl (.tmp rfl)) rfl rfl (Nat.le_of_ble_eq_true rfl) trivial rfl ?_
        refine ADX.nil (H := [(0, .cells [.frs (.lst 2 x2.1.rows.length (fun i0 j0 => ([.str ((x2.1.rows.getD i0 (default : GRow)).name), .lst 2 (((x2.1.rows.getD i0 (default : GRow)).samples).length) (fun i1 j1 => ([.int .i64 ((((x2.1.rows.getD i0 (default : GRow)).samples).getD i1 (default : GSample)).at_), .int .i64 ((((x2.1.rows.getD i0 (default : GRow)).samples).getD i1 (default : GSample)).value)] : List AV).getD j1 (.con undef))] : List AV).getD j0 (.con undef))), .int .i64 x2.1.offset]), (1, .cells [.frs (.lst 2 ((((foldV x2.1 x2.2).1).rows).length) (fun i0 j0 => ([.str (((((foldV x2.1 x2.2).1).rows).getD i0 (default : GRow)).name), .lst 2 ((((((foldV x2.1 x2.2).1).rows).getD i0 (default : GRow)).samples).length) (fun i1 j1 => ([.int .i64 (((((((foldV x2.1 x2.2).1).rows).getD i0 (default : GRow)).samples).getD i1 (default : GSample)).at_), .int .i64 (((((((foldV x2.1 x2.2).1).rows).getD i0 (default : GRow)).samples).getD i1 (default : GSample)).value)] : List AV).getD j1 (.con undef))] : List AV).getD j0 (.con undef))), .int .i64 (((foldV x2.1 x2.2).1).offset)]), (2, .cells [.frs (.lst 2 ((((foldV x2.1 x2.2).1).rows).length) (fun i0 j0 => ([.str (((((foldV x2.1 x2.2).1).rows).getD i0 (default : GRow)).name), .lst 2 ((((((foldV x2.1 x2.2).1).rows).getD i0 (default : GRow)).samples).length) (fun i1 j1 => ([.int .i64 (((((((foldV x2.1 x2.2).1).rows).getD i0 (default : GRow)).samples).getD i1 (default : GSample)).at_), .int .i64 (((((((foldV x2.1 x2.2).1).rows).getD i0 (default : GRow)).samples).getD i1 (default : GSample)).value)] : List AV).getD j1 (.con undef))] : List AV).getD j0 (.con undef))), .int .i64 (((foldV x2.1 x2.2).1).offset)]), (3, .cells [.frs (.lst 2 (((foldH x2.1 x2.2 (kOf x1 x2.2.length)).rows).length) (fun i0 j0 => ([.str ((((foldH x2.1 x2.2 (kOf x1 x2.2.length)).rows).getD i0 (default : GRow)).name), .lst 2 (((((foldH x2.1 x2.2 (kOf x1 x2.2.length)).rows).getD i0 (default : GRow)).samples).length) (fun i1 j1 => ([.int .i64 ((((((foldH x2.1 x2.2 (kOf x1 x2.2.length)).rows).getD i0 (default : GRow)).samples).getD i1 (default : GSample)).at_), .int .i64 ((((((foldH x2.1 x2.2 (kOf x1 x2.2.length)).rows).getD i0 (default : GRow)).samples).getD i1 (default : GSample)).value)] : List AV).getD j1 (.con undef))] : List AV).getD j0 (.con undef))), .int .i64 ((foldH x2.1 x2.2 (kOf x1 x2.2.length)).offset)])]) ?_ ?_
        · exact HeapLe.one rfl (HeapLe.one rfl (HeapLe.one rfl (HeapLe.one rfl trivial)))
        refine AW.seq ?_
        refine AW.anyX [⟨[3], [], [], []⟩, ⟨[], [], [], []⟩, ⟨[], [], [], []⟩, ⟨[], [], [], []⟩, ⟨[], [], [], []⟩, ⟨[], [], [], []⟩, ⟨[], [], [], []⟩, ⟨[], [], [], []⟩, ⟨[], [], [], []⟩, ⟨[], [4], [4], [(4, .cells [.lst 2 0 (fun _ _ => .con undef), .int .i64 0])]⟩, ⟨[], [4], [], [(4, .cells [.frs (.lst 2 ((((foldV x2.1 x2.2).1).rows).length) (fun i0 j0 => ([.str (((((foldV x2.1 x2.2).1).rows).getD i0 (default : GRow)).name), .lst 2 ((((((foldV x2.1 x2.2).1).rows).getD i0 (default : GRow)).samples).length) (fun i1 j1 => ([.int .i64 (((((((foldV x2.1 x2.2).1).rows).getD i0 (default : GRow)).samples).getD i1 (default : GSample)).at_), .int .i64 (((((((foldV x2.1 x2.2).1).rows).getD i0 (default : GRow)).samples).getD i1 (default : GSample)).value)] : List AV).getD j1 (.con undef))] : List AV).getD j0 (.con undef))), .int .i64 (((foldV x2.1 x2.2).1).offset)])]⟩, ⟨[], [], [], []⟩, ⟨[], [], [], []⟩] (by kernel_rfl) (by kernel_rfl) (by kernel_rfl) ⟨⟨.inl rfl, .inr (.inr trivial), .inr (.inr trivial), .inr (.inr trivial), .inr (.inr trivial), .inr (.inr trivial), .inr (.inr trivial), .inr (.inr trivial), .inr (.inr trivial), .inr (.inr (by repeat first | exact trivial | refine And.intro ?_ ?_ | exact rfl | (intro i j; first | rfl | exact getD_no rfl | (dsimp only; split <;> first | rfl | exact getD_no rfl) | exact scl_no (by apply_assumption) _))), .inr (.inr trivial), .inr (.inr trivial), .inr (.inr trivial), trivial⟩, ⟨.inr (.inr trivial), .inl rfl, .inr (.inr trivial), .inr (.inr trivial), .inr (.inr trivial), .inr (.inr trivial), .inr (.inr trivial), .inr (.inr trivial), .inr (.inr trivial), .inr (.inr (by repeat first | exact trivial | refine And.intro ?_ ?_ | exact rfl | (intro i j; first | rfl | exact getD_no rfl | (dsimp only; split <;> first | rfl | exact getD_no rfl) | exact scl_no (by apply_assumption) _))), .inr (.inr trivial), .inr (.inr trivial), .inr (.inr trivial), trivial⟩, ⟨.inr (.inr trivial), .inr (.inr trivial), .inl rfl, .inr (.inr trivial), .inr (.inr trivial), .inr (.inr trivial), .inr (.inr trivial), .inr (.inr trivial), .inr (.inr trivial), .inr (.inr (by repeat first | exact trivial | refine And.intro ?_ ?_ | exact rfl | (intro i j; first | rfl | exact getD_no rfl | (dsimp only; split <;> first | rfl | exact getD_no rfl) | exact scl_no (by apply_assumption) _))), .inr (.inr trivial), .inr (.inr trivial), .inr (.inr trivial), trivial⟩, ⟨.inr (.inr trivial), .inr (.inr trivial), .inr (.inr trivial), .inl rfl, .inr (.inr trivial), .inr (.inr trivial), .inr (.inr trivial), .inr (.inr trivial), .inr (.inr trivial), .inr (.inr (by repeat first | exact trivial | refine And.intro ?_ ?_ | exact rfl | (intro i j; first | rfl | exact getD_no rfl | (dsimp only; split <;> first | rfl | exact getD_no rfl) | exact scl_no (by apply_assumption) _))), .inr (.inr trivial), .inr (.inr trivial), .inr (.inr trivial), trivial⟩, ⟨.inr (.inr trivial), .inr (.inr trivial), .inr (.inr trivial), .inr (.inr trivial), .inl rfl, .inr (.inr trivial), .inr (.inr trivial), .inr (.inr trivial), .inr (.inr trivial), .inr (.inr (by repeat first | exact trivial | refine And.intro ?_ ?_ | exact rfl | (intro i j; first | rfl | exact getD_no rfl | (dsimp only; split <;> first | rfl | exact getD_no rfl) | exact scl_no (by apply_assumption) _))), .inr (.inr trivial), .inr (.inr trivial), .inr (.inr trivial), trivial⟩, ⟨.inr (.inr trivial), .inr (.inr trivial), .inr (.inr trivial), .inr (.inr trivial), .inr (.inr trivial), .inl rfl, .inr (.inr trivial), .inr (.inr trivial), .inr (.inr trivial), .inr (.inr (by repeat first | exact trivial | refine And.intro ?_ ?_ | exact rfl | (intro i j; first | rfl | exact getD_no rfl | (dsimp only; split <;> first | rfl | exact getD_no rfl) | exact scl_no (by apply_assumption) _))), .inr (.inr trivial), .inr (.inr trivial), .inr (.inr trivial), trivial⟩, ⟨.inr (.inr trivial), .inr (.inr trivial), .inr (.inr trivial), .inr (.inr trivial), .inr (.inr trivial), .inr (.inr trivial), .inl rfl, .inr (.inr trivial), .inr (.inr trivial), .inr (.inr (by repeat first | exact trivial | refine And.intro ?_ ?_ | exact rfl | (intro i j; first | rfl | exact getD_no rfl | (dsimp only; split <;> first | rfl | exact getD_no rfl) | exact scl_no (by apply_assumption) _))), .inr (.inr trivial), .inr (.inr trivial), .inr (.inr trivial), trivial⟩, ⟨.inr (.inr trivial), .inr (.inr trivial), .inr (.inr trivial), .inr (.inr trivial), .inr (.inr trivial), .inr (.inr trivial), .inr (.inr trivial), .inl rfl, .inr (.inr trivial), .inr (.inr (by repeat first | exact trivial | refine And.intro ?_ ?_ | exact rfl | (intro i j; first | rfl | exact getD_no rfl | (dsimp only; split <;> first | rfl | exact getD_no rfl) | exact scl_no (by apply_assumption) _))), .inr (.inr trivial), .inr (.inr trivial), .inr (.inr trivial), trivial⟩, ⟨.inr (.inr trivial), .inr (.inr trivial), .inr (.inr trivial), .inr (.inr trivial), .inr (.inr trivial), .inr (.inr trivial), .inr (.inr trivial), .inr (.inr trivial), .inl rfl, .inr (.inr (by repeat first | exact trivial | refine And.intro ?_ ?_ | exact rfl | (intro i j; first | rfl | exact getD_no rfl | (dsimp only; split <;> first | rfl | exact getD_no rfl) | exact scl_no (by apply_assumption) _))), .inr (.inr trivial), .inr (.inr trivial), .inr (.inr trivial), trivial⟩, ⟨.inr (.inr trivial), .inr (.inr trivial), .inr (.inr trivial), .inr (.inr trivial), .inr (.inr trivial), .inr (.inr trivial), .inr (.inr trivial), .inr (.inr trivial), .inr (.inr trivial), .inl rfl, .inr (.inr trivial), .inr (.inr trivial), .inr (.inr trivial), trivial⟩, ⟨.inr (.inr trivial), .inr (.inr trivial), .inr (.inr trivial), .inr (.inr trivial), .inr (.inr trivial), .inr (.inr trivial), .inr (.inr trivial), .inr (.inr trivial), .inr (.inr trivial), .inr (.inl (by kernel_rfl)), .inl rfl, .inr (.inr trivial), .inr (.inr trivial), trivial⟩, ⟨.inr (.inr trivial), .inr (.inr trivial), .inr (.inr trivial), .inr (.inr trivial), .inr (.inr trivial), .inr (.inr trivial), .inr (.inr trivial), .inr (.inr trivial), .inr (.inr trivial), .inr (.inl (by kernel_rfl)), .inr (.inr trivial), .inl rfl, .inr (.inr trivial), trivial⟩, ⟨.inr (.inr trivial), .inr (.inr trivial), .inr (.inr trivial), .inr (.inr trivial), .inr (.inr trivial), .inr (.inr trivial), .inr (.inr trivial), .inr (.inr trivial), .inr (.inr trivial), .inr (.inl (by kernel_rfl)), .inr (.inr trivial), .inr (.inr trivial), .inl rfl, trivial⟩, trivial⟩ ⟨trivial, trivial, trivial, trivial, trivial, trivial, trivial, trivial, trivial, ⟨(by repeat first | exact trivial | refine ⟨by decide, by first | rfl | exact trivial | (intro i j; first | rfl | exact getD_no rfl | (dsimp only; split <;> first | rfl | exact getD_no rfl) | exact scl_no (by apply_assumption) _), ?_⟩), trivial⟩, trivial, trivial, trivial, trivial⟩ ?_
        refine ADX.pure [(3, .cells [.frs (.lst 2 (((foldH x2.1 x2.2 (kOf x1 x2.2.length)).rows).length) (fun i0 j0 => ([.str ((((foldH x2.1 x2.2 (kOf x1 x2.2.length)).rows).getD i0 (default : GRow)).name), .lst 2 (((((foldH x2.1 x2.2 (kOf x1 x2.2.length)).rows).getD i0 (default : GRow)).samples).length) (fun i1 j1 => ([.int .i64 ((((((foldH x2.1 x2.2 (kOf x1 x2.2.length)).rows).getD i0 (default : GRow)).samples).getD i1 (default : GSample)).at_), .int .i64 ((((((foldH x2.1 x2.2 (kOf x1 x2.2.length)).rows).getD i0 (default : GRow)).samples).getD i1 (default : GSample)).value)] : List AV).getD j1 (.con undef))] : List AV).getD j0 (.con undef))), .int .i64 ((foldH x2.1 x2.2 (kOf x1 x2.2.length)).offset)])] (PureOp.loadPtrAgg rfl (.tmp rfl) vlf8_ag_29_2 rfl rfl (Nat.le_of_ble_eq_true rfl) (Nat.le_of_ble_eq_true rfl)) rfl rfl (Nat.le_of_ble_eq_true rfl) ⟨rfl, trivial⟩ rfl ?_
        refine ADX.pure [] (PureOp.move rfl (.tmp rfl)) rfl rfl (Nat.le_of_ble_eq_true rfl) trivial rfl ?_
        refine ADX.pure [] (PureOp.move rfl (.tmp rfl)) rfl rfl (Nat.le_of_ble_eq_true rfl) trivial rfl ?_
        refine ADX.pure [] (PureOp.lstEq (n' := (x2.2.drop (kOf x1 x2.2.length)).length) (f' := fun i0 j0 => ([.str (((x2.2.drop (kOf x1 x2.2.length)).getD i0 (default : GSay)).name), .int .i64 (((x2.2.drop (kOf x1 x2.2.length)).getD i0 (default : GSay)).at_), .int .i64 (((x2.2.drop (kOf x1 x2.2.length)).getD i0 (default : GSay)).value)] : List AV).getD j0 (.con undef)) (PureOp.dropLst (k := (kOf x1 x2.2.length)) rfl (.frs (.tmp rfl)) (.tmp rfl) rfl (by omega) vlf8_el_55_3) List.length_drop.symm (fun i j _ _ => by (try dsimp only); rw [gt_drop, Nat.add_comm i])) rfl rfl (Nat.le_of_ble_eq_true rfl) trivial rfl ?_
        refine ADX.fresh [] (FreshOp.callS rfl (FnT.toF (v_iFoldV (foldH x2.1 x2.2 (kOf x1 x2.2.length)) (x2.2.drop (kOf x1 x2.2.length)) _ (foldV_drop hF hkk))) ⟨⟨_, (.tmp rfl), ⟨.frs, .int, trivial⟩⟩, ⟨_, (.tmp rfl), .lst⟩, trivial⟩ vlf8_ca_30 rfl) rfl rfl (Nat.le_of_ble_eq_true rfl) trivial rfl ?_
        refine ADX.pure [] (PureOp.move rfl (.tmp rfl)) rfl rfl (Nat.le_of_ble_eq_true rfl) trivial rfl ?_
        refine ADX.pure [] (PureOp.ext3a rfl (.tmp rfl)) rfl rfl (Nat.le_of_ble_eq_true rfl) trivial rfl ?_
        refine ADX.pure [] (PureOp.ext3b rfl (.tmp rfl)) rfl rfl (Nat.le_of_ble_eq_true rfl) trivial rfl ?_
        refine ADX.pure [] (PureOp.ext3c rfl (.tmp rfl)) rfl rfl (Nat.le_of_ble_eq_true rfl) trivial rfl ?_
        refine ADX.eff (tk := [4]) (new := [4]) (s := .one (.ptr 4 2 0 0)) (F := [(17, .one (.ptr 4 2 0 0))]) (Hin := []) (Hout := [(4, .cells [.lst 2 0 (fun _ _ => .con undef), .int .i64 0])]) (fun E X hE hX Q rest hk => ?_) trivial ⟨rfl, rfl⟩ rfl rfl rfl rfl ⟨(by repeat first | exact trivial | refine ⟨by decide, by first | rfl | exact trivial | (intro i j; first | rfl | exact getD_no rfl | (dsimp only; split <;> first | rfl | exact getD_no rfl) | exact scl_no (by apply_assumption) _), ?_⟩), trivial⟩ rfl (fun _ e => by cases e; exact Nat.le_of_ble_eq_true rfl) ?_
        · refine ARun.alloc (id := 4) (l := [.lst 2 0 (fun _ _ => .con undef), .int .i64 0]) (z := (.agg #[.slice none 0 0, .int .i64 0])) rfl (by kernel_rfl) (fun _ _ _ => ⟨_, _, rfl, ⟨none, 0, rfl, Nat.le_refl _, by decide, fun _ => rfl, fun i hi => absurd hi (by omega)⟩, ⟨_, _, rfl, rfl, rfl⟩⟩) (Fr.ext2 ⟨rfl, (by repeat first | exact trivial | refine ⟨by decide, by first | rfl | exact trivial | (intro i j; first | rfl | exact getD_no rfl | (dsimp only; split <;> first | rfl | exact getD_no rfl) | exact scl_no (by apply_assumption) _), ?_⟩)⟩ hE hX rfl rfl) rfl rfl rfl (Nat.le_of_ble_eq_true rfl) ?_
          refine ARun.hleX ?_ ?_ hk
          · exact HeapLe.one rfl trivial
          · repeat (first | exact LkX.refl | refine LkX.cons (hX.none rfl) ?_ | refine LkX.filter (hX.none rfl) ?_)
        refine ADX.eff (tk := [4]) (new := []) (s := .one (.con undef)) (F := []) (Hin := [(4, .cells [.lst 2 0 (fun _ _ => .con undef), .int .i64 0])]) (Hout := [(4, .cells [.frs (.lst 2 ((((foldV x2.1 x2.2).1).rows).length) (fun i0 j0 => ([.str (((((foldV x2.1 x2.2).1).rows).getD i0 (default : GRow)).name), .lst 2 ((((((foldV x2.1 x2.2).1).rows).getD i0 (default : GRow)).samples).length) (fun i1 j1 => ([.int .i64 (((((((foldV x2.1 x2.2).1).rows).getD i0 (default : GRow)).samples).getD i1 (default : GSample)).at_), .int .i64 (((((((foldV x2.1 x2.2).1).rows).getD i0 (default : GRow)).samples).getD i1 (default : GSample)).value)] : List AV).getD j1 (.con undef))] : List AV).getD j0 (.con undef))), .int .i64 (((foldV x2.1 x2.2).1).offset)])]) (fun E X hE hX Q rest hk => ?_) ⟨rfl, trivial⟩ ⟨rfl, rfl⟩ rfl rfl rfl rfl trivial rfl (fun _ e => by cases e) ?_
        · refine ARun.store rfl (.tmp rfl) (.tmp rfl) (SV.cells_of (by exact ⟨trivial, trivial, trivial⟩)) rfl (Nat.le_of_ble_eq_true rfl) vlf8_sz_29_2 rfl rfl ?_
          refine ARun.hleX ?_ ?_ hk
          · exact HeapLe.one rfl trivial
          · repeat (first | exact LkX.refl | refine LkX.cons (hX.none rfl) ?_ | refine LkX.filter (hX.none rfl) ?_)
        refine ADX.pure [] (PureOp.assign rfl (.tmp rfl)) rfl rfl (Nat.le_of_ble_eq_true rfl) trivial rfl ?_
        refine ADX.pure [] (PureOp.assign rfl (.tmp rfl)) rfl rfl (Nat.le_of_ble_eq_true rfl) trivial rfl ?_
        refine ADX.nil (H := [(0, .cells [.frs (.lst 2 x2.1.rows.length (fun i0 j0 => ([.str ((x2.1.rows.getD i0 (default : GRow)).name), .lst 2 (((x2.1.rows.getD i0 (default : GRow)).samples).length) (fun i1 j1 => ([.int .i64 ((((x2.1.rows.getD i0 (default : GRow)).samples).getD i1 (default : GSample)).at_), .int .i64 ((((x2.1.rows.getD i0 (default : GRow)).samples).getD i1 (default : GSample)).value)] : List AV).getD j1 (.con undef))] : List AV).getD j0 (.con undef))), .int .i64 x2.1.offset]), (1, .cells [.frs (.lst 2 ((((foldV x2.1 x2.2).1).rows).length) (fun i0 j0 => ([.str (((((foldV x2.1 x2.2).1).rows).getD i0 (default : GRow)).name), .lst 2 ((((((foldV x2.1 x2.2).1).rows).getD i0 (default : GRow)).samples).length) (fun i1 j1 => ([.int .i64 (((((((foldV x2.1 x2.2).1).rows).getD i0 (default : GRow)).samples).getD i1 (default : GSample)).at_), .int .i64 (((((((foldV x2.1 x2.2).1).rows).getD i0 (default : GRow)).samples).getD i1 (default : GSample)).value)] : List AV).getD j1 (.con undef))] : List AV).getD j0 (.con undef))), .int .i64 (((foldV x2.1 x2.2).1).offset)]), (2, .cells [.frs (.lst 2 ((((foldV x2.1 x2.2).1).rows).length) (fun i0 j0 => ([.str (((((foldV x2.1 x2.2).1).rows).getD i0 (default : GRow)).name), .lst 2 ((((((foldV x2.1 x2.2).1).rows).getD i0 (default : GRow)).samples).length) (fun i1 j1 => ([.int .i64 (((((((foldV x2.1 x2.2).1).rows).getD i0 (default : GRow)).samples).getD i1 (default : GSample)).at_), .int .i64 (((((((foldV x2.1 x2.2).1).rows).getD i0 (default : GRow)).samples).getD i1 (default : GSample)).value)] : List AV).getD j1 (.con undef))] : List AV).getD j0 (.con undef))), .int .i64 (((foldV x2.1 x2.2).1).offset)]), (3, .cells [.frs (.lst 2 (((foldH x2.1 x2.2 (kOf x1 x2.2.length)).rows).length) (fun i0 j0 => ([.str ((((foldH x2.1 x2.2 (kOf x1 x2.2.length)).rows).getD i0 (default : GRow)).name), .lst 2 (((((foldH x2.1 x2.2 (kOf x1 x2.2.length)).rows).getD i0 (default : GRow)).samples).length) (fun i1 j1 => ([.int .i64 ((((((foldH x2.1 x2.2 (kOf x1 x2.2.length)).rows).getD i0 (default : GRow)).samples).getD i1 (default : GSample)).at_), .int .i64 ((((((foldH x2.1 x2.2 (kOf x1 x2.2.length)).rows).getD i0 (default : GRow)).samples).getD i1 (default : GSample)).value)] : List AV).getD j1 (.con undef))] : List AV).getD j0 (.con undef))), .int .i64 ((foldH x2.1 x2.2 (kOf x1 x2.2.length)).offset)]), (4, .cells [.frs (.lst 2 ((((foldV x2.1 x2.2).1).rows).length) (fun i0 j0 => ([.str (((((foldV x2.1 x2.2).1).rows).getD i0 (default : GRow)).name), .lst 2 ((((((foldV x2.1 x2.2).1).rows).getD i0 (default : GRow)).samples).length) (fun i1 j1 => ([.int .i64 (((((((foldV x2.1 x2.2).1).rows).getD i0 (default : GRow)).samples).getD i1 (default : GSample)).at_), .int .i64 (((((((foldV x2.1 x2.2).1).rows).getD i0 (default : GRow)).samples).getD i1 (default : GSample)).value)] : List AV).getD j1 (.con undef))] : List AV).getD j0 (.con undef))), .int .i64 (((foldV x2.1 x2.2).1).offset)])]) ?_ ?_
        · exact HeapLe.one rfl (HeapLe.one rfl (HeapLe.one rfl (HeapLe.one rfl (HeapLe.one rfl trivial))))
        refine AW.seq ?_
        refine AW.seq ?_
        refine AW.region ?_
        refine ARun.pure (PureOp.move rfl (.tmp rfl)) rfl rfl (Nat.le_of_ble_eq_true rfl) ?_
        refine ARun.pure (PureOp.not rfl (.tmp rfl)) rfl rfl (Nat.le_of_ble_eq_true rfl) ?_
        refine ARun.pure (PureOp.move rfl (.tmp rfl)) rfl rfl (Nat.le_of_ble_eq_true rfl) ?_
        refine ARun.gpure (want := false) (.tf rfl) (fun hg25 => PureOp.move rfl (.tmp rfl)) rfl rfl (Nat.le_of_ble_eq_true rfl) rfl (Nat.le_of_ble_eq_true rfl) ?_
        refine ARun.gpure (want := false) (.tf rfl) (fun hg26 => PureOp.not rfl (.gtmp rfl hg26)) rfl rfl (Nat.le_of_ble_eq_true rfl) rfl (Nat.le_of_ble_eq_true rfl) ?_
        refine ARun.pure (PureOp.pick rfl (.tmp rfl) (fun _ => .bool) (fun hp28 => .gtmp rfl (not_of hp28))) rfl rfl (Nat.le_of_ble_eq_true rfl) ?_
        refine ARun.pure (PureOp.move rfl (.tmp rfl)) rfl rfl (Nat.le_of_ble_eq_true rfl) ?_
        refine ARun.gpure (want := false) (.tf rfl) (fun hg29 => PureOp.loadPtrAgg rfl (.tmp rfl) vlf8_ag_29_2 rfl rfl (Nat.le_of_ble_eq_true rfl) (Nat.le_of_ble_eq_true rfl)) rfl rfl (Nat.le_of_ble_eq_true rfl) rfl (Nat.le_of_ble_eq_true rfl) ?_
        refine ARun.gpure (want := false) (.tf rfl) (fun hg30 => PureOp.loadPtrAgg rfl (.tmp rfl) vlf8_ag_29_2 rfl rfl (Nat.le_of_ble_eq_true rfl) (Nat.le_of_ble_eq_true rfl)) rfl rfl (Nat.le_of_ble_eq_true rfl) rfl (Nat.le_of_ble_eq_true rfl) ?_
        refine ARun.gpure (want := false) (.tf rfl) (fun hg31 => PureOp.call rfl (v_sameHeads ((foldV x2.1 x2.2).1)) ⟨⟨_, (.gtmp rfl hg31), ⟨.frs, .int, trivial⟩⟩, ⟨_, (.gtmp rfl hg31), ⟨.frs, .int, trivial⟩⟩, trivial⟩ vlf8_ca_37 trivial) rfl rfl (Nat.le_of_ble_eq_true rfl) rfl (Nat.le_of_ble_eq_true rfl) ?_
        refine ARun.gpure (want := false) (.tf rfl) (fun hg32 => PureOp.not rfl (.gtmp rfl hg32)) rfl rfl (Nat.le_of_ble_eq_true rfl) rfl (Nat.le_of_ble_eq_true rfl) ?_
        refine ARun.pure (PureOp.pick rfl (.tmp rfl) (fun _ => .bool) (fun hp34 => .gtmp rfl (not_of hp34))) rfl rfl (Nat.le_of_ble_eq_true rfl) ?_
        refine ARun.pure (PureOp.move rfl (.tmp rfl)) rfl rfl (Nat.le_of_ble_eq_true rfl) ?_
        refine ARun.sure (want := false) (c := !(cond (cond (!true) true (!true)) true (!true))) (.tf rfl) rfl rfl rfl (Nat.le_of_ble_eq_true rfl) ?_
        refine ARun.slice0 (id := 5) (z := (.int .i64 0)) (sz := 1) (by_ := 8) rfl (by kernel_rfl) (fun _ _ => .con undef) (fun _ _ => rfl) ⟨rfl, (by repeat first | exact trivial | refine ⟨by decide, by first | rfl | exact trivial | (intro i j; first | rfl | exact getD_no rfl | (dsimp only; split <;> first | rfl | exact getD_no rfl) | exact scl_no (by apply_assumption) _), ?_⟩)⟩ rfl rfl (Nat.le_of_ble_eq_true rfl) ?_
        refine ARun.sure (want := false) (c := !(cond (cond (!true) true (!true)) true (!true))) (.tf rfl) rfl rfl rfl (Nat.le_of_ble_eq_true rfl) ?_
        refine ARun.pure (PureOp.move rfl (.tmp rfl)) rfl rfl (Nat.le_of_ble_eq_true rfl) ?_
        refine ARun.sure (want := false) (c := !(cond (cond (!true) true (!true)) true (!true))) (.tf rfl) rfl rfl rfl (Nat.le_of_ble_eq_true rfl) ?_
        refine ARun.append (id := 6) (sz := 1) (n := 0) (m := (codesL x2.1 x2.2 (kOf x1 x2.2.length)).length) (by_ := 8) (z := (.int .i64 0)) (f := fun _ _ => .con undef) (g := fun i0 _ => .int .i64 ((codesL x2.1 x2.2 (kOf x1 x2.2.length)).getD i0 0)) (h := fun ia ja => if ia < 0 then (fun _ _ => .con undef : Nat → Nat → AV) ia ja else (fun i0 _ => .int .i64 ((codesL x2.1 x2.2 (kOf x1 x2.2.length)).getD i0 0) : Nat → Nat → AV) (ia - 0) ja) rfl (by kernel_rfl) rfl vlf8_sl_52 (.own (.tmp rfl) rfl rfl rfl (Nat.le_refl _) (fun _ _ _ _ => rfl)) (.lst (.frs (.tmp rfl))) (by decide) (fun i j hi hj => match j, hj with | 0, _ => rfl | _ + 1, h => absurd h (by omega)) (fun _ _ _ _ => rfl) (by omega) (by omega) ⟨rfl, (by repeat first | exact trivial | refine ⟨by decide, by first | rfl | exact trivial | (intro i j; first | rfl | exact getD_no rfl | (dsimp only; split <;> first | rfl | exact getD_no rfl) | exact scl_no (by apply_assumption) _), ?_⟩)⟩ (fun i j => by dsimp only; (repeat' split) <;> first | rfl | exact getD_no rfl) rfl rfl (Nat.le_of_ble_eq_true rfl) ?_
        refine ARun.sure (want := false) (c := !(cond (cond (!true) true (!true)) true (!true))) (.tf rfl) rfl rfl rfl (Nat.le_of_ble_eq_true rfl) ?_
        refine ARun.pure (PureOp.move rfl (.tmp rfl)) rfl rfl (Nat.le_of_ble_eq_true rfl) ?_
        refine ARun.sure (want := false) (c := !(cond (cond (!true) true (!true)) true (!true))) (.tf rfl) rfl rfl rfl (Nat.le_of_ble_eq_true rfl) ?_
        refine ARun.append (id := 7) (sz := 1) (n := (0 + (codesL x2.1 x2.2 (kOf x1 x2.2.length)).length)) (m := (codesL (foldH x2.1 x2.2 (kOf x1 x2.2.length)) (x2.2.drop (kOf x1 x2.2.length)) (x2.2.length - (kOf x1 x2.2.length))).length) (by_ := 8) (z := (.int .i64 0)) (f := fun ia ja => if ia < 0 then (fun _ _ => .con undef : Nat → Nat → AV) ia ja else (fun i0 _ => .int .i64 ((codesL x2.1 x2.2 (kOf x1 x2.2.length)).getD i0 0) : Nat → Nat → AV) (ia - 0) ja) (g := fun i0 _ => .int .i64 ((codesL (foldH x2.1 x2.2 (kOf x1 x2.2.length)) (x2.2.drop (kOf x1 x2.2.length)) (x2.2.length - (kOf x1 x2.2.length))).getD i0 0)) (h := fun ia ja => if ia < (0 + (codesL x2.1 x2.2 (kOf x1 x2.2.length)).length) then (fun ia ja => if ia < 0 then (fun _ _ => .con undef : Nat → Nat → AV) ia ja else (fun i0 _ => .int .i64 ((codesL x2.1 x2.2 (kOf x1 x2.2.length)).getD i0 0) : Nat → Nat → AV) (ia - 0) ja : Nat → Nat → AV) ia ja else (fun i0 _ => .int .i64 ((codesL (foldH x2.1 x2.2 (kOf x1 x2.2.length)) (x2.2.drop (kOf x1 x2.2.length)) (x2.2.length - (kOf x1 x2.2.length))).getD i0 0) : Nat → Nat → AV) (ia - (0 + (codesL x2.1 x2.2 (kOf x1 x2.2.length)).length)) ja) rfl (by kernel_rfl) rfl vlf8_sl_52 (.own (.tmp rfl) rfl rfl rfl (Nat.le_refl _) (fun _ _ _ _ => rfl)) (.lst (.frs (.tmp rfl))) (by decide) (fun i j hi hj => match j, hj with | 0, _ => rfl | _ + 1, h => absurd h (by omega)) (fun _ _ _ _ => rfl) (by omega) (by omega) ⟨rfl, (by repeat first | exact trivial | refine ⟨by decide, by first | rfl | exact trivial | (intro i j; first | rfl | exact getD_no rfl | (dsimp only; split <;> first | rfl | exact getD_no rfl) | exact scl_no (by apply_assumption) _), ?_⟩)⟩ (fun i j => by dsimp only; (repeat' split) <;> first | rfl | exact getD_no rfl) rfl rfl (Nat.le_of_ble_eq_true rfl) ?_
        refine ARun.sure (want := false) (c := !(cond (cond (!true) true (!true)) true (!true))) (.tf rfl) rfl rfl rfl (Nat.le_of_ble_eq_true rfl) ?_
        refine ARun.pure (PureOp.move rfl (.tmp rfl)) rfl rfl (Nat.le_of_ble_eq_true rfl) ?_
        refine ARun.sure (want := false) (c := !(cond (cond (!true) true (!true)) true (!true))) (.tf rfl) rfl rfl rfl (Nat.le_of_ble_eq_true rfl) ?_
        refine ARun.pure (PureOp.call rfl (v_sameInts ((foldV x2.1 x2.2).2.1) ((0 + (codesL x2.1 x2.2 (kOf x1 x2.2.length)).length) + (codesL (foldH x2.1 x2.2 (kOf x1 x2.2.length)) (x2.2.drop (kOf x1 x2.2.length)) (x2.2.length - (kOf x1 x2.2.length))).length) (by omega)) ⟨⟨_, (.tmp rfl), (.own rfl rfl (Nat.le_refl _) (fun i j hi hj => (match j, hj with | 0, _ => vw_codes (hsp i (by omega)) _ | _ + 1, h => absurd h (by omega))))⟩, ⟨_, (.tmp rfl), .frs⟩, trivial⟩ vlf8_ca_38 trivial) rfl rfl (Nat.le_of_ble_eq_true rfl) ?_
        refine ARun.sure (want := false) (c := !(cond (cond (!true) true (!true)) true (!true))) (.tf rfl) rfl rfl rfl (Nat.le_of_ble_eq_true rfl) ?_
        refine ARun.pure (PureOp.not rfl (.tmp rfl)) rfl rfl (Nat.le_of_ble_eq_true rfl) ?_
        refine ARun.pure (PureOp.pick rfl (.tmp rfl) (fun _ => .bool) (fun _ => .tmp rfl)) rfl rfl (Nat.le_of_ble_eq_true rfl) ?_
        refine ARun.pure (PureOp.move rfl (.tmp rfl)) rfl rfl (Nat.le_of_ble_eq_true rfl) ?_
        refine ARun.gpure (want := false) (.tf rfl) (fun hg37 => PureOp.loadPtrAgg rfl (.tmp rfl) vlf8_ag_29_2 rfl rfl (Nat.le_of_ble_eq_true rfl) (Nat.le_of_ble_eq_true rfl)) rfl rfl (Nat.le_of_ble_eq_true rfl) rfl (Nat.le_of_ble_eq_true rfl) ?_
        refine ARun.gpure (want := false) (.tf rfl) (fun hg38 => PureOp.call rfl (v_implGoodHead ((foldV x2.1 x2.2).1)) ⟨⟨_, (.gtmp rfl hg38), ⟨.frs, .int, trivial⟩⟩, trivial⟩ vlf8_ca_12 trivial) rfl rfl (Nat.le_of_ble_eq_true rfl) rfl (Nat.le_of_ble_eq_true rfl) ?_
        refine ARun.gpure (want := false) (.tf rfl) (fun hg39 => PureOp.not rfl (.gtmp rfl hg39)) rfl rfl (Nat.le_of_ble_eq_true rfl) rfl (Nat.le_of_ble_eq_true rfl) ?_
        refine ARun.pure (PureOp.pick rfl (.tmp rfl) (fun _ => .bool) (fun hp41 => .gtmp rfl (not_of hp41))) rfl rfl (Nat.le_of_ble_eq_true rfl) ?_
        refine ARun.pure (PureOp.move rfl (.tmp rfl)) rfl rfl (Nat.le_of_ble_eq_true rfl) ?_
        refine ARun.gpure (want := false) (.tf rfl) (fun hg42 => PureOp.fieldPtr rfl (.tmp rfl) vlf8_fi_29_1_1) rfl rfl (Nat.le_of_ble_eq_true rfl) rfl (Nat.le_of_ble_eq_true rfl) ?_
        refine ARun.gpure (want := false) (.tf rfl) (fun hg43 => PureOp.loadPtr rfl (.gtmp rfl hg43) vlf8_pl_3 rfl rfl (Nat.le_of_ble_eq_true rfl) (Nat.le_of_ble_eq_true rfl)) rfl rfl (Nat.le_of_ble_eq_true rfl) rfl (Nat.le_of_ble_eq_true rfl) ?_
        refine ARun.gpure (want := false) (.tf rfl) (fun hg44 => PureOp.fieldPtr rfl (.tmp rfl) vlf8_fi_29_1_1) rfl rfl (Nat.le_of_ble_eq_true rfl) rfl (Nat.le_of_ble_eq_true rfl) ?_
        refine ARun.gpure (want := false) (.tf rfl) (fun hg45 => PureOp.loadPtr rfl (.gtmp rfl hg45) vlf8_pl_3 rfl rfl (Nat.le_of_ble_eq_true rfl) (Nat.le_of_ble_eq_true rfl)) rfl rfl (Nat.le_of_ble_eq_true rfl) rfl (Nat.le_of_ble_eq_true rfl) ?_
        refine ARun.gpure (want := false) (.tf rfl) (fun hg46 => PureOp.move rfl (.tmp rfl)) rfl rfl (Nat.le_of_ble_eq_true rfl) rfl (Nat.le_of_ble_eq_true rfl) ?_
        refine ARun.gpure (want := false) (.tf rfl) (fun hg47 => PureOp.lenLst rfl (.frs (.gtmp rfl hg47)) vlf8_sl_55) rfl rfl (Nat.le_of_ble_eq_true rfl) rfl (Nat.le_of_ble_eq_true rfl) ?_
        refine ARun.gpure (want := false) (.tf rfl) (fun hg48 => PureOp.add (c := x2.1.offset + (x2.2.length : Int)) rfl (.gtmp rfl hg48) (.gtmp rfl hg48) (wrap_id (by omega) (by omega))) rfl rfl (Nat.le_of_ble_eq_true rfl) rfl (Nat.le_of_ble_eq_true rfl) ?_
        refine ARun.gpure (want := false) (.tf rfl) (fun hg49 => PureOp.intOp rfl (.gtmp rfl hg49) (.gtmp rfl hg49) rfl) rfl rfl (Nat.le_of_ble_eq_true rfl) rfl (Nat.le_of_ble_eq_true rfl) ?_
        refine ARun.pure (PureOp.pick rfl (.tmp rfl) (fun _ => .bool) (fun hp51 => .gtmp rfl (not_of hp51))) rfl rfl (Nat.le_of_ble_eq_true rfl) ?_
        refine ARun.nil ?_
        refine AW.cond (.tmp rfl) (fun hb52 => ?_) (fun hb52 => ?_)
        · have _u := True.intro
          exact absurd (show (cond (cond (cond (cond (cond (!true) true (!true)) true (!true)) true (!true)) true (!(goodHead ((foldV x2.1 x2.2).1)))) true (!decide (((foldV x2.1 x2.2).1).offset = x2.1.offset + (x2.2.length : Int)))) = false by rw [hgf, decide_eq_true hff]; rfl) (by rw [hb52]; simp)
          --end
        · have _u := True.intro
          have _h := hb52
          refine AW.skip ?_
          refine AW.seq ?_
          refine AW.region ?_
          refine ARun.pure (PureOp.assign rfl .int) rfl rfl (Nat.le_of_ble_eq_true rfl) ?_
          refine ARun.nil ?_
          refine AW.seq ?_
          refine AW.seq ?_
          refine AW.region ?_
          refine ARun.pure (PureOp.move rfl (.tmp rfl)) rfl rfl (Nat.le_of_ble_eq_true rfl) ?_
          refine ARun.pure (PureOp.lenLst rfl (.frs (.tmp rfl)) vlf8_sl_52) rfl rfl (Nat.le_of_ble_eq_true rfl) ?_
          refine ARun.pure (PureOp.move rfl .int) rfl rfl (Nat.le_of_ble_eq_true rfl) ?_
          refine ARun.nil ?_
          refine AW.block ?_
          refine AW.loop (ι := Nat) (fun k1 => ⟨[(1, .one (.lst 1 x1.length (fun i0 _ => .int .u8 (((x1.getD i0 0).toNat : Nat) : Int)))), (5, .one (.ptr 0 2 0 0)), (7, .one (.ptr 1 2 0 0)), (20, .one (.int .i64 (((newN (foldV x2.1 x2.2).2.1 k1) : Nat) : Int))), (148, .one (.frs (.lst 1 (((foldV x2.1 x2.2).2.1).length) (fun i0 _ => .int .i64 (((foldV x2.1 x2.2).2.1).getD i0 0))))), (149, .one (.int .i64 ((((foldV x2.1 x2.2).2.1).length : Nat) : Int))), (150, .one (.int .i64 (k1 : Int)))], [(0, .cells [.frs (.lst 2 x2.1.rows.length (fun i0 j0 => ([.str ((x2.1.rows.getD i0 (default : GRow)).name), .lst 2 (((x2.1.rows.getD i0 (default : GRow)).samples).length) (fun i1 j1 => ([.int .i64 ((((x2.1.rows.getD i0 (default : GRow)).samples).getD i1 (default : GSample)).at_), .int .i64 ((((x2.1.rows.getD i0 (default : GRow)).samples).getD i1 (default : GSample)).value)] : List AV).getD j1 (.con undef))] : List AV).getD j0 (.con undef))), .int .i64 x2.1.offset]), (1, .cells [.frs (.lst 2 ((((foldV x2.1 x2.2).1).rows).length) (fun i0 j0 => ([.str (((((foldV x2.1 x2.2).1).rows).getD i0 (default : GRow)).name), .lst 2 ((((((foldV x2.1 x2.2).1).rows).getD i0 (default : GRow)).samples).length) (fun i1 j1 => ([.int .i64 (((((((foldV x2.1 x2.2).1).rows).getD i0 (default : GRow)).samples).getD i1 (default : GSample)).at_), .int .i64 (((((((foldV x2.1 x2.2).1).rows).getD i0 (default : GRow)).samples).getD i1 (default : GSample)).value)] : List AV).getD j1 (.con undef))] : List AV).getD j0 (.con undef))), .int .i64 (((foldV x2.1 x2.2).1).offset)])]⟩) (fun k1 => k1 ≤ (foldV x2.1 x2.2).2.1.length) (fun k1 => (foldV x2.1 x2.2).2.1.length - k1) 0 (Nat.zero_le _) ⟨⟨⟨_, rfl, rfl⟩, ⟨_, rfl, rfl⟩, ⟨_, rfl, rfl⟩, ⟨_, rfl, rfl⟩, ⟨_, rfl, rfl⟩, ⟨_, rfl, rfl⟩, ⟨_, rfl, rfl⟩, trivial⟩, HeapLe.one rfl (HeapLe.one rfl trivial)⟩ ?_
          intro k1 hk1
          have hnl := newN_le (foldV x2.1 x2.2).2.1 k1
          refine AW.seq ?_
          refine AW.region ?_
          refine ARun.pure (PureOp.intOp rfl (.tmp rfl) (.tmp rfl) rfl) rfl rfl (Nat.le_of_ble_eq_true rfl) ?_
          refine ARun.nil ?_
          refine AW.seq ?_
          refine AW.cond (.tmp rfl) (fun hb53 => ?_) (fun hb53 => ?_)
          · have _u := True.intro
            replace hb53 := of_decide_eq_true hb53
            have hkl1 : k1 < (foldV x2.1 x2.2).2.1.length := by omega
            refine AW.skip ?_
            refine AW.seq ?_
            refine AW.block ?_
            refine AW.seq ?_
            refine AW.region ?_
            refine ARun.pure (PureOp.indexLst (i := k1) rfl (.frs (.tmp rfl)) vlf8_el_52_1 (.tmp rfl) rfl (by omega)) rfl rfl (Nat.le_of_ble_eq_true rfl) ?_
            refine ARun.pure (PureOp.loadRef rfl (.tmp rfl) vlf8_pl_3 (Nat.le_of_ble_eq_true rfl)) rfl rfl (Nat.le_of_ble_eq_true rfl) ?_
            refine ARun.pure (PureOp.assign rfl (.tmp rfl)) rfl rfl (Nat.le_of_ble_eq_true rfl) ?_
            refine ARun.nil ?_
            refine AW.seq ?_
            refine AW.region ?_
            refine ARun.pure (PureOp.move rfl (.tmp rfl)) rfl rfl (Nat.le_of_ble_eq_true rfl) ?_
            refine ARun.pure (PureOp.intOp rfl (.tmp rfl) .int rfl) rfl rfl (Nat.le_of_ble_eq_true rfl) ?_
            refine ARun.nil ?_
            refine AW.cond (.tmp rfl) (fun hb54 => ?_) (fun hb54 => ?_)
            · have _u := True.intro
              replace hb54 := of_decide_eq_true hb54
              have hnw : newN (foldV x2.1 x2.2).2.1 k1 + 1 = newN (foldV x2.1 x2.2).2.1 (k1 + 1) := by rw [newN_succ hkl1, if_pos hb54]
              refine AW.region ?_
              refine ARun.pure (PureOp.move rfl (.tmp rfl)) rfl rfl (Nat.le_of_ble_eq_true rfl) ?_
              refine ARun.pure (PureOp.add (c := (((newN (foldV x2.1 x2.2).2.1 k1) + 1 : Nat) : Int)) rfl (.tmp rfl) .int (by rw [wrap_id (by omega) (by omega)]; omega)) rfl rfl (Nat.le_of_ble_eq_true rfl) ?_
              refine ARun.pure (PureOp.assign rfl (.tmp rfl)) rfl rfl (Nat.le_of_ble_eq_true rfl) ?_
              refine ARun.nil ?_
              refine AW.region ?_
              refine ARun.pure (PureOp.add (c := ((k1 + 1 : Nat) : Int)) rfl (.tmp rfl) .int (by rw [wrap_id (by omega) (by omega)]; omega)) rfl rfl (Nat.le_of_ble_eq_true rfl) ?_
              refine ARun.pure (PureOp.move rfl (.tmp rfl)) rfl rfl (Nat.le_of_ble_eq_true rfl) ?_
              refine ARun.nil ?_
              exact ⟨k1 + 1, by omega, by dsimp only; omega, ⟨⟨⟨_, rfl, rfl⟩, ⟨_, rfl, rfl⟩, ⟨_, rfl, rfl⟩, ⟨_, rfl, congrArg (fun z : Nat => SV.one (.int .i64 (z : Int))) hnw⟩, ⟨_, rfl, rfl⟩, ⟨_, rfl, rfl⟩, ⟨_, rfl, rfl⟩, trivial⟩, HeapLe.one rfl (HeapLe.one rfl trivial)⟩⟩
            · have _u := True.intro
              replace hb54 := of_decide_eq_false hb54
              have hnw : newN (foldV x2.1 x2.2).2.1 k1 = newN (foldV x2.1 x2.2).2.1 (k1 + 1) := by rw [newN_succ hkl1, if_neg hb54]; rfl
              refine AW.skip ?_
              refine AW.region ?_
              refine ARun.pure (PureOp.add (c := ((k1 + 1 : Nat) : Int)) rfl (.tmp rfl) .int (by rw [wrap_id (by omega) (by omega)]; omega)) rfl rfl (Nat.le_of_ble_eq_true rfl) ?_
              refine ARun.pure (PureOp.move rfl (.tmp rfl)) rfl rfl (Nat.le_of_ble_eq_true rfl) ?_
              refine ARun.nil ?_
              exact ⟨k1 + 1, by omega, by dsimp only; omega, ⟨⟨⟨_, rfl, rfl⟩, ⟨_, rfl, rfl⟩, ⟨_, rfl, rfl⟩, ⟨_, rfl, congrArg (fun z : Nat => SV.one (.int .i64 (z : Int))) hnw⟩, ⟨_, rfl, rfl⟩, ⟨_, rfl, rfl⟩, ⟨_, rfl, rfl⟩, trivial⟩, HeapLe.one rfl (HeapLe.one rfl trivial)⟩⟩
          · have _u := True.intro
            replace hb53 := of_decide_eq_false hb53
            have hke1 : k1 = (foldV x2.1 x2.2).2.1.length := by omega
            subst hke1
            refine AW.exit ?_
            refine AW.seq ?_
            refine AW.region ?_
            refine ARun.pure (PureOp.assign rfl .int) rfl rfl (Nat.le_of_ble_eq_true rfl) ?_
            refine ARun.nil ?_
            refine AW.seq ?_
            refine AW.seq ?_
            refine AW.region ?_
            refine ARun.pure (PureOp.fieldPtr rfl (.tmp rfl) vlf8_fi_29_0_0) rfl rfl (Nat.le_of_ble_eq_true rfl) ?_
            refine ARun.pure (PureOp.loadPtr rfl (.tmp rfl) vlf8_pl_27 rfl rfl (Nat.le_of_ble_eq_true rfl) (Nat.le_of_ble_eq_true rfl)) rfl rfl (Nat.le_of_ble_eq_true rfl) ?_
            refine ARun.pure (PureOp.lenLst rfl (.frs (.tmp rfl)) vlf8_sl_27) rfl rfl (Nat.le_of_ble_eq_true rfl) ?_
            refine ARun.pure (PureOp.move rfl .int) rfl rfl (Nat.le_of_ble_eq_true rfl) ?_
            refine ARun.nil ?_
            refine AW.block ?_
            refine AW.loop (ι := Nat) (fun k2 => ⟨[(1, .one (.lst 1 x1.length (fun i0 _ => .int .u8 (((x1.getD i0 0).toNat : Nat) : Int)))), (5, .one (.ptr 0 2 0 0)), (20, .one (.int .i64 (((newN (foldV x2.1 x2.2).2.1 (foldV x2.1 x2.2).2.1.length) : Nat) : Int))), (23, .one (.int .i64 (((smpN (foldV x2.1 x2.2).1.rows k2) : Nat) : Int))), (160, .one (.frs (.lst 2 ((((foldV x2.1 x2.2).1).rows).length) (fun i0 j0 => ([.str (((((foldV x2.1 x2.2).1).rows).getD i0 (default : GRow)).name), .lst 2 ((((((foldV x2.1 x2.2).1).rows).getD i0 (default : GRow)).samples).length) (fun i1 j1 => ([.int .i64 (((((((foldV x2.1 x2.2).1).rows).getD i0 (default : GRow)).samples).getD i1 (default : GSample)).at_), .int .i64 (((((((foldV x2.1 x2.2).1).rows).getD i0 (default : GRow)).samples).getD i1 (default : GSample)).value)] : List AV).getD j1 (.con undef))] : List AV).getD j0 (.con undef))))), (161, .one (.int .i64 (((((foldV x2.1 x2.2).1).rows).length : Nat) : Int))), (162, .one (.int .i64 (k2 : Int)))], [(0, .cells [.frs (.lst 2 x2.1.rows.length (fun i0 j0 => ([.str ((x2.1.rows.getD i0 (default : GRow)).name), .lst 2 (((x2.1.rows.getD i0 (default : GRow)).samples).length) (fun i1 j1 => ([.int .i64 ((((x2.1.rows.getD i0 (default : GRow)).samples).getD i1 (default : GSample)).at_), .int .i64 ((((x2.1.rows.getD i0 (default : GRow)).samples).getD i1 (default : GSample)).value)] : List AV).getD j1 (.con undef))] : List AV).getD j0 (.con undef))), .int .i64 x2.1.offset])]⟩) (fun k2 => k2 ≤ (foldV x2.1 x2.2).1.rows.length) (fun k2 => (foldV x2.1 x2.2).1.rows.length - k2) 0 (Nat.zero_le _) ⟨⟨⟨_, rfl, rfl⟩, ⟨_, rfl, rfl⟩, ⟨_, rfl, rfl⟩, ⟨_, rfl, rfl⟩, ⟨_, rfl, rfl⟩, ⟨_, rfl, rfl⟩, ⟨_, rfl, rfl⟩, trivial⟩, HeapLe.one rfl trivial⟩ ?_
            intro k2 hk2
            have hsb := smpN_le hgf k2
            refine AW.seq ?_
            refine AW.region ?_
            refine ARun.pure (PureOp.intOp rfl (.tmp rfl) (.tmp rfl) rfl) rfl rfl (Nat.le_of_ble_eq_true rfl) ?_
            refine ARun.nil ?_
            refine AW.seq ?_
            refine AW.cond (.tmp rfl) (fun hb55 => ?_) (fun hb55 => ?_)
            · have _u := True.intro
              replace hb55 := of_decide_eq_true hb55
              have hkl2 : k2 < (foldV x2.1 x2.2).1.rows.length := by omega
              have hs40 := smp_40 (good_at hgf hkl2).2.2
              refine AW.skip ?_
              refine AW.seq ?_
              refine AW.block ?_
              refine AW.seq ?_
              refine AW.region ?_
              refine ARun.pure (PureOp.indexLst (i := k2) rfl (.frs (.tmp rfl)) vlf8_el_27_2 (.tmp rfl) rfl (by omega)) rfl rfl (Nat.le_of_ble_eq_true rfl) ?_
              refine ARun.pure (PureOp.loadRefAgg rfl (.tmp rfl) vlf8_ag_67_2 (Nat.le_of_ble_eq_true rfl)) rfl rfl (Nat.le_of_ble_eq_true rfl) ?_
              refine ARun.alloc (id := 8) (l := [.str ByteArray.empty, .lst 2 0 (fun _ _ => .con undef)]) (z := (.agg #[.string ByteArray.empty, .slice none 0 0])) rfl (by kernel_rfl) (fun _ _ _ => ⟨_, _, rfl, ⟨rfl, by decide⟩, ⟨_, _, rfl, ⟨none, 0, rfl, Nat.le_refl _, by decide, fun _ => rfl, fun i hi => absurd hi (by omega)⟩, rfl⟩⟩) ⟨rfl, (by repeat first | exact trivial | refine ⟨by decide, by first | rfl | exact trivial | (intro i j; first | rfl | exact getD_no rfl | (dsimp only; split <;> first | rfl | exact getD_no rfl) | exact scl_no (by apply_assumption) _), ?_⟩)⟩ rfl rfl rfl (Nat.le_of_ble_eq_true rfl) ?_
              refine ARun.store rfl (.tmp rfl) (.tmp rfl) (SV.cells_of (by exact ⟨trivial, trivial, trivial⟩)) rfl (Nat.le_of_ble_eq_true rfl) vlf8_sz_67_2 rfl rfl ?_
              refine ARun.nil ?_
              refine AW.region ?_
              refine ARun.pure (PureOp.move rfl (.tmp rfl)) rfl rfl (Nat.le_of_ble_eq_true rfl) ?_
              refine ARun.pure (PureOp.fieldPtr rfl (.tmp rfl) vlf8_fi_67_1_1) rfl rfl (Nat.le_of_ble_eq_true rfl) ?_
              refine ARun.pure (PureOp.loadPtr rfl (.tmp rfl) vlf8_pl_33 rfl rfl (Nat.le_of_ble_eq_true rfl) (Nat.le_of_ble_eq_true rfl)) rfl rfl (Nat.le_of_ble_eq_true rfl) ?_
              refine ARun.pure (PureOp.lenLst rfl (.tmp rfl) vlf8_sl_33) rfl rfl (Nat.le_of_ble_eq_true rfl) ?_
              refine ARun.pure (PureOp.add (c := (((smpN (foldV x2.1 x2.2).1.rows k2) + (((((foldV x2.1 x2.2).1).rows).getD k2 (default : GRow)).samples).length : Nat) : Int)) rfl (.tmp rfl) (.tmp rfl) (by rw [wrap_id (by omega) (by omega)]; omega)) rfl rfl (Nat.le_of_ble_eq_true rfl) ?_
              refine ARun.pure (PureOp.assign rfl (.tmp rfl)) rfl rfl (Nat.le_of_ble_eq_true rfl) ?_
              refine ARun.nil ?_
              refine AW.region ?_
              refine ARun.pure (PureOp.add (c := ((k2 + 1 : Nat) : Int)) rfl (.tmp rfl) .int (by rw [wrap_id (by omega) (by omega)]; omega)) rfl rfl (Nat.le_of_ble_eq_true rfl) ?_
              refine ARun.pure (PureOp.move rfl (.tmp rfl)) rfl rfl (Nat.le_of_ble_eq_true rfl) ?_
              refine ARun.nil ?_
              exact ⟨k2 + 1, by omega, by dsimp only; omega, ⟨⟨⟨_, rfl, rfl⟩, ⟨_, rfl, rfl⟩, ⟨_, rfl, rfl⟩, ⟨_, rfl, congrArg (fun z : Nat => SV.one (.int .i64 (z : Int))) (smpN_succ hkl2).symm⟩, ⟨_, rfl, rfl⟩, ⟨_, rfl, rfl⟩, ⟨_, rfl, rfl⟩, trivial⟩, HeapLe.one rfl trivial⟩⟩
            · have _u := True.intro
              replace hb55 := of_decide_eq_false hb55
              have hke2 : k2 = (foldV x2.1 x2.2).1.rows.length := by omega
              subst hke2
              refine AW.exit ?_
              refine AW.seq ?_
              refine AW.seq ?_
              refine AW.region ?_
              refine ARun.pure (PureOp.fieldPtr rfl (.tmp rfl) vlf8_fi_29_0_0) rfl rfl (Nat.le_of_ble_eq_true rfl) ?_
              refine ARun.pure (PureOp.loadPtr rfl (.tmp rfl) vlf8_pl_27 rfl rfl (Nat.le_of_ble_eq_true rfl) (Nat.le_of_ble_eq_true rfl)) rfl rfl (Nat.le_of_ble_eq_true rfl) ?_
              refine ARun.pure (PureOp.lenLst rfl (.frs (.tmp rfl)) vlf8_sl_27) rfl rfl (Nat.le_of_ble_eq_true rfl) ?_
              refine ARun.pure (PureOp.move rfl .int) rfl rfl (Nat.le_of_ble_eq_true rfl) ?_
              refine ARun.nil ?_
              refine AW.block ?_
              refine AW.loop (ι := Nat) (fun k3 => ⟨[(1, .one (.lst 1 x1.length (fun i0 _ => .int .u8 (((x1.getD i0 0).toNat : Nat) : Int)))), (20, .one (.int .i64 (((newN (foldV x2.1 x2.2).2.1 (foldV x2.1 x2.2).2.1.length) : Nat) : Int))), (23, .one (.int .i64 (((smpN (foldV x2.1 x2.2).1.rows (foldV x2.1 x2.2).1.rows.length : Nat) : Int) - ((smpN x2.1.rows k3 : Nat) : Int)))), (173, .one (.frs (.lst 2 x2.1.rows.length (fun i0 j0 => ([.str ((x2.1.rows.getD i0 (default : GRow)).name), .lst 2 (((x2.1.rows.getD i0 (default : GRow)).samples).length) (fun i1 j1 => ([.int .i64 ((((x2.1.rows.getD i0 (default : GRow)).samples).getD i1 (default : GSample)).at_), .int .i64 ((((x2.1.rows.getD i0 (default : GRow)).samples).getD i1 (default : GSample)).value)] : List AV).getD j1 (.con undef))] : List AV).getD j0 (.con undef))))), (174, .one (.int .i64 (x2.1.rows.length : Int))), (175, .one (.int .i64 (k3 : Int)))], []⟩) (fun k3 => k3 ≤ x2.1.rows.length) (fun k3 => x2.1.rows.length - k3) 0 (Nat.zero_le _) ⟨⟨⟨_, rfl, rfl⟩, ⟨_, rfl, rfl⟩, ⟨_, rfl, congrArg (fun z : Int => SV.one (.int .i64 z)) (by show ((smpN (foldV x2.1 x2.2).1.rows (foldV x2.1 x2.2).1.rows.length : Nat) : Int) = ((smpN (foldV x2.1 x2.2).1.rows (foldV x2.1 x2.2).1.rows.length : Nat) : Int) - ((smpN x2.1.rows 0 : Nat) : Int); simp [smpN])⟩, ⟨_, rfl, rfl⟩, ⟨_, rfl, rfl⟩, ⟨_, rfl, rfl⟩, trivial⟩, trivial⟩ ?_
              intro k3 hk3
              have hsb3 := smpN_le hF.good k3
              refine AW.seq ?_
              refine AW.region ?_
              refine ARun.pure (PureOp.intOp rfl (.tmp rfl) (.tmp rfl) rfl) rfl rfl (Nat.le_of_ble_eq_true rfl) ?_
              refine ARun.nil ?_
              refine AW.seq ?_
              refine AW.cond (.tmp rfl) (fun hb56 => ?_) (fun hb56 => ?_)
              · have _u := True.intro
                replace hb56 := of_decide_eq_true hb56
                have hkl3 : k3 < x2.1.rows.length := by omega
                have hs43 := smp_40 (good_at hF.good hkl3).2.2
                refine AW.skip ?_
                refine AW.seq ?_
                refine AW.block ?_
                refine AW.seq ?_
                refine AW.region ?_
                refine ARun.pure (PureOp.indexLst (i := k3) rfl (.frs (.tmp rfl)) vlf8_el_27_2 (.tmp rfl) rfl (by omega)) rfl rfl (Nat.le_of_ble_eq_true rfl) ?_
                refine ARun.pure (PureOp.loadRefAgg rfl (.tmp rfl) vlf8_ag_67_2 (Nat.le_of_ble_eq_true rfl)) rfl rfl (Nat.le_of_ble_eq_true rfl) ?_
                refine ARun.alloc (id := 9) (l := [.str ByteArray.empty, .lst 2 0 (fun _ _ => .con undef)]) (z := (.agg #[.string ByteArray.empty, .slice none 0 0])) rfl (by kernel_rfl) (fun _ _ _ => ⟨_, _, rfl, ⟨rfl, by decide⟩, ⟨_, _, rfl, ⟨none, 0, rfl, Nat.le_refl _, by decide, fun _ => rfl, fun i hi => absurd hi (by omega)⟩, rfl⟩⟩) ⟨rfl, (by repeat first | exact trivial | refine ⟨by decide, by first | rfl | exact trivial | (intro i j; first | rfl | exact getD_no rfl | (dsimp only; split <;> first | rfl | exact getD_no rfl) | exact scl_no (by apply_assumption) _), ?_⟩)⟩ rfl rfl rfl (Nat.le_of_ble_eq_true rfl) ?_
                refine ARun.store rfl (.tmp rfl) (.tmp rfl) (SV.cells_of (by exact ⟨trivial, trivial, trivial⟩)) rfl (Nat.le_of_ble_eq_true rfl) vlf8_sz_67_2 rfl rfl ?_
                refine ARun.nil ?_
                refine AW.region ?_
                refine ARun.pure (PureOp.move rfl (.tmp rfl)) rfl rfl (Nat.le_of_ble_eq_true rfl) ?_
                refine ARun.pure (PureOp.fieldPtr rfl (.tmp rfl) vlf8_fi_67_1_1) rfl rfl (Nat.le_of_ble_eq_true rfl) ?_
                refine ARun.pure (PureOp.loadPtr rfl (.tmp rfl) vlf8_pl_33 rfl rfl (Nat.le_of_ble_eq_true rfl) (Nat.le_of_ble_eq_true rfl)) rfl rfl (Nat.le_of_ble_eq_true rfl) ?_
                refine ARun.pure (PureOp.lenLst rfl (.tmp rfl) vlf8_sl_33) rfl rfl (Nat.le_of_ble_eq_true rfl) ?_
                refine ARun.pure (PureOp.sub (c := ((smpN (foldV x2.1 x2.2).1.rows (foldV x2.1 x2.2).1.rows.length : Nat) : Int) - ((smpN x2.1.rows k3 : Nat) : Int) - ((((x2.1.rows.getD k3 (default : GRow)).samples).length : Nat) : Int)) rfl (.tmp rfl) (.tmp rfl) (wrap_id (by omega) (by omega))) rfl rfl (Nat.le_of_ble_eq_true rfl) ?_
                refine ARun.pure (PureOp.assign rfl (.tmp rfl)) rfl rfl (Nat.le_of_ble_eq_true rfl) ?_
                refine ARun.nil ?_
                refine AW.region ?_
                refine ARun.pure (PureOp.add (c := ((k3 + 1 : Nat) : Int)) rfl (.tmp rfl) .int (by rw [wrap_id (by omega) (by omega)]; omega)) rfl rfl (Nat.le_of_ble_eq_true rfl) ?_
                refine ARun.pure (PureOp.move rfl (.tmp rfl)) rfl rfl (Nat.le_of_ble_eq_true rfl) ?_
                refine ARun.nil ?_
                exact ⟨k3 + 1, by omega, by dsimp only; omega, ⟨⟨⟨_, rfl, rfl⟩, ⟨_, rfl, rfl⟩, ⟨_, rfl, congrArg (fun z : Int => SV.one (.int .i64 z)) (by rw [smpN_succ hkl3]; omega)⟩, ⟨_, rfl, rfl⟩, ⟨_, rfl, rfl⟩, ⟨_, rfl, rfl⟩, trivial⟩, trivial⟩⟩
              · have _u := True.intro
                replace hb56 := of_decide_eq_false hb56
                have hke3 : k3 = x2.1.rows.length := by omega
                subst hke3
                refine AW.exit ?_
                refine AW.seq ?_
                refine AW.region ?_
                refine ARun.pure (PureOp.move rfl (.tmp rfl)) rfl rfl (Nat.le_of_ble_eq_true rfl) ?_
                refine ARun.pure (PureOp.move rfl (.tmp rfl)) rfl rfl (Nat.le_of_ble_eq_true rfl) ?_
                refine ARun.pure (PureOp.intOp rfl (.tmp rfl) (.tmp rfl) rfl) rfl rfl (Nat.le_of_ble_eq_true rfl) ?_
                refine ARun.nil ?_
                refine AW.cond (.tmp rfl) (fun hb57 => ?_) (fun hb57 => ?_)
                · have _u := True.intro
                  exact absurd (show (!decide (((smpN (foldV x2.1 x2.2).1.rows (foldV x2.1 x2.2).1.rows.length : Nat) : Int) - ((smpN x2.1.rows x2.1.rows.length : Nat) : Int) = (((newN (foldV x2.1 x2.2).2.1 (foldV x2.1 x2.2).2.1.length) : Nat) : Int))) = false by rw [decide_eq_true (by have := foldV_new hF; omega)]; rfl) (by rw [hb57]; simp)
                  --end
                · have _u := True.intro
                  have _h := hb57
                  refine AW.skip ?_
                  refine AW.seq ?_
                  refine AW.region ?_
                  refine ARun.pure (PureOp.move rfl (.tmp rfl)) rfl rfl (Nat.le_of_ble_eq_true rfl) ?_
                  refine ARun.draw rfl (v_DrawTakeSay x1.length (fun i => (x1.getD i 0).toNat) (fun i => UInt8.toNat_lt _)) vlf8_ca_40 ⟨⟨_, (.tmp rfl), .lst⟩, trivial⟩ rfl rfl (Nat.le_of_ble_eq_true rfl) (fun x58 hd59 => ?_)
                  have _h := hd59
                  refine ARun.pure (PureOp.move rfl (.tmp rfl)) rfl rfl (Nat.le_of_ble_eq_true rfl) ?_
                  refine ARun.pure (PureOp.ext2a rfl (.tmp rfl)) rfl rfl (Nat.le_of_ble_eq_true rfl) ?_
                  refine ARun.pure (PureOp.ext2b rfl (.tmp rfl)) rfl rfl (Nat.le_of_ble_eq_true rfl) ?_
                  refine ARun.alloc (id := 10) (l := [.lst 2 0 (fun _ _ => .con undef), .int .i64 0]) (z := (.agg #[.slice none 0 0, .int .i64 0])) rfl (by kernel_rfl) (fun _ _ _ => ⟨_, _, rfl, ⟨none, 0, rfl, Nat.le_refl _, by decide, fun _ => rfl, fun i hi => absurd hi (by omega)⟩, ⟨_, _, rfl, rfl, rfl⟩⟩) ⟨rfl, (by repeat first | exact trivial | refine ⟨by decide, by first | rfl | exact trivial | (intro i j; first | rfl | exact getD_no rfl | (dsimp only; split <;> first | rfl | exact getD_no rfl) | exact scl_no (by apply_assumption) _), ?_⟩)⟩ rfl rfl rfl (Nat.le_of_ble_eq_true rfl) ?_
                  refine ARun.alloc (id := 11) (l := [.str ByteArray.empty, .int .i64 0, .int .i64 0]) (z := (.agg #[.string ByteArray.empty, .int .i64 0, .int .i64 0])) rfl (by kernel_rfl) (fun _ _ _ => ⟨_, _, rfl, ⟨rfl, by decide⟩, ⟨_, _, rfl, rfl, ⟨_, _, rfl, rfl, rfl⟩⟩⟩) ⟨rfl, (by repeat first | exact trivial | refine ⟨by decide, by first | rfl | exact trivial | (intro i j; first | rfl | exact getD_no rfl | (dsimp only; split <;> first | rfl | exact getD_no rfl) | exact scl_no (by apply_assumption) _), ?_⟩)⟩ rfl rfl rfl (Nat.le_of_ble_eq_true rfl) ?_
                  refine ARun.store rfl (.tmp rfl) (.tmp rfl) (SV.cells_of (by exact ⟨trivial, trivial, trivial⟩)) rfl (Nat.le_of_ble_eq_true rfl) vlf8_sz_29_2 rfl rfl ?_
                  refine ARun.store rfl (.tmp rfl) (.tmp rfl) (SV.cells_of (by exact ⟨trivial, trivial, trivial, trivial⟩)) rfl (Nat.le_of_ble_eq_true rfl) vlf8_sz_47_3 rfl rfl ?_
                  refine ARun.nil ?_
                  refine AW.seq ?_
                  refine AW.region ?_
                  refine ARun.pure (PureOp.loadPtrAgg rfl (.tmp rfl) vlf8_ag_29_2 rfl rfl (Nat.le_of_ble_eq_true rfl) (Nat.le_of_ble_eq_true rfl)) rfl rfl (Nat.le_of_ble_eq_true rfl) ?_
                  refine ARun.pure (PureOp.loadPtrAgg rfl (.tmp rfl) vlf8_ag_47_3 rfl rfl (Nat.le_of_ble_eq_true rfl) (Nat.le_of_ble_eq_true rfl)) rfl rfl (Nat.le_of_ble_eq_true rfl) ?_
                  refine ARun.fresh (FreshOp.callS rfl (FnT.toF (v_iTakeSay x58.1 x58.2)) ⟨⟨_, (.tmp rfl), ⟨.frs, .int, trivial⟩⟩, ⟨_, (.tmp rfl), ⟨.str, .int, .int, trivial⟩⟩, trivial⟩ vlf8_ca_26 rfl) rfl rfl (Nat.le_of_ble_eq_true rfl) ?_
                  refine ARun.pure (PureOp.move rfl (.tmp rfl)) rfl rfl (Nat.le_of_ble_eq_true rfl) ?_
                  refine ARun.pure (PureOp.ext3a rfl (.tmp rfl)) rfl rfl (Nat.le_of_ble_eq_true rfl) ?_
                  refine ARun.pure (PureOp.ext3b rfl (.tmp rfl)) rfl rfl (Nat.le_of_ble_eq_true rfl) ?_
                  refine ARun.pure (PureOp.ext3c rfl (.tmp rfl)) rfl rfl (Nat.le_of_ble_eq_true rfl) ?_
                  refine ARun.alloc (id := 12) (l := [.lst 2 0 (fun _ _ => .con undef), .int .i64 0]) (z := (.agg #[.slice none 0 0, .int .i64 0])) rfl (by kernel_rfl) (fun _ _ _ => ⟨_, _, rfl, ⟨none, 0, rfl, Nat.le_refl _, by decide, fun _ => rfl, fun i hi => absurd hi (by omega)⟩, ⟨_, _, rfl, rfl, rfl⟩⟩) ⟨rfl, (by repeat first | exact trivial | refine ⟨by decide, by first | rfl | exact trivial | (intro i j; first | rfl | exact getD_no rfl | (dsimp only; split <;> first | rfl | exact getD_no rfl) | exact scl_no (by apply_assumption) _), ?_⟩)⟩ rfl rfl rfl (Nat.le_of_ble_eq_true rfl) ?_
                  refine ARun.store rfl (.tmp rfl) (.tmp rfl) (SV.cells_of (by exact ⟨trivial, trivial, trivial⟩)) rfl (Nat.le_of_ble_eq_true rfl) vlf8_sz_29_2 rfl rfl ?_
                  refine ARun.pure (PureOp.assign rfl (.tmp rfl)) rfl rfl (Nat.le_of_ble_eq_true rfl) ?_
                  refine ARun.pure (PureOp.assign rfl (.tmp rfl)) rfl rfl (Nat.le_of_ble_eq_true rfl) ?_
                  refine ARun.nil ?_
                  refine AW.seq ?_
                  refine AW.region ?_
                  refine ARun.pure (PureOp.loadPtrAgg rfl (.tmp rfl) vlf8_ag_29_2 rfl rfl (Nat.le_of_ble_eq_true rfl) (Nat.le_of_ble_eq_true rfl)) rfl rfl (Nat.le_of_ble_eq_true rfl) ?_
                  refine ARun.pure (PureOp.loadPtrAgg rfl (.tmp rfl) vlf8_ag_47_3 rfl rfl (Nat.le_of_ble_eq_true rfl) (Nat.le_of_ble_eq_true rfl)) rfl rfl (Nat.le_of_ble_eq_true rfl) ?_
                  refine ARun.fresh (FreshOp.callS rfl (FnT.toF (v_sTakeSay x58.1 x58.2)) ⟨⟨_, (.tmp rfl), ⟨.frs, .int, trivial⟩⟩, ⟨_, (.tmp rfl), ⟨.str, .int, .int, trivial⟩⟩, trivial⟩ vlf8_ca_24 rfl) rfl rfl (Nat.le_of_ble_eq_true rfl) ?_
                  refine ARun.pure (PureOp.move rfl (.tmp rfl)) rfl rfl (Nat.le_of_ble_eq_true rfl) ?_
                  refine ARun.pure (PureOp.ext3a rfl (.tmp rfl)) rfl rfl (Nat.le_of_ble_eq_true rfl) ?_
                  refine ARun.pure (PureOp.ext3b rfl (.tmp rfl)) rfl rfl (Nat.le_of_ble_eq_true rfl) ?_
                  refine ARun.pure (PureOp.ext3c rfl (.tmp rfl)) rfl rfl (Nat.le_of_ble_eq_true rfl) ?_
                  refine ARun.alloc (id := 13) (l := [.lst 2 0 (fun _ _ => .con undef), .int .i64 0]) (z := (.agg #[.slice none 0 0, .int .i64 0])) rfl (by kernel_rfl) (fun _ _ _ => ⟨_, _, rfl, ⟨none, 0, rfl, Nat.le_refl _, by decide, fun _ => rfl, fun i hi => absurd hi (by omega)⟩, ⟨_, _, rfl, rfl, rfl⟩⟩) ⟨rfl, (by repeat first | exact trivial | refine ⟨by decide, by first | rfl | exact trivial | (intro i j; first | rfl | exact getD_no rfl | (dsimp only; split <;> first | rfl | exact getD_no rfl) | exact scl_no (by apply_assumption) _), ?_⟩)⟩ rfl rfl rfl (Nat.le_of_ble_eq_true rfl) ?_
                  refine ARun.store rfl (.tmp rfl) (.tmp rfl) (SV.cells_of (by exact ⟨trivial, trivial, trivial⟩)) rfl (Nat.le_of_ble_eq_true rfl) vlf8_sz_29_2 rfl rfl ?_
                  refine ARun.pure (PureOp.assign rfl (.tmp rfl)) rfl rfl (Nat.le_of_ble_eq_true rfl) ?_
                  refine ARun.pure (PureOp.assign rfl (.tmp rfl)) rfl rfl (Nat.le_of_ble_eq_true rfl) ?_
                  refine ARun.nil ?_
                  refine AW.seq ?_
                  refine AW.seq ?_
                  refine AW.region ?_
                  refine ARun.pure (PureOp.move rfl (.tmp rfl)) rfl rfl (Nat.le_of_ble_eq_true rfl) ?_
                  refine ARun.pure (PureOp.move rfl (.tmp rfl)) rfl rfl (Nat.le_of_ble_eq_true rfl) ?_
                  refine ARun.pure (PureOp.boolNe rfl (.tmp rfl) (.tmp rfl) vlf8_bo_4) rfl rfl (Nat.le_of_ble_eq_true rfl) ?_
                  refine ARun.pure (PureOp.move rfl (.tmp rfl)) rfl rfl (Nat.le_of_ble_eq_true rfl) ?_
                  refine ARun.gpure (want := false) (.tf rfl) (fun hg60 => PureOp.move rfl (.tmp rfl)) rfl rfl (Nat.le_of_ble_eq_true rfl) rfl (Nat.le_of_ble_eq_true rfl) ?_
                  refine ARun.gpure (want := false) (.tf rfl) (fun hg61 => PureOp.move rfl (.tmp rfl)) rfl rfl (Nat.le_of_ble_eq_true rfl) rfl (Nat.le_of_ble_eq_true rfl) ?_
                  refine ARun.gpure (want := false) (.tf rfl) (fun hg62 => PureOp.intOp rfl (.gtmp rfl hg62) (.gtmp rfl hg62) rfl) rfl rfl (Nat.le_of_ble_eq_true rfl) rfl (Nat.le_of_ble_eq_true rfl) ?_
                  refine ARun.pure (PureOp.pick rfl (.tmp rfl) (fun _ => .bool) (fun hp64 => .gtmp rfl (not_of hp64))) rfl rfl (Nat.le_of_ble_eq_true rfl) ?_
                  refine ARun.pure (PureOp.move rfl (.tmp rfl)) rfl rfl (Nat.le_of_ble_eq_true rfl) ?_
                  refine ARun.gpure (want := false) (.tf rfl) (fun hg65 => PureOp.loadPtrAgg rfl (.tmp rfl) vlf8_ag_29_2 rfl rfl (Nat.le_of_ble_eq_true rfl) (Nat.le_of_ble_eq_true rfl)) rfl rfl (Nat.le_of_ble_eq_true rfl) rfl (Nat.le_of_ble_eq_true rfl) ?_
                  refine ARun.gpure (want := false) (.tf rfl) (fun hg66 => PureOp.loadPtrAgg rfl (.tmp rfl) vlf8_ag_29_2 rfl rfl (Nat.le_of_ble_eq_true rfl) (Nat.le_of_ble_eq_true rfl)) rfl rfl (Nat.le_of_ble_eq_true rfl) rfl (Nat.le_of_ble_eq_true rfl) ?_
                  refine ARun.gpure (want := false) (.tf rfl) (fun hg67 => PureOp.call rfl (v_sameHeads ((takeV x58.1 x58.2).1)) ⟨⟨_, (.gtmp rfl hg67), ⟨.frs, .int, trivial⟩⟩, ⟨_, (.gtmp rfl hg67), ⟨.frs, .int, trivial⟩⟩, trivial⟩ vlf8_ca_37 trivial) rfl rfl (Nat.le_of_ble_eq_true rfl) rfl (Nat.le_of_ble_eq_true rfl) ?_
                  refine ARun.gpure (want := false) (.tf rfl) (fun hg68 => PureOp.not rfl (.gtmp rfl hg68)) rfl rfl (Nat.le_of_ble_eq_true rfl) rfl (Nat.le_of_ble_eq_true rfl) ?_
                  refine ARun.pure (PureOp.pick rfl (.tmp rfl) (fun _ => .bool) (fun hp70 => .gtmp rfl (not_of hp70))) rfl rfl (Nat.le_of_ble_eq_true rfl) ?_
                  refine ARun.nil ?_
                  refine AW.cond (.tmp rfl) (fun hb71 => ?_) (fun hb71 => ?_)
                  · have _u := True.intro
                    exact absurd (show (cond (cond (!(((takeV x58.1 x58.2).2.2) == ((takeV x58.1 x58.2).2.2))) true (!decide ((((takeV x58.1 x58.2).2.1 : Nat) : Int) = (((takeV x58.1 x58.2).2.1 : Nat) : Int)))) true (!true)) = false by simp) (by rw [hb71]; simp)
                    --end
                  · have _u := True.intro
                    have _h := hb71
                    refine AW.skip ?_
                    refine AW.seq ?_
                    refine AW.seq ?_
                    refine AW.region ?_
                    refine ARun.pure (PureOp.move rfl (.tmp rfl)) rfl rfl (Nat.le_of_ble_eq_true rfl) ?_
                    refine ARun.pure (PureOp.move rfl (.tmp rfl)) rfl rfl (Nat.le_of_ble_eq_true rfl) ?_
                    refine ARun.gpure (want := true) (.tt rfl) (fun hg72 => PureOp.fieldPtr rfl (.tmp rfl) vlf8_fi_29_1_1) rfl rfl (Nat.le_of_ble_eq_true rfl) rfl (Nat.le_of_ble_eq_true rfl) ?_
                    refine ARun.gpure (want := true) (.tt rfl) (fun hg73 => PureOp.loadPtr rfl (.gtmp rfl hg73) vlf8_pl_3 rfl rfl (Nat.le_of_ble_eq_true rfl) (Nat.le_of_ble_eq_true rfl)) rfl rfl (Nat.le_of_ble_eq_true rfl) rfl (Nat.le_of_ble_eq_true rfl) ?_
                    refine ARun.gpure (want := true) (.tt rfl) (fun hg74 => PureOp.intOp rfl (.gtmp rfl hg74) .int rfl) rfl rfl (Nat.le_of_ble_eq_true rfl) rfl (Nat.le_of_ble_eq_true rfl) ?_
                    refine ARun.pure (PureOp.pick rfl (.tmp rfl) (fun hp75 => .gtmp rfl hp75) (fun _ => .bool)) rfl rfl (Nat.le_of_ble_eq_true rfl) ?_
                    refine ARun.nil ?_
                    refine AW.cond (.tmp rfl) (fun hb77 => ?_) (fun hb77 => ?_)
                    · have _u := True.intro
                      obtain ⟨ho1_, ho2_⟩ := cnd_t hb77
                      obtain ⟨hz1, hz2, hz3, hz4⟩ := takeV_again ho1_ (of_decide_eq_true ho2_)
                      refine AW.seq ?_
                      refine AW.region ?_
                      refine ARun.pure (PureOp.loadPtrAgg rfl (.tmp rfl) vlf8_ag_29_2 rfl rfl (Nat.le_of_ble_eq_true rfl) (Nat.le_of_ble_eq_true rfl)) rfl rfl (Nat.le_of_ble_eq_true rfl) ?_
                      refine ARun.pure (PureOp.loadPtrAgg rfl (.tmp rfl) vlf8_ag_47_3 rfl rfl (Nat.le_of_ble_eq_true rfl) (Nat.le_of_ble_eq_true rfl)) rfl rfl (Nat.le_of_ble_eq_true rfl) ?_
                      refine ARun.fresh (FreshOp.callS rfl (FnT.toF (v_iTakeV (takeV x58.1 x58.2).1 x58.2 _ hz1)) ⟨⟨_, (.tmp rfl), ⟨.frs, .int, trivial⟩⟩, ⟨_, (.tmp rfl), ⟨.str, .int, .int, trivial⟩⟩, trivial⟩ vlf8_ca_26 rfl) rfl rfl (Nat.le_of_ble_eq_true rfl) ?_
                      refine ARun.pure (PureOp.move rfl (.tmp rfl)) rfl rfl (Nat.le_of_ble_eq_true rfl) ?_
                      refine ARun.pure (PureOp.ext3a rfl (.tmp rfl)) rfl rfl (Nat.le_of_ble_eq_true rfl) ?_
                      refine ARun.pure (PureOp.ext3b rfl (.tmp rfl)) rfl rfl (Nat.le_of_ble_eq_true rfl) ?_
                      refine ARun.pure (PureOp.ext3c rfl (.tmp rfl)) rfl rfl (Nat.le_of_ble_eq_true rfl) ?_
                      refine ARun.alloc (id := 14) (l := [.lst 2 0 (fun _ _ => .con undef), .int .i64 0]) (z := (.agg #[.slice none 0 0, .int .i64 0])) rfl (by kernel_rfl) (fun _ _ _ => ⟨_, _, rfl, ⟨none, 0, rfl, Nat.le_refl _, by decide, fun _ => rfl, fun i hi => absurd hi (by omega)⟩, ⟨_, _, rfl, rfl, rfl⟩⟩) ⟨rfl, (by repeat first | exact trivial | refine ⟨by decide, by first | rfl | exact trivial | (intro i j; first | rfl | exact getD_no rfl | (dsimp only; split <;> first | rfl | exact getD_no rfl) | exact scl_no (by apply_assumption) _), ?_⟩)⟩ rfl rfl rfl (Nat.le_of_ble_eq_true rfl) ?_
                      refine ARun.store rfl (.tmp rfl) (.tmp rfl) (SV.cells_of (by exact ⟨trivial, trivial, trivial⟩)) rfl (Nat.le_of_ble_eq_true rfl) vlf8_sz_29_2 rfl rfl ?_
                      refine ARun.pure (PureOp.assign rfl (.tmp rfl)) rfl rfl (Nat.le_of_ble_eq_true rfl) ?_
                      refine ARun.pure (PureOp.assign rfl (.tmp rfl)) rfl rfl (Nat.le_of_ble_eq_true rfl) ?_
                      refine ARun.nil ?_
                      refine AW.seq ?_
                      refine AW.region ?_
                      refine ARun.pure (PureOp.move rfl (.tmp rfl)) rfl rfl (Nat.le_of_ble_eq_true rfl) ?_
                      refine ARun.pure (PureOp.not rfl (.tmp rfl)) rfl rfl (Nat.le_of_ble_eq_true rfl) ?_
                      refine ARun.pure (PureOp.move rfl (.tmp rfl)) rfl rfl (Nat.le_of_ble_eq_true rfl) ?_
                      refine ARun.gpure (want := false) (.tf rfl) (fun hg78 => PureOp.move rfl (.tmp rfl)) rfl rfl (Nat.le_of_ble_eq_true rfl) rfl (Nat.le_of_ble_eq_true rfl) ?_
                      refine ARun.gpure (want := false) (.tf rfl) (fun hg79 => PureOp.intOp rfl (.gtmp rfl hg79) .int rfl) rfl rfl (Nat.le_of_ble_eq_true rfl) rfl (Nat.le_of_ble_eq_true rfl) ?_
                      refine ARun.pure (PureOp.pick rfl (.tmp rfl) (fun _ => .bool) (fun hp81 => .gtmp rfl (not_of hp81))) rfl rfl (Nat.le_of_ble_eq_true rfl) ?_
                      refine ARun.pure (PureOp.move rfl (.tmp rfl)) rfl rfl (Nat.le_of_ble_eq_true rfl) ?_
                      refine ARun.gpure (want := false) (.tf rfl) (fun hg82 => PureOp.fieldPtr rfl (.tmp rfl) vlf8_fi_29_0_0) rfl rfl (Nat.le_of_ble_eq_true rfl) rfl (Nat.le_of_ble_eq_true rfl) ?_
                      refine ARun.gpure (want := false) (.tf rfl) (fun hg83 => PureOp.loadPtr rfl (.gtmp rfl hg83) vlf8_pl_27 rfl rfl (Nat.le_of_ble_eq_true rfl) (Nat.le_of_ble_eq_true rfl)) rfl rfl (Nat.le_of_ble_eq_true rfl) rfl (Nat.le_of_ble_eq_true rfl) ?_
                      refine ARun.gpure (want := false) (.tf rfl) (fun hg84 => PureOp.lenLst rfl (.frs (.gtmp rfl hg84)) vlf8_sl_27) rfl rfl (Nat.le_of_ble_eq_true rfl) rfl (Nat.le_of_ble_eq_true rfl) ?_
                      refine ARun.gpure (want := false) (.tf rfl) (fun hg85 => PureOp.fieldPtr rfl (.tmp rfl) vlf8_fi_29_0_0) rfl rfl (Nat.le_of_ble_eq_true rfl) rfl (Nat.le_of_ble_eq_true rfl) ?_
                      refine ARun.gpure (want := false) (.tf rfl) (fun hg86 => PureOp.loadPtr rfl (.gtmp rfl hg86) vlf8_pl_27 rfl rfl (Nat.le_of_ble_eq_true rfl) (Nat.le_of_ble_eq_true rfl)) rfl rfl (Nat.le_of_ble_eq_true rfl) rfl (Nat.le_of_ble_eq_true rfl) ?_
                      refine ARun.gpure (want := false) (.tf rfl) (fun hg87 => PureOp.lenLst rfl (.frs (.gtmp rfl hg87)) vlf8_sl_27) rfl rfl (Nat.le_of_ble_eq_true rfl) rfl (Nat.le_of_ble_eq_true rfl) ?_
                      refine ARun.gpure (want := false) (.tf rfl) (fun hg88 => PureOp.intOp rfl (.gtmp rfl hg88) (.gtmp rfl hg88) rfl) rfl rfl (Nat.le_of_ble_eq_true rfl) rfl (Nat.le_of_ble_eq_true rfl) ?_
                      refine ARun.pure (PureOp.pick rfl (.tmp rfl) (fun _ => .bool) (fun hp90 => .gtmp rfl (not_of hp90))) rfl rfl (Nat.le_of_ble_eq_true rfl) ?_
                      refine ARun.pure (PureOp.move rfl (.tmp rfl)) rfl rfl (Nat.le_of_ble_eq_true rfl) ?_
                      refine ARun.gpure (want := false) (.tf rfl) (fun hg91 => PureOp.move rfl (.tmp rfl)) rfl rfl (Nat.le_of_ble_eq_true rfl) rfl (Nat.le_of_ble_eq_true rfl) ?_
                      refine ARun.gpure (want := false) (.tf rfl) (fun hg92 => PureOp.intOp rfl (.gtmp rfl hg92) .int rfl) rfl rfl (Nat.le_of_ble_eq_true rfl) rfl (Nat.le_of_ble_eq_true rfl) ?_
                      refine ARun.gpure (want := false) (.tf rfl) (fun hg93 => PureOp.move rfl (.gtmp rfl hg93)) rfl rfl (Nat.le_of_ble_eq_true rfl) rfl (Nat.le_of_ble_eq_true rfl) ?_
                      refine ARun.gpure (want := true) (.gt rfl) (fun hg94 => PureOp.move rfl (.tmp rfl)) rfl rfl (Nat.le_of_ble_eq_true rfl) rfl (Nat.le_of_ble_eq_true rfl) ?_
                      refine ARun.gpure (want := true) (.gt rfl) (fun hg95 => PureOp.intOp rfl (.gtmp rfl hg95) .int rfl) rfl rfl (Nat.le_of_ble_eq_true rfl) rfl (Nat.le_of_ble_eq_true rfl) ?_
                      refine ARun.gpure (want := false) (.tf rfl) (fun hg96 => PureOp.pick rfl (.gtmp rfl hg96) (fun hp97 => .gtmp rfl (and_mk hg96 hp97)) (fun _ => .bool)) rfl rfl (Nat.le_of_ble_eq_true rfl) rfl (Nat.le_of_ble_eq_true rfl) ?_
                      refine ARun.pure (PureOp.pick rfl (.tmp rfl) (fun _ => .bool) (fun hp100 => .gtmp rfl (not_of hp100))) rfl rfl (Nat.le_of_ble_eq_true rfl) ?_
                      refine ARun.nil ?_
                      refine AW.cond (.tmp rfl) (fun hb101 => ?_) (fun hb101 => ?_)
                      · have _u := True.intro
                        have q1 : decide (((takeCode (takeH x58.1 x58.2) x58.2 : Nat) : Int) = 1) = false := decide_eq_false (by omega)
                        exact absurd (show (cond (cond (cond (!true) true (decide (((takeCode (takeH x58.1 x58.2) x58.2 : Nat) : Int) = 1))) true (!decide (((((takeH (takeH x58.1 x58.2) x58.2).rows).length : Nat) : Int) = (((((takeV x58.1 x58.2).1).rows).length : Nat) : Int)))) true (cond (decide ((((takeV x58.1 x58.2).2.1 : Nat) : Int) = 1)) (!decide (((takeCode (takeH x58.1 x58.2) x58.2 : Nat) : Int) = 2)) false)) = false by first | (rw [q1, thr hz4, decide_eq_true (by omega)]; rfl) | (simp only [q1, thr hz4, hz3]; simp)) (by rw [hb101]; simp)
                        --end
                      · have _u := True.intro
                        have _h := hb101
                        refine AW.skip ?_
                        refine AW.seq ?_
                        refine AW.region ?_
                        refine ARun.pure (PureOp.assign rfl .bool) rfl rfl (Nat.le_of_ble_eq_true rfl) ?_
                        refine ARun.nil ?_
                        refine AW.ret (show ResL _ _ [.tmp 4] _ from resB rfl ?_)
                        rfl
                    · have _u := True.intro
                      have _h := hb77
                      refine AW.skip ?_
                      refine AW.seq ?_
                      refine AW.region ?_
                      refine ARun.pure (PureOp.assign rfl .bool) rfl rfl (Nat.le_of_ble_eq_true rfl) ?_
                      refine ARun.nil ?_
                      refine AW.ret (show ResL _ _ [.tmp 4] _ from resB rfl ?_)
                      rfl
      · have _u := True.intro
        have _h := hb24
        refine AW.skip ?_
        refine AW.seq ?_
        refine AW.region ?_
        refine ARun.pure (PureOp.move rfl (.tmp rfl)) rfl rfl (Nat.le_of_ble_eq_true rfl) ?_
        refine ARun.draw rfl (v_DrawTakeSay x1.length (fun i => (x1.getD i 0).toNat) (fun i => UInt8.toNat_lt _)) vlf8_ca_40 ⟨⟨_, (.tmp rfl), .lst⟩, trivial⟩ rfl rfl (Nat.le_of_ble_eq_true rfl) (fun x102 hd103 => ?_)
        have _h := hd103
        refine ARun.pure (PureOp.move rfl (.tmp rfl)) rfl rfl (Nat.le_of_ble_eq_true rfl) ?_
        refine ARun.pure (PureOp.ext2a rfl (.tmp rfl)) rfl rfl (Nat.le_of_ble_eq_true rfl) ?_
        refine ARun.pure (PureOp.ext2b rfl (.tmp rfl)) rfl rfl (Nat.le_of_ble_eq_true rfl) ?_
        refine ARun.alloc (id := 15) (l := [.lst 2 0 (fun _ _ => .con undef), .int .i64 0]) (z := (.agg #[.slice none 0 0, .int .i64 0])) rfl (by kernel_rfl) (fun _ _ _ => ⟨_, _, rfl, ⟨none, 0, rfl, Nat.le_refl _, by decide, fun _ => rfl, fun i hi => absurd hi (by omega)⟩, ⟨_, _, rfl, rfl, rfl⟩⟩) ⟨rfl, (by repeat first | exact trivial | refine ⟨by decide, by first | rfl | exact trivial | (intro i j; first | rfl | exact getD_no rfl | (dsimp only; split <;> first | rfl | exact getD_no rfl) | exact scl_no (by apply_assumption) _), ?_⟩)⟩ rfl rfl rfl (Nat.le_of_ble_eq_true rfl) ?_
        refine ARun.alloc (id := 16) (l := [.str ByteArray.empty, .int .i64 0, .int .i64 0]) (z := (.agg #[.string ByteArray.empty, .int .i64 0, .int .i64 0])) rfl (by kernel_rfl) (fun _ _ _ => ⟨_, _, rfl, ⟨rfl, by decide⟩, ⟨_, _, rfl, rfl, ⟨_, _, rfl, rfl, rfl⟩⟩⟩) ⟨rfl, (by repeat first | exact trivial | refine ⟨by decide, by first | rfl | exact trivial | (intro i j; first | rfl | exact getD_no rfl | (dsimp only; split <;> first | rfl | exact getD_no rfl) | exact scl_no (by apply_assumption) _), ?_⟩)⟩ rfl rfl rfl (Nat.le_of_ble_eq_true rfl) ?_
        refine ARun.store rfl (.tmp rfl) (.tmp rfl) (SV.cells_of (by exact ⟨trivial, trivial, trivial⟩)) rfl (Nat.le_of_ble_eq_true rfl) vlf8_sz_29_2 rfl rfl ?_
        refine ARun.store rfl (.tmp rfl) (.tmp rfl) (SV.cells_of (by exact ⟨trivial, trivial, trivial, trivial⟩)) rfl (Nat.le_of_ble_eq_true rfl) vlf8_sz_47_3 rfl rfl ?_
        refine ARun.nil ?_
        refine AW.seq ?_
        refine AW.region ?_
        refine ARun.pure (PureOp.loadPtrAgg rfl (.tmp rfl) vlf8_ag_29_2 rfl rfl (Nat.le_of_ble_eq_true rfl) (Nat.le_of_ble_eq_true rfl)) rfl rfl (Nat.le_of_ble_eq_true rfl) ?_
        refine ARun.pure (PureOp.loadPtrAgg rfl (.tmp rfl) vlf8_ag_47_3 rfl rfl (Nat.le_of_ble_eq_true rfl) (Nat.le_of_ble_eq_true rfl)) rfl rfl (Nat.le_of_ble_eq_true rfl) ?_
        refine ARun.fresh (FreshOp.callS rfl (FnT.toF (v_iTakeSay x102.1 x102.2)) ⟨⟨_, (.tmp rfl), ⟨.frs, .int, trivial⟩⟩, ⟨_, (.tmp rfl), ⟨.str, .int, .int, trivial⟩⟩, trivial⟩ vlf8_ca_26 rfl) rfl rfl (Nat.le_of_ble_eq_true rfl) ?_
        refine ARun.pure (PureOp.move rfl (.tmp rfl)) rfl rfl (Nat.le_of_ble_eq_true rfl) ?_
        refine ARun.pure (PureOp.ext3a rfl (.tmp rfl)) rfl rfl (Nat.le_of_ble_eq_true rfl) ?_
        refine ARun.pure (PureOp.ext3b rfl (.tmp rfl)) rfl rfl (Nat.le_of_ble_eq_true rfl) ?_
        refine ARun.pure (PureOp.ext3c rfl (.tmp rfl)) rfl rfl (Nat.le_of_ble_eq_true rfl) ?_
        refine ARun.alloc (id := 17) (l := [.lst 2 0 (fun _ _ => .con undef), .int .i64 0]) (z := (.agg #[.slice none 0 0, .int .i64 0])) rfl (by kernel_rfl) (fun _ _ _ => ⟨_, _, rfl, ⟨none, 0, rfl, Nat.le_refl _, by decide, fun _ => rfl, fun i hi => absurd hi (by omega)⟩, ⟨_, _, rfl, rfl, rfl⟩⟩) ⟨rfl, (by repeat first | exact trivial | refine ⟨by decide, by first | rfl | exact trivial | (intro i j; first | rfl | exact getD_no rfl | (dsimp only; split <;> first | rfl | exact getD_no rfl) | exact scl_no (by apply_assumption) _), ?_⟩)⟩ rfl rfl rfl (Nat.le_of_ble_eq_true rfl) ?_
        refine ARun.store rfl (.tmp rfl) (.tmp rfl) (SV.cells_of (by exact ⟨trivial, trivial, trivial⟩)) rfl (Nat.le_of_ble_eq_true rfl) vlf8_sz_29_2 rfl rfl ?_
        refine ARun.pure (PureOp.assign rfl (.tmp rfl)) rfl rfl (Nat.le_of_ble_eq_true rfl) ?_
        refine ARun.pure (PureOp.assign rfl (.tmp rfl)) rfl rfl (Nat.le_of_ble_eq_true rfl) ?_
        refine ARun.nil ?_
        refine AW.seq ?_
        refine AW.region ?_
        refine ARun.pure (PureOp.loadPtrAgg rfl (.tmp rfl) vlf8_ag_29_2 rfl rfl (Nat.le_of_ble_eq_true rfl) (Nat.le_of_ble_eq_true rfl)) rfl rfl (Nat.le_of_ble_eq_true rfl) ?_
        refine ARun.pure (PureOp.loadPtrAgg rfl (.tmp rfl) vlf8_ag_47_3 rfl rfl (Nat.le_of_ble_eq_true rfl) (Nat.le_of_ble_eq_true rfl)) rfl rfl (Nat.le_of_ble_eq_true rfl) ?_
        refine ARun.fresh (FreshOp.callS rfl (FnT.toF (v_sTakeSay x102.1 x102.2)) ⟨⟨_, (.tmp rfl), ⟨.frs, .int, trivial⟩⟩, ⟨_, (.tmp rfl), ⟨.str, .int, .int, trivial⟩⟩, trivial⟩ vlf8_ca_24 rfl) rfl rfl (Nat.le_of_ble_eq_true rfl) ?_
        refine ARun.pure (PureOp.move rfl (.tmp rfl)) rfl rfl (Nat.le_of_ble_eq_true rfl) ?_
        refine ARun.pure (PureOp.ext3a rfl (.tmp rfl)) rfl rfl (Nat.le_of_ble_eq_true rfl) ?_
        refine ARun.pure (PureOp.ext3b rfl (.tmp rfl)) rfl rfl (Nat.le_of_ble_eq_true rfl) ?_
        refine ARun.pure (PureOp.ext3c rfl (.tmp rfl)) rfl rfl (Nat.le_of_ble_eq_true rfl) ?_
        refine ARun.alloc (id := 18) (l := [.lst 2 0 (fun _ _ => .con undef), .int .i64 0]) (z := (.agg #[.slice none 0 0, .int .i64 0])) rfl (by kernel_rfl) (fun _ _ _ => ⟨_, _, rfl, ⟨none, 0, rfl, Nat.le_refl _, by decide, fun _ => rfl, fun i hi => absurd hi (by omega)⟩, ⟨_, _, rfl, rfl, rfl⟩⟩) ⟨rfl, (by repeat first | exact trivial | refine ⟨by decide, by first | rfl | exact trivial | (intro i j; first | rfl | exact getD_no rfl | (dsimp only; split <;> first | rfl | exact getD_no rfl) | exact scl_no (by apply_assumption) _), ?_⟩)⟩ rfl rfl rfl (Nat.le_of_ble_eq_true rfl) ?_
        refine ARun.store rfl (.tmp rfl) (.tmp rfl) (SV.cells_of (by exact ⟨trivial, trivial, trivial⟩)) rfl (Nat.le_of_ble_eq_true rfl) vlf8_sz_29_2 rfl rfl ?_
        refine ARun.pure (PureOp.assign rfl (.tmp rfl)) rfl rfl (Nat.le_of_ble_eq_true rfl) ?_
        refine ARun.pure (PureOp.assign rfl (.tmp rfl)) rfl rfl (Nat.le_of_ble_eq_true rfl) ?_
        refine ARun.nil ?_
        refine AW.seq ?_
        refine AW.seq ?_
        refine AW.region ?_
        refine ARun.pure (PureOp.move rfl (.tmp rfl)) rfl rfl (Nat.le_of_ble_eq_true rfl) ?_
        refine ARun.pure (PureOp.move rfl (.tmp rfl)) rfl rfl (Nat.le_of_ble_eq_true rfl) ?_
        refine ARun.pure (PureOp.boolNe rfl (.tmp rfl) (.tmp rfl) vlf8_bo_4) rfl rfl (Nat.le_of_ble_eq_true rfl) ?_
        refine ARun.pure (PureOp.move rfl (.tmp rfl)) rfl rfl (Nat.le_of_ble_eq_true rfl) ?_
        refine ARun.gpure (want := false) (.tf rfl) (fun hg104 => PureOp.move rfl (.tmp rfl)) rfl rfl (Nat.le_of_ble_eq_true rfl) rfl (Nat.le_of_ble_eq_true rfl) ?_
        refine ARun.gpure (want := false) (.tf rfl) (fun hg105 => PureOp.move rfl (.tmp rfl)) rfl rfl (Nat.le_of_ble_eq_true rfl) rfl (Nat.le_of_ble_eq_true rfl) ?_
        refine ARun.gpure (want := false) (.tf rfl) (fun hg106 => PureOp.intOp rfl (.gtmp rfl hg106) (.gtmp rfl hg106) rfl) rfl rfl (Nat.le_of_ble_eq_true rfl) rfl (Nat.le_of_ble_eq_true rfl) ?_
        refine ARun.pure (PureOp.pick rfl (.tmp rfl) (fun _ => .bool) (fun hp108 => .gtmp rfl (not_of hp108))) rfl rfl (Nat.le_of_ble_eq_true rfl) ?_
        refine ARun.pure (PureOp.move rfl (.tmp rfl)) rfl rfl (Nat.le_of_ble_eq_true rfl) ?_
        refine ARun.gpure (want := false) (.tf rfl) (fun hg109 => PureOp.loadPtrAgg rfl (.tmp rfl) vlf8_ag_29_2 rfl rfl (Nat.le_of_ble_eq_true rfl) (Nat.le_of_ble_eq_true rfl)) rfl rfl (Nat.le_of_ble_eq_true rfl) rfl (Nat.le_of_ble_eq_true rfl) ?_
        refine ARun.gpure (want := false) (.tf rfl) (fun hg110 => PureOp.loadPtrAgg rfl (.tmp rfl) vlf8_ag_29_2 rfl rfl (Nat.le_of_ble_eq_true rfl) (Nat.le_of_ble_eq_true rfl)) rfl rfl (Nat.le_of_ble_eq_true rfl) rfl (Nat.le_of_ble_eq_true rfl) ?_
        refine ARun.gpure (want := false) (.tf rfl) (fun hg111 => PureOp.call rfl (v_sameHeads ((takeV x102.1 x102.2).1)) ⟨⟨_, (.gtmp rfl hg111), ⟨.frs, .int, trivial⟩⟩, ⟨_, (.gtmp rfl hg111), ⟨.frs, .int, trivial⟩⟩, trivial⟩ vlf8_ca_37 trivial) rfl rfl (Nat.le_of_ble_eq_true rfl) rfl (Nat.le_of_ble_eq_true rfl) ?_
        refine ARun.gpure (want := false) (.tf rfl) (fun hg112 => PureOp.not rfl (.gtmp rfl hg112)) rfl rfl (Nat.le_of_ble_eq_true rfl) rfl (Nat.le_of_ble_eq_true rfl) ?_
        refine ARun.pure (PureOp.pick rfl (.tmp rfl) (fun _ => .bool) (fun hp114 => .gtmp rfl (not_of hp114))) rfl rfl (Nat.le_of_ble_eq_true rfl) ?_
        refine ARun.nil ?_
        refine AW.cond (.tmp rfl) (fun hb115 => ?_) (fun hb115 => ?_)
        · have _u := True.intro
          exact absurd (show (cond (cond (!(((takeV x102.1 x102.2).2.2) == ((takeV x102.1 x102.2).2.2))) true (!decide ((((takeV x102.1 x102.2).2.1 : Nat) : Int) = (((takeV x102.1 x102.2).2.1 : Nat) : Int)))) true (!true)) = false by simp) (by rw [hb115]; simp)
          --end
        · have _u := True.intro
          have _h := hb115
          refine AW.skip ?_
          refine AW.seq ?_
          refine AW.seq ?_
          refine AW.region ?_
          refine ARun.pure (PureOp.move rfl (.tmp rfl)) rfl rfl (Nat.le_of_ble_eq_true rfl) ?_
          refine ARun.pure (PureOp.move rfl (.tmp rfl)) rfl rfl (Nat.le_of_ble_eq_true rfl) ?_
          refine ARun.gpure (want := true) (.tt rfl) (fun hg116 => PureOp.fieldPtr rfl (.tmp rfl) vlf8_fi_29_1_1) rfl rfl (Nat.le_of_ble_eq_true rfl) rfl (Nat.le_of_ble_eq_true rfl) ?_
          refine ARun.gpure (want := true) (.tt rfl) (fun hg117 => PureOp.loadPtr rfl (.gtmp rfl hg117) vlf8_pl_3 rfl rfl (Nat.le_of_ble_eq_true rfl) (Nat.le_of_ble_eq_true rfl)) rfl rfl (Nat.le_of_ble_eq_true rfl) rfl (Nat.le_of_ble_eq_true rfl) ?_
          refine ARun.gpure (want := true) (.tt rfl) (fun hg118 => PureOp.intOp rfl (.gtmp rfl hg118) .int rfl) rfl rfl (Nat.le_of_ble_eq_true rfl) rfl (Nat.le_of_ble_eq_true rfl) ?_
          refine ARun.pure (PureOp.pick rfl (.tmp rfl) (fun hp119 => .gtmp rfl hp119) (fun _ => .bool)) rfl rfl (Nat.le_of_ble_eq_true rfl) ?_
          refine ARun.nil ?_
          refine AW.cond (.tmp rfl) (fun hb121 => ?_) (fun hb121 => ?_)
          · have _u := True.intro
            obtain ⟨ho1_, ho2_⟩ := cnd_t hb121
            obtain ⟨hz1, hz2, hz3, hz4⟩ := takeV_again ho1_ (of_decide_eq_true ho2_)
            refine AW.seq ?_
            refine AW.region ?_
            refine ARun.pure (PureOp.loadPtrAgg rfl (.tmp rfl) vlf8_ag_29_2 rfl rfl (Nat.le_of_ble_eq_true rfl) (Nat.le_of_ble_eq_true rfl)) rfl rfl (Nat.le_of_ble_eq_true rfl) ?_
            refine ARun.pure (PureOp.loadPtrAgg rfl (.tmp rfl) vlf8_ag_47_3 rfl rfl (Nat.le_of_ble_eq_true rfl) (Nat.le_of_ble_eq_true rfl)) rfl rfl (Nat.le_of_ble_eq_true rfl) ?_
            refine ARun.fresh (FreshOp.callS rfl (FnT.toF (v_iTakeV (takeV x102.1 x102.2).1 x102.2 _ hz1)) ⟨⟨_, (.tmp rfl), ⟨.frs, .int, trivial⟩⟩, ⟨_, (.tmp rfl), ⟨.str, .int, .int, trivial⟩⟩, trivial⟩ vlf8_ca_26 rfl) rfl rfl (Nat.le_of_ble_eq_true rfl) ?_
            refine ARun.pure (PureOp.move rfl (.tmp rfl)) rfl rfl (Nat.le_of_ble_eq_true rfl) ?_
            refine ARun.pure (PureOp.ext3a rfl (.tmp rfl)) rfl rfl (Nat.le_of_ble_eq_true rfl) ?_
            refine ARun.pure (PureOp.ext3b rfl (.tmp rfl)) rfl rfl (Nat.le_of_ble_eq_true rfl) ?_
            refine ARun.pure (PureOp.ext3c rfl (.tmp rfl)) rfl rfl (Nat.le_of_ble_eq_true rfl) ?_
            refine ARun.alloc (id := 19) (l := [.lst 2 0 (fun _ _ => .con undef), .int .i64 0]) (z := (.agg #[.slice none 0 0, .int .i64 0])) rfl (by kernel_rfl) (fun _ _ _ => ⟨_, _, rfl, ⟨none, 0, rfl, Nat.le_refl _, by decide, fun _ => rfl, fun i hi => absurd hi (by omega)⟩, ⟨_, _, rfl, rfl, rfl⟩⟩) ⟨rfl, (by repeat first | exact trivial | refine ⟨by decide, by first | rfl | exact trivial | (intro i j; first | rfl | exact getD_no rfl | (dsimp only; split <;> first | rfl | exact getD_no rfl) | exact scl_no (by apply_assumption) _), ?_⟩)⟩ rfl rfl rfl (Nat.le_of_ble_eq_true rfl) ?_
            refine ARun.store rfl (.tmp rfl) (.tmp rfl) (SV.cells_of (by exact ⟨trivial, trivial, trivial⟩)) rfl (Nat.le_of_ble_eq_true rfl) vlf8_sz_29_2 rfl rfl ?_
            refine ARun.pure (PureOp.assign rfl (.tmp rfl)) rfl rfl (Nat.le_of_ble_eq_true rfl) ?_
            refine ARun.pure (PureOp.assign rfl (.tmp rfl)) rfl rfl (Nat.le_of_ble_eq_true rfl) ?_
            refine ARun.nil ?_
            refine AW.seq ?_
            refine AW.region ?_
            refine ARun.pure (PureOp.move rfl (.tmp rfl)) rfl rfl (Nat.le_of_ble_eq_true rfl) ?_
            refine ARun.pure (PureOp.not rfl (.tmp rfl)) rfl rfl (Nat.le_of_ble_eq_true rfl) ?_
            refine ARun.pure (PureOp.move rfl (.tmp rfl)) rfl rfl (Nat.le_of_ble_eq_true rfl) ?_
            refine ARun.gpure (want := false) (.tf rfl) (fun hg122 => PureOp.move rfl (.tmp rfl)) rfl rfl (Nat.le_of_ble_eq_true rfl) rfl (Nat.le_of_ble_eq_true rfl) ?_
            refine ARun.gpure (want := false) (.tf rfl) (fun hg123 => PureOp.intOp rfl (.gtmp rfl hg123) .int rfl) rfl rfl (Nat.le_of_ble_eq_true rfl) rfl (Nat.le_of_ble_eq_true rfl) ?_
            refine ARun.pure (PureOp.pick rfl (.tmp rfl) (fun _ => .bool) (fun hp125 => .gtmp rfl (not_of hp125))) rfl rfl (Nat.le_of_ble_eq_true rfl) ?_
            refine ARun.pure (PureOp.move rfl (.tmp rfl)) rfl rfl (Nat.le_of_ble_eq_true rfl) ?_
            refine ARun.gpure (want := false) (.tf rfl) (fun hg126 => PureOp.fieldPtr rfl (.tmp rfl) vlf8_fi_29_0_0) rfl rfl (Nat.le_of_ble_eq_true rfl) rfl (Nat.le_of_ble_eq_true rfl) ?_
            refine ARun.gpure (want := false) (.tf rfl) (fun hg127 => PureOp.loadPtr rfl (.gtmp rfl hg127) vlf8_pl_27 rfl rfl (Nat.le_of_ble_eq_true rfl) (Nat.le_of_ble_eq_true rfl)) rfl rfl (Nat.le_of_ble_eq_true rfl) rfl (Nat.le_of_ble_eq_true rfl) ?_
            refine ARun.gpure (want := false) (.tf rfl) (fun hg128 => PureOp.lenLst rfl (.frs (.gtmp rfl hg128)) vlf8_sl_27) rfl rfl (Nat.le_of_ble_eq_true rfl) rfl (Nat.le_of_ble_eq_true rfl) ?_
            refine ARun.gpure (want := false) (.tf rfl) (fun hg129 => PureOp.fieldPtr rfl (.tmp rfl) vlf8_fi_29_0_0) rfl rfl (Nat.le_of_ble_eq_true rfl) rfl (Nat.le_of_ble_eq_true rfl) ?_
            refine ARun.gpure (want := false) (.tf rfl) (fun hg130 => PureOp.loadPtr rfl (.gtmp rfl hg130) vlf8_pl_27 rfl rfl (Nat.le_of_ble_eq_true rfl) (Nat.le_of_ble_eq_true rfl)) rfl rfl (Nat.le_of_ble_eq_true rfl) rfl (Nat.le_of_ble_eq_true rfl) ?_
            refine ARun.gpure (want := false) (.tf rfl) (fun hg131 => PureOp.lenLst rfl (.frs (.gtmp rfl hg131)) vlf8_sl_27) rfl rfl (Nat.le_of_ble_eq_true rfl) rfl (Nat.le_of_ble_eq_true rfl) ?_
            refine ARun.gpure (want := false) (.tf rfl) (fun hg132 => PureOp.intOp rfl (.gtmp rfl hg132) (.gtmp rfl hg132) rfl) rfl rfl (Nat.le_of_ble_eq_true rfl) rfl (Nat.le_of_ble_eq_true rfl) ?_
            refine ARun.pure (PureOp.pick rfl (.tmp rfl) (fun _ => .bool) (fun hp134 => .gtmp rfl (not_of hp134))) rfl rfl (Nat.le_of_ble_eq_true rfl) ?_
            refine ARun.pure (PureOp.move rfl (.tmp rfl)) rfl rfl (Nat.le_of_ble_eq_true rfl) ?_
            refine ARun.gpure (want := false) (.tf rfl) (fun hg135 => PureOp.move rfl (.tmp rfl)) rfl rfl (Nat.le_of_ble_eq_true rfl) rfl (Nat.le_of_ble_eq_true rfl) ?_
            refine ARun.gpure (want := false) (.tf rfl) (fun hg136 => PureOp.intOp rfl (.gtmp rfl hg136) .int rfl) rfl rfl (Nat.le_of_ble_eq_true rfl) rfl (Nat.le_of_ble_eq_true rfl) ?_
            refine ARun.gpure (want := false) (.tf rfl) (fun hg137 => PureOp.move rfl (.gtmp rfl hg137)) rfl rfl (Nat.le_of_ble_eq_true rfl) rfl (Nat.le_of_ble_eq_true rfl) ?_
            refine ARun.gpure (want := true) (.gt rfl) (fun hg138 => PureOp.move rfl (.tmp rfl)) rfl rfl (Nat.le_of_ble_eq_true rfl) rfl (Nat.le_of_ble_eq_true rfl) ?_
            refine ARun.gpure (want := true) (.gt rfl) (fun hg139 => PureOp.intOp rfl (.gtmp rfl hg139) .int rfl) rfl rfl (Nat.le_of_ble_eq_true rfl) rfl (Nat.le_of_ble_eq_true rfl) ?_
            refine ARun.gpure (want := false) (.tf rfl) (fun hg140 => PureOp.pick rfl (.gtmp rfl hg140) (fun hp141 => .gtmp rfl (and_mk hg140 hp141)) (fun _ => .bool)) rfl rfl (Nat.le_of_ble_eq_true rfl) rfl (Nat.le_of_ble_eq_true rfl) ?_
            refine ARun.pure (PureOp.pick rfl (.tmp rfl) (fun _ => .bool) (fun hp144 => .gtmp rfl (not_of hp144))) rfl rfl (Nat.le_of_ble_eq_true rfl) ?_
            refine ARun.nil ?_
            refine AW.cond (.tmp rfl) (fun hb145 => ?_) (fun hb145 => ?_)
            · have _u := True.intro
              have q1 : decide (((takeCode (takeH x102.1 x102.2) x102.2 : Nat) : Int) = 1) = false := decide_eq_false (by omega)
              exact absurd (show (cond (cond (cond (!true) true (decide (((takeCode (takeH x102.1 x102.2) x102.2 : Nat) : Int) = 1))) true (!decide (((((takeH (takeH x102.1 x102.2) x102.2).rows).length : Nat) : Int) = (((((takeV x102.1 x102.2).1).rows).length : Nat) : Int)))) true (cond (decide ((((takeV x102.1 x102.2).2.1 : Nat) : Int) = 1)) (!decide (((takeCode (takeH x102.1 x102.2) x102.2 : Nat) : Int) = 2)) false)) = false by first | (rw [q1, thr hz4, decide_eq_true (by omega)]; rfl) | (simp only [q1, thr hz4, hz3]; simp)) (by rw [hb145]; simp)
              --end
            · have _u := True.intro
              have _h := hb145
              refine AW.skip ?_
              refine AW.seq ?_
              refine AW.region ?_
              refine ARun.pure (PureOp.assign rfl .bool) rfl rfl (Nat.le_of_ble_eq_true rfl) ?_
              refine ARun.nil ?_
              refine AW.ret (show ResL _ _ [.tmp 4] _ from resB rfl ?_)
              rfl
          · have _u := True.intro
            have _h := hb121
            refine AW.skip ?_
            refine AW.seq ?_
            refine AW.region ?_
            refine ARun.pure (PureOp.assign rfl .bool) rfl rfl (Nat.le_of_ble_eq_true rfl) ?_
            refine ARun.nil ?_
            refine AW.ret (show ResL _ _ [.tmp 4] _ from resB rfl ?_)
            rfl

set_option maxRecDepth 100000 in
theorem lifted_Folds (os : Os) (started : os.Started) (H : Type) (enc : TypeId × Value → H) :
    ReturnsInHanded {} Try.checked os 8 .any (Rows.fnFoldsSpec.pre6 enc Try.prog Try.f8 Rows.fnFoldsRow.domain false) (Rows.fnFoldsSpec.post enc Try.prog Try.f8 false true false false) := by
  refine returnsInHanded_of_change (C := Try.checked) own started (by kernel_rfl) Try.func8
    (ChangeSpec.witness6 (enc := enc) (C := Try.checked) false ⟨#[], #[.slice none 0 0, .slice none 0 0], []⟩ 8 (by kernel_rfl) (by kernel_rfl) (by kernel_rfl) (by kernel_rfl)) ?_
  intro W base args ds gs before hval0 hW hcnd _
  have hval : ∀ (j : Nat) t v, Try.f8.params[j]? = some t → args[j]? = some v → Value.okWide Try.prog W .any base t v := hval0
  have hW' := hW
  obtain ⟨p, q, hA0, hV, rfl, hfz, hnd⟩ := hW
  have hA : DataW.TrodAll enc Try.prog W 0 (fun _ => true) true Try.f8.params.toList args.toList ds p := hA0
  rw [Try.params8] at hA hval
  obtain ⟨v0, vs0, d0, ds0, p0, q0, hargs, rfl, rfl, h0, r0⟩ := trodAll_cons hA
  obtain ⟨v1, vs1, d1, ds1, p1, q1, rfl, rfl, rfl, h1, r1⟩ := trodAll_cons r0
  obtain ⟨rfl, rfl, rfl⟩ := trodAll_nil r1
  obtain rfl : args = #[v0, v1] := by cases args; simp_all
  obtain ⟨rfl, rfl⟩ := trodVars_none hV
  obtain ⟨x0, R0⟩ := OpensC.arg opensC_62 h0
  have E0 : DS W (· < W.heap.size) (.one (.lst 1 x0.length (fun i0 _ => .int .u8 (((x0.getD i0 0).toNat : Nat) : Int)))) v0 := DS.one_of (by obtain ⟨a, n, c, rfl⟩ := okWide_slice Try.underlying62 (hval 0 62 v0 rfl rfl); rfl) R0
  obtain ⟨x1, R1⟩ := OpensC.arg opensC_62 h1
  have E1 : DS W (· < W.heap.size) (.one (.lst 1 x1.length (fun i0 _ => .int .u8 (((x1.getD i0 0).toNat : Nat) : Int)))) v1 := DS.one_of (by obtain ⟨a, n, c, rfl⟩ := okWide_slice Try.underlying62 (hval 1 62 v1 rfl rfl); rfl) R1
  clear hA0 hval0
  refine (law_Folds x0 x1 W (· < W.heap.size) _ ⟨fun _ h => h, trivial⟩ ⟨_, _, rfl, E0, ⟨_, _, rfl, E1, rfl⟩⟩).mono fun e W' ⟨he, hg⟩ => ?_
  subst he
  exact ⟨_, rfl, law_post hW' rfl laidOut (by kernel_rfl) hg rfl rfl Try.underlying4⟩
/-- The statement. -/
theorem proved_Folds : Rows.FnFoldsSaid :=
  OpenClaim.holds_of_wide 8 Try.f8 rfl rfl rfl rfl rfl rfl rfl ⟨rfl, rfl, rfl, rfl, rfl⟩ rfl rfl rfl rfl rfl (by kernel_rfl) Try.func8 (by kernel_rfl)
    (of_decide_eq_true (by kernel_rfl)) (by unfold Func.isWrapper; first | (rw [if_pos (by decide +kernel)]; kernel_rfl) | (rw [if_neg (by decide +kernel)]; exact ⟨rfl, rfl⟩))
    (fun os started H enc _ => lifted_Folds os started H enc)
#print axioms proved_Folds
end Go.Proofs.Ytmfkmifkkplidaa

