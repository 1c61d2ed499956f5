/-
  Proved: the law FnExactHeadText returns true for every input: the program's HeadText answers what the reference's does. Conditions: the listed tables of the library hold what the program's text lays in them (the card ties them).
-/
import Derived.Test.YtmfkmifkkplidaaDoorTie
import Derived.Test.YtmfkmifkkplidaaDoorCards
import Derived.LaidMore
import Derived.LaidSub
import Derived.MakeChecks
import Derived.SevenTiedAt
import Derived.Stop.Joined
import Derived.Test.YtmfkmifkkplidaaDoorZb2
namespace Go.Proofs.YtmfkmifkkplidaaDoor
open Go.ChangeShapes Go.WideShapes Go.ChangeAt Go.RowKit Go.BigFrame Go.Deep
set_option linter.unusedVariables false
set_option linter.unusedSimpArgs false
theorem vht_ag_32_2 : aggB Tryd.prog 32 2 = true := by kernel_rfl
theorem vht_ag_37_2 : aggB Tryd.prog 37 2 = true := by kernel_rfl
theorem vht_bo_4 : boolB Tryd.prog 4 = true := by kernel_rfl
theorem vht_ca_10 : callB Tryd.prog 10 = true := by kernel_rfl
theorem vht_ca_11 : callB Tryd.prog 11 = true := by kernel_rfl
theorem vht_ca_12 : callB Tryd.prog 12 = true := by kernel_rfl
theorem vht_ca_13 : callB Tryd.prog 13 = true := by kernel_rfl
theorem vht_ca_9 : callB Tryd.prog 9 = true := by kernel_rfl
theorem vht_sz_37_2 : sizeB Tryd.prog 37 2 = true := by kernel_rfl
/-- What the row lists. -/
def laidD : List (String × DataW Unit) := [("math/bits.deBruijn32tab", Rows.laid_math_bits_deBruijn32tab), ("math/bits.deBruijn64tab", Rows.laid_math_bits_deBruijn64tab), ("internal/strconv.uint64pow10", Rows.laid_internal_strconv_uint64pow10)]
theorem gTenType : (Tryd.prog.globals[0]?).map (·.type) = some 91 := by kernel_rfl
theorem ten_only : (laidD.filter fun x => x.1 == "internal/strconv.uint64pow10") = [("internal/strconv.uint64pow10", Lib.tabData .u64 Lib.pow10Tab)] := by kernel_rfl
theorem pre_of_laid {W : World} (h : laidMetH Tryd.prog laidD W) : Pre W.heap.size W := by
  rw [MakeChecks.laidMetH_plain _ _ _ (by kernel_rfl)] at h
  have hL := laidMet.filter (fun x => x.1 == "internal/strconv.uint64pow10") h
  rw [ten_only] at hL
  have ht : Lib.TabIs Tryd.prog W "internal/strconv.uint64pow10" .u64 Lib.pow10Tab := Lib.tabIs_of_head gTen gTenType Tryd.underlying91 Tryd.underlying84 (by kernel_rfl) (by kernel_rfl) hL
  refine ⟨?_, ht⟩
  unfold Lib.TabIs World.var? at ht
  rw [gTen] at ht
  simp only [Option.bind_some] at ht
  by_cases h0 : 0 < W.heap.size
  · exact h0
  · rw [Array.getElem?_eq_none (by omega)] at ht; cases ht
theorem door_met (os : Os) (args : Array Value) : laidMetH Tryd.prog laidD ((World.doorLaid Tryd.prog 24 os).forCall (fun _ _ => 0) ⟨#[], args, []⟩).memory :=
  laidMetH_of_parts3 (fuel := 8) (laidMet_of_run' 8 (by kernel_rfl) (by kernel_rfl)) (by kernel_rfl) (by kernel_rfl)

theorem opensC_9 : OpensC Tryd.prog 9 (fun x : ByteArray => [.str x]) := OpensC.string Tryd.underlying9
theorem opensC_3 : OpensC Tryd.prog 3 (fun x : Int => [.int .i64 x]) := OpensC.int Tryd.underlying3
theorem opensC_79 : OpensC Tryd.prog 79 (fun x : GSample => [.int .i64 x.at_, .int .i64 x.value]) := fun H eh w fuel cs x h => by
  have hS : Tryd.prog.underlying 79 = some (.struct (Tryd.prog.fieldsOf 79)) := by kernel_rfl
  obtain ⟨xs, n, _, rfl, hl, hlen, hf⟩ := DataW.trod_struct hS h
  have hsz : (Tryd.prog.fieldsOf 79).size = 2 := by kernel_rfl
  have hC : Tryd.prog.cellsOf 79 = 2 := by kernel_rfl
  rw [hC] at hl
  have t0 : ((Tryd.prog.fieldsOf 79)[0]?).map (fun f => (f.type, f.offset, Tryd.prog.cellsOf f.type)) = some (3, 0, 1) := by kernel_rfl
  obtain ⟨f0, j0, y0⟩ := Option.map_eq_some_iff.1 t0
  simp only [Prod.mk.injEq] at y0
  have g0 := hf 0 f0 j0
  rw [y0.2.2, y0.2.1, y0.1, List.getElem?_eq_getElem (by omega)] at g0
  obtain ⟨a0, r0⟩ := opensC_3 H eh w n _ _ g0
  have t1 : ((Tryd.prog.fieldsOf 79)[1]?).map (fun f => (f.type, f.offset, Tryd.prog.cellsOf f.type)) = some (3, 1, 1) := by kernel_rfl
  obtain ⟨f1, j1, y1⟩ := Option.map_eq_some_iff.1 t1
  simp only [Prod.mk.injEq] at y1
  have g1 := hf 1 f1 j1
  rw [y1.2.2, y1.2.1, y1.1, List.getElem?_eq_getElem (by omega)] at g1
  obtain ⟨a1, r1⟩ := opensC_3 H eh w n _ _ g1
  have e2 : DL w (· < w.heap.size) [] (cs.drop 2) := List.drop_of_length_le (by omega)
  have e1 := DL.part (o := 1) (s := 1) r1 e2
  have e0 := DL.part (o := 0) (s := 1) r0 e1
  exact ⟨⟨a0, a1⟩, e0⟩
theorem opensC_55 : OpensC Tryd.prog 55 (fun x : List GSample => [.lst 2 x.length (fun i0 j0 => ([.int .i64 ((x.getD i0 (default : GSample)).at_), .int .i64 ((x.getD i0 (default : GSample)).value)] : List AV).getD j0 (.con undef))]) := OpensC.slice (default : GSample) Tryd.underlying55 (by kernel_rfl) (by decide) opensC_79 (fun _ => rfl) (fun l i j _ hj => match j, hj with | 0, _ => rfl | 1, _ => rfl | _ + 2, h => absurd h (by omega))
theorem opensC_57 : OpensC Tryd.prog 57 (fun x : GRow => [.str x.name, .lst 2 x.samples.length (fun i0 j0 => ([.int .i64 ((x.samples.getD i0 (default : GSample)).at_), .int .i64 ((x.samples.getD i0 (default : GSample)).value)] : List AV).getD j0 (.con undef))]) := fun H eh w fuel cs x h => by
  have hS : Tryd.prog.underlying 57 = some (.struct (Tryd.prog.fieldsOf 57)) := by kernel_rfl
  obtain ⟨xs, n, _, rfl, hl, hlen, hf⟩ := DataW.trod_struct hS h
  have hsz : (Tryd.prog.fieldsOf 57).size = 2 := by kernel_rfl
  have hC : Tryd.prog.cellsOf 57 = 2 := by kernel_rfl
  rw [hC] at hl
  have t0 : ((Tryd.prog.fieldsOf 57)[0]?).map (fun f => (f.type, f.offset, Tryd.prog.cellsOf f.type)) = some (9, 0, 1) := by kernel_rfl
  obtain ⟨f0, j0, y0⟩ := Option.map_eq_some_iff.1 t0
  simp only [Prod.mk.injEq] at y0
  have g0 := hf 0 f0 j0
  rw [y0.2.2, y0.2.1, y0.1, List.getElem?_eq_getElem (by omega)] at g0
  obtain ⟨a0, r0⟩ := opensC_9 H eh w n _ _ g0
  have t1 : ((Tryd.prog.fieldsOf 57)[1]?).map (fun f => (f.type, f.offset, Tryd.prog.cellsOf f.type)) = some (55, 1, 1) := by kernel_rfl
  obtain ⟨f1, j1, y1⟩ := Option.map_eq_some_iff.1 t1
  simp only [Prod.mk.injEq] at y1
  have g1 := hf 1 f1 j1
  rw [y1.2.2, y1.2.1, y1.1, List.getElem?_eq_getElem (by omega)] at g1
  obtain ⟨a1, r1⟩ := opensC_55 H eh w n _ _ g1
  have e2 : DL w (· < w.heap.size) [] (cs.drop 2) := List.drop_of_length_le (by omega)
  have e1 := DL.part (o := 1) (s := 1) r1 e2
  have e0 := DL.part (o := 0) (s := 1) r0 e1
  exact ⟨⟨a0, a1⟩, e0⟩
theorem opensC_30 : OpensC Tryd.prog 30 (fun x : List GRow => [.lst 2 x.length (fun i0 j0 => ([.str ((x.getD i0 (default : GRow)).name), .lst 2 (((x.getD i0 (default : GRow)).samples).length) (fun i1 j1 => ([.int .i64 ((((x.getD i0 (default : GRow)).samples).getD i1 (default : GSample)).at_), .int .i64 ((((x.getD i0 (default : GRow)).samples).getD i1 (default : GSample)).value)] : List AV).getD j1 (.con undef))] : List AV).getD j0 (.con undef))]) := OpensC.slice (default : GRow) Tryd.underlying30 (by kernel_rfl) (by decide) opensC_57 (fun _ => rfl) (fun l i j _ hj => match j, hj with | 0, _ => rfl | 1, _ => rfl | _ + 2, h => absurd h (by omega))
theorem opensC_32 : OpensC Tryd.prog 32 (fun x : GHead => [.lst 2 x.rows.length (fun i0 j0 => ([.str ((x.rows.getD i0 (default : GRow)).name), .lst 2 (((x.rows.getD i0 (default : GRow)).samples).length) (fun i1 j1 => ([.int .i64 ((((x.rows.getD i0 (default : GRow)).samples).getD i1 (default : GSample)).at_), .int .i64 ((((x.rows.getD i0 (default : GRow)).samples).getD i1 (default : GSample)).value)] : List AV).getD j1 (.con undef))] : List AV).getD j0 (.con undef)), .int .i64 x.offset]) := fun H eh w fuel cs x h => by
  have hS : Tryd.prog.underlying 32 = some (.struct (Tryd.prog.fieldsOf 32)) := by kernel_rfl
  obtain ⟨xs, n, _, rfl, hl, hlen, hf⟩ := DataW.trod_struct hS h
  have hsz : (Tryd.prog.fieldsOf 32).size = 2 := by kernel_rfl
  have hC : Tryd.prog.cellsOf 32 = 2 := by kernel_rfl
  rw [hC] at hl
  have t0 : ((Tryd.prog.fieldsOf 32)[0]?).map (fun f => (f.type, f.offset, Tryd.prog.cellsOf f.type)) = some (30, 0, 1) := by kernel_rfl
  obtain ⟨f0, j0, y0⟩ := Option.map_eq_some_iff.1 t0
  simp only [Prod.mk.injEq] at y0
  have g0 := hf 0 f0 j0
  rw [y0.2.2, y0.2.1, y0.1, List.getElem?_eq_getElem (by omega)] at g0
  obtain ⟨a0, r0⟩ := opensC_30 H eh w n _ _ g0
  have t1 : ((Tryd.prog.fieldsOf 32)[1]?).map (fun f => (f.type, f.offset, Tryd.prog.cellsOf f.type)) = some (3, 1, 1) := by kernel_rfl
  obtain ⟨f1, j1, y1⟩ := Option.map_eq_some_iff.1 t1
  simp only [Prod.mk.injEq] at y1
  have g1 := hf 1 f1 j1
  rw [y1.2.2, y1.2.1, y1.1, List.getElem?_eq_getElem (by omega)] at g1
  obtain ⟨a1, r1⟩ := opensC_3 H eh w n _ _ g1
  have e2 : DL w (· < w.heap.size) [] (cs.drop 2) := List.drop_of_length_le (by omega)
  have e1 := DL.part (o := 1) (s := 1) r1 e2
  have e0 := DL.part (o := 0) (s := 1) r0 e1
  exact ⟨⟨a0, a1⟩, e0⟩

theorem law_HeadText (x0 : GHead) : Fn Tryd.prog 4 [.agg [.lst 2 x0.rows.length (fun i0 j0 => ([.str ((x0.rows.getD i0 (default : GRow)).name), .lst 2 (((x0.rows.getD i0 (default : GRow)).samples).length) (fun i1 j1 => ([.int .i64 ((((x0.rows.getD i0 (default : GRow)).samples).getD i1 (default : GSample)).at_), .int .i64 ((((x0.rows.getD i0 (default : GRow)).samples).getD i1 (default : GSample)).value)] : List AV).getD j1 (.con undef))] : List AV).getD j0 (.con undef)), .int .i64 x0.offset]] (.one (.bool true)) := by
  refine Fn.of_body (fn := Tryd.f4) Tryd.func4 rfl (Nat.le_of_ble_eq_true rfl) trivial ?_
  intro w0
  show AW _ 40 _ _ _ _
  refine AW.seq ?_
  refine AW.region ?_
  refine ARun.box (id := 0) rfl (.tmp rfl) (SV.cells_of (by exact ⟨trivial, trivial, trivial⟩)) ⟨rfl, (by repeat first | exact trivial | refine ⟨by decide, by first | rfl | exact trivial | (intro i j; first | rfl | exact getD_no rfl | (dsimp only; split <;> first | rfl | exact getD_no rfl) | exact scl_no (by apply_assumption) _), ?_⟩)⟩ rfl rfl rfl (Nat.le_of_ble_eq_true rfl) ?_
  refine ARun.pure (PureOp.assign rfl .bool) rfl rfl (Nat.le_of_ble_eq_true rfl) ?_
  refine ARun.nil ?_
  refine AW.seq ?_
  refine AW.region ?_
  refine ARun.pure (PureOp.assign rfl .int) rfl rfl (Nat.le_of_ble_eq_true rfl) ?_
  refine ARun.nil ?_
  refine AW.seq ?_
  refine AW.region ?_
  refine ARun.pure (PureOp.loadPtrAgg rfl (.tmp rfl) vht_ag_32_2 rfl rfl (Nat.le_of_ble_eq_true rfl) (Nat.le_of_ble_eq_true rfl)) rfl rfl (Nat.le_of_ble_eq_true rfl) ?_
  refine ARun.pure (PureOp.move rfl (.tmp rfl)) rfl rfl (Nat.le_of_ble_eq_true rfl) ?_
  refine ARun.pure (PureOp.call rfl (v_szHead x0 1048576 (by first | omega | (unfold szR at *; split at * <;> omega))) ⟨⟨_, (.tmp rfl), ⟨.lst, .int, trivial⟩⟩, ⟨_, (.tmp rfl), .int⟩, trivial⟩ vht_ca_9 trivial) rfl rfl (Nat.le_of_ble_eq_true rfl) ?_
  refine ARun.pure (PureOp.assign rfl (.tmp rfl)) rfl rfl (Nat.le_of_ble_eq_true rfl) ?_
  refine ARun.nil ?_
  refine AW.seq ?_
  refine AW.seq ?_
  refine AW.region ?_
  refine ARun.pure (PureOp.move rfl (.tmp rfl)) rfl rfl (Nat.le_of_ble_eq_true rfl) ?_
  refine ARun.pure (PureOp.intOp rfl (.tmp rfl) .int rfl) rfl rfl (Nat.le_of_ble_eq_true rfl) ?_
  refine ARun.nil ?_
  refine AW.cond (.tmp rfl) (fun hb1 => ?_) (fun hb1 => ?_)
  · have _u := True.intro
    replace hb1 := of_decide_eq_true hb1
    refine AW.seq ?_
    refine AW.region ?_
    refine ARun.pure (PureOp.assign rfl .bool) rfl rfl (Nat.le_of_ble_eq_true rfl) ?_
    refine ARun.nil ?_
    refine AW.ret (show ResL _ _ [.tmp 2] _ from resB rfl ?_)
    rfl
  · have _u := True.intro
    replace hb1 := of_decide_eq_false hb1
    obtain ⟨hs2, hs2b, hs2c⟩ := szR_ok (by omega) hb1
    refine AW.skip ?_
    refine AW.seq ?_
    refine AW.region ?_
    refine ARun.pure (PureOp.loadPtrAgg rfl (.tmp rfl) vht_ag_32_2 rfl rfl (Nat.le_of_ble_eq_true rfl) (Nat.le_of_ble_eq_true rfl)) rfl rfl (Nat.le_of_ble_eq_true rfl) ?_
    refine ARun.fresh (FreshOp.callS rfl (v_toHead x0 (Small.mk (by omega))) ⟨⟨_, (.tmp rfl), ⟨.lst, .int, trivial⟩⟩, trivial⟩ vht_ca_11 rfl) rfl rfl (Nat.le_of_ble_eq_true rfl) ?_
    refine ARun.pure (PureOp.call rfl (v_sHeadText x0) ⟨⟨_, (.tmp rfl), ⟨.frs, .int, trivial⟩⟩, trivial⟩ vht_ca_10 ⟨headV_plain _, trivial⟩) rfl rfl (Nat.le_of_ble_eq_true rfl) ?_
    refine ARun.pure (PureOp.move rfl (.tmp rfl)) rfl rfl (Nat.le_of_ble_eq_true rfl) ?_
    refine ARun.pure (PureOp.ext2a rfl (.tmp rfl)) rfl rfl (Nat.le_of_ble_eq_true rfl) ?_
    refine ARun.pure (PureOp.ext2b rfl (.tmp rfl)) rfl rfl (Nat.le_of_ble_eq_true rfl) ?_
    refine ARun.pure (PureOp.assign rfl (.tmp rfl)) rfl rfl (Nat.le_of_ble_eq_true rfl) ?_
    refine ARun.pure (PureOp.assign rfl (.tmp rfl)) rfl rfl (Nat.le_of_ble_eq_true rfl) ?_
    refine ARun.nil ?_
    refine AW.seq ?_
    refine AW.region ?_
    refine ARun.pure (PureOp.loadPtrAgg rfl (.tmp rfl) vht_ag_32_2 rfl rfl (Nat.le_of_ble_eq_true rfl) (Nat.le_of_ble_eq_true rfl)) rfl rfl (Nat.le_of_ble_eq_true rfl) ?_
    refine ARun.fresh (FreshOp.callS rfl (v_toHead x0 (Small.mk (by omega))) ⟨⟨_, (.tmp rfl), ⟨.lst, .int, trivial⟩⟩, trivial⟩ vht_ca_11 rfl) rfl rfl (Nat.le_of_ble_eq_true rfl) ?_
    refine ARun.alloc (id := 1) (l := [.lst 2 0 (fun _ _ => .con undef), .int .i64 0]) (z := (.agg #[.slice none 0 0, .int .i64 0])) rfl (by kernel_rfl) (fun _ _ _ => ⟨_, _, rfl, ⟨none, 0, rfl, Nat.le_refl _, by decide, fun _ => rfl, fun i hi => absurd hi (by omega)⟩, ⟨_, _, rfl, rfl, rfl⟩⟩) ⟨rfl, (by repeat first | exact trivial | refine ⟨by decide, by first | rfl | exact trivial | (intro i j; first | rfl | exact getD_no rfl | (dsimp only; split <;> first | rfl | exact getD_no rfl) | exact scl_no (by apply_assumption) _), ?_⟩)⟩ rfl rfl rfl (Nat.le_of_ble_eq_true rfl) ?_
    refine ARun.store rfl (.tmp rfl) (.tmp rfl) (SV.cells_of (by exact ⟨trivial, trivial, trivial⟩)) rfl (Nat.le_of_ble_eq_true rfl) vht_sz_37_2 rfl rfl ?_
    refine ARun.nil ?_
    refine AW.seq ?_
    refine AW.region ?_
    refine ARun.pure (PureOp.loadPtrAgg rfl (.tmp rfl) vht_ag_37_2 rfl rfl (Nat.le_of_ble_eq_true rfl) (Nat.le_of_ble_eq_true rfl)) rfl rfl (Nat.le_of_ble_eq_true rfl) ?_
    refine ARun.pure (PureOp.call rfl (v_iHeadText x0) ⟨⟨_, (.tmp rfl), ⟨.frs, .int, trivial⟩⟩, trivial⟩ vht_ca_12 ⟨headV_plain _, trivial⟩) rfl rfl (Nat.le_of_ble_eq_true rfl) ?_
    refine ARun.pure (PureOp.move rfl (.tmp rfl)) rfl rfl (Nat.le_of_ble_eq_true rfl) ?_
    refine ARun.pure (PureOp.ext2a rfl (.tmp rfl)) rfl rfl (Nat.le_of_ble_eq_true rfl) ?_
    refine ARun.pure (PureOp.ext2b rfl (.tmp rfl)) rfl rfl (Nat.le_of_ble_eq_true rfl) ?_
    refine ARun.pure (PureOp.assign rfl (.tmp rfl)) rfl rfl (Nat.le_of_ble_eq_true rfl) ?_
    refine ARun.pure (PureOp.assign rfl (.tmp rfl)) rfl rfl (Nat.le_of_ble_eq_true rfl) ?_
    refine ARun.nil ?_
    refine AW.seq ?_
    refine AW.seq ?_
    refine AW.region ?_
    refine ARun.pure (PureOp.move rfl (.tmp rfl)) rfl rfl (Nat.le_of_ble_eq_true rfl) ?_
    refine ARun.pure (PureOp.move rfl (.tmp rfl)) rfl rfl (Nat.le_of_ble_eq_true rfl) ?_
    refine ARun.pure (PureOp.strOp rfl (.tmp rfl) (.tmp rfl) rfl) rfl rfl (Nat.le_of_ble_eq_true rfl) ?_
    refine ARun.pure (PureOp.move rfl (.tmp rfl)) rfl rfl (Nat.le_of_ble_eq_true rfl) ?_
    refine ARun.gpure (want := false) (.tf rfl) (fun hg3 => PureOp.move rfl (.tmp rfl)) rfl rfl (Nat.le_of_ble_eq_true rfl) rfl (Nat.le_of_ble_eq_true rfl) ?_
    refine ARun.gpure (want := false) (.tf rfl) (fun hg4 => PureOp.move rfl (.tmp rfl)) rfl rfl (Nat.le_of_ble_eq_true rfl) rfl (Nat.le_of_ble_eq_true rfl) ?_
    refine ARun.gpure (want := false) (.tf rfl) (fun hg5 => PureOp.boolNe rfl (.gtmp rfl hg5) (.gtmp rfl hg5) vht_bo_4) rfl rfl (Nat.le_of_ble_eq_true rfl) rfl (Nat.le_of_ble_eq_true rfl) ?_
    refine ARun.pure (PureOp.pick rfl (.tmp rfl) (fun _ => .bool) (fun hp7 => .gtmp rfl (not_of hp7))) rfl rfl (Nat.le_of_ble_eq_true rfl) ?_
    refine ARun.nil ?_
    refine AW.cond (.tmp rfl) (fun hb8 => ?_) (fun hb8 => ?_)
    · have _u := True.intro
      exact absurd (show (cond (!decide ((headV x0).1 = (headV x0).1)) true (!(((headV x0).2) == ((headV x0).2)))) = false by simp) (by rw [hb8]; simp)
      --end
    · have _u := True.intro
      refine AW.skip ?_
      refine AW.seq ?_
      refine AW.seq ?_
      refine AW.any (by kernel_rfl) (by kernel_rfl) ?_
      refine AD.pure (PureOp.loadPtrAgg rfl (.tmp rfl) vht_ag_37_2 rfl rfl (Nat.le_of_ble_eq_true rfl) (Nat.le_of_ble_eq_true rfl)) rfl rfl (Nat.le_of_ble_eq_true rfl) ?_
      refine AD.pure (PureOp.loadPtrAgg rfl (.tmp rfl) vht_ag_32_2 rfl rfl (Nat.le_of_ble_eq_true rfl) (Nat.le_of_ble_eq_true rfl)) rfl rfl (Nat.le_of_ble_eq_true rfl) ?_
      refine AD.fresh (FreshOp.callS rfl (v_toHead x0 (Small.mk (by omega))) ⟨⟨_, (.tmp rfl), ⟨.lst, .int, trivial⟩⟩, trivial⟩ vht_ca_11 rfl) rfl rfl (Nat.le_of_ble_eq_true rfl) ?_
      refine AD.pure (PureOp.call rfl (v_eqHead x0 x0) ⟨⟨_, (.tmp rfl), ⟨.frs, .int, trivial⟩⟩, ⟨_, (.tmp rfl), ⟨.frs, .int, trivial⟩⟩, trivial⟩ vht_ca_13 trivial) rfl rfl (Nat.le_of_ble_eq_true rfl) ?_
      refine AD.pure (PureOp.not rfl (.tmp rfl)) rfl rfl (Nat.le_of_ble_eq_true rfl) ?_
      refine AD.nil ?_
      refine AW.cond (.tmp rfl) (fun hb9 => ?_) (fun hb9 => ?_)
      · have _u := True.intro
        replace hb9 := of_decide_eq_false (of_not hb9)
        exact absurd rfl hb9
        --end
      · have _u := True.intro
        replace hb9 := of_decide_eq_true (not_f hb9)
        refine AW.skip ?_
        refine AW.seq ?_
        refine AW.region ?_
        refine ARun.pure (PureOp.assign rfl .bool) rfl rfl (Nat.le_of_ble_eq_true rfl) ?_
        refine ARun.nil ?_
        refine AW.ret (show ResL _ _ [.tmp 2] _ from resB rfl ?_)
        rfl

set_option maxRecDepth 100000 in
theorem lifted_HeadText (os : Os) (started : os.Started) (H : Type) (enc : TypeId × Value → H) :
    ReturnsInHanded {} Tryd.checked os 4 .any (fun w args => (Rows.fnExactHeadTextSpec.pre enc Tryd.prog Tryd.f4 [] false w args ∧ laidMetH Tryd.prog laidD w) ∧ sizedMet enc Tryd.prog Tryd.f4 (OpenSpec.ofChange Rows.fnExactHeadTextSpec) false w args) (Rows.fnExactHeadTextSpec.post enc Tryd.prog Tryd.f4 false true false false) := by
  refine returnsInHanded_of_change_and (C := Tryd.checked) (X := fun w _ => laidMetH Tryd.prog laidD w) (fun _ _ _ hh h => h.of_heap hh) own started (by kernel_rfl) Tryd.func4
    (ChangeSpec.witness_shaped (enc := enc) (C := Tryd.checked) (os := os) (X := fun w _ => laidMetH Tryd.prog laidD w) false (World.doorLaid Tryd.prog 24 os) #[.agg #[.slice none 0 0, .int .i64 0]] 8 rfl (World.shaped_of_RefB (by kernel_rfl) (by kernel_rfl)) (by kernel_rfl) (by kernel_rfl) (by kernel_rfl) (door_met os _)) ?_
  intro W base args ds gs before hval0 hW _ _ hL _
  have hval : ∀ (j : Nat) t v, Tryd.f4.params[j]? = some t → args[j]? = some v → Value.okWide Tryd.prog W .any base t v := hval0
  have hW' := hW
  obtain ⟨p, q, hA0, hV, rfl, hfz, hnd⟩ := hW
  have hA : DataW.TrodAll enc Tryd.prog W 0 (fun _ => true) true Tryd.f4.params.toList args.toList ds p := hA0
  rw [Tryd.params4] at hA hval
  obtain ⟨v0, vs0, d0, ds0, p0, q0, hargs, rfl, rfl, h0, r0⟩ := trodAll_cons hA
  obtain ⟨rfl, rfl, rfl⟩ := trodAll_nil r0
  obtain rfl : args = #[v0] := by cases args; simp_all
  obtain ⟨rfl, rfl⟩ := trodVars_none hV
  obtain ⟨x0, R0⟩ := OpensC.arg opensC_32 h0
  have E0 : DS W (· < W.heap.size) (.agg [.lst 2 x0.rows.length (fun i0 j0 => ([.str ((x0.rows.getD i0 (default : GRow)).name), .lst 2 (((x0.rows.getD i0 (default : GRow)).samples).length) (fun i1 j1 => ([.int .i64 ((((x0.rows.getD i0 (default : GRow)).samples).getD i1 (default : GSample)).at_), .int .i64 ((((x0.rows.getD i0 (default : GRow)).samples).getD i1 (default : GSample)).value)] : List AV).getD j1 (.con undef))] : List AV).getD j0 (.con undef)), .int .i64 x0.offset]) v0 := DS.agg_of (let ⟨cs, e, _⟩ := okWide_struct Tryd.underlying32 (hval 0 32 v0 rfl rfl); ⟨cs, e⟩) R0
  clear hA0 hval0
  refine (law_HeadText x0 W (· < W.heap.size) _ ⟨fun _ h => h, pre_of_laid hL⟩ ⟨_, _, rfl, E0, rfl⟩).mono fun e W' ⟨he, hg⟩ => ?_
  subst he
  exact ⟨_, rfl, law_post hW' rfl laidOut (by kernel_rfl) hg rfl rfl Tryd.underlying4⟩
/-- The statement. -/
theorem said_HeadText : Rows.FnExactHeadTextSaid :=
  OpenClaim.holds_of_wide 4 Tryd.f4 rfl rfl rfl rfl rfl rfl rfl ⟨rfl, rfl, rfl, rfl, rfl⟩ rfl rfl rfl rfl rfl (by kernel_rfl) Tryd.func4 (by kernel_rfl)
    (of_decide_eq_true (by kernel_rfl)) (by unfold Func.isWrapper; first | (rw [if_pos (by decide +kernel)]; kernel_rfl) | (rw [if_neg (by decide +kernel)]; exact ⟨rfl, rfl⟩))
    (fun os started H enc _ => lifted_HeadText os started H enc)

/-- The tied card. -/
theorem proved_HeadText : Rows.FnExactHeadTextCardSaid :=
  Claim7.holds_tied_plain_at .later [] [.data, .data, .data] true (true, "bec9d1f71259e5010e695683d793a9b2aa89a2eb353b42f4fd5c73a6601d213a") false
    said_HeadText (fun _ h => by cases h) (by kernel_rfl) (fun _ h => by cases h) fnExactHeadText_row_tie rfl ⟨rfl, rfl⟩ (by kernel_rfl) rfl
    (fun f fn hf hfn => by
      obtain rfl : f = 4 := Option.some.inj ((show Tryd.prog.funcNamed "loop.example/g00522/laws.FnExactHeadText" = some 4 by kernel_rfl).symm.trans hf) |>.symm
      obtain rfl : fn = Tryd.f4 := (Option.some.inj (Tryd.func4.symm.trans hfn)).symm
      exact ⟨by kernel_rfl, fun j t ht => by
        rw [Tryd.params4] at ht
        have hm : t ∈ [32] := by simpa using Array.mem_of_getElem? ht
        have hall : ([32].all fun u => !Tryd.prog.wantsStandIn u) = true := by kernel_rfl
        exact (show Tryd.prog.wantsStandIn t = false by simpa using List.all_eq_true.1 hall t hm)⟩)
    (by kernel_rfl)
#print axioms proved_HeadText
end Go.Proofs.YtmfkmifkkplidaaDoor

