/-
  Part 3 of the proof: the texts of a seat's own library, joined.
-/
import Derived.Laws.CopyOwn
import Derived.Lib.Overlaps
import Derived.Lib.AppendZerosOnto
import Derived.Lib.ItoaLen
import Derived.Test.YtonfeiloekofdaaDoorM1
import Derived.Test.YtonfeiloekofdaaDoorM2
/-
  Heads copied.
-/
namespace Go.Proofs.YtonfeiloekofdaaDoor
open Go.ChangeShapes Go.WideShapes Go.ChangeAt Go.RowKit Go.BigFrame Go.Deep
set_option linter.unusedVariables false
set_option linter.unusedSimpArgs false
theorem vcl_ag_24_2 : aggB Tryd.prog 24 2 = true := by kernel_rfl
theorem vcl_ag_49_2 : aggB Tryd.prog 49 2 = true := by kernel_rfl
theorem vcl_el_22_2 : elemB Tryd.prog 22 2 = true := by kernel_rfl
theorem vcl_fi_24_0_0 : fieldB Tryd.prog 24 0 0 = true := by kernel_rfl
theorem vcl_fi_24_1_1 : fieldB Tryd.prog 24 1 1 = true := by kernel_rfl
theorem vcl_fi_49_0_0 : fieldB Tryd.prog 49 0 0 = true := by kernel_rfl
theorem vcl_fi_49_1_1 : fieldB Tryd.prog 49 1 1 = true := by kernel_rfl
theorem vcl_pl_22 : plainB Tryd.prog 22 = true := by kernel_rfl
theorem vcl_pl_3 : plainB Tryd.prog 3 = true := by kernel_rfl
theorem vcl_pl_47 : plainB Tryd.prog 47 = true := by kernel_rfl
theorem vcl_pl_9 : plainB Tryd.prog 9 = true := by kernel_rfl
theorem vcl_sl_22 : sliceB Tryd.prog 22 = true := by kernel_rfl
theorem vcl_sl_47 : sliceB Tryd.prog 47 = true := by kernel_rfl
theorem vcl_sz_22_1 : sizeB Tryd.prog 22 1 = true := by kernel_rfl
theorem vcl_sz_24_2 : sizeB Tryd.prog 24 2 = true := by kernel_rfl
theorem vcl_sz_49_2 : sizeB Tryd.prog 49 2 = true := by kernel_rfl
def rowC0 (h : GHead) (K i j : Nat) : AV := ([.str (h.rows.getD i (default : GRow)).name, .tre K i] : List AV).getD j (.con undef)
def rowX0 (h : GHead) (i : Nat) : AV := .lst 2 (h.rows.getD i (default : GRow)).samples.length (fun a b => ceSample ((h.rows.getD i (default : GRow)).samples.getD a (default : GSample)) b)
/-- A head small enough to be copied. -/
structure HdOk (h : GHead) : Prop where
  rows : h.rows.length ≤ 1048576
  smps : ∀ k, k < h.rows.length → (h.rows.getD k (default : GRow)).samples.length ≤ 1048576
theorem v_l13Own (h : GHead) (hw : HdOk h) : FnT Tryd.prog 15 [.agg [.lst 2 h.rows.length (fun i0 j0 => ([.str ((h.rows.getD i0 (default : GRow)).name), .lst 2 (((h.rows.getD i0 (default : GRow)).samples).length) (fun i1 j1 => ([.int .i64 ((((h.rows.getD i0 (default : GRow)).samples).getD i1 (default : GSample)).at_), .int .i64 ((((h.rows.getD i0 (default : GRow)).samples).getD i1 (default : GSample)).value)] : List AV).getD j1 (.con undef))] : List AV).getD j0 (.con undef)), .int .i64 h.offset]] (.agg [.lst 2 h.rows.length (fun i0 j0 => ([.str ((h.rows.getD i0 (default : GRow)).name), .lst 2 (((h.rows.getD i0 (default : GRow)).samples).length) (fun i1 j1 => ([.int .i64 ((((h.rows.getD i0 (default : GRow)).samples).getD i1 (default : GSample)).at_), .int .i64 ((((h.rows.getD i0 (default : GRow)).samples).getD i1 (default : GSample)).value)] : List AV).getD j1 (.con undef))] : List AV).getD j0 (.con undef)), .int .i64 h.offset]) := by
  obtain ⟨hr0, hs0⟩ := hw
  refine FnT.of_body (fn := Tryd.f15) Tryd.func15 rfl (Nat.le_of_ble_eq_true rfl)  ?_
  intro w0
  show AW _ 30 _ _ _ _
  refine AW.seq ?_
  refine AW.region ?_
  refine ARun.box (id := 0) rfl (.tmp rfl) (SV.cells_of (by exact ⟨trivial, trivial, trivial⟩)) ⟨rfl, (by repeat first | exact trivial | refine ⟨by decide, by first | rfl | exact trivial | (intro i j; first | rfl | exact getD_no rfl | (dsimp only; split <;> first | rfl | exact getD_no rfl) | exact scl_no (by apply_assumption) _), ?_⟩)⟩ rfl rfl rfl (Nat.le_of_ble_eq_true rfl) ?_
  refine ARun.alloc (id := 1) (l := [.con (.slice none 0 0), .int .i64 0]) (z := (.agg #[.slice none 0 0, .int .i64 0])) rfl (by kernel_rfl) (fun _ _ _ => ⟨_, _, rfl, rfl, ⟨_, _, rfl, rfl, rfl⟩⟩) ⟨rfl, (by repeat first | exact trivial | refine ⟨by decide, by first | rfl | exact trivial | (intro i j; first | rfl | exact getD_no rfl | (dsimp only; split <;> first | rfl | exact getD_no rfl) | exact scl_no (by apply_assumption) _), ?_⟩)⟩ rfl rfl rfl (Nat.le_of_ble_eq_true rfl) ?_
  refine ARun.nil ?_
  refine AW.seq ?_
  refine AW.region ?_
  refine ARun.pure (PureOp.fieldPtr rfl (.tmp rfl) vcl_fi_24_1_1) rfl rfl (Nat.le_of_ble_eq_true rfl) ?_
  refine ARun.pure (PureOp.loadPtr rfl (.tmp rfl) vcl_pl_3 rfl rfl (Nat.le_of_ble_eq_true rfl) (Nat.le_of_ble_eq_true rfl)) rfl rfl (Nat.le_of_ble_eq_true rfl) ?_
  refine ARun.pure (PureOp.build (ys := [.int .i64 h.offset]) (l := [.con (.slice none 0 0), .int .i64 0]) (pl := [(0, 1), (1, 1)]) (z := (.agg #[.slice none 0 0, .int .i64 0])) rfl (by kernel_rfl) (by kernel_rfl) (fun _ _ _ => ⟨_, _, rfl, rfl, ⟨_, _, rfl, rfl, rfl⟩⟩) ⟨(.tmp rfl), trivial, rfl, trivial⟩ rfl) rfl rfl (Nat.le_of_ble_eq_true rfl) ?_
  refine ARun.alloc (id := 2) (l := [.con (.slice none 0 0), .int .i64 0]) (z := (.agg #[.slice none 0 0, .int .i64 0])) rfl (by kernel_rfl) (fun _ _ _ => ⟨_, _, rfl, rfl, ⟨_, _, rfl, rfl, rfl⟩⟩) ⟨rfl, (by repeat first | exact trivial | refine ⟨by decide, by first | rfl | exact trivial | (intro i j; first | rfl | exact getD_no rfl | (dsimp only; split <;> first | rfl | exact getD_no rfl) | exact scl_no (by apply_assumption) _), ?_⟩)⟩ rfl rfl rfl (Nat.le_of_ble_eq_true rfl) ?_
  refine ARun.store rfl (.tmp rfl) (.tmp rfl) (SV.cells_of (by exact ⟨⟨rfl, (fun _ e => by cases e), (fun _ e => by cases e)⟩, trivial, trivial⟩)) rfl (Nat.le_of_ble_eq_true rfl) vcl_sz_24_2 rfl rfl ?_
  refine ARun.nil ?_
  refine AW.seq ?_
  refine AW.seq ?_
  refine AW.region ?_
  refine ARun.pure (PureOp.fieldPtr rfl (.tmp rfl) vcl_fi_24_0_0) rfl rfl (Nat.le_of_ble_eq_true rfl) ?_
  refine ARun.pure (PureOp.loadPtr rfl (.tmp rfl) vcl_pl_22 rfl rfl (Nat.le_of_ble_eq_true rfl) (Nat.le_of_ble_eq_true rfl)) rfl rfl (Nat.le_of_ble_eq_true rfl) ?_
  refine ARun.pure (PureOp.lenLst rfl (.tmp rfl) vcl_sl_22) rfl rfl (Nat.le_of_ble_eq_true rfl) ?_
  refine ARun.pure (PureOp.move rfl .int) rfl rfl (Nat.le_of_ble_eq_true rfl) ?_
  refine ARun.nil ?_
  refine AW.block ?_
  refine AW.fam (id := 4) (rowX0 h) ⟨rfl, (by repeat first | exact trivial | refine ⟨by decide, by first | rfl | exact trivial | (intro i j; first | rfl | exact getD_no rfl | (dsimp only; split <;> first | rfl | exact getD_no rfl) | exact scl_no (by apply_assumption) _), ?_⟩)⟩ ?_
  refine AW.nilCell 2 0 3 2 _ (rowC0 h 4) rfl rfl ⟨rfl, (by repeat first | exact trivial | refine ⟨by decide, by first | rfl | exact trivial | (intro i j; first | rfl | exact getD_no rfl | (dsimp only; split <;> first | rfl | exact getD_no rfl) | exact scl_no (by apply_assumption) _), ?_⟩)⟩ ?_
  -- objects are renamed
  refine AW.loopR (ι := Nat) (fun k => ⟨[(2, .one (.ptr 1 2 0 0)), (3, .one (.ptr 2 2 0 0)), (10, .one (.lst 2 h.rows.length (fun i0 j0 => ([.str ((h.rows.getD i0 (default : GRow)).name), .lst 2 (((h.rows.getD i0 (default : GRow)).samples).length) (fun i1 j1 => ([.int .i64 ((((h.rows.getD i0 (default : GRow)).samples).getD i1 (default : GSample)).at_), .int .i64 ((((h.rows.getD i0 (default : GRow)).samples).getD i1 (default : GSample)).value)] : List AV).getD j1 (.con undef))] : List AV).getD j0 (.con undef)))), (11, .one (.int .i64 (h.rows.length : Int))), (12, .one (.int .i64 (k : Int)))], [(1, .cells [.con (.slice none 0 0), .int .i64 0]), (2, .cells [.own 3 2 k, .int .i64 h.offset]), (3, .arr 2 k (rowC0 h 4)), (4, .trees k (rowX0 h))]⟩) (fun k => k ≤ h.rows.length) (fun k => h.rows.length - k) 0 (Nat.zero_le _) ⟨⟨⟨_, rfl, rfl⟩, ⟨_, rfl, rfl⟩, ⟨_, rfl, rfl⟩, ⟨_, rfl, rfl⟩, ⟨_, rfl, rfl⟩, trivial⟩, ⟨⟨_, rfl, rfl, Nat.le_refl _, fun _ _ _ _ => rfl⟩, ⟨_, rfl, rfl, Nat.le_refl _, fun _ _ _ _ => rfl⟩, ⟨_, rfl, rfl, Nat.le_refl _, fun _ _ _ _ => rfl⟩, ⟨_, rfl, fun _ _ => rfl⟩, trivial⟩⟩ ?_
  intro k hk
  refine AW.seq ?_
  refine AW.region ?_
  refine ARun.pure (PureOp.intOp rfl (.tmp rfl) (.tmp rfl) rfl) rfl rfl (Nat.le_of_ble_eq_true rfl) ?_
  refine ARun.nil ?_
  refine AW.seq ?_
  refine AW.cond (.tmp rfl) (fun hb1 => ?_) (fun hb1 => ?_)
  · have _u := True.intro
    replace hb1 := of_decide_eq_true hb1
    have hkl : k < h.rows.length := by omega
    have hsk := hs0 k hkl
    refine AW.skip ?_
    refine AW.seq ?_
    refine AW.block ?_
    refine AW.seq ?_
    refine AW.region ?_
    refine ARun.pure (PureOp.indexLst (i := k) rfl (.tmp rfl) vcl_el_22_2 (.tmp rfl) rfl (by omega)) rfl rfl (Nat.le_of_ble_eq_true rfl) ?_
    refine ARun.pure (PureOp.loadRefAgg rfl (.tmp rfl) vcl_ag_49_2 (Nat.le_of_ble_eq_true rfl)) rfl rfl (Nat.le_of_ble_eq_true rfl) ?_
    refine ARun.alloc (id := 5) (l := [.str ByteArray.empty, .con (.slice none 0 0)]) (z := (.agg #[.string ByteArray.empty, .slice none 0 0])) rfl (by kernel_rfl) (fun _ _ _ => ⟨_, _, rfl, ⟨rfl, by decide⟩, ⟨_, _, rfl, rfl, rfl⟩⟩) ⟨rfl, (by repeat first | exact trivial | refine ⟨by decide, by first | rfl | exact trivial | (intro i j; first | rfl | exact getD_no rfl | (dsimp only; split <;> first | rfl | exact getD_no rfl) | exact scl_no (by apply_assumption) _), ?_⟩)⟩ rfl rfl rfl (Nat.le_of_ble_eq_true rfl) ?_
    refine ARun.store rfl (.tmp rfl) (.tmp rfl) (SV.cells_of (by exact ⟨trivial, trivial, trivial⟩)) rfl (Nat.le_of_ble_eq_true rfl) vcl_sz_49_2 rfl rfl ?_
    refine ARun.nil ?_
    refine AW.anyE [4, 7, 9, 10, 12] [12, 10, 9, 8, 7, 4] [(1, .cells [.con (.slice none 0 0), .int .i64 0]), (5, .cells [.str ((h.rows.getD k (default : GRow)).name), .lst 2 (((h.rows.getD k (default : GRow)).samples).length) (fun i0 j0 => ([.int .i64 ((((h.rows.getD k (default : GRow)).samples).getD i0 (default : GSample)).at_), .int .i64 ((((h.rows.getD k (default : GRow)).samples).getD i0 (default : GSample)).value)] : List AV).getD j0 (.con undef))])] [(1, .cells [.con (.slice none 0 0), .int .i64 0]), (2, .cells [.own 3 2 k, .int .i64 h.offset]), (5, .cells [.str ((h.rows.getD k (default : GRow)).name), .lst 2 (((h.rows.getD k (default : GRow)).samples).length) (fun i0 j0 => ([.int .i64 ((((h.rows.getD k (default : GRow)).samples).getD i0 (default : GSample)).at_), .int .i64 ((((h.rows.getD k (default : GRow)).samples).getD i0 (default : GSample)).value)] : List AV).getD j0 (.con undef))])] 12 (by kernel_rfl) (by kernel_rfl) (by kernel_rfl) rfl rfl ⟨rfl, rfl, trivial⟩ ⟨rfl, rfl, rfl, trivial⟩ ?_
    refine ADE.early (PureOp.fieldPtr rfl (.tmp rfl) vcl_fi_24_0_0) rfl rfl (Nat.le_of_ble_eq_true rfl) (by kernel_rfl) rfl rfl ?_
    refine ADE.early (PureOp.loadPtr rfl (.tmp rfl) vcl_pl_22 rfl rfl (Nat.le_of_ble_eq_true rfl) (Nat.le_of_ble_eq_true rfl)) rfl rfl (Nat.le_of_ble_eq_true rfl) (by kernel_rfl) rfl rfl ?_
    refine ADE.early (PureOp.fieldPtr rfl (.tmp rfl) vcl_fi_49_0_0) rfl rfl (Nat.le_of_ble_eq_true rfl) (by kernel_rfl) rfl rfl ?_
    refine ADE.early (PureOp.loadPtr rfl (.tmp rfl) vcl_pl_9 rfl rfl (Nat.le_of_ble_eq_true rfl) (Nat.le_of_ble_eq_true rfl)) rfl rfl (Nat.le_of_ble_eq_true rfl) (by kernel_rfl) rfl rfl ?_
    refine ADE.eff (new := [6]) (s := .one (.own 6 2 0)) (F := [(20, .one (.own 6 2 0))]) (H' := [(1, .cells [.con (.slice none 0 0), .int .i64 0]), (2, .cells [.own 3 2 k, .int .i64 h.offset]), (3, .arr 2 k (rowC0 h 4)), (4, .trees k (rowX0 h)), (5, .cells [.str ((h.rows.getD k (default : GRow)).name), .lst 2 (((h.rows.getD k (default : GRow)).samples).length) (fun i0 j0 => ([.int .i64 ((((h.rows.getD k (default : GRow)).samples).getD i0 (default : GSample)).at_), .int .i64 ((((h.rows.getD k (default : GRow)).samples).getD i0 (default : GSample)).value)] : List AV).getD j0 (.con undef))]), (6, .arr 2 0 (fun _ _ => .con undef))]) (fun E hE Q rest hk => ?_) ⟨rfl, rfl⟩ rfl (fun _ e => by cases e; exact Nat.le_of_ble_eq_true rfl) rfl rfl ⟨rfl, rfl, trivial⟩ (fun _ => ⟨rfl, rfl, rfl, trivial⟩) ?_
    · refine ARun.slice0 (id := 6) (z := (.agg #[.int .i64 0, .int .i64 0])) (sz := 2) (by_ := 16) rfl (by kernel_rfl) (fun _ _ => .con undef) (fun _ _ => rfl) (Fr.ext ⟨rfl, (by repeat first | exact trivial | refine ⟨by decide, by first | rfl | exact trivial | (intro i j; first | rfl | exact getD_no rfl | (dsimp only; split <;> first | rfl | exact getD_no rfl) | exact scl_no (by apply_assumption) _), ?_⟩)⟩ (List.all_eq_true.1 hE _ (by decide))) rfl rfl (Nat.le_of_ble_eq_true rfl) ?_
      refine ARun.hle ?_ hk
      exact HeapLe.one rfl (HeapLe.one rfl (HeapLe.one rfl (HeapLe.one rfl (HeapLe.one rfl (HeapLe.one rfl trivial)))))
    refine ADE.early (PureOp.fieldPtr rfl (.tmp rfl) vcl_fi_49_1_1) rfl rfl (Nat.le_of_ble_eq_true rfl) (by kernel_rfl) rfl rfl ?_
    refine ADE.early (PureOp.loadPtr rfl (.tmp rfl) vcl_pl_47 rfl rfl (Nat.le_of_ble_eq_true rfl) (Nat.le_of_ble_eq_true rfl)) rfl rfl (Nat.le_of_ble_eq_true rfl) (by kernel_rfl) rfl rfl ?_
    refine ADE.eff (new := [7]) (s := .one (.tre 4 k)) (F := [(23, .one (.tre 4 k)), (23, .one (.own 7 2 (0 + ((h.rows.getD k (default : GRow)).samples).length)))]) (H' := [(1, .cells [.con (.slice none 0 0), .int .i64 0]), (2, .cells [.own 3 2 k, .int .i64 h.offset]), (3, .arr 2 k (rowC0 h 4)), (4, .trees (k + 1) (rowX0 h)), (5, .cells [.str ((h.rows.getD k (default : GRow)).name), .lst 2 (((h.rows.getD k (default : GRow)).samples).length) (fun i0 j0 => ([.int .i64 ((((h.rows.getD k (default : GRow)).samples).getD i0 (default : GSample)).at_), .int .i64 ((((h.rows.getD k (default : GRow)).samples).getD i0 (default : GSample)).value)] : List AV).getD j0 (.con undef))])]) (fun E hE Q rest hk => ?_) ⟨rfl, rfl⟩ rfl (fun _ e => by cases e; exact Nat.le_of_ble_eq_true rfl) rfl rfl ⟨rfl, rfl, trivial⟩ (fun _ => ⟨rfl, rfl, rfl, trivial⟩) ?_
    · refine ARun.append (id := 7) (sz := 2) (n := 0) (m := ((h.rows.getD k (default : GRow)).samples).length) (by_ := 16) (z := (.agg #[.int .i64 0, .int .i64 0])) (f := fun _ _ => .con undef) (g := fun i0 j0 => ([.int .i64 ((((h.rows.getD k (default : GRow)).samples).getD i0 (default : GSample)).at_), .int .i64 ((((h.rows.getD k (default : GRow)).samples).getD i0 (default : GSample)).value)] : List AV).getD j0 (.con undef)) (h := fun ia ja => if ia < 0 then (fun _ _ => .con undef : Nat → Nat → AV) ia ja else (fun i0 j0 => ([.int .i64 ((((h.rows.getD k (default : GRow)).samples).getD i0 (default : GSample)).at_), .int .i64 ((((h.rows.getD k (default : GRow)).samples).getD i0 (default : GSample)).value)] : List AV).getD j0 (.con undef) : Nat → Nat → AV) (ia - 0) ja) rfl (by kernel_rfl) rfl vcl_sl_47 (.own (.tmp rfl) rfl rfl rfl (Nat.le_refl _) (fun _ _ _ _ => rfl)) (.lst (.tmp rfl)) (by decide) (fun i j hi hj => match j, hj with | 0, _ => rfl | 1, _ => rfl | _ + 2, h => absurd h (by omega)) (fun _ _ _ _ => rfl) (by omega) (by omega) (Fr.ext ⟨rfl, (by repeat first | exact trivial | refine ⟨by decide, by first | rfl | exact trivial | (intro i j; first | rfl | exact getD_no rfl | (dsimp only; split <;> first | rfl | exact getD_no rfl) | exact scl_no (by apply_assumption) _), ?_⟩)⟩ (List.all_eq_true.1 hE _ (by decide))) (fun i j => by dsimp only; (repeat' split) <;> first | rfl | exact getD_no rfl) rfl rfl (Nat.le_of_ble_eq_true rfl) ?_
      refine ARun.closeRow 23 7 4 k 2 (0 + ((h.rows.getD k (default : GRow)).samples).length) (m' := (h.rows.getD k (default : GRow)).samples.length) (X := rowX0 h) (g := fun a b => ceSample ((h.rows.getD k (default : GRow)).samples.getD a (default : GSample)) b) rfl rfl rfl rfl (Nat.le_refl _) rfl rfl rfl (Nat.zero_add _).symm (fun i j hi hj => match j, hj with | 0, _ => (by show (if i < 0 then AV.con undef else _) = _; exact app0) | 1, _ => (by show (if i < 0 then AV.con undef else _) = _; exact app0) | _ + 2, h => absurd h (by omega)) (fun i j hi hj => match j, hj with | 0, _ => rfl | 1, _ => rfl | _ + 2, h => absurd h (by omega)) ?_
      refine ARun.hle ?_ hk
      exact HeapLe.one rfl (HeapLe.one rfl (HeapLe.one rfl (HeapLe.one rfl (HeapLe.one rfl trivial))))
    refine ADE.early (PureOp.build (ys := [.str ((h.rows.getD k (default : GRow)).name), .tre 4 k]) (l := [.str ByteArray.empty, .con (.slice none 0 0)]) (pl := [(0, 1), (1, 1)]) (z := (.agg #[.string ByteArray.empty, .slice none 0 0])) rfl (by kernel_rfl) (by kernel_rfl) (fun _ _ _ => ⟨_, _, rfl, ⟨rfl, by decide⟩, ⟨_, _, rfl, rfl, rfl⟩⟩) ⟨(.tmp rfl), trivial, rfl, ⟨(.tmp rfl), trivial, rfl, trivial⟩⟩ rfl) rfl rfl (Nat.le_of_ble_eq_true rfl) (by kernel_rfl) rfl rfl ?_
    refine ADE.eff (new := [8]) (s := .one (.own 8 2 1)) (F := [(25, .one (.own 8 2 1))]) (H' := [(1, .cells [.con (.slice none 0 0), .int .i64 0]), (2, .cells [.own 3 2 k, .int .i64 h.offset]), (3, .arr 2 k (rowC0 h 4)), (4, .trees (k + 1) (rowX0 h)), (5, .cells [.str ((h.rows.getD k (default : GRow)).name), .lst 2 (((h.rows.getD k (default : GRow)).samples).length) (fun i0 j0 => ([.int .i64 ((((h.rows.getD k (default : GRow)).samples).getD i0 (default : GSample)).at_), .int .i64 ((((h.rows.getD k (default : GRow)).samples).getD i0 (default : GSample)).value)] : List AV).getD j0 (.con undef))]), (8, .arr 2 1 (fun _ jc => ([.str ((h.rows.getD k (default : GRow)).name), .tre 4 k] : List AV).getD jc (.con undef)))]) (fun E hE Q rest hk => ?_) ⟨rfl, rfl⟩ rfl (fun _ e => by cases e; exact Nat.le_of_ble_eq_true rfl) rfl rfl ⟨rfl, rfl, trivial⟩ (fun _ => ⟨rfl, rfl, rfl, trivial⟩) ?_
    · refine ARun.slice1 (id := 8) (z := (.agg #[.string ByteArray.empty, .slice none 0 0])) (by_ := 40) rfl (.tmp rfl) (SV.cells_of (by exact ⟨trivial, trivial, trivial⟩)) (by kernel_rfl) rfl rfl (by decide) (by decide) (Fr.ext ⟨rfl, (by repeat first | exact trivial | refine ⟨by decide, by first | rfl | exact trivial | (intro i j; first | rfl | exact getD_no rfl | (dsimp only; split <;> first | rfl | exact getD_no rfl) | exact scl_no (by apply_assumption) _), ?_⟩)⟩ (List.all_eq_true.1 hE _ (by decide))) rfl rfl rfl (Nat.le_of_ble_eq_true rfl) ?_
      refine ARun.hle ?_ hk
      exact HeapLe.one rfl (HeapLe.one rfl (HeapLe.one rfl (HeapLe.one rfl (HeapLe.one rfl (HeapLe.one rfl trivial)))))
    refine ADE.eff (new := [9]) (s := .one (.own 9 2 (k + 1))) (F := [(26, .one (.own 9 2 (k + 1)))]) (H' := [(1, .cells [.con (.slice none 0 0), .int .i64 0]), (2, .cells [.own 3 2 k, .int .i64 h.offset]), (4, .trees (k + 1) (rowX0 h)), (5, .cells [.str ((h.rows.getD k (default : GRow)).name), .lst 2 (((h.rows.getD k (default : GRow)).samples).length) (fun i0 j0 => ([.int .i64 ((((h.rows.getD k (default : GRow)).samples).getD i0 (default : GSample)).at_), .int .i64 ((((h.rows.getD k (default : GRow)).samples).getD i0 (default : GSample)).value)] : List AV).getD j0 (.con undef))]), (8, .arr 2 1 (fun _ jc => ([.str ((h.rows.getD k (default : GRow)).name), .tre 4 k] : List AV).getD jc (.con undef))), (9, .arr 2 (k + 1) (fun ia ja => if ia < k then (rowC0 h 4 : Nat → Nat → AV) ia ja else (fun _ jc => ([.str ((h.rows.getD k (default : GRow)).name), .tre 4 k] : List AV).getD jc (.con undef) : Nat → Nat → AV) (ia - k) ja))]) (fun E hE Q rest hk => ?_) ⟨rfl, rfl⟩ rfl (fun _ e => by cases e; exact Nat.le_of_ble_eq_true rfl) rfl rfl ⟨rfl, rfl, trivial⟩ (fun _ => ⟨rfl, rfl, rfl, trivial⟩) ?_
    · refine ARun.append (id := 9) (sz := 2) (n := k) (m := 1) (by_ := 40) (z := (.agg #[.string ByteArray.empty, .slice none 0 0])) (f := rowC0 h 4) (g := fun _ jc => ([.str ((h.rows.getD k (default : GRow)).name), .tre 4 k] : List AV).getD jc (.con undef)) (h := fun ia ja => if ia < k then (rowC0 h 4 : Nat → Nat → AV) ia ja else (fun _ jc => ([.str ((h.rows.getD k (default : GRow)).name), .tre 4 k] : List AV).getD jc (.con undef) : Nat → Nat → AV) (ia - k) ja) rfl (by kernel_rfl) rfl vcl_sl_22 (.own (.tmp rfl) rfl rfl rfl (Nat.le_refl _) (fun _ _ _ _ => rfl)) (.own (.tmp rfl) rfl rfl (Nat.le_refl _) (fun _ _ _ _ => rfl)) (by decide) (fun i j hi hj => match j, hj with | 0, _ => rfl | 1, _ => rfl | _ + 2, h => absurd h (by omega)) (fun _ _ _ _ => rfl) (by omega) (by omega) (Fr.ext ⟨rfl, (by repeat first | exact trivial | refine ⟨by decide, by first | rfl | exact trivial | (intro i j; first | rfl | exact getD_no rfl | (dsimp only; split <;> first | rfl | exact getD_no rfl) | exact scl_no (by apply_assumption) _), ?_⟩)⟩ (List.all_eq_true.1 hE _ (by decide))) (fun i j => by dsimp only; (repeat' split) <;> first | rfl | exact getD_no rfl) rfl rfl (Nat.le_of_ble_eq_true rfl) ?_
      refine ARun.hle ?_ hk
      exact HeapLe.one rfl (HeapLe.one rfl (HeapLe.one rfl (HeapLe.one rfl (HeapLe.one rfl (HeapLe.one rfl trivial)))))
    refine ADE.early (PureOp.fieldPtr rfl (.tmp rfl) vcl_fi_24_0_0) rfl rfl (Nat.le_of_ble_eq_true rfl) (by kernel_rfl) rfl rfl ?_
    refine ADE.eff (new := []) (s := .one (.con undef)) (F := []) (H' := [(1, .cells [.con (.slice none 0 0), .int .i64 0]), (2, .cells [.own 9 2 (k + 1), .int .i64 h.offset]), (4, .trees (k + 1) (rowX0 h)), (5, .cells [.str ((h.rows.getD k (default : GRow)).name), .lst 2 (((h.rows.getD k (default : GRow)).samples).length) (fun i0 j0 => ([.int .i64 ((((h.rows.getD k (default : GRow)).samples).getD i0 (default : GSample)).at_), .int .i64 ((((h.rows.getD k (default : GRow)).samples).getD i0 (default : GSample)).value)] : List AV).getD j0 (.con undef))]), (8, .arr 2 1 (fun _ jc => ([.str ((h.rows.getD k (default : GRow)).name), .tre 4 k] : List AV).getD jc (.con undef))), (9, .arr 2 (k + 1) (fun ia ja => if ia < k then (rowC0 h 4 : Nat → Nat → AV) ia ja else (fun _ jc => ([.str ((h.rows.getD k (default : GRow)).name), .tre 4 k] : List AV).getD jc (.con undef) : Nat → Nat → AV) (ia - k) ja))]) (fun E hE Q rest hk => ?_) ⟨rfl, rfl⟩ rfl (fun _ e => by cases e) rfl rfl ⟨rfl, rfl, trivial⟩ (fun h => absurd h (by decide)) ?_
    · refine ARun.store rfl (.tmp rfl) (.tmp rfl) trivial rfl (Nat.le_of_ble_eq_true rfl) vcl_sz_22_1 rfl rfl ?_
      refine ARun.hle ?_ hk
      exact HeapLe.one rfl (HeapLe.one rfl (HeapLe.one rfl (HeapLe.one rfl (HeapLe.one rfl (HeapLe.one rfl trivial)))))
    refine ADE.nil ?_
    refine AW.region ?_
    refine ARun.pure (PureOp.add (c := ((k + 1 : Nat) : Int)) rfl (.tmp rfl) .int (by rw [wrap_id (by omega) (by omega)]; omega)) rfl rfl (Nat.le_of_ble_eq_true rfl) ?_
    refine ARun.pure (PureOp.move rfl (.tmp rfl)) rfl rfl (Nat.le_of_ble_eq_true rfl) ?_
    refine ARun.nil ?_
    exact ⟨k + 1, (swp 3 9), (show k + 1 ≤ h.rows.length from by omega), by dsimp only; omega, swp_inj, (swp_fix rfl rfl), ⟨⟨⟨_, rfl, rfl⟩, ⟨_, rfl, rfl⟩, ⟨_, rfl, rfl⟩, ⟨_, rfl, rfl⟩, ⟨_, rfl, rfl⟩, trivial⟩, ⟨⟨_, rfl, rfl, Nat.le_refl _, fun _ _ _ _ => rfl⟩, ⟨_, rfl, rfl, Nat.le_refl _, fun _ _ _ _ => rfl⟩, ⟨_, rfl, rfl, Nat.le_refl _, fun i j hi (hj : j < 2) => match j, hj with | 0, _ => app_at (show i < k + 1 from hi) (fun _ => rfl) (fun hik => by subst hik; rfl) | 1, _ => app_at (show i < k + 1 from hi) (fun _ => rfl) (fun h => by subst h; rfl) | _ + 2, h => absurd h (by omega)⟩, ⟨rowX0 h, rfl, fun _ _ => rfl⟩, trivial⟩⟩⟩
  · have _u := True.intro
    replace hb1 := of_decide_eq_false hb1
    have hkl : ¬ k < h.rows.length := by omega
    have hke : k = h.rows.length := by omega
    refine AW.exit ?_
    refine AW.seq ?_
    refine AW.region ?_
    refine ARun.pure (PureOp.loadPtrAgg rfl (.tmp rfl) vcl_ag_24_2 rfl rfl (Nat.le_of_ble_eq_true rfl) (Nat.le_of_ble_eq_true rfl)) rfl rfl (Nat.le_of_ble_eq_true rfl) ?_
    refine ARun.store rfl (.tmp rfl) (.tmp rfl) (SV.cells_of (by exact ⟨trivial, trivial, trivial⟩)) rfl (Nat.le_of_ble_eq_true rfl) vcl_sz_24_2 rfl rfl ?_
    refine ARun.nil ?_
    exact AW.ret (show ∃ s t, ResL _ _ [.cell 2 24] s ∧ TvS _ (ofLeaf t) 0 s _ from ⟨_, fun a b => if a = 3 then 0 else if a = 4 then 0 else 1000, .inl ⟨_, rfl, .cells rfl vcl_ag_24_2 rfl rfl (Nat.le_of_ble_eq_true rfl) (Nat.le_of_ble_eq_true rfl)⟩, ⟨(Tv.colK (K := 4) (c := 1) (X := rowX0 h) hke.symm rfl rfl rfl (Nat.le_refl _) (by rfl) (fun i j hi hj hne => match j, hj, hne with | 0, _, _ => ⟨rfl, rfl⟩ | 1, _, h => absurd rfl h | _ + 2, h, _ => absurd h (by omega)) (fun i hi => ⟨rfl, rfl⟩) rfl (by decide) (fun _ => by rfl)), .int, trivial⟩⟩)
end Go.Proofs.YtonfeiloekofdaaDoor


/-
  A calculus for walks, part 36: drawn regions in which what conflicts is ordered; one lexical walk serves every order.
-/
namespace Go.Proofs.YtonfeiloekofdaaDoor
open Go.ChangeShapes Go.WideShapes Go.ChangeAt Go.RowKit Go.BigFrame Go.Deep
set_option linter.unusedVariables false

set_option linter.unusedSimpArgs false
/-- For each operation, the ones that it waits for. -/
def cloAt (md : Region.Mode) (ops : Array Oper) : Nat → List (List Nat)
  | 0 => []
  | k + 1 => let l := cloAt md ops k; l ++ [match ops[k]? with | some o => (o.after.toList.flatMap fun e => if Region.binds md e then e.on :: l.getD e.on [] else []).eraseDups | none => []]
def waitsB (md : Region.Mode) (ops : Array Oper) (x y : Nat) : Bool := ((cloAt md ops ops.size).getD x []).contains y
theorem cloAt_len {md : Region.Mode} {ops : Array Oper} : ∀ k, (cloAt md ops k).length = k
  | 0 => rfl
  | k + 1 => by simp [cloAt, cloAt_len k]
theorem cloAt_keep {md : Region.Mode} {ops : Array Oper} {x : Nat} : ∀ k, x < k → (cloAt md ops k).getD x [] = (cloAt md ops (x + 1)).getD x []
  | 0, h => absurd h (by omega)
  | k + 1, h => by
    by_cases hx : x = k
    · subst hx; rfl
    · have h1 : x < k := by omega
      rw [← cloAt_keep k h1]
      simp only [cloAt, List.getD_eq_getElem?_getD]
      rw [List.getElem?_append_left (by rw [cloAt_len]; exact h1)]
theorem cloAt_at {md : Region.Mode} {ops : Array Oper} (k : Nat) : (cloAt md ops (k + 1)).getD k [] = match ops[k]? with | some o => (o.after.toList.flatMap fun e => if Region.binds md e then e.on :: (cloAt md ops k).getD e.on [] else []).eraseDups | none => [] := by
  simp only [cloAt, List.getD_eq_getElem?_getD]
  rw [List.getElem?_append_right (by rw [cloAt_len]; exact Nat.le_refl _), cloAt_len, Nat.sub_self]
  rfl
theorem waits_listed {md : Region.Mode} {ops : Array Oper} {listed : Array Bool} (hord : ordB md ops = true) (hcl : ∀ j o, ops[j]? = some o → listed.getD j false = true → ∀ e ∈ o.after, Region.binds md e = true → listed.getD e.on false = true) :
    ∀ x y, waitsB md ops x y = true → (∀ o, ops[x]? = some o → ∀ e ∈ o.after, Region.binds md e = true → listed.getD e.on false = true) → listed.getD y false = true := by
  intro x
  induction x using Nat.strongRecOn with
  | _ x ih =>
    intro y hw hx
    unfold waitsB at hw
    by_cases hxs : x < ops.size
    · rw [cloAt_keep _ hxs, cloAt_at] at hw
      obtain ⟨o, ho⟩ : ∃ o, ops[x]? = some o := ⟨_, Array.getElem?_eq_getElem hxs⟩
      simp only [ho] at hw
      have hm := List.mem_eraseDups.1 (List.contains_iff_mem.1 hw)
      obtain ⟨e, he, hy⟩ := List.mem_flatMap.1 hm
      have he : e ∈ o.after := by simpa using he
      split at hy
      · rename_i hb
        have hlt := ordB_after hord ho e he hb
        have hle := hx o ho e he hb
        rcases List.mem_cons.1 hy with h | h
        · rw [h]; exact hle
        · refine ih e.on hlt y ?_ (fun o' ho' => hcl e.on o' ho' hle)
          unfold waitsB
          rw [cloAt_keep _ (Nat.lt_trans hlt hxs), ← cloAt_keep x hlt]
          exact List.contains_iff_mem.2 h
      · cases hy
    · rw [List.getD_eq_getElem?_getD, List.getElem?_eq_none (by rw [cloAt_len]; omega)] at hw
      cases hw
/-- A heap with each name once. -/
def nub : Heap → Heap
  | [] => []
  | (k, o) :: l => (k, o) :: (nub l).filter fun p => p.1 != k
theorem lookup_filter_ne {k : Nat} : ∀ {l : Heap} {t : Nat}, t ≠ k → (l.filter fun p => p.1 != k).lookup t = l.lookup t
  | [], _, _ => rfl
  | (a, b) :: l, t, h => by
    by_cases e : a = k
    · subst e
      rw [List.filter_cons_of_neg (by simp), List.lookup_cons, show (t == a) = false by simpa using h]
      exact lookup_filter_ne h
    · rw [List.filter_cons_of_pos (by simpa using e), List.lookup_cons, List.lookup_cons]
      split
      · rfl
      · exact lookup_filter_ne h
theorem nub_lookup : ∀ {l : Heap} {t : Nat}, (nub l).lookup t = l.lookup t
  | [], _ => rfl
  | (k, o) :: l, t => by
    show ((k, o) :: _).lookup t = _
    rw [List.lookup_cons, List.lookup_cons]
    cases hb : t == k with
    | true => rfl
    | false =>
      show ((nub l).filter _).lookup t = l.lookup t
      rw [lookup_filter_ne (by simpa using hb)]; exact nub_lookup
theorem nub_mem : ∀ {l : Heap} {p : Nat × AObj}, p ∈ nub l → l.lookup p.1 = some p.2
  | [], _, h => by cases h
  | (k, o) :: l, p, h => by
    rcases List.mem_cons.1 h with h | h
    · rw [h]; simp
    · obtain ⟨h1, h2⟩ := List.mem_filter.1 h
      rw [List.lookup_cons, show (p.1 == k) = false by simpa using h2]
      exact nub_mem h1
/-- What else is held beside the touched objects. -/
structure XOk (tk new : List Nat) (X : Heap) : Prop where
  off : ∀ p ∈ X, tk.contains p.1 = false
  no : ∀ p ∈ X, ∀ id ∈ new, p.2.No id
theorem XOk.none {tk new : List Nat} {X : Heap} (h : XOk tk new X) {id : Nat} (hid : tk.contains id = true) : ∀ o, X.lookup id = some o → False := fun o ho => by
  have := h.off _ (lookup_mem ho)
  rw [show (id, o).1 = id from rfl, hid] at this; cases this
def LkX (X H : Heap) : Prop := ∀ k o, X.lookup k = some o → H.lookup k = some o
theorem LkX.refl {X : Heap} : LkX X X := fun _ _ h => h
theorem LkX.cons {X H : Heap} {id : Nat} {p : AObj} (hX : ∀ o, X.lookup id = some o → False) (h : LkX X H) : LkX X ((id, p) :: H) := fun k o hk => by
  rw [List.lookup_cons]
  cases hb : k == id with
  | true => have : k = id := by simpa using hb
            subst this; exact (hX o hk).elim
  | false => exact h k o hk
theorem LkX.filter {X H : Heap} {id : Nat} (hX : ∀ o, X.lookup id = some o → False) (h : LkX X H) : LkX X (H.filter fun p => p.1 != id) := fun k o hk => by
  rw [lookup_filter_ne (fun e => by subst e; exact (hX o hk).elim)]
  exact h k o hk
theorem FrH.app {id : Nat} : ∀ {H X : Heap}, FrH id H → (∀ p ∈ X, p.1 ≠ id ∧ p.2.No id) → FrH id (H ++ X)
  | [], [], _, _ => trivial
  | [], (k, o) :: X, _, h => ⟨(h _ (List.mem_cons_self ..)).1, (h _ (List.mem_cons_self ..)).2, FrH.app (H := []) (X := X) trivial fun p hp => h p (List.mem_cons_of_mem _ hp)⟩
  | (k, o) :: H, X, ⟨h1, h2, h3⟩, h => ⟨h1, h2, FrH.app h3 h⟩
theorem Fr.ext2 {id : Nat} {env E : Env} {H X : Heap} {tk new : List Nat} (h1 : Fr id ⟨env, H⟩) (hE : (new.all fun id => E.all fun p => p.2.no id) = true) (hX : XOk tk new X) (hid : new.contains id = true) (ht : tk.contains id = true) : Fr id ⟨env ++ E, H ++ X⟩ := by
  have hm := List.contains_iff_mem.1 hid
  have h2 := Fr.ext h1 (List.all_eq_true.1 hE id hm)
  exact ⟨h2.envB, FrH.app h1.heap fun p hp => ⟨fun e => (by have := hX.off p hp; rw [e, ht] at this; cases this), hX.no p hp id hm⟩⟩
theorem ARun.hleX {P : Program} {N : Nat} {w0 : Start} {ops : Array Oper} {Q : Sig → Prop} {rest : List Oper} {e : Env} {H H' X : Heap} (h : HeapLe H H') (hx : LkX X H) (hk : ARun P N w0 ops Q rest ⟨e, H' ++ X⟩) : ARun P N w0 ops Q rest ⟨e, H⟩ :=
  fun ρ S a w Q' hQ hs => hk ρ S a w Q' hQ ⟨hs.size, hs.defers, hs.below, hs.mem.le' fun k p hp => by
    rcases lookup_app hp with h1 | ⟨_, h1⟩
    · exact h.get h1
    · exact HLe.refl (hx k p h1), hs.env⟩
/-- An operation that touches the objects tk alone, whatever else is held. -/
def EffStepX (P : Program) (N : Nat) (w0 : Start) (ops : Array Oper) (o : Oper) (env : Env) (tk new : List Nat) (Hin : Heap) (F : Env) (Hout : Heap) : Prop :=
  ∀ (E : Env) (X : Heap), (new.all fun id => E.all fun p => p.2.no id) = true → XOk tk new X → ∀ (Q : Sig → Prop) (rest : List Oper), ARun P N w0 ops Q rest ⟨F ++ (env ++ E), Hout ++ X⟩ → ARun P N w0 ops Q (o :: rest) ⟨env ++ E, Hin ++ X⟩
/-- What an operation leaves of a heap. -/
def outH (tk : List Nat) (Hout H : Heap) : Heap := Hout ++ H.filter fun p => !tk.contains p.1
/-- One operation of such a walk: what it reads, touches and makes. -/
structure Row where
  rk : List Nat
  tk : List Nat
  new : List Nat
  out : Heap
def AllFr : List Nat → Heap → Prop
  | [], _ => True
  | id :: l, H => FrH id H ∧ AllFr l H
theorem AllFr.get : ∀ {l : List Nat} {H : Heap}, AllFr l H → ∀ id ∈ l, FrH id H
  | [], _, _, _, h => by cases h
  | x :: l, _, ⟨h1, h2⟩, id, h => by
    rcases List.mem_cons.1 h with h | h
    · rw [h]; exact h1
    · exact AllFr.get h2 id h
inductive ADsX (P : Program) (N : Nat) (w0 : Start) (ops : Array Oper) : List Nat → List Oper → List Row → Sig → Sig → Prop
  | nil {nw : List Nat} {σ : Sig} : ADsX P N w0 ops nw [] [] σ σ
  | pure {nw : List Nat} {o : Oper} {rest : List Oper} {rows : List Row} {σ τ : Sig} {d : Nat} {s : SV} (Hp : Heap) : o.dst = some d → d < N → OpStep P ops o (Sig.only ⟨σ.env, Hp⟩ (o.looksAt ops)) s → Sub Hp σ.heap →
      mentB nw (σ.env.filter fun p => (o.looksAt ops).contains p.1) s = true → ADsX P N w0 ops nw rest rows ⟨(d, s) :: σ.env, σ.heap⟩ τ → ADsX P N w0 ops nw (o :: rest) (⟨Hp.map (·.1), [], [], []⟩ :: rows) σ τ
  | eff {nw tk new : List Nat} {o : Oper} {rest : List Oper} {rows : List Row} {σ τ : Sig} {s : SV} {F : Env} {Hin Hout : Heap} : (∀ d, o.dst = some d → d < N) → EffStepX P N w0 ops o (Sig.only σ (o.looksAt ops)).env tk new Hin F Hout → Sub Hin σ.heap → FOk o.dst F s →
      (Hin.all fun p => tk.contains p.1) = true → (Hout.all fun p => tk.contains p.1) = true → (new.all fun id => tk.contains id && !(Hin.map (·.1)).contains id) = true → (new.all fun id => σ.env.all fun p => p.2.no id) = true → AllFr new σ.heap →
      mentB nw (σ.env.filter fun p => (o.looksAt ops).contains p.1) s = true → ADsX P N w0 ops (new ++ nw) rest rows ⟨consO o.dst s σ.env, outH tk Hout σ.heap⟩ τ → ADsX P N w0 ops nw (o :: rest) (⟨[], tk, new, Hout⟩ :: rows) σ τ
/-- What conflicts is ordered. -/
def confB (md : Region.Mode) (ops : Array Oper) (rows : List Row) : Bool :=
  (List.range rows.length).all fun b => match rows[b]? with
    | none => true
    | some y => (List.range b).all fun a => match rows[a]? with
        | none => true
        | some x => !(x.tk.any (fun id => y.tk.contains id || y.rk.contains id) || x.rk.any (fun id => y.tk.contains id)) || waitsB md ops b a
def HNo (id : Nat) : Heap → Prop
  | [] => True
  | (_, o) :: l => o.No id ∧ HNo id l
theorem HNo.get {id : Nat} : ∀ {H : Heap}, HNo id H → ∀ p ∈ H, p.2.No id
  | [], _, _, h => by cases h
  | (k, o) :: l, ⟨h1, h2⟩, p, h => by
    rcases List.mem_cons.1 h with h | h
    · rw [h]; exact h1
    · exact HNo.get h2 p h
def AllNo : List Nat → Heap → Prop
  | [], _ => True
  | id :: l, H => HNo id H ∧ AllNo l H
theorem AllNo.get : ∀ {l : List Nat} {H : Heap}, AllNo l H → ∀ id ∈ l, HNo id H
  | [], _, _, _, h => by cases h
  | x :: l, _, ⟨h1, h2⟩, id, h => by
    rcases List.mem_cons.1 h with h | h
    · rw [h]; exact h1
    · exact AllNo.get h2 id h
def NoNewA (md : Region.Mode) (ops : Array Oper) (a : Nat) (x : Row) : Nat → List Row → Prop
  | _, [] => True
  | b, y :: l => (a = b ∨ waitsB md ops a b = true ∨ AllNo y.new x.out) ∧ NoNewA md ops a x (b + 1) l
def NoNewL (md : Region.Mode) (ops : Array Oper) (all : List Row) : Nat → List Row → Prop
  | _, [] => True
  | a, x :: l => NoNewA md ops a x 0 all ∧ NoNewL md ops all (a + 1) l
/-- What an operation leaves does not speak of what another makes, unless it waits for it. -/
def NoNew (md : Region.Mode) (ops : Array Oper) (rows : List Row) : Prop := NoNewL md ops rows 0 rows
theorem NoNewA.get {md : Region.Mode} {ops : Array Oper} {a : Nat} {x : Row} : ∀ {l : List Row} {k b : Nat} {y : Row}, NoNewA md ops a x k l → l[b]? = some y → a = k + b ∨ waitsB md ops a (k + b) = true ∨ AllNo y.new x.out
  | [], _, _, _, _, h => by simp at h
  | z :: l, k, b, y, ⟨h1, h2⟩, h => by
    cases b with
    | zero => simp at h; subst h; exact h1
    | succ b =>
      have := NoNewA.get h2 (show l[b]? = some y by simpa using h)
      rwa [show k + 1 + b = k + (b + 1) by omega] at this
theorem NoNewL.get {md : Region.Mode} {ops : Array Oper} {all : List Row} : ∀ {l : List Row} {k a : Nat} {x : Row}, NoNewL md ops all k l → l[a]? = some x → NoNewA md ops (k + a) x 0 all
  | [], _, _, _, _, h => by simp at h
  | z :: l, k, a, x, ⟨h1, h2⟩, h => by
    cases a with
    | zero => simp at h; subst h; exact h1
    | succ a =>
      have := NoNewL.get h2 (show l[a]? = some x by simpa using h)
      rwa [show k + 1 + a = k + (a + 1) by omega] at this
theorem NoNew.get {md : Region.Mode} {ops : Array Oper} {rows : List Row} (h : NoNew md ops rows) : ∀ (a b : Nat) (x y : Row), rows[a]? = some x → rows[b]? = some y → a ≠ b → ∀ id ∈ y.new, waitsB md ops a b = true ∨ ∀ p ∈ x.out, p.2.No id := fun a b x y hx hy hab id hid => by
  have := NoNewA.get (NoNewL.get h hx) hy
  rw [Nat.zero_add, Nat.zero_add] at this
  rcases this with e | e | e
  · exact absurd e hab
  · exact .inl e
  · exact .inr (e.get id hid).get
def RowsFr (H : Heap) : List Row → Prop
  | [] => True
  | r :: l => AllFr r.new H ∧ RowsFr H l
theorem RowsFr.get {H : Heap} : ∀ {l : List Row}, RowsFr H l → ∀ {k : Nat} {r : Row}, l[k]? = some r → ∀ id ∈ r.new, FrH id H
  | [], _, _, _, h => by simp at h
  | x :: l, ⟨h1, h2⟩, k, r, h => by
    cases k with
    | zero => simp at h; subst h; exact h1.get
    | succ k => exact RowsFr.get h2 (show l[k]? = some r by simpa using h)
section
variable {P : Program} {N : Nat} {w0 : Start} {ops : Array Oper} {md : Region.Mode}
theorem ADsX.lay {nw0 : List Nat} {l : List Oper} {rows : List Row} {σ τ : Sig} (h : ADsX P N w0 ops nw0 l rows σ τ) : rows.length = l.length ∧ ∃ (s : Nat → SV) (e : Nat → Env) (Hs : Nat → Heap) (nw : Nat → List Nat), e 0 = σ.env ∧ Hs 0 = σ.heap ∧ nw 0 = nw0 ∧ τ = ⟨e l.length, Hs l.length⟩ ∧
    ∀ k o, l[k]? = some o → ∃ r, rows[k]? = some r ∧ (∀ d, o.dst = some d → d < N) ∧ e (k + 1) = consO o.dst (s k) (e k) ∧ nw (k + 1) = r.new ++ nw k ∧ mentB (nw k) ((e k).filter fun p => (o.looksAt ops).contains p.1) (s k) = true ∧ (r.new.all fun id => (e k).all fun p => p.2.no id) = true ∧ (∀ id ∈ r.new, FrH id (Hs k)) ∧ (∀ id, r.tk.contains id = false → (Hs (k + 1)).lookup id = (Hs k).lookup id) ∧ (∀ id ∈ r.new, r.tk.contains id = true) ∧
      ((o.dst.isSome = true ∧ r.tk = [] ∧ r.out = [] ∧ ∃ Hp, r.rk = Hp.map (·.1) ∧ Sub Hp (Hs k) ∧ OpStep P ops o (Sig.only ⟨e k, Hp⟩ (o.looksAt ops)) (s k)) ∨
       (∃ F Hin, EffStepX P N w0 ops o (Sig.only ⟨e k, Hs k⟩ (o.looksAt ops)).env r.tk r.new Hin F r.out ∧ Sub Hin (Hs k) ∧ FOk o.dst F (s k) ∧ (Hin.all fun p => r.tk.contains p.1) = true ∧ (r.out.all fun p => r.tk.contains p.1) = true ∧ (∀ id ∈ r.new, (Hin.map (·.1)).contains id = false) ∧ Hs (k + 1) = outH r.tk r.out (Hs k))) := by
  induction h with
  | @nil nw σ => exact ⟨rfl, fun _ => .one (.con undef), fun _ => σ.env, fun _ => σ.heap, fun _ => nw, rfl, rfl, rfl, rfl, fun k o hk => by simp at hk⟩
  | @pure nw1 o rest rows σ τ d0 s0 Hp hd hN hs hsub hm _ ih =>
    obtain ⟨hl, s, e, Hs, nw, h1, h2, h3, h4, h5⟩ := ih
    refine ⟨by simp [hl], fun k => if k = 0 then s0 else s (k - 1), fun k => if k = 0 then σ.env else e (k - 1), fun k => if k = 0 then σ.heap else Hs (k - 1), fun k => if k = 0 then nw1 else nw (k - 1), rfl, rfl, rfl, by rw [h4]; simp, fun k o' hk' => ?_⟩
    cases k with
    | zero =>
      simp at hk'
      subst hk'
      exact ⟨_, rfl, fun d e => by rw [hd] at e; cases e; exact hN, by simp [h1, hd, consO], by simp [h3], by simpa using hm, by simp, by simp, by simp [h2], by simp, .inl ⟨by rw [hd]; rfl, rfl, rfl, Hp, rfl, by simpa using hsub, by simpa using hs⟩⟩
    | succ k =>
      obtain ⟨r, g0, g1, g2, g3, g4, g5, g6, g6b, g6c, g7⟩ := h5 k o' (by simpa using hk')
      exact ⟨r, by simpa using g0, g1, by simpa using g2, by simpa using g3, by simpa using g4, by simpa using g5, by simpa using g6, by simpa using g6b, g6c, by simpa using g7⟩
  | @eff nw1 tk new o rest rows σ τ s0 F Hin Hout hN hs hin hF hti hto hnew hno hfr hm _ ih =>
    obtain ⟨hl, s, e, Hs, nw, h1, h2, h3, h4, h5⟩ := ih
    refine ⟨by simp [hl], fun k => if k = 0 then s0 else s (k - 1), fun k => if k = 0 then σ.env else e (k - 1), fun k => if k = 0 then σ.heap else Hs (k - 1), fun k => if k = 0 then nw1 else nw (k - 1), rfl, rfl, rfl, by rw [h4]; simp, fun k o' hk' => ?_⟩
    have hnew' : ∀ id ∈ new, tk.contains id = true ∧ (Hin.map (·.1)).contains id = false := fun id hid => by
      have := List.all_eq_true.1 hnew id hid
      rw [Bool.and_eq_true, Bool.not_eq_true'] at this; exact this
    cases k with
    | zero =>
      simp at hk'
      subst hk'
      refine ⟨_, rfl, hN, by simp [h1], by simp [h3], by simpa using hm, by simpa using hno, by simpa using hfr.get, fun id hid => ?_, fun id hid => (hnew' id hid).1, .inr ⟨F, Hin, by simpa using hs, by simpa using hin, by simpa using hF, hti, hto, fun id hid => (hnew' id hid).2, by simp [h2]⟩⟩
      have hid : tk.contains id = false := hid
      simp only [Nat.zero_add, Nat.one_ne_zero, if_false, if_true, Nat.sub_self, h2]
      have hnone : Hout.lookup id = none := by
        cases hl2 : Hout.lookup id with
        | none => rfl
        | some p => have := List.all_eq_true.1 hto _ (lookup_mem hl2); rw [show (id, p).1 = id from rfl, hid] at this; cases this
      show (outH tk Hout σ.heap).lookup id = _
      unfold outH
      rw [lookup_none_app hnone]
      generalize σ.heap = H
      induction H with
      | nil => rfl
      | cons p H ihh =>
        obtain ⟨a, b⟩ := p
        by_cases ha : tk.contains a = true
        · rw [List.filter_cons_of_neg (by show ¬ (!tk.contains a) = true; rw [ha]; decide), List.lookup_cons, show (id == a) = false by simpa using fun e : id = a => by rw [e, ha] at hid; cases hid]
          exact ihh
        · rw [List.filter_cons_of_pos (by simpa using ha), List.lookup_cons, List.lookup_cons]
          split
          · rfl
          · exact ihh
    | succ k =>
      obtain ⟨r, g0, g1, g2, g3, g4, g5, g6, g6b, g6c, g7⟩ := h5 k o' (by simpa using hk')
      exact ⟨r, by simpa using g0, g1, by simpa using g2, by simpa using g3, by simpa using g4, by simpa using g5, by simpa using g6, by simpa using g6b, g6c, by simpa using g7⟩
theorem outH_in {tk : List Nat} {Hout H : Heap} {id : Nat} (h : tk.contains id = true) : (outH tk Hout H).lookup id = Hout.lookup id := by
  unfold outH
  cases hl : Hout.lookup id with
  | some p => exact lookup_some_app hl
  | none =>
    rw [lookup_none_app hl]
    induction H with
    | nil => rfl
    | cons p H ihh =>
      obtain ⟨a, b⟩ := p
      by_cases ha : tk.contains a = true
      · rw [List.filter_cons_of_neg (by show ¬ (!tk.contains a) = true; rw [ha]; decide)]; exact ihh
      · rw [List.filter_cons_of_pos (by simpa using ha), List.lookup_cons, show (id == a) = false by simpa using fun e : id = a => by rw [e] at h; exact ha h]
        exact ihh
theorem lookup_off {tk : List Nat} {H : Heap} {id : Nat} (h : tk.contains id = false) : (H.filter fun p => !tk.contains p.1).lookup id = H.lookup id := by
  induction H with
  | nil => rfl
  | cons p H ihh =>
    obtain ⟨a, b⟩ := p
    by_cases ha : tk.contains a = true
    · rw [List.filter_cons_of_neg (by show ¬ (!tk.contains a) = true; rw [ha]; decide), List.lookup_cons, show (id == a) = false by simpa using fun e : id = a => by rw [e, ha] at h; cases h]
      exact ihh
    · rw [List.filter_cons_of_pos (by simpa using ha), List.lookup_cons, List.lookup_cons]
      split
      · rfl
      · exact ihh
/-- In the midst of such a region. -/
structure MidX (P : Program) (N : Nat) (w0 : Start) (ops : Array Oper) (md : Region.Mode) (rows : List Row) (s : Nat → SV) (Hs : Nat → Heap) (σ : Sig) (listed : Array Bool) (ρ : Rho) (S : Nat → Prop) (a : Act) (w : World) : Prop where
  len : listed.size = ops.size
  closed : ∀ j o, ops[j]? = some o → listed.getD j false = true → ∀ e ∈ o.after, Region.binds md e = true → listed.getD e.on false = true
  mem : ∃ H, St N w0 ρ S ⟨[], H⟩ a w ∧ ∀ id n, n ≤ ops.size → (∀ j r, j < n → rows[j]? = some r → r.tk.contains id = true → listed.getD j false = true) → (∀ j r, n ≤ j → rows[j]? = some r → r.tk.contains id = true → listed.getD j false = false) → H.lookup id = (Hs n).lookup id
  done : ∀ j o d, ops[j]? = some o → o.dst = some d → listed.getD j false = true → RS ρ w S (s j) (a.tmps.getD d undef)
  old : ∀ t x, σ.env.lookup t = some x → (∀ j o, ops[j]? = some o → o.dst = some t → listed.getD j false = false) → RS ρ w S x (a.tmps.getD t undef)
theorem any_orderX {rows : List Row} {σ τ : Sig} {Q : Exit → Act → World → Prop} (hord : ordB md ops = true) (h : ADsX P N w0 ops [] ops.toList rows σ τ) (hconf : confB md ops rows = true) (hnn : NoNew md ops rows) (hs0 : RowsFr σ.heap rows)
    (hQ : ∀ ρ S a w, St N w0 ρ S τ a w → Q .normal a w) :
    ∀ (ρ : Rho) (S : Nat → Prop) (a : Act) (w : World), St N w0 ρ S σ a w → wpAny P md ops Q ops.size (Array.replicate ops.size false) a w := by
  obtain ⟨hrl, s, e, Hs, nw, he0, hH0, hnw0, hτ, hst⟩ := h.lay
  have hlen : ops.toList.length = ops.size := by simp
  rw [hlen] at hrl
  have hstep : ∀ k o, ops[k]? = some o → _ := fun k o hk => hst k o (by first | exact hk | (rw [Array.getElem?_toList]; exact hk) | simpa using hk)
  have hget0 : ∀ k (hk : k < ops.size), ops[k]? = some (ops[k]'hk) := fun k hk => Array.getElem?_eq_getElem hk
  have hdst : ∀ (i j : Nat) (oi oj : Oper) (d : Nat), ops[i]? = some oi → ops[j]? = some oj → oi.dst = some d → oj.dst = some d → i = j := fun i j oi oj d hi hj h1 h2 => by
    rcases Nat.decEq i j with hd | hd
    · exact absurd (by rw [h1, h2]) ((ordB_pair hord hi hj).1 hd (by rw [h2]; simp))
    · exact hd
  -- conflicts
  have hcf : ∀ a b x y, rows[a]? = some x → rows[b]? = some y → a < b → ∀ id, ((x.tk.contains id = true ∧ (y.tk.contains id = true ∨ y.rk.contains id = true)) ∨ (x.rk.contains id = true ∧ y.tk.contains id = true)) → waitsB md ops b a = true := by
    intro a b x y hx hy hab id hc
    have hb : b < rows.length := (List.getElem?_eq_some_iff.1 hy).1
    have h1 := List.all_eq_true.1 hconf b (List.mem_range.2 hb)
    simp only [hy] at h1
    have h2 := List.all_eq_true.1 h1 a (List.mem_range.2 hab)
    simp only [hx] at h2
    rw [Bool.or_eq_true] at h2
    rcases h2 with h2 | h2
    · exfalso
      rw [Bool.not_eq_true', Bool.or_eq_false_iff] at h2
      rcases hc with ⟨c1, c2⟩ | ⟨c1, c2⟩
      · have := List.any_eq_false.1 h2.1 id (List.contains_iff_mem.1 c1)
        apply this
        rw [Bool.or_eq_true]; exact c2
      · exact List.any_eq_false.1 h2.2 id (List.contains_iff_mem.1 c1) c2
    · exact h2
  have hget : ∀ k, k ≤ ops.size → ∀ t x, (e k).lookup t = some x → (∃ j o, j < k ∧ ops[j]? = some o ∧ o.dst = some t ∧ x = s j) ∨ ((∀ j o, j < k → ops[j]? = some o → o.dst ≠ some t) ∧ σ.env.lookup t = some x) := by
    intro k
    induction k with
    | zero => intro _ t x h; exact .inr ⟨fun j o hj => absurd hj (by omega), by rw [← he0]; exact h⟩
    | succ k ih =>
      intro hk t x h
      obtain ⟨_, _, _, g2, _⟩ := hstep k _ (hget0 k (by omega))
      rw [g2] at h
      rcases consO_get h with ⟨h1, rfl⟩ | ⟨h1, h2⟩
      · exact .inl ⟨k, _, by omega, hget0 k (by omega), h1, rfl⟩
      · rcases ih (by omega) t x h2 with ⟨j, o, hj, q1, q2, q3⟩ | ⟨q1, q2⟩
        · exact .inl ⟨j, o, by omega, q1, q2, q3⟩
        · refine .inr ⟨fun j o hj ho => ?_, q2⟩
          by_cases hjk : j = k
          · subst hjk; rw [hget0 j (by omega)] at ho; cases ho; exact h1
          · exact q1 j o (by omega) ho
  have hmem : ∀ k, k ≤ ops.size → ∀ q ∈ e k, (∃ j o t, j < k ∧ ops[j]? = some o ∧ o.dst = some t ∧ q = (t, s j)) ∨ q ∈ σ.env := by
    intro k
    induction k with
    | zero => intro _ q h; exact .inr (by rw [← he0]; exact h)
    | succ k ih =>
      intro hk q h
      obtain ⟨_, _, _, g2, _⟩ := hstep k _ (hget0 k (by omega))
      rw [g2] at h
      rcases consO_mem h with ⟨t, h1, h2⟩ | h
      · exact .inl ⟨k, _, t, by omega, hget0 k (by omega), h1, h2⟩
      · rcases ih (by omega) q h with ⟨j, o, t, hj, q1, q2, q3⟩ | h
        · exact .inl ⟨j, o, t, by omega, q1, q2, q3⟩
        · exact .inr h
  have hup : ∀ k, k ≤ ops.size → ∀ i, i ≤ k → ∀ q ∈ e i, q ∈ e k := by
    intro k
    induction k with
    | zero => intro _ i hi q h; obtain rfl : i = 0 := (by omega); exact h
    | succ k ih =>
      intro hk i hi q h
      by_cases hik : i = k + 1
      · subst hik; exact h
      · obtain ⟨_, _, _, g2, _⟩ := hstep k _ (hget0 k (by omega))
        rw [g2]
        exact consO_mem' (ih (by omega) i (by omega) q h)
  have hnwup : ∀ k, k ≤ ops.size → ∀ j r, j < k → rows[j]? = some r → ∀ id ∈ r.new, id ∈ nw k := by
    intro k
    induction k with
    | zero => intro _ j r hj; omega
    | succ k ih =>
      intro hk j r hj hr id hid
      obtain ⟨r', g0, _, _, g3, _⟩ := hstep k _ (hget0 k (by omega))
      rw [g3]
      by_cases hjk : j = k
      · subst hjk; rw [g0] at hr; cases hr; exact List.mem_append_left _ hid
      · exact List.mem_append_right _ (ih (by omega) j r (by omega) hr id hid)
  have hfr : ∀ j r, rows[j]? = some r → ∀ id ∈ r.new, (∀ q ∈ e j, q.2.no id = true) ∧ FrH id (Hs j) ∧ r.tk.contains id = true := fun j r hr id hid => by
    have hj : j < ops.size := by have := (List.getElem?_eq_some_iff.1 hr).1; omega
    obtain ⟨r', g0, _, _, _, _, g5, g6, _, g6c, _⟩ := hstep j _ (hget0 j hj)
    rw [g0] at hr; cases hr
    exact ⟨fun q hq => List.all_eq_true.1 (List.all_eq_true.1 g5 id hid) q hq, g6 id hid, g6c id hid⟩
  -- the lexical heaps
  have hsame : ∀ id n m, n ≤ m → m ≤ ops.size → (∀ j r, n ≤ j → j < m → rows[j]? = some r → r.tk.contains id = false) → (Hs m).lookup id = (Hs n).lookup id := by
    intro id n m
    induction m with
    | zero => intro h1 _ _; obtain rfl : n = 0 := (by omega); rfl
    | succ m ih =>
      intro h1 h2 h3
      by_cases hnm : n = m + 1
      · subst hnm; rfl
      · obtain ⟨r, g0, _, _, _, _, _, _, g6b, _⟩ := hstep m _ (hget0 m (by omega))
        rw [g6b id (h3 m r (by omega) (by omega) g0)]
        exact ih (by omega) (by omega) fun j r hj1 hj2 => h3 j r hj1 (by omega)
  have hvers : ∀ n, n ≤ ops.size → ∀ id ob, (Hs n).lookup id = some ob → (∃ j r, j < n ∧ rows[j]? = some r ∧ r.tk.contains id = true ∧ (id, ob) ∈ r.out) ∨ σ.heap.lookup id = some ob := by
    intro n
    induction n with
    | zero => intro _ id ob h; rw [hH0] at h; exact .inr h
    | succ n ih =>
      intro hn id ob h
      obtain ⟨r, g0, _, _, _, _, _, _, g6b, _, g7⟩ := hstep n _ (hget0 n (by omega))
      by_cases ht : r.tk.contains id = true
      · rcases g7 with ⟨_, g, _⟩ | ⟨_, _, _, _, _, _, _, _, g⟩
        · rw [g] at ht; cases ht
        · rw [g, outH_in ht] at h
          exact .inl ⟨n, r, by omega, g0, ht, lookup_mem h⟩
      · rw [g6b id (by simpa using ht)] at h
        rcases ih (by omega) id ob h with ⟨j, r', q1, q2, q3, q4⟩ | h
        · exact .inl ⟨j, r', by omega, q2, q3, q4⟩
        · exact .inr h
  have hment : ∀ (listed : Array Bool) (_ : ∀ j o, ops[j]? = some o → listed.getD j false = true → ∀ e ∈ o.after, Region.binds md e = true → listed.getD e.on false = true) (k : Nat) (ok : Oper) (d : Nat), ops[k]? = some ok → ok.dst = some d → listed.getD k false = true → ∀ j r id, rows[j]? = some r → id ∈ r.new → (s k).no id = false → listed.getD j false = true := by
    intro listed hcl k
    induction k using Nat.strongRecOn with
    | _ k ih =>
      intro ok dk hok hdk hlk j r id hr hid hn
      have hk : k < ops.size := (Array.getElem?_eq_some_iff.1 hok).1
      have hj : j < ops.size := by have := (List.getElem?_eq_some_iff.1 hr).1; omega
      by_cases hjk : j = k
      · subst hjk; exact hlk
      · have hlt : j < k := by
          apply Classical.byContradiction
          intro hge
          have hin' : (dk, s k) ∈ e (k + 1) := by
            obtain ⟨_, _, _, g2, _⟩ := hstep k _ hok
            rw [g2, hdk]; exact List.mem_cons_self ..
          have := (hfr j r hr id hid).1 _ (hup j (by omega) (k + 1) (by omega) _ hin')
          rw [hn] at this; cases this
        obtain ⟨_, _, _, _, _, g4, _⟩ := hstep k _ hok
        have h8 := List.all_eq_true.1 g4 id (hnwup k (by omega) j r hlt hr id hid)
        rw [hn, Bool.false_or] at h8
        obtain ⟨q, hq, hqn⟩ := List.any_eq_true.1 h8
        obtain ⟨hqe, hql⟩ := List.mem_filter.1 hq
        simp only [Bool.not_eq_true'] at hqn
        rcases hmem k (by omega) q hqe with ⟨i, oi, t, hik, q1, q2, rfl⟩ | h0
        · have hli : listed.getD i false = true := by
            rcases (ordB_pair hord hok q1).2 _ q2 (by simpa using hql) with e1 | ⟨_, ed, hed, hb, hon⟩ | ⟨hn', _⟩
            · omega
            · rw [← hon]; exact hcl k _ hok hlk ed hed hb
            · omega
          exact ih i hik oi t q1 q2 hli j r id hr hid hqn
        · have := (hfr j r hr id hid).1 q (hup j (by omega) 0 (Nat.zero_le _) q (by rw [he0]; exact h0))
          rw [hqn] at this; cases this
  have key : ∀ fuel listed ρ S a w, unl listed ops.size = fuel → MidX P N w0 ops md rows s Hs σ listed ρ S a w → wpAny P md ops Q fuel listed a w := by
    intro fuel
    induction fuel with
    | zero =>
      intro listed ρ S a w hf hm
      have hall : ∀ j, j < ops.size → listed.getD j true = true := unl_zero _ hf
      have hallF : ∀ j, j < ops.size → listed.getD j false = true := fun j hj => by rw [← getD_tf (by rw [hm.len]; exact hj)]; exact hall j hj
      refine ⟨?_, ?_⟩
      · unfold Region.ready
        rw [List.filter_eq_nil_iff]
        intro i hi
        rw [hall i (List.mem_range.1 hi)]; simp
      · obtain ⟨H, hH, hv⟩ := hm.mem
        refine hQ ρ S a w ⟨hH.size, hH.defers, hH.below, ?_, fun t x ht => ?_⟩
        · rw [hτ, hlen]
          refine hH.mem.le' fun id ob hob => HLe.refl ?_
          rw [hv id ops.size (Nat.le_refl _) (fun j r hj _ _ => hallF j hj) (fun j r hj hr _ => by have := (List.getElem?_eq_some_iff.1 hr).1; omega)]
          exact hob
        · rw [hτ, hlen] at ht
          rcases hget _ (Nat.le_refl _) t x ht with ⟨j, o, hj, q1, q2, rfl⟩ | ⟨h1, h2⟩
          · exact hm.done j o t q1 q2 (hallF j hj)
          · exact hm.old t x h2 fun j o ho hd => absurd hd (h1 j o (Array.getElem?_eq_some_iff.1 ho).1 ho)
    | succ fuel ih =>
      intro listed ρ S a w hf hm
      refine ⟨fun hnil => ?_, fun i hi => ?_⟩
      · exfalso
        have hex : ∃ j, j < ops.size ∧ listed.getD j true = false := by
          by_cases hall : ∀ j, j < ops.size → listed.getD j true = true
          · have : ∀ k, k ≤ ops.size → unl listed k = 0 := by
              intro k
              induction k with
              | zero => intro _; rfl
              | succ k ihk => intro hk; simp only [unl]; rw [ihk (by omega), hall k (by omega)]; rfl
            have := this _ (Nat.le_refl _)
            omega
          · apply Classical.byContradiction
            intro hno
            exact hall fun j hj => by
              cases hb : listed.getD j true with
              | true => rfl
              | false => exact absurd ⟨j, hj, hb⟩ hno
        obtain ⟨j0, hj0⟩ := hex
        obtain ⟨j, ⟨hj, hb⟩, hmin⟩ := exists_min (p := fun j => j < ops.size ∧ listed.getD j true = false) j0 hj0
        have : j ∈ Region.ready md ops listed := by
          refine mem_ready.2 ⟨hb, _, hget0 j hj, fun ed hed hbd => ?_⟩
          have hlt := ordB_after hord (hget0 j hj) ed hed hbd
          have h1 : listed.getD ed.on true = true := by
            cases hc : listed.getD ed.on true with
            | true => rfl
            | false => have := hmin ed.on ⟨by omega, hc⟩; omega
          rw [← getD_tf (by rw [hm.len]; omega)]; exact h1
        rw [hnil] at this
        cases this
      · obtain ⟨hun, o, ho, hpre⟩ := mem_ready.1 hi
        have hilt : i < ops.size := (Array.getElem?_eq_some_iff.1 ho).1
        have hunf : listed.getD i false = false := by rw [← getD_tf (by rw [hm.len]; exact hilt)]; exact hun
        obtain ⟨r, hr, hN, hen, hnwi, hmen, hnoi, hfri, hoff, hnt, hop⟩ := hstep i o ho
        obtain ⟨H, hH, hv⟩ := hm.mem
        have hwl : ∀ y, waitsB md ops i y = true → listed.getD y false = true := fun y hy => waits_listed hord hm.closed i y hy (fun o' ho' => by rw [ho] at ho'; cases ho'; exact hpre)
        have hwn : ∀ y, waitsB md ops y i = true → listed.getD y false = false := fun y hy => by
          cases hb : listed.getD y false with
          | false => rfl
          | true =>
            have := waits_listed hord hm.closed y i hy (fun o' ho' => hm.closed y o' ho' hb)
            rw [hunf] at this; cases this
        -- what it reads or touches stands as the lexical walk has it
        have hnow : ∀ id, (r.tk.contains id = true ∨ r.rk.contains id = true) → H.lookup id = (Hs i).lookup id := fun id hid => by
          refine hv id i (by omega) (fun j r' hj hr' ht => hwl j (hcf j i r' r hr' hr hj id (.inl ⟨ht, hid⟩))) (fun j r' hj hr' ht => ?_)
          by_cases hji : j = i
          · subst hji; exact hunf
          · refine hwn j (hcf i j r r' hr hr' (by omega) id ?_)
            rcases hid with h | h
            · exact .inl ⟨h, .inl ht⟩
            · exact .inr ⟨h, ht⟩
        have hlook : ∀ t x, ((e i).filter fun p => (o.looksAt ops).contains p.1).lookup t = some x → RS ρ w S x (a.tmps.getD t undef) ∧ ((∃ j oj, ops[j]? = some oj ∧ oj.dst = some t ∧ listed.getD j false = true ∧ x = s j) ∨ (∀ j oj, ops[j]? = some oj → oj.dst = some t → listed.getD j false = false) ∧ σ.env.lookup t = some x) := by
          intro t x ht
          obtain ⟨htl, ht⟩ := lookup_filter ht
          rcases hget i (by omega) t x ht with ⟨j, oj, hj, q1, q2, rfl⟩ | ⟨h1, h2⟩
          · rcases (ordB_pair hord ho q1).2 _ q2 htl with e1 | ⟨_, ed, hed, hb, hon⟩ | ⟨hn, _⟩
            · omega
            · have hlj : listed.getD j false = true := by rw [← hon]; exact hpre ed hed hb
              exact ⟨hm.done j oj t q1 q2 hlj, .inl ⟨j, oj, q1, q2, hlj, rfl⟩⟩
            · exact absurd hj hn
          · have hno : ∀ j oj, ops[j]? = some oj → oj.dst = some t → listed.getD j false = false := fun j oj hj hdj => by
              rcases (ordB_pair hord ho hj).2 _ hdj htl with e1 | ⟨hlt, _⟩ | ⟨hn, ed, hed, hb, hon⟩
              · subst e1; exact hunf
              · exact absurd hdj (h1 j oj hlt hj)
              · cases hc : listed.getD j false with
                | false => rfl
                | true =>
                  have := hm.closed j _ hj hc ed hed hb
                  rw [hon, hunf] at this
                  cases this
            exact ⟨hm.old t x h2 hno, .inr ⟨hno, h2⟩⟩
        have hclosed' : ∀ j oj, ops[j]? = some oj → (listed.setIfInBounds i true).getD j false = true → ∀ ed ∈ oj.after, Region.binds md ed = true → (listed.setIfInBounds i true).getD ed.on false = true := by
          intro j oj hoj hl ed hed hb
          by_cases hji : j = i
          · subst hji
            rw [ho] at hoj
            obtain rfl := Option.some.inj hoj
            exact getD_set_true (hpre ed hed hb)
          · rw [getD_set_ne false (Ne.symm hji)] at hl
            exact getD_set_true (hm.closed j oj hoj hl ed hed hb)
        have hunl' : unl (listed.setIfInBounds i true) ops.size = fuel := by
          have := unl_set hun ops.size
          rw [if_pos hilt] at this
          omega
        have hset : (listed.setIfInBounds i true).getD i false = true := by simp [hm.len, hilt]
        -- the versions behind it
        have hvers' : ∀ H' : Heap, (∀ id, r.tk.contains id = true → H'.lookup id = (Hs (i + 1)).lookup id) → (∀ id, r.tk.contains id = false → H'.lookup id = H.lookup id) → ∀ id n, n ≤ ops.size → (∀ j r', j < n → rows[j]? = some r' → r'.tk.contains id = true → (listed.setIfInBounds i true).getD j false = true) → (∀ j r', n ≤ j → rows[j]? = some r' → r'.tk.contains id = true → (listed.setIfInBounds i true).getD j false = false) → H'.lookup id = (Hs n).lookup id := by
          intro H' h1 h2 id n hn q1 q2
          by_cases ht : r.tk.contains id = true
          · rw [h1 id ht]
            have hin : i < n := by
              apply Classical.byContradiction
              intro hge
              have := q2 i r (by omega) hr ht
              rw [hset] at this; cases this
            refine (hsame id (i + 1) n (by omega) hn fun j r' hj1 hj2 hr' => ?_).symm
            cases hc : r'.tk.contains id with
            | false => rfl
            | true =>
              have hl1 := q1 j r' hj2 hr' hc
              rw [getD_set_ne false (by omega)] at hl1
              have := hwn j (hcf i j r r' hr hr' (by omega) id (.inl ⟨ht, .inl hc⟩))
              rw [hl1] at this; cases this
          · have ht' : r.tk.contains id = false := by simpa using ht
            rw [h2 id ht']
            have hne : ∀ j r', rows[j]? = some r' → r'.tk.contains id = true → i ≠ j := fun j r' hr' hc e => by
              subst e; rw [hr] at hr'; cases hr'; rw [ht'] at hc; cases hc
            refine hv id n hn (fun j r' hj hr' hc => ?_) (fun j r' hj hr' hc => ?_)
            · have := q1 j r' hj hr' hc
              rwa [getD_set_ne false (hne j r' hr' hc)] at this
            · have := q2 j r' hj hr' hc
              rwa [getD_set_ne false (hne j r' hr' hc)] at this
        rcases hop with ⟨hds, htk, hout, Hp, hrk, hsubp, hps⟩ | ⟨F, Hin, heff, hsubi, hF, hti, hto, hnewi, hHn⟩
        · obtain ⟨d, hd⟩ := Option.isSome_iff_exists.1 hds
          have hdN := hN d hd
          have hpre' : St N w0 ρ S (Sig.only ⟨e i, Hp⟩ (o.looksAt ops)) a w := ⟨hH.size, hH.defers, hH.below, hH.mem.le' fun id ob hob => HLe.refl (by
            rw [hnow id (.inr (by rw [hrk]; exact List.contains_iff_mem.2 (heap_key hob)))]
            exact hsubp.get hob), fun t x ht => (hlook t x ht).1⟩
          have hnext' : ∀ v S' w', Same S w S' w' → Below w.heap.size w w' → (∀ b, S' b → S b ∨ w.heap.size ≤ b) → St N w0 ρ S' (Sig.only ⟨e i, Hp⟩ (o.looksAt ops)) a w' → RS ρ w' S' (s i) v → wpAny P md ops Q fuel (listed.setIfInBounds i true) (a.put o.dst v) w' := by
            intro v S' w' hsame' hbel hSS hs' hv'
            have hj1 : St N w0 ρ S' ⟨[], oH none ++ H⟩ a w' := St.join (H1 := Hp) hH hbel hSS hsame' rfl (fun _ _ => .refl _ _) (fun p h => by cases h) (fun p _ _ _ _ h => by cases h) ⟨hs'.size, hs'.defers, hs'.below, hs'.mem, fun t s hs => by simp at hs⟩ (fun p h => by cases h)
            have hj1 : St N w0 ρ S' ⟨[], H⟩ a w' := hj1
            refine ih _ ρ S' _ w' hunl' ⟨by simp [hm.len], hclosed', ⟨H, ?_, hvers' H (fun id h => by rw [htk] at h; cases h) (fun _ _ => rfl)⟩, ?_, ?_⟩
            · rw [hd]; exact (hj1.put hdN hv').memOnly
            · intro j oj t hj hdj hl
              have hsz : d < a.tmps.size := by rw [hH.size]; exact hdN
              rw [hd, getD_put hsz]
              by_cases hji : j = i
              · subst hji
                rw [ho] at hj; cases hj
                rw [hd] at hdj; cases hdj
                rw [if_pos rfl]; exact hv'
              · rw [if_neg (fun e => hji (hdst j i oj o t hj ho hdj (by rw [e]; exact hd)))]
                rw [getD_set_ne false (Ne.symm hji)] at hl
                exact (hm.done j oj t hj hdj hl).keep hsame' (Rn.refl _ _)
            · intro t x ht hno
              have hsz : d < a.tmps.size := by rw [hH.size]; exact hdN
              have hti : t ≠ d := fun e => by
                have := hno i o ho (by rw [e]; exact hd)
                rw [hset] at this
                cases this
              rw [hd, getD_put hsz, if_neg hti]
              refine (hm.old t x ht fun j oj hj hdj => ?_).keep hsame' (Rn.refl _ _)
              have hji : i ≠ j := fun e => by
                subst e
                rw [ho] at hj; cases hj
                rw [hd] at hdj; exact hti (Option.some.inj hdj).symm
              have := hno j oj hj hdj
              rwa [getD_set_ne false hji] at this
          have h1 := hps.run N w0 ρ S a w (wpAny P md ops Q fuel (listed.setIfInBounds i true)) Q hpre' hnext'
          unfold wpOp
          simp only [ho]
          split
          · rename_i hw; rw [if_pos hw] at h1; exact .inl h1
          · rename_i hw; rw [if_neg hw] at h1; exact h1
        · let L : Env := (List.range ops.size).filterMap fun j => if listed.getD j false = true then ((ops[j]?).bind (·.dst)).map (fun d => (d, s j)) else none
          let O : Env := σ.env.filter fun p => (List.range ops.size).all fun j => !(listed.getD j false && ((ops[j]?).bind (·.dst)) == some p.1)
          have hL : ∀ q ∈ L, ∃ j oj, ops[j]? = some oj ∧ oj.dst = some q.1 ∧ listed.getD j false = true ∧ q.2 = s j := by
            intro q hq
            obtain ⟨j, hj, hjq⟩ := List.mem_filterMap.1 hq
            have hjl := List.mem_range.1 hj
            split at hjq
            · rename_i hl
              rw [hget0 j hjl] at hjq
              obtain ⟨d, hd, rfl⟩ := Option.map_eq_some_iff.1 hjq
              exact ⟨j, _, hget0 j hjl, hd, hl, rfl⟩
            · cases hjq
          have hLin : ∀ j oj d, ops[j]? = some oj → oj.dst = some d → listed.getD j false = true → (d, s j) ∈ L := by
            intro j oj d hj hd hl
            have hjl : j < ops.size := (Array.getElem?_eq_some_iff.1 hj).1
            refine List.mem_filterMap.2 ⟨j, List.mem_range.2 hjl, ?_⟩
            rw [if_pos hl, hj]
            show (oj.dst).map _ = _
            rw [hd]; rfl
          have hO : ∀ q ∈ O, q ∈ σ.env ∧ ∀ j oj, ops[j]? = some oj → oj.dst = some q.1 → listed.getD j false = false := by
            intro q hq
            obtain ⟨h1, h2⟩ := List.mem_filter.1 hq
            refine ⟨h1, fun j oj hj hd => ?_⟩
            have hjl : j < ops.size := (Array.getElem?_eq_some_iff.1 hj).1
            have := List.all_eq_true.1 h2 j (List.mem_range.2 hjl)
            rw [hj] at this
            cases hb : listed.getD j false with
            | false => rfl
            | true =>
              rw [hb] at this
              simp [hd] at this
          have hOlk : ∀ t x, O.lookup t = some x → σ.env.lookup t = some x := by
            intro t x
            show (σ.env.filter _).lookup t = some x → _
            generalize σ.env = en
            induction en with
            | nil => intro h; simp at h
            | cons p en ihh =>
              intro h
              obtain ⟨k, v⟩ := p
              by_cases hk : ((List.range ops.size).all fun j => !(listed.getD j false && ((ops[j]?).bind (·.dst)) == some k)) = true
              · rw [List.filter_cons_of_pos (by simpa using hk)] at h
                rcases lookup_put h with ⟨rfl, rfl⟩ | ⟨hne, h⟩
                · simp
                · rw [List.lookup_cons, show (t == k) = false by simpa using hne]; exact ihh h
              · rw [List.filter_cons_of_neg (by simpa using hk)] at h
                have hne : t ≠ k := by
                  intro e
                  subst e
                  obtain ⟨_, h2⟩ := List.mem_filter.1 (lookup_mem h)
                  exact hk (by simpa using h2)
                rw [List.lookup_cons, show (t == k) = false by simpa using hne]; exact ihh h
          have hOget : ∀ t x, σ.env.lookup t = some x → (∀ j oj, ops[j]? = some oj → oj.dst = some t → listed.getD j false = false) → O.lookup t = some x := by
            intro t x ht hno
            show (σ.env.filter _).lookup t = some x
            generalize σ.env = en at ht
            induction en with
            | nil => simp at ht
            | cons p en ihh =>
              obtain ⟨k, v⟩ := p
              rcases lookup_put ht with ⟨rfl, rfl⟩ | ⟨hne, ht⟩
              · rw [List.filter_cons_of_pos]
                · simp
                · rw [List.all_eq_true]
                  intro j hj
                  have hjl := List.mem_range.1 hj
                  rw [hget0 j hjl]
                  cases hb : listed.getD j false with
                  | false => rfl
                  | true =>
                    cases hd : decide (ops[j].dst = some t) with
                    | true => have := hno j _ (hget0 j hjl) (of_decide_eq_true hd); rw [hb] at this; cases this
                    | false => have := of_decide_eq_false hd; simp [this]
              · have hr := ihh ht
                by_cases hk : ((List.range ops.size).all fun j => !(listed.getD j false && ((ops[j]?).bind (·.dst)) == some k)) = true
                · rw [List.filter_cons_of_pos (by simpa using hk), List.lookup_cons, show (t == k) = false by simpa using hne]; exact hr
                · rw [List.filter_cons_of_neg (by simpa using hk)]; exact hr
          let E : Env := L ++ O
          have hLlk : ∀ j oj d, ops[j]? = some oj → oj.dst = some d → listed.getD j false = true → L.lookup d = some (s j) := by
            intro j oj d hj hd hl
            cases hlk : L.lookup d with
            | none =>
              exfalso
              have hm2 := hLin j oj d hj hd hl
              have : ∀ (l : Env), (d, s j) ∈ l → l.lookup d ≠ none := by
                intro l
                induction l with
                | nil => intro h; cases h
                | cons p l ihl =>
                  intro h
                  obtain ⟨k, v⟩ := p
                  rw [List.lookup_cons]
                  rcases List.mem_cons.1 h with h | h
                  · cases h; simp
                  · split
                    · simp
                    · exact ihl h
              exact this L hm2 hlk
            | some x =>
              obtain ⟨j', oj', q1, q2, q3, q4⟩ := hL _ (lookup_mem hlk)
              have : j' = j := hdst j' j oj' oj d q1 hj q2 hd
              subst this
              rw [show x = s j' from q4]
          have hLnone : ∀ t, (∀ j oj, ops[j]? = some oj → oj.dst = some t → listed.getD j false = false) → L.lookup t = none := by
            intro t hno
            cases hlk : L.lookup t with
            | none => rfl
            | some x =>
              obtain ⟨j', oj', q1, q2, q3, q4⟩ := hL _ (lookup_mem hlk)
              have := hno j' oj' q1 q2
              rw [q3] at this; cases this
          have hE : (r.new.all fun id => E.all fun p => p.2.no id) = true := by
            rw [List.all_eq_true]
            intro id hid
            rw [List.all_eq_true]
            intro q hq
            rcases List.mem_append.1 hq with hq | hq
            · obtain ⟨j, oj, q1, q2, q3, q4⟩ := hL q hq
              cases hn : q.2.no id with
              | true => rfl
              | false =>
                rw [q4] at hn
                have := hment listed hm.closed j oj _ q1 q2 q3 i r id hr hid hn
                rw [hunf] at this; cases this
            · have hq2 := (hO q hq).1
              exact (hfr i r hr id hid).1 q (hup i (by omega) 0 (Nat.zero_le _) q (by rw [he0]; exact hq2))
          -- what else is held
          let X : Heap := nub (H.filter fun p => !r.tk.contains p.1)
          have hX : XOk r.tk r.new X := by
            refine ⟨fun p hp => ?_, fun p hp id hid => ?_⟩
            · have h1 := lookup_mem (nub_mem hp)
              have := (List.mem_filter.1 h1).2
              simpa using this
            · have h1 := nub_mem hp
              have hoffp : r.tk.contains p.1 = false := by
                have := (List.mem_filter.1 (lookup_mem h1)).2
                simpa using this
              rw [lookup_off hoffp] at h1
              -- the version that stands
              have hex : ∀ m, m ≤ ops.size → ∃ n, n ≤ ops.size ∧ (∀ j r', j < n → rows[j]? = some r' → r'.tk.contains p.1 = true → listed.getD j false = true) ∧ (∀ j r', n ≤ j → j < m → rows[j]? = some r' → r'.tk.contains p.1 = true → listed.getD j false = false) ∧ n ≤ m := by
                intro m
                induction m with
                | zero => intro _; exact ⟨0, Nat.zero_le _, fun j r' hj => by omega, fun j r' h1 h2 => by omega, Nat.le_refl _⟩
                | succ m ihm =>
                  intro hms
                  obtain ⟨n, n1, n2, n3, n4⟩ := ihm (by omega)
                  obtain ⟨rm, hrm, _⟩ := hstep m _ (hget0 m (by omega))
                  by_cases hc : rm.tk.contains p.1 = true ∧ listed.getD m false = true
                  · refine ⟨m + 1, hms, fun j r' hj hr' ht => ?_, fun j r' h1 h2 => by omega, Nat.le_refl _⟩
                    by_cases hjm : j = m
                    · subst hjm; exact hc.2
                    · refine waits_listed hord hm.closed m j (hcf j m r' rm hr' hrm (by omega) p.1 (.inl ⟨ht, .inl hc.1⟩)) (fun o' ho' => hm.closed m o' ho' hc.2)
                  · refine ⟨n, n1, n2, fun j r' h1 h2 hr' ht => ?_, by omega⟩
                    by_cases hjm : j = m
                    · subst hjm
                      rw [hrm] at hr'; cases hr'
                      cases hb : listed.getD j false with
                      | false => rfl
                      | true => exact absurd ⟨ht, hb⟩ hc
                    · exact n3 j r' h1 (by omega) hr' ht
              obtain ⟨n, n1, n2, n3, _⟩ := hex ops.size (Nat.le_refl _)
              rw [hv p.1 n n1 n2 (fun j r' h1 hr' ht => n3 j r' h1 (by have := (List.getElem?_eq_some_iff.1 hr').1; omega) hr' ht)] at h1
              rcases hvers n n1 p.1 p.2 h1 with ⟨j, r', q1, q2, q3, q4⟩ | h0
              · have hlj := n2 j r' q1 q2 q3
                rcases hnn.get j i r' r q2 hr (fun e => by rw [e, hunf] at hlj; cases hlj) id hid with hw | hno
                · have := hwn j hw; rw [hlj] at this; cases this
                · exact hno _ q4
              · exact ((hs0.get hr id hid).get h0).2
          let pf : Env := (e i).filter fun p => (o.looksAt ops).contains p.1
          have hHX : ∀ id ob, (Hin ++ X).lookup id = some ob → H.lookup id = some ob := by
            intro id ob h
            rcases lookup_app h with h | ⟨_, h⟩
            · have ht : r.tk.contains id = true := List.all_eq_true.1 hti _ (lookup_mem h)
              rw [hnow id (.inl ht)]; exact hsubi.get h
            · have h2 : (nub (H.filter fun p => !r.tk.contains p.1)).lookup id = some ob := h
              rw [nub_lookup] at h2
              have hoffp : r.tk.contains id = false := by
                have := (List.mem_filter.1 (lookup_mem h2)).2
                simpa using this
              rwa [lookup_off hoffp] at h2
          have hpre' : St N w0 ρ S ⟨pf ++ E, Hin ++ X⟩ a w := by
            refine ⟨hH.size, hH.defers, hH.below, hH.mem.le' fun id ob hob => HLe.refl (hHX id ob hob), fun t x ht => ?_⟩
            rcases lookup_app ht with h1 | ⟨_, h1⟩
            · exact (hlook t x h1).1
            · rcases lookup_app h1 with h1 | ⟨_, h1⟩
              · obtain ⟨j, oj, q1, q2, q3, q4⟩ := hL _ (lookup_mem h1)
                rw [show x = s j from q4]
                exact hm.done j oj t q1 q2 q3
              · exact hm.old t x (hOlk t x h1) (hO _ (lookup_mem h1)).2
          let Q2 : Exit → Act → World → Prop := fun e a' w' => match e with | .normal => wpAny P md ops Q fuel (listed.setIfInBounds i true) a' w' | _ => False
          have hfin : ∀ ρ' S' σ' a' w', St N w0 ρ' S' σ' a' w' → σ' = ⟨F ++ (pf ++ E), r.out ++ X⟩ → Q2 .normal a' w' := by
            intro ρ' S' σ' a' w' hs' hσ
            subst hσ
            show wpAny P md ops Q fuel (listed.setIfInBounds i true) a' w'
            have hEt : ∀ j oj d, ops[j]? = some oj → oj.dst = some d → listed.getD j false = true → (pf ++ E).lookup d = some (s j) := by
              intro j oj d hj hd hl
              cases hp : pf.lookup d with
              | none => rw [lookup_none_app hp]; exact lookup_some_app (hLlk j oj d hj hd hl)
              | some x =>
                rw [lookup_some_app hp]
                rcases (hlook d x hp).2 with ⟨j', oj', q1, q2, q3, q4⟩ | ⟨q1, _⟩
                · have : j' = j := hdst j' j oj' oj d q1 hj q2 hd
                  subst this; rw [q4]
                · have := q1 j oj hj hd; rw [hl] at this; cases this
            have hOt : ∀ t x, σ.env.lookup t = some x → (∀ j oj, ops[j]? = some oj → oj.dst = some t → listed.getD j false = false) → (pf ++ E).lookup t = some x := by
              intro t x ht hno
              cases hp : pf.lookup t with
              | none => rw [lookup_none_app hp, lookup_none_app (hLnone t hno)]; exact hOget t x ht hno
              | some y =>
                rw [lookup_some_app hp]
                rcases (hlook t y hp).2 with ⟨j', oj', q1, q2, q3, q4⟩ | ⟨_, q2⟩
                · have := hno j' oj' q1 q2; rw [q3] at this; cases this
                · rw [← q2]; exact ht
            have hFo : ∀ t, o.dst ≠ some t → F.lookup t = none := by
              intro t ht
              cases hd : o.dst with
              | none => rw [hd] at hF; rw [hF.1]; rfl
              | some d =>
                rw [hd] at hF ht
                exact F_other hF.2 (fun e => ht (by rw [e]))
            have hXl : ∀ id, r.tk.contains id = false → X.lookup id = H.lookup id := fun id hid => by
              show (nub _).lookup id = _
              rw [nub_lookup, lookup_off hid]
            have hout0 : ∀ id, r.tk.contains id = false → r.out.lookup id = none := fun id hid => by
              cases hl2 : r.out.lookup id with
              | none => rfl
              | some p => have := List.all_eq_true.1 hto _ (lookup_mem hl2); rw [show (id, p).1 = id from rfl, hid] at this; cases this
            have hXn : ∀ id, r.tk.contains id = true → X.lookup id = none := fun id hid => by
              cases hl2 : X.lookup id with
              | none => rfl
              | some p => exact (hX.none hid p hl2).elim
            refine ih _ ρ' S' _ w' hunl' ⟨by simp [hm.len], hclosed', ⟨r.out ++ X, ⟨hs'.size, hs'.defers, hs'.below, hs'.mem, fun t s hs => by simp at hs⟩, hvers' _ (fun id hid => ?_) (fun id hid => ?_)⟩, ?_, ?_⟩
            · rw [hHn, outH_in hid]
              cases hl2 : r.out.lookup id with
              | some p => exact lookup_some_app hl2
              | none => rw [lookup_none_app hl2]; exact hXn id hid
            · rw [lookup_none_app (hout0 id hid)]; exact hXl id hid
            · intro j oj t hj hdj hl
              by_cases hji : j = i
              · subst hji
                rw [ho] at hj; cases hj
                rw [hdj] at hF
                exact hs'.env t _ (lookup_some_app hF.1)
              · rw [getD_set_ne false (Ne.symm hji)] at hl
                refine hs'.env t _ ?_
                rw [lookup_none_app (hFo t fun e => hji (hdst j i oj o t hj ho hdj e))]
                exact hEt j oj t hj hdj hl
            · intro t x ht hno
              have hti : o.dst ≠ some t := fun e => by
                have := hno i o ho e
                rw [hset] at this
                cases this
              refine hs'.env t _ ?_
              rw [lookup_none_app (hFo t hti)]
              refine hOt t x ht fun j oj hj hdj => ?_
              have hji : i ≠ j := fun e => by
                subst e
                rw [ho] at hj; cases hj
                exact hti hdj
              have := hno j oj hj hdj
              rwa [getD_set_ne false hji] at this
          have h1 := heff E X hE hX (fun σ' => σ' = ⟨F ++ (pf ++ E), r.out ++ X⟩) [] (fun ρ S a w Q'' hQ'' hs'' => hQ'' ρ S _ a w hs'' rfl) ρ S a w Q2 hfin hpre'
          unfold wpOp
          simp only [ho]
          unfold wpList at h1
          split
          · rename_i hw
            rw [if_pos hw] at h1
            rcases h1 with h1 | ⟨_, _, _, h1⟩
            · exact .inl (Oper.wp_only (Q2 := Q2) (fun _ _ _ h => h) (fun _ _ h => h) (Oper.wp_mono (fun a' w' h => h) h1))
            · exact h1.elim
          · rename_i hw
            rw [if_neg hw] at h1
            exact h1
  intro ρ S a w hs
  refine key ops.size _ ρ S a w ?_ ⟨by simp, fun j o ho hl => ?_, ⟨σ.heap, hs.memOnly, fun id n hn h1 h2 => ?_⟩, fun j o d hj hd hl => ?_, fun t x ht _ => hs.env t x ht⟩
  · have : ∀ k, k ≤ ops.size → unl (Array.replicate ops.size false) k = k := by
      intro k
      induction k with
      | zero => intro _; rfl
      | succ k ihk => intro hk; simp only [unl]; rw [ihk (by omega)]; simp [show k < ops.size by omega]
    exact this _ (Nat.le_refl _)
  · exfalso
    by_cases hj : j < ops.size <;> simp [hj] at hl
  · rw [hsame id 0 n (Nat.zero_le _) hn (fun j r _ hj hr => ?_), hH0]
    cases hc : r.tk.contains id with
    | false => rfl
    | true =>
      have := h1 j r hj hr hc
      simp [show j < ops.size by omega] at this
  · exfalso
    have hjl : j < ops.size := (Array.getElem?_eq_some_iff.1 hj).1
    simp [hjl] at hl
end
section
variable {P : Program} {N : Nat} {w0 : Start} {ops : Array Oper} {Q : Sig → Prop} {σ : Sig} {o : Oper} {rest : List Oper} {rows : List Row} {nw : List Nat}
/-- A drawn region in which what conflicts is ordered. -/
def ADX (P : Program) (N : Nat) (w0 : Start) (ops : Array Oper) (Q : Sig → Prop) (nw : List Nat) (l : List Oper) (rows : List Row) (σ : Sig) : Prop := ∃ τ H, ADsX P N w0 ops nw l rows σ τ ∧ HeapLe τ.heap H ∧ Q ⟨τ.env, H⟩
theorem AW.anyX (rows : List Row) {i : Nat} {l : List Oper} {Q : Exit → Sig → Prop} {σ : Sig} (hm : P.follows .mixedOrders = true) (hord : ordB .any l.toArray = true) (hconf : confB .any l.toArray rows = true) (hnn : NoNew .any l.toArray rows) (hs0 : RowsFr σ.heap rows)
    (h : ADX P N w0 l.toArray (fun σ => Q .normal σ) [] l rows σ) : AW P N w0 (.region i l.toArray true) Q σ := by
  intro ρ S a w Q' hQ hs
  obtain ⟨τ, H, h1, hH, h2⟩ := h
  refine wp_region_any hm ?_
  exact any_orderX (τ := τ) hord (by simpa using h1) hconf hnn hs0 (fun ρ S a w hs' => hQ _ ρ S ⟨τ.env, H⟩ a w ⟨hs'.size, hs'.defers, hs'.below, hs'.mem.le hH, hs'.env⟩ h2) ρ S a _ (hs.world ((Below.refl _ _).drew))
theorem ADX.nil {H : Heap} (hH : HeapLe σ.heap H) (h : Q ⟨σ.env, H⟩) : ADX P N w0 ops Q nw [] [] σ := ⟨σ, H, .nil, hH, h⟩
theorem ADX.step {s : SV} {d : Nat} (Hp : Heap) (hp : OpStep P ops o (Sig.only ⟨σ.env, Hp⟩ (o.looksAt ops)) s) (hd : o.dst = some d) (hN : d < N) (hsub : Sub Hp σ.heap) (hm : mentB nw (σ.env.filter fun p => (o.looksAt ops).contains p.1) s = true) (h : ADX P N w0 ops Q nw rest rows (σ.put d s)) : ADX P N w0 ops Q nw (o :: rest) (⟨Hp.map (·.1), [], [], []⟩ :: rows) σ :=
  let ⟨τ, H, h1, h2, h3⟩ := h
  ⟨τ, H, .pure Hp hd hN hp hsub hm h1, h2, h3⟩
theorem ADX.pure {s : SV} {d : Nat} (Hp : Heap) (hp : PureOp P o (Sig.only ⟨σ.env, Hp⟩ (o.looksAt ops)) s) (hg : o.guard = none) (hd : o.dst = some d) (hN : d < N) (hsub : Sub Hp σ.heap) (hm : mentB nw (σ.env.filter fun p => (o.looksAt ops).contains p.1) s = true) (h : ADX P N w0 ops Q nw rest rows (σ.put d s)) : ADX P N w0 ops Q nw (o :: rest) (⟨Hp.map (·.1), [], [], []⟩ :: rows) σ :=
  ADX.step Hp (hp.fresh.step hg) hd hN hsub hm h
theorem ADX.fresh {s : SV} {d : Nat} (Hp : Heap) (hp : FreshOp P o (Sig.only ⟨σ.env, Hp⟩ (o.looksAt ops)) s) (hg : o.guard = none) (hd : o.dst = some d) (hN : d < N) (hsub : Sub Hp σ.heap) (hm : mentB nw (σ.env.filter fun p => (o.looksAt ops).contains p.1) s = true) (h : ADX P N w0 ops Q nw rest rows (σ.put d s)) : ADX P N w0 ops Q nw (o :: rest) (⟨Hp.map (·.1), [], [], []⟩ :: rows) σ :=
  ADX.step Hp (hp.step hg) hd hN hsub hm h
theorem ADX.gpure {s : SV} {d g t : Nat} {want c : Bool} (Hp : Heap) (hgate : Gate (Sig.only ⟨σ.env, Hp⟩ (o.looksAt ops)) t want c) (hp : c = true → PureOp P o (Sig.only ⟨σ.env, Hp⟩ (o.looksAt ops)) s) (hg : o.guard = some (g, want)) (hgd : (ops[g]?).bind (·.dst) = some t) (hd : o.dst = some d) (hN : d < N) (hsub : Sub Hp σ.heap)
    (hm : mentB nw (σ.env.filter fun p => (o.looksAt ops).contains p.1) (.gd c s) = true) (h : ADX P N w0 ops Q nw rest rows (σ.put d (.gd c s))) : ADX P N w0 ops Q nw (o :: rest) (⟨Hp.map (·.1), [], [], []⟩ :: rows) σ :=
  ADX.step Hp (FreshOp.gstep hgate (fun hc => (hp hc).fresh) hg hgd fun N _ _ _ _ _ _ => by omega) hd hN hsub hm h
theorem ADX.eff {tk new : List Nat} {s : SV} {F : Env} {Hin Hout : Heap} (he : EffStepX P N w0 ops o (Sig.only σ (o.looksAt ops)).env tk new Hin F Hout) (hin : Sub Hin σ.heap) (hF : FOk o.dst F s) (hti : (Hin.all fun p => tk.contains p.1) = true) (hto : (Hout.all fun p => tk.contains p.1) = true)
    (hnew : (new.all fun id => tk.contains id && !(Hin.map (·.1)).contains id) = true) (hno : (new.all fun id => σ.env.all fun p => p.2.no id) = true) (hfr : AllFr new σ.heap) (hm : mentB nw (σ.env.filter fun p => (o.looksAt ops).contains p.1) s = true) (hN : ∀ d, o.dst = some d → d < N)
    (h : ADX P N w0 ops Q (new ++ nw) rest rows ⟨consO o.dst s σ.env, outH tk Hout σ.heap⟩) : ADX P N w0 ops Q nw (o :: rest) (⟨[], tk, new, Hout⟩ :: rows) σ :=
  let ⟨τ, H, h1, h2, h3⟩ := h
  ⟨τ, H, .eff hN he hin hF hti hto hnew hno hfr hm h1, h2, h3⟩
end
end Go.Proofs.YtonfeiloekofdaaDoor


/-
  A calculus for walks, part 37: copy onto a row of the walk's own (cells of size one).
-/
namespace Go.Proofs.YtonfeiloekofdaaDoor
open Go.ChangeShapes Go.WideShapes Go.ChangeAt Go.RowKit Go.BigFrame Go.Deep
set_option linter.unusedVariables false

set_option linter.unusedSimpArgs false
section
variable {P : Program} {N : Nat} {w0 : Start} {σ : Sig} {ops : Array Oper} {rest : List Oper} {o : Oper} {Q : Sig → Prop}
theorem KnR.at_ {ρ : Rho} {S : Nat → Prop} {a : Act} {w : World} {y : Operand} {sz m : Nat} {g : Nat → Nat → AV} (h : KnR σ y sz m g) (hs : St N w0 ρ S σ a w) : ∃ A c, a.eval y = .slice A m c ∧ (0 < m → ∃ b off, A = some ⟨b, off, none⟩ ∧ ∀ i j, i < m → j < sz → ∃ u, w.cell? ⟨b, off + (i * sz + j), none⟩ = some u ∧ R ρ w S (g i j) u) := by
  cases h with
  | @own id ob k1 k2 k3 k4 k5 =>
    subst k3
    obtain ⟨A, ev, hn1, hn2, hA⟩ := k1.sound hs
    refine ⟨A, _, ev, fun hm => ?_⟩
    have hc : (ρ id).2 ≠ 0 := by omega
    obtain ⟨cs, e, h1, h2, h3, h4, h5, h6, h7⟩ := hs.mem.obj id ob k2 hc
    refine ⟨(ρ id).1, 0, by rcases hA with h | ⟨_, h⟩; (· exact h); (· exact absurd h hc), fun i j hi hj => ?_⟩
    obtain ⟨u, hu, hr⟩ := h7 i j (by omega) hj
    rw [k5 i j hi hj] at hr
    exact ⟨u, by simp [World.cell?, h1, hu], hr⟩
  | gen k1 => exact k1 _ _ _ _ _ _ hs
  | lst k1 =>
    obtain ⟨A, c, ev, h1, h2, h3, h4⟩ := k1.sound hs
    refine ⟨A, c, ev, fun hm => ?_⟩
    obtain ⟨b, off, hA, _, _⟩ := h4 0 hm
    refine ⟨b, off, hA, fun i j hi hj => ?_⟩
    obtain ⟨b', off', hA', _, hc⟩ := h4 i hi
    rw [hA] at hA'
    cases hA'
    obtain ⟨u, hu, hd⟩ := hc j hj
    exact ⟨u, hu, hd.toR⟩
/-- Where a copy goes: an own row from place q on. -/
inductive KnD (σ : Sig) (x : Operand) (id q n : Nat) : Prop
  | tl : Kn σ x (.one (.tl id 1 q n)) → KnD σ x id q n
  | own : q = 0 → Kn σ x (.one (.own id 1 n)) → KnD σ x id q n
end
end Go.Proofs.YtonfeiloekofdaaDoor


/-
  A calculus for walks, part 38: a member of a family becomes a row of its own (takeOut); the names of a family are given anew (reindex).
-/
namespace Go.Proofs.YtonfeiloekofdaaDoor
open Go.ChangeShapes Go.WideShapes Go.ChangeAt Go.RowKit Go.BigFrame Go.Deep
set_option linter.unusedVariables false

set_option linter.unusedSimpArgs false
section
variable {P : Program} {N : Nat} {w0 : Start} {σ : Sig} {ops : Array Oper} {rest : List Oper} {o : Oper} {Q : Sig → Prop}
/-- A reading does not look at the blocks of the families. -/
theorem R.noB {ρ ρ' : Rho} {w : World} {S : Nat → Prop} {id : Nat} (hb : ρ'.base = ρ.base) (hm : ∀ k, k ≠ id → ρ' k = ρ k) (hv : ∀ k, k ≠ id → ρ'.tv k = ρ.tv k) (hn : ∀ k, k ≠ id → ρ'.tn k = ρ.tn k) : ∀ {x : AV} {u : Value}, x.no id = true → R ρ w S x u → R ρ' w S x u := by
  intro x
  induction x with
  | tre k i =>
    rintro u h ⟨e, hi, hsl⟩
    have hk : k ≠ id := fun e => by subst e; simp [AV.no] at h
    exact ⟨by rw [hv k hk]; exact e, by rw [hn k hk]; exact hi, hsl⟩
  | fn g m caps ih =>
    rintro u h ⟨vs, e, hm, hc⟩
    rw [AV.no, List.all_eq_true] at h
    refine ⟨vs, e, hm, fun j hj => ?_⟩
    obtain ⟨u, hu, hr⟩ := hc j hj
    exact ⟨u, hu, ih j (h j (List.mem_range.2 hj)) hr⟩
  | frs x =>
    intro u _ h
    unfold R at h ⊢
    exact h.keep ⟨fun b hb' => ⟨hb'.1, by rw [hb]; exact hb'.2⟩, fun _ _ => rfl⟩
  | lst _ _ _ => exact fun _ h => h
  | ref _ _ => exact fun _ h => h
  | int _ _ => exact fun _ h => h
  | bool _ => exact fun _ h => h
  | str _ => exact fun _ h => h
  | con _ => exact fun _ h => h
  | cv _ _ => exact fun _ h => h
  | tl k _ _ _ =>
    intro u h hr
    have hk : k ≠ id := fun e => by subst e; simp [AV.no] at h
    unfold R at hr ⊢
    rw [hm k hk]; exact hr
  | ptr k _ _ _ =>
    intro u h hr
    have hk : k ≠ id := fun e => by subst e; simp [AV.no] at h
    unfold R at hr ⊢
    rw [hm k hk]; exact hr
  | own k _ _ =>
    intro u h hr
    have hk : k ≠ id := fun e => by subst e; simp [AV.no] at h
    unfold R at hr ⊢
    rw [hm k hk]; exact hr
theorem RL.noB {ρ ρ' : Rho} {w : World} {S : Nat → Prop} {id : Nat} (hb : ρ'.base = ρ.base) (hm : ∀ k, k ≠ id → ρ' k = ρ k) (hv : ∀ k, k ≠ id → ρ'.tv k = ρ.tv k) (hn : ∀ k, k ≠ id → ρ'.tn k = ρ.tn k) : ∀ {l : List AV} {us : List Value}, l.all (AV.no id) = true → RL ρ w S l us → RL ρ' w S l us
  | [], _, _, h => h
  | x :: l, _, hno, h => by
    obtain ⟨u, us', e, h1, h2⟩ := h
    rw [List.all_cons, Bool.and_eq_true] at hno
    exact ⟨u, us', e, R.noB hb hm hv hn hno.1 h1, RL.noB hb hm hv hn hno.2 h2⟩
theorem RS.noB {ρ ρ' : Rho} {w : World} {S : Nat → Prop} {id : Nat} (hb : ρ'.base = ρ.base) (hm : ∀ k, k ≠ id → ρ' k = ρ k) (hv : ∀ k, k ≠ id → ρ'.tv k = ρ.tv k) (hn : ∀ k, k ≠ id → ρ'.tn k = ρ.tn k) : ∀ {s : SV} {u : Value}, s.no id = true → RS ρ w S s u → RS ρ' w S s u := by
  intro s
  induction s with
  | one x => exact R.noB hb hm hv hn
  | agg l => rintro u hno ⟨us, e, h⟩; exact ⟨us, e, RL.noB hb hm hv hn hno h⟩
  | tup2 x y ih1 ih2 =>
    rintro u hno ⟨a, b, e, h1, h2⟩
    rw [SV.no, Bool.and_eq_true] at hno
    exact ⟨a, b, e, ih1 hno.1 h1, ih2 hno.2 h2⟩
  | tup3 x y z ih1 ih2 ih3 =>
    rintro u hno ⟨a, b, c, e, h1, h2, h3⟩
    rw [SV.no, Bool.and_eq_true, Bool.and_eq_true] at hno
    exact ⟨a, b, c, e, ih1 hno.1.1 h1, ih2 hno.1.2 h2, ih3 hno.2 h3⟩
  | tup4 x y z t ih1 ih2 ih3 ih4 =>
    rintro u hno ⟨a, b, c, d, e, h1, h2, h3, h4⟩
    rw [SV.no, Bool.and_eq_true, Bool.and_eq_true, Bool.and_eq_true] at hno
    exact ⟨a, b, c, d, e, ih1 hno.1.1.1 h1, ih2 hno.1.1.2 h2, ih3 hno.1.2 h3, ih4 hno.2 h4⟩
  | gd b s ih => rintro u hno ⟨h1, h2⟩; exact ⟨fun hb => ih hno (h1 hb), h2⟩
theorem St.takeOut {ρ : Rho} {S : Nat → Prop} {a : Act} {w : World} (hs : St N w0 ρ S σ a w) {t K q m sz n id : Nat} {X : Nat → AV} {f : Nat → Nat → AV} (ht : σ.env.lookup t = some (.one (.tre K q))) (hK : σ.heap.lookup K = some (.trees m X)) (hq : q < m) (hX : X q = .lst sz n f)
    (hlt : Nat.blt K 1000000 = true) (hsc : ∀ i j, i < n → j < sz → (f i j).scl = true) (hno : ∀ i j, (f i j).no id = true) (hf : Fr id σ) :
    ∃ ρ' v, St N w0 ρ' S ⟨(t, .one (.own id sz n)) :: σ.env, (id, .arr sz n f) :: (K, .trees m fun i => if i = q then .con v else X i) :: σ.heap⟩ a w := by
  obtain ⟨ev, _⟩ := hs.env _ _ ht
  obtain ⟨t1, t2⟩ := hs.mem.tree K m X hK q hq
  rw [hX] at t1
  rw [← ev] at t1
  unfold Tr at t1
  obtain ⟨A, c, e, hnc, hcm, hcase⟩ := t1
  obtain ⟨b, cs, hA, hblk⟩ : ∃ (b : Nat) (cs : Array Value), (A = some ⟨b, 0, none⟩ ∨ (A = none ∧ c = 0)) ∧ (c ≠ 0 → ρ.tb K q b ∧ (∃ e, w.heap[b]? = some (.cells cs e (0, 0))) ∧ cs.size = c * sz ∧ ∀ i j, i < n → j < sz → ∃ u, cs[i * sz + j]? = some u ∧ R ρ w S (f i j) u) := by
    rcases hcase with ⟨rfl, hA⟩ | ⟨b, cs, e', g1, g2, g3, g4, F, g5, g6⟩
    · rcases hA with hA | ⟨b, hA⟩
      · exact ⟨0, #[], .inr ⟨hA, rfl⟩, fun h => absurd rfl h⟩
      · exact ⟨b, #[], .inl hA, fun h => absurd rfl h⟩
    · refine ⟨b, cs, .inl g1, fun _ => ⟨g2, ⟨e', g3⟩, g4, fun i j hi hj => ?_⟩⟩
      obtain ⟨_, u, hu, hT⟩ := g5 i j hi hj
      refine ⟨u, hu, ?_⟩
      have hl := hsc i j hi hj
      generalize f i j = y at hT hl
      cases y <;> first | exact hT | cases hl
  have hKid : K ≠ id := (hf.heap.get hK).1
  have hlt' : K < 1000000 := by simpa [Nat.blt_eq] using hlt
  let ρ' : Rho := ⟨fun k => if k = id then (b, c) else ρ k, ρ.base, ρ.tv, fun k i => if k = K ∧ i = q then (fun _ => False) else ρ.tb k i, ρ.tn⟩
  have hm : ∀ k, k ≠ id → ρ' k = ρ k := fun k hk => if_neg hk
  have hmid : ρ' id = (b, c) := if_pos rfl
  have htb : ∀ k i, ¬ (k = K ∧ i = q) → ρ'.tb k i = ρ.tb k i := fun k i h => if_neg h
  have htq : ρ'.tb K q = fun _ => False := if_pos ⟨rfl, rfl⟩
  have hkeep : ∀ {x : AV} {u : Value}, x.no id = true → R ρ w S x u → R ρ' w S x u := R.noB (ρ := ρ) (ρ' := ρ') (id := id) rfl hm (fun _ _ => rfl) (fun _ _ => rfl)
  refine ⟨ρ', ρ.tv K q, ?_⟩
  have conv : ∀ {k p}, ((id, AObj.arr sz n f) :: (K, AObj.trees m fun i => if i = q then .con (ρ.tv K q) else X i) :: σ.heap : Heap).lookup k = some p → k ≠ id → ∃ p', σ.heap.lookup k = some p' ∧ p'.sz = p.sz ∧ p'.n = p.n ∧ ∀ i j, i < p.n → p.f i j = p'.f i j := fun {k p} hp hk => by
    rcases lookup_put hp with ⟨h1, _⟩ | ⟨_, hp⟩
    · exact absurd h1 hk
    · rcases lookup_put hp with ⟨rfl, rfl⟩ | ⟨_, hp⟩
      · exact ⟨_, hK, rfl, rfl, fun i j hi => absurd hi (Nat.not_lt_zero _)⟩
      · exact ⟨p, hp, rfl, rfl, fun _ _ _ => rfl⟩
  have convT : ∀ {k m2 Y}, ((id, AObj.arr sz n f) :: (K, AObj.trees m fun i => if i = q then .con (ρ.tv K q) else X i) :: σ.heap : Heap).lookup k = some (.trees m2 Y) → k ≠ id ∧ ∃ Y', σ.heap.lookup k = some (.trees m2 Y') ∧ ∀ i, ¬ (k = K ∧ i = q) → Y i = Y' i := fun {k m2 Y} hp => by
    rcases lookup_put hp with ⟨_, h1⟩ | ⟨hk, hp⟩
    · cases h1
    · rcases lookup_put hp with ⟨rfl, h1⟩ | ⟨hk2, hp⟩
      · cases h1
        exact ⟨hk, X, hK, fun i hi => if_neg fun e => hi ⟨rfl, e⟩⟩
      · exact ⟨hk, Y, hp, fun _ _ => rfl⟩
  refine ⟨hs.size, hs.defers, ⟨hs.below.old, hs.below.same, fun k hk => (hs.below.ids k hk).trans ⟨hm k (fun e => by have := hf.small; omega), rfl, by funext i; exact htb k i (fun e => by omega), rfl⟩⟩, ⟨hs.mem.base, hs.mem.low, hs.mem.lt, ?_, ?_, ?_, ?_⟩, fun t' s ht' => ?_⟩
  · intro k p hp
    by_cases hk : k = id
    · subst hk
      rcases lookup_put hp with ⟨_, rfl⟩ | ⟨hne, _⟩
      · rw [hmid]; exact hnc
      · exact absurd rfl hne
    · obtain ⟨p', h1, h2, h3, h4⟩ := conv hp hk
      rw [hm k hk, ← h3]; exact hs.mem.cap k p' h1
  · intro k p hp hc
    by_cases hk : k = id
    · subst hk
      rcases lookup_put hp with ⟨_, rfl⟩ | ⟨hne, _⟩
      · rw [hmid] at hc ⊢
        obtain ⟨g1, ⟨e', g2⟩, g3, g4⟩ := hblk hc
        obtain ⟨q1, q2, q3, _⟩ := t2 b g1
        refine ⟨cs, e', g2, g3, hnc, hcm, q1, q3, fun i j hi hj => ?_⟩
        obtain ⟨u, hu, hr⟩ := g4 i j hi hj
        exact ⟨u, hu, hkeep (hno i j) hr⟩
      · exact absurd rfl hne
    · obtain ⟨p', h1, h2, h3, h4⟩ := conv hp hk
      rw [hm k hk] at hc ⊢
      obtain ⟨cs2, e2, g1, g2, g3, g4, g5, g6, g7⟩ := hs.mem.obj k p' h1 hc
      refine ⟨cs2, e2, g1, by rw [← h2]; exact g2, by rw [← h3]; exact g3, g4, g5, g6, fun i j hi hj => ?_⟩
      obtain ⟨u, hu, hr⟩ := g7 i j (by rw [h3]; exact hi) (by rw [h2]; exact hj)
      refine ⟨u, by rw [← h2]; exact hu, ?_⟩
      rw [h4 i j hi]
      exact hkeep ((hf.heap.get h1).2.at_ i j) hr
  · intro k k' p p' hp hp' hne hc hc'
    by_cases hk : k = id
    · subst hk
      obtain ⟨p2, h1, _⟩ := conv hp' (fun e => hne e.symm)
      rw [hmid] at hc ⊢
      rw [hm k' (fun e => hne e.symm)] at hc' ⊢
      obtain ⟨g1, _⟩ := hblk hc
      exact fun e => (t2 b g1).2.2.2.1 k' p2 h1 hc' e.symm
    · obtain ⟨p1, h1, _⟩ := conv hp hk
      rw [hm k hk] at hc ⊢
      by_cases hk' : k' = id
      · subst hk'
        rw [hmid] at hc' ⊢
        obtain ⟨g1, _⟩ := hblk hc'
        exact (t2 b g1).2.2.2.1 k p1 h1 hc
      · obtain ⟨p2, h2, _⟩ := conv hp' hk'
        rw [hm k' hk'] at hc' ⊢
        exact hs.mem.inj k k' p1 p2 h1 h2 hne hc hc'
  · intro k m2 Y hY
    obtain ⟨hk, Y', hY', hYe⟩ := convT hY
    refine ⟨(hs.mem.tree0 k m2 Y' hY').1, fun i hi => ?_⟩
    by_cases hkq : k = K ∧ i = q
    · obtain ⟨rfl, rfl⟩ := hkq
      rw [htq]
      refine ⟨?_, fun b hb => hb.elim⟩
      rcases lookup_put hY with ⟨_, h1⟩ | ⟨_, hY⟩
      · cases h1
      · rcases lookup_put hY with ⟨_, h1⟩ | ⟨hk2, _⟩
        · cases h1
          show Tr w (if i = i then _ else _) _ _
          rw [if_pos rfl]
          unfold Tr; rfl
        · exact absurd rfl hk2
    · obtain ⟨g1, g2⟩ := hs.mem.tree k m2 Y' hY' i hi
      rw [hYe i hkq, htb k i hkq]
      refine ⟨g1, fun b' hb' => ?_⟩
      obtain ⟨q1, q2, q3, q4, q5⟩ := g2 b' hb'
      refine ⟨q1, q2, q3, fun k' p hp hc => ?_, fun k' m4 Y4 i' hY4 hi' hne' => ?_⟩
      · by_cases hk' : k' = id
        · subst hk'
          rw [hmid] at hc ⊢
          obtain ⟨g1, _⟩ := hblk hc
          intro e
          have e : b = b' := e
          subst e
          exact q5 K m X q hK hq (fun h => hkq ⟨h.1.symm, h.2.symm⟩) g1
        · obtain ⟨p', h1, _⟩ := conv hp hk'
          rw [hm k' hk'] at hc ⊢
          exact q4 k' p' h1 hc
      · obtain ⟨_, Y5, h5, _⟩ := convT hY4
        by_cases hkq' : k' = K ∧ i' = q
        · obtain ⟨rfl, rfl⟩ := hkq'
          rw [htq]; exact fun h => h
        · rw [htb k' i' hkq']
          exact q5 k' m4 Y5 i' h5 hi' hne'
  · rcases lookup_put ht' with ⟨rfl, rfl⟩ | ⟨_, ht2⟩
    · show ∃ B, _ = Value.slice B n (ρ' id).2 ∧ n ≤ (ρ' id).2 ∧ (ρ' id).2 ≤ maxLen ∧ (B = some ⟨(ρ' id).1, 0, none⟩ ∨ (B = none ∧ (ρ' id).2 = 0))
      rw [hmid]
      exact ⟨A, e, hnc, hcm, hA⟩
    · exact RS.noB (ρ := ρ) (ρ' := ρ') (id := id) rfl hm (fun _ _ => rfl) (fun _ _ => rfl) (List.all_eq_true.1 hf.env _ (lookup_mem ht2)) (hs.env t' s ht2)
theorem ARun.takeOut (t K q m sz n id : Nat) (X : Nat → AV) (f : Nat → Nat → AV) (ht : σ.env.lookup t = some (.one (.tre K q))) (hK : σ.heap.lookup K = some (.trees m X)) (hq : q < m) (hX : X q = .lst sz n f) (hlt : Nat.blt K 1000000 = true)
    (hsc : ∀ i j, i < n → j < sz → (f i j).scl = true) (hno : ∀ i j, (f i j).no id = true) (hf : Fr id σ) (h : ∀ v, ARun P N w0 ops Q rest ⟨(t, .one (.own id sz n)) :: σ.env, (id, .arr sz n f) :: (K, .trees m fun i => if i = q then .con v else X i) :: σ.heap⟩) : ARun P N w0 ops Q rest σ := by
  intro ρ S a w Q' hQ hs
  obtain ⟨ρ', v, hs'⟩ := hs.takeOut ht hK hq hX hlt hsc hno hf
  exact h v ρ' S a w Q' hQ hs'
/-- The names of a family are given anew: the member i of the new one is the member φ i of the old one. -/
theorem St.reindex {ρ : Rho} {S : Nat → Prop} {a : Act} {w : World} (hs : St N w0 ρ S σ a w) {K K2 id n n' sz m : Nat} {φ : Nat → Nat} {X : Nat → AV} {f f' : Nat → Nat → AV} (hK : σ.heap.lookup K = some (.trees n X)) (hA : σ.heap.lookup id = some (.arr sz m f))
    (hφ : ∀ i, i < n' → φ i < n) (hinj : ∀ i j, i < n' → j < n' → φ i = φ j → i = j) (hcell : ∀ i j, i < m → j < sz → f' i j = f i j ∨ ∃ p, p < n' ∧ f i j = .tre K (φ p) ∧ f' i j = .tre K2 p) (hf : Fr K2 σ) :
    ∃ ρ', St N w0 ρ' S ⟨σ.env, (K2, .trees n' fun i => X (φ i)) :: (id, .arr sz m f') :: σ.heap.filter fun p => p.1 != K⟩ a w ∧ ∀ p, p < n' → ∀ v, R ρ w S (.tre K (φ p)) v → R ρ' w S (.tre K2 p) v := by
  obtain ⟨hKK, _⟩ := hf.heap.get hK
  obtain ⟨hAK, _⟩ := hf.heap.get hA
  have hidK : id ≠ K := fun e => by subst e; rw [hK] at hA; cases hA
  let ρ' : Rho := ⟨fun k => if k = K2 then (0, 0) else ρ k, ρ.base, fun k => if k = K2 then (fun i => ρ.tv K (φ i)) else ρ.tv k, fun k => if k = K2 then (fun i => ρ.tb K (φ i)) else ρ.tb k, fun k => if k = K2 then n' else ρ.tn k⟩
  have hm : ∀ k, k ≠ K2 → ρ' k = ρ k := fun k hk => if_neg hk
  have hv : ∀ k, k ≠ K2 → ρ'.tv k = ρ.tv k := fun k hk => if_neg hk
  have hb : ∀ k, k ≠ K2 → ρ'.tb k = ρ.tb k := fun k hk => if_neg hk
  have hn : ∀ k, k ≠ K2 → ρ'.tn k = ρ.tn k := fun k hk => if_neg hk
  have hm2 : ρ' K2 = (0, 0) := if_pos rfl
  have hv2 : ρ'.tv K2 = fun i => ρ.tv K (φ i) := if_pos rfl
  have hb2 : ρ'.tb K2 = fun i => ρ.tb K (φ i) := if_pos rfl
  have hn2 : ρ'.tn K2 = n' := if_pos rfl
  have hkeep : ∀ {x : AV} {u : Value}, x.no K2 = true → R ρ w S x u → R ρ' w S x u := R.noB (ρ := ρ) (ρ' := ρ') (id := K2) rfl hm hv hn
  have conv : ∀ {k p}, ((K2, AObj.trees n' fun i => X (φ i)) :: (id, AObj.arr sz m f') :: σ.heap.filter fun p => p.1 != K : Heap).lookup k = some p → k ≠ K2 → k ≠ K ∧ ∃ p', σ.heap.lookup k = some p' ∧ p'.sz = p.sz ∧ p'.n = p.n ∧ (k ≠ id → p' = p) := fun {k p} hp hk => by
    rcases lookup_put hp with ⟨h1, _⟩ | ⟨_, hp⟩
    · exact absurd h1 hk
    · rcases lookup_put hp with ⟨rfl, rfl⟩ | ⟨_, hp⟩
      · exact ⟨hidK, _, hA, rfl, rfl, fun h => absurd rfl h⟩
      · obtain ⟨f1, f2⟩ := filter_lookup hp
        exact ⟨f1, p, f2, rfl, rfl, fun _ => rfl⟩
  have convT : ∀ {k m2 Y}, ((K2, AObj.trees n' fun i => X (φ i)) :: (id, AObj.arr sz m f') :: σ.heap.filter fun p => p.1 != K : Heap).lookup k = some (.trees m2 Y) → (k = K2 ∧ m2 = n' ∧ Y = fun i => X (φ i)) ∨ (k ≠ K2 ∧ k ≠ K ∧ σ.heap.lookup k = some (.trees m2 Y)) := fun {k m2 Y} hp => by
    rcases lookup_put hp with ⟨rfl, h1⟩ | ⟨hk, hp⟩
    · cases h1; exact .inl ⟨rfl, rfl, rfl⟩
    · rcases lookup_put hp with ⟨rfl, h1⟩ | ⟨_, hp⟩
      · cases h1
      · obtain ⟨f1, f2⟩ := filter_lookup hp
        exact .inr ⟨hk, f1, f2⟩
  refine ⟨ρ', ⟨hs.size, hs.defers, ⟨hs.below.old, hs.below.same, fun k hk => (hs.below.ids k hk).trans ?_⟩, ⟨hs.mem.base, hs.mem.low, hs.mem.lt, ?_, ?_, ?_, ?_⟩, fun t' s ht' => ?_⟩, fun q hq v hr => by
    obtain ⟨r1, r2, r3⟩ := hr
    exact ⟨by rw [hv2]; exact r1, by rw [hn2]; exact hq, r3⟩⟩
  · have hne : k ≠ K2 := fun e => by have := hf.small; omega
    exact ⟨hm k hne, hv k hne, hb k hne, hn k hne⟩
  · intro k p hp
    by_cases hk : k = K2
    · subst hk
      rcases lookup_put hp with ⟨_, rfl⟩ | ⟨hne, _⟩
      · exact Nat.zero_le _
      · exact absurd rfl hne
    · obtain ⟨_, p', h1, h2, h3, _⟩ := conv hp hk
      rw [hm k hk, ← h3]; exact hs.mem.cap k p' h1
  · intro k p hp hc
    by_cases hk : k = K2
    · subst hk; rw [hm2] at hc; exact absurd rfl hc
    · obtain ⟨_, p', h1, h2, h3, h4⟩ := conv hp hk
      rw [hm k hk] at hc ⊢
      obtain ⟨cs2, e2, g1, g2, g3, g4, g5, g6, g7⟩ := hs.mem.obj k p' h1 hc
      refine ⟨cs2, e2, g1, by rw [← h2]; exact g2, by rw [← h3]; exact g3, g4, g5, g6, fun i j hi hj => ?_⟩
      obtain ⟨u, hu, hr⟩ := g7 i j (by rw [h3]; exact hi) (by rw [h2]; exact hj)
      refine ⟨u, by rw [← h2]; exact hu, ?_⟩
      by_cases hkid : k = id
      · subst hkid
        rw [hA] at h1
        cases h1
        rcases lookup_put hp with ⟨h5, _⟩ | ⟨_, hp⟩
        · exact absurd h5 hk
        · rcases lookup_put hp with ⟨_, rfl⟩ | ⟨h5, _⟩
          · have hr : R ρ w S (f i j) u := hr
            show R ρ' w S (f' i j) u
            rcases hcell i j hi hj with h6 | ⟨q, hq, h6, h7⟩
            · rw [h6]; exact hkeep ((hf.heap.get hA).2.at_ i j) hr
            · rw [h6] at hr
              rw [h7]
              obtain ⟨r1, r2, r3⟩ := hr
              exact ⟨by rw [hv2]; exact r1, by rw [hn2]; exact hq, r3⟩
          · exact absurd rfl h5
      · obtain rfl := h4 hkid
        exact hkeep ((hf.heap.get h1).2.at_ i j) hr
  · intro k k' p p' hp hp' hne hc hc'
    by_cases hk : k = K2
    · subst hk; rw [hm2] at hc; exact absurd rfl hc
    by_cases hk' : k' = K2
    · subst hk'; rw [hm2] at hc'; exact absurd rfl hc'
    obtain ⟨_, p1, h1, _⟩ := conv hp hk
    obtain ⟨_, p2, h2, _⟩ := conv hp' hk'
    rw [hm k hk] at hc ⊢
    rw [hm k' hk'] at hc' ⊢
    exact hs.mem.inj k k' p1 p2 h1 h2 hne hc hc'
  · intro k m2 Y hY
    rcases convT hY with ⟨rfl, rfl, rfl⟩ | ⟨hk, hkK, hY'⟩
    · refine ⟨hn2, fun i hi => ?_⟩
      obtain ⟨g1, g2⟩ := hs.mem.tree K n X hK (φ i) (hφ i hi)
      rw [hv2, hb2]
      refine ⟨g1, fun b' hb' => ?_⟩
      obtain ⟨q1, q2, q3, q4, q5⟩ := g2 b' hb'
      refine ⟨q1, q2, q3, fun k' p hp hc => ?_, fun k' m4 Y4 i' hY4 hi' hne' => ?_⟩
      · by_cases hk' : k' = k
        · subst hk'; rw [hm2] at hc; exact absurd rfl hc
        · obtain ⟨_, p', h1, _⟩ := conv hp hk'
          rw [hm k' hk'] at hc ⊢
          exact q4 k' p' h1 hc
      · rcases convT hY4 with ⟨rfl, rfl, rfl⟩ | ⟨hk', hkK', hY5⟩
        · rw [hb2]
          exact q5 K n X (φ i') hK (hφ i' hi') (fun e => hne' ⟨rfl, hinj i' i hi' hi e.2⟩)
        · rw [hb k' hk']
          exact q5 k' m4 Y4 i' hY5 hi' (fun e => hkK' e.1)
    · refine ⟨(hn k hk).trans (hs.mem.tree0 k m2 Y hY').1, fun i hi => ?_⟩
      obtain ⟨g1, g2⟩ := hs.mem.tree k m2 Y hY' i hi
      rw [hv k hk, hb k hk]
      refine ⟨g1, fun b' hb' => ?_⟩
      obtain ⟨q1, q2, q3, q4, q5⟩ := g2 b' hb'
      refine ⟨q1, q2, q3, fun k' p hp hc => ?_, fun k' m4 Y4 i' hY4 hi' hne' => ?_⟩
      · by_cases hk' : k' = K2
        · subst hk'; rw [hm2] at hc; exact absurd rfl hc
        · obtain ⟨_, p', h1, _⟩ := conv hp hk'
          rw [hm k' hk'] at hc ⊢
          exact q4 k' p' h1 hc
      · rcases convT hY4 with ⟨rfl, rfl, rfl⟩ | ⟨hk', hkK', hY5⟩
        · rw [hb2]
          exact q5 K n X (φ i') hK (hφ i' hi') (fun e => hkK e.1.symm)
        · rw [hb k' hk']
          exact q5 k' m4 Y4 i' hY5 hi' hne'
  · exact RS.noB (ρ := ρ) (ρ' := ρ') (id := K2) rfl hm hv hn (List.all_eq_true.1 hf.env _ (lookup_mem ht')) (hs.env t' s ht')
theorem ARun.reindex (K K2 id n n' sz m : Nat) (φ : Nat → Nat) (X : Nat → AV) (f f' : Nat → Nat → AV) (hK : σ.heap.lookup K = some (.trees n X)) (hA : σ.heap.lookup id = some (.arr sz m f))
    (hφ : ∀ i, i < n' → φ i < n) (hinj : ∀ i j, i < n' → j < n' → φ i = φ j → i = j) (hcell : ∀ i j, i < m → j < sz → f' i j = f i j ∨ ∃ p, p < n' ∧ f i j = .tre K (φ p) ∧ f' i j = .tre K2 p) (hf : Fr K2 σ)
    (h : ARun P N w0 ops Q rest ⟨σ.env, (K2, .trees n' fun i => X (φ i)) :: (id, .arr sz m f') :: σ.heap.filter fun p => p.1 != K⟩) : ARun P N w0 ops Q rest σ := by
  intro ρ S a w Q' hQ hs
  obtain ⟨ρ', hs', _⟩ := hs.reindex hK hA hφ hinj hcell hf
  exact h ρ' S a w Q' hQ hs'
theorem AW.reindex {c : Code} {Q : Exit → Sig → Prop} (K K2 id n n' sz m : Nat) (φ : Nat → Nat) (X : Nat → AV) (f f' : Nat → Nat → AV) (hK : σ.heap.lookup K = some (.trees n X)) (hA : σ.heap.lookup id = some (.arr sz m f))
    (hφ : ∀ i, i < n' → φ i < n) (hinj : ∀ i j, i < n' → j < n' → φ i = φ j → i = j) (hcell : ∀ i j, i < m → j < sz → f' i j = f i j ∨ ∃ p, p < n' ∧ f i j = .tre K (φ p) ∧ f' i j = .tre K2 p) (hf : Fr K2 σ)
    (h : AW P N w0 c Q ⟨σ.env, (K2, .trees n' fun i => X (φ i)) :: (id, .arr sz m f') :: σ.heap.filter fun p => p.1 != K⟩) : AW P N w0 c Q σ := by
  intro ρ S a w Q' hQ hs
  obtain ⟨ρ', hs', _⟩ := hs.reindex hK hA hφ hinj hcell hf
  exact h ρ' S a w Q' hQ hs'
theorem ARun.reindexS (t K K2 id n n' sz m p0 : Nat) (φ : Nat → Nat) (X : Nat → AV) (f f' : Nat → Nat → AV) (ht : σ.env.lookup t = some (.one (.tre K (φ p0)))) (hp0 : p0 < n') (hK : σ.heap.lookup K = some (.trees n X)) (hA : σ.heap.lookup id = some (.arr sz m f))
    (hφ : ∀ i, i < n' → φ i < n) (hinj : ∀ i j, i < n' → j < n' → φ i = φ j → i = j) (hcell : ∀ i j, i < m → j < sz → f' i j = f i j ∨ ∃ p, p < n' ∧ f i j = .tre K (φ p) ∧ f' i j = .tre K2 p) (hf : Fr K2 σ)
    (h : ARun P N w0 ops Q rest ⟨(t, .one (.tre K2 p0)) :: σ.env, (K2, .trees n' fun i => X (φ i)) :: (id, .arr sz m f') :: σ.heap.filter fun p => p.1 != K⟩) : ARun P N w0 ops Q rest σ := by
  intro ρ S a w Q' hQ hs
  obtain ⟨ρ', hs', hv⟩ := hs.reindex hK hA hφ hinj hcell hf
  refine h ρ' S a w Q' hQ ⟨hs'.size, hs'.defers, hs'.below, hs'.mem, fun t' s ht' => ?_⟩
  rcases lookup_put ht' with ⟨rfl, rfl⟩ | ⟨_, ht2⟩
  · exact hv p0 hp0 _ (hs.env _ _ ht)
  · exact hs'.env t' s ht2
end
end Go.Proofs.YtonfeiloekofdaaDoor


/-
  A calculus for walks, part 39: copy onto a row of the walk's own, for cells of any size.
-/
namespace Go.Proofs.YtonfeiloekofdaaDoor
open Go.ChangeShapes Go.WideShapes Go.ChangeAt Go.RowKit Go.BigFrame Go.Deep
set_option linter.unusedVariables false

set_option linter.unusedSimpArgs false
section
variable {P : Program} {N : Nat} {w0 : Start} {σ : Sig} {ops : Array Oper} {rest : List Oper} {o : Oper} {Q : Sig → Prop}
/-- Where a copy goes: an own row from place q on. -/
inductive KnDN (σ : Sig) (x : Operand) (sz id q n : Nat) : Prop
  | tl : Kn σ x (.one (.tl id sz q n)) → KnDN σ x sz id q n
  | own : q = 0 → Kn σ x (.one (.own id sz n)) → KnDN σ x sz id q n
/-- A source of so many elements. -/
structure SrcOk (σ : Sig) (y : Operand) (sz m : Nat) (g : Nat → Nat → AV) : Prop where
  src : ∀ (N : Nat) (w0 : Start) (ρ : Rho) (S : Nat → Prop) (a : Act) (w : World), St N w0 ρ S σ a w → ∃ A c, a.eval y = .slice A m c ∧ (0 < m → ∃ b off, A = some ⟨b, off, none⟩ ∧ ∀ i j, i < m → j < sz → ∃ u, w.cell? ⟨b, off + (i * sz + j), none⟩ = some u ∧ R ρ w S (g i j) u)
theorem SrcOk.of {y : Operand} {sz m : Nat} {g : Nat → Nat → AV} (h : KnR σ y sz m g) : SrcOk σ y sz m g := ⟨fun _ _ _ _ _ _ hs => h.at_ hs⟩
theorem SrcOk.tl {y : Operand} {id sz q n m : Nat} {ob : AObj} {g : Nat → Nat → AV} (k1 : Kn σ y (.one (.tl id sz q n))) (k2 : σ.heap.lookup id = some ob) (k3 : ob.sz = sz) (k4 : n ≤ ob.n) (hm : m = n - q) (k5 : ∀ i j, i < m → j < sz → ob.f (q + i) j = g i j) : SrcOk σ y sz m g := by
  subst hm
  refine ⟨fun N w0 ρ S a w hs => ?_⟩
  obtain ⟨A, ev, h1, h2, h3, h4⟩ := k1.sound hs
  refine ⟨A, _, ev, fun hm => ?_⟩
  have hA : A = some ⟨(ρ id).1, q * sz, none⟩ := by rcases h4 with h | h; (· exact h); (· omega)
  have hc : (ρ id).2 ≠ 0 := by omega
  obtain ⟨cs, e, g1, g2, g3, g4, g5, g6, g7⟩ := hs.mem.obj id ob k2 hc
  refine ⟨_, _, hA, fun i j hi hj => ?_⟩
  obtain ⟨u, hu, hr⟩ := g7 (q + i) j (by omega) (by rw [k3]; exact hj)
  rw [k5 i j hi hj] at hr
  rw [k3] at hu
  refine ⟨u, ?_, hr⟩
  rw [show q * sz + (i * sz + j) = (q + i) * sz + j by rw [Nat.add_mul]; omega]
  simp [World.cell?, g1, hu]
end
end Go.Proofs.YtonfeiloekofdaaDoor


/-
  A calculus for walks, part 40: the capacity of a row that was handed over; rows that get a new name.
-/
namespace Go.Proofs.YtonfeiloekofdaaDoor
open Go.ChangeShapes Go.WideShapes Go.ChangeAt Go.RowKit Go.BigFrame Go.Deep
set_option linter.unusedVariables false

set_option linter.unusedSimpArgs false
section
variable {P : Program} {N : Nat} {w0 : Start} {σ : Sig} {ops : Array Oper} {rest : List Oper} {o : Oper} {Q : Sig → Prop}
end
end Go.Proofs.YtonfeiloekofdaaDoor


/-
  A calculus for walks, part 41: rows that get a new name; two own rows do not overlap.
-/
namespace Go.Proofs.YtonfeiloekofdaaDoor
open Go.ChangeShapes Go.WideShapes Go.ChangeAt Go.RowKit Go.BigFrame Go.Deep
set_option linter.unusedVariables false

set_option linter.unusedSimpArgs false
section
variable {P : Program} {N : Nat} {w0 : Start} {σ : Sig} {ops : Array Oper} {rest : List Oper} {o : Oper} {Q : Sig → Prop}
end
end Go.Proofs.YtonfeiloekofdaaDoor


/-
  A calculus for walks, part 42: append of zeros by their number, where there is no room: a new row.
-/
namespace Go.Proofs.YtonfeiloekofdaaDoor
open Go.ChangeShapes Go.WideShapes Go.ChangeAt Go.RowKit Go.BigFrame Go.Deep
set_option linter.unusedVariables false

set_option linter.unusedSimpArgs false
section
variable {P : Program} {N : Nat} {w0 : Start} {σ : Sig} {ops : Array Oper} {rest : List Oper} {o : Oper} {Q : Sig → Prop}
end
end Go.Proofs.YtonfeiloekofdaaDoor


/-
  What stands behind an insertion.
-/
namespace Go.Proofs.YtonfeiloekofdaaDoor
open Go.ChangeShapes Go.WideShapes Go.ChangeAt Go.RowKit Go.BigFrame Go.Deep
set_option linter.unusedVariables false
set_option linter.unusedSimpArgs false

/-- What stands behind an insertion at place i. -/
def insF (f g : Nat → Nat → AV) (i a b : Nat) : AV := if a < i then f a b else if a = i then g 0 b else f (a - 1) b
/-- Cells that may be copied, and name no object that a walk makes. -/
structure CellsOk (f : Nat → Nat → AV) : Prop where
  oc : ∀ a b, b < 2 → (f a b).oc = true
  no : ∀ k, k < 1000000 → ∀ a b, (f a b).no k = true
end Go.Proofs.YtonfeiloekofdaaDoor


/-
  A calculus for walks, part 16: strings put together.
-/
namespace Go.Proofs.YtonfeiloekofdaaDoor
open Go.ChangeShapes Go.WideShapes Go.ChangeAt Go.RowKit Go.BigFrame Go.Deep
set_option linter.unusedVariables false

set_option linter.unusedSimpArgs false
theorem PureOp.strAdd {P : Program} {σ : Sig} {o : Oper} {t t' : TypeId} {x y : Operand} {a b : ByteArray} (ho : o.op = .binOp .add t x y t') (hx : Kn σ x (.one (.str a))) (hy : Kn σ y (.one (.str b))) (hs : a.size + b.size ≤ 1000000000) : PureOp P o σ (.one (.str (a ++ b))) := by
  refine PureOp.val fun N w0 ρ S ac w hst => ?_
  have e1 : ac.eval x = .string a := (hx.sound hst).1
  have e2 : ac.eval y = .string b := (hy.sound hst).1
  refine ⟨.string (a ++ b), ⟨rfl, by rw [ByteArray.size_append]; unfold maxLen; omega⟩, fun w' _ => ?_⟩
  generalize ac.eval = ev at e1 e2 ⊢
  have hm : ¬ ((a.size + b.size : Nat) : Int) > IntKind.i64.max := by
    have : IntKind.i64.max = 9223372036854775807 := by decide
    rw [this]; omega
  simp only [execOp, ho, e1, e2, Sem.run_bind, eqGuard, Result.andThen_ok, binOp, Op.stringOp]
  rw [if_neg hm]
  simp [go_sem]
end Go.Proofs.YtonfeiloekofdaaDoor


/-
  Decimal numerals: the reference's own, and strconv.Itoa.
-/
namespace Go.Proofs.YtonfeiloekofdaaDoor
open Go.ChangeShapes Go.WideShapes Go.ChangeAt Go.RowKit Go.BigFrame Go.Deep
set_option linter.unusedVariables false
set_option linter.unusedSimpArgs false
theorem vtx_ca_22 : callB Tryd.prog 22 = true := by kernel_rfl
theorem vtx_cv_3_5_.u8 : convB Tryd.prog 3 5 .u8 = true := by kernel_rfl
def ren_n171 : Shelf.Ren where
  f := fun x => match x with | 171 => 43 | 243 => 56 | 246 => 66 | 283 => 74 | 284 => 75 | 285 => 76 | 286 => 77 | 129 => 81 | 317 => 80 | 318 => 82 | 319 => 83 | 320 => 84 | 337 => 85 | 338 => 86 | n => n
  t := fun x => match x with | 3 => 3 | 9 => 9 | 2 => 2 | 4 => 4 | 171 => 103 | 0 => 0 | 53 => 87 | 37 => 63 | 5 => 5 | 173 => 106 | 212 => 116 | 51 => 112 | 20 => 20 | 213 => 117 | 46 => 90 | 232 => 121 | 233 => 122 | n => n
  g := fun x => match x with | 17 => 5 | 18 => 6 | 19 => 7 | n => n
theorem lays_n171 : Lays.n171 Tryd.prog ren_n171 where
  mixed := by kernel_rfl
  f129 := by kernel_rfl
  f171 := by kernel_rfl
  f243 := by kernel_rfl
  f246 := by kernel_rfl
  f283 := by kernel_rfl
  f284 := by kernel_rfl
  f285 := by kernel_rfl
  f286 := by kernel_rfl
  f317 := by kernel_rfl
  f318 := by kernel_rfl
  f319 := by kernel_rfl
  f320 := by kernel_rfl
  f337 := by kernel_rfl
  f338 := by kernel_rfl
  t0 := Tryd.underlying0
  a0 := Tryd.isAgg0
  z0 := Tryd.sizeOf0
  v0 := Tryd.zeroValue0
  t2 := Tryd.underlying2
  a2 := Tryd.isAgg2
  z2 := Tryd.sizeOf2
  v2 := Tryd.zeroValue2
  t3 := Tryd.underlying3
  a3 := Tryd.isAgg3
  z3 := Tryd.sizeOf3
  v3 := Tryd.zeroValue3
  t4 := Tryd.underlying4
  a4 := Tryd.isAgg4
  z4 := Tryd.sizeOf4
  v4 := Tryd.zeroValue4
  t5 := Tryd.underlying5
  a5 := Tryd.isAgg5
  z5 := Tryd.sizeOf5
  v5 := Tryd.zeroValue5
  t9 := Tryd.underlying9
  a9 := Tryd.isAgg9
  z9 := Tryd.sizeOf9
  v9 := Tryd.zeroValue9
  t20 := Tryd.underlying20
  a20 := Tryd.isAgg20
  z20 := Tryd.sizeOf20
  v20 := Tryd.zeroValue20
  t37 := Tryd.underlying63
  a37 := Tryd.isAgg63
  z37 := Tryd.sizeOf63
  v37 := Tryd.zeroValue63
  t46 := Tryd.underlying90
  a46 := Tryd.isAgg90
  z46 := Tryd.sizeOf90
  v46 := Tryd.zeroValue90
  t51 := Tryd.underlying112
  a51 := Tryd.isAgg112
  z51 := Tryd.sizeOf112
  v51 := Tryd.zeroValue112
  t53 := Tryd.underlying87
  a53 := Tryd.isAgg87
  z53 := Tryd.sizeOf87
  v53 := Tryd.zeroValue87
  t171 := Tryd.underlying103
  a171 := Tryd.isAgg103
  z171 := Tryd.sizeOf103
  v171 := Tryd.zeroValue103
  t173 := Tryd.underlying106
  a173 := Tryd.isAgg106
  z173 := Tryd.sizeOf106
  v173 := Tryd.zeroValue106
  t212 := Tryd.underlying116
  a212 := Tryd.isAgg116
  z212 := Tryd.sizeOf116
  v212 := Tryd.zeroValue116
  t213 := Tryd.underlying117
  a213 := Tryd.isAgg117
  z213 := Tryd.sizeOf117
  t232 := Tryd.underlying121
  a232 := Tryd.isAgg121
  z232 := Tryd.sizeOf121
  v232 := Tryd.zeroValue121
  t233 := Tryd.underlying122
  a233 := Tryd.isAgg122
  z233 := Tryd.sizeOf122
  v233 := Tryd.zeroValue122
  g17 := by kernel_rfl
  g18 := by kernel_rfl
  g19 := by kernel_rfl
theorem laysM_n171 : LaysM.n171 Tryd.prog ren_n171 := { lays_n171 with
  i0 := by kernel_rfl,
  i2 := by kernel_rfl,
  i3 := by kernel_rfl,
  i4 := by kernel_rfl,
  i5 := by kernel_rfl,
  i9 := by kernel_rfl,
  i20 := by kernel_rfl,
  i37 := by kernel_rfl,
  i46 := by kernel_rfl,
  i51 := by kernel_rfl,
  i53 := by kernel_rfl,
  i171 := by kernel_rfl,
  i173 := by kernel_rfl,
  i212 := by kernel_rfl,
  i232 := by kernel_rfl,
  i233 := by kernel_rfl,
  m17 := by kernel_rfl,
  m18 := by kernel_rfl,
  m19 := by kernel_rfl }

/-- The decimal numeral of a number. -/
def itoaB (z : Int) : ByteArray := ⟨(Lib.itoa z).toArray⟩
theorem itoaB_size {z : Int} (h0 : -9223372036854775808 ≤ z) (h1 : z ≤ 9223372036854775807) : (itoaB z).size ≤ 21 := by
  have := Lib.itoa_length_le z h0 h1
  simpa [itoaB, ByteArray.size] using this
theorem itoaB_plain {z : Int} (h0 : -9223372036854775808 ≤ z) (h1 : z ≤ 9223372036854775807) : (itoaB z).size ≤ maxLen := Nat.le_trans (itoaB_size h0 h1) (by decide)
theorem itoaB_small {n : Nat} (h : n < 10) : itoaB (n : Int) = ⟨#[UInt8.ofNat (48 + n)]⟩ := by
  unfold itoaB; rw [Lib.itoa_nonneg, Lib.decDigits_one h]
theorem itoaB_step {n : Nat} (h : ¬ n < 10) : itoaB (n : Int) = itoaB ((n / 10 : Nat) : Int) ++ ⟨#[UInt8.ofNat (48 + n % 10)]⟩ := by
  unfold itoaB
  rw [Lib.itoa_nonneg, Lib.itoa_nonneg, Lib.decDigits, dif_neg h]
  apply ByteArray.ext
  simp
theorem itoaB_neg {z : Int} (h : z < 0) : (⟨#[45]⟩ : ByteArray) ++ itoaB (-z) = itoaB z := by
  obtain ⟨u, rfl⟩ : ∃ u : Nat, z = -(u : Int) := ⟨z.natAbs, by omega⟩
  unfold itoaB
  rw [Lib.itoa_neg u (by omega), Int.neg_neg, Lib.itoa_nonneg]
  apply ByteArray.ext
  simp
theorem dig_byte {n : Nat} (h : n < 10) : ((UInt8.ofNat (48 + n)).toNat : Int) = 48 + (n : Int) := by
  rw [UInt8.toNat_ofNat']; omega
/-- strconv.Itoa, by the library's own contract. -/
theorem v_Itoa (z : Int) (h0 : -9223372036854775808 ≤ z) (h1 : z ≤ 9223372036854775807) : Fn Tryd.prog 43 [.one (.int .i64 z)] (.one (.str (itoaB z))) := by
  intro w S vs hS hd
  obtain ⟨v, vs1, rfl, e1, h3⟩ := hd
  obtain rfl : vs1 = [] := h3
  obtain rfl : v = .int .i64 z := e1
  refine (Any.strconv_Itoa laysM_n171 z h0 h1 w hS.pre.tab).mono fun e w' ⟨he, k, os, hw⟩ => ⟨he, ?_⟩
  subst hw
  exact ⟨rfl, rfl, rfl, by show w.heap.size ≤ (w.heap ++ os).size; rw [Array.size_append]; omega, fun i hi => by
    show ((w.drewN k).heap ++ os)[i]? = _
    rw [Array.getElem?_append_left (by show i < w.heap.size; omega)]; rfl⟩
theorem v_NumS (n : Nat) (hn : n ≤ 9223372036854775807) (ih : ∀ m : Nat, m < n → Fn Tryd.prog 22 [.one (.int .i64 (m : Int))] (.one (.str (itoaB (m : Int))))) : Fn Tryd.prog 22 [.one (.int .i64 (n : Int))] (.one (.str (itoaB (n : Int)))) := by
  have hq : n / 10 < n ∨ n < 10 := by omega
  have hr : n % 10 < 10 := Nat.mod_lt _ (by decide)
  have hsz : (itoaB ((n / 10 : Nat) : Int)).size ≤ 21 := itoaB_size (by omega) (by omega)
  refine Fn.of_body (fn := Tryd.f22) Tryd.func22 rfl (Nat.le_of_ble_eq_true rfl) (itoaB_plain (by omega) (by omega)) ?_
  intro w0
  show AW _ 20 _ _ _ _
  refine AW.seq ?_
  refine AW.region ?_
  refine ARun.pure (PureOp.assign rfl (.str (by decide))) rfl rfl (Nat.le_of_ble_eq_true rfl) ?_
  refine ARun.nil ?_
  refine AW.seq ?_
  refine AW.seq ?_
  refine AW.region ?_
  refine ARun.pure (PureOp.move rfl (.tmp rfl)) rfl rfl (Nat.le_of_ble_eq_true rfl) ?_
  refine ARun.pure (PureOp.intOp rfl (.tmp rfl) .int rfl) rfl rfl (Nat.le_of_ble_eq_true rfl) ?_
  refine ARun.nil ?_
  refine AW.cond (.tmp rfl) (fun hb1 => ?_) (fun hb1 => ?_)
  · have _u := True.intro
    replace hb1 := of_decide_eq_true hb1
    have hlt : n < 10 := by omega
    refine AW.seq ?_
    refine AW.region ?_
    refine ARun.pure (PureOp.move rfl (.tmp rfl)) rfl rfl (Nat.le_of_ble_eq_true rfl) ?_
    refine ARun.pure (PureOp.add (c := ((48 + n : Nat) : Int)) rfl .int (.tmp rfl) (by rw [wrap_id (by omega) (by omega)]; omega)) rfl rfl (Nat.le_of_ble_eq_true rfl) ?_
    refine ARun.pure (PureOp.conv (b := ((48 + n : Nat) : Int)) rfl (.tmp rfl) vtx_cv_3_5_.u8 (by rw [IntKind.wrap_u8]; omega)) rfl rfl (Nat.le_of_ble_eq_true rfl) ?_
    refine ARun.fresh (FreshOp.byte1 (a1 := ((48 + n : Nat) : Int)) rfl (.tmp rfl) Tryd.underlying63 (by kernel_rfl)) rfl rfl (Nat.le_of_ble_eq_true rfl) ?_
    refine ARun.pure (PureOp.byteStr (c := UInt8.ofNat (48 + n)) rfl (.frs (.tmp rfl)) (congrArg (fun z : Int => AV.int .u8 z) (by rw [dig_byte hlt]; omega)) Tryd.underlying63 Tryd.underlying5 Tryd.underlying9) rfl rfl (Nat.le_of_ble_eq_true rfl) ?_
    refine ARun.pure (PureOp.assign rfl (.tmp rfl)) rfl rfl (Nat.le_of_ble_eq_true rfl) ?_
    refine ARun.nil ?_
    refine AW.ret (show ResL _ _ [.tmp 2] _ from resS rfl ?_)
    exact (itoaB_small hlt).symm
  · have _u := True.intro
    replace hb1 := of_decide_eq_false hb1
    have hlt : ¬ n < 10 := by omega
    refine AW.skip ?_
    refine AW.seq ?_
    refine AW.any (by kernel_rfl) (by kernel_rfl) ?_
    refine AD.pure (PureOp.move rfl (.tmp rfl)) rfl rfl (Nat.le_of_ble_eq_true rfl) ?_
    refine AD.pure (PureOp.quo (a := n) (b := 10) rfl (.tmp rfl) .int rfl (by decide) (by omega)) rfl rfl (Nat.le_of_ble_eq_true rfl) ?_
    refine AD.pure (PureOp.call rfl (ih (n / 10) (by omega)) ⟨⟨_, (.tmp rfl), .int⟩, trivial⟩ vtx_ca_22 (itoaB_plain (by omega) (by omega))) rfl rfl (Nat.le_of_ble_eq_true rfl) ?_
    refine AD.pure (PureOp.move rfl (.tmp rfl)) rfl rfl (Nat.le_of_ble_eq_true rfl) ?_
    refine AD.pure (PureOp.rem (a := n) (b := 10) rfl (.tmp rfl) .int rfl (by decide) (by omega)) rfl rfl (Nat.le_of_ble_eq_true rfl) ?_
    refine AD.pure (PureOp.add (c := ((48 + n % 10 : Nat) : Int)) rfl .int (.tmp rfl) (by rw [wrap_id (by omega) (by omega)]; omega)) rfl rfl (Nat.le_of_ble_eq_true rfl) ?_
    refine AD.pure (PureOp.conv (b := ((48 + n % 10 : Nat) : Int)) rfl (.tmp rfl) vtx_cv_3_5_.u8 (by rw [IntKind.wrap_u8]; omega)) rfl rfl (Nat.le_of_ble_eq_true rfl) ?_
    refine AD.fresh (FreshOp.byte1 (a1 := ((48 + n % 10 : Nat) : Int)) rfl (.tmp rfl) Tryd.underlying63 (by kernel_rfl)) rfl rfl (Nat.le_of_ble_eq_true rfl) ?_
    refine AD.pure (PureOp.byteStr (c := UInt8.ofNat (48 + n % 10)) rfl (.frs (.tmp rfl)) (congrArg (fun z : Int => AV.int .u8 z) (by rw [dig_byte hr]; omega)) Tryd.underlying63 Tryd.underlying5 Tryd.underlying9) rfl rfl (Nat.le_of_ble_eq_true rfl) ?_
    refine AD.pure (PureOp.strAdd rfl (.tmp rfl) (.tmp rfl) (by have h1 : (⟨#[UInt8.ofNat (48 + n % 10)]⟩ : ByteArray).size = 1 := rfl; omega)) rfl rfl (Nat.le_of_ble_eq_true rfl) ?_
    refine AD.pure (PureOp.assign rfl (.tmp rfl)) rfl rfl (Nat.le_of_ble_eq_true rfl) ?_
    refine AD.nil ?_
    refine AW.ret (show ResL _ _ [.tmp 2] _ from resS rfl ?_)
    exact (itoaB_step hlt).symm

theorem v_Num (n : Nat) (hn : n ≤ 9223372036854775807) : Fn Tryd.prog 22 [.one (.int .i64 (n : Int))] (.one (.str (itoaB (n : Int)))) := by
  induction n using Nat.strongRecOn with
  | _ n ih => exact v_NumS n hn fun m hm => ih m hm (by omega)
theorem v_NumI (z : Int) (h0 : 0 ≤ z) (h1 : z ≤ 9223372036854775807) : Fn Tryd.prog 22 [.one (.int .i64 z)] (.one (.str (itoaB z))) := by
  obtain ⟨n, rfl⟩ : ∃ n : Nat, z = n := ⟨z.toNat, by omega⟩
  exact v_Num n (by omega)
theorem v_Text (z : Int) (hz : -9223372036854775807 ≤ z ∧ z ≤ 9223372036854775807) : Fn Tryd.prog 20 [.one (.int .i64 z)] (.one (.str (itoaB z))) := by
  obtain ⟨hz0, hz1⟩ := hz
  refine Fn.of_body (fn := Tryd.f20) Tryd.func20 rfl (Nat.le_of_ble_eq_true rfl) (itoaB_plain (by omega) (by omega)) ?_
  intro w0
  show AW _ 11 _ _ _ _
  refine AW.seq ?_
  refine AW.region ?_
  refine ARun.pure (PureOp.assign rfl (.str (by decide))) rfl rfl (Nat.le_of_ble_eq_true rfl) ?_
  refine ARun.nil ?_
  refine AW.seq ?_
  refine AW.seq ?_
  refine AW.region ?_
  refine ARun.pure (PureOp.move rfl (.tmp rfl)) rfl rfl (Nat.le_of_ble_eq_true rfl) ?_
  refine ARun.pure (PureOp.intOp rfl (.tmp rfl) .int rfl) rfl rfl (Nat.le_of_ble_eq_true rfl) ?_
  refine ARun.nil ?_
  refine AW.cond (.tmp rfl) (fun hb1 => ?_) (fun hb1 => ?_)
  · have _u := True.intro
    replace hb1 := of_decide_eq_true hb1
    have hsz : (itoaB (-z)).size ≤ 21 := itoaB_size (by omega) (by omega)
    refine AW.seq ?_
    refine AW.region ?_
    refine ARun.pure (PureOp.move rfl (.tmp rfl)) rfl rfl (Nat.le_of_ble_eq_true rfl) ?_
    refine ARun.pure (PureOp.neg (b := -z) rfl (.tmp rfl) (wrap_id (by omega) (by omega))) rfl rfl (Nat.le_of_ble_eq_true rfl) ?_
    refine ARun.pure (PureOp.call rfl (v_NumI (-z) (by omega) (by omega)) ⟨⟨_, (.tmp rfl), .int⟩, trivial⟩ vtx_ca_22 (itoaB_plain (by omega) (by omega))) rfl rfl (Nat.le_of_ble_eq_true rfl) ?_
    refine ARun.pure (PureOp.strAdd rfl (.str (by decide)) (.tmp rfl) (by have h1 : (⟨#[45]⟩ : ByteArray).size = 1 := rfl; omega)) rfl rfl (Nat.le_of_ble_eq_true rfl) ?_
    refine ARun.pure (PureOp.assign rfl (.tmp rfl)) rfl rfl (Nat.le_of_ble_eq_true rfl) ?_
    refine ARun.nil ?_
    refine AW.ret (show ResL _ _ [.tmp 2] _ from resS rfl ?_)
    exact itoaB_neg hb1
  · have _u := True.intro
    replace hb1 := of_decide_eq_false hb1
    refine AW.skip ?_
    refine AW.seq ?_
    refine AW.region ?_
    refine ARun.pure (PureOp.move rfl (.tmp rfl)) rfl rfl (Nat.le_of_ble_eq_true rfl) ?_
    refine ARun.pure (PureOp.call rfl (v_NumI z (by omega) (by omega)) ⟨⟨_, (.tmp rfl), .int⟩, trivial⟩ vtx_ca_22 (itoaB_plain (by omega) (by omega))) rfl rfl (Nat.le_of_ble_eq_true rfl) ?_
    refine ARun.pure (PureOp.assign rfl (.tmp rfl)) rfl rfl (Nat.le_of_ble_eq_true rfl) ?_
    refine ARun.nil ?_
    refine AW.ret (show ResL _ _ [.tmp 2] _ from resS rfl ?_)
    rfl
end Go.Proofs.YtonfeiloekofdaaDoor


/-
  SayText: the reference and the program write the same.
-/
namespace Go.Proofs.YtonfeiloekofdaaDoor
open Go.ChangeShapes Go.WideShapes Go.ChangeAt Go.RowKit Go.BigFrame Go.Deep
set_option linter.unusedVariables false
set_option linter.unusedSimpArgs false
theorem vsy_ca_20 : callB Tryd.prog 20 = true := by kernel_rfl
theorem vsy_ca_22 : callB Tryd.prog 22 = true := by kernel_rfl
theorem vsy_ca_33 : callB Tryd.prog 33 = true := by kernel_rfl
theorem vsy_ca_39 : callB Tryd.prog 39 = true := by kernel_rfl
theorem vsy_ca_41 : callB Tryd.prog 41 = true := by kernel_rfl
theorem vsy_ca_43 : callB Tryd.prog 43 = true := by kernel_rfl
theorem vsy_ca_54 : callB Tryd.prog 54 = true := by kernel_rfl
theorem vsy_ca_9 : callB Tryd.prog 9 = true := by kernel_rfl
theorem vsy_fi_36_0_0 : fieldB Tryd.prog 36 0 0 = true := by kernel_rfl
theorem vsy_fi_36_1_1 : fieldB Tryd.prog 36 1 1 = true := by kernel_rfl
theorem vsy_fi_36_2_2 : fieldB Tryd.prog 36 2 2 = true := by kernel_rfl
theorem vsy_fi_51_0_0 : fieldB Tryd.prog 51 0 0 = true := by kernel_rfl
theorem vsy_fi_51_1_1 : fieldB Tryd.prog 51 1 1 = true := by kernel_rfl
theorem vsy_pl_3 : plainB Tryd.prog 3 = true := by kernel_rfl
theorem vsy_pl_9 : plainB Tryd.prog 9 = true := by kernel_rfl
def sayB (x : GSay) : Bool :=
  cond (cond (nameB x.name false) (inB 0 1000000000 x.at_) false) (inB (-1000000000) 1000000000 x.value) false
theorem v_l13Say (x : GSay) : Fn Tryd.prog 21 [.agg [.str x.name, .int .i64 x.at_, .int .i64 x.value]] (.one (.bool (sayB x))) := by
  refine Fn.of_body (fn := Tryd.f21) Tryd.func21 rfl (Nat.le_of_ble_eq_true rfl) trivial ?_
  intro w0
  show AW _ 16 _ _ _ _
  refine AW.seq ?_
  refine AW.region ?_
  refine ARun.box (id := 0) rfl (.tmp rfl) (SV.cells_of (by exact ⟨trivial, trivial, trivial, trivial⟩)) ⟨rfl, (by repeat first | exact trivial | refine ⟨by decide, by first | rfl | exact trivial | (intro i j; first | rfl | exact getD_no rfl | (dsimp only; split <;> first | rfl | exact getD_no rfl) | exact scl_no (by apply_assumption) _), ?_⟩)⟩ rfl rfl rfl (Nat.le_of_ble_eq_true rfl) ?_
  refine ARun.pure (PureOp.assign rfl .bool) rfl rfl (Nat.le_of_ble_eq_true rfl) ?_
  refine ARun.nil ?_
  refine AW.seq ?_
  refine AW.region ?_
  refine ARun.pure (PureOp.fieldPtr rfl (.tmp rfl) vsy_fi_36_0_0) rfl rfl (Nat.le_of_ble_eq_true rfl) ?_
  refine ARun.pure (PureOp.loadPtr rfl (.tmp rfl) vsy_pl_9 rfl rfl (Nat.le_of_ble_eq_true rfl) (Nat.le_of_ble_eq_true rfl)) rfl rfl (Nat.le_of_ble_eq_true rfl) ?_
  refine ARun.pure (PureOp.call rfl (v_l3Name x.name false) ⟨⟨_, (.tmp rfl), .str⟩, ⟨_, .bool, .bool⟩, trivial⟩ vsy_ca_33 trivial) rfl rfl (Nat.le_of_ble_eq_true rfl) ?_
  refine ARun.pure (PureOp.move rfl (.tmp rfl)) rfl rfl (Nat.le_of_ble_eq_true rfl) ?_
  refine ARun.gpure (want := true) (.tt rfl) (fun hg1 => PureOp.fieldPtr rfl (.tmp rfl) vsy_fi_36_1_1) rfl rfl (Nat.le_of_ble_eq_true rfl) rfl (Nat.le_of_ble_eq_true rfl) ?_
  refine ARun.gpure (want := true) (.tt rfl) (fun hg2 => PureOp.loadPtr rfl (.gtmp rfl hg2) vsy_pl_3 rfl rfl (Nat.le_of_ble_eq_true rfl) (Nat.le_of_ble_eq_true rfl)) rfl rfl (Nat.le_of_ble_eq_true rfl) rfl (Nat.le_of_ble_eq_true rfl) ?_
  refine ARun.gpure (want := true) (.tt rfl) (fun hg3 => PureOp.call rfl (v_l1In x.at_ 0 1000000000) ⟨⟨_, (.gtmp rfl hg3), .int⟩, ⟨_, .int, .int⟩, ⟨_, .int, .int⟩, trivial⟩ vsy_ca_9 trivial) rfl rfl (Nat.le_of_ble_eq_true rfl) rfl (Nat.le_of_ble_eq_true rfl) ?_
  refine ARun.pure (PureOp.pick rfl (.tmp rfl) (fun hp4 => .gtmp rfl hp4) (fun _ => .bool)) rfl rfl (Nat.le_of_ble_eq_true rfl) ?_
  refine ARun.pure (PureOp.move rfl (.tmp rfl)) rfl rfl (Nat.le_of_ble_eq_true rfl) ?_
  refine ARun.gpure (want := true) (.tt rfl) (fun hg6 => PureOp.fieldPtr rfl (.tmp rfl) vsy_fi_36_2_2) rfl rfl (Nat.le_of_ble_eq_true rfl) rfl (Nat.le_of_ble_eq_true rfl) ?_
  refine ARun.gpure (want := true) (.tt rfl) (fun hg7 => PureOp.loadPtr rfl (.gtmp rfl hg7) vsy_pl_3 rfl rfl (Nat.le_of_ble_eq_true rfl) (Nat.le_of_ble_eq_true rfl)) rfl rfl (Nat.le_of_ble_eq_true rfl) rfl (Nat.le_of_ble_eq_true rfl) ?_
  refine ARun.gpure (want := true) (.tt rfl) (fun hg8 => PureOp.call rfl (v_l1In x.value (-1000000000) 1000000000) ⟨⟨_, (.gtmp rfl hg8), .int⟩, ⟨_, .int, .int⟩, ⟨_, .int, .int⟩, trivial⟩ vsy_ca_9 trivial) rfl rfl (Nat.le_of_ble_eq_true rfl) rfl (Nat.le_of_ble_eq_true rfl) ?_
  refine ARun.pure (PureOp.pick rfl (.tmp rfl) (fun hp9 => .gtmp rfl hp9) (fun _ => .bool)) rfl rfl (Nat.le_of_ble_eq_true rfl) ?_
  refine ARun.pure (PureOp.assign rfl (.tmp rfl)) rfl rfl (Nat.le_of_ble_eq_true rfl) ?_
  refine ARun.nil ?_
  refine AW.ret (show ResL _ _ [.tmp 2] _ from resB rfl ?_)
  rfl

def isSampleB (x : GSample) : Bool :=
  cond (inB 0 1000000000 x.at_) (inB (-1000000000) 1000000000 x.value) false
theorem v_isSample (x : GSample) : Fn Tryd.prog 54 [.agg [.int .i64 x.at_, .int .i64 x.value]] (.one (.bool (isSampleB x))) := by
  refine Fn.of_body (fn := Tryd.f54) Tryd.func54 rfl (Nat.le_of_ble_eq_true rfl) trivial ?_
  intro w0
  show AW _ 11 _ _ _ _
  refine AW.seq ?_
  refine AW.region ?_
  refine ARun.box (id := 0) rfl (.tmp rfl) (SV.cells_of (by exact ⟨trivial, trivial, trivial⟩)) ⟨rfl, (by repeat first | exact trivial | refine ⟨by decide, by first | rfl | exact trivial | (intro i j; first | rfl | exact getD_no rfl | (dsimp only; split <;> first | rfl | exact getD_no rfl) | exact scl_no (by apply_assumption) _), ?_⟩)⟩ rfl rfl rfl (Nat.le_of_ble_eq_true rfl) ?_
  refine ARun.pure (PureOp.assign rfl .bool) rfl rfl (Nat.le_of_ble_eq_true rfl) ?_
  refine ARun.nil ?_
  refine AW.seq ?_
  refine AW.region ?_
  refine ARun.pure (PureOp.fieldPtr rfl (.tmp rfl) vsy_fi_51_0_0) rfl rfl (Nat.le_of_ble_eq_true rfl) ?_
  refine ARun.pure (PureOp.loadPtr rfl (.tmp rfl) vsy_pl_3 rfl rfl (Nat.le_of_ble_eq_true rfl) (Nat.le_of_ble_eq_true rfl)) rfl rfl (Nat.le_of_ble_eq_true rfl) ?_
  refine ARun.pure (PureOp.call rfl (v_within x.at_ 0 1000000000) ⟨⟨_, (.tmp rfl), .int⟩, ⟨_, .int, .int⟩, ⟨_, .int, .int⟩, trivial⟩ vsy_ca_41 trivial) rfl rfl (Nat.le_of_ble_eq_true rfl) ?_
  refine ARun.pure (PureOp.move rfl (.tmp rfl)) rfl rfl (Nat.le_of_ble_eq_true rfl) ?_
  refine ARun.gpure (want := true) (.tt rfl) (fun hg1 => PureOp.fieldPtr rfl (.tmp rfl) vsy_fi_51_1_1) rfl rfl (Nat.le_of_ble_eq_true rfl) rfl (Nat.le_of_ble_eq_true rfl) ?_
  refine ARun.gpure (want := true) (.tt rfl) (fun hg2 => PureOp.loadPtr rfl (.gtmp rfl hg2) vsy_pl_3 rfl rfl (Nat.le_of_ble_eq_true rfl) (Nat.le_of_ble_eq_true rfl)) rfl rfl (Nat.le_of_ble_eq_true rfl) rfl (Nat.le_of_ble_eq_true rfl) ?_
  refine ARun.gpure (want := true) (.tt rfl) (fun hg3 => PureOp.call rfl (v_within x.value (-1000000000) 1000000000) ⟨⟨_, (.gtmp rfl hg3), .int⟩, ⟨_, .int, .int⟩, ⟨_, .int, .int⟩, trivial⟩ vsy_ca_41 trivial) rfl rfl (Nat.le_of_ble_eq_true rfl) rfl (Nat.le_of_ble_eq_true rfl) ?_
  refine ARun.pure (PureOp.pick rfl (.tmp rfl) (fun hp4 => .gtmp rfl hp4) (fun _ => .bool)) rfl rfl (Nat.le_of_ble_eq_true rfl) ?_
  refine ARun.pure (PureOp.assign rfl (.tmp rfl)) rfl rfl (Nat.le_of_ble_eq_true rfl) ?_
  refine ARun.nil ?_
  refine AW.ret (show ResL _ _ [.tmp 2] _ from resB rfl ?_)
  rfl

def sayBI (x : GSay) : Bool :=
  cond (nameB x.name false) (isSampleB (⟨x.at_, x.value⟩ : GSample)) false
theorem sayB_eq (x : GSay) : sayBI x = sayB x := by
  unfold sayBI sayB isSampleB
  generalize nameB _ false = a1
  generalize inB 0 _ _ = a2
  generalize inB (-1000000000) _ _ = a3
  revert a1 a2 a3; decide
theorem v_isSay (x : GSay) : Fn Tryd.prog 37 [.agg [.str x.name, .int .i64 x.at_, .int .i64 x.value]] (.one (.bool (sayB x))) := by
  refine Fn.of_body (fn := Tryd.f37) Tryd.func37 rfl (Nat.le_of_ble_eq_true rfl) trivial ?_
  intro w0
  show AW _ 14 _ _ _ _
  refine AW.seq ?_
  refine AW.region ?_
  refine ARun.box (id := 0) rfl (.tmp rfl) (SV.cells_of (by exact ⟨trivial, trivial, trivial, trivial⟩)) ⟨rfl, (by repeat first | exact trivial | refine ⟨by decide, by first | rfl | exact trivial | (intro i j; first | rfl | exact getD_no rfl | (dsimp only; split <;> first | rfl | exact getD_no rfl) | exact scl_no (by apply_assumption) _), ?_⟩)⟩ rfl rfl rfl (Nat.le_of_ble_eq_true rfl) ?_
  refine ARun.pure (PureOp.assign rfl .bool) rfl rfl (Nat.le_of_ble_eq_true rfl) ?_
  refine ARun.nil ?_
  refine AW.seq ?_
  refine AW.region ?_
  refine ARun.pure (PureOp.fieldPtr rfl (.tmp rfl) vsy_fi_36_0_0) rfl rfl (Nat.le_of_ble_eq_true rfl) ?_
  refine ARun.pure (PureOp.loadPtr rfl (.tmp rfl) vsy_pl_9 rfl rfl (Nat.le_of_ble_eq_true rfl) (Nat.le_of_ble_eq_true rfl)) rfl rfl (Nat.le_of_ble_eq_true rfl) ?_
  refine ARun.pure (PureOp.call rfl (v_isWord x.name false) ⟨⟨_, (.tmp rfl), .str⟩, ⟨_, .bool, .bool⟩, trivial⟩ vsy_ca_39 trivial) rfl rfl (Nat.le_of_ble_eq_true rfl) ?_
  refine ARun.pure (PureOp.move rfl (.tmp rfl)) rfl rfl (Nat.le_of_ble_eq_true rfl) ?_
  refine ARun.gpure (want := true) (.tt rfl) (fun hg1 => PureOp.fieldPtr rfl (.tmp rfl) vsy_fi_36_1_1) rfl rfl (Nat.le_of_ble_eq_true rfl) rfl (Nat.le_of_ble_eq_true rfl) ?_
  refine ARun.gpure (want := true) (.tt rfl) (fun hg2 => PureOp.loadPtr rfl (.gtmp rfl hg2) vsy_pl_3 rfl rfl (Nat.le_of_ble_eq_true rfl) (Nat.le_of_ble_eq_true rfl)) rfl rfl (Nat.le_of_ble_eq_true rfl) rfl (Nat.le_of_ble_eq_true rfl) ?_
  refine ARun.gpure (want := true) (.tt rfl) (fun hg3 => PureOp.fieldPtr rfl (.tmp rfl) vsy_fi_36_2_2) rfl rfl (Nat.le_of_ble_eq_true rfl) rfl (Nat.le_of_ble_eq_true rfl) ?_
  refine ARun.gpure (want := true) (.tt rfl) (fun hg4 => PureOp.loadPtr rfl (.gtmp rfl hg4) vsy_pl_3 rfl rfl (Nat.le_of_ble_eq_true rfl) (Nat.le_of_ble_eq_true rfl)) rfl rfl (Nat.le_of_ble_eq_true rfl) rfl (Nat.le_of_ble_eq_true rfl) ?_
  refine ARun.gpure (want := true) (.tt rfl) (fun hg5 => PureOp.build (ys := [.int .i64 x.at_, .int .i64 x.value]) (l := [.int .i64 0, .int .i64 0]) (pl := [(0, 1), (1, 1)]) (z := (.agg #[.int .i64 0, .int .i64 0])) rfl (by kernel_rfl) (by kernel_rfl) (fun _ _ _ => ⟨_, _, rfl, rfl, ⟨_, _, rfl, rfl, rfl⟩⟩) ⟨(.gtmp rfl hg5), trivial, rfl, ⟨(.gtmp rfl hg5), trivial, rfl, trivial⟩⟩ rfl) rfl rfl (Nat.le_of_ble_eq_true rfl) rfl (Nat.le_of_ble_eq_true rfl) ?_
  refine ARun.gpure (want := true) (.tt rfl) (fun hg6 => PureOp.call rfl (v_isSample (⟨x.at_, x.value⟩ : GSample)) ⟨⟨_, (.gtmp rfl hg6), ⟨.int, .int, trivial⟩⟩, trivial⟩ vsy_ca_54 trivial) rfl rfl (Nat.le_of_ble_eq_true rfl) rfl (Nat.le_of_ble_eq_true rfl) ?_
  refine ARun.pure (PureOp.pick rfl (.tmp rfl) (fun hp7 => .gtmp rfl hp7) (fun _ => .bool)) rfl rfl (Nat.le_of_ble_eq_true rfl) ?_
  refine ARun.pure (PureOp.assign rfl (.tmp rfl)) rfl rfl (Nat.le_of_ble_eq_true rfl) ?_
  refine ARun.nil ?_
  refine AW.ret (show ResL _ _ [.tmp 2] _ from resB rfl ?_)
  exact sayB_eq x

/-- The text of a measurement. -/
def sayT (x : GSay) : ByteArray := (((x.name ++ ⟨#[32]⟩) ++ itoaB x.at_) ++ ⟨#[32]⟩) ++ itoaB x.value
structure SayOk (x : GSay) : Prop where
  name : x.name.size ≤ 1048576
  at0 : 0 ≤ x.at_
  at1 : x.at_ ≤ 9223372036854775807
  v0 : -9223372036854775807 ≤ x.value
  v1 : x.value ≤ 9223372036854775807
theorem sayT_size {x : GSay} (h : SayOk x) : (sayT x).size ≤ x.name.size + 44 := by
  have hs1 : (itoaB x.at_).size ≤ 21 := itoaB_size (by have := h.at0; omega) h.at1
  have hs2 : (itoaB x.value).size ≤ 21 := itoaB_size (by have := h.v0; omega) h.v1
  have hs3 : (⟨#[32]⟩ : ByteArray).size = 1 := rfl
  unfold sayT
  simp only [ByteArray.size_append]
  omega
theorem sayT_plain {x : GSay} (h : SayOk x) : (sayT x).size ≤ maxLen := by
  have := sayT_size h
  have := h.name
  unfold maxLen; omega
theorem sayB_ok {x : GSay} (h : sayB x = true) : SayOk x := by
  unfold sayB at h
  simp only [Bool.cond_false_right, Bool.and_eq_true] at h
  obtain ⟨⟨h1, h2⟩, h3⟩ := h
  obtain ⟨a1, a2⟩ := inB_true h2
  obtain ⟨b1, b2⟩ := inB_true h3
  unfold nameB at h1
  rw [Bool.and_eq_true] at h1
  obtain ⟨c1, c2⟩ := inB_true h1.2
  exact ⟨by omega, a1, by omega, by omega, by omega⟩

theorem v_l13Text (x : GSay) (hx : SayOk x) : Fn Tryd.prog 23 [.agg [.str x.name, .int .i64 x.at_, .int .i64 x.value]] (.one (.str (sayT x))) := by
  have hx' := hx
  obtain ⟨hn, ha0, ha1, hv0, hv1⟩ := hx'
  have hs1 : (itoaB x.at_).size ≤ 21 := itoaB_size (by omega) (by omega)
  have hs2 : (itoaB x.value).size ≤ 21 := itoaB_size (by omega) (by omega)
  have hs3 : (⟨#[32]⟩ : ByteArray).size = 1 := rfl
  refine Fn.of_body (fn := Tryd.f23) Tryd.func23 rfl (Nat.le_of_ble_eq_true rfl) (sayT_plain hx) ?_
  intro w0
  show AW _ 15 _ _ _ _
  refine AW.seq ?_
  refine AW.region ?_
  refine ARun.box (id := 0) rfl (.tmp rfl) (SV.cells_of (by exact ⟨trivial, trivial, trivial, trivial⟩)) ⟨rfl, (by repeat first | exact trivial | refine ⟨by decide, by first | rfl | exact trivial | (intro i j; first | rfl | exact getD_no rfl | (dsimp only; split <;> first | rfl | exact getD_no rfl) | exact scl_no (by apply_assumption) _), ?_⟩)⟩ rfl rfl rfl (Nat.le_of_ble_eq_true rfl) ?_
  refine ARun.pure (PureOp.assign rfl (.str (by decide))) rfl rfl (Nat.le_of_ble_eq_true rfl) ?_
  refine ARun.nil ?_
  refine AW.seq ?_
  refine AW.any (by kernel_rfl) (by kernel_rfl) ?_
  refine AD.pure (PureOp.fieldPtr rfl (.tmp rfl) vsy_fi_36_0_0) rfl rfl (Nat.le_of_ble_eq_true rfl) ?_
  refine AD.pure (PureOp.loadPtr rfl (.tmp rfl) vsy_pl_9 rfl rfl (Nat.le_of_ble_eq_true rfl) (Nat.le_of_ble_eq_true rfl)) rfl rfl (Nat.le_of_ble_eq_true rfl) ?_
  refine AD.pure (PureOp.strAdd rfl (.tmp rfl) (.str (by decide)) (by skip; (try simp only [ByteArray.size_append]); omega)) rfl rfl (Nat.le_of_ble_eq_true rfl) ?_
  refine AD.pure (PureOp.fieldPtr rfl (.tmp rfl) vsy_fi_36_1_1) rfl rfl (Nat.le_of_ble_eq_true rfl) ?_
  refine AD.pure (PureOp.loadPtr rfl (.tmp rfl) vsy_pl_3 rfl rfl (Nat.le_of_ble_eq_true rfl) (Nat.le_of_ble_eq_true rfl)) rfl rfl (Nat.le_of_ble_eq_true rfl) ?_
  refine AD.pure (PureOp.call rfl (v_NumI x.at_ (by omega) (by omega)) ⟨⟨_, (.tmp rfl), .int⟩, trivial⟩ vsy_ca_22 (itoaB_plain (by omega) (by omega))) rfl rfl (Nat.le_of_ble_eq_true rfl) ?_
  refine AD.pure (PureOp.strAdd rfl (.tmp rfl) (.tmp rfl) (by skip; (try simp only [ByteArray.size_append]); omega)) rfl rfl (Nat.le_of_ble_eq_true rfl) ?_
  refine AD.pure (PureOp.strAdd rfl (.tmp rfl) (.str (by decide)) (by skip; (try simp only [ByteArray.size_append]); omega)) rfl rfl (Nat.le_of_ble_eq_true rfl) ?_
  refine AD.pure (PureOp.fieldPtr rfl (.tmp rfl) vsy_fi_36_2_2) rfl rfl (Nat.le_of_ble_eq_true rfl) ?_
  refine AD.pure (PureOp.loadPtr rfl (.tmp rfl) vsy_pl_3 rfl rfl (Nat.le_of_ble_eq_true rfl) (Nat.le_of_ble_eq_true rfl)) rfl rfl (Nat.le_of_ble_eq_true rfl) ?_
  refine AD.pure (PureOp.call rfl (v_Text x.value ⟨by omega, by omega⟩) ⟨⟨_, (.tmp rfl), .int⟩, trivial⟩ vsy_ca_20 (itoaB_plain (by omega) (by omega))) rfl rfl (Nat.le_of_ble_eq_true rfl) ?_
  refine AD.pure (PureOp.strAdd rfl (.tmp rfl) (.tmp rfl) (by skip; (try simp only [ByteArray.size_append]); omega)) rfl rfl (Nat.le_of_ble_eq_true rfl) ?_
  refine AD.pure (PureOp.assign rfl (.tmp rfl)) rfl rfl (Nat.le_of_ble_eq_true rfl) ?_
  refine AD.nil ?_
  refine AW.ret (show ResL _ _ [.tmp 2] _ from resS rfl ?_)
  rfl

theorem v_sayText (x : GSay) (hx : SayOk x) : Fn Tryd.prog 38 [.agg [.str x.name, .int .i64 x.at_, .int .i64 x.value]] (.one (.str (sayT x))) := by
  have hx' := hx
  obtain ⟨hn, ha0, ha1, hv0, hv1⟩ := hx'
  have hs1 : (itoaB x.at_).size ≤ 21 := itoaB_size (by omega) (by omega)
  have hs2 : (itoaB x.value).size ≤ 21 := itoaB_size (by omega) (by omega)
  have hs3 : (⟨#[32]⟩ : ByteArray).size = 1 := rfl
  refine Fn.of_body (fn := Tryd.f38) Tryd.func38 rfl (Nat.le_of_ble_eq_true rfl) (sayT_plain hx) ?_
  intro w0
  show AW _ 15 _ _ _ _
  refine AW.seq ?_
  refine AW.region ?_
  refine ARun.box (id := 0) rfl (.tmp rfl) (SV.cells_of (by exact ⟨trivial, trivial, trivial, trivial⟩)) ⟨rfl, (by repeat first | exact trivial | refine ⟨by decide, by first | rfl | exact trivial | (intro i j; first | rfl | exact getD_no rfl | (dsimp only; split <;> first | rfl | exact getD_no rfl) | exact scl_no (by apply_assumption) _), ?_⟩)⟩ rfl rfl rfl (Nat.le_of_ble_eq_true rfl) ?_
  refine ARun.pure (PureOp.assign rfl (.str (by decide))) rfl rfl (Nat.le_of_ble_eq_true rfl) ?_
  refine ARun.nil ?_
  refine AW.seq ?_
  refine AW.any (by kernel_rfl) (by kernel_rfl) ?_
  refine AD.pure (PureOp.fieldPtr rfl (.tmp rfl) vsy_fi_36_0_0) rfl rfl (Nat.le_of_ble_eq_true rfl) ?_
  refine AD.pure (PureOp.loadPtr rfl (.tmp rfl) vsy_pl_9 rfl rfl (Nat.le_of_ble_eq_true rfl) (Nat.le_of_ble_eq_true rfl)) rfl rfl (Nat.le_of_ble_eq_true rfl) ?_
  refine AD.pure (PureOp.strAdd rfl (.tmp rfl) (.str (by decide)) (by skip; (try simp only [ByteArray.size_append]); omega)) rfl rfl (Nat.le_of_ble_eq_true rfl) ?_
  refine AD.pure (PureOp.fieldPtr rfl (.tmp rfl) vsy_fi_36_1_1) rfl rfl (Nat.le_of_ble_eq_true rfl) ?_
  refine AD.pure (PureOp.loadPtr rfl (.tmp rfl) vsy_pl_3 rfl rfl (Nat.le_of_ble_eq_true rfl) (Nat.le_of_ble_eq_true rfl)) rfl rfl (Nat.le_of_ble_eq_true rfl) ?_
  refine AD.pure (PureOp.call rfl (v_Itoa x.at_ (by omega) (by omega)) ⟨⟨_, (.tmp rfl), .int⟩, trivial⟩ vsy_ca_43 (itoaB_plain (by omega) (by omega))) rfl rfl (Nat.le_of_ble_eq_true rfl) ?_
  refine AD.pure (PureOp.strAdd rfl (.tmp rfl) (.tmp rfl) (by skip; (try simp only [ByteArray.size_append]); omega)) rfl rfl (Nat.le_of_ble_eq_true rfl) ?_
  refine AD.pure (PureOp.strAdd rfl (.tmp rfl) (.str (by decide)) (by skip; (try simp only [ByteArray.size_append]); omega)) rfl rfl (Nat.le_of_ble_eq_true rfl) ?_
  refine AD.pure (PureOp.fieldPtr rfl (.tmp rfl) vsy_fi_36_2_2) rfl rfl (Nat.le_of_ble_eq_true rfl) ?_
  refine AD.pure (PureOp.loadPtr rfl (.tmp rfl) vsy_pl_3 rfl rfl (Nat.le_of_ble_eq_true rfl) (Nat.le_of_ble_eq_true rfl)) rfl rfl (Nat.le_of_ble_eq_true rfl) ?_
  refine AD.pure (PureOp.call rfl (v_Itoa x.value (by omega) (by omega)) ⟨⟨_, (.tmp rfl), .int⟩, trivial⟩ vsy_ca_43 (itoaB_plain (by omega) (by omega))) rfl rfl (Nat.le_of_ble_eq_true rfl) ?_
  refine AD.pure (PureOp.strAdd rfl (.tmp rfl) (.tmp rfl) (by skip; (try simp only [ByteArray.size_append]); omega)) rfl rfl (Nat.le_of_ble_eq_true rfl) ?_
  refine AD.pure (PureOp.assign rfl (.tmp rfl)) rfl rfl (Nat.le_of_ble_eq_true rfl) ?_
  refine AD.nil ?_
  refine AW.ret (show ResL _ _ [.tmp 2] _ from resS rfl ?_)
  rfl
end Go.Proofs.YtonfeiloekofdaaDoor


/-
  Heads: what a valid one is, in the reference and in the program.
-/
namespace Go.Proofs.YtonfeiloekofdaaDoor
open Go.ChangeShapes Go.WideShapes Go.ChangeAt Go.RowKit Go.BigFrame Go.Deep
set_option linter.unusedVariables false
set_option linter.unusedSimpArgs false
theorem vhd_ag_49_2 : aggB Tryd.prog 49 2 = true := by kernel_rfl
theorem vhd_ag_51_2 : aggB Tryd.prog 51 2 = true := by kernel_rfl
theorem vhd_ca_39 : callB Tryd.prog 39 = true := by kernel_rfl
theorem vhd_ca_40 : callB Tryd.prog 40 = true := by kernel_rfl
theorem vhd_ca_41 : callB Tryd.prog 41 = true := by kernel_rfl
theorem vhd_ca_54 : callB Tryd.prog 54 = true := by kernel_rfl
theorem vhd_el_22_2 : elemB Tryd.prog 22 2 = true := by kernel_rfl
theorem vhd_el_47_2 : elemB Tryd.prog 47 2 = true := by kernel_rfl
theorem vhd_fi_24_0_0 : fieldB Tryd.prog 24 0 0 = true := by kernel_rfl
theorem vhd_fi_24_1_1 : fieldB Tryd.prog 24 1 1 = true := by kernel_rfl
theorem vhd_fi_49_0_0 : fieldB Tryd.prog 49 0 0 = true := by kernel_rfl
theorem vhd_fi_49_1_1 : fieldB Tryd.prog 49 1 1 = true := by kernel_rfl
theorem vhd_fi_51_0_0 : fieldB Tryd.prog 51 0 0 = true := by kernel_rfl
theorem vhd_pl_22 : plainB Tryd.prog 22 = true := by kernel_rfl
theorem vhd_pl_3 : plainB Tryd.prog 3 = true := by kernel_rfl
theorem vhd_pl_47 : plainB Tryd.prog 47 = true := by kernel_rfl
theorem vhd_pl_9 : plainB Tryd.prog 9 = true := by kernel_rfl
theorem vhd_sl_22 : sliceB Tryd.prog 22 = true := by kernel_rfl
theorem vhd_sl_47 : sliceB Tryd.prog 47 = true := by kernel_rfl
theorem vhd_sz_49_2 : sizeB Tryd.prog 49 2 = true := by kernel_rfl
theorem vhd_sz_51_2 : sizeB Tryd.prog 51 2 = true := by kernel_rfl
def saBad (l : List GSample) (k : Nat) : Bool :=
  cond (cond (!(inB 0 1000000000 ((l.getD k (default : GSample)).at_))) true (!(inB (-1000000000) 1000000000 ((l.getD k (default : GSample)).value)))) true (cond (decide (0 < (k : Int))) (decide ((l.getD k (default : GSample)).at_ ≤ (l.getD (k - 1) (default : GSample)).at_)) false)
def samplesB (l : List GSample) : Bool := (List.range l.length).all (fun j => !saBad l j) && decide ((l.length : Int) ≤ 40)
def saBadI (l : List GSample) (k : Nat) : Bool :=
  cond (!(isSampleB (l.getD k (default : GSample)))) true (cond (decide (0 < (k : Int))) (decide ((l.getD k (default : GSample)).at_ ≤ (l.getD (k - 1) (default : GSample)).at_)) false)
theorem saBad_eq (l : List GSample) (k : Nat) : saBad l k = saBadI l k := by
  unfold saBad saBadI isSampleB
  generalize inB 0 _ _ = a1
  generalize inB (-1000000000) _ _ = a2
  generalize cond (decide ((0 : Int) < (k : Int))) _ false = a3
  revert a1 a2 a3; decide
theorem v_areSamples (l : List GSample) : Fn Tryd.prog 40 [.one (.lst 2 l.length (fun i0 j0 => ([.int .i64 ((l.getD i0 (default : GSample)).at_), .int .i64 ((l.getD i0 (default : GSample)).value)] : List AV).getD j0 (.con undef)))] (.one (.bool (samplesB l))) := by
  refine Fn.of_body (fn := Tryd.f40) Tryd.func40 rfl (Nat.le_of_ble_eq_true rfl) trivial ?_
  intro w0
  show AW _ 34 _ _ _ _
  refine AW.bound (t := 0) rfl fun hx => ?_
  refine AW.seq ?_
  refine AW.region ?_
  refine ARun.pure (PureOp.assign rfl .bool) rfl rfl (Nat.le_of_ble_eq_true rfl) ?_
  refine ARun.nil ?_
  refine AW.seq ?_
  refine AW.seq ?_
  refine AW.region ?_
  refine ARun.pure (PureOp.move rfl (.tmp rfl)) rfl rfl (Nat.le_of_ble_eq_true rfl) ?_
  refine ARun.pure (PureOp.lenLst rfl (.tmp rfl) vhd_sl_47) rfl rfl (Nat.le_of_ble_eq_true rfl) ?_
  refine ARun.pure (PureOp.move rfl .int) rfl rfl (Nat.le_of_ble_eq_true rfl) ?_
  refine ARun.nil ?_
  refine AW.block ?_
  refine AW.loop (ι := Nat) (fun k => ⟨[(0, .one (.lst 2 l.length (fun i0 j0 => ([.int .i64 ((l.getD i0 (default : GSample)).at_), .int .i64 ((l.getD i0 (default : GSample)).value)] : List AV).getD j0 (.con undef)))), (5, .one (.lst 2 l.length (fun i0 j0 => ([.int .i64 ((l.getD i0 (default : GSample)).at_), .int .i64 ((l.getD i0 (default : GSample)).value)] : List AV).getD j0 (.con undef)))), (6, .one (.int .i64 (l.length : Int))), (7, .one (.int .i64 (k : Int)))], []⟩) (fun k => k ≤ l.length ∧ ∀ j, j < k → saBad l j = false) (fun k => l.length - k) 0 ⟨Nat.zero_le _, fun j hj => absurd hj (by omega)⟩ ⟨⟨⟨_, rfl, rfl⟩, ⟨_, rfl, rfl⟩, ⟨_, rfl, rfl⟩, ⟨_, rfl, rfl⟩, trivial⟩, trivial⟩ ?_
  intro k hI
  obtain ⟨hk, hks⟩ := hI
  refine AW.seq ?_
  refine AW.region ?_
  refine ARun.pure (PureOp.intOp rfl (.tmp rfl) (.tmp rfl) rfl) rfl rfl (Nat.le_of_ble_eq_true rfl) ?_
  refine ARun.nil ?_
  refine AW.seq ?_
  refine AW.cond (.tmp rfl) (fun hb1 => ?_) (fun hb1 => ?_)
  · have _u := True.intro
    replace hb1 := of_decide_eq_true hb1
    have hkl : k < l.length := by omega
    refine AW.skip ?_
    refine AW.seq ?_
    refine AW.block ?_
    refine AW.seq ?_
    refine AW.region ?_
    refine ARun.pure (PureOp.move rfl (.tmp rfl)) rfl rfl (Nat.le_of_ble_eq_true rfl) ?_
    refine ARun.pure (PureOp.indexLst (i := k) rfl (.tmp rfl) vhd_el_47_2 (.tmp rfl) rfl (by omega)) rfl rfl (Nat.le_of_ble_eq_true rfl) ?_
    refine ARun.pure (PureOp.loadRefAgg rfl (.tmp rfl) vhd_ag_51_2 (Nat.le_of_ble_eq_true rfl)) rfl rfl (Nat.le_of_ble_eq_true rfl) ?_
    refine ARun.alloc (id := 0) (l := [.int .i64 0, .int .i64 0]) (z := (.agg #[.int .i64 0, .int .i64 0])) rfl (by kernel_rfl) (fun _ _ _ => ⟨_, _, rfl, rfl, ⟨_, _, rfl, rfl, rfl⟩⟩) ⟨rfl, (by repeat first | exact trivial | refine ⟨by decide, by first | rfl | exact trivial | (intro i j; first | rfl | exact getD_no rfl | (dsimp only; split <;> first | rfl | exact getD_no rfl) | exact scl_no (by apply_assumption) _), ?_⟩)⟩ rfl rfl rfl (Nat.le_of_ble_eq_true rfl) ?_
    refine ARun.pure (PureOp.assign rfl (.tmp rfl)) rfl rfl (Nat.le_of_ble_eq_true rfl) ?_
    refine ARun.store rfl (.tmp rfl) (.tmp rfl) (SV.cells_of (by exact ⟨trivial, trivial, trivial⟩)) rfl (Nat.le_of_ble_eq_true rfl) vhd_sz_51_2 rfl rfl ?_
    refine ARun.nil ?_
    refine AW.seq ?_
    refine AW.any (by kernel_rfl) (by kernel_rfl) ?_
    refine AD.pure (PureOp.loadPtrAgg rfl (.tmp rfl) vhd_ag_51_2 rfl rfl (Nat.le_of_ble_eq_true rfl) (Nat.le_of_ble_eq_true rfl)) rfl rfl (Nat.le_of_ble_eq_true rfl) ?_
    refine AD.pure (PureOp.call rfl (v_isSample (l.getD k (default : GSample))) ⟨⟨_, (.tmp rfl), ⟨.int, .int, trivial⟩⟩, trivial⟩ vhd_ca_54 trivial) rfl rfl (Nat.le_of_ble_eq_true rfl) ?_
    refine AD.pure (PureOp.not rfl (.tmp rfl)) rfl rfl (Nat.le_of_ble_eq_true rfl) ?_
    refine AD.pure (PureOp.move rfl (.tmp rfl)) rfl rfl (Nat.le_of_ble_eq_true rfl) ?_
    refine AD.gpure (want := false) (.tf rfl) (fun hg2 => PureOp.move rfl (.tmp rfl)) rfl rfl rfl (Nat.le_of_ble_eq_true rfl) ?_
    refine AD.gpure (want := false) (.tf rfl) (fun hg3 => PureOp.intOp rfl (.gtmp rfl hg3) .int rfl) rfl rfl rfl (Nat.le_of_ble_eq_true rfl) ?_
    refine AD.gpure (want := false) (.tf rfl) (fun hg4 => PureOp.move rfl (.gtmp rfl hg4)) rfl rfl rfl (Nat.le_of_ble_eq_true rfl) ?_
    refine AD.gpure (want := true) (.gt rfl) (fun hg5 => PureOp.move rfl (.tmp rfl)) rfl rfl rfl (Nat.le_of_ble_eq_true rfl) ?_
    refine AD.gpure (want := true) (.gt rfl) (fun hg6 => PureOp.move rfl (.tmp rfl)) rfl rfl rfl (Nat.le_of_ble_eq_true rfl) ?_
    refine AD.gpure (want := true) (.gt rfl) (fun hg7 => PureOp.sub (c := (((k - 1) : Nat) : Int)) rfl (.gtmp rfl hg7) .int (by have q := hg7; simp only [Bool.cond_true_left, Bool.cond_false_right, Bool.not_eq_true', Bool.or_eq_false_iff, Bool.not_eq_false', Bool.and_eq_true, Bool.not_not, decide_eq_true_eq, decide_eq_false_iff_not, inB] at q; rw [wrap_id (by omega) (by omega)]; omega)) rfl rfl rfl (Nat.le_of_ble_eq_true rfl) ?_
    refine AD.gpure (want := true) (.gt rfl) (fun hg8 => PureOp.indexLst (i := (k - 1)) rfl (.gtmp rfl hg8) vhd_el_47_2 (.gtmp rfl hg8) rfl (by have q := hg8; simp only [Bool.cond_true_left, Bool.cond_false_right, Bool.not_eq_true', Bool.or_eq_false_iff, Bool.not_eq_false', Bool.and_eq_true, Bool.not_not, decide_eq_true_eq, decide_eq_false_iff_not, inB] at q; omega)) rfl rfl rfl (Nat.le_of_ble_eq_true rfl) ?_
    refine AD.gpure (want := true) (.gt rfl) (fun hg9 => PureOp.fieldRef rfl (.gtmp rfl hg9) vhd_fi_51_0_0 (Nat.le_of_ble_eq_true rfl)) rfl rfl rfl (Nat.le_of_ble_eq_true rfl) ?_
    refine AD.gpure (want := true) (.gt rfl) (fun hg10 => PureOp.loadRef rfl (.gtmp rfl hg10) vhd_pl_3 (Nat.le_of_ble_eq_true rfl)) rfl rfl rfl (Nat.le_of_ble_eq_true rfl) ?_
    refine AD.gpure (want := true) (.gt rfl) (fun hg11 => PureOp.fieldPtr rfl (.tmp rfl) vhd_fi_51_0_0) rfl rfl rfl (Nat.le_of_ble_eq_true rfl) ?_
    refine AD.gpure (want := true) (.gt rfl) (fun hg12 => PureOp.loadPtr rfl (.gtmp rfl hg12) vhd_pl_3 rfl rfl (Nat.le_of_ble_eq_true rfl) (Nat.le_of_ble_eq_true rfl)) rfl rfl rfl (Nat.le_of_ble_eq_true rfl) ?_
    refine AD.gpure (want := true) (.gt rfl) (fun hg13 => PureOp.intOp rfl (.gtmp rfl hg13) (.gtmp rfl hg13) rfl) rfl rfl rfl (Nat.le_of_ble_eq_true rfl) ?_
    refine AD.gpure (want := false) (.tf rfl) (fun hg14 => PureOp.pick rfl (.gtmp rfl hg14) (fun hp15 => .gtmp rfl (and_mk hg14 hp15)) (fun _ => .bool)) rfl rfl rfl (Nat.le_of_ble_eq_true rfl) ?_
    refine AD.pure (PureOp.pick rfl (.tmp rfl) (fun _ => .bool) (fun hp18 => .gtmp rfl (not_of hp18))) rfl rfl (Nat.le_of_ble_eq_true rfl) ?_
    refine AD.nil ?_
    refine AW.cond (.tmp rfl) (fun hb19 => ?_) (fun hb19 => ?_)
    · have _u := True.intro
      have hbd : saBad l k = true := (saBad_eq l k).trans hb19
      refine AW.seq ?_
      refine AW.region ?_
      refine ARun.pure (PureOp.assign rfl .bool) rfl rfl (Nat.le_of_ble_eq_true rfl) ?_
      refine ARun.nil ?_
      refine AW.ret (show ResL _ _ [.tmp 2] _ from resB rfl ?_)
      have hno : (List.range l.length).all (fun j => !saBad l j) = false := rng_no hkl (by rw [hbd]; rfl)
      unfold samplesB; rw [hno]; rfl
    · have _u := True.intro
      have hbd : saBad l k = false := (saBad_eq l k).trans hb19
      refine AW.skip ?_
      refine AW.region ?_
      refine ARun.pure (PureOp.add (c := ((k + 1 : Nat) : Int)) rfl (.tmp rfl) .int (by rw [wrap_id (by omega) (by omega)]; omega)) rfl rfl (Nat.le_of_ble_eq_true rfl) ?_
      refine ARun.pure (PureOp.move rfl (.tmp rfl)) rfl rfl (Nat.le_of_ble_eq_true rfl) ?_
      refine ARun.nil ?_
      exact ⟨k + 1, ⟨by omega, rng_succ (p := fun j => saBad l j = false) hks hbd⟩, by dsimp only; omega, ⟨⟨⟨_, rfl, rfl⟩, ⟨_, rfl, rfl⟩, ⟨_, rfl, rfl⟩, ⟨_, rfl, rfl⟩, trivial⟩, trivial⟩⟩
  · have _u := True.intro
    replace hb1 := of_decide_eq_false hb1
    have hkl : ¬ k < l.length := by omega
    have hall : (List.range l.length).all (fun j => !saBad l j) = true := rng_yes (fun j hj => by rw [hks j (by omega)]; rfl)
    refine AW.exit ?_
    refine AW.seq ?_
    refine AW.region ?_
    refine ARun.pure (PureOp.move rfl (.tmp rfl)) rfl rfl (Nat.le_of_ble_eq_true rfl) ?_
    refine ARun.pure (PureOp.lenLst rfl (.tmp rfl) vhd_sl_47) rfl rfl (Nat.le_of_ble_eq_true rfl) ?_
    refine ARun.pure (PureOp.intOp rfl (.tmp rfl) .int rfl) rfl rfl (Nat.le_of_ble_eq_true rfl) ?_
    refine ARun.pure (PureOp.assign rfl (.tmp rfl)) rfl rfl (Nat.le_of_ble_eq_true rfl) ?_
    refine ARun.nil ?_
    refine AW.ret (show ResL _ _ [.tmp 2] _ from resB rfl ?_)
    unfold samplesB; rw [hall]; rfl

def rowBad (h : GHead) (k : Nat) : Bool :=
  cond (cond (cond (!(nameB ((h.rows.getD k (default : GRow)).name) false)) true (decide (((((h.rows.getD k (default : GRow)).samples).length : Nat) : Int) = 0))) true (!(samplesB ((h.rows.getD k (default : GRow)).samples)))) true (cond (decide (0 < (k : Int))) (!Op.bytesLess ((h.rows.getD (k - 1) (default : GRow)).name).toList ((h.rows.getD k (default : GRow)).name).toList) false)
def goodHead (h : GHead) : Bool := (List.range h.rows.length).all (fun j => !rowBad h j) && cond (decide ((h.rows.length : Int) ≤ 8)) (inB 0 1000 h.offset) false
def rowBadI (h : GHead) (k : Nat) : Bool :=
  cond (cond (cond (!(nameB ((h.rows.getD k (default : GRow)).name) false)) true (cond (decide (0 < (k : Int))) (!Op.bytesLess ((h.rows.getD (k - 1) (default : GRow)).name).toList ((h.rows.getD k (default : GRow)).name).toList) false)) true (decide (((((h.rows.getD k (default : GRow)).samples).length : Nat) : Int) = 0))) true (!(samplesB ((h.rows.getD k (default : GRow)).samples)))
theorem rowBad_eq (h : GHead) (k : Nat) : rowBad h k = rowBadI h k := by
  unfold rowBad rowBadI
  generalize nameB _ false = a1
  generalize samplesB _ = a2
  generalize decide ((_ : Int) = 0) = a3
  generalize cond (decide ((0 : Int) < (k : Int))) _ false = a4
  revert a1 a2 a3 a4; decide
theorem v_isHead (h : GHead) : Fn Tryd.prog 27 [.agg [.lst 2 h.rows.length (fun i0 j0 => ([.str ((h.rows.getD i0 (default : GRow)).name), .lst 2 (((h.rows.getD i0 (default : GRow)).samples).length) (fun i1 j1 => ([.int .i64 ((((h.rows.getD i0 (default : GRow)).samples).getD i1 (default : GSample)).at_), .int .i64 ((((h.rows.getD i0 (default : GRow)).samples).getD i1 (default : GSample)).value)] : List AV).getD j1 (.con undef))] : List AV).getD j0 (.con undef)), .int .i64 h.offset]] (.one (.bool (goodHead h))) := by
  refine Fn.of_body (fn := Tryd.f27) Tryd.func27 rfl (Nat.le_of_ble_eq_true rfl) trivial ?_
  intro w0
  show AW _ 55 _ _ _ _
  refine AW.boundAL (t := 0) (j := 0) rfl rfl fun hx => ?_
  refine AW.seq ?_
  refine AW.region ?_
  refine ARun.box (id := 0) rfl (.tmp rfl) (SV.cells_of (by exact ⟨trivial, trivial, trivial⟩)) ⟨rfl, (by repeat first | exact trivial | refine ⟨by decide, by first | rfl | exact trivial | (intro i j; first | rfl | exact getD_no rfl | (dsimp only; split <;> first | rfl | exact getD_no rfl) | exact scl_no (by apply_assumption) _), ?_⟩)⟩ rfl rfl rfl (Nat.le_of_ble_eq_true rfl) ?_
  refine ARun.pure (PureOp.assign rfl .bool) rfl rfl (Nat.le_of_ble_eq_true rfl) ?_
  refine ARun.nil ?_
  refine AW.seq ?_
  refine AW.seq ?_
  refine AW.region ?_
  refine ARun.pure (PureOp.fieldPtr rfl (.tmp rfl) vhd_fi_24_0_0) rfl rfl (Nat.le_of_ble_eq_true rfl) ?_
  refine ARun.pure (PureOp.loadPtr rfl (.tmp rfl) vhd_pl_22 rfl rfl (Nat.le_of_ble_eq_true rfl) (Nat.le_of_ble_eq_true rfl)) rfl rfl (Nat.le_of_ble_eq_true rfl) ?_
  refine ARun.pure (PureOp.lenLst rfl (.tmp rfl) vhd_sl_22) rfl rfl (Nat.le_of_ble_eq_true rfl) ?_
  refine ARun.pure (PureOp.move rfl .int) rfl rfl (Nat.le_of_ble_eq_true rfl) ?_
  refine ARun.nil ?_
  refine AW.block ?_
  refine AW.loop (ι := Nat) (fun k => ⟨[(1, .one (.ptr 0 2 0 0)), (6, .one (.lst 2 h.rows.length (fun i0 j0 => ([.str ((h.rows.getD i0 (default : GRow)).name), .lst 2 (((h.rows.getD i0 (default : GRow)).samples).length) (fun i1 j1 => ([.int .i64 ((((h.rows.getD i0 (default : GRow)).samples).getD i1 (default : GSample)).at_), .int .i64 ((((h.rows.getD i0 (default : GRow)).samples).getD i1 (default : GSample)).value)] : List AV).getD j1 (.con undef))] : List AV).getD j0 (.con undef)))), (7, .one (.int .i64 (h.rows.length : Int))), (8, .one (.int .i64 (k : Int)))], [(0, .cells [.lst 2 h.rows.length (fun i0 j0 => ([.str ((h.rows.getD i0 (default : GRow)).name), .lst 2 (((h.rows.getD i0 (default : GRow)).samples).length) (fun i1 j1 => ([.int .i64 ((((h.rows.getD i0 (default : GRow)).samples).getD i1 (default : GSample)).at_), .int .i64 ((((h.rows.getD i0 (default : GRow)).samples).getD i1 (default : GSample)).value)] : List AV).getD j1 (.con undef))] : List AV).getD j0 (.con undef)), .int .i64 h.offset])]⟩) (fun k => k ≤ h.rows.length ∧ ∀ j, j < k → rowBad h j = false) (fun k => h.rows.length - k) 0 ⟨Nat.zero_le _, fun j hj => absurd hj (by omega)⟩ ⟨⟨⟨_, rfl, rfl⟩, ⟨_, rfl, rfl⟩, ⟨_, rfl, rfl⟩, ⟨_, rfl, rfl⟩, trivial⟩, HeapLe.one rfl trivial⟩ ?_
  intro k hI
  obtain ⟨hk, hks⟩ := hI
  refine AW.seq ?_
  refine AW.region ?_
  refine ARun.pure (PureOp.intOp rfl (.tmp rfl) (.tmp rfl) rfl) rfl rfl (Nat.le_of_ble_eq_true rfl) ?_
  refine ARun.nil ?_
  refine AW.seq ?_
  refine AW.cond (.tmp rfl) (fun hb1 => ?_) (fun hb1 => ?_)
  · have _u := True.intro
    replace hb1 := of_decide_eq_true hb1
    have hkl : k < h.rows.length := by omega
    refine AW.skip ?_
    refine AW.seq ?_
    refine AW.block ?_
    refine AW.seq ?_
    refine AW.region ?_
    refine ARun.pure (PureOp.move rfl (.tmp rfl)) rfl rfl (Nat.le_of_ble_eq_true rfl) ?_
    refine ARun.pure (PureOp.indexLst (i := k) rfl (.tmp rfl) vhd_el_22_2 (.tmp rfl) rfl (by omega)) rfl rfl (Nat.le_of_ble_eq_true rfl) ?_
    refine ARun.pure (PureOp.loadRefAgg rfl (.tmp rfl) vhd_ag_49_2 (Nat.le_of_ble_eq_true rfl)) rfl rfl (Nat.le_of_ble_eq_true rfl) ?_
    refine ARun.alloc (id := 1) (l := [.str ByteArray.empty, .lst 2 0 (fun _ _ => .con undef)]) (z := (.agg #[.string ByteArray.empty, .slice none 0 0])) rfl (by kernel_rfl) (fun _ _ _ => ⟨_, _, rfl, ⟨rfl, by decide⟩, ⟨_, _, rfl, ⟨none, 0, rfl, Nat.le_refl _, by decide, fun _ => rfl, fun i hi => absurd hi (by omega)⟩, rfl⟩⟩) ⟨rfl, (by repeat first | exact trivial | refine ⟨by decide, by first | rfl | exact trivial | (intro i j; first | rfl | exact getD_no rfl | (dsimp only; split <;> first | rfl | exact getD_no rfl) | exact scl_no (by apply_assumption) _), ?_⟩)⟩ rfl rfl rfl (Nat.le_of_ble_eq_true rfl) ?_
    refine ARun.pure (PureOp.assign rfl (.tmp rfl)) rfl rfl (Nat.le_of_ble_eq_true rfl) ?_
    refine ARun.store rfl (.tmp rfl) (.tmp rfl) (SV.cells_of (by exact ⟨trivial, trivial, trivial⟩)) rfl (Nat.le_of_ble_eq_true rfl) vhd_sz_49_2 rfl rfl ?_
    refine ARun.nil ?_
    refine AW.seq ?_
    refine AW.any (by kernel_rfl) (by kernel_rfl) ?_
    refine AD.pure (PureOp.fieldPtr rfl (.tmp rfl) vhd_fi_49_0_0) rfl rfl (Nat.le_of_ble_eq_true rfl) ?_
    refine AD.pure (PureOp.loadPtr rfl (.tmp rfl) vhd_pl_9 rfl rfl (Nat.le_of_ble_eq_true rfl) (Nat.le_of_ble_eq_true rfl)) rfl rfl (Nat.le_of_ble_eq_true rfl) ?_
    refine AD.pure (PureOp.call rfl (v_isWord ((h.rows.getD k (default : GRow)).name) false) ⟨⟨_, (.tmp rfl), .str⟩, ⟨_, .bool, .bool⟩, trivial⟩ vhd_ca_39 trivial) rfl rfl (Nat.le_of_ble_eq_true rfl) ?_
    refine AD.pure (PureOp.not rfl (.tmp rfl)) rfl rfl (Nat.le_of_ble_eq_true rfl) ?_
    refine AD.pure (PureOp.move rfl (.tmp rfl)) rfl rfl (Nat.le_of_ble_eq_true rfl) ?_
    refine AD.gpure (want := false) (.tf rfl) (fun hg2 => PureOp.move rfl (.tmp rfl)) rfl rfl rfl (Nat.le_of_ble_eq_true rfl) ?_
    refine AD.gpure (want := false) (.tf rfl) (fun hg3 => PureOp.intOp rfl (.gtmp rfl hg3) .int rfl) rfl rfl rfl (Nat.le_of_ble_eq_true rfl) ?_
    refine AD.gpure (want := false) (.tf rfl) (fun hg4 => PureOp.move rfl (.gtmp rfl hg4)) rfl rfl rfl (Nat.le_of_ble_eq_true rfl) ?_
    refine AD.gpure (want := true) (.gt rfl) (fun hg5 => PureOp.fieldPtr rfl (.tmp rfl) vhd_fi_24_0_0) rfl rfl rfl (Nat.le_of_ble_eq_true rfl) ?_
    refine AD.gpure (want := true) (.gt rfl) (fun hg6 => PureOp.loadPtr rfl (.gtmp rfl hg6) vhd_pl_22 rfl rfl (Nat.le_of_ble_eq_true rfl) (Nat.le_of_ble_eq_true rfl)) rfl rfl rfl (Nat.le_of_ble_eq_true rfl) ?_
    refine AD.gpure (want := true) (.gt rfl) (fun hg7 => PureOp.move rfl (.tmp rfl)) rfl rfl rfl (Nat.le_of_ble_eq_true rfl) ?_
    refine AD.gpure (want := true) (.gt rfl) (fun hg8 => PureOp.sub (c := (((k - 1) : Nat) : Int)) rfl (.gtmp rfl hg8) .int (by have q := hg8; simp only [Bool.cond_true_left, Bool.cond_false_right, Bool.not_eq_true', Bool.or_eq_false_iff, Bool.not_eq_false', Bool.and_eq_true, Bool.not_not, decide_eq_true_eq, decide_eq_false_iff_not, inB] at q; rw [wrap_id (by omega) (by omega)]; omega)) rfl rfl rfl (Nat.le_of_ble_eq_true rfl) ?_
    refine AD.gpure (want := true) (.gt rfl) (fun hg9 => PureOp.indexLst (i := (k - 1)) rfl (.gtmp rfl hg9) vhd_el_22_2 (.gtmp rfl hg9) rfl (by have q := hg9; simp only [Bool.cond_true_left, Bool.cond_false_right, Bool.not_eq_true', Bool.or_eq_false_iff, Bool.not_eq_false', Bool.and_eq_true, Bool.not_not, decide_eq_true_eq, decide_eq_false_iff_not, inB] at q; omega)) rfl rfl rfl (Nat.le_of_ble_eq_true rfl) ?_
    refine AD.gpure (want := true) (.gt rfl) (fun hg10 => PureOp.fieldRef rfl (.gtmp rfl hg10) vhd_fi_49_0_0 (Nat.le_of_ble_eq_true rfl)) rfl rfl rfl (Nat.le_of_ble_eq_true rfl) ?_
    refine AD.gpure (want := true) (.gt rfl) (fun hg11 => PureOp.loadRef rfl (.gtmp rfl hg11) vhd_pl_9 (Nat.le_of_ble_eq_true rfl)) rfl rfl rfl (Nat.le_of_ble_eq_true rfl) ?_
    refine AD.gpure (want := true) (.gt rfl) (fun hg12 => PureOp.fieldPtr rfl (.tmp rfl) vhd_fi_49_0_0) rfl rfl rfl (Nat.le_of_ble_eq_true rfl) ?_
    refine AD.gpure (want := true) (.gt rfl) (fun hg13 => PureOp.loadPtr rfl (.gtmp rfl hg13) vhd_pl_9 rfl rfl (Nat.le_of_ble_eq_true rfl) (Nat.le_of_ble_eq_true rfl)) rfl rfl rfl (Nat.le_of_ble_eq_true rfl) ?_
    refine AD.gpure (want := true) (.gt rfl) (fun hg14 => PureOp.strOp rfl (.gtmp rfl hg14) (.gtmp rfl hg14) rfl) rfl rfl rfl (Nat.le_of_ble_eq_true rfl) ?_
    refine AD.gpure (want := false) (.tf rfl) (fun hg15 => PureOp.pick rfl (.gtmp rfl hg15) (fun hp16 => .gtmp rfl (and_mk hg15 hp16)) (fun _ => .bool)) rfl rfl rfl (Nat.le_of_ble_eq_true rfl) ?_
    refine AD.pure (PureOp.pick rfl (.tmp rfl) (fun _ => .bool) (fun hp19 => .gtmp rfl (not_of hp19))) rfl rfl (Nat.le_of_ble_eq_true rfl) ?_
    refine AD.pure (PureOp.move rfl (.tmp rfl)) rfl rfl (Nat.le_of_ble_eq_true rfl) ?_
    refine AD.gpure (want := false) (.tf rfl) (fun hg20 => PureOp.fieldPtr rfl (.tmp rfl) vhd_fi_49_1_1) rfl rfl rfl (Nat.le_of_ble_eq_true rfl) ?_
    refine AD.gpure (want := false) (.tf rfl) (fun hg21 => PureOp.loadPtr rfl (.gtmp rfl hg21) vhd_pl_47 rfl rfl (Nat.le_of_ble_eq_true rfl) (Nat.le_of_ble_eq_true rfl)) rfl rfl rfl (Nat.le_of_ble_eq_true rfl) ?_
    refine AD.gpure (want := false) (.tf rfl) (fun hg22 => PureOp.lenLst rfl (.gtmp rfl hg22) vhd_sl_47) rfl rfl rfl (Nat.le_of_ble_eq_true rfl) ?_
    refine AD.gpure (want := false) (.tf rfl) (fun hg23 => PureOp.intOp rfl (.gtmp rfl hg23) .int rfl) rfl rfl rfl (Nat.le_of_ble_eq_true rfl) ?_
    refine AD.pure (PureOp.pick rfl (.tmp rfl) (fun _ => .bool) (fun hp25 => .gtmp rfl (not_of hp25))) rfl rfl (Nat.le_of_ble_eq_true rfl) ?_
    refine AD.pure (PureOp.move rfl (.tmp rfl)) rfl rfl (Nat.le_of_ble_eq_true rfl) ?_
    refine AD.gpure (want := false) (.tf rfl) (fun hg26 => PureOp.fieldPtr rfl (.tmp rfl) vhd_fi_49_1_1) rfl rfl rfl (Nat.le_of_ble_eq_true rfl) ?_
    refine AD.gpure (want := false) (.tf rfl) (fun hg27 => PureOp.loadPtr rfl (.gtmp rfl hg27) vhd_pl_47 rfl rfl (Nat.le_of_ble_eq_true rfl) (Nat.le_of_ble_eq_true rfl)) rfl rfl rfl (Nat.le_of_ble_eq_true rfl) ?_
    refine AD.gpure (want := false) (.tf rfl) (fun hg28 => PureOp.call rfl (v_areSamples ((h.rows.getD k (default : GRow)).samples)) ⟨⟨_, (.gtmp rfl hg28), .lst⟩, trivial⟩ vhd_ca_40 trivial) rfl rfl rfl (Nat.le_of_ble_eq_true rfl) ?_
    refine AD.gpure (want := false) (.tf rfl) (fun hg29 => PureOp.not rfl (.gtmp rfl hg29)) rfl rfl rfl (Nat.le_of_ble_eq_true rfl) ?_
    refine AD.pure (PureOp.pick rfl (.tmp rfl) (fun _ => .bool) (fun hp31 => .gtmp rfl (not_of hp31))) rfl rfl (Nat.le_of_ble_eq_true rfl) ?_
    refine AD.nil ?_
    refine AW.cond (.tmp rfl) (fun hb32 => ?_) (fun hb32 => ?_)
    · have _u := True.intro
      have hbd : rowBad h k = true := (rowBad_eq h k).trans hb32
      refine AW.seq ?_
      refine AW.region ?_
      refine ARun.pure (PureOp.assign rfl .bool) rfl rfl (Nat.le_of_ble_eq_true rfl) ?_
      refine ARun.nil ?_
      refine AW.ret (show ResL _ _ [.tmp 2] _ from resB rfl ?_)
      have hno : (List.range h.rows.length).all (fun j => !rowBad h j) = false := rng_no hkl (by rw [hbd]; rfl)
      unfold goodHead; rw [hno]; rfl
    · have _u := True.intro
      have hbd : rowBad h k = false := (rowBad_eq h k).trans hb32
      refine AW.skip ?_
      refine AW.region ?_
      refine ARun.pure (PureOp.add (c := ((k + 1 : Nat) : Int)) rfl (.tmp rfl) .int (by rw [wrap_id (by omega) (by omega)]; omega)) rfl rfl (Nat.le_of_ble_eq_true rfl) ?_
      refine ARun.pure (PureOp.move rfl (.tmp rfl)) rfl rfl (Nat.le_of_ble_eq_true rfl) ?_
      refine ARun.nil ?_
      exact ⟨k + 1, ⟨by omega, rng_succ (p := fun j => rowBad h j = false) hks hbd⟩, by dsimp only; omega, ⟨⟨⟨_, rfl, rfl⟩, ⟨_, rfl, rfl⟩, ⟨_, rfl, rfl⟩, ⟨_, rfl, rfl⟩, trivial⟩, HeapLe.one rfl trivial⟩⟩
  · have _u := True.intro
    replace hb1 := of_decide_eq_false hb1
    have hkl : ¬ k < h.rows.length := by omega
    have hall : (List.range h.rows.length).all (fun j => !rowBad h j) = true := rng_yes (fun j hj => by rw [hks j (by omega)]; rfl)
    refine AW.exit ?_
    refine AW.seq ?_
    refine AW.region ?_
    refine ARun.pure (PureOp.fieldPtr rfl (.tmp rfl) vhd_fi_24_0_0) rfl rfl (Nat.le_of_ble_eq_true rfl) ?_
    refine ARun.pure (PureOp.loadPtr rfl (.tmp rfl) vhd_pl_22 rfl rfl (Nat.le_of_ble_eq_true rfl) (Nat.le_of_ble_eq_true rfl)) rfl rfl (Nat.le_of_ble_eq_true rfl) ?_
    refine ARun.pure (PureOp.lenLst rfl (.tmp rfl) vhd_sl_22) rfl rfl (Nat.le_of_ble_eq_true rfl) ?_
    refine ARun.pure (PureOp.intOp rfl (.tmp rfl) .int rfl) rfl rfl (Nat.le_of_ble_eq_true rfl) ?_
    refine ARun.pure (PureOp.move rfl (.tmp rfl)) rfl rfl (Nat.le_of_ble_eq_true rfl) ?_
    refine ARun.gpure (want := true) (.tt rfl) (fun hg33 => PureOp.fieldPtr rfl (.tmp rfl) vhd_fi_24_1_1) rfl rfl (Nat.le_of_ble_eq_true rfl) rfl (Nat.le_of_ble_eq_true rfl) ?_
    refine ARun.gpure (want := true) (.tt rfl) (fun hg34 => PureOp.loadPtr rfl (.gtmp rfl hg34) vhd_pl_3 rfl rfl (Nat.le_of_ble_eq_true rfl) (Nat.le_of_ble_eq_true rfl)) rfl rfl (Nat.le_of_ble_eq_true rfl) rfl (Nat.le_of_ble_eq_true rfl) ?_
    refine ARun.gpure (want := true) (.tt rfl) (fun hg35 => PureOp.call rfl (v_within h.offset 0 1000) ⟨⟨_, (.gtmp rfl hg35), .int⟩, ⟨_, .int, .int⟩, ⟨_, .int, .int⟩, trivial⟩ vhd_ca_41 trivial) rfl rfl (Nat.le_of_ble_eq_true rfl) rfl (Nat.le_of_ble_eq_true rfl) ?_
    refine ARun.pure (PureOp.pick rfl (.tmp rfl) (fun hp36 => .gtmp rfl hp36) (fun _ => .bool)) rfl rfl (Nat.le_of_ble_eq_true rfl) ?_
    refine ARun.pure (PureOp.assign rfl (.tmp rfl)) rfl rfl (Nat.le_of_ble_eq_true rfl) ?_
    refine ARun.nil ?_
    refine AW.ret (show ResL _ _ [.tmp 2] _ from resB rfl ?_)
    unfold goodHead; rw [hall]; rfl
end Go.Proofs.YtonfeiloekofdaaDoor


/-
  Where a row stands.
-/
namespace Go.Proofs.YtonfeiloekofdaaDoor
open Go.ChangeShapes Go.WideShapes Go.ChangeAt Go.RowKit Go.BigFrame Go.Deep
set_option linter.unusedVariables false
set_option linter.unusedSimpArgs false

/-- The first row whose name is not below s. -/
def loF (h : GHead) (s : ByteArray) : Nat := h.rows.findIdx (fun r => decide (0 ≤ cmpS r.name s))
theorem good_step {h : GHead} (hg : goodHead h = true) {k : Nat} (h0 : 0 < k) (hk : k < h.rows.length) : Op.bytesLess (h.rows.getD (k - 1) (default : GRow)).name.toList (h.rows.getD k (default : GRow)).name.toList = true := by
  unfold goodHead at hg
  rw [Bool.and_eq_true] at hg
  have h1 := List.all_eq_true.1 hg.1 k (List.mem_range.2 hk)
  rw [Bool.not_eq_true'] at h1
  unfold rowBad at h1
  revert h1
  generalize nameB _ false = a1
  generalize samplesB _ = a2
  generalize decide ((_ : Int) = 0) = a3
  have e : decide ((0 : Int) < (k : Int)) = true := decide_eq_true (by omega)
  rw [e]
  generalize Op.bytesLess _ _ = a4
  revert a1 a2 a3 a4; decide
theorem good_lt {h : GHead} (hg : goodHead h = true) : ∀ (d a : Nat), a + (d + 1) < h.rows.length → Op.bytesLess (h.rows.getD a (default : GRow)).name.toList (h.rows.getD (a + (d + 1)) (default : GRow)).name.toList = true
  | 0, a, hl => good_step hg (k := a + 1) (by omega) hl
  | d + 1, a, hl => less_trans (good_lt hg d a (by omega)) (good_step hg (k := a + (d + 1 + 1)) (by omega) hl)
theorem loF_le (h : GHead) (s : ByteArray) : loF h s ≤ h.rows.length := List.findIdx_le_length
theorem loF_lt {h : GHead} {s : ByteArray} {a : Nat} (ha : a < loF h s) : cmpS (h.rows.getD a (default : GRow)).name s < 0 := by
  have hl : a < h.rows.length := Nat.lt_of_lt_of_le ha (loF_le h s)
  have h1 := List.not_of_lt_findIdx ha
  rw [List.getD_eq_getElem?_getD, List.getElem?_eq_getElem hl]
  have := of_decide_eq_false h1
  show cmpS (h.rows[a]).name s < 0
  omega
theorem loF_at {h : GHead} {s : ByteArray} (hl : loF h s < h.rows.length) : 0 ≤ cmpS (h.rows.getD (loF h s) (default : GRow)).name s := by
  rw [List.getD_eq_getElem?_getD, List.getElem?_eq_getElem hl]
  exact of_decide_eq_true (List.findIdx_getElem (w := hl))
theorem loF_eq {h : GHead} {s : ByteArray} (hg : goodHead h = true) {k : Nat} (hk : k < h.rows.length) (he : (h.rows.getD k (default : GRow)).name = s) : loF h s = k := by
  have h0 : cmpS (h.rows.getD k (default : GRow)).name s = 0 := (cmpS_zero _ _).2 he
  rcases Nat.lt_trichotomy (loF h s) k with h1 | h1 | h1
  · have h3 := loF_at (h := h) (s := s) (by omega)
    obtain ⟨d, rfl⟩ : ∃ d, k = loF h s + (d + 1) := ⟨k - loF h s - 1, by omega⟩
    have h4 := good_lt hg d (loF h s) hk
    rw [he] at h4
    have := (cmpS_lt _ _).2 h4
    omega
  · exact h1
  · have := loF_lt h1
    omega
def isRow (h : GHead) (s : ByteArray) : Bool := decide (loF h s < h.rows.length) && decide ((h.rows.getD (loF h s) (default : GRow)).name = s)
def rowV (h : GHead) (s : ByteArray) : List GSample × Bool := if goodHead h = true ∧ isRow h s = true then ((h.rows.getD (loF h s) (default : GRow)).samples, true) else ([], false)
end Go.Proofs.YtonfeiloekofdaaDoor


/-
  A calculus for walks, part 43: a tree that is a row with a column of rows becomes a row of the walk's own.
-/
namespace Go.Proofs.YtonfeiloekofdaaDoor
open Go.ChangeShapes Go.WideShapes Go.ChangeAt Go.RowKit Go.BigFrame Go.Deep
set_option linter.unusedVariables false

set_option linter.unusedSimpArgs false
section
variable {P : Program} {N : Nat} {w0 : Start} {σ : Sig} {ops : Array Oper} {rest : List Oper} {o : Oper} {Q : Sig → Prop}
theorem RL.setAt {ρ : Rho} {w : World} {S : Nat → Prop} {x y : AV} (hv : ∀ v, R ρ w S x v → R ρ w S y v) : ∀ {l : List AV} {us : List Value} {j : Nat}, RL ρ w S l us → l[j]? = some x → RL ρ w S (l.set j y) us
  | [], _, _, h, _ => h
  | z :: l, _, 0, ⟨u, us, e, h1, h2⟩, hj => by
    obtain rfl : z = x := by simpa using hj
    exact ⟨u, us, e, hv u h1, h2⟩
  | z :: l, _, j + 1, ⟨u, us, e, h1, h2⟩, hj => ⟨u, us, e, h1, RL.setAt hv h2 (by simpa using hj)⟩
theorem R.setAt {ρ : Rho} {w : World} {S : Nat → Prop} {x y : AV} (hv : ∀ v, R ρ w S x v → R ρ w S y v) {l : List AV} {j q : Nat} {u : Value} (hj : l[j]? = some x) (hq : q < l.length) (hr : R ρ w S (l.getD q (.con undef)) u) : R ρ w S ((l.set j y).getD q (.con undef)) u := by
  by_cases hqj : q = j
  · subst hqj
    rw [List.getD_eq_getElem?_getD, hj] at hr
    rw [List.getD_eq_getElem?_getD, List.getElem?_set, if_pos rfl, if_pos hq]
    exact hv u hr
  · rw [List.getD_eq_getElem?_getD, List.getElem?_set, if_neg (fun e => hqj e.symm), ← List.getD_eq_getElem?_getD]; exact hr
/-- A row of the walk's own gets a new name; what named it may be named anew. -/
theorem St.moveRowV {ρ : Rho} {S : Nat → Prop} {a : Act} {w : World} (hs : St N w0 ρ S σ a w) {id id2 : Nat} {ob : AObj} (hob : σ.heap.lookup id = some ob) (hT : ob.isT = false) (hf : Fr id2 σ) :
    ∃ ρ', St N w0 ρ' S ⟨σ.env, (id2, ob) :: σ.heap.filter fun p => p.1 != id⟩ a w ∧ ∀ sz n v, R ρ' w S (.own id sz n) v → R ρ' w S (.own id2 sz n) v := by
  have hne : id ≠ id2 := (hf.heap.get hob).1
  let ρ' : Rho := ⟨fun k => if k = id2 then ρ id else ρ k, ρ.base, ρ.tv, ρ.tb, ρ.tn⟩
  have hm : ∀ k, k ≠ id2 → ρ' k = ρ k := fun k hk => if_neg hk
  have hm2 : ρ' id2 = ρ id := if_pos rfl
  have hkeep : ∀ {x : AV} {u : Value}, x.no id2 = true → R ρ w S x u → R ρ' w S x u := R.noB (ρ := ρ) (ρ' := ρ') (id := id2) rfl hm (fun _ _ => rfl) (fun _ _ => rfl)
  -- every object of the new heap is one of the old
  have conv : ∀ {k p}, ((id2, ob) :: σ.heap.filter fun p => p.1 != id : Heap).lookup k = some p → ∃ k', σ.heap.lookup k' = some p ∧ ρ' k = ρ k' ∧ (k' = if k = id2 then id else k) ∧ p.No id2 := fun {k p} hp => by
    rcases lookup_put hp with ⟨rfl, rfl⟩ | ⟨hk, hp⟩
    · exact ⟨id, hob, hm2, (if_pos rfl).symm, (hf.heap.get hob).2⟩
    · obtain ⟨f1, f2⟩ := filter_lookup hp
      exact ⟨k, f2, hm k hk, (if_neg hk).symm, (hf.heap.get f2).2⟩
  refine ⟨ρ', ⟨hs.size, hs.defers, ⟨hs.below.old, hs.below.same, fun k hk => (hs.below.ids k hk).trans ⟨hm k (fun e => by have := hf.small; omega), rfl, rfl, rfl⟩⟩, ⟨hs.mem.base, hs.mem.low, hs.mem.lt, ?_, ?_, ?_, ?_⟩, fun t' s ht' => ?_⟩, fun sz n v h => ?_⟩
  · intro k p hp
    obtain ⟨k', h1, h2, _⟩ := conv hp
    rw [h2]; exact hs.mem.cap k' p h1
  · intro k p hp hc
    obtain ⟨k', h1, h2, _, h4⟩ := conv hp
    rw [h2] at hc ⊢
    obtain ⟨cs, e, g1, g2, g3, g4, g5, g6, g7⟩ := hs.mem.obj k' p h1 hc
    refine ⟨cs, e, g1, g2, g3, g4, g5, g6, fun i j hi hj => ?_⟩
    obtain ⟨u, hu, hr⟩ := g7 i j hi hj
    exact ⟨u, hu, hkeep (h4.at_ i j) hr⟩
  · intro k k' p p' hp hp' hkk hc hc'
    obtain ⟨q, h1, h2, h3, _⟩ := conv hp
    obtain ⟨q', h1', h2', h3', _⟩ := conv hp'
    rw [h2] at hc ⊢
    rw [h2'] at hc' ⊢
    refine hs.mem.inj q q' p p' h1 h1' (fun e => hkk ?_) hc hc'
    have f1 : k ≠ id := fun e => by
      subst e
      rcases lookup_put hp with ⟨e, _⟩ | ⟨_, hp⟩
      · exact hne e
      · exact (filter_lookup hp).1 rfl
    have f2 : k' ≠ id := fun e => by
      subst e
      rcases lookup_put hp' with ⟨e, _⟩ | ⟨_, hp'⟩
      · exact hne e
      · exact (filter_lookup hp').1 rfl
    rw [h3, h3'] at e
    by_cases a1 : k = id2 <;> by_cases a2 : k' = id2
    · rw [a1, a2]
    · rw [if_pos a1, if_neg a2] at e; exact absurd e.symm f2
    · rw [if_neg a1, if_pos a2] at e; exact absurd e f1
    · rwa [if_neg a1, if_neg a2] at e
  · refine hs.mem.treeOf (Nat.le_refl _) (fun k n' X hX => ?_) (fun k n' X i b hX hi hb => ⟨rfl, (((hs.mem.tree k n' X hX i hi).2) b hb).2.1, (((hs.mem.tree k n' X hX i hi).2) b hb).2.2.1⟩) (fun k p hp hc => ?_)
    · rcases lookup_put hX with ⟨_, rfl⟩ | ⟨_, hX⟩
      · cases hT
      · exact ⟨X, (filter_lookup hX).2, fun _ _ => rfl, rfl, rfl, rfl⟩
    · obtain ⟨k', h1, h2, _⟩ := conv hp
      rw [h2] at hc ⊢
      exact .inr fun k4 n4 X4 i4 hX4 hi4 hb4 => ((hs.mem.tree k4 n4 X4 hX4 i4 hi4).2 _ hb4).2.2.2.1 k' p h1 hc rfl
  · exact RS.noB (ρ := ρ) (ρ' := ρ') (id := id2) rfl hm (fun _ _ => rfl) (fun _ _ => rfl) (List.all_eq_true.1 hf.env _ (lookup_mem ht')) (hs.env t' s ht')
  · have h : ∃ A, v = Value.slice A n (ρ' id).2 ∧ n ≤ (ρ' id).2 ∧ (ρ' id).2 ≤ maxLen ∧ (A = some ⟨(ρ' id).1, 0, none⟩ ∨ (A = none ∧ (ρ' id).2 = 0)) := h
    rw [hm id hne] at h
    show ∃ A, v = Value.slice A n (ρ' id2).2 ∧ n ≤ (ρ' id2).2 ∧ (ρ' id2).2 ≤ maxLen ∧ (A = some ⟨(ρ' id2).1, 0, none⟩ ∨ (A = none ∧ (ρ' id2).2 = 0))
    rw [hm2]; exact h
/-- A cell of a variable: the row that it holds gets a new name. -/
theorem AW.moveCell {c0 : Code} {Q2 : Exit → Sig → Prop} (v j id id2 sz n : Nat) (l l' : List AV) {ob : AObj} (hv : σ.heap.lookup v = some (.cells l)) (hj : l[j]? = some (.own id sz n)) (hl : l.set j (.own id2 sz n) = l') (hob : σ.heap.lookup id = some ob) (hT : ob.isT = false) (hvi : v ≠ id) (hf : Fr id2 σ)
    (h : AW P N w0 c0 Q2 ⟨σ.env, (v, .cells l') :: (id2, ob) :: σ.heap.filter fun p => p.1 != id⟩) : AW P N w0 c0 Q2 σ := by
  intro ρ S a w Q' hQ hs
  obtain ⟨ρ', hs', hV⟩ := hs.moveRowV hob hT hf
  have hv2 : v ≠ id2 := (hf.heap.get hv).1
  have hv' : ((id2, ob) :: σ.heap.filter fun p => p.1 != id : Heap).lookup v = some (.cells l) := by
    rw [List.lookup_cons, show (v == id2) = false by simpa using hv2]
    show (σ.heap.filter fun p => p.1 != id).lookup v = _
    rw [lookup_filter_ne hvi]; exact hv
  refine h ρ' S a w Q' hQ ⟨hs'.size, hs'.defers, hs'.below, hs'.mem.reob hv' rfl (by simp [AObj.sz, ← hl]) rfl (fun i q u _ hq hr => ?_), hs'.env⟩
  rw [← hl]
  exact R.setAt (hV sz n) hj hq hr
/-- The length of a tree's row. -/
theorem PureOp.lenTre {t : TypeId} {x : Operand} {K q m sz n : Nat} {X : Nat → AV} {f : Nat → Nat → AV} (ho : o.op = .call { callee := .builtin .len, args := #[x], argTypes := #[t] }) (hx : Kn σ x (.one (.tre K q))) (hK : σ.heap.lookup K = some (.trees m X)) (hq : q < m) (hX : X q = .lst sz n f) (ht : sliceB P t = true) : PureOp P o σ (.one (.int .i64 n)) := by
  refine PureOp.val fun N w0 ρ S ac w hs => ?_
  obtain ⟨e1, _⟩ := hx.sound hs
  obtain ⟨t1, _⟩ := hs.mem.tree K m X hK q hq
  rw [hX] at t1
  unfold Tr at t1
  obtain ⟨A, c, e, _⟩ := t1
  rw [e] at e1
  obtain ⟨e, he⟩ := sliceB_spec ht
  refine ⟨_, rfl, fun w' _ => ?_⟩
  generalize ac.eval = ev at e1 ⊢
  simp [execOp, ho, e1, resolve, invoke, builtin, Builtin.len_, run_underlying he, goInt, go_sem]
/-- A cell of a tree's row is read: address, field, load. -/
theorem ARun.treeLoad {o1 o2 o3 : Oper} {t t2 t3 : TypeId} {x y : Operand} {K q m sz n i fld off d1 d2 d3 : Nat} {k : IntKind} {mi : Int} {X : Nat → AV} {f : Nat → Nat → AV} {z : AV} (ho1 : o1.op = .indexAddr t x y) (ho2 : o2.op = .fieldAddr t2 (.tmp d1) fld) (ho3 : o3.op = .load t3 (.tmp d2))
    (hx : Kn σ x (.one (.tre K q))) (hK : σ.heap.lookup K = some (.trees m X)) (hq : q < m) (hX : X q = .lst sz n f) (hE : elemB P t sz = true) (hy : Kn σ y (.one (.int k mi))) (hm : mi = (i : Int)) (hi : i < n) (hF : fieldB P t2 fld off = true) (hoff : off < sz) (hT : plainB P t3 = true) (hz : f i off = z) (hsc : z.scl = true)
    (hg1 : o1.guard = none) (hg2 : o2.guard = none) (hg3 : o3.guard = none) (hd1 : o1.dst = some d1) (hd2 : o2.dst = some d2) (hd3 : o3.dst = some d3) (hN1 : d1 < N) (hN2 : d2 < N) (hN3 : d3 < N) (he1 : σ.env.lookup d1 = none) (he2 : σ.env.lookup d2 = none)
    (h : ARun P N w0 ops Q rest ⟨(d3, .one z) :: σ.env, σ.heap⟩) : ARun P N w0 ops Q (o1 :: o2 :: o3 :: rest) σ := by
  subst hm
  intro ρ S a w Q' hQ hs
  obtain ⟨ex, _⟩ := hx.sound hs
  obtain ⟨t1, _⟩ := hs.mem.tree K m X hK q hq
  rw [hX] at t1
  unfold Tr at t1
  obtain ⟨A, c, e, hnc, hcm, hcase⟩ := t1
  rw [e] at ex
  obtain ⟨b, cs, e', hA, hblk, u, hu, hTu⟩ : ∃ (b : Nat) (cs : Array Value) (e' : _), A = some ⟨b, 0, none⟩ ∧ w.heap[b]? = some (.cells cs e' (0, 0)) ∧ ∃ u, cs[i * sz + off]? = some u ∧ R ρ w S z u := by
    rcases hcase with ⟨hc, _⟩ | ⟨b, cs, e', g1, _, g3, _, F, g5, _⟩
    · omega
    · obtain ⟨_, u, hu, hT⟩ := g5 i off hi hoff
      refine ⟨b, cs, e', g1, g3, u, hu, ?_⟩
      rw [hz] at hT
      generalize z = zz at hT hsc
      cases zz <;> first | exact hT | cases hsc
  subst hA
  have ey : a.eval y = .int k (i : Int) := hy.sound hs
  have hcell : w.cell? ⟨b, i * sz + off, none⟩ = some u := by simp [World.cell?, hblk, hu]
  refine wpList_plain hg1 fun K1 hK1 => ?_
  have hrun1 : (execOp a.eval o1).run P w = .ok (.value (.pointer (some ⟨b, i * sz, none⟩))) w := by
    generalize a.eval = ev at ex ey ⊢
    simp only [execOp, ho1, ex, ey, Sem.run_bind, indexAt_run hE _ hi]
    simp [go_sem, Result.andThen, Addr.add]
    try omega
  unfold Oper.wp
  rw [hrun1]
  simp only [Oper.upon, hd1]
  have hs1 : St N w0 ρ S (σ.put d1 (.one (.con (.pointer (some ⟨b, i * sz, none⟩))))) (a.put (some d1) (.pointer (some ⟨b, i * sz, none⟩))) w := hs.put hN1 rfl
  refine hK1 _ _ (wpList_plain hg2 fun K2 hK2 => ?_)
  have ev1 : (a.put (some d1) (.pointer (some ⟨b, i * sz, none⟩))).eval (.tmp d1) = .pointer (some ⟨b, i * sz, none⟩) := by
    have h := hs1.env d1 (.one (.con (.pointer (some ⟨b, i * sz, none⟩)))) (by simp [Sig.put])
    exact h
  have hrun2 : (execOp (a.put (some d1) (.pointer (some ⟨b, i * sz, none⟩))).eval o2).run P w = .ok (.value (.pointer (some ⟨b, i * sz + off, none⟩))) w := by
    generalize (a.put (some d1) (.pointer (some ⟨b, i * sz, none⟩))).eval = ev at ev1 ⊢
    simp only [execOp, ho2, ev1, Sem.run_bind, fieldAt_run hF]
    simp [go_sem, Result.andThen, Addr.add]
  unfold Oper.wp
  rw [hrun2]
  simp only [Oper.upon, hd2]
  have hs2 := hs1.put (d := d2) (s := .one (.con (.pointer (some ⟨b, i * sz + off, none⟩)))) (v := .pointer (some ⟨b, i * sz + off, none⟩)) hN2 rfl
  refine hK2 _ _ (wpList_plain hg3 fun K3 hK3 => ?_)
  have ev2 : ((a.put (some d1) (.pointer (some ⟨b, i * sz, none⟩))).put (some d2) (.pointer (some ⟨b, i * sz + off, none⟩))).eval (.tmp d2) = .pointer (some ⟨b, i * sz + off, none⟩) := by
    have h := hs2.env d2 (.one (.con (.pointer (some ⟨b, i * sz + off, none⟩)))) (by simp [Sig.put])
    exact h
  have hrun3 : (execOp ((a.put (some d1) (.pointer (some ⟨b, i * sz, none⟩))).put (some d2) (.pointer (some ⟨b, i * sz + off, none⟩))).eval o3).run P w = .ok (.value u) w := by
    generalize ((a.put (some d1) (.pointer (some ⟨b, i * sz, none⟩))).put (some d2) (.pointer (some ⟨b, i * sz + off, none⟩))).eval = ev at ev2 ⊢
    simp only [execOp, ho3, ev2, Sem.run_bind, loadAt_one hT hcell]
    simp [go_sem, Result.andThen]
  unfold Oper.wp
  rw [hrun3]
  simp only [Oper.upon, hd3]
  have hs3 := hs2.put (d := d3) (s := .one z) (v := u) hN3 hTu
  refine hK3 _ _ (h ρ S _ w Q' hQ ⟨hs3.size, hs3.defers, hs3.below, hs3.mem, fun t' s ht' => ?_⟩)
  refine hs3.env t' s ?_
  simp only [Sig.put]
  rcases lookup_put ht' with ⟨rfl, rfl⟩ | ⟨hne, ht2⟩
  · simp
  · have n1 : t' ≠ d1 := fun e => by subst e; rw [he1] at ht2; cases ht2
    have n2 : t' ≠ d2 := fun e => by subst e; rw [he2] at ht2; cases ht2
    rw [List.lookup_cons, show (t' == d3) = false by simpa using hne]
    show ((d2, _) :: (d1, _) :: σ.env).lookup t' = _
    rw [List.lookup_cons, show (t' == d2) = false by simpa using n2]
    show ((d1, _) :: σ.env).lookup t' = _
    rw [List.lookup_cons, show (t' == d1) = false by simpa using n1]
    exact ht2
theorem LkAll.app {Pq : Nat → AObj → Prop} : ∀ {l l2 : Heap}, LkAll Pq l → (∀ p ∈ l2, Pq p.1 p.2) → LkAll Pq (l ++ l2)
  | [], [], _, _ => trivial
  | [], (k, o) :: l2, _, h => ⟨h _ (List.mem_cons_self ..), LkAll.app (l := []) trivial fun p hp => h p (List.mem_cons_of_mem _ hp)⟩
  | (k, o) :: l, l2, ⟨h1, h2⟩, h => ⟨h1, LkAll.app h2 h⟩
theorem LkAll.imp {Pq Pr : Nat → AObj → Prop} (hi : ∀ k o, Pq k o → Pr k o) : ∀ {l : Heap}, LkAll Pq l → LkAll Pr l
  | [], _ => trivial
  | (_, _) :: _, ⟨h1, h2⟩ => ⟨hi _ _ h1, LkAll.imp hi h2⟩
end
theorem Fr.consE {id t : Nat} {s : SV} {env : Env} {H : Heap} (hs : s.no id = true) (h : Fr id ⟨env, H⟩) : Fr id ⟨(t, s) :: env, H⟩ :=
  ⟨by rw [Bool.and_eq_true]; exact ⟨by simpa [Nat.blt_eq] using h.small, by rw [List.all_cons, Bool.and_eq_true]; exact ⟨hs, h.env⟩⟩, h.heap⟩
theorem Fr.consH {id k : Nat} {o : AObj} {env : Env} {H : Heap} (hk : k ≠ id) (ho : o.No id) (h : Fr id ⟨env, H⟩) : Fr id ⟨env, (k, o) :: H⟩ := ⟨h.envB, hk, ho, h.heap⟩
theorem FrH.filt {id : Nat} {p : Nat × AObj → Bool} : ∀ {H : Heap}, FrH id H → FrH id (H.filter p)
  | [], _ => trivial
  | (k, o) :: H, ⟨h1, h2, h3⟩ => by
    cases hp : p (k, o) with
    | true => rw [List.filter_cons_of_pos hp]; exact ⟨h1, h2, FrH.filt h3⟩
    | false => rw [List.filter_cons_of_neg (by rw [hp]; decide)]; exact FrH.filt h3
theorem Fr.filt {id : Nat} {p : Nat × AObj → Bool} {env : Env} {H : Heap} (h : Fr id ⟨env, H⟩) : Fr id ⟨env, H.filter p⟩ := ⟨h.envB, h.heap.filt⟩
theorem KnR.tl {σ : Sig} {y : Operand} {id sz q n m : Nat} {ob : AObj} {g : Nat → Nat → AV} (k1 : Kn σ y (.one (.tl id sz q n))) (k2 : σ.heap.lookup id = some ob) (k3 : ob.sz = sz) (k4 : n ≤ ob.n) (hm : m = n - q) (k5 : ∀ i j, i < m → j < sz → ob.f (q + i) j = g i j) : KnR σ y sz m g :=
  .gen (SrcOk.tl k1 k2 k3 k4 hm k5).src
end Go.Proofs.YtonfeiloekofdaaDoor


/-
  A step: what it makes of a head.
-/
namespace Go.Proofs.YtonfeiloekofdaaDoor
open Go.ChangeShapes Go.WideShapes Go.ChangeAt Go.RowKit Go.BigFrame Go.Deep
set_option linter.unusedVariables false
set_option linter.unusedSimpArgs false

theorem AW.hle {P : Program} {N : Nat} {w0 : Start} {c : Code} {Q : Exit → Sig → Prop} {e : Env} {H H' : Heap} (h : HeapLe H H') (hk : AW P N w0 c Q ⟨e, H'⟩) : AW P N w0 c Q ⟨e, H⟩ :=
  fun ρ S a w Q' hQ hs => hk ρ S a w Q' hQ ⟨hs.size, hs.defers, hs.below, hs.mem.le' fun k p hp => h.get hp, hs.env⟩
/-! What the step makes of a head. -/
abbrev rowK (h : GHead) (x : GSay) : GRow := h.rows.getD (loF h x.name) (default : GRow)
abbrev smpX (x : GSay) : GSample := ⟨x.at_, x.value⟩
abbrev takeLast (h : GHead) (x : GSay) : GSample := (rowK h x).samples.getD ((rowK h x).samples.length - 1) (default : GSample)
def addS (h : GHead) (x : GSay) : List GSample := if isRow h x.name = true then (rowK h x).samples ++ [smpX x] else [smpX x]
def takeCode (h : GHead) (x : GSay) : Nat := if isRow h x.name = true then (if (takeLast h x).at_ = x.at_ then 2 else if x.at_ < (takeLast h x).at_ then 3 else if (rowK h x).samples.length = 40 then 4 else 1) else if h.rows.length = 8 then 4 else 1
def insL {α : Type} (l : List α) (k : Nat) (r : α) : List α := l.take k ++ r :: l.drop k
def takeR (h : GHead) (x : GSay) : List GRow := if takeCode h x = 1 then (if isRow h x.name = true then h.rows.set (loF h x.name) ⟨(rowK h x).name, addS h x⟩ else insL h.rows (loF h x.name) ⟨x.name, addS h x⟩) else h.rows
def takeH (h : GHead) (x : GSay) : GHead := ⟨takeR h x, h.offset + 1⟩
def takeN (h : GHead) (x : GSay) : Nat := if takeCode h x = 1 ∧ isRow h x.name = false then h.rows.length + 1 else h.rows.length
theorem insL_len {α : Type} {l : List α} {k : Nat} {r : α} (hk : k ≤ l.length) : (insL l k r).length = l.length + 1 := by
  unfold insL; rw [List.length_append, List.length_take, List.length_cons, List.length_drop]; omega
theorem insL_at {α : Type} (d : α) {l : List α} {k : Nat} {r : α} (hk : k ≤ l.length) (a : Nat) : (insL l k r).getD a d = if a < k then l.getD a d else if a = k then r else l.getD (a - 1) d := by
  unfold insL
  rw [List.getD_eq_getElem?_getD, List.getD_eq_getElem?_getD, List.getD_eq_getElem?_getD, List.getElem?_append, List.length_take]
  by_cases h1 : a < k
  · rw [if_pos h1, if_pos (by omega), List.getElem?_take, if_pos h1]
  · rw [if_neg h1, if_neg (by omega), show min k l.length = k by omega]
    by_cases h2 : a = k
    · subst h2; rw [if_pos rfl, Nat.sub_self]; rfl
    · rw [if_neg h2]
      obtain ⟨d', hd⟩ : ∃ d', a - k = d' + 1 := ⟨a - k - 1, by omega⟩
      rw [hd, List.getElem?_cons_succ, List.getElem?_drop, show k + d' = a - 1 by omega]
theorem takeN_len (h : GHead) (x : GSay) : takeN h x = (takeH h x).rows.length := by
  show takeN h x = (takeR h x).length
  unfold takeN takeR
  have hk := loF_le h x.name
  by_cases h1 : takeCode h x = 1
  · rw [if_pos h1]
    cases h2 : isRow h x.name with
    | true => rw [if_neg (fun e => by cases e.2), if_pos rfl, List.length_set]
    | false => rw [if_pos ⟨h1, rfl⟩, if_neg (by simp), insL_len hk]
  · rw [if_neg h1, if_neg (fun e => h1 e.1)]
theorem row_lo {h : GHead} {s : ByteArray} (hr : isRow h s = true) : loF h s < h.rows.length := by
  unfold isRow at hr; rw [Bool.and_eq_true] at hr; exact of_decide_eq_true hr.1
theorem good_len {h : GHead} (hg : goodHead h = true) : h.rows.length ≤ 8 := by
  unfold goodHead at hg
  rw [Bool.and_eq_true] at hg
  have h1 := hg.2
  by_cases h2 : (h.rows.length : Int) ≤ 8
  · omega
  · rw [decide_eq_false h2] at h1; cases h1
theorem good_at {h : GHead} (hg : goodHead h = true) {k : Nat} (hk : k < h.rows.length) : nameB (h.rows.getD k (default : GRow)).name false = true ∧ 0 < (h.rows.getD k (default : GRow)).samples.length ∧ samplesB (h.rows.getD k (default : GRow)).samples = true := by
  unfold goodHead at hg
  rw [Bool.and_eq_true] at hg
  have h1 := List.all_eq_true.1 hg.1 k (List.mem_range.2 hk)
  rw [Bool.not_eq_true'] at h1
  unfold rowBad at h1
  revert h1
  generalize nameB _ false = a1
  generalize samplesB _ = a2
  by_cases h3 : ((h.rows.getD k (default : GRow)).samples.length : Int) = 0
  · rw [decide_eq_true h3]
    generalize cond (decide ((0 : Int) < (k : Int))) _ false = a4
    intro h1; revert h1; revert a1 a2 a4; simp
  · rw [decide_eq_false h3]
    generalize cond (decide ((0 : Int) < (k : Int))) _ false = a4
    intro h1
    have : a1 = true ∧ a2 = true := by revert h1; revert a1 a2 a4; decide
    exact ⟨this.1, by omega, this.2⟩
theorem smp_40 {l : List GSample} (h : samplesB l = true) : l.length ≤ 40 := by
  unfold samplesB at h; rw [Bool.and_eq_true] at h
  have := of_decide_eq_true h.2
  omega
theorem tk_full8 {h : GHead} {x : GSay} (hir : isRow h x.name = false) (h8 : h.rows.length = 8) : takeCode h x = 4 := by unfold takeCode; rw [hir, if_neg (by simp), if_pos h8]
theorem tk_ins {h : GHead} {x : GSay} (hir : isRow h x.name = false) (h8 : ¬ h.rows.length = 8) : takeCode h x = 1 := by unfold takeCode; rw [hir, if_neg (by simp), if_neg h8]
theorem tk_again {h : GHead} {x : GSay} (hir : isRow h x.name = true) (h1 : (takeLast h x).at_ = x.at_) : takeCode h x = 2 := by unfold takeCode; rw [hir, if_pos rfl, if_pos h1]
theorem tk_late {h : GHead} {x : GSay} (hir : isRow h x.name = true) (h1 : ¬ (takeLast h x).at_ = x.at_) (h2 : x.at_ < (takeLast h x).at_) : takeCode h x = 3 := by unfold takeCode; rw [hir, if_pos rfl, if_neg h1, if_pos h2]
theorem tk_full {h : GHead} {x : GSay} (hir : isRow h x.name = true) (h1 : ¬ (takeLast h x).at_ = x.at_) (h2 : ¬ x.at_ < (takeLast h x).at_) (h3 : (rowK h x).samples.length = 40) : takeCode h x = 4 := by unfold takeCode; rw [hir, if_pos rfl, if_neg h1, if_neg h2, if_pos h3]
theorem tk_new {h : GHead} {x : GSay} (hir : isRow h x.name = true) (h1 : ¬ (takeLast h x).at_ = x.at_) (h2 : ¬ x.at_ < (takeLast h x).at_) (h3 : ¬ (rowK h x).samples.length = 40) : takeCode h x = 1 := by unfold takeCode; rw [hir, if_pos rfl, if_neg h1, if_neg h2, if_neg h3]
theorem tN_old {h : GHead} {x : GSay} (hc : ¬ takeCode h x = 1) : takeN h x = h.rows.length := if_neg fun e => hc e.1
theorem tN_row {h : GHead} {x : GSay} (hir : isRow h x.name = true) : takeN h x = h.rows.length := if_neg fun e => by rw [hir] at e; cases e.2
theorem tN_ins {h : GHead} {x : GSay} (hir : isRow h x.name = false) (hc : takeCode h x = 1) : takeN h x = h.rows.length + 1 := if_pos ⟨hc, hir⟩
theorem tR_old {h : GHead} {x : GSay} (hc : ¬ takeCode h x = 1) : (takeH h x).rows = h.rows := if_neg hc
theorem tR_row {h : GHead} {x : GSay} (hir : isRow h x.name = true) (hc : takeCode h x = 1) : (takeH h x).rows = h.rows.set (loF h x.name) ⟨(rowK h x).name, addS h x⟩ := by show takeR h x = _; unfold takeR; rw [if_pos hc, if_pos hir]
theorem tR_ins {h : GHead} {x : GSay} (hir : isRow h x.name = false) (hc : takeCode h x = 1) : (takeH h x).rows = insL h.rows (loF h x.name) ⟨x.name, addS h x⟩ := by show takeR h x = _; unfold takeR; rw [if_pos hc, hir, if_neg (by simp)]
theorem getD_app {α : Type} (d : α) (l m : List α) (i : Nat) : (l ++ m).getD i d = if i < l.length then l.getD i d else m.getD (i - l.length) d := by
  rw [List.getD_eq_getElem?_getD, List.getD_eq_getElem?_getD, List.getD_eq_getElem?_getD, List.getElem?_append]
  by_cases h1 : i < l.length
  · rw [if_pos h1, if_pos h1]
  · rw [if_neg h1, if_neg h1]
theorem addS_row {h : GHead} {x : GSay} (hir : isRow h x.name = true) : addS h x = (rowK h x).samples ++ [smpX x] := if_pos hir
theorem addS_ins {h : GHead} {x : GSay} (hir : isRow h x.name = false) : addS h x = [smpX x] := if_neg (by rw [hir]; simp)
theorem addS_cell {h : GHead} {x : GSay} (hir : isRow h x.name = true) {i j : Nat} (hi : i < (rowK h x).samples.length + 1) (hj : j < 2) : (if i < (rowK h x).samples.length then ceSample ((rowK h x).samples.getD i (default : GSample)) j else ([.int .i64 x.at_, .int .i64 x.value] : List AV).getD j (.con undef)) = ceSample ((addS h x).getD i (default : GSample)) j := by
  rw [addS_row hir]
  by_cases h1 : i < (rowK h x).samples.length
  · rw [if_pos h1, getD_app, if_pos h1]
  · rw [if_neg h1, getD_app, if_neg h1, show i - (rowK h x).samples.length = 0 by omega]
    exact (match j, hj with | 0, _ => rfl | 1, _ => rfl | _ + 2, h => absurd h (by omega))
/-- The family of the walk: the members of the head, and behind them what the step makes. -/
def takeX (h : GHead) (x : GSay) (q : Nat) : AV := if q < h.rows.length then rowX0 h q else .lst 2 (addS h x).length (fun a b => ceSample ((addS h x).getD a (default : GSample)) b)
theorem takeX_lt {h : GHead} {x : GSay} {q : Nat} (hq : q < h.rows.length) : takeX h x q = rowX0 h q := if_pos hq
theorem takeX_n (h : GHead) (x : GSay) : takeX h x h.rows.length = .lst 2 (addS h x).length (fun a b => ceSample ((addS h x).getD a (default : GSample)) b) := if_neg (Nat.lt_irrefl _)
theorem rowC0_ren {h : GHead} {K K' : Nat} {q : Nat → Nat} (hq : q K = K') : ∀ a b, rowC0 h K' a b = (rowC0 h K a b).ren q := fun a b => match b with
  | 0 => rfl
  | 1 => by subst hq; rfl
  | _ + 2 => rfl
theorem rowC0_no {h : GHead} {K id : Nat} (hk : (K == id) = false) (a b : Nat) : (rowC0 h K a b).no id = true := match b with
  | 0 => rfl
  | 1 => by show (!(K == id)) = true; rw [hk]; rfl
  | _ + 2 => rfl
abbrev newC (x : GSay) : Nat → Nat → AV := fun _ jc => ([.str x.name, .con (.slice none 0 0)] : List AV).getD jc (.con undef)
theorem insF_no {f g : Nat → Nat → AV} {id : Nat} (hf : ∀ a b, (f a b).no id = true) (hg : ∀ a b, (g a b).no id = true) (i a b : Nat) : (insF f g i a b).no id = true := by
  unfold insF
  split
  · exact hf a b
  · split
    · exact hg 0 b
    · exact hf _ b
/-! The names given anew. -/
def pmI (n k q : Nat) : Nat := if q < k then q else if q = k then n else q - 1
theorem pmI_lt {n k : Nat} : ∀ i, i < n + 1 → pmI n k i < n + 1 := fun i hi => by unfold pmI; split <;> (try split) <;> omega
theorem pmI_inj {n k : Nat} (hk : k ≤ n) : ∀ i j, i < n + 1 → j < n + 1 → pmI n k i = pmI n k j → i = j := fun i j hi hj e => by
  unfold pmI at e
  split at e <;> split at e <;> (try split at e) <;> (try split at e) <;> omega
theorem row_id {h : GHead} {K K2 : Nat} : ∀ i j, i < h.rows.length → j < 2 → rowC0 h K2 i j = rowC0 h K i j ∨ ∃ p, p < h.rows.length ∧ rowC0 h K i j = .tre K (id p) ∧ rowC0 h K2 i j = .tre K2 p := fun i j hi hj => match j, hj with
  | 0, _ => .inl rfl
  | 1, _ => .inr ⟨i, hi, rfl, rfl⟩
  | _ + 2, h => absurd h (by omega)
/-- A member left out. -/
def skP (k q : Nat) : Nat := if q < k then q else q + 1
theorem skP_lt {n k : Nat} (hk : k < n) : ∀ i, i < n - 1 → skP k i < n := fun i hi => by unfold skP; split <;> omega
theorem skP_inj {n k : Nat} : ∀ i j, i < n - 1 → j < n - 1 → skP k i = skP k j → i = j := fun i j _ _ e => by unfold skP at e; split at e <;> split at e <;> omega
theorem pmI_lt' {n k : Nat} (hn : 0 < n) : ∀ i, i < n → pmI (n - 1) k i < n - 1 + 1 := fun i hi => pmI_lt i (by omega)
theorem pmI_inj' {n k : Nat} (hk : k < n) : ∀ i j, i < n → j < n → pmI (n - 1) k i = pmI (n - 1) k j → i = j := fun i j hi hj e => pmI_inj (by omega) i j (by omega) (by omega) e
def rowS (h : GHead) (k a b : Nat) : AV := if a = k ∧ b = 1 then .tre 500 k else ([.str (h.rows.getD a (default : GRow)).name, .tre 501 (if a < k then a else a - 1)] : List AV).getD b (.con undef)
theorem rowS_no {h : GHead} {k id : Nat} (h1 : (500 == id) = false) (h2 : (501 == id) = false) (a b : Nat) : (rowS h k a b).no id = true := by
  unfold rowS
  split
  · show (!(500 == id)) = true; rw [h1]; rfl
  · exact (match b with | 0 => rfl | 1 => by show (!(501 == id)) = true; rw [h2]; rfl | _ + 2 => rfl)
theorem row_skip {h : GHead} {k : Nat} (hk : k < h.rows.length) : ∀ i j, i < h.rows.length → j < 2 → rowS h k i j = rowC0 h 500 i j ∨ ∃ p, p < h.rows.length - 1 ∧ rowC0 h 500 i j = .tre 500 (skP k p) ∧ rowS h k i j = .tre 501 p := fun i j hi hj => match j, hj with
  | 0, _ => .inl (by unfold rowS; rw [if_neg (by omega)]; rfl)
  | 1, _ => by
    by_cases e : i = k
    · subst e; exact .inl (if_pos ⟨rfl, rfl⟩)
    · refine .inr ⟨if i < k then i else i - 1, by split <;> omega, ?_, ?_⟩
      · show AV.tre 500 i = AV.tre 500 _
        rw [show skP k (if i < k then i else i - 1) = i from by
          unfold skP
          by_cases h : i < k
          · rw [if_pos h, if_pos h]
          · rw [if_neg h, if_neg (by omega)]; omega]
      · unfold rowS; rw [if_neg (fun h => e h.1)]; rfl
  | _ + 2, h => absurd h (by omega)
theorem rowX_old {h : GHead} {x : GSay} (hc : ¬ takeCode h x = 1) {q : Nat} (hq : q < h.rows.length) : takeX h x q = rowX0 (takeH h x) q := by
  rw [takeX_lt hq]; unfold rowX0; rw [tR_old hc]
theorem rowC_old {h : GHead} {x : GSay} (hc : ¬ takeCode h x = 1) (K a b : Nat) : rowC0 h K a b = rowC0 (takeH h x) K a b := by
  unfold rowC0; rw [tR_old hc]
theorem set_at {α : Type} (d : α) {l : List α} {k : Nat} {r : α} (hk : k < l.length) (a : Nat) : (l.set k r).getD a d = if a = k then r else l.getD a d := by
  rw [List.getD_eq_getElem?_getD, List.getD_eq_getElem?_getD, List.getElem?_set]
  by_cases e : a = k
  · subst e; rw [if_pos rfl, if_pos rfl, if_pos hk]; rfl
  · rw [if_neg e, if_neg (fun h => e h.symm)]
/-- The family without the member that is written, and behind it what the step makes. -/
def takeY (h : GHead) (x : GSay) (q : Nat) : AV := if q < h.rows.length - 1 then takeX h x (skP (loF h x.name) q) else .lst 2 (addS h x).length (fun a b => ceSample ((addS h x).getD a (default : GSample)) b)
theorem takeY_hole {h : GHead} {x : GSay} {vv : Value} {q : Nat} (hq : q < h.rows.length - 1) : (if skP (loF h x.name) q = loF h x.name then .con vv else takeX h x (skP (loF h x.name) q)) = takeY h x q := by
  rw [if_neg (by unfold skP; split <;> omega), takeY, if_pos hq]
theorem takeY_n (h : GHead) (x : GSay) : takeY h x (h.rows.length - 1) = .lst 2 (addS h x).length (fun a b => ceSample ((addS h x).getD a (default : GSample)) b) := if_neg (Nat.lt_irrefl _)
theorem row_back {h : GHead} {k : Nat} : ∀ a b, a < h.rows.length → b < 2 → (if a = k ∧ b = 1 then .tre 500 k else rowC0 h 78 a b) = rowS h k a b ∨ ∃ p, p < h.rows.length ∧ rowS h k a b = .tre 501 (pmI (h.rows.length - 1) k p) ∧ (if a = k ∧ b = 1 then .tre 500 k else rowC0 h 78 a b) = .tre 78 p := fun a b ha hb => match b, hb with
  | 0, _ => by
    refine .inl ?_
    unfold rowS
    rw [if_neg (by omega), if_neg (by omega)]; rfl
  | 1, _ => by
    unfold rowS
    by_cases e2 : a = k
    · rw [if_pos ⟨e2, rfl⟩, if_pos ⟨e2, rfl⟩]; exact .inl rfl
    · refine .inr ⟨a, ha, ?_, ?_⟩
      · rw [if_neg (fun h => e2 h.1)]
        show AV.tre 501 _ = AV.tre 501 _
        rw [show pmI (h.rows.length - 1) k a = if a < k then a else a - 1 from by
          unfold pmI
          by_cases e : a < k
          · rw [if_pos e, if_pos e]
          · rw [if_neg e, if_neg e, if_neg e2]]
      · rw [if_neg (fun h => e2 h.1)]; rfl
  | _ + 2, h => absurd h (by omega)
theorem pmI_self {n k : Nat} : pmI n k k = n := by unfold pmI; rw [if_neg (Nat.lt_irrefl _), if_pos rfl]
theorem rowC_row {h : GHead} {x : GSay} (hir : isRow h x.name = true) (hc : takeCode h x = 1) (K a b : Nat) : (if a = loF h x.name ∧ b = 1 then .tre K (loF h x.name) else if a = loF h x.name ∧ b = 1 then .tre 500 (loF h x.name) else rowC0 h K a b) = rowC0 (takeH h x) K a b := by
  have h1 : rowC0 (takeH h x) K a b = rowC0 h K a b := by
    unfold rowC0; rw [tR_row hir hc, set_at _ (row_lo hir)]
    by_cases e : a = loF h x.name
    · rw [if_pos e, e]
    · rw [if_neg e]
  rw [h1]
  by_cases e : a = loF h x.name ∧ b = 1
  · rw [if_pos e, e.1, e.2]; rfl
  · rw [if_neg e, if_neg e]
theorem rowX_row {h : GHead} {x : GSay} (hir : isRow h x.name = true) (hc : takeCode h x = 1) {q : Nat} (hq : q < h.rows.length) : takeY h x (pmI (h.rows.length - 1) (loF h x.name) q) = rowX0 (takeH h x) q := by
  have hlo := row_lo hir
  unfold rowX0 pmI
  rw [tR_row hir hc, set_at _ hlo]
  by_cases e : q < loF h x.name
  · rw [if_pos e, if_neg (by omega), takeY, if_pos (by omega), skP, if_pos e, takeX_lt hq]; rfl
  · rw [if_neg e]
    by_cases e2 : q = loF h x.name
    · rw [if_pos e2, if_pos e2, takeY_n]
    · rw [if_neg e2, if_neg e2, takeY, if_pos (by omega), skP, if_neg (by omega), show q - 1 + 1 = q by omega, takeX_lt hq]; rfl
theorem rowX_ins {h : GHead} {x : GSay} (hir : isRow h x.name = false) (hc : takeCode h x = 1) {q : Nat} (hq : q < h.rows.length + 1) : takeX h x (pmI h.rows.length (loF h x.name) q) = rowX0 (takeH h x) q := by
  have hlo := loF_le h x.name
  unfold rowX0 pmI
  rw [tR_ins hir hc, insL_at _ hlo]
  by_cases e : q < loF h x.name
  · rw [if_pos e, if_pos e, takeX_lt (by omega)]; rfl
  · rw [if_neg e, if_neg e]
    by_cases e2 : q = loF h x.name
    · rw [if_pos e2, if_pos e2, takeX_n]
    · rw [if_neg e2, if_neg e2, takeX_lt (by omega)]; rfl
end Go.Proofs.YtonfeiloekofdaaDoor

