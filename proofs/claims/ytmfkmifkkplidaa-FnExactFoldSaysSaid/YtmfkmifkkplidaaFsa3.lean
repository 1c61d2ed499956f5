/-
  Part 3 of the proof: the texts of a seat's own library, joined.
-/
import Derived.Laws.CopyOwn
import Derived.Lib.Overlaps
import Derived.Lib.AppendZerosOnto
import Derived.Shelf.Small.Strs
import Derived.Test.YtmfkmifkkplidaaFsa1
import Derived.Test.YtmfkmifkkplidaaFsa2
/-
  Heads copied.
-/
namespace Go.Proofs.Ytmfkmifkkplidaa
open Go.ChangeShapes Go.WideShapes Go.ChangeAt Go.RowKit Go.BigFrame Go.Deep
set_option linter.unusedVariables false
set_option linter.unusedSimpArgs false
theorem vcl_ag_29_2 : aggB Try.prog 29 2 = true := by kernel_rfl
theorem vcl_ag_67_2 : aggB Try.prog 67 2 = true := by kernel_rfl
theorem vcl_ca_49 : callB Try.prog 49 = true := by kernel_rfl
theorem vcl_el_27_2 : elemB Try.prog 27 2 = true := by kernel_rfl
theorem vcl_fi_29_0_0 : fieldB Try.prog 29 0 0 = true := by kernel_rfl
theorem vcl_fi_29_1_1 : fieldB Try.prog 29 1 1 = true := by kernel_rfl
theorem vcl_fi_67_0_0 : fieldB Try.prog 67 0 0 = true := by kernel_rfl
theorem vcl_fi_67_1_1 : fieldB Try.prog 67 1 1 = true := by kernel_rfl
theorem vcl_pl_27 : plainB Try.prog 27 = true := by kernel_rfl
theorem vcl_pl_3 : plainB Try.prog 3 = true := by kernel_rfl
theorem vcl_pl_33 : plainB Try.prog 33 = true := by kernel_rfl
theorem vcl_pl_9 : plainB Try.prog 9 = true := by kernel_rfl
theorem vcl_sl_27 : sliceB Try.prog 27 = true := by kernel_rfl
theorem vcl_sl_33 : sliceB Try.prog 33 = true := by kernel_rfl
theorem vcl_sz_27_1 : sizeB Try.prog 27 1 = true := by kernel_rfl
theorem vcl_sz_29_2 : sizeB Try.prog 29 2 = true := by kernel_rfl
theorem vcl_sz_67_2 : sizeB Try.prog 67 2 = true := by kernel_rfl
def rowC0 (h : GHead) (K i j : Nat) : AV := ([.str (h.rows.getD i (default : GRow)).name, .tre K i] : List AV).getD j (.con undef)
def rowX0 (h : GHead) (i : Nat) : AV := .lst 2 (h.rows.getD i (default : GRow)).samples.length (fun a b => ceSample ((h.rows.getD i (default : GRow)).samples.getD a (default : GSample)) b)
/-- A head small enough to be copied. -/
structure HdOk (h : GHead) : Prop where
  rows : h.rows.length ≤ 1048576
  smps : ∀ k, k < h.rows.length → (h.rows.getD k (default : GRow)).samples.length ≤ 1048576
theorem v_cloneHead (h : GHead) (hw : HdOk h) : FnT Try.prog 59 [.agg [.lst 2 h.rows.length (fun i0 j0 => ([.str ((h.rows.getD i0 (default : GRow)).name), .lst 2 (((h.rows.getD i0 (default : GRow)).samples).length) (fun i1 j1 => ([.int .i64 ((((h.rows.getD i0 (default : GRow)).samples).getD i1 (default : GSample)).at_), .int .i64 ((((h.rows.getD i0 (default : GRow)).samples).getD i1 (default : GSample)).value)] : List AV).getD j1 (.con undef))] : List AV).getD j0 (.con undef)), .int .i64 h.offset]] (.agg [.lst 2 h.rows.length (fun i0 j0 => ([.str ((h.rows.getD i0 (default : GRow)).name), .lst 2 (((h.rows.getD i0 (default : GRow)).samples).length) (fun i1 j1 => ([.int .i64 ((((h.rows.getD i0 (default : GRow)).samples).getD i1 (default : GSample)).at_), .int .i64 ((((h.rows.getD i0 (default : GRow)).samples).getD i1 (default : GSample)).value)] : List AV).getD j1 (.con undef))] : List AV).getD j0 (.con undef)), .int .i64 h.offset]) := by
  obtain ⟨hr0, hs0⟩ := hw
  refine FnT.of_body (fn := Try.f59) Try.func59 rfl (Nat.le_of_ble_eq_true rfl)  ?_
  intro w0
  show AW _ 29 _ _ _ _
  refine AW.seq ?_
  refine AW.region ?_
  refine ARun.box (id := 0) rfl (.tmp rfl) (SV.cells_of (by exact ⟨trivial, trivial, trivial⟩)) ⟨rfl, (by repeat first | exact trivial | refine ⟨by decide, by first | rfl | exact trivial | (intro i j; first | rfl | exact getD_no rfl | (dsimp only; split <;> first | rfl | exact getD_no rfl) | exact scl_no (by apply_assumption) _), ?_⟩)⟩ rfl rfl rfl (Nat.le_of_ble_eq_true rfl) ?_
  refine ARun.alloc (id := 1) (l := [.con (.slice none 0 0), .int .i64 0]) (z := (.agg #[.slice none 0 0, .int .i64 0])) rfl (by kernel_rfl) (fun _ _ _ => ⟨_, _, rfl, rfl, ⟨_, _, rfl, rfl, rfl⟩⟩) ⟨rfl, (by repeat first | exact trivial | refine ⟨by decide, by first | rfl | exact trivial | (intro i j; first | rfl | exact getD_no rfl | (dsimp only; split <;> first | rfl | exact getD_no rfl) | exact scl_no (by apply_assumption) _), ?_⟩)⟩ rfl rfl rfl (Nat.le_of_ble_eq_true rfl) ?_
  refine ARun.nil ?_
  refine AW.seq ?_
  refine AW.region ?_
  refine ARun.pure (PureOp.fieldPtr rfl (.tmp rfl) vcl_fi_29_1_1) rfl rfl (Nat.le_of_ble_eq_true rfl) ?_
  refine ARun.pure (PureOp.loadPtr rfl (.tmp rfl) vcl_pl_3 rfl rfl (Nat.le_of_ble_eq_true rfl) (Nat.le_of_ble_eq_true rfl)) rfl rfl (Nat.le_of_ble_eq_true rfl) ?_
  refine ARun.pure (PureOp.build (ys := [.int .i64 h.offset]) (l := [.con (.slice none 0 0), .int .i64 0]) (pl := [(0, 1), (1, 1)]) (z := (.agg #[.slice none 0 0, .int .i64 0])) rfl (by kernel_rfl) (by kernel_rfl) (fun _ _ _ => ⟨_, _, rfl, rfl, ⟨_, _, rfl, rfl, rfl⟩⟩) ⟨(.tmp rfl), trivial, rfl, trivial⟩ rfl) rfl rfl (Nat.le_of_ble_eq_true rfl) ?_
  refine ARun.alloc (id := 2) (l := [.con (.slice none 0 0), .int .i64 0]) (z := (.agg #[.slice none 0 0, .int .i64 0])) rfl (by kernel_rfl) (fun _ _ _ => ⟨_, _, rfl, rfl, ⟨_, _, rfl, rfl, rfl⟩⟩) ⟨rfl, (by repeat first | exact trivial | refine ⟨by decide, by first | rfl | exact trivial | (intro i j; first | rfl | exact getD_no rfl | (dsimp only; split <;> first | rfl | exact getD_no rfl) | exact scl_no (by apply_assumption) _), ?_⟩)⟩ rfl rfl rfl (Nat.le_of_ble_eq_true rfl) ?_
  refine ARun.store rfl (.tmp rfl) (.tmp rfl) (SV.cells_of (by exact ⟨⟨rfl, (fun _ e => by cases e), (fun _ e => by cases e)⟩, trivial, trivial⟩)) rfl (Nat.le_of_ble_eq_true rfl) vcl_sz_29_2 rfl rfl ?_
  refine ARun.nil ?_
  refine AW.seq ?_
  refine AW.seq ?_
  refine AW.region ?_
  refine ARun.pure (PureOp.fieldPtr rfl (.tmp rfl) vcl_fi_29_0_0) rfl rfl (Nat.le_of_ble_eq_true rfl) ?_
  refine ARun.pure (PureOp.loadPtr rfl (.tmp rfl) vcl_pl_27 rfl rfl (Nat.le_of_ble_eq_true rfl) (Nat.le_of_ble_eq_true rfl)) rfl rfl (Nat.le_of_ble_eq_true rfl) ?_
  refine ARun.pure (PureOp.lenLst rfl (.tmp rfl) vcl_sl_27) rfl rfl (Nat.le_of_ble_eq_true rfl) ?_
  refine ARun.pure (PureOp.move rfl .int) rfl rfl (Nat.le_of_ble_eq_true rfl) ?_
  refine ARun.nil ?_
  refine AW.block ?_
  refine AW.fam (id := 4) (rowX0 h) ⟨rfl, (by repeat first | exact trivial | refine ⟨by decide, by first | rfl | exact trivial | (intro i j; first | rfl | exact getD_no rfl | (dsimp only; split <;> first | rfl | exact getD_no rfl) | exact scl_no (by apply_assumption) _), ?_⟩)⟩ ?_
  refine AW.nilCell 2 0 3 2 _ (rowC0 h 4) rfl rfl ⟨rfl, (by repeat first | exact trivial | refine ⟨by decide, by first | rfl | exact trivial | (intro i j; first | rfl | exact getD_no rfl | (dsimp only; split <;> first | rfl | exact getD_no rfl) | exact scl_no (by apply_assumption) _), ?_⟩)⟩ ?_
  -- objects are renamed
  refine AW.loopR (ι := Nat) (fun k => ⟨[(2, .one (.ptr 1 2 0 0)), (3, .one (.ptr 2 2 0 0)), (10, .one (.lst 2 h.rows.length (fun i0 j0 => ([.str ((h.rows.getD i0 (default : GRow)).name), .lst 2 (((h.rows.getD i0 (default : GRow)).samples).length) (fun i1 j1 => ([.int .i64 ((((h.rows.getD i0 (default : GRow)).samples).getD i1 (default : GSample)).at_), .int .i64 ((((h.rows.getD i0 (default : GRow)).samples).getD i1 (default : GSample)).value)] : List AV).getD j1 (.con undef))] : List AV).getD j0 (.con undef)))), (11, .one (.int .i64 (h.rows.length : Int))), (12, .one (.int .i64 (k : Int)))], [(1, .cells [.con (.slice none 0 0), .int .i64 0]), (2, .cells [.own 3 2 k, .int .i64 h.offset]), (3, .arr 2 k (rowC0 h 4)), (4, .trees k (rowX0 h))]⟩) (fun k => k ≤ h.rows.length) (fun k => h.rows.length - k) 0 (Nat.zero_le _) ⟨⟨⟨_, rfl, rfl⟩, ⟨_, rfl, rfl⟩, ⟨_, rfl, rfl⟩, ⟨_, rfl, rfl⟩, ⟨_, rfl, rfl⟩, trivial⟩, ⟨⟨_, rfl, rfl, Nat.le_refl _, fun _ _ _ _ => rfl⟩, ⟨_, rfl, rfl, Nat.le_refl _, fun _ _ _ _ => rfl⟩, ⟨_, rfl, rfl, Nat.le_refl _, fun _ _ _ _ => rfl⟩, ⟨_, rfl, fun _ _ => rfl⟩, trivial⟩⟩ ?_
  intro k hk
  refine AW.seq ?_
  refine AW.region ?_
  refine ARun.pure (PureOp.intOp rfl (.tmp rfl) (.tmp rfl) rfl) rfl rfl (Nat.le_of_ble_eq_true rfl) ?_
  refine ARun.nil ?_
  refine AW.seq ?_
  refine AW.cond (.tmp rfl) (fun hb1 => ?_) (fun hb1 => ?_)
  · have _u := True.intro
    replace hb1 := of_decide_eq_true hb1
    have hkl : k < h.rows.length := by omega
    have hsk := hs0 k hkl
    refine AW.skip ?_
    refine AW.seq ?_
    refine AW.block ?_
    refine AW.seq ?_
    refine AW.region ?_
    refine ARun.pure (PureOp.indexLst (i := k) rfl (.tmp rfl) vcl_el_27_2 (.tmp rfl) rfl (by omega)) rfl rfl (Nat.le_of_ble_eq_true rfl) ?_
    refine ARun.pure (PureOp.loadRefAgg rfl (.tmp rfl) vcl_ag_67_2 (Nat.le_of_ble_eq_true rfl)) rfl rfl (Nat.le_of_ble_eq_true rfl) ?_
    refine ARun.alloc (id := 5) (l := [.str ByteArray.empty, .con (.slice none 0 0)]) (z := (.agg #[.string ByteArray.empty, .slice none 0 0])) rfl (by kernel_rfl) (fun _ _ _ => ⟨_, _, rfl, ⟨rfl, by decide⟩, ⟨_, _, rfl, rfl, rfl⟩⟩) ⟨rfl, (by repeat first | exact trivial | refine ⟨by decide, by first | rfl | exact trivial | (intro i j; first | rfl | exact getD_no rfl | (dsimp only; split <;> first | rfl | exact getD_no rfl) | exact scl_no (by apply_assumption) _), ?_⟩)⟩ rfl rfl rfl (Nat.le_of_ble_eq_true rfl) ?_
    refine ARun.store rfl (.tmp rfl) (.tmp rfl) (SV.cells_of (by exact ⟨trivial, trivial, trivial⟩)) rfl (Nat.le_of_ble_eq_true rfl) vcl_sz_67_2 rfl rfl ?_
    refine ARun.nil ?_
    refine AW.anyE [6, 8, 9, 11] [11, 9, 8, 7, 6] [(1, .cells [.con (.slice none 0 0), .int .i64 0]), (5, .cells [.str ((h.rows.getD k (default : GRow)).name), .lst 2 (((h.rows.getD k (default : GRow)).samples).length) (fun i0 j0 => ([.int .i64 ((((h.rows.getD k (default : GRow)).samples).getD i0 (default : GSample)).at_), .int .i64 ((((h.rows.getD k (default : GRow)).samples).getD i0 (default : GSample)).value)] : List AV).getD j0 (.con undef))])] [(1, .cells [.con (.slice none 0 0), .int .i64 0]), (2, .cells [.own 3 2 k, .int .i64 h.offset]), (5, .cells [.str ((h.rows.getD k (default : GRow)).name), .lst 2 (((h.rows.getD k (default : GRow)).samples).length) (fun i0 j0 => ([.int .i64 ((((h.rows.getD k (default : GRow)).samples).getD i0 (default : GSample)).at_), .int .i64 ((((h.rows.getD k (default : GRow)).samples).getD i0 (default : GSample)).value)] : List AV).getD j0 (.con undef))])] 11 (by kernel_rfl) (by kernel_rfl) (by kernel_rfl) rfl rfl ⟨rfl, rfl, trivial⟩ ⟨rfl, rfl, rfl, trivial⟩ ?_
    refine ADE.early (PureOp.fieldPtr rfl (.tmp rfl) vcl_fi_29_0_0) rfl rfl (Nat.le_of_ble_eq_true rfl) (by kernel_rfl) rfl rfl ?_
    refine ADE.early (PureOp.loadPtr rfl (.tmp rfl) vcl_pl_27 rfl rfl (Nat.le_of_ble_eq_true rfl) (Nat.le_of_ble_eq_true rfl)) rfl rfl (Nat.le_of_ble_eq_true rfl) (by kernel_rfl) rfl rfl ?_
    refine ADE.early (PureOp.fieldPtr rfl (.tmp rfl) vcl_fi_67_0_0) rfl rfl (Nat.le_of_ble_eq_true rfl) (by kernel_rfl) rfl rfl ?_
    refine ADE.early (PureOp.loadPtr rfl (.tmp rfl) vcl_pl_9 rfl rfl (Nat.le_of_ble_eq_true rfl) (Nat.le_of_ble_eq_true rfl)) rfl rfl (Nat.le_of_ble_eq_true rfl) (by kernel_rfl) rfl rfl ?_
    refine ADE.early (PureOp.fieldPtr rfl (.tmp rfl) vcl_fi_67_1_1) rfl rfl (Nat.le_of_ble_eq_true rfl) (by kernel_rfl) rfl rfl ?_
    refine ADE.early (PureOp.loadPtr rfl (.tmp rfl) vcl_pl_33 rfl rfl (Nat.le_of_ble_eq_true rfl) (Nat.le_of_ble_eq_true rfl)) rfl rfl (Nat.le_of_ble_eq_true rfl) (by kernel_rfl) rfl rfl ?_
    refine ADE.eff (new := []) (s := .one (.tre 4 k)) (F := [(22, .one (.tre 4 k))]) (H' := [(1, .cells [.con (.slice none 0 0), .int .i64 0]), (2, .cells [.own 3 2 k, .int .i64 h.offset]), (3, .arr 2 k (rowC0 h 4)), (4, .trees (k + 1) (rowX0 h)), (5, .cells [.str ((h.rows.getD k (default : GRow)).name), .lst 2 (((h.rows.getD k (default : GRow)).samples).length) (fun i0 j0 => ([.int .i64 ((((h.rows.getD k (default : GRow)).samples).getD i0 (default : GSample)).at_), .int .i64 ((((h.rows.getD k (default : GRow)).samples).getD i0 (default : GSample)).value)] : List AV).getD j0 (.con undef))])]) (fun E hE Q rest hk => ?_) ⟨rfl, rfl⟩ rfl (fun _ e => by cases e; exact Nat.le_of_ble_eq_true rfl) rfl rfl ⟨rfl, rfl, trivial⟩ (fun _ => ⟨rfl, rfl, rfl, trivial⟩) ?_
    · refine ARun.prodTo (K := 4) (n := k) (X := rowX0 h) (X' := rowX0 h) (m := (k + 1)) rfl (v_Clone_Sample ((h.rows.getD k (default : GRow)).samples) (by omega)) ⟨⟨_, (.tmp rfl), .lst⟩, trivial⟩ vcl_ca_49 rfl rfl (fun _ _ => rfl) (fun p hp => match p, hp with | 0, _ => rfl | _ + 1, h => absurd h (by simp [SV.leaves])) rfl rfl rfl rfl (Nat.le_of_ble_eq_true rfl) ?_
      refine ARun.hle ?_ hk
      exact HeapLe.one rfl (HeapLe.one rfl (HeapLe.one rfl (HeapLe.one rfl (HeapLe.one rfl trivial))))
    refine ADE.early (PureOp.build (ys := [.str ((h.rows.getD k (default : GRow)).name), .tre 4 k]) (l := [.str ByteArray.empty, .con (.slice none 0 0)]) (pl := [(0, 1), (1, 1)]) (z := (.agg #[.string ByteArray.empty, .slice none 0 0])) rfl (by kernel_rfl) (by kernel_rfl) (fun _ _ _ => ⟨_, _, rfl, ⟨rfl, by decide⟩, ⟨_, _, rfl, rfl, rfl⟩⟩) ⟨(.tmp rfl), trivial, rfl, ⟨(.tmp rfl), trivial, rfl, trivial⟩⟩ rfl) rfl rfl (Nat.le_of_ble_eq_true rfl) (by kernel_rfl) rfl rfl ?_
    refine ADE.eff (new := [6]) (s := .one (.own 6 2 1)) (F := [(24, .one (.own 6 2 1))]) (H' := [(1, .cells [.con (.slice none 0 0), .int .i64 0]), (2, .cells [.own 3 2 k, .int .i64 h.offset]), (3, .arr 2 k (rowC0 h 4)), (4, .trees (k + 1) (rowX0 h)), (5, .cells [.str ((h.rows.getD k (default : GRow)).name), .lst 2 (((h.rows.getD k (default : GRow)).samples).length) (fun i0 j0 => ([.int .i64 ((((h.rows.getD k (default : GRow)).samples).getD i0 (default : GSample)).at_), .int .i64 ((((h.rows.getD k (default : GRow)).samples).getD i0 (default : GSample)).value)] : List AV).getD j0 (.con undef))]), (6, .arr 2 1 (fun _ jc => ([.str ((h.rows.getD k (default : GRow)).name), .tre 4 k] : List AV).getD jc (.con undef)))]) (fun E hE Q rest hk => ?_) ⟨rfl, rfl⟩ rfl (fun _ e => by cases e; exact Nat.le_of_ble_eq_true rfl) rfl rfl ⟨rfl, rfl, trivial⟩ (fun _ => ⟨rfl, rfl, rfl, trivial⟩) ?_
    · refine ARun.slice1 (id := 6) (z := (.agg #[.string ByteArray.empty, .slice none 0 0])) (by_ := 40) rfl (.tmp rfl) (SV.cells_of (by exact ⟨trivial, trivial, trivial⟩)) (by kernel_rfl) rfl rfl (by decide) (by decide) (Fr.ext ⟨rfl, (by repeat first | exact trivial | refine ⟨by decide, by first | rfl | exact trivial | (intro i j; first | rfl | exact getD_no rfl | (dsimp only; split <;> first | rfl | exact getD_no rfl) | exact scl_no (by apply_assumption) _), ?_⟩)⟩ (List.all_eq_true.1 hE _ (by decide))) rfl rfl rfl (Nat.le_of_ble_eq_true rfl) ?_
      refine ARun.hle ?_ hk
      exact HeapLe.one rfl (HeapLe.one rfl (HeapLe.one rfl (HeapLe.one rfl (HeapLe.one rfl (HeapLe.one rfl trivial)))))
    refine ADE.eff (new := [7]) (s := .one (.own 7 2 (k + 1))) (F := [(25, .one (.own 7 2 (k + 1)))]) (H' := [(1, .cells [.con (.slice none 0 0), .int .i64 0]), (2, .cells [.own 3 2 k, .int .i64 h.offset]), (4, .trees (k + 1) (rowX0 h)), (5, .cells [.str ((h.rows.getD k (default : GRow)).name), .lst 2 (((h.rows.getD k (default : GRow)).samples).length) (fun i0 j0 => ([.int .i64 ((((h.rows.getD k (default : GRow)).samples).getD i0 (default : GSample)).at_), .int .i64 ((((h.rows.getD k (default : GRow)).samples).getD i0 (default : GSample)).value)] : List AV).getD j0 (.con undef))]), (6, .arr 2 1 (fun _ jc => ([.str ((h.rows.getD k (default : GRow)).name), .tre 4 k] : List AV).getD jc (.con undef))), (7, .arr 2 (k + 1) (fun ia ja => if ia < k then (rowC0 h 4 : Nat → Nat → AV) ia ja else (fun _ jc => ([.str ((h.rows.getD k (default : GRow)).name), .tre 4 k] : List AV).getD jc (.con undef) : Nat → Nat → AV) (ia - k) ja))]) (fun E hE Q rest hk => ?_) ⟨rfl, rfl⟩ rfl (fun _ e => by cases e; exact Nat.le_of_ble_eq_true rfl) rfl rfl ⟨rfl, rfl, trivial⟩ (fun _ => ⟨rfl, rfl, rfl, trivial⟩) ?_
    · refine ARun.append (id := 7) (sz := 2) (n := k) (m := 1) (by_ := 40) (z := (.agg #[.string ByteArray.empty, .slice none 0 0])) (f := rowC0 h 4) (g := fun _ jc => ([.str ((h.rows.getD k (default : GRow)).name), .tre 4 k] : List AV).getD jc (.con undef)) (h := fun ia ja => if ia < k then (rowC0 h 4 : Nat → Nat → AV) ia ja else (fun _ jc => ([.str ((h.rows.getD k (default : GRow)).name), .tre 4 k] : List AV).getD jc (.con undef) : Nat → Nat → AV) (ia - k) ja) rfl (by kernel_rfl) rfl vcl_sl_27 (.own (.tmp rfl) rfl rfl rfl (Nat.le_refl _) (fun _ _ _ _ => rfl)) (.own (.tmp rfl) rfl rfl (Nat.le_refl _) (fun _ _ _ _ => rfl)) (by decide) (fun i j hi hj => match j, hj with | 0, _ => rfl | 1, _ => rfl | _ + 2, h => absurd h (by omega)) (fun _ _ _ _ => rfl) (by omega) (by omega) (Fr.ext ⟨rfl, (by repeat first | exact trivial | refine ⟨by decide, by first | rfl | exact trivial | (intro i j; first | rfl | exact getD_no rfl | (dsimp only; split <;> first | rfl | exact getD_no rfl) | exact scl_no (by apply_assumption) _), ?_⟩)⟩ (List.all_eq_true.1 hE _ (by decide))) (fun i j => by dsimp only; (repeat' split) <;> first | rfl | exact getD_no rfl) rfl rfl (Nat.le_of_ble_eq_true rfl) ?_
      refine ARun.hle ?_ hk
      exact HeapLe.one rfl (HeapLe.one rfl (HeapLe.one rfl (HeapLe.one rfl (HeapLe.one rfl (HeapLe.one rfl trivial)))))
    refine ADE.early (PureOp.fieldPtr rfl (.tmp rfl) vcl_fi_29_0_0) rfl rfl (Nat.le_of_ble_eq_true rfl) (by kernel_rfl) rfl rfl ?_
    refine ADE.eff (new := []) (s := .one (.con undef)) (F := []) (H' := [(1, .cells [.con (.slice none 0 0), .int .i64 0]), (2, .cells [.own 7 2 (k + 1), .int .i64 h.offset]), (4, .trees (k + 1) (rowX0 h)), (5, .cells [.str ((h.rows.getD k (default : GRow)).name), .lst 2 (((h.rows.getD k (default : GRow)).samples).length) (fun i0 j0 => ([.int .i64 ((((h.rows.getD k (default : GRow)).samples).getD i0 (default : GSample)).at_), .int .i64 ((((h.rows.getD k (default : GRow)).samples).getD i0 (default : GSample)).value)] : List AV).getD j0 (.con undef))]), (6, .arr 2 1 (fun _ jc => ([.str ((h.rows.getD k (default : GRow)).name), .tre 4 k] : List AV).getD jc (.con undef))), (7, .arr 2 (k + 1) (fun ia ja => if ia < k then (rowC0 h 4 : Nat → Nat → AV) ia ja else (fun _ jc => ([.str ((h.rows.getD k (default : GRow)).name), .tre 4 k] : List AV).getD jc (.con undef) : Nat → Nat → AV) (ia - k) ja))]) (fun E hE Q rest hk => ?_) ⟨rfl, rfl⟩ rfl (fun _ e => by cases e) rfl rfl ⟨rfl, rfl, trivial⟩ (fun h => absurd h (by decide)) ?_
    · refine ARun.store rfl (.tmp rfl) (.tmp rfl) trivial rfl (Nat.le_of_ble_eq_true rfl) vcl_sz_27_1 rfl rfl ?_
      refine ARun.hle ?_ hk
      exact HeapLe.one rfl (HeapLe.one rfl (HeapLe.one rfl (HeapLe.one rfl (HeapLe.one rfl (HeapLe.one rfl trivial)))))
    refine ADE.nil ?_
    refine AW.region ?_
    refine ARun.pure (PureOp.add (c := ((k + 1 : Nat) : Int)) rfl (.tmp rfl) .int (by rw [wrap_id (by omega) (by omega)]; omega)) rfl rfl (Nat.le_of_ble_eq_true rfl) ?_
    refine ARun.pure (PureOp.move rfl (.tmp rfl)) rfl rfl (Nat.le_of_ble_eq_true rfl) ?_
    refine ARun.nil ?_
    exact ⟨k + 1, (swp 3 7), (show k + 1 ≤ h.rows.length from by omega), by dsimp only; omega, swp_inj, (swp_fix rfl rfl), ⟨⟨⟨_, rfl, rfl⟩, ⟨_, rfl, rfl⟩, ⟨_, rfl, rfl⟩, ⟨_, rfl, rfl⟩, ⟨_, rfl, rfl⟩, trivial⟩, ⟨⟨_, rfl, rfl, Nat.le_refl _, fun _ _ _ _ => rfl⟩, ⟨_, rfl, rfl, Nat.le_refl _, fun _ _ _ _ => rfl⟩, ⟨_, rfl, rfl, Nat.le_refl _, fun i j hi (hj : j < 2) => match j, hj with | 0, _ => app_at (show i < k + 1 from hi) (fun _ => rfl) (fun hik => by subst hik; rfl) | 1, _ => app_at (show i < k + 1 from hi) (fun _ => rfl) (fun h => by subst h; rfl) | _ + 2, h => absurd h (by omega)⟩, ⟨rowX0 h, rfl, fun _ _ => rfl⟩, trivial⟩⟩⟩
  · have _u := True.intro
    replace hb1 := of_decide_eq_false hb1
    have hkl : ¬ k < h.rows.length := by omega
    have hke : k = h.rows.length := by omega
    refine AW.exit ?_
    refine AW.seq ?_
    refine AW.region ?_
    refine ARun.pure (PureOp.loadPtrAgg rfl (.tmp rfl) vcl_ag_29_2 rfl rfl (Nat.le_of_ble_eq_true rfl) (Nat.le_of_ble_eq_true rfl)) rfl rfl (Nat.le_of_ble_eq_true rfl) ?_
    refine ARun.store rfl (.tmp rfl) (.tmp rfl) (SV.cells_of (by exact ⟨trivial, trivial, trivial⟩)) rfl (Nat.le_of_ble_eq_true rfl) vcl_sz_29_2 rfl rfl ?_
    refine ARun.nil ?_
    exact AW.ret (show ∃ s t, ResL _ _ [.cell 2 29] s ∧ TvS _ (ofLeaf t) 0 s _ from ⟨_, fun a b => if a = 3 then 0 else if a = 4 then 0 else 1000, .inl ⟨_, rfl, .cells rfl vcl_ag_29_2 rfl rfl (Nat.le_of_ble_eq_true rfl) (Nat.le_of_ble_eq_true rfl)⟩, ⟨(Tv.colK (K := 4) (c := 1) (X := rowX0 h) hke.symm rfl rfl rfl (Nat.le_refl _) (by rfl) (fun i j hi hj hne => match j, hj, hne with | 0, _, _ => ⟨rfl, rfl⟩ | 1, _, h => absurd rfl h | _ + 2, h, _ => absurd h (by omega)) (fun i hi => ⟨rfl, rfl⟩) rfl (by decide) (fun _ => by rfl)), .int, trivial⟩⟩)

theorem v_l13Own (h : GHead) (hw : HdOk h) : FnT Try.prog 57 [.agg [.lst 2 h.rows.length (fun i0 j0 => ([.str ((h.rows.getD i0 (default : GRow)).name), .lst 2 (((h.rows.getD i0 (default : GRow)).samples).length) (fun i1 j1 => ([.int .i64 ((((h.rows.getD i0 (default : GRow)).samples).getD i1 (default : GSample)).at_), .int .i64 ((((h.rows.getD i0 (default : GRow)).samples).getD i1 (default : GSample)).value)] : List AV).getD j1 (.con undef))] : List AV).getD j0 (.con undef)), .int .i64 h.offset]] (.agg [.lst 2 h.rows.length (fun i0 j0 => ([.str ((h.rows.getD i0 (default : GRow)).name), .lst 2 (((h.rows.getD i0 (default : GRow)).samples).length) (fun i1 j1 => ([.int .i64 ((((h.rows.getD i0 (default : GRow)).samples).getD i1 (default : GSample)).at_), .int .i64 ((((h.rows.getD i0 (default : GRow)).samples).getD i1 (default : GSample)).value)] : List AV).getD j1 (.con undef))] : List AV).getD j0 (.con undef)), .int .i64 h.offset]) := by
  obtain ⟨hr0, hs0⟩ := hw
  refine FnT.of_body (fn := Try.f57) Try.func57 rfl (Nat.le_of_ble_eq_true rfl)  ?_
  intro w0
  show AW _ 30 _ _ _ _
  refine AW.seq ?_
  refine AW.region ?_
  refine ARun.box (id := 0) rfl (.tmp rfl) (SV.cells_of (by exact ⟨trivial, trivial, trivial⟩)) ⟨rfl, (by repeat first | exact trivial | refine ⟨by decide, by first | rfl | exact trivial | (intro i j; first | rfl | exact getD_no rfl | (dsimp only; split <;> first | rfl | exact getD_no rfl) | exact scl_no (by apply_assumption) _), ?_⟩)⟩ rfl rfl rfl (Nat.le_of_ble_eq_true rfl) ?_
  refine ARun.alloc (id := 1) (l := [.con (.slice none 0 0), .int .i64 0]) (z := (.agg #[.slice none 0 0, .int .i64 0])) rfl (by kernel_rfl) (fun _ _ _ => ⟨_, _, rfl, rfl, ⟨_, _, rfl, rfl, rfl⟩⟩) ⟨rfl, (by repeat first | exact trivial | refine ⟨by decide, by first | rfl | exact trivial | (intro i j; first | rfl | exact getD_no rfl | (dsimp only; split <;> first | rfl | exact getD_no rfl) | exact scl_no (by apply_assumption) _), ?_⟩)⟩ rfl rfl rfl (Nat.le_of_ble_eq_true rfl) ?_
  refine ARun.nil ?_
  refine AW.seq ?_
  refine AW.region ?_
  refine ARun.pure (PureOp.fieldPtr rfl (.tmp rfl) vcl_fi_29_1_1) rfl rfl (Nat.le_of_ble_eq_true rfl) ?_
  refine ARun.pure (PureOp.loadPtr rfl (.tmp rfl) vcl_pl_3 rfl rfl (Nat.le_of_ble_eq_true rfl) (Nat.le_of_ble_eq_true rfl)) rfl rfl (Nat.le_of_ble_eq_true rfl) ?_
  refine ARun.pure (PureOp.build (ys := [.int .i64 h.offset]) (l := [.con (.slice none 0 0), .int .i64 0]) (pl := [(0, 1), (1, 1)]) (z := (.agg #[.slice none 0 0, .int .i64 0])) rfl (by kernel_rfl) (by kernel_rfl) (fun _ _ _ => ⟨_, _, rfl, rfl, ⟨_, _, rfl, rfl, rfl⟩⟩) ⟨(.tmp rfl), trivial, rfl, trivial⟩ rfl) rfl rfl (Nat.le_of_ble_eq_true rfl) ?_
  refine ARun.alloc (id := 2) (l := [.con (.slice none 0 0), .int .i64 0]) (z := (.agg #[.slice none 0 0, .int .i64 0])) rfl (by kernel_rfl) (fun _ _ _ => ⟨_, _, rfl, rfl, ⟨_, _, rfl, rfl, rfl⟩⟩) ⟨rfl, (by repeat first | exact trivial | refine ⟨by decide, by first | rfl | exact trivial | (intro i j; first | rfl | exact getD_no rfl | (dsimp only; split <;> first | rfl | exact getD_no rfl) | exact scl_no (by apply_assumption) _), ?_⟩)⟩ rfl rfl rfl (Nat.le_of_ble_eq_true rfl) ?_
  refine ARun.store rfl (.tmp rfl) (.tmp rfl) (SV.cells_of (by exact ⟨⟨rfl, (fun _ e => by cases e), (fun _ e => by cases e)⟩, trivial, trivial⟩)) rfl (Nat.le_of_ble_eq_true rfl) vcl_sz_29_2 rfl rfl ?_
  refine ARun.nil ?_
  refine AW.seq ?_
  refine AW.seq ?_
  refine AW.region ?_
  refine ARun.pure (PureOp.fieldPtr rfl (.tmp rfl) vcl_fi_29_0_0) rfl rfl (Nat.le_of_ble_eq_true rfl) ?_
  refine ARun.pure (PureOp.loadPtr rfl (.tmp rfl) vcl_pl_27 rfl rfl (Nat.le_of_ble_eq_true rfl) (Nat.le_of_ble_eq_true rfl)) rfl rfl (Nat.le_of_ble_eq_true rfl) ?_
  refine ARun.pure (PureOp.lenLst rfl (.tmp rfl) vcl_sl_27) rfl rfl (Nat.le_of_ble_eq_true rfl) ?_
  refine ARun.pure (PureOp.move rfl .int) rfl rfl (Nat.le_of_ble_eq_true rfl) ?_
  refine ARun.nil ?_
  refine AW.block ?_
  refine AW.fam (id := 4) (rowX0 h) ⟨rfl, (by repeat first | exact trivial | refine ⟨by decide, by first | rfl | exact trivial | (intro i j; first | rfl | exact getD_no rfl | (dsimp only; split <;> first | rfl | exact getD_no rfl) | exact scl_no (by apply_assumption) _), ?_⟩)⟩ ?_
  refine AW.nilCell 2 0 3 2 _ (rowC0 h 4) rfl rfl ⟨rfl, (by repeat first | exact trivial | refine ⟨by decide, by first | rfl | exact trivial | (intro i j; first | rfl | exact getD_no rfl | (dsimp only; split <;> first | rfl | exact getD_no rfl) | exact scl_no (by apply_assumption) _), ?_⟩)⟩ ?_
  -- objects are renamed
  refine AW.loopR (ι := Nat) (fun k => ⟨[(2, .one (.ptr 1 2 0 0)), (3, .one (.ptr 2 2 0 0)), (10, .one (.lst 2 h.rows.length (fun i0 j0 => ([.str ((h.rows.getD i0 (default : GRow)).name), .lst 2 (((h.rows.getD i0 (default : GRow)).samples).length) (fun i1 j1 => ([.int .i64 ((((h.rows.getD i0 (default : GRow)).samples).getD i1 (default : GSample)).at_), .int .i64 ((((h.rows.getD i0 (default : GRow)).samples).getD i1 (default : GSample)).value)] : List AV).getD j1 (.con undef))] : List AV).getD j0 (.con undef)))), (11, .one (.int .i64 (h.rows.length : Int))), (12, .one (.int .i64 (k : Int)))], [(1, .cells [.con (.slice none 0 0), .int .i64 0]), (2, .cells [.own 3 2 k, .int .i64 h.offset]), (3, .arr 2 k (rowC0 h 4)), (4, .trees k (rowX0 h))]⟩) (fun k => k ≤ h.rows.length) (fun k => h.rows.length - k) 0 (Nat.zero_le _) ⟨⟨⟨_, rfl, rfl⟩, ⟨_, rfl, rfl⟩, ⟨_, rfl, rfl⟩, ⟨_, rfl, rfl⟩, ⟨_, rfl, rfl⟩, trivial⟩, ⟨⟨_, rfl, rfl, Nat.le_refl _, fun _ _ _ _ => rfl⟩, ⟨_, rfl, rfl, Nat.le_refl _, fun _ _ _ _ => rfl⟩, ⟨_, rfl, rfl, Nat.le_refl _, fun _ _ _ _ => rfl⟩, ⟨_, rfl, fun _ _ => rfl⟩, trivial⟩⟩ ?_
  intro k hk
  refine AW.seq ?_
  refine AW.region ?_
  refine ARun.pure (PureOp.intOp rfl (.tmp rfl) (.tmp rfl) rfl) rfl rfl (Nat.le_of_ble_eq_true rfl) ?_
  refine ARun.nil ?_
  refine AW.seq ?_
  refine AW.cond (.tmp rfl) (fun hb1 => ?_) (fun hb1 => ?_)
  · have _u := True.intro
    replace hb1 := of_decide_eq_true hb1
    have hkl : k < h.rows.length := by omega
    have hsk := hs0 k hkl
    refine AW.skip ?_
    refine AW.seq ?_
    refine AW.block ?_
    refine AW.seq ?_
    refine AW.region ?_
    refine ARun.pure (PureOp.indexLst (i := k) rfl (.tmp rfl) vcl_el_27_2 (.tmp rfl) rfl (by omega)) rfl rfl (Nat.le_of_ble_eq_true rfl) ?_
    refine ARun.pure (PureOp.loadRefAgg rfl (.tmp rfl) vcl_ag_67_2 (Nat.le_of_ble_eq_true rfl)) rfl rfl (Nat.le_of_ble_eq_true rfl) ?_
    refine ARun.alloc (id := 5) (l := [.str ByteArray.empty, .con (.slice none 0 0)]) (z := (.agg #[.string ByteArray.empty, .slice none 0 0])) rfl (by kernel_rfl) (fun _ _ _ => ⟨_, _, rfl, ⟨rfl, by decide⟩, ⟨_, _, rfl, rfl, rfl⟩⟩) ⟨rfl, (by repeat first | exact trivial | refine ⟨by decide, by first | rfl | exact trivial | (intro i j; first | rfl | exact getD_no rfl | (dsimp only; split <;> first | rfl | exact getD_no rfl) | exact scl_no (by apply_assumption) _), ?_⟩)⟩ rfl rfl rfl (Nat.le_of_ble_eq_true rfl) ?_
    refine ARun.store rfl (.tmp rfl) (.tmp rfl) (SV.cells_of (by exact ⟨trivial, trivial, trivial⟩)) rfl (Nat.le_of_ble_eq_true rfl) vcl_sz_67_2 rfl rfl ?_
    refine ARun.nil ?_
    refine AW.anyE [4, 7, 9, 10, 12] [12, 10, 9, 8, 7, 4] [(1, .cells [.con (.slice none 0 0), .int .i64 0]), (5, .cells [.str ((h.rows.getD k (default : GRow)).name), .lst 2 (((h.rows.getD k (default : GRow)).samples).length) (fun i0 j0 => ([.int .i64 ((((h.rows.getD k (default : GRow)).samples).getD i0 (default : GSample)).at_), .int .i64 ((((h.rows.getD k (default : GRow)).samples).getD i0 (default : GSample)).value)] : List AV).getD j0 (.con undef))])] [(1, .cells [.con (.slice none 0 0), .int .i64 0]), (2, .cells [.own 3 2 k, .int .i64 h.offset]), (5, .cells [.str ((h.rows.getD k (default : GRow)).name), .lst 2 (((h.rows.getD k (default : GRow)).samples).length) (fun i0 j0 => ([.int .i64 ((((h.rows.getD k (default : GRow)).samples).getD i0 (default : GSample)).at_), .int .i64 ((((h.rows.getD k (default : GRow)).samples).getD i0 (default : GSample)).value)] : List AV).getD j0 (.con undef))])] 12 (by kernel_rfl) (by kernel_rfl) (by kernel_rfl) rfl rfl ⟨rfl, rfl, trivial⟩ ⟨rfl, rfl, rfl, trivial⟩ ?_
    refine ADE.early (PureOp.fieldPtr rfl (.tmp rfl) vcl_fi_29_0_0) rfl rfl (Nat.le_of_ble_eq_true rfl) (by kernel_rfl) rfl rfl ?_
    refine ADE.early (PureOp.loadPtr rfl (.tmp rfl) vcl_pl_27 rfl rfl (Nat.le_of_ble_eq_true rfl) (Nat.le_of_ble_eq_true rfl)) rfl rfl (Nat.le_of_ble_eq_true rfl) (by kernel_rfl) rfl rfl ?_
    refine ADE.early (PureOp.fieldPtr rfl (.tmp rfl) vcl_fi_67_0_0) rfl rfl (Nat.le_of_ble_eq_true rfl) (by kernel_rfl) rfl rfl ?_
    refine ADE.early (PureOp.loadPtr rfl (.tmp rfl) vcl_pl_9 rfl rfl (Nat.le_of_ble_eq_true rfl) (Nat.le_of_ble_eq_true rfl)) rfl rfl (Nat.le_of_ble_eq_true rfl) (by kernel_rfl) rfl rfl ?_
    refine ADE.eff (new := [6]) (s := .one (.own 6 2 0)) (F := [(20, .one (.own 6 2 0))]) (H' := [(1, .cells [.con (.slice none 0 0), .int .i64 0]), (2, .cells [.own 3 2 k, .int .i64 h.offset]), (3, .arr 2 k (rowC0 h 4)), (4, .trees k (rowX0 h)), (5, .cells [.str ((h.rows.getD k (default : GRow)).name), .lst 2 (((h.rows.getD k (default : GRow)).samples).length) (fun i0 j0 => ([.int .i64 ((((h.rows.getD k (default : GRow)).samples).getD i0 (default : GSample)).at_), .int .i64 ((((h.rows.getD k (default : GRow)).samples).getD i0 (default : GSample)).value)] : List AV).getD j0 (.con undef))]), (6, .arr 2 0 (fun _ _ => .con undef))]) (fun E hE Q rest hk => ?_) ⟨rfl, rfl⟩ rfl (fun _ e => by cases e; exact Nat.le_of_ble_eq_true rfl) rfl rfl ⟨rfl, rfl, trivial⟩ (fun _ => ⟨rfl, rfl, rfl, trivial⟩) ?_
    · refine ARun.slice0 (id := 6) (z := (.agg #[.int .i64 0, .int .i64 0])) (sz := 2) (by_ := 16) rfl (by kernel_rfl) (fun _ _ => .con undef) (fun _ _ => rfl) (Fr.ext ⟨rfl, (by repeat first | exact trivial | refine ⟨by decide, by first | rfl | exact trivial | (intro i j; first | rfl | exact getD_no rfl | (dsimp only; split <;> first | rfl | exact getD_no rfl) | exact scl_no (by apply_assumption) _), ?_⟩)⟩ (List.all_eq_true.1 hE _ (by decide))) rfl rfl (Nat.le_of_ble_eq_true rfl) ?_
      refine ARun.hle ?_ hk
      exact HeapLe.one rfl (HeapLe.one rfl (HeapLe.one rfl (HeapLe.one rfl (HeapLe.one rfl (HeapLe.one rfl trivial)))))
    refine ADE.early (PureOp.fieldPtr rfl (.tmp rfl) vcl_fi_67_1_1) rfl rfl (Nat.le_of_ble_eq_true rfl) (by kernel_rfl) rfl rfl ?_
    refine ADE.early (PureOp.loadPtr rfl (.tmp rfl) vcl_pl_33 rfl rfl (Nat.le_of_ble_eq_true rfl) (Nat.le_of_ble_eq_true rfl)) rfl rfl (Nat.le_of_ble_eq_true rfl) (by kernel_rfl) rfl rfl ?_
    refine ADE.eff (new := [7]) (s := .one (.tre 4 k)) (F := [(23, .one (.tre 4 k)), (23, .one (.own 7 2 (0 + ((h.rows.getD k (default : GRow)).samples).length)))]) (H' := [(1, .cells [.con (.slice none 0 0), .int .i64 0]), (2, .cells [.own 3 2 k, .int .i64 h.offset]), (3, .arr 2 k (rowC0 h 4)), (4, .trees (k + 1) (rowX0 h)), (5, .cells [.str ((h.rows.getD k (default : GRow)).name), .lst 2 (((h.rows.getD k (default : GRow)).samples).length) (fun i0 j0 => ([.int .i64 ((((h.rows.getD k (default : GRow)).samples).getD i0 (default : GSample)).at_), .int .i64 ((((h.rows.getD k (default : GRow)).samples).getD i0 (default : GSample)).value)] : List AV).getD j0 (.con undef))])]) (fun E hE Q rest hk => ?_) ⟨rfl, rfl⟩ rfl (fun _ e => by cases e; exact Nat.le_of_ble_eq_true rfl) rfl rfl ⟨rfl, rfl, trivial⟩ (fun _ => ⟨rfl, rfl, rfl, trivial⟩) ?_
    · refine ARun.append (id := 7) (sz := 2) (n := 0) (m := ((h.rows.getD k (default : GRow)).samples).length) (by_ := 16) (z := (.agg #[.int .i64 0, .int .i64 0])) (f := fun _ _ => .con undef) (g := fun i0 j0 => ([.int .i64 ((((h.rows.getD k (default : GRow)).samples).getD i0 (default : GSample)).at_), .int .i64 ((((h.rows.getD k (default : GRow)).samples).getD i0 (default : GSample)).value)] : List AV).getD j0 (.con undef)) (h := fun ia ja => if ia < 0 then (fun _ _ => .con undef : Nat → Nat → AV) ia ja else (fun i0 j0 => ([.int .i64 ((((h.rows.getD k (default : GRow)).samples).getD i0 (default : GSample)).at_), .int .i64 ((((h.rows.getD k (default : GRow)).samples).getD i0 (default : GSample)).value)] : List AV).getD j0 (.con undef) : Nat → Nat → AV) (ia - 0) ja) rfl (by kernel_rfl) rfl vcl_sl_33 (.own (.tmp rfl) rfl rfl rfl (Nat.le_refl _) (fun _ _ _ _ => rfl)) (.lst (.tmp rfl)) (by decide) (fun i j hi hj => match j, hj with | 0, _ => rfl | 1, _ => rfl | _ + 2, h => absurd h (by omega)) (fun _ _ _ _ => rfl) (by omega) (by omega) (Fr.ext ⟨rfl, (by repeat first | exact trivial | refine ⟨by decide, by first | rfl | exact trivial | (intro i j; first | rfl | exact getD_no rfl | (dsimp only; split <;> first | rfl | exact getD_no rfl) | exact scl_no (by apply_assumption) _), ?_⟩)⟩ (List.all_eq_true.1 hE _ (by decide))) (fun i j => by dsimp only; (repeat' split) <;> first | rfl | exact getD_no rfl) rfl rfl (Nat.le_of_ble_eq_true rfl) ?_
      refine ARun.closeRow 23 7 4 k 2 (0 + ((h.rows.getD k (default : GRow)).samples).length) (m' := (h.rows.getD k (default : GRow)).samples.length) (X := rowX0 h) (g := fun a b => ceSample ((h.rows.getD k (default : GRow)).samples.getD a (default : GSample)) b) rfl rfl rfl rfl (Nat.le_refl _) rfl rfl rfl (Nat.zero_add _).symm (fun i j hi hj => match j, hj with | 0, _ => (by show (if i < 0 then AV.con undef else _) = _; exact app0) | 1, _ => (by show (if i < 0 then AV.con undef else _) = _; exact app0) | _ + 2, h => absurd h (by omega)) (fun i j hi hj => match j, hj with | 0, _ => rfl | 1, _ => rfl | _ + 2, h => absurd h (by omega)) ?_
      refine ARun.hle ?_ hk
      exact HeapLe.one rfl (HeapLe.one rfl (HeapLe.one rfl (HeapLe.one rfl (HeapLe.one rfl trivial))))
    refine ADE.early (PureOp.build (ys := [.str ((h.rows.getD k (default : GRow)).name), .tre 4 k]) (l := [.str ByteArray.empty, .con (.slice none 0 0)]) (pl := [(0, 1), (1, 1)]) (z := (.agg #[.string ByteArray.empty, .slice none 0 0])) rfl (by kernel_rfl) (by kernel_rfl) (fun _ _ _ => ⟨_, _, rfl, ⟨rfl, by decide⟩, ⟨_, _, rfl, rfl, rfl⟩⟩) ⟨(.tmp rfl), trivial, rfl, ⟨(.tmp rfl), trivial, rfl, trivial⟩⟩ rfl) rfl rfl (Nat.le_of_ble_eq_true rfl) (by kernel_rfl) rfl rfl ?_
    refine ADE.eff (new := [8]) (s := .one (.own 8 2 1)) (F := [(25, .one (.own 8 2 1))]) (H' := [(1, .cells [.con (.slice none 0 0), .int .i64 0]), (2, .cells [.own 3 2 k, .int .i64 h.offset]), (3, .arr 2 k (rowC0 h 4)), (4, .trees (k + 1) (rowX0 h)), (5, .cells [.str ((h.rows.getD k (default : GRow)).name), .lst 2 (((h.rows.getD k (default : GRow)).samples).length) (fun i0 j0 => ([.int .i64 ((((h.rows.getD k (default : GRow)).samples).getD i0 (default : GSample)).at_), .int .i64 ((((h.rows.getD k (default : GRow)).samples).getD i0 (default : GSample)).value)] : List AV).getD j0 (.con undef))]), (8, .arr 2 1 (fun _ jc => ([.str ((h.rows.getD k (default : GRow)).name), .tre 4 k] : List AV).getD jc (.con undef)))]) (fun E hE Q rest hk => ?_) ⟨rfl, rfl⟩ rfl (fun _ e => by cases e; exact Nat.le_of_ble_eq_true rfl) rfl rfl ⟨rfl, rfl, trivial⟩ (fun _ => ⟨rfl, rfl, rfl, trivial⟩) ?_
    · refine ARun.slice1 (id := 8) (z := (.agg #[.string ByteArray.empty, .slice none 0 0])) (by_ := 40) rfl (.tmp rfl) (SV.cells_of (by exact ⟨trivial, trivial, trivial⟩)) (by kernel_rfl) rfl rfl (by decide) (by decide) (Fr.ext ⟨rfl, (by repeat first | exact trivial | refine ⟨by decide, by first | rfl | exact trivial | (intro i j; first | rfl | exact getD_no rfl | (dsimp only; split <;> first | rfl | exact getD_no rfl) | exact scl_no (by apply_assumption) _), ?_⟩)⟩ (List.all_eq_true.1 hE _ (by decide))) rfl rfl rfl (Nat.le_of_ble_eq_true rfl) ?_
      refine ARun.hle ?_ hk
      exact HeapLe.one rfl (HeapLe.one rfl (HeapLe.one rfl (HeapLe.one rfl (HeapLe.one rfl (HeapLe.one rfl trivial)))))
    refine ADE.eff (new := [9]) (s := .one (.own 9 2 (k + 1))) (F := [(26, .one (.own 9 2 (k + 1)))]) (H' := [(1, .cells [.con (.slice none 0 0), .int .i64 0]), (2, .cells [.own 3 2 k, .int .i64 h.offset]), (4, .trees (k + 1) (rowX0 h)), (5, .cells [.str ((h.rows.getD k (default : GRow)).name), .lst 2 (((h.rows.getD k (default : GRow)).samples).length) (fun i0 j0 => ([.int .i64 ((((h.rows.getD k (default : GRow)).samples).getD i0 (default : GSample)).at_), .int .i64 ((((h.rows.getD k (default : GRow)).samples).getD i0 (default : GSample)).value)] : List AV).getD j0 (.con undef))]), (8, .arr 2 1 (fun _ jc => ([.str ((h.rows.getD k (default : GRow)).name), .tre 4 k] : List AV).getD jc (.con undef))), (9, .arr 2 (k + 1) (fun ia ja => if ia < k then (rowC0 h 4 : Nat → Nat → AV) ia ja else (fun _ jc => ([.str ((h.rows.getD k (default : GRow)).name), .tre 4 k] : List AV).getD jc (.con undef) : Nat → Nat → AV) (ia - k) ja))]) (fun E hE Q rest hk => ?_) ⟨rfl, rfl⟩ rfl (fun _ e => by cases e; exact Nat.le_of_ble_eq_true rfl) rfl rfl ⟨rfl, rfl, trivial⟩ (fun _ => ⟨rfl, rfl, rfl, trivial⟩) ?_
    · refine ARun.append (id := 9) (sz := 2) (n := k) (m := 1) (by_ := 40) (z := (.agg #[.string ByteArray.empty, .slice none 0 0])) (f := rowC0 h 4) (g := fun _ jc => ([.str ((h.rows.getD k (default : GRow)).name), .tre 4 k] : List AV).getD jc (.con undef)) (h := fun ia ja => if ia < k then (rowC0 h 4 : Nat → Nat → AV) ia ja else (fun _ jc => ([.str ((h.rows.getD k (default : GRow)).name), .tre 4 k] : List AV).getD jc (.con undef) : Nat → Nat → AV) (ia - k) ja) rfl (by kernel_rfl) rfl vcl_sl_27 (.own (.tmp rfl) rfl rfl rfl (Nat.le_refl _) (fun _ _ _ _ => rfl)) (.own (.tmp rfl) rfl rfl (Nat.le_refl _) (fun _ _ _ _ => rfl)) (by decide) (fun i j hi hj => match j, hj with | 0, _ => rfl | 1, _ => rfl | _ + 2, h => absurd h (by omega)) (fun _ _ _ _ => rfl) (by omega) (by omega) (Fr.ext ⟨rfl, (by repeat first | exact trivial | refine ⟨by decide, by first | rfl | exact trivial | (intro i j; first | rfl | exact getD_no rfl | (dsimp only; split <;> first | rfl | exact getD_no rfl) | exact scl_no (by apply_assumption) _), ?_⟩)⟩ (List.all_eq_true.1 hE _ (by decide))) (fun i j => by dsimp only; (repeat' split) <;> first | rfl | exact getD_no rfl) rfl rfl (Nat.le_of_ble_eq_true rfl) ?_
      refine ARun.hle ?_ hk
      exact HeapLe.one rfl (HeapLe.one rfl (HeapLe.one rfl (HeapLe.one rfl (HeapLe.one rfl (HeapLe.one rfl trivial)))))
    refine ADE.early (PureOp.fieldPtr rfl (.tmp rfl) vcl_fi_29_0_0) rfl rfl (Nat.le_of_ble_eq_true rfl) (by kernel_rfl) rfl rfl ?_
    refine ADE.eff (new := []) (s := .one (.con undef)) (F := []) (H' := [(1, .cells [.con (.slice none 0 0), .int .i64 0]), (2, .cells [.own 9 2 (k + 1), .int .i64 h.offset]), (4, .trees (k + 1) (rowX0 h)), (5, .cells [.str ((h.rows.getD k (default : GRow)).name), .lst 2 (((h.rows.getD k (default : GRow)).samples).length) (fun i0 j0 => ([.int .i64 ((((h.rows.getD k (default : GRow)).samples).getD i0 (default : GSample)).at_), .int .i64 ((((h.rows.getD k (default : GRow)).samples).getD i0 (default : GSample)).value)] : List AV).getD j0 (.con undef))]), (8, .arr 2 1 (fun _ jc => ([.str ((h.rows.getD k (default : GRow)).name), .tre 4 k] : List AV).getD jc (.con undef))), (9, .arr 2 (k + 1) (fun ia ja => if ia < k then (rowC0 h 4 : Nat → Nat → AV) ia ja else (fun _ jc => ([.str ((h.rows.getD k (default : GRow)).name), .tre 4 k] : List AV).getD jc (.con undef) : Nat → Nat → AV) (ia - k) ja))]) (fun E hE Q rest hk => ?_) ⟨rfl, rfl⟩ rfl (fun _ e => by cases e) rfl rfl ⟨rfl, rfl, trivial⟩ (fun h => absurd h (by decide)) ?_
    · refine ARun.store rfl (.tmp rfl) (.tmp rfl) trivial rfl (Nat.le_of_ble_eq_true rfl) vcl_sz_27_1 rfl rfl ?_
      refine ARun.hle ?_ hk
      exact HeapLe.one rfl (HeapLe.one rfl (HeapLe.one rfl (HeapLe.one rfl (HeapLe.one rfl (HeapLe.one rfl trivial)))))
    refine ADE.nil ?_
    refine AW.region ?_
    refine ARun.pure (PureOp.add (c := ((k + 1 : Nat) : Int)) rfl (.tmp rfl) .int (by rw [wrap_id (by omega) (by omega)]; omega)) rfl rfl (Nat.le_of_ble_eq_true rfl) ?_
    refine ARun.pure (PureOp.move rfl (.tmp rfl)) rfl rfl (Nat.le_of_ble_eq_true rfl) ?_
    refine ARun.nil ?_
    exact ⟨k + 1, (swp 3 9), (show k + 1 ≤ h.rows.length from by omega), by dsimp only; omega, swp_inj, (swp_fix rfl rfl), ⟨⟨⟨_, rfl, rfl⟩, ⟨_, rfl, rfl⟩, ⟨_, rfl, rfl⟩, ⟨_, rfl, rfl⟩, ⟨_, rfl, rfl⟩, trivial⟩, ⟨⟨_, rfl, rfl, Nat.le_refl _, fun _ _ _ _ => rfl⟩, ⟨_, rfl, rfl, Nat.le_refl _, fun _ _ _ _ => rfl⟩, ⟨_, rfl, rfl, Nat.le_refl _, fun i j hi (hj : j < 2) => match j, hj with | 0, _ => app_at (show i < k + 1 from hi) (fun _ => rfl) (fun hik => by subst hik; rfl) | 1, _ => app_at (show i < k + 1 from hi) (fun _ => rfl) (fun h => by subst h; rfl) | _ + 2, h => absurd h (by omega)⟩, ⟨rowX0 h, rfl, fun _ _ => rfl⟩, trivial⟩⟩⟩
  · have _u := True.intro
    replace hb1 := of_decide_eq_false hb1
    have hkl : ¬ k < h.rows.length := by omega
    have hke : k = h.rows.length := by omega
    refine AW.exit ?_
    refine AW.seq ?_
    refine AW.region ?_
    refine ARun.pure (PureOp.loadPtrAgg rfl (.tmp rfl) vcl_ag_29_2 rfl rfl (Nat.le_of_ble_eq_true rfl) (Nat.le_of_ble_eq_true rfl)) rfl rfl (Nat.le_of_ble_eq_true rfl) ?_
    refine ARun.store rfl (.tmp rfl) (.tmp rfl) (SV.cells_of (by exact ⟨trivial, trivial, trivial⟩)) rfl (Nat.le_of_ble_eq_true rfl) vcl_sz_29_2 rfl rfl ?_
    refine ARun.nil ?_
    exact AW.ret (show ∃ s t, ResL _ _ [.cell 2 29] s ∧ TvS _ (ofLeaf t) 0 s _ from ⟨_, fun a b => if a = 3 then 0 else if a = 4 then 0 else 1000, .inl ⟨_, rfl, .cells rfl vcl_ag_29_2 rfl rfl (Nat.le_of_ble_eq_true rfl) (Nat.le_of_ble_eq_true rfl)⟩, ⟨(Tv.colK (K := 4) (c := 1) (X := rowX0 h) hke.symm rfl rfl rfl (Nat.le_refl _) (by rfl) (fun i j hi hj hne => match j, hj, hne with | 0, _, _ => ⟨rfl, rfl⟩ | 1, _, h => absurd rfl h | _ + 2, h, _ => absurd h (by omega)) (fun i hi => ⟨rfl, rfl⟩) rfl (by decide) (fun _ => by rfl)), .int, trivial⟩⟩)
end Go.Proofs.Ytmfkmifkkplidaa


/-
  A calculus for walks, part 36: drawn regions in which what conflicts is ordered; one lexical walk serves every order.
-/
namespace Go.Proofs.Ytmfkmifkkplidaa
open Go.ChangeShapes Go.WideShapes Go.ChangeAt Go.RowKit Go.BigFrame Go.Deep
set_option linter.unusedVariables false

set_option linter.unusedSimpArgs false
/-- For each operation, the ones that it waits for. -/
def cloAt (md : Region.Mode) (ops : Array Oper) : Nat → List (List Nat)
  | 0 => []
  | k + 1 => let l := cloAt md ops k; l ++ [match ops[k]? with | some o => (o.after.toList.flatMap fun e => if Region.binds md e then e.on :: l.getD e.on [] else []).eraseDups | none => []]
def waitsB (md : Region.Mode) (ops : Array Oper) (x y : Nat) : Bool := ((cloAt md ops ops.size).getD x []).contains y
theorem cloAt_len {md : Region.Mode} {ops : Array Oper} : ∀ k, (cloAt md ops k).length = k
  | 0 => rfl
  | k + 1 => by simp [cloAt, cloAt_len k]
theorem cloAt_keep {md : Region.Mode} {ops : Array Oper} {x : Nat} : ∀ k, x < k → (cloAt md ops k).getD x [] = (cloAt md ops (x + 1)).getD x []
  | 0, h => absurd h (by omega)
  | k + 1, h => by
    by_cases hx : x = k
    · subst hx; rfl
    · have h1 : x < k := by omega
      rw [← cloAt_keep k h1]
      simp only [cloAt, List.getD_eq_getElem?_getD]
      rw [List.getElem?_append_left (by rw [cloAt_len]; exact h1)]
theorem cloAt_at {md : Region.Mode} {ops : Array Oper} (k : Nat) : (cloAt md ops (k + 1)).getD k [] = match ops[k]? with | some o => (o.after.toList.flatMap fun e => if Region.binds md e then e.on :: (cloAt md ops k).getD e.on [] else []).eraseDups | none => [] := by
  simp only [cloAt, List.getD_eq_getElem?_getD]
  rw [List.getElem?_append_right (by rw [cloAt_len]; exact Nat.le_refl _), cloAt_len, Nat.sub_self]
  rfl
theorem waits_listed {md : Region.Mode} {ops : Array Oper} {listed : Array Bool} (hord : ordB md ops = true) (hcl : ∀ j o, ops[j]? = some o → listed.getD j false = true → ∀ e ∈ o.after, Region.binds md e = true → listed.getD e.on false = true) :
    ∀ x y, waitsB md ops x y = true → (∀ o, ops[x]? = some o → ∀ e ∈ o.after, Region.binds md e = true → listed.getD e.on false = true) → listed.getD y false = true := by
  intro x
  induction x using Nat.strongRecOn with
  | _ x ih =>
    intro y hw hx
    unfold waitsB at hw
    by_cases hxs : x < ops.size
    · rw [cloAt_keep _ hxs, cloAt_at] at hw
      obtain ⟨o, ho⟩ : ∃ o, ops[x]? = some o := ⟨_, Array.getElem?_eq_getElem hxs⟩
      simp only [ho] at hw
      have hm := List.mem_eraseDups.1 (List.contains_iff_mem.1 hw)
      obtain ⟨e, he, hy⟩ := List.mem_flatMap.1 hm
      have he : e ∈ o.after := by simpa using he
      split at hy
      · rename_i hb
        have hlt := ordB_after hord ho e he hb
        have hle := hx o ho e he hb
        rcases List.mem_cons.1 hy with h | h
        · rw [h]; exact hle
        · refine ih e.on hlt y ?_ (fun o' ho' => hcl e.on o' ho' hle)
          unfold waitsB
          rw [cloAt_keep _ (Nat.lt_trans hlt hxs), ← cloAt_keep x hlt]
          exact List.contains_iff_mem.2 h
      · cases hy
    · rw [List.getD_eq_getElem?_getD, List.getElem?_eq_none (by rw [cloAt_len]; omega)] at hw
      cases hw
/-- A heap with each name once. -/
def nub : Heap → Heap
  | [] => []
  | (k, o) :: l => (k, o) :: (nub l).filter fun p => p.1 != k
theorem lookup_filter_ne {k : Nat} : ∀ {l : Heap} {t : Nat}, t ≠ k → (l.filter fun p => p.1 != k).lookup t = l.lookup t
  | [], _, _ => rfl
  | (a, b) :: l, t, h => by
    by_cases e : a = k
    · subst e
      rw [List.filter_cons_of_neg (by simp), List.lookup_cons, show (t == a) = false by simpa using h]
      exact lookup_filter_ne h
    · rw [List.filter_cons_of_pos (by simpa using e), List.lookup_cons, List.lookup_cons]
      split
      · rfl
      · exact lookup_filter_ne h
theorem nub_lookup : ∀ {l : Heap} {t : Nat}, (nub l).lookup t = l.lookup t
  | [], _ => rfl
  | (k, o) :: l, t => by
    show ((k, o) :: _).lookup t = _
    rw [List.lookup_cons, List.lookup_cons]
    cases hb : t == k with
    | true => rfl
    | false =>
      show ((nub l).filter _).lookup t = l.lookup t
      rw [lookup_filter_ne (by simpa using hb)]; exact nub_lookup
theorem nub_mem : ∀ {l : Heap} {p : Nat × AObj}, p ∈ nub l → l.lookup p.1 = some p.2
  | [], _, h => by cases h
  | (k, o) :: l, p, h => by
    rcases List.mem_cons.1 h with h | h
    · rw [h]; simp
    · obtain ⟨h1, h2⟩ := List.mem_filter.1 h
      rw [List.lookup_cons, show (p.1 == k) = false by simpa using h2]
      exact nub_mem h1
/-- What else is held beside the touched objects. -/
structure XOk (tk new : List Nat) (X : Heap) : Prop where
  off : ∀ p ∈ X, tk.contains p.1 = false
  no : ∀ p ∈ X, ∀ id ∈ new, p.2.No id
theorem XOk.none {tk new : List Nat} {X : Heap} (h : XOk tk new X) {id : Nat} (hid : tk.contains id = true) : ∀ o, X.lookup id = some o → False := fun o ho => by
  have := h.off _ (lookup_mem ho)
  rw [show (id, o).1 = id from rfl, hid] at this; cases this
def LkX (X H : Heap) : Prop := ∀ k o, X.lookup k = some o → H.lookup k = some o
theorem LkX.refl {X : Heap} : LkX X X := fun _ _ h => h
theorem LkX.cons {X H : Heap} {id : Nat} {p : AObj} (hX : ∀ o, X.lookup id = some o → False) (h : LkX X H) : LkX X ((id, p) :: H) := fun k o hk => by
  rw [List.lookup_cons]
  cases hb : k == id with
  | true => have : k = id := by simpa using hb
            subst this; exact (hX o hk).elim
  | false => exact h k o hk
theorem LkX.filter {X H : Heap} {id : Nat} (hX : ∀ o, X.lookup id = some o → False) (h : LkX X H) : LkX X (H.filter fun p => p.1 != id) := fun k o hk => by
  rw [lookup_filter_ne (fun e => by subst e; exact (hX o hk).elim)]
  exact h k o hk
theorem FrH.app {id : Nat} : ∀ {H X : Heap}, FrH id H → (∀ p ∈ X, p.1 ≠ id ∧ p.2.No id) → FrH id (H ++ X)
  | [], [], _, _ => trivial
  | [], (k, o) :: X, _, h => ⟨(h _ (List.mem_cons_self ..)).1, (h _ (List.mem_cons_self ..)).2, FrH.app (H := []) (X := X) trivial fun p hp => h p (List.mem_cons_of_mem _ hp)⟩
  | (k, o) :: H, X, ⟨h1, h2, h3⟩, h => ⟨h1, h2, FrH.app h3 h⟩
theorem Fr.ext2 {id : Nat} {env E : Env} {H X : Heap} {tk new : List Nat} (h1 : Fr id ⟨env, H⟩) (hE : (new.all fun id => E.all fun p => p.2.no id) = true) (hX : XOk tk new X) (hid : new.contains id = true) (ht : tk.contains id = true) : Fr id ⟨env ++ E, H ++ X⟩ := by
  have hm := List.contains_iff_mem.1 hid
  have h2 := Fr.ext h1 (List.all_eq_true.1 hE id hm)
  exact ⟨h2.envB, FrH.app h1.heap fun p hp => ⟨fun e => (by have := hX.off p hp; rw [e, ht] at this; cases this), hX.no p hp id hm⟩⟩
theorem ARun.hleX {P : Program} {N : Nat} {w0 : Start} {ops : Array Oper} {Q : Sig → Prop} {rest : List Oper} {e : Env} {H H' X : Heap} (h : HeapLe H H') (hx : LkX X H) (hk : ARun P N w0 ops Q rest ⟨e, H' ++ X⟩) : ARun P N w0 ops Q rest ⟨e, H⟩ :=
  fun ρ S a w Q' hQ hs => hk ρ S a w Q' hQ ⟨hs.size, hs.defers, hs.below, hs.mem.le' fun k p hp => by
    rcases lookup_app hp with h1 | ⟨_, h1⟩
    · exact h.get h1
    · exact HLe.refl (hx k p h1), hs.env⟩
/-- An operation that touches the objects tk alone, whatever else is held. -/
def EffStepX (P : Program) (N : Nat) (w0 : Start) (ops : Array Oper) (o : Oper) (env : Env) (tk new : List Nat) (Hin : Heap) (F : Env) (Hout : Heap) : Prop :=
  ∀ (E : Env) (X : Heap), (new.all fun id => E.all fun p => p.2.no id) = true → XOk tk new X → ∀ (Q : Sig → Prop) (rest : List Oper), ARun P N w0 ops Q rest ⟨F ++ (env ++ E), Hout ++ X⟩ → ARun P N w0 ops Q (o :: rest) ⟨env ++ E, Hin ++ X⟩
/-- What an operation leaves of a heap. -/
def outH (tk : List Nat) (Hout H : Heap) : Heap := Hout ++ H.filter fun p => !tk.contains p.1
/-- One operation of such a walk: what it reads, touches and makes. -/
structure Row where
  rk : List Nat
  tk : List Nat
  new : List Nat
  out : Heap
def AllFr : List Nat → Heap → Prop
  | [], _ => True
  | id :: l, H => FrH id H ∧ AllFr l H
theorem AllFr.get : ∀ {l : List Nat} {H : Heap}, AllFr l H → ∀ id ∈ l, FrH id H
  | [], _, _, _, h => by cases h
  | x :: l, _, ⟨h1, h2⟩, id, h => by
    rcases List.mem_cons.1 h with h | h
    · rw [h]; exact h1
    · exact AllFr.get h2 id h
inductive ADsX (P : Program) (N : Nat) (w0 : Start) (ops : Array Oper) : List Nat → List Oper → List Row → Sig → Sig → Prop
  | nil {nw : List Nat} {σ : Sig} : ADsX P N w0 ops nw [] [] σ σ
  | pure {nw : List Nat} {o : Oper} {rest : List Oper} {rows : List Row} {σ τ : Sig} {d : Nat} {s : SV} (Hp : Heap) : o.dst = some d → d < N → OpStep P ops o (Sig.only ⟨σ.env, Hp⟩ (o.looksAt ops)) s → Sub Hp σ.heap →
      mentB nw (σ.env.filter fun p => (o.looksAt ops).contains p.1) s = true → ADsX P N w0 ops nw rest rows ⟨(d, s) :: σ.env, σ.heap⟩ τ → ADsX P N w0 ops nw (o :: rest) (⟨Hp.map (·.1), [], [], []⟩ :: rows) σ τ
  | eff {nw tk new : List Nat} {o : Oper} {rest : List Oper} {rows : List Row} {σ τ : Sig} {s : SV} {F : Env} {Hin Hout : Heap} : (∀ d, o.dst = some d → d < N) → EffStepX P N w0 ops o (Sig.only σ (o.looksAt ops)).env tk new Hin F Hout → Sub Hin σ.heap → FOk o.dst F s →
      (Hin.all fun p => tk.contains p.1) = true → (Hout.all fun p => tk.contains p.1) = true → (new.all fun id => tk.contains id && !(Hin.map (·.1)).contains id) = true → (new.all fun id => σ.env.all fun p => p.2.no id) = true → AllFr new σ.heap →
      mentB nw (σ.env.filter fun p => (o.looksAt ops).contains p.1) s = true → ADsX P N w0 ops (new ++ nw) rest rows ⟨consO o.dst s σ.env, outH tk Hout σ.heap⟩ τ → ADsX P N w0 ops nw (o :: rest) (⟨[], tk, new, Hout⟩ :: rows) σ τ
/-- What conflicts is ordered. -/
def confB (md : Region.Mode) (ops : Array Oper) (rows : List Row) : Bool :=
  (List.range rows.length).all fun b => match rows[b]? with
    | none => true
    | some y => (List.range b).all fun a => match rows[a]? with
        | none => true
        | some x => !(x.tk.any (fun id => y.tk.contains id || y.rk.contains id) || x.rk.any (fun id => y.tk.contains id)) || waitsB md ops b a
def HNo (id : Nat) : Heap → Prop
  | [] => True
  | (_, o) :: l => o.No id ∧ HNo id l
theorem HNo.get {id : Nat} : ∀ {H : Heap}, HNo id H → ∀ p ∈ H, p.2.No id
  | [], _, _, h => by cases h
  | (k, o) :: l, ⟨h1, h2⟩, p, h => by
    rcases List.mem_cons.1 h with h | h
    · rw [h]; exact h1
    · exact HNo.get h2 p h
def AllNo : List Nat → Heap → Prop
  | [], _ => True
  | id :: l, H => HNo id H ∧ AllNo l H
theorem AllNo.get : ∀ {l : List Nat} {H : Heap}, AllNo l H → ∀ id ∈ l, HNo id H
  | [], _, _, _, h => by cases h
  | x :: l, _, ⟨h1, h2⟩, id, h => by
    rcases List.mem_cons.1 h with h | h
    · rw [h]; exact h1
    · exact AllNo.get h2 id h
def NoNewA (md : Region.Mode) (ops : Array Oper) (a : Nat) (x : Row) : Nat → List Row → Prop
  | _, [] => True
  | b, y :: l => (a = b ∨ waitsB md ops a b = true ∨ AllNo y.new x.out) ∧ NoNewA md ops a x (b + 1) l
def NoNewL (md : Region.Mode) (ops : Array Oper) (all : List Row) : Nat → List Row → Prop
  | _, [] => True
  | a, x :: l => NoNewA md ops a x 0 all ∧ NoNewL md ops all (a + 1) l
/-- What an operation leaves does not speak of what another makes, unless it waits for it. -/
def NoNew (md : Region.Mode) (ops : Array Oper) (rows : List Row) : Prop := NoNewL md ops rows 0 rows
theorem NoNewA.get {md : Region.Mode} {ops : Array Oper} {a : Nat} {x : Row} : ∀ {l : List Row} {k b : Nat} {y : Row}, NoNewA md ops a x k l → l[b]? = some y → a = k + b ∨ waitsB md ops a (k + b) = true ∨ AllNo y.new x.out
  | [], _, _, _, _, h => by simp at h
  | z :: l, k, b, y, ⟨h1, h2⟩, h => by
    cases b with
    | zero => simp at h; subst h; exact h1
    | succ b =>
      have := NoNewA.get h2 (show l[b]? = some y by simpa using h)
      rwa [show k + 1 + b = k + (b + 1) by omega] at this
theorem NoNewL.get {md : Region.Mode} {ops : Array Oper} {all : List Row} : ∀ {l : List Row} {k a : Nat} {x : Row}, NoNewL md ops all k l → l[a]? = some x → NoNewA md ops (k + a) x 0 all
  | [], _, _, _, _, h => by simp at h
  | z :: l, k, a, x, ⟨h1, h2⟩, h => by
    cases a with
    | zero => simp at h; subst h; exact h1
    | succ a =>
      have := NoNewL.get h2 (show l[a]? = some x by simpa using h)
      rwa [show k + 1 + a = k + (a + 1) by omega] at this
theorem NoNew.get {md : Region.Mode} {ops : Array Oper} {rows : List Row} (h : NoNew md ops rows) : ∀ (a b : Nat) (x y : Row), rows[a]? = some x → rows[b]? = some y → a ≠ b → ∀ id ∈ y.new, waitsB md ops a b = true ∨ ∀ p ∈ x.out, p.2.No id := fun a b x y hx hy hab id hid => by
  have := NoNewA.get (NoNewL.get h hx) hy
  rw [Nat.zero_add, Nat.zero_add] at this
  rcases this with e | e | e
  · exact absurd e hab
  · exact .inl e
  · exact .inr (e.get id hid).get
def RowsFr (H : Heap) : List Row → Prop
  | [] => True
  | r :: l => AllFr r.new H ∧ RowsFr H l
theorem RowsFr.get {H : Heap} : ∀ {l : List Row}, RowsFr H l → ∀ {k : Nat} {r : Row}, l[k]? = some r → ∀ id ∈ r.new, FrH id H
  | [], _, _, _, h => by simp at h
  | x :: l, ⟨h1, h2⟩, k, r, h => by
    cases k with
    | zero => simp at h; subst h; exact h1.get
    | succ k => exact RowsFr.get h2 (show l[k]? = some r by simpa using h)
section
variable {P : Program} {N : Nat} {w0 : Start} {ops : Array Oper} {md : Region.Mode}
theorem ADsX.lay {nw0 : List Nat} {l : List Oper} {rows : List Row} {σ τ : Sig} (h : ADsX P N w0 ops nw0 l rows σ τ) : rows.length = l.length ∧ ∃ (s : Nat → SV) (e : Nat → Env) (Hs : Nat → Heap) (nw : Nat → List Nat), e 0 = σ.env ∧ Hs 0 = σ.heap ∧ nw 0 = nw0 ∧ τ = ⟨e l.length, Hs l.length⟩ ∧
    ∀ k o, l[k]? = some o → ∃ r, rows[k]? = some r ∧ (∀ d, o.dst = some d → d < N) ∧ e (k + 1) = consO o.dst (s k) (e k) ∧ nw (k + 1) = r.new ++ nw k ∧ mentB (nw k) ((e k).filter fun p => (o.looksAt ops).contains p.1) (s k) = true ∧ (r.new.all fun id => (e k).all fun p => p.2.no id) = true ∧ (∀ id ∈ r.new, FrH id (Hs k)) ∧ (∀ id, r.tk.contains id = false → (Hs (k + 1)).lookup id = (Hs k).lookup id) ∧ (∀ id ∈ r.new, r.tk.contains id = true) ∧
      ((o.dst.isSome = true ∧ r.tk = [] ∧ r.out = [] ∧ ∃ Hp, r.rk = Hp.map (·.1) ∧ Sub Hp (Hs k) ∧ OpStep P ops o (Sig.only ⟨e k, Hp⟩ (o.looksAt ops)) (s k)) ∨
       (∃ F Hin, EffStepX P N w0 ops o (Sig.only ⟨e k, Hs k⟩ (o.looksAt ops)).env r.tk r.new Hin F r.out ∧ Sub Hin (Hs k) ∧ FOk o.dst F (s k) ∧ (Hin.all fun p => r.tk.contains p.1) = true ∧ (r.out.all fun p => r.tk.contains p.1) = true ∧ (∀ id ∈ r.new, (Hin.map (·.1)).contains id = false) ∧ Hs (k + 1) = outH r.tk r.out (Hs k))) := by
  induction h with
  | @nil nw σ => exact ⟨rfl, fun _ => .one (.con undef), fun _ => σ.env, fun _ => σ.heap, fun _ => nw, rfl, rfl, rfl, rfl, fun k o hk => by simp at hk⟩
  | @pure nw1 o rest rows σ τ d0 s0 Hp hd hN hs hsub hm _ ih =>
    obtain ⟨hl, s, e, Hs, nw, h1, h2, h3, h4, h5⟩ := ih
    refine ⟨by simp [hl], fun k => if k = 0 then s0 else s (k - 1), fun k => if k = 0 then σ.env else e (k - 1), fun k => if k = 0 then σ.heap else Hs (k - 1), fun k => if k = 0 then nw1 else nw (k - 1), rfl, rfl, rfl, by rw [h4]; simp, fun k o' hk' => ?_⟩
    cases k with
    | zero =>
      simp at hk'
      subst hk'
      exact ⟨_, rfl, fun d e => by rw [hd] at e; cases e; exact hN, by simp [h1, hd, consO], by simp [h3], by simpa using hm, by simp, by simp, by simp [h2], by simp, .inl ⟨by rw [hd]; rfl, rfl, rfl, Hp, rfl, by simpa using hsub, by simpa using hs⟩⟩
    | succ k =>
      obtain ⟨r, g0, g1, g2, g3, g4, g5, g6, g6b, g6c, g7⟩ := h5 k o' (by simpa using hk')
      exact ⟨r, by simpa using g0, g1, by simpa using g2, by simpa using g3, by simpa using g4, by simpa using g5, by simpa using g6, by simpa using g6b, g6c, by simpa using g7⟩
  | @eff nw1 tk new o rest rows σ τ s0 F Hin Hout hN hs hin hF hti hto hnew hno hfr hm _ ih =>
    obtain ⟨hl, s, e, Hs, nw, h1, h2, h3, h4, h5⟩ := ih
    refine ⟨by simp [hl], fun k => if k = 0 then s0 else s (k - 1), fun k => if k = 0 then σ.env else e (k - 1), fun k => if k = 0 then σ.heap else Hs (k - 1), fun k => if k = 0 then nw1 else nw (k - 1), rfl, rfl, rfl, by rw [h4]; simp, fun k o' hk' => ?_⟩
    have hnew' : ∀ id ∈ new, tk.contains id = true ∧ (Hin.map (·.1)).contains id = false := fun id hid => by
      have := List.all_eq_true.1 hnew id hid
      rw [Bool.and_eq_true, Bool.not_eq_true'] at this; exact this
    cases k with
    | zero =>
      simp at hk'
      subst hk'
      refine ⟨_, rfl, hN, by simp [h1], by simp [h3], by simpa using hm, by simpa using hno, by simpa using hfr.get, fun id hid => ?_, fun id hid => (hnew' id hid).1, .inr ⟨F, Hin, by simpa using hs, by simpa using hin, by simpa using hF, hti, hto, fun id hid => (hnew' id hid).2, by simp [h2]⟩⟩
      have hid : tk.contains id = false := hid
      simp only [Nat.zero_add, Nat.one_ne_zero, if_false, if_true, Nat.sub_self, h2]
      have hnone : Hout.lookup id = none := by
        cases hl2 : Hout.lookup id with
        | none => rfl
        | some p => have := List.all_eq_true.1 hto _ (lookup_mem hl2); rw [show (id, p).1 = id from rfl, hid] at this; cases this
      show (outH tk Hout σ.heap).lookup id = _
      unfold outH
      rw [lookup_none_app hnone]
      generalize σ.heap = H
      induction H with
      | nil => rfl
      | cons p H ihh =>
        obtain ⟨a, b⟩ := p
        by_cases ha : tk.contains a = true
        · rw [List.filter_cons_of_neg (by show ¬ (!tk.contains a) = true; rw [ha]; decide), List.lookup_cons, show (id == a) = false by simpa using fun e : id = a => by rw [e, ha] at hid; cases hid]
          exact ihh
        · rw [List.filter_cons_of_pos (by simpa using ha), List.lookup_cons, List.lookup_cons]
          split
          · rfl
          · exact ihh
    | succ k =>
      obtain ⟨r, g0, g1, g2, g3, g4, g5, g6, g6b, g6c, g7⟩ := h5 k o' (by simpa using hk')
      exact ⟨r, by simpa using g0, g1, by simpa using g2, by simpa using g3, by simpa using g4, by simpa using g5, by simpa using g6, by simpa using g6b, g6c, by simpa using g7⟩
theorem outH_in {tk : List Nat} {Hout H : Heap} {id : Nat} (h : tk.contains id = true) : (outH tk Hout H).lookup id = Hout.lookup id := by
  unfold outH
  cases hl : Hout.lookup id with
  | some p => exact lookup_some_app hl
  | none =>
    rw [lookup_none_app hl]
    induction H with
    | nil => rfl
    | cons p H ihh =>
      obtain ⟨a, b⟩ := p
      by_cases ha : tk.contains a = true
      · rw [List.filter_cons_of_neg (by show ¬ (!tk.contains a) = true; rw [ha]; decide)]; exact ihh
      · rw [List.filter_cons_of_pos (by simpa using ha), List.lookup_cons, show (id == a) = false by simpa using fun e : id = a => by rw [e] at h; exact ha h]
        exact ihh
theorem lookup_off {tk : List Nat} {H : Heap} {id : Nat} (h : tk.contains id = false) : (H.filter fun p => !tk.contains p.1).lookup id = H.lookup id := by
  induction H with
  | nil => rfl
  | cons p H ihh =>
    obtain ⟨a, b⟩ := p
    by_cases ha : tk.contains a = true
    · rw [List.filter_cons_of_neg (by show ¬ (!tk.contains a) = true; rw [ha]; decide), List.lookup_cons, show (id == a) = false by simpa using fun e : id = a => by rw [e, ha] at h; cases h]
      exact ihh
    · rw [List.filter_cons_of_pos (by simpa using ha), List.lookup_cons, List.lookup_cons]
      split
      · rfl
      · exact ihh
/-- In the midst of such a region. -/
structure MidX (P : Program) (N : Nat) (w0 : Start) (ops : Array Oper) (md : Region.Mode) (rows : List Row) (s : Nat → SV) (Hs : Nat → Heap) (σ : Sig) (listed : Array Bool) (ρ : Rho) (S : Nat → Prop) (a : Act) (w : World) : Prop where
  len : listed.size = ops.size
  closed : ∀ j o, ops[j]? = some o → listed.getD j false = true → ∀ e ∈ o.after, Region.binds md e = true → listed.getD e.on false = true
  mem : ∃ H, St N w0 ρ S ⟨[], H⟩ a w ∧ ∀ id n, n ≤ ops.size → (∀ j r, j < n → rows[j]? = some r → r.tk.contains id = true → listed.getD j false = true) → (∀ j r, n ≤ j → rows[j]? = some r → r.tk.contains id = true → listed.getD j false = false) → H.lookup id = (Hs n).lookup id
  done : ∀ j o d, ops[j]? = some o → o.dst = some d → listed.getD j false = true → RS ρ w S (s j) (a.tmps.getD d undef)
  old : ∀ t x, σ.env.lookup t = some x → (∀ j o, ops[j]? = some o → o.dst = some t → listed.getD j false = false) → RS ρ w S x (a.tmps.getD t undef)
theorem any_orderX {rows : List Row} {σ τ : Sig} {Q : Exit → Act → World → Prop} (hord : ordB md ops = true) (h : ADsX P N w0 ops [] ops.toList rows σ τ) (hconf : confB md ops rows = true) (hnn : NoNew md ops rows) (hs0 : RowsFr σ.heap rows)
    (hQ : ∀ ρ S a w, St N w0 ρ S τ a w → Q .normal a w) :
    ∀ (ρ : Rho) (S : Nat → Prop) (a : Act) (w : World), St N w0 ρ S σ a w → wpAny P md ops Q ops.size (Array.replicate ops.size false) a w := by
  obtain ⟨hrl, s, e, Hs, nw, he0, hH0, hnw0, hτ, hst⟩ := h.lay
  have hlen : ops.toList.length = ops.size := by simp
  rw [hlen] at hrl
  have hstep : ∀ k o, ops[k]? = some o → _ := fun k o hk => hst k o (by first | exact hk | (rw [Array.getElem?_toList]; exact hk) | simpa using hk)
  have hget0 : ∀ k (hk : k < ops.size), ops[k]? = some (ops[k]'hk) := fun k hk => Array.getElem?_eq_getElem hk
  have hdst : ∀ (i j : Nat) (oi oj : Oper) (d : Nat), ops[i]? = some oi → ops[j]? = some oj → oi.dst = some d → oj.dst = some d → i = j := fun i j oi oj d hi hj h1 h2 => by
    rcases Nat.decEq i j with hd | hd
    · exact absurd (by rw [h1, h2]) ((ordB_pair hord hi hj).1 hd (by rw [h2]; simp))
    · exact hd
  -- conflicts
  have hcf : ∀ a b x y, rows[a]? = some x → rows[b]? = some y → a < b → ∀ id, ((x.tk.contains id = true ∧ (y.tk.contains id = true ∨ y.rk.contains id = true)) ∨ (x.rk.contains id = true ∧ y.tk.contains id = true)) → waitsB md ops b a = true := by
    intro a b x y hx hy hab id hc
    have hb : b < rows.length := (List.getElem?_eq_some_iff.1 hy).1
    have h1 := List.all_eq_true.1 hconf b (List.mem_range.2 hb)
    simp only [hy] at h1
    have h2 := List.all_eq_true.1 h1 a (List.mem_range.2 hab)
    simp only [hx] at h2
    rw [Bool.or_eq_true] at h2
    rcases h2 with h2 | h2
    · exfalso
      rw [Bool.not_eq_true', Bool.or_eq_false_iff] at h2
      rcases hc with ⟨c1, c2⟩ | ⟨c1, c2⟩
      · have := List.any_eq_false.1 h2.1 id (List.contains_iff_mem.1 c1)
        apply this
        rw [Bool.or_eq_true]; exact c2
      · exact List.any_eq_false.1 h2.2 id (List.contains_iff_mem.1 c1) c2
    · exact h2
  have hget : ∀ k, k ≤ ops.size → ∀ t x, (e k).lookup t = some x → (∃ j o, j < k ∧ ops[j]? = some o ∧ o.dst = some t ∧ x = s j) ∨ ((∀ j o, j < k → ops[j]? = some o → o.dst ≠ some t) ∧ σ.env.lookup t = some x) := by
    intro k
    induction k with
    | zero => intro _ t x h; exact .inr ⟨fun j o hj => absurd hj (by omega), by rw [← he0]; exact h⟩
    | succ k ih =>
      intro hk t x h
      obtain ⟨_, _, _, g2, _⟩ := hstep k _ (hget0 k (by omega))
      rw [g2] at h
      rcases consO_get h with ⟨h1, rfl⟩ | ⟨h1, h2⟩
      · exact .inl ⟨k, _, by omega, hget0 k (by omega), h1, rfl⟩
      · rcases ih (by omega) t x h2 with ⟨j, o, hj, q1, q2, q3⟩ | ⟨q1, q2⟩
        · exact .inl ⟨j, o, by omega, q1, q2, q3⟩
        · refine .inr ⟨fun j o hj ho => ?_, q2⟩
          by_cases hjk : j = k
          · subst hjk; rw [hget0 j (by omega)] at ho; cases ho; exact h1
          · exact q1 j o (by omega) ho
  have hmem : ∀ k, k ≤ ops.size → ∀ q ∈ e k, (∃ j o t, j < k ∧ ops[j]? = some o ∧ o.dst = some t ∧ q = (t, s j)) ∨ q ∈ σ.env := by
    intro k
    induction k with
    | zero => intro _ q h; exact .inr (by rw [← he0]; exact h)
    | succ k ih =>
      intro hk q h
      obtain ⟨_, _, _, g2, _⟩ := hstep k _ (hget0 k (by omega))
      rw [g2] at h
      rcases consO_mem h with ⟨t, h1, h2⟩ | h
      · exact .inl ⟨k, _, t, by omega, hget0 k (by omega), h1, h2⟩
      · rcases ih (by omega) q h with ⟨j, o, t, hj, q1, q2, q3⟩ | h
        · exact .inl ⟨j, o, t, by omega, q1, q2, q3⟩
        · exact .inr h
  have hup : ∀ k, k ≤ ops.size → ∀ i, i ≤ k → ∀ q ∈ e i, q ∈ e k := by
    intro k
    induction k with
    | zero => intro _ i hi q h; obtain rfl : i = 0 := (by omega); exact h
    | succ k ih =>
      intro hk i hi q h
      by_cases hik : i = k + 1
      · subst hik; exact h
      · obtain ⟨_, _, _, g2, _⟩ := hstep k _ (hget0 k (by omega))
        rw [g2]
        exact consO_mem' (ih (by omega) i (by omega) q h)
  have hnwup : ∀ k, k ≤ ops.size → ∀ j r, j < k → rows[j]? = some r → ∀ id ∈ r.new, id ∈ nw k := by
    intro k
    induction k with
    | zero => intro _ j r hj; omega
    | succ k ih =>
      intro hk j r hj hr id hid
      obtain ⟨r', g0, _, _, g3, _⟩ := hstep k _ (hget0 k (by omega))
      rw [g3]
      by_cases hjk : j = k
      · subst hjk; rw [g0] at hr; cases hr; exact List.mem_append_left _ hid
      · exact List.mem_append_right _ (ih (by omega) j r (by omega) hr id hid)
  have hfr : ∀ j r, rows[j]? = some r → ∀ id ∈ r.new, (∀ q ∈ e j, q.2.no id = true) ∧ FrH id (Hs j) ∧ r.tk.contains id = true := fun j r hr id hid => by
    have hj : j < ops.size := by have := (List.getElem?_eq_some_iff.1 hr).1; omega
    obtain ⟨r', g0, _, _, _, _, g5, g6, _, g6c, _⟩ := hstep j _ (hget0 j hj)
    rw [g0] at hr; cases hr
    exact ⟨fun q hq => List.all_eq_true.1 (List.all_eq_true.1 g5 id hid) q hq, g6 id hid, g6c id hid⟩
  -- the lexical heaps
  have hsame : ∀ id n m, n ≤ m → m ≤ ops.size → (∀ j r, n ≤ j → j < m → rows[j]? = some r → r.tk.contains id = false) → (Hs m).lookup id = (Hs n).lookup id := by
    intro id n m
    induction m with
    | zero => intro h1 _ _; obtain rfl : n = 0 := (by omega); rfl
    | succ m ih =>
      intro h1 h2 h3
      by_cases hnm : n = m + 1
      · subst hnm; rfl
      · obtain ⟨r, g0, _, _, _, _, _, _, g6b, _⟩ := hstep m _ (hget0 m (by omega))
        rw [g6b id (h3 m r (by omega) (by omega) g0)]
        exact ih (by omega) (by omega) fun j r hj1 hj2 => h3 j r hj1 (by omega)
  have hvers : ∀ n, n ≤ ops.size → ∀ id ob, (Hs n).lookup id = some ob → (∃ j r, j < n ∧ rows[j]? = some r ∧ r.tk.contains id = true ∧ (id, ob) ∈ r.out) ∨ σ.heap.lookup id = some ob := by
    intro n
    induction n with
    | zero => intro _ id ob h; rw [hH0] at h; exact .inr h
    | succ n ih =>
      intro hn id ob h
      obtain ⟨r, g0, _, _, _, _, _, _, g6b, _, g7⟩ := hstep n _ (hget0 n (by omega))
      by_cases ht : r.tk.contains id = true
      · rcases g7 with ⟨_, g, _⟩ | ⟨_, _, _, _, _, _, _, _, g⟩
        · rw [g] at ht; cases ht
        · rw [g, outH_in ht] at h
          exact .inl ⟨n, r, by omega, g0, ht, lookup_mem h⟩
      · rw [g6b id (by simpa using ht)] at h
        rcases ih (by omega) id ob h with ⟨j, r', q1, q2, q3, q4⟩ | h
        · exact .inl ⟨j, r', by omega, q2, q3, q4⟩
        · exact .inr h
  have hment : ∀ (listed : Array Bool) (_ : ∀ j o, ops[j]? = some o → listed.getD j false = true → ∀ e ∈ o.after, Region.binds md e = true → listed.getD e.on false = true) (k : Nat) (ok : Oper) (d : Nat), ops[k]? = some ok → ok.dst = some d → listed.getD k false = true → ∀ j r id, rows[j]? = some r → id ∈ r.new → (s k).no id = false → listed.getD j false = true := by
    intro listed hcl k
    induction k using Nat.strongRecOn with
    | _ k ih =>
      intro ok dk hok hdk hlk j r id hr hid hn
      have hk : k < ops.size := (Array.getElem?_eq_some_iff.1 hok).1
      have hj : j < ops.size := by have := (List.getElem?_eq_some_iff.1 hr).1; omega
      by_cases hjk : j = k
      · subst hjk; exact hlk
      · have hlt : j < k := by
          apply Classical.byContradiction
          intro hge
          have hin' : (dk, s k) ∈ e (k + 1) := by
            obtain ⟨_, _, _, g2, _⟩ := hstep k _ hok
            rw [g2, hdk]; exact List.mem_cons_self ..
          have := (hfr j r hr id hid).1 _ (hup j (by omega) (k + 1) (by omega) _ hin')
          rw [hn] at this; cases this
        obtain ⟨_, _, _, _, _, g4, _⟩ := hstep k _ hok
        have h8 := List.all_eq_true.1 g4 id (hnwup k (by omega) j r hlt hr id hid)
        rw [hn, Bool.false_or] at h8
        obtain ⟨q, hq, hqn⟩ := List.any_eq_true.1 h8
        obtain ⟨hqe, hql⟩ := List.mem_filter.1 hq
        simp only [Bool.not_eq_true'] at hqn
        rcases hmem k (by omega) q hqe with ⟨i, oi, t, hik, q1, q2, rfl⟩ | h0
        · have hli : listed.getD i false = true := by
            rcases (ordB_pair hord hok q1).2 _ q2 (by simpa using hql) with e1 | ⟨_, ed, hed, hb, hon⟩ | ⟨hn', _⟩
            · omega
            · rw [← hon]; exact hcl k _ hok hlk ed hed hb
            · omega
          exact ih i hik oi t q1 q2 hli j r id hr hid hqn
        · have := (hfr j r hr id hid).1 q (hup j (by omega) 0 (Nat.zero_le _) q (by rw [he0]; exact h0))
          rw [hqn] at this; cases this
  have key : ∀ fuel listed ρ S a w, unl listed ops.size = fuel → MidX P N w0 ops md rows s Hs σ listed ρ S a w → wpAny P md ops Q fuel listed a w := by
    intro fuel
    induction fuel with
    | zero =>
      intro listed ρ S a w hf hm
      have hall : ∀ j, j < ops.size → listed.getD j true = true := unl_zero _ hf
      have hallF : ∀ j, j < ops.size → listed.getD j false = true := fun j hj => by rw [← getD_tf (by rw [hm.len]; exact hj)]; exact hall j hj
      refine ⟨?_, ?_⟩
      · unfold Region.ready
        rw [List.filter_eq_nil_iff]
        intro i hi
        rw [hall i (List.mem_range.1 hi)]; simp
      · obtain ⟨H, hH, hv⟩ := hm.mem
        refine hQ ρ S a w ⟨hH.size, hH.defers, hH.below, ?_, fun t x ht => ?_⟩
        · rw [hτ, hlen]
          refine hH.mem.le' fun id ob hob => HLe.refl ?_
          rw [hv id ops.size (Nat.le_refl _) (fun j r hj _ _ => hallF j hj) (fun j r hj hr _ => by have := (List.getElem?_eq_some_iff.1 hr).1; omega)]
          exact hob
        · rw [hτ, hlen] at ht
          rcases hget _ (Nat.le_refl _) t x ht with ⟨j, o, hj, q1, q2, rfl⟩ | ⟨h1, h2⟩
          · exact hm.done j o t q1 q2 (hallF j hj)
          · exact hm.old t x h2 fun j o ho hd => absurd hd (h1 j o (Array.getElem?_eq_some_iff.1 ho).1 ho)
    | succ fuel ih =>
      intro listed ρ S a w hf hm
      refine ⟨fun hnil => ?_, fun i hi => ?_⟩
      · exfalso
        have hex : ∃ j, j < ops.size ∧ listed.getD j true = false := by
          by_cases hall : ∀ j, j < ops.size → listed.getD j true = true
          · have : ∀ k, k ≤ ops.size → unl listed k = 0 := by
              intro k
              induction k with
              | zero => intro _; rfl
              | succ k ihk => intro hk; simp only [unl]; rw [ihk (by omega), hall k (by omega)]; rfl
            have := this _ (Nat.le_refl _)
            omega
          · apply Classical.byContradiction
            intro hno
            exact hall fun j hj => by
              cases hb : listed.getD j true with
              | true => rfl
              | false => exact absurd ⟨j, hj, hb⟩ hno
        obtain ⟨j0, hj0⟩ := hex
        obtain ⟨j, ⟨hj, hb⟩, hmin⟩ := exists_min (p := fun j => j < ops.size ∧ listed.getD j true = false) j0 hj0
        have : j ∈ Region.ready md ops listed := by
          refine mem_ready.2 ⟨hb, _, hget0 j hj, fun ed hed hbd => ?_⟩
          have hlt := ordB_after hord (hget0 j hj) ed hed hbd
          have h1 : listed.getD ed.on true = true := by
            cases hc : listed.getD ed.on true with
            | true => rfl
            | false => have := hmin ed.on ⟨by omega, hc⟩; omega
          rw [← getD_tf (by rw [hm.len]; omega)]; exact h1
        rw [hnil] at this
        cases this
      · obtain ⟨hun, o, ho, hpre⟩ := mem_ready.1 hi
        have hilt : i < ops.size := (Array.getElem?_eq_some_iff.1 ho).1
        have hunf : listed.getD i false = false := by rw [← getD_tf (by rw [hm.len]; exact hilt)]; exact hun
        obtain ⟨r, hr, hN, hen, hnwi, hmen, hnoi, hfri, hoff, hnt, hop⟩ := hstep i o ho
        obtain ⟨H, hH, hv⟩ := hm.mem
        have hwl : ∀ y, waitsB md ops i y = true → listed.getD y false = true := fun y hy => waits_listed hord hm.closed i y hy (fun o' ho' => by rw [ho] at ho'; cases ho'; exact hpre)
        have hwn : ∀ y, waitsB md ops y i = true → listed.getD y false = false := fun y hy => by
          cases hb : listed.getD y false with
          | false => rfl
          | true =>
            have := waits_listed hord hm.closed y i hy (fun o' ho' => hm.closed y o' ho' hb)
            rw [hunf] at this; cases this
        -- what it reads or touches stands as the lexical walk has it
        have hnow : ∀ id, (r.tk.contains id = true ∨ r.rk.contains id = true) → H.lookup id = (Hs i).lookup id := fun id hid => by
          refine hv id i (by omega) (fun j r' hj hr' ht => hwl j (hcf j i r' r hr' hr hj id (.inl ⟨ht, hid⟩))) (fun j r' hj hr' ht => ?_)
          by_cases hji : j = i
          · subst hji; exact hunf
          · refine hwn j (hcf i j r r' hr hr' (by omega) id ?_)
            rcases hid with h | h
            · exact .inl ⟨h, .inl ht⟩
            · exact .inr ⟨h, ht⟩
        have hlook : ∀ t x, ((e i).filter fun p => (o.looksAt ops).contains p.1).lookup t = some x → RS ρ w S x (a.tmps.getD t undef) ∧ ((∃ j oj, ops[j]? = some oj ∧ oj.dst = some t ∧ listed.getD j false = true ∧ x = s j) ∨ (∀ j oj, ops[j]? = some oj → oj.dst = some t → listed.getD j false = false) ∧ σ.env.lookup t = some x) := by
          intro t x ht
          obtain ⟨htl, ht⟩ := lookup_filter ht
          rcases hget i (by omega) t x ht with ⟨j, oj, hj, q1, q2, rfl⟩ | ⟨h1, h2⟩
          · rcases (ordB_pair hord ho q1).2 _ q2 htl with e1 | ⟨_, ed, hed, hb, hon⟩ | ⟨hn, _⟩
            · omega
            · have hlj : listed.getD j false = true := by rw [← hon]; exact hpre ed hed hb
              exact ⟨hm.done j oj t q1 q2 hlj, .inl ⟨j, oj, q1, q2, hlj, rfl⟩⟩
            · exact absurd hj hn
          · have hno : ∀ j oj, ops[j]? = some oj → oj.dst = some t → listed.getD j false = false := fun j oj hj hdj => by
              rcases (ordB_pair hord ho hj).2 _ hdj htl with e1 | ⟨hlt, _⟩ | ⟨hn, ed, hed, hb, hon⟩
              · subst e1; exact hunf
              · exact absurd hdj (h1 j oj hlt hj)
              · cases hc : listed.getD j false with
                | false => rfl
                | true =>
                  have := hm.closed j _ hj hc ed hed hb
                  rw [hon, hunf] at this
                  cases this
            exact ⟨hm.old t x h2 hno, .inr ⟨hno, h2⟩⟩
        have hclosed' : ∀ j oj, ops[j]? = some oj → (listed.setIfInBounds i true).getD j false = true → ∀ ed ∈ oj.after, Region.binds md ed = true → (listed.setIfInBounds i true).getD ed.on false = true := by
          intro j oj hoj hl ed hed hb
          by_cases hji : j = i
          · subst hji
            rw [ho] at hoj
            obtain rfl := Option.some.inj hoj
            exact getD_set_true (hpre ed hed hb)
          · rw [getD_set_ne false (Ne.symm hji)] at hl
            exact getD_set_true (hm.closed j oj hoj hl ed hed hb)
        have hunl' : unl (listed.setIfInBounds i true) ops.size = fuel := by
          have := unl_set hun ops.size
          rw [if_pos hilt] at this
          omega
        have hset : (listed.setIfInBounds i true).getD i false = true := by simp [hm.len, hilt]
        -- the versions behind it
        have hvers' : ∀ H' : Heap, (∀ id, r.tk.contains id = true → H'.lookup id = (Hs (i + 1)).lookup id) → (∀ id, r.tk.contains id = false → H'.lookup id = H.lookup id) → ∀ id n, n ≤ ops.size → (∀ j r', j < n → rows[j]? = some r' → r'.tk.contains id = true → (listed.setIfInBounds i true).getD j false = true) → (∀ j r', n ≤ j → rows[j]? = some r' → r'.tk.contains id = true → (listed.setIfInBounds i true).getD j false = false) → H'.lookup id = (Hs n).lookup id := by
          intro H' h1 h2 id n hn q1 q2
          by_cases ht : r.tk.contains id = true
          · rw [h1 id ht]
            have hin : i < n := by
              apply Classical.byContradiction
              intro hge
              have := q2 i r (by omega) hr ht
              rw [hset] at this; cases this
            refine (hsame id (i + 1) n (by omega) hn fun j r' hj1 hj2 hr' => ?_).symm
            cases hc : r'.tk.contains id with
            | false => rfl
            | true =>
              have hl1 := q1 j r' hj2 hr' hc
              rw [getD_set_ne false (by omega)] at hl1
              have := hwn j (hcf i j r r' hr hr' (by omega) id (.inl ⟨ht, .inl hc⟩))
              rw [hl1] at this; cases this
          · have ht' : r.tk.contains id = false := by simpa using ht
            rw [h2 id ht']
            have hne : ∀ j r', rows[j]? = some r' → r'.tk.contains id = true → i ≠ j := fun j r' hr' hc e => by
              subst e; rw [hr] at hr'; cases hr'; rw [ht'] at hc; cases hc
            refine hv id n hn (fun j r' hj hr' hc => ?_) (fun j r' hj hr' hc => ?_)
            · have := q1 j r' hj hr' hc
              rwa [getD_set_ne false (hne j r' hr' hc)] at this
            · have := q2 j r' hj hr' hc
              rwa [getD_set_ne false (hne j r' hr' hc)] at this
        rcases hop with ⟨hds, htk, hout, Hp, hrk, hsubp, hps⟩ | ⟨F, Hin, heff, hsubi, hF, hti, hto, hnewi, hHn⟩
        · obtain ⟨d, hd⟩ := Option.isSome_iff_exists.1 hds
          have hdN := hN d hd
          have hpre' : St N w0 ρ S (Sig.only ⟨e i, Hp⟩ (o.looksAt ops)) a w := ⟨hH.size, hH.defers, hH.below, hH.mem.le' fun id ob hob => HLe.refl (by
            rw [hnow id (.inr (by rw [hrk]; exact List.contains_iff_mem.2 (heap_key hob)))]
            exact hsubp.get hob), fun t x ht => (hlook t x ht).1⟩
          have hnext' : ∀ v S' w', Same S w S' w' → Below w.heap.size w w' → (∀ b, S' b → S b ∨ w.heap.size ≤ b) → St N w0 ρ S' (Sig.only ⟨e i, Hp⟩ (o.looksAt ops)) a w' → RS ρ w' S' (s i) v → wpAny P md ops Q fuel (listed.setIfInBounds i true) (a.put o.dst v) w' := by
            intro v S' w' hsame' hbel hSS hs' hv'
            have hj1 : St N w0 ρ S' ⟨[], oH none ++ H⟩ a w' := St.join (H1 := Hp) hH hbel hSS hsame' rfl (fun _ _ => .refl _ _) (fun p h => by cases h) (fun p _ _ _ _ h => by cases h) ⟨hs'.size, hs'.defers, hs'.below, hs'.mem, fun t s hs => by simp at hs⟩ (fun p h => by cases h)
            have hj1 : St N w0 ρ S' ⟨[], H⟩ a w' := hj1
            refine ih _ ρ S' _ w' hunl' ⟨by simp [hm.len], hclosed', ⟨H, ?_, hvers' H (fun id h => by rw [htk] at h; cases h) (fun _ _ => rfl)⟩, ?_, ?_⟩
            · rw [hd]; exact (hj1.put hdN hv').memOnly
            · intro j oj t hj hdj hl
              have hsz : d < a.tmps.size := by rw [hH.size]; exact hdN
              rw [hd, getD_put hsz]
              by_cases hji : j = i
              · subst hji
                rw [ho] at hj; cases hj
                rw [hd] at hdj; cases hdj
                rw [if_pos rfl]; exact hv'
              · rw [if_neg (fun e => hji (hdst j i oj o t hj ho hdj (by rw [e]; exact hd)))]
                rw [getD_set_ne false (Ne.symm hji)] at hl
                exact (hm.done j oj t hj hdj hl).keep hsame' (Rn.refl _ _)
            · intro t x ht hno
              have hsz : d < a.tmps.size := by rw [hH.size]; exact hdN
              have hti : t ≠ d := fun e => by
                have := hno i o ho (by rw [e]; exact hd)
                rw [hset] at this
                cases this
              rw [hd, getD_put hsz, if_neg hti]
              refine (hm.old t x ht fun j oj hj hdj => ?_).keep hsame' (Rn.refl _ _)
              have hji : i ≠ j := fun e => by
                subst e
                rw [ho] at hj; cases hj
                rw [hd] at hdj; exact hti (Option.some.inj hdj).symm
              have := hno j oj hj hdj
              rwa [getD_set_ne false hji] at this
          have h1 := hps.run N w0 ρ S a w (wpAny P md ops Q fuel (listed.setIfInBounds i true)) Q hpre' hnext'
          unfold wpOp
          simp only [ho]
          split
          · rename_i hw; rw [if_pos hw] at h1; exact .inl h1
          · rename_i hw; rw [if_neg hw] at h1; exact h1
        · let L : Env := (List.range ops.size).filterMap fun j => if listed.getD j false = true then ((ops[j]?).bind (·.dst)).map (fun d => (d, s j)) else none
          let O : Env := σ.env.filter fun p => (List.range ops.size).all fun j => !(listed.getD j false && ((ops[j]?).bind (·.dst)) == some p.1)
          have hL : ∀ q ∈ L, ∃ j oj, ops[j]? = some oj ∧ oj.dst = some q.1 ∧ listed.getD j false = true ∧ q.2 = s j := by
            intro q hq
            obtain ⟨j, hj, hjq⟩ := List.mem_filterMap.1 hq
            have hjl := List.mem_range.1 hj
            split at hjq
            · rename_i hl
              rw [hget0 j hjl] at hjq
              obtain ⟨d, hd, rfl⟩ := Option.map_eq_some_iff.1 hjq
              exact ⟨j, _, hget0 j hjl, hd, hl, rfl⟩
            · cases hjq
          have hLin : ∀ j oj d, ops[j]? = some oj → oj.dst = some d → listed.getD j false = true → (d, s j) ∈ L := by
            intro j oj d hj hd hl
            have hjl : j < ops.size := (Array.getElem?_eq_some_iff.1 hj).1
            refine List.mem_filterMap.2 ⟨j, List.mem_range.2 hjl, ?_⟩
            rw [if_pos hl, hj]
            show (oj.dst).map _ = _
            rw [hd]; rfl
          have hO : ∀ q ∈ O, q ∈ σ.env ∧ ∀ j oj, ops[j]? = some oj → oj.dst = some q.1 → listed.getD j false = false := by
            intro q hq
            obtain ⟨h1, h2⟩ := List.mem_filter.1 hq
            refine ⟨h1, fun j oj hj hd => ?_⟩
            have hjl : j < ops.size := (Array.getElem?_eq_some_iff.1 hj).1
            have := List.all_eq_true.1 h2 j (List.mem_range.2 hjl)
            rw [hj] at this
            cases hb : listed.getD j false with
            | false => rfl
            | true =>
              rw [hb] at this
              simp [hd] at this
          have hOlk : ∀ t x, O.lookup t = some x → σ.env.lookup t = some x := by
            intro t x
            show (σ.env.filter _).lookup t = some x → _
            generalize σ.env = en
            induction en with
            | nil => intro h; simp at h
            | cons p en ihh =>
              intro h
              obtain ⟨k, v⟩ := p
              by_cases hk : ((List.range ops.size).all fun j => !(listed.getD j false && ((ops[j]?).bind (·.dst)) == some k)) = true
              · rw [List.filter_cons_of_pos (by simpa using hk)] at h
                rcases lookup_put h with ⟨rfl, rfl⟩ | ⟨hne, h⟩
                · simp
                · rw [List.lookup_cons, show (t == k) = false by simpa using hne]; exact ihh h
              · rw [List.filter_cons_of_neg (by simpa using hk)] at h
                have hne : t ≠ k := by
                  intro e
                  subst e
                  obtain ⟨_, h2⟩ := List.mem_filter.1 (lookup_mem h)
                  exact hk (by simpa using h2)
                rw [List.lookup_cons, show (t == k) = false by simpa using hne]; exact ihh h
          have hOget : ∀ t x, σ.env.lookup t = some x → (∀ j oj, ops[j]? = some oj → oj.dst = some t → listed.getD j false = false) → O.lookup t = some x := by
            intro t x ht hno
            show (σ.env.filter _).lookup t = some x
            generalize σ.env = en at ht
            induction en with
            | nil => simp at ht
            | cons p en ihh =>
              obtain ⟨k, v⟩ := p
              rcases lookup_put ht with ⟨rfl, rfl⟩ | ⟨hne, ht⟩
              · rw [List.filter_cons_of_pos]
                · simp
                · rw [List.all_eq_true]
                  intro j hj
                  have hjl := List.mem_range.1 hj
                  rw [hget0 j hjl]
                  cases hb : listed.getD j false with
                  | false => rfl
                  | true =>
                    cases hd : decide (ops[j].dst = some t) with
                    | true => have := hno j _ (hget0 j hjl) (of_decide_eq_true hd); rw [hb] at this; cases this
                    | false => have := of_decide_eq_false hd; simp [this]
              · have hr := ihh ht
                by_cases hk : ((List.range ops.size).all fun j => !(listed.getD j false && ((ops[j]?).bind (·.dst)) == some k)) = true
                · rw [List.filter_cons_of_pos (by simpa using hk), List.lookup_cons, show (t == k) = false by simpa using hne]; exact hr
                · rw [List.filter_cons_of_neg (by simpa using hk)]; exact hr
          let E : Env := L ++ O
          have hLlk : ∀ j oj d, ops[j]? = some oj → oj.dst = some d → listed.getD j false = true → L.lookup d = some (s j) := by
            intro j oj d hj hd hl
            cases hlk : L.lookup d with
            | none =>
              exfalso
              have hm2 := hLin j oj d hj hd hl
              have : ∀ (l : Env), (d, s j) ∈ l → l.lookup d ≠ none := by
                intro l
                induction l with
                | nil => intro h; cases h
                | cons p l ihl =>
                  intro h
                  obtain ⟨k, v⟩ := p
                  rw [List.lookup_cons]
                  rcases List.mem_cons.1 h with h | h
                  · cases h; simp
                  · split
                    · simp
                    · exact ihl h
              exact this L hm2 hlk
            | some x =>
              obtain ⟨j', oj', q1, q2, q3, q4⟩ := hL _ (lookup_mem hlk)
              have : j' = j := hdst j' j oj' oj d q1 hj q2 hd
              subst this
              rw [show x = s j' from q4]
          have hLnone : ∀ t, (∀ j oj, ops[j]? = some oj → oj.dst = some t → listed.getD j false = false) → L.lookup t = none := by
            intro t hno
            cases hlk : L.lookup t with
            | none => rfl
            | some x =>
              obtain ⟨j', oj', q1, q2, q3, q4⟩ := hL _ (lookup_mem hlk)
              have := hno j' oj' q1 q2
              rw [q3] at this; cases this
          have hE : (r.new.all fun id => E.all fun p => p.2.no id) = true := by
            rw [List.all_eq_true]
            intro id hid
            rw [List.all_eq_true]
            intro q hq
            rcases List.mem_append.1 hq with hq | hq
            · obtain ⟨j, oj, q1, q2, q3, q4⟩ := hL q hq
              cases hn : q.2.no id with
              | true => rfl
              | false =>
                rw [q4] at hn
                have := hment listed hm.closed j oj _ q1 q2 q3 i r id hr hid hn
                rw [hunf] at this; cases this
            · have hq2 := (hO q hq).1
              exact (hfr i r hr id hid).1 q (hup i (by omega) 0 (Nat.zero_le _) q (by rw [he0]; exact hq2))
          -- what else is held
          let X : Heap := nub (H.filter fun p => !r.tk.contains p.1)
          have hX : XOk r.tk r.new X := by
            refine ⟨fun p hp => ?_, fun p hp id hid => ?_⟩
            · have h1 := lookup_mem (nub_mem hp)
              have := (List.mem_filter.1 h1).2
              simpa using this
            · have h1 := nub_mem hp
              have hoffp : r.tk.contains p.1 = false := by
                have := (List.mem_filter.1 (lookup_mem h1)).2
                simpa using this
              rw [lookup_off hoffp] at h1
              -- the version that stands
              have hex : ∀ m, m ≤ ops.size → ∃ n, n ≤ ops.size ∧ (∀ j r', j < n → rows[j]? = some r' → r'.tk.contains p.1 = true → listed.getD j false = true) ∧ (∀ j r', n ≤ j → j < m → rows[j]? = some r' → r'.tk.contains p.1 = true → listed.getD j false = false) ∧ n ≤ m := by
                intro m
                induction m with
                | zero => intro _; exact ⟨0, Nat.zero_le _, fun j r' hj => by omega, fun j r' h1 h2 => by omega, Nat.le_refl _⟩
                | succ m ihm =>
                  intro hms
                  obtain ⟨n, n1, n2, n3, n4⟩ := ihm (by omega)
                  obtain ⟨rm, hrm, _⟩ := hstep m _ (hget0 m (by omega))
                  by_cases hc : rm.tk.contains p.1 = true ∧ listed.getD m false = true
                  · refine ⟨m + 1, hms, fun j r' hj hr' ht => ?_, fun j r' h1 h2 => by omega, Nat.le_refl _⟩
                    by_cases hjm : j = m
                    · subst hjm; exact hc.2
                    · refine waits_listed hord hm.closed m j (hcf j m r' rm hr' hrm (by omega) p.1 (.inl ⟨ht, .inl hc.1⟩)) (fun o' ho' => hm.closed m o' ho' hc.2)
                  · refine ⟨n, n1, n2, fun j r' h1 h2 hr' ht => ?_, by omega⟩
                    by_cases hjm : j = m
                    · subst hjm
                      rw [hrm] at hr'; cases hr'
                      cases hb : listed.getD j false with
                      | false => rfl
                      | true => exact absurd ⟨ht, hb⟩ hc
                    · exact n3 j r' h1 (by omega) hr' ht
              obtain ⟨n, n1, n2, n3, _⟩ := hex ops.size (Nat.le_refl _)
              rw [hv p.1 n n1 n2 (fun j r' h1 hr' ht => n3 j r' h1 (by have := (List.getElem?_eq_some_iff.1 hr').1; omega) hr' ht)] at h1
              rcases hvers n n1 p.1 p.2 h1 with ⟨j, r', q1, q2, q3, q4⟩ | h0
              · have hlj := n2 j r' q1 q2 q3
                rcases hnn.get j i r' r q2 hr (fun e => by rw [e, hunf] at hlj; cases hlj) id hid with hw | hno
                · have := hwn j hw; rw [hlj] at this; cases this
                · exact hno _ q4
              · exact ((hs0.get hr id hid).get h0).2
          let pf : Env := (e i).filter fun p => (o.looksAt ops).contains p.1
          have hHX : ∀ id ob, (Hin ++ X).lookup id = some ob → H.lookup id = some ob := by
            intro id ob h
            rcases lookup_app h with h | ⟨_, h⟩
            · have ht : r.tk.contains id = true := List.all_eq_true.1 hti _ (lookup_mem h)
              rw [hnow id (.inl ht)]; exact hsubi.get h
            · have h2 : (nub (H.filter fun p => !r.tk.contains p.1)).lookup id = some ob := h
              rw [nub_lookup] at h2
              have hoffp : r.tk.contains id = false := by
                have := (List.mem_filter.1 (lookup_mem h2)).2
                simpa using this
              rwa [lookup_off hoffp] at h2
          have hpre' : St N w0 ρ S ⟨pf ++ E, Hin ++ X⟩ a w := by
            refine ⟨hH.size, hH.defers, hH.below, hH.mem.le' fun id ob hob => HLe.refl (hHX id ob hob), fun t x ht => ?_⟩
            rcases lookup_app ht with h1 | ⟨_, h1⟩
            · exact (hlook t x h1).1
            · rcases lookup_app h1 with h1 | ⟨_, h1⟩
              · obtain ⟨j, oj, q1, q2, q3, q4⟩ := hL _ (lookup_mem h1)
                rw [show x = s j from q4]
                exact hm.done j oj t q1 q2 q3
              · exact hm.old t x (hOlk t x h1) (hO _ (lookup_mem h1)).2
          let Q2 : Exit → Act → World → Prop := fun e a' w' => match e with | .normal => wpAny P md ops Q fuel (listed.setIfInBounds i true) a' w' | _ => False
          have hfin : ∀ ρ' S' σ' a' w', St N w0 ρ' S' σ' a' w' → σ' = ⟨F ++ (pf ++ E), r.out ++ X⟩ → Q2 .normal a' w' := by
            intro ρ' S' σ' a' w' hs' hσ
            subst hσ
            show wpAny P md ops Q fuel (listed.setIfInBounds i true) a' w'
            have hEt : ∀ j oj d, ops[j]? = some oj → oj.dst = some d → listed.getD j false = true → (pf ++ E).lookup d = some (s j) := by
              intro j oj d hj hd hl
              cases hp : pf.lookup d with
              | none => rw [lookup_none_app hp]; exact lookup_some_app (hLlk j oj d hj hd hl)
              | some x =>
                rw [lookup_some_app hp]
                rcases (hlook d x hp).2 with ⟨j', oj', q1, q2, q3, q4⟩ | ⟨q1, _⟩
                · have : j' = j := hdst j' j oj' oj d q1 hj q2 hd
                  subst this; rw [q4]
                · have := q1 j oj hj hd; rw [hl] at this; cases this
            have hOt : ∀ t x, σ.env.lookup t = some x → (∀ j oj, ops[j]? = some oj → oj.dst = some t → listed.getD j false = false) → (pf ++ E).lookup t = some x := by
              intro t x ht hno
              cases hp : pf.lookup t with
              | none => rw [lookup_none_app hp, lookup_none_app (hLnone t hno)]; exact hOget t x ht hno
              | some y =>
                rw [lookup_some_app hp]
                rcases (hlook t y hp).2 with ⟨j', oj', q1, q2, q3, q4⟩ | ⟨_, q2⟩
                · have := hno j' oj' q1 q2; rw [q3] at this; cases this
                · rw [← q2]; exact ht
            have hFo : ∀ t, o.dst ≠ some t → F.lookup t = none := by
              intro t ht
              cases hd : o.dst with
              | none => rw [hd] at hF; rw [hF.1]; rfl
              | some d =>
                rw [hd] at hF ht
                exact F_other hF.2 (fun e => ht (by rw [e]))
            have hXl : ∀ id, r.tk.contains id = false → X.lookup id = H.lookup id := fun id hid => by
              show (nub _).lookup id = _
              rw [nub_lookup, lookup_off hid]
            have hout0 : ∀ id, r.tk.contains id = false → r.out.lookup id = none := fun id hid => by
              cases hl2 : r.out.lookup id with
              | none => rfl
              | some p => have := List.all_eq_true.1 hto _ (lookup_mem hl2); rw [show (id, p).1 = id from rfl, hid] at this; cases this
            have hXn : ∀ id, r.tk.contains id = true → X.lookup id = none := fun id hid => by
              cases hl2 : X.lookup id with
              | none => rfl
              | some p => exact (hX.none hid p hl2).elim
            refine ih _ ρ' S' _ w' hunl' ⟨by simp [hm.len], hclosed', ⟨r.out ++ X, ⟨hs'.size, hs'.defers, hs'.below, hs'.mem, fun t s hs => by simp at hs⟩, hvers' _ (fun id hid => ?_) (fun id hid => ?_)⟩, ?_, ?_⟩
            · rw [hHn, outH_in hid]
              cases hl2 : r.out.lookup id with
              | some p => exact lookup_some_app hl2
              | none => rw [lookup_none_app hl2]; exact hXn id hid
            · rw [lookup_none_app (hout0 id hid)]; exact hXl id hid
            · intro j oj t hj hdj hl
              by_cases hji : j = i
              · subst hji
                rw [ho] at hj; cases hj
                rw [hdj] at hF
                exact hs'.env t _ (lookup_some_app hF.1)
              · rw [getD_set_ne false (Ne.symm hji)] at hl
                refine hs'.env t _ ?_
                rw [lookup_none_app (hFo t fun e => hji (hdst j i oj o t hj ho hdj e))]
                exact hEt j oj t hj hdj hl
            · intro t x ht hno
              have hti : o.dst ≠ some t := fun e => by
                have := hno i o ho e
                rw [hset] at this
                cases this
              refine hs'.env t _ ?_
              rw [lookup_none_app (hFo t hti)]
              refine hOt t x ht fun j oj hj hdj => ?_
              have hji : i ≠ j := fun e => by
                subst e
                rw [ho] at hj; cases hj
                exact hti hdj
              have := hno j oj hj hdj
              rwa [getD_set_ne false hji] at this
          have h1 := heff E X hE hX (fun σ' => σ' = ⟨F ++ (pf ++ E), r.out ++ X⟩) [] (fun ρ S a w Q'' hQ'' hs'' => hQ'' ρ S _ a w hs'' rfl) ρ S a w Q2 hfin hpre'
          unfold wpOp
          simp only [ho]
          unfold wpList at h1
          split
          · rename_i hw
            rw [if_pos hw] at h1
            rcases h1 with h1 | ⟨_, _, _, h1⟩
            · exact .inl (Oper.wp_only (Q2 := Q2) (fun _ _ _ h => h) (fun _ _ h => h) (Oper.wp_mono (fun a' w' h => h) h1))
            · exact h1.elim
          · rename_i hw
            rw [if_neg hw] at h1
            exact h1
  intro ρ S a w hs
  refine key ops.size _ ρ S a w ?_ ⟨by simp, fun j o ho hl => ?_, ⟨σ.heap, hs.memOnly, fun id n hn h1 h2 => ?_⟩, fun j o d hj hd hl => ?_, fun t x ht _ => hs.env t x ht⟩
  · have : ∀ k, k ≤ ops.size → unl (Array.replicate ops.size false) k = k := by
      intro k
      induction k with
      | zero => intro _; rfl
      | succ k ihk => intro hk; simp only [unl]; rw [ihk (by omega)]; simp [show k < ops.size by omega]
    exact this _ (Nat.le_refl _)
  · exfalso
    by_cases hj : j < ops.size <;> simp [hj] at hl
  · rw [hsame id 0 n (Nat.zero_le _) hn (fun j r _ hj hr => ?_), hH0]
    cases hc : r.tk.contains id with
    | false => rfl
    | true =>
      have := h1 j r hj hr hc
      simp [show j < ops.size by omega] at this
  · exfalso
    have hjl : j < ops.size := (Array.getElem?_eq_some_iff.1 hj).1
    simp [hjl] at hl
end
section
variable {P : Program} {N : Nat} {w0 : Start} {ops : Array Oper} {Q : Sig → Prop} {σ : Sig} {o : Oper} {rest : List Oper} {rows : List Row} {nw : List Nat}
/-- A drawn region in which what conflicts is ordered. -/
def ADX (P : Program) (N : Nat) (w0 : Start) (ops : Array Oper) (Q : Sig → Prop) (nw : List Nat) (l : List Oper) (rows : List Row) (σ : Sig) : Prop := ∃ τ H, ADsX P N w0 ops nw l rows σ τ ∧ HeapLe τ.heap H ∧ Q ⟨τ.env, H⟩
theorem AW.anyX (rows : List Row) {i : Nat} {l : List Oper} {Q : Exit → Sig → Prop} {σ : Sig} (hm : P.follows .mixedOrders = true) (hord : ordB .any l.toArray = true) (hconf : confB .any l.toArray rows = true) (hnn : NoNew .any l.toArray rows) (hs0 : RowsFr σ.heap rows)
    (h : ADX P N w0 l.toArray (fun σ => Q .normal σ) [] l rows σ) : AW P N w0 (.region i l.toArray true) Q σ := by
  intro ρ S a w Q' hQ hs
  obtain ⟨τ, H, h1, hH, h2⟩ := h
  refine wp_region_any hm ?_
  exact any_orderX (τ := τ) hord (by simpa using h1) hconf hnn hs0 (fun ρ S a w hs' => hQ _ ρ S ⟨τ.env, H⟩ a w ⟨hs'.size, hs'.defers, hs'.below, hs'.mem.le hH, hs'.env⟩ h2) ρ S a _ (hs.world ((Below.refl _ _).drew))
theorem ADX.nil {H : Heap} (hH : HeapLe σ.heap H) (h : Q ⟨σ.env, H⟩) : ADX P N w0 ops Q nw [] [] σ := ⟨σ, H, .nil, hH, h⟩
theorem ADX.step {s : SV} {d : Nat} (Hp : Heap) (hp : OpStep P ops o (Sig.only ⟨σ.env, Hp⟩ (o.looksAt ops)) s) (hd : o.dst = some d) (hN : d < N) (hsub : Sub Hp σ.heap) (hm : mentB nw (σ.env.filter fun p => (o.looksAt ops).contains p.1) s = true) (h : ADX P N w0 ops Q nw rest rows (σ.put d s)) : ADX P N w0 ops Q nw (o :: rest) (⟨Hp.map (·.1), [], [], []⟩ :: rows) σ :=
  let ⟨τ, H, h1, h2, h3⟩ := h
  ⟨τ, H, .pure Hp hd hN hp hsub hm h1, h2, h3⟩
theorem ADX.pure {s : SV} {d : Nat} (Hp : Heap) (hp : PureOp P o (Sig.only ⟨σ.env, Hp⟩ (o.looksAt ops)) s) (hg : o.guard = none) (hd : o.dst = some d) (hN : d < N) (hsub : Sub Hp σ.heap) (hm : mentB nw (σ.env.filter fun p => (o.looksAt ops).contains p.1) s = true) (h : ADX P N w0 ops Q nw rest rows (σ.put d s)) : ADX P N w0 ops Q nw (o :: rest) (⟨Hp.map (·.1), [], [], []⟩ :: rows) σ :=
  ADX.step Hp (hp.fresh.step hg) hd hN hsub hm h
theorem ADX.fresh {s : SV} {d : Nat} (Hp : Heap) (hp : FreshOp P o (Sig.only ⟨σ.env, Hp⟩ (o.looksAt ops)) s) (hg : o.guard = none) (hd : o.dst = some d) (hN : d < N) (hsub : Sub Hp σ.heap) (hm : mentB nw (σ.env.filter fun p => (o.looksAt ops).contains p.1) s = true) (h : ADX P N w0 ops Q nw rest rows (σ.put d s)) : ADX P N w0 ops Q nw (o :: rest) (⟨Hp.map (·.1), [], [], []⟩ :: rows) σ :=
  ADX.step Hp (hp.step hg) hd hN hsub hm h
theorem ADX.gpure {s : SV} {d g t : Nat} {want c : Bool} (Hp : Heap) (hgate : Gate (Sig.only ⟨σ.env, Hp⟩ (o.looksAt ops)) t want c) (hp : c = true → PureOp P o (Sig.only ⟨σ.env, Hp⟩ (o.looksAt ops)) s) (hg : o.guard = some (g, want)) (hgd : (ops[g]?).bind (·.dst) = some t) (hd : o.dst = some d) (hN : d < N) (hsub : Sub Hp σ.heap)
    (hm : mentB nw (σ.env.filter fun p => (o.looksAt ops).contains p.1) (.gd c s) = true) (h : ADX P N w0 ops Q nw rest rows (σ.put d (.gd c s))) : ADX P N w0 ops Q nw (o :: rest) (⟨Hp.map (·.1), [], [], []⟩ :: rows) σ :=
  ADX.step Hp (FreshOp.gstep hgate (fun hc => (hp hc).fresh) hg hgd fun N _ _ _ _ _ _ => by omega) hd hN hsub hm h
theorem ADX.eff {tk new : List Nat} {s : SV} {F : Env} {Hin Hout : Heap} (he : EffStepX P N w0 ops o (Sig.only σ (o.looksAt ops)).env tk new Hin F Hout) (hin : Sub Hin σ.heap) (hF : FOk o.dst F s) (hti : (Hin.all fun p => tk.contains p.1) = true) (hto : (Hout.all fun p => tk.contains p.1) = true)
    (hnew : (new.all fun id => tk.contains id && !(Hin.map (·.1)).contains id) = true) (hno : (new.all fun id => σ.env.all fun p => p.2.no id) = true) (hfr : AllFr new σ.heap) (hm : mentB nw (σ.env.filter fun p => (o.looksAt ops).contains p.1) s = true) (hN : ∀ d, o.dst = some d → d < N)
    (h : ADX P N w0 ops Q (new ++ nw) rest rows ⟨consO o.dst s σ.env, outH tk Hout σ.heap⟩) : ADX P N w0 ops Q nw (o :: rest) (⟨[], tk, new, Hout⟩ :: rows) σ :=
  let ⟨τ, H, h1, h2, h3⟩ := h
  ⟨τ, H, .eff hN he hin hF hti hto hnew hno hfr hm h1, h2, h3⟩
end
end Go.Proofs.Ytmfkmifkkplidaa


/-
  A calculus for walks, part 37: copy onto a row of the walk's own (cells of size one).
-/
namespace Go.Proofs.Ytmfkmifkkplidaa
open Go.ChangeShapes Go.WideShapes Go.ChangeAt Go.RowKit Go.BigFrame Go.Deep
set_option linter.unusedVariables false

set_option linter.unusedSimpArgs false
section
variable {P : Program} {N : Nat} {w0 : Start} {σ : Sig} {ops : Array Oper} {rest : List Oper} {o : Oper} {Q : Sig → Prop}
theorem St.reblock {ρ : Rho} {S : Nat → Prop} {a : Act} {w w' : World} (hs : St N w0 ρ S σ a w) {id sz n : Nat} {f f' : Nat → Nat → AV} (ho : σ.heap.lookup id = some (.arr sz n f)) (hc0 : (ρ id).2 ≠ 0) {cs' : Array Value}
    (h1 : ∀ cs e, w.heap[(ρ id).1]? = some (.cells cs e (0, 0)) → w'.heap[(ρ id).1]? = some (.cells cs' e (0, 0)) ∧ cs'.size = cs.size) (hblk : ∀ k, k ≠ (ρ id).1 → w'.heap[k]? = w.heap[k]?) (hsz : w'.heap.size = w.heap.size) (hb : Below w0.base w w')
    (hcell : ∀ i j, i < n → j < sz → ∃ u, cs'[i * sz + j]? = some u ∧ R ρ w S (f' i j) u) : St N w0 ρ S ⟨σ.env, (id, .arr sz n f') :: σ.heap⟩ a w' := by
  obtain ⟨cs, e, g1, g2, g3, g4, g5, g6, g7⟩ := hs.mem.obj id _ ho hc0
  obtain ⟨hown, hcsz⟩ := h1 cs e g1
  have hsame : Same S w S w' := ⟨fun _ h => h, fun b hb => hblk b fun e => g6 (e ▸ hb)⟩
  refine ⟨hs.size, hs.defers, hs.below.step hb hsame, ⟨hs.mem.base, by rw [hsz]; exact hs.mem.low, fun b hb => by rw [hsz]; exact hs.mem.lt b hb, ?_, ?_, ?_, ?_⟩, fun t s ht => (hs.env t s ht).keep hsame (Rn.refl _ _)⟩
  · intro k p hp
    rcases lookup_put hp with ⟨rfl, rfl⟩ | ⟨hne, hp⟩
    · exact (show (AObj.arr sz n f).n ≤ _ from hs.mem.cap k _ ho)
    · exact hs.mem.cap k p hp
  · intro k p hp hc
    rcases lookup_put hp with ⟨rfl, rfl⟩ | ⟨hne, hp⟩
    · refine ⟨cs', e, hown, by rw [hcsz]; exact g2, g3, g4, g5, g6, fun i j hi hj => ?_⟩
      obtain ⟨u, hu, hr⟩ := hcell i j hi hj
      exact ⟨u, hu, hr.keep hsame (Rn.refl _ _)⟩
    · obtain ⟨cs2, e2, q1, q2, q3, q4, q5, q6, q7⟩ := hs.mem.obj k p hp hc
      refine ⟨cs2, e2, by rw [hblk _ (hs.mem.inj k id p _ hp ho hne hc hc0)]; exact q1, q2, q3, q4, q5, q6, fun i j hi hj => ?_⟩
      obtain ⟨v, hv, hr⟩ := q7 i j hi hj
      exact ⟨v, hv, hr.keep hsame (Rn.refl _ _)⟩
  · have conv : ∀ {k p}, ((id, AObj.arr sz n f') :: σ.heap : Heap).lookup k = some p → ∃ p', σ.heap.lookup k = some p' := fun {k p} hp => by
      rcases lookup_put hp with ⟨rfl, rfl⟩ | ⟨_, hp⟩
      · exact ⟨_, ho⟩
      · exact ⟨p, hp⟩
    intro k k' p p' hp hp' hne hc hc'
    obtain ⟨q, hq⟩ := conv hp
    obtain ⟨q', hq'⟩ := conv hp'
    exact hs.mem.inj k k' q q' hq hq' hne hc hc'
  · refine hs.mem.treeOf (Nat.le_refl _) (fun k n X hX => ?_) (fun k n X i b hX hi hb => ?_) (fun k p hp hc => ?_)
    · rcases lookup_put hX with ⟨_, h⟩ | ⟨hne, hX⟩
      · cases h
      · exact ⟨X, hX, fun _ _ => rfl, rfl, rfl, rfl⟩
    · obtain ⟨q1, q2, q3, q4, _⟩ := (hs.mem.tree k n X hX i hi).2 b hb
      exact ⟨hblk b fun e => q4 id _ ho hc0 e.symm, by rw [hsz]; exact q2, q3⟩
    · rcases lookup_put hp with ⟨rfl, rfl⟩ | ⟨_, hp⟩
      · exact .inl ⟨_, ho, rfl⟩
      · exact .inl ⟨p, hp, rfl⟩
theorem KnR.at_ {ρ : Rho} {S : Nat → Prop} {a : Act} {w : World} {y : Operand} {sz m : Nat} {g : Nat → Nat → AV} (h : KnR σ y sz m g) (hs : St N w0 ρ S σ a w) : ∃ A c, a.eval y = .slice A m c ∧ (0 < m → ∃ b off, A = some ⟨b, off, none⟩ ∧ ∀ i j, i < m → j < sz → ∃ u, w.cell? ⟨b, off + (i * sz + j), none⟩ = some u ∧ R ρ w S (g i j) u) := by
  cases h with
  | @own id ob k1 k2 k3 k4 k5 =>
    subst k3
    obtain ⟨A, ev, hn1, hn2, hA⟩ := k1.sound hs
    refine ⟨A, _, ev, fun hm => ?_⟩
    have hc : (ρ id).2 ≠ 0 := by omega
    obtain ⟨cs, e, h1, h2, h3, h4, h5, h6, h7⟩ := hs.mem.obj id ob k2 hc
    refine ⟨(ρ id).1, 0, by rcases hA with h | ⟨_, h⟩; (· exact h); (· exact absurd h hc), fun i j hi hj => ?_⟩
    obtain ⟨u, hu, hr⟩ := h7 i j (by omega) hj
    rw [k5 i j hi hj] at hr
    exact ⟨u, by simp [World.cell?, h1, hu], hr⟩
  | gen k1 => exact k1 _ _ _ _ _ _ hs
  | lst k1 =>
    obtain ⟨A, c, ev, h1, h2, h3, h4⟩ := k1.sound hs
    refine ⟨A, c, ev, fun hm => ?_⟩
    obtain ⟨b, off, hA, _, _⟩ := h4 0 hm
    refine ⟨b, off, hA, fun i j hi hj => ?_⟩
    obtain ⟨b', off', hA', _, hc⟩ := h4 i hi
    rw [hA] at hA'
    cases hA'
    obtain ⟨u, hu, hd⟩ := hc j hj
    exact ⟨u, hu, hd.toR⟩
/-- Where a copy goes: an own row from place q on. -/
inductive KnD (σ : Sig) (x : Operand) (id q n : Nat) : Prop
  | tl : Kn σ x (.one (.tl id 1 q n)) → KnD σ x id q n
  | own : q = 0 → Kn σ x (.one (.own id 1 n)) → KnD σ x id q n
end
end Go.Proofs.Ytmfkmifkkplidaa


/-
  A calculus for walks, part 38: a member of a family becomes a row of its own (takeOut); the names of a family are given anew (reindex).
-/
namespace Go.Proofs.Ytmfkmifkkplidaa
open Go.ChangeShapes Go.WideShapes Go.ChangeAt Go.RowKit Go.BigFrame Go.Deep
set_option linter.unusedVariables false

set_option linter.unusedSimpArgs false
section
variable {P : Program} {N : Nat} {w0 : Start} {σ : Sig} {ops : Array Oper} {rest : List Oper} {o : Oper} {Q : Sig → Prop}
/-- A reading does not look at the blocks of the families. -/
theorem R.noB {ρ ρ' : Rho} {w : World} {S : Nat → Prop} {id : Nat} (hb : ρ'.base = ρ.base) (hm : ∀ k, k ≠ id → ρ' k = ρ k) (hv : ∀ k, k ≠ id → ρ'.tv k = ρ.tv k) (hn : ∀ k, k ≠ id → ρ'.tn k = ρ.tn k) : ∀ {x : AV} {u : Value}, x.no id = true → R ρ w S x u → R ρ' w S x u := by
  intro x
  induction x with
  | tre k i =>
    rintro u h ⟨e, hi, hsl⟩
    have hk : k ≠ id := fun e => by subst e; simp [AV.no] at h
    exact ⟨by rw [hv k hk]; exact e, by rw [hn k hk]; exact hi, hsl⟩
  | fn g m caps ih =>
    rintro u h ⟨vs, e, hm, hc⟩
    rw [AV.no, List.all_eq_true] at h
    refine ⟨vs, e, hm, fun j hj => ?_⟩
    obtain ⟨u, hu, hr⟩ := hc j hj
    exact ⟨u, hu, ih j (h j (List.mem_range.2 hj)) hr⟩
  | frs x =>
    intro u _ h
    unfold R at h ⊢
    exact h.keep ⟨fun b hb' => ⟨hb'.1, by rw [hb]; exact hb'.2⟩, fun _ _ => rfl⟩
  | lst _ _ _ => exact fun _ h => h
  | ref _ _ => exact fun _ h => h
  | int _ _ => exact fun _ h => h
  | bool _ => exact fun _ h => h
  | str _ => exact fun _ h => h
  | con _ => exact fun _ h => h
  | cv _ _ => exact fun _ h => h
  | tl k _ _ _ =>
    intro u h hr
    have hk : k ≠ id := fun e => by subst e; simp [AV.no] at h
    unfold R at hr ⊢
    rw [hm k hk]; exact hr
  | ptr k _ _ _ =>
    intro u h hr
    have hk : k ≠ id := fun e => by subst e; simp [AV.no] at h
    unfold R at hr ⊢
    rw [hm k hk]; exact hr
  | own k _ _ =>
    intro u h hr
    have hk : k ≠ id := fun e => by subst e; simp [AV.no] at h
    unfold R at hr ⊢
    rw [hm k hk]; exact hr
theorem RL.noB {ρ ρ' : Rho} {w : World} {S : Nat → Prop} {id : Nat} (hb : ρ'.base = ρ.base) (hm : ∀ k, k ≠ id → ρ' k = ρ k) (hv : ∀ k, k ≠ id → ρ'.tv k = ρ.tv k) (hn : ∀ k, k ≠ id → ρ'.tn k = ρ.tn k) : ∀ {l : List AV} {us : List Value}, l.all (AV.no id) = true → RL ρ w S l us → RL ρ' w S l us
  | [], _, _, h => h
  | x :: l, _, hno, h => by
    obtain ⟨u, us', e, h1, h2⟩ := h
    rw [List.all_cons, Bool.and_eq_true] at hno
    exact ⟨u, us', e, R.noB hb hm hv hn hno.1 h1, RL.noB hb hm hv hn hno.2 h2⟩
theorem RS.noB {ρ ρ' : Rho} {w : World} {S : Nat → Prop} {id : Nat} (hb : ρ'.base = ρ.base) (hm : ∀ k, k ≠ id → ρ' k = ρ k) (hv : ∀ k, k ≠ id → ρ'.tv k = ρ.tv k) (hn : ∀ k, k ≠ id → ρ'.tn k = ρ.tn k) : ∀ {s : SV} {u : Value}, s.no id = true → RS ρ w S s u → RS ρ' w S s u := by
  intro s
  induction s with
  | one x => exact R.noB hb hm hv hn
  | agg l => rintro u hno ⟨us, e, h⟩; exact ⟨us, e, RL.noB hb hm hv hn hno h⟩
  | tup2 x y ih1 ih2 =>
    rintro u hno ⟨a, b, e, h1, h2⟩
    rw [SV.no, Bool.and_eq_true] at hno
    exact ⟨a, b, e, ih1 hno.1 h1, ih2 hno.2 h2⟩
  | tup3 x y z ih1 ih2 ih3 =>
    rintro u hno ⟨a, b, c, e, h1, h2, h3⟩
    rw [SV.no, Bool.and_eq_true, Bool.and_eq_true] at hno
    exact ⟨a, b, c, e, ih1 hno.1.1 h1, ih2 hno.1.2 h2, ih3 hno.2 h3⟩
  | tup4 x y z t ih1 ih2 ih3 ih4 =>
    rintro u hno ⟨a, b, c, d, e, h1, h2, h3, h4⟩
    rw [SV.no, Bool.and_eq_true, Bool.and_eq_true, Bool.and_eq_true] at hno
    exact ⟨a, b, c, d, e, ih1 hno.1.1.1 h1, ih2 hno.1.1.2 h2, ih3 hno.1.2 h3, ih4 hno.2 h4⟩
  | gd b s ih => rintro u hno ⟨h1, h2⟩; exact ⟨fun hb => ih hno (h1 hb), h2⟩
theorem St.takeOut {ρ : Rho} {S : Nat → Prop} {a : Act} {w : World} (hs : St N w0 ρ S σ a w) {t K q m sz n id : Nat} {X : Nat → AV} {f : Nat → Nat → AV} (ht : σ.env.lookup t = some (.one (.tre K q))) (hK : σ.heap.lookup K = some (.trees m X)) (hq : q < m) (hX : X q = .lst sz n f)
    (hlt : Nat.blt K 1000000 = true) (hsc : ∀ i j, i < n → j < sz → (f i j).scl = true) (hno : ∀ i j, (f i j).no id = true) (hf : Fr id σ) :
    ∃ ρ' v, St N w0 ρ' S ⟨(t, .one (.own id sz n)) :: σ.env, (id, .arr sz n f) :: (K, .trees m fun i => if i = q then .con v else X i) :: σ.heap⟩ a w := by
  obtain ⟨ev, _⟩ := hs.env _ _ ht
  obtain ⟨t1, t2⟩ := hs.mem.tree K m X hK q hq
  rw [hX] at t1
  rw [← ev] at t1
  unfold Tr at t1
  obtain ⟨A, c, e, hnc, hcm, hcase⟩ := t1
  obtain ⟨b, cs, hA, hblk⟩ : ∃ (b : Nat) (cs : Array Value), (A = some ⟨b, 0, none⟩ ∨ (A = none ∧ c = 0)) ∧ (c ≠ 0 → ρ.tb K q b ∧ (∃ e, w.heap[b]? = some (.cells cs e (0, 0))) ∧ cs.size = c * sz ∧ ∀ i j, i < n → j < sz → ∃ u, cs[i * sz + j]? = some u ∧ R ρ w S (f i j) u) := by
    rcases hcase with ⟨rfl, hA⟩ | ⟨b, cs, e', g1, g2, g3, g4, F, g5, g6⟩
    · rcases hA with hA | ⟨b, hA⟩
      · exact ⟨0, #[], .inr ⟨hA, rfl⟩, fun h => absurd rfl h⟩
      · exact ⟨b, #[], .inl hA, fun h => absurd rfl h⟩
    · refine ⟨b, cs, .inl g1, fun _ => ⟨g2, ⟨e', g3⟩, g4, fun i j hi hj => ?_⟩⟩
      obtain ⟨_, u, hu, hT⟩ := g5 i j hi hj
      refine ⟨u, hu, ?_⟩
      have hl := hsc i j hi hj
      generalize f i j = y at hT hl
      cases y <;> first | exact hT | cases hl
  have hKid : K ≠ id := (hf.heap.get hK).1
  have hlt' : K < 1000000 := by simpa [Nat.blt_eq] using hlt
  let ρ' : Rho := ⟨fun k => if k = id then (b, c) else ρ k, ρ.base, ρ.tv, fun k i => if k = K ∧ i = q then (fun _ => False) else ρ.tb k i, ρ.tn⟩
  have hm : ∀ k, k ≠ id → ρ' k = ρ k := fun k hk => if_neg hk
  have hmid : ρ' id = (b, c) := if_pos rfl
  have htb : ∀ k i, ¬ (k = K ∧ i = q) → ρ'.tb k i = ρ.tb k i := fun k i h => if_neg h
  have htq : ρ'.tb K q = fun _ => False := if_pos ⟨rfl, rfl⟩
  have hkeep : ∀ {x : AV} {u : Value}, x.no id = true → R ρ w S x u → R ρ' w S x u := R.noB (ρ := ρ) (ρ' := ρ') (id := id) rfl hm (fun _ _ => rfl) (fun _ _ => rfl)
  refine ⟨ρ', ρ.tv K q, ?_⟩
  have conv : ∀ {k p}, ((id, AObj.arr sz n f) :: (K, AObj.trees m fun i => if i = q then .con (ρ.tv K q) else X i) :: σ.heap : Heap).lookup k = some p → k ≠ id → ∃ p', σ.heap.lookup k = some p' ∧ p'.sz = p.sz ∧ p'.n = p.n ∧ ∀ i j, i < p.n → p.f i j = p'.f i j := fun {k p} hp hk => by
    rcases lookup_put hp with ⟨h1, _⟩ | ⟨_, hp⟩
    · exact absurd h1 hk
    · rcases lookup_put hp with ⟨rfl, rfl⟩ | ⟨_, hp⟩
      · exact ⟨_, hK, rfl, rfl, fun i j hi => absurd hi (Nat.not_lt_zero _)⟩
      · exact ⟨p, hp, rfl, rfl, fun _ _ _ => rfl⟩
  have convT : ∀ {k m2 Y}, ((id, AObj.arr sz n f) :: (K, AObj.trees m fun i => if i = q then .con (ρ.tv K q) else X i) :: σ.heap : Heap).lookup k = some (.trees m2 Y) → k ≠ id ∧ ∃ Y', σ.heap.lookup k = some (.trees m2 Y') ∧ ∀ i, ¬ (k = K ∧ i = q) → Y i = Y' i := fun {k m2 Y} hp => by
    rcases lookup_put hp with ⟨_, h1⟩ | ⟨hk, hp⟩
    · cases h1
    · rcases lookup_put hp with ⟨rfl, h1⟩ | ⟨hk2, hp⟩
      · cases h1
        exact ⟨hk, X, hK, fun i hi => if_neg fun e => hi ⟨rfl, e⟩⟩
      · exact ⟨hk, Y, hp, fun _ _ => rfl⟩
  refine ⟨hs.size, hs.defers, ⟨hs.below.old, hs.below.same, fun k hk => (hs.below.ids k hk).trans ⟨hm k (fun e => by have := hf.small; omega), rfl, by funext i; exact htb k i (fun e => by omega), rfl⟩⟩, ⟨hs.mem.base, hs.mem.low, hs.mem.lt, ?_, ?_, ?_, ?_⟩, fun t' s ht' => ?_⟩
  · intro k p hp
    by_cases hk : k = id
    · subst hk
      rcases lookup_put hp with ⟨_, rfl⟩ | ⟨hne, _⟩
      · rw [hmid]; exact hnc
      · exact absurd rfl hne
    · obtain ⟨p', h1, h2, h3, h4⟩ := conv hp hk
      rw [hm k hk, ← h3]; exact hs.mem.cap k p' h1
  · intro k p hp hc
    by_cases hk : k = id
    · subst hk
      rcases lookup_put hp with ⟨_, rfl⟩ | ⟨hne, _⟩
      · rw [hmid] at hc ⊢
        obtain ⟨g1, ⟨e', g2⟩, g3, g4⟩ := hblk hc
        obtain ⟨q1, q2, q3, _⟩ := t2 b g1
        refine ⟨cs, e', g2, g3, hnc, hcm, q1, q3, fun i j hi hj => ?_⟩
        obtain ⟨u, hu, hr⟩ := g4 i j hi hj
        exact ⟨u, hu, hkeep (hno i j) hr⟩
      · exact absurd rfl hne
    · obtain ⟨p', h1, h2, h3, h4⟩ := conv hp hk
      rw [hm k hk] at hc ⊢
      obtain ⟨cs2, e2, g1, g2, g3, g4, g5, g6, g7⟩ := hs.mem.obj k p' h1 hc
      refine ⟨cs2, e2, g1, by rw [← h2]; exact g2, by rw [← h3]; exact g3, g4, g5, g6, fun i j hi hj => ?_⟩
      obtain ⟨u, hu, hr⟩ := g7 i j (by rw [h3]; exact hi) (by rw [h2]; exact hj)
      refine ⟨u, by rw [← h2]; exact hu, ?_⟩
      rw [h4 i j hi]
      exact hkeep ((hf.heap.get h1).2.at_ i j) hr
  · intro k k' p p' hp hp' hne hc hc'
    by_cases hk : k = id
    · subst hk
      obtain ⟨p2, h1, _⟩ := conv hp' (fun e => hne e.symm)
      rw [hmid] at hc ⊢
      rw [hm k' (fun e => hne e.symm)] at hc' ⊢
      obtain ⟨g1, _⟩ := hblk hc
      exact fun e => (t2 b g1).2.2.2.1 k' p2 h1 hc' e.symm
    · obtain ⟨p1, h1, _⟩ := conv hp hk
      rw [hm k hk] at hc ⊢
      by_cases hk' : k' = id
      · subst hk'
        rw [hmid] at hc' ⊢
        obtain ⟨g1, _⟩ := hblk hc'
        exact (t2 b g1).2.2.2.1 k p1 h1 hc
      · obtain ⟨p2, h2, _⟩ := conv hp' hk'
        rw [hm k' hk'] at hc' ⊢
        exact hs.mem.inj k k' p1 p2 h1 h2 hne hc hc'
  · intro k m2 Y hY
    obtain ⟨hk, Y', hY', hYe⟩ := convT hY
    refine ⟨(hs.mem.tree0 k m2 Y' hY').1, fun i hi => ?_⟩
    by_cases hkq : k = K ∧ i = q
    · obtain ⟨rfl, rfl⟩ := hkq
      rw [htq]
      refine ⟨?_, fun b hb => hb.elim⟩
      rcases lookup_put hY with ⟨_, h1⟩ | ⟨_, hY⟩
      · cases h1
      · rcases lookup_put hY with ⟨_, h1⟩ | ⟨hk2, _⟩
        · cases h1
          show Tr w (if i = i then _ else _) _ _
          rw [if_pos rfl]
          unfold Tr; rfl
        · exact absurd rfl hk2
    · obtain ⟨g1, g2⟩ := hs.mem.tree k m2 Y' hY' i hi
      rw [hYe i hkq, htb k i hkq]
      refine ⟨g1, fun b' hb' => ?_⟩
      obtain ⟨q1, q2, q3, q4, q5⟩ := g2 b' hb'
      refine ⟨q1, q2, q3, fun k' p hp hc => ?_, fun k' m4 Y4 i' hY4 hi' hne' => ?_⟩
      · by_cases hk' : k' = id
        · subst hk'
          rw [hmid] at hc ⊢
          obtain ⟨g1, _⟩ := hblk hc
          intro e
          have e : b = b' := e
          subst e
          exact q5 K m X q hK hq (fun h => hkq ⟨h.1.symm, h.2.symm⟩) g1
        · obtain ⟨p', h1, _⟩ := conv hp hk'
          rw [hm k' hk'] at hc ⊢
          exact q4 k' p' h1 hc
      · obtain ⟨_, Y5, h5, _⟩ := convT hY4
        by_cases hkq' : k' = K ∧ i' = q
        · obtain ⟨rfl, rfl⟩ := hkq'
          rw [htq]; exact fun h => h
        · rw [htb k' i' hkq']
          exact q5 k' m4 Y5 i' h5 hi' hne'
  · rcases lookup_put ht' with ⟨rfl, rfl⟩ | ⟨_, ht2⟩
    · show ∃ B, _ = Value.slice B n (ρ' id).2 ∧ n ≤ (ρ' id).2 ∧ (ρ' id).2 ≤ maxLen ∧ (B = some ⟨(ρ' id).1, 0, none⟩ ∨ (B = none ∧ (ρ' id).2 = 0))
      rw [hmid]
      exact ⟨A, e, hnc, hcm, hA⟩
    · exact RS.noB (ρ := ρ) (ρ' := ρ') (id := id) rfl hm (fun _ _ => rfl) (fun _ _ => rfl) (List.all_eq_true.1 hf.env _ (lookup_mem ht2)) (hs.env t' s ht2)
theorem ARun.takeOut (t K q m sz n id : Nat) (X : Nat → AV) (f : Nat → Nat → AV) (ht : σ.env.lookup t = some (.one (.tre K q))) (hK : σ.heap.lookup K = some (.trees m X)) (hq : q < m) (hX : X q = .lst sz n f) (hlt : Nat.blt K 1000000 = true)
    (hsc : ∀ i j, i < n → j < sz → (f i j).scl = true) (hno : ∀ i j, (f i j).no id = true) (hf : Fr id σ) (h : ∀ v, ARun P N w0 ops Q rest ⟨(t, .one (.own id sz n)) :: σ.env, (id, .arr sz n f) :: (K, .trees m fun i => if i = q then .con v else X i) :: σ.heap⟩) : ARun P N w0 ops Q rest σ := by
  intro ρ S a w Q' hQ hs
  obtain ⟨ρ', v, hs'⟩ := hs.takeOut ht hK hq hX hlt hsc hno hf
  exact h v ρ' S a w Q' hQ hs'
/-- The names of a family are given anew: the member i of the new one is the member φ i of the old one. -/
theorem St.reindex {ρ : Rho} {S : Nat → Prop} {a : Act} {w : World} (hs : St N w0 ρ S σ a w) {K K2 id n n' sz m : Nat} {φ : Nat → Nat} {X : Nat → AV} {f f' : Nat → Nat → AV} (hK : σ.heap.lookup K = some (.trees n X)) (hA : σ.heap.lookup id = some (.arr sz m f))
    (hφ : ∀ i, i < n' → φ i < n) (hinj : ∀ i j, i < n' → j < n' → φ i = φ j → i = j) (hcell : ∀ i j, i < m → j < sz → f' i j = f i j ∨ ∃ p, p < n' ∧ f i j = .tre K (φ p) ∧ f' i j = .tre K2 p) (hf : Fr K2 σ) :
    ∃ ρ', St N w0 ρ' S ⟨σ.env, (K2, .trees n' fun i => X (φ i)) :: (id, .arr sz m f') :: σ.heap.filter fun p => p.1 != K⟩ a w ∧ ∀ p, p < n' → ∀ v, R ρ w S (.tre K (φ p)) v → R ρ' w S (.tre K2 p) v := by
  obtain ⟨hKK, _⟩ := hf.heap.get hK
  obtain ⟨hAK, _⟩ := hf.heap.get hA
  have hidK : id ≠ K := fun e => by subst e; rw [hK] at hA; cases hA
  let ρ' : Rho := ⟨fun k => if k = K2 then (0, 0) else ρ k, ρ.base, fun k => if k = K2 then (fun i => ρ.tv K (φ i)) else ρ.tv k, fun k => if k = K2 then (fun i => ρ.tb K (φ i)) else ρ.tb k, fun k => if k = K2 then n' else ρ.tn k⟩
  have hm : ∀ k, k ≠ K2 → ρ' k = ρ k := fun k hk => if_neg hk
  have hv : ∀ k, k ≠ K2 → ρ'.tv k = ρ.tv k := fun k hk => if_neg hk
  have hb : ∀ k, k ≠ K2 → ρ'.tb k = ρ.tb k := fun k hk => if_neg hk
  have hn : ∀ k, k ≠ K2 → ρ'.tn k = ρ.tn k := fun k hk => if_neg hk
  have hm2 : ρ' K2 = (0, 0) := if_pos rfl
  have hv2 : ρ'.tv K2 = fun i => ρ.tv K (φ i) := if_pos rfl
  have hb2 : ρ'.tb K2 = fun i => ρ.tb K (φ i) := if_pos rfl
  have hn2 : ρ'.tn K2 = n' := if_pos rfl
  have hkeep : ∀ {x : AV} {u : Value}, x.no K2 = true → R ρ w S x u → R ρ' w S x u := R.noB (ρ := ρ) (ρ' := ρ') (id := K2) rfl hm hv hn
  have conv : ∀ {k p}, ((K2, AObj.trees n' fun i => X (φ i)) :: (id, AObj.arr sz m f') :: σ.heap.filter fun p => p.1 != K : Heap).lookup k = some p → k ≠ K2 → k ≠ K ∧ ∃ p', σ.heap.lookup k = some p' ∧ p'.sz = p.sz ∧ p'.n = p.n ∧ (k ≠ id → p' = p) := fun {k p} hp hk => by
    rcases lookup_put hp with ⟨h1, _⟩ | ⟨_, hp⟩
    · exact absurd h1 hk
    · rcases lookup_put hp with ⟨rfl, rfl⟩ | ⟨_, hp⟩
      · exact ⟨hidK, _, hA, rfl, rfl, fun h => absurd rfl h⟩
      · obtain ⟨f1, f2⟩ := filter_lookup hp
        exact ⟨f1, p, f2, rfl, rfl, fun _ => rfl⟩
  have convT : ∀ {k m2 Y}, ((K2, AObj.trees n' fun i => X (φ i)) :: (id, AObj.arr sz m f') :: σ.heap.filter fun p => p.1 != K : Heap).lookup k = some (.trees m2 Y) → (k = K2 ∧ m2 = n' ∧ Y = fun i => X (φ i)) ∨ (k ≠ K2 ∧ k ≠ K ∧ σ.heap.lookup k = some (.trees m2 Y)) := fun {k m2 Y} hp => by
    rcases lookup_put hp with ⟨rfl, h1⟩ | ⟨hk, hp⟩
    · cases h1; exact .inl ⟨rfl, rfl, rfl⟩
    · rcases lookup_put hp with ⟨rfl, h1⟩ | ⟨_, hp⟩
      · cases h1
      · obtain ⟨f1, f2⟩ := filter_lookup hp
        exact .inr ⟨hk, f1, f2⟩
  refine ⟨ρ', ⟨hs.size, hs.defers, ⟨hs.below.old, hs.below.same, fun k hk => (hs.below.ids k hk).trans ?_⟩, ⟨hs.mem.base, hs.mem.low, hs.mem.lt, ?_, ?_, ?_, ?_⟩, fun t' s ht' => ?_⟩, fun q hq v hr => by
    obtain ⟨r1, r2, r3⟩ := hr
    exact ⟨by rw [hv2]; exact r1, by rw [hn2]; exact hq, r3⟩⟩
  · have hne : k ≠ K2 := fun e => by have := hf.small; omega
    exact ⟨hm k hne, hv k hne, hb k hne, hn k hne⟩
  · intro k p hp
    by_cases hk : k = K2
    · subst hk
      rcases lookup_put hp with ⟨_, rfl⟩ | ⟨hne, _⟩
      · exact Nat.zero_le _
      · exact absurd rfl hne
    · obtain ⟨_, p', h1, h2, h3, _⟩ := conv hp hk
      rw [hm k hk, ← h3]; exact hs.mem.cap k p' h1
  · intro k p hp hc
    by_cases hk : k = K2
    · subst hk; rw [hm2] at hc; exact absurd rfl hc
    · obtain ⟨_, p', h1, h2, h3, h4⟩ := conv hp hk
      rw [hm k hk] at hc ⊢
      obtain ⟨cs2, e2, g1, g2, g3, g4, g5, g6, g7⟩ := hs.mem.obj k p' h1 hc
      refine ⟨cs2, e2, g1, by rw [← h2]; exact g2, by rw [← h3]; exact g3, g4, g5, g6, fun i j hi hj => ?_⟩
      obtain ⟨u, hu, hr⟩ := g7 i j (by rw [h3]; exact hi) (by rw [h2]; exact hj)
      refine ⟨u, by rw [← h2]; exact hu, ?_⟩
      by_cases hkid : k = id
      · subst hkid
        rw [hA] at h1
        cases h1
        rcases lookup_put hp with ⟨h5, _⟩ | ⟨_, hp⟩
        · exact absurd h5 hk
        · rcases lookup_put hp with ⟨_, rfl⟩ | ⟨h5, _⟩
          · have hr : R ρ w S (f i j) u := hr
            show R ρ' w S (f' i j) u
            rcases hcell i j hi hj with h6 | ⟨q, hq, h6, h7⟩
            · rw [h6]; exact hkeep ((hf.heap.get hA).2.at_ i j) hr
            · rw [h6] at hr
              rw [h7]
              obtain ⟨r1, r2, r3⟩ := hr
              exact ⟨by rw [hv2]; exact r1, by rw [hn2]; exact hq, r3⟩
          · exact absurd rfl h5
      · obtain rfl := h4 hkid
        exact hkeep ((hf.heap.get h1).2.at_ i j) hr
  · intro k k' p p' hp hp' hne hc hc'
    by_cases hk : k = K2
    · subst hk; rw [hm2] at hc; exact absurd rfl hc
    by_cases hk' : k' = K2
    · subst hk'; rw [hm2] at hc'; exact absurd rfl hc'
    obtain ⟨_, p1, h1, _⟩ := conv hp hk
    obtain ⟨_, p2, h2, _⟩ := conv hp' hk'
    rw [hm k hk] at hc ⊢
    rw [hm k' hk'] at hc' ⊢
    exact hs.mem.inj k k' p1 p2 h1 h2 hne hc hc'
  · intro k m2 Y hY
    rcases convT hY with ⟨rfl, rfl, rfl⟩ | ⟨hk, hkK, hY'⟩
    · refine ⟨hn2, fun i hi => ?_⟩
      obtain ⟨g1, g2⟩ := hs.mem.tree K n X hK (φ i) (hφ i hi)
      rw [hv2, hb2]
      refine ⟨g1, fun b' hb' => ?_⟩
      obtain ⟨q1, q2, q3, q4, q5⟩ := g2 b' hb'
      refine ⟨q1, q2, q3, fun k' p hp hc => ?_, fun k' m4 Y4 i' hY4 hi' hne' => ?_⟩
      · by_cases hk' : k' = k
        · subst hk'; rw [hm2] at hc; exact absurd rfl hc
        · obtain ⟨_, p', h1, _⟩ := conv hp hk'
          rw [hm k' hk'] at hc ⊢
          exact q4 k' p' h1 hc
      · rcases convT hY4 with ⟨rfl, rfl, rfl⟩ | ⟨hk', hkK', hY5⟩
        · rw [hb2]
          exact q5 K n X (φ i') hK (hφ i' hi') (fun e => hne' ⟨rfl, hinj i' i hi' hi e.2⟩)
        · rw [hb k' hk']
          exact q5 k' m4 Y4 i' hY5 hi' (fun e => hkK' e.1)
    · refine ⟨(hn k hk).trans (hs.mem.tree0 k m2 Y hY').1, fun i hi => ?_⟩
      obtain ⟨g1, g2⟩ := hs.mem.tree k m2 Y hY' i hi
      rw [hv k hk, hb k hk]
      refine ⟨g1, fun b' hb' => ?_⟩
      obtain ⟨q1, q2, q3, q4, q5⟩ := g2 b' hb'
      refine ⟨q1, q2, q3, fun k' p hp hc => ?_, fun k' m4 Y4 i' hY4 hi' hne' => ?_⟩
      · by_cases hk' : k' = K2
        · subst hk'; rw [hm2] at hc; exact absurd rfl hc
        · obtain ⟨_, p', h1, _⟩ := conv hp hk'
          rw [hm k' hk'] at hc ⊢
          exact q4 k' p' h1 hc
      · rcases convT hY4 with ⟨rfl, rfl, rfl⟩ | ⟨hk', hkK', hY5⟩
        · rw [hb2]
          exact q5 K n X (φ i') hK (hφ i' hi') (fun e => hkK e.1.symm)
        · rw [hb k' hk']
          exact q5 k' m4 Y4 i' hY5 hi' hne'
  · exact RS.noB (ρ := ρ) (ρ' := ρ') (id := K2) rfl hm hv hn (List.all_eq_true.1 hf.env _ (lookup_mem ht')) (hs.env t' s ht')
theorem ARun.reindex (K K2 id n n' sz m : Nat) (φ : Nat → Nat) (X : Nat → AV) (f f' : Nat → Nat → AV) (hK : σ.heap.lookup K = some (.trees n X)) (hA : σ.heap.lookup id = some (.arr sz m f))
    (hφ : ∀ i, i < n' → φ i < n) (hinj : ∀ i j, i < n' → j < n' → φ i = φ j → i = j) (hcell : ∀ i j, i < m → j < sz → f' i j = f i j ∨ ∃ p, p < n' ∧ f i j = .tre K (φ p) ∧ f' i j = .tre K2 p) (hf : Fr K2 σ)
    (h : ARun P N w0 ops Q rest ⟨σ.env, (K2, .trees n' fun i => X (φ i)) :: (id, .arr sz m f') :: σ.heap.filter fun p => p.1 != K⟩) : ARun P N w0 ops Q rest σ := by
  intro ρ S a w Q' hQ hs
  obtain ⟨ρ', hs', _⟩ := hs.reindex hK hA hφ hinj hcell hf
  exact h ρ' S a w Q' hQ hs'
theorem AW.reindex {c : Code} {Q : Exit → Sig → Prop} (K K2 id n n' sz m : Nat) (φ : Nat → Nat) (X : Nat → AV) (f f' : Nat → Nat → AV) (hK : σ.heap.lookup K = some (.trees n X)) (hA : σ.heap.lookup id = some (.arr sz m f))
    (hφ : ∀ i, i < n' → φ i < n) (hinj : ∀ i j, i < n' → j < n' → φ i = φ j → i = j) (hcell : ∀ i j, i < m → j < sz → f' i j = f i j ∨ ∃ p, p < n' ∧ f i j = .tre K (φ p) ∧ f' i j = .tre K2 p) (hf : Fr K2 σ)
    (h : AW P N w0 c Q ⟨σ.env, (K2, .trees n' fun i => X (φ i)) :: (id, .arr sz m f') :: σ.heap.filter fun p => p.1 != K⟩) : AW P N w0 c Q σ := by
  intro ρ S a w Q' hQ hs
  obtain ⟨ρ', hs', _⟩ := hs.reindex hK hA hφ hinj hcell hf
  exact h ρ' S a w Q' hQ hs'
theorem ARun.reindexS (t K K2 id n n' sz m p0 : Nat) (φ : Nat → Nat) (X : Nat → AV) (f f' : Nat → Nat → AV) (ht : σ.env.lookup t = some (.one (.tre K (φ p0)))) (hp0 : p0 < n') (hK : σ.heap.lookup K = some (.trees n X)) (hA : σ.heap.lookup id = some (.arr sz m f))
    (hφ : ∀ i, i < n' → φ i < n) (hinj : ∀ i j, i < n' → j < n' → φ i = φ j → i = j) (hcell : ∀ i j, i < m → j < sz → f' i j = f i j ∨ ∃ p, p < n' ∧ f i j = .tre K (φ p) ∧ f' i j = .tre K2 p) (hf : Fr K2 σ)
    (h : ARun P N w0 ops Q rest ⟨(t, .one (.tre K2 p0)) :: σ.env, (K2, .trees n' fun i => X (φ i)) :: (id, .arr sz m f') :: σ.heap.filter fun p => p.1 != K⟩) : ARun P N w0 ops Q rest σ := by
  intro ρ S a w Q' hQ hs
  obtain ⟨ρ', hs', hv⟩ := hs.reindex hK hA hφ hinj hcell hf
  refine h ρ' S a w Q' hQ ⟨hs'.size, hs'.defers, hs'.below, hs'.mem, fun t' s ht' => ?_⟩
  rcases lookup_put ht' with ⟨rfl, rfl⟩ | ⟨_, ht2⟩
  · exact hv p0 hp0 _ (hs.env _ _ ht)
  · exact hs'.env t' s ht2
end
end Go.Proofs.Ytmfkmifkkplidaa


/-
  A calculus for walks, part 39: copy onto a row of the walk's own, for cells of any size.
-/
namespace Go.Proofs.Ytmfkmifkkplidaa
open Go.ChangeShapes Go.WideShapes Go.ChangeAt Go.RowKit Go.BigFrame Go.Deep
set_option linter.unusedVariables false

set_option linter.unusedSimpArgs false
section
variable {P : Program} {N : Nat} {w0 : Start} {σ : Sig} {ops : Array Oper} {rest : List Oper} {o : Oper} {Q : Sig → Prop}
theorem run_copy_rowN (w : World) (dT sT ty elem : TypeId) (sz n g o dLen dCap : Nat) (a : Addr) (sLen sCap : Nat) (cur : Array Value) (t : TypeId) (cs : List Value)
    (hu : P.underlying dT = some (.slice elem)) (hs : (P.info? elem).map (·.size) = some sz)
    (hg : w.heap[g]? = some (.cells cur t (0, 0))) (hmin : n = Nat.min sLen dLen) (hn : cs.length = n * sz)
    (hsrc : ∀ j v, cs[j]? = some v → w.cell? (a.add j) = some v) (hfit : o + cs.length ≤ cur.size) (h1 : ∀ v ∈ cs, v.oneCell' = true) :
    (Builtin.copy_ #[dT, sT] ty #[.slice (some ⟨g, o, none⟩) dLen dCap, .slice (some a) sLen sCap]).run P w =
      .ok (goInt n) (w.setRow g (cur.toList.take o ++ cs ++ cur.toList.drop (o + cs.length)).toArray) := by
  have hl := run_loadCells_list (P := P) w a cs hsrc
  have hst := run_storeCells_at P g o t cs 0 cur w hg (by simpa using hfit) h1
  cases hq : P.info? elem with
  | none => simp [hq] at hs
  | some i =>
    have hi : i.size = sz := by simpa [hq] using hs
    rw [hn] at hl
    simp [Builtin.copy_, run_underlying hu, Builtin.lenOf, Builtin.firstCells, sizeOf, typeInfo, hq, hi, ← hmin, hl, hst]
theorem wpList_copy_ownN {w : World} {a : Act} {Q : Exit → Act → World → Prop} (hgd : o.guard = none) (d s : Operand) (dT sT : TypeId)
    (ho : o.op = .call { callee := .builtin .copy, args := #[d, s], argTypes := #[dT, sT] }) (elem : TypeId) (sz n : Nat) (hu : P.underlying dT = some (.slice elem)) (hsz : (P.info? elem).map (·.size) = some sz)
    (g off dLen dCap : Nat) (ad : Addr) (sLen sCap : Nat) (hd : a.eval d = .slice (some ⟨g, off, none⟩) dLen dCap) (hs : a.eval s = .slice (some ad) sLen sCap)
    (cur : Array Value) (t : TypeId) (hg : w.heap[g]? = some (.cells cur t (0, 0))) (cs : List Value) (hmin : n = Nat.min sLen dLen) (hn : cs.length = n * sz)
    (hsrc : ∀ j v, cs[j]? = some v → w.cell? (ad.add j) = some v) (hfit : off + cs.length ≤ cur.size) (h1 : ∀ v ∈ cs, v.oneCell' = true)
    (h : wpList P ops Q rest (a.put o.dst (goInt n)) (w.setRow g (cur.toList.take off ++ cs ++ cur.toList.drop (off + cs.length)).toArray)) : wpList P ops Q (o :: rest) a w := by
  refine wpList_plain hgd fun K hK => ?_
  have hrun := run_copy_rowN (P := P) w dT sT o.type elem sz n g off dLen dCap ad sLen sCap cur t cs hu hsz hg hmin hn hsrc hfit h1
  unfold Oper.wp
  simp only [execOp, ho, resolve, invoke, builtin, Sem.run_bind, Sem.run_pure, Result.andThen_ok, List.map_toArray, List.map_cons, List.map_nil, hd, hs, hrun]
  exact hK _ _ h
theorem run_copy_noneN (w : World) (dT sT ty elem : TypeId) (sz : Nat) (dp sp : Option Addr) (dLen dCap sLen sCap : Nat) (hu : P.underlying dT = some (.slice elem)) (hs : (P.info? elem).map (·.size) = some sz) (hn : Nat.min sLen dLen = 0) :
    (Builtin.copy_ #[dT, sT] ty #[.slice dp dLen dCap, .slice sp sLen sCap]).run P w = .ok (goInt 0) w := by
  cases hq : P.info? elem with
  | none => simp [hq] at hs
  | some i =>
    have hl : ∀ (x : Addr), (loadCells x 0).run P w = .ok #[] w := fun x => by simpa using run_loadCells_list (P := P) w x [] (by simp)
    cases dp <;> cases sp <;> simp [Builtin.copy_, run_underlying hu, Builtin.lenOf, Builtin.firstCells, sizeOf, typeInfo, hq, hn, storeCells, hl]
theorem wpList_copy_nothingN {w : World} {a : Act} {Q : Exit → Act → World → Prop} (hgd : o.guard = none) (d s : Operand) (dT sT : TypeId)
    (ho : o.op = .call { callee := .builtin .copy, args := #[d, s], argTypes := #[dT, sT] }) (elem : TypeId) (sz : Nat) (hu : P.underlying dT = some (.slice elem)) (hsz : (P.info? elem).map (·.size) = some sz)
    (dp sp : Option Addr) (dLen dCap sLen sCap : Nat) (hd : a.eval d = .slice dp dLen dCap) (hs : a.eval s = .slice sp sLen sCap) (hn : Nat.min sLen dLen = 0)
    (h : wpList P ops Q rest (a.put o.dst (goInt 0)) w) : wpList P ops Q (o :: rest) a w := by
  refine wpList_plain hgd fun K hK => ?_
  have hrun := run_copy_noneN (P := P) w dT sT o.type elem sz dp sp dLen dCap sLen sCap hu hsz hn
  unfold Oper.wp
  simp only [execOp, ho, resolve, invoke, builtin, Sem.run_bind, Sem.run_pure, Result.andThen_ok, List.map_toArray, List.map_cons, List.map_nil, hd, hs, hrun]
  exact hK _ _ h
/-- Where a copy goes: an own row from place q on. -/
inductive KnDN (σ : Sig) (x : Operand) (sz id q n : Nat) : Prop
  | tl : Kn σ x (.one (.tl id sz q n)) → KnDN σ x sz id q n
  | own : q = 0 → Kn σ x (.one (.own id sz n)) → KnDN σ x sz id q n
/-- A source of so many elements. -/
structure SrcOk (σ : Sig) (y : Operand) (sz m : Nat) (g : Nat → Nat → AV) : Prop where
  src : ∀ (N : Nat) (w0 : Start) (ρ : Rho) (S : Nat → Prop) (a : Act) (w : World), St N w0 ρ S σ a w → ∃ A c, a.eval y = .slice A m c ∧ (0 < m → ∃ b off, A = some ⟨b, off, none⟩ ∧ ∀ i j, i < m → j < sz → ∃ u, w.cell? ⟨b, off + (i * sz + j), none⟩ = some u ∧ R ρ w S (g i j) u)
theorem SrcOk.of {y : Operand} {sz m : Nat} {g : Nat → Nat → AV} (h : KnR σ y sz m g) : SrcOk σ y sz m g := ⟨fun _ _ _ _ _ _ hs => h.at_ hs⟩
theorem SrcOk.tl {y : Operand} {id sz q n m : Nat} {ob : AObj} {g : Nat → Nat → AV} (k1 : Kn σ y (.one (.tl id sz q n))) (k2 : σ.heap.lookup id = some ob) (k3 : ob.sz = sz) (k4 : n ≤ ob.n) (hm : m = n - q) (k5 : ∀ i j, i < m → j < sz → ob.f (q + i) j = g i j) : SrcOk σ y sz m g := by
  subst hm
  refine ⟨fun N w0 ρ S a w hs => ?_⟩
  obtain ⟨A, ev, h1, h2, h3, h4⟩ := k1.sound hs
  refine ⟨A, _, ev, fun hm => ?_⟩
  have hA : A = some ⟨(ρ id).1, q * sz, none⟩ := by rcases h4 with h | h; (· exact h); (· omega)
  have hc : (ρ id).2 ≠ 0 := by omega
  obtain ⟨cs, e, g1, g2, g3, g4, g5, g6, g7⟩ := hs.mem.obj id ob k2 hc
  refine ⟨_, _, hA, fun i j hi hj => ?_⟩
  obtain ⟨u, hu, hr⟩ := g7 (q + i) j (by omega) (by rw [k3]; exact hj)
  rw [k5 i j hi hj] at hr
  rw [k3] at hu
  refine ⟨u, ?_, hr⟩
  rw [show q * sz + (i * sz + j) = (q + i) * sz + j by rw [Nat.add_mul]; omega]
  simp [World.cell?, g1, hu]
theorem ix_mod {sz k : Nat} (h : 0 < sz) : k / sz * sz + k % sz = k := by rw [Nat.mul_comm]; exact Nat.div_add_mod k sz
theorem ARun.copyN {t t2 : TypeId} {x y : Operand} {d id q n m r sz : Nat} {f g : Nat → Nat → AV} (ho : o.op = .call { callee := .builtin .copy, args := #[x, y], argTypes := #[t, t2] }) (he : elemB P t sz = true) (h0 : 0 < sz) (hx : KnDN σ x sz id q n)
    (hob : σ.heap.lookup id = some (.arr sz n f)) (hy : SrcOk σ y sz m g) (hoc : ∀ i j, i < r → j < sz → (g i j).oc = true) (hr : r = Nat.min m (n - q)) (hg : o.guard = none) (hd : o.dst = some d ∨ o.dst = none) (hN : d < N)
    (h : ARun P N w0 ops Q rest ⟨consO o.dst (.one (.int .i64 (r : Int))) σ.env, (id, .arr sz n fun i j => if q ≤ i ∧ i < q + r then g (i - q) j else f i j) :: σ.heap⟩) : ARun P N w0 ops Q (o :: rest) σ := by
  intro ρ S a w Q' hQ hs
  obtain ⟨e, i, hu, hi, hsz⟩ := elemB_spec he
  have hs1 : (P.info? e).map (·.size) = some sz := by rw [hi]; simp [hsz]
  obtain ⟨A, ev, hq1, hq2, hq3, hA⟩ : ∃ A, a.eval x = .slice A (n - q) ((ρ id).2 - q) ∧ q ≤ n ∧ n ≤ (ρ id).2 ∧ (ρ id).2 ≤ maxLen ∧ (A = some ⟨(ρ id).1, q * sz, none⟩ ∨ (ρ id).2 = q) := by
    cases hx with
    | tl k =>
      obtain ⟨A, h1, h2, h3, h4, h5⟩ := k.sound hs
      exact ⟨A, h1, h2, h3, h4, h5⟩
    | own k1 k2 =>
      subst k1
      obtain ⟨A, h1, h2, h3, h4⟩ := k2.sound hs
      exact ⟨A, h1, Nat.zero_le _, h2, h3, h4.imp (fun h => by rw [Nat.zero_mul]; exact h) fun h => h.2⟩
  obtain ⟨A2, c2, ev2, hsrc⟩ := hy.src _ _ _ _ _ _ hs
  have hput : ∀ {ρ2 : Rho} {H2 : Heap} {w2 : World} {v : Value}, St N w0 ρ2 S ⟨σ.env, H2⟩ a w2 → v = goInt (r : Int) → St N w0 ρ2 S ⟨consO o.dst (.one (.int .i64 (r : Int))) σ.env, H2⟩ (a.put o.dst v) w2 := fun {ρ2 H2 w2 v} hst hv => by
    subst hv
    rcases hd with hd | hd
    · rw [hd]; exact hst.put hN (s := .one (.int .i64 (r : Int))) (v := goInt (r : Int)) rfl
    · rw [hd]; exact hst
  by_cases hr0 : r = 0
  · subst hr0
    refine wpList_copy_nothingN hg x y t t2 ho e sz hu hs1 A A2 (n - q) _ m c2 ev ev2 hr.symm ?_
    have hst : St N w0 ρ S ⟨σ.env, (id, .arr sz n fun i j => if q ≤ i ∧ i < q + 0 then g (i - q) j else f i j) :: σ.heap⟩ a w := ⟨hs.size, hs.defers, hs.below, hs.mem.le' fun k p hp => (by
      rcases lookup_put hp with ⟨rfl, rfl⟩ | ⟨hne, hp⟩
      · exact ⟨_, hob, rfl, Nat.le_refl _, fun i j _ _ => by show f i j = if _ then _ else _; rw [if_neg (by omega)]⟩
      · exact HLe.refl hp), hs.env⟩
    exact h ρ S _ w Q' hQ (hput hst rfl)
  · have hrm : r ≤ m ∧ r ≤ n - q := by rw [hr]; exact ⟨Nat.min_le_left .., Nat.min_le_right ..⟩
    have hA' : A = some ⟨(ρ id).1, q * sz, none⟩ := by rcases hA with h | h; (· exact h); (· omega)
    subst hA'
    obtain ⟨b, off, rfl, hcells⟩ := hsrc (by omega)
    have hc0 : (ρ id).2 ≠ 0 := by omega
    obtain ⟨cs, e', g1, g2, g3, g4, g5, g6, g7⟩ := hs.mem.obj id _ hob hc0
    have g2 : cs.size = (ρ id).2 * sz := g2
    have hdm : ∀ k, k < r * sz → k / sz < r ∧ k % sz < sz := fun k hk => ⟨(Nat.div_lt_iff_lt_mul h0).2 hk, Nat.mod_lt _ h0⟩
    obtain ⟨news, hnl, hnews⟩ := news_of (w := w) (b := b) (off := off) (n := r * sz) fun k hk => by
      obtain ⟨h1, h2⟩ := hdm k hk
      obtain ⟨u, hu, _⟩ := hcells (k / sz) (k % sz) (by omega) h2
      exact ⟨u, by rw [ix_mod h0] at hu; exact hu⟩
    have hget : ∀ i j, i < r → j < sz → ∃ u, news[i * sz + j]? = some u ∧ R ρ w S (g i j) u := fun i j hi hj => by
      obtain ⟨u, hu, hru⟩ := hcells i j (by omega) hj
      have hk' : i * sz + j < news.length := by rw [hnl]; exact cell_lt hi hj
      have := hnews _ _ (List.getElem?_eq_getElem hk')
      rw [hu] at this
      exact ⟨u, by rw [List.getElem?_eq_getElem hk', Option.some.inj this], hru⟩
    have hle : (q + r) * sz ≤ cs.size := by rw [g2]; exact Nat.mul_le_mul (by omega) (Nat.le_refl _)
    have hle' : q * sz + r * sz ≤ cs.size := by rw [← Nat.add_mul]; exact hle
    refine wpList_copy_ownN hg x y t t2 ho e sz r hu hs1 (ρ id).1 (q * sz) (n - q) _ ⟨b, off, none⟩ m c2 ev ev2 cs e' g1 news hr hnl (fun j v hj => by rw [Addr.add_lit]; exact hnews j v hj) (by rw [hnl]; exact hle') (fun v hv => ?_) ?_
    · obtain ⟨k, hk, rfl⟩ := List.mem_iff_getElem.1 hv
      rw [hnl] at hk
      obtain ⟨h1, h2⟩ := hdm k hk
      obtain ⟨u, hu, hru⟩ := hget (k / sz) (k % sz) h1 h2
      simp only [ix_mod h0] at hu
      rw [List.getElem?_eq_getElem (by rw [hnl]; exact hk)] at hu
      rw [Option.some.inj hu]
      exact AV.oc_r (hoc _ _ h1 h2) hru
    · have hst := hs.reblock (f' := fun i j => if q ≤ i ∧ i < q + r then g (i - q) j else f i j) hob hc0 (w' := w.setRow (ρ id).1 (cs.toList.take (q * sz) ++ news ++ cs.toList.drop (q * sz + news.length)).toArray) (cs' := (cs.toList.take (q * sz) ++ news ++ cs.toList.drop (q * sz + news.length)).toArray) (fun cs2 e2 h2 => ?_) (fun k hk => setRow_other w _ k _ hk) (by simp [World.setRow]) (below_setRow (Below.refl _ _) g5 _) (fun i j hi hj => ?_)
      · exact h ρ S _ _ Q' hQ (hput hst rfl)
      · rw [g1] at h2
        cases h2
        exact ⟨setRow_heap w _ _ _ _ _ g1, by simp; omega⟩
      · have hci : i * sz + j < cs.toList.length := by rw [Array.length_toList, g2]; exact cell_lt (by omega) hj
        by_cases hin : q ≤ i ∧ i < q + r
        · rw [if_pos hin]
          obtain ⟨u, hu, hru⟩ := hget (i - q) j (by omega) hj
          refine ⟨u, ?_, hru⟩
          have hix : i * sz + j = q * sz + ((i - q) * sz + j) := by rw [← Nat.add_assoc, ← Nat.add_mul]; congr 2; omega
          have hlt : (i - q) * sz + j < news.length := by rw [hnl]; exact cell_lt (by omega) hj
          rw [List.getElem?_toArray, List.getElem?_append_left (by rw [List.length_append, List.length_take, Nat.min_eq_left (by simp; omega)]; omega), List.getElem?_append_right (by rw [List.length_take, Nat.min_eq_left (by simp; omega)]; omega), List.length_take, Nat.min_eq_left (by simp; omega), hix, Nat.add_sub_cancel_left]
          exact hu
        · rw [if_neg hin]
          obtain ⟨u, hu, hru⟩ := g7 i j hi hj
          refine ⟨u, ?_, hru⟩
          have hu : cs[i * sz + j]? = some u := hu
          rw [List.getElem?_toArray]
          by_cases hlt : i < q
          · have h1 : i * sz + j < q * sz := cell_lt hlt hj
            rw [List.append_assoc, List.getElem?_append_left (by rw [List.length_take, Nat.min_eq_left (by simp; omega)]; exact h1), List.getElem?_take, if_pos h1]; simpa using hu
          · have h1 : (q + r) * sz ≤ i * sz := Nat.mul_le_mul (by omega) (Nat.le_refl _)
            rw [Nat.add_mul] at h1
            have hlen : (cs.toList.take (q * sz) ++ news).length = q * sz + r * sz := by rw [List.length_append, List.length_take, Nat.min_eq_left (by simp; omega), hnl]
            rw [List.getElem?_append_right (by rw [hlen]; omega), hlen, List.getElem?_drop, hnl, show q * sz + r * sz + (i * sz + j - (q * sz + r * sz)) = i * sz + j by omega]; simpa using hu
end
end Go.Proofs.Ytmfkmifkkplidaa


/-
  A calculus for walks, part 40: the capacity of a row that was handed over; rows that get a new name.
-/
namespace Go.Proofs.Ytmfkmifkkplidaa
open Go.ChangeShapes Go.WideShapes Go.ChangeAt Go.RowKit Go.BigFrame Go.Deep
set_option linter.unusedVariables false

set_option linter.unusedSimpArgs false
section
variable {P : Program} {N : Nat} {w0 : Start} {σ : Sig} {ops : Array Oper} {rest : List Oper} {o : Oper} {Q : Sig → Prop}
theorem ARun.capH {t : TypeId} {x : Operand} {d id sz n : Nat} (ho : o.op = .call { callee := .builtin .cap, args := #[x], argTypes := #[t] }) (hx : Kn σ x (.one (.own id sz n))) (hid : Nat.ble 1000000 id = true) (ht : sliceB P t = true) (hg : o.guard = none) (hd : o.dst = some d) (hN : d < N)
    (h : n ≤ (w0.ρ id).2 → (w0.ρ id).2 ≤ maxLen → ARun P N w0 ops Q rest ⟨(d, .one (.int .i64 ((w0.ρ id).2 : Int))) :: σ.env, σ.heap⟩) : ARun P N w0 ops Q (o :: rest) σ := by
  intro ρ S a w Q' hQ hs
  obtain ⟨A, e1, h1, h2, h3⟩ := hx.sound hs
  have hρ : (ρ id).2 = (w0.ρ id).2 := by rw [(hs.below.ids id (Nat.le_of_ble_eq_true hid)).m]
  obtain ⟨e, he⟩ := sliceB_spec ht
  refine wpList_plain hg fun K hK => ?_
  have hrun : (Builtin.cap_ #[t] o.type #[.slice A n (ρ id).2]).run P w = .ok (goInt (ρ id).2) w := by simp [Builtin.cap_, run_underlying he, goInt, go_sem]
  unfold Oper.wp
  simp only [execOp, ho, resolve, invoke, builtin, Sem.run_bind, Sem.run_pure, Result.andThen_ok, List.map_toArray, List.map_cons, List.map_nil, e1, hrun]
  refine hK _ _ ?_
  rw [hd]
  exact h (by rw [← hρ]; exact h1) (by rw [← hρ]; exact h2) ρ S _ w Q' hQ (hs.put hN (s := .one (.int .i64 ((w0.ρ id).2 : Int))) (v := goInt (ρ id).2) (by rw [hρ]; rfl))
/-- A row is looked at as far as its block goes. -/
theorem St.growH {ρ : Rho} {S : Nat → Prop} {a : Act} {w : World} (hs : St N w0 ρ S σ a w) {id sz n : Nat} {f : Nat → Nat → AV} (hob : σ.heap.lookup id = some (.arr sz n f)) : n ≤ (ρ id).2 ∧ ∃ gg : Nat → Nat → Value, St N w0 ρ S ⟨σ.env, (id, .arr sz (ρ id).2 fun i j => if i < n then f i j else .con (gg i j)) :: σ.heap⟩ a w := by
  have hn : n ≤ (ρ id).2 := hs.mem.cap id _ hob
  obtain ⟨gg, hgg⟩ : ∃ gg : Nat → Nat → Value, (ρ id).2 ≠ 0 → ∀ cs e, w.heap[(ρ id).1]? = some (.cells cs e (0, 0)) → ∀ i j, i < (ρ id).2 → j < sz → cs.size = (ρ id).2 * sz → cs[i * sz + j]? = some (gg i j) := by
    by_cases hc : (ρ id).2 = 0
    · exact ⟨fun _ _ => undef, fun h => absurd hc h⟩
    · obtain ⟨cs, e, h1, _⟩ := hs.mem.obj id _ hob hc
      refine ⟨fun i j => cs.getD (i * sz + j) undef, fun _ cs2 e2 h2 i j hi hj hz => ?_⟩
      rw [h1] at h2
      cases h2
      have hlt : i * sz + j < cs.size := by rw [hz]; exact cell_lt hi hj
      simp [hlt]
  refine ⟨hn, gg, hs.size, hs.defers, hs.below, ⟨hs.mem.base, hs.mem.low, hs.mem.lt, ?_, ?_, ?_, ?_⟩, hs.env⟩
  · intro k p hp
    rcases lookup_put hp with ⟨rfl, rfl⟩ | ⟨hne, hp⟩
    · exact Nat.le_refl _
    · exact hs.mem.cap k p hp
  · intro k p hp hc
    rcases lookup_put hp with ⟨rfl, rfl⟩ | ⟨hne, hp⟩
    · obtain ⟨cs, e, h1, h2, h3, h4, h5, h6, h7⟩ := hs.mem.obj k _ hob hc
      refine ⟨cs, e, h1, h2, Nat.le_refl _, h4, h5, h6, fun i j hi hj => ?_⟩
      have hi : i < (ρ k).2 := hi
      have hj : j < sz := hj
      show ∃ u, cs[i * sz + j]? = some u ∧ R ρ w S (if i < n then f i j else .con (gg i j)) u
      by_cases hin : i < n
      · rw [if_pos hin]; exact h7 i j hin hj
      · rw [if_neg hin]
        exact ⟨_, hgg hc cs e h1 i j hi hj h2, rfl⟩
    · exact hs.mem.obj k p hp hc
  · have conv : ∀ {k p}, ((id, AObj.arr sz (ρ id).2 fun i j => if i < n then f i j else .con (gg i j)) :: σ.heap : Heap).lookup k = some p → ∃ p', σ.heap.lookup k = some p' := fun {k p} hp => by
      rcases lookup_put hp with ⟨rfl, rfl⟩ | ⟨_, hp⟩
      · exact ⟨_, hob⟩
      · exact ⟨p, hp⟩
    intro k k' p p' hp hp' hne hc hc'
    obtain ⟨q, hq⟩ := conv hp
    obtain ⟨q', hq'⟩ := conv hp'
    exact hs.mem.inj k k' q q' hq hq' hne hc hc'
  · refine hs.mem.treeOf (Nat.le_refl _) (fun k n X hX => ?_) (fun k n X i b hX hi hb => ⟨rfl, (((hs.mem.tree k n X hX i hi).2) b hb).2.1, (((hs.mem.tree k n X hX i hi).2) b hb).2.2.1⟩) (fun k p hp hc => ?_)
    · rcases lookup_put hX with ⟨_, h⟩ | ⟨hne, hX⟩
      · cases h
      · exact ⟨X, hX, fun _ _ => rfl, rfl, rfl, rfl⟩
    · rcases lookup_put hp with ⟨rfl, rfl⟩ | ⟨_, hp⟩
      · exact .inl ⟨_, hob, rfl⟩
      · exact .inl ⟨p, hp, rfl⟩
theorem AW.growH {c : Code} {Q : Exit → Sig → Prop} (id sz n : Nat) (f : Nat → Nat → AV) (hob : σ.heap.lookup id = some (.arr sz n f)) (hid : Nat.ble 1000000 id = true)
    (h : n ≤ (w0.ρ id).2 → ∀ gg : Nat → Nat → Value, AW P N w0 c Q ⟨σ.env, (id, .arr sz (w0.ρ id).2 fun i j => if i < n then f i j else .con (gg i j)) :: σ.heap⟩) : AW P N w0 c Q σ := by
  intro ρ S a w Q' hQ hs
  have hρ : (ρ id).2 = (w0.ρ id).2 := by rw [(hs.below.ids id (Nat.le_of_ble_eq_true hid)).m]
  obtain ⟨h1, gg, h2⟩ := hs.growH hob
  rw [hρ] at h1 h2
  exact h h1 gg ρ S a w Q' hQ h2
/-- A row of the walk's own, cut anew within its object. -/
theorem PureOp.growOwn {t : TypeId} {x y : Operand} {id sz n k : Nat} {m : Int} {kd : IntKind} {ob : AObj} (ho : o.op = .slice t x none (some y) none) (hx : Kn σ x (.one (.own id sz n))) (hy : Kn σ y (.one (.int kd m))) (hm : m = (k : Int)) (hob : σ.heap.lookup id = some ob) (hk : k ≤ ob.n) (ht : elemB P t sz = true) : PureOp P o σ (.one (.own id sz k)) := by
  subst hm
  refine PureOp.val fun N w0 ρ S ac w hs => ?_
  obtain ⟨A, e1, h1, h2, h3⟩ := hx.sound hs
  have hk' : k ≤ (ρ id).2 := Nat.le_trans hk (hs.mem.cap id ob hob)
  have e2 : ac.eval y = .int kd (k : Int) := hy.sound hs
  obtain ⟨e, i, hu, hi, hsz⟩ := elemB_spec ht
  refine ⟨.slice A k (ρ id).2, ⟨A, rfl, hk', h2, h3⟩, fun w' _ => ?_⟩
  generalize ac.eval = ev at e1 e2 ⊢
  have hle : (0 : Int) ≤ (k : Int) ∧ (k : Int) ≤ ((ρ id).2 : Int) := by omega
  simp only [execOp, ho, e1, e2, Option.map_some, Option.map_none]
  have hr : (Instr.sliceAt t (.slice A n (ρ id).2) none (some (.int kd (k : Int))) none).run P w' = .ok (.slice A k (ρ id).2) w' := by
    have hA : (if (ρ id).2 = 0 then A else A.map (·.add (0 * i.size))) = A := by
      rcases h3 with rfl | ⟨rfl, h0⟩
      · simp [Addr.add]
      · simp
    have hk2 : (k : Int) ≤ ((ρ id).2 : Int) := hle.2
    simp only [Nat.zero_mul] at hA
    simp [Instr.sliceAt, Instr.slice, run_underlying hu, Instr.sliceBounds, Instr.sliceBound, asIntOf, hk2, run_sizeOf' hi, go_sem]
    try exact hA
    try (intro hlt; omega)
  rw [Sem.run_bind, hr]
  rfl
end
end Go.Proofs.Ytmfkmifkkplidaa


/-
  A calculus for walks, part 41: rows that get a new name; two own rows do not overlap.
-/
namespace Go.Proofs.Ytmfkmifkkplidaa
open Go.ChangeShapes Go.WideShapes Go.ChangeAt Go.RowKit Go.BigFrame Go.Deep
set_option linter.unusedVariables false

set_option linter.unusedSimpArgs false
section
variable {P : Program} {N : Nat} {w0 : Start} {σ : Sig} {ops : Array Oper} {rest : List Oper} {o : Oper} {Q : Sig → Prop}
theorem St.moveRow {ρ : Rho} {S : Nat → Prop} {a : Act} {w : World} (hs : St N w0 ρ S σ a w) {t id id2 sz n : Nat} {ob : AObj} (ht : σ.env.lookup t = some (.one (.own id sz n))) (hob : σ.heap.lookup id = some ob) (hT : ob.isT = false) (hf : Fr id2 σ) :
    ∃ ρ', St N w0 ρ' S ⟨(t, .one (.own id2 sz n)) :: σ.env, (id2, ob) :: σ.heap.filter fun p => p.1 != id⟩ a w := by
  have hne : id ≠ id2 := (hf.heap.get hob).1
  let ρ' : Rho := ⟨fun k => if k = id2 then ρ id else ρ k, ρ.base, ρ.tv, ρ.tb, ρ.tn⟩
  have hm : ∀ k, k ≠ id2 → ρ' k = ρ k := fun k hk => if_neg hk
  have hm2 : ρ' id2 = ρ id := if_pos rfl
  have hkeep : ∀ {x : AV} {u : Value}, x.no id2 = true → R ρ w S x u → R ρ' w S x u := R.noB (ρ := ρ) (ρ' := ρ') (id := id2) rfl hm (fun _ _ => rfl) (fun _ _ => rfl)
  -- every object of the new heap is one of the old
  have conv : ∀ {k p}, ((id2, ob) :: σ.heap.filter fun p => p.1 != id : Heap).lookup k = some p → ∃ k', σ.heap.lookup k' = some p ∧ ρ' k = ρ k' ∧ (k' = if k = id2 then id else k) ∧ p.No id2 := fun {k p} hp => by
    rcases lookup_put hp with ⟨rfl, rfl⟩ | ⟨hk, hp⟩
    · exact ⟨id, hob, hm2, (if_pos rfl).symm, (hf.heap.get hob).2⟩
    · obtain ⟨f1, f2⟩ := filter_lookup hp
      exact ⟨k, f2, hm k hk, (if_neg hk).symm, (hf.heap.get f2).2⟩
  refine ⟨ρ', ⟨hs.size, hs.defers, ⟨hs.below.old, hs.below.same, fun k hk => (hs.below.ids k hk).trans ⟨hm k (fun e => by have := hf.small; omega), rfl, rfl, rfl⟩⟩, ⟨hs.mem.base, hs.mem.low, hs.mem.lt, ?_, ?_, ?_, ?_⟩, fun t' s ht' => ?_⟩⟩
  · intro k p hp
    obtain ⟨k', h1, h2, _⟩ := conv hp
    rw [h2]; exact hs.mem.cap k' p h1
  · intro k p hp hc
    obtain ⟨k', h1, h2, _, h4⟩ := conv hp
    rw [h2] at hc ⊢
    obtain ⟨cs, e, g1, g2, g3, g4, g5, g6, g7⟩ := hs.mem.obj k' p h1 hc
    refine ⟨cs, e, g1, g2, g3, g4, g5, g6, fun i j hi hj => ?_⟩
    obtain ⟨u, hu, hr⟩ := g7 i j hi hj
    exact ⟨u, hu, hkeep (h4.at_ i j) hr⟩
  · intro k k' p p' hp hp' hkk hc hc'
    obtain ⟨q, h1, h2, h3, _⟩ := conv hp
    obtain ⟨q', h1', h2', h3', _⟩ := conv hp'
    rw [h2] at hc ⊢
    rw [h2'] at hc' ⊢
    refine hs.mem.inj q q' p p' h1 h1' (fun e => hkk ?_) hc hc'
    have f1 : k ≠ id := fun e => by
      subst e
      rcases lookup_put hp with ⟨e, _⟩ | ⟨_, hp⟩
      · exact hne e
      · exact (filter_lookup hp).1 rfl
    have f2 : k' ≠ id := fun e => by
      subst e
      rcases lookup_put hp' with ⟨e, _⟩ | ⟨_, hp'⟩
      · exact hne e
      · exact (filter_lookup hp').1 rfl
    rw [h3, h3'] at e
    by_cases a1 : k = id2 <;> by_cases a2 : k' = id2
    · rw [a1, a2]
    · rw [if_pos a1, if_neg a2] at e; exact absurd e.symm f2
    · rw [if_neg a1, if_pos a2] at e; exact absurd e f1
    · rwa [if_neg a1, if_neg a2] at e
  · refine hs.mem.treeOf (Nat.le_refl _) (fun k n' X hX => ?_) (fun k n' X i b hX hi hb => ⟨rfl, (((hs.mem.tree k n' X hX i hi).2) b hb).2.1, (((hs.mem.tree k n' X hX i hi).2) b hb).2.2.1⟩) (fun k p hp hc => ?_)
    · rcases lookup_put hX with ⟨_, rfl⟩ | ⟨_, hX⟩
      · cases hT
      · exact ⟨X, (filter_lookup hX).2, fun _ _ => rfl, rfl, rfl, rfl⟩
    · obtain ⟨k', h1, h2, _⟩ := conv hp
      rw [h2] at hc ⊢
      exact .inr fun k4 n4 X4 i4 hX4 hi4 hb4 => ((hs.mem.tree k4 n4 X4 hX4 i4 hi4).2 _ hb4).2.2.2.1 k' p h1 hc rfl
  · rcases lookup_put ht' with ⟨rfl, rfl⟩ | ⟨_, ht2⟩
    · have h := hs.env _ _ ht
      show ∃ A, _ = Value.slice A n (ρ' id2).2 ∧ n ≤ (ρ' id2).2 ∧ (ρ' id2).2 ≤ maxLen ∧ (A = some ⟨(ρ' id2).1, 0, none⟩ ∨ (A = none ∧ (ρ' id2).2 = 0))
      rw [hm2]; exact h
    · exact RS.noB (ρ := ρ) (ρ' := ρ') (id := id2) rfl hm (fun _ _ => rfl) (fun _ _ => rfl) (List.all_eq_true.1 hf.env _ (lookup_mem ht2)) (hs.env t' s ht2)
theorem AW.moveRow {c : Code} {Q : Exit → Sig → Prop} (t id id2 sz n : Nat) {ob : AObj} (ht : σ.env.lookup t = some (.one (.own id sz n))) (hob : σ.heap.lookup id = some ob) (hT : ob.isT = false) (hf : Fr id2 σ)
    (h : AW P N w0 c Q ⟨(t, .one (.own id2 sz n)) :: σ.env, (id2, ob) :: σ.heap.filter fun p => p.1 != id⟩) : AW P N w0 c Q σ := by
  intro ρ S a w Q' hQ hs
  obtain ⟨ρ', hs'⟩ := hs.moveRow ht hob hT hf
  exact h ρ' S a w Q' hQ hs'
theorem ARun.moveRow (t id id2 sz n : Nat) {ob : AObj} (ht : σ.env.lookup t = some (.one (.own id sz n))) (hob : σ.heap.lookup id = some ob) (hT : ob.isT = false) (hf : Fr id2 σ)
    (h : ARun P N w0 ops Q rest ⟨(t, .one (.own id2 sz n)) :: σ.env, (id2, ob) :: σ.heap.filter fun p => p.1 != id⟩) : ARun P N w0 ops Q rest σ := by
  intro ρ S a w Q' hQ hs
  obtain ⟨ρ', hs'⟩ := hs.moveRow ht hob hT hf
  exact h ρ' S a w Q' hQ hs'
/-- slices.overlaps, of two rows of the walk's own. -/
theorem PureOp.overlaps {g : FuncId} {fn : Func} {ts : Array TypeId} {tS tR : TypeId} {x y : Operand} {id id2 sz n q n2 : Nat} {ob ob2 : AObj} (ho : o.op = .call { callee := .value (.func g), args := #[x, y], argTypes := ts })
    (hfn : P.funcs[g]? = some fn) (hname : (fn.name == "runtime.NumGoroutine") = false) (hb : fn.body.isNone = true) (hnx : Extern.findNext fn = none) (he : Extern.find fn = some (Extern.SlicesOverlaps.overlaps #[tS, tS] #[tR]))
    (hel : elemB P tS sz = true) (h0 : 0 < sz) (hx : Kn σ x (.one (.own id sz n))) (hy : Kn σ y (.one (.tl id2 sz q n2))) (hn : 0 < n) (hq : q < n2) (hob : σ.heap.lookup id = some ob) (hob2 : σ.heap.lookup id2 = some ob2) (hsz : ob.sz = sz) (hsz2 : ob2.sz = sz) (hne : id ≠ id2) : PureOp P o σ (.one (.bool false)) := by
  refine PureOp.val fun N w0 ρ S ac w hs => ⟨.bool false, rfl, fun w' hb' => ?_⟩
  obtain ⟨A, e1, h1, h2, h3⟩ := hx.sound hs
  obtain ⟨B, e2, h4, h5, h6, h7⟩ := hy.sound hs
  have hA : A = some ⟨(ρ id).1, 0, none⟩ := by rcases h3 with h | ⟨_, h⟩; (· exact h); (· omega)
  have hB : B = some ⟨(ρ id2).1, q * sz, none⟩ := by rcases h7 with h | h; (· exact h); (· omega)
  subst hA hB
  have c1 : (ρ id).2 ≠ 0 := by omega
  have c2 : (ρ id2).2 ≠ 0 := by omega
  obtain ⟨cs, e, g1, g2, _⟩ := hs.mem.obj id ob hob c1
  obtain ⟨cs2, e', g1', g2', _⟩ := hs.mem.obj id2 ob2 hob2 c2
  have hlt := hs.mem.blk hob c1
  have hlt2 := hs.mem.blk hob2 c2
  rw [← hb'.block _ hlt] at g1
  rw [← hb'.block _ hlt2] at g1'
  rw [hsz] at g2
  rw [hsz2] at g2'
  obtain ⟨el, i, hu, hi, hsi⟩ := elemB_spec hel
  have eg : ac.eval (.func g) = .func (.func g) #[] #[] := rfl
  generalize ac.eval = ev at e1 e2 eg ⊢
  have hrun := Lib.run_overlaps_apart (P := P) w' tS tR el hu sz (fun w => by rw [← hsi]; exact run_sizeOf' hi w) ⟨(ρ id).1, 0, none⟩ ⟨(ρ id2).1, q * sz, none⟩ n (ρ id).2 (n2 - q) ((ρ id2).2 - q) (hs.mem.inj id id2 ob ob2 hob hob2 hne c1 c2) e e' cs.size cs2.size
    (by simp [World.shape?, g1]) (by simp [World.shape?, g1']) (by rw [g2']; exact Nat.mul_ne_zero c2 (by omega)) (by simp [World.frozen?, g1]) (by simp [World.frozen?, g1])
  have hcall : (callFunc g #[.slice (some ⟨(ρ id).1, 0, none⟩) n (ρ id).2, .slice (some ⟨(ρ id2).1, q * sz, none⟩) (n2 - q) ((ρ id2).2 - q)]).run P w' = .ok (.value (.bool false)) w' := by
    rw [run_callFunc_extern hfn hname hb hnx he, hrun]; rfl
  simp [execOp, ho, resolve, invoke, Deferred.ofValue, eg, e1, e2, hcall]
end
end Go.Proofs.Ytmfkmifkkplidaa


/-
  A calculus for walks, part 42: append of zeros by their number, where there is no room: a new row.
-/
namespace Go.Proofs.Ytmfkmifkkplidaa
open Go.ChangeShapes Go.WideShapes Go.ChangeAt Go.RowKit Go.BigFrame Go.Deep
set_option linter.unusedVariables false

set_option linter.unusedSimpArgs false
section
variable {P : Program} {N : Nat} {w0 : Start} {σ : Sig} {ops : Array Oper} {rest : List Oper} {o : Oper} {Q : Sig → Prop}
theorem ARun.appendZ {t tn : TypeId} {x y : Operand} {d id id0 sz n k by_ : Nat} {z : Value} {kn kq : IntKind} {m : Int} {f : Nat → Nat → AV} {ob : AObj} (ho : o.op = .call { callee := .builtin .append, args := #[x, y], argTypes := #[t, tn] })
    (hz : elemZ P t = some (some z, sz, by_)) (hzc : z.cells.size = sz) (htn : P.underlying tn = some (.int kn)) (hx : Kn σ x (.one (.own id0 sz n))) (hob : σ.heap.lookup id0 = some ob) (hobs : ob.sz = sz) (hobn : n ≤ ob.n) (hobf : ∀ i j, i < n → j < sz → ob.f i j = f i j)
    (hy : Kn σ y (.one (.int kq m))) (hm : m = (k : Int)) (hk0 : 0 < k) (hid : Nat.ble 1000000 id0 = true) (hgrow : (w0.ρ id0).2 < n + k) (hsz : 0 < sz) (hlim : (n + k) * by_ ≤ 140737488355328) (h63 : n + k ≤ 9223372036854775807) (hf : Fr id σ) (hno : ∀ i j, (f i j).no id = true)
    (hg : o.guard = none) (hd : o.dst = some d) (hN : d < N) (hk : ∀ gg : Nat → Nat → Value, ARun P N w0 ops Q rest ⟨(d, .one (.own id sz (n + k))) :: σ.env, (id, .arr sz (n + k) fun i j => if i < n then f i j else .con (gg i j)) :: σ.heap⟩) : ARun P N w0 ops Q (o :: rest) σ := by
  subst hm
  intro ρ S a w Q' hQ hs
  refine wpList_plain hg fun K hK => ?_
  obtain ⟨e, i, hu, hi, hz0, hz1, hz2⟩ := elemZ_spec hz
  subst hz1 hz2
  obtain ⟨A, ev, hnc, hcm, hA⟩ := hx.sound hs
  have ev2 : a.eval y = .int kq (k : Int) := hy.sound hs
  have hρ : (ρ id0).2 = (w0.ρ id0).2 := by rw [(hs.below.ids id0 (Nat.le_of_ble_eq_true hid)).m]
  have hgr : (ρ id0).2 < n + k := by rw [hρ]; exact hgrow
  have hold2 : ∃ olds : List Value, (Builtin.firstCells i.size n (.slice A n (ρ id0).2)).run P w.drew = .ok olds.toArray w.drew ∧ olds.length = n * i.size ∧ ∀ k j, k < n → j < i.size → ∃ u, olds[k * i.size + j]? = some u ∧ R ρ w S (f k j) u := by
    by_cases hn0 : n = 0
    · subst hn0
      refine ⟨[], ?_, by simp, fun k j hk => absurd hk (by omega)⟩
      rcases hA with rfl | ⟨rfl, _⟩
      · exact run_firstCells_some w.drew i.size 0 _ 0 _ [] (by simp) (fun j u hj => by simp at hj)
      · exact run_firstCells_none w.drew i.size 0 0 _
    · have hc0 : (ρ id0).2 ≠ 0 := by omega
      obtain ⟨cs, e', hblk, hcsz, h3, h4, h5, h6, h7⟩ := hs.mem.obj id0 ob hob hc0
      have hA' : A = some ⟨(ρ id0).1, 0, none⟩ := by rcases hA with h | ⟨_, h⟩; (· exact h); (· exact absurd h hc0)
      subst hA'
      rw [hobs] at hcsz
      have hle : n * i.size ≤ cs.size := by rw [hcsz]; exact Nat.mul_le_mul_right _ hnc
      refine ⟨cs.toList.take (n * i.size), run_firstCells_some w.drew i.size n _ n _ _ (by simp; omega) (fun j u hj => ?_), by simp; omega, fun k j hk hj => ?_⟩
      · rw [List.getElem?_take] at hj
        split at hj
        · rw [Addr.add_lit]
          have : cs[j]? = some u := by simpa using hj
          show w.cell? ⟨_, 0 + j, none⟩ = some u
          simp [World.cell?, hblk, this]
        · cases hj
      · obtain ⟨u, hu1, hr1⟩ := h7 k j (by omega) (by rw [hobs]; exact hj)
        rw [hobs] at hu1
        rw [hobf k j hk hj] at hr1
        refine ⟨u, ?_, hr1⟩
        rw [List.getElem?_take, if_pos (cell_lt hk hj)]
        simpa using hu1
  obtain ⟨olds, ho1, ho2, ho3⟩ := hold2
  have hrun := Lib.run_append_grow_zeros (P := P) w t tn o.type e i z kq kn hu htn hi hz0 A n (ρ id0).2 olds ho1 k hk0 hsz hgr (by omega) (by have := Nat.mul_le_mul_right i.bytes (show k ≤ n + k by omega); omega) (growslice_fits hgr hlim)
  have hsw := hs.world (w' := w.drew) ((Below.refl _ _).drew)
  have hcapge := grownCap_ge w (n + k) (ρ id0).2 e
  have hcaple := grownCap_le_maxLen w (n + k) (ρ id0).2 e (by unfold maxLen; omega)
  generalize hcap : grownCap w (n + k) (ρ id0).2 e = cap' at hrun hcapge hcaple
  generalize hcs : olds.toArray ++ Builtin.zeroCells z.cells k ++ Builtin.zeroCells z.cells (cap' - (n + k)) = cs' at hrun
  have hcsz : cs'.size = cap' * i.size := by
    rw [← hcs, Array.size_append, Array.size_append, size_zeroCells, size_zeroCells, hzc]
    simp only [List.size_toArray, ho2]
    rw [← Nat.add_mul, ← Nat.add_mul]
    congr 1; omega
  have hget : ∀ r j, r < n + k → j < i.size → cs'[r * i.size + j]? = some (cs'.getD (r * i.size + j) undef) := fun r j hr hj => by
    have hlt : r * i.size + j < cs'.size := by rw [hcsz]; exact cell_lt (by omega) hj
    simp [hlt]
  obtain ⟨ρ', e1, e2, e3, hs'⟩ := hsw.newA hf (o := .arr i.size (n + k) fun r j => if r < n then f r j else .con (cs'.getD (r * i.size + j) undef)) (cs := cs') (e := e) (cap := cap') rfl hcsz hcapge hcaple (fun r j hr hj => by
    have hr : r < n + k := hr
    have hj : j < i.size := hj
    show ∃ u, cs'[r * i.size + j]? = some u ∧ R ρ w.drew S (if r < n then f r j else .con (cs'.getD (r * i.size + j) undef)) u
    have hkeep : ∀ {x : AV} {u : Value}, R ρ w S x u → R ρ w.drew S x u := fun hr => hr.keep (hs.mem.same ((Below.refl _ _).drew)) (Rn.refl _ _)
    by_cases hrn : r < n
    · rw [if_pos hrn]
      obtain ⟨u, hu1, hr1⟩ := ho3 r j hrn hj
      refine ⟨u, ?_, hkeep hr1⟩
      have hlt : r * i.size + j < olds.length := by rw [ho2]; exact cell_lt hrn hj
      rw [← hcs, Array.append_assoc, Array.getElem?_append_left (by simpa using hlt)]
      simpa using hu1
    · rw [if_neg hrn]
      exact ⟨_, hget r j hr hj, rfl⟩) (fun r j => by
    show (if r < n then f r j else AV.con _).no id = true
    split
    · exact hno r j
    · rfl)
  have hr2 : (execOp a.eval o).run P w = .ok (.value (.slice (some ⟨w.heap.size, 0, none⟩) (n + k) cap')) (w.drew.alloc (.cells cs' e)) := by
    generalize a.eval = ev' at ev ev2
    simp only [execOp, ho, resolve, Sem.run_bind, Sem.run_pure, Result.andThen_ok, invoke, builtin, List.map_toArray, List.map_cons, List.map_nil, Array.empty_append, ev, ev2, hrun]
  unfold Oper.wp
  rw [hr2]
  simp only [Oper.upon, hd]
  refine hK _ _ (hk (fun r j => cs'.getD (r * i.size + j) undef) ρ' S _ _ Q' hQ (St.put (σ := ⟨σ.env, _⟩) (by exact hs') hN (s := .one (.own id i.size (n + k))) ?_))
  show ∃ A, Value.slice _ _ _ = .slice A (n + k) (ρ' id).2 ∧ n + k ≤ (ρ' id).2 ∧ (ρ' id).2 ≤ maxLen ∧ (A = some ⟨(ρ' id).1, 0, none⟩ ∨ (A = none ∧ (ρ' id).2 = 0))
  rw [e1]
  exact ⟨_, rfl, hcapge, hcaple, .inl rfl⟩
end
end Go.Proofs.Ytmfkmifkkplidaa


/-
  slices.Insert of one row.
-/
namespace Go.Proofs.Ytmfkmifkkplidaa
open Go.ChangeShapes Go.WideShapes Go.ChangeAt Go.RowKit Go.BigFrame Go.Deep
set_option linter.unusedVariables false
set_option linter.unusedSimpArgs false
theorem vin_el_27_2 : elemB Try.prog 27 2 = true := by kernel_rfl
theorem vin_sl_27 : sliceB Try.prog 27 = true := by kernel_rfl
/-- What stands behind an insertion at place i. -/
def insF (f g : Nat → Nat → AV) (i a b : Nat) : AV := if a < i then f a b else if a = i then g 0 b else f (a - 1) b
/-- Cells that may be copied, and name no object that a walk makes. -/
structure CellsOk (f : Nat → Nat → AV) : Prop where
  oc : ∀ a b, b < 2 → (f a b).oc = true
  no : ∀ k, k < 1000000 → ∀ a b, (f a b).no k = true
theorem AW.growK {P : Program} {N : Nat} {w0 : Start} {σ : Sig} {c : Code} {Q : Exit → Sig → Prop} (id sz n k : Nat) (f : Nat → Nat → AV) (hob : σ.heap.lookup id = some (.arr sz n f)) (hid : Nat.ble 1000000 id = true) (hk : k ≤ (w0.ρ id).2)
    (h : ∀ gg : Nat → Nat → Value, AW P N w0 c Q ⟨σ.env, (id, .arr sz k fun i j => if i < n then f i j else .con (gg i j)) :: σ.heap⟩) : AW P N w0 c Q σ := by
  intro ρ S a w Q' hQ hs
  have hρ : (ρ id).2 = (w0.ρ id).2 := by rw [(hs.below.ids id (Nat.le_of_ble_eq_true hid)).m]
  obtain ⟨h1, gg, h2⟩ := hs.growH hob
  rw [hρ] at h1 h2
  refine h gg ρ S a w Q' hQ ⟨h2.size, h2.defers, h2.below, h2.mem.le' fun q p hp => ?_, h2.env⟩
  rcases lookup_put hp with ⟨rfl, rfl⟩ | ⟨hne, hp⟩
  · exact ⟨.arr sz (w0.ρ q).2 fun i j => if i < n then f i j else .con (gg i j), by simp, rfl, hk, fun _ _ _ _ => rfl⟩
  · exact HLe.refl (by rw [List.lookup_cons, show (q == id) = false by simpa using hne]; exact hp)
theorem v_InsertRow (f g : Nat → Nat → AV) (n i : Nat) (hi : i ≤ n ∧ n ≤ 8) (hf : CellsOk f) (hg : CellsOk g) : FnG Try.prog 79 [.one (.own 1000001 2 n), .one (.int .i64 (i : Int)), .one (.own 1000003 2 1)] [(1000001, .arr 2 n f), (1000003, .arr 2 1 g)] (.one (.own 77 2 (n + 1))) [(77, .arr 2 (n + 1) (insF f g i))] := by
  obtain ⟨hi0, hn8⟩ := hi
  refine FnG.of_body (fn := Try.f79) Try.func79 rfl (Nat.le_of_ble_eq_true rfl) ?_
  intro w0
  show AW _ 95 _ _ _ _
  refine AW.seq ?_
  refine AW.region ?_
  refine ARun.pure (PureOp.assign rfl .con) rfl rfl (Nat.le_of_ble_eq_true rfl) ?_
  refine ARun.nil ?_
  refine AW.seq ?_
  refine AW.region ?_
  refine ARun.pure (PureOp.move rfl (.tmp rfl)) rfl rfl (Nat.le_of_ble_eq_true rfl) ?_
  refine ARun.pure (PureOp.move rfl (.tmp rfl)) rfl rfl (Nat.le_of_ble_eq_true rfl) ?_
  refine ARun.pure (PureOp.dropOwn (k := i) rfl (.tmp rfl) (.tmp rfl) rfl (show _ ≤ _ from by omega) vin_el_27_2) rfl rfl (Nat.le_of_ble_eq_true rfl) ?_
  refine ARun.nil ?_
  refine AW.seq ?_
  refine AW.region ?_
  refine ARun.pure (PureOp.move rfl (.tmp rfl)) rfl rfl (Nat.le_of_ble_eq_true rfl) ?_
  refine ARun.pure (PureOp.lenOwn rfl (.tmp rfl) vin_sl_27) rfl rfl (Nat.le_of_ble_eq_true rfl) ?_
  refine ARun.pure (PureOp.assign rfl (.tmp rfl)) rfl rfl (Nat.le_of_ble_eq_true rfl) ?_
  refine ARun.nil ?_
  refine AW.seq ?_
  refine AW.seq ?_
  refine AW.region ?_
  refine ARun.pure (PureOp.move rfl (.tmp rfl)) rfl rfl (Nat.le_of_ble_eq_true rfl) ?_
  refine ARun.pure (PureOp.intOp rfl (.tmp rfl) .int rfl) rfl rfl (Nat.le_of_ble_eq_true rfl) ?_
  refine ARun.nil ?_
  refine AW.cond (.tmp rfl) (fun hb1 => ?_) (fun hb1 => ?_)
  · have _u := True.intro
    exact absurd hb1 (by decide)
    --end
  · have _u := True.intro
    refine AW.skip ?_
    refine AW.seq ?_
    refine AW.region ?_
    refine ARun.pure (PureOp.move rfl (.tmp rfl)) rfl rfl (Nat.le_of_ble_eq_true rfl) ?_
    refine ARun.pure (PureOp.lenOwn rfl (.tmp rfl) vin_sl_27) rfl rfl (Nat.le_of_ble_eq_true rfl) ?_
    refine ARun.pure (PureOp.assign rfl (.tmp rfl)) rfl rfl (Nat.le_of_ble_eq_true rfl) ?_
    refine ARun.nil ?_
    refine AW.seq ?_
    refine AW.seq ?_
    refine AW.region ?_
    refine ARun.pure (PureOp.move rfl (.tmp rfl)) rfl rfl (Nat.le_of_ble_eq_true rfl) ?_
    refine ARun.pure (PureOp.move rfl (.tmp rfl)) rfl rfl (Nat.le_of_ble_eq_true rfl) ?_
    refine ARun.pure (PureOp.intOp rfl (.tmp rfl) (.tmp rfl) rfl) rfl rfl (Nat.le_of_ble_eq_true rfl) ?_
    refine ARun.nil ?_
    refine AW.cond (.tmp rfl) (fun hb2 => ?_) (fun hb2 => ?_)
    · have _u := True.intro
      replace hb2 := of_decide_eq_true hb2
      have hin : i = n := by omega
      refine AW.seq ?_
      refine AW.region ?_
      refine ARun.pure (PureOp.move rfl (.tmp rfl)) rfl rfl (Nat.le_of_ble_eq_true rfl) ?_
      refine ARun.pure (PureOp.move rfl (.tmp rfl)) rfl rfl (Nat.le_of_ble_eq_true rfl) ?_
      refine ARun.append (id := 0) (sz := 2) (n := n) (m := 1) (by_ := 40) (z := (.agg #[.string ByteArray.empty, .slice none 0 0])) (f := f) (g := g) (h := fun ia ja => if ia < n then (f : Nat → Nat → AV) ia ja else (g : Nat → Nat → AV) (ia - n) ja) rfl (by kernel_rfl) rfl vin_sl_27 (.own (.tmp rfl) rfl rfl rfl (Nat.le_refl _) (fun _ _ _ _ => rfl)) (.own (.tmp rfl) rfl rfl (Nat.le_refl _) (fun _ _ _ _ => rfl)) (by decide) (fun _ _ _ hj_ => hg.oc _ _ hj_) (fun _ _ _ _ => rfl) (by omega) (by omega) ⟨rfl, (by repeat first | exact trivial | refine ⟨by decide, by first | exact hf.no _ (by decide) | exact hg.no _ (by decide) | (intro a b; (try dsimp only); (repeat' split) <;> first | rfl | exact hf.no _ (by decide) _ _ | exact hg.no _ (by decide) _ _), ?_⟩)⟩ (fun a b => by (try dsimp only); (repeat' split) <;> first | exact hf.no _ (by decide) _ _ | exact hg.no _ (by decide) _ _) rfl rfl (Nat.le_of_ble_eq_true rfl) ?_
      refine ARun.pure (PureOp.assign rfl (.tmp rfl)) rfl rfl (Nat.le_of_ble_eq_true rfl) ?_
      refine ARun.nil ?_
      refine AW.moveRow 6 0 77 2 (n + 1) rfl rfl rfl ⟨rfl, (by repeat first | exact trivial | refine ⟨by decide, by first | exact hf.no _ (by decide) | exact hg.no _ (by decide) | (intro a b; (try dsimp only); (repeat' split) <;> first | rfl | exact hf.no _ (by decide) _ _ | exact hg.no _ (by decide) _ _), ?_⟩)⟩ ?_
      refine AW.ret (show ResL _ _ [.tmp 6] _ ∧ HeapLe _ _ from ⟨resO rfl ?_, ⟨⟨_, rfl, rfl, (show n + 1 ≤ (n + 1) from by omega), fun a b (ha : a < n + 1) hb => by show (fun ia ja => if ia < n then (f : Nat → Nat → AV) ia ja else (g : Nat → Nat → AV) (ia - n) ja : Nat → Nat → AV) a b = insF f g i a b; unfold insF; (try dsimp only); (repeat' split) <;> first | rfl | omega | exact congrArg (fun q => f q b) (by omega) | exact congrArg (fun q => g q b) (by omega)⟩, trivial⟩⟩)
      show _ = _
      omega
    · have _u := True.intro
      replace hb2 := of_decide_eq_false hb2
      have hin : ¬ i = n := by omega
      refine AW.skip ?_
      refine AW.seq ?_
      refine AW.seq ?_
      refine AW.region ?_
      refine ARun.pure (PureOp.move rfl (.tmp rfl)) rfl rfl (Nat.le_of_ble_eq_true rfl) ?_
      refine ARun.pure (PureOp.move rfl (.tmp rfl)) rfl rfl (Nat.le_of_ble_eq_true rfl) ?_
      refine ARun.pure (PureOp.add (c := ((n + 1 : Nat) : Int)) rfl (.tmp rfl) (.tmp rfl) (by rw [wrap_id (by omega) (by omega)]; omega)) rfl rfl (Nat.le_of_ble_eq_true rfl) ?_
      refine ARun.pure (PureOp.move rfl (.tmp rfl)) rfl rfl (Nat.le_of_ble_eq_true rfl) ?_
      refine ARun.capH (id := 1000001) rfl (.tmp rfl) rfl vin_sl_27 rfl rfl (Nat.le_of_ble_eq_true rfl) (fun hcap3 hcap4 => ?_)
      refine ARun.pure (PureOp.intOp rfl (.tmp rfl) (.tmp rfl) rfl) rfl rfl (Nat.le_of_ble_eq_true rfl) ?_
      refine ARun.nil ?_
      refine AW.cond (.tmp rfl) (fun hb5 => ?_) (fun hb5 => ?_)
      · have _u := True.intro
        replace hb5 := of_decide_eq_true hb5
        refine AW.seq ?_
        refine AW.region ?_
        refine ARun.pure (PureOp.move rfl (.tmp rfl)) rfl rfl (Nat.le_of_ble_eq_true rfl) ?_
        refine ARun.pure (PureOp.move rfl (.tmp rfl)) rfl rfl (Nat.le_of_ble_eq_true rfl) ?_
        refine ARun.pure (PureOp.takeOwn (k := i) rfl (.tmp rfl) (.tmp rfl) rfl (show _ ≤ _ from by omega) vin_el_27_2) rfl rfl (Nat.le_of_ble_eq_true rfl) ?_
        refine ARun.pure (PureOp.move rfl (.tmp rfl)) rfl rfl (Nat.le_of_ble_eq_true rfl) ?_
        refine ARun.pure (PureOp.move rfl (.tmp rfl)) rfl rfl (Nat.le_of_ble_eq_true rfl) ?_
        refine ARun.pure (PureOp.add (c := ((n + 1 : Nat) : Int)) rfl (.tmp rfl) (.tmp rfl) (by rw [wrap_id (by omega) (by omega)]; omega)) rfl rfl (Nat.le_of_ble_eq_true rfl) ?_
        refine ARun.pure (PureOp.move rfl (.tmp rfl)) rfl rfl (Nat.le_of_ble_eq_true rfl) ?_
        refine ARun.pure (PureOp.sub (c := ((n + 1 - i : Nat) : Int)) rfl (.tmp rfl) (.tmp rfl) (by rw [wrap_id (by omega) (by omega)]; omega)) rfl rfl (Nat.le_of_ble_eq_true rfl) ?_
        refine ARun.appendZ (id := 1) (sz := 2) (n := i) (k := (n + 1 - i)) (by_ := 40) (z := (.agg #[.string ByteArray.empty, .slice none 0 0])) (f := f) rfl (by kernel_rfl) rfl Try.underlying3 (.tmp rfl) rfl rfl (show i ≤ n from hi0) (fun _ _ _ _ => rfl) (.tmp rfl) rfl (by omega) rfl (by omega) (by decide) (by omega) (by omega) ⟨rfl, (by repeat first | exact trivial | refine ⟨by decide, by first | exact hf.no _ (by decide) | exact hg.no _ (by decide) | (intro a b; (try dsimp only); (repeat' split) <;> first | rfl | exact hf.no _ (by decide) _ _ | exact hg.no _ (by decide) _ _), ?_⟩)⟩ (hf.no _ (by decide)) rfl rfl (Nat.le_of_ble_eq_true rfl) (fun gg6 => ?_)
        refine ARun.pure (PureOp.assign rfl (.tmp rfl)) rfl rfl (Nat.le_of_ble_eq_true rfl) ?_
        refine ARun.nil ?_
        refine AW.seq ?_
        refine AW.region ?_
        refine ARun.pure (PureOp.move rfl (.tmp rfl)) rfl rfl (Nat.le_of_ble_eq_true rfl) ?_
        refine ARun.pure (PureOp.move rfl (.tmp rfl)) rfl rfl (Nat.le_of_ble_eq_true rfl) ?_
        refine ARun.pure (PureOp.dropOwn (k := i) rfl (.tmp rfl) (.tmp rfl) rfl (show _ ≤ _ from by omega) vin_el_27_2) rfl rfl (Nat.le_of_ble_eq_true rfl) ?_
        refine ARun.pure (PureOp.move rfl (.tmp rfl)) rfl rfl (Nat.le_of_ble_eq_true rfl) ?_
        refine ARun.copyN (id := 1) (sz := 2) (q := i) (n := (i + (n + 1 - i))) (m := 1) (r := 1) (f := fun ia_ ja_ => if ia_ < i then (f : Nat → Nat → AV) ia_ ja_ else .con (gg6 ia_ ja_)) (g := g) rfl vin_el_27_2 (by decide) (.tl (.tmp rfl)) rfl (SrcOk.of (.own (.tmp rfl) rfl rfl (Nat.le_refl _) (fun _ _ _ _ => rfl))) (fun _ _ _ hj_ => hg.oc _ _ hj_) (show 1 = min 1 ((i + (n + 1 - i)) - i) from by omega) rfl (.inl rfl) (Nat.le_of_ble_eq_true rfl) ?_
        refine ARun.nil ?_
        refine AW.seq ?_
        refine AW.anyX [⟨[], [], [], []⟩, ⟨[], [], [], []⟩, ⟨[], [], [], []⟩, ⟨[], [], [], []⟩, ⟨[], [], [], []⟩, ⟨[], [], [], []⟩, ⟨[], [], [], []⟩, ⟨[], [], [], []⟩, ⟨[], [1, 1000001], [], [(1, .arr 2 (i + (n + 1 - i)) (fun ic_ jc_ => if (i + 1) ≤ ic_ ∧ ic_ < (i + 1) + (n - i) then (fun a_ b_ => f (i + a_) b_ : Nat → Nat → AV) (ic_ - (i + 1)) jc_ else (fun ic_ jc_ => if i ≤ ic_ ∧ ic_ < i + 1 then (g : Nat → Nat → AV) (ic_ - i) jc_ else (fun ia_ ja_ => if ia_ < i then (f : Nat → Nat → AV) ia_ ja_ else .con (gg6 ia_ ja_) : Nat → Nat → AV) ic_ jc_ : Nat → Nat → AV) ic_ jc_)), (1000001, .arr 2 n f)]⟩] (by kernel_rfl) (by kernel_rfl) (by kernel_rfl) ⟨⟨.inl rfl, .inr (.inr trivial), .inr (.inr trivial), .inr (.inr trivial), .inr (.inr trivial), .inr (.inr trivial), .inr (.inr trivial), .inr (.inr trivial), .inr (.inr trivial), trivial⟩, ⟨.inr (.inr trivial), .inl rfl, .inr (.inr trivial), .inr (.inr trivial), .inr (.inr trivial), .inr (.inr trivial), .inr (.inr trivial), .inr (.inr trivial), .inr (.inr trivial), trivial⟩, ⟨.inr (.inr trivial), .inr (.inr trivial), .inl rfl, .inr (.inr trivial), .inr (.inr trivial), .inr (.inr trivial), .inr (.inr trivial), .inr (.inr trivial), .inr (.inr trivial), trivial⟩, ⟨.inr (.inr trivial), .inr (.inr trivial), .inr (.inr trivial), .inl rfl, .inr (.inr trivial), .inr (.inr trivial), .inr (.inr trivial), .inr (.inr trivial), .inr (.inr trivial), trivial⟩, ⟨.inr (.inr trivial), .inr (.inr trivial), .inr (.inr trivial), .inr (.inr trivial), .inl rfl, .inr (.inr trivial), .inr (.inr trivial), .inr (.inr trivial), .inr (.inr trivial), trivial⟩, ⟨.inr (.inr trivial), .inr (.inr trivial), .inr (.inr trivial), .inr (.inr trivial), .inr (.inr trivial), .inl rfl, .inr (.inr trivial), .inr (.inr trivial), .inr (.inr trivial), trivial⟩, ⟨.inr (.inr trivial), .inr (.inr trivial), .inr (.inr trivial), .inr (.inr trivial), .inr (.inr trivial), .inr (.inr trivial), .inl rfl, .inr (.inr trivial), .inr (.inr trivial), trivial⟩, ⟨.inr (.inr trivial), .inr (.inr trivial), .inr (.inr trivial), .inr (.inr trivial), .inr (.inr trivial), .inr (.inr trivial), .inr (.inr trivial), .inl rfl, .inr (.inr trivial), trivial⟩, ⟨.inr (.inr trivial), .inr (.inr trivial), .inr (.inr trivial), .inr (.inr trivial), .inr (.inr trivial), .inr (.inr trivial), .inr (.inr trivial), .inr (.inr trivial), .inl rfl, trivial⟩, trivial⟩ ⟨trivial, trivial, trivial, trivial, trivial, trivial, trivial, trivial, trivial, trivial⟩ ?_
        refine ADX.pure [] (PureOp.move rfl (.tmp rfl)) rfl rfl (Nat.le_of_ble_eq_true rfl) trivial rfl ?_
        refine ADX.pure [] (PureOp.move rfl (.tmp rfl)) rfl rfl (Nat.le_of_ble_eq_true rfl) trivial rfl ?_
        refine ADX.pure [] (PureOp.move rfl (.tmp rfl)) rfl rfl (Nat.le_of_ble_eq_true rfl) trivial rfl ?_
        refine ADX.pure [] (PureOp.add (c := ((i + 1 : Nat) : Int)) rfl (.tmp rfl) (.tmp rfl) (by rw [wrap_id (by omega) (by omega)]; omega)) rfl rfl (Nat.le_of_ble_eq_true rfl) trivial rfl ?_
        refine ADX.pure [] (PureOp.dropOwn (k := i + 1) rfl (.tmp rfl) (.tmp rfl) rfl (show _ ≤ _ from by omega) vin_el_27_2) rfl rfl (Nat.le_of_ble_eq_true rfl) trivial rfl ?_
        refine ADX.pure [] (PureOp.move rfl (.tmp rfl)) rfl rfl (Nat.le_of_ble_eq_true rfl) trivial rfl ?_
        refine ADX.pure [] (PureOp.move rfl (.tmp rfl)) rfl rfl (Nat.le_of_ble_eq_true rfl) trivial rfl ?_
        refine ADX.pure [] (PureOp.dropOwn (k := i) rfl (.tmp rfl) (.tmp rfl) rfl (show _ ≤ _ from by omega) vin_el_27_2) rfl rfl (Nat.le_of_ble_eq_true rfl) trivial rfl ?_
        refine ADX.eff (tk := [1, 1000001]) (new := []) (s := .one (.int .i64 (((n - i) : Nat) : Int))) (F := [(54, .one (.int .i64 (((n - i) : Nat) : Int)))]) (Hin := [(1, .arr 2 (i + (n + 1 - i)) (fun ic_ jc_ => if i ≤ ic_ ∧ ic_ < i + 1 then (g : Nat → Nat → AV) (ic_ - i) jc_ else (fun ia_ ja_ => if ia_ < i then (f : Nat → Nat → AV) ia_ ja_ else .con (gg6 ia_ ja_) : Nat → Nat → AV) ic_ jc_)), (1000001, .arr 2 n f)]) (Hout := [(1, .arr 2 (i + (n + 1 - i)) (fun ic_ jc_ => if (i + 1) ≤ ic_ ∧ ic_ < (i + 1) + (n - i) then (fun a_ b_ => f (i + a_) b_ : Nat → Nat → AV) (ic_ - (i + 1)) jc_ else (fun ic_ jc_ => if i ≤ ic_ ∧ ic_ < i + 1 then (g : Nat → Nat → AV) (ic_ - i) jc_ else (fun ia_ ja_ => if ia_ < i then (f : Nat → Nat → AV) ia_ ja_ else .con (gg6 ia_ ja_) : Nat → Nat → AV) ic_ jc_ : Nat → Nat → AV) ic_ jc_)), (1000001, .arr 2 n f)]) (fun E X hE hX Q rest hk => ?_) ⟨rfl, rfl, trivial⟩ ⟨rfl, rfl⟩ rfl rfl rfl rfl trivial rfl (fun _ e => by cases e; exact Nat.le_of_ble_eq_true rfl) ?_
        · refine ARun.copyN (id := 1) (sz := 2) (q := i + 1) (n := (i + (n + 1 - i))) (m := (n - i)) (r := (n - i)) (f := fun ic_ jc_ => if i ≤ ic_ ∧ ic_ < i + 1 then (g : Nat → Nat → AV) (ic_ - i) jc_ else (fun ia_ ja_ => if ia_ < i then (f : Nat → Nat → AV) ia_ ja_ else .con (gg6 ia_ ja_) : Nat → Nat → AV) ic_ jc_) (g := fun a_ b_ => f (i + a_) b_) rfl vin_el_27_2 (by decide) (.tl (.tmp rfl)) rfl (SrcOk.tl (ob := (.arr 2 n (f))) (.tmp rfl) rfl rfl (Nat.le_refl _) rfl (fun _ _ _ _ => rfl)) (fun a_ b_ (ha_ : a_ < n - i) hb_ => by (try dsimp only); (repeat' split) <;> first | exact hf.oc _ _ hb_ | omega) (show n - i = min (n - i) ((i + (n + 1 - i)) - (i + 1)) from by omega) rfl (.inl rfl) (Nat.le_of_ble_eq_true rfl) ?_
          refine ARun.hleX ?_ ?_ hk
          · exact HeapLe.one rfl (HeapLe.one rfl trivial)
          · repeat (first | exact LkX.refl | refine LkX.cons (hX.none rfl) ?_ | refine LkX.filter (hX.none rfl) ?_)
        refine ADX.nil (H := [(1, .arr 2 (i + (n + 1 - i)) (fun ic_ jc_ => if (i + 1) ≤ ic_ ∧ ic_ < (i + 1) + (n - i) then (fun a_ b_ => f (i + a_) b_ : Nat → Nat → AV) (ic_ - (i + 1)) jc_ else (fun ic_ jc_ => if i ≤ ic_ ∧ ic_ < i + 1 then (g : Nat → Nat → AV) (ic_ - i) jc_ else (fun ia_ ja_ => if ia_ < i then (f : Nat → Nat → AV) ia_ ja_ else .con (gg6 ia_ ja_) : Nat → Nat → AV) ic_ jc_ : Nat → Nat → AV) ic_ jc_)), (1000001, .arr 2 n f), (1000003, .arr 2 1 g)]) ?_ ?_
        · exact HeapLe.one rfl (HeapLe.one rfl (HeapLe.one rfl trivial))
        refine AW.seq ?_
        refine AW.region ?_
        refine ARun.pure (PureOp.move rfl (.tmp rfl)) rfl rfl (Nat.le_of_ble_eq_true rfl) ?_
        refine ARun.pure (PureOp.assign rfl (.tmp rfl)) rfl rfl (Nat.le_of_ble_eq_true rfl) ?_
        refine ARun.nil ?_
        refine AW.moveRow 6 1 77 2 (i + (n + 1 - i)) rfl rfl rfl ⟨rfl, (by repeat first | exact trivial | refine ⟨by decide, by first | exact hf.no _ (by decide) | exact hg.no _ (by decide) | (intro a b; (try dsimp only); (repeat' split) <;> first | rfl | exact hf.no _ (by decide) _ _ | exact hg.no _ (by decide) _ _), ?_⟩)⟩ ?_
        refine AW.ret (show ResL _ _ [.tmp 6] _ ∧ HeapLe _ _ from ⟨resO rfl ?_, ⟨⟨_, rfl, rfl, (show n + 1 ≤ (i + (n + 1 - i)) from by omega), fun a b (ha : a < n + 1) hb => by show (fun ic_ jc_ => if (i + 1) ≤ ic_ ∧ ic_ < (i + 1) + (n - i) then (fun a_ b_ => f (i + a_) b_ : Nat → Nat → AV) (ic_ - (i + 1)) jc_ else (fun ic_ jc_ => if i ≤ ic_ ∧ ic_ < i + 1 then (g : Nat → Nat → AV) (ic_ - i) jc_ else (fun ia_ ja_ => if ia_ < i then (f : Nat → Nat → AV) ia_ ja_ else .con (gg6 ia_ ja_) : Nat → Nat → AV) ic_ jc_ : Nat → Nat → AV) ic_ jc_ : Nat → Nat → AV) a b = insF f g i a b; unfold insF; (try dsimp only); (repeat' split) <;> first | rfl | omega | exact congrArg (fun q => f q b) (by omega) | exact congrArg (fun q => g q b) (by omega)⟩, trivial⟩⟩)
        show _ = _
        omega
      · have _u := True.intro
        replace hb5 := of_decide_eq_false hb5
        refine AW.growK 1000001 2 n (n + 1) f rfl rfl (by omega) (fun gg0 => ?_)
        refine AW.skip ?_
        refine AW.seq ?_
        refine AW.region ?_
        refine ARun.pure (PureOp.move rfl (.tmp rfl)) rfl rfl (Nat.le_of_ble_eq_true rfl) ?_
        refine ARun.pure (PureOp.move rfl (.tmp rfl)) rfl rfl (Nat.le_of_ble_eq_true rfl) ?_
        refine ARun.pure (PureOp.move rfl (.tmp rfl)) rfl rfl (Nat.le_of_ble_eq_true rfl) ?_
        refine ARun.pure (PureOp.add (c := ((n + 1 : Nat) : Int)) rfl (.tmp rfl) (.tmp rfl) (by rw [wrap_id (by omega) (by omega)]; omega)) rfl rfl (Nat.le_of_ble_eq_true rfl) ?_
        refine ARun.pure (PureOp.growOwn (k := n + 1) rfl (.tmp rfl) (.tmp rfl) rfl rfl (Nat.le_refl _) vin_el_27_2) rfl rfl (Nat.le_of_ble_eq_true rfl) ?_
        refine ARun.pure (PureOp.assign rfl (.tmp rfl)) rfl rfl (Nat.le_of_ble_eq_true rfl) ?_
        refine ARun.nil ?_
        refine AW.seq ?_
        refine AW.seq ?_
        refine AW.region ?_
        refine ARun.pure (PureOp.move rfl (.tmp rfl)) rfl rfl (Nat.le_of_ble_eq_true rfl) ?_
        refine ARun.pure (PureOp.move rfl (.tmp rfl)) rfl rfl (Nat.le_of_ble_eq_true rfl) ?_
        refine ARun.pure (PureOp.move rfl (.tmp rfl)) rfl rfl (Nat.le_of_ble_eq_true rfl) ?_
        refine ARun.pure (PureOp.move rfl (.tmp rfl)) rfl rfl (Nat.le_of_ble_eq_true rfl) ?_
        refine ARun.pure (PureOp.add (c := ((i + 1 : Nat) : Int)) rfl (.tmp rfl) (.tmp rfl) (by rw [wrap_id (by omega) (by omega)]; omega)) rfl rfl (Nat.le_of_ble_eq_true rfl) ?_
        refine ARun.pure (PureOp.dropOwn (k := i + 1) rfl (.tmp rfl) (.tmp rfl) rfl (show _ ≤ _ from by omega) vin_el_27_2) rfl rfl (Nat.le_of_ble_eq_true rfl) ?_
        refine ARun.pure (PureOp.overlaps (fn := Try.f87) (tS := 27) (tR := 4) (id := 1000003) (id2 := 1000001) rfl Try.func87 (by kernel_rfl) (by kernel_rfl) (by kernel_rfl) (by kernel_rfl) vin_el_27_2 (by decide) (.tmp rfl) (.tmp rfl) (by omega) (by omega) rfl rfl rfl rfl (by decide)) rfl rfl (Nat.le_of_ble_eq_true rfl) ?_
        refine ARun.pure (PureOp.not rfl (.tmp rfl)) rfl rfl (Nat.le_of_ble_eq_true rfl) ?_
        refine ARun.nil ?_
        refine AW.cond (.tmp rfl) (fun hb7 => ?_) (fun hb7 => ?_)
        · have _u := True.intro
          refine AW.seq ?_
          refine AW.anyX [⟨[], [], [], []⟩, ⟨[], [], [], []⟩, ⟨[], [], [], []⟩, ⟨[], [], [], []⟩, ⟨[], [], [], []⟩, ⟨[], [], [], []⟩, ⟨[], [], [], []⟩, ⟨[], [], [], []⟩, ⟨[], [1000001], [], [(1000001, .arr 2 (n + 1) (fun ic_ jc_ => if (i + 1) ≤ ic_ ∧ ic_ < (i + 1) + (n - i) then (fun a_ b_ => if i + a_ < n then f (i + a_) b_ else .con (gg0 (i + a_) b_) : Nat → Nat → AV) (ic_ - (i + 1)) jc_ else (fun a_ b_ => if a_ < n then f a_ b_ else .con (gg0 a_ b_) : Nat → Nat → AV) ic_ jc_))]⟩] (by kernel_rfl) (by kernel_rfl) (by kernel_rfl) ⟨⟨.inl rfl, .inr (.inr trivial), .inr (.inr trivial), .inr (.inr trivial), .inr (.inr trivial), .inr (.inr trivial), .inr (.inr trivial), .inr (.inr trivial), .inr (.inr trivial), trivial⟩, ⟨.inr (.inr trivial), .inl rfl, .inr (.inr trivial), .inr (.inr trivial), .inr (.inr trivial), .inr (.inr trivial), .inr (.inr trivial), .inr (.inr trivial), .inr (.inr trivial), trivial⟩, ⟨.inr (.inr trivial), .inr (.inr trivial), .inl rfl, .inr (.inr trivial), .inr (.inr trivial), .inr (.inr trivial), .inr (.inr trivial), .inr (.inr trivial), .inr (.inr trivial), trivial⟩, ⟨.inr (.inr trivial), .inr (.inr trivial), .inr (.inr trivial), .inl rfl, .inr (.inr trivial), .inr (.inr trivial), .inr (.inr trivial), .inr (.inr trivial), .inr (.inr trivial), trivial⟩, ⟨.inr (.inr trivial), .inr (.inr trivial), .inr (.inr trivial), .inr (.inr trivial), .inl rfl, .inr (.inr trivial), .inr (.inr trivial), .inr (.inr trivial), .inr (.inr trivial), trivial⟩, ⟨.inr (.inr trivial), .inr (.inr trivial), .inr (.inr trivial), .inr (.inr trivial), .inr (.inr trivial), .inl rfl, .inr (.inr trivial), .inr (.inr trivial), .inr (.inr trivial), trivial⟩, ⟨.inr (.inr trivial), .inr (.inr trivial), .inr (.inr trivial), .inr (.inr trivial), .inr (.inr trivial), .inr (.inr trivial), .inl rfl, .inr (.inr trivial), .inr (.inr trivial), trivial⟩, ⟨.inr (.inr trivial), .inr (.inr trivial), .inr (.inr trivial), .inr (.inr trivial), .inr (.inr trivial), .inr (.inr trivial), .inr (.inr trivial), .inl rfl, .inr (.inr trivial), trivial⟩, ⟨.inr (.inr trivial), .inr (.inr trivial), .inr (.inr trivial), .inr (.inr trivial), .inr (.inr trivial), .inr (.inr trivial), .inr (.inr trivial), .inr (.inr trivial), .inl rfl, trivial⟩, trivial⟩ ⟨trivial, trivial, trivial, trivial, trivial, trivial, trivial, trivial, trivial, trivial⟩ ?_
          refine ADX.pure [] (PureOp.move rfl (.tmp rfl)) rfl rfl (Nat.le_of_ble_eq_true rfl) trivial rfl ?_
          refine ADX.pure [] (PureOp.move rfl (.tmp rfl)) rfl rfl (Nat.le_of_ble_eq_true rfl) trivial rfl ?_
          refine ADX.pure [] (PureOp.move rfl (.tmp rfl)) rfl rfl (Nat.le_of_ble_eq_true rfl) trivial rfl ?_
          refine ADX.pure [] (PureOp.add (c := ((i + 1 : Nat) : Int)) rfl (.tmp rfl) (.tmp rfl) (by rw [wrap_id (by omega) (by omega)]; omega)) rfl rfl (Nat.le_of_ble_eq_true rfl) trivial rfl ?_
          refine ADX.pure [] (PureOp.dropOwn (k := i + 1) rfl (.tmp rfl) (.tmp rfl) rfl (show _ ≤ _ from by omega) vin_el_27_2) rfl rfl (Nat.le_of_ble_eq_true rfl) trivial rfl ?_
          refine ADX.pure [] (PureOp.move rfl (.tmp rfl)) rfl rfl (Nat.le_of_ble_eq_true rfl) trivial rfl ?_
          refine ADX.pure [] (PureOp.move rfl (.tmp rfl)) rfl rfl (Nat.le_of_ble_eq_true rfl) trivial rfl ?_
          refine ADX.pure [] (PureOp.dropOwn (k := i) rfl (.tmp rfl) (.tmp rfl) rfl (show _ ≤ _ from by omega) vin_el_27_2) rfl rfl (Nat.le_of_ble_eq_true rfl) trivial rfl ?_
          refine ADX.eff (tk := [1000001]) (new := []) (s := .one (.int .i64 (((n - i) : Nat) : Int))) (F := [(77, .one (.int .i64 (((n - i) : Nat) : Int)))]) (Hin := [(1000001, .arr 2 (n + 1) (fun a_ b_ => if a_ < n then f a_ b_ else .con (gg0 a_ b_)))]) (Hout := [(1000001, .arr 2 (n + 1) (fun ic_ jc_ => if (i + 1) ≤ ic_ ∧ ic_ < (i + 1) + (n - i) then (fun a_ b_ => if i + a_ < n then f (i + a_) b_ else .con (gg0 (i + a_) b_) : Nat → Nat → AV) (ic_ - (i + 1)) jc_ else (fun a_ b_ => if a_ < n then f a_ b_ else .con (gg0 a_ b_) : Nat → Nat → AV) ic_ jc_))]) (fun E X hE hX Q rest hk => ?_) ⟨rfl, trivial⟩ ⟨rfl, rfl⟩ rfl rfl rfl rfl trivial rfl (fun _ e => by cases e; exact Nat.le_of_ble_eq_true rfl) ?_
          · refine ARun.copyN (id := 1000001) (sz := 2) (q := i + 1) (n := n + 1) (m := (n + 1 - i)) (r := (n - i)) (f := fun a_ b_ => if a_ < n then f a_ b_ else .con (gg0 a_ b_)) (g := fun a_ b_ => if i + a_ < n then f (i + a_) b_ else .con (gg0 (i + a_) b_)) rfl vin_el_27_2 (by decide) (.tl (.tmp rfl)) rfl (SrcOk.tl (ob := (.arr 2 (n + 1) (fun a_ b_ => if a_ < n then f a_ b_ else .con (gg0 a_ b_)))) (.tmp rfl) rfl rfl (show n + 1 ≤ (n + 1) from by omega) rfl (fun _ _ _ _ => rfl)) (fun a_ b_ (ha_ : a_ < n - i) hb_ => by (try dsimp only); (repeat' split) <;> first | exact hf.oc _ _ hb_ | omega) (show n - i = min (n + 1 - i) (n + 1 - (i + 1)) from by omega) rfl (.inl rfl) (Nat.le_of_ble_eq_true rfl) ?_
            refine ARun.hleX ?_ ?_ hk
            · exact HeapLe.one rfl trivial
            · repeat (first | exact LkX.refl | refine LkX.cons (hX.none rfl) ?_ | refine LkX.filter (hX.none rfl) ?_)
          refine ADX.nil (H := [(1000001, .arr 2 (n + 1) (fun ic_ jc_ => if (i + 1) ≤ ic_ ∧ ic_ < (i + 1) + (n - i) then (fun a_ b_ => if i + a_ < n then f (i + a_) b_ else .con (gg0 (i + a_) b_) : Nat → Nat → AV) (ic_ - (i + 1)) jc_ else (fun a_ b_ => if a_ < n then f a_ b_ else .con (gg0 a_ b_) : Nat → Nat → AV) ic_ jc_)), (1000003, .arr 2 1 g)]) ?_ ?_
          · exact HeapLe.one rfl (HeapLe.one rfl trivial)
          refine AW.seq ?_
          refine AW.region ?_
          refine ARun.pure (PureOp.move rfl (.tmp rfl)) rfl rfl (Nat.le_of_ble_eq_true rfl) ?_
          refine ARun.pure (PureOp.move rfl (.tmp rfl)) rfl rfl (Nat.le_of_ble_eq_true rfl) ?_
          refine ARun.pure (PureOp.dropOwn (k := i) rfl (.tmp rfl) (.tmp rfl) rfl (show _ ≤ _ from by omega) vin_el_27_2) rfl rfl (Nat.le_of_ble_eq_true rfl) ?_
          refine ARun.pure (PureOp.move rfl (.tmp rfl)) rfl rfl (Nat.le_of_ble_eq_true rfl) ?_
          refine ARun.copyN (id := 1000001) (sz := 2) (q := i) (n := n + 1) (m := 1) (r := 1) (f := fun ic_ jc_ => if (i + 1) ≤ ic_ ∧ ic_ < (i + 1) + (n - i) then (fun a_ b_ => if i + a_ < n then f (i + a_) b_ else .con (gg0 (i + a_) b_) : Nat → Nat → AV) (ic_ - (i + 1)) jc_ else (fun a_ b_ => if a_ < n then f a_ b_ else .con (gg0 a_ b_) : Nat → Nat → AV) ic_ jc_) (g := g) rfl vin_el_27_2 (by decide) (.tl (.tmp rfl)) rfl (SrcOk.of (.own (.tmp rfl) rfl rfl (Nat.le_refl _) (fun _ _ _ _ => rfl))) (fun _ _ _ hj_ => hg.oc _ _ hj_) (show 1 = min 1 (n + 1 - i) from by omega) rfl (.inl rfl) (Nat.le_of_ble_eq_true rfl) ?_
          refine ARun.nil ?_
          refine AW.seq ?_
          refine AW.region ?_
          refine ARun.pure (PureOp.move rfl (.tmp rfl)) rfl rfl (Nat.le_of_ble_eq_true rfl) ?_
          refine ARun.pure (PureOp.assign rfl (.tmp rfl)) rfl rfl (Nat.le_of_ble_eq_true rfl) ?_
          refine ARun.nil ?_
          refine AW.moveRow 6 1000001 77 2 (n + 1) rfl rfl rfl ⟨rfl, (by repeat first | exact trivial | refine ⟨by decide, by first | exact hf.no _ (by decide) | exact hg.no _ (by decide) | (intro a b; (try dsimp only); (repeat' split) <;> first | rfl | exact hf.no _ (by decide) _ _ | exact hg.no _ (by decide) _ _), ?_⟩)⟩ ?_
          refine AW.ret (show ResL _ _ [.tmp 6] _ ∧ HeapLe _ _ from ⟨resO rfl ?_, ⟨⟨_, rfl, rfl, (show n + 1 ≤ n + 1 from by omega), fun a b (ha : a < n + 1) hb => by show (fun ic_ jc_ => if i ≤ ic_ ∧ ic_ < i + 1 then (g : Nat → Nat → AV) (ic_ - i) jc_ else (fun ic_ jc_ => if (i + 1) ≤ ic_ ∧ ic_ < (i + 1) + (n - i) then (fun a_ b_ => if i + a_ < n then f (i + a_) b_ else .con (gg0 (i + a_) b_) : Nat → Nat → AV) (ic_ - (i + 1)) jc_ else (fun a_ b_ => if a_ < n then f a_ b_ else .con (gg0 a_ b_) : Nat → Nat → AV) ic_ jc_ : Nat → Nat → AV) ic_ jc_ : Nat → Nat → AV) a b = insF f g i a b; unfold insF; (try dsimp only); (repeat' split) <;> first | rfl | omega | exact congrArg (fun q => f q b) (by omega) | exact congrArg (fun q => g q b) (by omega)⟩, trivial⟩⟩)
          show _ = _
          omega
        · have _u := True.intro
          exact absurd hb7 (by decide)
          --end
end Go.Proofs.Ytmfkmifkkplidaa


/-
  Heads: what a valid one is, in the reference and in the program.
-/
namespace Go.Proofs.Ytmfkmifkkplidaa
open Go.ChangeShapes Go.WideShapes Go.ChangeAt Go.RowKit Go.BigFrame Go.Deep
set_option linter.unusedVariables false
set_option linter.unusedSimpArgs false
theorem vh_ag_67_2 : aggB Try.prog 67 2 = true := by kernel_rfl
theorem vh_ag_81_2 : aggB Try.prog 81 2 = true := by kernel_rfl
theorem vh_ca_42 : callB Try.prog 42 = true := by kernel_rfl
theorem vh_ca_43 : callB Try.prog 43 = true := by kernel_rfl
theorem vh_ca_44 : callB Try.prog 44 = true := by kernel_rfl
theorem vh_ca_70 : callB Try.prog 70 = true := by kernel_rfl
theorem vh_ca_71 : callB Try.prog 71 = true := by kernel_rfl
theorem vh_ca_72 : callB Try.prog 72 = true := by kernel_rfl
theorem vh_ca_78 : callB Try.prog 78 = true := by kernel_rfl
theorem vh_el_27_2 : elemB Try.prog 27 2 = true := by kernel_rfl
theorem vh_el_33_2 : elemB Try.prog 33 2 = true := by kernel_rfl
theorem vh_fi_29_0_0 : fieldB Try.prog 29 0 0 = true := by kernel_rfl
theorem vh_fi_29_1_1 : fieldB Try.prog 29 1 1 = true := by kernel_rfl
theorem vh_fi_67_0_0 : fieldB Try.prog 67 0 0 = true := by kernel_rfl
theorem vh_fi_67_1_1 : fieldB Try.prog 67 1 1 = true := by kernel_rfl
theorem vh_fi_81_0_0 : fieldB Try.prog 81 0 0 = true := by kernel_rfl
theorem vh_fi_81_1_1 : fieldB Try.prog 81 1 1 = true := by kernel_rfl
theorem vh_pl_27 : plainB Try.prog 27 = true := by kernel_rfl
theorem vh_pl_3 : plainB Try.prog 3 = true := by kernel_rfl
theorem vh_pl_33 : plainB Try.prog 33 = true := by kernel_rfl
theorem vh_pl_9 : plainB Try.prog 9 = true := by kernel_rfl
theorem vh_sl_27 : sliceB Try.prog 27 = true := by kernel_rfl
theorem vh_sl_33 : sliceB Try.prog 33 = true := by kernel_rfl
theorem vh_sz_67_2 : sizeB Try.prog 67 2 = true := by kernel_rfl
theorem vh_sz_81_2 : sizeB Try.prog 81 2 = true := by kernel_rfl
def saBad (l : List GSample) (k : Nat) : Bool :=
  cond (cond (!(inB 0 1000000000 ((l.getD k (default : GSample)).at_))) true (!(inB (-1000000000) 1000000000 ((l.getD k (default : GSample)).value)))) true (cond (decide (0 < (k : Int))) (decide ((l.getD k (default : GSample)).at_ ≤ (l.getD (k - 1) (default : GSample)).at_)) false)
def samplesB (l : List GSample) : Bool := (List.range l.length).all (fun j => !saBad l j) && decide ((l.length : Int) ≤ 40)
theorem v_GoodSamples (l : List GSample) : Fn Try.prog 43 [.one (.lst 2 l.length (fun i0 j0 => ([.int .i64 ((l.getD i0 (default : GSample)).at_), .int .i64 ((l.getD i0 (default : GSample)).value)] : List AV).getD j0 (.con undef)))] (.one (.bool (samplesB l))) := by
  refine Fn.of_body (fn := Try.f43) Try.func43 rfl (Nat.le_of_ble_eq_true rfl) trivial ?_
  intro w0
  show AW _ 41 _ _ _ _
  refine AW.bound (t := 0) rfl fun hx => ?_
  refine AW.seq ?_
  refine AW.region ?_
  refine ARun.pure (PureOp.assign rfl .bool) rfl rfl (Nat.le_of_ble_eq_true rfl) ?_
  refine ARun.nil ?_
  refine AW.seq ?_
  refine AW.seq ?_
  refine AW.region ?_
  refine ARun.pure (PureOp.move rfl (.tmp rfl)) rfl rfl (Nat.le_of_ble_eq_true rfl) ?_
  refine ARun.pure (PureOp.lenLst rfl (.tmp rfl) vh_sl_33) rfl rfl (Nat.le_of_ble_eq_true rfl) ?_
  refine ARun.pure (PureOp.move rfl .int) rfl rfl (Nat.le_of_ble_eq_true rfl) ?_
  refine ARun.nil ?_
  refine AW.block ?_
  refine AW.loop (ι := Nat) (fun k => ⟨[(0, .one (.lst 2 l.length (fun i0 j0 => ([.int .i64 ((l.getD i0 (default : GSample)).at_), .int .i64 ((l.getD i0 (default : GSample)).value)] : List AV).getD j0 (.con undef)))), (5, .one (.lst 2 l.length (fun i0 j0 => ([.int .i64 ((l.getD i0 (default : GSample)).at_), .int .i64 ((l.getD i0 (default : GSample)).value)] : List AV).getD j0 (.con undef)))), (6, .one (.int .i64 (l.length : Int))), (7, .one (.int .i64 (k : Int)))], []⟩) (fun k => k ≤ l.length ∧ ∀ j, j < k → saBad l j = false) (fun k => l.length - k) 0 ⟨Nat.zero_le _, fun j hj => absurd hj (by omega)⟩ ⟨⟨⟨_, rfl, rfl⟩, ⟨_, rfl, rfl⟩, ⟨_, rfl, rfl⟩, ⟨_, rfl, rfl⟩, trivial⟩, trivial⟩ ?_
  intro k hI
  obtain ⟨hk, hks⟩ := hI
  refine AW.seq ?_
  refine AW.region ?_
  refine ARun.pure (PureOp.intOp rfl (.tmp rfl) (.tmp rfl) rfl) rfl rfl (Nat.le_of_ble_eq_true rfl) ?_
  refine ARun.nil ?_
  refine AW.seq ?_
  refine AW.cond (.tmp rfl) (fun hb1 => ?_) (fun hb1 => ?_)
  · have _u := True.intro
    replace hb1 := of_decide_eq_true hb1
    have hkl : k < l.length := by omega
    refine AW.skip ?_
    refine AW.seq ?_
    refine AW.block ?_
    refine AW.seq ?_
    refine AW.region ?_
    refine ARun.pure (PureOp.move rfl (.tmp rfl)) rfl rfl (Nat.le_of_ble_eq_true rfl) ?_
    refine ARun.pure (PureOp.indexLst (i := k) rfl (.tmp rfl) vh_el_33_2 (.tmp rfl) rfl (by omega)) rfl rfl (Nat.le_of_ble_eq_true rfl) ?_
    refine ARun.pure (PureOp.loadRefAgg rfl (.tmp rfl) vh_ag_81_2 (Nat.le_of_ble_eq_true rfl)) rfl rfl (Nat.le_of_ble_eq_true rfl) ?_
    refine ARun.alloc (id := 0) (l := [.int .i64 0, .int .i64 0]) (z := (.agg #[.int .i64 0, .int .i64 0])) rfl (by kernel_rfl) (fun _ _ _ => ⟨_, _, rfl, rfl, ⟨_, _, rfl, rfl, rfl⟩⟩) ⟨rfl, (by repeat first | exact trivial | refine ⟨by decide, by first | rfl | exact trivial | (intro i j; first | rfl | exact getD_no rfl | (dsimp only; split <;> first | rfl | exact getD_no rfl) | exact scl_no (by apply_assumption) _), ?_⟩)⟩ rfl rfl rfl (Nat.le_of_ble_eq_true rfl) ?_
    refine ARun.pure (PureOp.assign rfl (.tmp rfl)) rfl rfl (Nat.le_of_ble_eq_true rfl) ?_
    refine ARun.store rfl (.tmp rfl) (.tmp rfl) (SV.cells_of (by exact ⟨trivial, trivial, trivial⟩)) rfl (Nat.le_of_ble_eq_true rfl) vh_sz_81_2 rfl rfl ?_
    refine ARun.nil ?_
    refine AW.seq ?_
    refine AW.any (by kernel_rfl) (by kernel_rfl) ?_
    refine AD.pure (PureOp.fieldPtr rfl (.tmp rfl) vh_fi_81_0_0) rfl rfl (Nat.le_of_ble_eq_true rfl) ?_
    refine AD.pure (PureOp.loadPtr rfl (.tmp rfl) vh_pl_3 rfl rfl (Nat.le_of_ble_eq_true rfl) (Nat.le_of_ble_eq_true rfl)) rfl rfl (Nat.le_of_ble_eq_true rfl) ?_
    refine AD.pure (PureOp.call rfl (v_l1In ((l.getD k (default : GSample)).at_) 0 1000000000) ⟨⟨_, (.tmp rfl), .int⟩, ⟨_, .int, .int⟩, ⟨_, .int, .int⟩, trivial⟩ vh_ca_44 trivial) rfl rfl (Nat.le_of_ble_eq_true rfl) ?_
    refine AD.pure (PureOp.not rfl (.tmp rfl)) rfl rfl (Nat.le_of_ble_eq_true rfl) ?_
    refine AD.pure (PureOp.move rfl (.tmp rfl)) rfl rfl (Nat.le_of_ble_eq_true rfl) ?_
    refine AD.gpure (want := false) (.tf rfl) (fun hg2 => PureOp.fieldPtr rfl (.tmp rfl) vh_fi_81_1_1) rfl rfl rfl (Nat.le_of_ble_eq_true rfl) ?_
    refine AD.gpure (want := false) (.tf rfl) (fun hg3 => PureOp.loadPtr rfl (.gtmp rfl hg3) vh_pl_3 rfl rfl (Nat.le_of_ble_eq_true rfl) (Nat.le_of_ble_eq_true rfl)) rfl rfl rfl (Nat.le_of_ble_eq_true rfl) ?_
    refine AD.gpure (want := false) (.tf rfl) (fun hg4 => PureOp.call rfl (v_l1In ((l.getD k (default : GSample)).value) (-1000000000) 1000000000) ⟨⟨_, (.gtmp rfl hg4), .int⟩, ⟨_, .int, .int⟩, ⟨_, .int, .int⟩, trivial⟩ vh_ca_44 trivial) rfl rfl rfl (Nat.le_of_ble_eq_true rfl) ?_
    refine AD.gpure (want := false) (.tf rfl) (fun hg5 => PureOp.not rfl (.gtmp rfl hg5)) rfl rfl rfl (Nat.le_of_ble_eq_true rfl) ?_
    refine AD.pure (PureOp.pick rfl (.tmp rfl) (fun _ => .bool) (fun hp7 => .gtmp rfl (not_of hp7))) rfl rfl (Nat.le_of_ble_eq_true rfl) ?_
    refine AD.pure (PureOp.move rfl (.tmp rfl)) rfl rfl (Nat.le_of_ble_eq_true rfl) ?_
    refine AD.gpure (want := false) (.tf rfl) (fun hg8 => PureOp.move rfl (.tmp rfl)) rfl rfl rfl (Nat.le_of_ble_eq_true rfl) ?_
    refine AD.gpure (want := false) (.tf rfl) (fun hg9 => PureOp.intOp rfl (.gtmp rfl hg9) .int rfl) rfl rfl rfl (Nat.le_of_ble_eq_true rfl) ?_
    refine AD.gpure (want := false) (.tf rfl) (fun hg10 => PureOp.move rfl (.gtmp rfl hg10)) rfl rfl rfl (Nat.le_of_ble_eq_true rfl) ?_
    refine AD.gpure (want := true) (.gt rfl) (fun hg11 => PureOp.move rfl (.tmp rfl)) rfl rfl rfl (Nat.le_of_ble_eq_true rfl) ?_
    refine AD.gpure (want := true) (.gt rfl) (fun hg12 => PureOp.move rfl (.tmp rfl)) rfl rfl rfl (Nat.le_of_ble_eq_true rfl) ?_
    refine AD.gpure (want := true) (.gt rfl) (fun hg13 => PureOp.sub (c := (((k - 1) : Nat) : Int)) rfl (.gtmp rfl hg13) .int (by have q := hg13; simp only [Bool.cond_true_left, Bool.cond_false_right, Bool.not_eq_true', Bool.or_eq_false_iff, Bool.not_eq_false', Bool.and_eq_true, Bool.not_not, decide_eq_true_eq, decide_eq_false_iff_not, inB] at q; rw [wrap_id (by omega) (by omega)]; omega)) rfl rfl rfl (Nat.le_of_ble_eq_true rfl) ?_
    refine AD.gpure (want := true) (.gt rfl) (fun hg14 => PureOp.indexLst (i := (k - 1)) rfl (.gtmp rfl hg14) vh_el_33_2 (.gtmp rfl hg14) rfl (by have q := hg14; simp only [Bool.cond_true_left, Bool.cond_false_right, Bool.not_eq_true', Bool.or_eq_false_iff, Bool.not_eq_false', Bool.and_eq_true, Bool.not_not, decide_eq_true_eq, decide_eq_false_iff_not, inB] at q; omega)) rfl rfl rfl (Nat.le_of_ble_eq_true rfl) ?_
    refine AD.gpure (want := true) (.gt rfl) (fun hg15 => PureOp.fieldRef rfl (.gtmp rfl hg15) vh_fi_81_0_0 (Nat.le_of_ble_eq_true rfl)) rfl rfl rfl (Nat.le_of_ble_eq_true rfl) ?_
    refine AD.gpure (want := true) (.gt rfl) (fun hg16 => PureOp.loadRef rfl (.gtmp rfl hg16) vh_pl_3 (Nat.le_of_ble_eq_true rfl)) rfl rfl rfl (Nat.le_of_ble_eq_true rfl) ?_
    refine AD.gpure (want := true) (.gt rfl) (fun hg17 => PureOp.fieldPtr rfl (.tmp rfl) vh_fi_81_0_0) rfl rfl rfl (Nat.le_of_ble_eq_true rfl) ?_
    refine AD.gpure (want := true) (.gt rfl) (fun hg18 => PureOp.loadPtr rfl (.gtmp rfl hg18) vh_pl_3 rfl rfl (Nat.le_of_ble_eq_true rfl) (Nat.le_of_ble_eq_true rfl)) rfl rfl rfl (Nat.le_of_ble_eq_true rfl) ?_
    refine AD.gpure (want := true) (.gt rfl) (fun hg19 => PureOp.intOp rfl (.gtmp rfl hg19) (.gtmp rfl hg19) rfl) rfl rfl rfl (Nat.le_of_ble_eq_true rfl) ?_
    refine AD.gpure (want := false) (.tf rfl) (fun hg20 => PureOp.pick rfl (.gtmp rfl hg20) (fun hp21 => .gtmp rfl (and_mk hg20 hp21)) (fun _ => .bool)) rfl rfl rfl (Nat.le_of_ble_eq_true rfl) ?_
    refine AD.pure (PureOp.pick rfl (.tmp rfl) (fun _ => .bool) (fun hp24 => .gtmp rfl (not_of hp24))) rfl rfl (Nat.le_of_ble_eq_true rfl) ?_
    refine AD.nil ?_
    refine AW.cond (.tmp rfl) (fun hb25 => ?_) (fun hb25 => ?_)
    · have _u := True.intro
      have hbd : saBad l k = true := hb25
      refine AW.seq ?_
      refine AW.region ?_
      refine ARun.pure (PureOp.assign rfl .bool) rfl rfl (Nat.le_of_ble_eq_true rfl) ?_
      refine ARun.nil ?_
      refine AW.ret (show ResL _ _ [.tmp 2] _ from resB rfl ?_)
      have hno : (List.range l.length).all (fun j => !saBad l j) = false := rng_no hkl (by rw [hbd]; rfl)
      unfold samplesB; rw [hno]; rfl
    · have _u := True.intro
      have hbd : saBad l k = false := hb25
      refine AW.skip ?_
      refine AW.region ?_
      refine ARun.pure (PureOp.add (c := ((k + 1 : Nat) : Int)) rfl (.tmp rfl) .int (by rw [wrap_id (by omega) (by omega)]; omega)) rfl rfl (Nat.le_of_ble_eq_true rfl) ?_
      refine ARun.pure (PureOp.move rfl (.tmp rfl)) rfl rfl (Nat.le_of_ble_eq_true rfl) ?_
      refine ARun.nil ?_
      exact ⟨k + 1, ⟨by omega, rng_succ (p := fun j => saBad l j = false) hks hbd⟩, by dsimp only; omega, ⟨⟨⟨_, rfl, rfl⟩, ⟨_, rfl, rfl⟩, ⟨_, rfl, rfl⟩, ⟨_, rfl, rfl⟩, trivial⟩, trivial⟩⟩
  · have _u := True.intro
    replace hb1 := of_decide_eq_false hb1
    have hkl : ¬ k < l.length := by omega
    have hall : (List.range l.length).all (fun j => !saBad l j) = true := rng_yes (fun j hj => by rw [hks j (by omega)]; rfl)
    refine AW.exit ?_
    refine AW.seq ?_
    refine AW.region ?_
    refine ARun.pure (PureOp.move rfl (.tmp rfl)) rfl rfl (Nat.le_of_ble_eq_true rfl) ?_
    refine ARun.pure (PureOp.lenLst rfl (.tmp rfl) vh_sl_33) rfl rfl (Nat.le_of_ble_eq_true rfl) ?_
    refine ARun.pure (PureOp.intOp rfl (.tmp rfl) .int rfl) rfl rfl (Nat.le_of_ble_eq_true rfl) ?_
    refine ARun.pure (PureOp.assign rfl (.tmp rfl)) rfl rfl (Nat.le_of_ble_eq_true rfl) ?_
    refine ARun.nil ?_
    refine AW.ret (show ResL _ _ [.tmp 2] _ from resB rfl ?_)
    unfold samplesB; rw [hall]; rfl

def isSampleB (x : GSample) : Bool :=
  cond (inB 0 1000000000 x.at_) (inB (-1000000000) 1000000000 x.value) false
theorem v_isSample (x : GSample) : Fn Try.prog 78 [.agg [.int .i64 x.at_, .int .i64 x.value]] (.one (.bool (isSampleB x))) := by
  refine Fn.of_body (fn := Try.f78) Try.func78 rfl (Nat.le_of_ble_eq_true rfl) trivial ?_
  intro w0
  show AW _ 11 _ _ _ _
  refine AW.seq ?_
  refine AW.region ?_
  refine ARun.box (id := 0) rfl (.tmp rfl) (SV.cells_of (by exact ⟨trivial, trivial, trivial⟩)) ⟨rfl, (by repeat first | exact trivial | refine ⟨by decide, by first | rfl | exact trivial | (intro i j; first | rfl | exact getD_no rfl | (dsimp only; split <;> first | rfl | exact getD_no rfl) | exact scl_no (by apply_assumption) _), ?_⟩)⟩ rfl rfl rfl (Nat.le_of_ble_eq_true rfl) ?_
  refine ARun.pure (PureOp.assign rfl .bool) rfl rfl (Nat.le_of_ble_eq_true rfl) ?_
  refine ARun.nil ?_
  refine AW.seq ?_
  refine AW.region ?_
  refine ARun.pure (PureOp.fieldPtr rfl (.tmp rfl) vh_fi_81_0_0) rfl rfl (Nat.le_of_ble_eq_true rfl) ?_
  refine ARun.pure (PureOp.loadPtr rfl (.tmp rfl) vh_pl_3 rfl rfl (Nat.le_of_ble_eq_true rfl) (Nat.le_of_ble_eq_true rfl)) rfl rfl (Nat.le_of_ble_eq_true rfl) ?_
  refine ARun.pure (PureOp.call rfl (v_within x.at_ 0 1000000000) ⟨⟨_, (.tmp rfl), .int⟩, ⟨_, .int, .int⟩, ⟨_, .int, .int⟩, trivial⟩ vh_ca_72 trivial) rfl rfl (Nat.le_of_ble_eq_true rfl) ?_
  refine ARun.pure (PureOp.move rfl (.tmp rfl)) rfl rfl (Nat.le_of_ble_eq_true rfl) ?_
  refine ARun.gpure (want := true) (.tt rfl) (fun hg1 => PureOp.fieldPtr rfl (.tmp rfl) vh_fi_81_1_1) rfl rfl (Nat.le_of_ble_eq_true rfl) rfl (Nat.le_of_ble_eq_true rfl) ?_
  refine ARun.gpure (want := true) (.tt rfl) (fun hg2 => PureOp.loadPtr rfl (.gtmp rfl hg2) vh_pl_3 rfl rfl (Nat.le_of_ble_eq_true rfl) (Nat.le_of_ble_eq_true rfl)) rfl rfl (Nat.le_of_ble_eq_true rfl) rfl (Nat.le_of_ble_eq_true rfl) ?_
  refine ARun.gpure (want := true) (.tt rfl) (fun hg3 => PureOp.call rfl (v_within x.value (-1000000000) 1000000000) ⟨⟨_, (.gtmp rfl hg3), .int⟩, ⟨_, .int, .int⟩, ⟨_, .int, .int⟩, trivial⟩ vh_ca_72 trivial) rfl rfl (Nat.le_of_ble_eq_true rfl) rfl (Nat.le_of_ble_eq_true rfl) ?_
  refine ARun.pure (PureOp.pick rfl (.tmp rfl) (fun hp4 => .gtmp rfl hp4) (fun _ => .bool)) rfl rfl (Nat.le_of_ble_eq_true rfl) ?_
  refine ARun.pure (PureOp.assign rfl (.tmp rfl)) rfl rfl (Nat.le_of_ble_eq_true rfl) ?_
  refine ARun.nil ?_
  refine AW.ret (show ResL _ _ [.tmp 2] _ from resB rfl ?_)
  rfl

def saBadI (l : List GSample) (k : Nat) : Bool :=
  cond (!(isSampleB (l.getD k (default : GSample)))) true (cond (decide (0 < (k : Int))) (decide ((l.getD k (default : GSample)).at_ ≤ (l.getD (k - 1) (default : GSample)).at_)) false)
theorem saBad_eq (l : List GSample) (k : Nat) : saBad l k = saBadI l k := by
  unfold saBad saBadI isSampleB
  generalize inB 0 _ _ = a1
  generalize inB (-1000000000) _ _ = a2
  generalize cond (decide ((0 : Int) < (k : Int))) _ false = a3
  revert a1 a2 a3; decide
theorem v_areSamples (l : List GSample) : Fn Try.prog 71 [.one (.lst 2 l.length (fun i0 j0 => ([.int .i64 ((l.getD i0 (default : GSample)).at_), .int .i64 ((l.getD i0 (default : GSample)).value)] : List AV).getD j0 (.con undef)))] (.one (.bool (samplesB l))) := by
  refine Fn.of_body (fn := Try.f71) Try.func71 rfl (Nat.le_of_ble_eq_true rfl) trivial ?_
  intro w0
  show AW _ 34 _ _ _ _
  refine AW.bound (t := 0) rfl fun hx => ?_
  refine AW.seq ?_
  refine AW.region ?_
  refine ARun.pure (PureOp.assign rfl .bool) rfl rfl (Nat.le_of_ble_eq_true rfl) ?_
  refine ARun.nil ?_
  refine AW.seq ?_
  refine AW.seq ?_
  refine AW.region ?_
  refine ARun.pure (PureOp.move rfl (.tmp rfl)) rfl rfl (Nat.le_of_ble_eq_true rfl) ?_
  refine ARun.pure (PureOp.lenLst rfl (.tmp rfl) vh_sl_33) rfl rfl (Nat.le_of_ble_eq_true rfl) ?_
  refine ARun.pure (PureOp.move rfl .int) rfl rfl (Nat.le_of_ble_eq_true rfl) ?_
  refine ARun.nil ?_
  refine AW.block ?_
  refine AW.loop (ι := Nat) (fun k => ⟨[(0, .one (.lst 2 l.length (fun i0 j0 => ([.int .i64 ((l.getD i0 (default : GSample)).at_), .int .i64 ((l.getD i0 (default : GSample)).value)] : List AV).getD j0 (.con undef)))), (5, .one (.lst 2 l.length (fun i0 j0 => ([.int .i64 ((l.getD i0 (default : GSample)).at_), .int .i64 ((l.getD i0 (default : GSample)).value)] : List AV).getD j0 (.con undef)))), (6, .one (.int .i64 (l.length : Int))), (7, .one (.int .i64 (k : Int)))], []⟩) (fun k => k ≤ l.length ∧ ∀ j, j < k → saBad l j = false) (fun k => l.length - k) 0 ⟨Nat.zero_le _, fun j hj => absurd hj (by omega)⟩ ⟨⟨⟨_, rfl, rfl⟩, ⟨_, rfl, rfl⟩, ⟨_, rfl, rfl⟩, ⟨_, rfl, rfl⟩, trivial⟩, trivial⟩ ?_
  intro k hI
  obtain ⟨hk, hks⟩ := hI
  refine AW.seq ?_
  refine AW.region ?_
  refine ARun.pure (PureOp.intOp rfl (.tmp rfl) (.tmp rfl) rfl) rfl rfl (Nat.le_of_ble_eq_true rfl) ?_
  refine ARun.nil ?_
  refine AW.seq ?_
  refine AW.cond (.tmp rfl) (fun hb1 => ?_) (fun hb1 => ?_)
  · have _u := True.intro
    replace hb1 := of_decide_eq_true hb1
    have hkl : k < l.length := by omega
    refine AW.skip ?_
    refine AW.seq ?_
    refine AW.block ?_
    refine AW.seq ?_
    refine AW.region ?_
    refine ARun.pure (PureOp.move rfl (.tmp rfl)) rfl rfl (Nat.le_of_ble_eq_true rfl) ?_
    refine ARun.pure (PureOp.indexLst (i := k) rfl (.tmp rfl) vh_el_33_2 (.tmp rfl) rfl (by omega)) rfl rfl (Nat.le_of_ble_eq_true rfl) ?_
    refine ARun.pure (PureOp.loadRefAgg rfl (.tmp rfl) vh_ag_81_2 (Nat.le_of_ble_eq_true rfl)) rfl rfl (Nat.le_of_ble_eq_true rfl) ?_
    refine ARun.alloc (id := 0) (l := [.int .i64 0, .int .i64 0]) (z := (.agg #[.int .i64 0, .int .i64 0])) rfl (by kernel_rfl) (fun _ _ _ => ⟨_, _, rfl, rfl, ⟨_, _, rfl, rfl, rfl⟩⟩) ⟨rfl, (by repeat first | exact trivial | refine ⟨by decide, by first | rfl | exact trivial | (intro i j; first | rfl | exact getD_no rfl | (dsimp only; split <;> first | rfl | exact getD_no rfl) | exact scl_no (by apply_assumption) _), ?_⟩)⟩ rfl rfl rfl (Nat.le_of_ble_eq_true rfl) ?_
    refine ARun.pure (PureOp.assign rfl (.tmp rfl)) rfl rfl (Nat.le_of_ble_eq_true rfl) ?_
    refine ARun.store rfl (.tmp rfl) (.tmp rfl) (SV.cells_of (by exact ⟨trivial, trivial, trivial⟩)) rfl (Nat.le_of_ble_eq_true rfl) vh_sz_81_2 rfl rfl ?_
    refine ARun.nil ?_
    refine AW.seq ?_
    refine AW.any (by kernel_rfl) (by kernel_rfl) ?_
    refine AD.pure (PureOp.loadPtrAgg rfl (.tmp rfl) vh_ag_81_2 rfl rfl (Nat.le_of_ble_eq_true rfl) (Nat.le_of_ble_eq_true rfl)) rfl rfl (Nat.le_of_ble_eq_true rfl) ?_
    refine AD.pure (PureOp.call rfl (v_isSample (l.getD k (default : GSample))) ⟨⟨_, (.tmp rfl), ⟨.int, .int, trivial⟩⟩, trivial⟩ vh_ca_78 trivial) rfl rfl (Nat.le_of_ble_eq_true rfl) ?_
    refine AD.pure (PureOp.not rfl (.tmp rfl)) rfl rfl (Nat.le_of_ble_eq_true rfl) ?_
    refine AD.pure (PureOp.move rfl (.tmp rfl)) rfl rfl (Nat.le_of_ble_eq_true rfl) ?_
    refine AD.gpure (want := false) (.tf rfl) (fun hg2 => PureOp.move rfl (.tmp rfl)) rfl rfl rfl (Nat.le_of_ble_eq_true rfl) ?_
    refine AD.gpure (want := false) (.tf rfl) (fun hg3 => PureOp.intOp rfl (.gtmp rfl hg3) .int rfl) rfl rfl rfl (Nat.le_of_ble_eq_true rfl) ?_
    refine AD.gpure (want := false) (.tf rfl) (fun hg4 => PureOp.move rfl (.gtmp rfl hg4)) rfl rfl rfl (Nat.le_of_ble_eq_true rfl) ?_
    refine AD.gpure (want := true) (.gt rfl) (fun hg5 => PureOp.move rfl (.tmp rfl)) rfl rfl rfl (Nat.le_of_ble_eq_true rfl) ?_
    refine AD.gpure (want := true) (.gt rfl) (fun hg6 => PureOp.move rfl (.tmp rfl)) rfl rfl rfl (Nat.le_of_ble_eq_true rfl) ?_
    refine AD.gpure (want := true) (.gt rfl) (fun hg7 => PureOp.sub (c := (((k - 1) : Nat) : Int)) rfl (.gtmp rfl hg7) .int (by have q := hg7; simp only [Bool.cond_true_left, Bool.cond_false_right, Bool.not_eq_true', Bool.or_eq_false_iff, Bool.not_eq_false', Bool.and_eq_true, Bool.not_not, decide_eq_true_eq, decide_eq_false_iff_not, inB] at q; rw [wrap_id (by omega) (by omega)]; omega)) rfl rfl rfl (Nat.le_of_ble_eq_true rfl) ?_
    refine AD.gpure (want := true) (.gt rfl) (fun hg8 => PureOp.indexLst (i := (k - 1)) rfl (.gtmp rfl hg8) vh_el_33_2 (.gtmp rfl hg8) rfl (by have q := hg8; simp only [Bool.cond_true_left, Bool.cond_false_right, Bool.not_eq_true', Bool.or_eq_false_iff, Bool.not_eq_false', Bool.and_eq_true, Bool.not_not, decide_eq_true_eq, decide_eq_false_iff_not, inB] at q; omega)) rfl rfl rfl (Nat.le_of_ble_eq_true rfl) ?_
    refine AD.gpure (want := true) (.gt rfl) (fun hg9 => PureOp.fieldRef rfl (.gtmp rfl hg9) vh_fi_81_0_0 (Nat.le_of_ble_eq_true rfl)) rfl rfl rfl (Nat.le_of_ble_eq_true rfl) ?_
    refine AD.gpure (want := true) (.gt rfl) (fun hg10 => PureOp.loadRef rfl (.gtmp rfl hg10) vh_pl_3 (Nat.le_of_ble_eq_true rfl)) rfl rfl rfl (Nat.le_of_ble_eq_true rfl) ?_
    refine AD.gpure (want := true) (.gt rfl) (fun hg11 => PureOp.fieldPtr rfl (.tmp rfl) vh_fi_81_0_0) rfl rfl rfl (Nat.le_of_ble_eq_true rfl) ?_
    refine AD.gpure (want := true) (.gt rfl) (fun hg12 => PureOp.loadPtr rfl (.gtmp rfl hg12) vh_pl_3 rfl rfl (Nat.le_of_ble_eq_true rfl) (Nat.le_of_ble_eq_true rfl)) rfl rfl rfl (Nat.le_of_ble_eq_true rfl) ?_
    refine AD.gpure (want := true) (.gt rfl) (fun hg13 => PureOp.intOp rfl (.gtmp rfl hg13) (.gtmp rfl hg13) rfl) rfl rfl rfl (Nat.le_of_ble_eq_true rfl) ?_
    refine AD.gpure (want := false) (.tf rfl) (fun hg14 => PureOp.pick rfl (.gtmp rfl hg14) (fun hp15 => .gtmp rfl (and_mk hg14 hp15)) (fun _ => .bool)) rfl rfl rfl (Nat.le_of_ble_eq_true rfl) ?_
    refine AD.pure (PureOp.pick rfl (.tmp rfl) (fun _ => .bool) (fun hp18 => .gtmp rfl (not_of hp18))) rfl rfl (Nat.le_of_ble_eq_true rfl) ?_
    refine AD.nil ?_
    refine AW.cond (.tmp rfl) (fun hb19 => ?_) (fun hb19 => ?_)
    · have _u := True.intro
      have hbd : saBad l k = true := (saBad_eq l k).trans hb19
      refine AW.seq ?_
      refine AW.region ?_
      refine ARun.pure (PureOp.assign rfl .bool) rfl rfl (Nat.le_of_ble_eq_true rfl) ?_
      refine ARun.nil ?_
      refine AW.ret (show ResL _ _ [.tmp 2] _ from resB rfl ?_)
      have hno : (List.range l.length).all (fun j => !saBad l j) = false := rng_no hkl (by rw [hbd]; rfl)
      unfold samplesB; rw [hno]; rfl
    · have _u := True.intro
      have hbd : saBad l k = false := (saBad_eq l k).trans hb19
      refine AW.skip ?_
      refine AW.region ?_
      refine ARun.pure (PureOp.add (c := ((k + 1 : Nat) : Int)) rfl (.tmp rfl) .int (by rw [wrap_id (by omega) (by omega)]; omega)) rfl rfl (Nat.le_of_ble_eq_true rfl) ?_
      refine ARun.pure (PureOp.move rfl (.tmp rfl)) rfl rfl (Nat.le_of_ble_eq_true rfl) ?_
      refine ARun.nil ?_
      exact ⟨k + 1, ⟨by omega, rng_succ (p := fun j => saBad l j = false) hks hbd⟩, by dsimp only; omega, ⟨⟨⟨_, rfl, rfl⟩, ⟨_, rfl, rfl⟩, ⟨_, rfl, rfl⟩, ⟨_, rfl, rfl⟩, trivial⟩, trivial⟩⟩
  · have _u := True.intro
    replace hb1 := of_decide_eq_false hb1
    have hkl : ¬ k < l.length := by omega
    have hall : (List.range l.length).all (fun j => !saBad l j) = true := rng_yes (fun j hj => by rw [hks j (by omega)]; rfl)
    refine AW.exit ?_
    refine AW.seq ?_
    refine AW.region ?_
    refine ARun.pure (PureOp.move rfl (.tmp rfl)) rfl rfl (Nat.le_of_ble_eq_true rfl) ?_
    refine ARun.pure (PureOp.lenLst rfl (.tmp rfl) vh_sl_33) rfl rfl (Nat.le_of_ble_eq_true rfl) ?_
    refine ARun.pure (PureOp.intOp rfl (.tmp rfl) .int rfl) rfl rfl (Nat.le_of_ble_eq_true rfl) ?_
    refine ARun.pure (PureOp.assign rfl (.tmp rfl)) rfl rfl (Nat.le_of_ble_eq_true rfl) ?_
    refine ARun.nil ?_
    refine AW.ret (show ResL _ _ [.tmp 2] _ from resB rfl ?_)
    unfold samplesB; rw [hall]; rfl

def rowBad (h : GHead) (k : Nat) : Bool :=
  cond (cond (cond (!(nameB ((h.rows.getD k (default : GRow)).name) false)) true (decide (((((h.rows.getD k (default : GRow)).samples).length : Nat) : Int) = 0))) true (!(samplesB ((h.rows.getD k (default : GRow)).samples)))) true (cond (decide (0 < (k : Int))) (!Op.bytesLess ((h.rows.getD (k - 1) (default : GRow)).name).toList ((h.rows.getD k (default : GRow)).name).toList) false)
def goodHead (h : GHead) : Bool := (List.range h.rows.length).all (fun j => !rowBad h j) && cond (decide ((h.rows.length : Int) ≤ 8)) (inB 0 1000 h.offset) false
theorem v_specGoodHead (h : GHead) : Fn Try.prog 10 [.agg [.lst 2 h.rows.length (fun i0 j0 => ([.str ((h.rows.getD i0 (default : GRow)).name), .lst 2 (((h.rows.getD i0 (default : GRow)).samples).length) (fun i1 j1 => ([.int .i64 ((((h.rows.getD i0 (default : GRow)).samples).getD i1 (default : GSample)).at_), .int .i64 ((((h.rows.getD i0 (default : GRow)).samples).getD i1 (default : GSample)).value)] : List AV).getD j1 (.con undef))] : List AV).getD j0 (.con undef)), .int .i64 h.offset]] (.one (.bool (goodHead h))) := by
  refine Fn.of_body (fn := Try.f10) Try.func10 rfl (Nat.le_of_ble_eq_true rfl) trivial ?_
  intro w0
  show AW _ 55 _ _ _ _
  refine AW.boundAL (t := 0) (j := 0) rfl rfl fun hx => ?_
  refine AW.seq ?_
  refine AW.region ?_
  refine ARun.box (id := 0) rfl (.tmp rfl) (SV.cells_of (by exact ⟨trivial, trivial, trivial⟩)) ⟨rfl, (by repeat first | exact trivial | refine ⟨by decide, by first | rfl | exact trivial | (intro i j; first | rfl | exact getD_no rfl | (dsimp only; split <;> first | rfl | exact getD_no rfl) | exact scl_no (by apply_assumption) _), ?_⟩)⟩ rfl rfl rfl (Nat.le_of_ble_eq_true rfl) ?_
  refine ARun.pure (PureOp.assign rfl .bool) rfl rfl (Nat.le_of_ble_eq_true rfl) ?_
  refine ARun.nil ?_
  refine AW.seq ?_
  refine AW.seq ?_
  refine AW.region ?_
  refine ARun.pure (PureOp.fieldPtr rfl (.tmp rfl) vh_fi_29_0_0) rfl rfl (Nat.le_of_ble_eq_true rfl) ?_
  refine ARun.pure (PureOp.loadPtr rfl (.tmp rfl) vh_pl_27 rfl rfl (Nat.le_of_ble_eq_true rfl) (Nat.le_of_ble_eq_true rfl)) rfl rfl (Nat.le_of_ble_eq_true rfl) ?_
  refine ARun.pure (PureOp.lenLst rfl (.tmp rfl) vh_sl_27) rfl rfl (Nat.le_of_ble_eq_true rfl) ?_
  refine ARun.pure (PureOp.move rfl .int) rfl rfl (Nat.le_of_ble_eq_true rfl) ?_
  refine ARun.nil ?_
  refine AW.block ?_
  refine AW.loop (ι := Nat) (fun k => ⟨[(1, .one (.ptr 0 2 0 0)), (6, .one (.lst 2 h.rows.length (fun i0 j0 => ([.str ((h.rows.getD i0 (default : GRow)).name), .lst 2 (((h.rows.getD i0 (default : GRow)).samples).length) (fun i1 j1 => ([.int .i64 ((((h.rows.getD i0 (default : GRow)).samples).getD i1 (default : GSample)).at_), .int .i64 ((((h.rows.getD i0 (default : GRow)).samples).getD i1 (default : GSample)).value)] : List AV).getD j1 (.con undef))] : List AV).getD j0 (.con undef)))), (7, .one (.int .i64 (h.rows.length : Int))), (8, .one (.int .i64 (k : Int)))], [(0, .cells [.lst 2 h.rows.length (fun i0 j0 => ([.str ((h.rows.getD i0 (default : GRow)).name), .lst 2 (((h.rows.getD i0 (default : GRow)).samples).length) (fun i1 j1 => ([.int .i64 ((((h.rows.getD i0 (default : GRow)).samples).getD i1 (default : GSample)).at_), .int .i64 ((((h.rows.getD i0 (default : GRow)).samples).getD i1 (default : GSample)).value)] : List AV).getD j1 (.con undef))] : List AV).getD j0 (.con undef)), .int .i64 h.offset])]⟩) (fun k => k ≤ h.rows.length ∧ ∀ j, j < k → rowBad h j = false) (fun k => h.rows.length - k) 0 ⟨Nat.zero_le _, fun j hj => absurd hj (by omega)⟩ ⟨⟨⟨_, rfl, rfl⟩, ⟨_, rfl, rfl⟩, ⟨_, rfl, rfl⟩, ⟨_, rfl, rfl⟩, trivial⟩, HeapLe.one rfl trivial⟩ ?_
  intro k hI
  obtain ⟨hk, hks⟩ := hI
  refine AW.seq ?_
  refine AW.region ?_
  refine ARun.pure (PureOp.intOp rfl (.tmp rfl) (.tmp rfl) rfl) rfl rfl (Nat.le_of_ble_eq_true rfl) ?_
  refine ARun.nil ?_
  refine AW.seq ?_
  refine AW.cond (.tmp rfl) (fun hb1 => ?_) (fun hb1 => ?_)
  · have _u := True.intro
    replace hb1 := of_decide_eq_true hb1
    have hkl : k < h.rows.length := by omega
    refine AW.skip ?_
    refine AW.seq ?_
    refine AW.block ?_
    refine AW.seq ?_
    refine AW.region ?_
    refine ARun.pure (PureOp.move rfl (.tmp rfl)) rfl rfl (Nat.le_of_ble_eq_true rfl) ?_
    refine ARun.pure (PureOp.indexLst (i := k) rfl (.tmp rfl) vh_el_27_2 (.tmp rfl) rfl (by omega)) rfl rfl (Nat.le_of_ble_eq_true rfl) ?_
    refine ARun.pure (PureOp.loadRefAgg rfl (.tmp rfl) vh_ag_67_2 (Nat.le_of_ble_eq_true rfl)) rfl rfl (Nat.le_of_ble_eq_true rfl) ?_
    refine ARun.alloc (id := 1) (l := [.str ByteArray.empty, .lst 2 0 (fun _ _ => .con undef)]) (z := (.agg #[.string ByteArray.empty, .slice none 0 0])) rfl (by kernel_rfl) (fun _ _ _ => ⟨_, _, rfl, ⟨rfl, by decide⟩, ⟨_, _, rfl, ⟨none, 0, rfl, Nat.le_refl _, by decide, fun _ => rfl, fun i hi => absurd hi (by omega)⟩, rfl⟩⟩) ⟨rfl, (by repeat first | exact trivial | refine ⟨by decide, by first | rfl | exact trivial | (intro i j; first | rfl | exact getD_no rfl | (dsimp only; split <;> first | rfl | exact getD_no rfl) | exact scl_no (by apply_assumption) _), ?_⟩)⟩ rfl rfl rfl (Nat.le_of_ble_eq_true rfl) ?_
    refine ARun.pure (PureOp.assign rfl (.tmp rfl)) rfl rfl (Nat.le_of_ble_eq_true rfl) ?_
    refine ARun.store rfl (.tmp rfl) (.tmp rfl) (SV.cells_of (by exact ⟨trivial, trivial, trivial⟩)) rfl (Nat.le_of_ble_eq_true rfl) vh_sz_67_2 rfl rfl ?_
    refine ARun.nil ?_
    refine AW.seq ?_
    refine AW.any (by kernel_rfl) (by kernel_rfl) ?_
    refine AD.pure (PureOp.fieldPtr rfl (.tmp rfl) vh_fi_67_0_0) rfl rfl (Nat.le_of_ble_eq_true rfl) ?_
    refine AD.pure (PureOp.loadPtr rfl (.tmp rfl) vh_pl_9 rfl rfl (Nat.le_of_ble_eq_true rfl) (Nat.le_of_ble_eq_true rfl)) rfl rfl (Nat.le_of_ble_eq_true rfl) ?_
    refine AD.pure (PureOp.call rfl (v_l3Name ((h.rows.getD k (default : GRow)).name) false) ⟨⟨_, (.tmp rfl), .str⟩, ⟨_, .bool, .bool⟩, trivial⟩ vh_ca_42 trivial) rfl rfl (Nat.le_of_ble_eq_true rfl) ?_
    refine AD.pure (PureOp.not rfl (.tmp rfl)) rfl rfl (Nat.le_of_ble_eq_true rfl) ?_
    refine AD.pure (PureOp.move rfl (.tmp rfl)) rfl rfl (Nat.le_of_ble_eq_true rfl) ?_
    refine AD.gpure (want := false) (.tf rfl) (fun hg2 => PureOp.fieldPtr rfl (.tmp rfl) vh_fi_67_1_1) rfl rfl rfl (Nat.le_of_ble_eq_true rfl) ?_
    refine AD.gpure (want := false) (.tf rfl) (fun hg3 => PureOp.loadPtr rfl (.gtmp rfl hg3) vh_pl_33 rfl rfl (Nat.le_of_ble_eq_true rfl) (Nat.le_of_ble_eq_true rfl)) rfl rfl rfl (Nat.le_of_ble_eq_true rfl) ?_
    refine AD.gpure (want := false) (.tf rfl) (fun hg4 => PureOp.lenLst rfl (.gtmp rfl hg4) vh_sl_33) rfl rfl rfl (Nat.le_of_ble_eq_true rfl) ?_
    refine AD.gpure (want := false) (.tf rfl) (fun hg5 => PureOp.intOp rfl (.gtmp rfl hg5) .int rfl) rfl rfl rfl (Nat.le_of_ble_eq_true rfl) ?_
    refine AD.pure (PureOp.pick rfl (.tmp rfl) (fun _ => .bool) (fun hp7 => .gtmp rfl (not_of hp7))) rfl rfl (Nat.le_of_ble_eq_true rfl) ?_
    refine AD.pure (PureOp.move rfl (.tmp rfl)) rfl rfl (Nat.le_of_ble_eq_true rfl) ?_
    refine AD.gpure (want := false) (.tf rfl) (fun hg8 => PureOp.fieldPtr rfl (.tmp rfl) vh_fi_67_1_1) rfl rfl rfl (Nat.le_of_ble_eq_true rfl) ?_
    refine AD.gpure (want := false) (.tf rfl) (fun hg9 => PureOp.loadPtr rfl (.gtmp rfl hg9) vh_pl_33 rfl rfl (Nat.le_of_ble_eq_true rfl) (Nat.le_of_ble_eq_true rfl)) rfl rfl rfl (Nat.le_of_ble_eq_true rfl) ?_
    refine AD.gpure (want := false) (.tf rfl) (fun hg10 => PureOp.call rfl (v_GoodSamples ((h.rows.getD k (default : GRow)).samples)) ⟨⟨_, (.gtmp rfl hg10), .lst⟩, trivial⟩ vh_ca_43 trivial) rfl rfl rfl (Nat.le_of_ble_eq_true rfl) ?_
    refine AD.gpure (want := false) (.tf rfl) (fun hg11 => PureOp.not rfl (.gtmp rfl hg11)) rfl rfl rfl (Nat.le_of_ble_eq_true rfl) ?_
    refine AD.pure (PureOp.pick rfl (.tmp rfl) (fun _ => .bool) (fun hp13 => .gtmp rfl (not_of hp13))) rfl rfl (Nat.le_of_ble_eq_true rfl) ?_
    refine AD.pure (PureOp.move rfl (.tmp rfl)) rfl rfl (Nat.le_of_ble_eq_true rfl) ?_
    refine AD.gpure (want := false) (.tf rfl) (fun hg14 => PureOp.move rfl (.tmp rfl)) rfl rfl rfl (Nat.le_of_ble_eq_true rfl) ?_
    refine AD.gpure (want := false) (.tf rfl) (fun hg15 => PureOp.intOp rfl (.gtmp rfl hg15) .int rfl) rfl rfl rfl (Nat.le_of_ble_eq_true rfl) ?_
    refine AD.gpure (want := false) (.tf rfl) (fun hg16 => PureOp.move rfl (.gtmp rfl hg16)) rfl rfl rfl (Nat.le_of_ble_eq_true rfl) ?_
    refine AD.gpure (want := true) (.gt rfl) (fun hg17 => PureOp.fieldPtr rfl (.tmp rfl) vh_fi_29_0_0) rfl rfl rfl (Nat.le_of_ble_eq_true rfl) ?_
    refine AD.gpure (want := true) (.gt rfl) (fun hg18 => PureOp.loadPtr rfl (.gtmp rfl hg18) vh_pl_27 rfl rfl (Nat.le_of_ble_eq_true rfl) (Nat.le_of_ble_eq_true rfl)) rfl rfl rfl (Nat.le_of_ble_eq_true rfl) ?_
    refine AD.gpure (want := true) (.gt rfl) (fun hg19 => PureOp.move rfl (.tmp rfl)) rfl rfl rfl (Nat.le_of_ble_eq_true rfl) ?_
    refine AD.gpure (want := true) (.gt rfl) (fun hg20 => PureOp.sub (c := (((k - 1) : Nat) : Int)) rfl (.gtmp rfl hg20) .int (by have q := hg20; simp only [Bool.cond_true_left, Bool.cond_false_right, Bool.not_eq_true', Bool.or_eq_false_iff, Bool.not_eq_false', Bool.and_eq_true, Bool.not_not, decide_eq_true_eq, decide_eq_false_iff_not, inB] at q; rw [wrap_id (by omega) (by omega)]; omega)) rfl rfl rfl (Nat.le_of_ble_eq_true rfl) ?_
    refine AD.gpure (want := true) (.gt rfl) (fun hg21 => PureOp.indexLst (i := (k - 1)) rfl (.gtmp rfl hg21) vh_el_27_2 (.gtmp rfl hg21) rfl (by have q := hg21; simp only [Bool.cond_true_left, Bool.cond_false_right, Bool.not_eq_true', Bool.or_eq_false_iff, Bool.not_eq_false', Bool.and_eq_true, Bool.not_not, decide_eq_true_eq, decide_eq_false_iff_not, inB] at q; omega)) rfl rfl rfl (Nat.le_of_ble_eq_true rfl) ?_
    refine AD.gpure (want := true) (.gt rfl) (fun hg22 => PureOp.fieldRef rfl (.gtmp rfl hg22) vh_fi_67_0_0 (Nat.le_of_ble_eq_true rfl)) rfl rfl rfl (Nat.le_of_ble_eq_true rfl) ?_
    refine AD.gpure (want := true) (.gt rfl) (fun hg23 => PureOp.loadRef rfl (.gtmp rfl hg23) vh_pl_9 (Nat.le_of_ble_eq_true rfl)) rfl rfl rfl (Nat.le_of_ble_eq_true rfl) ?_
    refine AD.gpure (want := true) (.gt rfl) (fun hg24 => PureOp.fieldPtr rfl (.tmp rfl) vh_fi_67_0_0) rfl rfl rfl (Nat.le_of_ble_eq_true rfl) ?_
    refine AD.gpure (want := true) (.gt rfl) (fun hg25 => PureOp.loadPtr rfl (.gtmp rfl hg25) vh_pl_9 rfl rfl (Nat.le_of_ble_eq_true rfl) (Nat.le_of_ble_eq_true rfl)) rfl rfl rfl (Nat.le_of_ble_eq_true rfl) ?_
    refine AD.gpure (want := true) (.gt rfl) (fun hg26 => PureOp.strOp rfl (.gtmp rfl hg26) (.gtmp rfl hg26) rfl) rfl rfl rfl (Nat.le_of_ble_eq_true rfl) ?_
    refine AD.gpure (want := false) (.tf rfl) (fun hg27 => PureOp.pick rfl (.gtmp rfl hg27) (fun hp28 => .gtmp rfl (and_mk hg27 hp28)) (fun _ => .bool)) rfl rfl rfl (Nat.le_of_ble_eq_true rfl) ?_
    refine AD.pure (PureOp.pick rfl (.tmp rfl) (fun _ => .bool) (fun hp31 => .gtmp rfl (not_of hp31))) rfl rfl (Nat.le_of_ble_eq_true rfl) ?_
    refine AD.nil ?_
    refine AW.cond (.tmp rfl) (fun hb32 => ?_) (fun hb32 => ?_)
    · have _u := True.intro
      have hbd : rowBad h k = true := hb32
      refine AW.seq ?_
      refine AW.region ?_
      refine ARun.pure (PureOp.assign rfl .bool) rfl rfl (Nat.le_of_ble_eq_true rfl) ?_
      refine ARun.nil ?_
      refine AW.ret (show ResL _ _ [.tmp 2] _ from resB rfl ?_)
      have hno : (List.range h.rows.length).all (fun j => !rowBad h j) = false := rng_no hkl (by rw [hbd]; rfl)
      unfold goodHead; rw [hno]; rfl
    · have _u := True.intro
      have hbd : rowBad h k = false := hb32
      refine AW.skip ?_
      refine AW.region ?_
      refine ARun.pure (PureOp.add (c := ((k + 1 : Nat) : Int)) rfl (.tmp rfl) .int (by rw [wrap_id (by omega) (by omega)]; omega)) rfl rfl (Nat.le_of_ble_eq_true rfl) ?_
      refine ARun.pure (PureOp.move rfl (.tmp rfl)) rfl rfl (Nat.le_of_ble_eq_true rfl) ?_
      refine ARun.nil ?_
      exact ⟨k + 1, ⟨by omega, rng_succ (p := fun j => rowBad h j = false) hks hbd⟩, by dsimp only; omega, ⟨⟨⟨_, rfl, rfl⟩, ⟨_, rfl, rfl⟩, ⟨_, rfl, rfl⟩, ⟨_, rfl, rfl⟩, trivial⟩, HeapLe.one rfl trivial⟩⟩
  · have _u := True.intro
    replace hb1 := of_decide_eq_false hb1
    have hkl : ¬ k < h.rows.length := by omega
    have hall : (List.range h.rows.length).all (fun j => !rowBad h j) = true := rng_yes (fun j hj => by rw [hks j (by omega)]; rfl)
    refine AW.exit ?_
    refine AW.seq ?_
    refine AW.region ?_
    refine ARun.pure (PureOp.fieldPtr rfl (.tmp rfl) vh_fi_29_0_0) rfl rfl (Nat.le_of_ble_eq_true rfl) ?_
    refine ARun.pure (PureOp.loadPtr rfl (.tmp rfl) vh_pl_27 rfl rfl (Nat.le_of_ble_eq_true rfl) (Nat.le_of_ble_eq_true rfl)) rfl rfl (Nat.le_of_ble_eq_true rfl) ?_
    refine ARun.pure (PureOp.lenLst rfl (.tmp rfl) vh_sl_27) rfl rfl (Nat.le_of_ble_eq_true rfl) ?_
    refine ARun.pure (PureOp.intOp rfl (.tmp rfl) .int rfl) rfl rfl (Nat.le_of_ble_eq_true rfl) ?_
    refine ARun.pure (PureOp.move rfl (.tmp rfl)) rfl rfl (Nat.le_of_ble_eq_true rfl) ?_
    refine ARun.gpure (want := true) (.tt rfl) (fun hg33 => PureOp.fieldPtr rfl (.tmp rfl) vh_fi_29_1_1) rfl rfl (Nat.le_of_ble_eq_true rfl) rfl (Nat.le_of_ble_eq_true rfl) ?_
    refine ARun.gpure (want := true) (.tt rfl) (fun hg34 => PureOp.loadPtr rfl (.gtmp rfl hg34) vh_pl_3 rfl rfl (Nat.le_of_ble_eq_true rfl) (Nat.le_of_ble_eq_true rfl)) rfl rfl (Nat.le_of_ble_eq_true rfl) rfl (Nat.le_of_ble_eq_true rfl) ?_
    refine ARun.gpure (want := true) (.tt rfl) (fun hg35 => PureOp.call rfl (v_l1In h.offset 0 1000) ⟨⟨_, (.gtmp rfl hg35), .int⟩, ⟨_, .int, .int⟩, ⟨_, .int, .int⟩, trivial⟩ vh_ca_44 trivial) rfl rfl (Nat.le_of_ble_eq_true rfl) rfl (Nat.le_of_ble_eq_true rfl) ?_
    refine ARun.pure (PureOp.pick rfl (.tmp rfl) (fun hp36 => .gtmp rfl hp36) (fun _ => .bool)) rfl rfl (Nat.le_of_ble_eq_true rfl) ?_
    refine ARun.pure (PureOp.assign rfl (.tmp rfl)) rfl rfl (Nat.le_of_ble_eq_true rfl) ?_
    refine ARun.nil ?_
    refine AW.ret (show ResL _ _ [.tmp 2] _ from resB rfl ?_)
    unfold goodHead; rw [hall]; rfl

def rowBadI (h : GHead) (k : Nat) : Bool :=
  cond (cond (cond (!(nameB ((h.rows.getD k (default : GRow)).name) false)) true (cond (decide (0 < (k : Int))) (!Op.bytesLess ((h.rows.getD (k - 1) (default : GRow)).name).toList ((h.rows.getD k (default : GRow)).name).toList) false)) true (decide (((((h.rows.getD k (default : GRow)).samples).length : Nat) : Int) = 0))) true (!(samplesB ((h.rows.getD k (default : GRow)).samples)))
theorem rowBad_eq (h : GHead) (k : Nat) : rowBad h k = rowBadI h k := by
  unfold rowBad rowBadI
  generalize nameB _ false = a1
  generalize samplesB _ = a2
  generalize decide ((_ : Int) = 0) = a3
  generalize cond (decide ((0 : Int) < (k : Int))) _ false = a4
  revert a1 a2 a3 a4; decide
theorem v_isHead (h : GHead) : Fn Try.prog 46 [.agg [.lst 2 h.rows.length (fun i0 j0 => ([.str ((h.rows.getD i0 (default : GRow)).name), .lst 2 (((h.rows.getD i0 (default : GRow)).samples).length) (fun i1 j1 => ([.int .i64 ((((h.rows.getD i0 (default : GRow)).samples).getD i1 (default : GSample)).at_), .int .i64 ((((h.rows.getD i0 (default : GRow)).samples).getD i1 (default : GSample)).value)] : List AV).getD j1 (.con undef))] : List AV).getD j0 (.con undef)), .int .i64 h.offset]] (.one (.bool (goodHead h))) := by
  refine Fn.of_body (fn := Try.f46) Try.func46 rfl (Nat.le_of_ble_eq_true rfl) trivial ?_
  intro w0
  show AW _ 55 _ _ _ _
  refine AW.boundAL (t := 0) (j := 0) rfl rfl fun hx => ?_
  refine AW.seq ?_
  refine AW.region ?_
  refine ARun.box (id := 0) rfl (.tmp rfl) (SV.cells_of (by exact ⟨trivial, trivial, trivial⟩)) ⟨rfl, (by repeat first | exact trivial | refine ⟨by decide, by first | rfl | exact trivial | (intro i j; first | rfl | exact getD_no rfl | (dsimp only; split <;> first | rfl | exact getD_no rfl) | exact scl_no (by apply_assumption) _), ?_⟩)⟩ rfl rfl rfl (Nat.le_of_ble_eq_true rfl) ?_
  refine ARun.pure (PureOp.assign rfl .bool) rfl rfl (Nat.le_of_ble_eq_true rfl) ?_
  refine ARun.nil ?_
  refine AW.seq ?_
  refine AW.seq ?_
  refine AW.region ?_
  refine ARun.pure (PureOp.fieldPtr rfl (.tmp rfl) vh_fi_29_0_0) rfl rfl (Nat.le_of_ble_eq_true rfl) ?_
  refine ARun.pure (PureOp.loadPtr rfl (.tmp rfl) vh_pl_27 rfl rfl (Nat.le_of_ble_eq_true rfl) (Nat.le_of_ble_eq_true rfl)) rfl rfl (Nat.le_of_ble_eq_true rfl) ?_
  refine ARun.pure (PureOp.lenLst rfl (.tmp rfl) vh_sl_27) rfl rfl (Nat.le_of_ble_eq_true rfl) ?_
  refine ARun.pure (PureOp.move rfl .int) rfl rfl (Nat.le_of_ble_eq_true rfl) ?_
  refine ARun.nil ?_
  refine AW.block ?_
  refine AW.loop (ι := Nat) (fun k => ⟨[(1, .one (.ptr 0 2 0 0)), (6, .one (.lst 2 h.rows.length (fun i0 j0 => ([.str ((h.rows.getD i0 (default : GRow)).name), .lst 2 (((h.rows.getD i0 (default : GRow)).samples).length) (fun i1 j1 => ([.int .i64 ((((h.rows.getD i0 (default : GRow)).samples).getD i1 (default : GSample)).at_), .int .i64 ((((h.rows.getD i0 (default : GRow)).samples).getD i1 (default : GSample)).value)] : List AV).getD j1 (.con undef))] : List AV).getD j0 (.con undef)))), (7, .one (.int .i64 (h.rows.length : Int))), (8, .one (.int .i64 (k : Int)))], [(0, .cells [.lst 2 h.rows.length (fun i0 j0 => ([.str ((h.rows.getD i0 (default : GRow)).name), .lst 2 (((h.rows.getD i0 (default : GRow)).samples).length) (fun i1 j1 => ([.int .i64 ((((h.rows.getD i0 (default : GRow)).samples).getD i1 (default : GSample)).at_), .int .i64 ((((h.rows.getD i0 (default : GRow)).samples).getD i1 (default : GSample)).value)] : List AV).getD j1 (.con undef))] : List AV).getD j0 (.con undef)), .int .i64 h.offset])]⟩) (fun k => k ≤ h.rows.length ∧ ∀ j, j < k → rowBad h j = false) (fun k => h.rows.length - k) 0 ⟨Nat.zero_le _, fun j hj => absurd hj (by omega)⟩ ⟨⟨⟨_, rfl, rfl⟩, ⟨_, rfl, rfl⟩, ⟨_, rfl, rfl⟩, ⟨_, rfl, rfl⟩, trivial⟩, HeapLe.one rfl trivial⟩ ?_
  intro k hI
  obtain ⟨hk, hks⟩ := hI
  refine AW.seq ?_
  refine AW.region ?_
  refine ARun.pure (PureOp.intOp rfl (.tmp rfl) (.tmp rfl) rfl) rfl rfl (Nat.le_of_ble_eq_true rfl) ?_
  refine ARun.nil ?_
  refine AW.seq ?_
  refine AW.cond (.tmp rfl) (fun hb1 => ?_) (fun hb1 => ?_)
  · have _u := True.intro
    replace hb1 := of_decide_eq_true hb1
    have hkl : k < h.rows.length := by omega
    refine AW.skip ?_
    refine AW.seq ?_
    refine AW.block ?_
    refine AW.seq ?_
    refine AW.region ?_
    refine ARun.pure (PureOp.move rfl (.tmp rfl)) rfl rfl (Nat.le_of_ble_eq_true rfl) ?_
    refine ARun.pure (PureOp.indexLst (i := k) rfl (.tmp rfl) vh_el_27_2 (.tmp rfl) rfl (by omega)) rfl rfl (Nat.le_of_ble_eq_true rfl) ?_
    refine ARun.pure (PureOp.loadRefAgg rfl (.tmp rfl) vh_ag_67_2 (Nat.le_of_ble_eq_true rfl)) rfl rfl (Nat.le_of_ble_eq_true rfl) ?_
    refine ARun.alloc (id := 1) (l := [.str ByteArray.empty, .lst 2 0 (fun _ _ => .con undef)]) (z := (.agg #[.string ByteArray.empty, .slice none 0 0])) rfl (by kernel_rfl) (fun _ _ _ => ⟨_, _, rfl, ⟨rfl, by decide⟩, ⟨_, _, rfl, ⟨none, 0, rfl, Nat.le_refl _, by decide, fun _ => rfl, fun i hi => absurd hi (by omega)⟩, rfl⟩⟩) ⟨rfl, (by repeat first | exact trivial | refine ⟨by decide, by first | rfl | exact trivial | (intro i j; first | rfl | exact getD_no rfl | (dsimp only; split <;> first | rfl | exact getD_no rfl) | exact scl_no (by apply_assumption) _), ?_⟩)⟩ rfl rfl rfl (Nat.le_of_ble_eq_true rfl) ?_
    refine ARun.pure (PureOp.assign rfl (.tmp rfl)) rfl rfl (Nat.le_of_ble_eq_true rfl) ?_
    refine ARun.store rfl (.tmp rfl) (.tmp rfl) (SV.cells_of (by exact ⟨trivial, trivial, trivial⟩)) rfl (Nat.le_of_ble_eq_true rfl) vh_sz_67_2 rfl rfl ?_
    refine ARun.nil ?_
    refine AW.seq ?_
    refine AW.any (by kernel_rfl) (by kernel_rfl) ?_
    refine AD.pure (PureOp.fieldPtr rfl (.tmp rfl) vh_fi_67_0_0) rfl rfl (Nat.le_of_ble_eq_true rfl) ?_
    refine AD.pure (PureOp.loadPtr rfl (.tmp rfl) vh_pl_9 rfl rfl (Nat.le_of_ble_eq_true rfl) (Nat.le_of_ble_eq_true rfl)) rfl rfl (Nat.le_of_ble_eq_true rfl) ?_
    refine AD.pure (PureOp.call rfl (v_isWord ((h.rows.getD k (default : GRow)).name) false) ⟨⟨_, (.tmp rfl), .str⟩, ⟨_, .bool, .bool⟩, trivial⟩ vh_ca_70 trivial) rfl rfl (Nat.le_of_ble_eq_true rfl) ?_
    refine AD.pure (PureOp.not rfl (.tmp rfl)) rfl rfl (Nat.le_of_ble_eq_true rfl) ?_
    refine AD.pure (PureOp.move rfl (.tmp rfl)) rfl rfl (Nat.le_of_ble_eq_true rfl) ?_
    refine AD.gpure (want := false) (.tf rfl) (fun hg2 => PureOp.move rfl (.tmp rfl)) rfl rfl rfl (Nat.le_of_ble_eq_true rfl) ?_
    refine AD.gpure (want := false) (.tf rfl) (fun hg3 => PureOp.intOp rfl (.gtmp rfl hg3) .int rfl) rfl rfl rfl (Nat.le_of_ble_eq_true rfl) ?_
    refine AD.gpure (want := false) (.tf rfl) (fun hg4 => PureOp.move rfl (.gtmp rfl hg4)) rfl rfl rfl (Nat.le_of_ble_eq_true rfl) ?_
    refine AD.gpure (want := true) (.gt rfl) (fun hg5 => PureOp.fieldPtr rfl (.tmp rfl) vh_fi_29_0_0) rfl rfl rfl (Nat.le_of_ble_eq_true rfl) ?_
    refine AD.gpure (want := true) (.gt rfl) (fun hg6 => PureOp.loadPtr rfl (.gtmp rfl hg6) vh_pl_27 rfl rfl (Nat.le_of_ble_eq_true rfl) (Nat.le_of_ble_eq_true rfl)) rfl rfl rfl (Nat.le_of_ble_eq_true rfl) ?_
    refine AD.gpure (want := true) (.gt rfl) (fun hg7 => PureOp.move rfl (.tmp rfl)) rfl rfl rfl (Nat.le_of_ble_eq_true rfl) ?_
    refine AD.gpure (want := true) (.gt rfl) (fun hg8 => PureOp.sub (c := (((k - 1) : Nat) : Int)) rfl (.gtmp rfl hg8) .int (by have q := hg8; simp only [Bool.cond_true_left, Bool.cond_false_right, Bool.not_eq_true', Bool.or_eq_false_iff, Bool.not_eq_false', Bool.and_eq_true, Bool.not_not, decide_eq_true_eq, decide_eq_false_iff_not, inB] at q; rw [wrap_id (by omega) (by omega)]; omega)) rfl rfl rfl (Nat.le_of_ble_eq_true rfl) ?_
    refine AD.gpure (want := true) (.gt rfl) (fun hg9 => PureOp.indexLst (i := (k - 1)) rfl (.gtmp rfl hg9) vh_el_27_2 (.gtmp rfl hg9) rfl (by have q := hg9; simp only [Bool.cond_true_left, Bool.cond_false_right, Bool.not_eq_true', Bool.or_eq_false_iff, Bool.not_eq_false', Bool.and_eq_true, Bool.not_not, decide_eq_true_eq, decide_eq_false_iff_not, inB] at q; omega)) rfl rfl rfl (Nat.le_of_ble_eq_true rfl) ?_
    refine AD.gpure (want := true) (.gt rfl) (fun hg10 => PureOp.fieldRef rfl (.gtmp rfl hg10) vh_fi_67_0_0 (Nat.le_of_ble_eq_true rfl)) rfl rfl rfl (Nat.le_of_ble_eq_true rfl) ?_
    refine AD.gpure (want := true) (.gt rfl) (fun hg11 => PureOp.loadRef rfl (.gtmp rfl hg11) vh_pl_9 (Nat.le_of_ble_eq_true rfl)) rfl rfl rfl (Nat.le_of_ble_eq_true rfl) ?_
    refine AD.gpure (want := true) (.gt rfl) (fun hg12 => PureOp.fieldPtr rfl (.tmp rfl) vh_fi_67_0_0) rfl rfl rfl (Nat.le_of_ble_eq_true rfl) ?_
    refine AD.gpure (want := true) (.gt rfl) (fun hg13 => PureOp.loadPtr rfl (.gtmp rfl hg13) vh_pl_9 rfl rfl (Nat.le_of_ble_eq_true rfl) (Nat.le_of_ble_eq_true rfl)) rfl rfl rfl (Nat.le_of_ble_eq_true rfl) ?_
    refine AD.gpure (want := true) (.gt rfl) (fun hg14 => PureOp.strOp rfl (.gtmp rfl hg14) (.gtmp rfl hg14) rfl) rfl rfl rfl (Nat.le_of_ble_eq_true rfl) ?_
    refine AD.gpure (want := false) (.tf rfl) (fun hg15 => PureOp.pick rfl (.gtmp rfl hg15) (fun hp16 => .gtmp rfl (and_mk hg15 hp16)) (fun _ => .bool)) rfl rfl rfl (Nat.le_of_ble_eq_true rfl) ?_
    refine AD.pure (PureOp.pick rfl (.tmp rfl) (fun _ => .bool) (fun hp19 => .gtmp rfl (not_of hp19))) rfl rfl (Nat.le_of_ble_eq_true rfl) ?_
    refine AD.pure (PureOp.move rfl (.tmp rfl)) rfl rfl (Nat.le_of_ble_eq_true rfl) ?_
    refine AD.gpure (want := false) (.tf rfl) (fun hg20 => PureOp.fieldPtr rfl (.tmp rfl) vh_fi_67_1_1) rfl rfl rfl (Nat.le_of_ble_eq_true rfl) ?_
    refine AD.gpure (want := false) (.tf rfl) (fun hg21 => PureOp.loadPtr rfl (.gtmp rfl hg21) vh_pl_33 rfl rfl (Nat.le_of_ble_eq_true rfl) (Nat.le_of_ble_eq_true rfl)) rfl rfl rfl (Nat.le_of_ble_eq_true rfl) ?_
    refine AD.gpure (want := false) (.tf rfl) (fun hg22 => PureOp.lenLst rfl (.gtmp rfl hg22) vh_sl_33) rfl rfl rfl (Nat.le_of_ble_eq_true rfl) ?_
    refine AD.gpure (want := false) (.tf rfl) (fun hg23 => PureOp.intOp rfl (.gtmp rfl hg23) .int rfl) rfl rfl rfl (Nat.le_of_ble_eq_true rfl) ?_
    refine AD.pure (PureOp.pick rfl (.tmp rfl) (fun _ => .bool) (fun hp25 => .gtmp rfl (not_of hp25))) rfl rfl (Nat.le_of_ble_eq_true rfl) ?_
    refine AD.pure (PureOp.move rfl (.tmp rfl)) rfl rfl (Nat.le_of_ble_eq_true rfl) ?_
    refine AD.gpure (want := false) (.tf rfl) (fun hg26 => PureOp.fieldPtr rfl (.tmp rfl) vh_fi_67_1_1) rfl rfl rfl (Nat.le_of_ble_eq_true rfl) ?_
    refine AD.gpure (want := false) (.tf rfl) (fun hg27 => PureOp.loadPtr rfl (.gtmp rfl hg27) vh_pl_33 rfl rfl (Nat.le_of_ble_eq_true rfl) (Nat.le_of_ble_eq_true rfl)) rfl rfl rfl (Nat.le_of_ble_eq_true rfl) ?_
    refine AD.gpure (want := false) (.tf rfl) (fun hg28 => PureOp.call rfl (v_areSamples ((h.rows.getD k (default : GRow)).samples)) ⟨⟨_, (.gtmp rfl hg28), .lst⟩, trivial⟩ vh_ca_71 trivial) rfl rfl rfl (Nat.le_of_ble_eq_true rfl) ?_
    refine AD.gpure (want := false) (.tf rfl) (fun hg29 => PureOp.not rfl (.gtmp rfl hg29)) rfl rfl rfl (Nat.le_of_ble_eq_true rfl) ?_
    refine AD.pure (PureOp.pick rfl (.tmp rfl) (fun _ => .bool) (fun hp31 => .gtmp rfl (not_of hp31))) rfl rfl (Nat.le_of_ble_eq_true rfl) ?_
    refine AD.nil ?_
    refine AW.cond (.tmp rfl) (fun hb32 => ?_) (fun hb32 => ?_)
    · have _u := True.intro
      have hbd : rowBad h k = true := (rowBad_eq h k).trans hb32
      refine AW.seq ?_
      refine AW.region ?_
      refine ARun.pure (PureOp.assign rfl .bool) rfl rfl (Nat.le_of_ble_eq_true rfl) ?_
      refine ARun.nil ?_
      refine AW.ret (show ResL _ _ [.tmp 2] _ from resB rfl ?_)
      have hno : (List.range h.rows.length).all (fun j => !rowBad h j) = false := rng_no hkl (by rw [hbd]; rfl)
      unfold goodHead; rw [hno]; rfl
    · have _u := True.intro
      have hbd : rowBad h k = false := (rowBad_eq h k).trans hb32
      refine AW.skip ?_
      refine AW.region ?_
      refine ARun.pure (PureOp.add (c := ((k + 1 : Nat) : Int)) rfl (.tmp rfl) .int (by rw [wrap_id (by omega) (by omega)]; omega)) rfl rfl (Nat.le_of_ble_eq_true rfl) ?_
      refine ARun.pure (PureOp.move rfl (.tmp rfl)) rfl rfl (Nat.le_of_ble_eq_true rfl) ?_
      refine ARun.nil ?_
      exact ⟨k + 1, ⟨by omega, rng_succ (p := fun j => rowBad h j = false) hks hbd⟩, by dsimp only; omega, ⟨⟨⟨_, rfl, rfl⟩, ⟨_, rfl, rfl⟩, ⟨_, rfl, rfl⟩, ⟨_, rfl, rfl⟩, trivial⟩, HeapLe.one rfl trivial⟩⟩
  · have _u := True.intro
    replace hb1 := of_decide_eq_false hb1
    have hkl : ¬ k < h.rows.length := by omega
    have hall : (List.range h.rows.length).all (fun j => !rowBad h j) = true := rng_yes (fun j hj => by rw [hks j (by omega)]; rfl)
    refine AW.exit ?_
    refine AW.seq ?_
    refine AW.region ?_
    refine ARun.pure (PureOp.fieldPtr rfl (.tmp rfl) vh_fi_29_0_0) rfl rfl (Nat.le_of_ble_eq_true rfl) ?_
    refine ARun.pure (PureOp.loadPtr rfl (.tmp rfl) vh_pl_27 rfl rfl (Nat.le_of_ble_eq_true rfl) (Nat.le_of_ble_eq_true rfl)) rfl rfl (Nat.le_of_ble_eq_true rfl) ?_
    refine ARun.pure (PureOp.lenLst rfl (.tmp rfl) vh_sl_27) rfl rfl (Nat.le_of_ble_eq_true rfl) ?_
    refine ARun.pure (PureOp.intOp rfl (.tmp rfl) .int rfl) rfl rfl (Nat.le_of_ble_eq_true rfl) ?_
    refine ARun.pure (PureOp.move rfl (.tmp rfl)) rfl rfl (Nat.le_of_ble_eq_true rfl) ?_
    refine ARun.gpure (want := true) (.tt rfl) (fun hg33 => PureOp.fieldPtr rfl (.tmp rfl) vh_fi_29_1_1) rfl rfl (Nat.le_of_ble_eq_true rfl) rfl (Nat.le_of_ble_eq_true rfl) ?_
    refine ARun.gpure (want := true) (.tt rfl) (fun hg34 => PureOp.loadPtr rfl (.gtmp rfl hg34) vh_pl_3 rfl rfl (Nat.le_of_ble_eq_true rfl) (Nat.le_of_ble_eq_true rfl)) rfl rfl (Nat.le_of_ble_eq_true rfl) rfl (Nat.le_of_ble_eq_true rfl) ?_
    refine ARun.gpure (want := true) (.tt rfl) (fun hg35 => PureOp.call rfl (v_within h.offset 0 1000) ⟨⟨_, (.gtmp rfl hg35), .int⟩, ⟨_, .int, .int⟩, ⟨_, .int, .int⟩, trivial⟩ vh_ca_72 trivial) rfl rfl (Nat.le_of_ble_eq_true rfl) rfl (Nat.le_of_ble_eq_true rfl) ?_
    refine ARun.pure (PureOp.pick rfl (.tmp rfl) (fun hp36 => .gtmp rfl hp36) (fun _ => .bool)) rfl rfl (Nat.le_of_ble_eq_true rfl) ?_
    refine ARun.pure (PureOp.assign rfl (.tmp rfl)) rfl rfl (Nat.le_of_ble_eq_true rfl) ?_
    refine ARun.nil ?_
    refine AW.ret (show ResL _ _ [.tmp 2] _ from resB rfl ?_)
    unfold goodHead; rw [hall]; rfl

end Go.Proofs.Ytmfkmifkkplidaa


/-
  strings.Compare and slices.BinarySearchFunc: where a row stands.
-/
namespace Go.Proofs.Ytmfkmifkkplidaa
open Go.Proofs Go.Shelf
open Go.ChangeShapes Go.WideShapes Go.ChangeAt Go.RowKit Go.BigFrame Go.Deep
set_option linter.unusedVariables false
set_option linter.unusedSimpArgs false
theorem vrc_ag_67_2 : aggB Try.prog 67 2 = true := by kernel_rfl
theorem vrc_ca_75 : callB Try.prog 75 = true := by kernel_rfl
theorem vrc_ca_76 : callB Try.prog 76 = true := by kernel_rfl
theorem vrc_cv_120_3_.i64 : convB Try.prog 120 3 .i64 = true := by kernel_rfl
theorem vrc_cv_3_120_.u64 : convB Try.prog 3 120 .u64 = true := by kernel_rfl
theorem vrc_el_27_2 : elemB Try.prog 27 2 = true := by kernel_rfl
theorem vrc_fi_67_0_0 : fieldB Try.prog 67 0 0 = true := by kernel_rfl
theorem vrc_pl_9 : plainB Try.prog 9 = true := by kernel_rfl
theorem vrc_sl_27 : sliceB Try.prog 27 = true := by kernel_rfl
def ren_n106 : Shelf.Ren where
  f := fun x => match x with | 106 => 76 | 213 => 86 | 265 => 91 | n => n
  t := fun x => match x with | 3 => 3 | 9 => 9 | n => n
  g := fun x => x
theorem lays_n106 : Lays.n106 Try.prog ren_n106 where
  mixed := by kernel_rfl
  f106 := by kernel_rfl
  f213 := by kernel_rfl
  f265 := by kernel_rfl
  t3 := Try.underlying3
  a3 := Try.isAgg3
  z3 := Try.sizeOf3
  v3 := Try.zeroValue3
  t9 := Try.underlying9
  a9 := Try.isAgg9
  z9 := Try.sizeOf9
  v9 := Try.zeroValue9

theorem v_Compare (a b : ByteArray) : Fn Try.prog 76 [.one (.str a), .one (.str b)] (.one (.int .i64 (cmpS a b))) := by
  intro w S vs hS hd
  obtain ⟨v, vs1, rfl, ⟨rfl, _⟩, u, vs2, rfl, ⟨rfl, _⟩, h3⟩ := hd
  obtain rfl : vs2 = [] := h3
  exact (Any.strings_Compare lays_n106 a b w).mono fun e w' ⟨he, hw⟩ => ⟨he, hw ▸ Below.refl _ _⟩
/-- The first row whose name is not below s. -/
def loF (h : GHead) (s : ByteArray) : Nat := h.rows.findIdx (fun r => decide (0 ≤ cmpS r.name s))
theorem good_step {h : GHead} (hg : goodHead h = true) {k : Nat} (h0 : 0 < k) (hk : k < h.rows.length) : Op.bytesLess (h.rows.getD (k - 1) (default : GRow)).name.toList (h.rows.getD k (default : GRow)).name.toList = true := by
  unfold goodHead at hg
  rw [Bool.and_eq_true] at hg
  have h1 := List.all_eq_true.1 hg.1 k (List.mem_range.2 hk)
  rw [Bool.not_eq_true'] at h1
  unfold rowBad at h1
  revert h1
  generalize nameB _ false = a1
  generalize samplesB _ = a2
  generalize decide ((_ : Int) = 0) = a3
  have e : decide ((0 : Int) < (k : Int)) = true := decide_eq_true (by omega)
  rw [e]
  generalize Op.bytesLess _ _ = a4
  revert a1 a2 a3 a4; decide
theorem good_lt {h : GHead} (hg : goodHead h = true) : ∀ (d a : Nat), a + (d + 1) < h.rows.length → Op.bytesLess (h.rows.getD a (default : GRow)).name.toList (h.rows.getD (a + (d + 1)) (default : GRow)).name.toList = true
  | 0, a, hl => good_step hg (k := a + 1) (by omega) hl
  | d + 1, a, hl => less_trans (good_lt hg d a (by omega)) (good_step hg (k := a + (d + 1 + 1)) (by omega) hl)
theorem loF_le (h : GHead) (s : ByteArray) : loF h s ≤ h.rows.length := List.findIdx_le_length
theorem loF_lt {h : GHead} {s : ByteArray} {a : Nat} (ha : a < loF h s) : cmpS (h.rows.getD a (default : GRow)).name s < 0 := by
  have hl : a < h.rows.length := Nat.lt_of_lt_of_le ha (loF_le h s)
  have h1 := List.not_of_lt_findIdx ha
  rw [List.getD_eq_getElem?_getD, List.getElem?_eq_getElem hl]
  have := of_decide_eq_false h1
  show cmpS (h.rows[a]).name s < 0
  omega
theorem loF_at {h : GHead} {s : ByteArray} (hl : loF h s < h.rows.length) : 0 ≤ cmpS (h.rows.getD (loF h s) (default : GRow)).name s := by
  rw [List.getD_eq_getElem?_getD, List.getElem?_eq_getElem hl]
  exact of_decide_eq_true (List.findIdx_getElem (w := hl))
theorem loF_ge {h : GHead} {s : ByteArray} (hg : goodHead h = true) {a : Nat} (h1 : loF h s ≤ a) (h2 : a < h.rows.length) : ¬ cmpS (h.rows.getD a (default : GRow)).name s < 0 := by
  intro hc
  have h3 := loF_at (h := h) (s := s) (by omega)
  by_cases e : loF h s = a
  · rw [e] at h3; omega
  · obtain ⟨d, rfl⟩ : ∃ d, a = loF h s + (d + 1) := ⟨a - loF h s - 1, by omega⟩
    have h4 := good_lt hg d (loF h s) h2
    have h5 := (cmpS_lt _ _).2 (less_trans h4 ((cmpS_lt _ _).1 hc))
    omega
def isRow (h : GHead) (s : ByteArray) : Bool := decide (loF h s < h.rows.length) && decide ((h.rows.getD (loF h s) (default : GRow)).name = s)
def rowV (h : GHead) (s : ByteArray) : List GSample × Bool := if goodHead h = true ∧ isRow h s = true then ((h.rows.getD (loF h s) (default : GRow)).samples, true) else ([], false)

theorem v_Find1 (x : GRow) (s : ByteArray) : Fn Try.prog 75 [.agg [.str x.name, .lst 2 x.samples.length (fun i0 j0 => ([.int .i64 ((x.samples.getD i0 (default : GSample)).at_), .int .i64 ((x.samples.getD i0 (default : GSample)).value)] : List AV).getD j0 (.con undef))], .one (.str s)] (.one (.int .i64 (cmpS x.name s))) := by
  refine Fn.of_body (fn := Try.f75) Try.func75 rfl (Nat.le_of_ble_eq_true rfl) trivial ?_
  intro w0
  show AW _ 9 _ _ _ _
  refine AW.seq ?_
  refine AW.region ?_
  refine ARun.box (id := 0) rfl (.tmp rfl) (SV.cells_of (by exact ⟨trivial, trivial, trivial⟩)) ⟨rfl, (by repeat first | exact trivial | refine ⟨by decide, by first | rfl | exact trivial | (intro i j; first | rfl | exact getD_no rfl | (dsimp only; split <;> first | rfl | exact getD_no rfl) | exact scl_no (by apply_assumption) _), ?_⟩)⟩ rfl rfl rfl (Nat.le_of_ble_eq_true rfl) ?_
  refine ARun.pure (PureOp.assign rfl .int) rfl rfl (Nat.le_of_ble_eq_true rfl) ?_
  refine ARun.nil ?_
  refine AW.seq ?_
  refine AW.region ?_
  refine ARun.pure (PureOp.fieldPtr rfl (.tmp rfl) vrc_fi_67_0_0) rfl rfl (Nat.le_of_ble_eq_true rfl) ?_
  refine ARun.pure (PureOp.loadPtr rfl (.tmp rfl) vrc_pl_9 rfl rfl (Nat.le_of_ble_eq_true rfl) (Nat.le_of_ble_eq_true rfl)) rfl rfl (Nat.le_of_ble_eq_true rfl) ?_
  refine ARun.pure (PureOp.move rfl (.tmp rfl)) rfl rfl (Nat.le_of_ble_eq_true rfl) ?_
  refine ARun.pure (PureOp.call rfl (v_Compare x.name s) ⟨⟨_, (.tmp rfl), .str⟩, ⟨_, (.tmp rfl), .str⟩, trivial⟩ vrc_ca_76 trivial) rfl rfl (Nat.le_of_ble_eq_true rfl) ?_
  refine ARun.pure (PureOp.assign rfl (.tmp rfl)) rfl rfl (Nat.le_of_ble_eq_true rfl) ?_
  refine ARun.nil ?_
  refine AW.ret (show ResL _ _ [.tmp 4] _ from resI rfl ?_)
  rfl

theorem v_Bs (l : List GRow) (s : ByteArray) (lo : Nat) (hl : l.length ≤ 1048576) (hlo : lo ≤ l.length) (hlt : ∀ a, a < lo → cmpS (l.getD a (default : GRow)).name s < 0) (hge : ∀ a, lo ≤ a → a < l.length → ¬ cmpS (l.getD a (default : GRow)).name s < 0) : Fn Try.prog 74 [.one (.lst 2 l.length (fun i0 j0 => ([.str ((l.getD i0 (default : GRow)).name), .lst 2 (((l.getD i0 (default : GRow)).samples).length) (fun i1 j1 => ([.int .i64 ((((l.getD i0 (default : GRow)).samples).getD i1 (default : GSample)).at_), .int .i64 ((((l.getD i0 (default : GRow)).samples).getD i1 (default : GSample)).value)] : List AV).getD j1 (.con undef))] : List AV).getD j0 (.con undef))), .one (.str s), .one (.fn 75 0 (fun _ => .con undef))] (.tup2 (.one (.int .i64 (lo : Int))) (.one (.bool (decide (lo < l.length) && decide ((l.getD lo (default : GRow)).name = s))))) := by
  refine Fn.of_body (fn := Try.f74) Try.func74 rfl (Nat.le_of_ble_eq_true rfl) ⟨trivial, trivial⟩ ?_
  intro w0
  show AW _ 49 _ _ _ _
  refine AW.bound (t := 0) rfl fun hx => ?_
  refine AW.seq ?_
  refine AW.region ?_
  refine ARun.pure (PureOp.assign rfl .int) rfl rfl (Nat.le_of_ble_eq_true rfl) ?_
  refine ARun.pure (PureOp.assign rfl .bool) rfl rfl (Nat.le_of_ble_eq_true rfl) ?_
  refine ARun.nil ?_
  refine AW.seq ?_
  refine AW.region ?_
  refine ARun.pure (PureOp.move rfl (.tmp rfl)) rfl rfl (Nat.le_of_ble_eq_true rfl) ?_
  refine ARun.pure (PureOp.lenLst rfl (.tmp rfl) vrc_sl_27) rfl rfl (Nat.le_of_ble_eq_true rfl) ?_
  refine ARun.pure (PureOp.assign rfl (.tmp rfl)) rfl rfl (Nat.le_of_ble_eq_true rfl) ?_
  refine ARun.nil ?_
  refine AW.seq ?_
  refine AW.region ?_
  refine ARun.pure (PureOp.move rfl (.tmp rfl)) rfl rfl (Nat.le_of_ble_eq_true rfl) ?_
  refine ARun.pure (PureOp.assign rfl .int) rfl rfl (Nat.le_of_ble_eq_true rfl) ?_
  refine ARun.pure (PureOp.assign rfl (.tmp rfl)) rfl rfl (Nat.le_of_ble_eq_true rfl) ?_
  refine ARun.nil ?_
  refine AW.seq ?_
  refine AW.block ?_
  refine AW.loop (ι := Nat × Nat) (fun vv => ⟨[(0, .one (.lst 2 l.length (fun i0 j0 => ([.str ((l.getD i0 (default : GRow)).name), .lst 2 (((l.getD i0 (default : GRow)).samples).length) (fun i1 j1 => ([.int .i64 ((((l.getD i0 (default : GRow)).samples).getD i1 (default : GSample)).at_), .int .i64 ((((l.getD i0 (default : GRow)).samples).getD i1 (default : GSample)).value)] : List AV).getD j1 (.con undef))] : List AV).getD j0 (.con undef)))), (1, .one (.str s)), (2, .one (.fn 75 0 (fun _ => .con undef))), (8, .one (.int .i64 (l.length : Int))), (9, .one (.int .i64 (vv.1 : Int))), (10, .one (.int .i64 (vv.2 : Int)))], []⟩) (fun vv => vv.1 ≤ lo ∧ lo ≤ vv.2 ∧ vv.2 ≤ l.length) (fun vv => vv.2 - vv.1) (0, l.length) ⟨Nat.zero_le _, hlo, Nat.le_refl _⟩ ⟨⟨⟨_, rfl, rfl⟩, ⟨_, rfl, rfl⟩, ⟨_, rfl, rfl⟩, ⟨_, rfl, rfl⟩, ⟨_, rfl, rfl⟩, ⟨_, rfl, rfl⟩, trivial⟩, trivial⟩ ?_
  intro vv hI
  obtain ⟨hi1, hi2, hi3⟩ := hI
  refine AW.seq ?_
  refine AW.seq ?_
  refine AW.region ?_
  refine ARun.pure (PureOp.move rfl (.tmp rfl)) rfl rfl (Nat.le_of_ble_eq_true rfl) ?_
  refine ARun.pure (PureOp.move rfl (.tmp rfl)) rfl rfl (Nat.le_of_ble_eq_true rfl) ?_
  refine ARun.pure (PureOp.intOp rfl (.tmp rfl) (.tmp rfl) rfl) rfl rfl (Nat.le_of_ble_eq_true rfl) ?_
  refine ARun.nil ?_
  refine AW.cond (.tmp rfl) (fun hb1 => ?_) (fun hb1 => ?_)
  · have _u := True.intro
    replace hb1 := of_decide_eq_true hb1
    refine AW.skip ?_
    refine AW.block ?_
    refine AW.seq ?_
    refine AW.region ?_
    refine ARun.pure (PureOp.move rfl (.tmp rfl)) rfl rfl (Nat.le_of_ble_eq_true rfl) ?_
    refine ARun.pure (PureOp.move rfl (.tmp rfl)) rfl rfl (Nat.le_of_ble_eq_true rfl) ?_
    refine ARun.pure (PureOp.add (c := ((vv.1 + vv.2 : Nat) : Int)) rfl (.tmp rfl) (.tmp rfl) (by rw [wrap_id (by omega) (by omega)]; omega)) rfl rfl (Nat.le_of_ble_eq_true rfl) ?_
    refine ARun.pure (PureOp.conv (b := ((vv.1 + vv.2 : Nat) : Int)) rfl (.tmp rfl) vrc_cv_3_120_.u64 (wrap_u64 (by omega) (by omega))) rfl rfl (Nat.le_of_ble_eq_true rfl) ?_
    refine ARun.pure (PureOp.shr1 (a := vv.1 + vv.2) rfl (.tmp rfl) .int) rfl rfl (Nat.le_of_ble_eq_true rfl) ?_
    refine ARun.pure (PureOp.conv (b := (((vv.1 + vv.2) / 2 : Nat) : Int)) rfl (.tmp rfl) vrc_cv_120_3_.i64 (wrap_id (by omega) (by omega))) rfl rfl (Nat.le_of_ble_eq_true rfl) ?_
    refine ARun.pure (PureOp.assign rfl (.tmp rfl)) rfl rfl (Nat.le_of_ble_eq_true rfl) ?_
    refine ARun.nil ?_
    refine AW.seq ?_
    refine AW.region ?_
    refine ARun.pure (PureOp.move rfl (.tmp rfl)) rfl rfl (Nat.le_of_ble_eq_true rfl) ?_
    refine ARun.pure (PureOp.move rfl (.tmp rfl)) rfl rfl (Nat.le_of_ble_eq_true rfl) ?_
    refine ARun.pure (PureOp.move rfl (.tmp rfl)) rfl rfl (Nat.le_of_ble_eq_true rfl) ?_
    refine ARun.pure (PureOp.indexLst (i := (vv.1 + vv.2) / 2) rfl (.tmp rfl) vrc_el_27_2 (.tmp rfl) rfl (by omega)) rfl rfl (Nat.le_of_ble_eq_true rfl) ?_
    refine ARun.pure (PureOp.loadRefAgg rfl (.tmp rfl) vrc_ag_67_2 (Nat.le_of_ble_eq_true rfl)) rfl rfl (Nat.le_of_ble_eq_true rfl) ?_
    refine ARun.pure (PureOp.move rfl (.tmp rfl)) rfl rfl (Nat.le_of_ble_eq_true rfl) ?_
    refine ARun.pure (PureOp.callv rfl (.tmp rfl) (show Fn Try.prog 75 ([.agg [.str ((l.getD ((vv.1 + vv.2) / 2) (default : GRow)).name), .lst 2 (((l.getD ((vv.1 + vv.2) / 2) (default : GRow)).samples).length) (fun i0 j0 => ([.int .i64 ((((l.getD ((vv.1 + vv.2) / 2) (default : GRow)).samples).getD i0 (default : GSample)).at_), .int .i64 ((((l.getD ((vv.1 + vv.2) / 2) (default : GRow)).samples).getD i0 (default : GSample)).value)] : List AV).getD j0 (.con undef))], .one (.str s)] ++ capL 0 (fun _ => .con undef)) _ from v_Find1 (l.getD ((vv.1 + vv.2) / 2) (default : GRow)) s) (fun j h => absurd h (by omega)) ⟨⟨_, (.tmp rfl), ⟨.str, .lst, trivial⟩⟩, ⟨_, (.tmp rfl), .str⟩, trivial⟩ vrc_ca_75 trivial) rfl rfl (Nat.le_of_ble_eq_true rfl) ?_
    refine ARun.pure (PureOp.intOp rfl (.tmp rfl) .int rfl) rfl rfl (Nat.le_of_ble_eq_true rfl) ?_
    refine ARun.nil ?_
    refine AW.cond (.tmp rfl) (fun hb2 => ?_) (fun hb2 => ?_)
    · have _u := True.intro
      replace hb2 := of_decide_eq_true hb2
      have hm : ((vv.1 + vv.2) / 2) < lo := (Nat.lt_or_ge ((vv.1 + vv.2) / 2) lo).elim id (fun hc => absurd hb2 (hge _ hc (by omega)))
      refine AW.region ?_
      refine ARun.pure (PureOp.move rfl (.tmp rfl)) rfl rfl (Nat.le_of_ble_eq_true rfl) ?_
      refine ARun.pure (PureOp.add (c := (((vv.1 + vv.2) / 2 + 1 : Nat) : Int)) rfl (.tmp rfl) .int (by rw [wrap_id (by omega) (by omega)]; omega)) rfl rfl (Nat.le_of_ble_eq_true rfl) ?_
      refine ARun.pure (PureOp.assign rfl (.tmp rfl)) rfl rfl (Nat.le_of_ble_eq_true rfl) ?_
      refine ARun.nil ?_
      exact ⟨((vv.1 + vv.2) / 2 + 1, vv.2), (by dsimp only; omega), by dsimp only; omega, ⟨⟨⟨_, rfl, rfl⟩, ⟨_, rfl, rfl⟩, ⟨_, rfl, rfl⟩, ⟨_, rfl, rfl⟩, ⟨_, rfl, rfl⟩, ⟨_, rfl, rfl⟩, trivial⟩, trivial⟩⟩
    · have _u := True.intro
      replace hb2 := of_decide_eq_false hb2
      have hm : ¬ ((vv.1 + vv.2) / 2) < lo := fun hc => hb2 (hlt _ hc)
      refine AW.region ?_
      refine ARun.pure (PureOp.move rfl (.tmp rfl)) rfl rfl (Nat.le_of_ble_eq_true rfl) ?_
      refine ARun.pure (PureOp.assign rfl (.tmp rfl)) rfl rfl (Nat.le_of_ble_eq_true rfl) ?_
      refine ARun.nil ?_
      exact ⟨(vv.1, (vv.1 + vv.2) / 2), (by dsimp only; omega), by dsimp only; omega, ⟨⟨⟨_, rfl, rfl⟩, ⟨_, rfl, rfl⟩, ⟨_, rfl, rfl⟩, ⟨_, rfl, rfl⟩, ⟨_, rfl, rfl⟩, ⟨_, rfl, rfl⟩, trivial⟩, trivial⟩⟩
  · have _u := True.intro
    replace hb1 := of_decide_eq_false hb1
    refine AW.exit ?_
    refine AW.seq ?_
    refine AW.region ?_
    refine ARun.pure (PureOp.move rfl (.tmp rfl)) rfl rfl (Nat.le_of_ble_eq_true rfl) ?_
    refine ARun.pure (PureOp.move rfl (.tmp rfl)) rfl rfl (Nat.le_of_ble_eq_true rfl) ?_
    refine ARun.pure (PureOp.move rfl (.tmp rfl)) rfl rfl (Nat.le_of_ble_eq_true rfl) ?_
    refine ARun.pure (PureOp.intOp rfl (.tmp rfl) (.tmp rfl) rfl) rfl rfl (Nat.le_of_ble_eq_true rfl) ?_
    refine ARun.pure (PureOp.move rfl (.tmp rfl)) rfl rfl (Nat.le_of_ble_eq_true rfl) ?_
    refine ARun.gpure (want := true) (.tt rfl) (fun hg3 => PureOp.move rfl (.tmp rfl)) rfl rfl (Nat.le_of_ble_eq_true rfl) rfl (Nat.le_of_ble_eq_true rfl) ?_
    refine ARun.gpure (want := true) (.tt rfl) (fun hg4 => PureOp.move rfl (.tmp rfl)) rfl rfl (Nat.le_of_ble_eq_true rfl) rfl (Nat.le_of_ble_eq_true rfl) ?_
    refine ARun.gpure (want := true) (.tt rfl) (fun hg5 => PureOp.move rfl (.tmp rfl)) rfl rfl (Nat.le_of_ble_eq_true rfl) rfl (Nat.le_of_ble_eq_true rfl) ?_
    refine ARun.gpure (want := true) (.tt rfl) (fun hg6 => PureOp.indexLst (i := vv.1) rfl (.gtmp rfl hg6) vrc_el_27_2 (.gtmp rfl hg6) rfl (by have q := hg6; simp only [Bool.cond_true_left, Bool.cond_false_right, Bool.not_eq_true', Bool.or_eq_false_iff, Bool.not_eq_false', Bool.and_eq_true, Bool.not_not, decide_eq_true_eq, decide_eq_false_iff_not, inB] at q; omega)) rfl rfl (Nat.le_of_ble_eq_true rfl) rfl (Nat.le_of_ble_eq_true rfl) ?_
    refine ARun.gpure (want := true) (.tt rfl) (fun hg7 => PureOp.loadRefAgg rfl (.gtmp rfl hg7) vrc_ag_67_2 (Nat.le_of_ble_eq_true rfl)) rfl rfl (Nat.le_of_ble_eq_true rfl) rfl (Nat.le_of_ble_eq_true rfl) ?_
    refine ARun.gpure (want := true) (.tt rfl) (fun hg8 => PureOp.move rfl (.tmp rfl)) rfl rfl (Nat.le_of_ble_eq_true rfl) rfl (Nat.le_of_ble_eq_true rfl) ?_
    refine ARun.gpure (want := true) (.tt rfl) (fun hg9 => PureOp.callv rfl (.gtmp rfl hg9) (show Fn Try.prog 75 ([.agg [.str ((l.getD vv.1 (default : GRow)).name), .lst 2 (((l.getD vv.1 (default : GRow)).samples).length) (fun i0 j0 => ([.int .i64 ((((l.getD vv.1 (default : GRow)).samples).getD i0 (default : GSample)).at_), .int .i64 ((((l.getD vv.1 (default : GRow)).samples).getD i0 (default : GSample)).value)] : List AV).getD j0 (.con undef))], .one (.str s)] ++ capL 0 (fun _ => .con undef)) _ from v_Find1 (l.getD vv.1 (default : GRow)) s) (fun j h => absurd h (by omega)) ⟨⟨_, (.gtmp rfl hg9), ⟨.str, .lst, trivial⟩⟩, ⟨_, (.gtmp rfl hg9), .str⟩, trivial⟩ vrc_ca_75 trivial) rfl rfl (Nat.le_of_ble_eq_true rfl) rfl (Nat.le_of_ble_eq_true rfl) ?_
    refine ARun.gpure (want := true) (.tt rfl) (fun hg10 => PureOp.intOp rfl (.gtmp rfl hg10) .int rfl) rfl rfl (Nat.le_of_ble_eq_true rfl) rfl (Nat.le_of_ble_eq_true rfl) ?_
    refine ARun.pure (PureOp.pick rfl (.tmp rfl) (fun hp11 => .gtmp rfl hp11) (fun _ => .bool)) rfl rfl (Nat.le_of_ble_eq_true rfl) ?_
    refine ARun.pure (PureOp.assign rfl (.tmp rfl)) rfl rfl (Nat.le_of_ble_eq_true rfl) ?_
    refine ARun.pure (PureOp.assign rfl (.tmp rfl)) rfl rfl (Nat.le_of_ble_eq_true rfl) ?_
    refine ARun.nil ?_
    refine AW.ret (show ResL _ _ [.tmp 6, .tmp 7] _ from res2I rfl rfl ?_)
    have he : vv.1 = lo := by omega
    rw [he]
    refine ⟨rfl, ?_⟩
    generalize (l.getD lo _) = rr
    by_cases hc : lo < l.length
    · rw [decide_eq_true (show ((lo : Nat) : Int) < ((l.length : Nat) : Int) by omega), decide_eq_true hc]; exact decide_eq_decide.2 (cmpS_zero _ _)
    · rw [decide_eq_false (show ¬ ((lo : Nat) : Int) < ((l.length : Nat) : Int) by omega), decide_eq_false hc]; rfl

end Go.Proofs.Ytmfkmifkkplidaa

