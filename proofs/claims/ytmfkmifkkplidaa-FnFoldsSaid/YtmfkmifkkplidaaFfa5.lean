/-
  Part 5 of the proof: the texts of a seat's own library, joined.
-/
import Derived.Test.YtmfkmifkkplidaaFfa4
/-
  The reference's step (l13Take): what it makes of a head.
-/
namespace Go.Proofs.Ytmfkmifkkplidaa
open Go.ChangeShapes Go.WideShapes Go.ChangeAt Go.RowKit Go.BigFrame Go.Deep
set_option linter.unusedVariables false
set_option linter.unusedSimpArgs false
theorem vst_ag_29_2 : aggB Try.prog 29 2 = true := by kernel_rfl
theorem vst_ag_81_2 : aggB Try.prog 81 2 = true := by kernel_rfl
theorem vst_el_27_2 : elemB Try.prog 27 2 = true := by kernel_rfl
theorem vst_el_33_2 : elemB Try.prog 33 2 = true := by kernel_rfl
theorem vst_fi_29_0_0 : fieldB Try.prog 29 0 0 = true := by kernel_rfl
theorem vst_fi_29_1_1 : fieldB Try.prog 29 1 1 = true := by kernel_rfl
theorem vst_fi_47_0_0 : fieldB Try.prog 47 0 0 = true := by kernel_rfl
theorem vst_fi_47_1_1 : fieldB Try.prog 47 1 1 = true := by kernel_rfl
theorem vst_fi_47_2_2 : fieldB Try.prog 47 2 2 = true := by kernel_rfl
theorem vst_fi_67_0_0 : fieldB Try.prog 67 0 0 = true := by kernel_rfl
theorem vst_fi_67_1_1 : fieldB Try.prog 67 1 1 = true := by kernel_rfl
theorem vst_fi_81_0_0 : fieldB Try.prog 81 0 0 = true := by kernel_rfl
theorem vst_pl_27 : plainB Try.prog 27 = true := by kernel_rfl
theorem vst_pl_3 : plainB Try.prog 3 = true := by kernel_rfl
theorem vst_pl_33 : plainB Try.prog 33 = true := by kernel_rfl
theorem vst_pl_9 : plainB Try.prog 9 = true := by kernel_rfl
theorem vst_sl_27 : sliceB Try.prog 27 = true := by kernel_rfl
theorem vst_sl_33 : sliceB Try.prog 33 = true := by kernel_rfl
theorem vst_sz_27_1 : sizeB Try.prog 27 1 = true := by kernel_rfl
theorem vst_sz_29_2 : sizeB Try.prog 29 2 = true := by kernel_rfl
theorem vst_sz_33_1 : sizeB Try.prog 33 1 = true := by kernel_rfl
theorem vst_sz_3_1 : sizeB Try.prog 3 1 = true := by kernel_rfl
theorem vst_sz_81_2 : sizeB Try.prog 81 2 = true := by kernel_rfl
theorem cnd_t {a b : Bool} (h : cond a b false = true) : a = true ∧ b = true := by revert a b; decide
theorem cnd_f {a b : Bool} (h : cond a b false = false) (ha : a = true) : b = false := by revert a b; decide
theorem loF_unique {h : GHead} {s : ByteArray} {k : Nat} (hk : k ≤ h.rows.length) (h1 : ∀ j, j < k → cmpS (h.rows.getD j (default : GRow)).name s < 0) (h2 : k < h.rows.length → ¬ cmpS (h.rows.getD k (default : GRow)).name s < 0) : loF h s = k := by
  have hle := loF_le h s
  rcases Nat.lt_trichotomy (loF h s) k with h3 | h3 | h3
  · have h4 := loF_at (h := h) (s := s) (by omega)
    have := h1 _ h3
    omega
  · exact h3
  · exact absurd (loF_lt h3) (h2 (by omega))
theorem isRow_c (h : GHead) (s : ByteArray) : isRow h s = cond (decide (((loF h s : Nat) : Int) < ((h.rows.length : Nat) : Int))) (decide ((h.rows.getD (loF h s) (default : GRow)).name = s)) false := by
  unfold isRow
  by_cases h1 : loF h s < h.rows.length
  · rw [decide_eq_true h1, decide_eq_true (show ((loF h s : Nat) : Int) < ((h.rows.length : Nat) : Int) by omega)]; rfl
  · rw [decide_eq_false h1, decide_eq_false (show ¬ ((loF h s : Nat) : Int) < ((h.rows.length : Nat) : Int) by omega)]; rfl
theorem addS_cell1 {h : GHead} {x : GSay} (hir : isRow h x.name = false) {i j : Nat} (hi : i < 1) (hj : j < 2) : ([.int .i64 x.at_, .int .i64 x.value] : List AV).getD j (.con undef) = ceSample ((addS h x).getD i (default : GSample)) j := by
  obtain rfl : i = 0 := by omega
  rw [addS_ins hir]
  exact (match j, hj with | 0, _ => rfl | 1, _ => rfl | _ + 2, h => absurd h (by omega))
abbrev newT (h : GHead) (x : GSay) : Nat → Nat → AV := fun _ jc => ([.str x.name, .tre 500 h.rows.length] : List AV).getD jc (.con undef)
theorem newT_no {h : GHead} {x : GSay} {id : Nat} (h1 : (500 == id) = false) (a b : Nat) : (newT h x a b).no id = true := match b with
  | 0 => rfl
  | 1 => by show (!(500 == id)) = true; rw [h1]; rfl
  | _ + 2 => rfl
theorem row_insT {h : GHead} {x : GSay} (hir : isRow h x.name = false) (hc : takeCode h x = 1) : ∀ a b, a < h.rows.length + 1 → b < 2 → rowC0 (takeH h x) 78 a b = insF (rowC0 h 500) (newT h x) (loF h x.name) a b ∨ ∃ p, p < h.rows.length + 1 ∧ insF (rowC0 h 500) (newT h x) (loF h x.name) a b = .tre 500 (pmI h.rows.length (loF h x.name) p) ∧ rowC0 (takeH h x) 78 a b = .tre 78 p := fun a b ha hb => match b, hb with
  | 0, _ => by
    refine .inl ?_
    unfold insF
    show AV.str ((takeH h x).rows.getD a (default : GRow)).name = _
    rw [tR_ins hir hc, insL_at _ (loF_le h x.name)]
    split
    · rfl
    · split <;> rfl
  | 1, _ => by
    refine .inr ⟨a, ha, ?_, rfl⟩
    unfold insF pmI
    by_cases e : a < loF h x.name
    · rw [if_pos e, if_pos e]; rfl
    · rw [if_neg e, if_neg e]
      by_cases e2 : a = loF h x.name
      · rw [if_pos e2, if_pos e2]; rfl
      · rw [if_neg e2, if_neg e2]; rfl
  | _ + 2, h => absurd h (by omega)

theorem v_l13Take0 (h : GHead) (x : GSay) (hg : goodHead ⟨h.rows, 0⟩ = true) (ho : 0 ≤ h.offset ∧ h.offset ≤ 1000000) : FnG Try.prog 56 [.agg [.own 1000001 2 h.rows.length, .int .i64 h.offset], .agg [.str x.name, .int .i64 x.at_, .int .i64 x.value]] [(1000001, .arr 2 h.rows.length (rowC0 h 1000002)), (1000002, .trees h.rows.length (rowX0 h))] (.tup2 (.agg [.own 77 2 (takeN h x), .int .i64 (takeH h x).offset]) (.one (.int .i64 ((takeCode h x : Nat) : Int)))) [(77, .arr 2 (takeN h x) (rowC0 (takeH h x) 78)), (78, .trees (takeN h x) (rowX0 (takeH h x)))] := by
  obtain ⟨ho0, ho1⟩ := ho
  have hr8 : h.rows.length ≤ 8 := good_len (h := ⟨h.rows, 0⟩) hg
  refine FnG.of_body (fn := Try.f56) Try.func56 rfl (Nat.le_of_ble_eq_true rfl) ?_
  intro w0
  show AW _ 121 _ _ _ _
  refine AW.reindex 1000002 500 1000001 h.rows.length h.rows.length 2 h.rows.length id (rowX0 h) (rowC0 h 1000002) (rowC0 h 500) rfl rfl (fun _ hi => hi) (fun _ _ _ _ e => e) row_id ⟨rfl, (by repeat first | exact trivial | refine ⟨by decide, by first | rfl | exact trivial | (intro a_ b_; first | exact getD_no rfl | exact rowC0_no rfl _ _ | exact newT_no rfl _ _ | exact rowS_no rfl rfl _ _ | exact insF_no (rowC0_no rfl) (newT_no rfl) _ _ _ | ((try dsimp only); (repeat' split) <;> first | rfl | exact rowC0_no rfl _ _ | exact getD_no rfl | exact insF_no (rowC0_no rfl) (newT_no rfl) _ _ _)), ?_⟩)⟩ ?_
  refine AW.hle (H' := [(500, .trees h.rows.length (takeX h x)), (1000001, .arr 2 h.rows.length (rowC0 h 500))]) ⟨⟨_, rfl, fun _ hi => (takeX_lt hi).symm⟩, HeapLe.one rfl trivial⟩ ?_
  refine AW.seq ?_
  refine AW.region ?_
  refine ARun.box (id := 0) rfl (.tmp rfl) (SV.cells_of (by exact ⟨trivial, trivial, trivial⟩)) ⟨rfl, (by repeat first | exact trivial | refine ⟨by decide, by first | rfl | exact trivial | (intro a_ b_; first | exact getD_no rfl | exact rowC0_no rfl _ _ | exact newT_no rfl _ _ | exact rowS_no rfl rfl _ _ | exact insF_no (rowC0_no rfl) (newT_no rfl) _ _ _ | ((try dsimp only); (repeat' split) <;> first | rfl | exact rowC0_no rfl _ _ | exact getD_no rfl | exact insF_no (rowC0_no rfl) (newT_no rfl) _ _ _)), ?_⟩)⟩ rfl rfl rfl (Nat.le_of_ble_eq_true rfl) ?_
  refine ARun.box (id := 1) rfl (.tmp rfl) (SV.cells_of (by exact ⟨trivial, trivial, trivial, trivial⟩)) ⟨rfl, (by repeat first | exact trivial | refine ⟨by decide, by first | rfl | exact trivial | (intro a_ b_; first | exact getD_no rfl | exact rowC0_no rfl _ _ | exact newT_no rfl _ _ | exact rowS_no rfl rfl _ _ | exact insF_no (rowC0_no rfl) (newT_no rfl) _ _ _ | ((try dsimp only); (repeat' split) <;> first | rfl | exact rowC0_no rfl _ _ | exact getD_no rfl | exact insF_no (rowC0_no rfl) (newT_no rfl) _ _ _)), ?_⟩)⟩ rfl rfl rfl (Nat.le_of_ble_eq_true rfl) ?_
  refine ARun.alloc (id := 2) (l := [.con (.slice none 0 0), .int .i64 0]) (z := (.agg #[.slice none 0 0, .int .i64 0])) rfl (by kernel_rfl) (fun _ _ _ => ⟨_, _, rfl, rfl, ⟨_, _, rfl, rfl, rfl⟩⟩) ⟨rfl, (by repeat first | exact trivial | refine ⟨by decide, by first | rfl | exact trivial | (intro a_ b_; first | exact getD_no rfl | exact rowC0_no rfl _ _ | exact newT_no rfl _ _ | exact rowS_no rfl rfl _ _ | exact insF_no (rowC0_no rfl) (newT_no rfl) _ _ _ | ((try dsimp only); (repeat' split) <;> first | rfl | exact rowC0_no rfl _ _ | exact getD_no rfl | exact insF_no (rowC0_no rfl) (newT_no rfl) _ _ _)), ?_⟩)⟩ rfl rfl rfl (Nat.le_of_ble_eq_true rfl) ?_
  refine ARun.pure (PureOp.assign rfl .int) rfl rfl (Nat.le_of_ble_eq_true rfl) ?_
  refine ARun.nil ?_
  refine AW.seq ?_
  refine AW.region ?_
  refine ARun.pure (PureOp.fieldPtr rfl (.tmp rfl) vst_fi_29_1_1) rfl rfl (Nat.le_of_ble_eq_true rfl) ?_
  refine ARun.pure (PureOp.loadPtr rfl (.tmp rfl) vst_pl_3 rfl rfl (Nat.le_of_ble_eq_true rfl) (Nat.le_of_ble_eq_true rfl)) rfl rfl (Nat.le_of_ble_eq_true rfl) ?_
  refine ARun.pure (PureOp.add (c := h.offset + 1) rfl (.tmp rfl) .int (wrap_id (by omega) (by omega))) rfl rfl (Nat.le_of_ble_eq_true rfl) ?_
  refine ARun.pure (PureOp.fieldPtr rfl (.tmp rfl) vst_fi_29_1_1) rfl rfl (Nat.le_of_ble_eq_true rfl) ?_
  refine ARun.store rfl (.tmp rfl) (.tmp rfl) trivial rfl (Nat.le_of_ble_eq_true rfl) vst_sz_3_1 rfl rfl ?_
  refine ARun.nil ?_
  refine AW.seq ?_
  refine AW.region ?_
  refine ARun.pure (PureOp.assign rfl .int) rfl rfl (Nat.le_of_ble_eq_true rfl) ?_
  refine ARun.nil ?_
  refine AW.seq ?_
  refine AW.block ?_
  refine AW.loop (ι := Nat) (fun k => ⟨[(2, .one (.ptr 0 2 0 0)), (3, .one (.ptr 1 3 0 0)), (4, .one (.ptr 2 2 0 0)), (6, .one (.int .i64 (k : Int)))], [(0, .cells [.own 1000001 2 h.rows.length, .int .i64 (h.offset + 1)]), (1, .cells [.str x.name, .int .i64 x.at_, .int .i64 x.value]), (2, .cells [.con (.slice none 0 0), .int .i64 0]), (500, .trees h.rows.length (takeX h x)), (1000001, .arr 2 h.rows.length (rowC0 h 500))]⟩) (fun k => k ≤ h.rows.length ∧ ∀ j, j < k → cmpS (h.rows.getD j (default : GRow)).name x.name < 0) (fun k => h.rows.length - k) 0 ⟨Nat.zero_le _, fun j hj => absurd hj (by omega)⟩ ⟨⟨⟨_, rfl, rfl⟩, ⟨_, rfl, rfl⟩, ⟨_, rfl, rfl⟩, ⟨_, rfl, rfl⟩, trivial⟩, HeapLe.one rfl (HeapLe.one rfl (HeapLe.one rfl (HeapLe.one rfl (HeapLe.one rfl trivial))))⟩ ?_
  intro k hI
  obtain ⟨hk, hlt⟩ := hI
  refine AW.seq ?_
  refine AW.seq ?_
  refine AW.any (by kernel_rfl) (by kernel_rfl) ?_
  refine AD.pure (PureOp.move rfl (.tmp rfl)) rfl rfl (Nat.le_of_ble_eq_true rfl) ?_
  refine AD.pure (PureOp.fieldPtr rfl (.tmp rfl) vst_fi_29_0_0) rfl rfl (Nat.le_of_ble_eq_true rfl) ?_
  refine AD.pure (PureOp.loadPtr rfl (.tmp rfl) vst_pl_27 rfl rfl (Nat.le_of_ble_eq_true rfl) (Nat.le_of_ble_eq_true rfl)) rfl rfl (Nat.le_of_ble_eq_true rfl) ?_
  refine AD.pure (PureOp.lenOwn rfl (.tmp rfl) vst_sl_27) rfl rfl (Nat.le_of_ble_eq_true rfl) ?_
  refine AD.pure (PureOp.intOp rfl (.tmp rfl) (.tmp rfl) rfl) rfl rfl (Nat.le_of_ble_eq_true rfl) ?_
  refine AD.pure (PureOp.move rfl (.tmp rfl)) rfl rfl (Nat.le_of_ble_eq_true rfl) ?_
  refine AD.gpure (want := true) (.tt rfl) (fun hg1 => PureOp.fieldPtr rfl (.tmp rfl) vst_fi_29_0_0) rfl rfl rfl (Nat.le_of_ble_eq_true rfl) ?_
  refine AD.gpure (want := true) (.tt rfl) (fun hg2 => PureOp.loadPtr rfl (.gtmp rfl hg2) vst_pl_27 rfl rfl (Nat.le_of_ble_eq_true rfl) (Nat.le_of_ble_eq_true rfl)) rfl rfl rfl (Nat.le_of_ble_eq_true rfl) ?_
  refine AD.gpure (want := true) (.tt rfl) (fun hg3 => PureOp.move rfl (.tmp rfl)) rfl rfl rfl (Nat.le_of_ble_eq_true rfl) ?_
  refine AD.gpure (want := true) (.tt rfl) (fun hg4 => PureOp.indexOwn (i := k) rfl (.gtmp rfl hg4) vst_el_27_2 (.gtmp rfl hg4) rfl (by have q := hg4; simp only [Bool.cond_true_left, Bool.cond_false_right, Bool.not_eq_true', Bool.or_eq_false_iff, Bool.not_eq_false', Bool.and_eq_true, Bool.not_not, decide_eq_true_eq, decide_eq_false_iff_not, inB] at q; exact (show k < h.rows.length from by omega))) rfl rfl rfl (Nat.le_of_ble_eq_true rfl) ?_
  refine AD.gpure (want := true) (.tt rfl) (fun hg5 => PureOp.fieldPtr rfl (.gtmp rfl hg5) vst_fi_67_0_0) rfl rfl rfl (Nat.le_of_ble_eq_true rfl) ?_
  refine AD.gpure (want := true) (.tt rfl) (fun hg6 => PureOp.loadPtrE (y := .str ((h.rows.getD k (default : GRow)).name)) rfl (.gtmp rfl hg6) vst_pl_9 rfl rfl (by have q := hg6; simp only [Bool.cond_true_left, Bool.cond_false_right, Bool.not_eq_true', Bool.or_eq_false_iff, Bool.not_eq_false', Bool.and_eq_true, Bool.not_not, decide_eq_true_eq, decide_eq_false_iff_not, inB] at q; exact (show k < h.rows.length from by omega)) (Nat.le_of_ble_eq_true rfl) rfl) rfl rfl rfl (Nat.le_of_ble_eq_true rfl) ?_
  refine AD.gpure (want := true) (.tt rfl) (fun hg7 => PureOp.fieldPtr rfl (.tmp rfl) vst_fi_47_0_0) rfl rfl rfl (Nat.le_of_ble_eq_true rfl) ?_
  refine AD.gpure (want := true) (.tt rfl) (fun hg8 => PureOp.loadPtr rfl (.gtmp rfl hg8) vst_pl_9 rfl rfl (Nat.le_of_ble_eq_true rfl) (Nat.le_of_ble_eq_true rfl)) rfl rfl rfl (Nat.le_of_ble_eq_true rfl) ?_
  refine AD.gpure (want := true) (.tt rfl) (fun hg9 => PureOp.strOp rfl (.gtmp rfl hg9) (.gtmp rfl hg9) rfl) rfl rfl rfl (Nat.le_of_ble_eq_true rfl) ?_
  refine AD.pure (PureOp.pick rfl (.tmp rfl) (fun hp10 => .gtmp rfl hp10) (fun _ => .bool)) rfl rfl (Nat.le_of_ble_eq_true rfl) ?_
  refine AD.nil ?_
  refine AW.cond (.tmp rfl) (fun hb12 => ?_) (fun hb12 => ?_)
  · have _u := True.intro
    obtain ⟨hb1_, hb2_⟩ := cnd_t hb12
    have hkl : k < h.rows.length := by have := of_decide_eq_true hb1_; omega
    have hls := (cmpS_lt _ _).2 hb2_
    refine AW.skip ?_
    refine AW.block ?_
    refine AW.region ?_
    refine ARun.pure (PureOp.move rfl (.tmp rfl)) rfl rfl (Nat.le_of_ble_eq_true rfl) ?_
    refine ARun.pure (PureOp.add (c := ((k + 1 : Nat) : Int)) rfl (.tmp rfl) .int (by rw [wrap_id (by omega) (by omega)]; omega)) rfl rfl (Nat.le_of_ble_eq_true rfl) ?_
    refine ARun.pure (PureOp.assign rfl (.tmp rfl)) rfl rfl (Nat.le_of_ble_eq_true rfl) ?_
    refine ARun.nil ?_
    exact ⟨k + 1, ⟨by omega, fun j hj => (Nat.lt_succ_iff_lt_or_eq.1 hj).elim (hlt j) (fun e => e ▸ hls)⟩, by dsimp only; omega, ⟨⟨⟨_, rfl, rfl⟩, ⟨_, rfl, rfl⟩, ⟨_, rfl, rfl⟩, ⟨_, rfl, rfl⟩, trivial⟩, HeapLe.one rfl (HeapLe.one rfl (HeapLe.one rfl (HeapLe.one rfl (HeapLe.one rfl trivial))))⟩⟩
  · have _u := True.intro
    have hlk : loF h x.name = k := loF_unique hk hlt (fun hkn hc => by have := (cmpS_lt _ _).1 hc; rw [cnd_f hb12 (decide_eq_true (by omega))] at this; cases this)
    subst hlk
    have hlo := loF_le h x.name
    refine AW.exit ?_
    refine AW.seq ?_
    refine AW.region ?_
    refine ARun.pure (PureOp.fieldPtr rfl (.tmp rfl) vst_fi_47_1_1) rfl rfl (Nat.le_of_ble_eq_true rfl) ?_
    refine ARun.pure (PureOp.loadPtr rfl (.tmp rfl) vst_pl_3 rfl rfl (Nat.le_of_ble_eq_true rfl) (Nat.le_of_ble_eq_true rfl)) rfl rfl (Nat.le_of_ble_eq_true rfl) ?_
    refine ARun.pure (PureOp.fieldPtr rfl (.tmp rfl) vst_fi_47_2_2) rfl rfl (Nat.le_of_ble_eq_true rfl) ?_
    refine ARun.pure (PureOp.loadPtr rfl (.tmp rfl) vst_pl_3 rfl rfl (Nat.le_of_ble_eq_true rfl) (Nat.le_of_ble_eq_true rfl)) rfl rfl (Nat.le_of_ble_eq_true rfl) ?_
    refine ARun.pure (PureOp.build (ys := [.int .i64 x.at_, .int .i64 x.value]) (l := [.int .i64 0, .int .i64 0]) (pl := [(0, 1), (1, 1)]) (z := (.agg #[.int .i64 0, .int .i64 0])) rfl (by kernel_rfl) (by kernel_rfl) (fun _ _ _ => ⟨_, _, rfl, rfl, ⟨_, _, rfl, rfl, rfl⟩⟩) ⟨(.tmp rfl), trivial, rfl, ⟨(.tmp rfl), trivial, rfl, trivial⟩⟩ rfl) rfl rfl (Nat.le_of_ble_eq_true rfl) ?_
    refine ARun.alloc (id := 3) (l := [.int .i64 0, .int .i64 0]) (z := (.agg #[.int .i64 0, .int .i64 0])) rfl (by kernel_rfl) (fun _ _ _ => ⟨_, _, rfl, rfl, ⟨_, _, rfl, rfl, rfl⟩⟩) ⟨rfl, (by repeat first | exact trivial | refine ⟨by decide, by first | rfl | exact trivial | (intro a_ b_; first | exact getD_no rfl | exact rowC0_no rfl _ _ | exact newT_no rfl _ _ | exact rowS_no rfl rfl _ _ | exact insF_no (rowC0_no rfl) (newT_no rfl) _ _ _ | ((try dsimp only); (repeat' split) <;> first | rfl | exact rowC0_no rfl _ _ | exact getD_no rfl | exact insF_no (rowC0_no rfl) (newT_no rfl) _ _ _)), ?_⟩)⟩ rfl rfl rfl (Nat.le_of_ble_eq_true rfl) ?_
    refine ARun.store rfl (.tmp rfl) (.tmp rfl) (SV.cells_of (by exact ⟨trivial, trivial, trivial⟩)) rfl (Nat.le_of_ble_eq_true rfl) vst_sz_81_2 rfl rfl ?_
    refine ARun.nil ?_
    refine AW.seq ?_
    refine AW.seq ?_
    refine AW.any (by kernel_rfl) (by kernel_rfl) ?_
    refine AD.pure (PureOp.move rfl (.tmp rfl)) rfl rfl (Nat.le_of_ble_eq_true rfl) ?_
    refine AD.pure (PureOp.fieldPtr rfl (.tmp rfl) vst_fi_29_0_0) rfl rfl (Nat.le_of_ble_eq_true rfl) ?_
    refine AD.pure (PureOp.loadPtr rfl (.tmp rfl) vst_pl_27 rfl rfl (Nat.le_of_ble_eq_true rfl) (Nat.le_of_ble_eq_true rfl)) rfl rfl (Nat.le_of_ble_eq_true rfl) ?_
    refine AD.pure (PureOp.lenOwn rfl (.tmp rfl) vst_sl_27) rfl rfl (Nat.le_of_ble_eq_true rfl) ?_
    refine AD.pure (PureOp.intOp rfl (.tmp rfl) (.tmp rfl) rfl) rfl rfl (Nat.le_of_ble_eq_true rfl) ?_
    refine AD.pure (PureOp.move rfl (.tmp rfl)) rfl rfl (Nat.le_of_ble_eq_true rfl) ?_
    refine AD.gpure (want := true) (.tt rfl) (fun hg13 => PureOp.fieldPtr rfl (.tmp rfl) vst_fi_29_0_0) rfl rfl rfl (Nat.le_of_ble_eq_true rfl) ?_
    refine AD.gpure (want := true) (.tt rfl) (fun hg14 => PureOp.loadPtr rfl (.gtmp rfl hg14) vst_pl_27 rfl rfl (Nat.le_of_ble_eq_true rfl) (Nat.le_of_ble_eq_true rfl)) rfl rfl rfl (Nat.le_of_ble_eq_true rfl) ?_
    refine AD.gpure (want := true) (.tt rfl) (fun hg15 => PureOp.move rfl (.tmp rfl)) rfl rfl rfl (Nat.le_of_ble_eq_true rfl) ?_
    refine AD.gpure (want := true) (.tt rfl) (fun hg16 => PureOp.indexOwn (i := (loF h x.name)) rfl (.gtmp rfl hg16) vst_el_27_2 (.gtmp rfl hg16) rfl (by have q := hg16; simp only [Bool.cond_true_left, Bool.cond_false_right, Bool.not_eq_true', Bool.or_eq_false_iff, Bool.not_eq_false', Bool.and_eq_true, Bool.not_not, decide_eq_true_eq, decide_eq_false_iff_not, inB] at q; exact (show (loF h x.name) < h.rows.length from by omega))) rfl rfl rfl (Nat.le_of_ble_eq_true rfl) ?_
    refine AD.gpure (want := true) (.tt rfl) (fun hg17 => PureOp.fieldPtr rfl (.gtmp rfl hg17) vst_fi_67_0_0) rfl rfl rfl (Nat.le_of_ble_eq_true rfl) ?_
    refine AD.gpure (want := true) (.tt rfl) (fun hg18 => PureOp.loadPtrE (y := .str ((h.rows.getD (loF h x.name) (default : GRow)).name)) rfl (.gtmp rfl hg18) vst_pl_9 rfl rfl (by have q := hg18; simp only [Bool.cond_true_left, Bool.cond_false_right, Bool.not_eq_true', Bool.or_eq_false_iff, Bool.not_eq_false', Bool.and_eq_true, Bool.not_not, decide_eq_true_eq, decide_eq_false_iff_not, inB] at q; exact (show (loF h x.name) < h.rows.length from by omega)) (Nat.le_of_ble_eq_true rfl) rfl) rfl rfl rfl (Nat.le_of_ble_eq_true rfl) ?_
    refine AD.gpure (want := true) (.tt rfl) (fun hg19 => PureOp.fieldPtr rfl (.tmp rfl) vst_fi_47_0_0) rfl rfl rfl (Nat.le_of_ble_eq_true rfl) ?_
    refine AD.gpure (want := true) (.tt rfl) (fun hg20 => PureOp.loadPtr rfl (.gtmp rfl hg20) vst_pl_9 rfl rfl (Nat.le_of_ble_eq_true rfl) (Nat.le_of_ble_eq_true rfl)) rfl rfl rfl (Nat.le_of_ble_eq_true rfl) ?_
    refine AD.gpure (want := true) (.tt rfl) (fun hg21 => PureOp.strOp rfl (.gtmp rfl hg21) (.gtmp rfl hg21) rfl) rfl rfl rfl (Nat.le_of_ble_eq_true rfl) ?_
    refine AD.pure (PureOp.pick rfl (.tmp rfl) (fun hp22 => .gtmp rfl hp22) (fun _ => .bool)) rfl rfl (Nat.le_of_ble_eq_true rfl) ?_
    refine AD.nil ?_
    refine AW.cond (.tmp rfl) (fun hb24 => ?_) (fun hb24 => ?_)
    · have _u := True.intro
      have hir : isRow h x.name = true := (isRow_c h x.name).trans hb24
      replace hlo := row_lo hir
      have hgr := good_at (h := ⟨h.rows, 0⟩) hg hlo
      have hs1 := hgr.2.1
      have hs2 := smp_40 hgr.2.2
      replace hs1 : 0 < (rowK h x).samples.length := hs1
      replace hs2 : (rowK h x).samples.length ≤ 40 := hs2
      refine AW.seq ?_
      refine AW.region ?_
      refine ARun.pure (PureOp.fieldPtr rfl (.tmp rfl) vst_fi_29_0_0) rfl rfl (Nat.le_of_ble_eq_true rfl) ?_
      refine ARun.pure (PureOp.loadPtr rfl (.tmp rfl) vst_pl_27 rfl rfl (Nat.le_of_ble_eq_true rfl) (Nat.le_of_ble_eq_true rfl)) rfl rfl (Nat.le_of_ble_eq_true rfl) ?_
      refine ARun.pure (PureOp.move rfl (.tmp rfl)) rfl rfl (Nat.le_of_ble_eq_true rfl) ?_
      refine ARun.pure (PureOp.indexOwn (i := (loF h x.name)) rfl (.tmp rfl) vst_el_27_2 (.tmp rfl) rfl (by exact (show (loF h x.name) < h.rows.length from by omega))) rfl rfl (Nat.le_of_ble_eq_true rfl) ?_
      refine ARun.pure (PureOp.fieldPtr rfl (.tmp rfl) vst_fi_67_1_1) rfl rfl (Nat.le_of_ble_eq_true rfl) ?_
      refine ARun.pure (PureOp.loadPtrE (y := .tre 500 (loF h x.name)) rfl (.tmp rfl) vst_pl_33 rfl rfl (by exact (show (loF h x.name) < h.rows.length from by omega)) (Nat.le_of_ble_eq_true rfl) rfl) rfl rfl (Nat.le_of_ble_eq_true rfl) ?_
      refine ARun.pure (PureOp.assign rfl (.tmp rfl)) rfl rfl (Nat.le_of_ble_eq_true rfl) ?_
      refine ARun.nil ?_
      refine AW.seq ?_
      refine AW.region ?_
      refine ARun.pure (PureOp.move rfl (.tmp rfl)) rfl rfl (Nat.le_of_ble_eq_true rfl) ?_
      refine ARun.pure (PureOp.move rfl (.tmp rfl)) rfl rfl (Nat.le_of_ble_eq_true rfl) ?_
      refine ARun.pure (PureOp.lenTre (m := h.rows.length) (sz := 2) (n := (rowK h x).samples.length) (f := (fun a b => ceSample ((rowK h x).samples.getD a (default : GSample)) b)) rfl (.tmp rfl) rfl (by omega) ((takeX_lt (by omega)).trans rfl) vst_sl_33) rfl rfl (Nat.le_of_ble_eq_true rfl) ?_
      refine ARun.pure (PureOp.sub (c := (((rowK h x).samples.length - 1 : Nat) : Int)) rfl (.tmp rfl) .int (by rw [wrap_id (by omega) (by omega)]; omega)) rfl rfl (Nat.le_of_ble_eq_true rfl) ?_
      refine ARun.treeLoad (m := h.rows.length) (sz := 2) (n := (rowK h x).samples.length) (i := ((rowK h x).samples.length - 1)) (off := 0) (f := (fun a b => ceSample ((rowK h x).samples.getD a (default : GSample)) b)) (z := .int .i64 ((takeLast h x).at_)) rfl rfl rfl (.tmp rfl) rfl (by omega) ((takeX_lt (by omega)).trans rfl) vst_el_33_2 (.tmp rfl) rfl (by omega) vst_fi_81_0_0 (by decide) vst_pl_3 rfl rfl rfl rfl rfl rfl rfl rfl (Nat.le_of_ble_eq_true rfl) (Nat.le_of_ble_eq_true rfl) (Nat.le_of_ble_eq_true rfl) rfl rfl ?_
      refine ARun.pure (PureOp.assign rfl (.tmp rfl)) rfl rfl (Nat.le_of_ble_eq_true rfl) ?_
      refine ARun.nil ?_
      refine AW.seq ?_
      refine AW.block ?_
      refine AW.seq ?_
      refine AW.region ?_
      refine ARun.pure (PureOp.move rfl (.tmp rfl)) rfl rfl (Nat.le_of_ble_eq_true rfl) ?_
      refine ARun.pure (PureOp.fieldPtr rfl (.tmp rfl) vst_fi_47_1_1) rfl rfl (Nat.le_of_ble_eq_true rfl) ?_
      refine ARun.pure (PureOp.loadPtr rfl (.tmp rfl) vst_pl_3 rfl rfl (Nat.le_of_ble_eq_true rfl) (Nat.le_of_ble_eq_true rfl)) rfl rfl (Nat.le_of_ble_eq_true rfl) ?_
      refine ARun.pure (PureOp.intOp rfl (.tmp rfl) (.tmp rfl) rfl) rfl rfl (Nat.le_of_ble_eq_true rfl) ?_
      refine ARun.pure (PureOp.assign rfl (.tmp rfl)) rfl rfl (Nat.le_of_ble_eq_true rfl) ?_
      refine ARun.nil ?_
      refine AW.cond (.tmp rfl) (fun hb25 => ?_) (fun hb25 => ?_)
      · have _u := True.intro
        replace hb25 := of_decide_eq_true hb25
        have hcode := tk_again hir hb25
        have hcn : ¬ takeCode h x = 1 := by omega
        refine AW.seq ?_
        refine AW.region ?_
        refine ARun.pure (PureOp.loadPtrAgg rfl (.tmp rfl) vst_ag_29_2 rfl rfl (Nat.le_of_ble_eq_true rfl) (Nat.le_of_ble_eq_true rfl)) rfl rfl (Nat.le_of_ble_eq_true rfl) ?_
        refine ARun.store rfl (.tmp rfl) (.tmp rfl) (SV.cells_of (by exact ⟨trivial, trivial, trivial⟩)) rfl (Nat.le_of_ble_eq_true rfl) vst_sz_29_2 rfl rfl ?_
        refine ARun.pure (PureOp.assign rfl .int) rfl rfl (Nat.le_of_ble_eq_true rfl) ?_
        refine ARun.nil ?_
        rw [tN_old hcn, hcode]
        refine AW.moveCell 2 0 1000001 77 2 h.rows.length [.own 1000001 2 h.rows.length, .int .i64 (h.offset + 1)] [.own 77 2 h.rows.length, .int .i64 (h.offset + 1)] rfl rfl rfl rfl rfl (by decide) ⟨rfl, (by repeat first | exact trivial | refine ⟨by decide, by first | rfl | exact trivial | (intro a_ b_; first | exact getD_no rfl | exact rowC0_no rfl _ _ | exact newT_no rfl _ _ | exact rowS_no rfl rfl _ _ | exact insF_no (rowC0_no rfl) (newT_no rfl) _ _ _ | ((try dsimp only); (repeat' split) <;> first | rfl | exact rowC0_no rfl _ _ | exact getD_no rfl | exact insF_no (rowC0_no rfl) (newT_no rfl) _ _ _)), ?_⟩)⟩ ?_
        refine AW.reindex 500 78 77 h.rows.length h.rows.length 2 h.rows.length id (takeX h x) (rowC0 h 500) (rowC0 h 78) rfl rfl (fun _ hi => hi) (fun _ _ _ _ e => e) row_id ⟨rfl, (by repeat first | exact trivial | refine ⟨by decide, by first | rfl | exact trivial | (intro a_ b_; first | exact getD_no rfl | exact rowC0_no rfl _ _ | exact newT_no rfl _ _ | exact rowS_no rfl rfl _ _ | exact insF_no (rowC0_no rfl) (newT_no rfl) _ _ _ | ((try dsimp only); (repeat' split) <;> first | rfl | exact rowC0_no rfl _ _ | exact getD_no rfl | exact insF_no (rowC0_no rfl) (newT_no rfl) _ _ _)), ?_⟩)⟩ ?_
        exact AW.ret (show ResL _ _ [.cell 4 29, .tmp 5] _ ∧ HeapLe _ _ from ⟨.inr (.inl ⟨_, _, _, _, rfl, .cells rfl vst_ag_29_2 rfl rfl (Nat.le_of_ble_eq_true rfl) (Nat.le_of_ble_eq_true rfl), .tmp rfl, rfl⟩), ⟨⟨_, rfl, rfl, Nat.le_refl _, fun a b _ _ => rowC_old hcn 78 a b⟩, ⟨_, rfl, fun q hq => rowX_old hcn hq⟩, trivial⟩⟩)
      · have _u := True.intro
        replace hb25 := of_decide_eq_false hb25
        have hc1 := hb25
        refine AW.seq ?_
        refine AW.region ?_
        refine ARun.pure (PureOp.move rfl (.tmp rfl)) rfl rfl (Nat.le_of_ble_eq_true rfl) ?_
        refine ARun.pure (PureOp.fieldPtr rfl (.tmp rfl) vst_fi_47_1_1) rfl rfl (Nat.le_of_ble_eq_true rfl) ?_
        refine ARun.pure (PureOp.loadPtr rfl (.tmp rfl) vst_pl_3 rfl rfl (Nat.le_of_ble_eq_true rfl) (Nat.le_of_ble_eq_true rfl)) rfl rfl (Nat.le_of_ble_eq_true rfl) ?_
        refine ARun.pure (PureOp.intOp rfl (.tmp rfl) (.tmp rfl) rfl) rfl rfl (Nat.le_of_ble_eq_true rfl) ?_
        refine ARun.pure (PureOp.assign rfl (.tmp rfl)) rfl rfl (Nat.le_of_ble_eq_true rfl) ?_
        refine ARun.nil ?_
        refine AW.cond (.tmp rfl) (fun hb26 => ?_) (fun hb26 => ?_)
        · have _u := True.intro
          replace hb26 := of_decide_eq_true hb26
          have hcode := tk_late hir hc1 hb26
          have hcn : ¬ takeCode h x = 1 := by omega
          refine AW.seq ?_
          refine AW.region ?_
          refine ARun.pure (PureOp.loadPtrAgg rfl (.tmp rfl) vst_ag_29_2 rfl rfl (Nat.le_of_ble_eq_true rfl) (Nat.le_of_ble_eq_true rfl)) rfl rfl (Nat.le_of_ble_eq_true rfl) ?_
          refine ARun.store rfl (.tmp rfl) (.tmp rfl) (SV.cells_of (by exact ⟨trivial, trivial, trivial⟩)) rfl (Nat.le_of_ble_eq_true rfl) vst_sz_29_2 rfl rfl ?_
          refine ARun.pure (PureOp.assign rfl .int) rfl rfl (Nat.le_of_ble_eq_true rfl) ?_
          refine ARun.nil ?_
          rw [tN_old hcn, hcode]
          refine AW.moveCell 2 0 1000001 77 2 h.rows.length [.own 1000001 2 h.rows.length, .int .i64 (h.offset + 1)] [.own 77 2 h.rows.length, .int .i64 (h.offset + 1)] rfl rfl rfl rfl rfl (by decide) ⟨rfl, (by repeat first | exact trivial | refine ⟨by decide, by first | rfl | exact trivial | (intro a_ b_; first | exact getD_no rfl | exact rowC0_no rfl _ _ | exact newT_no rfl _ _ | exact rowS_no rfl rfl _ _ | exact insF_no (rowC0_no rfl) (newT_no rfl) _ _ _ | ((try dsimp only); (repeat' split) <;> first | rfl | exact rowC0_no rfl _ _ | exact getD_no rfl | exact insF_no (rowC0_no rfl) (newT_no rfl) _ _ _)), ?_⟩)⟩ ?_
          refine AW.reindex 500 78 77 h.rows.length h.rows.length 2 h.rows.length id (takeX h x) (rowC0 h 500) (rowC0 h 78) rfl rfl (fun _ hi => hi) (fun _ _ _ _ e => e) row_id ⟨rfl, (by repeat first | exact trivial | refine ⟨by decide, by first | rfl | exact trivial | (intro a_ b_; first | exact getD_no rfl | exact rowC0_no rfl _ _ | exact newT_no rfl _ _ | exact rowS_no rfl rfl _ _ | exact insF_no (rowC0_no rfl) (newT_no rfl) _ _ _ | ((try dsimp only); (repeat' split) <;> first | rfl | exact rowC0_no rfl _ _ | exact getD_no rfl | exact insF_no (rowC0_no rfl) (newT_no rfl) _ _ _)), ?_⟩)⟩ ?_
          exact AW.ret (show ResL _ _ [.cell 4 29, .tmp 5] _ ∧ HeapLe _ _ from ⟨.inr (.inl ⟨_, _, _, _, rfl, .cells rfl vst_ag_29_2 rfl rfl (Nat.le_of_ble_eq_true rfl) (Nat.le_of_ble_eq_true rfl), .tmp rfl, rfl⟩), ⟨⟨_, rfl, rfl, Nat.le_refl _, fun a b _ _ => rowC_old hcn 78 a b⟩, ⟨_, rfl, fun q hq => rowX_old hcn hq⟩, trivial⟩⟩)
        · have _u := True.intro
          replace hb26 := of_decide_eq_false hb26
          have hc2 := hb26
          refine AW.seq ?_
          refine AW.region ?_
          refine ARun.pure (PureOp.move rfl (.tmp rfl)) rfl rfl (Nat.le_of_ble_eq_true rfl) ?_
          refine ARun.pure (PureOp.lenTre (m := h.rows.length) (sz := 2) (n := (rowK h x).samples.length) (f := (fun a b => ceSample ((rowK h x).samples.getD a (default : GSample)) b)) rfl (.tmp rfl) rfl (by omega) ((takeX_lt (by omega)).trans rfl) vst_sl_33) rfl rfl (Nat.le_of_ble_eq_true rfl) ?_
          refine ARun.pure (PureOp.intOp rfl (.tmp rfl) .int rfl) rfl rfl (Nat.le_of_ble_eq_true rfl) ?_
          refine ARun.pure (PureOp.assign rfl (.tmp rfl)) rfl rfl (Nat.le_of_ble_eq_true rfl) ?_
          refine ARun.nil ?_
          refine AW.cond (.tmp rfl) (fun hb27 => ?_) (fun hb27 => ?_)
          · have _u := True.intro
            replace hb27 := of_decide_eq_true hb27
            have hcode := tk_full hir hc1 hc2 (show (rowK h x).samples.length = 40 from by omega)
            have hcn : ¬ takeCode h x = 1 := by omega
            refine AW.seq ?_
            refine AW.region ?_
            refine ARun.pure (PureOp.loadPtrAgg rfl (.tmp rfl) vst_ag_29_2 rfl rfl (Nat.le_of_ble_eq_true rfl) (Nat.le_of_ble_eq_true rfl)) rfl rfl (Nat.le_of_ble_eq_true rfl) ?_
            refine ARun.store rfl (.tmp rfl) (.tmp rfl) (SV.cells_of (by exact ⟨trivial, trivial, trivial⟩)) rfl (Nat.le_of_ble_eq_true rfl) vst_sz_29_2 rfl rfl ?_
            refine ARun.pure (PureOp.assign rfl .int) rfl rfl (Nat.le_of_ble_eq_true rfl) ?_
            refine ARun.nil ?_
            rw [tN_old hcn, hcode]
            refine AW.moveCell 2 0 1000001 77 2 h.rows.length [.own 1000001 2 h.rows.length, .int .i64 (h.offset + 1)] [.own 77 2 h.rows.length, .int .i64 (h.offset + 1)] rfl rfl rfl rfl rfl (by decide) ⟨rfl, (by repeat first | exact trivial | refine ⟨by decide, by first | rfl | exact trivial | (intro a_ b_; first | exact getD_no rfl | exact rowC0_no rfl _ _ | exact newT_no rfl _ _ | exact rowS_no rfl rfl _ _ | exact insF_no (rowC0_no rfl) (newT_no rfl) _ _ _ | ((try dsimp only); (repeat' split) <;> first | rfl | exact rowC0_no rfl _ _ | exact getD_no rfl | exact insF_no (rowC0_no rfl) (newT_no rfl) _ _ _)), ?_⟩)⟩ ?_
            refine AW.reindex 500 78 77 h.rows.length h.rows.length 2 h.rows.length id (takeX h x) (rowC0 h 500) (rowC0 h 78) rfl rfl (fun _ hi => hi) (fun _ _ _ _ e => e) row_id ⟨rfl, (by repeat first | exact trivial | refine ⟨by decide, by first | rfl | exact trivial | (intro a_ b_; first | exact getD_no rfl | exact rowC0_no rfl _ _ | exact newT_no rfl _ _ | exact rowS_no rfl rfl _ _ | exact insF_no (rowC0_no rfl) (newT_no rfl) _ _ _ | ((try dsimp only); (repeat' split) <;> first | rfl | exact rowC0_no rfl _ _ | exact getD_no rfl | exact insF_no (rowC0_no rfl) (newT_no rfl) _ _ _)), ?_⟩)⟩ ?_
            exact AW.ret (show ResL _ _ [.cell 4 29, .tmp 5] _ ∧ HeapLe _ _ from ⟨.inr (.inl ⟨_, _, _, _, rfl, .cells rfl vst_ag_29_2 rfl rfl (Nat.le_of_ble_eq_true rfl) (Nat.le_of_ble_eq_true rfl), .tmp rfl, rfl⟩), ⟨⟨_, rfl, rfl, Nat.le_refl _, fun a b _ _ => rowC_old hcn 78 a b⟩, ⟨_, rfl, fun q hq => rowX_old hcn hq⟩, trivial⟩⟩)
          · have _u := True.intro
            replace hb27 := of_decide_eq_false hb27
            have hcode := tk_new hir hc1 hc2 (show ¬ (rowK h x).samples.length = 40 from by omega)
            refine AW.skip ?_
            refine AW.seq ?_
            refine AW.anyX [⟨[], [], [], []⟩, ⟨[0], [], [], []⟩, ⟨[], [], [], []⟩, ⟨[], [4, 500, 501, 1000001], [4, 501], [(4, .arr 2 ((rowK h x).samples.length) (fun a b => ceSample ((rowK h x).samples.getD a (default : GSample)) b)), (501, .trees (h.rows.length - 1) (takeY h x)), (1000001, .arr 2 h.rows.length (rowS h (loF h x.name)))]⟩, ⟨[3], [], [], []⟩, ⟨[], [5], [5], [(5, .arr 2 1 (fun _ jc => ([.int .i64 x.at_, .int .i64 x.value] : List AV).getD jc (.con undef)))]⟩, ⟨[], [4, 5, 6, 78, 501, 1000001], [6, 78], [(5, .arr 2 1 (fun _ jc => ([.int .i64 x.at_, .int .i64 x.value] : List AV).getD jc (.con undef))), (78, .trees h.rows.length (rowX0 (takeH h x))), (1000001, .arr 2 h.rows.length (fun a b => if a = (loF h x.name) ∧ b = 1 then .tre 500 (loF h x.name) else rowC0 h 78 a b))]⟩, ⟨[], [], [], []⟩, ⟨[], [], [], []⟩, ⟨[], [1000001], [], [(1000001, .arr 2 h.rows.length (fun a b => if a = (loF h x.name) ∧ b = 1 then .tre 78 (loF h x.name) else (fun a b => if a = (loF h x.name) ∧ b = 1 then .tre 500 (loF h x.name) else rowC0 h 78 a b : Nat → Nat → AV) a b))]⟩] (by kernel_rfl) (by kernel_rfl) (by kernel_rfl) ⟨⟨.inl rfl, .inr (.inr trivial), .inr (.inr trivial), .inr (.inr (by repeat first | exact trivial | refine And.intro ?_ ?_ | exact rfl | ((intro a_ b_; first | exact getD_no rfl | exact rowC0_no rfl _ _ | exact newT_no rfl _ _ | exact rowS_no rfl rfl _ _ | exact insF_no (rowC0_no rfl) (newT_no rfl) _ _ _ | ((try dsimp only); (repeat' split) <;> first | rfl | exact rowC0_no rfl _ _ | exact getD_no rfl | exact insF_no (rowC0_no rfl) (newT_no rfl) _ _ _))))), .inr (.inr trivial), .inr (.inr (by repeat first | exact trivial | refine And.intro ?_ ?_ | exact rfl | ((intro a_ b_; first | exact getD_no rfl | exact rowC0_no rfl _ _ | exact newT_no rfl _ _ | exact rowS_no rfl rfl _ _ | exact insF_no (rowC0_no rfl) (newT_no rfl) _ _ _ | ((try dsimp only); (repeat' split) <;> first | rfl | exact rowC0_no rfl _ _ | exact getD_no rfl | exact insF_no (rowC0_no rfl) (newT_no rfl) _ _ _))))), .inr (.inr (by repeat first | exact trivial | refine And.intro ?_ ?_ | exact rfl | ((intro a_ b_; first | exact getD_no rfl | exact rowC0_no rfl _ _ | exact newT_no rfl _ _ | exact rowS_no rfl rfl _ _ | exact insF_no (rowC0_no rfl) (newT_no rfl) _ _ _ | ((try dsimp only); (repeat' split) <;> first | rfl | exact rowC0_no rfl _ _ | exact getD_no rfl | exact insF_no (rowC0_no rfl) (newT_no rfl) _ _ _))))), .inr (.inr trivial), .inr (.inr trivial), .inr (.inr trivial), trivial⟩, ⟨.inr (.inr trivial), .inl rfl, .inr (.inr trivial), .inr (.inr (by repeat first | exact trivial | refine And.intro ?_ ?_ | exact rfl | ((intro a_ b_; first | exact getD_no rfl | exact rowC0_no rfl _ _ | exact newT_no rfl _ _ | exact rowS_no rfl rfl _ _ | exact insF_no (rowC0_no rfl) (newT_no rfl) _ _ _ | ((try dsimp only); (repeat' split) <;> first | rfl | exact rowC0_no rfl _ _ | exact getD_no rfl | exact insF_no (rowC0_no rfl) (newT_no rfl) _ _ _))))), .inr (.inr trivial), .inr (.inr (by repeat first | exact trivial | refine And.intro ?_ ?_ | exact rfl | ((intro a_ b_; first | exact getD_no rfl | exact rowC0_no rfl _ _ | exact newT_no rfl _ _ | exact rowS_no rfl rfl _ _ | exact insF_no (rowC0_no rfl) (newT_no rfl) _ _ _ | ((try dsimp only); (repeat' split) <;> first | rfl | exact rowC0_no rfl _ _ | exact getD_no rfl | exact insF_no (rowC0_no rfl) (newT_no rfl) _ _ _))))), .inr (.inr (by repeat first | exact trivial | refine And.intro ?_ ?_ | exact rfl | ((intro a_ b_; first | exact getD_no rfl | exact rowC0_no rfl _ _ | exact newT_no rfl _ _ | exact rowS_no rfl rfl _ _ | exact insF_no (rowC0_no rfl) (newT_no rfl) _ _ _ | ((try dsimp only); (repeat' split) <;> first | rfl | exact rowC0_no rfl _ _ | exact getD_no rfl | exact insF_no (rowC0_no rfl) (newT_no rfl) _ _ _))))), .inr (.inr trivial), .inr (.inr trivial), .inr (.inr trivial), trivial⟩, ⟨.inr (.inr trivial), .inr (.inr trivial), .inl rfl, .inr (.inr (by repeat first | exact trivial | refine And.intro ?_ ?_ | exact rfl | ((intro a_ b_; first | exact getD_no rfl | exact rowC0_no rfl _ _ | exact newT_no rfl _ _ | exact rowS_no rfl rfl _ _ | exact insF_no (rowC0_no rfl) (newT_no rfl) _ _ _ | ((try dsimp only); (repeat' split) <;> first | rfl | exact rowC0_no rfl _ _ | exact getD_no rfl | exact insF_no (rowC0_no rfl) (newT_no rfl) _ _ _))))), .inr (.inr trivial), .inr (.inr (by repeat first | exact trivial | refine And.intro ?_ ?_ | exact rfl | ((intro a_ b_; first | exact getD_no rfl | exact rowC0_no rfl _ _ | exact newT_no rfl _ _ | exact rowS_no rfl rfl _ _ | exact insF_no (rowC0_no rfl) (newT_no rfl) _ _ _ | ((try dsimp only); (repeat' split) <;> first | rfl | exact rowC0_no rfl _ _ | exact getD_no rfl | exact insF_no (rowC0_no rfl) (newT_no rfl) _ _ _))))), .inr (.inr (by repeat first | exact trivial | refine And.intro ?_ ?_ | exact rfl | ((intro a_ b_; first | exact getD_no rfl | exact rowC0_no rfl _ _ | exact newT_no rfl _ _ | exact rowS_no rfl rfl _ _ | exact insF_no (rowC0_no rfl) (newT_no rfl) _ _ _ | ((try dsimp only); (repeat' split) <;> first | rfl | exact rowC0_no rfl _ _ | exact getD_no rfl | exact insF_no (rowC0_no rfl) (newT_no rfl) _ _ _))))), .inr (.inr trivial), .inr (.inr trivial), .inr (.inr trivial), trivial⟩, ⟨.inr (.inr trivial), .inr (.inr trivial), .inr (.inr trivial), .inl rfl, .inr (.inr trivial), .inr (.inr (by repeat first | exact trivial | refine And.intro ?_ ?_ | exact rfl | ((intro a_ b_; first | exact getD_no rfl | exact rowC0_no rfl _ _ | exact newT_no rfl _ _ | exact rowS_no rfl rfl _ _ | exact insF_no (rowC0_no rfl) (newT_no rfl) _ _ _ | ((try dsimp only); (repeat' split) <;> first | rfl | exact rowC0_no rfl _ _ | exact getD_no rfl | exact insF_no (rowC0_no rfl) (newT_no rfl) _ _ _))))), .inr (.inr (by repeat first | exact trivial | refine And.intro ?_ ?_ | exact rfl | ((intro a_ b_; first | exact getD_no rfl | exact rowC0_no rfl _ _ | exact newT_no rfl _ _ | exact rowS_no rfl rfl _ _ | exact insF_no (rowC0_no rfl) (newT_no rfl) _ _ _ | ((try dsimp only); (repeat' split) <;> first | rfl | exact rowC0_no rfl _ _ | exact getD_no rfl | exact insF_no (rowC0_no rfl) (newT_no rfl) _ _ _))))), .inr (.inr trivial), .inr (.inr trivial), .inr (.inr trivial), trivial⟩, ⟨.inr (.inr trivial), .inr (.inr trivial), .inr (.inr trivial), .inr (.inr (by repeat first | exact trivial | refine And.intro ?_ ?_ | exact rfl | ((intro a_ b_; first | exact getD_no rfl | exact rowC0_no rfl _ _ | exact newT_no rfl _ _ | exact rowS_no rfl rfl _ _ | exact insF_no (rowC0_no rfl) (newT_no rfl) _ _ _ | ((try dsimp only); (repeat' split) <;> first | rfl | exact rowC0_no rfl _ _ | exact getD_no rfl | exact insF_no (rowC0_no rfl) (newT_no rfl) _ _ _))))), .inl rfl, .inr (.inr (by repeat first | exact trivial | refine And.intro ?_ ?_ | exact rfl | ((intro a_ b_; first | exact getD_no rfl | exact rowC0_no rfl _ _ | exact newT_no rfl _ _ | exact rowS_no rfl rfl _ _ | exact insF_no (rowC0_no rfl) (newT_no rfl) _ _ _ | ((try dsimp only); (repeat' split) <;> first | rfl | exact rowC0_no rfl _ _ | exact getD_no rfl | exact insF_no (rowC0_no rfl) (newT_no rfl) _ _ _))))), .inr (.inr (by repeat first | exact trivial | refine And.intro ?_ ?_ | exact rfl | ((intro a_ b_; first | exact getD_no rfl | exact rowC0_no rfl _ _ | exact newT_no rfl _ _ | exact rowS_no rfl rfl _ _ | exact insF_no (rowC0_no rfl) (newT_no rfl) _ _ _ | ((try dsimp only); (repeat' split) <;> first | rfl | exact rowC0_no rfl _ _ | exact getD_no rfl | exact insF_no (rowC0_no rfl) (newT_no rfl) _ _ _))))), .inr (.inr trivial), .inr (.inr trivial), .inr (.inr trivial), trivial⟩, ⟨.inr (.inr trivial), .inr (.inr trivial), .inr (.inr trivial), .inr (.inr (by repeat first | exact trivial | refine And.intro ?_ ?_ | exact rfl | ((intro a_ b_; first | exact getD_no rfl | exact rowC0_no rfl _ _ | exact newT_no rfl _ _ | exact rowS_no rfl rfl _ _ | exact insF_no (rowC0_no rfl) (newT_no rfl) _ _ _ | ((try dsimp only); (repeat' split) <;> first | rfl | exact rowC0_no rfl _ _ | exact getD_no rfl | exact insF_no (rowC0_no rfl) (newT_no rfl) _ _ _))))), .inr (.inr trivial), .inl rfl, .inr (.inr (by repeat first | exact trivial | refine And.intro ?_ ?_ | exact rfl | ((intro a_ b_; first | exact getD_no rfl | exact rowC0_no rfl _ _ | exact newT_no rfl _ _ | exact rowS_no rfl rfl _ _ | exact insF_no (rowC0_no rfl) (newT_no rfl) _ _ _ | ((try dsimp only); (repeat' split) <;> first | rfl | exact rowC0_no rfl _ _ | exact getD_no rfl | exact insF_no (rowC0_no rfl) (newT_no rfl) _ _ _))))), .inr (.inr trivial), .inr (.inr trivial), .inr (.inr trivial), trivial⟩, ⟨.inr (.inr trivial), .inr (.inr trivial), .inr (.inr trivial), .inr (.inl (by kernel_rfl)), .inr (.inr trivial), .inr (.inl (by kernel_rfl)), .inl rfl, .inr (.inr trivial), .inr (.inr trivial), .inr (.inr trivial), trivial⟩, ⟨.inr (.inr trivial), .inr (.inr trivial), .inr (.inr trivial), .inr (.inl (by kernel_rfl)), .inr (.inr trivial), .inr (.inl (by kernel_rfl)), .inr (.inl (by kernel_rfl)), .inl rfl, .inr (.inr trivial), .inr (.inr trivial), trivial⟩, ⟨.inr (.inr trivial), .inr (.inr trivial), .inr (.inr trivial), .inr (.inl (by kernel_rfl)), .inr (.inr trivial), .inr (.inl (by kernel_rfl)), .inr (.inl (by kernel_rfl)), .inr (.inr trivial), .inl rfl, .inr (.inr trivial), trivial⟩, ⟨.inr (.inr trivial), .inr (.inr trivial), .inr (.inr trivial), .inr (.inl (by kernel_rfl)), .inr (.inr trivial), .inr (.inl (by kernel_rfl)), .inr (.inl (by kernel_rfl)), .inr (.inr trivial), .inr (.inr trivial), .inl rfl, trivial⟩, trivial⟩ ⟨trivial, trivial, trivial, ⟨(by repeat first | exact trivial | refine ⟨by decide, by first | rfl | exact trivial | (intro a_ b_; first | exact getD_no rfl | exact rowC0_no rfl _ _ | exact newT_no rfl _ _ | exact rowS_no rfl rfl _ _ | exact insF_no (rowC0_no rfl) (newT_no rfl) _ _ _ | ((try dsimp only); (repeat' split) <;> first | rfl | exact rowC0_no rfl _ _ | exact getD_no rfl | exact insF_no (rowC0_no rfl) (newT_no rfl) _ _ _)), ?_⟩), (by repeat first | exact trivial | refine ⟨by decide, by first | rfl | exact trivial | (intro a_ b_; first | exact getD_no rfl | exact rowC0_no rfl _ _ | exact newT_no rfl _ _ | exact rowS_no rfl rfl _ _ | exact insF_no (rowC0_no rfl) (newT_no rfl) _ _ _ | ((try dsimp only); (repeat' split) <;> first | rfl | exact rowC0_no rfl _ _ | exact getD_no rfl | exact insF_no (rowC0_no rfl) (newT_no rfl) _ _ _)), ?_⟩), trivial⟩, trivial, ⟨(by repeat first | exact trivial | refine ⟨by decide, by first | rfl | exact trivial | (intro a_ b_; first | exact getD_no rfl | exact rowC0_no rfl _ _ | exact newT_no rfl _ _ | exact rowS_no rfl rfl _ _ | exact insF_no (rowC0_no rfl) (newT_no rfl) _ _ _ | ((try dsimp only); (repeat' split) <;> first | rfl | exact rowC0_no rfl _ _ | exact getD_no rfl | exact insF_no (rowC0_no rfl) (newT_no rfl) _ _ _)), ?_⟩), trivial⟩, ⟨(by repeat first | exact trivial | refine ⟨by decide, by first | rfl | exact trivial | (intro a_ b_; first | exact getD_no rfl | exact rowC0_no rfl _ _ | exact newT_no rfl _ _ | exact rowS_no rfl rfl _ _ | exact insF_no (rowC0_no rfl) (newT_no rfl) _ _ _ | ((try dsimp only); (repeat' split) <;> first | rfl | exact rowC0_no rfl _ _ | exact getD_no rfl | exact insF_no (rowC0_no rfl) (newT_no rfl) _ _ _)), ?_⟩), (by repeat first | exact trivial | refine ⟨by decide, by first | rfl | exact trivial | (intro a_ b_; first | exact getD_no rfl | exact rowC0_no rfl _ _ | exact newT_no rfl _ _ | exact rowS_no rfl rfl _ _ | exact insF_no (rowC0_no rfl) (newT_no rfl) _ _ _ | ((try dsimp only); (repeat' split) <;> first | rfl | exact rowC0_no rfl _ _ | exact getD_no rfl | exact insF_no (rowC0_no rfl) (newT_no rfl) _ _ _)), ?_⟩), trivial⟩, trivial, trivial, trivial, trivial⟩ ?_
            refine ADX.pure [] (PureOp.fieldPtr rfl (.tmp rfl) vst_fi_29_0_0) rfl rfl (Nat.le_of_ble_eq_true rfl) trivial rfl ?_
            refine ADX.pure [(0, .cells [.own 1000001 2 h.rows.length, .int .i64 (h.offset + 1)])] (PureOp.loadPtr rfl (.tmp rfl) vst_pl_27 rfl rfl (Nat.le_of_ble_eq_true rfl) (Nat.le_of_ble_eq_true rfl)) rfl rfl (Nat.le_of_ble_eq_true rfl) ⟨rfl, trivial⟩ rfl ?_
            refine ADX.pure [] (PureOp.move rfl (.tmp rfl)) rfl rfl (Nat.le_of_ble_eq_true rfl) trivial rfl ?_
            refine ADX.eff (tk := [4, 500, 501, 1000001]) (new := [4, 501]) (s := .one (.own 4 2 ((rowK h x).samples.length))) (F := [(87, .one (.own 4 2 ((rowK h x).samples.length))), (87, .one (.tre 500 (loF h x.name)))]) (Hin := [(500, .trees h.rows.length (takeX h x)), (1000001, .arr 2 h.rows.length (rowC0 h 500))]) (Hout := [(4, .arr 2 ((rowK h x).samples.length) (fun a b => ceSample ((rowK h x).samples.getD a (default : GSample)) b)), (501, .trees (h.rows.length - 1) (takeY h x)), (1000001, .arr 2 h.rows.length (rowS h (loF h x.name)))]) (fun E X hE hX Q rest hk => ?_) ⟨rfl, rfl, trivial⟩ ⟨rfl, rfl⟩ rfl rfl rfl rfl ⟨(by repeat first | exact trivial | refine ⟨by decide, by first | rfl | exact trivial | (intro a_ b_; first | exact getD_no rfl | exact rowC0_no rfl _ _ | exact newT_no rfl _ _ | exact rowS_no rfl rfl _ _ | exact insF_no (rowC0_no rfl) (newT_no rfl) _ _ _ | ((try dsimp only); (repeat' split) <;> first | rfl | exact rowC0_no rfl _ _ | exact getD_no rfl | exact insF_no (rowC0_no rfl) (newT_no rfl) _ _ _)), ?_⟩), (by repeat first | exact trivial | refine ⟨by decide, by first | rfl | exact trivial | (intro a_ b_; first | exact getD_no rfl | exact rowC0_no rfl _ _ | exact newT_no rfl _ _ | exact rowS_no rfl rfl _ _ | exact insF_no (rowC0_no rfl) (newT_no rfl) _ _ _ | ((try dsimp only); (repeat' split) <;> first | rfl | exact rowC0_no rfl _ _ | exact getD_no rfl | exact insF_no (rowC0_no rfl) (newT_no rfl) _ _ _)), ?_⟩), trivial⟩ rfl (fun _ e => by cases e; exact Nat.le_of_ble_eq_true rfl) ?_
            · refine ARun.pure (PureOp.move rfl (.tmp rfl)) rfl rfl (Nat.le_of_ble_eq_true rfl) ?_
              refine ARun.takeOut 87 500 (loF h x.name) h.rows.length 2 (rowK h x).samples.length 4 (takeX h x) (fun a b => ceSample ((rowK h x).samples.getD a (default : GSample)) b) rfl rfl (by omega) ((takeX_lt (by omega)).trans rfl) rfl (fun i j hi hj => match j, hj with | 0, _ => rfl | 1, _ => rfl | _ + 2, h => absurd h (by omega)) (fun _ _ => getD_no rfl) (by repeat first | exact Fr.ext2 ⟨rfl, (by repeat first | exact trivial | refine ⟨by decide, by first | rfl | exact trivial | (intro a_ b_; first | exact getD_no rfl | exact rowC0_no rfl _ _ | exact newT_no rfl _ _ | exact rowS_no rfl rfl _ _ | exact insF_no (rowC0_no rfl) (newT_no rfl) _ _ _ | ((try dsimp only); (repeat' split) <;> first | rfl | exact rowC0_no rfl _ _ | exact getD_no rfl | exact insF_no (rowC0_no rfl) (newT_no rfl) _ _ _)), ?_⟩)⟩ hE hX rfl rfl | refine Fr.consE rfl ?_ | refine Fr.consH (by decide) (by first | rfl | exact trivial | (intro a_ b_; first | exact getD_no rfl | exact rowC0_no rfl _ _ | exact newT_no rfl _ _ | exact rowS_no rfl rfl _ _ | exact insF_no (rowC0_no rfl) (newT_no rfl) _ _ _ | ((try dsimp only); (repeat' split) <;> first | rfl | exact rowC0_no rfl _ _ | exact getD_no rfl | exact insF_no (rowC0_no rfl) (newT_no rfl) _ _ _))) ?_ | refine Fr.filt ?_) (fun vv => ?_)
              refine ARun.reindex 500 501 1000001 h.rows.length (h.rows.length - 1) 2 h.rows.length (skP (loF h x.name)) (fun i => if i = (loF h x.name) then .con vv else takeX h x i) (rowC0 h 500) (rowS h (loF h x.name)) rfl rfl (skP_lt hlo) skP_inj (row_skip hlo) (by repeat first | exact Fr.ext2 ⟨rfl, (by repeat first | exact trivial | refine ⟨by decide, by first | rfl | exact trivial | (intro a_ b_; first | exact getD_no rfl | exact rowC0_no rfl _ _ | exact newT_no rfl _ _ | exact rowS_no rfl rfl _ _ | exact insF_no (rowC0_no rfl) (newT_no rfl) _ _ _ | ((try dsimp only); (repeat' split) <;> first | rfl | exact rowC0_no rfl _ _ | exact getD_no rfl | exact insF_no (rowC0_no rfl) (newT_no rfl) _ _ _)), ?_⟩)⟩ hE hX rfl rfl | refine Fr.consE rfl ?_ | refine Fr.consH (by decide) (by first | rfl | exact trivial | (intro a_ b_; first | exact getD_no rfl | exact rowC0_no rfl _ _ | exact newT_no rfl _ _ | exact rowS_no rfl rfl _ _ | exact insF_no (rowC0_no rfl) (newT_no rfl) _ _ _ | ((try dsimp only); (repeat' split) <;> first | rfl | exact rowC0_no rfl _ _ | exact getD_no rfl | exact insF_no (rowC0_no rfl) (newT_no rfl) _ _ _))) ?_ | refine Fr.filt ?_) ?_
              refine ARun.hleX ?_ ?_ hk
              · exact ⟨HLe.refl rfl, ⟨_, rfl, fun q hq => takeY_hole hq⟩, HLe.refl rfl, trivial⟩
              · repeat (first | exact LkX.refl | refine LkX.cons (hX.none rfl) ?_ | refine LkX.filter (hX.none rfl) ?_)
            refine ADX.pure [(3, .cells [.int .i64 x.at_, .int .i64 x.value])] (PureOp.loadPtrAgg rfl (.tmp rfl) vst_ag_81_2 rfl rfl (Nat.le_of_ble_eq_true rfl) (Nat.le_of_ble_eq_true rfl)) rfl rfl (Nat.le_of_ble_eq_true rfl) ⟨rfl, trivial⟩ rfl ?_
            refine ADX.eff (tk := [5]) (new := [5]) (s := .one (.own 5 2 1)) (F := [(89, .one (.own 5 2 1))]) (Hin := []) (Hout := [(5, .arr 2 1 (fun _ jc => ([.int .i64 x.at_, .int .i64 x.value] : List AV).getD jc (.con undef)))]) (fun E X hE hX Q rest hk => ?_) trivial ⟨rfl, rfl⟩ rfl rfl rfl rfl ⟨(by repeat first | exact trivial | refine ⟨by decide, by first | rfl | exact trivial | (intro a_ b_; first | exact getD_no rfl | exact rowC0_no rfl _ _ | exact newT_no rfl _ _ | exact rowS_no rfl rfl _ _ | exact insF_no (rowC0_no rfl) (newT_no rfl) _ _ _ | ((try dsimp only); (repeat' split) <;> first | rfl | exact rowC0_no rfl _ _ | exact getD_no rfl | exact insF_no (rowC0_no rfl) (newT_no rfl) _ _ _)), ?_⟩), trivial⟩ rfl (fun _ e => by cases e; exact Nat.le_of_ble_eq_true rfl) ?_
            · refine ARun.slice1 (id := 5) (z := (.agg #[.int .i64 0, .int .i64 0])) (by_ := 16) rfl (.tmp rfl) (SV.cells_of (by exact ⟨trivial, trivial, trivial⟩)) (by kernel_rfl) rfl rfl (by decide) (by decide) (Fr.ext2 ⟨rfl, (by repeat first | exact trivial | refine ⟨by decide, by first | rfl | exact trivial | (intro a_ b_; first | exact getD_no rfl | exact rowC0_no rfl _ _ | exact newT_no rfl _ _ | exact rowS_no rfl rfl _ _ | exact insF_no (rowC0_no rfl) (newT_no rfl) _ _ _ | ((try dsimp only); (repeat' split) <;> first | rfl | exact rowC0_no rfl _ _ | exact getD_no rfl | exact insF_no (rowC0_no rfl) (newT_no rfl) _ _ _)), ?_⟩)⟩ hE hX rfl rfl) rfl rfl rfl (Nat.le_of_ble_eq_true rfl) ?_
              refine ARun.hleX ?_ ?_ hk
              · exact HeapLe.one rfl trivial
              · repeat (first | exact LkX.refl | refine LkX.cons (hX.none rfl) ?_ | refine LkX.filter (hX.none rfl) ?_)
            refine ADX.eff (tk := [4, 5, 6, 78, 501, 1000001]) (new := [6, 78]) (s := .one (.tre 78 (loF h x.name))) (F := [(90, .one (.tre 78 (loF h x.name))), (90, .one (.tre 501 (h.rows.length - 1))), (90, .one (.own 6 2 ((rowK h x).samples.length + 1)))]) (Hin := [(4, .arr 2 ((rowK h x).samples.length) (fun a b => ceSample ((rowK h x).samples.getD a (default : GSample)) b)), (5, .arr 2 1 (fun _ jc => ([.int .i64 x.at_, .int .i64 x.value] : List AV).getD jc (.con undef))), (501, .trees (h.rows.length - 1) (takeY h x)), (1000001, .arr 2 h.rows.length (rowS h (loF h x.name)))]) (Hout := [(5, .arr 2 1 (fun _ jc => ([.int .i64 x.at_, .int .i64 x.value] : List AV).getD jc (.con undef))), (78, .trees h.rows.length (rowX0 (takeH h x))), (1000001, .arr 2 h.rows.length (fun a b => if a = (loF h x.name) ∧ b = 1 then .tre 500 (loF h x.name) else rowC0 h 78 a b))]) (fun E X hE hX Q rest hk => ?_) ⟨rfl, rfl, rfl, rfl, trivial⟩ ⟨rfl, rfl⟩ rfl rfl rfl rfl ⟨(by repeat first | exact trivial | refine ⟨by decide, by first | rfl | exact trivial | (intro a_ b_; first | exact getD_no rfl | exact rowC0_no rfl _ _ | exact newT_no rfl _ _ | exact rowS_no rfl rfl _ _ | exact insF_no (rowC0_no rfl) (newT_no rfl) _ _ _ | ((try dsimp only); (repeat' split) <;> first | rfl | exact rowC0_no rfl _ _ | exact getD_no rfl | exact insF_no (rowC0_no rfl) (newT_no rfl) _ _ _)), ?_⟩), (by repeat first | exact trivial | refine ⟨by decide, by first | rfl | exact trivial | (intro a_ b_; first | exact getD_no rfl | exact rowC0_no rfl _ _ | exact newT_no rfl _ _ | exact rowS_no rfl rfl _ _ | exact insF_no (rowC0_no rfl) (newT_no rfl) _ _ _ | ((try dsimp only); (repeat' split) <;> first | rfl | exact rowC0_no rfl _ _ | exact getD_no rfl | exact insF_no (rowC0_no rfl) (newT_no rfl) _ _ _)), ?_⟩), trivial⟩ rfl (fun _ e => by cases e; exact Nat.le_of_ble_eq_true rfl) ?_
            · refine ARun.append (id := 6) (sz := 2) (n := (rowK h x).samples.length) (m := 1) (by_ := 16) (z := (.agg #[.int .i64 0, .int .i64 0])) (f := fun a b => ceSample ((rowK h x).samples.getD a (default : GSample)) b) (g := fun _ jc => ([.int .i64 x.at_, .int .i64 x.value] : List AV).getD jc (.con undef)) (h := fun ia ja => if ia < (rowK h x).samples.length then (fun a b => ceSample ((rowK h x).samples.getD a (default : GSample)) b : Nat → Nat → AV) ia ja else (fun _ jc => ([.int .i64 x.at_, .int .i64 x.value] : List AV).getD jc (.con undef) : Nat → Nat → AV) (ia - (rowK h x).samples.length) ja) rfl (by kernel_rfl) rfl vst_sl_33 (.own (.tmp rfl) rfl rfl rfl (Nat.le_refl _) (fun _ _ _ _ => rfl)) (.own (.tmp rfl) rfl rfl (show 1 ≤ 1 from by omega) (fun _ _ _ _ => rfl)) (by decide) (fun i j hi hj => match j, hj with | 0, _ => rfl | 1, _ => rfl | _ + 2, h => absurd h (by omega)) (fun _ _ _ _ => rfl) (by omega) (by omega) (by repeat first | exact Fr.ext2 ⟨rfl, (by repeat first | exact trivial | refine ⟨by decide, by first | rfl | exact trivial | (intro a_ b_; first | exact getD_no rfl | exact rowC0_no rfl _ _ | exact newT_no rfl _ _ | exact rowS_no rfl rfl _ _ | exact insF_no (rowC0_no rfl) (newT_no rfl) _ _ _ | ((try dsimp only); (repeat' split) <;> first | rfl | exact rowC0_no rfl _ _ | exact getD_no rfl | exact insF_no (rowC0_no rfl) (newT_no rfl) _ _ _)), ?_⟩)⟩ hE hX rfl rfl | refine Fr.consE rfl ?_ | refine Fr.consH (by decide) (by first | rfl | exact trivial | (intro a_ b_; first | exact getD_no rfl | exact rowC0_no rfl _ _ | exact newT_no rfl _ _ | exact rowS_no rfl rfl _ _ | exact insF_no (rowC0_no rfl) (newT_no rfl) _ _ _ | ((try dsimp only); (repeat' split) <;> first | rfl | exact rowC0_no rfl _ _ | exact getD_no rfl | exact insF_no (rowC0_no rfl) (newT_no rfl) _ _ _))) ?_ | refine Fr.filt ?_) (fun a_ b_ => by (try dsimp only); (repeat' split) <;> first | rfl | exact rowC0_no rfl _ _ | exact getD_no rfl) rfl rfl (Nat.le_of_ble_eq_true rfl) ?_
              refine ARun.closeRow 90 6 501 (h.rows.length - 1) 2 ((rowK h x).samples.length + 1) (m' := (addS h x).length) (X := takeY h x) (g := fun a b => ceSample ((addS h x).getD a (default : GSample)) b) rfl rfl rfl rfl (Nat.le_refl _) rfl rfl (takeY_n h x) (by rw [addS_row hir, List.length_append]; rfl) (fun i j hi hj => (show (if i < (rowK h x).samples.length then _ else _) = _ from addS_cell hir hi hj)) (fun i j hi hj => match j, hj with | 0, _ => rfl | 1, _ => rfl | _ + 2, h => absurd h (by omega)) ?_
              refine ARun.reindexS 90 501 78 1000001 (h.rows.length - 1 + 1) h.rows.length 2 h.rows.length (loF h x.name) (pmI (h.rows.length - 1) (loF h x.name)) (takeY h x) (rowS h (loF h x.name)) (fun a b => if a = (loF h x.name) ∧ b = 1 then .tre 500 (loF h x.name) else rowC0 h 78 a b) (by rw [pmI_self]; rfl) (by omega) rfl rfl (pmI_lt' (by omega)) (pmI_inj' hlo) row_back (by repeat first | exact Fr.ext2 ⟨rfl, (by repeat first | exact trivial | refine ⟨by decide, by first | rfl | exact trivial | (intro a_ b_; first | exact getD_no rfl | exact rowC0_no rfl _ _ | exact newT_no rfl _ _ | exact rowS_no rfl rfl _ _ | exact insF_no (rowC0_no rfl) (newT_no rfl) _ _ _ | ((try dsimp only); (repeat' split) <;> first | rfl | exact rowC0_no rfl _ _ | exact getD_no rfl | exact insF_no (rowC0_no rfl) (newT_no rfl) _ _ _)), ?_⟩)⟩ hE hX rfl rfl | refine Fr.consE rfl ?_ | refine Fr.consH (by decide) (by first | rfl | exact trivial | (intro a_ b_; first | exact getD_no rfl | exact rowC0_no rfl _ _ | exact newT_no rfl _ _ | exact rowS_no rfl rfl _ _ | exact insF_no (rowC0_no rfl) (newT_no rfl) _ _ _ | ((try dsimp only); (repeat' split) <;> first | rfl | exact rowC0_no rfl _ _ | exact getD_no rfl | exact insF_no (rowC0_no rfl) (newT_no rfl) _ _ _))) ?_ | refine Fr.filt ?_) ?_
              refine ARun.hleX ?_ ?_ hk
              · exact ⟨HLe.refl rfl, ⟨_, rfl, fun q hq => rowX_row hir hcode hq⟩, HLe.refl rfl, trivial⟩
              · repeat (first | exact LkX.refl | refine LkX.cons (hX.none rfl) ?_ | refine LkX.filter (hX.none rfl) ?_)
            refine ADX.pure [] (PureOp.indexOwn (i := (loF h x.name)) rfl (.tmp rfl) vst_el_27_2 (.tmp rfl) rfl (by exact (show (loF h x.name) < h.rows.length from by omega))) rfl rfl (Nat.le_of_ble_eq_true rfl) trivial rfl ?_
            refine ADX.pure [] (PureOp.fieldPtr rfl (.tmp rfl) vst_fi_67_1_1) rfl rfl (Nat.le_of_ble_eq_true rfl) trivial rfl ?_
            refine ADX.eff (tk := [1000001]) (new := []) (s := .one (.con undef)) (F := []) (Hin := [(1000001, .arr 2 h.rows.length (fun a b => if a = (loF h x.name) ∧ b = 1 then .tre 500 (loF h x.name) else rowC0 h 78 a b))]) (Hout := [(1000001, .arr 2 h.rows.length (fun a b => if a = (loF h x.name) ∧ b = 1 then .tre 78 (loF h x.name) else (fun a b => if a = (loF h x.name) ∧ b = 1 then .tre 500 (loF h x.name) else rowC0 h 78 a b : Nat → Nat → AV) a b))]) (fun E X hE hX Q rest hk => ?_) ⟨rfl, trivial⟩ ⟨rfl, rfl⟩ rfl rfl rfl rfl trivial rfl (fun _ e => by cases e) ?_
            · refine ARun.storeArr rfl (.tmp rfl) (.tmp rfl) trivial rfl (by exact (show (loF h x.name) < h.rows.length from by omega)) (Nat.le_of_ble_eq_true rfl) vst_sz_33_1 rfl rfl ?_
              refine ARun.hleX ?_ ?_ hk
              · exact HeapLe.one rfl trivial
              · repeat (first | exact LkX.refl | refine LkX.cons (hX.none rfl) ?_ | refine LkX.filter (hX.none rfl) ?_)
            refine ADX.nil (H := [(0, .cells [.own 1000001 2 h.rows.length, .int .i64 (h.offset + 1)]), (1, .cells [.str x.name, .int .i64 x.at_, .int .i64 x.value]), (2, .cells [.con (.slice none 0 0), .int .i64 0]), (3, .cells [.int .i64 x.at_, .int .i64 x.value]), (5, .arr 2 1 (fun _ jc => ([.int .i64 x.at_, .int .i64 x.value] : List AV).getD jc (.con undef))), (78, .trees h.rows.length (rowX0 (takeH h x))), (1000001, .arr 2 h.rows.length (fun a b => if a = (loF h x.name) ∧ b = 1 then .tre 78 (loF h x.name) else (fun a b => if a = (loF h x.name) ∧ b = 1 then .tre 500 (loF h x.name) else rowC0 h 78 a b : Nat → Nat → AV) a b))]) ?_ ?_
            · exact HeapLe.one rfl (HeapLe.one rfl (HeapLe.one rfl (HeapLe.one rfl (HeapLe.one rfl (HeapLe.one rfl (HeapLe.one rfl trivial))))))
            refine AW.seq ?_
            refine AW.region ?_
            refine ARun.pure (PureOp.loadPtrAgg rfl (.tmp rfl) vst_ag_29_2 rfl rfl (Nat.le_of_ble_eq_true rfl) (Nat.le_of_ble_eq_true rfl)) rfl rfl (Nat.le_of_ble_eq_true rfl) ?_
            refine ARun.store rfl (.tmp rfl) (.tmp rfl) (SV.cells_of (by exact ⟨trivial, trivial, trivial⟩)) rfl (Nat.le_of_ble_eq_true rfl) vst_sz_29_2 rfl rfl ?_
            refine ARun.pure (PureOp.assign rfl .int) rfl rfl (Nat.le_of_ble_eq_true rfl) ?_
            refine ARun.nil ?_
            rw [tN_row hir, hcode]
            refine AW.moveCell 2 0 1000001 77 2 h.rows.length [.own 1000001 2 h.rows.length, .int .i64 (h.offset + 1)] [.own 77 2 h.rows.length, .int .i64 (h.offset + 1)] rfl rfl rfl rfl rfl (by decide) ⟨rfl, (by repeat first | exact trivial | refine ⟨by decide, by first | rfl | exact trivial | (intro a_ b_; first | exact getD_no rfl | exact rowC0_no rfl _ _ | exact newT_no rfl _ _ | exact rowS_no rfl rfl _ _ | exact insF_no (rowC0_no rfl) (newT_no rfl) _ _ _ | ((try dsimp only); (repeat' split) <;> first | rfl | exact rowC0_no rfl _ _ | exact getD_no rfl | exact insF_no (rowC0_no rfl) (newT_no rfl) _ _ _)), ?_⟩)⟩ ?_
            exact AW.ret (show ResL _ _ [.cell 4 29, .tmp 5] _ ∧ HeapLe _ _ from ⟨.inr (.inl ⟨_, _, _, _, rfl, .cells rfl vst_ag_29_2 rfl rfl (Nat.le_of_ble_eq_true rfl) (Nat.le_of_ble_eq_true rfl), .tmp rfl, rfl⟩), ⟨⟨_, rfl, rfl, Nat.le_refl _, fun a b _ _ => rowC_row hir hcode 78 a b⟩, ⟨_, rfl, fun q hq => rfl⟩, trivial⟩⟩)
    · have _u := True.intro
      have hir : isRow h x.name = false := (isRow_c h x.name).trans hb24
      refine AW.skip ?_
      refine AW.seq ?_
      refine AW.seq ?_
      refine AW.region ?_
      refine ARun.pure (PureOp.fieldPtr rfl (.tmp rfl) vst_fi_29_0_0) rfl rfl (Nat.le_of_ble_eq_true rfl) ?_
      refine ARun.pure (PureOp.loadPtr rfl (.tmp rfl) vst_pl_27 rfl rfl (Nat.le_of_ble_eq_true rfl) (Nat.le_of_ble_eq_true rfl)) rfl rfl (Nat.le_of_ble_eq_true rfl) ?_
      refine ARun.pure (PureOp.lenOwn rfl (.tmp rfl) vst_sl_27) rfl rfl (Nat.le_of_ble_eq_true rfl) ?_
      refine ARun.pure (PureOp.intOp rfl (.tmp rfl) .int rfl) rfl rfl (Nat.le_of_ble_eq_true rfl) ?_
      refine ARun.nil ?_
      refine AW.cond (.tmp rfl) (fun hb28 => ?_) (fun hb28 => ?_)
      · have _u := True.intro
        replace hb28 := of_decide_eq_true hb28
        have hcode := tk_full8 hir (show h.rows.length = 8 from by omega)
        have hcn : ¬ takeCode h x = 1 := by omega
        refine AW.seq ?_
        refine AW.region ?_
        refine ARun.pure (PureOp.loadPtrAgg rfl (.tmp rfl) vst_ag_29_2 rfl rfl (Nat.le_of_ble_eq_true rfl) (Nat.le_of_ble_eq_true rfl)) rfl rfl (Nat.le_of_ble_eq_true rfl) ?_
        refine ARun.store rfl (.tmp rfl) (.tmp rfl) (SV.cells_of (by exact ⟨trivial, trivial, trivial⟩)) rfl (Nat.le_of_ble_eq_true rfl) vst_sz_29_2 rfl rfl ?_
        refine ARun.pure (PureOp.assign rfl .int) rfl rfl (Nat.le_of_ble_eq_true rfl) ?_
        refine ARun.nil ?_
        rw [tN_old hcn, hcode]
        refine AW.moveCell 2 0 1000001 77 2 h.rows.length [.own 1000001 2 h.rows.length, .int .i64 (h.offset + 1)] [.own 77 2 h.rows.length, .int .i64 (h.offset + 1)] rfl rfl rfl rfl rfl (by decide) ⟨rfl, (by repeat first | exact trivial | refine ⟨by decide, by first | rfl | exact trivial | (intro a_ b_; first | exact getD_no rfl | exact rowC0_no rfl _ _ | exact newT_no rfl _ _ | exact rowS_no rfl rfl _ _ | exact insF_no (rowC0_no rfl) (newT_no rfl) _ _ _ | ((try dsimp only); (repeat' split) <;> first | rfl | exact rowC0_no rfl _ _ | exact getD_no rfl | exact insF_no (rowC0_no rfl) (newT_no rfl) _ _ _)), ?_⟩)⟩ ?_
        refine AW.reindex 500 78 77 h.rows.length h.rows.length 2 h.rows.length id (takeX h x) (rowC0 h 500) (rowC0 h 78) rfl rfl (fun _ hi => hi) (fun _ _ _ _ e => e) row_id ⟨rfl, (by repeat first | exact trivial | refine ⟨by decide, by first | rfl | exact trivial | (intro a_ b_; first | exact getD_no rfl | exact rowC0_no rfl _ _ | exact newT_no rfl _ _ | exact rowS_no rfl rfl _ _ | exact insF_no (rowC0_no rfl) (newT_no rfl) _ _ _ | ((try dsimp only); (repeat' split) <;> first | rfl | exact rowC0_no rfl _ _ | exact getD_no rfl | exact insF_no (rowC0_no rfl) (newT_no rfl) _ _ _)), ?_⟩)⟩ ?_
        exact AW.ret (show ResL _ _ [.cell 4 29, .tmp 5] _ ∧ HeapLe _ _ from ⟨.inr (.inl ⟨_, _, _, _, rfl, .cells rfl vst_ag_29_2 rfl rfl (Nat.le_of_ble_eq_true rfl) (Nat.le_of_ble_eq_true rfl), .tmp rfl, rfl⟩), ⟨⟨_, rfl, rfl, Nat.le_refl _, fun a b _ _ => rowC_old hcn 78 a b⟩, ⟨_, rfl, fun q hq => rowX_old hcn hq⟩, trivial⟩⟩)
      · have _u := True.intro
        replace hb28 := of_decide_eq_false hb28
        have hcode := tk_ins hir (show ¬ h.rows.length = 8 from by omega)
        refine AW.skip ?_
        refine AW.seq ?_
        refine AW.region ?_
        refine ARun.slice0 (id := 7) (z := (.agg #[.string ByteArray.empty, .slice none 0 0])) (sz := 2) (by_ := 40) rfl (by kernel_rfl) (fun _ _ => .con undef) (fun _ _ => rfl) ⟨rfl, (by repeat first | exact trivial | refine ⟨by decide, by first | rfl | exact trivial | (intro a_ b_; first | exact getD_no rfl | exact rowC0_no rfl _ _ | exact newT_no rfl _ _ | exact rowS_no rfl rfl _ _ | exact insF_no (rowC0_no rfl) (newT_no rfl) _ _ _ | ((try dsimp only); (repeat' split) <;> first | rfl | exact rowC0_no rfl _ _ | exact getD_no rfl | exact insF_no (rowC0_no rfl) (newT_no rfl) _ _ _)), ?_⟩)⟩ rfl rfl (Nat.le_of_ble_eq_true rfl) ?_
        refine ARun.pure (PureOp.fieldPtr rfl (.tmp rfl) vst_fi_29_0_0) rfl rfl (Nat.le_of_ble_eq_true rfl) ?_
        refine ARun.pure (PureOp.loadPtr rfl (.tmp rfl) vst_pl_27 rfl rfl (Nat.le_of_ble_eq_true rfl) (Nat.le_of_ble_eq_true rfl)) rfl rfl (Nat.le_of_ble_eq_true rfl) ?_
        refine ARun.pure (PureOp.move rfl (.tmp rfl)) rfl rfl (Nat.le_of_ble_eq_true rfl) ?_
        refine ARun.pure (PureOp.takeOwn (k := (loF h x.name)) rfl (.tmp rfl) (.tmp rfl) rfl (by omega) vst_el_27_2) rfl rfl (Nat.le_of_ble_eq_true rfl) ?_
        refine ARun.append (id := 8) (sz := 2) (n := 0) (m := (loF h x.name)) (by_ := 40) (z := (.agg #[.string ByteArray.empty, .slice none 0 0])) (f := fun _ _ => .con undef) (g := rowC0 h 500) (h := fun ia ja => if ia < 0 then (fun _ _ => .con undef : Nat → Nat → AV) ia ja else (rowC0 h 500 : Nat → Nat → AV) (ia - 0) ja) rfl (by kernel_rfl) rfl vst_sl_27 (.own (.tmp rfl) rfl rfl rfl (Nat.le_refl _) (fun _ _ _ _ => rfl)) (.own (.tmp rfl) rfl rfl (show (loF h x.name) ≤ h.rows.length from by omega) (fun _ _ _ _ => rfl)) (by decide) (fun i j hi hj => match j, hj with | 0, _ => rfl | 1, _ => rfl | _ + 2, h => absurd h (by omega)) (fun _ _ _ _ => rfl) (by omega) (by omega) ⟨rfl, (by repeat first | exact trivial | refine ⟨by decide, by first | rfl | exact trivial | (intro a_ b_; first | exact getD_no rfl | exact rowC0_no rfl _ _ | exact newT_no rfl _ _ | exact rowS_no rfl rfl _ _ | exact insF_no (rowC0_no rfl) (newT_no rfl) _ _ _ | ((try dsimp only); (repeat' split) <;> first | rfl | exact rowC0_no rfl _ _ | exact getD_no rfl | exact insF_no (rowC0_no rfl) (newT_no rfl) _ _ _)), ?_⟩)⟩ (fun a_ b_ => by (try dsimp only); (repeat' split) <;> first | rfl | exact rowC0_no rfl _ _ | exact getD_no rfl) rfl rfl (Nat.le_of_ble_eq_true rfl) ?_
        refine ARun.pure (PureOp.assign rfl (.tmp rfl)) rfl rfl (Nat.le_of_ble_eq_true rfl) ?_
        refine ARun.nil ?_
        refine AW.seq ?_
        refine AW.region ?_
        refine ARun.pure (PureOp.move rfl (.tmp rfl)) rfl rfl (Nat.le_of_ble_eq_true rfl) ?_
        refine ARun.pure (PureOp.fieldPtr rfl (.tmp rfl) vst_fi_47_0_0) rfl rfl (Nat.le_of_ble_eq_true rfl) ?_
        refine ARun.pure (PureOp.loadPtr rfl (.tmp rfl) vst_pl_9 rfl rfl (Nat.le_of_ble_eq_true rfl) (Nat.le_of_ble_eq_true rfl)) rfl rfl (Nat.le_of_ble_eq_true rfl) ?_
        refine ARun.pure (PureOp.loadPtrAgg rfl (.tmp rfl) vst_ag_81_2 rfl rfl (Nat.le_of_ble_eq_true rfl) (Nat.le_of_ble_eq_true rfl)) rfl rfl (Nat.le_of_ble_eq_true rfl) ?_
        refine ARun.slice1 (id := 9) (z := (.agg #[.int .i64 0, .int .i64 0])) (by_ := 16) rfl (.tmp rfl) (SV.cells_of (by exact ⟨trivial, trivial, trivial⟩)) (by kernel_rfl) rfl rfl (by decide) (by decide) ⟨rfl, (by repeat first | exact trivial | refine ⟨by decide, by first | rfl | exact trivial | (intro a_ b_; first | exact getD_no rfl | exact rowC0_no rfl _ _ | exact newT_no rfl _ _ | exact rowS_no rfl rfl _ _ | exact insF_no (rowC0_no rfl) (newT_no rfl) _ _ _ | ((try dsimp only); (repeat' split) <;> first | rfl | exact rowC0_no rfl _ _ | exact getD_no rfl | exact insF_no (rowC0_no rfl) (newT_no rfl) _ _ _)), ?_⟩)⟩ rfl rfl rfl (Nat.le_of_ble_eq_true rfl) ?_
        refine ARun.closeRow 109 9 500 h.rows.length 2 1 (m' := (addS h x).length) (X := takeX h x) (g := fun a b => ceSample ((addS h x).getD a (default : GSample)) b) rfl rfl rfl rfl (Nat.le_refl _) rfl rfl (takeX_n h x) (by rw [addS_ins hir]; rfl) (fun i j hi hj => addS_cell1 hir hi hj) (fun i j hi hj => match j, hj with | 0, _ => rfl | 1, _ => rfl | _ + 2, h => absurd h (by omega)) ?_
        refine ARun.pure (PureOp.build (ys := [.str x.name, .tre 500 h.rows.length]) (l := [.str ByteArray.empty, .con (.slice none 0 0)]) (pl := [(0, 1), (1, 1)]) (z := (.agg #[.string ByteArray.empty, .slice none 0 0])) rfl (by kernel_rfl) (by kernel_rfl) (fun _ _ _ => ⟨_, _, rfl, ⟨rfl, by decide⟩, ⟨_, _, rfl, rfl, rfl⟩⟩) ⟨(.tmp rfl), trivial, rfl, ⟨(.tmp rfl), trivial, rfl, trivial⟩⟩ rfl) rfl rfl (Nat.le_of_ble_eq_true rfl) ?_
        refine ARun.slice1 (id := 10) (z := (.agg #[.string ByteArray.empty, .slice none 0 0])) (by_ := 40) rfl (.tmp rfl) (SV.cells_of (by exact ⟨trivial, trivial, trivial⟩)) (by kernel_rfl) rfl rfl (by decide) (by decide) ⟨rfl, (by repeat first | exact trivial | refine ⟨by decide, by first | rfl | exact trivial | (intro a_ b_; first | exact getD_no rfl | exact rowC0_no rfl _ _ | exact newT_no rfl _ _ | exact rowS_no rfl rfl _ _ | exact insF_no (rowC0_no rfl) (newT_no rfl) _ _ _ | ((try dsimp only); (repeat' split) <;> first | rfl | exact rowC0_no rfl _ _ | exact getD_no rfl | exact insF_no (rowC0_no rfl) (newT_no rfl) _ _ _)), ?_⟩)⟩ rfl rfl rfl (Nat.le_of_ble_eq_true rfl) ?_
        refine ARun.append (id := 11) (sz := 2) (n := (0 + (loF h x.name))) (m := 1) (by_ := 40) (z := (.agg #[.string ByteArray.empty, .slice none 0 0])) (f := fun ia ja => if ia < 0 then (fun _ _ => .con undef : Nat → Nat → AV) ia ja else (rowC0 h 500 : Nat → Nat → AV) (ia - 0) ja) (g := fun _ jc => ([.str x.name, .tre 500 h.rows.length] : List AV).getD jc (.con undef)) (h := fun ia ja => if ia < (0 + (loF h x.name)) then (fun ia ja => if ia < 0 then (fun _ _ => .con undef : Nat → Nat → AV) ia ja else (rowC0 h 500 : Nat → Nat → AV) (ia - 0) ja : Nat → Nat → AV) ia ja else (fun _ jc => ([.str x.name, .tre 500 h.rows.length] : List AV).getD jc (.con undef) : Nat → Nat → AV) (ia - (0 + (loF h x.name))) ja) rfl (by kernel_rfl) rfl vst_sl_27 (.own (.tmp rfl) rfl rfl rfl (Nat.le_refl _) (fun _ _ _ _ => rfl)) (.own (.tmp rfl) rfl rfl (show 1 ≤ 1 from by omega) (fun _ _ _ _ => rfl)) (by decide) (fun i j hi hj => match j, hj with | 0, _ => rfl | 1, _ => rfl | _ + 2, h => absurd h (by omega)) (fun _ _ _ _ => rfl) (by omega) (by omega) ⟨rfl, (by repeat first | exact trivial | refine ⟨by decide, by first | rfl | exact trivial | (intro a_ b_; first | exact getD_no rfl | exact rowC0_no rfl _ _ | exact newT_no rfl _ _ | exact rowS_no rfl rfl _ _ | exact insF_no (rowC0_no rfl) (newT_no rfl) _ _ _ | ((try dsimp only); (repeat' split) <;> first | rfl | exact rowC0_no rfl _ _ | exact getD_no rfl | exact insF_no (rowC0_no rfl) (newT_no rfl) _ _ _)), ?_⟩)⟩ (fun a_ b_ => by (try dsimp only); (repeat' split) <;> first | rfl | exact rowC0_no rfl _ _ | exact getD_no rfl) rfl rfl (Nat.le_of_ble_eq_true rfl) ?_
        refine ARun.pure (PureOp.assign rfl (.tmp rfl)) rfl rfl (Nat.le_of_ble_eq_true rfl) ?_
        refine ARun.nil ?_
        refine AW.seq ?_
        refine AW.region ?_
        refine ARun.pure (PureOp.move rfl (.tmp rfl)) rfl rfl (Nat.le_of_ble_eq_true rfl) ?_
        refine ARun.pure (PureOp.fieldPtr rfl (.tmp rfl) vst_fi_29_0_0) rfl rfl (Nat.le_of_ble_eq_true rfl) ?_
        refine ARun.pure (PureOp.loadPtr rfl (.tmp rfl) vst_pl_27 rfl rfl (Nat.le_of_ble_eq_true rfl) (Nat.le_of_ble_eq_true rfl)) rfl rfl (Nat.le_of_ble_eq_true rfl) ?_
        refine ARun.pure (PureOp.move rfl (.tmp rfl)) rfl rfl (Nat.le_of_ble_eq_true rfl) ?_
        refine ARun.pure (PureOp.dropOwn (k := (loF h x.name)) rfl (.tmp rfl) (.tmp rfl) rfl (by omega) vst_el_27_2) rfl rfl (Nat.le_of_ble_eq_true rfl) ?_
        refine ARun.append (id := 12) (sz := 2) (n := ((0 + (loF h x.name)) + 1)) (m := (h.rows.length - (loF h x.name))) (by_ := 40) (z := (.agg #[.string ByteArray.empty, .slice none 0 0])) (f := fun ia ja => if ia < (0 + (loF h x.name)) then (fun ia ja => if ia < 0 then (fun _ _ => .con undef : Nat → Nat → AV) ia ja else (rowC0 h 500 : Nat → Nat → AV) (ia - 0) ja : Nat → Nat → AV) ia ja else (fun _ jc => ([.str x.name, .tre 500 h.rows.length] : List AV).getD jc (.con undef) : Nat → Nat → AV) (ia - (0 + (loF h x.name))) ja) (g := fun ia_ ja_ => (rowC0 h 500 : Nat → Nat → AV) ((loF h x.name) + ia_) ja_) (h := fun ia ja => if ia < ((0 + (loF h x.name)) + 1) then (fun ia ja => if ia < (0 + (loF h x.name)) then (fun ia ja => if ia < 0 then (fun _ _ => .con undef : Nat → Nat → AV) ia ja else (rowC0 h 500 : Nat → Nat → AV) (ia - 0) ja : Nat → Nat → AV) ia ja else (fun _ jc => ([.str x.name, .tre 500 h.rows.length] : List AV).getD jc (.con undef) : Nat → Nat → AV) (ia - (0 + (loF h x.name))) ja : Nat → Nat → AV) ia ja else (fun ia_ ja_ => (rowC0 h 500 : Nat → Nat → AV) ((loF h x.name) + ia_) ja_ : Nat → Nat → AV) (ia - ((0 + (loF h x.name)) + 1)) ja) rfl (by kernel_rfl) rfl vst_sl_27 (.own (.tmp rfl) rfl rfl rfl (Nat.le_refl _) (fun _ _ _ _ => rfl)) (KnR.tl (.tmp rfl) rfl rfl (Nat.le_refl _) rfl (fun _ _ _ _ => rfl)) (by decide) (fun i j hi hj => match j, hj with | 0, _ => rfl | 1, _ => rfl | _ + 2, h => absurd h (by omega)) (fun _ _ _ _ => rfl) (by omega) (by omega) ⟨rfl, (by repeat first | exact trivial | refine ⟨by decide, by first | rfl | exact trivial | (intro a_ b_; first | exact getD_no rfl | exact rowC0_no rfl _ _ | exact newT_no rfl _ _ | exact rowS_no rfl rfl _ _ | exact insF_no (rowC0_no rfl) (newT_no rfl) _ _ _ | ((try dsimp only); (repeat' split) <;> first | rfl | exact rowC0_no rfl _ _ | exact getD_no rfl | exact insF_no (rowC0_no rfl) (newT_no rfl) _ _ _)), ?_⟩)⟩ (fun a_ b_ => by (try dsimp only); (repeat' split) <;> first | rfl | exact rowC0_no rfl _ _ | exact getD_no rfl) rfl rfl (Nat.le_of_ble_eq_true rfl) ?_
        refine ARun.pure (PureOp.fieldPtr rfl (.tmp rfl) vst_fi_29_0_0) rfl rfl (Nat.le_of_ble_eq_true rfl) ?_
        refine ARun.store rfl (.tmp rfl) (.tmp rfl) trivial rfl (Nat.le_of_ble_eq_true rfl) vst_sz_27_1 rfl rfl ?_
        refine ARun.nil ?_
        refine AW.seq ?_
        refine AW.region ?_
        refine ARun.pure (PureOp.loadPtrAgg rfl (.tmp rfl) vst_ag_29_2 rfl rfl (Nat.le_of_ble_eq_true rfl) (Nat.le_of_ble_eq_true rfl)) rfl rfl (Nat.le_of_ble_eq_true rfl) ?_
        refine ARun.store rfl (.tmp rfl) (.tmp rfl) (SV.cells_of (by exact ⟨trivial, trivial, trivial⟩)) rfl (Nat.le_of_ble_eq_true rfl) vst_sz_29_2 rfl rfl ?_
        refine ARun.pure (PureOp.assign rfl .int) rfl rfl (Nat.le_of_ble_eq_true rfl) ?_
        refine ARun.nil ?_
        rw [tN_ins hir hcode, hcode]
        rw [show (((0 + (loF h x.name)) + 1) + (h.rows.length - (loF h x.name))) = h.rows.length + 1 from by omega]
        refine AW.hle (H' := [(2, .cells [.own 12 2 (h.rows.length + 1), .int .i64 (h.offset + 1)]), (12, .arr 2 (h.rows.length + 1) (insF (rowC0 h 500) (newT h x) (loF h x.name))), (500, .trees (h.rows.length + 1) (takeX h x))]) ⟨HLe.refl rfl, ⟨_, rfl, rfl, Nat.le_refl _, fun a b (ha : a < h.rows.length + 1) hb => by show (fun ia ja => if ia < ((0 + (loF h x.name)) + 1) then (fun ia ja => if ia < (0 + (loF h x.name)) then (fun ia ja => if ia < 0 then (fun _ _ => .con undef : Nat → Nat → AV) ia ja else (rowC0 h 500 : Nat → Nat → AV) (ia - 0) ja : Nat → Nat → AV) ia ja else (fun _ jc => ([.str x.name, .tre 500 h.rows.length] : List AV).getD jc (.con undef) : Nat → Nat → AV) (ia - (0 + (loF h x.name))) ja : Nat → Nat → AV) ia ja else (fun ia_ ja_ => (rowC0 h 500 : Nat → Nat → AV) ((loF h x.name) + ia_) ja_ : Nat → Nat → AV) (ia - ((0 + (loF h x.name)) + 1)) ja : Nat → Nat → AV) a b = insF (rowC0 h 500) (newT h x) (loF h x.name) a b; unfold insF; (try dsimp only); (repeat' split) <;> first | rfl | omega | exact congrArg (fun q => rowC0 h 500 q b) (by omega)⟩, HLe.refl rfl, trivial⟩ ?_
        refine AW.reindex 500 78 12 (h.rows.length + 1) (h.rows.length + 1) 2 (h.rows.length + 1) (pmI h.rows.length (loF h x.name)) (takeX h x) (insF (rowC0 h 500) (newT h x) (loF h x.name)) (rowC0 (takeH h x) 78) rfl rfl pmI_lt (pmI_inj hlo) (row_insT hir hcode) ⟨rfl, (by repeat first | exact trivial | refine ⟨by decide, by first | rfl | exact trivial | (intro a_ b_; first | exact getD_no rfl | exact rowC0_no rfl _ _ | exact newT_no rfl _ _ | exact rowS_no rfl rfl _ _ | exact insF_no (rowC0_no rfl) (newT_no rfl) _ _ _ | ((try dsimp only); (repeat' split) <;> first | rfl | exact rowC0_no rfl _ _ | exact getD_no rfl | exact insF_no (rowC0_no rfl) (newT_no rfl) _ _ _)), ?_⟩)⟩ ?_
        refine AW.moveCell 2 0 12 77 2 (h.rows.length + 1) [.own 12 2 (h.rows.length + 1), .int .i64 (h.offset + 1)] [.own 77 2 (h.rows.length + 1), .int .i64 (h.offset + 1)] rfl rfl rfl rfl rfl (by decide) ⟨rfl, (by repeat first | exact trivial | refine ⟨by decide, by first | rfl | exact trivial | (intro a_ b_; first | exact getD_no rfl | exact rowC0_no rfl _ _ | exact newT_no rfl _ _ | exact rowS_no rfl rfl _ _ | exact insF_no (rowC0_no rfl) (newT_no rfl) _ _ _ | ((try dsimp only); (repeat' split) <;> first | rfl | exact rowC0_no rfl _ _ | exact getD_no rfl | exact insF_no (rowC0_no rfl) (newT_no rfl) _ _ _)), ?_⟩)⟩ ?_
        exact AW.ret (show ResL _ _ [.cell 4 29, .tmp 5] _ ∧ HeapLe _ _ from ⟨.inr (.inl ⟨_, _, _, _, rfl, .cells rfl vst_ag_29_2 rfl rfl (Nat.le_of_ble_eq_true rfl) (Nat.le_of_ble_eq_true rfl), .tmp rfl, rfl⟩), ⟨⟨_, rfl, rfl, Nat.le_refl _, fun a b _ _ => rfl⟩, ⟨_, rfl, fun q hq => rowX_ins hir hcode hq⟩, trivial⟩⟩)

theorem v_l13Take (h : GHead) (x : GSay) (hg : goodHead ⟨h.rows, 0⟩ = true) (ho : 0 ≤ h.offset ∧ h.offset ≤ 1000000) : FnG Try.prog 56 [.agg [.own 1000001 2 h.rows.length, .int .i64 h.offset], .agg [.str x.name, .int .i64 x.at_, .int .i64 x.value]] [(1000001, .arr 2 h.rows.length (rowC0 h 1000002)), (1000002, .trees h.rows.length (rowX0 h))] (.tup2 (.agg [.own 77 2 (takeH h x).rows.length, .int .i64 (takeH h x).offset]) (.one (.int .i64 ((takeCode h x : Nat) : Int)))) [(77, .arr 2 (takeH h x).rows.length (rowC0 (takeH h x) 78)), (78, .trees (takeH h x).rows.length (rowX0 (takeH h x)))] := by
  have h1 := v_l13Take0 h x hg ho
  rw [takeN_len h x] at h1
  exact h1
end Go.Proofs.Ytmfkmifkkplidaa


/-
  A good head stays good by a step.
-/
namespace Go.Proofs.Ytmfkmifkkplidaa
open Go.ChangeShapes Go.WideShapes Go.ChangeAt Go.RowKit Go.BigFrame Go.Deep
set_option linter.unusedVariables false
set_option linter.unusedSimpArgs false
theorem vpt_ca_42 : callB Try.prog 42 = true := by kernel_rfl
theorem vpt_ca_44 : callB Try.prog 44 = true := by kernel_rfl
theorem vpt_ca_70 : callB Try.prog 70 = true := by kernel_rfl
theorem vpt_ca_78 : callB Try.prog 78 = true := by kernel_rfl
theorem vpt_fi_47_0_0 : fieldB Try.prog 47 0 0 = true := by kernel_rfl
theorem vpt_fi_47_1_1 : fieldB Try.prog 47 1 1 = true := by kernel_rfl
theorem vpt_fi_47_2_2 : fieldB Try.prog 47 2 2 = true := by kernel_rfl
theorem vpt_pl_3 : plainB Try.prog 3 = true := by kernel_rfl
theorem vpt_pl_9 : plainB Try.prog 9 = true := by kernel_rfl
def sayB (x : GSay) : Bool :=
  cond (cond (nameB x.name false) (inB 0 1000000000 x.at_) false) (inB (-1000000000) 1000000000 x.value) false
theorem v_l13Say (x : GSay) : Fn Try.prog 55 [.agg [.str x.name, .int .i64 x.at_, .int .i64 x.value]] (.one (.bool (sayB x))) := by
  refine Fn.of_body (fn := Try.f55) Try.func55 rfl (Nat.le_of_ble_eq_true rfl) trivial ?_
  intro w0
  show AW _ 16 _ _ _ _
  refine AW.seq ?_
  refine AW.region ?_
  refine ARun.box (id := 0) rfl (.tmp rfl) (SV.cells_of (by exact ⟨trivial, trivial, trivial, trivial⟩)) ⟨rfl, (by repeat first | exact trivial | refine ⟨by decide, by first | rfl | exact trivial | (intro i j; first | rfl | exact getD_no rfl | (dsimp only; split <;> first | rfl | exact getD_no rfl) | exact scl_no (by apply_assumption) _), ?_⟩)⟩ rfl rfl rfl (Nat.le_of_ble_eq_true rfl) ?_
  refine ARun.pure (PureOp.assign rfl .bool) rfl rfl (Nat.le_of_ble_eq_true rfl) ?_
  refine ARun.nil ?_
  refine AW.seq ?_
  refine AW.region ?_
  refine ARun.pure (PureOp.fieldPtr rfl (.tmp rfl) vpt_fi_47_0_0) rfl rfl (Nat.le_of_ble_eq_true rfl) ?_
  refine ARun.pure (PureOp.loadPtr rfl (.tmp rfl) vpt_pl_9 rfl rfl (Nat.le_of_ble_eq_true rfl) (Nat.le_of_ble_eq_true rfl)) rfl rfl (Nat.le_of_ble_eq_true rfl) ?_
  refine ARun.pure (PureOp.call rfl (v_l3Name x.name false) ⟨⟨_, (.tmp rfl), .str⟩, ⟨_, .bool, .bool⟩, trivial⟩ vpt_ca_42 trivial) rfl rfl (Nat.le_of_ble_eq_true rfl) ?_
  refine ARun.pure (PureOp.move rfl (.tmp rfl)) rfl rfl (Nat.le_of_ble_eq_true rfl) ?_
  refine ARun.gpure (want := true) (.tt rfl) (fun hg1 => PureOp.fieldPtr rfl (.tmp rfl) vpt_fi_47_1_1) rfl rfl (Nat.le_of_ble_eq_true rfl) rfl (Nat.le_of_ble_eq_true rfl) ?_
  refine ARun.gpure (want := true) (.tt rfl) (fun hg2 => PureOp.loadPtr rfl (.gtmp rfl hg2) vpt_pl_3 rfl rfl (Nat.le_of_ble_eq_true rfl) (Nat.le_of_ble_eq_true rfl)) rfl rfl (Nat.le_of_ble_eq_true rfl) rfl (Nat.le_of_ble_eq_true rfl) ?_
  refine ARun.gpure (want := true) (.tt rfl) (fun hg3 => PureOp.call rfl (v_l1In x.at_ 0 1000000000) ⟨⟨_, (.gtmp rfl hg3), .int⟩, ⟨_, .int, .int⟩, ⟨_, .int, .int⟩, trivial⟩ vpt_ca_44 trivial) rfl rfl (Nat.le_of_ble_eq_true rfl) rfl (Nat.le_of_ble_eq_true rfl) ?_
  refine ARun.pure (PureOp.pick rfl (.tmp rfl) (fun hp4 => .gtmp rfl hp4) (fun _ => .bool)) rfl rfl (Nat.le_of_ble_eq_true rfl) ?_
  refine ARun.pure (PureOp.move rfl (.tmp rfl)) rfl rfl (Nat.le_of_ble_eq_true rfl) ?_
  refine ARun.gpure (want := true) (.tt rfl) (fun hg6 => PureOp.fieldPtr rfl (.tmp rfl) vpt_fi_47_2_2) rfl rfl (Nat.le_of_ble_eq_true rfl) rfl (Nat.le_of_ble_eq_true rfl) ?_
  refine ARun.gpure (want := true) (.tt rfl) (fun hg7 => PureOp.loadPtr rfl (.gtmp rfl hg7) vpt_pl_3 rfl rfl (Nat.le_of_ble_eq_true rfl) (Nat.le_of_ble_eq_true rfl)) rfl rfl (Nat.le_of_ble_eq_true rfl) rfl (Nat.le_of_ble_eq_true rfl) ?_
  refine ARun.gpure (want := true) (.tt rfl) (fun hg8 => PureOp.call rfl (v_l1In x.value (-1000000000) 1000000000) ⟨⟨_, (.gtmp rfl hg8), .int⟩, ⟨_, .int, .int⟩, ⟨_, .int, .int⟩, trivial⟩ vpt_ca_44 trivial) rfl rfl (Nat.le_of_ble_eq_true rfl) rfl (Nat.le_of_ble_eq_true rfl) ?_
  refine ARun.pure (PureOp.pick rfl (.tmp rfl) (fun hp9 => .gtmp rfl hp9) (fun _ => .bool)) rfl rfl (Nat.le_of_ble_eq_true rfl) ?_
  refine ARun.pure (PureOp.assign rfl (.tmp rfl)) rfl rfl (Nat.le_of_ble_eq_true rfl) ?_
  refine ARun.nil ?_
  refine AW.ret (show ResL _ _ [.tmp 2] _ from resB rfl ?_)
  rfl

def sayBI (x : GSay) : Bool :=
  cond (nameB x.name false) (isSampleB (⟨x.at_, x.value⟩ : GSample)) false
theorem sayB_eq (x : GSay) : sayBI x = sayB x := by
  unfold sayBI sayB isSampleB
  generalize nameB _ false = a1
  generalize inB 0 _ _ = a2
  generalize inB (-1000000000) _ _ = a3
  revert a1 a2 a3; decide
theorem v_isSay (x : GSay) : Fn Try.prog 58 [.agg [.str x.name, .int .i64 x.at_, .int .i64 x.value]] (.one (.bool (sayB x))) := by
  refine Fn.of_body (fn := Try.f58) Try.func58 rfl (Nat.le_of_ble_eq_true rfl) trivial ?_
  intro w0
  show AW _ 14 _ _ _ _
  refine AW.seq ?_
  refine AW.region ?_
  refine ARun.box (id := 0) rfl (.tmp rfl) (SV.cells_of (by exact ⟨trivial, trivial, trivial, trivial⟩)) ⟨rfl, (by repeat first | exact trivial | refine ⟨by decide, by first | rfl | exact trivial | (intro i j; first | rfl | exact getD_no rfl | (dsimp only; split <;> first | rfl | exact getD_no rfl) | exact scl_no (by apply_assumption) _), ?_⟩)⟩ rfl rfl rfl (Nat.le_of_ble_eq_true rfl) ?_
  refine ARun.pure (PureOp.assign rfl .bool) rfl rfl (Nat.le_of_ble_eq_true rfl) ?_
  refine ARun.nil ?_
  refine AW.seq ?_
  refine AW.region ?_
  refine ARun.pure (PureOp.fieldPtr rfl (.tmp rfl) vpt_fi_47_0_0) rfl rfl (Nat.le_of_ble_eq_true rfl) ?_
  refine ARun.pure (PureOp.loadPtr rfl (.tmp rfl) vpt_pl_9 rfl rfl (Nat.le_of_ble_eq_true rfl) (Nat.le_of_ble_eq_true rfl)) rfl rfl (Nat.le_of_ble_eq_true rfl) ?_
  refine ARun.pure (PureOp.call rfl (v_isWord x.name false) ⟨⟨_, (.tmp rfl), .str⟩, ⟨_, .bool, .bool⟩, trivial⟩ vpt_ca_70 trivial) rfl rfl (Nat.le_of_ble_eq_true rfl) ?_
  refine ARun.pure (PureOp.move rfl (.tmp rfl)) rfl rfl (Nat.le_of_ble_eq_true rfl) ?_
  refine ARun.gpure (want := true) (.tt rfl) (fun hg1 => PureOp.fieldPtr rfl (.tmp rfl) vpt_fi_47_1_1) rfl rfl (Nat.le_of_ble_eq_true rfl) rfl (Nat.le_of_ble_eq_true rfl) ?_
  refine ARun.gpure (want := true) (.tt rfl) (fun hg2 => PureOp.loadPtr rfl (.gtmp rfl hg2) vpt_pl_3 rfl rfl (Nat.le_of_ble_eq_true rfl) (Nat.le_of_ble_eq_true rfl)) rfl rfl (Nat.le_of_ble_eq_true rfl) rfl (Nat.le_of_ble_eq_true rfl) ?_
  refine ARun.gpure (want := true) (.tt rfl) (fun hg3 => PureOp.fieldPtr rfl (.tmp rfl) vpt_fi_47_2_2) rfl rfl (Nat.le_of_ble_eq_true rfl) rfl (Nat.le_of_ble_eq_true rfl) ?_
  refine ARun.gpure (want := true) (.tt rfl) (fun hg4 => PureOp.loadPtr rfl (.gtmp rfl hg4) vpt_pl_3 rfl rfl (Nat.le_of_ble_eq_true rfl) (Nat.le_of_ble_eq_true rfl)) rfl rfl (Nat.le_of_ble_eq_true rfl) rfl (Nat.le_of_ble_eq_true rfl) ?_
  refine ARun.gpure (want := true) (.tt rfl) (fun hg5 => PureOp.build (ys := [.int .i64 x.at_, .int .i64 x.value]) (l := [.int .i64 0, .int .i64 0]) (pl := [(0, 1), (1, 1)]) (z := (.agg #[.int .i64 0, .int .i64 0])) rfl (by kernel_rfl) (by kernel_rfl) (fun _ _ _ => ⟨_, _, rfl, rfl, ⟨_, _, rfl, rfl, rfl⟩⟩) ⟨(.gtmp rfl hg5), trivial, rfl, ⟨(.gtmp rfl hg5), trivial, rfl, trivial⟩⟩ rfl) rfl rfl (Nat.le_of_ble_eq_true rfl) rfl (Nat.le_of_ble_eq_true rfl) ?_
  refine ARun.gpure (want := true) (.tt rfl) (fun hg6 => PureOp.call rfl (v_isSample (⟨x.at_, x.value⟩ : GSample)) ⟨⟨_, (.gtmp rfl hg6), ⟨.int, .int, trivial⟩⟩, trivial⟩ vpt_ca_78 trivial) rfl rfl (Nat.le_of_ble_eq_true rfl) rfl (Nat.le_of_ble_eq_true rfl) ?_
  refine ARun.pure (PureOp.pick rfl (.tmp rfl) (fun hp7 => .gtmp rfl hp7) (fun _ => .bool)) rfl rfl (Nat.le_of_ble_eq_true rfl) ?_
  refine ARun.pure (PureOp.assign rfl (.tmp rfl)) rfl rfl (Nat.le_of_ble_eq_true rfl) ?_
  refine ARun.nil ?_
  refine AW.ret (show ResL _ _ [.tmp 2] _ from resB rfl ?_)
  exact sayB_eq x

/-! A good head stays good. -/
theorem less_total : ∀ {a b : List UInt8}, Op.bytesLess a b = false → a ≠ b → Op.bytesLess b a = true
  | [], [], _, h => absurd rfl h
  | [], _ :: _, h, _ => by simp [Op.bytesLess] at h
  | _ :: _, [], _, _ => by simp [Op.bytesLess]
  | x :: a, y :: b, h, hne => by
    simp only [Op.bytesLess, Bool.or_eq_false_iff, Bool.and_eq_false_iff, decide_eq_false_iff_not, beq_eq_false_iff_ne] at h
    simp only [Op.bytesLess, Bool.or_eq_true, Bool.and_eq_true, decide_eq_true_eq, beq_iff_eq]
    obtain ⟨h1, h2⟩ := h
    by_cases e : x = y
    · subst e
      refine .inr ⟨rfl, less_total (h2.resolve_left (fun h => h rfl)) (fun e => hne (by rw [e]))⟩
    · refine .inl ?_
      have : ¬ x.toNat < y.toNat := fun hc => h1 (by first | exact hc | exact UInt8.lt_iff_toNat_lt.2 hc)
      have h3 : x.toNat ≠ y.toNat := fun hc => e (UInt8.toNat_inj.1 hc)
      first | (exact UInt8.lt_iff_toNat_lt.2 (by omega)) | omega
theorem toList_inj' {a b : ByteArray} (h : a.toList = b.toList) : a = b := by
  rw [ByteArray.toList_eq, ByteArray.toList_eq] at h
  cases a; cases b; simp_all
structure GoodR (l : List GRow) : Prop where
  name : ∀ k, k < l.length → nameB (l.getD k (default : GRow)).name false = true
  some : ∀ k, k < l.length → 0 < (l.getD k (default : GRow)).samples.length
  smps : ∀ k, k < l.length → samplesB (l.getD k (default : GRow)).samples = true
  ord : ∀ k, 0 < k → k < l.length → Op.bytesLess (l.getD (k - 1) (default : GRow)).name.toList (l.getD k (default : GRow)).name.toList = true
  len : l.length ≤ 8
theorem GoodR.of {l : List GRow} {o : Int} (hg : goodHead ⟨l, o⟩ = true) : GoodR l :=
  ⟨fun _ hk => (good_at hg hk).1, fun _ hk => (good_at hg hk).2.1, fun _ hk => (good_at hg hk).2.2, fun _ h0 hk => good_step hg h0 hk, good_len hg⟩
theorem GoodR.good {l : List GRow} {o : Int} (h : GoodR l) (ho : inB 0 1000 o = true) : goodHead ⟨l, o⟩ = true := by
  unfold goodHead
  rw [Bool.and_eq_true]
  refine ⟨rng_yes fun k hk => ?_, ?_⟩
  · rw [Bool.not_eq_true']
    have hk : k < l.length := hk
    unfold rowBad
    show cond (cond (cond (!(nameB (l.getD k (default : GRow)).name false)) true (decide ((((l.getD k (default : GRow)).samples.length : Nat) : Int) = 0))) true (!(samplesB (l.getD k (default : GRow)).samples))) true (cond (decide (0 < (k : Int))) (!Op.bytesLess (l.getD (k - 1) (default : GRow)).name.toList (l.getD k (default : GRow)).name.toList) false) = false
    have h2 := h.some k hk
    rw [h.name k hk, h.smps k hk, decide_eq_false (show ¬ (((l.getD k (default : GRow)).samples.length : Nat) : Int) = 0 by omega)]
    by_cases h0 : 0 < k
    · rw [h.ord k h0 hk]; cases decide ((0 : Int) < (k : Int)) <;> rfl
    · rw [decide_eq_false (show ¬ (0 : Int) < (k : Int) by omega)]; rfl
  · show cond (decide ((l.length : Int) ≤ 8)) (inB 0 1000 o) false = true
    have := h.len
    rw [decide_eq_true (show (l.length : Int) ≤ 8 by omega), ho]; rfl
theorem good_re {l : List GRow} {o o' : Int} (hg : goodHead ⟨l, o⟩ = true) (ho : inB 0 1000 o' = true) : goodHead ⟨l, o'⟩ = true := (GoodR.of hg).good ho
theorem good0 {h : GHead} (hg : goodHead h = true) : goodHead ⟨h.rows, 0⟩ = true := good_re (o := h.offset) hg (by decide)
theorem good_off {h : GHead} (hg : goodHead h = true) : 0 ≤ h.offset ∧ h.offset ≤ 1000 := by
  unfold goodHead at hg
  rw [Bool.and_eq_true] at hg
  have h1 := hg.2
  by_cases h2 : (h.rows.length : Int) ≤ 8
  · rw [decide_eq_true h2] at h1; exact inB_true h1
  · rw [decide_eq_false h2] at h1; cases h1
theorem sm_at {l : List GSample} (h : samplesB l = true) {k : Nat} (hk : k < l.length) : isSampleB (l.getD k (default : GSample)) = true ∧ (0 < k → (l.getD (k - 1) (default : GSample)).at_ < (l.getD k (default : GSample)).at_) := by
  unfold samplesB at h; rw [Bool.and_eq_true] at h
  have h1 := List.all_eq_true.1 h.1 k (List.mem_range.2 hk)
  rw [Bool.not_eq_true'] at h1
  unfold saBad at h1
  unfold isSampleB
  by_cases h0 : 0 < k
  · rw [decide_eq_true (show (0 : Int) < (k : Int) by omega)] at h1
    by_cases h2 : (l.getD k (default : GSample)).at_ ≤ (l.getD (k - 1) (default : GSample)).at_
    · rw [decide_eq_true h2] at h1
      revert h1
      generalize inB 0 _ _ = a1
      generalize inB (-1000000000) _ _ = a2
      revert a1 a2; simp
    · refine ⟨?_, fun _ => by omega⟩
      rw [decide_eq_false h2] at h1
      revert h1
      generalize inB 0 _ _ = a1
      generalize inB (-1000000000) _ _ = a2
      revert a1 a2; decide
  · refine ⟨?_, fun h => absurd h h0⟩
    rw [decide_eq_false (show ¬ (0 : Int) < (k : Int) by omega)] at h1
    revert h1
    generalize inB 0 _ _ = a1
    generalize inB (-1000000000) _ _ = a2
    generalize decide (_ ≤ (l.getD (k - 1) (default : GSample)).at_) = a3
    revert a1 a2 a3; decide
theorem sm_of {l : List GSample} (h1 : ∀ k, k < l.length → isSampleB (l.getD k (default : GSample)) = true) (h2 : ∀ k, 0 < k → k < l.length → (l.getD (k - 1) (default : GSample)).at_ < (l.getD k (default : GSample)).at_) (h3 : l.length ≤ 40) : samplesB l = true := by
  unfold samplesB; rw [Bool.and_eq_true]
  refine ⟨rng_yes fun k hk => ?_, decide_eq_true (by omega)⟩
  rw [Bool.not_eq_true']
  unfold saBad
  have e1 := h1 k hk
  unfold isSampleB at e1
  by_cases h0 : 0 < k
  · have e2 := h2 k h0 hk
    rw [decide_eq_false (show ¬ (l.getD k (default : GSample)).at_ ≤ (l.getD (k - 1) (default : GSample)).at_ by omega)]
    revert e1
    generalize inB 0 _ _ = a1
    generalize inB (-1000000000) _ _ = a2
    generalize decide ((0 : Int) < (k : Int)) = a3
    revert a1 a2 a3; decide
  · rw [decide_eq_false (show ¬ (0 : Int) < (k : Int) by omega)]
    revert e1
    generalize inB 0 _ _ = a1
    generalize inB (-1000000000) _ _ = a2
    generalize decide (_ ≤ (l.getD (k - 1) (default : GSample)).at_) = a3
    revert a1 a2 a3; decide
theorem say_name {x : GSay} (hx : sayB x = true) : nameB x.name false = true ∧ isSampleB (smpX x) = true := by
  unfold sayB at hx
  unfold isSampleB
  revert hx
  show _ → _ ∧ cond (inB 0 1000000000 x.at_) (inB (-1000000000) 1000000000 x.value) false = true
  generalize nameB _ false = a1
  generalize inB 0 _ _ = a2
  generalize inB (-1000000000) _ _ = a3
  revert a1 a2 a3; decide
theorem good_take {h : GHead} {x : GSay} (hg : goodHead ⟨h.rows, 0⟩ = true) (hx : sayB x = true) : goodHead ⟨(takeH h x).rows, 0⟩ = true := by
  have G := GoodR.of hg
  obtain ⟨hn, hs⟩ := say_name hx
  refine GoodR.good ?_ (by decide)
  by_cases hc : takeCode h x = 1
  · cases hir : isRow h x.name with
    | true =>
      rw [tR_row hir hc]
      have hlo := row_lo hir
      have hA : ∀ k, (h.rows.set (loF h x.name) ⟨(rowK h x).name, addS h x⟩).getD k (default : GRow) = if k = loF h x.name then ⟨(rowK h x).name, addS h x⟩ else h.rows.getD k (default : GRow) := fun k => set_at _ hlo k
      have hN : ∀ k, ((h.rows.set (loF h x.name) ⟨(rowK h x).name, addS h x⟩).getD k (default : GRow)).name = (h.rows.getD k (default : GRow)).name := fun k => by
        rw [hA]
        by_cases e : k = loF h x.name
        · rw [if_pos e, e]
        · rw [if_neg e]
      have hL : (h.rows.set (loF h x.name) ⟨(rowK h x).name, addS h x⟩).length = h.rows.length := List.length_set
      refine ⟨fun k hk => by rw [hN]; exact G.name k (hL ▸ hk), fun k hk => ?_, fun k hk => ?_, fun k h0 hk => by rw [hN, hN]; exact G.ord k h0 (hL ▸ hk), by rw [hL]; exact G.len⟩
      · rw [hL] at hk
        rw [hA]
        by_cases e : k = loF h x.name
        · rw [if_pos e]; show 0 < (addS h x).length; rw [addS_row hir, List.length_append]; exact Nat.succ_pos _
        · rw [if_neg e]; exact G.some k hk
      · rw [hL] at hk
        rw [hA]
        by_cases e : k = loF h x.name
        · rw [if_pos e]
          show samplesB (addS h x) = true
          rw [addS_row hir]
          have h1 := G.smps (loF h x.name) hlo
          have h2 := G.some (loF h x.name) hlo
          have h3 := smp_40 h1
          have hcc : ¬ (takeLast h x).at_ = x.at_ ∧ ¬ x.at_ < (takeLast h x).at_ ∧ ¬ (rowK h x).samples.length = 40 := by
            unfold takeCode at hc
            rw [hir, if_pos rfl] at hc
            by_cases c1 : (takeLast h x).at_ = x.at_
            · rw [if_pos c1] at hc; omega
            · rw [if_neg c1] at hc
              by_cases c2 : x.at_ < (takeLast h x).at_
              · rw [if_pos c2] at hc; omega
              · rw [if_neg c2] at hc
                by_cases c3 : (rowK h x).samples.length = 40
                · rw [if_pos c3] at hc; omega
                · exact ⟨c1, c2, c3⟩
          obtain ⟨c1, c2, c3⟩ := hcc
          have h1 : samplesB (rowK h x).samples = true := h1
          have h2 : 0 < (rowK h x).samples.length := h2
          have h3 : (rowK h x).samples.length ≤ 40 := h3
          have hlen : ((rowK h x).samples ++ [smpX x]).length = (rowK h x).samples.length + 1 := by rw [List.length_append]; rfl
          have at1 : ∀ k, k < (rowK h x).samples.length → ((rowK h x).samples ++ [smpX x]).getD k (default : GSample) = (rowK h x).samples.getD k (default : GSample) := fun k hk => by rw [getD_app, if_pos hk]
          have at2 : ((rowK h x).samples ++ [smpX x]).getD (rowK h x).samples.length (default : GSample) = smpX x := by rw [getD_app, if_neg (Nat.lt_irrefl _), Nat.sub_self]; rfl
          refine sm_of (fun k hk => ?_) (fun k h0 hk => ?_) (by rw [hlen]; omega)
          · rw [hlen] at hk
            by_cases e3 : k < (rowK h x).samples.length
            · rw [at1 k e3]; exact (sm_at h1 e3).1
            · rw [show k = (rowK h x).samples.length by omega, at2]; exact hs
          · rw [hlen] at hk
            by_cases e3 : k < (rowK h x).samples.length
            · rw [at1 k e3, at1 (k - 1) (by omega)]; exact (sm_at h1 e3).2 h0
            · obtain rfl : k = (rowK h x).samples.length := by omega
              rw [at2, at1 _ (by omega)]
              show (takeLast h x).at_ < x.at_
              omega
        · rw [if_neg e]; exact G.smps k hk
    | false =>
      rw [tR_ins hir hc]
      have hlo := loF_le h x.name
      have hA : ∀ k, (insL h.rows (loF h x.name) ⟨x.name, addS h x⟩).getD k (default : GRow) = if k < loF h x.name then h.rows.getD k (default : GRow) else if k = loF h x.name then ⟨x.name, addS h x⟩ else h.rows.getD (k - 1) (default : GRow) := fun k => insL_at _ hlo k
      have hL : (insL h.rows (loF h x.name) ⟨x.name, addS h x⟩).length = h.rows.length + 1 := insL_len hlo
      have h8 : ¬ h.rows.length = 8 := fun e => by rw [tk_full8 hir e] at hc; omega
      have hl8 := G.len
      refine ⟨fun k hk => ?_, fun k hk => ?_, fun k hk => ?_, fun k h0 hk => ?_, by rw [hL]; omega⟩
      · rw [hL] at hk; rw [hA]
        split
        · exact G.name k (by omega)
        · split
          · exact hn
          · exact G.name (k - 1) (by omega)
      · rw [hL] at hk; rw [hA]
        split
        · exact G.some k (by omega)
        · split
          · show 0 < (addS h x).length; rw [addS_ins hir]; exact Nat.succ_pos _
          · exact G.some (k - 1) (by omega)
      · rw [hL] at hk; rw [hA]
        split
        · exact G.smps k (by omega)
        · split
          · show samplesB (addS h x) = true
            rw [addS_ins hir]
            refine sm_of (fun k hk => ?_) (fun k h0 hk => ?_) (show 1 ≤ 40 by decide)
            · obtain rfl : k = 0 := by have : k < 1 := hk; omega
              exact hs
            · have : k < 1 := hk; omega
          · exact G.smps (k - 1) (by omega)
      · rw [hL] at hk; rw [hA, hA]
        by_cases e1 : k < loF h x.name
        · rw [if_pos e1, if_pos (by omega)]; exact G.ord k h0 (by omega)
        · rw [if_neg e1]
          by_cases e2 : k = loF h x.name
          · rw [if_pos e2, if_pos (by omega)]
            exact (cmpS_lt _ x.name).1 (loF_lt (show k - 1 < loF h x.name by omega))
          · rw [if_neg e2]
            by_cases e3 : k = loF h x.name + 1
            · rw [if_neg (by omega), if_pos (by omega)]
              show Op.bytesLess x.name.toList (h.rows.getD (k - 1) (default : GRow)).name.toList = true
              have e4 : k - 1 = loF h x.name := by omega
              rw [e4]
              have h5 := loF_at (h := h) (s := x.name) (by omega)
              refine less_total ?_ (fun e => ?_)
              · cases h6 : Op.bytesLess (h.rows.getD (loF h x.name) (default : GRow)).name.toList x.name.toList with
                | false => rfl
                | true => have := (cmpS_lt _ _).2 h6; omega
              · have h6 := toList_inj' e
                unfold isRow at hir
                rw [h6, decide_eq_true (show loF h x.name < h.rows.length by omega), decide_eq_true rfl] at hir
                cases hir
            · rw [if_neg (by omega), if_neg (by omega)]; exact G.ord (k - 1) (by omega) (by omega)
  · rw [tR_old hc]; exact G
theorem hd_ok {h : GHead} (hg : goodHead ⟨h.rows, 0⟩ = true) : HdOk h := ⟨Nat.le_trans (good_len (h := ⟨h.rows, 0⟩) hg) (by decide), fun k hk => Nat.le_trans (smp_40 (good_at (h := ⟨h.rows, 0⟩) hg hk).2.2) (by decide)⟩
def takeV (h : GHead) (x : GSay) : GHead × Nat × Bool := if goodHead h = true ∧ sayB x = true ∧ ¬ h.offset = 1000 then (takeH h x, takeCode h x, true) else (⟨[], 0⟩, 0, false)
end Go.Proofs.Ytmfkmifkkplidaa


/-
  TakeSay: the reference and the program make the same.
-/
namespace Go.Proofs.Ytmfkmifkkplidaa
open Go.ChangeShapes Go.WideShapes Go.ChangeAt Go.RowKit Go.BigFrame Go.Deep
set_option linter.unusedVariables false
set_option linter.unusedSimpArgs false
theorem vts_ag_29_2 : aggB Try.prog 29 2 = true := by kernel_rfl
theorem vts_ag_47_3 : aggB Try.prog 47 3 = true := by kernel_rfl
theorem vts_ca_10 : callB Try.prog 10 = true := by kernel_rfl
theorem vts_ca_46 : callB Try.prog 46 = true := by kernel_rfl
theorem vts_ca_55 : callB Try.prog 55 = true := by kernel_rfl
theorem vts_ca_56 : callB Try.prog 56 = true := by kernel_rfl
theorem vts_ca_57 : callB Try.prog 57 = true := by kernel_rfl
theorem vts_ca_58 : callB Try.prog 58 = true := by kernel_rfl
theorem vts_ca_59 : callB Try.prog 59 = true := by kernel_rfl
theorem vts_ca_60 : callB Try.prog 60 = true := by kernel_rfl
theorem vts_fi_29_1_1 : fieldB Try.prog 29 1 1 = true := by kernel_rfl
theorem vts_pl_3 : plainB Try.prog 3 = true := by kernel_rfl
theorem vts_sz_29_2 : sizeB Try.prog 29 2 = true := by kernel_rfl
theorem rowC0_hx {h : GHead} {K : Nat} {L : List Nat} (hK : L.contains K = true) (a b : Nat) : (rowC0 h K a b).hx L = true := match b with
  | 0 => rfl
  | 1 => hK
  | _ + 2 => rfl
theorem v_iTakeSay (h : GHead) (x : GSay) : FnT Try.prog 26 [.agg [.lst 2 h.rows.length (fun i0 j0 => ([.str ((h.rows.getD i0 (default : GRow)).name), .lst 2 (((h.rows.getD i0 (default : GRow)).samples).length) (fun i1 j1 => ([.int .i64 ((((h.rows.getD i0 (default : GRow)).samples).getD i1 (default : GSample)).at_), .int .i64 ((((h.rows.getD i0 (default : GRow)).samples).getD i1 (default : GSample)).value)] : List AV).getD j1 (.con undef))] : List AV).getD j0 (.con undef)), .int .i64 h.offset], .agg [.str x.name, .int .i64 x.at_, .int .i64 x.value]] (.tup3 (.agg [.lst 2 ((((takeV h x).1).rows).length) (fun i0 j0 => ([.str (((((takeV h x).1).rows).getD i0 (default : GRow)).name), .lst 2 ((((((takeV h x).1).rows).getD i0 (default : GRow)).samples).length) (fun i1 j1 => ([.int .i64 (((((((takeV h x).1).rows).getD i0 (default : GRow)).samples).getD i1 (default : GSample)).at_), .int .i64 (((((((takeV h x).1).rows).getD i0 (default : GRow)).samples).getD i1 (default : GSample)).value)] : List AV).getD j1 (.con undef))] : List AV).getD j0 (.con undef)), .int .i64 (((takeV h x).1).offset)]) (.one (.int .i64 (((takeV h x).2.1 : Nat) : Int))) (.one (.bool ((takeV h x).2.2)))) := by
  have hw := True.intro
  refine FnT.of_body (fn := Try.f26) Try.func26 rfl (Nat.le_of_ble_eq_true rfl)  ?_
  intro w0
  show AW _ 29 _ _ _ _
  refine AW.seq ?_
  refine AW.region ?_
  refine ARun.box (id := 0) rfl (.tmp rfl) (SV.cells_of (by exact ⟨trivial, trivial, trivial⟩)) ⟨rfl, (by repeat first | exact trivial | refine ⟨by decide, by first | rfl | exact trivial | (intro a_ b_; first | exact getD_no rfl | exact rowC0_no rfl _ _ | ((try dsimp only); (repeat' split) <;> first | rfl | exact rowC0_no rfl _ _ | exact getD_no rfl)), ?_⟩)⟩ rfl rfl rfl (Nat.le_of_ble_eq_true rfl) ?_
  refine ARun.box (id := 1) rfl (.tmp rfl) (SV.cells_of (by exact ⟨trivial, trivial, trivial, trivial⟩)) ⟨rfl, (by repeat first | exact trivial | refine ⟨by decide, by first | rfl | exact trivial | (intro a_ b_; first | exact getD_no rfl | exact rowC0_no rfl _ _ | ((try dsimp only); (repeat' split) <;> first | rfl | exact rowC0_no rfl _ _ | exact getD_no rfl)), ?_⟩)⟩ rfl rfl rfl (Nat.le_of_ble_eq_true rfl) ?_
  refine ARun.alloc (id := 2) (l := [.con (.slice none 0 0), .int .i64 0]) (z := (.agg #[.slice none 0 0, .int .i64 0])) rfl (by kernel_rfl) (fun _ _ _ => ⟨_, _, rfl, rfl, ⟨_, _, rfl, rfl, rfl⟩⟩) ⟨rfl, (by repeat first | exact trivial | refine ⟨by decide, by first | rfl | exact trivial | (intro a_ b_; first | exact getD_no rfl | exact rowC0_no rfl _ _ | ((try dsimp only); (repeat' split) <;> first | rfl | exact rowC0_no rfl _ _ | exact getD_no rfl)), ?_⟩)⟩ rfl rfl rfl (Nat.le_of_ble_eq_true rfl) ?_
  refine ARun.pure (PureOp.assign rfl .int) rfl rfl (Nat.le_of_ble_eq_true rfl) ?_
  refine ARun.pure (PureOp.assign rfl .bool) rfl rfl (Nat.le_of_ble_eq_true rfl) ?_
  refine ARun.nil ?_
  refine AW.seq ?_
  refine AW.seq ?_
  refine AW.region ?_
  refine ARun.pure (PureOp.loadPtrAgg rfl (.tmp rfl) vts_ag_29_2 rfl rfl (Nat.le_of_ble_eq_true rfl) (Nat.le_of_ble_eq_true rfl)) rfl rfl (Nat.le_of_ble_eq_true rfl) ?_
  refine ARun.pure (PureOp.call rfl (v_isHead h) ⟨⟨_, (.tmp rfl), ⟨.lst, .int, trivial⟩⟩, trivial⟩ vts_ca_46 trivial) rfl rfl (Nat.le_of_ble_eq_true rfl) ?_
  refine ARun.pure (PureOp.not rfl (.tmp rfl)) rfl rfl (Nat.le_of_ble_eq_true rfl) ?_
  refine ARun.pure (PureOp.move rfl (.tmp rfl)) rfl rfl (Nat.le_of_ble_eq_true rfl) ?_
  refine ARun.gpure (want := false) (.tf rfl) (fun hg1 => PureOp.loadPtrAgg rfl (.tmp rfl) vts_ag_47_3 rfl rfl (Nat.le_of_ble_eq_true rfl) (Nat.le_of_ble_eq_true rfl)) rfl rfl (Nat.le_of_ble_eq_true rfl) rfl (Nat.le_of_ble_eq_true rfl) ?_
  refine ARun.gpure (want := false) (.tf rfl) (fun hg2 => PureOp.call rfl (v_isSay x) ⟨⟨_, (.gtmp rfl hg2), ⟨.str, .int, .int, trivial⟩⟩, trivial⟩ vts_ca_58 trivial) rfl rfl (Nat.le_of_ble_eq_true rfl) rfl (Nat.le_of_ble_eq_true rfl) ?_
  refine ARun.gpure (want := false) (.tf rfl) (fun hg3 => PureOp.not rfl (.gtmp rfl hg3)) rfl rfl (Nat.le_of_ble_eq_true rfl) rfl (Nat.le_of_ble_eq_true rfl) ?_
  refine ARun.pure (PureOp.pick rfl (.tmp rfl) (fun _ => .bool) (fun hp5 => .gtmp rfl (not_of hp5))) rfl rfl (Nat.le_of_ble_eq_true rfl) ?_
  refine ARun.pure (PureOp.move rfl (.tmp rfl)) rfl rfl (Nat.le_of_ble_eq_true rfl) ?_
  refine ARun.gpure (want := false) (.tf rfl) (fun hg6 => PureOp.fieldPtr rfl (.tmp rfl) vts_fi_29_1_1) rfl rfl (Nat.le_of_ble_eq_true rfl) rfl (Nat.le_of_ble_eq_true rfl) ?_
  refine ARun.gpure (want := false) (.tf rfl) (fun hg7 => PureOp.loadPtr rfl (.gtmp rfl hg7) vts_pl_3 rfl rfl (Nat.le_of_ble_eq_true rfl) (Nat.le_of_ble_eq_true rfl)) rfl rfl (Nat.le_of_ble_eq_true rfl) rfl (Nat.le_of_ble_eq_true rfl) ?_
  refine ARun.gpure (want := false) (.tf rfl) (fun hg8 => PureOp.intOp rfl (.gtmp rfl hg8) .int rfl) rfl rfl (Nat.le_of_ble_eq_true rfl) rfl (Nat.le_of_ble_eq_true rfl) ?_
  refine ARun.pure (PureOp.pick rfl (.tmp rfl) (fun _ => .bool) (fun hp10 => .gtmp rfl (not_of hp10))) rfl rfl (Nat.le_of_ble_eq_true rfl) ?_
  refine ARun.nil ?_
  refine AW.cond (.tmp rfl) (fun hb11 => ?_) (fun hb11 => ?_)
  · have _u := True.intro
    have hcnd : ¬ (goodHead h = true ∧ sayB x = true ∧ ¬ h.offset = 1000) := by revert hb11; by_cases h1 : h.offset = 1000 <;> cases goodHead h <;> cases sayB x <;> simp [h1]
    refine AW.seq ?_
    refine AW.region ?_
    refine ARun.pure (PureOp.build (ys := []) (l := [.con (.slice none 0 0), .int .i64 0]) (pl := [(0, 1), (1, 1)]) (z := (.agg #[.slice none 0 0, .int .i64 0])) rfl (by kernel_rfl) (by kernel_rfl) (fun _ _ _ => ⟨_, _, rfl, rfl, ⟨_, _, rfl, rfl, rfl⟩⟩) trivial rfl) rfl rfl (Nat.le_of_ble_eq_true rfl) ?_
    refine ARun.store rfl (.tmp rfl) (.tmp rfl) (SV.cells_of (by exact ⟨⟨rfl, (fun _ e => by cases e), (fun _ e => by cases e)⟩, trivial, trivial⟩)) rfl (Nat.le_of_ble_eq_true rfl) vts_sz_29_2 rfl rfl ?_
    refine ARun.pure (PureOp.assign rfl .int) rfl rfl (Nat.le_of_ble_eq_true rfl) ?_
    refine ARun.pure (PureOp.assign rfl .bool) rfl rfl (Nat.le_of_ble_eq_true rfl) ?_
    refine ARun.nil ?_
    rw [show takeV h x = (⟨[], 0⟩, 0, false) from if_neg hcnd]
    exact AW.ret (show ∃ s t, ResL _ _ [.cell 4 29, .tmp 5, .tmp 6] s ∧ TvS _ (ofLeaf t) 0 s _ from ⟨_, fun a b => 1000, .inr (.inr (.inl ⟨_, _, _, _, _, _, rfl, .cells rfl vts_ag_29_2 rfl rfl (Nat.le_of_ble_eq_true rfl) (Nat.le_of_ble_eq_true rfl), .tmp rfl, .tmp rfl, rfl⟩)), ⟨⟨.nil, .int, trivial⟩, .int, .bool⟩⟩)
  · have _u := True.intro
    have hcnd : goodHead h = true ∧ sayB x = true ∧ ¬ h.offset = 1000 := by revert hb11; by_cases h1 : h.offset = 1000 <;> cases goodHead h <;> cases sayB x <;> simp [h1]
    have hg0 := good0 hcnd.1
    have hg1 := good_take hg0 hcnd.2.1
    have hof := good_off hcnd.1
    refine AW.skip ?_
    refine AW.seq ?_
    refine AW.region ?_
    refine ARun.pure (PureOp.loadPtrAgg rfl (.tmp rfl) vts_ag_29_2 rfl rfl (Nat.le_of_ble_eq_true rfl) (Nat.le_of_ble_eq_true rfl)) rfl rfl (Nat.le_of_ble_eq_true rfl) ?_
    refine ARun.prod (K := 3) rfl (v_cloneHead h (hd_ok hg0)) ⟨rfl, (by repeat first | exact trivial | refine ⟨by decide, by first | rfl | exact trivial | (intro a_ b_; first | exact getD_no rfl | exact rowC0_no rfl _ _ | ((try dsimp only); (repeat' split) <;> first | rfl | exact rowC0_no rfl _ _ | exact getD_no rfl)), ?_⟩)⟩ ⟨⟨_, (.tmp rfl), ⟨.lst, .int, trivial⟩⟩, trivial⟩ vts_ca_59 rfl rfl rfl rfl rfl (Nat.le_of_ble_eq_true rfl) ?_
    refine ARun.openAgg 24 0 3 0 2 2 1 h.rows.length 4 5 [.tre 3 0, .int .i64 h.offset] [.own 4 2 h.rows.length, .int .i64 h.offset] (fun p => ([.lst 2 h.rows.length (fun i0 j0 => ([.str ((h.rows.getD i0 (default : GRow)).name), .lst 2 (((h.rows.getD i0 (default : GRow)).samples).length) (fun i1 j1 => ([.int .i64 ((((h.rows.getD i0 (default : GRow)).samples).getD i1 (default : GSample)).at_), .int .i64 ((((h.rows.getD i0 (default : GRow)).samples).getD i1 (default : GSample)).value)] : List AV).getD j1 (.con undef))] : List AV).getD j0 (.con undef)), .int .i64 h.offset] : List AV).getD p (.con undef)) (fun i0 j0 => ([.str ((h.rows.getD i0 (default : GRow)).name), .lst 2 (((h.rows.getD i0 (default : GRow)).samples).length) (fun i1 j1 => ([.int .i64 ((((h.rows.getD i0 (default : GRow)).samples).getD i1 (default : GSample)).at_), .int .i64 ((((h.rows.getD i0 (default : GRow)).samples).getD i1 (default : GSample)).value)] : List AV).getD j1 (.con undef))] : List AV).getD j0 (.con undef)) (rowC0 h 5) rfl rfl rfl rfl (by decide) rfl (by decide) (fun _ _ => ⟨_, _, _, rfl⟩) (fun i j _ hj hne => match j, hj, hne with | 0, _, _ => rfl | 1, _, h => absurd rfl h | _ + 2, h, _ => absurd h (by omega)) ⟨rfl, (by repeat first | exact trivial | refine ⟨by decide, by first | rfl | exact trivial | (intro a_ b_; first | exact getD_no rfl | exact rowC0_no rfl _ _ | ((try dsimp only); (repeat' split) <;> first | rfl | exact rowC0_no rfl _ _ | exact getD_no rfl)), ?_⟩)⟩ ⟨rfl, (by repeat first | exact trivial | refine ⟨by decide, by first | rfl | exact trivial | (intro a_ b_; first | exact getD_no rfl | exact rowC0_no rfl _ _ | ((try dsimp only); (repeat' split) <;> first | rfl | exact rowC0_no rfl _ _ | exact getD_no rfl)), ?_⟩)⟩ (by decide) (fun i j _ hj => match j, hj with | 0, _ => rfl | 1, _ => rfl | _ + 2, h => absurd h (by omega)) ?_
    refine ARun.alloc (id := 6) (l := [.con (.slice none 0 0), .int .i64 0]) (z := (.agg #[.slice none 0 0, .int .i64 0])) rfl (by kernel_rfl) (fun _ _ _ => ⟨_, _, rfl, rfl, ⟨_, _, rfl, rfl, rfl⟩⟩) ⟨rfl, (by repeat first | exact trivial | refine ⟨by decide, by first | rfl | exact trivial | (intro a_ b_; first | exact getD_no rfl | exact rowC0_no rfl _ _ | ((try dsimp only); (repeat' split) <;> first | rfl | exact rowC0_no rfl _ _ | exact getD_no rfl)), ?_⟩)⟩ rfl rfl rfl (Nat.le_of_ble_eq_true rfl) ?_
    refine ARun.store rfl (.tmp rfl) (.tmp rfl) (SV.cells_of (by exact ⟨trivial, trivial, trivial⟩)) rfl (Nat.le_of_ble_eq_true rfl) vts_sz_29_2 rfl rfl ?_
    refine ARun.nil ?_
    refine AW.seq ?_
    refine AW.region ?_
    refine ARun.pure (PureOp.loadPtrAgg rfl (.tmp rfl) vts_ag_47_3 rfl rfl (Nat.le_of_ble_eq_true rfl) (Nat.le_of_ble_eq_true rfl)) rfl rfl (Nat.le_of_ble_eq_true rfl) ?_
    refine ARun.mutx (Hr := [(0, .cells [.lst 2 h.rows.length (fun i0 j0 => ([.str ((h.rows.getD i0 (default : GRow)).name), .lst 2 (((h.rows.getD i0 (default : GRow)).samples).length) (fun i1 j1 => ([.int .i64 ((((h.rows.getD i0 (default : GRow)).samples).getD i1 (default : GSample)).at_), .int .i64 ((((h.rows.getD i0 (default : GRow)).samples).getD i1 (default : GSample)).value)] : List AV).getD j1 (.con undef))] : List AV).getD j0 (.con undef)), .int .i64 h.offset]), (1, .cells [.str x.name, .int .i64 x.at_, .int .i64 x.value]), (2, .cells [.con (.slice none 0 0), .int .i64 0])]) (Hn := [(0, .cells [.lst 2 h.rows.length (fun i0 j0 => ([.str ((h.rows.getD i0 (default : GRow)).name), .lst 2 (((h.rows.getD i0 (default : GRow)).samples).length) (fun i1 j1 => ([.int .i64 ((((h.rows.getD i0 (default : GRow)).samples).getD i1 (default : GSample)).at_), .int .i64 ((((h.rows.getD i0 (default : GRow)).samples).getD i1 (default : GSample)).value)] : List AV).getD j1 (.con undef))] : List AV).getD j0 (.con undef)), .int .i64 h.offset]), (1, .cells [.str x.name, .int .i64 x.at_, .int .i64 x.value]), (2, .cells [.con (.slice none 0 0), .int .i64 0]), (6, .cells [.own 7 2 ((takeH h x).rows.length), .int .i64 ((takeH h x).offset)]), (7, .arr 2 ((takeH h x).rows.length) (rowC0 (takeH h x) 8)), (8, .trees ((takeH h x).rows.length) (rowX0 (takeH h x)))]) (g := fun zz => if zz = 1000000 then 6 else if zz = 1000001 then 4 else if zz = 1000002 then 5 else zz) (g' := fun zz => if zz = 1000000 then 6 else if zz = 1000001 then 4 else if zz = 1000002 then 5 else if zz = 77 then 7 else if zz = 78 then 8 else zz) (K := [77, 78, 1000000]) (T := [(7, 77), (8, 78)]) rfl (v_take h x hg0 ⟨by omega, by omega⟩) vts_ca_60 ⟨.inr (.tmp rfl), ⟨.inl ⟨_, (.tmp rfl), ⟨.str, .int, .int, trivial⟩⟩, trivial⟩⟩ ⟨⟨_, rfl, rfl⟩, ⟨_, rfl, ⟨rfl, rfl, fun a b _ _ => rowC0_ren (h := h) (K := 1000002) (K' := 5) rfl a b⟩⟩, ⟨_, rfl, ⟨rfl, fun _ _ => rfl⟩⟩, trivial⟩ ⟨⟨rfl, rfl⟩, ⟨rfl, rfl⟩, ⟨rfl, rfl⟩, trivial⟩ rfl ⟨⟨rfl, (by repeat first | exact trivial | refine ⟨by decide, by first | rfl | exact trivial | (intro a_ b_; first | exact getD_no rfl | exact rowC0_no rfl _ _ | ((try dsimp only); (repeat' split) <;> first | rfl | exact rowC0_no rfl _ _ | exact getD_no rfl)), ?_⟩)⟩, ⟨rfl, (by repeat first | exact trivial | refine ⟨by decide, by first | rfl | exact trivial | (intro a_ b_; first | exact getD_no rfl | exact rowC0_no rfl _ _ | ((try dsimp only); (repeat' split) <;> first | rfl | exact rowC0_no rfl _ _ | exact getD_no rfl)), ?_⟩)⟩, trivial⟩ (by kernel_rfl) (by kernel_rfl) (by kernel_rfl) ⟨.inl rfl, .inl rfl, .inl rfl, .inr ⟨1000000, _, rfl, rfl, rfl, rfl, rfl⟩, .inr ⟨77, _, rfl, rfl, rfl, ⟨rfl, rfl, fun a b _ _ => rowC0_ren (h := (takeH h x)) (K := 78) (K' := 8) rfl a b⟩, (fun a b _ _ => rowC0_hx rfl a b)⟩, .inr ⟨78, _, rfl, rfl, rfl, ⟨rfl, fun _ _ => rfl⟩, trivial⟩, trivial⟩ rfl rfl (Nat.le_of_ble_eq_true rfl) (r' := .one (.int .i64 ((takeCode h x : Nat) : Int))) rfl ?_
    refine ARun.pure (PureOp.assign rfl (.tmp rfl)) rfl rfl (Nat.le_of_ble_eq_true rfl) ?_
    refine ARun.nil ?_
    refine AW.seq ?_
    refine AW.region ?_
    refine ARun.pure (PureOp.loadPtrAgg rfl (.tmp rfl) vts_ag_29_2 rfl rfl (Nat.le_of_ble_eq_true rfl) (Nat.le_of_ble_eq_true rfl)) rfl rfl (Nat.le_of_ble_eq_true rfl) ?_
    refine ARun.pure (PureOp.move rfl (.tmp rfl)) rfl rfl (Nat.le_of_ble_eq_true rfl) ?_
    refine ARun.store rfl (.tmp rfl) (.tmp rfl) (SV.cells_of (by exact ⟨trivial, trivial, trivial⟩)) rfl (Nat.le_of_ble_eq_true rfl) vts_sz_29_2 rfl rfl ?_
    refine ARun.pure (PureOp.assign rfl (.tmp rfl)) rfl rfl (Nat.le_of_ble_eq_true rfl) ?_
    refine ARun.pure (PureOp.assign rfl .bool) rfl rfl (Nat.le_of_ble_eq_true rfl) ?_
    refine ARun.nil ?_
    rw [show takeV h x = (takeH h x, takeCode h x, true) from if_pos hcnd]
    exact AW.ret (show ∃ s t, ResL _ _ [.cell 4 29, .tmp 5, .tmp 6] s ∧ TvS _ (ofLeaf t) 0 s _ from ⟨_, fun a b => if a = 7 then 0 else if a = 8 then 0 else 1000, .inr (.inr (.inl ⟨_, _, _, _, _, _, rfl, .cells rfl vts_ag_29_2 rfl rfl (Nat.le_of_ble_eq_true rfl) (Nat.le_of_ble_eq_true rfl), .tmp rfl, .tmp rfl, rfl⟩)), ⟨⟨(Tv.colK (K := 8) (c := 1) (X := rowX0 (takeH h x)) rfl rfl rfl rfl (Nat.le_refl _) (by rfl) (fun i j hi hj hne => match j, hj, hne with | 0, _, _ => ⟨rfl, rfl⟩ | 1, _, h => absurd rfl h | _ + 2, h, _ => absurd h (by omega)) (fun i hi => ⟨rfl, rfl⟩) rfl (by decide) (fun _ => by rfl)), .int, trivial⟩, .int, .bool⟩⟩)

theorem v_sTakeSay (h : GHead) (x : GSay) : FnT Try.prog 24 [.agg [.lst 2 h.rows.length (fun i0 j0 => ([.str ((h.rows.getD i0 (default : GRow)).name), .lst 2 (((h.rows.getD i0 (default : GRow)).samples).length) (fun i1 j1 => ([.int .i64 ((((h.rows.getD i0 (default : GRow)).samples).getD i1 (default : GSample)).at_), .int .i64 ((((h.rows.getD i0 (default : GRow)).samples).getD i1 (default : GSample)).value)] : List AV).getD j1 (.con undef))] : List AV).getD j0 (.con undef)), .int .i64 h.offset], .agg [.str x.name, .int .i64 x.at_, .int .i64 x.value]] (.tup3 (.agg [.lst 2 ((((takeV h x).1).rows).length) (fun i0 j0 => ([.str (((((takeV h x).1).rows).getD i0 (default : GRow)).name), .lst 2 ((((((takeV h x).1).rows).getD i0 (default : GRow)).samples).length) (fun i1 j1 => ([.int .i64 (((((((takeV h x).1).rows).getD i0 (default : GRow)).samples).getD i1 (default : GSample)).at_), .int .i64 (((((((takeV h x).1).rows).getD i0 (default : GRow)).samples).getD i1 (default : GSample)).value)] : List AV).getD j1 (.con undef))] : List AV).getD j0 (.con undef)), .int .i64 (((takeV h x).1).offset)]) (.one (.int .i64 (((takeV h x).2.1 : Nat) : Int))) (.one (.bool ((takeV h x).2.2)))) := by
  have hw := True.intro
  refine FnT.of_body (fn := Try.f24) Try.func24 rfl (Nat.le_of_ble_eq_true rfl)  ?_
  intro w0
  show AW _ 33 _ _ _ _
  refine AW.seq ?_
  refine AW.region ?_
  refine ARun.box (id := 0) rfl (.tmp rfl) (SV.cells_of (by exact ⟨trivial, trivial, trivial⟩)) ⟨rfl, (by repeat first | exact trivial | refine ⟨by decide, by first | rfl | exact trivial | (intro a_ b_; first | exact getD_no rfl | exact rowC0_no rfl _ _ | ((try dsimp only); (repeat' split) <;> first | rfl | exact rowC0_no rfl _ _ | exact getD_no rfl)), ?_⟩)⟩ rfl rfl rfl (Nat.le_of_ble_eq_true rfl) ?_
  refine ARun.box (id := 1) rfl (.tmp rfl) (SV.cells_of (by exact ⟨trivial, trivial, trivial, trivial⟩)) ⟨rfl, (by repeat first | exact trivial | refine ⟨by decide, by first | rfl | exact trivial | (intro a_ b_; first | exact getD_no rfl | exact rowC0_no rfl _ _ | ((try dsimp only); (repeat' split) <;> first | rfl | exact rowC0_no rfl _ _ | exact getD_no rfl)), ?_⟩)⟩ rfl rfl rfl (Nat.le_of_ble_eq_true rfl) ?_
  refine ARun.alloc (id := 2) (l := [.con (.slice none 0 0), .int .i64 0]) (z := (.agg #[.slice none 0 0, .int .i64 0])) rfl (by kernel_rfl) (fun _ _ _ => ⟨_, _, rfl, rfl, ⟨_, _, rfl, rfl, rfl⟩⟩) ⟨rfl, (by repeat first | exact trivial | refine ⟨by decide, by first | rfl | exact trivial | (intro a_ b_; first | exact getD_no rfl | exact rowC0_no rfl _ _ | ((try dsimp only); (repeat' split) <;> first | rfl | exact rowC0_no rfl _ _ | exact getD_no rfl)), ?_⟩)⟩ rfl rfl rfl (Nat.le_of_ble_eq_true rfl) ?_
  refine ARun.pure (PureOp.assign rfl .int) rfl rfl (Nat.le_of_ble_eq_true rfl) ?_
  refine ARun.pure (PureOp.assign rfl .bool) rfl rfl (Nat.le_of_ble_eq_true rfl) ?_
  refine ARun.nil ?_
  refine AW.seq ?_
  refine AW.seq ?_
  refine AW.region ?_
  refine ARun.pure (PureOp.loadPtrAgg rfl (.tmp rfl) vts_ag_29_2 rfl rfl (Nat.le_of_ble_eq_true rfl) (Nat.le_of_ble_eq_true rfl)) rfl rfl (Nat.le_of_ble_eq_true rfl) ?_
  refine ARun.pure (PureOp.call rfl (v_specGoodHead h) ⟨⟨_, (.tmp rfl), ⟨.lst, .int, trivial⟩⟩, trivial⟩ vts_ca_10 trivial) rfl rfl (Nat.le_of_ble_eq_true rfl) ?_
  refine ARun.pure (PureOp.not rfl (.tmp rfl)) rfl rfl (Nat.le_of_ble_eq_true rfl) ?_
  refine ARun.pure (PureOp.move rfl (.tmp rfl)) rfl rfl (Nat.le_of_ble_eq_true rfl) ?_
  refine ARun.gpure (want := false) (.tf rfl) (fun hg1 => PureOp.loadPtrAgg rfl (.tmp rfl) vts_ag_47_3 rfl rfl (Nat.le_of_ble_eq_true rfl) (Nat.le_of_ble_eq_true rfl)) rfl rfl (Nat.le_of_ble_eq_true rfl) rfl (Nat.le_of_ble_eq_true rfl) ?_
  refine ARun.gpure (want := false) (.tf rfl) (fun hg2 => PureOp.call rfl (v_l13Say x) ⟨⟨_, (.gtmp rfl hg2), ⟨.str, .int, .int, trivial⟩⟩, trivial⟩ vts_ca_55 trivial) rfl rfl (Nat.le_of_ble_eq_true rfl) rfl (Nat.le_of_ble_eq_true rfl) ?_
  refine ARun.gpure (want := false) (.tf rfl) (fun hg3 => PureOp.not rfl (.gtmp rfl hg3)) rfl rfl (Nat.le_of_ble_eq_true rfl) rfl (Nat.le_of_ble_eq_true rfl) ?_
  refine ARun.pure (PureOp.pick rfl (.tmp rfl) (fun _ => .bool) (fun hp5 => .gtmp rfl (not_of hp5))) rfl rfl (Nat.le_of_ble_eq_true rfl) ?_
  refine ARun.pure (PureOp.move rfl (.tmp rfl)) rfl rfl (Nat.le_of_ble_eq_true rfl) ?_
  refine ARun.gpure (want := false) (.tf rfl) (fun hg6 => PureOp.fieldPtr rfl (.tmp rfl) vts_fi_29_1_1) rfl rfl (Nat.le_of_ble_eq_true rfl) rfl (Nat.le_of_ble_eq_true rfl) ?_
  refine ARun.gpure (want := false) (.tf rfl) (fun hg7 => PureOp.loadPtr rfl (.gtmp rfl hg7) vts_pl_3 rfl rfl (Nat.le_of_ble_eq_true rfl) (Nat.le_of_ble_eq_true rfl)) rfl rfl (Nat.le_of_ble_eq_true rfl) rfl (Nat.le_of_ble_eq_true rfl) ?_
  refine ARun.gpure (want := false) (.tf rfl) (fun hg8 => PureOp.intOp rfl (.gtmp rfl hg8) .int rfl) rfl rfl (Nat.le_of_ble_eq_true rfl) rfl (Nat.le_of_ble_eq_true rfl) ?_
  refine ARun.pure (PureOp.pick rfl (.tmp rfl) (fun _ => .bool) (fun hp10 => .gtmp rfl (not_of hp10))) rfl rfl (Nat.le_of_ble_eq_true rfl) ?_
  refine ARun.nil ?_
  refine AW.cond (.tmp rfl) (fun hb11 => ?_) (fun hb11 => ?_)
  · have _u := True.intro
    have hcnd : ¬ (goodHead h = true ∧ sayB x = true ∧ ¬ h.offset = 1000) := by revert hb11; by_cases h1 : h.offset = 1000 <;> cases goodHead h <;> cases sayB x <;> simp [h1]
    refine AW.seq ?_
    refine AW.region ?_
    refine ARun.pure (PureOp.build (ys := []) (l := [.con (.slice none 0 0), .int .i64 0]) (pl := [(0, 1), (1, 1)]) (z := (.agg #[.slice none 0 0, .int .i64 0])) rfl (by kernel_rfl) (by kernel_rfl) (fun _ _ _ => ⟨_, _, rfl, rfl, ⟨_, _, rfl, rfl, rfl⟩⟩) trivial rfl) rfl rfl (Nat.le_of_ble_eq_true rfl) ?_
    refine ARun.store rfl (.tmp rfl) (.tmp rfl) (SV.cells_of (by exact ⟨⟨rfl, (fun _ e => by cases e), (fun _ e => by cases e)⟩, trivial, trivial⟩)) rfl (Nat.le_of_ble_eq_true rfl) vts_sz_29_2 rfl rfl ?_
    refine ARun.pure (PureOp.assign rfl .int) rfl rfl (Nat.le_of_ble_eq_true rfl) ?_
    refine ARun.pure (PureOp.assign rfl .bool) rfl rfl (Nat.le_of_ble_eq_true rfl) ?_
    refine ARun.nil ?_
    rw [show takeV h x = (⟨[], 0⟩, 0, false) from if_neg hcnd]
    exact AW.ret (show ∃ s t, ResL _ _ [.cell 4 29, .tmp 5, .tmp 6] s ∧ TvS _ (ofLeaf t) 0 s _ from ⟨_, fun a b => 1000, .inr (.inr (.inl ⟨_, _, _, _, _, _, rfl, .cells rfl vts_ag_29_2 rfl rfl (Nat.le_of_ble_eq_true rfl) (Nat.le_of_ble_eq_true rfl), .tmp rfl, .tmp rfl, rfl⟩)), ⟨⟨.nil, .int, trivial⟩, .int, .bool⟩⟩)
  · have _u := True.intro
    have hcnd : goodHead h = true ∧ sayB x = true ∧ ¬ h.offset = 1000 := by revert hb11; by_cases h1 : h.offset = 1000 <;> cases goodHead h <;> cases sayB x <;> simp [h1]
    have hg0 := good0 hcnd.1
    have hg1 := good_take hg0 hcnd.2.1
    have hof := good_off hcnd.1
    refine AW.skip ?_
    refine AW.seq ?_
    refine AW.anyX [⟨[0], [], [], []⟩, ⟨[], [3, 4, 5], [3, 4, 5], [(4, .arr 2 h.rows.length (rowC0 h 5)), (5, .trees h.rows.length (rowX0 h))]⟩, ⟨[1], [], [], []⟩, ⟨[], [4, 5, 6, 7], [6, 7], [(6, .arr 2 ((takeH h x).rows.length) (rowC0 (takeH h x) 7)), (7, .trees ((takeH h x).rows.length) (rowX0 (takeH h x)))]⟩, ⟨[], [], [], []⟩, ⟨[], [], [], []⟩, ⟨[], [], [], []⟩, ⟨[], [8], [8], [(8, .cells [.con (.slice none 0 0), .int .i64 0])]⟩, ⟨[], [8], [], [(8, .cells [.own 6 2 ((takeH h x).rows.length), .int .i64 ((takeH h x).offset)])]⟩, ⟨[], [], [], []⟩] (by kernel_rfl) (by kernel_rfl) (by kernel_rfl) ⟨⟨.inl rfl, .inr (.inr (by repeat first | exact trivial | refine And.intro ?_ ?_ | exact rfl | ((intro a_ b_; first | exact getD_no rfl | exact rowC0_no rfl _ _ | ((try dsimp only); (repeat' split) <;> first | rfl | exact rowC0_no rfl _ _ | exact getD_no rfl))))), .inr (.inr trivial), .inr (.inr (by repeat first | exact trivial | refine And.intro ?_ ?_ | exact rfl | ((intro a_ b_; first | exact getD_no rfl | exact rowC0_no rfl _ _ | ((try dsimp only); (repeat' split) <;> first | rfl | exact rowC0_no rfl _ _ | exact getD_no rfl))))), .inr (.inr trivial), .inr (.inr trivial), .inr (.inr trivial), .inr (.inr (by repeat first | exact trivial | refine And.intro ?_ ?_ | exact rfl | ((intro a_ b_; first | exact getD_no rfl | exact rowC0_no rfl _ _ | ((try dsimp only); (repeat' split) <;> first | rfl | exact rowC0_no rfl _ _ | exact getD_no rfl))))), .inr (.inr trivial), .inr (.inr trivial), trivial⟩, ⟨.inr (.inr trivial), .inl rfl, .inr (.inr trivial), .inr (.inr (by repeat first | exact trivial | refine And.intro ?_ ?_ | exact rfl | ((intro a_ b_; first | exact getD_no rfl | exact rowC0_no rfl _ _ | ((try dsimp only); (repeat' split) <;> first | rfl | exact rowC0_no rfl _ _ | exact getD_no rfl))))), .inr (.inr trivial), .inr (.inr trivial), .inr (.inr trivial), .inr (.inr (by repeat first | exact trivial | refine And.intro ?_ ?_ | exact rfl | ((intro a_ b_; first | exact getD_no rfl | exact rowC0_no rfl _ _ | ((try dsimp only); (repeat' split) <;> first | rfl | exact rowC0_no rfl _ _ | exact getD_no rfl))))), .inr (.inr trivial), .inr (.inr trivial), trivial⟩, ⟨.inr (.inr trivial), .inr (.inr (by repeat first | exact trivial | refine And.intro ?_ ?_ | exact rfl | ((intro a_ b_; first | exact getD_no rfl | exact rowC0_no rfl _ _ | ((try dsimp only); (repeat' split) <;> first | rfl | exact rowC0_no rfl _ _ | exact getD_no rfl))))), .inl rfl, .inr (.inr (by repeat first | exact trivial | refine And.intro ?_ ?_ | exact rfl | ((intro a_ b_; first | exact getD_no rfl | exact rowC0_no rfl _ _ | ((try dsimp only); (repeat' split) <;> first | rfl | exact rowC0_no rfl _ _ | exact getD_no rfl))))), .inr (.inr trivial), .inr (.inr trivial), .inr (.inr trivial), .inr (.inr (by repeat first | exact trivial | refine And.intro ?_ ?_ | exact rfl | ((intro a_ b_; first | exact getD_no rfl | exact rowC0_no rfl _ _ | ((try dsimp only); (repeat' split) <;> first | rfl | exact rowC0_no rfl _ _ | exact getD_no rfl))))), .inr (.inr trivial), .inr (.inr trivial), trivial⟩, ⟨.inr (.inr trivial), .inr (.inl (by kernel_rfl)), .inr (.inr trivial), .inl rfl, .inr (.inr trivial), .inr (.inr trivial), .inr (.inr trivial), .inr (.inr (by repeat first | exact trivial | refine And.intro ?_ ?_ | exact rfl | ((intro a_ b_; first | exact getD_no rfl | exact rowC0_no rfl _ _ | ((try dsimp only); (repeat' split) <;> first | rfl | exact rowC0_no rfl _ _ | exact getD_no rfl))))), .inr (.inr trivial), .inr (.inr trivial), trivial⟩, ⟨.inr (.inr trivial), .inr (.inl (by kernel_rfl)), .inr (.inr trivial), .inr (.inl (by kernel_rfl)), .inl rfl, .inr (.inr trivial), .inr (.inr trivial), .inr (.inr (by repeat first | exact trivial | refine And.intro ?_ ?_ | exact rfl | ((intro a_ b_; first | exact getD_no rfl | exact rowC0_no rfl _ _ | ((try dsimp only); (repeat' split) <;> first | rfl | exact rowC0_no rfl _ _ | exact getD_no rfl))))), .inr (.inr trivial), .inr (.inr trivial), trivial⟩, ⟨.inr (.inr trivial), .inr (.inl (by kernel_rfl)), .inr (.inr trivial), .inr (.inl (by kernel_rfl)), .inr (.inr trivial), .inl rfl, .inr (.inr trivial), .inr (.inr (by repeat first | exact trivial | refine And.intro ?_ ?_ | exact rfl | ((intro a_ b_; first | exact getD_no rfl | exact rowC0_no rfl _ _ | ((try dsimp only); (repeat' split) <;> first | rfl | exact rowC0_no rfl _ _ | exact getD_no rfl))))), .inr (.inr trivial), .inr (.inr trivial), trivial⟩, ⟨.inr (.inr trivial), .inr (.inl (by kernel_rfl)), .inr (.inr trivial), .inr (.inl (by kernel_rfl)), .inr (.inr trivial), .inr (.inr trivial), .inl rfl, .inr (.inr (by repeat first | exact trivial | refine And.intro ?_ ?_ | exact rfl | ((intro a_ b_; first | exact getD_no rfl | exact rowC0_no rfl _ _ | ((try dsimp only); (repeat' split) <;> first | rfl | exact rowC0_no rfl _ _ | exact getD_no rfl))))), .inr (.inr trivial), .inr (.inr trivial), trivial⟩, ⟨.inr (.inr trivial), .inr (.inr (by repeat first | exact trivial | refine And.intro ?_ ?_ | exact rfl | ((intro a_ b_; first | exact getD_no rfl | exact rowC0_no rfl _ _ | ((try dsimp only); (repeat' split) <;> first | rfl | exact rowC0_no rfl _ _ | exact getD_no rfl))))), .inr (.inr trivial), .inr (.inr (by repeat first | exact trivial | refine And.intro ?_ ?_ | exact rfl | ((intro a_ b_; first | exact getD_no rfl | exact rowC0_no rfl _ _ | ((try dsimp only); (repeat' split) <;> first | rfl | exact rowC0_no rfl _ _ | exact getD_no rfl))))), .inr (.inr trivial), .inr (.inr trivial), .inr (.inr trivial), .inl rfl, .inr (.inr trivial), .inr (.inr trivial), trivial⟩, ⟨.inr (.inr trivial), .inr (.inl (by kernel_rfl)), .inr (.inr trivial), .inr (.inl (by kernel_rfl)), .inr (.inr trivial), .inr (.inr trivial), .inr (.inr trivial), .inr (.inl (by kernel_rfl)), .inl rfl, .inr (.inr trivial), trivial⟩, ⟨.inr (.inr trivial), .inr (.inl (by kernel_rfl)), .inr (.inr trivial), .inr (.inl (by kernel_rfl)), .inr (.inr trivial), .inr (.inr trivial), .inr (.inr trivial), .inr (.inl (by kernel_rfl)), .inr (.inr trivial), .inl rfl, trivial⟩, trivial⟩ ⟨trivial, ⟨(by repeat first | exact trivial | refine ⟨by decide, by first | rfl | exact trivial | (intro a_ b_; first | exact getD_no rfl | exact rowC0_no rfl _ _ | ((try dsimp only); (repeat' split) <;> first | rfl | exact rowC0_no rfl _ _ | exact getD_no rfl)), ?_⟩), (by repeat first | exact trivial | refine ⟨by decide, by first | rfl | exact trivial | (intro a_ b_; first | exact getD_no rfl | exact rowC0_no rfl _ _ | ((try dsimp only); (repeat' split) <;> first | rfl | exact rowC0_no rfl _ _ | exact getD_no rfl)), ?_⟩), (by repeat first | exact trivial | refine ⟨by decide, by first | rfl | exact trivial | (intro a_ b_; first | exact getD_no rfl | exact rowC0_no rfl _ _ | ((try dsimp only); (repeat' split) <;> first | rfl | exact rowC0_no rfl _ _ | exact getD_no rfl)), ?_⟩), trivial⟩, trivial, ⟨(by repeat first | exact trivial | refine ⟨by decide, by first | rfl | exact trivial | (intro a_ b_; first | exact getD_no rfl | exact rowC0_no rfl _ _ | ((try dsimp only); (repeat' split) <;> first | rfl | exact rowC0_no rfl _ _ | exact getD_no rfl)), ?_⟩), (by repeat first | exact trivial | refine ⟨by decide, by first | rfl | exact trivial | (intro a_ b_; first | exact getD_no rfl | exact rowC0_no rfl _ _ | ((try dsimp only); (repeat' split) <;> first | rfl | exact rowC0_no rfl _ _ | exact getD_no rfl)), ?_⟩), trivial⟩, trivial, trivial, trivial, ⟨(by repeat first | exact trivial | refine ⟨by decide, by first | rfl | exact trivial | (intro a_ b_; first | exact getD_no rfl | exact rowC0_no rfl _ _ | ((try dsimp only); (repeat' split) <;> first | rfl | exact rowC0_no rfl _ _ | exact getD_no rfl)), ?_⟩), trivial⟩, trivial, trivial, trivial⟩ ?_
    refine ADX.pure [(0, .cells [.lst 2 h.rows.length (fun i0 j0 => ([.str ((h.rows.getD i0 (default : GRow)).name), .lst 2 (((h.rows.getD i0 (default : GRow)).samples).length) (fun i1 j1 => ([.int .i64 ((((h.rows.getD i0 (default : GRow)).samples).getD i1 (default : GSample)).at_), .int .i64 ((((h.rows.getD i0 (default : GRow)).samples).getD i1 (default : GSample)).value)] : List AV).getD j1 (.con undef))] : List AV).getD j0 (.con undef)), .int .i64 h.offset])] (PureOp.loadPtrAgg rfl (.tmp rfl) vts_ag_29_2 rfl rfl (Nat.le_of_ble_eq_true rfl) (Nat.le_of_ble_eq_true rfl)) rfl rfl (Nat.le_of_ble_eq_true rfl) ⟨rfl, trivial⟩ rfl ?_
    refine ADX.eff (tk := [3, 4, 5]) (new := [3, 4, 5]) (s := .agg [.own 4 2 h.rows.length, .int .i64 h.offset]) (F := [(25, .agg [.own 4 2 h.rows.length, .int .i64 h.offset]), (25, .agg [.tre 3 0, .int .i64 h.offset])]) (Hin := []) (Hout := [(4, .arr 2 h.rows.length (rowC0 h 5)), (5, .trees h.rows.length (rowX0 h))]) (fun E X hE hX Q rest hk => ?_) trivial ⟨rfl, rfl⟩ rfl rfl rfl rfl ⟨(by repeat first | exact trivial | refine ⟨by decide, by first | rfl | exact trivial | (intro a_ b_; first | exact getD_no rfl | exact rowC0_no rfl _ _ | ((try dsimp only); (repeat' split) <;> first | rfl | exact rowC0_no rfl _ _ | exact getD_no rfl)), ?_⟩), (by repeat first | exact trivial | refine ⟨by decide, by first | rfl | exact trivial | (intro a_ b_; first | exact getD_no rfl | exact rowC0_no rfl _ _ | ((try dsimp only); (repeat' split) <;> first | rfl | exact rowC0_no rfl _ _ | exact getD_no rfl)), ?_⟩), (by repeat first | exact trivial | refine ⟨by decide, by first | rfl | exact trivial | (intro a_ b_; first | exact getD_no rfl | exact rowC0_no rfl _ _ | ((try dsimp only); (repeat' split) <;> first | rfl | exact rowC0_no rfl _ _ | exact getD_no rfl)), ?_⟩), trivial⟩ rfl (fun _ e => by cases e; exact Nat.le_of_ble_eq_true rfl) ?_
    · refine ARun.prod (K := 3) rfl (v_l13Own h (hd_ok hg0)) (by repeat first | exact Fr.ext2 ⟨rfl, (by repeat first | exact trivial | refine ⟨by decide, by first | rfl | exact trivial | (intro a_ b_; first | exact getD_no rfl | exact rowC0_no rfl _ _ | ((try dsimp only); (repeat' split) <;> first | rfl | exact rowC0_no rfl _ _ | exact getD_no rfl)), ?_⟩)⟩ hE hX rfl rfl | refine Fr.consE rfl ?_ | refine Fr.consH (by decide) (by first | rfl | exact trivial | (intro a_ b_; first | exact getD_no rfl | exact rowC0_no rfl _ _ | ((try dsimp only); (repeat' split) <;> first | rfl | exact rowC0_no rfl _ _ | exact getD_no rfl))) ?_ | refine Fr.filt ?_) ⟨⟨_, (.tmp rfl), ⟨.lst, .int, trivial⟩⟩, trivial⟩ vts_ca_57 rfl rfl rfl rfl rfl (Nat.le_of_ble_eq_true rfl) ?_
      refine ARun.openAgg 25 0 3 0 2 2 1 h.rows.length 4 5 [.tre 3 0, .int .i64 h.offset] [.own 4 2 h.rows.length, .int .i64 h.offset] (fun p => ([.lst 2 h.rows.length (fun i0 j0 => ([.str ((h.rows.getD i0 (default : GRow)).name), .lst 2 (((h.rows.getD i0 (default : GRow)).samples).length) (fun i1 j1 => ([.int .i64 ((((h.rows.getD i0 (default : GRow)).samples).getD i1 (default : GSample)).at_), .int .i64 ((((h.rows.getD i0 (default : GRow)).samples).getD i1 (default : GSample)).value)] : List AV).getD j1 (.con undef))] : List AV).getD j0 (.con undef)), .int .i64 h.offset] : List AV).getD p (.con undef)) (fun i0 j0 => ([.str ((h.rows.getD i0 (default : GRow)).name), .lst 2 (((h.rows.getD i0 (default : GRow)).samples).length) (fun i1 j1 => ([.int .i64 ((((h.rows.getD i0 (default : GRow)).samples).getD i1 (default : GSample)).at_), .int .i64 ((((h.rows.getD i0 (default : GRow)).samples).getD i1 (default : GSample)).value)] : List AV).getD j1 (.con undef))] : List AV).getD j0 (.con undef)) (rowC0 h 5) rfl rfl rfl rfl (by decide) rfl (by decide) (fun _ _ => ⟨_, _, _, rfl⟩) (fun i j _ hj hne => match j, hj, hne with | 0, _, _ => rfl | 1, _, h => absurd rfl h | _ + 2, h, _ => absurd h (by omega)) (by repeat first | exact Fr.ext2 ⟨rfl, (by repeat first | exact trivial | refine ⟨by decide, by first | rfl | exact trivial | (intro a_ b_; first | exact getD_no rfl | exact rowC0_no rfl _ _ | ((try dsimp only); (repeat' split) <;> first | rfl | exact rowC0_no rfl _ _ | exact getD_no rfl)), ?_⟩)⟩ hE hX rfl rfl | refine Fr.consE rfl ?_ | refine Fr.consH (by decide) (by first | rfl | exact trivial | (intro a_ b_; first | exact getD_no rfl | exact rowC0_no rfl _ _ | ((try dsimp only); (repeat' split) <;> first | rfl | exact rowC0_no rfl _ _ | exact getD_no rfl))) ?_ | refine Fr.filt ?_) (by repeat first | exact Fr.ext2 ⟨rfl, (by repeat first | exact trivial | refine ⟨by decide, by first | rfl | exact trivial | (intro a_ b_; first | exact getD_no rfl | exact rowC0_no rfl _ _ | ((try dsimp only); (repeat' split) <;> first | rfl | exact rowC0_no rfl _ _ | exact getD_no rfl)), ?_⟩)⟩ hE hX rfl rfl | refine Fr.consE rfl ?_ | refine Fr.consH (by decide) (by first | rfl | exact trivial | (intro a_ b_; first | exact getD_no rfl | exact rowC0_no rfl _ _ | ((try dsimp only); (repeat' split) <;> first | rfl | exact rowC0_no rfl _ _ | exact getD_no rfl))) ?_ | refine Fr.filt ?_) (by decide) (fun i j _ hj => match j, hj with | 0, _ => rfl | 1, _ => rfl | _ + 2, h => absurd h (by omega)) ?_
      refine ARun.hleX ?_ ?_ hk
      · exact HeapLe.one rfl (HeapLe.one rfl trivial)
      · repeat (first | exact LkX.refl | refine LkX.cons (hX.none rfl) ?_ | refine LkX.filter (hX.none rfl) ?_)
    refine ADX.pure [(1, .cells [.str x.name, .int .i64 x.at_, .int .i64 x.value])] (PureOp.loadPtrAgg rfl (.tmp rfl) vts_ag_47_3 rfl rfl (Nat.le_of_ble_eq_true rfl) (Nat.le_of_ble_eq_true rfl)) rfl rfl (Nat.le_of_ble_eq_true rfl) ⟨rfl, trivial⟩ rfl ?_
    refine ADX.eff (tk := [4, 5, 6, 7]) (new := [6, 7]) (s := .tup2 (.agg [.own 6 2 ((takeH h x).rows.length), .int .i64 ((takeH h x).offset)]) (.one (.int .i64 ((takeCode h x : Nat) : Int)))) (F := [(27, .tup2 (.agg [.own 6 2 ((takeH h x).rows.length), .int .i64 ((takeH h x).offset)]) (.one (.int .i64 ((takeCode h x : Nat) : Int))))]) (Hin := [(4, .arr 2 h.rows.length (rowC0 h 5)), (5, .trees h.rows.length (rowX0 h))]) (Hout := [(6, .arr 2 ((takeH h x).rows.length) (rowC0 (takeH h x) 7)), (7, .trees ((takeH h x).rows.length) (rowX0 (takeH h x)))]) (fun E X hE hX Q rest hk => ?_) ⟨rfl, rfl, trivial⟩ ⟨rfl, rfl⟩ rfl rfl rfl rfl ⟨(by repeat first | exact trivial | refine ⟨by decide, by first | rfl | exact trivial | (intro a_ b_; first | exact getD_no rfl | exact rowC0_no rfl _ _ | ((try dsimp only); (repeat' split) <;> first | rfl | exact rowC0_no rfl _ _ | exact getD_no rfl)), ?_⟩), (by repeat first | exact trivial | refine ⟨by decide, by first | rfl | exact trivial | (intro a_ b_; first | exact getD_no rfl | exact rowC0_no rfl _ _ | ((try dsimp only); (repeat' split) <;> first | rfl | exact rowC0_no rfl _ _ | exact getD_no rfl)), ?_⟩), trivial⟩ rfl (fun _ e => by cases e; exact Nat.le_of_ble_eq_true rfl) ?_
    · refine ARun.mutxX hX (Hr := []) (Hn := [(6, .arr 2 ((takeH h x).rows.length) (rowC0 (takeH h x) 7)), (7, .trees ((takeH h x).rows.length) (rowX0 (takeH h x)))]) (g := fun zz => if zz = 1000001 then 4 else if zz = 1000002 then 5 else zz) (g' := fun zz => if zz = 1000001 then 4 else if zz = 1000002 then 5 else if zz = 77 then 6 else if zz = 78 then 7 else zz) (K := [77, 78]) (T := [(6, 77), (7, 78)]) rfl (v_l13Take h x hg0 ⟨by omega, by omega⟩) vts_ca_56 ⟨.inr (.tmp rfl), ⟨.inl ⟨_, (.tmp rfl), ⟨.str, .int, .int, trivial⟩⟩, trivial⟩⟩ rfl rfl rfl ⟨⟨_, rfl, ⟨rfl, rfl, fun a b _ _ => rowC0_ren (h := h) (K := 1000002) (K' := 5) rfl a b⟩⟩, ⟨_, rfl, ⟨rfl, fun _ _ => rfl⟩⟩, trivial⟩ trivial rfl ⟨(Fr.ext2 ⟨rfl, (by repeat first | exact trivial | refine ⟨by decide, by first | rfl | exact trivial | (intro a_ b_; first | exact getD_no rfl | exact rowC0_no rfl _ _ | ((try dsimp only); (repeat' split) <;> first | rfl | exact rowC0_no rfl _ _ | exact getD_no rfl)), ?_⟩)⟩ hE hX rfl rfl), (Fr.ext2 ⟨rfl, (by repeat first | exact trivial | refine ⟨by decide, by first | rfl | exact trivial | (intro a_ b_; first | exact getD_no rfl | exact rowC0_no rfl _ _ | ((try dsimp only); (repeat' split) <;> first | rfl | exact rowC0_no rfl _ _ | exact getD_no rfl)), ?_⟩)⟩ hE hX rfl rfl), trivial⟩ (by kernel_rfl) (by kernel_rfl) (by kernel_rfl) ⟨.inr ⟨77, _, rfl, rfl, rfl, ⟨rfl, rfl, fun a b _ _ => rowC0_ren (h := (takeH h x)) (K := 78) (K' := 7) rfl a b⟩, (fun a b _ _ => rowC0_hx rfl a b)⟩, .inr ⟨78, _, rfl, rfl, rfl, ⟨rfl, fun _ _ => rfl⟩, trivial⟩, trivial⟩ rfl rfl (Nat.le_of_ble_eq_true rfl) (r' := .tup2 (.agg [.own 6 2 ((takeH h x).rows.length), .int .i64 ((takeH h x).offset)]) (.one (.int .i64 ((takeCode h x : Nat) : Int)))) rfl ?_
      refine ARun.hleX ?_ ?_ hk
      · exact HeapLe.one rfl (HeapLe.one rfl trivial)
      · repeat (first | exact LkX.refl | refine LkX.cons (hX.none rfl) ?_ | refine LkX.filter (hX.none rfl) ?_)
    refine ADX.pure [] (PureOp.move rfl (.tmp rfl)) rfl rfl (Nat.le_of_ble_eq_true rfl) trivial rfl ?_
    refine ADX.pure [] (PureOp.ext2a rfl (.tmp rfl)) rfl rfl (Nat.le_of_ble_eq_true rfl) trivial rfl ?_
    refine ADX.pure [] (PureOp.ext2b rfl (.tmp rfl)) rfl rfl (Nat.le_of_ble_eq_true rfl) trivial rfl ?_
    refine ADX.eff (tk := [8]) (new := [8]) (s := .one (.ptr 8 2 0 0)) (F := [(7, .one (.ptr 8 2 0 0))]) (Hin := []) (Hout := [(8, .cells [.con (.slice none 0 0), .int .i64 0])]) (fun E X hE hX Q rest hk => ?_) trivial ⟨rfl, rfl⟩ rfl rfl rfl rfl ⟨(by repeat first | exact trivial | refine ⟨by decide, by first | rfl | exact trivial | (intro a_ b_; first | exact getD_no rfl | exact rowC0_no rfl _ _ | ((try dsimp only); (repeat' split) <;> first | rfl | exact rowC0_no rfl _ _ | exact getD_no rfl)), ?_⟩), trivial⟩ rfl (fun _ e => by cases e; exact Nat.le_of_ble_eq_true rfl) ?_
    · refine ARun.alloc (id := 8) (l := [.con (.slice none 0 0), .int .i64 0]) (z := (.agg #[.slice none 0 0, .int .i64 0])) rfl (by kernel_rfl) (fun _ _ _ => ⟨_, _, rfl, rfl, ⟨_, _, rfl, rfl, rfl⟩⟩) (Fr.ext2 ⟨rfl, (by repeat first | exact trivial | refine ⟨by decide, by first | rfl | exact trivial | (intro a_ b_; first | exact getD_no rfl | exact rowC0_no rfl _ _ | ((try dsimp only); (repeat' split) <;> first | rfl | exact rowC0_no rfl _ _ | exact getD_no rfl)), ?_⟩)⟩ hE hX rfl rfl) rfl rfl rfl (Nat.le_of_ble_eq_true rfl) ?_
      refine ARun.hleX ?_ ?_ hk
      · exact HeapLe.one rfl trivial
      · repeat (first | exact LkX.refl | refine LkX.cons (hX.none rfl) ?_ | refine LkX.filter (hX.none rfl) ?_)
    refine ADX.eff (tk := [8]) (new := []) (s := .one (.con undef)) (F := []) (Hin := [(8, .cells [.con (.slice none 0 0), .int .i64 0])]) (Hout := [(8, .cells [.own 6 2 ((takeH h x).rows.length), .int .i64 ((takeH h x).offset)])]) (fun E X hE hX Q rest hk => ?_) ⟨rfl, trivial⟩ ⟨rfl, rfl⟩ rfl rfl rfl rfl trivial rfl (fun _ e => by cases e) ?_
    · refine ARun.store rfl (.tmp rfl) (.tmp rfl) (SV.cells_of (by exact ⟨trivial, trivial, trivial⟩)) rfl (Nat.le_of_ble_eq_true rfl) vts_sz_29_2 rfl rfl ?_
      refine ARun.hleX ?_ ?_ hk
      · exact HeapLe.one rfl trivial
      · repeat (first | exact LkX.refl | refine LkX.cons (hX.none rfl) ?_ | refine LkX.filter (hX.none rfl) ?_)
    refine ADX.pure [] (PureOp.assign rfl (.tmp rfl)) rfl rfl (Nat.le_of_ble_eq_true rfl) trivial rfl ?_
    refine ADX.nil (H := [(0, .cells [.lst 2 h.rows.length (fun i0 j0 => ([.str ((h.rows.getD i0 (default : GRow)).name), .lst 2 (((h.rows.getD i0 (default : GRow)).samples).length) (fun i1 j1 => ([.int .i64 ((((h.rows.getD i0 (default : GRow)).samples).getD i1 (default : GSample)).at_), .int .i64 ((((h.rows.getD i0 (default : GRow)).samples).getD i1 (default : GSample)).value)] : List AV).getD j1 (.con undef))] : List AV).getD j0 (.con undef)), .int .i64 h.offset]), (1, .cells [.str x.name, .int .i64 x.at_, .int .i64 x.value]), (2, .cells [.con (.slice none 0 0), .int .i64 0]), (6, .arr 2 ((takeH h x).rows.length) (rowC0 (takeH h x) 7)), (7, .trees ((takeH h x).rows.length) (rowX0 (takeH h x))), (8, .cells [.own 6 2 ((takeH h x).rows.length), .int .i64 ((takeH h x).offset)])]) ?_ ?_
    · exact HeapLe.one rfl (HeapLe.one rfl (HeapLe.one rfl (HeapLe.one rfl (HeapLe.one rfl (HeapLe.one rfl trivial)))))
    refine AW.seq ?_
    refine AW.region ?_
    refine ARun.pure (PureOp.loadPtrAgg rfl (.tmp rfl) vts_ag_29_2 rfl rfl (Nat.le_of_ble_eq_true rfl) (Nat.le_of_ble_eq_true rfl)) rfl rfl (Nat.le_of_ble_eq_true rfl) ?_
    refine ARun.prod (K := 9) rfl (v_l13Own (takeH h x) (hd_ok hg1)) ⟨rfl, (by repeat first | exact trivial | refine ⟨by decide, by first | rfl | exact trivial | (intro a_ b_; first | exact getD_no rfl | exact rowC0_no rfl _ _ | ((try dsimp only); (repeat' split) <;> first | rfl | exact rowC0_no rfl _ _ | exact getD_no rfl)), ?_⟩)⟩ ⟨⟨_, (.tmp rfl), ⟨(.own rfl rfl (Nat.le_refl _) (fun i j hi hj => (match j, hj with | 0, _ => .str | 1, _ => (Vw.cast (Vw.tre rfl hi) rfl) | _ + 2, h => absurd h (by omega)))), .int, trivial⟩⟩, trivial⟩ vts_ca_57 rfl rfl rfl rfl rfl (Nat.le_of_ble_eq_true rfl) ?_
    refine ARun.pure (PureOp.move rfl (.tmp rfl)) rfl rfl (Nat.le_of_ble_eq_true rfl) ?_
    refine ARun.store rfl (.tmp rfl) (.tmp rfl) (SV.cells_of (by exact ⟨trivial, trivial, trivial⟩)) rfl (Nat.le_of_ble_eq_true rfl) vts_sz_29_2 rfl rfl ?_
    refine ARun.pure (PureOp.assign rfl (.tmp rfl)) rfl rfl (Nat.le_of_ble_eq_true rfl) ?_
    refine ARun.pure (PureOp.assign rfl .bool) rfl rfl (Nat.le_of_ble_eq_true rfl) ?_
    refine ARun.nil ?_
    rw [show takeV h x = (takeH h x, takeCode h x, true) from if_pos hcnd]
    exact AW.ret (show ∃ s t, ResL _ _ [.cell 4 29, .tmp 5, .tmp 6] s ∧ TvS _ (ofLeaf t) 0 s _ from ⟨_, fun a b => if a = 9 then 0 else 1000, .inr (.inr (.inl ⟨_, _, _, _, _, _, rfl, .cells rfl vts_ag_29_2 rfl rfl (Nat.le_of_ble_eq_true rfl) (Nat.le_of_ble_eq_true rfl), .tmp rfl, .tmp rfl, rfl⟩)), ⟨⟨(Tv.cast (Tv.tre rfl (Nat.le_of_ble_eq_true rfl) (by rfl)) rfl), .int, trivial⟩, .int, .bool⟩⟩)
end Go.Proofs.Ytmfkmifkkplidaa


/-
  FoldSays: the reference and the program make the same.
-/
namespace Go.Proofs.Ytmfkmifkkplidaa
open Go.ChangeShapes Go.WideShapes Go.ChangeAt Go.RowKit Go.BigFrame Go.Deep
set_option linter.unusedVariables false
set_option linter.unusedSimpArgs false
theorem vfs_ag_29_2 : aggB Try.prog 29 2 = true := by kernel_rfl
theorem vfs_ag_47_3 : aggB Try.prog 47 3 = true := by kernel_rfl
theorem vfs_ca_10 : callB Try.prog 10 = true := by kernel_rfl
theorem vfs_ca_46 : callB Try.prog 46 = true := by kernel_rfl
theorem vfs_ca_55 : callB Try.prog 55 = true := by kernel_rfl
theorem vfs_ca_56 : callB Try.prog 56 = true := by kernel_rfl
theorem vfs_ca_57 : callB Try.prog 57 = true := by kernel_rfl
theorem vfs_ca_58 : callB Try.prog 58 = true := by kernel_rfl
theorem vfs_ca_59 : callB Try.prog 59 = true := by kernel_rfl
theorem vfs_ca_60 : callB Try.prog 60 = true := by kernel_rfl
theorem vfs_ca_61 : callB Try.prog 61 = true := by kernel_rfl
theorem vfs_el_55_3 : elemB Try.prog 55 3 = true := by kernel_rfl
theorem vfs_fi_29_1_1 : fieldB Try.prog 29 1 1 = true := by kernel_rfl
theorem vfs_pl_3 : plainB Try.prog 3 = true := by kernel_rfl
theorem vfs_sl_52 : sliceB Try.prog 52 = true := by kernel_rfl
theorem vfs_sl_55 : sliceB Try.prog 55 = true := by kernel_rfl
theorem vfs_sz_29_2 : sizeB Try.prog 29 2 = true := by kernel_rfl
theorem vfs_sz_47_3 : sizeB Try.prog 47 3 = true := by kernel_rfl
/-- The head after k measurements of l. -/
def foldH (h : GHead) (l : List GSay) : Nat → GHead
  | 0 => h
  | k + 1 => takeH (foldH h l k) (l.getD k (default : GSay))
def codeAt (h : GHead) (l : List GSay) (k : Nat) : Nat := takeCode (foldH h l k) (l.getD k (default : GSay))
def codesL (h : GHead) (l : List GSay) (n : Nat) : List Int := (List.range n).map fun k => ((codeAt h l k : Nat) : Int)
def allSay (l : List GSay) : Bool := (List.range l.length).all fun k => sayB (l.getD k (default : GSay))
structure FoldOk (h : GHead) (l : List GSay) : Prop where
  good : goodHead h = true
  len : l.length ≤ 60
  off : h.offset + (l.length : Int) ≤ 1000
  says : ∀ k, k < l.length → sayB (l.getD k (default : GSay)) = true
open Classical in
noncomputable def foldV (h : GHead) (l : List GSay) : GHead × List Int × Bool := if FoldOk h l then (foldH h l l.length, codesL h l l.length, true) else (⟨[], 0⟩, [], false)
theorem foldV_no {h : GHead} {l : List GSay} (hn : ¬ FoldOk h l) : foldV h l = (⟨[], 0⟩, [], false) := if_neg hn
theorem foldV_yes {h : GHead} {l : List GSay} (hn : FoldOk h l) : foldV h l = (foldH h l l.length, codesL h l l.length, true) := if_pos hn
theorem codes_len (h : GHead) (l : List GSay) (n : Nat) : (codesL h l n).length = n := by simp [codesL]
theorem codes_at (h : GHead) (l : List GSay) {n k : Nat} (hk : k < n) : (codesL h l n).getD k 0 = ((codeAt h l k : Nat) : Int) := by
  rw [List.getD_eq_getElem?_getD]; simp [codesL, hk]
theorem fold_off (h : GHead) (l : List GSay) : ∀ k, (foldH h l k).offset = h.offset + (k : Int)
  | 0 => by show h.offset = h.offset + ((0 : Nat) : Int); omega
  | k + 1 => by
    show (foldH h l k).offset + 1 = _
    rw [fold_off h l k]; omega
theorem fold_good {h : GHead} {l : List GSay} (hg : goodHead ⟨h.rows, 0⟩ = true) : ∀ k, (∀ j, j < k → sayB (l.getD j (default : GSay)) = true) → goodHead ⟨(foldH h l k).rows, 0⟩ = true
  | 0, _ => hg
  | k + 1, hs => good_take (fold_good hg k fun j hj => hs j (by omega)) (hs k (by omega))
theorem no_fold {h : GHead} {l : List GSay} {a b : Bool} (e : cond (cond (!goodHead h) true (decide ((60 : Int) < (l.length : Int)))) true b = true) (hb : b = true → 1000 < h.offset + (l.length : Int)) : ¬ FoldOk h l := fun F => by
  rw [F.good, decide_eq_false (by have := F.len; omega)] at e
  have := hb e
  have := F.off
  omega
theorem fold_yes {h : GHead} {l : List GSay} {b : Bool} (e : cond (cond (!goodHead h) true (decide ((60 : Int) < (l.length : Int)))) true b = false) : goodHead h = true ∧ l.length ≤ 60 ∧ b = false := by
  by_cases hc : (60 : Int) < (l.length : Int)
  · rw [decide_eq_true hc] at e; revert e; cases goodHead h <;> simp
  · rw [decide_eq_false hc] at e
    have h1 : l.length ≤ 60 := by omega
    revert e; cases goodHead h <;> simp [h1]
theorem fold_yes1 {h : GHead} {l : List GSay} (e : cond (!goodHead h) true (decide ((60 : Int) < (l.length : Int))) = false) : goodHead h = true ∧ l.length ≤ 60 := by
  have := fold_yes (b := false) (h := h) (l := l) (by rw [e]; rfl)
  exact ⟨this.1, this.2.1⟩
theorem fold_stop {h : GHead} {l : List GSay} {k : Nat} (hk : k < l.length) (e : cond (!sayB (l.getD k (default : GSay))) true (decide ((foldH h l k).offset = 1000)) = true) : ¬ FoldOk h l := fun F => by
  rw [F.says k hk] at e
  have hq : (foldH h l k).offset = 1000 := of_decide_eq_true e
  have := F.off
  rw [fold_off] at hq
  omega
theorem fold_on {h : GHead} {l : List GSay} {k : Nat} (e : cond (!sayB (l.getD k (default : GSay))) true (decide ((foldH h l k).offset = 1000)) = false) : sayB (l.getD k (default : GSay)) = true ∧ ¬ h.offset + (k : Int) = 1000 := by
  rw [← fold_off h l k]
  by_cases hc : (foldH h l k).offset = 1000
  · rw [decide_eq_true hc] at e; revert e; cases sayB (l.getD k (default : GSay)) <;> simp
  · rw [decide_eq_false hc] at e
    revert e; cases sayB (l.getD k (default : GSay)) <;> simp [hc]

theorem v_sFold (h : GHead) (l : List GSay) : FnT Try.prog 28 [.agg [.lst 2 h.rows.length (fun i0 j0 => ([.str ((h.rows.getD i0 (default : GRow)).name), .lst 2 (((h.rows.getD i0 (default : GRow)).samples).length) (fun i1 j1 => ([.int .i64 ((((h.rows.getD i0 (default : GRow)).samples).getD i1 (default : GSample)).at_), .int .i64 ((((h.rows.getD i0 (default : GRow)).samples).getD i1 (default : GSample)).value)] : List AV).getD j1 (.con undef))] : List AV).getD j0 (.con undef)), .int .i64 h.offset], .one (.lst 3 l.length (fun i0 j0 => ([.str ((l.getD i0 (default : GSay)).name), .int .i64 ((l.getD i0 (default : GSay)).at_), .int .i64 ((l.getD i0 (default : GSay)).value)] : List AV).getD j0 (.con undef)))] (.tup3 (.agg [.lst 2 ((((foldV h l).1).rows).length) (fun i0 j0 => ([.str (((((foldV h l).1).rows).getD i0 (default : GRow)).name), .lst 2 ((((((foldV h l).1).rows).getD i0 (default : GRow)).samples).length) (fun i1 j1 => ([.int .i64 (((((((foldV h l).1).rows).getD i0 (default : GRow)).samples).getD i1 (default : GSample)).at_), .int .i64 (((((((foldV h l).1).rows).getD i0 (default : GRow)).samples).getD i1 (default : GSample)).value)] : List AV).getD j1 (.con undef))] : List AV).getD j0 (.con undef)), .int .i64 (((foldV h l).1).offset)]) (.one (.lst 1 (((foldV h l).2.1).length) (fun i0 _ => .int .i64 (((foldV h l).2.1).getD i0 0)))) (.one (.bool ((foldV h l).2.2)))) := by
  refine FnT.of_body (fn := Try.f28) Try.func28 rfl (Nat.le_of_ble_eq_true rfl)  ?_
  intro w0
  show AW _ 57 _ _ _ _
  refine AW.seq ?_
  refine AW.region ?_
  refine ARun.box (id := 0) rfl (.tmp rfl) (SV.cells_of (by exact ⟨trivial, trivial, trivial⟩)) ⟨rfl, (by repeat first | exact trivial | refine ⟨by decide, by first | rfl | exact trivial | (intro a_ b_; first | exact getD_no rfl | exact rowC0_no rfl _ _ | ((try dsimp only); (repeat' split) <;> first | rfl | exact rowC0_no rfl _ _ | exact getD_no rfl)), ?_⟩)⟩ rfl rfl rfl (Nat.le_of_ble_eq_true rfl) ?_
  refine ARun.alloc (id := 1) (l := [.con (.slice none 0 0), .int .i64 0]) (z := (.agg #[.slice none 0 0, .int .i64 0])) rfl (by kernel_rfl) (fun _ _ _ => ⟨_, _, rfl, rfl, ⟨_, _, rfl, rfl, rfl⟩⟩) ⟨rfl, (by repeat first | exact trivial | refine ⟨by decide, by first | rfl | exact trivial | (intro a_ b_; first | exact getD_no rfl | exact rowC0_no rfl _ _ | ((try dsimp only); (repeat' split) <;> first | rfl | exact rowC0_no rfl _ _ | exact getD_no rfl)), ?_⟩)⟩ rfl rfl rfl (Nat.le_of_ble_eq_true rfl) ?_
  refine ARun.pure (PureOp.assign rfl .con) rfl rfl (Nat.le_of_ble_eq_true rfl) ?_
  refine ARun.pure (PureOp.assign rfl .bool) rfl rfl (Nat.le_of_ble_eq_true rfl) ?_
  refine ARun.nil ?_
  refine AW.seq ?_
  refine AW.seq ?_
  refine AW.region ?_
  refine ARun.pure (PureOp.loadPtrAgg rfl (.tmp rfl) vfs_ag_29_2 rfl rfl (Nat.le_of_ble_eq_true rfl) (Nat.le_of_ble_eq_true rfl)) rfl rfl (Nat.le_of_ble_eq_true rfl) ?_
  refine ARun.pure (PureOp.call rfl (v_specGoodHead h) ⟨⟨_, (.tmp rfl), ⟨.lst, .int, trivial⟩⟩, trivial⟩ vfs_ca_10 trivial) rfl rfl (Nat.le_of_ble_eq_true rfl) ?_
  refine ARun.pure (PureOp.not rfl (.tmp rfl)) rfl rfl (Nat.le_of_ble_eq_true rfl) ?_
  refine ARun.pure (PureOp.move rfl (.tmp rfl)) rfl rfl (Nat.le_of_ble_eq_true rfl) ?_
  refine ARun.gpure (want := false) (.tf rfl) (fun hg1 => PureOp.move rfl (.tmp rfl)) rfl rfl (Nat.le_of_ble_eq_true rfl) rfl (Nat.le_of_ble_eq_true rfl) ?_
  refine ARun.gpure (want := false) (.tf rfl) (fun hg2 => PureOp.lenLst rfl (.gtmp rfl hg2) vfs_sl_55) rfl rfl (Nat.le_of_ble_eq_true rfl) rfl (Nat.le_of_ble_eq_true rfl) ?_
  refine ARun.gpure (want := false) (.tf rfl) (fun hg3 => PureOp.intOp rfl (.gtmp rfl hg3) .int rfl) rfl rfl (Nat.le_of_ble_eq_true rfl) rfl (Nat.le_of_ble_eq_true rfl) ?_
  refine ARun.pure (PureOp.pick rfl (.tmp rfl) (fun _ => .bool) (fun hp5 => .gtmp rfl (not_of hp5))) rfl rfl (Nat.le_of_ble_eq_true rfl) ?_
  refine ARun.pure (PureOp.move rfl (.tmp rfl)) rfl rfl (Nat.le_of_ble_eq_true rfl) ?_
  refine ARun.gpure (want := false) (.tf rfl) (fun hg6 => PureOp.move rfl (.tmp rfl)) rfl rfl (Nat.le_of_ble_eq_true rfl) rfl (Nat.le_of_ble_eq_true rfl) ?_
  refine ARun.gpure (want := false) (.tf rfl) (fun hg7 => PureOp.lenLst rfl (.gtmp rfl hg7) vfs_sl_55) rfl rfl (Nat.le_of_ble_eq_true rfl) rfl (Nat.le_of_ble_eq_true rfl) ?_
  refine ARun.gpure (want := false) (.tf rfl) (fun hg8 => PureOp.fieldPtr rfl (.tmp rfl) vfs_fi_29_1_1) rfl rfl (Nat.le_of_ble_eq_true rfl) rfl (Nat.le_of_ble_eq_true rfl) ?_
  refine ARun.gpure (want := false) (.tf rfl) (fun hg9 => PureOp.loadPtr rfl (.gtmp rfl hg9) vfs_pl_3 rfl rfl (Nat.le_of_ble_eq_true rfl) (Nat.le_of_ble_eq_true rfl)) rfl rfl (Nat.le_of_ble_eq_true rfl) rfl (Nat.le_of_ble_eq_true rfl) ?_
  refine ARun.gpure (want := false) (.tf rfl) (fun hg10 => PureOp.sub (c := 1000 - h.offset) rfl .int (.gtmp rfl hg10) (wrap_id (by have hgq := good_off (h := h) (by have q := hg10; revert q; cases goodHead h <;> simp); omega) (by have hgq := good_off (h := h) (by have q := hg10; revert q; cases goodHead h <;> simp); omega))) rfl rfl (Nat.le_of_ble_eq_true rfl) rfl (Nat.le_of_ble_eq_true rfl) ?_
  refine ARun.gpure (want := false) (.tf rfl) (fun hg11 => PureOp.intOp rfl (.gtmp rfl hg11) (.gtmp rfl hg11) rfl) rfl rfl (Nat.le_of_ble_eq_true rfl) rfl (Nat.le_of_ble_eq_true rfl) ?_
  refine ARun.pure (PureOp.pick rfl (.tmp rfl) (fun _ => .bool) (fun hp13 => .gtmp rfl (not_of hp13))) rfl rfl (Nat.le_of_ble_eq_true rfl) ?_
  refine ARun.nil ?_
  refine AW.cond (.tmp rfl) (fun hb14 => ?_) (fun hb14 => ?_)
  · have _u := True.intro
    have hno : ¬ FoldOk h l := no_fold (a := true) hb14 (fun e => by have := of_decide_eq_true e; omega)
    refine AW.seq ?_
    refine AW.region ?_
    refine ARun.pure (PureOp.build (ys := []) (l := [.con (.slice none 0 0), .int .i64 0]) (pl := [(0, 1), (1, 1)]) (z := (.agg #[.slice none 0 0, .int .i64 0])) rfl (by kernel_rfl) (by kernel_rfl) (fun _ _ _ => ⟨_, _, rfl, rfl, ⟨_, _, rfl, rfl, rfl⟩⟩) trivial rfl) rfl rfl (Nat.le_of_ble_eq_true rfl) ?_
    refine ARun.store rfl (.tmp rfl) (.tmp rfl) (SV.cells_of (by exact ⟨⟨rfl, (fun _ e => by cases e), (fun _ e => by cases e)⟩, trivial, trivial⟩)) rfl (Nat.le_of_ble_eq_true rfl) vfs_sz_29_2 rfl rfl ?_
    refine ARun.pure (PureOp.assign rfl .con) rfl rfl (Nat.le_of_ble_eq_true rfl) ?_
    refine ARun.pure (PureOp.assign rfl .bool) rfl rfl (Nat.le_of_ble_eq_true rfl) ?_
    refine ARun.nil ?_
    rw [foldV_no hno]
    exact AW.ret (show ∃ s t, ResL _ _ [.cell 4 29, .tmp 5, .tmp 6] s ∧ TvS _ (ofLeaf t) 0 s _ from ⟨_, fun a b => 1000, .inr (.inr (.inl ⟨_, _, _, _, _, _, rfl, .cells rfl vfs_ag_29_2 rfl rfl (Nat.le_of_ble_eq_true rfl) (Nat.le_of_ble_eq_true rfl), .tmp rfl, .tmp rfl, rfl⟩)), ⟨⟨.nil, .int, trivial⟩, .nil, .bool⟩⟩)
  · have _u := True.intro
    obtain ⟨hgd, hln, hbb⟩ := fold_yes hb14
    have hof := good_off hgd
    have hg0 := good0 hgd
    have hol : h.offset + (l.length : Int) ≤ 1000 := by have := of_decide_eq_false hbb; omega
    refine AW.skip ?_
    refine AW.seq ?_
    refine AW.region ?_
    refine ARun.pure (PureOp.loadPtrAgg rfl (.tmp rfl) vfs_ag_29_2 rfl rfl (Nat.le_of_ble_eq_true rfl) (Nat.le_of_ble_eq_true rfl)) rfl rfl (Nat.le_of_ble_eq_true rfl) ?_
    refine ARun.prod (K := 2) rfl (v_l13Own h (hd_ok hg0)) ⟨rfl, (by repeat first | exact trivial | refine ⟨by decide, by first | rfl | exact trivial | (intro a_ b_; first | exact getD_no rfl | exact rowC0_no rfl _ _ | ((try dsimp only); (repeat' split) <;> first | rfl | exact rowC0_no rfl _ _ | exact getD_no rfl)), ?_⟩)⟩ ⟨⟨_, (.tmp rfl), ⟨.lst, .int, trivial⟩⟩, trivial⟩ vfs_ca_57 rfl rfl rfl rfl rfl (Nat.le_of_ble_eq_true rfl) ?_
    refine ARun.openAgg 31 0 2 0 2 2 1 h.rows.length 3 4 [.tre 2 0, .int .i64 h.offset] [.own 3 2 h.rows.length, .int .i64 h.offset] (fun p => ([.lst 2 h.rows.length (fun i0 j0 => ([.str ((h.rows.getD i0 (default : GRow)).name), .lst 2 (((h.rows.getD i0 (default : GRow)).samples).length) (fun i1 j1 => ([.int .i64 ((((h.rows.getD i0 (default : GRow)).samples).getD i1 (default : GSample)).at_), .int .i64 ((((h.rows.getD i0 (default : GRow)).samples).getD i1 (default : GSample)).value)] : List AV).getD j1 (.con undef))] : List AV).getD j0 (.con undef)), .int .i64 h.offset] : List AV).getD p (.con undef)) (fun i0 j0 => ([.str ((h.rows.getD i0 (default : GRow)).name), .lst 2 (((h.rows.getD i0 (default : GRow)).samples).length) (fun i1 j1 => ([.int .i64 ((((h.rows.getD i0 (default : GRow)).samples).getD i1 (default : GSample)).at_), .int .i64 ((((h.rows.getD i0 (default : GRow)).samples).getD i1 (default : GSample)).value)] : List AV).getD j1 (.con undef))] : List AV).getD j0 (.con undef)) (rowC0 h 4) rfl rfl rfl rfl (by decide) rfl (by decide) (fun _ _ => ⟨_, _, _, rfl⟩) (fun i j _ hj hne => match j, hj, hne with | 0, _, _ => rfl | 1, _, h => absurd rfl h | _ + 2, h, _ => absurd h (by omega)) ⟨rfl, (by repeat first | exact trivial | refine ⟨by decide, by first | rfl | exact trivial | (intro a_ b_; first | exact getD_no rfl | exact rowC0_no rfl _ _ | ((try dsimp only); (repeat' split) <;> first | rfl | exact rowC0_no rfl _ _ | exact getD_no rfl)), ?_⟩)⟩ ⟨rfl, (by repeat first | exact trivial | refine ⟨by decide, by first | rfl | exact trivial | (intro a_ b_; first | exact getD_no rfl | exact rowC0_no rfl _ _ | ((try dsimp only); (repeat' split) <;> first | rfl | exact rowC0_no rfl _ _ | exact getD_no rfl)), ?_⟩)⟩ (by decide) (fun i j _ hj => match j, hj with | 0, _ => rfl | 1, _ => rfl | _ + 2, h => absurd h (by omega)) ?_
    refine ARun.alloc (id := 5) (l := [.con (.slice none 0 0), .int .i64 0]) (z := (.agg #[.slice none 0 0, .int .i64 0])) rfl (by kernel_rfl) (fun _ _ _ => ⟨_, _, rfl, rfl, ⟨_, _, rfl, rfl, rfl⟩⟩) ⟨rfl, (by repeat first | exact trivial | refine ⟨by decide, by first | rfl | exact trivial | (intro a_ b_; first | exact getD_no rfl | exact rowC0_no rfl _ _ | ((try dsimp only); (repeat' split) <;> first | rfl | exact rowC0_no rfl _ _ | exact getD_no rfl)), ?_⟩)⟩ rfl rfl rfl (Nat.le_of_ble_eq_true rfl) ?_
    refine ARun.store rfl (.tmp rfl) (.tmp rfl) (SV.cells_of (by exact ⟨trivial, trivial, trivial⟩)) rfl (Nat.le_of_ble_eq_true rfl) vfs_sz_29_2 rfl rfl ?_
    refine ARun.nil ?_
    refine AW.seq ?_
    refine AW.region ?_
    refine ARun.pure (PureOp.assign rfl .con) rfl rfl (Nat.le_of_ble_eq_true rfl) ?_
    refine ARun.nil ?_
    refine AW.seq ?_
    refine AW.seq ?_
    refine AW.region ?_
    refine ARun.pure (PureOp.move rfl (.tmp rfl)) rfl rfl (Nat.le_of_ble_eq_true rfl) ?_
    refine ARun.pure (PureOp.lenLst rfl (.tmp rfl) vfs_sl_55) rfl rfl (Nat.le_of_ble_eq_true rfl) ?_
    refine ARun.pure (PureOp.move rfl .int) rfl rfl (Nat.le_of_ble_eq_true rfl) ?_
    refine ARun.nil ?_
    refine AW.block ?_
    refine AW.nilSlot 8 6 1 (fun i _ => .int .i64 ((codeAt h l i : Nat) : Int)) rfl ⟨rfl, (by repeat first | exact trivial | refine ⟨by decide, by first | rfl | exact trivial | (intro a_ b_; first | exact getD_no rfl | exact rowC0_no rfl _ _ | ((try dsimp only); (repeat' split) <;> first | rfl | exact rowC0_no rfl _ _ | exact getD_no rfl)), ?_⟩)⟩ ?_
    -- objects are renamed
    refine AW.loopR (ι := Nat) (fun k => ⟨[(4, .one (.ptr 1 2 0 0)), (7, .one (.ptr 5 2 0 0)), (8, .one (.own 6 1 k)), (32, .one (.lst 3 l.length (fun i0 j0 => ([.str ((l.getD i0 (default : GSay)).name), .int .i64 ((l.getD i0 (default : GSay)).at_), .int .i64 ((l.getD i0 (default : GSay)).value)] : List AV).getD j0 (.con undef)))), (33, .one (.int .i64 (l.length : Int))), (34, .one (.int .i64 (k : Int)))], [(1, .cells [.con (.slice none 0 0), .int .i64 0]), (3, .arr 2 ((foldH h l k).rows.length) (rowC0 (foldH h l k) 4)), (4, .trees ((foldH h l k).rows.length) (rowX0 (foldH h l k))), (5, .cells [.own 3 2 ((foldH h l k).rows.length), .int .i64 ((foldH h l k).offset)]), (6, .arr 1 k (fun i _ => .int .i64 ((codeAt h l i : Nat) : Int)))]⟩) (fun k => k ≤ l.length ∧ ∀ j, j < k → sayB (l.getD j (default : GSay)) = true) (fun k => l.length - k) 0 ⟨Nat.zero_le _, fun j hj => absurd hj (by omega)⟩ ⟨⟨⟨_, rfl, rfl⟩, ⟨_, rfl, rfl⟩, ⟨_, rfl, rfl⟩, ⟨_, rfl, rfl⟩, ⟨_, rfl, rfl⟩, ⟨_, rfl, rfl⟩, trivial⟩, ⟨⟨_, rfl, rfl, Nat.le_refl _, fun _ _ _ _ => rfl⟩, ⟨_, rfl, rfl, Nat.le_refl _, fun _ _ _ _ => rfl⟩, ⟨_, rfl, fun _ _ => rfl⟩, ⟨_, rfl, rfl, Nat.le_refl _, fun _ _ _ _ => rfl⟩, ⟨_, rfl, rfl, Nat.le_refl _, fun _ _ _ _ => rfl⟩, trivial⟩⟩ ?_
    intro k hI
    obtain ⟨hk, hsy⟩ := hI
    refine AW.seq ?_
    refine AW.region ?_
    refine ARun.pure (PureOp.intOp rfl (.tmp rfl) (.tmp rfl) rfl) rfl rfl (Nat.le_of_ble_eq_true rfl) ?_
    refine ARun.nil ?_
    refine AW.seq ?_
    refine AW.cond (.tmp rfl) (fun hb15 => ?_) (fun hb15 => ?_)
    · have _u := True.intro
      replace hb15 := of_decide_eq_true hb15
      have hkl : k < l.length := by omega
      have hgk := fold_good hg0 k hsy
      have hfk := fold_off h l k
      refine AW.skip ?_
      refine AW.seq ?_
      refine AW.block ?_
      refine AW.seq ?_
      refine AW.region ?_
      refine ARun.pure (PureOp.indexLst (i := k) rfl (.tmp rfl) vfs_el_55_3 (.tmp rfl) rfl (by exact (show k < l.length from by omega))) rfl rfl (Nat.le_of_ble_eq_true rfl) ?_
      refine ARun.pure (PureOp.loadRefAgg rfl (.tmp rfl) vfs_ag_47_3 (Nat.le_of_ble_eq_true rfl)) rfl rfl (Nat.le_of_ble_eq_true rfl) ?_
      refine ARun.alloc (id := 7) (l := [.str ByteArray.empty, .int .i64 0, .int .i64 0]) (z := (.agg #[.string ByteArray.empty, .int .i64 0, .int .i64 0])) rfl (by kernel_rfl) (fun _ _ _ => ⟨_, _, rfl, ⟨rfl, by decide⟩, ⟨_, _, rfl, rfl, ⟨_, _, rfl, rfl, rfl⟩⟩⟩) ⟨rfl, (by repeat first | exact trivial | refine ⟨by decide, by first | rfl | exact trivial | (intro a_ b_; first | exact getD_no rfl | exact rowC0_no rfl _ _ | ((try dsimp only); (repeat' split) <;> first | rfl | exact rowC0_no rfl _ _ | exact getD_no rfl)), ?_⟩)⟩ rfl rfl rfl (Nat.le_of_ble_eq_true rfl) ?_
      refine ARun.store rfl (.tmp rfl) (.tmp rfl) (SV.cells_of (by exact ⟨trivial, trivial, trivial, trivial⟩)) rfl (Nat.le_of_ble_eq_true rfl) vfs_sz_47_3 rfl rfl ?_
      refine ARun.nil ?_
      refine AW.seq ?_
      refine AW.seq ?_
      refine AW.region ?_
      refine ARun.pure (PureOp.loadPtrAgg rfl (.tmp rfl) vfs_ag_47_3 rfl rfl (Nat.le_of_ble_eq_true rfl) (Nat.le_of_ble_eq_true rfl)) rfl rfl (Nat.le_of_ble_eq_true rfl) ?_
      refine ARun.pure (PureOp.call rfl (v_l13Say (l.getD k (default : GSay))) ⟨⟨_, (.tmp rfl), ⟨.str, .int, .int, trivial⟩⟩, trivial⟩ vfs_ca_55 trivial) rfl rfl (Nat.le_of_ble_eq_true rfl) ?_
      refine ARun.pure (PureOp.not rfl (.tmp rfl)) rfl rfl (Nat.le_of_ble_eq_true rfl) ?_
      refine ARun.nil ?_
      refine AW.cond (.tmp rfl) (fun hb16 => ?_) (fun hb16 => ?_)
      · have _u := True.intro
        have hno : ¬ FoldOk h l := fun F => by rw [F.says k hkl] at hb16; cases hb16
        refine AW.seq ?_
        refine AW.region ?_
        refine ARun.pure (PureOp.build (ys := []) (l := [.con (.slice none 0 0), .int .i64 0]) (pl := [(0, 1), (1, 1)]) (z := (.agg #[.slice none 0 0, .int .i64 0])) rfl (by kernel_rfl) (by kernel_rfl) (fun _ _ _ => ⟨_, _, rfl, rfl, ⟨_, _, rfl, rfl, rfl⟩⟩) trivial rfl) rfl rfl (Nat.le_of_ble_eq_true rfl) ?_
        refine ARun.store rfl (.tmp rfl) (.tmp rfl) (SV.cells_of (by exact ⟨⟨rfl, (fun _ e => by cases e), (fun _ e => by cases e)⟩, trivial, trivial⟩)) rfl (Nat.le_of_ble_eq_true rfl) vfs_sz_29_2 rfl rfl ?_
        refine ARun.pure (PureOp.assign rfl .con) rfl rfl (Nat.le_of_ble_eq_true rfl) ?_
        refine ARun.pure (PureOp.assign rfl .bool) rfl rfl (Nat.le_of_ble_eq_true rfl) ?_
        refine ARun.nil ?_
        rw [foldV_no hno]
        exact AW.ret (show ∃ s t, ResL _ _ [.cell 4 29, .tmp 5, .tmp 6] s ∧ TvS _ (ofLeaf t) 0 s _ from ⟨_, fun a b => 1000, .inr (.inr (.inl ⟨_, _, _, _, _, _, rfl, .cells rfl vfs_ag_29_2 rfl rfl (Nat.le_of_ble_eq_true rfl) (Nat.le_of_ble_eq_true rfl), .tmp rfl, .tmp rfl, rfl⟩)), ⟨⟨.nil, .int, trivial⟩, .nil, .bool⟩⟩)
      · have _u := True.intro
        have hsk : sayB (l.getD k (default : GSay)) = true := not_f hb16
        refine AW.skip ?_
        refine AW.seq ?_
        refine AW.region ?_
        refine ARun.pure (PureOp.loadPtrAgg rfl (.tmp rfl) vfs_ag_29_2 rfl rfl (Nat.le_of_ble_eq_true rfl) (Nat.le_of_ble_eq_true rfl)) rfl rfl (Nat.le_of_ble_eq_true rfl) ?_
        refine ARun.pure (PureOp.loadPtrAgg rfl (.tmp rfl) vfs_ag_47_3 rfl rfl (Nat.le_of_ble_eq_true rfl) (Nat.le_of_ble_eq_true rfl)) rfl rfl (Nat.le_of_ble_eq_true rfl) ?_
        refine ARun.mutx (Hr := [(1, .cells [.con (.slice none 0 0), .int .i64 0]), (5, .cells [.own 3 2 ((foldH h l k).rows.length), .int .i64 ((foldH h l k).offset)]), (6, .arr 1 k (fun i _ => .int .i64 ((codeAt h l i : Nat) : Int))), (7, .cells [.str ((l.getD k (default : GSay)).name), .int .i64 ((l.getD k (default : GSay)).at_), .int .i64 ((l.getD k (default : GSay)).value)])]) (Hn := [(1, .cells [.con (.slice none 0 0), .int .i64 0]), (5, .cells [.own 3 2 ((foldH h l k).rows.length), .int .i64 ((foldH h l k).offset)]), (6, .arr 1 k (fun i _ => .int .i64 ((codeAt h l i : Nat) : Int))), (7, .cells [.str ((l.getD k (default : GSay)).name), .int .i64 ((l.getD k (default : GSay)).at_), .int .i64 ((l.getD k (default : GSay)).value)]), (8, .arr 2 ((takeH (foldH h l k) (l.getD k (default : GSay))).rows.length) (rowC0 (takeH (foldH h l k) (l.getD k (default : GSay))) 9)), (9, .trees ((takeH (foldH h l k) (l.getD k (default : GSay))).rows.length) (rowX0 (takeH (foldH h l k) (l.getD k (default : GSay)))))]) (g := fun zz => if zz = 1000001 then 3 else if zz = 1000002 then 4 else zz) (g' := fun zz => if zz = 1000001 then 3 else if zz = 1000002 then 4 else if zz = 77 then 8 else if zz = 78 then 9 else zz) (K := [77, 78]) (T := [(8, 77), (9, 78)]) rfl (v_l13Take (foldH h l k) (l.getD k (default : GSay)) hgk ⟨by rw [hfk]; omega, by rw [hfk]; omega⟩) vfs_ca_56 ⟨.inr (.tmp rfl), ⟨.inl ⟨_, (.tmp rfl), ⟨.str, .int, .int, trivial⟩⟩, trivial⟩⟩ ⟨⟨_, rfl, ⟨rfl, rfl, fun a b _ _ => rowC0_ren (h := (foldH h l k)) (K := 1000002) (K' := 4) rfl a b⟩⟩, ⟨_, rfl, ⟨rfl, fun _ _ => rfl⟩⟩, trivial⟩ ⟨⟨rfl, rfl⟩, ⟨rfl, rfl⟩, ⟨rfl, rfl⟩, ⟨rfl, rfl⟩, trivial⟩ rfl ⟨⟨rfl, (by repeat first | exact trivial | refine ⟨by decide, by first | rfl | exact trivial | (intro a_ b_; first | exact getD_no rfl | exact rowC0_no rfl _ _ | ((try dsimp only); (repeat' split) <;> first | rfl | exact rowC0_no rfl _ _ | exact getD_no rfl)), ?_⟩)⟩, ⟨rfl, (by repeat first | exact trivial | refine ⟨by decide, by first | rfl | exact trivial | (intro a_ b_; first | exact getD_no rfl | exact rowC0_no rfl _ _ | ((try dsimp only); (repeat' split) <;> first | rfl | exact rowC0_no rfl _ _ | exact getD_no rfl)), ?_⟩)⟩, trivial⟩ (by kernel_rfl) (by kernel_rfl) (by kernel_rfl) ⟨.inl rfl, .inl rfl, .inl rfl, .inl rfl, .inr ⟨77, _, rfl, rfl, rfl, ⟨rfl, rfl, fun a b _ _ => rowC0_ren (h := (takeH (foldH h l k) (l.getD k (default : GSay)))) (K := 78) (K' := 9) rfl a b⟩, (fun a b _ _ => rowC0_hx rfl a b)⟩, .inr ⟨78, _, rfl, rfl, rfl, ⟨rfl, fun _ _ => rfl⟩, trivial⟩, trivial⟩ rfl rfl (Nat.le_of_ble_eq_true rfl) (r' := .tup2 (.agg [.own 8 2 ((takeH (foldH h l k) (l.getD k (default : GSay))).rows.length), .int .i64 ((takeH (foldH h l k) (l.getD k (default : GSay))).offset)]) (.one (.int .i64 ((takeCode (foldH h l k) (l.getD k (default : GSay)) : Nat) : Int)))) rfl ?_
        refine ARun.pure (PureOp.move rfl (.tmp rfl)) rfl rfl (Nat.le_of_ble_eq_true rfl) ?_
        refine ARun.pure (PureOp.ext2a rfl (.tmp rfl)) rfl rfl (Nat.le_of_ble_eq_true rfl) ?_
        refine ARun.pure (PureOp.ext2b rfl (.tmp rfl)) rfl rfl (Nat.le_of_ble_eq_true rfl) ?_
        refine ARun.alloc (id := 10) (l := [.con (.slice none 0 0), .int .i64 0]) (z := (.agg #[.slice none 0 0, .int .i64 0])) rfl (by kernel_rfl) (fun _ _ _ => ⟨_, _, rfl, rfl, ⟨_, _, rfl, rfl, rfl⟩⟩) ⟨rfl, (by repeat first | exact trivial | refine ⟨by decide, by first | rfl | exact trivial | (intro a_ b_; first | exact getD_no rfl | exact rowC0_no rfl _ _ | ((try dsimp only); (repeat' split) <;> first | rfl | exact rowC0_no rfl _ _ | exact getD_no rfl)), ?_⟩)⟩ rfl rfl rfl (Nat.le_of_ble_eq_true rfl) ?_
        refine ARun.store rfl (.tmp rfl) (.tmp rfl) (SV.cells_of (by exact ⟨trivial, trivial, trivial⟩)) rfl (Nat.le_of_ble_eq_true rfl) vfs_sz_29_2 rfl rfl ?_
        refine ARun.pure (PureOp.assign rfl (.tmp rfl)) rfl rfl (Nat.le_of_ble_eq_true rfl) ?_
        refine ARun.nil ?_
        refine AW.seq ?_
        refine AW.region ?_
        refine ARun.pure (PureOp.loadPtrAgg rfl (.tmp rfl) vfs_ag_29_2 rfl rfl (Nat.le_of_ble_eq_true rfl) (Nat.le_of_ble_eq_true rfl)) rfl rfl (Nat.le_of_ble_eq_true rfl) ?_
        refine ARun.store rfl (.tmp rfl) (.tmp rfl) (SV.cells_of (by exact ⟨trivial, trivial, trivial⟩)) rfl (Nat.le_of_ble_eq_true rfl) vfs_sz_29_2 rfl rfl ?_
        refine ARun.nil ?_
        refine AW.region ?_
        refine ARun.pure (PureOp.move rfl (.tmp rfl)) rfl rfl (Nat.le_of_ble_eq_true rfl) ?_
        refine ARun.pure (PureOp.move rfl (.tmp rfl)) rfl rfl (Nat.le_of_ble_eq_true rfl) ?_
        refine ARun.slice1 (id := 11) (z := (.int .i64 0)) (by_ := 8) rfl (.tmp rfl) trivial (by kernel_rfl) rfl rfl (by decide) (by decide) ⟨rfl, (by repeat first | exact trivial | refine ⟨by decide, by first | rfl | exact trivial | (intro a_ b_; first | exact getD_no rfl | exact rowC0_no rfl _ _ | ((try dsimp only); (repeat' split) <;> first | rfl | exact rowC0_no rfl _ _ | exact getD_no rfl)), ?_⟩)⟩ rfl rfl rfl (Nat.le_of_ble_eq_true rfl) ?_
        refine ARun.append (id := 12) (sz := 1) (n := k) (m := 1) (by_ := 8) (z := (.int .i64 0)) (f := fun i _ => .int .i64 ((codeAt h l i : Nat) : Int)) (g := fun _ jc => ([.int .i64 ((takeCode (foldH h l k) (l.getD k (default : GSay)) : Nat) : Int)] : List AV).getD jc (.con undef)) (h := fun ia ja => if ia < k then (fun i _ => .int .i64 ((codeAt h l i : Nat) : Int) : Nat → Nat → AV) ia ja else (fun _ jc => ([.int .i64 ((takeCode (foldH h l k) (l.getD k (default : GSay)) : Nat) : Int)] : List AV).getD jc (.con undef) : Nat → Nat → AV) (ia - k) ja) rfl (by kernel_rfl) rfl vfs_sl_52 (.own (.tmp rfl) rfl rfl rfl (Nat.le_refl _) (fun _ _ _ _ => rfl)) (.own (.tmp rfl) rfl rfl (Nat.le_refl _) (fun _ _ _ _ => rfl)) (by decide) (fun i j hi hj => match j, hj with | 0, _ => rfl | _ + 1, h => absurd h (by omega)) (fun _ _ _ _ => rfl) (by omega) (by omega) ⟨rfl, (by repeat first | exact trivial | refine ⟨by decide, by first | rfl | exact trivial | (intro a_ b_; first | exact getD_no rfl | exact rowC0_no rfl _ _ | ((try dsimp only); (repeat' split) <;> first | rfl | exact rowC0_no rfl _ _ | exact getD_no rfl)), ?_⟩)⟩ (fun i j => by dsimp only; (repeat' split) <;> first | rfl | exact getD_no rfl) rfl rfl (Nat.le_of_ble_eq_true rfl) ?_
        refine ARun.pure (PureOp.assign rfl (.tmp rfl)) rfl rfl (Nat.le_of_ble_eq_true rfl) ?_
        refine ARun.nil ?_
        refine AW.region ?_
        refine ARun.pure (PureOp.add (c := ((k + 1 : Nat) : Int)) rfl (.tmp rfl) .int (by rw [wrap_id (by omega) (by omega)]; omega)) rfl rfl (Nat.le_of_ble_eq_true rfl) ?_
        refine ARun.pure (PureOp.move rfl (.tmp rfl)) rfl rfl (Nat.le_of_ble_eq_true rfl) ?_
        refine ARun.nil ?_
        exact ⟨k + 1, (fun z => (fun z => (swp 3 8) ((swp 4 9) z)) ((swp 6 12) z)), ⟨by omega, fun j hj => (Nat.lt_succ_iff_lt_or_eq.1 hj).elim (hsy j) (fun e => e ▸ hsk)⟩, by dsimp only; omega, (comp_inj (comp_inj swp_inj swp_inj) swp_inj), (comp_fix (comp_fix (swp_fix rfl rfl) (swp_fix rfl rfl)) (swp_fix rfl rfl)), ⟨⟨⟨_, rfl, rfl⟩, ⟨_, rfl, rfl⟩, ⟨_, rfl, rfl⟩, ⟨_, rfl, rfl⟩, ⟨_, rfl, rfl⟩, ⟨_, rfl, rfl⟩, trivial⟩, ⟨⟨_, rfl, rfl, Nat.le_refl _, fun _ _ _ _ => rfl⟩, ⟨_, rfl, rfl, Nat.le_refl _, fun i j _ _ => rowC0_ren (h := foldH h l (k + 1)) (K := 4) (K' := 9) rfl i j⟩, ⟨_, rfl, fun _ _ => rfl⟩, ⟨_, rfl, rfl, Nat.le_refl _, fun _ _ _ _ => rfl⟩, ⟨_, rfl, rfl, Nat.le_refl _, fun i j hi (hj : j < 1) => match j, hj with | 0, _ => app_at (show i < k + 1 from hi) (fun _ => rfl) (fun hik => by subst hik; rfl) | _ + 1, h => absurd h (by omega)⟩, trivial⟩⟩⟩
    · have _u := True.intro
      replace hb15 := of_decide_eq_false hb15
      have hkl : ¬ k < l.length := by omega
      have hke : k = l.length := by omega
      refine AW.exit ?_
      refine AW.seq ?_
      refine AW.region ?_
      refine ARun.pure (PureOp.loadPtrAgg rfl (.tmp rfl) vfs_ag_29_2 rfl rfl (Nat.le_of_ble_eq_true rfl) (Nat.le_of_ble_eq_true rfl)) rfl rfl (Nat.le_of_ble_eq_true rfl) ?_
      refine ARun.prod (K := 13) rfl (v_l13Own (foldH h l k) (hd_ok (fold_good hg0 k hsy))) ⟨rfl, (by repeat first | exact trivial | refine ⟨by decide, by first | rfl | exact trivial | (intro a_ b_; first | exact getD_no rfl | exact rowC0_no rfl _ _ | ((try dsimp only); (repeat' split) <;> first | rfl | exact rowC0_no rfl _ _ | exact getD_no rfl)), ?_⟩)⟩ ⟨⟨_, (.tmp rfl), ⟨(.own rfl rfl (Nat.le_refl _) (fun i j hi hj => (match j, hj with | 0, _ => .str | 1, _ => (Vw.cast (Vw.tre rfl hi) rfl) | _ + 2, h => absurd h (by omega)))), .int, trivial⟩⟩, trivial⟩ vfs_ca_57 rfl rfl rfl rfl rfl (Nat.le_of_ble_eq_true rfl) ?_
      refine ARun.pure (PureOp.move rfl (.tmp rfl)) rfl rfl (Nat.le_of_ble_eq_true rfl) ?_
      refine ARun.store rfl (.tmp rfl) (.tmp rfl) (SV.cells_of (by exact ⟨trivial, trivial, trivial⟩)) rfl (Nat.le_of_ble_eq_true rfl) vfs_sz_29_2 rfl rfl ?_
      refine ARun.pure (PureOp.assign rfl (.tmp rfl)) rfl rfl (Nat.le_of_ble_eq_true rfl) ?_
      refine ARun.pure (PureOp.assign rfl .bool) rfl rfl (Nat.le_of_ble_eq_true rfl) ?_
      refine ARun.nil ?_
      rw [show foldV h l = (foldH h l k, codesL h l k, true) from by rw [foldV_yes ⟨hgd, hln, hol, fun j hj => hsy j (by omega)⟩, hke]]
      exact AW.ret (show ∃ s t, ResL _ _ [.cell 4 29, .tmp 5, .tmp 6] s ∧ TvS _ (ofLeaf t) 0 s _ from ⟨_, fun a b => if a = 13 then 0 else if a = 6 then 2 else 1000, .inr (.inr (.inl ⟨_, _, _, _, _, _, rfl, .cells rfl vfs_ag_29_2 rfl rfl (Nat.le_of_ble_eq_true rfl) (Nat.le_of_ble_eq_true rfl), .tmp rfl, .tmp rfl, rfl⟩)), ⟨⟨(Tv.cast (Tv.tre rfl (Nat.le_of_ble_eq_true rfl) (by rfl)) rfl), .int, trivial⟩, (Tv.flatN (codes_len h l k) rfl rfl rfl (Nat.le_refl _) (by rfl) (fun i j hi hj => by show _ = AV.int .i64 ((codesL h l k).getD i 0); rw [codes_at h l hi]; rfl) (fun _ _ _ _ => rfl)), .bool⟩⟩)

theorem v_fold (h : GHead) (l : List GSay) (hgd : goodHead h = true) (hln : l.length ≤ 60) : FnT Try.prog 61 [.agg [.lst 2 h.rows.length (fun i0 j0 => ([.str ((h.rows.getD i0 (default : GRow)).name), .lst 2 (((h.rows.getD i0 (default : GRow)).samples).length) (fun i1 j1 => ([.int .i64 ((((h.rows.getD i0 (default : GRow)).samples).getD i1 (default : GSample)).at_), .int .i64 ((((h.rows.getD i0 (default : GRow)).samples).getD i1 (default : GSample)).value)] : List AV).getD j1 (.con undef))] : List AV).getD j0 (.con undef)), .int .i64 h.offset], .one (.lst 3 l.length (fun i0 j0 => ([.str ((l.getD i0 (default : GSay)).name), .int .i64 ((l.getD i0 (default : GSay)).at_), .int .i64 ((l.getD i0 (default : GSay)).value)] : List AV).getD j0 (.con undef)))] (.tup3 (.agg [.lst 2 ((((foldV h l).1).rows).length) (fun i0 j0 => ([.str (((((foldV h l).1).rows).getD i0 (default : GRow)).name), .lst 2 ((((((foldV h l).1).rows).getD i0 (default : GRow)).samples).length) (fun i1 j1 => ([.int .i64 (((((((foldV h l).1).rows).getD i0 (default : GRow)).samples).getD i1 (default : GSample)).at_), .int .i64 (((((((foldV h l).1).rows).getD i0 (default : GRow)).samples).getD i1 (default : GSample)).value)] : List AV).getD j1 (.con undef))] : List AV).getD j0 (.con undef)), .int .i64 (((foldV h l).1).offset)]) (.one (.lst 1 (((foldV h l).2.1).length) (fun i0 _ => .int .i64 (((foldV h l).2.1).getD i0 0)))) (.one (.bool ((foldV h l).2.2)))) := by
  have hof := good_off hgd
  have hg0 := good0 hgd
  refine FnT.of_body (fn := Try.f61) Try.func61 rfl (Nat.le_of_ble_eq_true rfl)  ?_
  intro w0
  show AW _ 36 _ _ _ _
  refine AW.seq ?_
  refine AW.region ?_
  refine ARun.box (id := 0) rfl (.tmp rfl) (SV.cells_of (by exact ⟨trivial, trivial, trivial⟩)) ⟨rfl, (by repeat first | exact trivial | refine ⟨by decide, by first | rfl | exact trivial | (intro a_ b_; first | exact getD_no rfl | exact rowC0_no rfl _ _ | ((try dsimp only); (repeat' split) <;> first | rfl | exact rowC0_no rfl _ _ | exact getD_no rfl)), ?_⟩)⟩ rfl rfl rfl (Nat.le_of_ble_eq_true rfl) ?_
  refine ARun.alloc (id := 1) (l := [.con (.slice none 0 0), .int .i64 0]) (z := (.agg #[.slice none 0 0, .int .i64 0])) rfl (by kernel_rfl) (fun _ _ _ => ⟨_, _, rfl, rfl, ⟨_, _, rfl, rfl, rfl⟩⟩) ⟨rfl, (by repeat first | exact trivial | refine ⟨by decide, by first | rfl | exact trivial | (intro a_ b_; first | exact getD_no rfl | exact rowC0_no rfl _ _ | ((try dsimp only); (repeat' split) <;> first | rfl | exact rowC0_no rfl _ _ | exact getD_no rfl)), ?_⟩)⟩ rfl rfl rfl (Nat.le_of_ble_eq_true rfl) ?_
  refine ARun.pure (PureOp.assign rfl .con) rfl rfl (Nat.le_of_ble_eq_true rfl) ?_
  refine ARun.pure (PureOp.assign rfl .bool) rfl rfl (Nat.le_of_ble_eq_true rfl) ?_
  refine ARun.nil ?_
  refine AW.seq ?_
  refine AW.region ?_
  refine ARun.pure (PureOp.loadPtrAgg rfl (.tmp rfl) vfs_ag_29_2 rfl rfl (Nat.le_of_ble_eq_true rfl) (Nat.le_of_ble_eq_true rfl)) rfl rfl (Nat.le_of_ble_eq_true rfl) ?_
  refine ARun.prod (K := 2) rfl (v_cloneHead h (hd_ok hg0)) ⟨rfl, (by repeat first | exact trivial | refine ⟨by decide, by first | rfl | exact trivial | (intro a_ b_; first | exact getD_no rfl | exact rowC0_no rfl _ _ | ((try dsimp only); (repeat' split) <;> first | rfl | exact rowC0_no rfl _ _ | exact getD_no rfl)), ?_⟩)⟩ ⟨⟨_, (.tmp rfl), ⟨.lst, .int, trivial⟩⟩, trivial⟩ vfs_ca_59 rfl rfl rfl rfl rfl (Nat.le_of_ble_eq_true rfl) ?_
  refine ARun.openAgg 12 0 2 0 2 2 1 h.rows.length 3 4 [.tre 2 0, .int .i64 h.offset] [.own 3 2 h.rows.length, .int .i64 h.offset] (fun p => ([.lst 2 h.rows.length (fun i0 j0 => ([.str ((h.rows.getD i0 (default : GRow)).name), .lst 2 (((h.rows.getD i0 (default : GRow)).samples).length) (fun i1 j1 => ([.int .i64 ((((h.rows.getD i0 (default : GRow)).samples).getD i1 (default : GSample)).at_), .int .i64 ((((h.rows.getD i0 (default : GRow)).samples).getD i1 (default : GSample)).value)] : List AV).getD j1 (.con undef))] : List AV).getD j0 (.con undef)), .int .i64 h.offset] : List AV).getD p (.con undef)) (fun i0 j0 => ([.str ((h.rows.getD i0 (default : GRow)).name), .lst 2 (((h.rows.getD i0 (default : GRow)).samples).length) (fun i1 j1 => ([.int .i64 ((((h.rows.getD i0 (default : GRow)).samples).getD i1 (default : GSample)).at_), .int .i64 ((((h.rows.getD i0 (default : GRow)).samples).getD i1 (default : GSample)).value)] : List AV).getD j1 (.con undef))] : List AV).getD j0 (.con undef)) (rowC0 h 4) rfl rfl rfl rfl (by decide) rfl (by decide) (fun _ _ => ⟨_, _, _, rfl⟩) (fun i j _ hj hne => match j, hj, hne with | 0, _, _ => rfl | 1, _, h => absurd rfl h | _ + 2, h, _ => absurd h (by omega)) ⟨rfl, (by repeat first | exact trivial | refine ⟨by decide, by first | rfl | exact trivial | (intro a_ b_; first | exact getD_no rfl | exact rowC0_no rfl _ _ | ((try dsimp only); (repeat' split) <;> first | rfl | exact rowC0_no rfl _ _ | exact getD_no rfl)), ?_⟩)⟩ ⟨rfl, (by repeat first | exact trivial | refine ⟨by decide, by first | rfl | exact trivial | (intro a_ b_; first | exact getD_no rfl | exact rowC0_no rfl _ _ | ((try dsimp only); (repeat' split) <;> first | rfl | exact rowC0_no rfl _ _ | exact getD_no rfl)), ?_⟩)⟩ (by decide) (fun i j _ hj => match j, hj with | 0, _ => rfl | 1, _ => rfl | _ + 2, h => absurd h (by omega)) ?_
  refine ARun.alloc (id := 5) (l := [.con (.slice none 0 0), .int .i64 0]) (z := (.agg #[.slice none 0 0, .int .i64 0])) rfl (by kernel_rfl) (fun _ _ _ => ⟨_, _, rfl, rfl, ⟨_, _, rfl, rfl, rfl⟩⟩) ⟨rfl, (by repeat first | exact trivial | refine ⟨by decide, by first | rfl | exact trivial | (intro a_ b_; first | exact getD_no rfl | exact rowC0_no rfl _ _ | ((try dsimp only); (repeat' split) <;> first | rfl | exact rowC0_no rfl _ _ | exact getD_no rfl)), ?_⟩)⟩ rfl rfl rfl (Nat.le_of_ble_eq_true rfl) ?_
  refine ARun.store rfl (.tmp rfl) (.tmp rfl) (SV.cells_of (by exact ⟨trivial, trivial, trivial⟩)) rfl (Nat.le_of_ble_eq_true rfl) vfs_sz_29_2 rfl rfl ?_
  refine ARun.nil ?_
  refine AW.seq ?_
  refine AW.region ?_
  refine ARun.pure (PureOp.assign rfl .con) rfl rfl (Nat.le_of_ble_eq_true rfl) ?_
  refine ARun.nil ?_
  refine AW.seq ?_
  refine AW.seq ?_
  refine AW.region ?_
  refine ARun.pure (PureOp.move rfl (.tmp rfl)) rfl rfl (Nat.le_of_ble_eq_true rfl) ?_
  refine ARun.pure (PureOp.lenLst rfl (.tmp rfl) vfs_sl_55) rfl rfl (Nat.le_of_ble_eq_true rfl) ?_
  refine ARun.pure (PureOp.move rfl .int) rfl rfl (Nat.le_of_ble_eq_true rfl) ?_
  refine ARun.nil ?_
  refine AW.block ?_
  refine AW.nilSlot 8 6 1 (fun i _ => .int .i64 ((codeAt h l i : Nat) : Int)) rfl ⟨rfl, (by repeat first | exact trivial | refine ⟨by decide, by first | rfl | exact trivial | (intro a_ b_; first | exact getD_no rfl | exact rowC0_no rfl _ _ | ((try dsimp only); (repeat' split) <;> first | rfl | exact rowC0_no rfl _ _ | exact getD_no rfl)), ?_⟩)⟩ ?_
  -- objects are renamed
  refine AW.loopR (ι := Nat) (fun k => ⟨[(4, .one (.ptr 1 2 0 0)), (7, .one (.ptr 5 2 0 0)), (8, .one (.own 6 1 k)), (13, .one (.lst 3 l.length (fun i0 j0 => ([.str ((l.getD i0 (default : GSay)).name), .int .i64 ((l.getD i0 (default : GSay)).at_), .int .i64 ((l.getD i0 (default : GSay)).value)] : List AV).getD j0 (.con undef)))), (14, .one (.int .i64 (l.length : Int))), (15, .one (.int .i64 (k : Int)))], [(1, .cells [.con (.slice none 0 0), .int .i64 0]), (3, .arr 2 ((foldH h l k).rows.length) (rowC0 (foldH h l k) 4)), (4, .trees ((foldH h l k).rows.length) (rowX0 (foldH h l k))), (5, .cells [.own 3 2 ((foldH h l k).rows.length), .int .i64 ((foldH h l k).offset)]), (6, .arr 1 k (fun i _ => .int .i64 ((codeAt h l i : Nat) : Int)))]⟩) (fun k => k ≤ l.length ∧ h.offset + (k : Int) ≤ 1000 ∧ ∀ j, j < k → sayB (l.getD j (default : GSay)) = true) (fun k => l.length - k) 0 ⟨Nat.zero_le _, by omega, fun j hj => absurd hj (by omega)⟩ ⟨⟨⟨_, rfl, rfl⟩, ⟨_, rfl, rfl⟩, ⟨_, rfl, rfl⟩, ⟨_, rfl, rfl⟩, ⟨_, rfl, rfl⟩, ⟨_, rfl, rfl⟩, trivial⟩, ⟨⟨_, rfl, rfl, Nat.le_refl _, fun _ _ _ _ => rfl⟩, ⟨_, rfl, rfl, Nat.le_refl _, fun _ _ _ _ => rfl⟩, ⟨_, rfl, fun _ _ => rfl⟩, ⟨_, rfl, rfl, Nat.le_refl _, fun _ _ _ _ => rfl⟩, ⟨_, rfl, rfl, Nat.le_refl _, fun _ _ _ _ => rfl⟩, trivial⟩⟩ ?_
  intro k hI
  obtain ⟨hk, hok, hsy⟩ := hI
  refine AW.seq ?_
  refine AW.region ?_
  refine ARun.pure (PureOp.intOp rfl (.tmp rfl) (.tmp rfl) rfl) rfl rfl (Nat.le_of_ble_eq_true rfl) ?_
  refine ARun.nil ?_
  refine AW.seq ?_
  refine AW.cond (.tmp rfl) (fun hb1 => ?_) (fun hb1 => ?_)
  · have _u := True.intro
    replace hb1 := of_decide_eq_true hb1
    have hkl : k < l.length := by omega
    have hgk := fold_good hg0 k hsy
    have hfk := fold_off h l k
    refine AW.skip ?_
    refine AW.seq ?_
    refine AW.block ?_
    refine AW.seq ?_
    refine AW.region ?_
    refine ARun.pure (PureOp.indexLst (i := k) rfl (.tmp rfl) vfs_el_55_3 (.tmp rfl) rfl (by exact (show k < l.length from by omega))) rfl rfl (Nat.le_of_ble_eq_true rfl) ?_
    refine ARun.pure (PureOp.loadRefAgg rfl (.tmp rfl) vfs_ag_47_3 (Nat.le_of_ble_eq_true rfl)) rfl rfl (Nat.le_of_ble_eq_true rfl) ?_
    refine ARun.alloc (id := 7) (l := [.str ByteArray.empty, .int .i64 0, .int .i64 0]) (z := (.agg #[.string ByteArray.empty, .int .i64 0, .int .i64 0])) rfl (by kernel_rfl) (fun _ _ _ => ⟨_, _, rfl, ⟨rfl, by decide⟩, ⟨_, _, rfl, rfl, ⟨_, _, rfl, rfl, rfl⟩⟩⟩) ⟨rfl, (by repeat first | exact trivial | refine ⟨by decide, by first | rfl | exact trivial | (intro a_ b_; first | exact getD_no rfl | exact rowC0_no rfl _ _ | ((try dsimp only); (repeat' split) <;> first | rfl | exact rowC0_no rfl _ _ | exact getD_no rfl)), ?_⟩)⟩ rfl rfl rfl (Nat.le_of_ble_eq_true rfl) ?_
    refine ARun.store rfl (.tmp rfl) (.tmp rfl) (SV.cells_of (by exact ⟨trivial, trivial, trivial, trivial⟩)) rfl (Nat.le_of_ble_eq_true rfl) vfs_sz_47_3 rfl rfl ?_
    refine ARun.nil ?_
    refine AW.seq ?_
    refine AW.seq ?_
    refine AW.region ?_
    refine ARun.pure (PureOp.loadPtrAgg rfl (.tmp rfl) vfs_ag_47_3 rfl rfl (Nat.le_of_ble_eq_true rfl) (Nat.le_of_ble_eq_true rfl)) rfl rfl (Nat.le_of_ble_eq_true rfl) ?_
    refine ARun.pure (PureOp.call rfl (v_isSay (l.getD k (default : GSay))) ⟨⟨_, (.tmp rfl), ⟨.str, .int, .int, trivial⟩⟩, trivial⟩ vfs_ca_58 trivial) rfl rfl (Nat.le_of_ble_eq_true rfl) ?_
    refine ARun.pure (PureOp.not rfl (.tmp rfl)) rfl rfl (Nat.le_of_ble_eq_true rfl) ?_
    refine ARun.pure (PureOp.move rfl (.tmp rfl)) rfl rfl (Nat.le_of_ble_eq_true rfl) ?_
    refine ARun.gpure (want := false) (.tf rfl) (fun hg2 => PureOp.fieldPtr rfl (.tmp rfl) vfs_fi_29_1_1) rfl rfl (Nat.le_of_ble_eq_true rfl) rfl (Nat.le_of_ble_eq_true rfl) ?_
    refine ARun.gpure (want := false) (.tf rfl) (fun hg3 => PureOp.loadPtr rfl (.gtmp rfl hg3) vfs_pl_3 rfl rfl (Nat.le_of_ble_eq_true rfl) (Nat.le_of_ble_eq_true rfl)) rfl rfl (Nat.le_of_ble_eq_true rfl) rfl (Nat.le_of_ble_eq_true rfl) ?_
    refine ARun.gpure (want := false) (.tf rfl) (fun hg4 => PureOp.intOp rfl (.gtmp rfl hg4) .int rfl) rfl rfl (Nat.le_of_ble_eq_true rfl) rfl (Nat.le_of_ble_eq_true rfl) ?_
    refine ARun.pure (PureOp.pick rfl (.tmp rfl) (fun _ => .bool) (fun hp6 => .gtmp rfl (not_of hp6))) rfl rfl (Nat.le_of_ble_eq_true rfl) ?_
    refine ARun.nil ?_
    refine AW.cond (.tmp rfl) (fun hb7 => ?_) (fun hb7 => ?_)
    · have _u := True.intro
      have hno : ¬ FoldOk h l := fold_stop hkl hb7
      refine AW.seq ?_
      refine AW.region ?_
      refine ARun.pure (PureOp.build (ys := []) (l := [.con (.slice none 0 0), .int .i64 0]) (pl := [(0, 1), (1, 1)]) (z := (.agg #[.slice none 0 0, .int .i64 0])) rfl (by kernel_rfl) (by kernel_rfl) (fun _ _ _ => ⟨_, _, rfl, rfl, ⟨_, _, rfl, rfl, rfl⟩⟩) trivial rfl) rfl rfl (Nat.le_of_ble_eq_true rfl) ?_
      refine ARun.store rfl (.tmp rfl) (.tmp rfl) (SV.cells_of (by exact ⟨⟨rfl, (fun _ e => by cases e), (fun _ e => by cases e)⟩, trivial, trivial⟩)) rfl (Nat.le_of_ble_eq_true rfl) vfs_sz_29_2 rfl rfl ?_
      refine ARun.pure (PureOp.assign rfl .con) rfl rfl (Nat.le_of_ble_eq_true rfl) ?_
      refine ARun.pure (PureOp.assign rfl .bool) rfl rfl (Nat.le_of_ble_eq_true rfl) ?_
      refine ARun.nil ?_
      rw [foldV_no hno]
      exact AW.ret (show ∃ s t, ResL _ _ [.cell 4 29, .tmp 5, .tmp 6] s ∧ TvS _ (ofLeaf t) 0 s _ from ⟨_, fun a b => 1000, .inr (.inr (.inl ⟨_, _, _, _, _, _, rfl, .cells rfl vfs_ag_29_2 rfl rfl (Nat.le_of_ble_eq_true rfl) (Nat.le_of_ble_eq_true rfl), .tmp rfl, .tmp rfl, rfl⟩)), ⟨⟨.nil, .int, trivial⟩, .nil, .bool⟩⟩)
    · have _u := True.intro
      obtain ⟨hsk, hnk⟩ := fold_on hb7
      refine AW.skip ?_
      refine AW.region ?_
      refine ARun.pure (PureOp.move rfl (.tmp rfl)) rfl rfl (Nat.le_of_ble_eq_true rfl) ?_
      refine ARun.pure (PureOp.loadPtrAgg rfl (.tmp rfl) vfs_ag_47_3 rfl rfl (Nat.le_of_ble_eq_true rfl) (Nat.le_of_ble_eq_true rfl)) rfl rfl (Nat.le_of_ble_eq_true rfl) ?_
      refine ARun.mutx (Hr := [(1, .cells [.con (.slice none 0 0), .int .i64 0]), (6, .arr 1 k (fun i _ => .int .i64 ((codeAt h l i : Nat) : Int))), (7, .cells [.str ((l.getD k (default : GSay)).name), .int .i64 ((l.getD k (default : GSay)).at_), .int .i64 ((l.getD k (default : GSay)).value)])]) (Hn := [(1, .cells [.con (.slice none 0 0), .int .i64 0]), (5, .cells [.own 8 2 ((takeH (foldH h l k) (l.getD k (default : GSay))).rows.length), .int .i64 ((takeH (foldH h l k) (l.getD k (default : GSay))).offset)]), (6, .arr 1 k (fun i _ => .int .i64 ((codeAt h l i : Nat) : Int))), (7, .cells [.str ((l.getD k (default : GSay)).name), .int .i64 ((l.getD k (default : GSay)).at_), .int .i64 ((l.getD k (default : GSay)).value)]), (8, .arr 2 ((takeH (foldH h l k) (l.getD k (default : GSay))).rows.length) (rowC0 (takeH (foldH h l k) (l.getD k (default : GSay))) 9)), (9, .trees ((takeH (foldH h l k) (l.getD k (default : GSay))).rows.length) (rowX0 (takeH (foldH h l k) (l.getD k (default : GSay)))))]) (g := fun zz => if zz = 1000000 then 5 else if zz = 1000001 then 3 else if zz = 1000002 then 4 else zz) (g' := fun zz => if zz = 1000000 then 5 else if zz = 1000001 then 3 else if zz = 1000002 then 4 else if zz = 77 then 8 else if zz = 78 then 9 else zz) (K := [77, 78, 1000000]) (T := [(8, 77), (9, 78)]) rfl (v_take (foldH h l k) (l.getD k (default : GSay)) hgk ⟨by rw [hfk]; omega, by rw [hfk]; omega⟩) vfs_ca_60 ⟨.inr (.tmp rfl), ⟨.inl ⟨_, (.tmp rfl), ⟨.str, .int, .int, trivial⟩⟩, trivial⟩⟩ ⟨⟨_, rfl, rfl⟩, ⟨_, rfl, ⟨rfl, rfl, fun a b _ _ => rowC0_ren (h := (foldH h l k)) (K := 1000002) (K' := 4) rfl a b⟩⟩, ⟨_, rfl, ⟨rfl, fun _ _ => rfl⟩⟩, trivial⟩ ⟨⟨rfl, rfl⟩, ⟨rfl, rfl⟩, ⟨rfl, rfl⟩, trivial⟩ rfl ⟨⟨rfl, (by repeat first | exact trivial | refine ⟨by decide, by first | rfl | exact trivial | (intro a_ b_; first | exact getD_no rfl | exact rowC0_no rfl _ _ | ((try dsimp only); (repeat' split) <;> first | rfl | exact rowC0_no rfl _ _ | exact getD_no rfl)), ?_⟩)⟩, ⟨rfl, (by repeat first | exact trivial | refine ⟨by decide, by first | rfl | exact trivial | (intro a_ b_; first | exact getD_no rfl | exact rowC0_no rfl _ _ | ((try dsimp only); (repeat' split) <;> first | rfl | exact rowC0_no rfl _ _ | exact getD_no rfl)), ?_⟩)⟩, trivial⟩ (by kernel_rfl) (by kernel_rfl) (by kernel_rfl) ⟨.inl rfl, .inr ⟨1000000, _, rfl, rfl, rfl, rfl, rfl⟩, .inl rfl, .inl rfl, .inr ⟨77, _, rfl, rfl, rfl, ⟨rfl, rfl, fun a b _ _ => rowC0_ren (h := (takeH (foldH h l k) (l.getD k (default : GSay)))) (K := 78) (K' := 9) rfl a b⟩, (fun a b _ _ => rowC0_hx rfl a b)⟩, .inr ⟨78, _, rfl, rfl, rfl, ⟨rfl, fun _ _ => rfl⟩, trivial⟩, trivial⟩ rfl rfl (Nat.le_of_ble_eq_true rfl) (r' := .one (.int .i64 ((takeCode (foldH h l k) (l.getD k (default : GSay)) : Nat) : Int))) rfl ?_
      refine ARun.slice1 (id := 10) (z := (.int .i64 0)) (by_ := 8) rfl (.tmp rfl) trivial (by kernel_rfl) rfl rfl (by decide) (by decide) ⟨rfl, (by repeat first | exact trivial | refine ⟨by decide, by first | rfl | exact trivial | (intro a_ b_; first | exact getD_no rfl | exact rowC0_no rfl _ _ | ((try dsimp only); (repeat' split) <;> first | rfl | exact rowC0_no rfl _ _ | exact getD_no rfl)), ?_⟩)⟩ rfl rfl rfl (Nat.le_of_ble_eq_true rfl) ?_
      refine ARun.append (id := 11) (sz := 1) (n := k) (m := 1) (by_ := 8) (z := (.int .i64 0)) (f := fun i _ => .int .i64 ((codeAt h l i : Nat) : Int)) (g := fun _ jc => ([.int .i64 ((takeCode (foldH h l k) (l.getD k (default : GSay)) : Nat) : Int)] : List AV).getD jc (.con undef)) (h := fun ia ja => if ia < k then (fun i _ => .int .i64 ((codeAt h l i : Nat) : Int) : Nat → Nat → AV) ia ja else (fun _ jc => ([.int .i64 ((takeCode (foldH h l k) (l.getD k (default : GSay)) : Nat) : Int)] : List AV).getD jc (.con undef) : Nat → Nat → AV) (ia - k) ja) rfl (by kernel_rfl) rfl vfs_sl_52 (.own (.tmp rfl) rfl rfl rfl (Nat.le_refl _) (fun _ _ _ _ => rfl)) (.own (.tmp rfl) rfl rfl (Nat.le_refl _) (fun _ _ _ _ => rfl)) (by decide) (fun i j hi hj => match j, hj with | 0, _ => rfl | _ + 1, h => absurd h (by omega)) (fun _ _ _ _ => rfl) (by omega) (by omega) ⟨rfl, (by repeat first | exact trivial | refine ⟨by decide, by first | rfl | exact trivial | (intro a_ b_; first | exact getD_no rfl | exact rowC0_no rfl _ _ | ((try dsimp only); (repeat' split) <;> first | rfl | exact rowC0_no rfl _ _ | exact getD_no rfl)), ?_⟩)⟩ (fun i j => by dsimp only; (repeat' split) <;> first | rfl | exact getD_no rfl) rfl rfl (Nat.le_of_ble_eq_true rfl) ?_
      refine ARun.pure (PureOp.assign rfl (.tmp rfl)) rfl rfl (Nat.le_of_ble_eq_true rfl) ?_
      refine ARun.nil ?_
      refine AW.region ?_
      refine ARun.pure (PureOp.add (c := ((k + 1 : Nat) : Int)) rfl (.tmp rfl) .int (by rw [wrap_id (by omega) (by omega)]; omega)) rfl rfl (Nat.le_of_ble_eq_true rfl) ?_
      refine ARun.pure (PureOp.move rfl (.tmp rfl)) rfl rfl (Nat.le_of_ble_eq_true rfl) ?_
      refine ARun.nil ?_
      exact ⟨k + 1, (fun z => (fun z => (swp 3 8) ((swp 4 9) z)) ((swp 6 11) z)), ⟨by omega, by omega, fun j hj => (Nat.lt_succ_iff_lt_or_eq.1 hj).elim (hsy j) (fun e => e ▸ hsk)⟩, by dsimp only; omega, (comp_inj (comp_inj swp_inj swp_inj) swp_inj), (comp_fix (comp_fix (swp_fix rfl rfl) (swp_fix rfl rfl)) (swp_fix rfl rfl)), ⟨⟨⟨_, rfl, rfl⟩, ⟨_, rfl, rfl⟩, ⟨_, rfl, rfl⟩, ⟨_, rfl, rfl⟩, ⟨_, rfl, rfl⟩, ⟨_, rfl, rfl⟩, trivial⟩, ⟨⟨_, rfl, rfl, Nat.le_refl _, fun _ _ _ _ => rfl⟩, ⟨_, rfl, rfl, Nat.le_refl _, fun i j _ _ => rowC0_ren (h := foldH h l (k + 1)) (K := 4) (K' := 9) rfl i j⟩, ⟨_, rfl, fun _ _ => rfl⟩, ⟨_, rfl, rfl, Nat.le_refl _, fun _ _ _ _ => rfl⟩, ⟨_, rfl, rfl, Nat.le_refl _, fun i j hi (hj : j < 1) => match j, hj with | 0, _ => app_at (show i < k + 1 from hi) (fun _ => rfl) (fun hik => by subst hik; rfl) | _ + 1, h => absurd h (by omega)⟩, trivial⟩⟩⟩
  · have _u := True.intro
    replace hb1 := of_decide_eq_false hb1
    have hkl : ¬ k < l.length := by omega
    have hke : k = l.length := by omega
    refine AW.exit ?_
    refine AW.seq ?_
    refine AW.region ?_
    refine ARun.pure (PureOp.loadPtrAgg rfl (.tmp rfl) vfs_ag_29_2 rfl rfl (Nat.le_of_ble_eq_true rfl) (Nat.le_of_ble_eq_true rfl)) rfl rfl (Nat.le_of_ble_eq_true rfl) ?_
    refine ARun.pure (PureOp.move rfl (.tmp rfl)) rfl rfl (Nat.le_of_ble_eq_true rfl) ?_
    refine ARun.store rfl (.tmp rfl) (.tmp rfl) (SV.cells_of (by exact ⟨trivial, trivial, trivial⟩)) rfl (Nat.le_of_ble_eq_true rfl) vfs_sz_29_2 rfl rfl ?_
    refine ARun.pure (PureOp.assign rfl (.tmp rfl)) rfl rfl (Nat.le_of_ble_eq_true rfl) ?_
    refine ARun.pure (PureOp.assign rfl .bool) rfl rfl (Nat.le_of_ble_eq_true rfl) ?_
    refine ARun.nil ?_
    rw [show foldV h l = (foldH h l k, codesL h l k, true) from by rw [foldV_yes ⟨hgd, hln, by omega, fun j hj => hsy j (by omega)⟩, hke]]
    exact AW.ret (show ∃ s t, ResL _ _ [.cell 4 29, .tmp 5, .tmp 6] s ∧ TvS _ (ofLeaf t) 0 s _ from ⟨_, fun a b => if a = 3 then 0 else if a = 4 then 0 else if a = 6 then 2 else 1000, .inr (.inr (.inl ⟨_, _, _, _, _, _, rfl, .cells rfl vfs_ag_29_2 rfl rfl (Nat.le_of_ble_eq_true rfl) (Nat.le_of_ble_eq_true rfl), .tmp rfl, .tmp rfl, rfl⟩)), ⟨⟨(Tv.colK (K := 4) (c := 1) (X := rowX0 (foldH h l k)) rfl rfl rfl rfl (Nat.le_refl _) (by rfl) (fun i j hi hj hne => match j, hj, hne with | 0, _, _ => ⟨rfl, rfl⟩ | 1, _, h => absurd rfl h | _ + 2, h, _ => absurd h (by omega)) (fun i hi => ⟨rfl, rfl⟩) rfl (by decide) (fun _ => by rfl)), .int, trivial⟩, (Tv.flatN (codes_len h l k) rfl rfl rfl (Nat.le_refl _) (by rfl) (fun i j hi hj => by show _ = AV.int .i64 ((codesL h l k).getD i 0); rw [codes_at h l hi]; rfl) (fun _ _ _ _ => rfl)), .bool⟩⟩)

theorem v_iFold (h : GHead) (l : List GSay) : FnT Try.prog 30 [.agg [.lst 2 h.rows.length (fun i0 j0 => ([.str ((h.rows.getD i0 (default : GRow)).name), .lst 2 (((h.rows.getD i0 (default : GRow)).samples).length) (fun i1 j1 => ([.int .i64 ((((h.rows.getD i0 (default : GRow)).samples).getD i1 (default : GSample)).at_), .int .i64 ((((h.rows.getD i0 (default : GRow)).samples).getD i1 (default : GSample)).value)] : List AV).getD j1 (.con undef))] : List AV).getD j0 (.con undef)), .int .i64 h.offset], .one (.lst 3 l.length (fun i0 j0 => ([.str ((l.getD i0 (default : GSay)).name), .int .i64 ((l.getD i0 (default : GSay)).at_), .int .i64 ((l.getD i0 (default : GSay)).value)] : List AV).getD j0 (.con undef)))] (.tup3 (.agg [.lst 2 ((((foldV h l).1).rows).length) (fun i0 j0 => ([.str (((((foldV h l).1).rows).getD i0 (default : GRow)).name), .lst 2 ((((((foldV h l).1).rows).getD i0 (default : GRow)).samples).length) (fun i1 j1 => ([.int .i64 (((((((foldV h l).1).rows).getD i0 (default : GRow)).samples).getD i1 (default : GSample)).at_), .int .i64 (((((((foldV h l).1).rows).getD i0 (default : GRow)).samples).getD i1 (default : GSample)).value)] : List AV).getD j1 (.con undef))] : List AV).getD j0 (.con undef)), .int .i64 (((foldV h l).1).offset)]) (.one (.lst 1 (((foldV h l).2.1).length) (fun i0 _ => .int .i64 (((foldV h l).2.1).getD i0 0)))) (.one (.bool ((foldV h l).2.2)))) := by
  refine FnT.of_body (fn := Try.f30) Try.func30 rfl (Nat.le_of_ble_eq_true rfl)  ?_
  intro w0
  show AW _ 22 _ _ _ _
  refine AW.seq ?_
  refine AW.region ?_
  refine ARun.box (id := 0) rfl (.tmp rfl) (SV.cells_of (by exact ⟨trivial, trivial, trivial⟩)) ⟨rfl, (by repeat first | exact trivial | refine ⟨by decide, by first | rfl | exact trivial | (intro a_ b_; first | exact getD_no rfl | exact rowC0_no rfl _ _ | ((try dsimp only); (repeat' split) <;> first | rfl | exact rowC0_no rfl _ _ | exact getD_no rfl)), ?_⟩)⟩ rfl rfl rfl (Nat.le_of_ble_eq_true rfl) ?_
  refine ARun.alloc (id := 1) (l := [.con (.slice none 0 0), .int .i64 0]) (z := (.agg #[.slice none 0 0, .int .i64 0])) rfl (by kernel_rfl) (fun _ _ _ => ⟨_, _, rfl, rfl, ⟨_, _, rfl, rfl, rfl⟩⟩) ⟨rfl, (by repeat first | exact trivial | refine ⟨by decide, by first | rfl | exact trivial | (intro a_ b_; first | exact getD_no rfl | exact rowC0_no rfl _ _ | ((try dsimp only); (repeat' split) <;> first | rfl | exact rowC0_no rfl _ _ | exact getD_no rfl)), ?_⟩)⟩ rfl rfl rfl (Nat.le_of_ble_eq_true rfl) ?_
  refine ARun.pure (PureOp.assign rfl .con) rfl rfl (Nat.le_of_ble_eq_true rfl) ?_
  refine ARun.pure (PureOp.assign rfl .bool) rfl rfl (Nat.le_of_ble_eq_true rfl) ?_
  refine ARun.nil ?_
  refine AW.seq ?_
  refine AW.seq ?_
  refine AW.region ?_
  refine ARun.pure (PureOp.loadPtrAgg rfl (.tmp rfl) vfs_ag_29_2 rfl rfl (Nat.le_of_ble_eq_true rfl) (Nat.le_of_ble_eq_true rfl)) rfl rfl (Nat.le_of_ble_eq_true rfl) ?_
  refine ARun.pure (PureOp.call rfl (v_isHead h) ⟨⟨_, (.tmp rfl), ⟨.lst, .int, trivial⟩⟩, trivial⟩ vfs_ca_46 trivial) rfl rfl (Nat.le_of_ble_eq_true rfl) ?_
  refine ARun.pure (PureOp.not rfl (.tmp rfl)) rfl rfl (Nat.le_of_ble_eq_true rfl) ?_
  refine ARun.pure (PureOp.move rfl (.tmp rfl)) rfl rfl (Nat.le_of_ble_eq_true rfl) ?_
  refine ARun.gpure (want := false) (.tf rfl) (fun hg1 => PureOp.move rfl (.tmp rfl)) rfl rfl (Nat.le_of_ble_eq_true rfl) rfl (Nat.le_of_ble_eq_true rfl) ?_
  refine ARun.gpure (want := false) (.tf rfl) (fun hg2 => PureOp.lenLst rfl (.gtmp rfl hg2) vfs_sl_55) rfl rfl (Nat.le_of_ble_eq_true rfl) rfl (Nat.le_of_ble_eq_true rfl) ?_
  refine ARun.gpure (want := false) (.tf rfl) (fun hg3 => PureOp.intOp rfl (.gtmp rfl hg3) .int rfl) rfl rfl (Nat.le_of_ble_eq_true rfl) rfl (Nat.le_of_ble_eq_true rfl) ?_
  refine ARun.pure (PureOp.pick rfl (.tmp rfl) (fun _ => .bool) (fun hp5 => .gtmp rfl (not_of hp5))) rfl rfl (Nat.le_of_ble_eq_true rfl) ?_
  refine ARun.nil ?_
  refine AW.cond (.tmp rfl) (fun hb6 => ?_) (fun hb6 => ?_)
  · have _u := True.intro
    have hno : ¬ FoldOk h l := no_fold (a := true) (b := false) (by rw [show cond (cond (!goodHead h) true (decide ((60 : Int) < (l.length : Int)))) true false = cond (!goodHead h) true (decide ((60 : Int) < (l.length : Int))) from by cases (cond (!goodHead h) true (decide ((60 : Int) < (l.length : Int)))) <;> rfl]; exact hb6) (fun e => by cases e)
    refine AW.seq ?_
    refine AW.region ?_
    refine ARun.pure (PureOp.build (ys := []) (l := [.con (.slice none 0 0), .int .i64 0]) (pl := [(0, 1), (1, 1)]) (z := (.agg #[.slice none 0 0, .int .i64 0])) rfl (by kernel_rfl) (by kernel_rfl) (fun _ _ _ => ⟨_, _, rfl, rfl, ⟨_, _, rfl, rfl, rfl⟩⟩) trivial rfl) rfl rfl (Nat.le_of_ble_eq_true rfl) ?_
    refine ARun.store rfl (.tmp rfl) (.tmp rfl) (SV.cells_of (by exact ⟨⟨rfl, (fun _ e => by cases e), (fun _ e => by cases e)⟩, trivial, trivial⟩)) rfl (Nat.le_of_ble_eq_true rfl) vfs_sz_29_2 rfl rfl ?_
    refine ARun.pure (PureOp.assign rfl .con) rfl rfl (Nat.le_of_ble_eq_true rfl) ?_
    refine ARun.pure (PureOp.assign rfl .bool) rfl rfl (Nat.le_of_ble_eq_true rfl) ?_
    refine ARun.nil ?_
    rw [foldV_no hno]
    exact AW.ret (show ∃ s t, ResL _ _ [.cell 4 29, .tmp 5, .tmp 6] s ∧ TvS _ (ofLeaf t) 0 s _ from ⟨_, fun a b => 1000, .inr (.inr (.inl ⟨_, _, _, _, _, _, rfl, .cells rfl vfs_ag_29_2 rfl rfl (Nat.le_of_ble_eq_true rfl) (Nat.le_of_ble_eq_true rfl), .tmp rfl, .tmp rfl, rfl⟩)), ⟨⟨.nil, .int, trivial⟩, .nil, .bool⟩⟩)
  · have _u := True.intro
    obtain ⟨hgd, hln⟩ := fold_yes1 hb6
    refine AW.skip ?_
    refine AW.seq ?_
    refine AW.region ?_
    refine ARun.pure (PureOp.loadPtrAgg rfl (.tmp rfl) vfs_ag_29_2 rfl rfl (Nat.le_of_ble_eq_true rfl) (Nat.le_of_ble_eq_true rfl)) rfl rfl (Nat.le_of_ble_eq_true rfl) ?_
    refine ARun.pure (PureOp.move rfl (.tmp rfl)) rfl rfl (Nat.le_of_ble_eq_true rfl) ?_
    refine ARun.prod (K := 2) rfl (v_fold h l hgd hln) ⟨rfl, (by repeat first | exact trivial | refine ⟨by decide, by first | rfl | exact trivial | (intro a_ b_; first | exact getD_no rfl | exact rowC0_no rfl _ _ | ((try dsimp only); (repeat' split) <;> first | rfl | exact rowC0_no rfl _ _ | exact getD_no rfl)), ?_⟩)⟩ ⟨⟨_, (.tmp rfl), ⟨.lst, .int, trivial⟩⟩, ⟨_, (.tmp rfl), .lst⟩, trivial⟩ vfs_ca_61 rfl rfl rfl rfl rfl (Nat.le_of_ble_eq_true rfl) ?_
    refine ARun.pure (PureOp.ext3a rfl (.tmp rfl)) rfl rfl (Nat.le_of_ble_eq_true rfl) ?_
    refine ARun.pure (PureOp.ext3b rfl (.tmp rfl)) rfl rfl (Nat.le_of_ble_eq_true rfl) ?_
    refine ARun.pure (PureOp.ext3c rfl (.tmp rfl)) rfl rfl (Nat.le_of_ble_eq_true rfl) ?_
    refine ARun.store rfl (.tmp rfl) (.tmp rfl) (SV.cells_of (by exact ⟨trivial, trivial, trivial⟩)) rfl (Nat.le_of_ble_eq_true rfl) vfs_sz_29_2 rfl rfl ?_
    refine ARun.pure (PureOp.assign rfl (.tmp rfl)) rfl rfl (Nat.le_of_ble_eq_true rfl) ?_
    refine ARun.pure (PureOp.assign rfl (.tmp rfl)) rfl rfl (Nat.le_of_ble_eq_true rfl) ?_
    refine ARun.nil ?_
    exact AW.ret (show ∃ s t, ResL _ _ [.cell 4 29, .tmp 5, .tmp 6] s ∧ TvS _ (ofLeaf t) 0 s _ from ⟨_, fun a b => if a = 2 then b else 1000, .inr (.inr (.inl ⟨_, _, _, _, _, _, rfl, .cells rfl vfs_ag_29_2 rfl rfl (Nat.le_of_ble_eq_true rfl) (Nat.le_of_ble_eq_true rfl), .tmp rfl, .tmp rfl, rfl⟩)), ⟨⟨(Tv.cast (Tv.tre rfl (Nat.le_of_ble_eq_true rfl) (by rfl)) rfl), .int, trivial⟩, (Tv.cast (Tv.tre rfl (Nat.le_of_ble_eq_true rfl) (by rfl)) rfl), .bool⟩⟩)
end Go.Proofs.Ytmfkmifkkplidaa

