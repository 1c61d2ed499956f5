/-
  Part 5 of the proof: the texts of a seat's own library, joined.
-/
import Derived.Test.YtmfkmifkkplidaaFsa1
import Derived.Test.YtmfkmifkkplidaaFsa2
import Derived.Test.YtmfkmifkkplidaaFsa4
/-
  FoldSays: the reference and the program make the same.
-/
namespace Go.Proofs.Ytmfkmifkkplidaa
open Go.ChangeShapes Go.WideShapes Go.ChangeAt Go.RowKit Go.BigFrame Go.Deep
set_option linter.unusedVariables false
set_option linter.unusedSimpArgs false
theorem vfs_ag_29_2 : aggB Try.prog 29 2 = true := by kernel_rfl
theorem vfs_ag_47_3 : aggB Try.prog 47 3 = true := by kernel_rfl
theorem vfs_ca_10 : callB Try.prog 10 = true := by kernel_rfl
theorem vfs_ca_46 : callB Try.prog 46 = true := by kernel_rfl
theorem vfs_ca_55 : callB Try.prog 55 = true := by kernel_rfl
theorem vfs_ca_56 : callB Try.prog 56 = true := by kernel_rfl
theorem vfs_ca_57 : callB Try.prog 57 = true := by kernel_rfl
theorem vfs_ca_58 : callB Try.prog 58 = true := by kernel_rfl
theorem vfs_ca_59 : callB Try.prog 59 = true := by kernel_rfl
theorem vfs_ca_60 : callB Try.prog 60 = true := by kernel_rfl
theorem vfs_ca_61 : callB Try.prog 61 = true := by kernel_rfl
theorem vfs_el_55_3 : elemB Try.prog 55 3 = true := by kernel_rfl
theorem vfs_fi_29_1_1 : fieldB Try.prog 29 1 1 = true := by kernel_rfl
theorem vfs_pl_3 : plainB Try.prog 3 = true := by kernel_rfl
theorem vfs_sl_52 : sliceB Try.prog 52 = true := by kernel_rfl
theorem vfs_sl_55 : sliceB Try.prog 55 = true := by kernel_rfl
theorem vfs_sz_29_2 : sizeB Try.prog 29 2 = true := by kernel_rfl
theorem vfs_sz_47_3 : sizeB Try.prog 47 3 = true := by kernel_rfl
/-- The head after k measurements of l. -/
def foldH (h : GHead) (l : List GSay) : Nat → GHead
  | 0 => h
  | k + 1 => takeH (foldH h l k) (l.getD k (default : GSay))
def codeAt (h : GHead) (l : List GSay) (k : Nat) : Nat := takeCode (foldH h l k) (l.getD k (default : GSay))
def codesL (h : GHead) (l : List GSay) (n : Nat) : List Int := (List.range n).map fun k => ((codeAt h l k : Nat) : Int)
def allSay (l : List GSay) : Bool := (List.range l.length).all fun k => sayB (l.getD k (default : GSay))
structure FoldOk (h : GHead) (l : List GSay) : Prop where
  good : goodHead h = true
  len : l.length ≤ 60
  off : h.offset + (l.length : Int) ≤ 1000
  says : ∀ k, k < l.length → sayB (l.getD k (default : GSay)) = true
open Classical in
noncomputable def foldV (h : GHead) (l : List GSay) : GHead × List Int × Bool := if FoldOk h l then (foldH h l l.length, codesL h l l.length, true) else (⟨[], 0⟩, [], false)
theorem foldV_no {h : GHead} {l : List GSay} (hn : ¬ FoldOk h l) : foldV h l = (⟨[], 0⟩, [], false) := if_neg hn
theorem foldV_yes {h : GHead} {l : List GSay} (hn : FoldOk h l) : foldV h l = (foldH h l l.length, codesL h l l.length, true) := if_pos hn
theorem codes_len (h : GHead) (l : List GSay) (n : Nat) : (codesL h l n).length = n := by simp [codesL]
theorem codes_at (h : GHead) (l : List GSay) {n k : Nat} (hk : k < n) : (codesL h l n).getD k 0 = ((codeAt h l k : Nat) : Int) := by
  rw [List.getD_eq_getElem?_getD]; simp [codesL, hk]
theorem fold_off (h : GHead) (l : List GSay) : ∀ k, (foldH h l k).offset = h.offset + (k : Int)
  | 0 => by show h.offset = h.offset + ((0 : Nat) : Int); omega
  | k + 1 => by
    show (foldH h l k).offset + 1 = _
    rw [fold_off h l k]; omega
theorem fold_good {h : GHead} {l : List GSay} (hg : goodHead ⟨h.rows, 0⟩ = true) : ∀ k, (∀ j, j < k → sayB (l.getD j (default : GSay)) = true) → goodHead ⟨(foldH h l k).rows, 0⟩ = true
  | 0, _ => hg
  | k + 1, hs => good_take (fold_good hg k fun j hj => hs j (by omega)) (hs k (by omega))
theorem no_fold {h : GHead} {l : List GSay} {a b : Bool} (e : cond (cond (!goodHead h) true (decide ((60 : Int) < (l.length : Int)))) true b = true) (hb : b = true → 1000 < h.offset + (l.length : Int)) : ¬ FoldOk h l := fun F => by
  rw [F.good, decide_eq_false (by have := F.len; omega)] at e
  have := hb e
  have := F.off
  omega
theorem fold_yes {h : GHead} {l : List GSay} {b : Bool} (e : cond (cond (!goodHead h) true (decide ((60 : Int) < (l.length : Int)))) true b = false) : goodHead h = true ∧ l.length ≤ 60 ∧ b = false := by
  by_cases hc : (60 : Int) < (l.length : Int)
  · rw [decide_eq_true hc] at e; revert e; cases goodHead h <;> simp
  · rw [decide_eq_false hc] at e
    have h1 : l.length ≤ 60 := by omega
    revert e; cases goodHead h <;> simp [h1]
theorem fold_yes1 {h : GHead} {l : List GSay} (e : cond (!goodHead h) true (decide ((60 : Int) < (l.length : Int))) = false) : goodHead h = true ∧ l.length ≤ 60 := by
  have := fold_yes (b := false) (h := h) (l := l) (by rw [e]; rfl)
  exact ⟨this.1, this.2.1⟩
theorem fold_stop {h : GHead} {l : List GSay} {k : Nat} (hk : k < l.length) (e : cond (!sayB (l.getD k (default : GSay))) true (decide ((foldH h l k).offset = 1000)) = true) : ¬ FoldOk h l := fun F => by
  rw [F.says k hk] at e
  have hq : (foldH h l k).offset = 1000 := of_decide_eq_true e
  have := F.off
  rw [fold_off] at hq
  omega
theorem fold_on {h : GHead} {l : List GSay} {k : Nat} (e : cond (!sayB (l.getD k (default : GSay))) true (decide ((foldH h l k).offset = 1000)) = false) : sayB (l.getD k (default : GSay)) = true ∧ ¬ h.offset + (k : Int) = 1000 := by
  rw [← fold_off h l k]
  by_cases hc : (foldH h l k).offset = 1000
  · rw [decide_eq_true hc] at e; revert e; cases sayB (l.getD k (default : GSay)) <;> simp
  · rw [decide_eq_false hc] at e
    revert e; cases sayB (l.getD k (default : GSay)) <;> simp [hc]

theorem v_sFold (h : GHead) (l : List GSay) : FnT Try.prog 28 [.agg [.lst 2 h.rows.length (fun i0 j0 => ([.str ((h.rows.getD i0 (default : GRow)).name), .lst 2 (((h.rows.getD i0 (default : GRow)).samples).length) (fun i1 j1 => ([.int .i64 ((((h.rows.getD i0 (default : GRow)).samples).getD i1 (default : GSample)).at_), .int .i64 ((((h.rows.getD i0 (default : GRow)).samples).getD i1 (default : GSample)).value)] : List AV).getD j1 (.con undef))] : List AV).getD j0 (.con undef)), .int .i64 h.offset], .one (.lst 3 l.length (fun i0 j0 => ([.str ((l.getD i0 (default : GSay)).name), .int .i64 ((l.getD i0 (default : GSay)).at_), .int .i64 ((l.getD i0 (default : GSay)).value)] : List AV).getD j0 (.con undef)))] (.tup3 (.agg [.lst 2 ((((foldV h l).1).rows).length) (fun i0 j0 => ([.str (((((foldV h l).1).rows).getD i0 (default : GRow)).name), .lst 2 ((((((foldV h l).1).rows).getD i0 (default : GRow)).samples).length) (fun i1 j1 => ([.int .i64 (((((((foldV h l).1).rows).getD i0 (default : GRow)).samples).getD i1 (default : GSample)).at_), .int .i64 (((((((foldV h l).1).rows).getD i0 (default : GRow)).samples).getD i1 (default : GSample)).value)] : List AV).getD j1 (.con undef))] : List AV).getD j0 (.con undef)), .int .i64 (((foldV h l).1).offset)]) (.one (.lst 1 (((foldV h l).2.1).length) (fun i0 _ => .int .i64 (((foldV h l).2.1).getD i0 0)))) (.one (.bool ((foldV h l).2.2)))) := by
  refine FnT.of_body (fn := Try.f28) Try.func28 rfl (Nat.le_of_ble_eq_true rfl)  ?_
  intro w0
  show AW _ 57 _ _ _ _
  refine AW.seq ?_
  refine AW.region ?_
  refine ARun.box (id := 0) rfl (.tmp rfl) (SV.cells_of (by exact ⟨trivial, trivial, trivial⟩)) ⟨rfl, (by repeat first | exact trivial | refine ⟨by decide, by first | rfl | exact trivial | (intro a_ b_; first | exact getD_no rfl | exact rowC0_no rfl _ _ | ((try dsimp only); (repeat' split) <;> first | rfl | exact rowC0_no rfl _ _ | exact getD_no rfl)), ?_⟩)⟩ rfl rfl rfl (Nat.le_of_ble_eq_true rfl) ?_
  refine ARun.alloc (id := 1) (l := [.con (.slice none 0 0), .int .i64 0]) (z := (.agg #[.slice none 0 0, .int .i64 0])) rfl (by kernel_rfl) (fun _ _ _ => ⟨_, _, rfl, rfl, ⟨_, _, rfl, rfl, rfl⟩⟩) ⟨rfl, (by repeat first | exact trivial | refine ⟨by decide, by first | rfl | exact trivial | (intro a_ b_; first | exact getD_no rfl | exact rowC0_no rfl _ _ | ((try dsimp only); (repeat' split) <;> first | rfl | exact rowC0_no rfl _ _ | exact getD_no rfl)), ?_⟩)⟩ rfl rfl rfl (Nat.le_of_ble_eq_true rfl) ?_
  refine ARun.pure (PureOp.assign rfl .con) rfl rfl (Nat.le_of_ble_eq_true rfl) ?_
  refine ARun.pure (PureOp.assign rfl .bool) rfl rfl (Nat.le_of_ble_eq_true rfl) ?_
  refine ARun.nil ?_
  refine AW.seq ?_
  refine AW.seq ?_
  refine AW.region ?_
  refine ARun.pure (PureOp.loadPtrAgg rfl (.tmp rfl) vfs_ag_29_2 rfl rfl (Nat.le_of_ble_eq_true rfl) (Nat.le_of_ble_eq_true rfl)) rfl rfl (Nat.le_of_ble_eq_true rfl) ?_
  refine ARun.pure (PureOp.call rfl (v_specGoodHead h) ⟨⟨_, (.tmp rfl), ⟨.lst, .int, trivial⟩⟩, trivial⟩ vfs_ca_10 trivial) rfl rfl (Nat.le_of_ble_eq_true rfl) ?_
  refine ARun.pure (PureOp.not rfl (.tmp rfl)) rfl rfl (Nat.le_of_ble_eq_true rfl) ?_
  refine ARun.pure (PureOp.move rfl (.tmp rfl)) rfl rfl (Nat.le_of_ble_eq_true rfl) ?_
  refine ARun.gpure (want := false) (.tf rfl) (fun hg1 => PureOp.move rfl (.tmp rfl)) rfl rfl (Nat.le_of_ble_eq_true rfl) rfl (Nat.le_of_ble_eq_true rfl) ?_
  refine ARun.gpure (want := false) (.tf rfl) (fun hg2 => PureOp.lenLst rfl (.gtmp rfl hg2) vfs_sl_55) rfl rfl (Nat.le_of_ble_eq_true rfl) rfl (Nat.le_of_ble_eq_true rfl) ?_
  refine ARun.gpure (want := false) (.tf rfl) (fun hg3 => PureOp.intOp rfl (.gtmp rfl hg3) .int rfl) rfl rfl (Nat.le_of_ble_eq_true rfl) rfl (Nat.le_of_ble_eq_true rfl) ?_
  refine ARun.pure (PureOp.pick rfl (.tmp rfl) (fun _ => .bool) (fun hp5 => .gtmp rfl (not_of hp5))) rfl rfl (Nat.le_of_ble_eq_true rfl) ?_
  refine ARun.pure (PureOp.move rfl (.tmp rfl)) rfl rfl (Nat.le_of_ble_eq_true rfl) ?_
  refine ARun.gpure (want := false) (.tf rfl) (fun hg6 => PureOp.move rfl (.tmp rfl)) rfl rfl (Nat.le_of_ble_eq_true rfl) rfl (Nat.le_of_ble_eq_true rfl) ?_
  refine ARun.gpure (want := false) (.tf rfl) (fun hg7 => PureOp.lenLst rfl (.gtmp rfl hg7) vfs_sl_55) rfl rfl (Nat.le_of_ble_eq_true rfl) rfl (Nat.le_of_ble_eq_true rfl) ?_
  refine ARun.gpure (want := false) (.tf rfl) (fun hg8 => PureOp.fieldPtr rfl (.tmp rfl) vfs_fi_29_1_1) rfl rfl (Nat.le_of_ble_eq_true rfl) rfl (Nat.le_of_ble_eq_true rfl) ?_
  refine ARun.gpure (want := false) (.tf rfl) (fun hg9 => PureOp.loadPtr rfl (.gtmp rfl hg9) vfs_pl_3 rfl rfl (Nat.le_of_ble_eq_true rfl) (Nat.le_of_ble_eq_true rfl)) rfl rfl (Nat.le_of_ble_eq_true rfl) rfl (Nat.le_of_ble_eq_true rfl) ?_
  refine ARun.gpure (want := false) (.tf rfl) (fun hg10 => PureOp.sub (c := 1000 - h.offset) rfl .int (.gtmp rfl hg10) (wrap_id (by have hgq := good_off (h := h) (by have q := hg10; revert q; cases goodHead h <;> simp); omega) (by have hgq := good_off (h := h) (by have q := hg10; revert q; cases goodHead h <;> simp); omega))) rfl rfl (Nat.le_of_ble_eq_true rfl) rfl (Nat.le_of_ble_eq_true rfl) ?_
  refine ARun.gpure (want := false) (.tf rfl) (fun hg11 => PureOp.intOp rfl (.gtmp rfl hg11) (.gtmp rfl hg11) rfl) rfl rfl (Nat.le_of_ble_eq_true rfl) rfl (Nat.le_of_ble_eq_true rfl) ?_
  refine ARun.pure (PureOp.pick rfl (.tmp rfl) (fun _ => .bool) (fun hp13 => .gtmp rfl (not_of hp13))) rfl rfl (Nat.le_of_ble_eq_true rfl) ?_
  refine ARun.nil ?_
  refine AW.cond (.tmp rfl) (fun hb14 => ?_) (fun hb14 => ?_)
  · have _u := True.intro
    have hno : ¬ FoldOk h l := no_fold (a := true) hb14 (fun e => by have := of_decide_eq_true e; omega)
    refine AW.seq ?_
    refine AW.region ?_
    refine ARun.pure (PureOp.build (ys := []) (l := [.con (.slice none 0 0), .int .i64 0]) (pl := [(0, 1), (1, 1)]) (z := (.agg #[.slice none 0 0, .int .i64 0])) rfl (by kernel_rfl) (by kernel_rfl) (fun _ _ _ => ⟨_, _, rfl, rfl, ⟨_, _, rfl, rfl, rfl⟩⟩) trivial rfl) rfl rfl (Nat.le_of_ble_eq_true rfl) ?_
    refine ARun.store rfl (.tmp rfl) (.tmp rfl) (SV.cells_of (by exact ⟨⟨rfl, (fun _ e => by cases e), (fun _ e => by cases e)⟩, trivial, trivial⟩)) rfl (Nat.le_of_ble_eq_true rfl) vfs_sz_29_2 rfl rfl ?_
    refine ARun.pure (PureOp.assign rfl .con) rfl rfl (Nat.le_of_ble_eq_true rfl) ?_
    refine ARun.pure (PureOp.assign rfl .bool) rfl rfl (Nat.le_of_ble_eq_true rfl) ?_
    refine ARun.nil ?_
    rw [foldV_no hno]
    exact AW.ret (show ∃ s t, ResL _ _ [.cell 4 29, .tmp 5, .tmp 6] s ∧ TvS _ (ofLeaf t) 0 s _ from ⟨_, fun a b => 1000, .inr (.inr (.inl ⟨_, _, _, _, _, _, rfl, .cells rfl vfs_ag_29_2 rfl rfl (Nat.le_of_ble_eq_true rfl) (Nat.le_of_ble_eq_true rfl), .tmp rfl, .tmp rfl, rfl⟩)), ⟨⟨.nil, .int, trivial⟩, .nil, .bool⟩⟩)
  · have _u := True.intro
    obtain ⟨hgd, hln, hbb⟩ := fold_yes hb14
    have hof := good_off hgd
    have hg0 := good0 hgd
    have hol : h.offset + (l.length : Int) ≤ 1000 := by have := of_decide_eq_false hbb; omega
    refine AW.skip ?_
    refine AW.seq ?_
    refine AW.region ?_
    refine ARun.pure (PureOp.loadPtrAgg rfl (.tmp rfl) vfs_ag_29_2 rfl rfl (Nat.le_of_ble_eq_true rfl) (Nat.le_of_ble_eq_true rfl)) rfl rfl (Nat.le_of_ble_eq_true rfl) ?_
    refine ARun.prod (K := 2) rfl (v_l13Own h (hd_ok hg0)) ⟨rfl, (by repeat first | exact trivial | refine ⟨by decide, by first | rfl | exact trivial | (intro a_ b_; first | exact getD_no rfl | exact rowC0_no rfl _ _ | ((try dsimp only); (repeat' split) <;> first | rfl | exact rowC0_no rfl _ _ | exact getD_no rfl)), ?_⟩)⟩ ⟨⟨_, (.tmp rfl), ⟨.lst, .int, trivial⟩⟩, trivial⟩ vfs_ca_57 rfl rfl rfl rfl rfl (Nat.le_of_ble_eq_true rfl) ?_
    refine ARun.openAgg 31 0 2 0 2 2 1 h.rows.length 3 4 [.tre 2 0, .int .i64 h.offset] [.own 3 2 h.rows.length, .int .i64 h.offset] (fun p => ([.lst 2 h.rows.length (fun i0 j0 => ([.str ((h.rows.getD i0 (default : GRow)).name), .lst 2 (((h.rows.getD i0 (default : GRow)).samples).length) (fun i1 j1 => ([.int .i64 ((((h.rows.getD i0 (default : GRow)).samples).getD i1 (default : GSample)).at_), .int .i64 ((((h.rows.getD i0 (default : GRow)).samples).getD i1 (default : GSample)).value)] : List AV).getD j1 (.con undef))] : List AV).getD j0 (.con undef)), .int .i64 h.offset] : List AV).getD p (.con undef)) (fun i0 j0 => ([.str ((h.rows.getD i0 (default : GRow)).name), .lst 2 (((h.rows.getD i0 (default : GRow)).samples).length) (fun i1 j1 => ([.int .i64 ((((h.rows.getD i0 (default : GRow)).samples).getD i1 (default : GSample)).at_), .int .i64 ((((h.rows.getD i0 (default : GRow)).samples).getD i1 (default : GSample)).value)] : List AV).getD j1 (.con undef))] : List AV).getD j0 (.con undef)) (rowC0 h 4) rfl rfl rfl rfl (by decide) rfl (by decide) (fun _ _ => ⟨_, _, _, rfl⟩) (fun i j _ hj hne => match j, hj, hne with | 0, _, _ => rfl | 1, _, h => absurd rfl h | _ + 2, h, _ => absurd h (by omega)) ⟨rfl, (by repeat first | exact trivial | refine ⟨by decide, by first | rfl | exact trivial | (intro a_ b_; first | exact getD_no rfl | exact rowC0_no rfl _ _ | ((try dsimp only); (repeat' split) <;> first | rfl | exact rowC0_no rfl _ _ | exact getD_no rfl)), ?_⟩)⟩ ⟨rfl, (by repeat first | exact trivial | refine ⟨by decide, by first | rfl | exact trivial | (intro a_ b_; first | exact getD_no rfl | exact rowC0_no rfl _ _ | ((try dsimp only); (repeat' split) <;> first | rfl | exact rowC0_no rfl _ _ | exact getD_no rfl)), ?_⟩)⟩ (by decide) (fun i j _ hj => match j, hj with | 0, _ => rfl | 1, _ => rfl | _ + 2, h => absurd h (by omega)) ?_
    refine ARun.alloc (id := 5) (l := [.con (.slice none 0 0), .int .i64 0]) (z := (.agg #[.slice none 0 0, .int .i64 0])) rfl (by kernel_rfl) (fun _ _ _ => ⟨_, _, rfl, rfl, ⟨_, _, rfl, rfl, rfl⟩⟩) ⟨rfl, (by repeat first | exact trivial | refine ⟨by decide, by first | rfl | exact trivial | (intro a_ b_; first | exact getD_no rfl | exact rowC0_no rfl _ _ | ((try dsimp only); (repeat' split) <;> first | rfl | exact rowC0_no rfl _ _ | exact getD_no rfl)), ?_⟩)⟩ rfl rfl rfl (Nat.le_of_ble_eq_true rfl) ?_
    refine ARun.store rfl (.tmp rfl) (.tmp rfl) (SV.cells_of (by exact ⟨trivial, trivial, trivial⟩)) rfl (Nat.le_of_ble_eq_true rfl) vfs_sz_29_2 rfl rfl ?_
    refine ARun.nil ?_
    refine AW.seq ?_
    refine AW.region ?_
    refine ARun.pure (PureOp.assign rfl .con) rfl rfl (Nat.le_of_ble_eq_true rfl) ?_
    refine ARun.nil ?_
    refine AW.seq ?_
    refine AW.seq ?_
    refine AW.region ?_
    refine ARun.pure (PureOp.move rfl (.tmp rfl)) rfl rfl (Nat.le_of_ble_eq_true rfl) ?_
    refine ARun.pure (PureOp.lenLst rfl (.tmp rfl) vfs_sl_55) rfl rfl (Nat.le_of_ble_eq_true rfl) ?_
    refine ARun.pure (PureOp.move rfl .int) rfl rfl (Nat.le_of_ble_eq_true rfl) ?_
    refine ARun.nil ?_
    refine AW.block ?_
    refine AW.nilSlot 8 6 1 (fun i _ => .int .i64 ((codeAt h l i : Nat) : Int)) rfl ⟨rfl, (by repeat first | exact trivial | refine ⟨by decide, by first | rfl | exact trivial | (intro a_ b_; first | exact getD_no rfl | exact rowC0_no rfl _ _ | ((try dsimp only); (repeat' split) <;> first | rfl | exact rowC0_no rfl _ _ | exact getD_no rfl)), ?_⟩)⟩ ?_
    -- objects are renamed
    refine AW.loopR (ι := Nat) (fun k => ⟨[(4, .one (.ptr 1 2 0 0)), (7, .one (.ptr 5 2 0 0)), (8, .one (.own 6 1 k)), (32, .one (.lst 3 l.length (fun i0 j0 => ([.str ((l.getD i0 (default : GSay)).name), .int .i64 ((l.getD i0 (default : GSay)).at_), .int .i64 ((l.getD i0 (default : GSay)).value)] : List AV).getD j0 (.con undef)))), (33, .one (.int .i64 (l.length : Int))), (34, .one (.int .i64 (k : Int)))], [(1, .cells [.con (.slice none 0 0), .int .i64 0]), (3, .arr 2 ((foldH h l k).rows.length) (rowC0 (foldH h l k) 4)), (4, .trees ((foldH h l k).rows.length) (rowX0 (foldH h l k))), (5, .cells [.own 3 2 ((foldH h l k).rows.length), .int .i64 ((foldH h l k).offset)]), (6, .arr 1 k (fun i _ => .int .i64 ((codeAt h l i : Nat) : Int)))]⟩) (fun k => k ≤ l.length ∧ ∀ j, j < k → sayB (l.getD j (default : GSay)) = true) (fun k => l.length - k) 0 ⟨Nat.zero_le _, fun j hj => absurd hj (by omega)⟩ ⟨⟨⟨_, rfl, rfl⟩, ⟨_, rfl, rfl⟩, ⟨_, rfl, rfl⟩, ⟨_, rfl, rfl⟩, ⟨_, rfl, rfl⟩, ⟨_, rfl, rfl⟩, trivial⟩, ⟨⟨_, rfl, rfl, Nat.le_refl _, fun _ _ _ _ => rfl⟩, ⟨_, rfl, rfl, Nat.le_refl _, fun _ _ _ _ => rfl⟩, ⟨_, rfl, fun _ _ => rfl⟩, ⟨_, rfl, rfl, Nat.le_refl _, fun _ _ _ _ => rfl⟩, ⟨_, rfl, rfl, Nat.le_refl _, fun _ _ _ _ => rfl⟩, trivial⟩⟩ ?_
    intro k hI
    obtain ⟨hk, hsy⟩ := hI
    refine AW.seq ?_
    refine AW.region ?_
    refine ARun.pure (PureOp.intOp rfl (.tmp rfl) (.tmp rfl) rfl) rfl rfl (Nat.le_of_ble_eq_true rfl) ?_
    refine ARun.nil ?_
    refine AW.seq ?_
    refine AW.cond (.tmp rfl) (fun hb15 => ?_) (fun hb15 => ?_)
    · have _u := True.intro
      replace hb15 := of_decide_eq_true hb15
      have hkl : k < l.length := by omega
      have hgk := fold_good hg0 k hsy
      have hfk := fold_off h l k
      refine AW.skip ?_
      refine AW.seq ?_
      refine AW.block ?_
      refine AW.seq ?_
      refine AW.region ?_
      refine ARun.pure (PureOp.indexLst (i := k) rfl (.tmp rfl) vfs_el_55_3 (.tmp rfl) rfl (by exact (show k < l.length from by omega))) rfl rfl (Nat.le_of_ble_eq_true rfl) ?_
      refine ARun.pure (PureOp.loadRefAgg rfl (.tmp rfl) vfs_ag_47_3 (Nat.le_of_ble_eq_true rfl)) rfl rfl (Nat.le_of_ble_eq_true rfl) ?_
      refine ARun.alloc (id := 7) (l := [.str ByteArray.empty, .int .i64 0, .int .i64 0]) (z := (.agg #[.string ByteArray.empty, .int .i64 0, .int .i64 0])) rfl (by kernel_rfl) (fun _ _ _ => ⟨_, _, rfl, ⟨rfl, by decide⟩, ⟨_, _, rfl, rfl, ⟨_, _, rfl, rfl, rfl⟩⟩⟩) ⟨rfl, (by repeat first | exact trivial | refine ⟨by decide, by first | rfl | exact trivial | (intro a_ b_; first | exact getD_no rfl | exact rowC0_no rfl _ _ | ((try dsimp only); (repeat' split) <;> first | rfl | exact rowC0_no rfl _ _ | exact getD_no rfl)), ?_⟩)⟩ rfl rfl rfl (Nat.le_of_ble_eq_true rfl) ?_
      refine ARun.store rfl (.tmp rfl) (.tmp rfl) (SV.cells_of (by exact ⟨trivial, trivial, trivial, trivial⟩)) rfl (Nat.le_of_ble_eq_true rfl) vfs_sz_47_3 rfl rfl ?_
      refine ARun.nil ?_
      refine AW.seq ?_
      refine AW.seq ?_
      refine AW.region ?_
      refine ARun.pure (PureOp.loadPtrAgg rfl (.tmp rfl) vfs_ag_47_3 rfl rfl (Nat.le_of_ble_eq_true rfl) (Nat.le_of_ble_eq_true rfl)) rfl rfl (Nat.le_of_ble_eq_true rfl) ?_
      refine ARun.pure (PureOp.call rfl (v_l13Say (l.getD k (default : GSay))) ⟨⟨_, (.tmp rfl), ⟨.str, .int, .int, trivial⟩⟩, trivial⟩ vfs_ca_55 trivial) rfl rfl (Nat.le_of_ble_eq_true rfl) ?_
      refine ARun.pure (PureOp.not rfl (.tmp rfl)) rfl rfl (Nat.le_of_ble_eq_true rfl) ?_
      refine ARun.nil ?_
      refine AW.cond (.tmp rfl) (fun hb16 => ?_) (fun hb16 => ?_)
      · have _u := True.intro
        have hno : ¬ FoldOk h l := fun F => by rw [F.says k hkl] at hb16; cases hb16
        refine AW.seq ?_
        refine AW.region ?_
        refine ARun.pure (PureOp.build (ys := []) (l := [.con (.slice none 0 0), .int .i64 0]) (pl := [(0, 1), (1, 1)]) (z := (.agg #[.slice none 0 0, .int .i64 0])) rfl (by kernel_rfl) (by kernel_rfl) (fun _ _ _ => ⟨_, _, rfl, rfl, ⟨_, _, rfl, rfl, rfl⟩⟩) trivial rfl) rfl rfl (Nat.le_of_ble_eq_true rfl) ?_
        refine ARun.store rfl (.tmp rfl) (.tmp rfl) (SV.cells_of (by exact ⟨⟨rfl, (fun _ e => by cases e), (fun _ e => by cases e)⟩, trivial, trivial⟩)) rfl (Nat.le_of_ble_eq_true rfl) vfs_sz_29_2 rfl rfl ?_
        refine ARun.pure (PureOp.assign rfl .con) rfl rfl (Nat.le_of_ble_eq_true rfl) ?_
        refine ARun.pure (PureOp.assign rfl .bool) rfl rfl (Nat.le_of_ble_eq_true rfl) ?_
        refine ARun.nil ?_
        rw [foldV_no hno]
        exact AW.ret (show ∃ s t, ResL _ _ [.cell 4 29, .tmp 5, .tmp 6] s ∧ TvS _ (ofLeaf t) 0 s _ from ⟨_, fun a b => 1000, .inr (.inr (.inl ⟨_, _, _, _, _, _, rfl, .cells rfl vfs_ag_29_2 rfl rfl (Nat.le_of_ble_eq_true rfl) (Nat.le_of_ble_eq_true rfl), .tmp rfl, .tmp rfl, rfl⟩)), ⟨⟨.nil, .int, trivial⟩, .nil, .bool⟩⟩)
      · have _u := True.intro
        have hsk : sayB (l.getD k (default : GSay)) = true := not_f hb16
        refine AW.skip ?_
        refine AW.seq ?_
        refine AW.region ?_
        refine ARun.pure (PureOp.loadPtrAgg rfl (.tmp rfl) vfs_ag_29_2 rfl rfl (Nat.le_of_ble_eq_true rfl) (Nat.le_of_ble_eq_true rfl)) rfl rfl (Nat.le_of_ble_eq_true rfl) ?_
        refine ARun.pure (PureOp.loadPtrAgg rfl (.tmp rfl) vfs_ag_47_3 rfl rfl (Nat.le_of_ble_eq_true rfl) (Nat.le_of_ble_eq_true rfl)) rfl rfl (Nat.le_of_ble_eq_true rfl) ?_
        refine ARun.mutx (Hr := [(1, .cells [.con (.slice none 0 0), .int .i64 0]), (5, .cells [.own 3 2 ((foldH h l k).rows.length), .int .i64 ((foldH h l k).offset)]), (6, .arr 1 k (fun i _ => .int .i64 ((codeAt h l i : Nat) : Int))), (7, .cells [.str ((l.getD k (default : GSay)).name), .int .i64 ((l.getD k (default : GSay)).at_), .int .i64 ((l.getD k (default : GSay)).value)])]) (Hn := [(1, .cells [.con (.slice none 0 0), .int .i64 0]), (5, .cells [.own 3 2 ((foldH h l k).rows.length), .int .i64 ((foldH h l k).offset)]), (6, .arr 1 k (fun i _ => .int .i64 ((codeAt h l i : Nat) : Int))), (7, .cells [.str ((l.getD k (default : GSay)).name), .int .i64 ((l.getD k (default : GSay)).at_), .int .i64 ((l.getD k (default : GSay)).value)]), (8, .arr 2 ((takeH (foldH h l k) (l.getD k (default : GSay))).rows.length) (rowC0 (takeH (foldH h l k) (l.getD k (default : GSay))) 9)), (9, .trees ((takeH (foldH h l k) (l.getD k (default : GSay))).rows.length) (rowX0 (takeH (foldH h l k) (l.getD k (default : GSay)))))]) (g := fun zz => if zz = 1000001 then 3 else if zz = 1000002 then 4 else zz) (g' := fun zz => if zz = 1000001 then 3 else if zz = 1000002 then 4 else if zz = 77 then 8 else if zz = 78 then 9 else zz) (K := [77, 78]) (T := [(8, 77), (9, 78)]) rfl (v_l13Take (foldH h l k) (l.getD k (default : GSay)) hgk ⟨by rw [hfk]; omega, by rw [hfk]; omega⟩) vfs_ca_56 ⟨.inr (.tmp rfl), ⟨.inl ⟨_, (.tmp rfl), ⟨.str, .int, .int, trivial⟩⟩, trivial⟩⟩ ⟨⟨_, rfl, ⟨rfl, rfl, fun a b _ _ => rowC0_ren (h := (foldH h l k)) (K := 1000002) (K' := 4) rfl a b⟩⟩, ⟨_, rfl, ⟨rfl, fun _ _ => rfl⟩⟩, trivial⟩ ⟨⟨rfl, rfl⟩, ⟨rfl, rfl⟩, ⟨rfl, rfl⟩, ⟨rfl, rfl⟩, trivial⟩ rfl ⟨⟨rfl, (by repeat first | exact trivial | refine ⟨by decide, by first | rfl | exact trivial | (intro a_ b_; first | exact getD_no rfl | exact rowC0_no rfl _ _ | ((try dsimp only); (repeat' split) <;> first | rfl | exact rowC0_no rfl _ _ | exact getD_no rfl)), ?_⟩)⟩, ⟨rfl, (by repeat first | exact trivial | refine ⟨by decide, by first | rfl | exact trivial | (intro a_ b_; first | exact getD_no rfl | exact rowC0_no rfl _ _ | ((try dsimp only); (repeat' split) <;> first | rfl | exact rowC0_no rfl _ _ | exact getD_no rfl)), ?_⟩)⟩, trivial⟩ (by kernel_rfl) (by kernel_rfl) (by kernel_rfl) ⟨.inl rfl, .inl rfl, .inl rfl, .inl rfl, .inr ⟨77, _, rfl, rfl, rfl, ⟨rfl, rfl, fun a b _ _ => rowC0_ren (h := (takeH (foldH h l k) (l.getD k (default : GSay)))) (K := 78) (K' := 9) rfl a b⟩, (fun a b _ _ => rowC0_hx rfl a b)⟩, .inr ⟨78, _, rfl, rfl, rfl, ⟨rfl, fun _ _ => rfl⟩, trivial⟩, trivial⟩ rfl rfl (Nat.le_of_ble_eq_true rfl) (r' := .tup2 (.agg [.own 8 2 ((takeH (foldH h l k) (l.getD k (default : GSay))).rows.length), .int .i64 ((takeH (foldH h l k) (l.getD k (default : GSay))).offset)]) (.one (.int .i64 ((takeCode (foldH h l k) (l.getD k (default : GSay)) : Nat) : Int)))) rfl ?_
        refine ARun.pure (PureOp.move rfl (.tmp rfl)) rfl rfl (Nat.le_of_ble_eq_true rfl) ?_
        refine ARun.pure (PureOp.ext2a rfl (.tmp rfl)) rfl rfl (Nat.le_of_ble_eq_true rfl) ?_
        refine ARun.pure (PureOp.ext2b rfl (.tmp rfl)) rfl rfl (Nat.le_of_ble_eq_true rfl) ?_
        refine ARun.alloc (id := 10) (l := [.con (.slice none 0 0), .int .i64 0]) (z := (.agg #[.slice none 0 0, .int .i64 0])) rfl (by kernel_rfl) (fun _ _ _ => ⟨_, _, rfl, rfl, ⟨_, _, rfl, rfl, rfl⟩⟩) ⟨rfl, (by repeat first | exact trivial | refine ⟨by decide, by first | rfl | exact trivial | (intro a_ b_; first | exact getD_no rfl | exact rowC0_no rfl _ _ | ((try dsimp only); (repeat' split) <;> first | rfl | exact rowC0_no rfl _ _ | exact getD_no rfl)), ?_⟩)⟩ rfl rfl rfl (Nat.le_of_ble_eq_true rfl) ?_
        refine ARun.store rfl (.tmp rfl) (.tmp rfl) (SV.cells_of (by exact ⟨trivial, trivial, trivial⟩)) rfl (Nat.le_of_ble_eq_true rfl) vfs_sz_29_2 rfl rfl ?_
        refine ARun.pure (PureOp.assign rfl (.tmp rfl)) rfl rfl (Nat.le_of_ble_eq_true rfl) ?_
        refine ARun.nil ?_
        refine AW.seq ?_
        refine AW.region ?_
        refine ARun.pure (PureOp.loadPtrAgg rfl (.tmp rfl) vfs_ag_29_2 rfl rfl (Nat.le_of_ble_eq_true rfl) (Nat.le_of_ble_eq_true rfl)) rfl rfl (Nat.le_of_ble_eq_true rfl) ?_
        refine ARun.store rfl (.tmp rfl) (.tmp rfl) (SV.cells_of (by exact ⟨trivial, trivial, trivial⟩)) rfl (Nat.le_of_ble_eq_true rfl) vfs_sz_29_2 rfl rfl ?_
        refine ARun.nil ?_
        refine AW.region ?_
        refine ARun.pure (PureOp.move rfl (.tmp rfl)) rfl rfl (Nat.le_of_ble_eq_true rfl) ?_
        refine ARun.pure (PureOp.move rfl (.tmp rfl)) rfl rfl (Nat.le_of_ble_eq_true rfl) ?_
        refine ARun.slice1 (id := 11) (z := (.int .i64 0)) (by_ := 8) rfl (.tmp rfl) trivial (by kernel_rfl) rfl rfl (by decide) (by decide) ⟨rfl, (by repeat first | exact trivial | refine ⟨by decide, by first | rfl | exact trivial | (intro a_ b_; first | exact getD_no rfl | exact rowC0_no rfl _ _ | ((try dsimp only); (repeat' split) <;> first | rfl | exact rowC0_no rfl _ _ | exact getD_no rfl)), ?_⟩)⟩ rfl rfl rfl (Nat.le_of_ble_eq_true rfl) ?_
        refine ARun.append (id := 12) (sz := 1) (n := k) (m := 1) (by_ := 8) (z := (.int .i64 0)) (f := fun i _ => .int .i64 ((codeAt h l i : Nat) : Int)) (g := fun _ jc => ([.int .i64 ((takeCode (foldH h l k) (l.getD k (default : GSay)) : Nat) : Int)] : List AV).getD jc (.con undef)) (h := fun ia ja => if ia < k then (fun i _ => .int .i64 ((codeAt h l i : Nat) : Int) : Nat → Nat → AV) ia ja else (fun _ jc => ([.int .i64 ((takeCode (foldH h l k) (l.getD k (default : GSay)) : Nat) : Int)] : List AV).getD jc (.con undef) : Nat → Nat → AV) (ia - k) ja) rfl (by kernel_rfl) rfl vfs_sl_52 (.own (.tmp rfl) rfl rfl rfl (Nat.le_refl _) (fun _ _ _ _ => rfl)) (.own (.tmp rfl) rfl rfl (Nat.le_refl _) (fun _ _ _ _ => rfl)) (by decide) (fun i j hi hj => match j, hj with | 0, _ => rfl | _ + 1, h => absurd h (by omega)) (fun _ _ _ _ => rfl) (by omega) (by omega) ⟨rfl, (by repeat first | exact trivial | refine ⟨by decide, by first | rfl | exact trivial | (intro a_ b_; first | exact getD_no rfl | exact rowC0_no rfl _ _ | ((try dsimp only); (repeat' split) <;> first | rfl | exact rowC0_no rfl _ _ | exact getD_no rfl)), ?_⟩)⟩ (fun i j => by dsimp only; (repeat' split) <;> first | rfl | exact getD_no rfl) rfl rfl (Nat.le_of_ble_eq_true rfl) ?_
        refine ARun.pure (PureOp.assign rfl (.tmp rfl)) rfl rfl (Nat.le_of_ble_eq_true rfl) ?_
        refine ARun.nil ?_
        refine AW.region ?_
        refine ARun.pure (PureOp.add (c := ((k + 1 : Nat) : Int)) rfl (.tmp rfl) .int (by rw [wrap_id (by omega) (by omega)]; omega)) rfl rfl (Nat.le_of_ble_eq_true rfl) ?_
        refine ARun.pure (PureOp.move rfl (.tmp rfl)) rfl rfl (Nat.le_of_ble_eq_true rfl) ?_
        refine ARun.nil ?_
        exact ⟨k + 1, (fun z => (fun z => (swp 3 8) ((swp 4 9) z)) ((swp 6 12) z)), ⟨by omega, fun j hj => (Nat.lt_succ_iff_lt_or_eq.1 hj).elim (hsy j) (fun e => e ▸ hsk)⟩, by dsimp only; omega, (comp_inj (comp_inj swp_inj swp_inj) swp_inj), (comp_fix (comp_fix (swp_fix rfl rfl) (swp_fix rfl rfl)) (swp_fix rfl rfl)), ⟨⟨⟨_, rfl, rfl⟩, ⟨_, rfl, rfl⟩, ⟨_, rfl, rfl⟩, ⟨_, rfl, rfl⟩, ⟨_, rfl, rfl⟩, ⟨_, rfl, rfl⟩, trivial⟩, ⟨⟨_, rfl, rfl, Nat.le_refl _, fun _ _ _ _ => rfl⟩, ⟨_, rfl, rfl, Nat.le_refl _, fun i j _ _ => rowC0_ren (h := foldH h l (k + 1)) (K := 4) (K' := 9) rfl i j⟩, ⟨_, rfl, fun _ _ => rfl⟩, ⟨_, rfl, rfl, Nat.le_refl _, fun _ _ _ _ => rfl⟩, ⟨_, rfl, rfl, Nat.le_refl _, fun i j hi (hj : j < 1) => match j, hj with | 0, _ => app_at (show i < k + 1 from hi) (fun _ => rfl) (fun hik => by subst hik; rfl) | _ + 1, h => absurd h (by omega)⟩, trivial⟩⟩⟩
    · have _u := True.intro
      replace hb15 := of_decide_eq_false hb15
      have hkl : ¬ k < l.length := by omega
      have hke : k = l.length := by omega
      refine AW.exit ?_
      refine AW.seq ?_
      refine AW.region ?_
      refine ARun.pure (PureOp.loadPtrAgg rfl (.tmp rfl) vfs_ag_29_2 rfl rfl (Nat.le_of_ble_eq_true rfl) (Nat.le_of_ble_eq_true rfl)) rfl rfl (Nat.le_of_ble_eq_true rfl) ?_
      refine ARun.prod (K := 13) rfl (v_l13Own (foldH h l k) (hd_ok (fold_good hg0 k hsy))) ⟨rfl, (by repeat first | exact trivial | refine ⟨by decide, by first | rfl | exact trivial | (intro a_ b_; first | exact getD_no rfl | exact rowC0_no rfl _ _ | ((try dsimp only); (repeat' split) <;> first | rfl | exact rowC0_no rfl _ _ | exact getD_no rfl)), ?_⟩)⟩ ⟨⟨_, (.tmp rfl), ⟨(.own rfl rfl (Nat.le_refl _) (fun i j hi hj => (match j, hj with | 0, _ => .str | 1, _ => (Vw.cast (Vw.tre rfl hi) rfl) | _ + 2, h => absurd h (by omega)))), .int, trivial⟩⟩, trivial⟩ vfs_ca_57 rfl rfl rfl rfl rfl (Nat.le_of_ble_eq_true rfl) ?_
      refine ARun.pure (PureOp.move rfl (.tmp rfl)) rfl rfl (Nat.le_of_ble_eq_true rfl) ?_
      refine ARun.store rfl (.tmp rfl) (.tmp rfl) (SV.cells_of (by exact ⟨trivial, trivial, trivial⟩)) rfl (Nat.le_of_ble_eq_true rfl) vfs_sz_29_2 rfl rfl ?_
      refine ARun.pure (PureOp.assign rfl (.tmp rfl)) rfl rfl (Nat.le_of_ble_eq_true rfl) ?_
      refine ARun.pure (PureOp.assign rfl .bool) rfl rfl (Nat.le_of_ble_eq_true rfl) ?_
      refine ARun.nil ?_
      rw [show foldV h l = (foldH h l k, codesL h l k, true) from by rw [foldV_yes ⟨hgd, hln, hol, fun j hj => hsy j (by omega)⟩, hke]]
      exact AW.ret (show ∃ s t, ResL _ _ [.cell 4 29, .tmp 5, .tmp 6] s ∧ TvS _ (ofLeaf t) 0 s _ from ⟨_, fun a b => if a = 13 then 0 else if a = 6 then 2 else 1000, .inr (.inr (.inl ⟨_, _, _, _, _, _, rfl, .cells rfl vfs_ag_29_2 rfl rfl (Nat.le_of_ble_eq_true rfl) (Nat.le_of_ble_eq_true rfl), .tmp rfl, .tmp rfl, rfl⟩)), ⟨⟨(Tv.cast (Tv.tre rfl (Nat.le_of_ble_eq_true rfl) (by rfl)) rfl), .int, trivial⟩, (Tv.flatN (codes_len h l k) rfl rfl rfl (Nat.le_refl _) (by rfl) (fun i j hi hj => by show _ = AV.int .i64 ((codesL h l k).getD i 0); rw [codes_at h l hi]; rfl) (fun _ _ _ _ => rfl)), .bool⟩⟩)

theorem v_fold (h : GHead) (l : List GSay) (hgd : goodHead h = true) (hln : l.length ≤ 60) : FnT Try.prog 61 [.agg [.lst 2 h.rows.length (fun i0 j0 => ([.str ((h.rows.getD i0 (default : GRow)).name), .lst 2 (((h.rows.getD i0 (default : GRow)).samples).length) (fun i1 j1 => ([.int .i64 ((((h.rows.getD i0 (default : GRow)).samples).getD i1 (default : GSample)).at_), .int .i64 ((((h.rows.getD i0 (default : GRow)).samples).getD i1 (default : GSample)).value)] : List AV).getD j1 (.con undef))] : List AV).getD j0 (.con undef)), .int .i64 h.offset], .one (.lst 3 l.length (fun i0 j0 => ([.str ((l.getD i0 (default : GSay)).name), .int .i64 ((l.getD i0 (default : GSay)).at_), .int .i64 ((l.getD i0 (default : GSay)).value)] : List AV).getD j0 (.con undef)))] (.tup3 (.agg [.lst 2 ((((foldV h l).1).rows).length) (fun i0 j0 => ([.str (((((foldV h l).1).rows).getD i0 (default : GRow)).name), .lst 2 ((((((foldV h l).1).rows).getD i0 (default : GRow)).samples).length) (fun i1 j1 => ([.int .i64 (((((((foldV h l).1).rows).getD i0 (default : GRow)).samples).getD i1 (default : GSample)).at_), .int .i64 (((((((foldV h l).1).rows).getD i0 (default : GRow)).samples).getD i1 (default : GSample)).value)] : List AV).getD j1 (.con undef))] : List AV).getD j0 (.con undef)), .int .i64 (((foldV h l).1).offset)]) (.one (.lst 1 (((foldV h l).2.1).length) (fun i0 _ => .int .i64 (((foldV h l).2.1).getD i0 0)))) (.one (.bool ((foldV h l).2.2)))) := by
  have hof := good_off hgd
  have hg0 := good0 hgd
  refine FnT.of_body (fn := Try.f61) Try.func61 rfl (Nat.le_of_ble_eq_true rfl)  ?_
  intro w0
  show AW _ 36 _ _ _ _
  refine AW.seq ?_
  refine AW.region ?_
  refine ARun.box (id := 0) rfl (.tmp rfl) (SV.cells_of (by exact ⟨trivial, trivial, trivial⟩)) ⟨rfl, (by repeat first | exact trivial | refine ⟨by decide, by first | rfl | exact trivial | (intro a_ b_; first | exact getD_no rfl | exact rowC0_no rfl _ _ | ((try dsimp only); (repeat' split) <;> first | rfl | exact rowC0_no rfl _ _ | exact getD_no rfl)), ?_⟩)⟩ rfl rfl rfl (Nat.le_of_ble_eq_true rfl) ?_
  refine ARun.alloc (id := 1) (l := [.con (.slice none 0 0), .int .i64 0]) (z := (.agg #[.slice none 0 0, .int .i64 0])) rfl (by kernel_rfl) (fun _ _ _ => ⟨_, _, rfl, rfl, ⟨_, _, rfl, rfl, rfl⟩⟩) ⟨rfl, (by repeat first | exact trivial | refine ⟨by decide, by first | rfl | exact trivial | (intro a_ b_; first | exact getD_no rfl | exact rowC0_no rfl _ _ | ((try dsimp only); (repeat' split) <;> first | rfl | exact rowC0_no rfl _ _ | exact getD_no rfl)), ?_⟩)⟩ rfl rfl rfl (Nat.le_of_ble_eq_true rfl) ?_
  refine ARun.pure (PureOp.assign rfl .con) rfl rfl (Nat.le_of_ble_eq_true rfl) ?_
  refine ARun.pure (PureOp.assign rfl .bool) rfl rfl (Nat.le_of_ble_eq_true rfl) ?_
  refine ARun.nil ?_
  refine AW.seq ?_
  refine AW.region ?_
  refine ARun.pure (PureOp.loadPtrAgg rfl (.tmp rfl) vfs_ag_29_2 rfl rfl (Nat.le_of_ble_eq_true rfl) (Nat.le_of_ble_eq_true rfl)) rfl rfl (Nat.le_of_ble_eq_true rfl) ?_
  refine ARun.prod (K := 2) rfl (v_cloneHead h (hd_ok hg0)) ⟨rfl, (by repeat first | exact trivial | refine ⟨by decide, by first | rfl | exact trivial | (intro a_ b_; first | exact getD_no rfl | exact rowC0_no rfl _ _ | ((try dsimp only); (repeat' split) <;> first | rfl | exact rowC0_no rfl _ _ | exact getD_no rfl)), ?_⟩)⟩ ⟨⟨_, (.tmp rfl), ⟨.lst, .int, trivial⟩⟩, trivial⟩ vfs_ca_59 rfl rfl rfl rfl rfl (Nat.le_of_ble_eq_true rfl) ?_
  refine ARun.openAgg 12 0 2 0 2 2 1 h.rows.length 3 4 [.tre 2 0, .int .i64 h.offset] [.own 3 2 h.rows.length, .int .i64 h.offset] (fun p => ([.lst 2 h.rows.length (fun i0 j0 => ([.str ((h.rows.getD i0 (default : GRow)).name), .lst 2 (((h.rows.getD i0 (default : GRow)).samples).length) (fun i1 j1 => ([.int .i64 ((((h.rows.getD i0 (default : GRow)).samples).getD i1 (default : GSample)).at_), .int .i64 ((((h.rows.getD i0 (default : GRow)).samples).getD i1 (default : GSample)).value)] : List AV).getD j1 (.con undef))] : List AV).getD j0 (.con undef)), .int .i64 h.offset] : List AV).getD p (.con undef)) (fun i0 j0 => ([.str ((h.rows.getD i0 (default : GRow)).name), .lst 2 (((h.rows.getD i0 (default : GRow)).samples).length) (fun i1 j1 => ([.int .i64 ((((h.rows.getD i0 (default : GRow)).samples).getD i1 (default : GSample)).at_), .int .i64 ((((h.rows.getD i0 (default : GRow)).samples).getD i1 (default : GSample)).value)] : List AV).getD j1 (.con undef))] : List AV).getD j0 (.con undef)) (rowC0 h 4) rfl rfl rfl rfl (by decide) rfl (by decide) (fun _ _ => ⟨_, _, _, rfl⟩) (fun i j _ hj hne => match j, hj, hne with | 0, _, _ => rfl | 1, _, h => absurd rfl h | _ + 2, h, _ => absurd h (by omega)) ⟨rfl, (by repeat first | exact trivial | refine ⟨by decide, by first | rfl | exact trivial | (intro a_ b_; first | exact getD_no rfl | exact rowC0_no rfl _ _ | ((try dsimp only); (repeat' split) <;> first | rfl | exact rowC0_no rfl _ _ | exact getD_no rfl)), ?_⟩)⟩ ⟨rfl, (by repeat first | exact trivial | refine ⟨by decide, by first | rfl | exact trivial | (intro a_ b_; first | exact getD_no rfl | exact rowC0_no rfl _ _ | ((try dsimp only); (repeat' split) <;> first | rfl | exact rowC0_no rfl _ _ | exact getD_no rfl)), ?_⟩)⟩ (by decide) (fun i j _ hj => match j, hj with | 0, _ => rfl | 1, _ => rfl | _ + 2, h => absurd h (by omega)) ?_
  refine ARun.alloc (id := 5) (l := [.con (.slice none 0 0), .int .i64 0]) (z := (.agg #[.slice none 0 0, .int .i64 0])) rfl (by kernel_rfl) (fun _ _ _ => ⟨_, _, rfl, rfl, ⟨_, _, rfl, rfl, rfl⟩⟩) ⟨rfl, (by repeat first | exact trivial | refine ⟨by decide, by first | rfl | exact trivial | (intro a_ b_; first | exact getD_no rfl | exact rowC0_no rfl _ _ | ((try dsimp only); (repeat' split) <;> first | rfl | exact rowC0_no rfl _ _ | exact getD_no rfl)), ?_⟩)⟩ rfl rfl rfl (Nat.le_of_ble_eq_true rfl) ?_
  refine ARun.store rfl (.tmp rfl) (.tmp rfl) (SV.cells_of (by exact ⟨trivial, trivial, trivial⟩)) rfl (Nat.le_of_ble_eq_true rfl) vfs_sz_29_2 rfl rfl ?_
  refine ARun.nil ?_
  refine AW.seq ?_
  refine AW.region ?_
  refine ARun.pure (PureOp.assign rfl .con) rfl rfl (Nat.le_of_ble_eq_true rfl) ?_
  refine ARun.nil ?_
  refine AW.seq ?_
  refine AW.seq ?_
  refine AW.region ?_
  refine ARun.pure (PureOp.move rfl (.tmp rfl)) rfl rfl (Nat.le_of_ble_eq_true rfl) ?_
  refine ARun.pure (PureOp.lenLst rfl (.tmp rfl) vfs_sl_55) rfl rfl (Nat.le_of_ble_eq_true rfl) ?_
  refine ARun.pure (PureOp.move rfl .int) rfl rfl (Nat.le_of_ble_eq_true rfl) ?_
  refine ARun.nil ?_
  refine AW.block ?_
  refine AW.nilSlot 8 6 1 (fun i _ => .int .i64 ((codeAt h l i : Nat) : Int)) rfl ⟨rfl, (by repeat first | exact trivial | refine ⟨by decide, by first | rfl | exact trivial | (intro a_ b_; first | exact getD_no rfl | exact rowC0_no rfl _ _ | ((try dsimp only); (repeat' split) <;> first | rfl | exact rowC0_no rfl _ _ | exact getD_no rfl)), ?_⟩)⟩ ?_
  -- objects are renamed
  refine AW.loopR (ι := Nat) (fun k => ⟨[(4, .one (.ptr 1 2 0 0)), (7, .one (.ptr 5 2 0 0)), (8, .one (.own 6 1 k)), (13, .one (.lst 3 l.length (fun i0 j0 => ([.str ((l.getD i0 (default : GSay)).name), .int .i64 ((l.getD i0 (default : GSay)).at_), .int .i64 ((l.getD i0 (default : GSay)).value)] : List AV).getD j0 (.con undef)))), (14, .one (.int .i64 (l.length : Int))), (15, .one (.int .i64 (k : Int)))], [(1, .cells [.con (.slice none 0 0), .int .i64 0]), (3, .arr 2 ((foldH h l k).rows.length) (rowC0 (foldH h l k) 4)), (4, .trees ((foldH h l k).rows.length) (rowX0 (foldH h l k))), (5, .cells [.own 3 2 ((foldH h l k).rows.length), .int .i64 ((foldH h l k).offset)]), (6, .arr 1 k (fun i _ => .int .i64 ((codeAt h l i : Nat) : Int)))]⟩) (fun k => k ≤ l.length ∧ h.offset + (k : Int) ≤ 1000 ∧ ∀ j, j < k → sayB (l.getD j (default : GSay)) = true) (fun k => l.length - k) 0 ⟨Nat.zero_le _, by omega, fun j hj => absurd hj (by omega)⟩ ⟨⟨⟨_, rfl, rfl⟩, ⟨_, rfl, rfl⟩, ⟨_, rfl, rfl⟩, ⟨_, rfl, rfl⟩, ⟨_, rfl, rfl⟩, ⟨_, rfl, rfl⟩, trivial⟩, ⟨⟨_, rfl, rfl, Nat.le_refl _, fun _ _ _ _ => rfl⟩, ⟨_, rfl, rfl, Nat.le_refl _, fun _ _ _ _ => rfl⟩, ⟨_, rfl, fun _ _ => rfl⟩, ⟨_, rfl, rfl, Nat.le_refl _, fun _ _ _ _ => rfl⟩, ⟨_, rfl, rfl, Nat.le_refl _, fun _ _ _ _ => rfl⟩, trivial⟩⟩ ?_
  intro k hI
  obtain ⟨hk, hok, hsy⟩ := hI
  refine AW.seq ?_
  refine AW.region ?_
  refine ARun.pure (PureOp.intOp rfl (.tmp rfl) (.tmp rfl) rfl) rfl rfl (Nat.le_of_ble_eq_true rfl) ?_
  refine ARun.nil ?_
  refine AW.seq ?_
  refine AW.cond (.tmp rfl) (fun hb1 => ?_) (fun hb1 => ?_)
  · have _u := True.intro
    replace hb1 := of_decide_eq_true hb1
    have hkl : k < l.length := by omega
    have hgk := fold_good hg0 k hsy
    have hfk := fold_off h l k
    refine AW.skip ?_
    refine AW.seq ?_
    refine AW.block ?_
    refine AW.seq ?_
    refine AW.region ?_
    refine ARun.pure (PureOp.indexLst (i := k) rfl (.tmp rfl) vfs_el_55_3 (.tmp rfl) rfl (by exact (show k < l.length from by omega))) rfl rfl (Nat.le_of_ble_eq_true rfl) ?_
    refine ARun.pure (PureOp.loadRefAgg rfl (.tmp rfl) vfs_ag_47_3 (Nat.le_of_ble_eq_true rfl)) rfl rfl (Nat.le_of_ble_eq_true rfl) ?_
    refine ARun.alloc (id := 7) (l := [.str ByteArray.empty, .int .i64 0, .int .i64 0]) (z := (.agg #[.string ByteArray.empty, .int .i64 0, .int .i64 0])) rfl (by kernel_rfl) (fun _ _ _ => ⟨_, _, rfl, ⟨rfl, by decide⟩, ⟨_, _, rfl, rfl, ⟨_, _, rfl, rfl, rfl⟩⟩⟩) ⟨rfl, (by repeat first | exact trivial | refine ⟨by decide, by first | rfl | exact trivial | (intro a_ b_; first | exact getD_no rfl | exact rowC0_no rfl _ _ | ((try dsimp only); (repeat' split) <;> first | rfl | exact rowC0_no rfl _ _ | exact getD_no rfl)), ?_⟩)⟩ rfl rfl rfl (Nat.le_of_ble_eq_true rfl) ?_
    refine ARun.store rfl (.tmp rfl) (.tmp rfl) (SV.cells_of (by exact ⟨trivial, trivial, trivial, trivial⟩)) rfl (Nat.le_of_ble_eq_true rfl) vfs_sz_47_3 rfl rfl ?_
    refine ARun.nil ?_
    refine AW.seq ?_
    refine AW.seq ?_
    refine AW.region ?_
    refine ARun.pure (PureOp.loadPtrAgg rfl (.tmp rfl) vfs_ag_47_3 rfl rfl (Nat.le_of_ble_eq_true rfl) (Nat.le_of_ble_eq_true rfl)) rfl rfl (Nat.le_of_ble_eq_true rfl) ?_
    refine ARun.pure (PureOp.call rfl (v_isSay (l.getD k (default : GSay))) ⟨⟨_, (.tmp rfl), ⟨.str, .int, .int, trivial⟩⟩, trivial⟩ vfs_ca_58 trivial) rfl rfl (Nat.le_of_ble_eq_true rfl) ?_
    refine ARun.pure (PureOp.not rfl (.tmp rfl)) rfl rfl (Nat.le_of_ble_eq_true rfl) ?_
    refine ARun.pure (PureOp.move rfl (.tmp rfl)) rfl rfl (Nat.le_of_ble_eq_true rfl) ?_
    refine ARun.gpure (want := false) (.tf rfl) (fun hg2 => PureOp.fieldPtr rfl (.tmp rfl) vfs_fi_29_1_1) rfl rfl (Nat.le_of_ble_eq_true rfl) rfl (Nat.le_of_ble_eq_true rfl) ?_
    refine ARun.gpure (want := false) (.tf rfl) (fun hg3 => PureOp.loadPtr rfl (.gtmp rfl hg3) vfs_pl_3 rfl rfl (Nat.le_of_ble_eq_true rfl) (Nat.le_of_ble_eq_true rfl)) rfl rfl (Nat.le_of_ble_eq_true rfl) rfl (Nat.le_of_ble_eq_true rfl) ?_
    refine ARun.gpure (want := false) (.tf rfl) (fun hg4 => PureOp.intOp rfl (.gtmp rfl hg4) .int rfl) rfl rfl (Nat.le_of_ble_eq_true rfl) rfl (Nat.le_of_ble_eq_true rfl) ?_
    refine ARun.pure (PureOp.pick rfl (.tmp rfl) (fun _ => .bool) (fun hp6 => .gtmp rfl (not_of hp6))) rfl rfl (Nat.le_of_ble_eq_true rfl) ?_
    refine ARun.nil ?_
    refine AW.cond (.tmp rfl) (fun hb7 => ?_) (fun hb7 => ?_)
    · have _u := True.intro
      have hno : ¬ FoldOk h l := fold_stop hkl hb7
      refine AW.seq ?_
      refine AW.region ?_
      refine ARun.pure (PureOp.build (ys := []) (l := [.con (.slice none 0 0), .int .i64 0]) (pl := [(0, 1), (1, 1)]) (z := (.agg #[.slice none 0 0, .int .i64 0])) rfl (by kernel_rfl) (by kernel_rfl) (fun _ _ _ => ⟨_, _, rfl, rfl, ⟨_, _, rfl, rfl, rfl⟩⟩) trivial rfl) rfl rfl (Nat.le_of_ble_eq_true rfl) ?_
      refine ARun.store rfl (.tmp rfl) (.tmp rfl) (SV.cells_of (by exact ⟨⟨rfl, (fun _ e => by cases e), (fun _ e => by cases e)⟩, trivial, trivial⟩)) rfl (Nat.le_of_ble_eq_true rfl) vfs_sz_29_2 rfl rfl ?_
      refine ARun.pure (PureOp.assign rfl .con) rfl rfl (Nat.le_of_ble_eq_true rfl) ?_
      refine ARun.pure (PureOp.assign rfl .bool) rfl rfl (Nat.le_of_ble_eq_true rfl) ?_
      refine ARun.nil ?_
      rw [foldV_no hno]
      exact AW.ret (show ∃ s t, ResL _ _ [.cell 4 29, .tmp 5, .tmp 6] s ∧ TvS _ (ofLeaf t) 0 s _ from ⟨_, fun a b => 1000, .inr (.inr (.inl ⟨_, _, _, _, _, _, rfl, .cells rfl vfs_ag_29_2 rfl rfl (Nat.le_of_ble_eq_true rfl) (Nat.le_of_ble_eq_true rfl), .tmp rfl, .tmp rfl, rfl⟩)), ⟨⟨.nil, .int, trivial⟩, .nil, .bool⟩⟩)
    · have _u := True.intro
      obtain ⟨hsk, hnk⟩ := fold_on hb7
      refine AW.skip ?_
      refine AW.region ?_
      refine ARun.pure (PureOp.move rfl (.tmp rfl)) rfl rfl (Nat.le_of_ble_eq_true rfl) ?_
      refine ARun.pure (PureOp.loadPtrAgg rfl (.tmp rfl) vfs_ag_47_3 rfl rfl (Nat.le_of_ble_eq_true rfl) (Nat.le_of_ble_eq_true rfl)) rfl rfl (Nat.le_of_ble_eq_true rfl) ?_
      refine ARun.mutx (Hr := [(1, .cells [.con (.slice none 0 0), .int .i64 0]), (6, .arr 1 k (fun i _ => .int .i64 ((codeAt h l i : Nat) : Int))), (7, .cells [.str ((l.getD k (default : GSay)).name), .int .i64 ((l.getD k (default : GSay)).at_), .int .i64 ((l.getD k (default : GSay)).value)])]) (Hn := [(1, .cells [.con (.slice none 0 0), .int .i64 0]), (5, .cells [.own 8 2 ((takeH (foldH h l k) (l.getD k (default : GSay))).rows.length), .int .i64 ((takeH (foldH h l k) (l.getD k (default : GSay))).offset)]), (6, .arr 1 k (fun i _ => .int .i64 ((codeAt h l i : Nat) : Int))), (7, .cells [.str ((l.getD k (default : GSay)).name), .int .i64 ((l.getD k (default : GSay)).at_), .int .i64 ((l.getD k (default : GSay)).value)]), (8, .arr 2 ((takeH (foldH h l k) (l.getD k (default : GSay))).rows.length) (rowC0 (takeH (foldH h l k) (l.getD k (default : GSay))) 9)), (9, .trees ((takeH (foldH h l k) (l.getD k (default : GSay))).rows.length) (rowX0 (takeH (foldH h l k) (l.getD k (default : GSay)))))]) (g := fun zz => if zz = 1000000 then 5 else if zz = 1000001 then 3 else if zz = 1000002 then 4 else zz) (g' := fun zz => if zz = 1000000 then 5 else if zz = 1000001 then 3 else if zz = 1000002 then 4 else if zz = 77 then 8 else if zz = 78 then 9 else zz) (K := [77, 78, 1000000]) (T := [(8, 77), (9, 78)]) rfl (v_take (foldH h l k) (l.getD k (default : GSay)) hgk ⟨by rw [hfk]; omega, by rw [hfk]; omega⟩) vfs_ca_60 ⟨.inr (.tmp rfl), ⟨.inl ⟨_, (.tmp rfl), ⟨.str, .int, .int, trivial⟩⟩, trivial⟩⟩ ⟨⟨_, rfl, rfl⟩, ⟨_, rfl, ⟨rfl, rfl, fun a b _ _ => rowC0_ren (h := (foldH h l k)) (K := 1000002) (K' := 4) rfl a b⟩⟩, ⟨_, rfl, ⟨rfl, fun _ _ => rfl⟩⟩, trivial⟩ ⟨⟨rfl, rfl⟩, ⟨rfl, rfl⟩, ⟨rfl, rfl⟩, trivial⟩ rfl ⟨⟨rfl, (by repeat first | exact trivial | refine ⟨by decide, by first | rfl | exact trivial | (intro a_ b_; first | exact getD_no rfl | exact rowC0_no rfl _ _ | ((try dsimp only); (repeat' split) <;> first | rfl | exact rowC0_no rfl _ _ | exact getD_no rfl)), ?_⟩)⟩, ⟨rfl, (by repeat first | exact trivial | refine ⟨by decide, by first | rfl | exact trivial | (intro a_ b_; first | exact getD_no rfl | exact rowC0_no rfl _ _ | ((try dsimp only); (repeat' split) <;> first | rfl | exact rowC0_no rfl _ _ | exact getD_no rfl)), ?_⟩)⟩, trivial⟩ (by kernel_rfl) (by kernel_rfl) (by kernel_rfl) ⟨.inl rfl, .inr ⟨1000000, _, rfl, rfl, rfl, rfl, rfl⟩, .inl rfl, .inl rfl, .inr ⟨77, _, rfl, rfl, rfl, ⟨rfl, rfl, fun a b _ _ => rowC0_ren (h := (takeH (foldH h l k) (l.getD k (default : GSay)))) (K := 78) (K' := 9) rfl a b⟩, (fun a b _ _ => rowC0_hx rfl a b)⟩, .inr ⟨78, _, rfl, rfl, rfl, ⟨rfl, fun _ _ => rfl⟩, trivial⟩, trivial⟩ rfl rfl (Nat.le_of_ble_eq_true rfl) (r' := .one (.int .i64 ((takeCode (foldH h l k) (l.getD k (default : GSay)) : Nat) : Int))) rfl ?_
      refine ARun.slice1 (id := 10) (z := (.int .i64 0)) (by_ := 8) rfl (.tmp rfl) trivial (by kernel_rfl) rfl rfl (by decide) (by decide) ⟨rfl, (by repeat first | exact trivial | refine ⟨by decide, by first | rfl | exact trivial | (intro a_ b_; first | exact getD_no rfl | exact rowC0_no rfl _ _ | ((try dsimp only); (repeat' split) <;> first | rfl | exact rowC0_no rfl _ _ | exact getD_no rfl)), ?_⟩)⟩ rfl rfl rfl (Nat.le_of_ble_eq_true rfl) ?_
      refine ARun.append (id := 11) (sz := 1) (n := k) (m := 1) (by_ := 8) (z := (.int .i64 0)) (f := fun i _ => .int .i64 ((codeAt h l i : Nat) : Int)) (g := fun _ jc => ([.int .i64 ((takeCode (foldH h l k) (l.getD k (default : GSay)) : Nat) : Int)] : List AV).getD jc (.con undef)) (h := fun ia ja => if ia < k then (fun i _ => .int .i64 ((codeAt h l i : Nat) : Int) : Nat → Nat → AV) ia ja else (fun _ jc => ([.int .i64 ((takeCode (foldH h l k) (l.getD k (default : GSay)) : Nat) : Int)] : List AV).getD jc (.con undef) : Nat → Nat → AV) (ia - k) ja) rfl (by kernel_rfl) rfl vfs_sl_52 (.own (.tmp rfl) rfl rfl rfl (Nat.le_refl _) (fun _ _ _ _ => rfl)) (.own (.tmp rfl) rfl rfl (Nat.le_refl _) (fun _ _ _ _ => rfl)) (by decide) (fun i j hi hj => match j, hj with | 0, _ => rfl | _ + 1, h => absurd h (by omega)) (fun _ _ _ _ => rfl) (by omega) (by omega) ⟨rfl, (by repeat first | exact trivial | refine ⟨by decide, by first | rfl | exact trivial | (intro a_ b_; first | exact getD_no rfl | exact rowC0_no rfl _ _ | ((try dsimp only); (repeat' split) <;> first | rfl | exact rowC0_no rfl _ _ | exact getD_no rfl)), ?_⟩)⟩ (fun i j => by dsimp only; (repeat' split) <;> first | rfl | exact getD_no rfl) rfl rfl (Nat.le_of_ble_eq_true rfl) ?_
      refine ARun.pure (PureOp.assign rfl (.tmp rfl)) rfl rfl (Nat.le_of_ble_eq_true rfl) ?_
      refine ARun.nil ?_
      refine AW.region ?_
      refine ARun.pure (PureOp.add (c := ((k + 1 : Nat) : Int)) rfl (.tmp rfl) .int (by rw [wrap_id (by omega) (by omega)]; omega)) rfl rfl (Nat.le_of_ble_eq_true rfl) ?_
      refine ARun.pure (PureOp.move rfl (.tmp rfl)) rfl rfl (Nat.le_of_ble_eq_true rfl) ?_
      refine ARun.nil ?_
      exact ⟨k + 1, (fun z => (fun z => (swp 3 8) ((swp 4 9) z)) ((swp 6 11) z)), ⟨by omega, by omega, fun j hj => (Nat.lt_succ_iff_lt_or_eq.1 hj).elim (hsy j) (fun e => e ▸ hsk)⟩, by dsimp only; omega, (comp_inj (comp_inj swp_inj swp_inj) swp_inj), (comp_fix (comp_fix (swp_fix rfl rfl) (swp_fix rfl rfl)) (swp_fix rfl rfl)), ⟨⟨⟨_, rfl, rfl⟩, ⟨_, rfl, rfl⟩, ⟨_, rfl, rfl⟩, ⟨_, rfl, rfl⟩, ⟨_, rfl, rfl⟩, ⟨_, rfl, rfl⟩, trivial⟩, ⟨⟨_, rfl, rfl, Nat.le_refl _, fun _ _ _ _ => rfl⟩, ⟨_, rfl, rfl, Nat.le_refl _, fun i j _ _ => rowC0_ren (h := foldH h l (k + 1)) (K := 4) (K' := 9) rfl i j⟩, ⟨_, rfl, fun _ _ => rfl⟩, ⟨_, rfl, rfl, Nat.le_refl _, fun _ _ _ _ => rfl⟩, ⟨_, rfl, rfl, Nat.le_refl _, fun i j hi (hj : j < 1) => match j, hj with | 0, _ => app_at (show i < k + 1 from hi) (fun _ => rfl) (fun hik => by subst hik; rfl) | _ + 1, h => absurd h (by omega)⟩, trivial⟩⟩⟩
  · have _u := True.intro
    replace hb1 := of_decide_eq_false hb1
    have hkl : ¬ k < l.length := by omega
    have hke : k = l.length := by omega
    refine AW.exit ?_
    refine AW.seq ?_
    refine AW.region ?_
    refine ARun.pure (PureOp.loadPtrAgg rfl (.tmp rfl) vfs_ag_29_2 rfl rfl (Nat.le_of_ble_eq_true rfl) (Nat.le_of_ble_eq_true rfl)) rfl rfl (Nat.le_of_ble_eq_true rfl) ?_
    refine ARun.pure (PureOp.move rfl (.tmp rfl)) rfl rfl (Nat.le_of_ble_eq_true rfl) ?_
    refine ARun.store rfl (.tmp rfl) (.tmp rfl) (SV.cells_of (by exact ⟨trivial, trivial, trivial⟩)) rfl (Nat.le_of_ble_eq_true rfl) vfs_sz_29_2 rfl rfl ?_
    refine ARun.pure (PureOp.assign rfl (.tmp rfl)) rfl rfl (Nat.le_of_ble_eq_true rfl) ?_
    refine ARun.pure (PureOp.assign rfl .bool) rfl rfl (Nat.le_of_ble_eq_true rfl) ?_
    refine ARun.nil ?_
    rw [show foldV h l = (foldH h l k, codesL h l k, true) from by rw [foldV_yes ⟨hgd, hln, by omega, fun j hj => hsy j (by omega)⟩, hke]]
    exact AW.ret (show ∃ s t, ResL _ _ [.cell 4 29, .tmp 5, .tmp 6] s ∧ TvS _ (ofLeaf t) 0 s _ from ⟨_, fun a b => if a = 3 then 0 else if a = 4 then 0 else if a = 6 then 2 else 1000, .inr (.inr (.inl ⟨_, _, _, _, _, _, rfl, .cells rfl vfs_ag_29_2 rfl rfl (Nat.le_of_ble_eq_true rfl) (Nat.le_of_ble_eq_true rfl), .tmp rfl, .tmp rfl, rfl⟩)), ⟨⟨(Tv.colK (K := 4) (c := 1) (X := rowX0 (foldH h l k)) rfl rfl rfl rfl (Nat.le_refl _) (by rfl) (fun i j hi hj hne => match j, hj, hne with | 0, _, _ => ⟨rfl, rfl⟩ | 1, _, h => absurd rfl h | _ + 2, h, _ => absurd h (by omega)) (fun i hi => ⟨rfl, rfl⟩) rfl (by decide) (fun _ => by rfl)), .int, trivial⟩, (Tv.flatN (codes_len h l k) rfl rfl rfl (Nat.le_refl _) (by rfl) (fun i j hi hj => by show _ = AV.int .i64 ((codesL h l k).getD i 0); rw [codes_at h l hi]; rfl) (fun _ _ _ _ => rfl)), .bool⟩⟩)

theorem v_iFold (h : GHead) (l : List GSay) : FnT Try.prog 30 [.agg [.lst 2 h.rows.length (fun i0 j0 => ([.str ((h.rows.getD i0 (default : GRow)).name), .lst 2 (((h.rows.getD i0 (default : GRow)).samples).length) (fun i1 j1 => ([.int .i64 ((((h.rows.getD i0 (default : GRow)).samples).getD i1 (default : GSample)).at_), .int .i64 ((((h.rows.getD i0 (default : GRow)).samples).getD i1 (default : GSample)).value)] : List AV).getD j1 (.con undef))] : List AV).getD j0 (.con undef)), .int .i64 h.offset], .one (.lst 3 l.length (fun i0 j0 => ([.str ((l.getD i0 (default : GSay)).name), .int .i64 ((l.getD i0 (default : GSay)).at_), .int .i64 ((l.getD i0 (default : GSay)).value)] : List AV).getD j0 (.con undef)))] (.tup3 (.agg [.lst 2 ((((foldV h l).1).rows).length) (fun i0 j0 => ([.str (((((foldV h l).1).rows).getD i0 (default : GRow)).name), .lst 2 ((((((foldV h l).1).rows).getD i0 (default : GRow)).samples).length) (fun i1 j1 => ([.int .i64 (((((((foldV h l).1).rows).getD i0 (default : GRow)).samples).getD i1 (default : GSample)).at_), .int .i64 (((((((foldV h l).1).rows).getD i0 (default : GRow)).samples).getD i1 (default : GSample)).value)] : List AV).getD j1 (.con undef))] : List AV).getD j0 (.con undef)), .int .i64 (((foldV h l).1).offset)]) (.one (.lst 1 (((foldV h l).2.1).length) (fun i0 _ => .int .i64 (((foldV h l).2.1).getD i0 0)))) (.one (.bool ((foldV h l).2.2)))) := by
  refine FnT.of_body (fn := Try.f30) Try.func30 rfl (Nat.le_of_ble_eq_true rfl)  ?_
  intro w0
  show AW _ 22 _ _ _ _
  refine AW.seq ?_
  refine AW.region ?_
  refine ARun.box (id := 0) rfl (.tmp rfl) (SV.cells_of (by exact ⟨trivial, trivial, trivial⟩)) ⟨rfl, (by repeat first | exact trivial | refine ⟨by decide, by first | rfl | exact trivial | (intro a_ b_; first | exact getD_no rfl | exact rowC0_no rfl _ _ | ((try dsimp only); (repeat' split) <;> first | rfl | exact rowC0_no rfl _ _ | exact getD_no rfl)), ?_⟩)⟩ rfl rfl rfl (Nat.le_of_ble_eq_true rfl) ?_
  refine ARun.alloc (id := 1) (l := [.con (.slice none 0 0), .int .i64 0]) (z := (.agg #[.slice none 0 0, .int .i64 0])) rfl (by kernel_rfl) (fun _ _ _ => ⟨_, _, rfl, rfl, ⟨_, _, rfl, rfl, rfl⟩⟩) ⟨rfl, (by repeat first | exact trivial | refine ⟨by decide, by first | rfl | exact trivial | (intro a_ b_; first | exact getD_no rfl | exact rowC0_no rfl _ _ | ((try dsimp only); (repeat' split) <;> first | rfl | exact rowC0_no rfl _ _ | exact getD_no rfl)), ?_⟩)⟩ rfl rfl rfl (Nat.le_of_ble_eq_true rfl) ?_
  refine ARun.pure (PureOp.assign rfl .con) rfl rfl (Nat.le_of_ble_eq_true rfl) ?_
  refine ARun.pure (PureOp.assign rfl .bool) rfl rfl (Nat.le_of_ble_eq_true rfl) ?_
  refine ARun.nil ?_
  refine AW.seq ?_
  refine AW.seq ?_
  refine AW.region ?_
  refine ARun.pure (PureOp.loadPtrAgg rfl (.tmp rfl) vfs_ag_29_2 rfl rfl (Nat.le_of_ble_eq_true rfl) (Nat.le_of_ble_eq_true rfl)) rfl rfl (Nat.le_of_ble_eq_true rfl) ?_
  refine ARun.pure (PureOp.call rfl (v_isHead h) ⟨⟨_, (.tmp rfl), ⟨.lst, .int, trivial⟩⟩, trivial⟩ vfs_ca_46 trivial) rfl rfl (Nat.le_of_ble_eq_true rfl) ?_
  refine ARun.pure (PureOp.not rfl (.tmp rfl)) rfl rfl (Nat.le_of_ble_eq_true rfl) ?_
  refine ARun.pure (PureOp.move rfl (.tmp rfl)) rfl rfl (Nat.le_of_ble_eq_true rfl) ?_
  refine ARun.gpure (want := false) (.tf rfl) (fun hg1 => PureOp.move rfl (.tmp rfl)) rfl rfl (Nat.le_of_ble_eq_true rfl) rfl (Nat.le_of_ble_eq_true rfl) ?_
  refine ARun.gpure (want := false) (.tf rfl) (fun hg2 => PureOp.lenLst rfl (.gtmp rfl hg2) vfs_sl_55) rfl rfl (Nat.le_of_ble_eq_true rfl) rfl (Nat.le_of_ble_eq_true rfl) ?_
  refine ARun.gpure (want := false) (.tf rfl) (fun hg3 => PureOp.intOp rfl (.gtmp rfl hg3) .int rfl) rfl rfl (Nat.le_of_ble_eq_true rfl) rfl (Nat.le_of_ble_eq_true rfl) ?_
  refine ARun.pure (PureOp.pick rfl (.tmp rfl) (fun _ => .bool) (fun hp5 => .gtmp rfl (not_of hp5))) rfl rfl (Nat.le_of_ble_eq_true rfl) ?_
  refine ARun.nil ?_
  refine AW.cond (.tmp rfl) (fun hb6 => ?_) (fun hb6 => ?_)
  · have _u := True.intro
    have hno : ¬ FoldOk h l := no_fold (a := true) (b := false) (by rw [show cond (cond (!goodHead h) true (decide ((60 : Int) < (l.length : Int)))) true false = cond (!goodHead h) true (decide ((60 : Int) < (l.length : Int))) from by cases (cond (!goodHead h) true (decide ((60 : Int) < (l.length : Int)))) <;> rfl]; exact hb6) (fun e => by cases e)
    refine AW.seq ?_
    refine AW.region ?_
    refine ARun.pure (PureOp.build (ys := []) (l := [.con (.slice none 0 0), .int .i64 0]) (pl := [(0, 1), (1, 1)]) (z := (.agg #[.slice none 0 0, .int .i64 0])) rfl (by kernel_rfl) (by kernel_rfl) (fun _ _ _ => ⟨_, _, rfl, rfl, ⟨_, _, rfl, rfl, rfl⟩⟩) trivial rfl) rfl rfl (Nat.le_of_ble_eq_true rfl) ?_
    refine ARun.store rfl (.tmp rfl) (.tmp rfl) (SV.cells_of (by exact ⟨⟨rfl, (fun _ e => by cases e), (fun _ e => by cases e)⟩, trivial, trivial⟩)) rfl (Nat.le_of_ble_eq_true rfl) vfs_sz_29_2 rfl rfl ?_
    refine ARun.pure (PureOp.assign rfl .con) rfl rfl (Nat.le_of_ble_eq_true rfl) ?_
    refine ARun.pure (PureOp.assign rfl .bool) rfl rfl (Nat.le_of_ble_eq_true rfl) ?_
    refine ARun.nil ?_
    rw [foldV_no hno]
    exact AW.ret (show ∃ s t, ResL _ _ [.cell 4 29, .tmp 5, .tmp 6] s ∧ TvS _ (ofLeaf t) 0 s _ from ⟨_, fun a b => 1000, .inr (.inr (.inl ⟨_, _, _, _, _, _, rfl, .cells rfl vfs_ag_29_2 rfl rfl (Nat.le_of_ble_eq_true rfl) (Nat.le_of_ble_eq_true rfl), .tmp rfl, .tmp rfl, rfl⟩)), ⟨⟨.nil, .int, trivial⟩, .nil, .bool⟩⟩)
  · have _u := True.intro
    obtain ⟨hgd, hln⟩ := fold_yes1 hb6
    refine AW.skip ?_
    refine AW.seq ?_
    refine AW.region ?_
    refine ARun.pure (PureOp.loadPtrAgg rfl (.tmp rfl) vfs_ag_29_2 rfl rfl (Nat.le_of_ble_eq_true rfl) (Nat.le_of_ble_eq_true rfl)) rfl rfl (Nat.le_of_ble_eq_true rfl) ?_
    refine ARun.pure (PureOp.move rfl (.tmp rfl)) rfl rfl (Nat.le_of_ble_eq_true rfl) ?_
    refine ARun.prod (K := 2) rfl (v_fold h l hgd hln) ⟨rfl, (by repeat first | exact trivial | refine ⟨by decide, by first | rfl | exact trivial | (intro a_ b_; first | exact getD_no rfl | exact rowC0_no rfl _ _ | ((try dsimp only); (repeat' split) <;> first | rfl | exact rowC0_no rfl _ _ | exact getD_no rfl)), ?_⟩)⟩ ⟨⟨_, (.tmp rfl), ⟨.lst, .int, trivial⟩⟩, ⟨_, (.tmp rfl), .lst⟩, trivial⟩ vfs_ca_61 rfl rfl rfl rfl rfl (Nat.le_of_ble_eq_true rfl) ?_
    refine ARun.pure (PureOp.ext3a rfl (.tmp rfl)) rfl rfl (Nat.le_of_ble_eq_true rfl) ?_
    refine ARun.pure (PureOp.ext3b rfl (.tmp rfl)) rfl rfl (Nat.le_of_ble_eq_true rfl) ?_
    refine ARun.pure (PureOp.ext3c rfl (.tmp rfl)) rfl rfl (Nat.le_of_ble_eq_true rfl) ?_
    refine ARun.store rfl (.tmp rfl) (.tmp rfl) (SV.cells_of (by exact ⟨trivial, trivial, trivial⟩)) rfl (Nat.le_of_ble_eq_true rfl) vfs_sz_29_2 rfl rfl ?_
    refine ARun.pure (PureOp.assign rfl (.tmp rfl)) rfl rfl (Nat.le_of_ble_eq_true rfl) ?_
    refine ARun.pure (PureOp.assign rfl (.tmp rfl)) rfl rfl (Nat.le_of_ble_eq_true rfl) ?_
    refine ARun.nil ?_
    exact AW.ret (show ∃ s t, ResL _ _ [.cell 4 29, .tmp 5, .tmp 6] s ∧ TvS _ (ofLeaf t) 0 s _ from ⟨_, fun a b => if a = 2 then b else 1000, .inr (.inr (.inl ⟨_, _, _, _, _, _, rfl, .cells rfl vfs_ag_29_2 rfl rfl (Nat.le_of_ble_eq_true rfl) (Nat.le_of_ble_eq_true rfl), .tmp rfl, .tmp rfl, rfl⟩)), ⟨⟨(Tv.cast (Tv.tre rfl (Nat.le_of_ble_eq_true rfl) (by rfl)) rfl), .int, trivial⟩, (Tv.cast (Tv.tre rfl (Nat.le_of_ble_eq_true rfl) (by rfl)) rfl), .bool⟩⟩)
end Go.Proofs.Ytmfkmifkkplidaa


/-
  Marks.
-/
namespace Go.Proofs.Ytmfkmifkkplidaa
open Go.ChangeShapes Go.WideShapes Go.ChangeAt Go.RowKit Go.BigFrame Go.Deep
set_option linter.unusedVariables false
set_option linter.unusedSimpArgs false
theorem vq_ca_18 : callB Try.prog 18 = true := by kernel_rfl
theorem vq_ca_51 : callB Try.prog 51 = true := by kernel_rfl
theorem vq_ca_63 : callB Try.prog 63 = true := by kernel_rfl
theorem vq_el_27_2 : elemB Try.prog 27 2 = true := by kernel_rfl
theorem vq_el_33_2 : elemB Try.prog 33 2 = true := by kernel_rfl
theorem vq_el_52_1 : elemB Try.prog 52 1 = true := by kernel_rfl
theorem vq_el_55_3 : elemB Try.prog 55 3 = true := by kernel_rfl
theorem vq_fi_29_0_0 : fieldB Try.prog 29 0 0 = true := by kernel_rfl
theorem vq_fi_47_0_0 : fieldB Try.prog 47 0 0 = true := by kernel_rfl
theorem vq_fi_47_1_1 : fieldB Try.prog 47 1 1 = true := by kernel_rfl
theorem vq_fi_47_2_2 : fieldB Try.prog 47 2 2 = true := by kernel_rfl
theorem vq_fi_67_0_0 : fieldB Try.prog 67 0 0 = true := by kernel_rfl
theorem vq_fi_67_1_1 : fieldB Try.prog 67 1 1 = true := by kernel_rfl
theorem vq_fi_81_0_0 : fieldB Try.prog 81 0 0 = true := by kernel_rfl
theorem vq_fi_81_1_1 : fieldB Try.prog 81 1 1 = true := by kernel_rfl
theorem vq_pl_27 : plainB Try.prog 27 = true := by kernel_rfl
theorem vq_pl_33 : plainB Try.prog 33 = true := by kernel_rfl
theorem vq_sl_27 : sliceB Try.prog 27 = true := by kernel_rfl
theorem vq_sl_33 : sliceB Try.prog 33 = true := by kernel_rfl
theorem vq_sl_52 : sliceB Try.prog 52 = true := by kernel_rfl
theorem vq_sl_55 : sliceB Try.prog 55 = true := by kernel_rfl
theorem vq_sz_3_1 : sizeB Try.prog 3 1 = true := by kernel_rfl
theorem vq_sz_9_1 : sizeB Try.prog 9 1 = true := by kernel_rfl
theorem digTo_size : ∀ (d f q : Nat) (s : ByteArray), q < 10 ^ d → q ≤ f → (digTo f q s).size ≤ s.size + d
  | 0, f, q, s, hq, _ => by
    obtain rfl : q = 0 := by simpa using hq
    rw [digTo_zero]; omega
  | d + 1, f, q, s, hq, hf => by
    by_cases h : 0 < q
    · rw [digTo_step h hf]
      have h1 : q / 10 < 10 ^ d := by rw [Nat.pow_succ] at hq; omega
      have h2 := digTo_size d (f - 1) (q / 10) ((⟨#[UInt8.ofNat (48 + q % 10)]⟩ : ByteArray) ++ s) h1 (by omega)
      rw [ByteArray.size_append] at h2
      have c : (⟨#[UInt8.ofNat (48 + q % 10)]⟩ : ByteArray).size = 1 := rfl
      omega
    · obtain rfl : q = 0 := by omega
      rw [digTo_zero]; omega
theorem mkText_size {k : Nat} (h : k ≤ 1000000000) : (mkText k).size ≤ 20 := by
  have h1 := digTo_size 10 k k ⟨#[]⟩ (by omega) (Nat.le_refl _)
  unfold mkText
  rw [ByteArray.size_append]
  have c : (⟨#[109]⟩ : ByteArray).size = 1 := rfl
  have c0 : (⟨#[]⟩ : ByteArray).size = 0 := rfl
  omega
theorem v_markText (k : Nat) (hk : 0 < k) (h : k ≤ 1000000000) : Fn Try.prog 63 [.one (.int .i64 (k : Int))] (.one (.str (mkText k))) := by
  intro w S vs hS hd
  obtain ⟨v, vs1, rfl, h1, h2⟩ := hd
  obtain rfl : vs1 = [] := h2
  have h1 : v = .int .i64 (k : Int) := h1
  subst h1
  exact (markText_any k hk h w).mono fun e w' ⟨he, _, hb⟩ => ⟨he, hb⟩

theorem g_markSampleS (x : List GSample) (a : Nat) (ha : 0 < a ∧ a + ctL crSample x ≤ 900000000) : FnG Try.prog 18 [.one (.own 1000000 2 x.length), .one (.int .i64 (a : Int))] [(1000000, .arr 2 x.length (fun i j => nmA 1000001 (i * 2 + j) (ceSample (x.getD i (default : GSample)) j))), (1000001, .trees (x.length * 2) (fun _ => .int .i64 0))] (.one (.int .i64 ((a + ctL crSample x : Nat) : Int))) [(1000000, .arr 2 x.length (fun i j => nmA 1000001 (i * 2 + j) (ceSample ((mkL crSample mrSample x a).getD i (default : GSample)) j))), (1000001, .trees (x.length * 2) (fun _ => .int .i64 0))] := by
  obtain ⟨ha0, ha1⟩ := ha
  refine FnG.of_body (fn := Try.f18) Try.func18 rfl (Nat.le_of_ble_eq_true rfl) ?_
  intro w0
  show AW _ 27 _ _ _ _
  refine AW.boundO (t := 0) rfl fun hx => ?_
  refine AW.seq ?_
  refine AW.region ?_
  refine ARun.pure (PureOp.assign rfl .int) rfl rfl (Nat.le_of_ble_eq_true rfl) ?_
  refine ARun.nil ?_
  refine AW.seq ?_
  refine AW.seq ?_
  refine AW.region ?_
  refine ARun.pure (PureOp.assign rfl .int) rfl rfl (Nat.le_of_ble_eq_true rfl) ?_
  refine ARun.nil ?_
  refine AW.block ?_
  refine AW.loop (ι := Nat) (fun k => ⟨[(0, .one (.own 1000000 2 x.length)), (1, .one (.int .i64 ((a + ((x.take k).map crSample).sum : Nat) : Int))), (5, .one (.int .i64 (k : Int)))], [(1000000, .arr 2 x.length (fun i j => nmA 1000001 (i * 2 + j) (ceSample ((mixL crSample mrSample x a k).getD i (default : GSample)) j))), (1000001, .trees (x.length * 2) (fun _ => .int .i64 0))]⟩) (fun k => k ≤ x.length) (fun k => x.length - k) 0 (Nat.zero_le _) ⟨⟨⟨_, rfl, rfl⟩, ⟨_, rfl, by simp⟩, ⟨_, rfl, rfl⟩, trivial⟩, ⟨⟨_, rfl, rfl, Nat.le_refl _, fun i j _ _ => by rw [mix_zero]⟩, ⟨_, rfl, fun _ _ => rfl⟩, trivial⟩⟩ ?_
  intro k hk
  refine AW.seq ?_
  refine AW.seq ?_
  refine AW.region ?_
  refine ARun.pure (PureOp.move rfl (.tmp rfl)) rfl rfl (Nat.le_of_ble_eq_true rfl) ?_
  refine ARun.pure (PureOp.move rfl (.tmp rfl)) rfl rfl (Nat.le_of_ble_eq_true rfl) ?_
  refine ARun.pure (PureOp.lenOwn rfl (.tmp rfl) vq_sl_33) rfl rfl (Nat.le_of_ble_eq_true rfl) ?_
  refine ARun.pure (PureOp.intOp rfl (.tmp rfl) (.tmp rfl) rfl) rfl rfl (Nat.le_of_ble_eq_true rfl) ?_
  refine ARun.nil ?_
  refine AW.cond (.tmp rfl) (fun hb1 => ?_) (fun hb1 => ?_)
  · have _u := True.intro
    replace hb1 := of_decide_eq_true hb1
    have hkl : k < x.length := by omega
    obtain ⟨hst, hsm⟩ := ct_step (ct := crSample) (default : GSample) hkl
    have hce : crSample (x.getD k (default : GSample)) = 0 + 1 + 1 := rfl
    refine AW.skip ?_
    refine AW.seq ?_
    refine AW.block ?_
    refine AW.seq ?_
    refine AW.region ?_
    refine ARun.pure (PureOp.move rfl (.tmp rfl)) rfl rfl (Nat.le_of_ble_eq_true rfl) ?_
    refine ARun.pure (PureOp.move rfl (.tmp rfl)) rfl rfl (Nat.le_of_ble_eq_true rfl) ?_
    refine ARun.pure (PureOp.move rfl (.tmp rfl)) rfl rfl (Nat.le_of_ble_eq_true rfl) ?_
    refine ARun.pure (PureOp.indexOwn (i := k) rfl (.tmp rfl) vq_el_33_2 (.tmp rfl) rfl (by omega)) rfl rfl (Nat.le_of_ble_eq_true rfl) ?_
    refine ARun.pure (PureOp.fieldPtr rfl (.tmp rfl) vq_fi_81_0_0) rfl rfl (Nat.le_of_ble_eq_true rfl) ?_
    refine ARun.storeArr rfl (.tmp rfl) (.tmp rfl) trivial rfl (show k < x.length from by omega) (Nat.le_of_ble_eq_true rfl) vq_sz_3_1 rfl rfl ?_
    refine ARun.nil ?_
    refine AW.seq ?_
    refine AW.region ?_
    refine ARun.pure (PureOp.move rfl (.tmp rfl)) rfl rfl (Nat.le_of_ble_eq_true rfl) ?_
    refine ARun.pure (PureOp.add (c := ((a + ((x.take k).map crSample).sum + 1 : Nat) : Int)) rfl (.tmp rfl) .int (by rw [wrap_id (by omega) (by omega)]; omega)) rfl rfl (Nat.le_of_ble_eq_true rfl) ?_
    refine ARun.pure (PureOp.assign rfl (.tmp rfl)) rfl rfl (Nat.le_of_ble_eq_true rfl) ?_
    refine ARun.nil ?_
    refine AW.seq ?_
    refine AW.region ?_
    refine ARun.pure (PureOp.move rfl (.tmp rfl)) rfl rfl (Nat.le_of_ble_eq_true rfl) ?_
    refine ARun.pure (PureOp.move rfl (.tmp rfl)) rfl rfl (Nat.le_of_ble_eq_true rfl) ?_
    refine ARun.pure (PureOp.move rfl (.tmp rfl)) rfl rfl (Nat.le_of_ble_eq_true rfl) ?_
    refine ARun.pure (PureOp.indexOwn (i := k) rfl (.tmp rfl) vq_el_33_2 (.tmp rfl) rfl (by omega)) rfl rfl (Nat.le_of_ble_eq_true rfl) ?_
    refine ARun.pure (PureOp.fieldPtr rfl (.tmp rfl) vq_fi_81_1_1) rfl rfl (Nat.le_of_ble_eq_true rfl) ?_
    refine ARun.storeArr rfl (.tmp rfl) (.tmp rfl) trivial rfl (show k < x.length from by omega) (Nat.le_of_ble_eq_true rfl) vq_sz_3_1 rfl rfl ?_
    refine ARun.nil ?_
    refine AW.region ?_
    refine ARun.pure (PureOp.move rfl (.tmp rfl)) rfl rfl (Nat.le_of_ble_eq_true rfl) ?_
    refine ARun.pure (PureOp.add (c := ((a + ((x.take k).map crSample).sum + 1 + 1 : Nat) : Int)) rfl (.tmp rfl) .int (by rw [wrap_id (by omega) (by omega)]; omega)) rfl rfl (Nat.le_of_ble_eq_true rfl) ?_
    refine ARun.pure (PureOp.assign rfl (.tmp rfl)) rfl rfl (Nat.le_of_ble_eq_true rfl) ?_
    refine ARun.nil ?_
    refine AW.region ?_
    refine ARun.pure (PureOp.move rfl (.tmp rfl)) rfl rfl (Nat.le_of_ble_eq_true rfl) ?_
    refine ARun.pure (PureOp.add (c := ((k + 1 : Nat) : Int)) rfl (.tmp rfl) .int (by rw [wrap_id (by omega) (by omega)]; omega)) rfl rfl (Nat.le_of_ble_eq_true rfl) ?_
    refine ARun.pure (PureOp.assign rfl (.tmp rfl)) rfl rfl (Nat.le_of_ble_eq_true rfl) ?_
    refine ARun.nil ?_
    exact ⟨k + 1, by omega, by dsimp only; omega, ⟨⟨⟨_, rfl, rfl⟩, ⟨_, rfl, congrArg (fun z : Nat => SV.one (.int .i64 (z : Int))) (by omega)⟩, ⟨_, rfl, rfl⟩, trivial⟩, ⟨⟨_, rfl, rfl, Nat.le_refl _, fun i j hi (hj : j < 2) => by
      by_cases h : i = k
      · subst h; simp only [AObj.f, true_and, mix_new (default : GSample) hkl]; exact (match j, hj with | 0, _ => rfl | 1, _ => rfl | _ + 2, h => absurd h (by omega))
      · simp only [AObj.f, h, false_and, if_false, mix_old (default : GSample) hkl h]⟩, ⟨_, rfl, fun _ _ => rfl⟩, trivial⟩⟩⟩
  · have _u := True.intro
    replace hb1 := of_decide_eq_false hb1
    have hkl : ¬ k < x.length := by omega
    refine AW.exit ?_
    refine AW.seq ?_
    refine AW.region ?_
    refine ARun.pure (PureOp.move rfl (.tmp rfl)) rfl rfl (Nat.le_of_ble_eq_true rfl) ?_
    refine ARun.pure (PureOp.assign rfl (.tmp rfl)) rfl rfl (Nat.le_of_ble_eq_true rfl) ?_
    refine ARun.nil ?_
    refine AW.ret (show ResL _ _ [.tmp 4] _ ∧ HeapLe _ _ from ⟨resI rfl ?_, ⟨⟨_, rfl, rfl, Nat.le_refl _, fun i j _ _ => by rw [mix_all hkl]⟩, ⟨_, rfl, fun _ _ => rfl⟩, trivial⟩⟩)
    rw [show ctL crSample x = _ from (ct_end hkl).symm]

theorem m_SampleS (x : List GSample) (a : Nat) (ha : 0 < a ∧ a + ctL crSample x ≤ 900000000) : FnM Try.prog 18 (.one (.lst 2 x.length (fun i0 j0 => ([.int .i64 ((x.getD i0 (default : GSample)).at_), .int .i64 ((x.getD i0 (default : GSample)).value)] : List AV).getD j0 (.con undef)))) [.one (.int .i64 (a : Int))] (.one (.int .i64 ((a + ctL crSample x : Nat) : Int))) (.one (.lst 2 ((mkL crSample mrSample x a).length) (fun i0 j0 => ([.int .i64 (((mkL crSample mrSample x a).getD i0 (default : GSample)).at_), .int .i64 (((mkL crSample mrSample x a).getD i0 (default : GSample)).value)] : List AV).getD j0 (.con undef)))) := by
  have h := FnM.ofRow (r := .one (.int .i64 ((a + ctL crSample x : Nat) : Int))) (args := [.one (.int .i64 (a : Int))]) (g := fun i j => ceSample (x.getD i (default : GSample)) j) (g' := fun i j => ceSample ((mkL crSample mrSample x a).getD i (default : GSample)) j) trivial (fun s hs => by simp only [List.mem_singleton] at hs; subst hs; trivial) (by decide) (fun i j hi hj => ⟨rfl, match j, hj with | 0, _ => rfl | 1, _ => rfl | _ + 2, h => absurd h (by omega)⟩) (fun i j hi hj => ⟨rfl, match j, hj with | 0, _ => fun h => by cases h | 1, _ => fun h => by cases h | _ + 2, h => absurd h (by omega)⟩) (fun i j hi hj => match j, hj with | 0, _ => rfl | 1, _ => rfl | _ + 2, h => absurd h (by omega)) (g_markSampleS x a ha)
  have hl : (mkL crSample mrSample x a).length = x.length := mkL_len
  show FnM _ _ _ _ _ (.one (.lst 2 (mkL crSample mrSample x a).length (fun i j => ceSample ((mkL crSample mrSample x a).getD i (default : GSample)) j)))
  rw [hl]; exact h

theorem g_markRowS (x : List GRow) (a : Nat) (ha : 0 < a ∧ a + ctL crRow x ≤ 900000000) : FnG Try.prog 51 [.one (.own 1000000 2 x.length), .one (.int .i64 (a : Int))] [(1000000, .arr 2 x.length (fun i j => nmA 1000001 (i * 2 + j) (ceRow (x.getD i (default : GRow)) j))), (1000001, .trees (x.length * 2) (famX 2 (fun i j => lonly (ceRow (x.getD i (default : GRow)) j))))] (.one (.int .i64 ((a + ctL crRow x : Nat) : Int))) [(1000000, .arr 2 x.length (fun i j => nmA 1000001 (i * 2 + j) (ceRow ((mkL crRow mrRow x a).getD i (default : GRow)) j))), (1000001, .trees (x.length * 2) (famX 2 (fun i j => lonly (ceRow ((mkL crRow mrRow x a).getD i (default : GRow)) j))))] := by
  obtain ⟨ha0, ha1⟩ := ha
  refine FnG.of_body (fn := Try.f51) Try.func51 rfl (Nat.le_of_ble_eq_true rfl) ?_
  intro w0
  show AW _ 28 _ _ _ _
  refine AW.boundO (t := 0) rfl fun hx => ?_
  refine AW.seq ?_
  refine AW.region ?_
  refine ARun.pure (PureOp.assign rfl .int) rfl rfl (Nat.le_of_ble_eq_true rfl) ?_
  refine ARun.nil ?_
  refine AW.seq ?_
  refine AW.seq ?_
  refine AW.region ?_
  refine ARun.pure (PureOp.assign rfl .int) rfl rfl (Nat.le_of_ble_eq_true rfl) ?_
  refine ARun.nil ?_
  refine AW.block ?_
  refine AW.loop (ι := Nat) (fun k => ⟨[(0, .one (.own 1000000 2 x.length)), (1, .one (.int .i64 ((a + ((x.take k).map crRow).sum : Nat) : Int))), (5, .one (.int .i64 (k : Int)))], [(1000000, .arr 2 x.length (fun i j => nmA 1000001 (i * 2 + j) (ceRow ((mixL crRow mrRow x a k).getD i (default : GRow)) j))), (1000001, .trees (x.length * 2) (famX 2 (fun i j => lonly (ceRow ((mixL crRow mrRow x a k).getD i (default : GRow)) j))))]⟩) (fun k => k ≤ x.length) (fun k => x.length - k) 0 (Nat.zero_le _) ⟨⟨⟨_, rfl, rfl⟩, ⟨_, rfl, by simp⟩, ⟨_, rfl, rfl⟩, trivial⟩, ⟨⟨_, rfl, rfl, Nat.le_refl _, fun i j _ _ => by rw [mix_zero]⟩, ⟨_, rfl, fun q _ => by rw [mix_zero]⟩, trivial⟩⟩ ?_
  intro k hk
  refine AW.seq ?_
  refine AW.seq ?_
  refine AW.region ?_
  refine ARun.pure (PureOp.move rfl (.tmp rfl)) rfl rfl (Nat.le_of_ble_eq_true rfl) ?_
  refine ARun.pure (PureOp.move rfl (.tmp rfl)) rfl rfl (Nat.le_of_ble_eq_true rfl) ?_
  refine ARun.pure (PureOp.lenOwn rfl (.tmp rfl) vq_sl_27) rfl rfl (Nat.le_of_ble_eq_true rfl) ?_
  refine ARun.pure (PureOp.intOp rfl (.tmp rfl) (.tmp rfl) rfl) rfl rfl (Nat.le_of_ble_eq_true rfl) ?_
  refine ARun.nil ?_
  refine AW.cond (.tmp rfl) (fun hb1 => ?_) (fun hb1 => ?_)
  · have _u := True.intro
    replace hb1 := of_decide_eq_true hb1
    have hkl : k < x.length := by omega
    obtain ⟨hst, hsm⟩ := ct_step (ct := crRow) (default : GRow) hkl
    have hce : crRow (x.getD k (default : GRow)) = 0 + 1 + ctL crSample ((x.getD k (default : GRow)).samples) := rfl
    refine AW.skip ?_
    refine AW.seq ?_
    refine AW.block ?_
    refine AW.seq ?_
    refine AW.region ?_
    refine ARun.pure (PureOp.move rfl (.tmp rfl)) rfl rfl (Nat.le_of_ble_eq_true rfl) ?_
    refine ARun.pure (PureOp.move rfl (.tmp rfl)) rfl rfl (Nat.le_of_ble_eq_true rfl) ?_
    refine ARun.pure (PureOp.move rfl (.tmp rfl)) rfl rfl (Nat.le_of_ble_eq_true rfl) ?_
    refine ARun.pure (PureOp.call rfl (v_markText (a + ((x.take k).map crRow).sum) (by omega) (by omega)) ⟨⟨_, (.tmp rfl), .int⟩, trivial⟩ vq_ca_63 (Nat.le_trans (mkText_size (by omega)) (by decide))) rfl rfl (Nat.le_of_ble_eq_true rfl) ?_
    refine ARun.pure (PureOp.indexOwn (i := k) rfl (.tmp rfl) vq_el_27_2 (.tmp rfl) rfl (by omega)) rfl rfl (Nat.le_of_ble_eq_true rfl) ?_
    refine ARun.pure (PureOp.fieldPtr rfl (.tmp rfl) vq_fi_67_0_0) rfl rfl (Nat.le_of_ble_eq_true rfl) ?_
    refine ARun.storeArr rfl (.tmp rfl) (.tmp rfl) trivial rfl (show k < x.length from by omega) (Nat.le_of_ble_eq_true rfl) vq_sz_9_1 rfl rfl ?_
    refine ARun.nil ?_
    refine AW.seq ?_
    refine AW.region ?_
    refine ARun.pure (PureOp.move rfl (.tmp rfl)) rfl rfl (Nat.le_of_ble_eq_true rfl) ?_
    refine ARun.pure (PureOp.add (c := ((a + ((x.take k).map crRow).sum + 1 : Nat) : Int)) rfl (.tmp rfl) .int (by rw [wrap_id (by omega) (by omega)]; omega)) rfl rfl (Nat.le_of_ble_eq_true rfl) ?_
    refine ARun.pure (PureOp.assign rfl (.tmp rfl)) rfl rfl (Nat.le_of_ble_eq_true rfl) ?_
    refine ARun.nil ?_
    refine AW.region ?_
    refine ARun.pure (PureOp.move rfl (.tmp rfl)) rfl rfl (Nat.le_of_ble_eq_true rfl) ?_
    refine ARun.pure (PureOp.move rfl (.tmp rfl)) rfl rfl (Nat.le_of_ble_eq_true rfl) ?_
    refine ARun.pure (PureOp.indexOwn (i := k) rfl (.tmp rfl) vq_el_27_2 (.tmp rfl) rfl (by omega)) rfl rfl (Nat.le_of_ble_eq_true rfl) ?_
    refine ARun.pure (PureOp.fieldPtr rfl (.tmp rfl) vq_fi_67_1_1) rfl rfl (Nat.le_of_ble_eq_true rfl) ?_
    refine ARun.pure (PureOp.loadPtrE (y := .tre 1000001 (k * 2 + 1)) rfl (.tmp rfl) vq_pl_33 rfl rfl (show k < x.length from by omega) (Nat.le_of_ble_eq_true rfl) (by simp only [AObj.f]; (repeat rw [if_neg (by omega)]); rfl)) rfl rfl (Nat.le_of_ble_eq_true rfl) ?_
    refine ARun.pure (PureOp.move rfl (.tmp rfl)) rfl rfl (Nat.le_of_ble_eq_true rfl) ?_
    refine ARun.mark (id := 1000001) (q0 := k * 2 + 1) (X' := fun q => if q = k * 2 + 1 then .lst 2 ((mkL crSample mrSample ((x.getD k (default : GRow)).samples) (a + ((x.take k).map crRow).sum + 1)).length) (fun i0 j0 => ([.int .i64 (((mkL crSample mrSample ((x.getD k (default : GRow)).samples) (a + ((x.take k).map crRow).sum + 1)).getD i0 (default : GSample)).at_), .int .i64 (((mkL crSample mrSample ((x.getD k (default : GRow)).samples) (a + ((x.take k).map crRow).sum + 1)).getD i0 (default : GSample)).value)] : List AV).getD j0 (.con undef)) else (famX 2 (fun i j => lonly (ceRow ((mixL crRow mrRow x a k).getD i (default : GRow)) j))) q) rfl (m_SampleS ((x.getD k (default : GRow)).samples) (a + ((x.take k).map crRow).sum + 1) ⟨by omega, by omega⟩) vq_ca_18 trivial (.tmp rfl) rfl rfl rfl (cell_lt (sz := 2) (j := 1) hkl (by decide)) (fun p hp _ => match p, hp with | 0, _ => (by show (famX 2 (fun i j => lonly (ceRow ((mixL crRow mrRow x a k).getD i (default : GRow)) j))) (k * 2 + 1) = _; (try dsimp only); (repeat rw [if_neg (by omega)]); rw [famX_at (sz := 2) (j := 1) (by decide), mix_at (default : GRow) hkl]; rfl) | _ + 1, h => absurd h (by simp [SV.leaves])) rfl trivial (fun p hp _ => match p, hp with | 0, _ => if_pos rfl | _ + 1, h => absurd h (by simp [SV.leaves])) (fun q _ hne => if_neg (fun e => hne 0 (Nat.zero_lt_one) rfl e)) ⟨(.tmp rfl), trivial, trivial⟩ rfl rfl (Nat.le_of_ble_eq_true rfl) ?_
    refine ARun.pure (PureOp.assign rfl (.tmp rfl)) rfl rfl (Nat.le_of_ble_eq_true rfl) ?_
    refine ARun.nil ?_
    refine AW.region ?_
    refine ARun.pure (PureOp.move rfl (.tmp rfl)) rfl rfl (Nat.le_of_ble_eq_true rfl) ?_
    refine ARun.pure (PureOp.add (c := ((k + 1 : Nat) : Int)) rfl (.tmp rfl) .int (by rw [wrap_id (by omega) (by omega)]; omega)) rfl rfl (Nat.le_of_ble_eq_true rfl) ?_
    refine ARun.pure (PureOp.assign rfl (.tmp rfl)) rfl rfl (Nat.le_of_ble_eq_true rfl) ?_
    refine ARun.nil ?_
    exact ⟨k + 1, by omega, by dsimp only; omega, ⟨⟨⟨_, rfl, rfl⟩, ⟨_, rfl, congrArg (fun z : Nat => SV.one (.int .i64 (z : Int))) (by omega)⟩, ⟨_, rfl, rfl⟩, trivial⟩, ⟨⟨_, rfl, rfl, Nat.le_refl _, fun i j hi (hj : j < 2) => by
      by_cases h : i = k
      · subst h; simp only [AObj.f, true_and, mix_new (default : GRow) hkl]; exact (match j, hj with | 0, _ => rfl | 1, _ => rfl | _ + 2, h => absurd h (by omega))
      · simp only [AObj.f, h, false_and, if_false, mix_old (default : GRow) hkl h]⟩, ⟨_, rfl, fun q hq => famX_ext (X := fun q => if q = k * 2 + 1 then .lst 2 ((mkL crSample mrSample ((x.getD k (default : GRow)).samples) (a + ((x.take k).map crRow).sum + 1)).length) (fun i0 j0 => ([.int .i64 (((mkL crSample mrSample ((x.getD k (default : GRow)).samples) (a + ((x.take k).map crRow).sum + 1)).getD i0 (default : GSample)).at_), .int .i64 (((mkL crSample mrSample ((x.getD k (default : GRow)).samples) (a + ((x.take k).map crRow).sum + 1)).getD i0 (default : GSample)).value)] : List AV).getD j0 (.con undef)) else (famX 2 (fun i j => lonly (ceRow ((mixL crRow mrRow x a k).getD i (default : GRow)) j))) q) (g := fun i j => lonly (ceRow ((mixL crRow mrRow x a (k + 1)).getD i (default : GRow)) j)) (by decide) (fun i j hi (hj : j < 2) => by
      (try dsimp only)
      by_cases h : i = k
      · subst h; rw [upd_at hj (show 1 < 2 by decide)]; simp only [famX_at hj, true_and, mix_new (default : GRow) hkl, mix_at (default : GRow) hkl]; exact (match j, hj with | 0, _ => rfl | 1, _ => rfl | _ + 2, h => absurd h (by omega))
      · rw [upd_at hj (show 1 < 2 by decide)]; simp only [famX_at hj, h, false_and, if_false, mix_old (default : GRow) hkl h]) q hq⟩, trivial⟩⟩⟩
  · have _u := True.intro
    replace hb1 := of_decide_eq_false hb1
    have hkl : ¬ k < x.length := by omega
    refine AW.exit ?_
    refine AW.seq ?_
    refine AW.region ?_
    refine ARun.pure (PureOp.move rfl (.tmp rfl)) rfl rfl (Nat.le_of_ble_eq_true rfl) ?_
    refine ARun.pure (PureOp.assign rfl (.tmp rfl)) rfl rfl (Nat.le_of_ble_eq_true rfl) ?_
    refine ARun.nil ?_
    refine AW.ret (show ResL _ _ [.tmp 4] _ ∧ HeapLe _ _ from ⟨resI rfl ?_, ⟨⟨_, rfl, rfl, Nat.le_refl _, fun i j _ _ => by rw [mix_all hkl]⟩, ⟨_, rfl, fun q _ => by rw [mix_all hkl]⟩, trivial⟩⟩)
    rw [show ctL crRow x = _ from (ct_end hkl).symm]

theorem m_RowS (x : List GRow) (a : Nat) (ha : 0 < a ∧ a + ctL crRow x ≤ 900000000) : FnM Try.prog 51 (.one (.lst 2 x.length (fun i0 j0 => ([.str ((x.getD i0 (default : GRow)).name), .lst 2 (((x.getD i0 (default : GRow)).samples).length) (fun i1 j1 => ([.int .i64 ((((x.getD i0 (default : GRow)).samples).getD i1 (default : GSample)).at_), .int .i64 ((((x.getD i0 (default : GRow)).samples).getD i1 (default : GSample)).value)] : List AV).getD j1 (.con undef))] : List AV).getD j0 (.con undef)))) [.one (.int .i64 (a : Int))] (.one (.int .i64 ((a + ctL crRow x : Nat) : Int))) (.one (.lst 2 ((mkL crRow mrRow x a).length) (fun i0 j0 => ([.str (((mkL crRow mrRow x a).getD i0 (default : GRow)).name), .lst 2 ((((mkL crRow mrRow x a).getD i0 (default : GRow)).samples).length) (fun i1 j1 => ([.int .i64 (((((mkL crRow mrRow x a).getD i0 (default : GRow)).samples).getD i1 (default : GSample)).at_), .int .i64 (((((mkL crRow mrRow x a).getD i0 (default : GRow)).samples).getD i1 (default : GSample)).value)] : List AV).getD j1 (.con undef))] : List AV).getD j0 (.con undef)))) := by
  have h := FnM.ofRow (r := .one (.int .i64 ((a + ctL crRow x : Nat) : Int))) (args := [.one (.int .i64 (a : Int))]) (g := fun i j => ceRow (x.getD i (default : GRow)) j) (g' := fun i j => ceRow ((mkL crRow mrRow x a).getD i (default : GRow)) j) trivial (fun s hs => by simp only [List.mem_singleton] at hs; subst hs; trivial) (by decide) (fun i j hi hj => ⟨rfl, famX_at hj⟩) (fun i j hi hj => ⟨rfl, fun h => (famX_at hj).trans (lonly_L h)⟩) (fun i j hi hj => match j, hj with | 0, _ => rfl | 1, _ => rfl | _ + 2, h => absurd h (by omega)) (g_markRowS x a ha)
  have hl : (mkL crRow mrRow x a).length = x.length := mkL_len
  show FnM _ _ _ _ _ (.one (.lst 2 (mkL crRow mrRow x a).length (fun i j => ceRow ((mkL crRow mrRow x a).getD i (default : GRow)) j)))
  rw [hl]; exact h

theorem g_markHead (x : GHead) (a : Nat) (ha : 0 < a ∧ a + cvHead x ≤ 900000000) : FnG Try.prog 17 [.agg [.tre 1000000 0, .int .i64 x.offset], .one (.int .i64 (a : Int))] [(1000000, .trees 2 (fun p => ([.lst 2 x.rows.length (fun i0 j0 => ([.str ((x.rows.getD i0 (default : GRow)).name), .lst 2 (((x.rows.getD i0 (default : GRow)).samples).length) (fun i1 j1 => ([.int .i64 ((((x.rows.getD i0 (default : GRow)).samples).getD i1 (default : GSample)).at_), .int .i64 ((((x.rows.getD i0 (default : GRow)).samples).getD i1 (default : GSample)).value)] : List AV).getD j1 (.con undef))] : List AV).getD j0 (.con undef)), .int .i64 x.offset] : List AV).getD p (.con undef)))] (.one (.int .i64 ((a + cvHead x : Nat) : Int))) [(1000000, .trees 2 (fun p => ([.lst 2 (((mvHead x a).rows).length) (fun i0 j0 => ([.str ((((mvHead x a).rows).getD i0 (default : GRow)).name), .lst 2 (((((mvHead x a).rows).getD i0 (default : GRow)).samples).length) (fun i1 j1 => ([.int .i64 ((((((mvHead x a).rows).getD i0 (default : GRow)).samples).getD i1 (default : GSample)).at_), .int .i64 ((((((mvHead x a).rows).getD i0 (default : GRow)).samples).getD i1 (default : GSample)).value)] : List AV).getD j1 (.con undef))] : List AV).getD j0 (.con undef)), .int .i64 ((mvHead x a).offset)] : List AV).getD p (.con undef)))] := by
  obtain ⟨ha0, ha1⟩ := ha
  have hcv : cvHead x = 0 + ctL crRow (x.rows) := rfl
  refine FnG.of_body (fn := Try.f17) Try.func17 rfl (Nat.le_of_ble_eq_true rfl) ?_
  intro w0
  show AW _ 10 _ _ _ _
  refine AW.seq ?_
  refine AW.region ?_
  refine ARun.box (id := 0) rfl (.tmp rfl) (SV.cells_of (by exact ⟨trivial, trivial, trivial⟩)) ⟨rfl, (by repeat first | exact trivial | refine ⟨by decide, by first | rfl | exact trivial | (intro i j; first | rfl | exact getD_no rfl | (dsimp only; split <;> first | rfl | exact getD_no rfl) | exact scl_no (by apply_assumption) _), ?_⟩)⟩ rfl rfl rfl (Nat.le_of_ble_eq_true rfl) ?_
  refine ARun.pure (PureOp.assign rfl .int) rfl rfl (Nat.le_of_ble_eq_true rfl) ?_
  refine ARun.nil ?_
  refine AW.seq ?_
  refine AW.region ?_
  refine ARun.pure (PureOp.fieldPtr rfl (.tmp rfl) vq_fi_29_0_0) rfl rfl (Nat.le_of_ble_eq_true rfl) ?_
  refine ARun.pure (PureOp.loadPtr rfl (.tmp rfl) vq_pl_27 rfl rfl (Nat.le_of_ble_eq_true rfl) (Nat.le_of_ble_eq_true rfl)) rfl rfl (Nat.le_of_ble_eq_true rfl) ?_
  refine ARun.pure (PureOp.move rfl (.tmp rfl)) rfl rfl (Nat.le_of_ble_eq_true rfl) ?_
  refine ARun.mark (id := 1000000) (q0 := 0) (X' := fun q => if q = 0 then .lst 2 ((mkL crRow mrRow x.rows a).length) (fun i0 j0 => ([.str (((mkL crRow mrRow x.rows a).getD i0 (default : GRow)).name), .lst 2 ((((mkL crRow mrRow x.rows a).getD i0 (default : GRow)).samples).length) (fun i1 j1 => ([.int .i64 (((((mkL crRow mrRow x.rows a).getD i0 (default : GRow)).samples).getD i1 (default : GSample)).at_), .int .i64 (((((mkL crRow mrRow x.rows a).getD i0 (default : GRow)).samples).getD i1 (default : GSample)).value)] : List AV).getD j1 (.con undef))] : List AV).getD j0 (.con undef)) else (fun p => ([.lst 2 x.rows.length (fun i0 j0 => ([.str ((x.rows.getD i0 (default : GRow)).name), .lst 2 (((x.rows.getD i0 (default : GRow)).samples).length) (fun i1 j1 => ([.int .i64 ((((x.rows.getD i0 (default : GRow)).samples).getD i1 (default : GSample)).at_), .int .i64 ((((x.rows.getD i0 (default : GRow)).samples).getD i1 (default : GSample)).value)] : List AV).getD j1 (.con undef))] : List AV).getD j0 (.con undef)), .int .i64 x.offset] : List AV).getD p (.con undef)) q) rfl (m_RowS x.rows a ⟨by omega, by omega⟩) vq_ca_51 trivial (.tmp rfl) rfl rfl rfl (Nat.le_of_ble_eq_true rfl) (fun p hp _ => match p, hp with | 0, _ => rfl | _ + 1, h => absurd h (by simp [SV.leaves])) rfl trivial (fun p hp _ => match p, hp with | 0, _ => if_pos rfl | _ + 1, h => absurd h (by simp [SV.leaves])) (fun q _ hne => if_neg (fun e => hne 0 (Nat.zero_lt_one) rfl e)) ⟨(.tmp rfl), trivial, trivial⟩ rfl rfl (Nat.le_of_ble_eq_true rfl) ?_
  refine ARun.pure (PureOp.assign rfl (.tmp rfl)) rfl rfl (Nat.le_of_ble_eq_true rfl) ?_
  refine ARun.nil ?_
  refine AW.seq ?_
  refine AW.region ?_
  refine ARun.pure (PureOp.move rfl (.tmp rfl)) rfl rfl (Nat.le_of_ble_eq_true rfl) ?_
  refine ARun.pure (PureOp.assign rfl (.tmp rfl)) rfl rfl (Nat.le_of_ble_eq_true rfl) ?_
  refine ARun.nil ?_
  refine AW.ret (show ResL _ _ [.tmp 4] _ ∧ HeapLe _ _ from ⟨resI rfl ?_, ⟨⟨_, rfl, fun q hq => match q, hq with | 0, _ => rfl | 1, _ => rfl | _ + 2, h => absurd h (by omega)⟩, trivial⟩⟩)
  omega

theorem m_Head (x : GHead) (a : Nat) (ha : 0 < a ∧ a + cvHead x ≤ 900000000) : FnM Try.prog 17 (.agg [.lst 2 x.rows.length (fun i0 j0 => ([.str ((x.rows.getD i0 (default : GRow)).name), .lst 2 (((x.rows.getD i0 (default : GRow)).samples).length) (fun i1 j1 => ([.int .i64 ((((x.rows.getD i0 (default : GRow)).samples).getD i1 (default : GSample)).at_), .int .i64 ((((x.rows.getD i0 (default : GRow)).samples).getD i1 (default : GSample)).value)] : List AV).getD j1 (.con undef))] : List AV).getD j0 (.con undef)), .int .i64 x.offset]) [.one (.int .i64 (a : Int))] (.one (.int .i64 ((a + cvHead x : Nat) : Int))) (.agg [.lst 2 (((mvHead x a).rows).length) (fun i0 j0 => ([.str ((((mvHead x a).rows).getD i0 (default : GRow)).name), .lst 2 (((((mvHead x a).rows).getD i0 (default : GRow)).samples).length) (fun i1 j1 => ([.int .i64 ((((((mvHead x a).rows).getD i0 (default : GRow)).samples).getD i1 (default : GSample)).at_), .int .i64 ((((((mvHead x a).rows).getD i0 (default : GRow)).samples).getD i1 (default : GSample)).value)] : List AV).getD j1 (.con undef))] : List AV).getD j0 (.con undef)), .int .i64 ((mvHead x a).offset)]) :=
  FnM.ofAgg trivial (fun s hs => by simp only [List.mem_singleton] at hs; subst hs; trivial) rfl (fun _ _ h => h) (g_markHead x a ha)

theorem g_markIntS (x : List Int) (a : Nat) (ha : 0 < a ∧ a + ctL c1 x ≤ 900000000) : FnG Try.prog 34 [.one (.own 1000000 1 x.length), .one (.int .i64 (a : Int))] [(1000000, .arr 1 x.length (fun i j => nmA 1000001 (i * 1 + j) (ceInt (x.getD i (0 : Int)) j))), (1000001, .trees (x.length * 1) (fun _ => .int .i64 0))] (.one (.int .i64 ((a + ctL c1 x : Nat) : Int))) [(1000000, .arr 1 x.length (fun i j => nmA 1000001 (i * 1 + j) (ceInt ((mkL c1 mkI x a).getD i (0 : Int)) j))), (1000001, .trees (x.length * 1) (fun _ => .int .i64 0))] := by
  obtain ⟨ha0, ha1⟩ := ha
  refine FnG.of_body (fn := Try.f34) Try.func34 rfl (Nat.le_of_ble_eq_true rfl) ?_
  intro w0
  show AW _ 19 _ _ _ _
  refine AW.boundO (t := 0) rfl fun hx => ?_
  refine AW.seq ?_
  refine AW.region ?_
  refine ARun.pure (PureOp.assign rfl .int) rfl rfl (Nat.le_of_ble_eq_true rfl) ?_
  refine ARun.nil ?_
  refine AW.seq ?_
  refine AW.seq ?_
  refine AW.region ?_
  refine ARun.pure (PureOp.assign rfl .int) rfl rfl (Nat.le_of_ble_eq_true rfl) ?_
  refine ARun.nil ?_
  refine AW.block ?_
  refine AW.loop (ι := Nat) (fun k => ⟨[(0, .one (.own 1000000 1 x.length)), (1, .one (.int .i64 ((a + ((x.take k).map c1).sum : Nat) : Int))), (5, .one (.int .i64 (k : Int)))], [(1000000, .arr 1 x.length (fun i j => nmA 1000001 (i * 1 + j) (ceInt ((mixL c1 mkI x a k).getD i (0 : Int)) j))), (1000001, .trees (x.length * 1) (fun _ => .int .i64 0))]⟩) (fun k => k ≤ x.length) (fun k => x.length - k) 0 (Nat.zero_le _) ⟨⟨⟨_, rfl, rfl⟩, ⟨_, rfl, by simp⟩, ⟨_, rfl, rfl⟩, trivial⟩, ⟨⟨_, rfl, rfl, Nat.le_refl _, fun i j _ _ => by rw [mix_zero]⟩, ⟨_, rfl, fun _ _ => rfl⟩, trivial⟩⟩ ?_
  intro k hk
  refine AW.seq ?_
  refine AW.seq ?_
  refine AW.region ?_
  refine ARun.pure (PureOp.move rfl (.tmp rfl)) rfl rfl (Nat.le_of_ble_eq_true rfl) ?_
  refine ARun.pure (PureOp.move rfl (.tmp rfl)) rfl rfl (Nat.le_of_ble_eq_true rfl) ?_
  refine ARun.pure (PureOp.lenOwn rfl (.tmp rfl) vq_sl_52) rfl rfl (Nat.le_of_ble_eq_true rfl) ?_
  refine ARun.pure (PureOp.intOp rfl (.tmp rfl) (.tmp rfl) rfl) rfl rfl (Nat.le_of_ble_eq_true rfl) ?_
  refine ARun.nil ?_
  refine AW.cond (.tmp rfl) (fun hb1 => ?_) (fun hb1 => ?_)
  · have _u := True.intro
    replace hb1 := of_decide_eq_true hb1
    have hkl : k < x.length := by omega
    obtain ⟨hst, hsm⟩ := ct_step (ct := c1) (0 : Int) hkl
    have hce : c1 (x.getD k (0 : Int)) = 1 := rfl
    refine AW.skip ?_
    refine AW.seq ?_
    refine AW.block ?_
    refine AW.seq ?_
    refine AW.region ?_
    refine ARun.pure (PureOp.move rfl (.tmp rfl)) rfl rfl (Nat.le_of_ble_eq_true rfl) ?_
    refine ARun.pure (PureOp.move rfl (.tmp rfl)) rfl rfl (Nat.le_of_ble_eq_true rfl) ?_
    refine ARun.pure (PureOp.move rfl (.tmp rfl)) rfl rfl (Nat.le_of_ble_eq_true rfl) ?_
    refine ARun.pure (PureOp.indexOwn (i := k) rfl (.tmp rfl) vq_el_52_1 (.tmp rfl) rfl (by omega)) rfl rfl (Nat.le_of_ble_eq_true rfl) ?_
    refine ARun.storeElem rfl (.tmp rfl) (.tmp rfl) trivial rfl (show k < x.length from by omega) rfl vq_sz_3_1 rfl rfl ?_
    refine ARun.nil ?_
    refine AW.region ?_
    refine ARun.pure (PureOp.move rfl (.tmp rfl)) rfl rfl (Nat.le_of_ble_eq_true rfl) ?_
    refine ARun.pure (PureOp.add (c := ((a + ((x.take k).map c1).sum + 1 : Nat) : Int)) rfl (.tmp rfl) .int (by rw [wrap_id (by omega) (by omega)]; omega)) rfl rfl (Nat.le_of_ble_eq_true rfl) ?_
    refine ARun.pure (PureOp.assign rfl (.tmp rfl)) rfl rfl (Nat.le_of_ble_eq_true rfl) ?_
    refine ARun.nil ?_
    refine AW.region ?_
    refine ARun.pure (PureOp.move rfl (.tmp rfl)) rfl rfl (Nat.le_of_ble_eq_true rfl) ?_
    refine ARun.pure (PureOp.add (c := ((k + 1 : Nat) : Int)) rfl (.tmp rfl) .int (by rw [wrap_id (by omega) (by omega)]; omega)) rfl rfl (Nat.le_of_ble_eq_true rfl) ?_
    refine ARun.pure (PureOp.assign rfl (.tmp rfl)) rfl rfl (Nat.le_of_ble_eq_true rfl) ?_
    refine ARun.nil ?_
    exact ⟨k + 1, by omega, by dsimp only; omega, ⟨⟨⟨_, rfl, rfl⟩, ⟨_, rfl, congrArg (fun z : Nat => SV.one (.int .i64 (z : Int))) (by omega)⟩, ⟨_, rfl, rfl⟩, trivial⟩, ⟨⟨_, rfl, rfl, Nat.le_refl _, fun i j hi (hj : j < 1) => by
      by_cases h : i = k
      · subst h; simp only [AObj.f, true_and, mix_new (0 : Int) hkl]; exact (match j, hj with | 0, _ => rfl | _ + 1, h => absurd h (by omega))
      · simp only [AObj.f, h, false_and, if_false, mix_old (0 : Int) hkl h]⟩, ⟨_, rfl, fun _ _ => rfl⟩, trivial⟩⟩⟩
  · have _u := True.intro
    replace hb1 := of_decide_eq_false hb1
    have hkl : ¬ k < x.length := by omega
    refine AW.exit ?_
    refine AW.seq ?_
    refine AW.region ?_
    refine ARun.pure (PureOp.move rfl (.tmp rfl)) rfl rfl (Nat.le_of_ble_eq_true rfl) ?_
    refine ARun.pure (PureOp.assign rfl (.tmp rfl)) rfl rfl (Nat.le_of_ble_eq_true rfl) ?_
    refine ARun.nil ?_
    refine AW.ret (show ResL _ _ [.tmp 4] _ ∧ HeapLe _ _ from ⟨resI rfl ?_, ⟨⟨_, rfl, rfl, Nat.le_refl _, fun i j _ _ => by rw [mix_all hkl]⟩, ⟨_, rfl, fun _ _ => rfl⟩, trivial⟩⟩)
    rw [show ctL c1 x = _ from (ct_end hkl).symm]

theorem m_IntS (x : List Int) (a : Nat) (ha : 0 < a ∧ a + ctL c1 x ≤ 900000000) : FnM Try.prog 34 (.one (.lst 1 x.length (fun i0 _ => .int .i64 (x.getD i0 0)))) [.one (.int .i64 (a : Int))] (.one (.int .i64 ((a + ctL c1 x : Nat) : Int))) (.one (.lst 1 ((mkL c1 mkI x a).length) (fun i0 _ => .int .i64 ((mkL c1 mkI x a).getD i0 0)))) := by
  have h := FnM.ofRow (r := .one (.int .i64 ((a + ctL c1 x : Nat) : Int))) (args := [.one (.int .i64 (a : Int))]) (g := fun i j => ceInt (x.getD i (0 : Int)) j) (g' := fun i j => ceInt ((mkL c1 mkI x a).getD i (0 : Int)) j) trivial (fun s hs => by simp only [List.mem_singleton] at hs; subst hs; trivial) (by decide) (fun i j hi hj => ⟨rfl, match j, hj with | 0, _ => rfl | _ + 1, h => absurd h (by omega)⟩) (fun i j hi hj => ⟨rfl, match j, hj with | 0, _ => fun h => by cases h | _ + 1, h => absurd h (by omega)⟩) (fun i j hi hj => match j, hj with | 0, _ => rfl | _ + 1, h => absurd h (by omega)) (g_markIntS x a ha)
  have hl : (mkL c1 mkI x a).length = x.length := mkL_len
  show FnM _ _ _ _ _ (.one (.lst 1 (mkL c1 mkI x a).length (fun i j => ceInt ((mkL c1 mkI x a).getD i (0 : Int)) j)))
  rw [hl]; exact h

theorem g_markSayS (x : List GSay) (a : Nat) (ha : 0 < a ∧ a + ctL crSay x ≤ 900000000) : FnG Try.prog 33 [.one (.own 1000000 3 x.length), .one (.int .i64 (a : Int))] [(1000000, .arr 3 x.length (fun i j => nmA 1000001 (i * 3 + j) (ceSay (x.getD i (default : GSay)) j))), (1000001, .trees (x.length * 3) (fun _ => .int .i64 0))] (.one (.int .i64 ((a + ctL crSay x : Nat) : Int))) [(1000000, .arr 3 x.length (fun i j => nmA 1000001 (i * 3 + j) (ceSay ((mkL crSay mrSay x a).getD i (default : GSay)) j))), (1000001, .trees (x.length * 3) (fun _ => .int .i64 0))] := by
  obtain ⟨ha0, ha1⟩ := ha
  refine FnG.of_body (fn := Try.f33) Try.func33 rfl (Nat.le_of_ble_eq_true rfl) ?_
  intro w0
  show AW _ 35 _ _ _ _
  refine AW.boundO (t := 0) rfl fun hx => ?_
  refine AW.seq ?_
  refine AW.region ?_
  refine ARun.pure (PureOp.assign rfl .int) rfl rfl (Nat.le_of_ble_eq_true rfl) ?_
  refine ARun.nil ?_
  refine AW.seq ?_
  refine AW.seq ?_
  refine AW.region ?_
  refine ARun.pure (PureOp.assign rfl .int) rfl rfl (Nat.le_of_ble_eq_true rfl) ?_
  refine ARun.nil ?_
  refine AW.block ?_
  refine AW.loop (ι := Nat) (fun k => ⟨[(0, .one (.own 1000000 3 x.length)), (1, .one (.int .i64 ((a + ((x.take k).map crSay).sum : Nat) : Int))), (5, .one (.int .i64 (k : Int)))], [(1000000, .arr 3 x.length (fun i j => nmA 1000001 (i * 3 + j) (ceSay ((mixL crSay mrSay x a k).getD i (default : GSay)) j))), (1000001, .trees (x.length * 3) (fun _ => .int .i64 0))]⟩) (fun k => k ≤ x.length) (fun k => x.length - k) 0 (Nat.zero_le _) ⟨⟨⟨_, rfl, rfl⟩, ⟨_, rfl, by simp⟩, ⟨_, rfl, rfl⟩, trivial⟩, ⟨⟨_, rfl, rfl, Nat.le_refl _, fun i j _ _ => by rw [mix_zero]⟩, ⟨_, rfl, fun _ _ => rfl⟩, trivial⟩⟩ ?_
  intro k hk
  refine AW.seq ?_
  refine AW.seq ?_
  refine AW.region ?_
  refine ARun.pure (PureOp.move rfl (.tmp rfl)) rfl rfl (Nat.le_of_ble_eq_true rfl) ?_
  refine ARun.pure (PureOp.move rfl (.tmp rfl)) rfl rfl (Nat.le_of_ble_eq_true rfl) ?_
  refine ARun.pure (PureOp.lenOwn rfl (.tmp rfl) vq_sl_55) rfl rfl (Nat.le_of_ble_eq_true rfl) ?_
  refine ARun.pure (PureOp.intOp rfl (.tmp rfl) (.tmp rfl) rfl) rfl rfl (Nat.le_of_ble_eq_true rfl) ?_
  refine ARun.nil ?_
  refine AW.cond (.tmp rfl) (fun hb1 => ?_) (fun hb1 => ?_)
  · have _u := True.intro
    replace hb1 := of_decide_eq_true hb1
    have hkl : k < x.length := by omega
    obtain ⟨hst, hsm⟩ := ct_step (ct := crSay) (default : GSay) hkl
    have hce : crSay (x.getD k (default : GSay)) = 0 + 1 + 1 + 1 := rfl
    refine AW.skip ?_
    refine AW.seq ?_
    refine AW.block ?_
    refine AW.seq ?_
    refine AW.region ?_
    refine ARun.pure (PureOp.move rfl (.tmp rfl)) rfl rfl (Nat.le_of_ble_eq_true rfl) ?_
    refine ARun.pure (PureOp.move rfl (.tmp rfl)) rfl rfl (Nat.le_of_ble_eq_true rfl) ?_
    refine ARun.pure (PureOp.move rfl (.tmp rfl)) rfl rfl (Nat.le_of_ble_eq_true rfl) ?_
    refine ARun.pure (PureOp.call rfl (v_markText (a + ((x.take k).map crSay).sum) (by omega) (by omega)) ⟨⟨_, (.tmp rfl), .int⟩, trivial⟩ vq_ca_63 (Nat.le_trans (mkText_size (by omega)) (by decide))) rfl rfl (Nat.le_of_ble_eq_true rfl) ?_
    refine ARun.pure (PureOp.indexOwn (i := k) rfl (.tmp rfl) vq_el_55_3 (.tmp rfl) rfl (by omega)) rfl rfl (Nat.le_of_ble_eq_true rfl) ?_
    refine ARun.pure (PureOp.fieldPtr rfl (.tmp rfl) vq_fi_47_0_0) rfl rfl (Nat.le_of_ble_eq_true rfl) ?_
    refine ARun.storeArr rfl (.tmp rfl) (.tmp rfl) trivial rfl (show k < x.length from by omega) (Nat.le_of_ble_eq_true rfl) vq_sz_9_1 rfl rfl ?_
    refine ARun.nil ?_
    refine AW.seq ?_
    refine AW.region ?_
    refine ARun.pure (PureOp.move rfl (.tmp rfl)) rfl rfl (Nat.le_of_ble_eq_true rfl) ?_
    refine ARun.pure (PureOp.add (c := ((a + ((x.take k).map crSay).sum + 1 : Nat) : Int)) rfl (.tmp rfl) .int (by rw [wrap_id (by omega) (by omega)]; omega)) rfl rfl (Nat.le_of_ble_eq_true rfl) ?_
    refine ARun.pure (PureOp.assign rfl (.tmp rfl)) rfl rfl (Nat.le_of_ble_eq_true rfl) ?_
    refine ARun.nil ?_
    refine AW.seq ?_
    refine AW.region ?_
    refine ARun.pure (PureOp.move rfl (.tmp rfl)) rfl rfl (Nat.le_of_ble_eq_true rfl) ?_
    refine ARun.pure (PureOp.move rfl (.tmp rfl)) rfl rfl (Nat.le_of_ble_eq_true rfl) ?_
    refine ARun.pure (PureOp.move rfl (.tmp rfl)) rfl rfl (Nat.le_of_ble_eq_true rfl) ?_
    refine ARun.pure (PureOp.indexOwn (i := k) rfl (.tmp rfl) vq_el_55_3 (.tmp rfl) rfl (by omega)) rfl rfl (Nat.le_of_ble_eq_true rfl) ?_
    refine ARun.pure (PureOp.fieldPtr rfl (.tmp rfl) vq_fi_47_1_1) rfl rfl (Nat.le_of_ble_eq_true rfl) ?_
    refine ARun.storeArr rfl (.tmp rfl) (.tmp rfl) trivial rfl (show k < x.length from by omega) (Nat.le_of_ble_eq_true rfl) vq_sz_3_1 rfl rfl ?_
    refine ARun.nil ?_
    refine AW.seq ?_
    refine AW.region ?_
    refine ARun.pure (PureOp.move rfl (.tmp rfl)) rfl rfl (Nat.le_of_ble_eq_true rfl) ?_
    refine ARun.pure (PureOp.add (c := ((a + ((x.take k).map crSay).sum + 1 + 1 : Nat) : Int)) rfl (.tmp rfl) .int (by rw [wrap_id (by omega) (by omega)]; omega)) rfl rfl (Nat.le_of_ble_eq_true rfl) ?_
    refine ARun.pure (PureOp.assign rfl (.tmp rfl)) rfl rfl (Nat.le_of_ble_eq_true rfl) ?_
    refine ARun.nil ?_
    refine AW.seq ?_
    refine AW.region ?_
    refine ARun.pure (PureOp.move rfl (.tmp rfl)) rfl rfl (Nat.le_of_ble_eq_true rfl) ?_
    refine ARun.pure (PureOp.move rfl (.tmp rfl)) rfl rfl (Nat.le_of_ble_eq_true rfl) ?_
    refine ARun.pure (PureOp.move rfl (.tmp rfl)) rfl rfl (Nat.le_of_ble_eq_true rfl) ?_
    refine ARun.pure (PureOp.indexOwn (i := k) rfl (.tmp rfl) vq_el_55_3 (.tmp rfl) rfl (by omega)) rfl rfl (Nat.le_of_ble_eq_true rfl) ?_
    refine ARun.pure (PureOp.fieldPtr rfl (.tmp rfl) vq_fi_47_2_2) rfl rfl (Nat.le_of_ble_eq_true rfl) ?_
    refine ARun.storeArr rfl (.tmp rfl) (.tmp rfl) trivial rfl (show k < x.length from by omega) (Nat.le_of_ble_eq_true rfl) vq_sz_3_1 rfl rfl ?_
    refine ARun.nil ?_
    refine AW.region ?_
    refine ARun.pure (PureOp.move rfl (.tmp rfl)) rfl rfl (Nat.le_of_ble_eq_true rfl) ?_
    refine ARun.pure (PureOp.add (c := ((a + ((x.take k).map crSay).sum + 1 + 1 + 1 : Nat) : Int)) rfl (.tmp rfl) .int (by rw [wrap_id (by omega) (by omega)]; omega)) rfl rfl (Nat.le_of_ble_eq_true rfl) ?_
    refine ARun.pure (PureOp.assign rfl (.tmp rfl)) rfl rfl (Nat.le_of_ble_eq_true rfl) ?_
    refine ARun.nil ?_
    refine AW.region ?_
    refine ARun.pure (PureOp.move rfl (.tmp rfl)) rfl rfl (Nat.le_of_ble_eq_true rfl) ?_
    refine ARun.pure (PureOp.add (c := ((k + 1 : Nat) : Int)) rfl (.tmp rfl) .int (by rw [wrap_id (by omega) (by omega)]; omega)) rfl rfl (Nat.le_of_ble_eq_true rfl) ?_
    refine ARun.pure (PureOp.assign rfl (.tmp rfl)) rfl rfl (Nat.le_of_ble_eq_true rfl) ?_
    refine ARun.nil ?_
    exact ⟨k + 1, by omega, by dsimp only; omega, ⟨⟨⟨_, rfl, rfl⟩, ⟨_, rfl, congrArg (fun z : Nat => SV.one (.int .i64 (z : Int))) (by omega)⟩, ⟨_, rfl, rfl⟩, trivial⟩, ⟨⟨_, rfl, rfl, Nat.le_refl _, fun i j hi (hj : j < 3) => by
      by_cases h : i = k
      · subst h; simp only [AObj.f, true_and, mix_new (default : GSay) hkl]; exact (match j, hj with | 0, _ => rfl | 1, _ => rfl | 2, _ => rfl | _ + 3, h => absurd h (by omega))
      · simp only [AObj.f, h, false_and, if_false, mix_old (default : GSay) hkl h]⟩, ⟨_, rfl, fun _ _ => rfl⟩, trivial⟩⟩⟩
  · have _u := True.intro
    replace hb1 := of_decide_eq_false hb1
    have hkl : ¬ k < x.length := by omega
    refine AW.exit ?_
    refine AW.seq ?_
    refine AW.region ?_
    refine ARun.pure (PureOp.move rfl (.tmp rfl)) rfl rfl (Nat.le_of_ble_eq_true rfl) ?_
    refine ARun.pure (PureOp.assign rfl (.tmp rfl)) rfl rfl (Nat.le_of_ble_eq_true rfl) ?_
    refine ARun.nil ?_
    refine AW.ret (show ResL _ _ [.tmp 4] _ ∧ HeapLe _ _ from ⟨resI rfl ?_, ⟨⟨_, rfl, rfl, Nat.le_refl _, fun i j _ _ => by rw [mix_all hkl]⟩, ⟨_, rfl, fun _ _ => rfl⟩, trivial⟩⟩)
    rw [show ctL crSay x = _ from (ct_end hkl).symm]

theorem m_SayS (x : List GSay) (a : Nat) (ha : 0 < a ∧ a + ctL crSay x ≤ 900000000) : FnM Try.prog 33 (.one (.lst 3 x.length (fun i0 j0 => ([.str ((x.getD i0 (default : GSay)).name), .int .i64 ((x.getD i0 (default : GSay)).at_), .int .i64 ((x.getD i0 (default : GSay)).value)] : List AV).getD j0 (.con undef)))) [.one (.int .i64 (a : Int))] (.one (.int .i64 ((a + ctL crSay x : Nat) : Int))) (.one (.lst 3 ((mkL crSay mrSay x a).length) (fun i0 j0 => ([.str (((mkL crSay mrSay x a).getD i0 (default : GSay)).name), .int .i64 (((mkL crSay mrSay x a).getD i0 (default : GSay)).at_), .int .i64 (((mkL crSay mrSay x a).getD i0 (default : GSay)).value)] : List AV).getD j0 (.con undef)))) := by
  have h := FnM.ofRow (r := .one (.int .i64 ((a + ctL crSay x : Nat) : Int))) (args := [.one (.int .i64 (a : Int))]) (g := fun i j => ceSay (x.getD i (default : GSay)) j) (g' := fun i j => ceSay ((mkL crSay mrSay x a).getD i (default : GSay)) j) trivial (fun s hs => by simp only [List.mem_singleton] at hs; subst hs; trivial) (by decide) (fun i j hi hj => ⟨rfl, match j, hj with | 0, _ => rfl | 1, _ => rfl | 2, _ => rfl | _ + 3, h => absurd h (by omega)⟩) (fun i j hi hj => ⟨rfl, match j, hj with | 0, _ => fun h => by cases h | 1, _ => fun h => by cases h | 2, _ => fun h => by cases h | _ + 3, h => absurd h (by omega)⟩) (fun i j hi hj => match j, hj with | 0, _ => rfl | 1, _ => rfl | 2, _ => rfl | _ + 3, h => absurd h (by omega)) (g_markSayS x a ha)
  have hl : (mkL crSay mrSay x a).length = x.length := mkL_len
  show FnM _ _ _ _ _ (.one (.lst 3 (mkL crSay mrSay x a).length (fun i j => ceSay ((mkL crSay mrSay x a).getD i (default : GSay)) j)))
  rw [hl]; exact h
end Go.Proofs.Ytmfkmifkkplidaa


/-
  What marks left is looked at again.
-/
namespace Go.Proofs.Ytmfkmifkkplidaa
open Go.ChangeShapes Go.WideShapes Go.ChangeAt Go.RowKit Go.BigFrame Go.Deep
set_option linter.unusedVariables false
set_option linter.unusedSimpArgs false
theorem vh2_ca_19 : callB Try.prog 19 = true := by kernel_rfl
theorem vh2_ca_54 : callB Try.prog 54 = true := by kernel_rfl
theorem vh2_ca_63 : callB Try.prog 63 = true := by kernel_rfl
theorem vh2_el_27_2 : elemB Try.prog 27 2 = true := by kernel_rfl
theorem vh2_el_33_2 : elemB Try.prog 33 2 = true := by kernel_rfl
theorem vh2_el_52_1 : elemB Try.prog 52 1 = true := by kernel_rfl
theorem vh2_fi_29_0_0 : fieldB Try.prog 29 0 0 = true := by kernel_rfl
theorem vh2_fi_67_0_0 : fieldB Try.prog 67 0 0 = true := by kernel_rfl
theorem vh2_fi_67_1_1 : fieldB Try.prog 67 1 1 = true := by kernel_rfl
theorem vh2_fi_81_0_0 : fieldB Try.prog 81 0 0 = true := by kernel_rfl
theorem vh2_fi_81_1_1 : fieldB Try.prog 81 1 1 = true := by kernel_rfl
theorem vh2_pl_27 : plainB Try.prog 27 = true := by kernel_rfl
theorem vh2_pl_3 : plainB Try.prog 3 = true := by kernel_rfl
theorem vh2_pl_33 : plainB Try.prog 33 = true := by kernel_rfl
theorem vh2_pl_9 : plainB Try.prog 9 = true := by kernel_rfl
theorem vh2_sl_27 : sliceB Try.prog 27 = true := by kernel_rfl
theorem vh2_sl_33 : sliceB Try.prog 33 = true := by kernel_rfl
theorem vh2_sl_52 : sliceB Try.prog 52 = true := by kernel_rfl
theorem h_SampleS (xx yy : List GSample) (a : Nat) (hy : yy = mkL crSample mrSample xx a) (ha : 0 < a ∧ a + ctL crSample xx ≤ 900000000) : Fn Try.prog 19 [.one (.lst 2 yy.length (fun i0 j0 => ([.int .i64 ((yy.getD i0 (default : GSample)).at_), .int .i64 ((yy.getD i0 (default : GSample)).value)] : List AV).getD j0 (.con undef))), .one (.int .i64 (a : Int))] (.one (.int .i64 ((a + ctL crSample xx : Nat) : Int))) := by
  obtain ⟨ha0, ha1⟩ := ha
  have hlen : yy.length = xx.length := by rw [hy]; exact mkL_len
  refine Fn.of_body (fn := Try.f19) Try.func19 rfl (Nat.le_of_ble_eq_true rfl) trivial ?_
  intro w0
  show AW _ 31 _ _ _ _
  refine AW.bound (t := 0) rfl fun hx => ?_
  refine AW.seq ?_
  refine AW.region ?_
  refine ARun.pure (PureOp.assign rfl .int) rfl rfl (Nat.le_of_ble_eq_true rfl) ?_
  refine ARun.nil ?_
  refine AW.seq ?_
  refine AW.seq ?_
  refine AW.region ?_
  refine ARun.pure (PureOp.assign rfl .int) rfl rfl (Nat.le_of_ble_eq_true rfl) ?_
  refine ARun.nil ?_
  refine AW.block ?_
  refine AW.loop (ι := Nat) (fun k => ⟨[(0, .one (.lst 2 yy.length (fun i0 j0 => ([.int .i64 ((yy.getD i0 (default : GSample)).at_), .int .i64 ((yy.getD i0 (default : GSample)).value)] : List AV).getD j0 (.con undef)))), (1, .one (.int .i64 ((a + ((xx.take k).map crSample).sum : Nat) : Int))), (5, .one (.int .i64 (k : Int)))], []⟩) (fun k => k ≤ xx.length) (fun k => xx.length - k) 0 (Nat.zero_le _) ⟨⟨⟨_, rfl, rfl⟩, ⟨_, rfl, by simp⟩, ⟨_, rfl, rfl⟩, trivial⟩, trivial⟩ ?_
  intro k hk
  refine AW.seq ?_
  refine AW.seq ?_
  refine AW.region ?_
  refine ARun.pure (PureOp.move rfl (.tmp rfl)) rfl rfl (Nat.le_of_ble_eq_true rfl) ?_
  refine ARun.pure (PureOp.move rfl (.tmp rfl)) rfl rfl (Nat.le_of_ble_eq_true rfl) ?_
  refine ARun.pure (PureOp.lenLst rfl (.tmp rfl) vh2_sl_33) rfl rfl (Nat.le_of_ble_eq_true rfl) ?_
  refine ARun.pure (PureOp.intOp rfl (.tmp rfl) (.tmp rfl) rfl) rfl rfl (Nat.le_of_ble_eq_true rfl) ?_
  refine ARun.nil ?_
  refine AW.cond (.tmp rfl) (fun hb1 => ?_) (fun hb1 => ?_)
  · have _u := True.intro
    replace hb1 := of_decide_eq_true hb1
    have hkl : k < xx.length := by omega
    obtain ⟨hst, hsm⟩ := ct_step (ct := crSample) (default : GSample) hkl
    have he : yy.getD k (default : GSample) = mrSample (xx.getD k (default : GSample)) (a + ((xx.take k).map crSample).sum) := by rw [hy]; exact mkL_get (default : GSample) hkl
    have hce : crSample (xx.getD k (default : GSample)) = 0 + 1 + 1 := rfl
    refine AW.skip ?_
    refine AW.seq ?_
    refine AW.block ?_
    refine AW.seq ?_
    refine AW.seq ?_
    refine AW.region ?_
    refine ARun.pure (PureOp.move rfl (.tmp rfl)) rfl rfl (Nat.le_of_ble_eq_true rfl) ?_
    refine ARun.pure (PureOp.move rfl (.tmp rfl)) rfl rfl (Nat.le_of_ble_eq_true rfl) ?_
    refine ARun.pure (PureOp.indexLst (i := k) rfl (.tmp rfl) vh2_el_33_2 (.tmp rfl) rfl (by omega)) rfl rfl (Nat.le_of_ble_eq_true rfl) ?_
    refine ARun.pure (PureOp.fieldRef rfl (.tmp rfl) vh2_fi_81_0_0 (Nat.le_of_ble_eq_true rfl)) rfl rfl (Nat.le_of_ble_eq_true rfl) ?_
    refine ARun.pure (PureOp.loadRef rfl (.tmp rfl) vh2_pl_3 (Nat.le_of_ble_eq_true rfl)) rfl rfl (Nat.le_of_ble_eq_true rfl) ?_
    refine ARun.pure (PureOp.move rfl (.tmp rfl)) rfl rfl (Nat.le_of_ble_eq_true rfl) ?_
    refine ARun.pure (PureOp.intOp rfl (.tmp rfl) (.tmp rfl) rfl) rfl rfl (Nat.le_of_ble_eq_true rfl) ?_
    refine ARun.nil ?_
    refine AW.cond (.tmp rfl) (fun hb2 => ?_) (fun hb2 => ?_)
    · have _u := True.intro
      replace hb2 := of_decide_eq_false (of_not hb2)
      exact absurd (by rw [he]; rfl) hb2
      --end
    · have _u := True.intro
      replace hb2 := of_decide_eq_true (not_f hb2)
      refine AW.skip ?_
      refine AW.seq ?_
      refine AW.region ?_
      refine ARun.pure (PureOp.move rfl (.tmp rfl)) rfl rfl (Nat.le_of_ble_eq_true rfl) ?_
      refine ARun.pure (PureOp.add (c := ((a + ((xx.take k).map crSample).sum + 1 : Nat) : Int)) rfl (.tmp rfl) .int (by rw [wrap_id (by omega) (by omega)]; omega)) rfl rfl (Nat.le_of_ble_eq_true rfl) ?_
      refine ARun.pure (PureOp.assign rfl (.tmp rfl)) rfl rfl (Nat.le_of_ble_eq_true rfl) ?_
      refine ARun.nil ?_
      refine AW.seq ?_
      refine AW.seq ?_
      refine AW.region ?_
      refine ARun.pure (PureOp.move rfl (.tmp rfl)) rfl rfl (Nat.le_of_ble_eq_true rfl) ?_
      refine ARun.pure (PureOp.move rfl (.tmp rfl)) rfl rfl (Nat.le_of_ble_eq_true rfl) ?_
      refine ARun.pure (PureOp.indexLst (i := k) rfl (.tmp rfl) vh2_el_33_2 (.tmp rfl) rfl (by omega)) rfl rfl (Nat.le_of_ble_eq_true rfl) ?_
      refine ARun.pure (PureOp.fieldRef rfl (.tmp rfl) vh2_fi_81_1_1 (Nat.le_of_ble_eq_true rfl)) rfl rfl (Nat.le_of_ble_eq_true rfl) ?_
      refine ARun.pure (PureOp.loadRef rfl (.tmp rfl) vh2_pl_3 (Nat.le_of_ble_eq_true rfl)) rfl rfl (Nat.le_of_ble_eq_true rfl) ?_
      refine ARun.pure (PureOp.move rfl (.tmp rfl)) rfl rfl (Nat.le_of_ble_eq_true rfl) ?_
      refine ARun.pure (PureOp.intOp rfl (.tmp rfl) (.tmp rfl) rfl) rfl rfl (Nat.le_of_ble_eq_true rfl) ?_
      refine ARun.nil ?_
      refine AW.cond (.tmp rfl) (fun hb3 => ?_) (fun hb3 => ?_)
      · have _u := True.intro
        replace hb3 := of_decide_eq_false (of_not hb3)
        exact absurd (by rw [he]; rfl) hb3
        --end
      · have _u := True.intro
        replace hb3 := of_decide_eq_true (not_f hb3)
        refine AW.skip ?_
        refine AW.region ?_
        refine ARun.pure (PureOp.move rfl (.tmp rfl)) rfl rfl (Nat.le_of_ble_eq_true rfl) ?_
        refine ARun.pure (PureOp.add (c := ((a + ((xx.take k).map crSample).sum + 1 + 1 : Nat) : Int)) rfl (.tmp rfl) .int (by rw [wrap_id (by omega) (by omega)]; omega)) rfl rfl (Nat.le_of_ble_eq_true rfl) ?_
        refine ARun.pure (PureOp.assign rfl (.tmp rfl)) rfl rfl (Nat.le_of_ble_eq_true rfl) ?_
        refine ARun.nil ?_
        refine AW.region ?_
        refine ARun.pure (PureOp.move rfl (.tmp rfl)) rfl rfl (Nat.le_of_ble_eq_true rfl) ?_
        refine ARun.pure (PureOp.add (c := ((k + 1 : Nat) : Int)) rfl (.tmp rfl) .int (by rw [wrap_id (by omega) (by omega)]; omega)) rfl rfl (Nat.le_of_ble_eq_true rfl) ?_
        refine ARun.pure (PureOp.assign rfl (.tmp rfl)) rfl rfl (Nat.le_of_ble_eq_true rfl) ?_
        refine ARun.nil ?_
        exact ⟨k + 1, by omega, by dsimp only; omega, ⟨⟨⟨_, rfl, rfl⟩, ⟨_, rfl, congrArg (fun z : Nat => SV.one (.int .i64 (z : Int))) (by omega)⟩, ⟨_, rfl, rfl⟩, trivial⟩, trivial⟩⟩
  · have _u := True.intro
    replace hb1 := of_decide_eq_false hb1
    have hkl : ¬ k < xx.length := by omega
    refine AW.exit ?_
    refine AW.seq ?_
    refine AW.region ?_
    refine ARun.pure (PureOp.move rfl (.tmp rfl)) rfl rfl (Nat.le_of_ble_eq_true rfl) ?_
    refine ARun.pure (PureOp.assign rfl (.tmp rfl)) rfl rfl (Nat.le_of_ble_eq_true rfl) ?_
    refine ARun.nil ?_
    refine AW.ret (show ResL _ _ [.tmp 4] _ from resI rfl ?_)
    have hend : ctL crSample xx = ((xx.take k).map crSample).sum := (ct_end hkl).symm
    omega

theorem h_RowS (xx yy : List GRow) (a : Nat) (hy : yy = mkL crRow mrRow xx a) (ha : 0 < a ∧ a + ctL crRow xx ≤ 900000000) : Fn Try.prog 54 [.one (.lst 2 yy.length (fun i0 j0 => ([.str ((yy.getD i0 (default : GRow)).name), .lst 2 (((yy.getD i0 (default : GRow)).samples).length) (fun i1 j1 => ([.int .i64 ((((yy.getD i0 (default : GRow)).samples).getD i1 (default : GSample)).at_), .int .i64 ((((yy.getD i0 (default : GRow)).samples).getD i1 (default : GSample)).value)] : List AV).getD j1 (.con undef))] : List AV).getD j0 (.con undef))), .one (.int .i64 (a : Int))] (.one (.int .i64 ((a + ctL crRow xx : Nat) : Int))) := by
  obtain ⟨ha0, ha1⟩ := ha
  have hlen : yy.length = xx.length := by rw [hy]; exact mkL_len
  refine Fn.of_body (fn := Try.f54) Try.func54 rfl (Nat.le_of_ble_eq_true rfl) trivial ?_
  intro w0
  show AW _ 32 _ _ _ _
  refine AW.bound (t := 0) rfl fun hx => ?_
  refine AW.seq ?_
  refine AW.region ?_
  refine ARun.pure (PureOp.assign rfl .int) rfl rfl (Nat.le_of_ble_eq_true rfl) ?_
  refine ARun.nil ?_
  refine AW.seq ?_
  refine AW.seq ?_
  refine AW.region ?_
  refine ARun.pure (PureOp.assign rfl .int) rfl rfl (Nat.le_of_ble_eq_true rfl) ?_
  refine ARun.nil ?_
  refine AW.block ?_
  refine AW.loop (ι := Nat) (fun k => ⟨[(0, .one (.lst 2 yy.length (fun i0 j0 => ([.str ((yy.getD i0 (default : GRow)).name), .lst 2 (((yy.getD i0 (default : GRow)).samples).length) (fun i1 j1 => ([.int .i64 ((((yy.getD i0 (default : GRow)).samples).getD i1 (default : GSample)).at_), .int .i64 ((((yy.getD i0 (default : GRow)).samples).getD i1 (default : GSample)).value)] : List AV).getD j1 (.con undef))] : List AV).getD j0 (.con undef)))), (1, .one (.int .i64 ((a + ((xx.take k).map crRow).sum : Nat) : Int))), (5, .one (.int .i64 (k : Int)))], []⟩) (fun k => k ≤ xx.length) (fun k => xx.length - k) 0 (Nat.zero_le _) ⟨⟨⟨_, rfl, rfl⟩, ⟨_, rfl, by simp⟩, ⟨_, rfl, rfl⟩, trivial⟩, trivial⟩ ?_
  intro k hk
  refine AW.seq ?_
  refine AW.seq ?_
  refine AW.region ?_
  refine ARun.pure (PureOp.move rfl (.tmp rfl)) rfl rfl (Nat.le_of_ble_eq_true rfl) ?_
  refine ARun.pure (PureOp.move rfl (.tmp rfl)) rfl rfl (Nat.le_of_ble_eq_true rfl) ?_
  refine ARun.pure (PureOp.lenLst rfl (.tmp rfl) vh2_sl_27) rfl rfl (Nat.le_of_ble_eq_true rfl) ?_
  refine ARun.pure (PureOp.intOp rfl (.tmp rfl) (.tmp rfl) rfl) rfl rfl (Nat.le_of_ble_eq_true rfl) ?_
  refine ARun.nil ?_
  refine AW.cond (.tmp rfl) (fun hb1 => ?_) (fun hb1 => ?_)
  · have _u := True.intro
    replace hb1 := of_decide_eq_true hb1
    have hkl : k < xx.length := by omega
    obtain ⟨hst, hsm⟩ := ct_step (ct := crRow) (default : GRow) hkl
    have he : yy.getD k (default : GRow) = mrRow (xx.getD k (default : GRow)) (a + ((xx.take k).map crRow).sum) := by rw [hy]; exact mkL_get (default : GRow) hkl
    have hce : crRow (xx.getD k (default : GRow)) = 0 + 1 + ctL crSample ((xx.getD k (default : GRow)).samples) := rfl
    refine AW.skip ?_
    refine AW.seq ?_
    refine AW.block ?_
    refine AW.seq ?_
    refine AW.seq ?_
    refine AW.any (by kernel_rfl) (by kernel_rfl) ?_
    refine AD.pure (PureOp.move rfl (.tmp rfl)) rfl rfl (Nat.le_of_ble_eq_true rfl) ?_
    refine AD.pure (PureOp.move rfl (.tmp rfl)) rfl rfl (Nat.le_of_ble_eq_true rfl) ?_
    refine AD.pure (PureOp.indexLst (i := k) rfl (.tmp rfl) vh2_el_27_2 (.tmp rfl) rfl (by omega)) rfl rfl (Nat.le_of_ble_eq_true rfl) ?_
    refine AD.pure (PureOp.fieldRef rfl (.tmp rfl) vh2_fi_67_0_0 (Nat.le_of_ble_eq_true rfl)) rfl rfl (Nat.le_of_ble_eq_true rfl) ?_
    refine AD.pure (PureOp.loadRef rfl (.tmp rfl) vh2_pl_9 (Nat.le_of_ble_eq_true rfl)) rfl rfl (Nat.le_of_ble_eq_true rfl) ?_
    refine AD.pure (PureOp.move rfl (.tmp rfl)) rfl rfl (Nat.le_of_ble_eq_true rfl) ?_
    refine AD.pure (PureOp.call rfl (v_markText (a + ((xx.take k).map crRow).sum) (by omega) (by omega)) ⟨⟨_, (.tmp rfl), .int⟩, trivial⟩ vh2_ca_63 (Nat.le_trans (mkText_size (by omega)) (by decide))) rfl rfl (Nat.le_of_ble_eq_true rfl) ?_
    refine AD.pure (PureOp.strOp rfl (.tmp rfl) (.tmp rfl) rfl) rfl rfl (Nat.le_of_ble_eq_true rfl) ?_
    refine AD.nil ?_
    refine AW.cond (.tmp rfl) (fun hb2 => ?_) (fun hb2 => ?_)
    · have _u := True.intro
      replace hb2 := of_decide_eq_false (of_not hb2)
      exact absurd (by rw [he]; rfl) hb2
      --end
    · have _u := True.intro
      replace hb2 := of_decide_eq_true (not_f hb2)
      refine AW.skip ?_
      refine AW.seq ?_
      refine AW.region ?_
      refine ARun.pure (PureOp.move rfl (.tmp rfl)) rfl rfl (Nat.le_of_ble_eq_true rfl) ?_
      refine ARun.pure (PureOp.add (c := ((a + ((xx.take k).map crRow).sum + 1 : Nat) : Int)) rfl (.tmp rfl) .int (by rw [wrap_id (by omega) (by omega)]; omega)) rfl rfl (Nat.le_of_ble_eq_true rfl) ?_
      refine ARun.pure (PureOp.assign rfl (.tmp rfl)) rfl rfl (Nat.le_of_ble_eq_true rfl) ?_
      refine ARun.nil ?_
      refine AW.seq ?_
      refine AW.region ?_
      refine ARun.pure (PureOp.move rfl (.tmp rfl)) rfl rfl (Nat.le_of_ble_eq_true rfl) ?_
      refine ARun.pure (PureOp.move rfl (.tmp rfl)) rfl rfl (Nat.le_of_ble_eq_true rfl) ?_
      refine ARun.pure (PureOp.indexLst (i := k) rfl (.tmp rfl) vh2_el_27_2 (.tmp rfl) rfl (by omega)) rfl rfl (Nat.le_of_ble_eq_true rfl) ?_
      refine ARun.pure (PureOp.fieldRef rfl (.tmp rfl) vh2_fi_67_1_1 (Nat.le_of_ble_eq_true rfl)) rfl rfl (Nat.le_of_ble_eq_true rfl) ?_
      refine ARun.pure (PureOp.loadRef rfl (.tmp rfl) vh2_pl_33 (Nat.le_of_ble_eq_true rfl)) rfl rfl (Nat.le_of_ble_eq_true rfl) ?_
      refine ARun.pure (PureOp.move rfl (.tmp rfl)) rfl rfl (Nat.le_of_ble_eq_true rfl) ?_
      refine ARun.pure (PureOp.call rfl (h_SampleS ((xx.getD k (default : GRow)).samples) ((yy.getD k (default : GRow)).samples) (a + ((xx.take k).map crRow).sum + 1) (by first | exact he | (rw [he]; rfl)) ⟨by omega, by omega⟩) ⟨⟨_, (.tmp rfl), .lst⟩, ⟨_, (.tmp rfl), .int⟩, trivial⟩ vh2_ca_19 trivial) rfl rfl (Nat.le_of_ble_eq_true rfl) ?_
      refine ARun.pure (PureOp.assign rfl (.tmp rfl)) rfl rfl (Nat.le_of_ble_eq_true rfl) ?_
      refine ARun.nil ?_
      refine AW.seq ?_
      refine AW.region ?_
      refine ARun.pure (PureOp.move rfl (.tmp rfl)) rfl rfl (Nat.le_of_ble_eq_true rfl) ?_
      refine ARun.pure (PureOp.intOp rfl (.tmp rfl) .int rfl) rfl rfl (Nat.le_of_ble_eq_true rfl) ?_
      refine ARun.nil ?_
      refine AW.cond (.tmp rfl) (fun hb3 => ?_) (fun hb3 => ?_)
      · have _u := True.intro
        replace hb3 := of_decide_eq_true hb3
        exact absurd hb3 (by omega)
        --end
      · have _u := True.intro
        replace hb3 := of_decide_eq_false hb3
        refine AW.skip ?_
        refine AW.region ?_
        refine ARun.pure (PureOp.move rfl (.tmp rfl)) rfl rfl (Nat.le_of_ble_eq_true rfl) ?_
        refine ARun.pure (PureOp.add (c := ((k + 1 : Nat) : Int)) rfl (.tmp rfl) .int (by rw [wrap_id (by omega) (by omega)]; omega)) rfl rfl (Nat.le_of_ble_eq_true rfl) ?_
        refine ARun.pure (PureOp.assign rfl (.tmp rfl)) rfl rfl (Nat.le_of_ble_eq_true rfl) ?_
        refine ARun.nil ?_
        exact ⟨k + 1, by omega, by dsimp only; omega, ⟨⟨⟨_, rfl, rfl⟩, ⟨_, rfl, congrArg (fun z : Nat => SV.one (.int .i64 (z : Int))) (by omega)⟩, ⟨_, rfl, rfl⟩, trivial⟩, trivial⟩⟩
  · have _u := True.intro
    replace hb1 := of_decide_eq_false hb1
    have hkl : ¬ k < xx.length := by omega
    refine AW.exit ?_
    refine AW.seq ?_
    refine AW.region ?_
    refine ARun.pure (PureOp.move rfl (.tmp rfl)) rfl rfl (Nat.le_of_ble_eq_true rfl) ?_
    refine ARun.pure (PureOp.assign rfl (.tmp rfl)) rfl rfl (Nat.le_of_ble_eq_true rfl) ?_
    refine ARun.nil ?_
    refine AW.ret (show ResL _ _ [.tmp 4] _ from resI rfl ?_)
    have hend : ctL crRow xx = ((xx.take k).map crRow).sum := (ct_end hkl).symm
    omega

theorem h_Head (xx yy : GHead) (a : Nat) (hy : yy = mvHead xx a) (ha : 0 < a ∧ a + cvHead xx ≤ 900000000) : Fn Try.prog 22 [.agg [.lst 2 yy.rows.length (fun i0 j0 => ([.str ((yy.rows.getD i0 (default : GRow)).name), .lst 2 (((yy.rows.getD i0 (default : GRow)).samples).length) (fun i1 j1 => ([.int .i64 ((((yy.rows.getD i0 (default : GRow)).samples).getD i1 (default : GSample)).at_), .int .i64 ((((yy.rows.getD i0 (default : GRow)).samples).getD i1 (default : GSample)).value)] : List AV).getD j1 (.con undef))] : List AV).getD j0 (.con undef)), .int .i64 yy.offset], .one (.int .i64 (a : Int))] (.one (.int .i64 ((a + cvHead xx : Nat) : Int))) := by
  obtain ⟨ha0, ha1⟩ := ha
  have hcv : cvHead xx = 0 + ctL crRow (xx.rows) := rfl
  refine Fn.of_body (fn := Try.f22) Try.func22 rfl (Nat.le_of_ble_eq_true rfl) trivial ?_
  intro w0
  show AW _ 12 _ _ _ _
  refine AW.seq ?_
  refine AW.region ?_
  refine ARun.box (id := 0) rfl (.tmp rfl) (SV.cells_of (by exact ⟨trivial, trivial, trivial⟩)) ⟨rfl, (by repeat first | exact trivial | refine ⟨by decide, by first | rfl | exact trivial | (intro i j; first | rfl | exact getD_no rfl | (dsimp only; split <;> first | rfl | exact getD_no rfl) | exact scl_no (by apply_assumption) _), ?_⟩)⟩ rfl rfl rfl (Nat.le_of_ble_eq_true rfl) ?_
  refine ARun.pure (PureOp.assign rfl .int) rfl rfl (Nat.le_of_ble_eq_true rfl) ?_
  refine ARun.nil ?_
  refine AW.seq ?_
  refine AW.region ?_
  refine ARun.pure (PureOp.fieldPtr rfl (.tmp rfl) vh2_fi_29_0_0) rfl rfl (Nat.le_of_ble_eq_true rfl) ?_
  refine ARun.pure (PureOp.loadPtr rfl (.tmp rfl) vh2_pl_27 rfl rfl (Nat.le_of_ble_eq_true rfl) (Nat.le_of_ble_eq_true rfl)) rfl rfl (Nat.le_of_ble_eq_true rfl) ?_
  refine ARun.pure (PureOp.move rfl (.tmp rfl)) rfl rfl (Nat.le_of_ble_eq_true rfl) ?_
  refine ARun.pure (PureOp.call rfl (h_RowS xx.rows yy.rows a (by rw [hy]; rfl) ⟨by omega, by omega⟩) ⟨⟨_, (.tmp rfl), .lst⟩, ⟨_, (.tmp rfl), .int⟩, trivial⟩ vh2_ca_54 trivial) rfl rfl (Nat.le_of_ble_eq_true rfl) ?_
  refine ARun.pure (PureOp.assign rfl (.tmp rfl)) rfl rfl (Nat.le_of_ble_eq_true rfl) ?_
  refine ARun.nil ?_
  refine AW.seq ?_
  refine AW.seq ?_
  refine AW.region ?_
  refine ARun.pure (PureOp.move rfl (.tmp rfl)) rfl rfl (Nat.le_of_ble_eq_true rfl) ?_
  refine ARun.pure (PureOp.intOp rfl (.tmp rfl) .int rfl) rfl rfl (Nat.le_of_ble_eq_true rfl) ?_
  refine ARun.nil ?_
  refine AW.cond (.tmp rfl) (fun hb1 => ?_) (fun hb1 => ?_)
  · have _u := True.intro
    replace hb1 := of_decide_eq_true hb1
    exact absurd hb1 (by omega)
    --end
  · have _u := True.intro
    replace hb1 := of_decide_eq_false hb1
    refine AW.skip ?_
    refine AW.seq ?_
    refine AW.region ?_
    refine ARun.pure (PureOp.move rfl (.tmp rfl)) rfl rfl (Nat.le_of_ble_eq_true rfl) ?_
    refine ARun.pure (PureOp.assign rfl (.tmp rfl)) rfl rfl (Nat.le_of_ble_eq_true rfl) ?_
    refine ARun.nil ?_
    refine AW.ret (show ResL _ _ [.tmp 4] _ from resI rfl ?_)
    omega

theorem h_IntS (xx yy : List Int) (a : Nat) (hy : yy = mkL c1 mkI xx a) (ha : 0 < a ∧ a + ctL c1 xx ≤ 900000000) : Fn Try.prog 35 [.one (.lst 1 yy.length (fun i0 _ => .int .i64 (yy.getD i0 0))), .one (.int .i64 (a : Int))] (.one (.int .i64 ((a + ctL c1 xx : Nat) : Int))) := by
  obtain ⟨ha0, ha1⟩ := ha
  have hlen : yy.length = xx.length := by rw [hy]; exact mkL_len
  refine Fn.of_body (fn := Try.f35) Try.func35 rfl (Nat.le_of_ble_eq_true rfl) trivial ?_
  intro w0
  show AW _ 21 _ _ _ _
  refine AW.bound (t := 0) rfl fun hx => ?_
  refine AW.seq ?_
  refine AW.region ?_
  refine ARun.pure (PureOp.assign rfl .int) rfl rfl (Nat.le_of_ble_eq_true rfl) ?_
  refine ARun.nil ?_
  refine AW.seq ?_
  refine AW.seq ?_
  refine AW.region ?_
  refine ARun.pure (PureOp.assign rfl .int) rfl rfl (Nat.le_of_ble_eq_true rfl) ?_
  refine ARun.nil ?_
  refine AW.block ?_
  refine AW.loop (ι := Nat) (fun k => ⟨[(0, .one (.lst 1 yy.length (fun i0 _ => .int .i64 (yy.getD i0 0)))), (1, .one (.int .i64 ((a + ((xx.take k).map c1).sum : Nat) : Int))), (5, .one (.int .i64 (k : Int)))], []⟩) (fun k => k ≤ xx.length) (fun k => xx.length - k) 0 (Nat.zero_le _) ⟨⟨⟨_, rfl, rfl⟩, ⟨_, rfl, by simp⟩, ⟨_, rfl, rfl⟩, trivial⟩, trivial⟩ ?_
  intro k hk
  refine AW.seq ?_
  refine AW.seq ?_
  refine AW.region ?_
  refine ARun.pure (PureOp.move rfl (.tmp rfl)) rfl rfl (Nat.le_of_ble_eq_true rfl) ?_
  refine ARun.pure (PureOp.move rfl (.tmp rfl)) rfl rfl (Nat.le_of_ble_eq_true rfl) ?_
  refine ARun.pure (PureOp.lenLst rfl (.tmp rfl) vh2_sl_52) rfl rfl (Nat.le_of_ble_eq_true rfl) ?_
  refine ARun.pure (PureOp.intOp rfl (.tmp rfl) (.tmp rfl) rfl) rfl rfl (Nat.le_of_ble_eq_true rfl) ?_
  refine ARun.nil ?_
  refine AW.cond (.tmp rfl) (fun hb1 => ?_) (fun hb1 => ?_)
  · have _u := True.intro
    replace hb1 := of_decide_eq_true hb1
    have hkl : k < xx.length := by omega
    obtain ⟨hst, hsm⟩ := ct_step (ct := c1) (0 : Int) hkl
    have he : yy.getD k (0 : Int) = mkI (xx.getD k (0 : Int)) (a + ((xx.take k).map c1).sum) := by rw [hy]; exact mkL_get (0 : Int) hkl
    have hce : c1 (xx.getD k (0 : Int)) = 1 := rfl
    refine AW.skip ?_
    refine AW.seq ?_
    refine AW.block ?_
    refine AW.seq ?_
    refine AW.seq ?_
    refine AW.region ?_
    refine ARun.pure (PureOp.move rfl (.tmp rfl)) rfl rfl (Nat.le_of_ble_eq_true rfl) ?_
    refine ARun.pure (PureOp.move rfl (.tmp rfl)) rfl rfl (Nat.le_of_ble_eq_true rfl) ?_
    refine ARun.pure (PureOp.indexLst (i := k) rfl (.tmp rfl) vh2_el_52_1 (.tmp rfl) rfl (by omega)) rfl rfl (Nat.le_of_ble_eq_true rfl) ?_
    refine ARun.pure (PureOp.loadRef rfl (.tmp rfl) vh2_pl_3 (Nat.le_of_ble_eq_true rfl)) rfl rfl (Nat.le_of_ble_eq_true rfl) ?_
    refine ARun.pure (PureOp.move rfl (.tmp rfl)) rfl rfl (Nat.le_of_ble_eq_true rfl) ?_
    refine ARun.pure (PureOp.intOp rfl (.tmp rfl) (.tmp rfl) rfl) rfl rfl (Nat.le_of_ble_eq_true rfl) ?_
    refine ARun.nil ?_
    refine AW.cond (.tmp rfl) (fun hb2 => ?_) (fun hb2 => ?_)
    · have _u := True.intro
      replace hb2 := of_decide_eq_false (of_not hb2)
      exact absurd (by rw [he]; rfl) hb2
      --end
    · have _u := True.intro
      replace hb2 := of_decide_eq_true (not_f hb2)
      refine AW.skip ?_
      refine AW.region ?_
      refine ARun.pure (PureOp.move rfl (.tmp rfl)) rfl rfl (Nat.le_of_ble_eq_true rfl) ?_
      refine ARun.pure (PureOp.add (c := ((a + ((xx.take k).map c1).sum + 1 : Nat) : Int)) rfl (.tmp rfl) .int (by rw [wrap_id (by omega) (by omega)]; omega)) rfl rfl (Nat.le_of_ble_eq_true rfl) ?_
      refine ARun.pure (PureOp.assign rfl (.tmp rfl)) rfl rfl (Nat.le_of_ble_eq_true rfl) ?_
      refine ARun.nil ?_
      refine AW.region ?_
      refine ARun.pure (PureOp.move rfl (.tmp rfl)) rfl rfl (Nat.le_of_ble_eq_true rfl) ?_
      refine ARun.pure (PureOp.add (c := ((k + 1 : Nat) : Int)) rfl (.tmp rfl) .int (by rw [wrap_id (by omega) (by omega)]; omega)) rfl rfl (Nat.le_of_ble_eq_true rfl) ?_
      refine ARun.pure (PureOp.assign rfl (.tmp rfl)) rfl rfl (Nat.le_of_ble_eq_true rfl) ?_
      refine ARun.nil ?_
      exact ⟨k + 1, by omega, by dsimp only; omega, ⟨⟨⟨_, rfl, rfl⟩, ⟨_, rfl, congrArg (fun z : Nat => SV.one (.int .i64 (z : Int))) (by omega)⟩, ⟨_, rfl, rfl⟩, trivial⟩, trivial⟩⟩
  · have _u := True.intro
    replace hb1 := of_decide_eq_false hb1
    have hkl : ¬ k < xx.length := by omega
    refine AW.exit ?_
    refine AW.seq ?_
    refine AW.region ?_
    refine ARun.pure (PureOp.move rfl (.tmp rfl)) rfl rfl (Nat.le_of_ble_eq_true rfl) ?_
    refine ARun.pure (PureOp.assign rfl (.tmp rfl)) rfl rfl (Nat.le_of_ble_eq_true rfl) ?_
    refine ARun.nil ?_
    refine AW.ret (show ResL _ _ [.tmp 4] _ from resI rfl ?_)
    have hend : ctL c1 xx = ((xx.take k).map c1).sum := (ct_end hkl).symm
    omega
end Go.Proofs.Ytmfkmifkkplidaa


/-
  The laws' own copies (to), as trees.
-/
namespace Go.Proofs.Ytmfkmifkkplidaa
open Go.ChangeShapes Go.WideShapes Go.ChangeAt Go.RowKit Go.BigFrame Go.Deep
set_option linter.unusedVariables false
set_option linter.unusedSimpArgs false
theorem vp_ag_103_2 : aggB Try.prog 103 2 = true := by kernel_rfl
theorem vp_ag_124_2 : aggB Try.prog 124 2 = true := by kernel_rfl
theorem vp_ag_29_2 : aggB Try.prog 29 2 = true := by kernel_rfl
theorem vp_ag_44_3 : aggB Try.prog 44 3 = true := by kernel_rfl
theorem vp_ag_47_3 : aggB Try.prog 47 3 = true := by kernel_rfl
theorem vp_ag_67_2 : aggB Try.prog 67 2 = true := by kernel_rfl
theorem vp_ag_81_2 : aggB Try.prog 81 2 = true := by kernel_rfl
theorem vp_ca_25 : callB Try.prog 25 = true := by kernel_rfl
theorem vp_ca_45 : callB Try.prog 45 = true := by kernel_rfl
theorem vp_ca_69 : callB Try.prog 69 = true := by kernel_rfl
theorem vp_ca_85 : callB Try.prog 85 = true := by kernel_rfl
theorem vp_ca_90 : callB Try.prog 90 = true := by kernel_rfl
theorem vp_el_101_2 : elemB Try.prog 101 2 = true := by kernel_rfl
theorem vp_el_22_2 : elemB Try.prog 22 2 = true := by kernel_rfl
theorem vp_el_27_2 : elemB Try.prog 27 2 = true := by kernel_rfl
theorem vp_el_33_2 : elemB Try.prog 33 2 = true := by kernel_rfl
theorem vp_el_50_3 : elemB Try.prog 50 3 = true := by kernel_rfl
theorem vp_el_55_3 : elemB Try.prog 55 3 = true := by kernel_rfl
theorem vp_fi_103_0_0 : fieldB Try.prog 103 0 0 = true := by kernel_rfl
theorem vp_fi_103_1_1 : fieldB Try.prog 103 1 1 = true := by kernel_rfl
theorem vp_fi_124_0_0 : fieldB Try.prog 124 0 0 = true := by kernel_rfl
theorem vp_fi_124_1_1 : fieldB Try.prog 124 1 1 = true := by kernel_rfl
theorem vp_fi_24_0_0 : fieldB Try.prog 24 0 0 = true := by kernel_rfl
theorem vp_fi_24_1_1 : fieldB Try.prog 24 1 1 = true := by kernel_rfl
theorem vp_fi_29_0_0 : fieldB Try.prog 29 0 0 = true := by kernel_rfl
theorem vp_fi_29_1_1 : fieldB Try.prog 29 1 1 = true := by kernel_rfl
theorem vp_fi_44_0_0 : fieldB Try.prog 44 0 0 = true := by kernel_rfl
theorem vp_fi_44_1_1 : fieldB Try.prog 44 1 1 = true := by kernel_rfl
theorem vp_fi_44_2_2 : fieldB Try.prog 44 2 2 = true := by kernel_rfl
theorem vp_fi_47_0_0 : fieldB Try.prog 47 0 0 = true := by kernel_rfl
theorem vp_fi_47_1_1 : fieldB Try.prog 47 1 1 = true := by kernel_rfl
theorem vp_fi_47_2_2 : fieldB Try.prog 47 2 2 = true := by kernel_rfl
theorem vp_fi_67_0_0 : fieldB Try.prog 67 0 0 = true := by kernel_rfl
theorem vp_fi_67_1_1 : fieldB Try.prog 67 1 1 = true := by kernel_rfl
theorem vp_fi_81_0_0 : fieldB Try.prog 81 0 0 = true := by kernel_rfl
theorem vp_fi_81_1_1 : fieldB Try.prog 81 1 1 = true := by kernel_rfl
theorem vp_pl_101 : plainB Try.prog 101 = true := by kernel_rfl
theorem vp_pl_22 : plainB Try.prog 22 = true := by kernel_rfl
theorem vp_pl_3 : plainB Try.prog 3 = true := by kernel_rfl
theorem vp_pl_9 : plainB Try.prog 9 = true := by kernel_rfl
theorem vp_sl_101 : sliceB Try.prog 101 = true := by kernel_rfl
theorem vp_sl_22 : sliceB Try.prog 22 = true := by kernel_rfl
theorem vp_sl_50 : sliceB Try.prog 50 = true := by kernel_rfl
theorem vp_sz_27_1 : sizeB Try.prog 27 1 = true := by kernel_rfl
theorem vp_sz_29_2 : sizeB Try.prog 29 2 = true := by kernel_rfl
theorem vp_sz_33_1 : sizeB Try.prog 33 1 = true := by kernel_rfl
theorem vp_sz_3_1 : sizeB Try.prog 3 1 = true := by kernel_rfl
theorem vp_sz_47_3 : sizeB Try.prog 47 3 = true := by kernel_rfl
theorem vp_sz_67_2 : sizeB Try.prog 67 2 = true := by kernel_rfl
theorem vp_sz_81_2 : sizeB Try.prog 81 2 = true := by kernel_rfl
theorem vp_sz_9_1 : sizeB Try.prog 9 1 = true := by kernel_rfl
theorem v_toSample (x : GSample) : FnF Try.prog 90 [.agg [.int .i64 x.at_, .int .i64 x.value]] (.agg [.int .i64 x.at_, .int .i64 x.value]) := by
  refine FnF.of_body (fn := Try.f90) Try.func90 rfl (Nat.le_of_ble_eq_true rfl)  ?_
  intro w0
  show AW _ 11 _ _ _ _
  refine AW.seq ?_
  refine AW.region ?_
  refine ARun.box (id := 0) rfl (.tmp rfl) (SV.cells_of (by exact ⟨trivial, trivial, trivial⟩)) ⟨rfl, (by repeat first | exact trivial | refine ⟨by decide, by first | rfl | exact trivial | (intro i j; first | rfl | exact getD_no rfl | (dsimp only; split <;> first | rfl | exact getD_no rfl) | exact scl_no (by apply_assumption) _), ?_⟩)⟩ rfl rfl rfl (Nat.le_of_ble_eq_true rfl) ?_
  refine ARun.alloc (id := 1) (l := [.int .i64 0, .int .i64 0]) (z := (.agg #[.int .i64 0, .int .i64 0])) rfl (by kernel_rfl) (fun _ _ _ => ⟨_, _, rfl, rfl, ⟨_, _, rfl, rfl, rfl⟩⟩) ⟨rfl, (by repeat first | exact trivial | refine ⟨by decide, by first | rfl | exact trivial | (intro i j; first | rfl | exact getD_no rfl | (dsimp only; split <;> first | rfl | exact getD_no rfl) | exact scl_no (by apply_assumption) _), ?_⟩)⟩ rfl rfl rfl (Nat.le_of_ble_eq_true rfl) ?_
  refine ARun.nil ?_
  refine AW.seq ?_
  refine AW.region ?_
  refine ARun.alloc (id := 2) (l := [.int .i64 0, .int .i64 0]) (z := (.agg #[.int .i64 0, .int .i64 0])) rfl (by kernel_rfl) (fun _ _ _ => ⟨_, _, rfl, rfl, ⟨_, _, rfl, rfl, rfl⟩⟩) ⟨rfl, (by repeat first | exact trivial | refine ⟨by decide, by first | rfl | exact trivial | (intro i j; first | rfl | exact getD_no rfl | (dsimp only; split <;> first | rfl | exact getD_no rfl) | exact scl_no (by apply_assumption) _), ?_⟩)⟩ rfl rfl rfl (Nat.le_of_ble_eq_true rfl) ?_
  refine ARun.nil ?_
  refine AW.seq ?_
  refine AW.region ?_
  refine ARun.pure (PureOp.fieldPtr rfl (.tmp rfl) vp_fi_124_0_0) rfl rfl (Nat.le_of_ble_eq_true rfl) ?_
  refine ARun.pure (PureOp.loadPtr rfl (.tmp rfl) vp_pl_3 rfl rfl (Nat.le_of_ble_eq_true rfl) (Nat.le_of_ble_eq_true rfl)) rfl rfl (Nat.le_of_ble_eq_true rfl) ?_
  refine ARun.pure (PureOp.fieldPtr rfl (.tmp rfl) vp_fi_81_0_0) rfl rfl (Nat.le_of_ble_eq_true rfl) ?_
  refine ARun.store rfl (.tmp rfl) (.tmp rfl) trivial rfl (Nat.le_of_ble_eq_true rfl) vp_sz_3_1 rfl rfl ?_
  refine ARun.nil ?_
  refine AW.seq ?_
  refine AW.region ?_
  refine ARun.pure (PureOp.fieldPtr rfl (.tmp rfl) vp_fi_124_1_1) rfl rfl (Nat.le_of_ble_eq_true rfl) ?_
  refine ARun.pure (PureOp.loadPtr rfl (.tmp rfl) vp_pl_3 rfl rfl (Nat.le_of_ble_eq_true rfl) (Nat.le_of_ble_eq_true rfl)) rfl rfl (Nat.le_of_ble_eq_true rfl) ?_
  refine ARun.pure (PureOp.fieldPtr rfl (.tmp rfl) vp_fi_81_1_1) rfl rfl (Nat.le_of_ble_eq_true rfl) ?_
  refine ARun.store rfl (.tmp rfl) (.tmp rfl) trivial rfl (Nat.le_of_ble_eq_true rfl) vp_sz_3_1 rfl rfl ?_
  refine ARun.nil ?_
  refine AW.seq ?_
  refine AW.region ?_
  refine ARun.pure (PureOp.loadPtrAgg rfl (.tmp rfl) vp_ag_81_2 rfl rfl (Nat.le_of_ble_eq_true rfl) (Nat.le_of_ble_eq_true rfl)) rfl rfl (Nat.le_of_ble_eq_true rfl) ?_
  refine ARun.store rfl (.tmp rfl) (.tmp rfl) (SV.cells_of (by exact ⟨trivial, trivial, trivial⟩)) rfl (Nat.le_of_ble_eq_true rfl) vp_sz_81_2 rfl rfl ?_
  refine ARun.nil ?_
  exact AW.ret (show ∃ s, ResL _ _ [.cell 2 81] s ∧ FvS _ s _ from ⟨_, .inl ⟨_, rfl, .cells rfl vp_ag_81_2 rfl rfl (Nat.le_of_ble_eq_true rfl) (Nat.le_of_ble_eq_true rfl)⟩, ⟨.int, .int, trivial⟩⟩)

theorem v_toSampleS (x : List GSample) (hw : Small (x.length)) : FnT Try.prog 85 [.one (.lst 2 x.length (fun i0 j0 => ([.int .i64 ((x.getD i0 (default : GSample)).at_), .int .i64 ((x.getD i0 (default : GSample)).value)] : List AV).getD j0 (.con undef)))] (.one (.lst 2 x.length (fun i0 j0 => ([.int .i64 ((x.getD i0 (default : GSample)).at_), .int .i64 ((x.getD i0 (default : GSample)).value)] : List AV).getD j0 (.con undef)))) := by
  unfold Small at hw
  have hlen : x.length ≤ 1048576 := by omega
  refine FnT.of_body (fn := Try.f85) Try.func85 rfl (Nat.le_of_ble_eq_true rfl)  ?_
  intro w0
  show AW _ 23 _ _ _ _
  refine AW.seq ?_
  refine AW.region ?_
  refine ARun.pure (PureOp.assign rfl .con) rfl rfl (Nat.le_of_ble_eq_true rfl) ?_
  refine ARun.nil ?_
  refine AW.seq ?_
  refine AW.region ?_
  refine ARun.pure (PureOp.move rfl (.tmp rfl)) rfl rfl (Nat.le_of_ble_eq_true rfl) ?_
  refine ARun.pure (PureOp.lenLst rfl (.tmp rfl) vp_sl_101) rfl rfl (Nat.le_of_ble_eq_true rfl) ?_
  refine ARun.make (id := 0) (n := x.length) (l := [.int .i64 0, .int .i64 0]) (z := (.agg #[.int .i64 0, .int .i64 0])) (by_ := 16) rfl (by kernel_rfl) (fun _ _ _ => ⟨_, _, rfl, rfl, ⟨_, _, rfl, rfl, rfl⟩⟩) (.tmp rfl) (.tmp rfl) rfl rfl (by omega) (by omega) (by decide) ⟨rfl, (by repeat first | exact trivial | refine ⟨by decide, by first | rfl | exact trivial | (intro i j; first | rfl | exact getD_no rfl | (dsimp only; split <;> first | rfl | exact getD_no rfl) | exact scl_no (by apply_assumption) _), ?_⟩)⟩ rfl rfl rfl (Nat.le_of_ble_eq_true rfl) ?_
  refine ARun.pure (PureOp.assign rfl (.tmp rfl)) rfl rfl (Nat.le_of_ble_eq_true rfl) ?_
  refine ARun.nil ?_
  refine AW.seq ?_
  refine AW.seq ?_
  refine AW.region ?_
  refine ARun.pure (PureOp.assign rfl .int) rfl rfl (Nat.le_of_ble_eq_true rfl) ?_
  refine ARun.nil ?_
  refine AW.block ?_
  refine AW.loop (ι := Nat) (fun k => ⟨[(0, .one (.lst 2 x.length (fun i0 j0 => ([.int .i64 ((x.getD i0 (default : GSample)).at_), .int .i64 ((x.getD i0 (default : GSample)).value)] : List AV).getD j0 (.con undef)))), (3, .one (.own 0 2 x.length)), (4, .one (.int .i64 (k : Int)))], [(0, .arr 2 x.length (fun a b => if a < k then ceSample (x.getD a (default : GSample)) b else ([.int .i64 0, .int .i64 0] : List AV).getD b (.con undef)))]⟩) (fun k => k ≤ x.length) (fun k => x.length - k) 0 (Nat.zero_le _) ⟨⟨⟨_, rfl, rfl⟩, ⟨_, rfl, rfl⟩, ⟨_, rfl, rfl⟩, trivial⟩, ⟨⟨_, rfl, rfl, Nat.le_refl _, fun a b _ _ => by simp [AObj.f]⟩, trivial⟩⟩ ?_
  intro k hk
  refine AW.seq ?_
  refine AW.seq ?_
  refine AW.region ?_
  refine ARun.pure (PureOp.move rfl (.tmp rfl)) rfl rfl (Nat.le_of_ble_eq_true rfl) ?_
  refine ARun.pure (PureOp.move rfl (.tmp rfl)) rfl rfl (Nat.le_of_ble_eq_true rfl) ?_
  refine ARun.pure (PureOp.lenLst rfl (.tmp rfl) vp_sl_101) rfl rfl (Nat.le_of_ble_eq_true rfl) ?_
  refine ARun.pure (PureOp.intOp rfl (.tmp rfl) (.tmp rfl) rfl) rfl rfl (Nat.le_of_ble_eq_true rfl) ?_
  refine ARun.nil ?_
  refine AW.cond (.tmp rfl) (fun hb1 => ?_) (fun hb1 => ?_)
  · have _u := True.intro
    replace hb1 := of_decide_eq_true hb1
    have hlt : k < x.length := by omega
    refine AW.skip ?_
    refine AW.seq ?_
    refine AW.block ?_
    refine AW.region ?_
    refine ARun.pure (PureOp.move rfl (.tmp rfl)) rfl rfl (Nat.le_of_ble_eq_true rfl) ?_
    refine ARun.pure (PureOp.move rfl (.tmp rfl)) rfl rfl (Nat.le_of_ble_eq_true rfl) ?_
    refine ARun.pure (PureOp.move rfl (.tmp rfl)) rfl rfl (Nat.le_of_ble_eq_true rfl) ?_
    refine ARun.pure (PureOp.move rfl (.tmp rfl)) rfl rfl (Nat.le_of_ble_eq_true rfl) ?_
    refine ARun.pure (PureOp.indexLst (i := k) rfl (.tmp rfl) vp_el_101_2 (.tmp rfl) rfl (by omega)) rfl rfl (Nat.le_of_ble_eq_true rfl) ?_
    refine ARun.pure (PureOp.loadRefAgg rfl (.tmp rfl) vp_ag_124_2 (Nat.le_of_ble_eq_true rfl)) rfl rfl (Nat.le_of_ble_eq_true rfl) ?_
    refine ARun.fresh (FreshOp.callS rfl (v_toSample (x.getD k (default : GSample))) ⟨⟨_, (.tmp rfl), ⟨.int, .int, trivial⟩⟩, trivial⟩ vp_ca_90 rfl) rfl rfl (Nat.le_of_ble_eq_true rfl) ?_
    refine ARun.pure (PureOp.indexOwn (i := k) rfl (.tmp rfl) vp_el_33_2 (.tmp rfl) rfl (by omega)) rfl rfl (Nat.le_of_ble_eq_true rfl) ?_
    refine ARun.storeElem rfl (.tmp rfl) (.tmp rfl) (SV.cells_of (by exact ⟨trivial, trivial, trivial⟩)) rfl (by omega) rfl vp_sz_81_2 rfl rfl ?_
    refine ARun.nil ?_
    refine AW.region ?_
    refine ARun.pure (PureOp.move rfl (.tmp rfl)) rfl rfl (Nat.le_of_ble_eq_true rfl) ?_
    refine ARun.pure (PureOp.add (c := ((k + 1 : Nat) : Int)) rfl (.tmp rfl) .int (by rw [wrap_id (by omega) (by omega)]; omega)) rfl rfl (Nat.le_of_ble_eq_true rfl) ?_
    refine ARun.pure (PureOp.assign rfl (.tmp rfl)) rfl rfl (Nat.le_of_ble_eq_true rfl) ?_
    refine ARun.nil ?_
    exact ⟨k + 1, by omega, by dsimp only; omega, ⟨⟨⟨_, rfl, rfl⟩, ⟨_, rfl, rfl⟩, ⟨_, rfl, rfl⟩, trivial⟩, ⟨⟨_, rfl, rfl, Nat.le_refl _, fun a b _ hb => fill_next (sz := 2) (k := k) (g := fun a b => ceSample (x.getD a (default : GSample)) b) (z := fun b => ([.int .i64 0, .int .i64 0] : List AV).getD b (.con undef)) (c := fun b => ([.int .i64 ((x.getD k (default : GSample)).at_), .int .i64 ((x.getD k (default : GSample)).value)] : List AV).getD b (.con undef)) (fun b hb => match b, hb with | 0, _ => rfl | 1, _ => rfl | _ + 2, h => absurd h (by omega)) a b hb⟩, trivial⟩⟩⟩
  · have _u := True.intro
    replace hb1 := of_decide_eq_false hb1
    have hlt : ¬ k < x.length := by omega
    obtain rfl : k = x.length := by omega
    refine AW.exit ?_
    refine AW.seq ?_
    refine AW.region ?_
    refine ARun.pure (PureOp.move rfl (.tmp rfl)) rfl rfl (Nat.le_of_ble_eq_true rfl) ?_
    refine ARun.pure (PureOp.assign rfl (.tmp rfl)) rfl rfl (Nat.le_of_ble_eq_true rfl) ?_
    refine ARun.nil ?_
    exact AW.ret (show ∃ s t, ResL _ _ [.tmp 2] s ∧ TvS _ (ofLeaf t) 0 s _ from ⟨_, fun a b => if a = 0 then 0 else 1000, .inl ⟨_, rfl, .tmp rfl⟩, (Tv.flat rfl rfl rfl (Nat.le_refl _) (by rfl) (fun i j hi hj => if_pos hi) (fun i j hi hj => match j, hj with | 0, _ => rfl | 1, _ => rfl | _ + 2, h => absurd h (by omega)))⟩)

theorem v_toRow (x : GRow) (hw : Small (wtRow x)) : FnT Try.prog 69 [.agg [.str x.name, .lst 2 x.samples.length (fun i0 j0 => ([.int .i64 ((x.samples.getD i0 (default : GSample)).at_), .int .i64 ((x.samples.getD i0 (default : GSample)).value)] : List AV).getD j0 (.con undef))]] (.agg [.str x.name, .lst 2 x.samples.length (fun i0 j0 => ([.int .i64 ((x.samples.getD i0 (default : GSample)).at_), .int .i64 ((x.samples.getD i0 (default : GSample)).value)] : List AV).getD j0 (.con undef))]) := by
  unfold Small wtRow at hw
  refine FnT.of_body (fn := Try.f69) Try.func69 rfl (Nat.le_of_ble_eq_true rfl)  ?_
  intro w0
  show AW _ 12 _ _ _ _
  refine AW.seq ?_
  refine AW.region ?_
  refine ARun.box (id := 0) rfl (.tmp rfl) (SV.cells_of (by exact ⟨trivial, trivial, trivial⟩)) ⟨rfl, (by repeat first | exact trivial | refine ⟨by decide, by first | rfl | exact trivial | (intro i j; first | rfl | exact getD_no rfl | (dsimp only; split <;> first | rfl | exact getD_no rfl) | exact scl_no (by apply_assumption) _), ?_⟩)⟩ rfl rfl rfl (Nat.le_of_ble_eq_true rfl) ?_
  refine ARun.alloc (id := 1) (l := [.str ByteArray.empty, .con (.slice none 0 0)]) (z := (.agg #[.string ByteArray.empty, .slice none 0 0])) rfl (by kernel_rfl) (fun _ _ _ => ⟨_, _, rfl, ⟨rfl, by decide⟩, ⟨_, _, rfl, rfl, rfl⟩⟩) ⟨rfl, (by repeat first | exact trivial | refine ⟨by decide, by first | rfl | exact trivial | (intro i j; first | rfl | exact getD_no rfl | (dsimp only; split <;> first | rfl | exact getD_no rfl) | exact scl_no (by apply_assumption) _), ?_⟩)⟩ rfl rfl rfl (Nat.le_of_ble_eq_true rfl) ?_
  refine ARun.nil ?_
  refine AW.seq ?_
  refine AW.region ?_
  refine ARun.alloc (id := 2) (l := [.str ByteArray.empty, .con (.slice none 0 0)]) (z := (.agg #[.string ByteArray.empty, .slice none 0 0])) rfl (by kernel_rfl) (fun _ _ _ => ⟨_, _, rfl, ⟨rfl, by decide⟩, ⟨_, _, rfl, rfl, rfl⟩⟩) ⟨rfl, (by repeat first | exact trivial | refine ⟨by decide, by first | rfl | exact trivial | (intro i j; first | rfl | exact getD_no rfl | (dsimp only; split <;> first | rfl | exact getD_no rfl) | exact scl_no (by apply_assumption) _), ?_⟩)⟩ rfl rfl rfl (Nat.le_of_ble_eq_true rfl) ?_
  refine ARun.nil ?_
  refine AW.seq ?_
  refine AW.region ?_
  refine ARun.pure (PureOp.fieldPtr rfl (.tmp rfl) vp_fi_103_0_0) rfl rfl (Nat.le_of_ble_eq_true rfl) ?_
  refine ARun.pure (PureOp.loadPtr rfl (.tmp rfl) vp_pl_9 rfl rfl (Nat.le_of_ble_eq_true rfl) (Nat.le_of_ble_eq_true rfl)) rfl rfl (Nat.le_of_ble_eq_true rfl) ?_
  refine ARun.pure (PureOp.fieldPtr rfl (.tmp rfl) vp_fi_67_0_0) rfl rfl (Nat.le_of_ble_eq_true rfl) ?_
  refine ARun.store rfl (.tmp rfl) (.tmp rfl) trivial rfl (Nat.le_of_ble_eq_true rfl) vp_sz_9_1 rfl rfl ?_
  refine ARun.nil ?_
  refine AW.seq ?_
  refine AW.region ?_
  refine ARun.pure (PureOp.fieldPtr rfl (.tmp rfl) vp_fi_103_1_1) rfl rfl (Nat.le_of_ble_eq_true rfl) ?_
  refine ARun.pure (PureOp.loadPtr rfl (.tmp rfl) vp_pl_101 rfl rfl (Nat.le_of_ble_eq_true rfl) (Nat.le_of_ble_eq_true rfl)) rfl rfl (Nat.le_of_ble_eq_true rfl) ?_
  refine ARun.prod (K := 3) rfl (v_toSampleS x.samples (Small.mk (by omega))) ⟨rfl, (by repeat first | exact trivial | refine ⟨by decide, by first | rfl | exact trivial | (intro i j; first | rfl | exact getD_no rfl | (dsimp only; split <;> first | rfl | exact getD_no rfl) | exact scl_no (by apply_assumption) _), ?_⟩)⟩ ⟨⟨_, (.tmp rfl), .lst⟩, trivial⟩ vp_ca_85 rfl rfl rfl rfl rfl (Nat.le_of_ble_eq_true rfl) ?_
  refine ARun.pure (PureOp.fieldPtr rfl (.tmp rfl) vp_fi_67_1_1) rfl rfl (Nat.le_of_ble_eq_true rfl) ?_
  refine ARun.store rfl (.tmp rfl) (.tmp rfl) trivial rfl (Nat.le_of_ble_eq_true rfl) vp_sz_33_1 rfl rfl ?_
  refine ARun.nil ?_
  refine AW.seq ?_
  refine AW.region ?_
  refine ARun.pure (PureOp.loadPtrAgg rfl (.tmp rfl) vp_ag_67_2 rfl rfl (Nat.le_of_ble_eq_true rfl) (Nat.le_of_ble_eq_true rfl)) rfl rfl (Nat.le_of_ble_eq_true rfl) ?_
  refine ARun.store rfl (.tmp rfl) (.tmp rfl) (SV.cells_of (by exact ⟨trivial, trivial, trivial⟩)) rfl (Nat.le_of_ble_eq_true rfl) vp_sz_67_2 rfl rfl ?_
  refine ARun.nil ?_
  exact AW.ret (show ∃ s t, ResL _ _ [.cell 2 67] s ∧ TvS _ (ofLeaf t) 0 s _ from ⟨_, fun a b => if a = 3 then 1 else 1000, .inl ⟨_, rfl, .cells rfl vp_ag_67_2 rfl rfl (Nat.le_of_ble_eq_true rfl) (Nat.le_of_ble_eq_true rfl)⟩, ⟨.str, (Tv.cast (Tv.tre rfl (Nat.le_of_ble_eq_true rfl) (by rfl)) rfl), trivial⟩⟩)

theorem v_toRowS (x : List GRow) (hw : Small (wtl wtRow x)) : FnT Try.prog 45 [.one (.lst 2 x.length (fun i0 j0 => ([.str ((x.getD i0 (default : GRow)).name), .lst 2 (((x.getD i0 (default : GRow)).samples).length) (fun i1 j1 => ([.int .i64 ((((x.getD i0 (default : GRow)).samples).getD i1 (default : GSample)).at_), .int .i64 ((((x.getD i0 (default : GRow)).samples).getD i1 (default : GSample)).value)] : List AV).getD j1 (.con undef))] : List AV).getD j0 (.con undef)))] (.one (.lst 2 x.length (fun i0 j0 => ([.str ((x.getD i0 (default : GRow)).name), .lst 2 (((x.getD i0 (default : GRow)).samples).length) (fun i1 j1 => ([.int .i64 ((((x.getD i0 (default : GRow)).samples).getD i1 (default : GSample)).at_), .int .i64 ((((x.getD i0 (default : GRow)).samples).getD i1 (default : GSample)).value)] : List AV).getD j1 (.con undef))] : List AV).getD j0 (.con undef)))) := by
  unfold Small at hw
  replace hw : x.length + (x.map wtRow).sum ≤ 1048576 := hw
  have hlen : x.length ≤ 1048576 := by omega
  refine FnT.of_body (fn := Try.f45) Try.func45 rfl (Nat.le_of_ble_eq_true rfl)  ?_
  intro w0
  show AW _ 23 _ _ _ _
  refine AW.fam (id := 0) (famX 2 (fun i j => ceRow (x.getD i (default : GRow)) j)) ⟨rfl, (by exact trivial)⟩ ?_
  refine AW.seq ?_
  refine AW.region ?_
  refine ARun.pure (PureOp.assign rfl .con) rfl rfl (Nat.le_of_ble_eq_true rfl) ?_
  refine ARun.nil ?_
  refine AW.seq ?_
  refine AW.region ?_
  refine ARun.pure (PureOp.move rfl (.tmp rfl)) rfl rfl (Nat.le_of_ble_eq_true rfl) ?_
  refine ARun.pure (PureOp.lenLst rfl (.tmp rfl) vp_sl_22) rfl rfl (Nat.le_of_ble_eq_true rfl) ?_
  refine ARun.make (id := 1) (n := x.length) (l := [.str ByteArray.empty, .con (.slice none 0 0)]) (z := (.agg #[.string ByteArray.empty, .slice none 0 0])) (by_ := 40) rfl (by kernel_rfl) (fun _ _ _ => ⟨_, _, rfl, ⟨rfl, by decide⟩, ⟨_, _, rfl, rfl, rfl⟩⟩) (.tmp rfl) (.tmp rfl) rfl rfl (by omega) (by omega) (by decide) ⟨rfl, (by repeat first | exact trivial | refine ⟨by decide, by first | rfl | exact trivial | (intro i j; first | rfl | exact getD_no rfl | (dsimp only; split <;> first | rfl | exact getD_no rfl) | exact scl_no (by apply_assumption) _), ?_⟩)⟩ rfl rfl rfl (Nat.le_of_ble_eq_true rfl) ?_
  refine ARun.pure (PureOp.assign rfl (.tmp rfl)) rfl rfl (Nat.le_of_ble_eq_true rfl) ?_
  refine ARun.nil ?_
  refine AW.seq ?_
  refine AW.seq ?_
  refine AW.region ?_
  refine ARun.pure (PureOp.assign rfl .int) rfl rfl (Nat.le_of_ble_eq_true rfl) ?_
  refine ARun.nil ?_
  refine AW.block ?_
  refine AW.loop (ι := Nat) (fun k => ⟨[(0, .one (.lst 2 x.length (fun i0 j0 => ([.str ((x.getD i0 (default : GRow)).name), .lst 2 (((x.getD i0 (default : GRow)).samples).length) (fun i1 j1 => ([.int .i64 ((((x.getD i0 (default : GRow)).samples).getD i1 (default : GSample)).at_), .int .i64 ((((x.getD i0 (default : GRow)).samples).getD i1 (default : GSample)).value)] : List AV).getD j1 (.con undef))] : List AV).getD j0 (.con undef)))), (3, .one (.own 1 2 x.length)), (4, .one (.int .i64 (k : Int)))], [(0, .trees (k * 2) (famX 2 (fun i j => ceRow (x.getD i (default : GRow)) j))), (1, .arr 2 x.length (fun a b => if a < k then nmA 0 (a * 2 + b) (ceRow (x.getD a (default : GRow)) b) else ([.str ByteArray.empty, .con (.slice none 0 0)] : List AV).getD b (.con undef)))]⟩) (fun k => k ≤ x.length) (fun k => x.length - k) 0 (Nat.zero_le _) ⟨⟨⟨_, rfl, rfl⟩, ⟨_, rfl, rfl⟩, ⟨_, rfl, rfl⟩, trivial⟩, ⟨⟨_, rfl, fun _ _ => rfl⟩, ⟨_, rfl, rfl, Nat.le_refl _, fun a b _ _ => by simp [AObj.f]⟩, trivial⟩⟩ ?_
  intro k hk
  refine AW.seq ?_
  refine AW.seq ?_
  refine AW.region ?_
  refine ARun.pure (PureOp.move rfl (.tmp rfl)) rfl rfl (Nat.le_of_ble_eq_true rfl) ?_
  refine ARun.pure (PureOp.move rfl (.tmp rfl)) rfl rfl (Nat.le_of_ble_eq_true rfl) ?_
  refine ARun.pure (PureOp.lenLst rfl (.tmp rfl) vp_sl_22) rfl rfl (Nat.le_of_ble_eq_true rfl) ?_
  refine ARun.pure (PureOp.intOp rfl (.tmp rfl) (.tmp rfl) rfl) rfl rfl (Nat.le_of_ble_eq_true rfl) ?_
  refine ARun.nil ?_
  refine AW.cond (.tmp rfl) (fun hb1 => ?_) (fun hb1 => ?_)
  · have _u := True.intro
    replace hb1 := of_decide_eq_true hb1
    have hlt : k < x.length := by omega
    have hwk := wt_at (f := wtRow) (default : GRow) hlt
    refine AW.skip ?_
    refine AW.seq ?_
    refine AW.block ?_
    refine AW.region ?_
    refine ARun.pure (PureOp.move rfl (.tmp rfl)) rfl rfl (Nat.le_of_ble_eq_true rfl) ?_
    refine ARun.pure (PureOp.move rfl (.tmp rfl)) rfl rfl (Nat.le_of_ble_eq_true rfl) ?_
    refine ARun.pure (PureOp.move rfl (.tmp rfl)) rfl rfl (Nat.le_of_ble_eq_true rfl) ?_
    refine ARun.pure (PureOp.move rfl (.tmp rfl)) rfl rfl (Nat.le_of_ble_eq_true rfl) ?_
    refine ARun.pure (PureOp.indexLst (i := k) rfl (.tmp rfl) vp_el_22_2 (.tmp rfl) rfl (by omega)) rfl rfl (Nat.le_of_ble_eq_true rfl) ?_
    refine ARun.pure (PureOp.loadRefAgg rfl (.tmp rfl) vp_ag_103_2 (Nat.le_of_ble_eq_true rfl)) rfl rfl (Nat.le_of_ble_eq_true rfl) ?_
    refine ARun.prodTo (K := 0) (n := k * 2) (X := famX 2 (fun i j => ceRow (x.getD i (default : GRow)) j)) (X' := famX 2 (fun i j => ceRow (x.getD i (default : GRow)) j)) (m := (k + 1) * 2) rfl (v_toRow (x.getD k (default : GRow)) (Small.mk (by omega))) ⟨⟨_, (.tmp rfl), ⟨.str, .lst, trivial⟩⟩, trivial⟩ vp_ca_69 rfl rfl (fun _ _ => rfl) (fun p hp => (famX_at (show p < 2 from hp)).trans (match p, hp with | 0, _ => rfl | 1, _ => rfl | _ + 2, h => absurd h (by simp [SV.leaves]))) rfl (Nat.succ_mul k 2).symm rfl rfl (Nat.le_of_ble_eq_true rfl) ?_
    refine ARun.pure (PureOp.indexOwn (i := k) rfl (.tmp rfl) vp_el_27_2 (.tmp rfl) rfl (by omega)) rfl rfl (Nat.le_of_ble_eq_true rfl) ?_
    refine ARun.storeElem rfl (.tmp rfl) (.tmp rfl) (SV.cells_of (by exact ⟨trivial, trivial, trivial⟩)) rfl (by omega) rfl vp_sz_67_2 rfl rfl ?_
    refine ARun.nil ?_
    refine AW.region ?_
    refine ARun.pure (PureOp.move rfl (.tmp rfl)) rfl rfl (Nat.le_of_ble_eq_true rfl) ?_
    refine ARun.pure (PureOp.add (c := ((k + 1 : Nat) : Int)) rfl (.tmp rfl) .int (by rw [wrap_id (by omega) (by omega)]; omega)) rfl rfl (Nat.le_of_ble_eq_true rfl) ?_
    refine ARun.pure (PureOp.assign rfl (.tmp rfl)) rfl rfl (Nat.le_of_ble_eq_true rfl) ?_
    refine ARun.nil ?_
    exact ⟨k + 1, by omega, by dsimp only; omega, ⟨⟨⟨_, rfl, rfl⟩, ⟨_, rfl, rfl⟩, ⟨_, rfl, rfl⟩, trivial⟩, ⟨⟨_, rfl, fun _ _ => rfl⟩, ⟨_, rfl, rfl, Nat.le_refl _, fun a b _ hb => fill_next (sz := 2) (k := k) (g := fun a b => nmA 0 (a * 2 + b) (ceRow (x.getD a (default : GRow)) b)) (z := fun b => ([.str ByteArray.empty, .con (.slice none 0 0)] : List AV).getD b (.con undef)) (c := fun b => ([.str ((x.getD k (default : GRow)).name), .tre 0 (k * 2 + 1)] : List AV).getD b (.con undef)) (fun b hb => match b, hb with | 0, _ => rfl | 1, _ => rfl | _ + 2, h => absurd h (by omega)) a b hb⟩, trivial⟩⟩⟩
  · have _u := True.intro
    replace hb1 := of_decide_eq_false hb1
    have hlt : ¬ k < x.length := by omega
    obtain rfl : k = x.length := by omega
    refine AW.exit ?_
    refine AW.seq ?_
    refine AW.region ?_
    refine ARun.pure (PureOp.move rfl (.tmp rfl)) rfl rfl (Nat.le_of_ble_eq_true rfl) ?_
    refine ARun.pure (PureOp.assign rfl (.tmp rfl)) rfl rfl (Nat.le_of_ble_eq_true rfl) ?_
    refine ARun.nil ?_
    exact AW.ret (show ∃ s t, ResL _ _ [.tmp 2] s ∧ TvS _ (ofLeaf t) 0 s _ from ⟨_, fun a b => if a = 1 then 0 else if a = 0 then 0 else 1000, .inl ⟨_, rfl, .tmp rfl⟩, (Tv.rowN (K := 0) rfl rfl rfl (Nat.le_refl _) (by rfl) (fun i j hi hj => if_pos hi) rfl (by decide) (fun _ => by rfl) (fun i j hi hj => match j, hj with | 0, _ => rfl | 1, _ => rfl | _ + 2, h => absurd h (by omega)))⟩)

theorem v_toHead (x : GHead) (hw : Small (wtHead x)) : FnT Try.prog 11 [.agg [.lst 2 x.rows.length (fun i0 j0 => ([.str ((x.rows.getD i0 (default : GRow)).name), .lst 2 (((x.rows.getD i0 (default : GRow)).samples).length) (fun i1 j1 => ([.int .i64 ((((x.rows.getD i0 (default : GRow)).samples).getD i1 (default : GSample)).at_), .int .i64 ((((x.rows.getD i0 (default : GRow)).samples).getD i1 (default : GSample)).value)] : List AV).getD j1 (.con undef))] : List AV).getD j0 (.con undef)), .int .i64 x.offset]] (.agg [.lst 2 x.rows.length (fun i0 j0 => ([.str ((x.rows.getD i0 (default : GRow)).name), .lst 2 (((x.rows.getD i0 (default : GRow)).samples).length) (fun i1 j1 => ([.int .i64 ((((x.rows.getD i0 (default : GRow)).samples).getD i1 (default : GSample)).at_), .int .i64 ((((x.rows.getD i0 (default : GRow)).samples).getD i1 (default : GSample)).value)] : List AV).getD j1 (.con undef))] : List AV).getD j0 (.con undef)), .int .i64 x.offset]) := by
  unfold Small wtHead at hw
  refine FnT.of_body (fn := Try.f11) Try.func11 rfl (Nat.le_of_ble_eq_true rfl)  ?_
  intro w0
  show AW _ 12 _ _ _ _
  refine AW.seq ?_
  refine AW.region ?_
  refine ARun.box (id := 0) rfl (.tmp rfl) (SV.cells_of (by exact ⟨trivial, trivial, trivial⟩)) ⟨rfl, (by repeat first | exact trivial | refine ⟨by decide, by first | rfl | exact trivial | (intro i j; first | rfl | exact getD_no rfl | (dsimp only; split <;> first | rfl | exact getD_no rfl) | exact scl_no (by apply_assumption) _), ?_⟩)⟩ rfl rfl rfl (Nat.le_of_ble_eq_true rfl) ?_
  refine ARun.alloc (id := 1) (l := [.con (.slice none 0 0), .int .i64 0]) (z := (.agg #[.slice none 0 0, .int .i64 0])) rfl (by kernel_rfl) (fun _ _ _ => ⟨_, _, rfl, rfl, ⟨_, _, rfl, rfl, rfl⟩⟩) ⟨rfl, (by repeat first | exact trivial | refine ⟨by decide, by first | rfl | exact trivial | (intro i j; first | rfl | exact getD_no rfl | (dsimp only; split <;> first | rfl | exact getD_no rfl) | exact scl_no (by apply_assumption) _), ?_⟩)⟩ rfl rfl rfl (Nat.le_of_ble_eq_true rfl) ?_
  refine ARun.nil ?_
  refine AW.seq ?_
  refine AW.region ?_
  refine ARun.alloc (id := 2) (l := [.con (.slice none 0 0), .int .i64 0]) (z := (.agg #[.slice none 0 0, .int .i64 0])) rfl (by kernel_rfl) (fun _ _ _ => ⟨_, _, rfl, rfl, ⟨_, _, rfl, rfl, rfl⟩⟩) ⟨rfl, (by repeat first | exact trivial | refine ⟨by decide, by first | rfl | exact trivial | (intro i j; first | rfl | exact getD_no rfl | (dsimp only; split <;> first | rfl | exact getD_no rfl) | exact scl_no (by apply_assumption) _), ?_⟩)⟩ rfl rfl rfl (Nat.le_of_ble_eq_true rfl) ?_
  refine ARun.nil ?_
  refine AW.seq ?_
  refine AW.region ?_
  refine ARun.pure (PureOp.fieldPtr rfl (.tmp rfl) vp_fi_24_0_0) rfl rfl (Nat.le_of_ble_eq_true rfl) ?_
  refine ARun.pure (PureOp.loadPtr rfl (.tmp rfl) vp_pl_22 rfl rfl (Nat.le_of_ble_eq_true rfl) (Nat.le_of_ble_eq_true rfl)) rfl rfl (Nat.le_of_ble_eq_true rfl) ?_
  refine ARun.prod (K := 3) rfl (v_toRowS x.rows (Small.mk (by omega))) ⟨rfl, (by repeat first | exact trivial | refine ⟨by decide, by first | rfl | exact trivial | (intro i j; first | rfl | exact getD_no rfl | (dsimp only; split <;> first | rfl | exact getD_no rfl) | exact scl_no (by apply_assumption) _), ?_⟩)⟩ ⟨⟨_, (.tmp rfl), .lst⟩, trivial⟩ vp_ca_45 rfl rfl rfl rfl rfl (Nat.le_of_ble_eq_true rfl) ?_
  refine ARun.pure (PureOp.fieldPtr rfl (.tmp rfl) vp_fi_29_0_0) rfl rfl (Nat.le_of_ble_eq_true rfl) ?_
  refine ARun.store rfl (.tmp rfl) (.tmp rfl) trivial rfl (Nat.le_of_ble_eq_true rfl) vp_sz_27_1 rfl rfl ?_
  refine ARun.nil ?_
  refine AW.seq ?_
  refine AW.region ?_
  refine ARun.pure (PureOp.fieldPtr rfl (.tmp rfl) vp_fi_24_1_1) rfl rfl (Nat.le_of_ble_eq_true rfl) ?_
  refine ARun.pure (PureOp.loadPtr rfl (.tmp rfl) vp_pl_3 rfl rfl (Nat.le_of_ble_eq_true rfl) (Nat.le_of_ble_eq_true rfl)) rfl rfl (Nat.le_of_ble_eq_true rfl) ?_
  refine ARun.pure (PureOp.fieldPtr rfl (.tmp rfl) vp_fi_29_1_1) rfl rfl (Nat.le_of_ble_eq_true rfl) ?_
  refine ARun.store rfl (.tmp rfl) (.tmp rfl) trivial rfl (Nat.le_of_ble_eq_true rfl) vp_sz_3_1 rfl rfl ?_
  refine ARun.nil ?_
  refine AW.seq ?_
  refine AW.region ?_
  refine ARun.pure (PureOp.loadPtrAgg rfl (.tmp rfl) vp_ag_29_2 rfl rfl (Nat.le_of_ble_eq_true rfl) (Nat.le_of_ble_eq_true rfl)) rfl rfl (Nat.le_of_ble_eq_true rfl) ?_
  refine ARun.store rfl (.tmp rfl) (.tmp rfl) (SV.cells_of (by exact ⟨trivial, trivial, trivial⟩)) rfl (Nat.le_of_ble_eq_true rfl) vp_sz_29_2 rfl rfl ?_
  refine ARun.nil ?_
  exact AW.ret (show ∃ s t, ResL _ _ [.cell 2 29] s ∧ TvS _ (ofLeaf t) 0 s _ from ⟨_, fun a b => if a = 3 then 0 else 1000, .inl ⟨_, rfl, .cells rfl vp_ag_29_2 rfl rfl (Nat.le_of_ble_eq_true rfl) (Nat.le_of_ble_eq_true rfl)⟩, ⟨(Tv.cast (Tv.tre rfl (Nat.le_of_ble_eq_true rfl) (by rfl)) rfl), .int, trivial⟩⟩)

theorem v_toSay (x : GSay) (hw : Small (wtSay x)) : FnF Try.prog 25 [.agg [.str x.name, .int .i64 x.at_, .int .i64 x.value]] (.agg [.str x.name, .int .i64 x.at_, .int .i64 x.value]) := by
  unfold Small wtSay at hw
  refine FnF.of_body (fn := Try.f25) Try.func25 rfl (Nat.le_of_ble_eq_true rfl)  ?_
  intro w0
  show AW _ 14 _ _ _ _
  refine AW.seq ?_
  refine AW.region ?_
  refine ARun.box (id := 0) rfl (.tmp rfl) (SV.cells_of (by exact ⟨trivial, trivial, trivial, trivial⟩)) ⟨rfl, (by repeat first | exact trivial | refine ⟨by decide, by first | rfl | exact trivial | (intro i j; first | rfl | exact getD_no rfl | (dsimp only; split <;> first | rfl | exact getD_no rfl) | exact scl_no (by apply_assumption) _), ?_⟩)⟩ rfl rfl rfl (Nat.le_of_ble_eq_true rfl) ?_
  refine ARun.alloc (id := 1) (l := [.str ByteArray.empty, .int .i64 0, .int .i64 0]) (z := (.agg #[.string ByteArray.empty, .int .i64 0, .int .i64 0])) rfl (by kernel_rfl) (fun _ _ _ => ⟨_, _, rfl, ⟨rfl, by decide⟩, ⟨_, _, rfl, rfl, ⟨_, _, rfl, rfl, rfl⟩⟩⟩) ⟨rfl, (by repeat first | exact trivial | refine ⟨by decide, by first | rfl | exact trivial | (intro i j; first | rfl | exact getD_no rfl | (dsimp only; split <;> first | rfl | exact getD_no rfl) | exact scl_no (by apply_assumption) _), ?_⟩)⟩ rfl rfl rfl (Nat.le_of_ble_eq_true rfl) ?_
  refine ARun.nil ?_
  refine AW.seq ?_
  refine AW.region ?_
  refine ARun.alloc (id := 2) (l := [.str ByteArray.empty, .int .i64 0, .int .i64 0]) (z := (.agg #[.string ByteArray.empty, .int .i64 0, .int .i64 0])) rfl (by kernel_rfl) (fun _ _ _ => ⟨_, _, rfl, ⟨rfl, by decide⟩, ⟨_, _, rfl, rfl, ⟨_, _, rfl, rfl, rfl⟩⟩⟩) ⟨rfl, (by repeat first | exact trivial | refine ⟨by decide, by first | rfl | exact trivial | (intro i j; first | rfl | exact getD_no rfl | (dsimp only; split <;> first | rfl | exact getD_no rfl) | exact scl_no (by apply_assumption) _), ?_⟩)⟩ rfl rfl rfl (Nat.le_of_ble_eq_true rfl) ?_
  refine ARun.nil ?_
  refine AW.seq ?_
  refine AW.region ?_
  refine ARun.pure (PureOp.fieldPtr rfl (.tmp rfl) vp_fi_44_0_0) rfl rfl (Nat.le_of_ble_eq_true rfl) ?_
  refine ARun.pure (PureOp.loadPtr rfl (.tmp rfl) vp_pl_9 rfl rfl (Nat.le_of_ble_eq_true rfl) (Nat.le_of_ble_eq_true rfl)) rfl rfl (Nat.le_of_ble_eq_true rfl) ?_
  refine ARun.pure (PureOp.fieldPtr rfl (.tmp rfl) vp_fi_47_0_0) rfl rfl (Nat.le_of_ble_eq_true rfl) ?_
  refine ARun.store rfl (.tmp rfl) (.tmp rfl) trivial rfl (Nat.le_of_ble_eq_true rfl) vp_sz_9_1 rfl rfl ?_
  refine ARun.nil ?_
  refine AW.seq ?_
  refine AW.region ?_
  refine ARun.pure (PureOp.fieldPtr rfl (.tmp rfl) vp_fi_44_1_1) rfl rfl (Nat.le_of_ble_eq_true rfl) ?_
  refine ARun.pure (PureOp.loadPtr rfl (.tmp rfl) vp_pl_3 rfl rfl (Nat.le_of_ble_eq_true rfl) (Nat.le_of_ble_eq_true rfl)) rfl rfl (Nat.le_of_ble_eq_true rfl) ?_
  refine ARun.pure (PureOp.fieldPtr rfl (.tmp rfl) vp_fi_47_1_1) rfl rfl (Nat.le_of_ble_eq_true rfl) ?_
  refine ARun.store rfl (.tmp rfl) (.tmp rfl) trivial rfl (Nat.le_of_ble_eq_true rfl) vp_sz_3_1 rfl rfl ?_
  refine ARun.nil ?_
  refine AW.seq ?_
  refine AW.region ?_
  refine ARun.pure (PureOp.fieldPtr rfl (.tmp rfl) vp_fi_44_2_2) rfl rfl (Nat.le_of_ble_eq_true rfl) ?_
  refine ARun.pure (PureOp.loadPtr rfl (.tmp rfl) vp_pl_3 rfl rfl (Nat.le_of_ble_eq_true rfl) (Nat.le_of_ble_eq_true rfl)) rfl rfl (Nat.le_of_ble_eq_true rfl) ?_
  refine ARun.pure (PureOp.fieldPtr rfl (.tmp rfl) vp_fi_47_2_2) rfl rfl (Nat.le_of_ble_eq_true rfl) ?_
  refine ARun.store rfl (.tmp rfl) (.tmp rfl) trivial rfl (Nat.le_of_ble_eq_true rfl) vp_sz_3_1 rfl rfl ?_
  refine ARun.nil ?_
  refine AW.seq ?_
  refine AW.region ?_
  refine ARun.pure (PureOp.loadPtrAgg rfl (.tmp rfl) vp_ag_47_3 rfl rfl (Nat.le_of_ble_eq_true rfl) (Nat.le_of_ble_eq_true rfl)) rfl rfl (Nat.le_of_ble_eq_true rfl) ?_
  refine ARun.store rfl (.tmp rfl) (.tmp rfl) (SV.cells_of (by exact ⟨trivial, trivial, trivial, trivial⟩)) rfl (Nat.le_of_ble_eq_true rfl) vp_sz_47_3 rfl rfl ?_
  refine ARun.nil ?_
  exact AW.ret (show ∃ s, ResL _ _ [.cell 2 47] s ∧ FvS _ s _ from ⟨_, .inl ⟨_, rfl, .cells rfl vp_ag_47_3 rfl rfl (Nat.le_of_ble_eq_true rfl) (Nat.le_of_ble_eq_true rfl)⟩, ⟨.str, .int, .int, trivial⟩⟩)

theorem v_toSayS (x : List GSay) (hw : Small (wtl wtSay x)) : FnT Try.prog 29 [.one (.lst 3 x.length (fun i0 j0 => ([.str ((x.getD i0 (default : GSay)).name), .int .i64 ((x.getD i0 (default : GSay)).at_), .int .i64 ((x.getD i0 (default : GSay)).value)] : List AV).getD j0 (.con undef)))] (.one (.lst 3 x.length (fun i0 j0 => ([.str ((x.getD i0 (default : GSay)).name), .int .i64 ((x.getD i0 (default : GSay)).at_), .int .i64 ((x.getD i0 (default : GSay)).value)] : List AV).getD j0 (.con undef)))) := by
  unfold Small at hw
  replace hw : x.length + (x.map wtSay).sum ≤ 1048576 := hw
  have hlen : x.length ≤ 1048576 := by omega
  refine FnT.of_body (fn := Try.f29) Try.func29 rfl (Nat.le_of_ble_eq_true rfl)  ?_
  intro w0
  show AW _ 23 _ _ _ _
  refine AW.seq ?_
  refine AW.region ?_
  refine ARun.pure (PureOp.assign rfl .con) rfl rfl (Nat.le_of_ble_eq_true rfl) ?_
  refine ARun.nil ?_
  refine AW.seq ?_
  refine AW.region ?_
  refine ARun.pure (PureOp.move rfl (.tmp rfl)) rfl rfl (Nat.le_of_ble_eq_true rfl) ?_
  refine ARun.pure (PureOp.lenLst rfl (.tmp rfl) vp_sl_50) rfl rfl (Nat.le_of_ble_eq_true rfl) ?_
  refine ARun.make (id := 0) (n := x.length) (l := [.str ByteArray.empty, .int .i64 0, .int .i64 0]) (z := (.agg #[.string ByteArray.empty, .int .i64 0, .int .i64 0])) (by_ := 32) rfl (by kernel_rfl) (fun _ _ _ => ⟨_, _, rfl, ⟨rfl, by decide⟩, ⟨_, _, rfl, rfl, ⟨_, _, rfl, rfl, rfl⟩⟩⟩) (.tmp rfl) (.tmp rfl) rfl rfl (by omega) (by omega) (by decide) ⟨rfl, (by repeat first | exact trivial | refine ⟨by decide, by first | rfl | exact trivial | (intro i j; first | rfl | exact getD_no rfl | (dsimp only; split <;> first | rfl | exact getD_no rfl) | exact scl_no (by apply_assumption) _), ?_⟩)⟩ rfl rfl rfl (Nat.le_of_ble_eq_true rfl) ?_
  refine ARun.pure (PureOp.assign rfl (.tmp rfl)) rfl rfl (Nat.le_of_ble_eq_true rfl) ?_
  refine ARun.nil ?_
  refine AW.seq ?_
  refine AW.seq ?_
  refine AW.region ?_
  refine ARun.pure (PureOp.assign rfl .int) rfl rfl (Nat.le_of_ble_eq_true rfl) ?_
  refine ARun.nil ?_
  refine AW.block ?_
  refine AW.loop (ι := Nat) (fun k => ⟨[(0, .one (.lst 3 x.length (fun i0 j0 => ([.str ((x.getD i0 (default : GSay)).name), .int .i64 ((x.getD i0 (default : GSay)).at_), .int .i64 ((x.getD i0 (default : GSay)).value)] : List AV).getD j0 (.con undef)))), (3, .one (.own 0 3 x.length)), (4, .one (.int .i64 (k : Int)))], [(0, .arr 3 x.length (fun a b => if a < k then ceSay (x.getD a (default : GSay)) b else ([.str ByteArray.empty, .int .i64 0, .int .i64 0] : List AV).getD b (.con undef)))]⟩) (fun k => k ≤ x.length) (fun k => x.length - k) 0 (Nat.zero_le _) ⟨⟨⟨_, rfl, rfl⟩, ⟨_, rfl, rfl⟩, ⟨_, rfl, rfl⟩, trivial⟩, ⟨⟨_, rfl, rfl, Nat.le_refl _, fun a b _ _ => by simp [AObj.f]⟩, trivial⟩⟩ ?_
  intro k hk
  refine AW.seq ?_
  refine AW.seq ?_
  refine AW.region ?_
  refine ARun.pure (PureOp.move rfl (.tmp rfl)) rfl rfl (Nat.le_of_ble_eq_true rfl) ?_
  refine ARun.pure (PureOp.move rfl (.tmp rfl)) rfl rfl (Nat.le_of_ble_eq_true rfl) ?_
  refine ARun.pure (PureOp.lenLst rfl (.tmp rfl) vp_sl_50) rfl rfl (Nat.le_of_ble_eq_true rfl) ?_
  refine ARun.pure (PureOp.intOp rfl (.tmp rfl) (.tmp rfl) rfl) rfl rfl (Nat.le_of_ble_eq_true rfl) ?_
  refine ARun.nil ?_
  refine AW.cond (.tmp rfl) (fun hb1 => ?_) (fun hb1 => ?_)
  · have _u := True.intro
    replace hb1 := of_decide_eq_true hb1
    have hlt : k < x.length := by omega
    have hwk := wt_at (f := wtSay) (default : GSay) hlt
    refine AW.skip ?_
    refine AW.seq ?_
    refine AW.block ?_
    refine AW.region ?_
    refine ARun.pure (PureOp.move rfl (.tmp rfl)) rfl rfl (Nat.le_of_ble_eq_true rfl) ?_
    refine ARun.pure (PureOp.move rfl (.tmp rfl)) rfl rfl (Nat.le_of_ble_eq_true rfl) ?_
    refine ARun.pure (PureOp.move rfl (.tmp rfl)) rfl rfl (Nat.le_of_ble_eq_true rfl) ?_
    refine ARun.pure (PureOp.move rfl (.tmp rfl)) rfl rfl (Nat.le_of_ble_eq_true rfl) ?_
    refine ARun.pure (PureOp.indexLst (i := k) rfl (.tmp rfl) vp_el_50_3 (.tmp rfl) rfl (by omega)) rfl rfl (Nat.le_of_ble_eq_true rfl) ?_
    refine ARun.pure (PureOp.loadRefAgg rfl (.tmp rfl) vp_ag_44_3 (Nat.le_of_ble_eq_true rfl)) rfl rfl (Nat.le_of_ble_eq_true rfl) ?_
    refine ARun.fresh (FreshOp.callS rfl (v_toSay (x.getD k (default : GSay)) (Small.mk (by omega))) ⟨⟨_, (.tmp rfl), ⟨.str, .int, .int, trivial⟩⟩, trivial⟩ vp_ca_25 rfl) rfl rfl (Nat.le_of_ble_eq_true rfl) ?_
    refine ARun.pure (PureOp.indexOwn (i := k) rfl (.tmp rfl) vp_el_55_3 (.tmp rfl) rfl (by omega)) rfl rfl (Nat.le_of_ble_eq_true rfl) ?_
    refine ARun.storeElem rfl (.tmp rfl) (.tmp rfl) (SV.cells_of (by exact ⟨trivial, trivial, trivial, trivial⟩)) rfl (by omega) rfl vp_sz_47_3 rfl rfl ?_
    refine ARun.nil ?_
    refine AW.region ?_
    refine ARun.pure (PureOp.move rfl (.tmp rfl)) rfl rfl (Nat.le_of_ble_eq_true rfl) ?_
    refine ARun.pure (PureOp.add (c := ((k + 1 : Nat) : Int)) rfl (.tmp rfl) .int (by rw [wrap_id (by omega) (by omega)]; omega)) rfl rfl (Nat.le_of_ble_eq_true rfl) ?_
    refine ARun.pure (PureOp.assign rfl (.tmp rfl)) rfl rfl (Nat.le_of_ble_eq_true rfl) ?_
    refine ARun.nil ?_
    exact ⟨k + 1, by omega, by dsimp only; omega, ⟨⟨⟨_, rfl, rfl⟩, ⟨_, rfl, rfl⟩, ⟨_, rfl, rfl⟩, trivial⟩, ⟨⟨_, rfl, rfl, Nat.le_refl _, fun a b _ hb => fill_next (sz := 3) (k := k) (g := fun a b => ceSay (x.getD a (default : GSay)) b) (z := fun b => ([.str ByteArray.empty, .int .i64 0, .int .i64 0] : List AV).getD b (.con undef)) (c := fun b => ([.str ((x.getD k (default : GSay)).name), .int .i64 ((x.getD k (default : GSay)).at_), .int .i64 ((x.getD k (default : GSay)).value)] : List AV).getD b (.con undef)) (fun b hb => match b, hb with | 0, _ => rfl | 1, _ => rfl | 2, _ => rfl | _ + 3, h => absurd h (by omega)) a b hb⟩, trivial⟩⟩⟩
  · have _u := True.intro
    replace hb1 := of_decide_eq_false hb1
    have hlt : ¬ k < x.length := by omega
    obtain rfl : k = x.length := by omega
    refine AW.exit ?_
    refine AW.seq ?_
    refine AW.region ?_
    refine ARun.pure (PureOp.move rfl (.tmp rfl)) rfl rfl (Nat.le_of_ble_eq_true rfl) ?_
    refine ARun.pure (PureOp.assign rfl (.tmp rfl)) rfl rfl (Nat.le_of_ble_eq_true rfl) ?_
    refine ARun.nil ?_
    exact AW.ret (show ∃ s t, ResL _ _ [.tmp 2] s ∧ TvS _ (ofLeaf t) 0 s _ from ⟨_, fun a b => if a = 0 then 0 else 1000, .inl ⟨_, rfl, .tmp rfl⟩, (Tv.flat rfl rfl rfl (Nat.le_refl _) (by rfl) (fun i j hi hj => if_pos hi) (fun i j hi hj => match j, hj with | 0, _ => rfl | 1, _ => rfl | 2, _ => rfl | _ + 3, h => absurd h (by omega)))⟩)
end Go.Proofs.Ytmfkmifkkplidaa


/-
  The laws' own budgets (sz) over the data of this seat.
-/
namespace Go.Proofs.Ytmfkmifkkplidaa
open Go.ChangeShapes Go.WideShapes Go.ChangeAt Go.RowKit Go.BigFrame Go.Deep
set_option linter.unusedVariables false
set_option linter.unusedSimpArgs false
theorem vz_ag_103_2 : aggB Try.prog 103 2 = true := by kernel_rfl
theorem vz_ag_44_3 : aggB Try.prog 44 3 = true := by kernel_rfl
theorem vz_ca_23 : callB Try.prog 23 = true := by kernel_rfl
theorem vz_ca_41 : callB Try.prog 41 = true := by kernel_rfl
theorem vz_ca_68 : callB Try.prog 68 = true := by kernel_rfl
theorem vz_ca_84 : callB Try.prog 84 = true := by kernel_rfl
theorem vz_el_22_2 : elemB Try.prog 22 2 = true := by kernel_rfl
theorem vz_el_50_3 : elemB Try.prog 50 3 = true := by kernel_rfl
theorem vz_fi_103_0_0 : fieldB Try.prog 103 0 0 = true := by kernel_rfl
theorem vz_fi_103_1_1 : fieldB Try.prog 103 1 1 = true := by kernel_rfl
theorem vz_fi_24_0_0 : fieldB Try.prog 24 0 0 = true := by kernel_rfl
theorem vz_fi_44_0_0 : fieldB Try.prog 44 0 0 = true := by kernel_rfl
theorem vz_pl_101 : plainB Try.prog 101 = true := by kernel_rfl
theorem vz_pl_22 : plainB Try.prog 22 = true := by kernel_rfl
theorem vz_pl_9 : plainB Try.prog 9 = true := by kernel_rfl
theorem vz_sl_101 : sliceB Try.prog 101 = true := by kernel_rfl
theorem vz_sl_22 : sliceB Try.prog 22 = true := by kernel_rfl
theorem vz_sl_50 : sliceB Try.prog 50 = true := by kernel_rfl
theorem vz_st_9 : stringB Try.prog 9 = true := by kernel_rfl
theorem v_szSampleS (x : List GSample) (left : Int) (hl : 0 ≤ left ∧ left ≤ 1048576) : Fn Try.prog 84 [.one (.lst 2 x.length (fun i0 j0 => ([.int .i64 ((x.getD i0 (default : GSample)).at_), .int .i64 ((x.getD i0 (default : GSample)).value)] : List AV).getD j0 (.con undef))), .one (.int .i64 left)] (.one (.int .i64 (szR left (x.length)))) := by
  obtain ⟨h0, h1⟩ := hl
  refine Fn.of_body (fn := Try.f84) Try.func84 rfl (Nat.le_of_ble_eq_true rfl) trivial ?_
  intro w0
  show AW _ 12 _ _ _ _
  refine AW.bound (t := 0) rfl fun hx => ?_
  refine AW.seq ?_
  refine AW.region ?_
  refine ARun.pure (PureOp.assign rfl .int) rfl rfl (Nat.le_of_ble_eq_true rfl) ?_
  refine ARun.nil ?_
  refine AW.seq ?_
  refine AW.region ?_
  refine ARun.pure (PureOp.move rfl (.tmp rfl)) rfl rfl (Nat.le_of_ble_eq_true rfl) ?_
  refine ARun.pure (PureOp.move rfl (.tmp rfl)) rfl rfl (Nat.le_of_ble_eq_true rfl) ?_
  refine ARun.pure (PureOp.lenLst rfl (.tmp rfl) vz_sl_101) rfl rfl (Nat.le_of_ble_eq_true rfl) ?_
  refine ARun.pure (PureOp.sub (c := left - (x.length : Int)) rfl (.tmp rfl) (.tmp rfl) (wrap_id (by omega) (by omega))) rfl rfl (Nat.le_of_ble_eq_true rfl) ?_
  refine ARun.pure (PureOp.assign rfl (.tmp rfl)) rfl rfl (Nat.le_of_ble_eq_true rfl) ?_
  refine ARun.nil ?_
  refine AW.seq ?_
  refine AW.seq ?_
  refine AW.region ?_
  refine ARun.pure (PureOp.move rfl (.tmp rfl)) rfl rfl (Nat.le_of_ble_eq_true rfl) ?_
  refine ARun.pure (PureOp.intOp rfl (.tmp rfl) .int rfl) rfl rfl (Nat.le_of_ble_eq_true rfl) ?_
  refine ARun.nil ?_
  refine AW.cond (.tmp rfl) (fun hb1 => ?_) (fun hb1 => ?_)
  · have _u := True.intro
    replace hb1 := of_decide_eq_true hb1
    refine AW.seq ?_
    refine AW.region ?_
    refine ARun.pure (PureOp.assign rfl .int) rfl rfl (Nat.le_of_ble_eq_true rfl) ?_
    refine ARun.nil ?_
    refine AW.ret (show ResL _ _ [.tmp 4] _ from resI rfl ?_)
    first | exact szF_big (by omega) | exact szF_ok (by omega)
  · have _u := True.intro
    replace hb1 := of_decide_eq_false hb1
    refine AW.skip ?_
    refine AW.seq ?_
    refine AW.region ?_
    refine ARun.pure (PureOp.move rfl (.tmp rfl)) rfl rfl (Nat.le_of_ble_eq_true rfl) ?_
    refine ARun.pure (PureOp.assign rfl (.tmp rfl)) rfl rfl (Nat.le_of_ble_eq_true rfl) ?_
    refine ARun.nil ?_
    refine AW.ret (show ResL _ _ [.tmp 4] _ from resI rfl ?_)
    first | exact szF_big (by omega) | exact szF_ok (by omega)

theorem v_szRow (x : GRow) (left : Int) (hl : 0 ≤ left ∧ left ≤ 1048576) : Fn Try.prog 68 [.agg [.str x.name, .lst 2 x.samples.length (fun i0 j0 => ([.int .i64 ((x.samples.getD i0 (default : GSample)).at_), .int .i64 ((x.samples.getD i0 (default : GSample)).value)] : List AV).getD j0 (.con undef))], .one (.int .i64 left)] (.one (.int .i64 (szR left (wtRow x)))) := by
  obtain ⟨h0, h1⟩ := hl
  have hU : ∀ (p : Int) (m : Nat), (szR p m < 0 ↔ p < m) := fun p m => by unfold szR; split <;> omega
  refine Fn.of_body (fn := Try.f68) Try.func68 rfl (Nat.le_of_ble_eq_true rfl) trivial ?_
  intro w0
  show AW _ 19 _ _ _ _
  refine AW.boundAS (t := 0) (j := 0) rfl rfl fun hbs0 => ?_
  refine AW.seq ?_
  refine AW.region ?_
  refine ARun.box (id := 0) rfl (.tmp rfl) (SV.cells_of (by exact ⟨trivial, trivial, trivial⟩)) ⟨rfl, (by repeat first | exact trivial | refine ⟨by decide, by first | rfl | exact trivial | (intro i j; first | rfl | exact getD_no rfl | (dsimp only; split <;> first | rfl | exact getD_no rfl) | exact scl_no (by apply_assumption) _), ?_⟩)⟩ rfl rfl rfl (Nat.le_of_ble_eq_true rfl) ?_
  refine ARun.pure (PureOp.assign rfl .int) rfl rfl (Nat.le_of_ble_eq_true rfl) ?_
  refine ARun.nil ?_
  refine AW.seq ?_
  refine AW.region ?_
  refine ARun.pure (PureOp.move rfl (.tmp rfl)) rfl rfl (Nat.le_of_ble_eq_true rfl) ?_
  refine ARun.pure (PureOp.fieldPtr rfl (.tmp rfl) vz_fi_103_0_0) rfl rfl (Nat.le_of_ble_eq_true rfl) ?_
  refine ARun.pure (PureOp.loadPtr rfl (.tmp rfl) vz_pl_9 rfl rfl (Nat.le_of_ble_eq_true rfl) (Nat.le_of_ble_eq_true rfl)) rfl rfl (Nat.le_of_ble_eq_true rfl) ?_
  refine ARun.pure (PureOp.lenStr rfl (.tmp rfl) vz_st_9) rfl rfl (Nat.le_of_ble_eq_true rfl) ?_
  refine ARun.pure (PureOp.sub (c := left - (x.name.size : Int)) rfl (.tmp rfl) (.tmp rfl) (wrap_id (by omega) (by omega))) rfl rfl (Nat.le_of_ble_eq_true rfl) ?_
  refine ARun.pure (PureOp.assign rfl (.tmp rfl)) rfl rfl (Nat.le_of_ble_eq_true rfl) ?_
  refine ARun.nil ?_
  refine AW.seq ?_
  refine AW.seq ?_
  refine AW.region ?_
  refine ARun.pure (PureOp.move rfl (.tmp rfl)) rfl rfl (Nat.le_of_ble_eq_true rfl) ?_
  refine ARun.pure (PureOp.intOp rfl (.tmp rfl) .int rfl) rfl rfl (Nat.le_of_ble_eq_true rfl) ?_
  refine ARun.nil ?_
  refine AW.cond (.tmp rfl) (fun hb1 => ?_) (fun hb1 => ?_)
  · have _u := True.intro
    replace hb1 := of_decide_eq_true hb1
    refine AW.seq ?_
    refine AW.region ?_
    refine ARun.pure (PureOp.assign rfl .int) rfl rfl (Nat.le_of_ble_eq_true rfl) ?_
    refine ARun.nil ?_
    refine AW.ret (show ResL _ _ [.tmp 4] _ from resI rfl ?_)
    unfold wtRow
    unfold szR at *; (repeat' split at *) <;> first | omega | (split <;> omega)
  · have _u := True.intro
    replace hb1 := of_decide_eq_false hb1
    refine AW.skip ?_
    refine AW.seq ?_
    refine AW.region ?_
    refine ARun.pure (PureOp.fieldPtr rfl (.tmp rfl) vz_fi_103_1_1) rfl rfl (Nat.le_of_ble_eq_true rfl) ?_
    refine ARun.pure (PureOp.loadPtr rfl (.tmp rfl) vz_pl_101 rfl rfl (Nat.le_of_ble_eq_true rfl) (Nat.le_of_ble_eq_true rfl)) rfl rfl (Nat.le_of_ble_eq_true rfl) ?_
    refine ARun.pure (PureOp.move rfl (.tmp rfl)) rfl rfl (Nat.le_of_ble_eq_true rfl) ?_
    refine ARun.pure (PureOp.call rfl (v_szSampleS x.samples (left - (x.name.size : Int)) (by first | omega | (unfold szR at *; split at * <;> omega))) ⟨⟨_, (.tmp rfl), .lst⟩, ⟨_, (.tmp rfl), .int⟩, trivial⟩ vz_ca_84 trivial) rfl rfl (Nat.le_of_ble_eq_true rfl) ?_
    refine ARun.pure (PureOp.assign rfl (.tmp rfl)) rfl rfl (Nat.le_of_ble_eq_true rfl) ?_
    refine ARun.nil ?_
    refine AW.seq ?_
    refine AW.seq ?_
    refine AW.region ?_
    refine ARun.pure (PureOp.move rfl (.tmp rfl)) rfl rfl (Nat.le_of_ble_eq_true rfl) ?_
    refine ARun.pure (PureOp.intOp rfl (.tmp rfl) .int rfl) rfl rfl (Nat.le_of_ble_eq_true rfl) ?_
    refine ARun.nil ?_
    refine AW.cond (.tmp rfl) (fun hb2 => ?_) (fun hb2 => ?_)
    · have _u := True.intro
      replace hb2 := of_decide_eq_true hb2
      refine AW.seq ?_
      refine AW.region ?_
      refine ARun.pure (PureOp.assign rfl .int) rfl rfl (Nat.le_of_ble_eq_true rfl) ?_
      refine ARun.nil ?_
      refine AW.ret (show ResL _ _ [.tmp 4] _ from resI rfl ?_)
      unfold wtRow
      unfold szR at *; (repeat' split at *) <;> first | omega | (split <;> omega)
    · have _u := True.intro
      replace hb2 := of_decide_eq_false hb2
      refine AW.skip ?_
      refine AW.seq ?_
      refine AW.region ?_
      refine ARun.pure (PureOp.move rfl (.tmp rfl)) rfl rfl (Nat.le_of_ble_eq_true rfl) ?_
      refine ARun.pure (PureOp.assign rfl (.tmp rfl)) rfl rfl (Nat.le_of_ble_eq_true rfl) ?_
      refine ARun.nil ?_
      refine AW.ret (show ResL _ _ [.tmp 4] _ from resI rfl ?_)
      unfold wtRow
      unfold szR at *; (repeat' split at *) <;> first | omega | (split <;> omega)

theorem v_szRowS (x : List GRow) (left : Int) (hl : 0 ≤ left ∧ left ≤ 1048576) : Fn Try.prog 41 [.one (.lst 2 x.length (fun i0 j0 => ([.str ((x.getD i0 (default : GRow)).name), .lst 2 (((x.getD i0 (default : GRow)).samples).length) (fun i1 j1 => ([.int .i64 ((((x.getD i0 (default : GRow)).samples).getD i1 (default : GSample)).at_), .int .i64 ((((x.getD i0 (default : GRow)).samples).getD i1 (default : GSample)).value)] : List AV).getD j1 (.con undef))] : List AV).getD j0 (.con undef))), .one (.int .i64 left)] (.one (.int .i64 (szR left (wtl wtRow x)))) := by
  obtain ⟨h0, h1⟩ := hl
  refine Fn.of_body (fn := Try.f41) Try.func41 rfl (Nat.le_of_ble_eq_true rfl) trivial ?_
  intro w0
  show AW _ 27 _ _ _ _
  refine AW.bound (t := 0) rfl fun hx => ?_
  refine AW.seq ?_
  refine AW.region ?_
  refine ARun.pure (PureOp.assign rfl .int) rfl rfl (Nat.le_of_ble_eq_true rfl) ?_
  refine ARun.nil ?_
  refine AW.seq ?_
  refine AW.region ?_
  refine ARun.pure (PureOp.move rfl (.tmp rfl)) rfl rfl (Nat.le_of_ble_eq_true rfl) ?_
  refine ARun.pure (PureOp.move rfl (.tmp rfl)) rfl rfl (Nat.le_of_ble_eq_true rfl) ?_
  refine ARun.pure (PureOp.lenLst rfl (.tmp rfl) vz_sl_22) rfl rfl (Nat.le_of_ble_eq_true rfl) ?_
  refine ARun.pure (PureOp.sub (c := left - (x.length : Int)) rfl (.tmp rfl) (.tmp rfl) (wrap_id (by omega) (by omega))) rfl rfl (Nat.le_of_ble_eq_true rfl) ?_
  refine ARun.pure (PureOp.assign rfl (.tmp rfl)) rfl rfl (Nat.le_of_ble_eq_true rfl) ?_
  refine ARun.nil ?_
  refine AW.seq ?_
  refine AW.seq ?_
  refine AW.region ?_
  refine ARun.pure (PureOp.move rfl (.tmp rfl)) rfl rfl (Nat.le_of_ble_eq_true rfl) ?_
  refine ARun.pure (PureOp.intOp rfl (.tmp rfl) .int rfl) rfl rfl (Nat.le_of_ble_eq_true rfl) ?_
  refine ARun.nil ?_
  refine AW.cond (.tmp rfl) (fun hb1 => ?_) (fun hb1 => ?_)
  · have _u := True.intro
    replace hb1 := of_decide_eq_true hb1
    refine AW.seq ?_
    refine AW.region ?_
    refine ARun.pure (PureOp.assign rfl .int) rfl rfl (Nat.le_of_ble_eq_true rfl) ?_
    refine ARun.nil ?_
    refine AW.ret (show ResL _ _ [.tmp 4] _ from resI rfl ?_)
    first | exact hfin | exact szL_end hlt hq | exact szL_big (by omega)
  · have _u := True.intro
    replace hb1 := of_decide_eq_false hb1
    refine AW.skip ?_
    refine AW.seq ?_
    refine AW.seq ?_
    refine AW.region ?_
    refine ARun.pure (PureOp.assign rfl .int) rfl rfl (Nat.le_of_ble_eq_true rfl) ?_
    refine ARun.nil ?_
    refine AW.block ?_
    refine AW.loop (ι := Nat) (fun k => ⟨[(0, .one (.lst 2 x.length (fun i0 j0 => ([.str ((x.getD i0 (default : GRow)).name), .lst 2 (((x.getD i0 (default : GRow)).samples).length) (fun i1 j1 => ([.int .i64 ((((x.getD i0 (default : GRow)).samples).getD i1 (default : GSample)).at_), .int .i64 ((((x.getD i0 (default : GRow)).samples).getD i1 (default : GSample)).value)] : List AV).getD j1 (.con undef))] : List AV).getD j0 (.con undef)))), (1, .one (.int .i64 (left - (x.length : Int) - ((((x.take k).map wtRow).sum : Nat) : Int)))), (5, .one (.int .i64 (k : Int)))], []⟩) (fun k => k ≤ x.length ∧ 0 ≤ left - (x.length : Int) - ((((x.take k).map wtRow).sum : Nat) : Int)) (fun k => x.length - k) 0 ⟨Nat.zero_le _, by simp; omega⟩ ⟨⟨⟨_, rfl, rfl⟩, ⟨_, rfl, by simp⟩, ⟨_, rfl, rfl⟩, trivial⟩, trivial⟩ ?_
    intro k hI
    obtain ⟨hk, hq⟩ := hI
    refine AW.seq ?_
    refine AW.seq ?_
    refine AW.region ?_
    refine ARun.pure (PureOp.move rfl (.tmp rfl)) rfl rfl (Nat.le_of_ble_eq_true rfl) ?_
    refine ARun.pure (PureOp.move rfl (.tmp rfl)) rfl rfl (Nat.le_of_ble_eq_true rfl) ?_
    refine ARun.pure (PureOp.lenLst rfl (.tmp rfl) vz_sl_22) rfl rfl (Nat.le_of_ble_eq_true rfl) ?_
    refine ARun.pure (PureOp.intOp rfl (.tmp rfl) (.tmp rfl) rfl) rfl rfl (Nat.le_of_ble_eq_true rfl) ?_
    refine ARun.nil ?_
    refine AW.cond (.tmp rfl) (fun hb2 => ?_) (fun hb2 => ?_)
    · have _u := True.intro
      replace hb2 := of_decide_eq_true hb2
      have hlt : k < x.length := by omega
      refine AW.skip ?_
      refine AW.seq ?_
      refine AW.block ?_
      refine AW.seq ?_
      refine AW.region ?_
      refine ARun.pure (PureOp.move rfl (.tmp rfl)) rfl rfl (Nat.le_of_ble_eq_true rfl) ?_
      refine ARun.pure (PureOp.move rfl (.tmp rfl)) rfl rfl (Nat.le_of_ble_eq_true rfl) ?_
      refine ARun.pure (PureOp.indexLst (i := k) rfl (.tmp rfl) vz_el_22_2 (.tmp rfl) rfl (by omega)) rfl rfl (Nat.le_of_ble_eq_true rfl) ?_
      refine ARun.pure (PureOp.loadRefAgg rfl (.tmp rfl) vz_ag_103_2 (Nat.le_of_ble_eq_true rfl)) rfl rfl (Nat.le_of_ble_eq_true rfl) ?_
      refine ARun.pure (PureOp.move rfl (.tmp rfl)) rfl rfl (Nat.le_of_ble_eq_true rfl) ?_
      refine ARun.pure (PureOp.call rfl (v_szRow (x.getD k (default : GRow)) (left - (x.length : Int) - ((((x.take k).map wtRow).sum : Nat) : Int)) (by first | omega | (unfold szR at *; split at * <;> omega))) ⟨⟨_, (.tmp rfl), ⟨.str, .lst, trivial⟩⟩, ⟨_, (.tmp rfl), .int⟩, trivial⟩ vz_ca_68 trivial) rfl rfl (Nat.le_of_ble_eq_true rfl) ?_
      refine ARun.pure (PureOp.assign rfl (.tmp rfl)) rfl rfl (Nat.le_of_ble_eq_true rfl) ?_
      refine ARun.nil ?_
      refine AW.seq ?_
      refine AW.region ?_
      refine ARun.pure (PureOp.move rfl (.tmp rfl)) rfl rfl (Nat.le_of_ble_eq_true rfl) ?_
      refine ARun.pure (PureOp.intOp rfl (.tmp rfl) .int rfl) rfl rfl (Nat.le_of_ble_eq_true rfl) ?_
      refine ARun.nil ?_
      refine AW.cond (.tmp rfl) (fun hb3 => ?_) (fun hb3 => ?_)
      · have _u := True.intro
        replace hb3 := of_decide_eq_true hb3
        have hfin := szL_neg (f := wtRow) (d := (default : GRow)) hlt hq hb3
        refine AW.seq ?_
        refine AW.region ?_
        refine ARun.pure (PureOp.assign rfl .int) rfl rfl (Nat.le_of_ble_eq_true rfl) ?_
        refine ARun.nil ?_
        refine AW.ret (show ResL _ _ [.tmp 4] _ from resI rfl ?_)
        first | exact hfin | exact szL_end hlt hq | exact szL_big (by omega)
      · have _u := True.intro
        replace hb3 := of_decide_eq_false hb3
        obtain ⟨hs1, hs2⟩ := szL_next (f := wtRow) (d := (default : GRow)) hlt hq hb3
        refine AW.skip ?_
        refine AW.region ?_
        refine ARun.pure (PureOp.move rfl (.tmp rfl)) rfl rfl (Nat.le_of_ble_eq_true rfl) ?_
        refine ARun.pure (PureOp.add (c := ((k + 1 : Nat) : Int)) rfl (.tmp rfl) .int (by rw [wrap_id (by omega) (by omega)]; omega)) rfl rfl (Nat.le_of_ble_eq_true rfl) ?_
        refine ARun.pure (PureOp.assign rfl (.tmp rfl)) rfl rfl (Nat.le_of_ble_eq_true rfl) ?_
        refine ARun.nil ?_
        exact ⟨k + 1, ⟨by omega, hs1⟩, by dsimp only; omega, ⟨⟨⟨_, rfl, rfl⟩, ⟨_, rfl, congrArg (fun z => SV.one (.int .i64 z)) hs2⟩, ⟨_, rfl, rfl⟩, trivial⟩, trivial⟩⟩
    · have _u := True.intro
      replace hb2 := of_decide_eq_false hb2
      have hlt : ¬ k < x.length := by omega
      refine AW.exit ?_
      refine AW.seq ?_
      refine AW.region ?_
      refine ARun.pure (PureOp.move rfl (.tmp rfl)) rfl rfl (Nat.le_of_ble_eq_true rfl) ?_
      refine ARun.pure (PureOp.assign rfl (.tmp rfl)) rfl rfl (Nat.le_of_ble_eq_true rfl) ?_
      refine ARun.nil ?_
      refine AW.ret (show ResL _ _ [.tmp 4] _ from resI rfl ?_)
      first | exact hfin | exact szL_end hlt hq | exact szL_big (by omega)

theorem v_szHead (x : GHead) (left : Int) (hl : 0 ≤ left ∧ left ≤ 1048576) : Fn Try.prog 9 [.agg [.lst 2 x.rows.length (fun i0 j0 => ([.str ((x.rows.getD i0 (default : GRow)).name), .lst 2 (((x.rows.getD i0 (default : GRow)).samples).length) (fun i1 j1 => ([.int .i64 ((((x.rows.getD i0 (default : GRow)).samples).getD i1 (default : GSample)).at_), .int .i64 ((((x.rows.getD i0 (default : GRow)).samples).getD i1 (default : GSample)).value)] : List AV).getD j1 (.con undef))] : List AV).getD j0 (.con undef)), .int .i64 x.offset], .one (.int .i64 left)] (.one (.int .i64 (szR left (wtHead x)))) := by
  obtain ⟨h0, h1⟩ := hl
  refine Fn.of_body (fn := Try.f9) Try.func9 rfl (Nat.le_of_ble_eq_true rfl) trivial ?_
  intro w0
  show AW _ 12 _ _ _ _
  refine AW.seq ?_
  refine AW.region ?_
  refine ARun.box (id := 0) rfl (.tmp rfl) (SV.cells_of (by exact ⟨trivial, trivial, trivial⟩)) ⟨rfl, (by repeat first | exact trivial | refine ⟨by decide, by first | rfl | exact trivial | (intro i j; first | rfl | exact getD_no rfl | (dsimp only; split <;> first | rfl | exact getD_no rfl) | exact scl_no (by apply_assumption) _), ?_⟩)⟩ rfl rfl rfl (Nat.le_of_ble_eq_true rfl) ?_
  refine ARun.pure (PureOp.assign rfl .int) rfl rfl (Nat.le_of_ble_eq_true rfl) ?_
  refine ARun.nil ?_
  refine AW.seq ?_
  refine AW.region ?_
  refine ARun.pure (PureOp.fieldPtr rfl (.tmp rfl) vz_fi_24_0_0) rfl rfl (Nat.le_of_ble_eq_true rfl) ?_
  refine ARun.pure (PureOp.loadPtr rfl (.tmp rfl) vz_pl_22 rfl rfl (Nat.le_of_ble_eq_true rfl) (Nat.le_of_ble_eq_true rfl)) rfl rfl (Nat.le_of_ble_eq_true rfl) ?_
  refine ARun.pure (PureOp.move rfl (.tmp rfl)) rfl rfl (Nat.le_of_ble_eq_true rfl) ?_
  refine ARun.pure (PureOp.call rfl (v_szRowS x.rows left (by first | omega | (unfold szR at *; split at * <;> omega))) ⟨⟨_, (.tmp rfl), .lst⟩, ⟨_, (.tmp rfl), .int⟩, trivial⟩ vz_ca_41 trivial) rfl rfl (Nat.le_of_ble_eq_true rfl) ?_
  refine ARun.pure (PureOp.assign rfl (.tmp rfl)) rfl rfl (Nat.le_of_ble_eq_true rfl) ?_
  refine ARun.nil ?_
  refine AW.seq ?_
  refine AW.seq ?_
  refine AW.region ?_
  refine ARun.pure (PureOp.move rfl (.tmp rfl)) rfl rfl (Nat.le_of_ble_eq_true rfl) ?_
  refine ARun.pure (PureOp.intOp rfl (.tmp rfl) .int rfl) rfl rfl (Nat.le_of_ble_eq_true rfl) ?_
  refine ARun.nil ?_
  refine AW.cond (.tmp rfl) (fun hb1 => ?_) (fun hb1 => ?_)
  · have _u := True.intro
    replace hb1 := of_decide_eq_true hb1
    refine AW.seq ?_
    refine AW.region ?_
    refine ARun.pure (PureOp.assign rfl .int) rfl rfl (Nat.le_of_ble_eq_true rfl) ?_
    refine ARun.nil ?_
    refine AW.ret (show ResL _ _ [.tmp 4] _ from resI rfl ?_)
    unfold wtHead
    exact (szR_neg0 (by omega) hb1).symm
  · have _u := True.intro
    replace hb1 := of_decide_eq_false hb1
    obtain ⟨hs2, hs2b, hs2c⟩ := szR_ok (by omega) hb1
    refine AW.skip ?_
    refine AW.seq ?_
    refine AW.region ?_
    refine ARun.pure (PureOp.move rfl (.tmp rfl)) rfl rfl (Nat.le_of_ble_eq_true rfl) ?_
    refine ARun.pure (PureOp.assign rfl (.tmp rfl)) rfl rfl (Nat.le_of_ble_eq_true rfl) ?_
    refine ARun.nil ?_
    refine AW.ret (show ResL _ _ [.tmp 4] _ from resI rfl ?_)
    rfl

theorem v_szSay (x : GSay) (left : Int) (hl : 0 ≤ left ∧ left ≤ 1048576) : Fn Try.prog 23 [.agg [.str x.name, .int .i64 x.at_, .int .i64 x.value], .one (.int .i64 left)] (.one (.int .i64 (szR left (wtSay x)))) := by
  obtain ⟨h0, h1⟩ := hl
  have hU : ∀ (p : Int) (m : Nat), (szR p m < 0 ↔ p < m) := fun p m => by unfold szR; split <;> omega
  refine Fn.of_body (fn := Try.f23) Try.func23 rfl (Nat.le_of_ble_eq_true rfl) trivial ?_
  intro w0
  show AW _ 13 _ _ _ _
  refine AW.boundAS (t := 0) (j := 0) rfl rfl fun hbs0 => ?_
  refine AW.seq ?_
  refine AW.region ?_
  refine ARun.box (id := 0) rfl (.tmp rfl) (SV.cells_of (by exact ⟨trivial, trivial, trivial, trivial⟩)) ⟨rfl, (by repeat first | exact trivial | refine ⟨by decide, by first | rfl | exact trivial | (intro i j; first | rfl | exact getD_no rfl | (dsimp only; split <;> first | rfl | exact getD_no rfl) | exact scl_no (by apply_assumption) _), ?_⟩)⟩ rfl rfl rfl (Nat.le_of_ble_eq_true rfl) ?_
  refine ARun.pure (PureOp.assign rfl .int) rfl rfl (Nat.le_of_ble_eq_true rfl) ?_
  refine ARun.nil ?_
  refine AW.seq ?_
  refine AW.region ?_
  refine ARun.pure (PureOp.move rfl (.tmp rfl)) rfl rfl (Nat.le_of_ble_eq_true rfl) ?_
  refine ARun.pure (PureOp.fieldPtr rfl (.tmp rfl) vz_fi_44_0_0) rfl rfl (Nat.le_of_ble_eq_true rfl) ?_
  refine ARun.pure (PureOp.loadPtr rfl (.tmp rfl) vz_pl_9 rfl rfl (Nat.le_of_ble_eq_true rfl) (Nat.le_of_ble_eq_true rfl)) rfl rfl (Nat.le_of_ble_eq_true rfl) ?_
  refine ARun.pure (PureOp.lenStr rfl (.tmp rfl) vz_st_9) rfl rfl (Nat.le_of_ble_eq_true rfl) ?_
  refine ARun.pure (PureOp.sub (c := left - (x.name.size : Int)) rfl (.tmp rfl) (.tmp rfl) (wrap_id (by omega) (by omega))) rfl rfl (Nat.le_of_ble_eq_true rfl) ?_
  refine ARun.pure (PureOp.assign rfl (.tmp rfl)) rfl rfl (Nat.le_of_ble_eq_true rfl) ?_
  refine ARun.nil ?_
  refine AW.seq ?_
  refine AW.seq ?_
  refine AW.region ?_
  refine ARun.pure (PureOp.move rfl (.tmp rfl)) rfl rfl (Nat.le_of_ble_eq_true rfl) ?_
  refine ARun.pure (PureOp.intOp rfl (.tmp rfl) .int rfl) rfl rfl (Nat.le_of_ble_eq_true rfl) ?_
  refine ARun.nil ?_
  refine AW.cond (.tmp rfl) (fun hb1 => ?_) (fun hb1 => ?_)
  · have _u := True.intro
    replace hb1 := of_decide_eq_true hb1
    refine AW.seq ?_
    refine AW.region ?_
    refine ARun.pure (PureOp.assign rfl .int) rfl rfl (Nat.le_of_ble_eq_true rfl) ?_
    refine ARun.nil ?_
    refine AW.ret (show ResL _ _ [.tmp 4] _ from resI rfl ?_)
    unfold wtSay
    unfold szR at *; (repeat' split at *) <;> first | omega | (split <;> omega)
  · have _u := True.intro
    replace hb1 := of_decide_eq_false hb1
    refine AW.skip ?_
    refine AW.seq ?_
    refine AW.region ?_
    refine ARun.pure (PureOp.move rfl (.tmp rfl)) rfl rfl (Nat.le_of_ble_eq_true rfl) ?_
    refine ARun.pure (PureOp.assign rfl (.tmp rfl)) rfl rfl (Nat.le_of_ble_eq_true rfl) ?_
    refine ARun.nil ?_
    refine AW.ret (show ResL _ _ [.tmp 4] _ from resI rfl ?_)
    unfold wtSay
    unfold szR at *; (repeat' split at *) <;> first | omega | (split <;> omega)

theorem v_szSayS (x : List GSay) (left : Int) (hl : 0 ≤ left ∧ left ≤ 1048576) : Fn Try.prog 27 [.one (.lst 3 x.length (fun i0 j0 => ([.str ((x.getD i0 (default : GSay)).name), .int .i64 ((x.getD i0 (default : GSay)).at_), .int .i64 ((x.getD i0 (default : GSay)).value)] : List AV).getD j0 (.con undef))), .one (.int .i64 left)] (.one (.int .i64 (szR left (wtl wtSay x)))) := by
  obtain ⟨h0, h1⟩ := hl
  refine Fn.of_body (fn := Try.f27) Try.func27 rfl (Nat.le_of_ble_eq_true rfl) trivial ?_
  intro w0
  show AW _ 27 _ _ _ _
  refine AW.bound (t := 0) rfl fun hx => ?_
  refine AW.seq ?_
  refine AW.region ?_
  refine ARun.pure (PureOp.assign rfl .int) rfl rfl (Nat.le_of_ble_eq_true rfl) ?_
  refine ARun.nil ?_
  refine AW.seq ?_
  refine AW.region ?_
  refine ARun.pure (PureOp.move rfl (.tmp rfl)) rfl rfl (Nat.le_of_ble_eq_true rfl) ?_
  refine ARun.pure (PureOp.move rfl (.tmp rfl)) rfl rfl (Nat.le_of_ble_eq_true rfl) ?_
  refine ARun.pure (PureOp.lenLst rfl (.tmp rfl) vz_sl_50) rfl rfl (Nat.le_of_ble_eq_true rfl) ?_
  refine ARun.pure (PureOp.sub (c := left - (x.length : Int)) rfl (.tmp rfl) (.tmp rfl) (wrap_id (by omega) (by omega))) rfl rfl (Nat.le_of_ble_eq_true rfl) ?_
  refine ARun.pure (PureOp.assign rfl (.tmp rfl)) rfl rfl (Nat.le_of_ble_eq_true rfl) ?_
  refine ARun.nil ?_
  refine AW.seq ?_
  refine AW.seq ?_
  refine AW.region ?_
  refine ARun.pure (PureOp.move rfl (.tmp rfl)) rfl rfl (Nat.le_of_ble_eq_true rfl) ?_
  refine ARun.pure (PureOp.intOp rfl (.tmp rfl) .int rfl) rfl rfl (Nat.le_of_ble_eq_true rfl) ?_
  refine ARun.nil ?_
  refine AW.cond (.tmp rfl) (fun hb1 => ?_) (fun hb1 => ?_)
  · have _u := True.intro
    replace hb1 := of_decide_eq_true hb1
    refine AW.seq ?_
    refine AW.region ?_
    refine ARun.pure (PureOp.assign rfl .int) rfl rfl (Nat.le_of_ble_eq_true rfl) ?_
    refine ARun.nil ?_
    refine AW.ret (show ResL _ _ [.tmp 4] _ from resI rfl ?_)
    first | exact hfin | exact szL_end hlt hq | exact szL_big (by omega)
  · have _u := True.intro
    replace hb1 := of_decide_eq_false hb1
    refine AW.skip ?_
    refine AW.seq ?_
    refine AW.seq ?_
    refine AW.region ?_
    refine ARun.pure (PureOp.assign rfl .int) rfl rfl (Nat.le_of_ble_eq_true rfl) ?_
    refine ARun.nil ?_
    refine AW.block ?_
    refine AW.loop (ι := Nat) (fun k => ⟨[(0, .one (.lst 3 x.length (fun i0 j0 => ([.str ((x.getD i0 (default : GSay)).name), .int .i64 ((x.getD i0 (default : GSay)).at_), .int .i64 ((x.getD i0 (default : GSay)).value)] : List AV).getD j0 (.con undef)))), (1, .one (.int .i64 (left - (x.length : Int) - ((((x.take k).map wtSay).sum : Nat) : Int)))), (5, .one (.int .i64 (k : Int)))], []⟩) (fun k => k ≤ x.length ∧ 0 ≤ left - (x.length : Int) - ((((x.take k).map wtSay).sum : Nat) : Int)) (fun k => x.length - k) 0 ⟨Nat.zero_le _, by simp; omega⟩ ⟨⟨⟨_, rfl, rfl⟩, ⟨_, rfl, by simp⟩, ⟨_, rfl, rfl⟩, trivial⟩, trivial⟩ ?_
    intro k hI
    obtain ⟨hk, hq⟩ := hI
    refine AW.seq ?_
    refine AW.seq ?_
    refine AW.region ?_
    refine ARun.pure (PureOp.move rfl (.tmp rfl)) rfl rfl (Nat.le_of_ble_eq_true rfl) ?_
    refine ARun.pure (PureOp.move rfl (.tmp rfl)) rfl rfl (Nat.le_of_ble_eq_true rfl) ?_
    refine ARun.pure (PureOp.lenLst rfl (.tmp rfl) vz_sl_50) rfl rfl (Nat.le_of_ble_eq_true rfl) ?_
    refine ARun.pure (PureOp.intOp rfl (.tmp rfl) (.tmp rfl) rfl) rfl rfl (Nat.le_of_ble_eq_true rfl) ?_
    refine ARun.nil ?_
    refine AW.cond (.tmp rfl) (fun hb2 => ?_) (fun hb2 => ?_)
    · have _u := True.intro
      replace hb2 := of_decide_eq_true hb2
      have hlt : k < x.length := by omega
      refine AW.skip ?_
      refine AW.seq ?_
      refine AW.block ?_
      refine AW.seq ?_
      refine AW.region ?_
      refine ARun.pure (PureOp.move rfl (.tmp rfl)) rfl rfl (Nat.le_of_ble_eq_true rfl) ?_
      refine ARun.pure (PureOp.move rfl (.tmp rfl)) rfl rfl (Nat.le_of_ble_eq_true rfl) ?_
      refine ARun.pure (PureOp.indexLst (i := k) rfl (.tmp rfl) vz_el_50_3 (.tmp rfl) rfl (by omega)) rfl rfl (Nat.le_of_ble_eq_true rfl) ?_
      refine ARun.pure (PureOp.loadRefAgg rfl (.tmp rfl) vz_ag_44_3 (Nat.le_of_ble_eq_true rfl)) rfl rfl (Nat.le_of_ble_eq_true rfl) ?_
      refine ARun.pure (PureOp.move rfl (.tmp rfl)) rfl rfl (Nat.le_of_ble_eq_true rfl) ?_
      refine ARun.pure (PureOp.call rfl (v_szSay (x.getD k (default : GSay)) (left - (x.length : Int) - ((((x.take k).map wtSay).sum : Nat) : Int)) (by first | omega | (unfold szR at *; split at * <;> omega))) ⟨⟨_, (.tmp rfl), ⟨.str, .int, .int, trivial⟩⟩, ⟨_, (.tmp rfl), .int⟩, trivial⟩ vz_ca_23 trivial) rfl rfl (Nat.le_of_ble_eq_true rfl) ?_
      refine ARun.pure (PureOp.assign rfl (.tmp rfl)) rfl rfl (Nat.le_of_ble_eq_true rfl) ?_
      refine ARun.nil ?_
      refine AW.seq ?_
      refine AW.region ?_
      refine ARun.pure (PureOp.move rfl (.tmp rfl)) rfl rfl (Nat.le_of_ble_eq_true rfl) ?_
      refine ARun.pure (PureOp.intOp rfl (.tmp rfl) .int rfl) rfl rfl (Nat.le_of_ble_eq_true rfl) ?_
      refine ARun.nil ?_
      refine AW.cond (.tmp rfl) (fun hb3 => ?_) (fun hb3 => ?_)
      · have _u := True.intro
        replace hb3 := of_decide_eq_true hb3
        have hfin := szL_neg (f := wtSay) (d := (default : GSay)) hlt hq hb3
        refine AW.seq ?_
        refine AW.region ?_
        refine ARun.pure (PureOp.assign rfl .int) rfl rfl (Nat.le_of_ble_eq_true rfl) ?_
        refine ARun.nil ?_
        refine AW.ret (show ResL _ _ [.tmp 4] _ from resI rfl ?_)
        first | exact hfin | exact szL_end hlt hq | exact szL_big (by omega)
      · have _u := True.intro
        replace hb3 := of_decide_eq_false hb3
        obtain ⟨hs1, hs2⟩ := szL_next (f := wtSay) (d := (default : GSay)) hlt hq hb3
        refine AW.skip ?_
        refine AW.region ?_
        refine ARun.pure (PureOp.move rfl (.tmp rfl)) rfl rfl (Nat.le_of_ble_eq_true rfl) ?_
        refine ARun.pure (PureOp.add (c := ((k + 1 : Nat) : Int)) rfl (.tmp rfl) .int (by rw [wrap_id (by omega) (by omega)]; omega)) rfl rfl (Nat.le_of_ble_eq_true rfl) ?_
        refine ARun.pure (PureOp.assign rfl (.tmp rfl)) rfl rfl (Nat.le_of_ble_eq_true rfl) ?_
        refine ARun.nil ?_
        exact ⟨k + 1, ⟨by omega, hs1⟩, by dsimp only; omega, ⟨⟨⟨_, rfl, rfl⟩, ⟨_, rfl, congrArg (fun z => SV.one (.int .i64 z)) hs2⟩, ⟨_, rfl, rfl⟩, trivial⟩, trivial⟩⟩
    · have _u := True.intro
      replace hb2 := of_decide_eq_false hb2
      have hlt : ¬ k < x.length := by omega
      refine AW.exit ?_
      refine AW.seq ?_
      refine AW.region ?_
      refine ARun.pure (PureOp.move rfl (.tmp rfl)) rfl rfl (Nat.le_of_ble_eq_true rfl) ?_
      refine ARun.pure (PureOp.assign rfl (.tmp rfl)) rfl rfl (Nat.le_of_ble_eq_true rfl) ?_
      refine ARun.nil ?_
      refine AW.ret (show ResL _ _ [.tmp 4] _ from resI rfl ?_)
      first | exact hfin | exact szL_end hlt hq | exact szL_big (by omega)
end Go.Proofs.Ytmfkmifkkplidaa


/-
  The laws' own comparisons (eq) over the data of this seat.
-/
namespace Go.Proofs.Ytmfkmifkkplidaa
open Go.ChangeShapes Go.WideShapes Go.ChangeAt Go.RowKit Go.BigFrame Go.Deep
set_option linter.unusedVariables false
set_option linter.unusedSimpArgs false
theorem ve_ag_47_3 : aggB Try.prog 47 3 = true := by kernel_rfl
theorem ve_ag_67_2 : aggB Try.prog 67 2 = true := by kernel_rfl
theorem ve_ag_81_2 : aggB Try.prog 81 2 = true := by kernel_rfl
theorem ve_ca_16 : callB Try.prog 16 = true := by kernel_rfl
theorem ve_ca_47 : callB Try.prog 47 = true := by kernel_rfl
theorem ve_ca_50 : callB Try.prog 50 = true := by kernel_rfl
theorem ve_ca_62 : callB Try.prog 62 = true := by kernel_rfl
theorem ve_ca_73 : callB Try.prog 73 = true := by kernel_rfl
theorem ve_el_27_2 : elemB Try.prog 27 2 = true := by kernel_rfl
theorem ve_el_33_2 : elemB Try.prog 33 2 = true := by kernel_rfl
theorem ve_el_52_1 : elemB Try.prog 52 1 = true := by kernel_rfl
theorem ve_el_55_3 : elemB Try.prog 55 3 = true := by kernel_rfl
theorem ve_fi_29_0_0 : fieldB Try.prog 29 0 0 = true := by kernel_rfl
theorem ve_fi_29_1_1 : fieldB Try.prog 29 1 1 = true := by kernel_rfl
theorem ve_fi_47_0_0 : fieldB Try.prog 47 0 0 = true := by kernel_rfl
theorem ve_fi_47_1_1 : fieldB Try.prog 47 1 1 = true := by kernel_rfl
theorem ve_fi_47_2_2 : fieldB Try.prog 47 2 2 = true := by kernel_rfl
theorem ve_fi_67_0_0 : fieldB Try.prog 67 0 0 = true := by kernel_rfl
theorem ve_fi_67_1_1 : fieldB Try.prog 67 1 1 = true := by kernel_rfl
theorem ve_fi_81_0_0 : fieldB Try.prog 81 0 0 = true := by kernel_rfl
theorem ve_fi_81_1_1 : fieldB Try.prog 81 1 1 = true := by kernel_rfl
theorem ve_pl_27 : plainB Try.prog 27 = true := by kernel_rfl
theorem ve_pl_3 : plainB Try.prog 3 = true := by kernel_rfl
theorem ve_pl_33 : plainB Try.prog 33 = true := by kernel_rfl
theorem ve_pl_9 : plainB Try.prog 9 = true := by kernel_rfl
theorem ve_sl_27 : sliceB Try.prog 27 = true := by kernel_rfl
theorem ve_sl_33 : sliceB Try.prog 33 = true := by kernel_rfl
theorem ve_sl_52 : sliceB Try.prog 52 = true := by kernel_rfl
theorem ve_sl_55 : sliceB Try.prog 55 = true := by kernel_rfl
theorem v_eqSample (x y : GSample) : Fn Try.prog 50 [.agg [.int .i64 x.at_, .int .i64 x.value], .agg [.int .i64 y.at_, .int .i64 y.value]] (.one (.bool (decide (x = y)))) := by
  refine Fn.of_body (fn := Try.f50) Try.func50 rfl (Nat.le_of_ble_eq_true rfl) trivial ?_
  intro w0
  show AW _ 15 _ _ _ _
  refine AW.seq ?_
  refine AW.region ?_
  refine ARun.box (id := 0) rfl (.tmp rfl) (SV.cells_of (by exact ⟨trivial, trivial, trivial⟩)) ⟨rfl, (by repeat first | exact trivial | refine ⟨by decide, by first | rfl | exact trivial | (intro i j; first | rfl | exact getD_no rfl | (dsimp only; split <;> first | rfl | exact getD_no rfl) | exact scl_no (by apply_assumption) _), ?_⟩)⟩ rfl rfl rfl (Nat.le_of_ble_eq_true rfl) ?_
  refine ARun.box (id := 1) rfl (.tmp rfl) (SV.cells_of (by exact ⟨trivial, trivial, trivial⟩)) ⟨rfl, (by repeat first | exact trivial | refine ⟨by decide, by first | rfl | exact trivial | (intro i j; first | rfl | exact getD_no rfl | (dsimp only; split <;> first | rfl | exact getD_no rfl) | exact scl_no (by apply_assumption) _), ?_⟩)⟩ rfl rfl rfl (Nat.le_of_ble_eq_true rfl) ?_
  refine ARun.pure (PureOp.assign rfl .bool) rfl rfl (Nat.le_of_ble_eq_true rfl) ?_
  refine ARun.nil ?_
  refine AW.seq ?_
  refine AW.seq ?_
  refine AW.region ?_
  refine ARun.pure (PureOp.fieldPtr rfl (.tmp rfl) ve_fi_81_0_0) rfl rfl (Nat.le_of_ble_eq_true rfl) ?_
  refine ARun.pure (PureOp.loadPtr rfl (.tmp rfl) ve_pl_3 rfl rfl (Nat.le_of_ble_eq_true rfl) (Nat.le_of_ble_eq_true rfl)) rfl rfl (Nat.le_of_ble_eq_true rfl) ?_
  refine ARun.pure (PureOp.fieldPtr rfl (.tmp rfl) ve_fi_81_0_0) rfl rfl (Nat.le_of_ble_eq_true rfl) ?_
  refine ARun.pure (PureOp.loadPtr rfl (.tmp rfl) ve_pl_3 rfl rfl (Nat.le_of_ble_eq_true rfl) (Nat.le_of_ble_eq_true rfl)) rfl rfl (Nat.le_of_ble_eq_true rfl) ?_
  refine ARun.pure (PureOp.intOp rfl (.tmp rfl) (.tmp rfl) rfl) rfl rfl (Nat.le_of_ble_eq_true rfl) ?_
  refine ARun.nil ?_
  refine AW.cond (.tmp rfl) (fun hb1 => ?_) (fun hb1 => ?_)
  · have _u := True.intro
    replace hb1 := of_decide_eq_false (of_not hb1)
    refine AW.seq ?_
    refine AW.region ?_
    refine ARun.pure (PureOp.assign rfl .bool) rfl rfl (Nat.le_of_ble_eq_true rfl) ?_
    refine ARun.nil ?_
    refine AW.ret (show ResL _ _ [.tmp 4] _ from resB rfl ?_)
    exact (decide_eq_false (fun e => hb1 (by rw [e]))).symm
  · have _u := True.intro
    replace hb1 := of_decide_eq_true (not_f hb1)
    refine AW.skip ?_
    refine AW.seq ?_
    refine AW.seq ?_
    refine AW.region ?_
    refine ARun.pure (PureOp.fieldPtr rfl (.tmp rfl) ve_fi_81_1_1) rfl rfl (Nat.le_of_ble_eq_true rfl) ?_
    refine ARun.pure (PureOp.loadPtr rfl (.tmp rfl) ve_pl_3 rfl rfl (Nat.le_of_ble_eq_true rfl) (Nat.le_of_ble_eq_true rfl)) rfl rfl (Nat.le_of_ble_eq_true rfl) ?_
    refine ARun.pure (PureOp.fieldPtr rfl (.tmp rfl) ve_fi_81_1_1) rfl rfl (Nat.le_of_ble_eq_true rfl) ?_
    refine ARun.pure (PureOp.loadPtr rfl (.tmp rfl) ve_pl_3 rfl rfl (Nat.le_of_ble_eq_true rfl) (Nat.le_of_ble_eq_true rfl)) rfl rfl (Nat.le_of_ble_eq_true rfl) ?_
    refine ARun.pure (PureOp.intOp rfl (.tmp rfl) (.tmp rfl) rfl) rfl rfl (Nat.le_of_ble_eq_true rfl) ?_
    refine ARun.nil ?_
    refine AW.cond (.tmp rfl) (fun hb2 => ?_) (fun hb2 => ?_)
    · have _u := True.intro
      replace hb2 := of_decide_eq_false (of_not hb2)
      refine AW.seq ?_
      refine AW.region ?_
      refine ARun.pure (PureOp.assign rfl .bool) rfl rfl (Nat.le_of_ble_eq_true rfl) ?_
      refine ARun.nil ?_
      refine AW.ret (show ResL _ _ [.tmp 4] _ from resB rfl ?_)
      exact (decide_eq_false (fun e => hb2 (by rw [e]))).symm
    · have _u := True.intro
      replace hb2 := of_decide_eq_true (not_f hb2)
      refine AW.skip ?_
      refine AW.seq ?_
      refine AW.region ?_
      refine ARun.pure (PureOp.assign rfl .bool) rfl rfl (Nat.le_of_ble_eq_true rfl) ?_
      refine ARun.nil ?_
      refine AW.ret (show ResL _ _ [.tmp 4] _ from resB rfl ?_)
      exact (decide_eq_true (by cases x; cases y; simp_all)).symm

theorem v_eqSampleS (x y : List GSample) : Fn Try.prog 16 [.one (.lst 2 x.length (fun i0 j0 => ([.int .i64 ((x.getD i0 (default : GSample)).at_), .int .i64 ((x.getD i0 (default : GSample)).value)] : List AV).getD j0 (.con undef))), .one (.lst 2 y.length (fun i0 j0 => ([.int .i64 ((y.getD i0 (default : GSample)).at_), .int .i64 ((y.getD i0 (default : GSample)).value)] : List AV).getD j0 (.con undef)))] (.one (.bool (decide (x = y)))) := by
  refine Fn.of_body (fn := Try.f16) Try.func16 rfl (Nat.le_of_ble_eq_true rfl) trivial ?_
  intro w0
  show AW _ 27 _ _ _ _
  refine AW.bound (t := 0) rfl fun hx => ?_
  refine AW.seq ?_
  refine AW.region ?_
  refine ARun.pure (PureOp.assign rfl .bool) rfl rfl (Nat.le_of_ble_eq_true rfl) ?_
  refine ARun.nil ?_
  refine AW.seq ?_
  refine AW.seq ?_
  refine AW.region ?_
  refine ARun.pure (PureOp.move rfl (.tmp rfl)) rfl rfl (Nat.le_of_ble_eq_true rfl) ?_
  refine ARun.pure (PureOp.lenLst rfl (.tmp rfl) ve_sl_33) rfl rfl (Nat.le_of_ble_eq_true rfl) ?_
  refine ARun.pure (PureOp.move rfl (.tmp rfl)) rfl rfl (Nat.le_of_ble_eq_true rfl) ?_
  refine ARun.pure (PureOp.lenLst rfl (.tmp rfl) ve_sl_33) rfl rfl (Nat.le_of_ble_eq_true rfl) ?_
  refine ARun.pure (PureOp.intOp rfl (.tmp rfl) (.tmp rfl) rfl) rfl rfl (Nat.le_of_ble_eq_true rfl) ?_
  refine ARun.nil ?_
  refine AW.cond (.tmp rfl) (fun hb1 => ?_) (fun hb1 => ?_)
  · have _u := True.intro
    replace hb1 := of_decide_eq_false (of_not hb1)
    refine AW.seq ?_
    refine AW.region ?_
    refine ARun.pure (PureOp.assign rfl .bool) rfl rfl (Nat.le_of_ble_eq_true rfl) ?_
    refine ARun.nil ?_
    refine AW.ret (show ResL _ _ [.tmp 4] _ from resB rfl ?_)
    exact (decide_eq_false (fun e => by rw [e] at hb1; omega)).symm
  · have _u := True.intro
    replace hb1 := of_decide_eq_true (not_f hb1)
    refine AW.skip ?_
    refine AW.seq ?_
    refine AW.seq ?_
    refine AW.region ?_
    refine ARun.pure (PureOp.assign rfl .int) rfl rfl (Nat.le_of_ble_eq_true rfl) ?_
    refine ARun.nil ?_
    refine AW.block ?_
    refine AW.loop (ι := Nat) (fun k => ⟨[(0, .one (.lst 2 x.length (fun i0 j0 => ([.int .i64 ((x.getD i0 (default : GSample)).at_), .int .i64 ((x.getD i0 (default : GSample)).value)] : List AV).getD j0 (.con undef)))), (1, .one (.lst 2 y.length (fun i0 j0 => ([.int .i64 ((y.getD i0 (default : GSample)).at_), .int .i64 ((y.getD i0 (default : GSample)).value)] : List AV).getD j0 (.con undef)))), (5, .one (.int .i64 (k : Int)))], []⟩) (fun k => k ≤ x.length ∧ x.take k = y.take k) (fun k => x.length - k) 0 ⟨Nat.zero_le _, rfl⟩ ⟨⟨⟨_, rfl, rfl⟩, ⟨_, rfl, rfl⟩, ⟨_, rfl, rfl⟩, trivial⟩, trivial⟩ ?_
    intro k hI
    obtain ⟨hk, hq⟩ := hI
    refine AW.seq ?_
    refine AW.seq ?_
    refine AW.region ?_
    refine ARun.pure (PureOp.move rfl (.tmp rfl)) rfl rfl (Nat.le_of_ble_eq_true rfl) ?_
    refine ARun.pure (PureOp.move rfl (.tmp rfl)) rfl rfl (Nat.le_of_ble_eq_true rfl) ?_
    refine ARun.pure (PureOp.lenLst rfl (.tmp rfl) ve_sl_33) rfl rfl (Nat.le_of_ble_eq_true rfl) ?_
    refine ARun.pure (PureOp.intOp rfl (.tmp rfl) (.tmp rfl) rfl) rfl rfl (Nat.le_of_ble_eq_true rfl) ?_
    refine ARun.nil ?_
    refine AW.cond (.tmp rfl) (fun hb2 => ?_) (fun hb2 => ?_)
    · have _u := True.intro
      replace hb2 := of_decide_eq_true hb2
      have hlt : k < x.length := by omega
      have hlt2 : k < y.length := by omega
      refine AW.skip ?_
      refine AW.seq ?_
      refine AW.block ?_
      refine AW.seq ?_
      refine AW.any (by kernel_rfl) (by kernel_rfl) ?_
      refine AD.pure (PureOp.move rfl (.tmp rfl)) rfl rfl (Nat.le_of_ble_eq_true rfl) ?_
      refine AD.pure (PureOp.move rfl (.tmp rfl)) rfl rfl (Nat.le_of_ble_eq_true rfl) ?_
      refine AD.pure (PureOp.indexLst (i := k) rfl (.tmp rfl) ve_el_33_2 (.tmp rfl) rfl (by omega)) rfl rfl (Nat.le_of_ble_eq_true rfl) ?_
      refine AD.pure (PureOp.loadRefAgg rfl (.tmp rfl) ve_ag_81_2 (Nat.le_of_ble_eq_true rfl)) rfl rfl (Nat.le_of_ble_eq_true rfl) ?_
      refine AD.pure (PureOp.move rfl (.tmp rfl)) rfl rfl (Nat.le_of_ble_eq_true rfl) ?_
      refine AD.pure (PureOp.move rfl (.tmp rfl)) rfl rfl (Nat.le_of_ble_eq_true rfl) ?_
      refine AD.pure (PureOp.indexLst (i := k) rfl (.tmp rfl) ve_el_33_2 (.tmp rfl) rfl (by omega)) rfl rfl (Nat.le_of_ble_eq_true rfl) ?_
      refine AD.pure (PureOp.loadRefAgg rfl (.tmp rfl) ve_ag_81_2 (Nat.le_of_ble_eq_true rfl)) rfl rfl (Nat.le_of_ble_eq_true rfl) ?_
      refine AD.pure (PureOp.call rfl (v_eqSample (x.getD k (default : GSample)) (y.getD k (default : GSample))) ⟨⟨_, (.tmp rfl), ⟨.int, .int, trivial⟩⟩, ⟨_, (.tmp rfl), ⟨.int, .int, trivial⟩⟩, trivial⟩ ve_ca_50 trivial) rfl rfl (Nat.le_of_ble_eq_true rfl) ?_
      refine AD.pure (PureOp.not rfl (.tmp rfl)) rfl rfl (Nat.le_of_ble_eq_true rfl) ?_
      refine AD.nil ?_
      refine AW.cond (.tmp rfl) (fun hb3 => ?_) (fun hb3 => ?_)
      · have _u := True.intro
        replace hb3 := of_decide_eq_false (of_not hb3)
        refine AW.seq ?_
        refine AW.region ?_
        refine ARun.pure (PureOp.assign rfl .bool) rfl rfl (Nat.le_of_ble_eq_true rfl) ?_
        refine ARun.nil ?_
        refine AW.ret (show ResL _ _ [.tmp 4] _ from resB rfl ?_)
        exact (decide_eq_false (fun e => hb3 (by rw [e]))).symm
      · have _u := True.intro
        replace hb3 := of_decide_eq_true (not_f hb3)
        refine AW.skip ?_
        refine AW.region ?_
        refine ARun.pure (PureOp.move rfl (.tmp rfl)) rfl rfl (Nat.le_of_ble_eq_true rfl) ?_
        refine ARun.pure (PureOp.add (c := ((k + 1 : Nat) : Int)) rfl (.tmp rfl) .int (by rw [wrap_id (by omega) (by omega)]; omega)) rfl rfl (Nat.le_of_ble_eq_true rfl) ?_
        refine ARun.pure (PureOp.assign rfl (.tmp rfl)) rfl rfl (Nat.le_of_ble_eq_true rfl) ?_
        refine ARun.nil ?_
        exact ⟨k + 1, ⟨by omega, take_next (default : GSample) hlt (by omega) hq hb3⟩, by dsimp only; omega, ⟨⟨⟨_, rfl, rfl⟩, ⟨_, rfl, rfl⟩, ⟨_, rfl, rfl⟩, trivial⟩, trivial⟩⟩
    · have _u := True.intro
      replace hb2 := of_decide_eq_false hb2
      have hlt : ¬ k < x.length := by omega
      refine AW.exit ?_
      refine AW.seq ?_
      refine AW.region ?_
      refine ARun.pure (PureOp.assign rfl .bool) rfl rfl (Nat.le_of_ble_eq_true rfl) ?_
      refine ARun.nil ?_
      refine AW.ret (show ResL _ _ [.tmp 4] _ from resB rfl ?_)
      exact (decide_eq_true (eqL_yes hlt (by omega) hq)).symm

theorem v_eqRow (x y : GRow) : Fn Try.prog 73 [.agg [.str x.name, .lst 2 x.samples.length (fun i0 j0 => ([.int .i64 ((x.samples.getD i0 (default : GSample)).at_), .int .i64 ((x.samples.getD i0 (default : GSample)).value)] : List AV).getD j0 (.con undef))], .agg [.str y.name, .lst 2 y.samples.length (fun i0 j0 => ([.int .i64 ((y.samples.getD i0 (default : GSample)).at_), .int .i64 ((y.samples.getD i0 (default : GSample)).value)] : List AV).getD j0 (.con undef))]] (.one (.bool (decide (x = y)))) := by
  refine Fn.of_body (fn := Try.f73) Try.func73 rfl (Nat.le_of_ble_eq_true rfl) trivial ?_
  intro w0
  show AW _ 16 _ _ _ _
  refine AW.seq ?_
  refine AW.region ?_
  refine ARun.box (id := 0) rfl (.tmp rfl) (SV.cells_of (by exact ⟨trivial, trivial, trivial⟩)) ⟨rfl, (by repeat first | exact trivial | refine ⟨by decide, by first | rfl | exact trivial | (intro i j; first | rfl | exact getD_no rfl | (dsimp only; split <;> first | rfl | exact getD_no rfl) | exact scl_no (by apply_assumption) _), ?_⟩)⟩ rfl rfl rfl (Nat.le_of_ble_eq_true rfl) ?_
  refine ARun.box (id := 1) rfl (.tmp rfl) (SV.cells_of (by exact ⟨trivial, trivial, trivial⟩)) ⟨rfl, (by repeat first | exact trivial | refine ⟨by decide, by first | rfl | exact trivial | (intro i j; first | rfl | exact getD_no rfl | (dsimp only; split <;> first | rfl | exact getD_no rfl) | exact scl_no (by apply_assumption) _), ?_⟩)⟩ rfl rfl rfl (Nat.le_of_ble_eq_true rfl) ?_
  refine ARun.pure (PureOp.assign rfl .bool) rfl rfl (Nat.le_of_ble_eq_true rfl) ?_
  refine ARun.nil ?_
  refine AW.seq ?_
  refine AW.seq ?_
  refine AW.region ?_
  refine ARun.pure (PureOp.fieldPtr rfl (.tmp rfl) ve_fi_67_0_0) rfl rfl (Nat.le_of_ble_eq_true rfl) ?_
  refine ARun.pure (PureOp.loadPtr rfl (.tmp rfl) ve_pl_9 rfl rfl (Nat.le_of_ble_eq_true rfl) (Nat.le_of_ble_eq_true rfl)) rfl rfl (Nat.le_of_ble_eq_true rfl) ?_
  refine ARun.pure (PureOp.fieldPtr rfl (.tmp rfl) ve_fi_67_0_0) rfl rfl (Nat.le_of_ble_eq_true rfl) ?_
  refine ARun.pure (PureOp.loadPtr rfl (.tmp rfl) ve_pl_9 rfl rfl (Nat.le_of_ble_eq_true rfl) (Nat.le_of_ble_eq_true rfl)) rfl rfl (Nat.le_of_ble_eq_true rfl) ?_
  refine ARun.pure (PureOp.strOp rfl (.tmp rfl) (.tmp rfl) rfl) rfl rfl (Nat.le_of_ble_eq_true rfl) ?_
  refine ARun.nil ?_
  refine AW.cond (.tmp rfl) (fun hb1 => ?_) (fun hb1 => ?_)
  · have _u := True.intro
    replace hb1 := of_decide_eq_false (of_not hb1)
    refine AW.seq ?_
    refine AW.region ?_
    refine ARun.pure (PureOp.assign rfl .bool) rfl rfl (Nat.le_of_ble_eq_true rfl) ?_
    refine ARun.nil ?_
    refine AW.ret (show ResL _ _ [.tmp 4] _ from resB rfl ?_)
    exact (decide_eq_false (fun e => hb1 (by rw [e]))).symm
  · have _u := True.intro
    replace hb1 := of_decide_eq_true (not_f hb1)
    refine AW.skip ?_
    refine AW.seq ?_
    refine AW.seq ?_
    refine AW.region ?_
    refine ARun.pure (PureOp.fieldPtr rfl (.tmp rfl) ve_fi_67_1_1) rfl rfl (Nat.le_of_ble_eq_true rfl) ?_
    refine ARun.pure (PureOp.loadPtr rfl (.tmp rfl) ve_pl_33 rfl rfl (Nat.le_of_ble_eq_true rfl) (Nat.le_of_ble_eq_true rfl)) rfl rfl (Nat.le_of_ble_eq_true rfl) ?_
    refine ARun.pure (PureOp.fieldPtr rfl (.tmp rfl) ve_fi_67_1_1) rfl rfl (Nat.le_of_ble_eq_true rfl) ?_
    refine ARun.pure (PureOp.loadPtr rfl (.tmp rfl) ve_pl_33 rfl rfl (Nat.le_of_ble_eq_true rfl) (Nat.le_of_ble_eq_true rfl)) rfl rfl (Nat.le_of_ble_eq_true rfl) ?_
    refine ARun.pure (PureOp.call rfl (v_eqSampleS x.samples y.samples) ⟨⟨_, (.tmp rfl), .lst⟩, ⟨_, (.tmp rfl), .lst⟩, trivial⟩ ve_ca_16 trivial) rfl rfl (Nat.le_of_ble_eq_true rfl) ?_
    refine ARun.pure (PureOp.not rfl (.tmp rfl)) rfl rfl (Nat.le_of_ble_eq_true rfl) ?_
    refine ARun.nil ?_
    refine AW.cond (.tmp rfl) (fun hb2 => ?_) (fun hb2 => ?_)
    · have _u := True.intro
      replace hb2 := of_decide_eq_false (of_not hb2)
      refine AW.seq ?_
      refine AW.region ?_
      refine ARun.pure (PureOp.assign rfl .bool) rfl rfl (Nat.le_of_ble_eq_true rfl) ?_
      refine ARun.nil ?_
      refine AW.ret (show ResL _ _ [.tmp 4] _ from resB rfl ?_)
      exact (decide_eq_false (fun e => hb2 (by rw [e]))).symm
    · have _u := True.intro
      replace hb2 := of_decide_eq_true (not_f hb2)
      refine AW.skip ?_
      refine AW.seq ?_
      refine AW.region ?_
      refine ARun.pure (PureOp.assign rfl .bool) rfl rfl (Nat.le_of_ble_eq_true rfl) ?_
      refine ARun.nil ?_
      refine AW.ret (show ResL _ _ [.tmp 4] _ from resB rfl ?_)
      exact (decide_eq_true (by cases x; cases y; simp_all)).symm

theorem v_eqRowS (x y : List GRow) : Fn Try.prog 47 [.one (.lst 2 x.length (fun i0 j0 => ([.str ((x.getD i0 (default : GRow)).name), .lst 2 (((x.getD i0 (default : GRow)).samples).length) (fun i1 j1 => ([.int .i64 ((((x.getD i0 (default : GRow)).samples).getD i1 (default : GSample)).at_), .int .i64 ((((x.getD i0 (default : GRow)).samples).getD i1 (default : GSample)).value)] : List AV).getD j1 (.con undef))] : List AV).getD j0 (.con undef))), .one (.lst 2 y.length (fun i0 j0 => ([.str ((y.getD i0 (default : GRow)).name), .lst 2 (((y.getD i0 (default : GRow)).samples).length) (fun i1 j1 => ([.int .i64 ((((y.getD i0 (default : GRow)).samples).getD i1 (default : GSample)).at_), .int .i64 ((((y.getD i0 (default : GRow)).samples).getD i1 (default : GSample)).value)] : List AV).getD j1 (.con undef))] : List AV).getD j0 (.con undef)))] (.one (.bool (decide (x = y)))) := by
  refine Fn.of_body (fn := Try.f47) Try.func47 rfl (Nat.le_of_ble_eq_true rfl) trivial ?_
  intro w0
  show AW _ 27 _ _ _ _
  refine AW.bound (t := 0) rfl fun hx => ?_
  refine AW.seq ?_
  refine AW.region ?_
  refine ARun.pure (PureOp.assign rfl .bool) rfl rfl (Nat.le_of_ble_eq_true rfl) ?_
  refine ARun.nil ?_
  refine AW.seq ?_
  refine AW.seq ?_
  refine AW.region ?_
  refine ARun.pure (PureOp.move rfl (.tmp rfl)) rfl rfl (Nat.le_of_ble_eq_true rfl) ?_
  refine ARun.pure (PureOp.lenLst rfl (.tmp rfl) ve_sl_27) rfl rfl (Nat.le_of_ble_eq_true rfl) ?_
  refine ARun.pure (PureOp.move rfl (.tmp rfl)) rfl rfl (Nat.le_of_ble_eq_true rfl) ?_
  refine ARun.pure (PureOp.lenLst rfl (.tmp rfl) ve_sl_27) rfl rfl (Nat.le_of_ble_eq_true rfl) ?_
  refine ARun.pure (PureOp.intOp rfl (.tmp rfl) (.tmp rfl) rfl) rfl rfl (Nat.le_of_ble_eq_true rfl) ?_
  refine ARun.nil ?_
  refine AW.cond (.tmp rfl) (fun hb1 => ?_) (fun hb1 => ?_)
  · have _u := True.intro
    replace hb1 := of_decide_eq_false (of_not hb1)
    refine AW.seq ?_
    refine AW.region ?_
    refine ARun.pure (PureOp.assign rfl .bool) rfl rfl (Nat.le_of_ble_eq_true rfl) ?_
    refine ARun.nil ?_
    refine AW.ret (show ResL _ _ [.tmp 4] _ from resB rfl ?_)
    exact (decide_eq_false (fun e => by rw [e] at hb1; omega)).symm
  · have _u := True.intro
    replace hb1 := of_decide_eq_true (not_f hb1)
    refine AW.skip ?_
    refine AW.seq ?_
    refine AW.seq ?_
    refine AW.region ?_
    refine ARun.pure (PureOp.assign rfl .int) rfl rfl (Nat.le_of_ble_eq_true rfl) ?_
    refine ARun.nil ?_
    refine AW.block ?_
    refine AW.loop (ι := Nat) (fun k => ⟨[(0, .one (.lst 2 x.length (fun i0 j0 => ([.str ((x.getD i0 (default : GRow)).name), .lst 2 (((x.getD i0 (default : GRow)).samples).length) (fun i1 j1 => ([.int .i64 ((((x.getD i0 (default : GRow)).samples).getD i1 (default : GSample)).at_), .int .i64 ((((x.getD i0 (default : GRow)).samples).getD i1 (default : GSample)).value)] : List AV).getD j1 (.con undef))] : List AV).getD j0 (.con undef)))), (1, .one (.lst 2 y.length (fun i0 j0 => ([.str ((y.getD i0 (default : GRow)).name), .lst 2 (((y.getD i0 (default : GRow)).samples).length) (fun i1 j1 => ([.int .i64 ((((y.getD i0 (default : GRow)).samples).getD i1 (default : GSample)).at_), .int .i64 ((((y.getD i0 (default : GRow)).samples).getD i1 (default : GSample)).value)] : List AV).getD j1 (.con undef))] : List AV).getD j0 (.con undef)))), (5, .one (.int .i64 (k : Int)))], []⟩) (fun k => k ≤ x.length ∧ x.take k = y.take k) (fun k => x.length - k) 0 ⟨Nat.zero_le _, rfl⟩ ⟨⟨⟨_, rfl, rfl⟩, ⟨_, rfl, rfl⟩, ⟨_, rfl, rfl⟩, trivial⟩, trivial⟩ ?_
    intro k hI
    obtain ⟨hk, hq⟩ := hI
    refine AW.seq ?_
    refine AW.seq ?_
    refine AW.region ?_
    refine ARun.pure (PureOp.move rfl (.tmp rfl)) rfl rfl (Nat.le_of_ble_eq_true rfl) ?_
    refine ARun.pure (PureOp.move rfl (.tmp rfl)) rfl rfl (Nat.le_of_ble_eq_true rfl) ?_
    refine ARun.pure (PureOp.lenLst rfl (.tmp rfl) ve_sl_27) rfl rfl (Nat.le_of_ble_eq_true rfl) ?_
    refine ARun.pure (PureOp.intOp rfl (.tmp rfl) (.tmp rfl) rfl) rfl rfl (Nat.le_of_ble_eq_true rfl) ?_
    refine ARun.nil ?_
    refine AW.cond (.tmp rfl) (fun hb2 => ?_) (fun hb2 => ?_)
    · have _u := True.intro
      replace hb2 := of_decide_eq_true hb2
      have hlt : k < x.length := by omega
      have hlt2 : k < y.length := by omega
      refine AW.skip ?_
      refine AW.seq ?_
      refine AW.block ?_
      refine AW.seq ?_
      refine AW.any (by kernel_rfl) (by kernel_rfl) ?_
      refine AD.pure (PureOp.move rfl (.tmp rfl)) rfl rfl (Nat.le_of_ble_eq_true rfl) ?_
      refine AD.pure (PureOp.move rfl (.tmp rfl)) rfl rfl (Nat.le_of_ble_eq_true rfl) ?_
      refine AD.pure (PureOp.indexLst (i := k) rfl (.tmp rfl) ve_el_27_2 (.tmp rfl) rfl (by omega)) rfl rfl (Nat.le_of_ble_eq_true rfl) ?_
      refine AD.pure (PureOp.loadRefAgg rfl (.tmp rfl) ve_ag_67_2 (Nat.le_of_ble_eq_true rfl)) rfl rfl (Nat.le_of_ble_eq_true rfl) ?_
      refine AD.pure (PureOp.move rfl (.tmp rfl)) rfl rfl (Nat.le_of_ble_eq_true rfl) ?_
      refine AD.pure (PureOp.move rfl (.tmp rfl)) rfl rfl (Nat.le_of_ble_eq_true rfl) ?_
      refine AD.pure (PureOp.indexLst (i := k) rfl (.tmp rfl) ve_el_27_2 (.tmp rfl) rfl (by omega)) rfl rfl (Nat.le_of_ble_eq_true rfl) ?_
      refine AD.pure (PureOp.loadRefAgg rfl (.tmp rfl) ve_ag_67_2 (Nat.le_of_ble_eq_true rfl)) rfl rfl (Nat.le_of_ble_eq_true rfl) ?_
      refine AD.pure (PureOp.call rfl (v_eqRow (x.getD k (default : GRow)) (y.getD k (default : GRow))) ⟨⟨_, (.tmp rfl), ⟨.str, .lst, trivial⟩⟩, ⟨_, (.tmp rfl), ⟨.str, .lst, trivial⟩⟩, trivial⟩ ve_ca_73 trivial) rfl rfl (Nat.le_of_ble_eq_true rfl) ?_
      refine AD.pure (PureOp.not rfl (.tmp rfl)) rfl rfl (Nat.le_of_ble_eq_true rfl) ?_
      refine AD.nil ?_
      refine AW.cond (.tmp rfl) (fun hb3 => ?_) (fun hb3 => ?_)
      · have _u := True.intro
        replace hb3 := of_decide_eq_false (of_not hb3)
        refine AW.seq ?_
        refine AW.region ?_
        refine ARun.pure (PureOp.assign rfl .bool) rfl rfl (Nat.le_of_ble_eq_true rfl) ?_
        refine ARun.nil ?_
        refine AW.ret (show ResL _ _ [.tmp 4] _ from resB rfl ?_)
        exact (decide_eq_false (fun e => hb3 (by rw [e]))).symm
      · have _u := True.intro
        replace hb3 := of_decide_eq_true (not_f hb3)
        refine AW.skip ?_
        refine AW.region ?_
        refine ARun.pure (PureOp.move rfl (.tmp rfl)) rfl rfl (Nat.le_of_ble_eq_true rfl) ?_
        refine ARun.pure (PureOp.add (c := ((k + 1 : Nat) : Int)) rfl (.tmp rfl) .int (by rw [wrap_id (by omega) (by omega)]; omega)) rfl rfl (Nat.le_of_ble_eq_true rfl) ?_
        refine ARun.pure (PureOp.assign rfl (.tmp rfl)) rfl rfl (Nat.le_of_ble_eq_true rfl) ?_
        refine ARun.nil ?_
        exact ⟨k + 1, ⟨by omega, take_next (default : GRow) hlt (by omega) hq hb3⟩, by dsimp only; omega, ⟨⟨⟨_, rfl, rfl⟩, ⟨_, rfl, rfl⟩, ⟨_, rfl, rfl⟩, trivial⟩, trivial⟩⟩
    · have _u := True.intro
      replace hb2 := of_decide_eq_false hb2
      have hlt : ¬ k < x.length := by omega
      refine AW.exit ?_
      refine AW.seq ?_
      refine AW.region ?_
      refine ARun.pure (PureOp.assign rfl .bool) rfl rfl (Nat.le_of_ble_eq_true rfl) ?_
      refine ARun.nil ?_
      refine AW.ret (show ResL _ _ [.tmp 4] _ from resB rfl ?_)
      exact (decide_eq_true (eqL_yes hlt (by omega) hq)).symm

theorem v_eqHead (x y : GHead) : Fn Try.prog 13 [.agg [.lst 2 x.rows.length (fun i0 j0 => ([.str ((x.rows.getD i0 (default : GRow)).name), .lst 2 (((x.rows.getD i0 (default : GRow)).samples).length) (fun i1 j1 => ([.int .i64 ((((x.rows.getD i0 (default : GRow)).samples).getD i1 (default : GSample)).at_), .int .i64 ((((x.rows.getD i0 (default : GRow)).samples).getD i1 (default : GSample)).value)] : List AV).getD j1 (.con undef))] : List AV).getD j0 (.con undef)), .int .i64 x.offset], .agg [.lst 2 y.rows.length (fun i0 j0 => ([.str ((y.rows.getD i0 (default : GRow)).name), .lst 2 (((y.rows.getD i0 (default : GRow)).samples).length) (fun i1 j1 => ([.int .i64 ((((y.rows.getD i0 (default : GRow)).samples).getD i1 (default : GSample)).at_), .int .i64 ((((y.rows.getD i0 (default : GRow)).samples).getD i1 (default : GSample)).value)] : List AV).getD j1 (.con undef))] : List AV).getD j0 (.con undef)), .int .i64 y.offset]] (.one (.bool (decide (x = y)))) := by
  refine Fn.of_body (fn := Try.f13) Try.func13 rfl (Nat.le_of_ble_eq_true rfl) trivial ?_
  intro w0
  show AW _ 16 _ _ _ _
  refine AW.seq ?_
  refine AW.region ?_
  refine ARun.box (id := 0) rfl (.tmp rfl) (SV.cells_of (by exact ⟨trivial, trivial, trivial⟩)) ⟨rfl, (by repeat first | exact trivial | refine ⟨by decide, by first | rfl | exact trivial | (intro i j; first | rfl | exact getD_no rfl | (dsimp only; split <;> first | rfl | exact getD_no rfl) | exact scl_no (by apply_assumption) _), ?_⟩)⟩ rfl rfl rfl (Nat.le_of_ble_eq_true rfl) ?_
  refine ARun.box (id := 1) rfl (.tmp rfl) (SV.cells_of (by exact ⟨trivial, trivial, trivial⟩)) ⟨rfl, (by repeat first | exact trivial | refine ⟨by decide, by first | rfl | exact trivial | (intro i j; first | rfl | exact getD_no rfl | (dsimp only; split <;> first | rfl | exact getD_no rfl) | exact scl_no (by apply_assumption) _), ?_⟩)⟩ rfl rfl rfl (Nat.le_of_ble_eq_true rfl) ?_
  refine ARun.pure (PureOp.assign rfl .bool) rfl rfl (Nat.le_of_ble_eq_true rfl) ?_
  refine ARun.nil ?_
  refine AW.seq ?_
  refine AW.seq ?_
  refine AW.region ?_
  refine ARun.pure (PureOp.fieldPtr rfl (.tmp rfl) ve_fi_29_0_0) rfl rfl (Nat.le_of_ble_eq_true rfl) ?_
  refine ARun.pure (PureOp.loadPtr rfl (.tmp rfl) ve_pl_27 rfl rfl (Nat.le_of_ble_eq_true rfl) (Nat.le_of_ble_eq_true rfl)) rfl rfl (Nat.le_of_ble_eq_true rfl) ?_
  refine ARun.pure (PureOp.fieldPtr rfl (.tmp rfl) ve_fi_29_0_0) rfl rfl (Nat.le_of_ble_eq_true rfl) ?_
  refine ARun.pure (PureOp.loadPtr rfl (.tmp rfl) ve_pl_27 rfl rfl (Nat.le_of_ble_eq_true rfl) (Nat.le_of_ble_eq_true rfl)) rfl rfl (Nat.le_of_ble_eq_true rfl) ?_
  refine ARun.pure (PureOp.call rfl (v_eqRowS x.rows y.rows) ⟨⟨_, (.tmp rfl), .lst⟩, ⟨_, (.tmp rfl), .lst⟩, trivial⟩ ve_ca_47 trivial) rfl rfl (Nat.le_of_ble_eq_true rfl) ?_
  refine ARun.pure (PureOp.not rfl (.tmp rfl)) rfl rfl (Nat.le_of_ble_eq_true rfl) ?_
  refine ARun.nil ?_
  refine AW.cond (.tmp rfl) (fun hb1 => ?_) (fun hb1 => ?_)
  · have _u := True.intro
    replace hb1 := of_decide_eq_false (of_not hb1)
    refine AW.seq ?_
    refine AW.region ?_
    refine ARun.pure (PureOp.assign rfl .bool) rfl rfl (Nat.le_of_ble_eq_true rfl) ?_
    refine ARun.nil ?_
    refine AW.ret (show ResL _ _ [.tmp 4] _ from resB rfl ?_)
    exact (decide_eq_false (fun e => hb1 (by rw [e]))).symm
  · have _u := True.intro
    replace hb1 := of_decide_eq_true (not_f hb1)
    refine AW.skip ?_
    refine AW.seq ?_
    refine AW.seq ?_
    refine AW.region ?_
    refine ARun.pure (PureOp.fieldPtr rfl (.tmp rfl) ve_fi_29_1_1) rfl rfl (Nat.le_of_ble_eq_true rfl) ?_
    refine ARun.pure (PureOp.loadPtr rfl (.tmp rfl) ve_pl_3 rfl rfl (Nat.le_of_ble_eq_true rfl) (Nat.le_of_ble_eq_true rfl)) rfl rfl (Nat.le_of_ble_eq_true rfl) ?_
    refine ARun.pure (PureOp.fieldPtr rfl (.tmp rfl) ve_fi_29_1_1) rfl rfl (Nat.le_of_ble_eq_true rfl) ?_
    refine ARun.pure (PureOp.loadPtr rfl (.tmp rfl) ve_pl_3 rfl rfl (Nat.le_of_ble_eq_true rfl) (Nat.le_of_ble_eq_true rfl)) rfl rfl (Nat.le_of_ble_eq_true rfl) ?_
    refine ARun.pure (PureOp.intOp rfl (.tmp rfl) (.tmp rfl) rfl) rfl rfl (Nat.le_of_ble_eq_true rfl) ?_
    refine ARun.nil ?_
    refine AW.cond (.tmp rfl) (fun hb2 => ?_) (fun hb2 => ?_)
    · have _u := True.intro
      replace hb2 := of_decide_eq_false (of_not hb2)
      refine AW.seq ?_
      refine AW.region ?_
      refine ARun.pure (PureOp.assign rfl .bool) rfl rfl (Nat.le_of_ble_eq_true rfl) ?_
      refine ARun.nil ?_
      refine AW.ret (show ResL _ _ [.tmp 4] _ from resB rfl ?_)
      exact (decide_eq_false (fun e => hb2 (by rw [e]))).symm
    · have _u := True.intro
      replace hb2 := of_decide_eq_true (not_f hb2)
      refine AW.skip ?_
      refine AW.seq ?_
      refine AW.region ?_
      refine ARun.pure (PureOp.assign rfl .bool) rfl rfl (Nat.le_of_ble_eq_true rfl) ?_
      refine ARun.nil ?_
      refine AW.ret (show ResL _ _ [.tmp 4] _ from resB rfl ?_)
      exact (decide_eq_true (by cases x; cases y; simp_all)).symm

theorem v_eqSay (x y : GSay) : Fn Try.prog 62 [.agg [.str x.name, .int .i64 x.at_, .int .i64 x.value], .agg [.str y.name, .int .i64 y.at_, .int .i64 y.value]] (.one (.bool (decide (x = y)))) := by
  refine Fn.of_body (fn := Try.f62) Try.func62 rfl (Nat.le_of_ble_eq_true rfl) trivial ?_
  intro w0
  show AW _ 20 _ _ _ _
  refine AW.seq ?_
  refine AW.region ?_
  refine ARun.box (id := 0) rfl (.tmp rfl) (SV.cells_of (by exact ⟨trivial, trivial, trivial, trivial⟩)) ⟨rfl, (by repeat first | exact trivial | refine ⟨by decide, by first | rfl | exact trivial | (intro i j; first | rfl | exact getD_no rfl | (dsimp only; split <;> first | rfl | exact getD_no rfl) | exact scl_no (by apply_assumption) _), ?_⟩)⟩ rfl rfl rfl (Nat.le_of_ble_eq_true rfl) ?_
  refine ARun.box (id := 1) rfl (.tmp rfl) (SV.cells_of (by exact ⟨trivial, trivial, trivial, trivial⟩)) ⟨rfl, (by repeat first | exact trivial | refine ⟨by decide, by first | rfl | exact trivial | (intro i j; first | rfl | exact getD_no rfl | (dsimp only; split <;> first | rfl | exact getD_no rfl) | exact scl_no (by apply_assumption) _), ?_⟩)⟩ rfl rfl rfl (Nat.le_of_ble_eq_true rfl) ?_
  refine ARun.pure (PureOp.assign rfl .bool) rfl rfl (Nat.le_of_ble_eq_true rfl) ?_
  refine ARun.nil ?_
  refine AW.seq ?_
  refine AW.seq ?_
  refine AW.region ?_
  refine ARun.pure (PureOp.fieldPtr rfl (.tmp rfl) ve_fi_47_0_0) rfl rfl (Nat.le_of_ble_eq_true rfl) ?_
  refine ARun.pure (PureOp.loadPtr rfl (.tmp rfl) ve_pl_9 rfl rfl (Nat.le_of_ble_eq_true rfl) (Nat.le_of_ble_eq_true rfl)) rfl rfl (Nat.le_of_ble_eq_true rfl) ?_
  refine ARun.pure (PureOp.fieldPtr rfl (.tmp rfl) ve_fi_47_0_0) rfl rfl (Nat.le_of_ble_eq_true rfl) ?_
  refine ARun.pure (PureOp.loadPtr rfl (.tmp rfl) ve_pl_9 rfl rfl (Nat.le_of_ble_eq_true rfl) (Nat.le_of_ble_eq_true rfl)) rfl rfl (Nat.le_of_ble_eq_true rfl) ?_
  refine ARun.pure (PureOp.strOp rfl (.tmp rfl) (.tmp rfl) rfl) rfl rfl (Nat.le_of_ble_eq_true rfl) ?_
  refine ARun.nil ?_
  refine AW.cond (.tmp rfl) (fun hb1 => ?_) (fun hb1 => ?_)
  · have _u := True.intro
    replace hb1 := of_decide_eq_false (of_not hb1)
    refine AW.seq ?_
    refine AW.region ?_
    refine ARun.pure (PureOp.assign rfl .bool) rfl rfl (Nat.le_of_ble_eq_true rfl) ?_
    refine ARun.nil ?_
    refine AW.ret (show ResL _ _ [.tmp 4] _ from resB rfl ?_)
    exact (decide_eq_false (fun e => hb1 (by rw [e]))).symm
  · have _u := True.intro
    replace hb1 := of_decide_eq_true (not_f hb1)
    refine AW.skip ?_
    refine AW.seq ?_
    refine AW.seq ?_
    refine AW.region ?_
    refine ARun.pure (PureOp.fieldPtr rfl (.tmp rfl) ve_fi_47_1_1) rfl rfl (Nat.le_of_ble_eq_true rfl) ?_
    refine ARun.pure (PureOp.loadPtr rfl (.tmp rfl) ve_pl_3 rfl rfl (Nat.le_of_ble_eq_true rfl) (Nat.le_of_ble_eq_true rfl)) rfl rfl (Nat.le_of_ble_eq_true rfl) ?_
    refine ARun.pure (PureOp.fieldPtr rfl (.tmp rfl) ve_fi_47_1_1) rfl rfl (Nat.le_of_ble_eq_true rfl) ?_
    refine ARun.pure (PureOp.loadPtr rfl (.tmp rfl) ve_pl_3 rfl rfl (Nat.le_of_ble_eq_true rfl) (Nat.le_of_ble_eq_true rfl)) rfl rfl (Nat.le_of_ble_eq_true rfl) ?_
    refine ARun.pure (PureOp.intOp rfl (.tmp rfl) (.tmp rfl) rfl) rfl rfl (Nat.le_of_ble_eq_true rfl) ?_
    refine ARun.nil ?_
    refine AW.cond (.tmp rfl) (fun hb2 => ?_) (fun hb2 => ?_)
    · have _u := True.intro
      replace hb2 := of_decide_eq_false (of_not hb2)
      refine AW.seq ?_
      refine AW.region ?_
      refine ARun.pure (PureOp.assign rfl .bool) rfl rfl (Nat.le_of_ble_eq_true rfl) ?_
      refine ARun.nil ?_
      refine AW.ret (show ResL _ _ [.tmp 4] _ from resB rfl ?_)
      exact (decide_eq_false (fun e => hb2 (by rw [e]))).symm
    · have _u := True.intro
      replace hb2 := of_decide_eq_true (not_f hb2)
      refine AW.skip ?_
      refine AW.seq ?_
      refine AW.seq ?_
      refine AW.region ?_
      refine ARun.pure (PureOp.fieldPtr rfl (.tmp rfl) ve_fi_47_2_2) rfl rfl (Nat.le_of_ble_eq_true rfl) ?_
      refine ARun.pure (PureOp.loadPtr rfl (.tmp rfl) ve_pl_3 rfl rfl (Nat.le_of_ble_eq_true rfl) (Nat.le_of_ble_eq_true rfl)) rfl rfl (Nat.le_of_ble_eq_true rfl) ?_
      refine ARun.pure (PureOp.fieldPtr rfl (.tmp rfl) ve_fi_47_2_2) rfl rfl (Nat.le_of_ble_eq_true rfl) ?_
      refine ARun.pure (PureOp.loadPtr rfl (.tmp rfl) ve_pl_3 rfl rfl (Nat.le_of_ble_eq_true rfl) (Nat.le_of_ble_eq_true rfl)) rfl rfl (Nat.le_of_ble_eq_true rfl) ?_
      refine ARun.pure (PureOp.intOp rfl (.tmp rfl) (.tmp rfl) rfl) rfl rfl (Nat.le_of_ble_eq_true rfl) ?_
      refine ARun.nil ?_
      refine AW.cond (.tmp rfl) (fun hb3 => ?_) (fun hb3 => ?_)
      · have _u := True.intro
        replace hb3 := of_decide_eq_false (of_not hb3)
        refine AW.seq ?_
        refine AW.region ?_
        refine ARun.pure (PureOp.assign rfl .bool) rfl rfl (Nat.le_of_ble_eq_true rfl) ?_
        refine ARun.nil ?_
        refine AW.ret (show ResL _ _ [.tmp 4] _ from resB rfl ?_)
        exact (decide_eq_false (fun e => hb3 (by rw [e]))).symm
      · have _u := True.intro
        replace hb3 := of_decide_eq_true (not_f hb3)
        refine AW.skip ?_
        refine AW.seq ?_
        refine AW.region ?_
        refine ARun.pure (PureOp.assign rfl .bool) rfl rfl (Nat.le_of_ble_eq_true rfl) ?_
        refine ARun.nil ?_
        refine AW.ret (show ResL _ _ [.tmp 4] _ from resB rfl ?_)
        exact (decide_eq_true (by cases x; cases y; simp_all)).symm

theorem v_eqSayS (x y : List GSay) : Fn Try.prog 32 [.one (.lst 3 x.length (fun i0 j0 => ([.str ((x.getD i0 (default : GSay)).name), .int .i64 ((x.getD i0 (default : GSay)).at_), .int .i64 ((x.getD i0 (default : GSay)).value)] : List AV).getD j0 (.con undef))), .one (.lst 3 y.length (fun i0 j0 => ([.str ((y.getD i0 (default : GSay)).name), .int .i64 ((y.getD i0 (default : GSay)).at_), .int .i64 ((y.getD i0 (default : GSay)).value)] : List AV).getD j0 (.con undef)))] (.one (.bool (decide (x = y)))) := by
  refine Fn.of_body (fn := Try.f32) Try.func32 rfl (Nat.le_of_ble_eq_true rfl) trivial ?_
  intro w0
  show AW _ 27 _ _ _ _
  refine AW.bound (t := 0) rfl fun hx => ?_
  refine AW.seq ?_
  refine AW.region ?_
  refine ARun.pure (PureOp.assign rfl .bool) rfl rfl (Nat.le_of_ble_eq_true rfl) ?_
  refine ARun.nil ?_
  refine AW.seq ?_
  refine AW.seq ?_
  refine AW.region ?_
  refine ARun.pure (PureOp.move rfl (.tmp rfl)) rfl rfl (Nat.le_of_ble_eq_true rfl) ?_
  refine ARun.pure (PureOp.lenLst rfl (.tmp rfl) ve_sl_55) rfl rfl (Nat.le_of_ble_eq_true rfl) ?_
  refine ARun.pure (PureOp.move rfl (.tmp rfl)) rfl rfl (Nat.le_of_ble_eq_true rfl) ?_
  refine ARun.pure (PureOp.lenLst rfl (.tmp rfl) ve_sl_55) rfl rfl (Nat.le_of_ble_eq_true rfl) ?_
  refine ARun.pure (PureOp.intOp rfl (.tmp rfl) (.tmp rfl) rfl) rfl rfl (Nat.le_of_ble_eq_true rfl) ?_
  refine ARun.nil ?_
  refine AW.cond (.tmp rfl) (fun hb1 => ?_) (fun hb1 => ?_)
  · have _u := True.intro
    replace hb1 := of_decide_eq_false (of_not hb1)
    refine AW.seq ?_
    refine AW.region ?_
    refine ARun.pure (PureOp.assign rfl .bool) rfl rfl (Nat.le_of_ble_eq_true rfl) ?_
    refine ARun.nil ?_
    refine AW.ret (show ResL _ _ [.tmp 4] _ from resB rfl ?_)
    exact (decide_eq_false (fun e => by rw [e] at hb1; omega)).symm
  · have _u := True.intro
    replace hb1 := of_decide_eq_true (not_f hb1)
    refine AW.skip ?_
    refine AW.seq ?_
    refine AW.seq ?_
    refine AW.region ?_
    refine ARun.pure (PureOp.assign rfl .int) rfl rfl (Nat.le_of_ble_eq_true rfl) ?_
    refine ARun.nil ?_
    refine AW.block ?_
    refine AW.loop (ι := Nat) (fun k => ⟨[(0, .one (.lst 3 x.length (fun i0 j0 => ([.str ((x.getD i0 (default : GSay)).name), .int .i64 ((x.getD i0 (default : GSay)).at_), .int .i64 ((x.getD i0 (default : GSay)).value)] : List AV).getD j0 (.con undef)))), (1, .one (.lst 3 y.length (fun i0 j0 => ([.str ((y.getD i0 (default : GSay)).name), .int .i64 ((y.getD i0 (default : GSay)).at_), .int .i64 ((y.getD i0 (default : GSay)).value)] : List AV).getD j0 (.con undef)))), (5, .one (.int .i64 (k : Int)))], []⟩) (fun k => k ≤ x.length ∧ x.take k = y.take k) (fun k => x.length - k) 0 ⟨Nat.zero_le _, rfl⟩ ⟨⟨⟨_, rfl, rfl⟩, ⟨_, rfl, rfl⟩, ⟨_, rfl, rfl⟩, trivial⟩, trivial⟩ ?_
    intro k hI
    obtain ⟨hk, hq⟩ := hI
    refine AW.seq ?_
    refine AW.seq ?_
    refine AW.region ?_
    refine ARun.pure (PureOp.move rfl (.tmp rfl)) rfl rfl (Nat.le_of_ble_eq_true rfl) ?_
    refine ARun.pure (PureOp.move rfl (.tmp rfl)) rfl rfl (Nat.le_of_ble_eq_true rfl) ?_
    refine ARun.pure (PureOp.lenLst rfl (.tmp rfl) ve_sl_55) rfl rfl (Nat.le_of_ble_eq_true rfl) ?_
    refine ARun.pure (PureOp.intOp rfl (.tmp rfl) (.tmp rfl) rfl) rfl rfl (Nat.le_of_ble_eq_true rfl) ?_
    refine ARun.nil ?_
    refine AW.cond (.tmp rfl) (fun hb2 => ?_) (fun hb2 => ?_)
    · have _u := True.intro
      replace hb2 := of_decide_eq_true hb2
      have hlt : k < x.length := by omega
      have hlt2 : k < y.length := by omega
      refine AW.skip ?_
      refine AW.seq ?_
      refine AW.block ?_
      refine AW.seq ?_
      refine AW.any (by kernel_rfl) (by kernel_rfl) ?_
      refine AD.pure (PureOp.move rfl (.tmp rfl)) rfl rfl (Nat.le_of_ble_eq_true rfl) ?_
      refine AD.pure (PureOp.move rfl (.tmp rfl)) rfl rfl (Nat.le_of_ble_eq_true rfl) ?_
      refine AD.pure (PureOp.indexLst (i := k) rfl (.tmp rfl) ve_el_55_3 (.tmp rfl) rfl (by omega)) rfl rfl (Nat.le_of_ble_eq_true rfl) ?_
      refine AD.pure (PureOp.loadRefAgg rfl (.tmp rfl) ve_ag_47_3 (Nat.le_of_ble_eq_true rfl)) rfl rfl (Nat.le_of_ble_eq_true rfl) ?_
      refine AD.pure (PureOp.move rfl (.tmp rfl)) rfl rfl (Nat.le_of_ble_eq_true rfl) ?_
      refine AD.pure (PureOp.move rfl (.tmp rfl)) rfl rfl (Nat.le_of_ble_eq_true rfl) ?_
      refine AD.pure (PureOp.indexLst (i := k) rfl (.tmp rfl) ve_el_55_3 (.tmp rfl) rfl (by omega)) rfl rfl (Nat.le_of_ble_eq_true rfl) ?_
      refine AD.pure (PureOp.loadRefAgg rfl (.tmp rfl) ve_ag_47_3 (Nat.le_of_ble_eq_true rfl)) rfl rfl (Nat.le_of_ble_eq_true rfl) ?_
      refine AD.pure (PureOp.call rfl (v_eqSay (x.getD k (default : GSay)) (y.getD k (default : GSay))) ⟨⟨_, (.tmp rfl), ⟨.str, .int, .int, trivial⟩⟩, ⟨_, (.tmp rfl), ⟨.str, .int, .int, trivial⟩⟩, trivial⟩ ve_ca_62 trivial) rfl rfl (Nat.le_of_ble_eq_true rfl) ?_
      refine AD.pure (PureOp.not rfl (.tmp rfl)) rfl rfl (Nat.le_of_ble_eq_true rfl) ?_
      refine AD.nil ?_
      refine AW.cond (.tmp rfl) (fun hb3 => ?_) (fun hb3 => ?_)
      · have _u := True.intro
        replace hb3 := of_decide_eq_false (of_not hb3)
        refine AW.seq ?_
        refine AW.region ?_
        refine ARun.pure (PureOp.assign rfl .bool) rfl rfl (Nat.le_of_ble_eq_true rfl) ?_
        refine ARun.nil ?_
        refine AW.ret (show ResL _ _ [.tmp 4] _ from resB rfl ?_)
        exact (decide_eq_false (fun e => hb3 (by rw [e]))).symm
      · have _u := True.intro
        replace hb3 := of_decide_eq_true (not_f hb3)
        refine AW.skip ?_
        refine AW.region ?_
        refine ARun.pure (PureOp.move rfl (.tmp rfl)) rfl rfl (Nat.le_of_ble_eq_true rfl) ?_
        refine ARun.pure (PureOp.add (c := ((k + 1 : Nat) : Int)) rfl (.tmp rfl) .int (by rw [wrap_id (by omega) (by omega)]; omega)) rfl rfl (Nat.le_of_ble_eq_true rfl) ?_
        refine ARun.pure (PureOp.assign rfl (.tmp rfl)) rfl rfl (Nat.le_of_ble_eq_true rfl) ?_
        refine ARun.nil ?_
        exact ⟨k + 1, ⟨by omega, take_next (default : GSay) hlt (by omega) hq hb3⟩, by dsimp only; omega, ⟨⟨⟨_, rfl, rfl⟩, ⟨_, rfl, rfl⟩, ⟨_, rfl, rfl⟩, trivial⟩, trivial⟩⟩
    · have _u := True.intro
      replace hb2 := of_decide_eq_false hb2
      have hlt : ¬ k < x.length := by omega
      refine AW.exit ?_
      refine AW.seq ?_
      refine AW.region ?_
      refine ARun.pure (PureOp.assign rfl .bool) rfl rfl (Nat.le_of_ble_eq_true rfl) ?_
      refine ARun.nil ?_
      refine AW.ret (show ResL _ _ [.tmp 4] _ from resB rfl ?_)
      exact (decide_eq_true (eqL_yes hlt (by omega) hq)).symm

theorem v_eqIntS (x y : List Int) : Fn Try.prog 31 [.one (.lst 1 x.length (fun i0 _ => .int .i64 (x.getD i0 0))), .one (.lst 1 y.length (fun i0 _ => .int .i64 (y.getD i0 0)))] (.one (.bool (decide (x = y)))) := by
  refine Fn.of_body (fn := Try.f31) Try.func31 rfl (Nat.le_of_ble_eq_true rfl) trivial ?_
  intro w0
  show AW _ 26 _ _ _ _
  refine AW.bound (t := 0) rfl fun hx => ?_
  refine AW.seq ?_
  refine AW.region ?_
  refine ARun.pure (PureOp.assign rfl .bool) rfl rfl (Nat.le_of_ble_eq_true rfl) ?_
  refine ARun.nil ?_
  refine AW.seq ?_
  refine AW.seq ?_
  refine AW.region ?_
  refine ARun.pure (PureOp.move rfl (.tmp rfl)) rfl rfl (Nat.le_of_ble_eq_true rfl) ?_
  refine ARun.pure (PureOp.lenLst rfl (.tmp rfl) ve_sl_52) rfl rfl (Nat.le_of_ble_eq_true rfl) ?_
  refine ARun.pure (PureOp.move rfl (.tmp rfl)) rfl rfl (Nat.le_of_ble_eq_true rfl) ?_
  refine ARun.pure (PureOp.lenLst rfl (.tmp rfl) ve_sl_52) rfl rfl (Nat.le_of_ble_eq_true rfl) ?_
  refine ARun.pure (PureOp.intOp rfl (.tmp rfl) (.tmp rfl) rfl) rfl rfl (Nat.le_of_ble_eq_true rfl) ?_
  refine ARun.nil ?_
  refine AW.cond (.tmp rfl) (fun hb1 => ?_) (fun hb1 => ?_)
  · have _u := True.intro
    replace hb1 := of_decide_eq_false (of_not hb1)
    refine AW.seq ?_
    refine AW.region ?_
    refine ARun.pure (PureOp.assign rfl .bool) rfl rfl (Nat.le_of_ble_eq_true rfl) ?_
    refine ARun.nil ?_
    refine AW.ret (show ResL _ _ [.tmp 4] _ from resB rfl ?_)
    exact (decide_eq_false (fun e => by rw [e] at hb1; omega)).symm
  · have _u := True.intro
    replace hb1 := of_decide_eq_true (not_f hb1)
    refine AW.skip ?_
    refine AW.seq ?_
    refine AW.seq ?_
    refine AW.region ?_
    refine ARun.pure (PureOp.assign rfl .int) rfl rfl (Nat.le_of_ble_eq_true rfl) ?_
    refine ARun.nil ?_
    refine AW.block ?_
    refine AW.loop (ι := Nat) (fun k => ⟨[(0, .one (.lst 1 x.length (fun i0 _ => .int .i64 (x.getD i0 0)))), (1, .one (.lst 1 y.length (fun i0 _ => .int .i64 (y.getD i0 0)))), (5, .one (.int .i64 (k : Int)))], []⟩) (fun k => k ≤ x.length ∧ x.take k = y.take k) (fun k => x.length - k) 0 ⟨Nat.zero_le _, rfl⟩ ⟨⟨⟨_, rfl, rfl⟩, ⟨_, rfl, rfl⟩, ⟨_, rfl, rfl⟩, trivial⟩, trivial⟩ ?_
    intro k hI
    obtain ⟨hk, hq⟩ := hI
    refine AW.seq ?_
    refine AW.seq ?_
    refine AW.region ?_
    refine ARun.pure (PureOp.move rfl (.tmp rfl)) rfl rfl (Nat.le_of_ble_eq_true rfl) ?_
    refine ARun.pure (PureOp.move rfl (.tmp rfl)) rfl rfl (Nat.le_of_ble_eq_true rfl) ?_
    refine ARun.pure (PureOp.lenLst rfl (.tmp rfl) ve_sl_52) rfl rfl (Nat.le_of_ble_eq_true rfl) ?_
    refine ARun.pure (PureOp.intOp rfl (.tmp rfl) (.tmp rfl) rfl) rfl rfl (Nat.le_of_ble_eq_true rfl) ?_
    refine ARun.nil ?_
    refine AW.cond (.tmp rfl) (fun hb2 => ?_) (fun hb2 => ?_)
    · have _u := True.intro
      replace hb2 := of_decide_eq_true hb2
      have hlt : k < x.length := by omega
      have hlt2 : k < y.length := by omega
      refine AW.skip ?_
      refine AW.seq ?_
      refine AW.block ?_
      refine AW.seq ?_
      refine AW.any (by kernel_rfl) (by kernel_rfl) ?_
      refine AD.pure (PureOp.move rfl (.tmp rfl)) rfl rfl (Nat.le_of_ble_eq_true rfl) ?_
      refine AD.pure (PureOp.move rfl (.tmp rfl)) rfl rfl (Nat.le_of_ble_eq_true rfl) ?_
      refine AD.pure (PureOp.indexLst (i := k) rfl (.tmp rfl) ve_el_52_1 (.tmp rfl) rfl (by omega)) rfl rfl (Nat.le_of_ble_eq_true rfl) ?_
      refine AD.pure (PureOp.loadRef rfl (.tmp rfl) ve_pl_3 (Nat.le_of_ble_eq_true rfl)) rfl rfl (Nat.le_of_ble_eq_true rfl) ?_
      refine AD.pure (PureOp.move rfl (.tmp rfl)) rfl rfl (Nat.le_of_ble_eq_true rfl) ?_
      refine AD.pure (PureOp.move rfl (.tmp rfl)) rfl rfl (Nat.le_of_ble_eq_true rfl) ?_
      refine AD.pure (PureOp.indexLst (i := k) rfl (.tmp rfl) ve_el_52_1 (.tmp rfl) rfl (by omega)) rfl rfl (Nat.le_of_ble_eq_true rfl) ?_
      refine AD.pure (PureOp.loadRef rfl (.tmp rfl) ve_pl_3 (Nat.le_of_ble_eq_true rfl)) rfl rfl (Nat.le_of_ble_eq_true rfl) ?_
      refine AD.pure (PureOp.intOp rfl (.tmp rfl) (.tmp rfl) rfl) rfl rfl (Nat.le_of_ble_eq_true rfl) ?_
      refine AD.nil ?_
      refine AW.cond (.tmp rfl) (fun hb3 => ?_) (fun hb3 => ?_)
      · have _u := True.intro
        replace hb3 := of_decide_eq_false (of_not hb3)
        refine AW.seq ?_
        refine AW.region ?_
        refine ARun.pure (PureOp.assign rfl .bool) rfl rfl (Nat.le_of_ble_eq_true rfl) ?_
        refine ARun.nil ?_
        refine AW.ret (show ResL _ _ [.tmp 4] _ from resB rfl ?_)
        exact (decide_eq_false (fun e => hb3 (by rw [e]))).symm
      · have _u := True.intro
        replace hb3 := of_decide_eq_true (not_f hb3)
        refine AW.skip ?_
        refine AW.region ?_
        refine ARun.pure (PureOp.move rfl (.tmp rfl)) rfl rfl (Nat.le_of_ble_eq_true rfl) ?_
        refine ARun.pure (PureOp.add (c := ((k + 1 : Nat) : Int)) rfl (.tmp rfl) .int (by rw [wrap_id (by omega) (by omega)]; omega)) rfl rfl (Nat.le_of_ble_eq_true rfl) ?_
        refine ARun.pure (PureOp.assign rfl (.tmp rfl)) rfl rfl (Nat.le_of_ble_eq_true rfl) ?_
        refine ARun.nil ?_
        exact ⟨k + 1, ⟨by omega, take_next (0 : Int) hlt (by omega) hq hb3⟩, by dsimp only; omega, ⟨⟨⟨_, rfl, rfl⟩, ⟨_, rfl, rfl⟩, ⟨_, rfl, rfl⟩, trivial⟩, trivial⟩⟩
    · have _u := True.intro
      replace hb2 := of_decide_eq_false hb2
      have hlt : ¬ k < x.length := by omega
      refine AW.exit ?_
      refine AW.seq ?_
      refine AW.region ?_
      refine ARun.pure (PureOp.assign rfl .bool) rfl rfl (Nat.le_of_ble_eq_true rfl) ?_
      refine ARun.nil ?_
      refine AW.ret (show ResL _ _ [.tmp 4] _ from resB rfl ?_)
      exact (decide_eq_true (eqL_yes hlt (by omega) hq)).symm
end Go.Proofs.Ytmfkmifkkplidaa

