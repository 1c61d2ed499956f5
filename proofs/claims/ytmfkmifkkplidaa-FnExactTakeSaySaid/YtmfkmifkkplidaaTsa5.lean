/-
  Proved: the law FnExactTakeSay returns true for every input: the program's TakeSay answers what the reference's does, leaves its arguments alone, and hands out memory that nobody else holds. Conditions: none.
-/
import Derived.Test.YtmfkmifkkplidaaTsa1
import Derived.Test.YtmfkmifkkplidaaTsa2
import Derived.Test.YtmfkmifkkplidaaTsa4
/-
  TakeSay: the reference and the program make the same.
-/
namespace Go.Proofs.Ytmfkmifkkplidaa
open Go.ChangeShapes Go.WideShapes Go.ChangeAt Go.RowKit Go.BigFrame Go.Deep
set_option linter.unusedVariables false
set_option linter.unusedSimpArgs false
theorem vts_ag_29_2 : aggB Try.prog 29 2 = true := by kernel_rfl
theorem vts_ag_47_3 : aggB Try.prog 47 3 = true := by kernel_rfl
theorem vts_ca_10 : callB Try.prog 10 = true := by kernel_rfl
theorem vts_ca_46 : callB Try.prog 46 = true := by kernel_rfl
theorem vts_ca_55 : callB Try.prog 55 = true := by kernel_rfl
theorem vts_ca_56 : callB Try.prog 56 = true := by kernel_rfl
theorem vts_ca_57 : callB Try.prog 57 = true := by kernel_rfl
theorem vts_ca_58 : callB Try.prog 58 = true := by kernel_rfl
theorem vts_ca_59 : callB Try.prog 59 = true := by kernel_rfl
theorem vts_ca_60 : callB Try.prog 60 = true := by kernel_rfl
theorem vts_fi_29_1_1 : fieldB Try.prog 29 1 1 = true := by kernel_rfl
theorem vts_pl_3 : plainB Try.prog 3 = true := by kernel_rfl
theorem vts_sz_29_2 : sizeB Try.prog 29 2 = true := by kernel_rfl
theorem rowC0_hx {h : GHead} {K : Nat} {L : List Nat} (hK : L.contains K = true) (a b : Nat) : (rowC0 h K a b).hx L = true := match b with
  | 0 => rfl
  | 1 => hK
  | _ + 2 => rfl
theorem v_iTakeSay (h : GHead) (x : GSay) : FnT Try.prog 26 [.agg [.lst 2 h.rows.length (fun i0 j0 => ([.str ((h.rows.getD i0 (default : GRow)).name), .lst 2 (((h.rows.getD i0 (default : GRow)).samples).length) (fun i1 j1 => ([.int .i64 ((((h.rows.getD i0 (default : GRow)).samples).getD i1 (default : GSample)).at_), .int .i64 ((((h.rows.getD i0 (default : GRow)).samples).getD i1 (default : GSample)).value)] : List AV).getD j1 (.con undef))] : List AV).getD j0 (.con undef)), .int .i64 h.offset], .agg [.str x.name, .int .i64 x.at_, .int .i64 x.value]] (.tup3 (.agg [.lst 2 ((((takeV h x).1).rows).length) (fun i0 j0 => ([.str (((((takeV h x).1).rows).getD i0 (default : GRow)).name), .lst 2 ((((((takeV h x).1).rows).getD i0 (default : GRow)).samples).length) (fun i1 j1 => ([.int .i64 (((((((takeV h x).1).rows).getD i0 (default : GRow)).samples).getD i1 (default : GSample)).at_), .int .i64 (((((((takeV h x).1).rows).getD i0 (default : GRow)).samples).getD i1 (default : GSample)).value)] : List AV).getD j1 (.con undef))] : List AV).getD j0 (.con undef)), .int .i64 (((takeV h x).1).offset)]) (.one (.int .i64 (((takeV h x).2.1 : Nat) : Int))) (.one (.bool ((takeV h x).2.2)))) := by
  have hw := True.intro
  refine FnT.of_body (fn := Try.f26) Try.func26 rfl (Nat.le_of_ble_eq_true rfl)  ?_
  intro w0
  show AW _ 29 _ _ _ _
  refine AW.seq ?_
  refine AW.region ?_
  refine ARun.box (id := 0) rfl (.tmp rfl) (SV.cells_of (by exact ⟨trivial, trivial, trivial⟩)) ⟨rfl, (by repeat first | exact trivial | refine ⟨by decide, by first | rfl | exact trivial | (intro a_ b_; first | exact getD_no rfl | exact rowC0_no rfl _ _ | ((try dsimp only); (repeat' split) <;> first | rfl | exact rowC0_no rfl _ _ | exact getD_no rfl)), ?_⟩)⟩ rfl rfl rfl (Nat.le_of_ble_eq_true rfl) ?_
  refine ARun.box (id := 1) rfl (.tmp rfl) (SV.cells_of (by exact ⟨trivial, trivial, trivial, trivial⟩)) ⟨rfl, (by repeat first | exact trivial | refine ⟨by decide, by first | rfl | exact trivial | (intro a_ b_; first | exact getD_no rfl | exact rowC0_no rfl _ _ | ((try dsimp only); (repeat' split) <;> first | rfl | exact rowC0_no rfl _ _ | exact getD_no rfl)), ?_⟩)⟩ rfl rfl rfl (Nat.le_of_ble_eq_true rfl) ?_
  refine ARun.alloc (id := 2) (l := [.con (.slice none 0 0), .int .i64 0]) (z := (.agg #[.slice none 0 0, .int .i64 0])) rfl (by kernel_rfl) (fun _ _ _ => ⟨_, _, rfl, rfl, ⟨_, _, rfl, rfl, rfl⟩⟩) ⟨rfl, (by repeat first | exact trivial | refine ⟨by decide, by first | rfl | exact trivial | (intro a_ b_; first | exact getD_no rfl | exact rowC0_no rfl _ _ | ((try dsimp only); (repeat' split) <;> first | rfl | exact rowC0_no rfl _ _ | exact getD_no rfl)), ?_⟩)⟩ rfl rfl rfl (Nat.le_of_ble_eq_true rfl) ?_
  refine ARun.pure (PureOp.assign rfl .int) rfl rfl (Nat.le_of_ble_eq_true rfl) ?_
  refine ARun.pure (PureOp.assign rfl .bool) rfl rfl (Nat.le_of_ble_eq_true rfl) ?_
  refine ARun.nil ?_
  refine AW.seq ?_
  refine AW.seq ?_
  refine AW.region ?_
  refine ARun.pure (PureOp.loadPtrAgg rfl (.tmp rfl) vts_ag_29_2 rfl rfl (Nat.le_of_ble_eq_true rfl) (Nat.le_of_ble_eq_true rfl)) rfl rfl (Nat.le_of_ble_eq_true rfl) ?_
  refine ARun.pure (PureOp.call rfl (v_isHead h) ⟨⟨_, (.tmp rfl), ⟨.lst, .int, trivial⟩⟩, trivial⟩ vts_ca_46 trivial) rfl rfl (Nat.le_of_ble_eq_true rfl) ?_
  refine ARun.pure (PureOp.not rfl (.tmp rfl)) rfl rfl (Nat.le_of_ble_eq_true rfl) ?_
  refine ARun.pure (PureOp.move rfl (.tmp rfl)) rfl rfl (Nat.le_of_ble_eq_true rfl) ?_
  refine ARun.gpure (want := false) (.tf rfl) (fun hg1 => PureOp.loadPtrAgg rfl (.tmp rfl) vts_ag_47_3 rfl rfl (Nat.le_of_ble_eq_true rfl) (Nat.le_of_ble_eq_true rfl)) rfl rfl (Nat.le_of_ble_eq_true rfl) rfl (Nat.le_of_ble_eq_true rfl) ?_
  refine ARun.gpure (want := false) (.tf rfl) (fun hg2 => PureOp.call rfl (v_isSay x) ⟨⟨_, (.gtmp rfl hg2), ⟨.str, .int, .int, trivial⟩⟩, trivial⟩ vts_ca_58 trivial) rfl rfl (Nat.le_of_ble_eq_true rfl) rfl (Nat.le_of_ble_eq_true rfl) ?_
  refine ARun.gpure (want := false) (.tf rfl) (fun hg3 => PureOp.not rfl (.gtmp rfl hg3)) rfl rfl (Nat.le_of_ble_eq_true rfl) rfl (Nat.le_of_ble_eq_true rfl) ?_
  refine ARun.pure (PureOp.pick rfl (.tmp rfl) (fun _ => .bool) (fun hp5 => .gtmp rfl (not_of hp5))) rfl rfl (Nat.le_of_ble_eq_true rfl) ?_
  refine ARun.pure (PureOp.move rfl (.tmp rfl)) rfl rfl (Nat.le_of_ble_eq_true rfl) ?_
  refine ARun.gpure (want := false) (.tf rfl) (fun hg6 => PureOp.fieldPtr rfl (.tmp rfl) vts_fi_29_1_1) rfl rfl (Nat.le_of_ble_eq_true rfl) rfl (Nat.le_of_ble_eq_true rfl) ?_
  refine ARun.gpure (want := false) (.tf rfl) (fun hg7 => PureOp.loadPtr rfl (.gtmp rfl hg7) vts_pl_3 rfl rfl (Nat.le_of_ble_eq_true rfl) (Nat.le_of_ble_eq_true rfl)) rfl rfl (Nat.le_of_ble_eq_true rfl) rfl (Nat.le_of_ble_eq_true rfl) ?_
  refine ARun.gpure (want := false) (.tf rfl) (fun hg8 => PureOp.intOp rfl (.gtmp rfl hg8) .int rfl) rfl rfl (Nat.le_of_ble_eq_true rfl) rfl (Nat.le_of_ble_eq_true rfl) ?_
  refine ARun.pure (PureOp.pick rfl (.tmp rfl) (fun _ => .bool) (fun hp10 => .gtmp rfl (not_of hp10))) rfl rfl (Nat.le_of_ble_eq_true rfl) ?_
  refine ARun.nil ?_
  refine AW.cond (.tmp rfl) (fun hb11 => ?_) (fun hb11 => ?_)
  · have _u := True.intro
    have hcnd : ¬ (goodHead h = true ∧ sayB x = true ∧ ¬ h.offset = 1000) := by revert hb11; by_cases h1 : h.offset = 1000 <;> cases goodHead h <;> cases sayB x <;> simp [h1]
    refine AW.seq ?_
    refine AW.region ?_
    refine ARun.pure (PureOp.build (ys := []) (l := [.con (.slice none 0 0), .int .i64 0]) (pl := [(0, 1), (1, 1)]) (z := (.agg #[.slice none 0 0, .int .i64 0])) rfl (by kernel_rfl) (by kernel_rfl) (fun _ _ _ => ⟨_, _, rfl, rfl, ⟨_, _, rfl, rfl, rfl⟩⟩) trivial rfl) rfl rfl (Nat.le_of_ble_eq_true rfl) ?_
    refine ARun.store rfl (.tmp rfl) (.tmp rfl) (SV.cells_of (by exact ⟨⟨rfl, (fun _ e => by cases e), (fun _ e => by cases e)⟩, trivial, trivial⟩)) rfl (Nat.le_of_ble_eq_true rfl) vts_sz_29_2 rfl rfl ?_
    refine ARun.pure (PureOp.assign rfl .int) rfl rfl (Nat.le_of_ble_eq_true rfl) ?_
    refine ARun.pure (PureOp.assign rfl .bool) rfl rfl (Nat.le_of_ble_eq_true rfl) ?_
    refine ARun.nil ?_
    rw [show takeV h x = (⟨[], 0⟩, 0, false) from if_neg hcnd]
    exact AW.ret (show ∃ s t, ResL _ _ [.cell 4 29, .tmp 5, .tmp 6] s ∧ TvS _ (ofLeaf t) 0 s _ from ⟨_, fun a b => 1000, .inr (.inr (.inl ⟨_, _, _, _, _, _, rfl, .cells rfl vts_ag_29_2 rfl rfl (Nat.le_of_ble_eq_true rfl) (Nat.le_of_ble_eq_true rfl), .tmp rfl, .tmp rfl, rfl⟩)), ⟨⟨.nil, .int, trivial⟩, .int, .bool⟩⟩)
  · have _u := True.intro
    have hcnd : goodHead h = true ∧ sayB x = true ∧ ¬ h.offset = 1000 := by revert hb11; by_cases h1 : h.offset = 1000 <;> cases goodHead h <;> cases sayB x <;> simp [h1]
    have hg0 := good0 hcnd.1
    have hg1 := good_take hg0 hcnd.2.1
    have hof := good_off hcnd.1
    refine AW.skip ?_
    refine AW.seq ?_
    refine AW.region ?_
    refine ARun.pure (PureOp.loadPtrAgg rfl (.tmp rfl) vts_ag_29_2 rfl rfl (Nat.le_of_ble_eq_true rfl) (Nat.le_of_ble_eq_true rfl)) rfl rfl (Nat.le_of_ble_eq_true rfl) ?_
    refine ARun.prod (K := 3) rfl (v_cloneHead h (hd_ok hg0)) ⟨rfl, (by repeat first | exact trivial | refine ⟨by decide, by first | rfl | exact trivial | (intro a_ b_; first | exact getD_no rfl | exact rowC0_no rfl _ _ | ((try dsimp only); (repeat' split) <;> first | rfl | exact rowC0_no rfl _ _ | exact getD_no rfl)), ?_⟩)⟩ ⟨⟨_, (.tmp rfl), ⟨.lst, .int, trivial⟩⟩, trivial⟩ vts_ca_59 rfl rfl rfl rfl rfl (Nat.le_of_ble_eq_true rfl) ?_
    refine ARun.openAgg 24 0 3 0 2 2 1 h.rows.length 4 5 [.tre 3 0, .int .i64 h.offset] [.own 4 2 h.rows.length, .int .i64 h.offset] (fun p => ([.lst 2 h.rows.length (fun i0 j0 => ([.str ((h.rows.getD i0 (default : GRow)).name), .lst 2 (((h.rows.getD i0 (default : GRow)).samples).length) (fun i1 j1 => ([.int .i64 ((((h.rows.getD i0 (default : GRow)).samples).getD i1 (default : GSample)).at_), .int .i64 ((((h.rows.getD i0 (default : GRow)).samples).getD i1 (default : GSample)).value)] : List AV).getD j1 (.con undef))] : List AV).getD j0 (.con undef)), .int .i64 h.offset] : List AV).getD p (.con undef)) (fun i0 j0 => ([.str ((h.rows.getD i0 (default : GRow)).name), .lst 2 (((h.rows.getD i0 (default : GRow)).samples).length) (fun i1 j1 => ([.int .i64 ((((h.rows.getD i0 (default : GRow)).samples).getD i1 (default : GSample)).at_), .int .i64 ((((h.rows.getD i0 (default : GRow)).samples).getD i1 (default : GSample)).value)] : List AV).getD j1 (.con undef))] : List AV).getD j0 (.con undef)) (rowC0 h 5) rfl rfl rfl rfl (by decide) rfl (by decide) (fun _ _ => ⟨_, _, _, rfl⟩) (fun i j _ hj hne => match j, hj, hne with | 0, _, _ => rfl | 1, _, h => absurd rfl h | _ + 2, h, _ => absurd h (by omega)) ⟨rfl, (by repeat first | exact trivial | refine ⟨by decide, by first | rfl | exact trivial | (intro a_ b_; first | exact getD_no rfl | exact rowC0_no rfl _ _ | ((try dsimp only); (repeat' split) <;> first | rfl | exact rowC0_no rfl _ _ | exact getD_no rfl)), ?_⟩)⟩ ⟨rfl, (by repeat first | exact trivial | refine ⟨by decide, by first | rfl | exact trivial | (intro a_ b_; first | exact getD_no rfl | exact rowC0_no rfl _ _ | ((try dsimp only); (repeat' split) <;> first | rfl | exact rowC0_no rfl _ _ | exact getD_no rfl)), ?_⟩)⟩ (by decide) (fun i j _ hj => match j, hj with | 0, _ => rfl | 1, _ => rfl | _ + 2, h => absurd h (by omega)) ?_
    refine ARun.alloc (id := 6) (l := [.con (.slice none 0 0), .int .i64 0]) (z := (.agg #[.slice none 0 0, .int .i64 0])) rfl (by kernel_rfl) (fun _ _ _ => ⟨_, _, rfl, rfl, ⟨_, _, rfl, rfl, rfl⟩⟩) ⟨rfl, (by repeat first | exact trivial | refine ⟨by decide, by first | rfl | exact trivial | (intro a_ b_; first | exact getD_no rfl | exact rowC0_no rfl _ _ | ((try dsimp only); (repeat' split) <;> first | rfl | exact rowC0_no rfl _ _ | exact getD_no rfl)), ?_⟩)⟩ rfl rfl rfl (Nat.le_of_ble_eq_true rfl) ?_
    refine ARun.store rfl (.tmp rfl) (.tmp rfl) (SV.cells_of (by exact ⟨trivial, trivial, trivial⟩)) rfl (Nat.le_of_ble_eq_true rfl) vts_sz_29_2 rfl rfl ?_
    refine ARun.nil ?_
    refine AW.seq ?_
    refine AW.region ?_
    refine ARun.pure (PureOp.loadPtrAgg rfl (.tmp rfl) vts_ag_47_3 rfl rfl (Nat.le_of_ble_eq_true rfl) (Nat.le_of_ble_eq_true rfl)) rfl rfl (Nat.le_of_ble_eq_true rfl) ?_
    refine ARun.mutx (Hr := [(0, .cells [.lst 2 h.rows.length (fun i0 j0 => ([.str ((h.rows.getD i0 (default : GRow)).name), .lst 2 (((h.rows.getD i0 (default : GRow)).samples).length) (fun i1 j1 => ([.int .i64 ((((h.rows.getD i0 (default : GRow)).samples).getD i1 (default : GSample)).at_), .int .i64 ((((h.rows.getD i0 (default : GRow)).samples).getD i1 (default : GSample)).value)] : List AV).getD j1 (.con undef))] : List AV).getD j0 (.con undef)), .int .i64 h.offset]), (1, .cells [.str x.name, .int .i64 x.at_, .int .i64 x.value]), (2, .cells [.con (.slice none 0 0), .int .i64 0])]) (Hn := [(0, .cells [.lst 2 h.rows.length (fun i0 j0 => ([.str ((h.rows.getD i0 (default : GRow)).name), .lst 2 (((h.rows.getD i0 (default : GRow)).samples).length) (fun i1 j1 => ([.int .i64 ((((h.rows.getD i0 (default : GRow)).samples).getD i1 (default : GSample)).at_), .int .i64 ((((h.rows.getD i0 (default : GRow)).samples).getD i1 (default : GSample)).value)] : List AV).getD j1 (.con undef))] : List AV).getD j0 (.con undef)), .int .i64 h.offset]), (1, .cells [.str x.name, .int .i64 x.at_, .int .i64 x.value]), (2, .cells [.con (.slice none 0 0), .int .i64 0]), (6, .cells [.own 7 2 ((takeH h x).rows.length), .int .i64 ((takeH h x).offset)]), (7, .arr 2 ((takeH h x).rows.length) (rowC0 (takeH h x) 8)), (8, .trees ((takeH h x).rows.length) (rowX0 (takeH h x)))]) (g := fun zz => if zz = 1000000 then 6 else if zz = 1000001 then 4 else if zz = 1000002 then 5 else zz) (g' := fun zz => if zz = 1000000 then 6 else if zz = 1000001 then 4 else if zz = 1000002 then 5 else if zz = 77 then 7 else if zz = 78 then 8 else zz) (K := [77, 78, 1000000]) (T := [(7, 77), (8, 78)]) rfl (v_take h x hg0 ⟨by omega, by omega⟩) vts_ca_60 ⟨.inr (.tmp rfl), ⟨.inl ⟨_, (.tmp rfl), ⟨.str, .int, .int, trivial⟩⟩, trivial⟩⟩ ⟨⟨_, rfl, rfl⟩, ⟨_, rfl, ⟨rfl, rfl, fun a b _ _ => rowC0_ren (h := h) (K := 1000002) (K' := 5) rfl a b⟩⟩, ⟨_, rfl, ⟨rfl, fun _ _ => rfl⟩⟩, trivial⟩ ⟨⟨rfl, rfl⟩, ⟨rfl, rfl⟩, ⟨rfl, rfl⟩, trivial⟩ rfl ⟨⟨rfl, (by repeat first | exact trivial | refine ⟨by decide, by first | rfl | exact trivial | (intro a_ b_; first | exact getD_no rfl | exact rowC0_no rfl _ _ | ((try dsimp only); (repeat' split) <;> first | rfl | exact rowC0_no rfl _ _ | exact getD_no rfl)), ?_⟩)⟩, ⟨rfl, (by repeat first | exact trivial | refine ⟨by decide, by first | rfl | exact trivial | (intro a_ b_; first | exact getD_no rfl | exact rowC0_no rfl _ _ | ((try dsimp only); (repeat' split) <;> first | rfl | exact rowC0_no rfl _ _ | exact getD_no rfl)), ?_⟩)⟩, trivial⟩ (by kernel_rfl) (by kernel_rfl) (by kernel_rfl) ⟨.inl rfl, .inl rfl, .inl rfl, .inr ⟨1000000, _, rfl, rfl, rfl, rfl, rfl⟩, .inr ⟨77, _, rfl, rfl, rfl, ⟨rfl, rfl, fun a b _ _ => rowC0_ren (h := (takeH h x)) (K := 78) (K' := 8) rfl a b⟩, (fun a b _ _ => rowC0_hx rfl a b)⟩, .inr ⟨78, _, rfl, rfl, rfl, ⟨rfl, fun _ _ => rfl⟩, trivial⟩, trivial⟩ rfl rfl (Nat.le_of_ble_eq_true rfl) (r' := .one (.int .i64 ((takeCode h x : Nat) : Int))) rfl ?_
    refine ARun.pure (PureOp.assign rfl (.tmp rfl)) rfl rfl (Nat.le_of_ble_eq_true rfl) ?_
    refine ARun.nil ?_
    refine AW.seq ?_
    refine AW.region ?_
    refine ARun.pure (PureOp.loadPtrAgg rfl (.tmp rfl) vts_ag_29_2 rfl rfl (Nat.le_of_ble_eq_true rfl) (Nat.le_of_ble_eq_true rfl)) rfl rfl (Nat.le_of_ble_eq_true rfl) ?_
    refine ARun.pure (PureOp.move rfl (.tmp rfl)) rfl rfl (Nat.le_of_ble_eq_true rfl) ?_
    refine ARun.store rfl (.tmp rfl) (.tmp rfl) (SV.cells_of (by exact ⟨trivial, trivial, trivial⟩)) rfl (Nat.le_of_ble_eq_true rfl) vts_sz_29_2 rfl rfl ?_
    refine ARun.pure (PureOp.assign rfl (.tmp rfl)) rfl rfl (Nat.le_of_ble_eq_true rfl) ?_
    refine ARun.pure (PureOp.assign rfl .bool) rfl rfl (Nat.le_of_ble_eq_true rfl) ?_
    refine ARun.nil ?_
    rw [show takeV h x = (takeH h x, takeCode h x, true) from if_pos hcnd]
    exact AW.ret (show ∃ s t, ResL _ _ [.cell 4 29, .tmp 5, .tmp 6] s ∧ TvS _ (ofLeaf t) 0 s _ from ⟨_, fun a b => if a = 7 then 0 else if a = 8 then 0 else 1000, .inr (.inr (.inl ⟨_, _, _, _, _, _, rfl, .cells rfl vts_ag_29_2 rfl rfl (Nat.le_of_ble_eq_true rfl) (Nat.le_of_ble_eq_true rfl), .tmp rfl, .tmp rfl, rfl⟩)), ⟨⟨(Tv.colK (K := 8) (c := 1) (X := rowX0 (takeH h x)) rfl rfl rfl rfl (Nat.le_refl _) (by rfl) (fun i j hi hj hne => match j, hj, hne with | 0, _, _ => ⟨rfl, rfl⟩ | 1, _, h => absurd rfl h | _ + 2, h, _ => absurd h (by omega)) (fun i hi => ⟨rfl, rfl⟩) rfl (by decide) (fun _ => by rfl)), .int, trivial⟩, .int, .bool⟩⟩)

theorem v_sTakeSay (h : GHead) (x : GSay) : FnT Try.prog 24 [.agg [.lst 2 h.rows.length (fun i0 j0 => ([.str ((h.rows.getD i0 (default : GRow)).name), .lst 2 (((h.rows.getD i0 (default : GRow)).samples).length) (fun i1 j1 => ([.int .i64 ((((h.rows.getD i0 (default : GRow)).samples).getD i1 (default : GSample)).at_), .int .i64 ((((h.rows.getD i0 (default : GRow)).samples).getD i1 (default : GSample)).value)] : List AV).getD j1 (.con undef))] : List AV).getD j0 (.con undef)), .int .i64 h.offset], .agg [.str x.name, .int .i64 x.at_, .int .i64 x.value]] (.tup3 (.agg [.lst 2 ((((takeV h x).1).rows).length) (fun i0 j0 => ([.str (((((takeV h x).1).rows).getD i0 (default : GRow)).name), .lst 2 ((((((takeV h x).1).rows).getD i0 (default : GRow)).samples).length) (fun i1 j1 => ([.int .i64 (((((((takeV h x).1).rows).getD i0 (default : GRow)).samples).getD i1 (default : GSample)).at_), .int .i64 (((((((takeV h x).1).rows).getD i0 (default : GRow)).samples).getD i1 (default : GSample)).value)] : List AV).getD j1 (.con undef))] : List AV).getD j0 (.con undef)), .int .i64 (((takeV h x).1).offset)]) (.one (.int .i64 (((takeV h x).2.1 : Nat) : Int))) (.one (.bool ((takeV h x).2.2)))) := by
  have hw := True.intro
  refine FnT.of_body (fn := Try.f24) Try.func24 rfl (Nat.le_of_ble_eq_true rfl)  ?_
  intro w0
  show AW _ 33 _ _ _ _
  refine AW.seq ?_
  refine AW.region ?_
  refine ARun.box (id := 0) rfl (.tmp rfl) (SV.cells_of (by exact ⟨trivial, trivial, trivial⟩)) ⟨rfl, (by repeat first | exact trivial | refine ⟨by decide, by first | rfl | exact trivial | (intro a_ b_; first | exact getD_no rfl | exact rowC0_no rfl _ _ | ((try dsimp only); (repeat' split) <;> first | rfl | exact rowC0_no rfl _ _ | exact getD_no rfl)), ?_⟩)⟩ rfl rfl rfl (Nat.le_of_ble_eq_true rfl) ?_
  refine ARun.box (id := 1) rfl (.tmp rfl) (SV.cells_of (by exact ⟨trivial, trivial, trivial, trivial⟩)) ⟨rfl, (by repeat first | exact trivial | refine ⟨by decide, by first | rfl | exact trivial | (intro a_ b_; first | exact getD_no rfl | exact rowC0_no rfl _ _ | ((try dsimp only); (repeat' split) <;> first | rfl | exact rowC0_no rfl _ _ | exact getD_no rfl)), ?_⟩)⟩ rfl rfl rfl (Nat.le_of_ble_eq_true rfl) ?_
  refine ARun.alloc (id := 2) (l := [.con (.slice none 0 0), .int .i64 0]) (z := (.agg #[.slice none 0 0, .int .i64 0])) rfl (by kernel_rfl) (fun _ _ _ => ⟨_, _, rfl, rfl, ⟨_, _, rfl, rfl, rfl⟩⟩) ⟨rfl, (by repeat first | exact trivial | refine ⟨by decide, by first | rfl | exact trivial | (intro a_ b_; first | exact getD_no rfl | exact rowC0_no rfl _ _ | ((try dsimp only); (repeat' split) <;> first | rfl | exact rowC0_no rfl _ _ | exact getD_no rfl)), ?_⟩)⟩ rfl rfl rfl (Nat.le_of_ble_eq_true rfl) ?_
  refine ARun.pure (PureOp.assign rfl .int) rfl rfl (Nat.le_of_ble_eq_true rfl) ?_
  refine ARun.pure (PureOp.assign rfl .bool) rfl rfl (Nat.le_of_ble_eq_true rfl) ?_
  refine ARun.nil ?_
  refine AW.seq ?_
  refine AW.seq ?_
  refine AW.region ?_
  refine ARun.pure (PureOp.loadPtrAgg rfl (.tmp rfl) vts_ag_29_2 rfl rfl (Nat.le_of_ble_eq_true rfl) (Nat.le_of_ble_eq_true rfl)) rfl rfl (Nat.le_of_ble_eq_true rfl) ?_
  refine ARun.pure (PureOp.call rfl (v_specGoodHead h) ⟨⟨_, (.tmp rfl), ⟨.lst, .int, trivial⟩⟩, trivial⟩ vts_ca_10 trivial) rfl rfl (Nat.le_of_ble_eq_true rfl) ?_
  refine ARun.pure (PureOp.not rfl (.tmp rfl)) rfl rfl (Nat.le_of_ble_eq_true rfl) ?_
  refine ARun.pure (PureOp.move rfl (.tmp rfl)) rfl rfl (Nat.le_of_ble_eq_true rfl) ?_
  refine ARun.gpure (want := false) (.tf rfl) (fun hg1 => PureOp.loadPtrAgg rfl (.tmp rfl) vts_ag_47_3 rfl rfl (Nat.le_of_ble_eq_true rfl) (Nat.le_of_ble_eq_true rfl)) rfl rfl (Nat.le_of_ble_eq_true rfl) rfl (Nat.le_of_ble_eq_true rfl) ?_
  refine ARun.gpure (want := false) (.tf rfl) (fun hg2 => PureOp.call rfl (v_l13Say x) ⟨⟨_, (.gtmp rfl hg2), ⟨.str, .int, .int, trivial⟩⟩, trivial⟩ vts_ca_55 trivial) rfl rfl (Nat.le_of_ble_eq_true rfl) rfl (Nat.le_of_ble_eq_true rfl) ?_
  refine ARun.gpure (want := false) (.tf rfl) (fun hg3 => PureOp.not rfl (.gtmp rfl hg3)) rfl rfl (Nat.le_of_ble_eq_true rfl) rfl (Nat.le_of_ble_eq_true rfl) ?_
  refine ARun.pure (PureOp.pick rfl (.tmp rfl) (fun _ => .bool) (fun hp5 => .gtmp rfl (not_of hp5))) rfl rfl (Nat.le_of_ble_eq_true rfl) ?_
  refine ARun.pure (PureOp.move rfl (.tmp rfl)) rfl rfl (Nat.le_of_ble_eq_true rfl) ?_
  refine ARun.gpure (want := false) (.tf rfl) (fun hg6 => PureOp.fieldPtr rfl (.tmp rfl) vts_fi_29_1_1) rfl rfl (Nat.le_of_ble_eq_true rfl) rfl (Nat.le_of_ble_eq_true rfl) ?_
  refine ARun.gpure (want := false) (.tf rfl) (fun hg7 => PureOp.loadPtr rfl (.gtmp rfl hg7) vts_pl_3 rfl rfl (Nat.le_of_ble_eq_true rfl) (Nat.le_of_ble_eq_true rfl)) rfl rfl (Nat.le_of_ble_eq_true rfl) rfl (Nat.le_of_ble_eq_true rfl) ?_
  refine ARun.gpure (want := false) (.tf rfl) (fun hg8 => PureOp.intOp rfl (.gtmp rfl hg8) .int rfl) rfl rfl (Nat.le_of_ble_eq_true rfl) rfl (Nat.le_of_ble_eq_true rfl) ?_
  refine ARun.pure (PureOp.pick rfl (.tmp rfl) (fun _ => .bool) (fun hp10 => .gtmp rfl (not_of hp10))) rfl rfl (Nat.le_of_ble_eq_true rfl) ?_
  refine ARun.nil ?_
  refine AW.cond (.tmp rfl) (fun hb11 => ?_) (fun hb11 => ?_)
  · have _u := True.intro
    have hcnd : ¬ (goodHead h = true ∧ sayB x = true ∧ ¬ h.offset = 1000) := by revert hb11; by_cases h1 : h.offset = 1000 <;> cases goodHead h <;> cases sayB x <;> simp [h1]
    refine AW.seq ?_
    refine AW.region ?_
    refine ARun.pure (PureOp.build (ys := []) (l := [.con (.slice none 0 0), .int .i64 0]) (pl := [(0, 1), (1, 1)]) (z := (.agg #[.slice none 0 0, .int .i64 0])) rfl (by kernel_rfl) (by kernel_rfl) (fun _ _ _ => ⟨_, _, rfl, rfl, ⟨_, _, rfl, rfl, rfl⟩⟩) trivial rfl) rfl rfl (Nat.le_of_ble_eq_true rfl) ?_
    refine ARun.store rfl (.tmp rfl) (.tmp rfl) (SV.cells_of (by exact ⟨⟨rfl, (fun _ e => by cases e), (fun _ e => by cases e)⟩, trivial, trivial⟩)) rfl (Nat.le_of_ble_eq_true rfl) vts_sz_29_2 rfl rfl ?_
    refine ARun.pure (PureOp.assign rfl .int) rfl rfl (Nat.le_of_ble_eq_true rfl) ?_
    refine ARun.pure (PureOp.assign rfl .bool) rfl rfl (Nat.le_of_ble_eq_true rfl) ?_
    refine ARun.nil ?_
    rw [show takeV h x = (⟨[], 0⟩, 0, false) from if_neg hcnd]
    exact AW.ret (show ∃ s t, ResL _ _ [.cell 4 29, .tmp 5, .tmp 6] s ∧ TvS _ (ofLeaf t) 0 s _ from ⟨_, fun a b => 1000, .inr (.inr (.inl ⟨_, _, _, _, _, _, rfl, .cells rfl vts_ag_29_2 rfl rfl (Nat.le_of_ble_eq_true rfl) (Nat.le_of_ble_eq_true rfl), .tmp rfl, .tmp rfl, rfl⟩)), ⟨⟨.nil, .int, trivial⟩, .int, .bool⟩⟩)
  · have _u := True.intro
    have hcnd : goodHead h = true ∧ sayB x = true ∧ ¬ h.offset = 1000 := by revert hb11; by_cases h1 : h.offset = 1000 <;> cases goodHead h <;> cases sayB x <;> simp [h1]
    have hg0 := good0 hcnd.1
    have hg1 := good_take hg0 hcnd.2.1
    have hof := good_off hcnd.1
    refine AW.skip ?_
    refine AW.seq ?_
    refine AW.anyX [⟨[0], [], [], []⟩, ⟨[], [3, 4, 5], [3, 4, 5], [(4, .arr 2 h.rows.length (rowC0 h 5)), (5, .trees h.rows.length (rowX0 h))]⟩, ⟨[1], [], [], []⟩, ⟨[], [4, 5, 6, 7], [6, 7], [(6, .arr 2 ((takeH h x).rows.length) (rowC0 (takeH h x) 7)), (7, .trees ((takeH h x).rows.length) (rowX0 (takeH h x)))]⟩, ⟨[], [], [], []⟩, ⟨[], [], [], []⟩, ⟨[], [], [], []⟩, ⟨[], [8], [8], [(8, .cells [.con (.slice none 0 0), .int .i64 0])]⟩, ⟨[], [8], [], [(8, .cells [.own 6 2 ((takeH h x).rows.length), .int .i64 ((takeH h x).offset)])]⟩, ⟨[], [], [], []⟩] (by kernel_rfl) (by kernel_rfl) (by kernel_rfl) ⟨⟨.inl rfl, .inr (.inr (by repeat first | exact trivial | refine And.intro ?_ ?_ | exact rfl | ((intro a_ b_; first | exact getD_no rfl | exact rowC0_no rfl _ _ | ((try dsimp only); (repeat' split) <;> first | rfl | exact rowC0_no rfl _ _ | exact getD_no rfl))))), .inr (.inr trivial), .inr (.inr (by repeat first | exact trivial | refine And.intro ?_ ?_ | exact rfl | ((intro a_ b_; first | exact getD_no rfl | exact rowC0_no rfl _ _ | ((try dsimp only); (repeat' split) <;> first | rfl | exact rowC0_no rfl _ _ | exact getD_no rfl))))), .inr (.inr trivial), .inr (.inr trivial), .inr (.inr trivial), .inr (.inr (by repeat first | exact trivial | refine And.intro ?_ ?_ | exact rfl | ((intro a_ b_; first | exact getD_no rfl | exact rowC0_no rfl _ _ | ((try dsimp only); (repeat' split) <;> first | rfl | exact rowC0_no rfl _ _ | exact getD_no rfl))))), .inr (.inr trivial), .inr (.inr trivial), trivial⟩, ⟨.inr (.inr trivial), .inl rfl, .inr (.inr trivial), .inr (.inr (by repeat first | exact trivial | refine And.intro ?_ ?_ | exact rfl | ((intro a_ b_; first | exact getD_no rfl | exact rowC0_no rfl _ _ | ((try dsimp only); (repeat' split) <;> first | rfl | exact rowC0_no rfl _ _ | exact getD_no rfl))))), .inr (.inr trivial), .inr (.inr trivial), .inr (.inr trivial), .inr (.inr (by repeat first | exact trivial | refine And.intro ?_ ?_ | exact rfl | ((intro a_ b_; first | exact getD_no rfl | exact rowC0_no rfl _ _ | ((try dsimp only); (repeat' split) <;> first | rfl | exact rowC0_no rfl _ _ | exact getD_no rfl))))), .inr (.inr trivial), .inr (.inr trivial), trivial⟩, ⟨.inr (.inr trivial), .inr (.inr (by repeat first | exact trivial | refine And.intro ?_ ?_ | exact rfl | ((intro a_ b_; first | exact getD_no rfl | exact rowC0_no rfl _ _ | ((try dsimp only); (repeat' split) <;> first | rfl | exact rowC0_no rfl _ _ | exact getD_no rfl))))), .inl rfl, .inr (.inr (by repeat first | exact trivial | refine And.intro ?_ ?_ | exact rfl | ((intro a_ b_; first | exact getD_no rfl | exact rowC0_no rfl _ _ | ((try dsimp only); (repeat' split) <;> first | rfl | exact rowC0_no rfl _ _ | exact getD_no rfl))))), .inr (.inr trivial), .inr (.inr trivial), .inr (.inr trivial), .inr (.inr (by repeat first | exact trivial | refine And.intro ?_ ?_ | exact rfl | ((intro a_ b_; first | exact getD_no rfl | exact rowC0_no rfl _ _ | ((try dsimp only); (repeat' split) <;> first | rfl | exact rowC0_no rfl _ _ | exact getD_no rfl))))), .inr (.inr trivial), .inr (.inr trivial), trivial⟩, ⟨.inr (.inr trivial), .inr (.inl (by kernel_rfl)), .inr (.inr trivial), .inl rfl, .inr (.inr trivial), .inr (.inr trivial), .inr (.inr trivial), .inr (.inr (by repeat first | exact trivial | refine And.intro ?_ ?_ | exact rfl | ((intro a_ b_; first | exact getD_no rfl | exact rowC0_no rfl _ _ | ((try dsimp only); (repeat' split) <;> first | rfl | exact rowC0_no rfl _ _ | exact getD_no rfl))))), .inr (.inr trivial), .inr (.inr trivial), trivial⟩, ⟨.inr (.inr trivial), .inr (.inl (by kernel_rfl)), .inr (.inr trivial), .inr (.inl (by kernel_rfl)), .inl rfl, .inr (.inr trivial), .inr (.inr trivial), .inr (.inr (by repeat first | exact trivial | refine And.intro ?_ ?_ | exact rfl | ((intro a_ b_; first | exact getD_no rfl | exact rowC0_no rfl _ _ | ((try dsimp only); (repeat' split) <;> first | rfl | exact rowC0_no rfl _ _ | exact getD_no rfl))))), .inr (.inr trivial), .inr (.inr trivial), trivial⟩, ⟨.inr (.inr trivial), .inr (.inl (by kernel_rfl)), .inr (.inr trivial), .inr (.inl (by kernel_rfl)), .inr (.inr trivial), .inl rfl, .inr (.inr trivial), .inr (.inr (by repeat first | exact trivial | refine And.intro ?_ ?_ | exact rfl | ((intro a_ b_; first | exact getD_no rfl | exact rowC0_no rfl _ _ | ((try dsimp only); (repeat' split) <;> first | rfl | exact rowC0_no rfl _ _ | exact getD_no rfl))))), .inr (.inr trivial), .inr (.inr trivial), trivial⟩, ⟨.inr (.inr trivial), .inr (.inl (by kernel_rfl)), .inr (.inr trivial), .inr (.inl (by kernel_rfl)), .inr (.inr trivial), .inr (.inr trivial), .inl rfl, .inr (.inr (by repeat first | exact trivial | refine And.intro ?_ ?_ | exact rfl | ((intro a_ b_; first | exact getD_no rfl | exact rowC0_no rfl _ _ | ((try dsimp only); (repeat' split) <;> first | rfl | exact rowC0_no rfl _ _ | exact getD_no rfl))))), .inr (.inr trivial), .inr (.inr trivial), trivial⟩, ⟨.inr (.inr trivial), .inr (.inr (by repeat first | exact trivial | refine And.intro ?_ ?_ | exact rfl | ((intro a_ b_; first | exact getD_no rfl | exact rowC0_no rfl _ _ | ((try dsimp only); (repeat' split) <;> first | rfl | exact rowC0_no rfl _ _ | exact getD_no rfl))))), .inr (.inr trivial), .inr (.inr (by repeat first | exact trivial | refine And.intro ?_ ?_ | exact rfl | ((intro a_ b_; first | exact getD_no rfl | exact rowC0_no rfl _ _ | ((try dsimp only); (repeat' split) <;> first | rfl | exact rowC0_no rfl _ _ | exact getD_no rfl))))), .inr (.inr trivial), .inr (.inr trivial), .inr (.inr trivial), .inl rfl, .inr (.inr trivial), .inr (.inr trivial), trivial⟩, ⟨.inr (.inr trivial), .inr (.inl (by kernel_rfl)), .inr (.inr trivial), .inr (.inl (by kernel_rfl)), .inr (.inr trivial), .inr (.inr trivial), .inr (.inr trivial), .inr (.inl (by kernel_rfl)), .inl rfl, .inr (.inr trivial), trivial⟩, ⟨.inr (.inr trivial), .inr (.inl (by kernel_rfl)), .inr (.inr trivial), .inr (.inl (by kernel_rfl)), .inr (.inr trivial), .inr (.inr trivial), .inr (.inr trivial), .inr (.inl (by kernel_rfl)), .inr (.inr trivial), .inl rfl, trivial⟩, trivial⟩ ⟨trivial, ⟨(by repeat first | exact trivial | refine ⟨by decide, by first | rfl | exact trivial | (intro a_ b_; first | exact getD_no rfl | exact rowC0_no rfl _ _ | ((try dsimp only); (repeat' split) <;> first | rfl | exact rowC0_no rfl _ _ | exact getD_no rfl)), ?_⟩), (by repeat first | exact trivial | refine ⟨by decide, by first | rfl | exact trivial | (intro a_ b_; first | exact getD_no rfl | exact rowC0_no rfl _ _ | ((try dsimp only); (repeat' split) <;> first | rfl | exact rowC0_no rfl _ _ | exact getD_no rfl)), ?_⟩), (by repeat first | exact trivial | refine ⟨by decide, by first | rfl | exact trivial | (intro a_ b_; first | exact getD_no rfl | exact rowC0_no rfl _ _ | ((try dsimp only); (repeat' split) <;> first | rfl | exact rowC0_no rfl _ _ | exact getD_no rfl)), ?_⟩), trivial⟩, trivial, ⟨(by repeat first | exact trivial | refine ⟨by decide, by first | rfl | exact trivial | (intro a_ b_; first | exact getD_no rfl | exact rowC0_no rfl _ _ | ((try dsimp only); (repeat' split) <;> first | rfl | exact rowC0_no rfl _ _ | exact getD_no rfl)), ?_⟩), (by repeat first | exact trivial | refine ⟨by decide, by first | rfl | exact trivial | (intro a_ b_; first | exact getD_no rfl | exact rowC0_no rfl _ _ | ((try dsimp only); (repeat' split) <;> first | rfl | exact rowC0_no rfl _ _ | exact getD_no rfl)), ?_⟩), trivial⟩, trivial, trivial, trivial, ⟨(by repeat first | exact trivial | refine ⟨by decide, by first | rfl | exact trivial | (intro a_ b_; first | exact getD_no rfl | exact rowC0_no rfl _ _ | ((try dsimp only); (repeat' split) <;> first | rfl | exact rowC0_no rfl _ _ | exact getD_no rfl)), ?_⟩), trivial⟩, trivial, trivial, trivial⟩ ?_
    refine ADX.pure [(0, .cells [.lst 2 h.rows.length (fun i0 j0 => ([.str ((h.rows.getD i0 (default : GRow)).name), .lst 2 (((h.rows.getD i0 (default : GRow)).samples).length) (fun i1 j1 => ([.int .i64 ((((h.rows.getD i0 (default : GRow)).samples).getD i1 (default : GSample)).at_), .int .i64 ((((h.rows.getD i0 (default : GRow)).samples).getD i1 (default : GSample)).value)] : List AV).getD j1 (.con undef))] : List AV).getD j0 (.con undef)), .int .i64 h.offset])] (PureOp.loadPtrAgg rfl (.tmp rfl) vts_ag_29_2 rfl rfl (Nat.le_of_ble_eq_true rfl) (Nat.le_of_ble_eq_true rfl)) rfl rfl (Nat.le_of_ble_eq_true rfl) ⟨rfl, trivial⟩ rfl ?_
    refine ADX.eff (tk := [3, 4, 5]) (new := [3, 4, 5]) (s := .agg [.own 4 2 h.rows.length, .int .i64 h.offset]) (F := [(25, .agg [.own 4 2 h.rows.length, .int .i64 h.offset]), (25, .agg [.tre 3 0, .int .i64 h.offset])]) (Hin := []) (Hout := [(4, .arr 2 h.rows.length (rowC0 h 5)), (5, .trees h.rows.length (rowX0 h))]) (fun E X hE hX Q rest hk => ?_) trivial ⟨rfl, rfl⟩ rfl rfl rfl rfl ⟨(by repeat first | exact trivial | refine ⟨by decide, by first | rfl | exact trivial | (intro a_ b_; first | exact getD_no rfl | exact rowC0_no rfl _ _ | ((try dsimp only); (repeat' split) <;> first | rfl | exact rowC0_no rfl _ _ | exact getD_no rfl)), ?_⟩), (by repeat first | exact trivial | refine ⟨by decide, by first | rfl | exact trivial | (intro a_ b_; first | exact getD_no rfl | exact rowC0_no rfl _ _ | ((try dsimp only); (repeat' split) <;> first | rfl | exact rowC0_no rfl _ _ | exact getD_no rfl)), ?_⟩), (by repeat first | exact trivial | refine ⟨by decide, by first | rfl | exact trivial | (intro a_ b_; first | exact getD_no rfl | exact rowC0_no rfl _ _ | ((try dsimp only); (repeat' split) <;> first | rfl | exact rowC0_no rfl _ _ | exact getD_no rfl)), ?_⟩), trivial⟩ rfl (fun _ e => by cases e; exact Nat.le_of_ble_eq_true rfl) ?_
    · refine ARun.prod (K := 3) rfl (v_l13Own h (hd_ok hg0)) (by repeat first | exact Fr.ext2 ⟨rfl, (by repeat first | exact trivial | refine ⟨by decide, by first | rfl | exact trivial | (intro a_ b_; first | exact getD_no rfl | exact rowC0_no rfl _ _ | ((try dsimp only); (repeat' split) <;> first | rfl | exact rowC0_no rfl _ _ | exact getD_no rfl)), ?_⟩)⟩ hE hX rfl rfl | refine Fr.consE rfl ?_ | refine Fr.consH (by decide) (by first | rfl | exact trivial | (intro a_ b_; first | exact getD_no rfl | exact rowC0_no rfl _ _ | ((try dsimp only); (repeat' split) <;> first | rfl | exact rowC0_no rfl _ _ | exact getD_no rfl))) ?_ | refine Fr.filt ?_) ⟨⟨_, (.tmp rfl), ⟨.lst, .int, trivial⟩⟩, trivial⟩ vts_ca_57 rfl rfl rfl rfl rfl (Nat.le_of_ble_eq_true rfl) ?_
      refine ARun.openAgg 25 0 3 0 2 2 1 h.rows.length 4 5 [.tre 3 0, .int .i64 h.offset] [.own 4 2 h.rows.length, .int .i64 h.offset] (fun p => ([.lst 2 h.rows.length (fun i0 j0 => ([.str ((h.rows.getD i0 (default : GRow)).name), .lst 2 (((h.rows.getD i0 (default : GRow)).samples).length) (fun i1 j1 => ([.int .i64 ((((h.rows.getD i0 (default : GRow)).samples).getD i1 (default : GSample)).at_), .int .i64 ((((h.rows.getD i0 (default : GRow)).samples).getD i1 (default : GSample)).value)] : List AV).getD j1 (.con undef))] : List AV).getD j0 (.con undef)), .int .i64 h.offset] : List AV).getD p (.con undef)) (fun i0 j0 => ([.str ((h.rows.getD i0 (default : GRow)).name), .lst 2 (((h.rows.getD i0 (default : GRow)).samples).length) (fun i1 j1 => ([.int .i64 ((((h.rows.getD i0 (default : GRow)).samples).getD i1 (default : GSample)).at_), .int .i64 ((((h.rows.getD i0 (default : GRow)).samples).getD i1 (default : GSample)).value)] : List AV).getD j1 (.con undef))] : List AV).getD j0 (.con undef)) (rowC0 h 5) rfl rfl rfl rfl (by decide) rfl (by decide) (fun _ _ => ⟨_, _, _, rfl⟩) (fun i j _ hj hne => match j, hj, hne with | 0, _, _ => rfl | 1, _, h => absurd rfl h | _ + 2, h, _ => absurd h (by omega)) (by repeat first | exact Fr.ext2 ⟨rfl, (by repeat first | exact trivial | refine ⟨by decide, by first | rfl | exact trivial | (intro a_ b_; first | exact getD_no rfl | exact rowC0_no rfl _ _ | ((try dsimp only); (repeat' split) <;> first | rfl | exact rowC0_no rfl _ _ | exact getD_no rfl)), ?_⟩)⟩ hE hX rfl rfl | refine Fr.consE rfl ?_ | refine Fr.consH (by decide) (by first | rfl | exact trivial | (intro a_ b_; first | exact getD_no rfl | exact rowC0_no rfl _ _ | ((try dsimp only); (repeat' split) <;> first | rfl | exact rowC0_no rfl _ _ | exact getD_no rfl))) ?_ | refine Fr.filt ?_) (by repeat first | exact Fr.ext2 ⟨rfl, (by repeat first | exact trivial | refine ⟨by decide, by first | rfl | exact trivial | (intro a_ b_; first | exact getD_no rfl | exact rowC0_no rfl _ _ | ((try dsimp only); (repeat' split) <;> first | rfl | exact rowC0_no rfl _ _ | exact getD_no rfl)), ?_⟩)⟩ hE hX rfl rfl | refine Fr.consE rfl ?_ | refine Fr.consH (by decide) (by first | rfl | exact trivial | (intro a_ b_; first | exact getD_no rfl | exact rowC0_no rfl _ _ | ((try dsimp only); (repeat' split) <;> first | rfl | exact rowC0_no rfl _ _ | exact getD_no rfl))) ?_ | refine Fr.filt ?_) (by decide) (fun i j _ hj => match j, hj with | 0, _ => rfl | 1, _ => rfl | _ + 2, h => absurd h (by omega)) ?_
      refine ARun.hleX ?_ ?_ hk
      · exact HeapLe.one rfl (HeapLe.one rfl trivial)
      · repeat (first | exact LkX.refl | refine LkX.cons (hX.none rfl) ?_ | refine LkX.filter (hX.none rfl) ?_)
    refine ADX.pure [(1, .cells [.str x.name, .int .i64 x.at_, .int .i64 x.value])] (PureOp.loadPtrAgg rfl (.tmp rfl) vts_ag_47_3 rfl rfl (Nat.le_of_ble_eq_true rfl) (Nat.le_of_ble_eq_true rfl)) rfl rfl (Nat.le_of_ble_eq_true rfl) ⟨rfl, trivial⟩ rfl ?_
    refine ADX.eff (tk := [4, 5, 6, 7]) (new := [6, 7]) (s := .tup2 (.agg [.own 6 2 ((takeH h x).rows.length), .int .i64 ((takeH h x).offset)]) (.one (.int .i64 ((takeCode h x : Nat) : Int)))) (F := [(27, .tup2 (.agg [.own 6 2 ((takeH h x).rows.length), .int .i64 ((takeH h x).offset)]) (.one (.int .i64 ((takeCode h x : Nat) : Int))))]) (Hin := [(4, .arr 2 h.rows.length (rowC0 h 5)), (5, .trees h.rows.length (rowX0 h))]) (Hout := [(6, .arr 2 ((takeH h x).rows.length) (rowC0 (takeH h x) 7)), (7, .trees ((takeH h x).rows.length) (rowX0 (takeH h x)))]) (fun E X hE hX Q rest hk => ?_) ⟨rfl, rfl, trivial⟩ ⟨rfl, rfl⟩ rfl rfl rfl rfl ⟨(by repeat first | exact trivial | refine ⟨by decide, by first | rfl | exact trivial | (intro a_ b_; first | exact getD_no rfl | exact rowC0_no rfl _ _ | ((try dsimp only); (repeat' split) <;> first | rfl | exact rowC0_no rfl _ _ | exact getD_no rfl)), ?_⟩), (by repeat first | exact trivial | refine ⟨by decide, by first | rfl | exact trivial | (intro a_ b_; first | exact getD_no rfl | exact rowC0_no rfl _ _ | ((try dsimp only); (repeat' split) <;> first | rfl | exact rowC0_no rfl _ _ | exact getD_no rfl)), ?_⟩), trivial⟩ rfl (fun _ e => by cases e; exact Nat.le_of_ble_eq_true rfl) ?_
    · refine ARun.mutxX hX (Hr := []) (Hn := [(6, .arr 2 ((takeH h x).rows.length) (rowC0 (takeH h x) 7)), (7, .trees ((takeH h x).rows.length) (rowX0 (takeH h x)))]) (g := fun zz => if zz = 1000001 then 4 else if zz = 1000002 then 5 else zz) (g' := fun zz => if zz = 1000001 then 4 else if zz = 1000002 then 5 else if zz = 77 then 6 else if zz = 78 then 7 else zz) (K := [77, 78]) (T := [(6, 77), (7, 78)]) rfl (v_l13Take h x hg0 ⟨by omega, by omega⟩) vts_ca_56 ⟨.inr (.tmp rfl), ⟨.inl ⟨_, (.tmp rfl), ⟨.str, .int, .int, trivial⟩⟩, trivial⟩⟩ rfl rfl rfl ⟨⟨_, rfl, ⟨rfl, rfl, fun a b _ _ => rowC0_ren (h := h) (K := 1000002) (K' := 5) rfl a b⟩⟩, ⟨_, rfl, ⟨rfl, fun _ _ => rfl⟩⟩, trivial⟩ trivial rfl ⟨(Fr.ext2 ⟨rfl, (by repeat first | exact trivial | refine ⟨by decide, by first | rfl | exact trivial | (intro a_ b_; first | exact getD_no rfl | exact rowC0_no rfl _ _ | ((try dsimp only); (repeat' split) <;> first | rfl | exact rowC0_no rfl _ _ | exact getD_no rfl)), ?_⟩)⟩ hE hX rfl rfl), (Fr.ext2 ⟨rfl, (by repeat first | exact trivial | refine ⟨by decide, by first | rfl | exact trivial | (intro a_ b_; first | exact getD_no rfl | exact rowC0_no rfl _ _ | ((try dsimp only); (repeat' split) <;> first | rfl | exact rowC0_no rfl _ _ | exact getD_no rfl)), ?_⟩)⟩ hE hX rfl rfl), trivial⟩ (by kernel_rfl) (by kernel_rfl) (by kernel_rfl) ⟨.inr ⟨77, _, rfl, rfl, rfl, ⟨rfl, rfl, fun a b _ _ => rowC0_ren (h := (takeH h x)) (K := 78) (K' := 7) rfl a b⟩, (fun a b _ _ => rowC0_hx rfl a b)⟩, .inr ⟨78, _, rfl, rfl, rfl, ⟨rfl, fun _ _ => rfl⟩, trivial⟩, trivial⟩ rfl rfl (Nat.le_of_ble_eq_true rfl) (r' := .tup2 (.agg [.own 6 2 ((takeH h x).rows.length), .int .i64 ((takeH h x).offset)]) (.one (.int .i64 ((takeCode h x : Nat) : Int)))) rfl ?_
      refine ARun.hleX ?_ ?_ hk
      · exact HeapLe.one rfl (HeapLe.one rfl trivial)
      · repeat (first | exact LkX.refl | refine LkX.cons (hX.none rfl) ?_ | refine LkX.filter (hX.none rfl) ?_)
    refine ADX.pure [] (PureOp.move rfl (.tmp rfl)) rfl rfl (Nat.le_of_ble_eq_true rfl) trivial rfl ?_
    refine ADX.pure [] (PureOp.ext2a rfl (.tmp rfl)) rfl rfl (Nat.le_of_ble_eq_true rfl) trivial rfl ?_
    refine ADX.pure [] (PureOp.ext2b rfl (.tmp rfl)) rfl rfl (Nat.le_of_ble_eq_true rfl) trivial rfl ?_
    refine ADX.eff (tk := [8]) (new := [8]) (s := .one (.ptr 8 2 0 0)) (F := [(7, .one (.ptr 8 2 0 0))]) (Hin := []) (Hout := [(8, .cells [.con (.slice none 0 0), .int .i64 0])]) (fun E X hE hX Q rest hk => ?_) trivial ⟨rfl, rfl⟩ rfl rfl rfl rfl ⟨(by repeat first | exact trivial | refine ⟨by decide, by first | rfl | exact trivial | (intro a_ b_; first | exact getD_no rfl | exact rowC0_no rfl _ _ | ((try dsimp only); (repeat' split) <;> first | rfl | exact rowC0_no rfl _ _ | exact getD_no rfl)), ?_⟩), trivial⟩ rfl (fun _ e => by cases e; exact Nat.le_of_ble_eq_true rfl) ?_
    · refine ARun.alloc (id := 8) (l := [.con (.slice none 0 0), .int .i64 0]) (z := (.agg #[.slice none 0 0, .int .i64 0])) rfl (by kernel_rfl) (fun _ _ _ => ⟨_, _, rfl, rfl, ⟨_, _, rfl, rfl, rfl⟩⟩) (Fr.ext2 ⟨rfl, (by repeat first | exact trivial | refine ⟨by decide, by first | rfl | exact trivial | (intro a_ b_; first | exact getD_no rfl | exact rowC0_no rfl _ _ | ((try dsimp only); (repeat' split) <;> first | rfl | exact rowC0_no rfl _ _ | exact getD_no rfl)), ?_⟩)⟩ hE hX rfl rfl) rfl rfl rfl (Nat.le_of_ble_eq_true rfl) ?_
      refine ARun.hleX ?_ ?_ hk
      · exact HeapLe.one rfl trivial
      · repeat (first | exact LkX.refl | refine LkX.cons (hX.none rfl) ?_ | refine LkX.filter (hX.none rfl) ?_)
    refine ADX.eff (tk := [8]) (new := []) (s := .one (.con undef)) (F := []) (Hin := [(8, .cells [.con (.slice none 0 0), .int .i64 0])]) (Hout := [(8, .cells [.own 6 2 ((takeH h x).rows.length), .int .i64 ((takeH h x).offset)])]) (fun E X hE hX Q rest hk => ?_) ⟨rfl, trivial⟩ ⟨rfl, rfl⟩ rfl rfl rfl rfl trivial rfl (fun _ e => by cases e) ?_
    · refine ARun.store rfl (.tmp rfl) (.tmp rfl) (SV.cells_of (by exact ⟨trivial, trivial, trivial⟩)) rfl (Nat.le_of_ble_eq_true rfl) vts_sz_29_2 rfl rfl ?_
      refine ARun.hleX ?_ ?_ hk
      · exact HeapLe.one rfl trivial
      · repeat (first | exact LkX.refl | refine LkX.cons (hX.none rfl) ?_ | refine LkX.filter (hX.none rfl) ?_)
    refine ADX.pure [] (PureOp.assign rfl (.tmp rfl)) rfl rfl (Nat.le_of_ble_eq_true rfl) trivial rfl ?_
    refine ADX.nil (H := [(0, .cells [.lst 2 h.rows.length (fun i0 j0 => ([.str ((h.rows.getD i0 (default : GRow)).name), .lst 2 (((h.rows.getD i0 (default : GRow)).samples).length) (fun i1 j1 => ([.int .i64 ((((h.rows.getD i0 (default : GRow)).samples).getD i1 (default : GSample)).at_), .int .i64 ((((h.rows.getD i0 (default : GRow)).samples).getD i1 (default : GSample)).value)] : List AV).getD j1 (.con undef))] : List AV).getD j0 (.con undef)), .int .i64 h.offset]), (1, .cells [.str x.name, .int .i64 x.at_, .int .i64 x.value]), (2, .cells [.con (.slice none 0 0), .int .i64 0]), (6, .arr 2 ((takeH h x).rows.length) (rowC0 (takeH h x) 7)), (7, .trees ((takeH h x).rows.length) (rowX0 (takeH h x))), (8, .cells [.own 6 2 ((takeH h x).rows.length), .int .i64 ((takeH h x).offset)])]) ?_ ?_
    · exact HeapLe.one rfl (HeapLe.one rfl (HeapLe.one rfl (HeapLe.one rfl (HeapLe.one rfl (HeapLe.one rfl trivial)))))
    refine AW.seq ?_
    refine AW.region ?_
    refine ARun.pure (PureOp.loadPtrAgg rfl (.tmp rfl) vts_ag_29_2 rfl rfl (Nat.le_of_ble_eq_true rfl) (Nat.le_of_ble_eq_true rfl)) rfl rfl (Nat.le_of_ble_eq_true rfl) ?_
    refine ARun.prod (K := 9) rfl (v_l13Own (takeH h x) (hd_ok hg1)) ⟨rfl, (by repeat first | exact trivial | refine ⟨by decide, by first | rfl | exact trivial | (intro a_ b_; first | exact getD_no rfl | exact rowC0_no rfl _ _ | ((try dsimp only); (repeat' split) <;> first | rfl | exact rowC0_no rfl _ _ | exact getD_no rfl)), ?_⟩)⟩ ⟨⟨_, (.tmp rfl), ⟨(.own rfl rfl (Nat.le_refl _) (fun i j hi hj => (match j, hj with | 0, _ => .str | 1, _ => (Vw.cast (Vw.tre rfl hi) rfl) | _ + 2, h => absurd h (by omega)))), .int, trivial⟩⟩, trivial⟩ vts_ca_57 rfl rfl rfl rfl rfl (Nat.le_of_ble_eq_true rfl) ?_
    refine ARun.pure (PureOp.move rfl (.tmp rfl)) rfl rfl (Nat.le_of_ble_eq_true rfl) ?_
    refine ARun.store rfl (.tmp rfl) (.tmp rfl) (SV.cells_of (by exact ⟨trivial, trivial, trivial⟩)) rfl (Nat.le_of_ble_eq_true rfl) vts_sz_29_2 rfl rfl ?_
    refine ARun.pure (PureOp.assign rfl (.tmp rfl)) rfl rfl (Nat.le_of_ble_eq_true rfl) ?_
    refine ARun.pure (PureOp.assign rfl .bool) rfl rfl (Nat.le_of_ble_eq_true rfl) ?_
    refine ARun.nil ?_
    rw [show takeV h x = (takeH h x, takeCode h x, true) from if_pos hcnd]
    exact AW.ret (show ∃ s t, ResL _ _ [.cell 4 29, .tmp 5, .tmp 6] s ∧ TvS _ (ofLeaf t) 0 s _ from ⟨_, fun a b => if a = 9 then 0 else 1000, .inr (.inr (.inl ⟨_, _, _, _, _, _, rfl, .cells rfl vts_ag_29_2 rfl rfl (Nat.le_of_ble_eq_true rfl) (Nat.le_of_ble_eq_true rfl), .tmp rfl, .tmp rfl, rfl⟩)), ⟨⟨(Tv.cast (Tv.tre rfl (Nat.le_of_ble_eq_true rfl) (by rfl)) rfl), .int, trivial⟩, .int, .bool⟩⟩)
end Go.Proofs.Ytmfkmifkkplidaa


/-
  Marks.
-/
namespace Go.Proofs.Ytmfkmifkkplidaa
open Go.ChangeShapes Go.WideShapes Go.ChangeAt Go.RowKit Go.BigFrame Go.Deep
set_option linter.unusedVariables false
set_option linter.unusedSimpArgs false
theorem vq_ca_18 : callB Try.prog 18 = true := by kernel_rfl
theorem vq_ca_51 : callB Try.prog 51 = true := by kernel_rfl
theorem vq_ca_63 : callB Try.prog 63 = true := by kernel_rfl
theorem vq_el_27_2 : elemB Try.prog 27 2 = true := by kernel_rfl
theorem vq_el_33_2 : elemB Try.prog 33 2 = true := by kernel_rfl
theorem vq_fi_29_0_0 : fieldB Try.prog 29 0 0 = true := by kernel_rfl
theorem vq_fi_67_0_0 : fieldB Try.prog 67 0 0 = true := by kernel_rfl
theorem vq_fi_67_1_1 : fieldB Try.prog 67 1 1 = true := by kernel_rfl
theorem vq_fi_81_0_0 : fieldB Try.prog 81 0 0 = true := by kernel_rfl
theorem vq_fi_81_1_1 : fieldB Try.prog 81 1 1 = true := by kernel_rfl
theorem vq_pl_27 : plainB Try.prog 27 = true := by kernel_rfl
theorem vq_pl_33 : plainB Try.prog 33 = true := by kernel_rfl
theorem vq_sl_27 : sliceB Try.prog 27 = true := by kernel_rfl
theorem vq_sl_33 : sliceB Try.prog 33 = true := by kernel_rfl
theorem vq_sz_3_1 : sizeB Try.prog 3 1 = true := by kernel_rfl
theorem vq_sz_9_1 : sizeB Try.prog 9 1 = true := by kernel_rfl
theorem digTo_size : ∀ (d f q : Nat) (s : ByteArray), q < 10 ^ d → q ≤ f → (digTo f q s).size ≤ s.size + d
  | 0, f, q, s, hq, _ => by
    obtain rfl : q = 0 := by simpa using hq
    rw [digTo_zero]; omega
  | d + 1, f, q, s, hq, hf => by
    by_cases h : 0 < q
    · rw [digTo_step h hf]
      have h1 : q / 10 < 10 ^ d := by rw [Nat.pow_succ] at hq; omega
      have h2 := digTo_size d (f - 1) (q / 10) ((⟨#[UInt8.ofNat (48 + q % 10)]⟩ : ByteArray) ++ s) h1 (by omega)
      rw [ByteArray.size_append] at h2
      have c : (⟨#[UInt8.ofNat (48 + q % 10)]⟩ : ByteArray).size = 1 := rfl
      omega
    · obtain rfl : q = 0 := by omega
      rw [digTo_zero]; omega
theorem mkText_size {k : Nat} (h : k ≤ 1000000000) : (mkText k).size ≤ 20 := by
  have h1 := digTo_size 10 k k ⟨#[]⟩ (by omega) (Nat.le_refl _)
  unfold mkText
  rw [ByteArray.size_append]
  have c : (⟨#[109]⟩ : ByteArray).size = 1 := rfl
  have c0 : (⟨#[]⟩ : ByteArray).size = 0 := rfl
  omega
theorem v_markText (k : Nat) (hk : 0 < k) (h : k ≤ 1000000000) : Fn Try.prog 63 [.one (.int .i64 (k : Int))] (.one (.str (mkText k))) := by
  intro w S vs hS hd
  obtain ⟨v, vs1, rfl, h1, h2⟩ := hd
  obtain rfl : vs1 = [] := h2
  have h1 : v = .int .i64 (k : Int) := h1
  subst h1
  exact (markText_any k hk h w).mono fun e w' ⟨he, _, hb⟩ => ⟨he, hb⟩

theorem g_markSampleS (x : List GSample) (a : Nat) (ha : 0 < a ∧ a + ctL crSample x ≤ 900000000) : FnG Try.prog 18 [.one (.own 1000000 2 x.length), .one (.int .i64 (a : Int))] [(1000000, .arr 2 x.length (fun i j => nmA 1000001 (i * 2 + j) (ceSample (x.getD i (default : GSample)) j))), (1000001, .trees (x.length * 2) (fun _ => .int .i64 0))] (.one (.int .i64 ((a + ctL crSample x : Nat) : Int))) [(1000000, .arr 2 x.length (fun i j => nmA 1000001 (i * 2 + j) (ceSample ((mkL crSample mrSample x a).getD i (default : GSample)) j))), (1000001, .trees (x.length * 2) (fun _ => .int .i64 0))] := by
  obtain ⟨ha0, ha1⟩ := ha
  refine FnG.of_body (fn := Try.f18) Try.func18 rfl (Nat.le_of_ble_eq_true rfl) ?_
  intro w0
  show AW _ 27 _ _ _ _
  refine AW.boundO (t := 0) rfl fun hx => ?_
  refine AW.seq ?_
  refine AW.region ?_
  refine ARun.pure (PureOp.assign rfl .int) rfl rfl (Nat.le_of_ble_eq_true rfl) ?_
  refine ARun.nil ?_
  refine AW.seq ?_
  refine AW.seq ?_
  refine AW.region ?_
  refine ARun.pure (PureOp.assign rfl .int) rfl rfl (Nat.le_of_ble_eq_true rfl) ?_
  refine ARun.nil ?_
  refine AW.block ?_
  refine AW.loop (ι := Nat) (fun k => ⟨[(0, .one (.own 1000000 2 x.length)), (1, .one (.int .i64 ((a + ((x.take k).map crSample).sum : Nat) : Int))), (5, .one (.int .i64 (k : Int)))], [(1000000, .arr 2 x.length (fun i j => nmA 1000001 (i * 2 + j) (ceSample ((mixL crSample mrSample x a k).getD i (default : GSample)) j))), (1000001, .trees (x.length * 2) (fun _ => .int .i64 0))]⟩) (fun k => k ≤ x.length) (fun k => x.length - k) 0 (Nat.zero_le _) ⟨⟨⟨_, rfl, rfl⟩, ⟨_, rfl, by simp⟩, ⟨_, rfl, rfl⟩, trivial⟩, ⟨⟨_, rfl, rfl, Nat.le_refl _, fun i j _ _ => by rw [mix_zero]⟩, ⟨_, rfl, fun _ _ => rfl⟩, trivial⟩⟩ ?_
  intro k hk
  refine AW.seq ?_
  refine AW.seq ?_
  refine AW.region ?_
  refine ARun.pure (PureOp.move rfl (.tmp rfl)) rfl rfl (Nat.le_of_ble_eq_true rfl) ?_
  refine ARun.pure (PureOp.move rfl (.tmp rfl)) rfl rfl (Nat.le_of_ble_eq_true rfl) ?_
  refine ARun.pure (PureOp.lenOwn rfl (.tmp rfl) vq_sl_33) rfl rfl (Nat.le_of_ble_eq_true rfl) ?_
  refine ARun.pure (PureOp.intOp rfl (.tmp rfl) (.tmp rfl) rfl) rfl rfl (Nat.le_of_ble_eq_true rfl) ?_
  refine ARun.nil ?_
  refine AW.cond (.tmp rfl) (fun hb1 => ?_) (fun hb1 => ?_)
  · have _u := True.intro
    replace hb1 := of_decide_eq_true hb1
    have hkl : k < x.length := by omega
    obtain ⟨hst, hsm⟩ := ct_step (ct := crSample) (default : GSample) hkl
    have hce : crSample (x.getD k (default : GSample)) = 0 + 1 + 1 := rfl
    refine AW.skip ?_
    refine AW.seq ?_
    refine AW.block ?_
    refine AW.seq ?_
    refine AW.region ?_
    refine ARun.pure (PureOp.move rfl (.tmp rfl)) rfl rfl (Nat.le_of_ble_eq_true rfl) ?_
    refine ARun.pure (PureOp.move rfl (.tmp rfl)) rfl rfl (Nat.le_of_ble_eq_true rfl) ?_
    refine ARun.pure (PureOp.move rfl (.tmp rfl)) rfl rfl (Nat.le_of_ble_eq_true rfl) ?_
    refine ARun.pure (PureOp.indexOwn (i := k) rfl (.tmp rfl) vq_el_33_2 (.tmp rfl) rfl (by omega)) rfl rfl (Nat.le_of_ble_eq_true rfl) ?_
    refine ARun.pure (PureOp.fieldPtr rfl (.tmp rfl) vq_fi_81_0_0) rfl rfl (Nat.le_of_ble_eq_true rfl) ?_
    refine ARun.storeArr rfl (.tmp rfl) (.tmp rfl) trivial rfl (show k < x.length from by omega) (Nat.le_of_ble_eq_true rfl) vq_sz_3_1 rfl rfl ?_
    refine ARun.nil ?_
    refine AW.seq ?_
    refine AW.region ?_
    refine ARun.pure (PureOp.move rfl (.tmp rfl)) rfl rfl (Nat.le_of_ble_eq_true rfl) ?_
    refine ARun.pure (PureOp.add (c := ((a + ((x.take k).map crSample).sum + 1 : Nat) : Int)) rfl (.tmp rfl) .int (by rw [wrap_id (by omega) (by omega)]; omega)) rfl rfl (Nat.le_of_ble_eq_true rfl) ?_
    refine ARun.pure (PureOp.assign rfl (.tmp rfl)) rfl rfl (Nat.le_of_ble_eq_true rfl) ?_
    refine ARun.nil ?_
    refine AW.seq ?_
    refine AW.region ?_
    refine ARun.pure (PureOp.move rfl (.tmp rfl)) rfl rfl (Nat.le_of_ble_eq_true rfl) ?_
    refine ARun.pure (PureOp.move rfl (.tmp rfl)) rfl rfl (Nat.le_of_ble_eq_true rfl) ?_
    refine ARun.pure (PureOp.move rfl (.tmp rfl)) rfl rfl (Nat.le_of_ble_eq_true rfl) ?_
    refine ARun.pure (PureOp.indexOwn (i := k) rfl (.tmp rfl) vq_el_33_2 (.tmp rfl) rfl (by omega)) rfl rfl (Nat.le_of_ble_eq_true rfl) ?_
    refine ARun.pure (PureOp.fieldPtr rfl (.tmp rfl) vq_fi_81_1_1) rfl rfl (Nat.le_of_ble_eq_true rfl) ?_
    refine ARun.storeArr rfl (.tmp rfl) (.tmp rfl) trivial rfl (show k < x.length from by omega) (Nat.le_of_ble_eq_true rfl) vq_sz_3_1 rfl rfl ?_
    refine ARun.nil ?_
    refine AW.region ?_
    refine ARun.pure (PureOp.move rfl (.tmp rfl)) rfl rfl (Nat.le_of_ble_eq_true rfl) ?_
    refine ARun.pure (PureOp.add (c := ((a + ((x.take k).map crSample).sum + 1 + 1 : Nat) : Int)) rfl (.tmp rfl) .int (by rw [wrap_id (by omega) (by omega)]; omega)) rfl rfl (Nat.le_of_ble_eq_true rfl) ?_
    refine ARun.pure (PureOp.assign rfl (.tmp rfl)) rfl rfl (Nat.le_of_ble_eq_true rfl) ?_
    refine ARun.nil ?_
    refine AW.region ?_
    refine ARun.pure (PureOp.move rfl (.tmp rfl)) rfl rfl (Nat.le_of_ble_eq_true rfl) ?_
    refine ARun.pure (PureOp.add (c := ((k + 1 : Nat) : Int)) rfl (.tmp rfl) .int (by rw [wrap_id (by omega) (by omega)]; omega)) rfl rfl (Nat.le_of_ble_eq_true rfl) ?_
    refine ARun.pure (PureOp.assign rfl (.tmp rfl)) rfl rfl (Nat.le_of_ble_eq_true rfl) ?_
    refine ARun.nil ?_
    exact ⟨k + 1, by omega, by dsimp only; omega, ⟨⟨⟨_, rfl, rfl⟩, ⟨_, rfl, congrArg (fun z : Nat => SV.one (.int .i64 (z : Int))) (by omega)⟩, ⟨_, rfl, rfl⟩, trivial⟩, ⟨⟨_, rfl, rfl, Nat.le_refl _, fun i j hi (hj : j < 2) => by
      by_cases h : i = k
      · subst h; simp only [AObj.f, true_and, mix_new (default : GSample) hkl]; exact (match j, hj with | 0, _ => rfl | 1, _ => rfl | _ + 2, h => absurd h (by omega))
      · simp only [AObj.f, h, false_and, if_false, mix_old (default : GSample) hkl h]⟩, ⟨_, rfl, fun _ _ => rfl⟩, trivial⟩⟩⟩
  · have _u := True.intro
    replace hb1 := of_decide_eq_false hb1
    have hkl : ¬ k < x.length := by omega
    refine AW.exit ?_
    refine AW.seq ?_
    refine AW.region ?_
    refine ARun.pure (PureOp.move rfl (.tmp rfl)) rfl rfl (Nat.le_of_ble_eq_true rfl) ?_
    refine ARun.pure (PureOp.assign rfl (.tmp rfl)) rfl rfl (Nat.le_of_ble_eq_true rfl) ?_
    refine ARun.nil ?_
    refine AW.ret (show ResL _ _ [.tmp 4] _ ∧ HeapLe _ _ from ⟨resI rfl ?_, ⟨⟨_, rfl, rfl, Nat.le_refl _, fun i j _ _ => by rw [mix_all hkl]⟩, ⟨_, rfl, fun _ _ => rfl⟩, trivial⟩⟩)
    rw [show ctL crSample x = _ from (ct_end hkl).symm]

theorem m_SampleS (x : List GSample) (a : Nat) (ha : 0 < a ∧ a + ctL crSample x ≤ 900000000) : FnM Try.prog 18 (.one (.lst 2 x.length (fun i0 j0 => ([.int .i64 ((x.getD i0 (default : GSample)).at_), .int .i64 ((x.getD i0 (default : GSample)).value)] : List AV).getD j0 (.con undef)))) [.one (.int .i64 (a : Int))] (.one (.int .i64 ((a + ctL crSample x : Nat) : Int))) (.one (.lst 2 ((mkL crSample mrSample x a).length) (fun i0 j0 => ([.int .i64 (((mkL crSample mrSample x a).getD i0 (default : GSample)).at_), .int .i64 (((mkL crSample mrSample x a).getD i0 (default : GSample)).value)] : List AV).getD j0 (.con undef)))) := by
  have h := FnM.ofRow (r := .one (.int .i64 ((a + ctL crSample x : Nat) : Int))) (args := [.one (.int .i64 (a : Int))]) (g := fun i j => ceSample (x.getD i (default : GSample)) j) (g' := fun i j => ceSample ((mkL crSample mrSample x a).getD i (default : GSample)) j) trivial (fun s hs => by simp only [List.mem_singleton] at hs; subst hs; trivial) (by decide) (fun i j hi hj => ⟨rfl, match j, hj with | 0, _ => rfl | 1, _ => rfl | _ + 2, h => absurd h (by omega)⟩) (fun i j hi hj => ⟨rfl, match j, hj with | 0, _ => fun h => by cases h | 1, _ => fun h => by cases h | _ + 2, h => absurd h (by omega)⟩) (fun i j hi hj => match j, hj with | 0, _ => rfl | 1, _ => rfl | _ + 2, h => absurd h (by omega)) (g_markSampleS x a ha)
  have hl : (mkL crSample mrSample x a).length = x.length := mkL_len
  show FnM _ _ _ _ _ (.one (.lst 2 (mkL crSample mrSample x a).length (fun i j => ceSample ((mkL crSample mrSample x a).getD i (default : GSample)) j)))
  rw [hl]; exact h

theorem g_markRowS (x : List GRow) (a : Nat) (ha : 0 < a ∧ a + ctL crRow x ≤ 900000000) : FnG Try.prog 51 [.one (.own 1000000 2 x.length), .one (.int .i64 (a : Int))] [(1000000, .arr 2 x.length (fun i j => nmA 1000001 (i * 2 + j) (ceRow (x.getD i (default : GRow)) j))), (1000001, .trees (x.length * 2) (famX 2 (fun i j => lonly (ceRow (x.getD i (default : GRow)) j))))] (.one (.int .i64 ((a + ctL crRow x : Nat) : Int))) [(1000000, .arr 2 x.length (fun i j => nmA 1000001 (i * 2 + j) (ceRow ((mkL crRow mrRow x a).getD i (default : GRow)) j))), (1000001, .trees (x.length * 2) (famX 2 (fun i j => lonly (ceRow ((mkL crRow mrRow x a).getD i (default : GRow)) j))))] := by
  obtain ⟨ha0, ha1⟩ := ha
  refine FnG.of_body (fn := Try.f51) Try.func51 rfl (Nat.le_of_ble_eq_true rfl) ?_
  intro w0
  show AW _ 28 _ _ _ _
  refine AW.boundO (t := 0) rfl fun hx => ?_
  refine AW.seq ?_
  refine AW.region ?_
  refine ARun.pure (PureOp.assign rfl .int) rfl rfl (Nat.le_of_ble_eq_true rfl) ?_
  refine ARun.nil ?_
  refine AW.seq ?_
  refine AW.seq ?_
  refine AW.region ?_
  refine ARun.pure (PureOp.assign rfl .int) rfl rfl (Nat.le_of_ble_eq_true rfl) ?_
  refine ARun.nil ?_
  refine AW.block ?_
  refine AW.loop (ι := Nat) (fun k => ⟨[(0, .one (.own 1000000 2 x.length)), (1, .one (.int .i64 ((a + ((x.take k).map crRow).sum : Nat) : Int))), (5, .one (.int .i64 (k : Int)))], [(1000000, .arr 2 x.length (fun i j => nmA 1000001 (i * 2 + j) (ceRow ((mixL crRow mrRow x a k).getD i (default : GRow)) j))), (1000001, .trees (x.length * 2) (famX 2 (fun i j => lonly (ceRow ((mixL crRow mrRow x a k).getD i (default : GRow)) j))))]⟩) (fun k => k ≤ x.length) (fun k => x.length - k) 0 (Nat.zero_le _) ⟨⟨⟨_, rfl, rfl⟩, ⟨_, rfl, by simp⟩, ⟨_, rfl, rfl⟩, trivial⟩, ⟨⟨_, rfl, rfl, Nat.le_refl _, fun i j _ _ => by rw [mix_zero]⟩, ⟨_, rfl, fun q _ => by rw [mix_zero]⟩, trivial⟩⟩ ?_
  intro k hk
  refine AW.seq ?_
  refine AW.seq ?_
  refine AW.region ?_
  refine ARun.pure (PureOp.move rfl (.tmp rfl)) rfl rfl (Nat.le_of_ble_eq_true rfl) ?_
  refine ARun.pure (PureOp.move rfl (.tmp rfl)) rfl rfl (Nat.le_of_ble_eq_true rfl) ?_
  refine ARun.pure (PureOp.lenOwn rfl (.tmp rfl) vq_sl_27) rfl rfl (Nat.le_of_ble_eq_true rfl) ?_
  refine ARun.pure (PureOp.intOp rfl (.tmp rfl) (.tmp rfl) rfl) rfl rfl (Nat.le_of_ble_eq_true rfl) ?_
  refine ARun.nil ?_
  refine AW.cond (.tmp rfl) (fun hb1 => ?_) (fun hb1 => ?_)
  · have _u := True.intro
    replace hb1 := of_decide_eq_true hb1
    have hkl : k < x.length := by omega
    obtain ⟨hst, hsm⟩ := ct_step (ct := crRow) (default : GRow) hkl
    have hce : crRow (x.getD k (default : GRow)) = 0 + 1 + ctL crSample ((x.getD k (default : GRow)).samples) := rfl
    refine AW.skip ?_
    refine AW.seq ?_
    refine AW.block ?_
    refine AW.seq ?_
    refine AW.region ?_
    refine ARun.pure (PureOp.move rfl (.tmp rfl)) rfl rfl (Nat.le_of_ble_eq_true rfl) ?_
    refine ARun.pure (PureOp.move rfl (.tmp rfl)) rfl rfl (Nat.le_of_ble_eq_true rfl) ?_
    refine ARun.pure (PureOp.move rfl (.tmp rfl)) rfl rfl (Nat.le_of_ble_eq_true rfl) ?_
    refine ARun.pure (PureOp.call rfl (v_markText (a + ((x.take k).map crRow).sum) (by omega) (by omega)) ⟨⟨_, (.tmp rfl), .int⟩, trivial⟩ vq_ca_63 (Nat.le_trans (mkText_size (by omega)) (by decide))) rfl rfl (Nat.le_of_ble_eq_true rfl) ?_
    refine ARun.pure (PureOp.indexOwn (i := k) rfl (.tmp rfl) vq_el_27_2 (.tmp rfl) rfl (by omega)) rfl rfl (Nat.le_of_ble_eq_true rfl) ?_
    refine ARun.pure (PureOp.fieldPtr rfl (.tmp rfl) vq_fi_67_0_0) rfl rfl (Nat.le_of_ble_eq_true rfl) ?_
    refine ARun.storeArr rfl (.tmp rfl) (.tmp rfl) trivial rfl (show k < x.length from by omega) (Nat.le_of_ble_eq_true rfl) vq_sz_9_1 rfl rfl ?_
    refine ARun.nil ?_
    refine AW.seq ?_
    refine AW.region ?_
    refine ARun.pure (PureOp.move rfl (.tmp rfl)) rfl rfl (Nat.le_of_ble_eq_true rfl) ?_
    refine ARun.pure (PureOp.add (c := ((a + ((x.take k).map crRow).sum + 1 : Nat) : Int)) rfl (.tmp rfl) .int (by rw [wrap_id (by omega) (by omega)]; omega)) rfl rfl (Nat.le_of_ble_eq_true rfl) ?_
    refine ARun.pure (PureOp.assign rfl (.tmp rfl)) rfl rfl (Nat.le_of_ble_eq_true rfl) ?_
    refine ARun.nil ?_
    refine AW.region ?_
    refine ARun.pure (PureOp.move rfl (.tmp rfl)) rfl rfl (Nat.le_of_ble_eq_true rfl) ?_
    refine ARun.pure (PureOp.move rfl (.tmp rfl)) rfl rfl (Nat.le_of_ble_eq_true rfl) ?_
    refine ARun.pure (PureOp.indexOwn (i := k) rfl (.tmp rfl) vq_el_27_2 (.tmp rfl) rfl (by omega)) rfl rfl (Nat.le_of_ble_eq_true rfl) ?_
    refine ARun.pure (PureOp.fieldPtr rfl (.tmp rfl) vq_fi_67_1_1) rfl rfl (Nat.le_of_ble_eq_true rfl) ?_
    refine ARun.pure (PureOp.loadPtrE (y := .tre 1000001 (k * 2 + 1)) rfl (.tmp rfl) vq_pl_33 rfl rfl (show k < x.length from by omega) (Nat.le_of_ble_eq_true rfl) (by simp only [AObj.f]; (repeat rw [if_neg (by omega)]); rfl)) rfl rfl (Nat.le_of_ble_eq_true rfl) ?_
    refine ARun.pure (PureOp.move rfl (.tmp rfl)) rfl rfl (Nat.le_of_ble_eq_true rfl) ?_
    refine ARun.mark (id := 1000001) (q0 := k * 2 + 1) (X' := fun q => if q = k * 2 + 1 then .lst 2 ((mkL crSample mrSample ((x.getD k (default : GRow)).samples) (a + ((x.take k).map crRow).sum + 1)).length) (fun i0 j0 => ([.int .i64 (((mkL crSample mrSample ((x.getD k (default : GRow)).samples) (a + ((x.take k).map crRow).sum + 1)).getD i0 (default : GSample)).at_), .int .i64 (((mkL crSample mrSample ((x.getD k (default : GRow)).samples) (a + ((x.take k).map crRow).sum + 1)).getD i0 (default : GSample)).value)] : List AV).getD j0 (.con undef)) else (famX 2 (fun i j => lonly (ceRow ((mixL crRow mrRow x a k).getD i (default : GRow)) j))) q) rfl (m_SampleS ((x.getD k (default : GRow)).samples) (a + ((x.take k).map crRow).sum + 1) ⟨by omega, by omega⟩) vq_ca_18 trivial (.tmp rfl) rfl rfl rfl (cell_lt (sz := 2) (j := 1) hkl (by decide)) (fun p hp _ => match p, hp with | 0, _ => (by show (famX 2 (fun i j => lonly (ceRow ((mixL crRow mrRow x a k).getD i (default : GRow)) j))) (k * 2 + 1) = _; (try dsimp only); (repeat rw [if_neg (by omega)]); rw [famX_at (sz := 2) (j := 1) (by decide), mix_at (default : GRow) hkl]; rfl) | _ + 1, h => absurd h (by simp [SV.leaves])) rfl trivial (fun p hp _ => match p, hp with | 0, _ => if_pos rfl | _ + 1, h => absurd h (by simp [SV.leaves])) (fun q _ hne => if_neg (fun e => hne 0 (Nat.zero_lt_one) rfl e)) ⟨(.tmp rfl), trivial, trivial⟩ rfl rfl (Nat.le_of_ble_eq_true rfl) ?_
    refine ARun.pure (PureOp.assign rfl (.tmp rfl)) rfl rfl (Nat.le_of_ble_eq_true rfl) ?_
    refine ARun.nil ?_
    refine AW.region ?_
    refine ARun.pure (PureOp.move rfl (.tmp rfl)) rfl rfl (Nat.le_of_ble_eq_true rfl) ?_
    refine ARun.pure (PureOp.add (c := ((k + 1 : Nat) : Int)) rfl (.tmp rfl) .int (by rw [wrap_id (by omega) (by omega)]; omega)) rfl rfl (Nat.le_of_ble_eq_true rfl) ?_
    refine ARun.pure (PureOp.assign rfl (.tmp rfl)) rfl rfl (Nat.le_of_ble_eq_true rfl) ?_
    refine ARun.nil ?_
    exact ⟨k + 1, by omega, by dsimp only; omega, ⟨⟨⟨_, rfl, rfl⟩, ⟨_, rfl, congrArg (fun z : Nat => SV.one (.int .i64 (z : Int))) (by omega)⟩, ⟨_, rfl, rfl⟩, trivial⟩, ⟨⟨_, rfl, rfl, Nat.le_refl _, fun i j hi (hj : j < 2) => by
      by_cases h : i = k
      · subst h; simp only [AObj.f, true_and, mix_new (default : GRow) hkl]; exact (match j, hj with | 0, _ => rfl | 1, _ => rfl | _ + 2, h => absurd h (by omega))
      · simp only [AObj.f, h, false_and, if_false, mix_old (default : GRow) hkl h]⟩, ⟨_, rfl, fun q hq => famX_ext (X := fun q => if q = k * 2 + 1 then .lst 2 ((mkL crSample mrSample ((x.getD k (default : GRow)).samples) (a + ((x.take k).map crRow).sum + 1)).length) (fun i0 j0 => ([.int .i64 (((mkL crSample mrSample ((x.getD k (default : GRow)).samples) (a + ((x.take k).map crRow).sum + 1)).getD i0 (default : GSample)).at_), .int .i64 (((mkL crSample mrSample ((x.getD k (default : GRow)).samples) (a + ((x.take k).map crRow).sum + 1)).getD i0 (default : GSample)).value)] : List AV).getD j0 (.con undef)) else (famX 2 (fun i j => lonly (ceRow ((mixL crRow mrRow x a k).getD i (default : GRow)) j))) q) (g := fun i j => lonly (ceRow ((mixL crRow mrRow x a (k + 1)).getD i (default : GRow)) j)) (by decide) (fun i j hi (hj : j < 2) => by
      (try dsimp only)
      by_cases h : i = k
      · subst h; rw [upd_at hj (show 1 < 2 by decide)]; simp only [famX_at hj, true_and, mix_new (default : GRow) hkl, mix_at (default : GRow) hkl]; exact (match j, hj with | 0, _ => rfl | 1, _ => rfl | _ + 2, h => absurd h (by omega))
      · rw [upd_at hj (show 1 < 2 by decide)]; simp only [famX_at hj, h, false_and, if_false, mix_old (default : GRow) hkl h]) q hq⟩, trivial⟩⟩⟩
  · have _u := True.intro
    replace hb1 := of_decide_eq_false hb1
    have hkl : ¬ k < x.length := by omega
    refine AW.exit ?_
    refine AW.seq ?_
    refine AW.region ?_
    refine ARun.pure (PureOp.move rfl (.tmp rfl)) rfl rfl (Nat.le_of_ble_eq_true rfl) ?_
    refine ARun.pure (PureOp.assign rfl (.tmp rfl)) rfl rfl (Nat.le_of_ble_eq_true rfl) ?_
    refine ARun.nil ?_
    refine AW.ret (show ResL _ _ [.tmp 4] _ ∧ HeapLe _ _ from ⟨resI rfl ?_, ⟨⟨_, rfl, rfl, Nat.le_refl _, fun i j _ _ => by rw [mix_all hkl]⟩, ⟨_, rfl, fun q _ => by rw [mix_all hkl]⟩, trivial⟩⟩)
    rw [show ctL crRow x = _ from (ct_end hkl).symm]

theorem m_RowS (x : List GRow) (a : Nat) (ha : 0 < a ∧ a + ctL crRow x ≤ 900000000) : FnM Try.prog 51 (.one (.lst 2 x.length (fun i0 j0 => ([.str ((x.getD i0 (default : GRow)).name), .lst 2 (((x.getD i0 (default : GRow)).samples).length) (fun i1 j1 => ([.int .i64 ((((x.getD i0 (default : GRow)).samples).getD i1 (default : GSample)).at_), .int .i64 ((((x.getD i0 (default : GRow)).samples).getD i1 (default : GSample)).value)] : List AV).getD j1 (.con undef))] : List AV).getD j0 (.con undef)))) [.one (.int .i64 (a : Int))] (.one (.int .i64 ((a + ctL crRow x : Nat) : Int))) (.one (.lst 2 ((mkL crRow mrRow x a).length) (fun i0 j0 => ([.str (((mkL crRow mrRow x a).getD i0 (default : GRow)).name), .lst 2 ((((mkL crRow mrRow x a).getD i0 (default : GRow)).samples).length) (fun i1 j1 => ([.int .i64 (((((mkL crRow mrRow x a).getD i0 (default : GRow)).samples).getD i1 (default : GSample)).at_), .int .i64 (((((mkL crRow mrRow x a).getD i0 (default : GRow)).samples).getD i1 (default : GSample)).value)] : List AV).getD j1 (.con undef))] : List AV).getD j0 (.con undef)))) := by
  have h := FnM.ofRow (r := .one (.int .i64 ((a + ctL crRow x : Nat) : Int))) (args := [.one (.int .i64 (a : Int))]) (g := fun i j => ceRow (x.getD i (default : GRow)) j) (g' := fun i j => ceRow ((mkL crRow mrRow x a).getD i (default : GRow)) j) trivial (fun s hs => by simp only [List.mem_singleton] at hs; subst hs; trivial) (by decide) (fun i j hi hj => ⟨rfl, famX_at hj⟩) (fun i j hi hj => ⟨rfl, fun h => (famX_at hj).trans (lonly_L h)⟩) (fun i j hi hj => match j, hj with | 0, _ => rfl | 1, _ => rfl | _ + 2, h => absurd h (by omega)) (g_markRowS x a ha)
  have hl : (mkL crRow mrRow x a).length = x.length := mkL_len
  show FnM _ _ _ _ _ (.one (.lst 2 (mkL crRow mrRow x a).length (fun i j => ceRow ((mkL crRow mrRow x a).getD i (default : GRow)) j)))
  rw [hl]; exact h

theorem g_markHead (x : GHead) (a : Nat) (ha : 0 < a ∧ a + cvHead x ≤ 900000000) : FnG Try.prog 17 [.agg [.tre 1000000 0, .int .i64 x.offset], .one (.int .i64 (a : Int))] [(1000000, .trees 2 (fun p => ([.lst 2 x.rows.length (fun i0 j0 => ([.str ((x.rows.getD i0 (default : GRow)).name), .lst 2 (((x.rows.getD i0 (default : GRow)).samples).length) (fun i1 j1 => ([.int .i64 ((((x.rows.getD i0 (default : GRow)).samples).getD i1 (default : GSample)).at_), .int .i64 ((((x.rows.getD i0 (default : GRow)).samples).getD i1 (default : GSample)).value)] : List AV).getD j1 (.con undef))] : List AV).getD j0 (.con undef)), .int .i64 x.offset] : List AV).getD p (.con undef)))] (.one (.int .i64 ((a + cvHead x : Nat) : Int))) [(1000000, .trees 2 (fun p => ([.lst 2 (((mvHead x a).rows).length) (fun i0 j0 => ([.str ((((mvHead x a).rows).getD i0 (default : GRow)).name), .lst 2 (((((mvHead x a).rows).getD i0 (default : GRow)).samples).length) (fun i1 j1 => ([.int .i64 ((((((mvHead x a).rows).getD i0 (default : GRow)).samples).getD i1 (default : GSample)).at_), .int .i64 ((((((mvHead x a).rows).getD i0 (default : GRow)).samples).getD i1 (default : GSample)).value)] : List AV).getD j1 (.con undef))] : List AV).getD j0 (.con undef)), .int .i64 ((mvHead x a).offset)] : List AV).getD p (.con undef)))] := by
  obtain ⟨ha0, ha1⟩ := ha
  have hcv : cvHead x = 0 + ctL crRow (x.rows) := rfl
  refine FnG.of_body (fn := Try.f17) Try.func17 rfl (Nat.le_of_ble_eq_true rfl) ?_
  intro w0
  show AW _ 10 _ _ _ _
  refine AW.seq ?_
  refine AW.region ?_
  refine ARun.box (id := 0) rfl (.tmp rfl) (SV.cells_of (by exact ⟨trivial, trivial, trivial⟩)) ⟨rfl, (by repeat first | exact trivial | refine ⟨by decide, by first | rfl | exact trivial | (intro i j; first | rfl | exact getD_no rfl | (dsimp only; split <;> first | rfl | exact getD_no rfl) | exact scl_no (by apply_assumption) _), ?_⟩)⟩ rfl rfl rfl (Nat.le_of_ble_eq_true rfl) ?_
  refine ARun.pure (PureOp.assign rfl .int) rfl rfl (Nat.le_of_ble_eq_true rfl) ?_
  refine ARun.nil ?_
  refine AW.seq ?_
  refine AW.region ?_
  refine ARun.pure (PureOp.fieldPtr rfl (.tmp rfl) vq_fi_29_0_0) rfl rfl (Nat.le_of_ble_eq_true rfl) ?_
  refine ARun.pure (PureOp.loadPtr rfl (.tmp rfl) vq_pl_27 rfl rfl (Nat.le_of_ble_eq_true rfl) (Nat.le_of_ble_eq_true rfl)) rfl rfl (Nat.le_of_ble_eq_true rfl) ?_
  refine ARun.pure (PureOp.move rfl (.tmp rfl)) rfl rfl (Nat.le_of_ble_eq_true rfl) ?_
  refine ARun.mark (id := 1000000) (q0 := 0) (X' := fun q => if q = 0 then .lst 2 ((mkL crRow mrRow x.rows a).length) (fun i0 j0 => ([.str (((mkL crRow mrRow x.rows a).getD i0 (default : GRow)).name), .lst 2 ((((mkL crRow mrRow x.rows a).getD i0 (default : GRow)).samples).length) (fun i1 j1 => ([.int .i64 (((((mkL crRow mrRow x.rows a).getD i0 (default : GRow)).samples).getD i1 (default : GSample)).at_), .int .i64 (((((mkL crRow mrRow x.rows a).getD i0 (default : GRow)).samples).getD i1 (default : GSample)).value)] : List AV).getD j1 (.con undef))] : List AV).getD j0 (.con undef)) else (fun p => ([.lst 2 x.rows.length (fun i0 j0 => ([.str ((x.rows.getD i0 (default : GRow)).name), .lst 2 (((x.rows.getD i0 (default : GRow)).samples).length) (fun i1 j1 => ([.int .i64 ((((x.rows.getD i0 (default : GRow)).samples).getD i1 (default : GSample)).at_), .int .i64 ((((x.rows.getD i0 (default : GRow)).samples).getD i1 (default : GSample)).value)] : List AV).getD j1 (.con undef))] : List AV).getD j0 (.con undef)), .int .i64 x.offset] : List AV).getD p (.con undef)) q) rfl (m_RowS x.rows a ⟨by omega, by omega⟩) vq_ca_51 trivial (.tmp rfl) rfl rfl rfl (Nat.le_of_ble_eq_true rfl) (fun p hp _ => match p, hp with | 0, _ => rfl | _ + 1, h => absurd h (by simp [SV.leaves])) rfl trivial (fun p hp _ => match p, hp with | 0, _ => if_pos rfl | _ + 1, h => absurd h (by simp [SV.leaves])) (fun q _ hne => if_neg (fun e => hne 0 (Nat.zero_lt_one) rfl e)) ⟨(.tmp rfl), trivial, trivial⟩ rfl rfl (Nat.le_of_ble_eq_true rfl) ?_
  refine ARun.pure (PureOp.assign rfl (.tmp rfl)) rfl rfl (Nat.le_of_ble_eq_true rfl) ?_
  refine ARun.nil ?_
  refine AW.seq ?_
  refine AW.region ?_
  refine ARun.pure (PureOp.move rfl (.tmp rfl)) rfl rfl (Nat.le_of_ble_eq_true rfl) ?_
  refine ARun.pure (PureOp.assign rfl (.tmp rfl)) rfl rfl (Nat.le_of_ble_eq_true rfl) ?_
  refine ARun.nil ?_
  refine AW.ret (show ResL _ _ [.tmp 4] _ ∧ HeapLe _ _ from ⟨resI rfl ?_, ⟨⟨_, rfl, fun q hq => match q, hq with | 0, _ => rfl | 1, _ => rfl | _ + 2, h => absurd h (by omega)⟩, trivial⟩⟩)
  omega

theorem m_Head (x : GHead) (a : Nat) (ha : 0 < a ∧ a + cvHead x ≤ 900000000) : FnM Try.prog 17 (.agg [.lst 2 x.rows.length (fun i0 j0 => ([.str ((x.rows.getD i0 (default : GRow)).name), .lst 2 (((x.rows.getD i0 (default : GRow)).samples).length) (fun i1 j1 => ([.int .i64 ((((x.rows.getD i0 (default : GRow)).samples).getD i1 (default : GSample)).at_), .int .i64 ((((x.rows.getD i0 (default : GRow)).samples).getD i1 (default : GSample)).value)] : List AV).getD j1 (.con undef))] : List AV).getD j0 (.con undef)), .int .i64 x.offset]) [.one (.int .i64 (a : Int))] (.one (.int .i64 ((a + cvHead x : Nat) : Int))) (.agg [.lst 2 (((mvHead x a).rows).length) (fun i0 j0 => ([.str ((((mvHead x a).rows).getD i0 (default : GRow)).name), .lst 2 (((((mvHead x a).rows).getD i0 (default : GRow)).samples).length) (fun i1 j1 => ([.int .i64 ((((((mvHead x a).rows).getD i0 (default : GRow)).samples).getD i1 (default : GSample)).at_), .int .i64 ((((((mvHead x a).rows).getD i0 (default : GRow)).samples).getD i1 (default : GSample)).value)] : List AV).getD j1 (.con undef))] : List AV).getD j0 (.con undef)), .int .i64 ((mvHead x a).offset)]) :=
  FnM.ofAgg trivial (fun s hs => by simp only [List.mem_singleton] at hs; subst hs; trivial) rfl (fun _ _ h => h) (g_markHead x a ha)

end Go.Proofs.Ytmfkmifkkplidaa


/-
  What marks left is looked at again.
-/
namespace Go.Proofs.Ytmfkmifkkplidaa
open Go.ChangeShapes Go.WideShapes Go.ChangeAt Go.RowKit Go.BigFrame Go.Deep
set_option linter.unusedVariables false
set_option linter.unusedSimpArgs false
theorem vh2_ca_19 : callB Try.prog 19 = true := by kernel_rfl
theorem vh2_ca_54 : callB Try.prog 54 = true := by kernel_rfl
theorem vh2_ca_63 : callB Try.prog 63 = true := by kernel_rfl
theorem vh2_el_27_2 : elemB Try.prog 27 2 = true := by kernel_rfl
theorem vh2_el_33_2 : elemB Try.prog 33 2 = true := by kernel_rfl
theorem vh2_fi_29_0_0 : fieldB Try.prog 29 0 0 = true := by kernel_rfl
theorem vh2_fi_67_0_0 : fieldB Try.prog 67 0 0 = true := by kernel_rfl
theorem vh2_fi_67_1_1 : fieldB Try.prog 67 1 1 = true := by kernel_rfl
theorem vh2_fi_81_0_0 : fieldB Try.prog 81 0 0 = true := by kernel_rfl
theorem vh2_fi_81_1_1 : fieldB Try.prog 81 1 1 = true := by kernel_rfl
theorem vh2_pl_27 : plainB Try.prog 27 = true := by kernel_rfl
theorem vh2_pl_3 : plainB Try.prog 3 = true := by kernel_rfl
theorem vh2_pl_33 : plainB Try.prog 33 = true := by kernel_rfl
theorem vh2_pl_9 : plainB Try.prog 9 = true := by kernel_rfl
theorem vh2_sl_27 : sliceB Try.prog 27 = true := by kernel_rfl
theorem vh2_sl_33 : sliceB Try.prog 33 = true := by kernel_rfl
theorem h_SampleS (xx yy : List GSample) (a : Nat) (hy : yy = mkL crSample mrSample xx a) (ha : 0 < a ∧ a + ctL crSample xx ≤ 900000000) : Fn Try.prog 19 [.one (.lst 2 yy.length (fun i0 j0 => ([.int .i64 ((yy.getD i0 (default : GSample)).at_), .int .i64 ((yy.getD i0 (default : GSample)).value)] : List AV).getD j0 (.con undef))), .one (.int .i64 (a : Int))] (.one (.int .i64 ((a + ctL crSample xx : Nat) : Int))) := by
  obtain ⟨ha0, ha1⟩ := ha
  have hlen : yy.length = xx.length := by rw [hy]; exact mkL_len
  refine Fn.of_body (fn := Try.f19) Try.func19 rfl (Nat.le_of_ble_eq_true rfl) trivial ?_
  intro w0
  show AW _ 31 _ _ _ _
  refine AW.bound (t := 0) rfl fun hx => ?_
  refine AW.seq ?_
  refine AW.region ?_
  refine ARun.pure (PureOp.assign rfl .int) rfl rfl (Nat.le_of_ble_eq_true rfl) ?_
  refine ARun.nil ?_
  refine AW.seq ?_
  refine AW.seq ?_
  refine AW.region ?_
  refine ARun.pure (PureOp.assign rfl .int) rfl rfl (Nat.le_of_ble_eq_true rfl) ?_
  refine ARun.nil ?_
  refine AW.block ?_
  refine AW.loop (ι := Nat) (fun k => ⟨[(0, .one (.lst 2 yy.length (fun i0 j0 => ([.int .i64 ((yy.getD i0 (default : GSample)).at_), .int .i64 ((yy.getD i0 (default : GSample)).value)] : List AV).getD j0 (.con undef)))), (1, .one (.int .i64 ((a + ((xx.take k).map crSample).sum : Nat) : Int))), (5, .one (.int .i64 (k : Int)))], []⟩) (fun k => k ≤ xx.length) (fun k => xx.length - k) 0 (Nat.zero_le _) ⟨⟨⟨_, rfl, rfl⟩, ⟨_, rfl, by simp⟩, ⟨_, rfl, rfl⟩, trivial⟩, trivial⟩ ?_
  intro k hk
  refine AW.seq ?_
  refine AW.seq ?_
  refine AW.region ?_
  refine ARun.pure (PureOp.move rfl (.tmp rfl)) rfl rfl (Nat.le_of_ble_eq_true rfl) ?_
  refine ARun.pure (PureOp.move rfl (.tmp rfl)) rfl rfl (Nat.le_of_ble_eq_true rfl) ?_
  refine ARun.pure (PureOp.lenLst rfl (.tmp rfl) vh2_sl_33) rfl rfl (Nat.le_of_ble_eq_true rfl) ?_
  refine ARun.pure (PureOp.intOp rfl (.tmp rfl) (.tmp rfl) rfl) rfl rfl (Nat.le_of_ble_eq_true rfl) ?_
  refine ARun.nil ?_
  refine AW.cond (.tmp rfl) (fun hb1 => ?_) (fun hb1 => ?_)
  · have _u := True.intro
    replace hb1 := of_decide_eq_true hb1
    have hkl : k < xx.length := by omega
    obtain ⟨hst, hsm⟩ := ct_step (ct := crSample) (default : GSample) hkl
    have he : yy.getD k (default : GSample) = mrSample (xx.getD k (default : GSample)) (a + ((xx.take k).map crSample).sum) := by rw [hy]; exact mkL_get (default : GSample) hkl
    have hce : crSample (xx.getD k (default : GSample)) = 0 + 1 + 1 := rfl
    refine AW.skip ?_
    refine AW.seq ?_
    refine AW.block ?_
    refine AW.seq ?_
    refine AW.seq ?_
    refine AW.region ?_
    refine ARun.pure (PureOp.move rfl (.tmp rfl)) rfl rfl (Nat.le_of_ble_eq_true rfl) ?_
    refine ARun.pure (PureOp.move rfl (.tmp rfl)) rfl rfl (Nat.le_of_ble_eq_true rfl) ?_
    refine ARun.pure (PureOp.indexLst (i := k) rfl (.tmp rfl) vh2_el_33_2 (.tmp rfl) rfl (by omega)) rfl rfl (Nat.le_of_ble_eq_true rfl) ?_
    refine ARun.pure (PureOp.fieldRef rfl (.tmp rfl) vh2_fi_81_0_0 (Nat.le_of_ble_eq_true rfl)) rfl rfl (Nat.le_of_ble_eq_true rfl) ?_
    refine ARun.pure (PureOp.loadRef rfl (.tmp rfl) vh2_pl_3 (Nat.le_of_ble_eq_true rfl)) rfl rfl (Nat.le_of_ble_eq_true rfl) ?_
    refine ARun.pure (PureOp.move rfl (.tmp rfl)) rfl rfl (Nat.le_of_ble_eq_true rfl) ?_
    refine ARun.pure (PureOp.intOp rfl (.tmp rfl) (.tmp rfl) rfl) rfl rfl (Nat.le_of_ble_eq_true rfl) ?_
    refine ARun.nil ?_
    refine AW.cond (.tmp rfl) (fun hb2 => ?_) (fun hb2 => ?_)
    · have _u := True.intro
      replace hb2 := of_decide_eq_false (of_not hb2)
      exact absurd (by rw [he]; rfl) hb2
      --end
    · have _u := True.intro
      replace hb2 := of_decide_eq_true (not_f hb2)
      refine AW.skip ?_
      refine AW.seq ?_
      refine AW.region ?_
      refine ARun.pure (PureOp.move rfl (.tmp rfl)) rfl rfl (Nat.le_of_ble_eq_true rfl) ?_
      refine ARun.pure (PureOp.add (c := ((a + ((xx.take k).map crSample).sum + 1 : Nat) : Int)) rfl (.tmp rfl) .int (by rw [wrap_id (by omega) (by omega)]; omega)) rfl rfl (Nat.le_of_ble_eq_true rfl) ?_
      refine ARun.pure (PureOp.assign rfl (.tmp rfl)) rfl rfl (Nat.le_of_ble_eq_true rfl) ?_
      refine ARun.nil ?_
      refine AW.seq ?_
      refine AW.seq ?_
      refine AW.region ?_
      refine ARun.pure (PureOp.move rfl (.tmp rfl)) rfl rfl (Nat.le_of_ble_eq_true rfl) ?_
      refine ARun.pure (PureOp.move rfl (.tmp rfl)) rfl rfl (Nat.le_of_ble_eq_true rfl) ?_
      refine ARun.pure (PureOp.indexLst (i := k) rfl (.tmp rfl) vh2_el_33_2 (.tmp rfl) rfl (by omega)) rfl rfl (Nat.le_of_ble_eq_true rfl) ?_
      refine ARun.pure (PureOp.fieldRef rfl (.tmp rfl) vh2_fi_81_1_1 (Nat.le_of_ble_eq_true rfl)) rfl rfl (Nat.le_of_ble_eq_true rfl) ?_
      refine ARun.pure (PureOp.loadRef rfl (.tmp rfl) vh2_pl_3 (Nat.le_of_ble_eq_true rfl)) rfl rfl (Nat.le_of_ble_eq_true rfl) ?_
      refine ARun.pure (PureOp.move rfl (.tmp rfl)) rfl rfl (Nat.le_of_ble_eq_true rfl) ?_
      refine ARun.pure (PureOp.intOp rfl (.tmp rfl) (.tmp rfl) rfl) rfl rfl (Nat.le_of_ble_eq_true rfl) ?_
      refine ARun.nil ?_
      refine AW.cond (.tmp rfl) (fun hb3 => ?_) (fun hb3 => ?_)
      · have _u := True.intro
        replace hb3 := of_decide_eq_false (of_not hb3)
        exact absurd (by rw [he]; rfl) hb3
        --end
      · have _u := True.intro
        replace hb3 := of_decide_eq_true (not_f hb3)
        refine AW.skip ?_
        refine AW.region ?_
        refine ARun.pure (PureOp.move rfl (.tmp rfl)) rfl rfl (Nat.le_of_ble_eq_true rfl) ?_
        refine ARun.pure (PureOp.add (c := ((a + ((xx.take k).map crSample).sum + 1 + 1 : Nat) : Int)) rfl (.tmp rfl) .int (by rw [wrap_id (by omega) (by omega)]; omega)) rfl rfl (Nat.le_of_ble_eq_true rfl) ?_
        refine ARun.pure (PureOp.assign rfl (.tmp rfl)) rfl rfl (Nat.le_of_ble_eq_true rfl) ?_
        refine ARun.nil ?_
        refine AW.region ?_
        refine ARun.pure (PureOp.move rfl (.tmp rfl)) rfl rfl (Nat.le_of_ble_eq_true rfl) ?_
        refine ARun.pure (PureOp.add (c := ((k + 1 : Nat) : Int)) rfl (.tmp rfl) .int (by rw [wrap_id (by omega) (by omega)]; omega)) rfl rfl (Nat.le_of_ble_eq_true rfl) ?_
        refine ARun.pure (PureOp.assign rfl (.tmp rfl)) rfl rfl (Nat.le_of_ble_eq_true rfl) ?_
        refine ARun.nil ?_
        exact ⟨k + 1, by omega, by dsimp only; omega, ⟨⟨⟨_, rfl, rfl⟩, ⟨_, rfl, congrArg (fun z : Nat => SV.one (.int .i64 (z : Int))) (by omega)⟩, ⟨_, rfl, rfl⟩, trivial⟩, trivial⟩⟩
  · have _u := True.intro
    replace hb1 := of_decide_eq_false hb1
    have hkl : ¬ k < xx.length := by omega
    refine AW.exit ?_
    refine AW.seq ?_
    refine AW.region ?_
    refine ARun.pure (PureOp.move rfl (.tmp rfl)) rfl rfl (Nat.le_of_ble_eq_true rfl) ?_
    refine ARun.pure (PureOp.assign rfl (.tmp rfl)) rfl rfl (Nat.le_of_ble_eq_true rfl) ?_
    refine ARun.nil ?_
    refine AW.ret (show ResL _ _ [.tmp 4] _ from resI rfl ?_)
    have hend : ctL crSample xx = ((xx.take k).map crSample).sum := (ct_end hkl).symm
    omega

theorem h_RowS (xx yy : List GRow) (a : Nat) (hy : yy = mkL crRow mrRow xx a) (ha : 0 < a ∧ a + ctL crRow xx ≤ 900000000) : Fn Try.prog 54 [.one (.lst 2 yy.length (fun i0 j0 => ([.str ((yy.getD i0 (default : GRow)).name), .lst 2 (((yy.getD i0 (default : GRow)).samples).length) (fun i1 j1 => ([.int .i64 ((((yy.getD i0 (default : GRow)).samples).getD i1 (default : GSample)).at_), .int .i64 ((((yy.getD i0 (default : GRow)).samples).getD i1 (default : GSample)).value)] : List AV).getD j1 (.con undef))] : List AV).getD j0 (.con undef))), .one (.int .i64 (a : Int))] (.one (.int .i64 ((a + ctL crRow xx : Nat) : Int))) := by
  obtain ⟨ha0, ha1⟩ := ha
  have hlen : yy.length = xx.length := by rw [hy]; exact mkL_len
  refine Fn.of_body (fn := Try.f54) Try.func54 rfl (Nat.le_of_ble_eq_true rfl) trivial ?_
  intro w0
  show AW _ 32 _ _ _ _
  refine AW.bound (t := 0) rfl fun hx => ?_
  refine AW.seq ?_
  refine AW.region ?_
  refine ARun.pure (PureOp.assign rfl .int) rfl rfl (Nat.le_of_ble_eq_true rfl) ?_
  refine ARun.nil ?_
  refine AW.seq ?_
  refine AW.seq ?_
  refine AW.region ?_
  refine ARun.pure (PureOp.assign rfl .int) rfl rfl (Nat.le_of_ble_eq_true rfl) ?_
  refine ARun.nil ?_
  refine AW.block ?_
  refine AW.loop (ι := Nat) (fun k => ⟨[(0, .one (.lst 2 yy.length (fun i0 j0 => ([.str ((yy.getD i0 (default : GRow)).name), .lst 2 (((yy.getD i0 (default : GRow)).samples).length) (fun i1 j1 => ([.int .i64 ((((yy.getD i0 (default : GRow)).samples).getD i1 (default : GSample)).at_), .int .i64 ((((yy.getD i0 (default : GRow)).samples).getD i1 (default : GSample)).value)] : List AV).getD j1 (.con undef))] : List AV).getD j0 (.con undef)))), (1, .one (.int .i64 ((a + ((xx.take k).map crRow).sum : Nat) : Int))), (5, .one (.int .i64 (k : Int)))], []⟩) (fun k => k ≤ xx.length) (fun k => xx.length - k) 0 (Nat.zero_le _) ⟨⟨⟨_, rfl, rfl⟩, ⟨_, rfl, by simp⟩, ⟨_, rfl, rfl⟩, trivial⟩, trivial⟩ ?_
  intro k hk
  refine AW.seq ?_
  refine AW.seq ?_
  refine AW.region ?_
  refine ARun.pure (PureOp.move rfl (.tmp rfl)) rfl rfl (Nat.le_of_ble_eq_true rfl) ?_
  refine ARun.pure (PureOp.move rfl (.tmp rfl)) rfl rfl (Nat.le_of_ble_eq_true rfl) ?_
  refine ARun.pure (PureOp.lenLst rfl (.tmp rfl) vh2_sl_27) rfl rfl (Nat.le_of_ble_eq_true rfl) ?_
  refine ARun.pure (PureOp.intOp rfl (.tmp rfl) (.tmp rfl) rfl) rfl rfl (Nat.le_of_ble_eq_true rfl) ?_
  refine ARun.nil ?_
  refine AW.cond (.tmp rfl) (fun hb1 => ?_) (fun hb1 => ?_)
  · have _u := True.intro
    replace hb1 := of_decide_eq_true hb1
    have hkl : k < xx.length := by omega
    obtain ⟨hst, hsm⟩ := ct_step (ct := crRow) (default : GRow) hkl
    have he : yy.getD k (default : GRow) = mrRow (xx.getD k (default : GRow)) (a + ((xx.take k).map crRow).sum) := by rw [hy]; exact mkL_get (default : GRow) hkl
    have hce : crRow (xx.getD k (default : GRow)) = 0 + 1 + ctL crSample ((xx.getD k (default : GRow)).samples) := rfl
    refine AW.skip ?_
    refine AW.seq ?_
    refine AW.block ?_
    refine AW.seq ?_
    refine AW.seq ?_
    refine AW.any (by kernel_rfl) (by kernel_rfl) ?_
    refine AD.pure (PureOp.move rfl (.tmp rfl)) rfl rfl (Nat.le_of_ble_eq_true rfl) ?_
    refine AD.pure (PureOp.move rfl (.tmp rfl)) rfl rfl (Nat.le_of_ble_eq_true rfl) ?_
    refine AD.pure (PureOp.indexLst (i := k) rfl (.tmp rfl) vh2_el_27_2 (.tmp rfl) rfl (by omega)) rfl rfl (Nat.le_of_ble_eq_true rfl) ?_
    refine AD.pure (PureOp.fieldRef rfl (.tmp rfl) vh2_fi_67_0_0 (Nat.le_of_ble_eq_true rfl)) rfl rfl (Nat.le_of_ble_eq_true rfl) ?_
    refine AD.pure (PureOp.loadRef rfl (.tmp rfl) vh2_pl_9 (Nat.le_of_ble_eq_true rfl)) rfl rfl (Nat.le_of_ble_eq_true rfl) ?_
    refine AD.pure (PureOp.move rfl (.tmp rfl)) rfl rfl (Nat.le_of_ble_eq_true rfl) ?_
    refine AD.pure (PureOp.call rfl (v_markText (a + ((xx.take k).map crRow).sum) (by omega) (by omega)) ⟨⟨_, (.tmp rfl), .int⟩, trivial⟩ vh2_ca_63 (Nat.le_trans (mkText_size (by omega)) (by decide))) rfl rfl (Nat.le_of_ble_eq_true rfl) ?_
    refine AD.pure (PureOp.strOp rfl (.tmp rfl) (.tmp rfl) rfl) rfl rfl (Nat.le_of_ble_eq_true rfl) ?_
    refine AD.nil ?_
    refine AW.cond (.tmp rfl) (fun hb2 => ?_) (fun hb2 => ?_)
    · have _u := True.intro
      replace hb2 := of_decide_eq_false (of_not hb2)
      exact absurd (by rw [he]; rfl) hb2
      --end
    · have _u := True.intro
      replace hb2 := of_decide_eq_true (not_f hb2)
      refine AW.skip ?_
      refine AW.seq ?_
      refine AW.region ?_
      refine ARun.pure (PureOp.move rfl (.tmp rfl)) rfl rfl (Nat.le_of_ble_eq_true rfl) ?_
      refine ARun.pure (PureOp.add (c := ((a + ((xx.take k).map crRow).sum + 1 : Nat) : Int)) rfl (.tmp rfl) .int (by rw [wrap_id (by omega) (by omega)]; omega)) rfl rfl (Nat.le_of_ble_eq_true rfl) ?_
      refine ARun.pure (PureOp.assign rfl (.tmp rfl)) rfl rfl (Nat.le_of_ble_eq_true rfl) ?_
      refine ARun.nil ?_
      refine AW.seq ?_
      refine AW.region ?_
      refine ARun.pure (PureOp.move rfl (.tmp rfl)) rfl rfl (Nat.le_of_ble_eq_true rfl) ?_
      refine ARun.pure (PureOp.move rfl (.tmp rfl)) rfl rfl (Nat.le_of_ble_eq_true rfl) ?_
      refine ARun.pure (PureOp.indexLst (i := k) rfl (.tmp rfl) vh2_el_27_2 (.tmp rfl) rfl (by omega)) rfl rfl (Nat.le_of_ble_eq_true rfl) ?_
      refine ARun.pure (PureOp.fieldRef rfl (.tmp rfl) vh2_fi_67_1_1 (Nat.le_of_ble_eq_true rfl)) rfl rfl (Nat.le_of_ble_eq_true rfl) ?_
      refine ARun.pure (PureOp.loadRef rfl (.tmp rfl) vh2_pl_33 (Nat.le_of_ble_eq_true rfl)) rfl rfl (Nat.le_of_ble_eq_true rfl) ?_
      refine ARun.pure (PureOp.move rfl (.tmp rfl)) rfl rfl (Nat.le_of_ble_eq_true rfl) ?_
      refine ARun.pure (PureOp.call rfl (h_SampleS ((xx.getD k (default : GRow)).samples) ((yy.getD k (default : GRow)).samples) (a + ((xx.take k).map crRow).sum + 1) (by first | exact he | (rw [he]; rfl)) ⟨by omega, by omega⟩) ⟨⟨_, (.tmp rfl), .lst⟩, ⟨_, (.tmp rfl), .int⟩, trivial⟩ vh2_ca_19 trivial) rfl rfl (Nat.le_of_ble_eq_true rfl) ?_
      refine ARun.pure (PureOp.assign rfl (.tmp rfl)) rfl rfl (Nat.le_of_ble_eq_true rfl) ?_
      refine ARun.nil ?_
      refine AW.seq ?_
      refine AW.region ?_
      refine ARun.pure (PureOp.move rfl (.tmp rfl)) rfl rfl (Nat.le_of_ble_eq_true rfl) ?_
      refine ARun.pure (PureOp.intOp rfl (.tmp rfl) .int rfl) rfl rfl (Nat.le_of_ble_eq_true rfl) ?_
      refine ARun.nil ?_
      refine AW.cond (.tmp rfl) (fun hb3 => ?_) (fun hb3 => ?_)
      · have _u := True.intro
        replace hb3 := of_decide_eq_true hb3
        exact absurd hb3 (by omega)
        --end
      · have _u := True.intro
        replace hb3 := of_decide_eq_false hb3
        refine AW.skip ?_
        refine AW.region ?_
        refine ARun.pure (PureOp.move rfl (.tmp rfl)) rfl rfl (Nat.le_of_ble_eq_true rfl) ?_
        refine ARun.pure (PureOp.add (c := ((k + 1 : Nat) : Int)) rfl (.tmp rfl) .int (by rw [wrap_id (by omega) (by omega)]; omega)) rfl rfl (Nat.le_of_ble_eq_true rfl) ?_
        refine ARun.pure (PureOp.assign rfl (.tmp rfl)) rfl rfl (Nat.le_of_ble_eq_true rfl) ?_
        refine ARun.nil ?_
        exact ⟨k + 1, by omega, by dsimp only; omega, ⟨⟨⟨_, rfl, rfl⟩, ⟨_, rfl, congrArg (fun z : Nat => SV.one (.int .i64 (z : Int))) (by omega)⟩, ⟨_, rfl, rfl⟩, trivial⟩, trivial⟩⟩
  · have _u := True.intro
    replace hb1 := of_decide_eq_false hb1
    have hkl : ¬ k < xx.length := by omega
    refine AW.exit ?_
    refine AW.seq ?_
    refine AW.region ?_
    refine ARun.pure (PureOp.move rfl (.tmp rfl)) rfl rfl (Nat.le_of_ble_eq_true rfl) ?_
    refine ARun.pure (PureOp.assign rfl (.tmp rfl)) rfl rfl (Nat.le_of_ble_eq_true rfl) ?_
    refine ARun.nil ?_
    refine AW.ret (show ResL _ _ [.tmp 4] _ from resI rfl ?_)
    have hend : ctL crRow xx = ((xx.take k).map crRow).sum := (ct_end hkl).symm
    omega

theorem h_Head (xx yy : GHead) (a : Nat) (hy : yy = mvHead xx a) (ha : 0 < a ∧ a + cvHead xx ≤ 900000000) : Fn Try.prog 22 [.agg [.lst 2 yy.rows.length (fun i0 j0 => ([.str ((yy.rows.getD i0 (default : GRow)).name), .lst 2 (((yy.rows.getD i0 (default : GRow)).samples).length) (fun i1 j1 => ([.int .i64 ((((yy.rows.getD i0 (default : GRow)).samples).getD i1 (default : GSample)).at_), .int .i64 ((((yy.rows.getD i0 (default : GRow)).samples).getD i1 (default : GSample)).value)] : List AV).getD j1 (.con undef))] : List AV).getD j0 (.con undef)), .int .i64 yy.offset], .one (.int .i64 (a : Int))] (.one (.int .i64 ((a + cvHead xx : Nat) : Int))) := by
  obtain ⟨ha0, ha1⟩ := ha
  have hcv : cvHead xx = 0 + ctL crRow (xx.rows) := rfl
  refine Fn.of_body (fn := Try.f22) Try.func22 rfl (Nat.le_of_ble_eq_true rfl) trivial ?_
  intro w0
  show AW _ 12 _ _ _ _
  refine AW.seq ?_
  refine AW.region ?_
  refine ARun.box (id := 0) rfl (.tmp rfl) (SV.cells_of (by exact ⟨trivial, trivial, trivial⟩)) ⟨rfl, (by repeat first | exact trivial | refine ⟨by decide, by first | rfl | exact trivial | (intro i j; first | rfl | exact getD_no rfl | (dsimp only; split <;> first | rfl | exact getD_no rfl) | exact scl_no (by apply_assumption) _), ?_⟩)⟩ rfl rfl rfl (Nat.le_of_ble_eq_true rfl) ?_
  refine ARun.pure (PureOp.assign rfl .int) rfl rfl (Nat.le_of_ble_eq_true rfl) ?_
  refine ARun.nil ?_
  refine AW.seq ?_
  refine AW.region ?_
  refine ARun.pure (PureOp.fieldPtr rfl (.tmp rfl) vh2_fi_29_0_0) rfl rfl (Nat.le_of_ble_eq_true rfl) ?_
  refine ARun.pure (PureOp.loadPtr rfl (.tmp rfl) vh2_pl_27 rfl rfl (Nat.le_of_ble_eq_true rfl) (Nat.le_of_ble_eq_true rfl)) rfl rfl (Nat.le_of_ble_eq_true rfl) ?_
  refine ARun.pure (PureOp.move rfl (.tmp rfl)) rfl rfl (Nat.le_of_ble_eq_true rfl) ?_
  refine ARun.pure (PureOp.call rfl (h_RowS xx.rows yy.rows a (by rw [hy]; rfl) ⟨by omega, by omega⟩) ⟨⟨_, (.tmp rfl), .lst⟩, ⟨_, (.tmp rfl), .int⟩, trivial⟩ vh2_ca_54 trivial) rfl rfl (Nat.le_of_ble_eq_true rfl) ?_
  refine ARun.pure (PureOp.assign rfl (.tmp rfl)) rfl rfl (Nat.le_of_ble_eq_true rfl) ?_
  refine ARun.nil ?_
  refine AW.seq ?_
  refine AW.seq ?_
  refine AW.region ?_
  refine ARun.pure (PureOp.move rfl (.tmp rfl)) rfl rfl (Nat.le_of_ble_eq_true rfl) ?_
  refine ARun.pure (PureOp.intOp rfl (.tmp rfl) .int rfl) rfl rfl (Nat.le_of_ble_eq_true rfl) ?_
  refine ARun.nil ?_
  refine AW.cond (.tmp rfl) (fun hb1 => ?_) (fun hb1 => ?_)
  · have _u := True.intro
    replace hb1 := of_decide_eq_true hb1
    exact absurd hb1 (by omega)
    --end
  · have _u := True.intro
    replace hb1 := of_decide_eq_false hb1
    refine AW.skip ?_
    refine AW.seq ?_
    refine AW.region ?_
    refine ARun.pure (PureOp.move rfl (.tmp rfl)) rfl rfl (Nat.le_of_ble_eq_true rfl) ?_
    refine ARun.pure (PureOp.assign rfl (.tmp rfl)) rfl rfl (Nat.le_of_ble_eq_true rfl) ?_
    refine ARun.nil ?_
    refine AW.ret (show ResL _ _ [.tmp 4] _ from resI rfl ?_)
    omega

end Go.Proofs.Ytmfkmifkkplidaa


/-
  The laws' own copies (to), as trees.
-/
namespace Go.Proofs.Ytmfkmifkkplidaa
open Go.ChangeShapes Go.WideShapes Go.ChangeAt Go.RowKit Go.BigFrame Go.Deep
set_option linter.unusedVariables false
set_option linter.unusedSimpArgs false
theorem vp_ag_103_2 : aggB Try.prog 103 2 = true := by kernel_rfl
theorem vp_ag_124_2 : aggB Try.prog 124 2 = true := by kernel_rfl
theorem vp_ag_29_2 : aggB Try.prog 29 2 = true := by kernel_rfl
theorem vp_ag_47_3 : aggB Try.prog 47 3 = true := by kernel_rfl
theorem vp_ag_67_2 : aggB Try.prog 67 2 = true := by kernel_rfl
theorem vp_ag_81_2 : aggB Try.prog 81 2 = true := by kernel_rfl
theorem vp_ca_45 : callB Try.prog 45 = true := by kernel_rfl
theorem vp_ca_69 : callB Try.prog 69 = true := by kernel_rfl
theorem vp_ca_85 : callB Try.prog 85 = true := by kernel_rfl
theorem vp_ca_90 : callB Try.prog 90 = true := by kernel_rfl
theorem vp_el_101_2 : elemB Try.prog 101 2 = true := by kernel_rfl
theorem vp_el_22_2 : elemB Try.prog 22 2 = true := by kernel_rfl
theorem vp_el_27_2 : elemB Try.prog 27 2 = true := by kernel_rfl
theorem vp_el_33_2 : elemB Try.prog 33 2 = true := by kernel_rfl
theorem vp_fi_103_0_0 : fieldB Try.prog 103 0 0 = true := by kernel_rfl
theorem vp_fi_103_1_1 : fieldB Try.prog 103 1 1 = true := by kernel_rfl
theorem vp_fi_124_0_0 : fieldB Try.prog 124 0 0 = true := by kernel_rfl
theorem vp_fi_124_1_1 : fieldB Try.prog 124 1 1 = true := by kernel_rfl
theorem vp_fi_24_0_0 : fieldB Try.prog 24 0 0 = true := by kernel_rfl
theorem vp_fi_24_1_1 : fieldB Try.prog 24 1 1 = true := by kernel_rfl
theorem vp_fi_29_0_0 : fieldB Try.prog 29 0 0 = true := by kernel_rfl
theorem vp_fi_29_1_1 : fieldB Try.prog 29 1 1 = true := by kernel_rfl
theorem vp_fi_44_0_0 : fieldB Try.prog 44 0 0 = true := by kernel_rfl
theorem vp_fi_44_1_1 : fieldB Try.prog 44 1 1 = true := by kernel_rfl
theorem vp_fi_44_2_2 : fieldB Try.prog 44 2 2 = true := by kernel_rfl
theorem vp_fi_47_0_0 : fieldB Try.prog 47 0 0 = true := by kernel_rfl
theorem vp_fi_47_1_1 : fieldB Try.prog 47 1 1 = true := by kernel_rfl
theorem vp_fi_47_2_2 : fieldB Try.prog 47 2 2 = true := by kernel_rfl
theorem vp_fi_67_0_0 : fieldB Try.prog 67 0 0 = true := by kernel_rfl
theorem vp_fi_67_1_1 : fieldB Try.prog 67 1 1 = true := by kernel_rfl
theorem vp_fi_81_0_0 : fieldB Try.prog 81 0 0 = true := by kernel_rfl
theorem vp_fi_81_1_1 : fieldB Try.prog 81 1 1 = true := by kernel_rfl
theorem vp_pl_101 : plainB Try.prog 101 = true := by kernel_rfl
theorem vp_pl_22 : plainB Try.prog 22 = true := by kernel_rfl
theorem vp_pl_3 : plainB Try.prog 3 = true := by kernel_rfl
theorem vp_pl_9 : plainB Try.prog 9 = true := by kernel_rfl
theorem vp_sl_101 : sliceB Try.prog 101 = true := by kernel_rfl
theorem vp_sl_22 : sliceB Try.prog 22 = true := by kernel_rfl
theorem vp_sz_27_1 : sizeB Try.prog 27 1 = true := by kernel_rfl
theorem vp_sz_29_2 : sizeB Try.prog 29 2 = true := by kernel_rfl
theorem vp_sz_33_1 : sizeB Try.prog 33 1 = true := by kernel_rfl
theorem vp_sz_3_1 : sizeB Try.prog 3 1 = true := by kernel_rfl
theorem vp_sz_47_3 : sizeB Try.prog 47 3 = true := by kernel_rfl
theorem vp_sz_67_2 : sizeB Try.prog 67 2 = true := by kernel_rfl
theorem vp_sz_81_2 : sizeB Try.prog 81 2 = true := by kernel_rfl
theorem vp_sz_9_1 : sizeB Try.prog 9 1 = true := by kernel_rfl
theorem v_toSample (x : GSample) : FnF Try.prog 90 [.agg [.int .i64 x.at_, .int .i64 x.value]] (.agg [.int .i64 x.at_, .int .i64 x.value]) := by
  refine FnF.of_body (fn := Try.f90) Try.func90 rfl (Nat.le_of_ble_eq_true rfl)  ?_
  intro w0
  show AW _ 11 _ _ _ _
  refine AW.seq ?_
  refine AW.region ?_
  refine ARun.box (id := 0) rfl (.tmp rfl) (SV.cells_of (by exact ⟨trivial, trivial, trivial⟩)) ⟨rfl, (by repeat first | exact trivial | refine ⟨by decide, by first | rfl | exact trivial | (intro i j; first | rfl | exact getD_no rfl | (dsimp only; split <;> first | rfl | exact getD_no rfl) | exact scl_no (by apply_assumption) _), ?_⟩)⟩ rfl rfl rfl (Nat.le_of_ble_eq_true rfl) ?_
  refine ARun.alloc (id := 1) (l := [.int .i64 0, .int .i64 0]) (z := (.agg #[.int .i64 0, .int .i64 0])) rfl (by kernel_rfl) (fun _ _ _ => ⟨_, _, rfl, rfl, ⟨_, _, rfl, rfl, rfl⟩⟩) ⟨rfl, (by repeat first | exact trivial | refine ⟨by decide, by first | rfl | exact trivial | (intro i j; first | rfl | exact getD_no rfl | (dsimp only; split <;> first | rfl | exact getD_no rfl) | exact scl_no (by apply_assumption) _), ?_⟩)⟩ rfl rfl rfl (Nat.le_of_ble_eq_true rfl) ?_
  refine ARun.nil ?_
  refine AW.seq ?_
  refine AW.region ?_
  refine ARun.alloc (id := 2) (l := [.int .i64 0, .int .i64 0]) (z := (.agg #[.int .i64 0, .int .i64 0])) rfl (by kernel_rfl) (fun _ _ _ => ⟨_, _, rfl, rfl, ⟨_, _, rfl, rfl, rfl⟩⟩) ⟨rfl, (by repeat first | exact trivial | refine ⟨by decide, by first | rfl | exact trivial | (intro i j; first | rfl | exact getD_no rfl | (dsimp only; split <;> first | rfl | exact getD_no rfl) | exact scl_no (by apply_assumption) _), ?_⟩)⟩ rfl rfl rfl (Nat.le_of_ble_eq_true rfl) ?_
  refine ARun.nil ?_
  refine AW.seq ?_
  refine AW.region ?_
  refine ARun.pure (PureOp.fieldPtr rfl (.tmp rfl) vp_fi_124_0_0) rfl rfl (Nat.le_of_ble_eq_true rfl) ?_
  refine ARun.pure (PureOp.loadPtr rfl (.tmp rfl) vp_pl_3 rfl rfl (Nat.le_of_ble_eq_true rfl) (Nat.le_of_ble_eq_true rfl)) rfl rfl (Nat.le_of_ble_eq_true rfl) ?_
  refine ARun.pure (PureOp.fieldPtr rfl (.tmp rfl) vp_fi_81_0_0) rfl rfl (Nat.le_of_ble_eq_true rfl) ?_
  refine ARun.store rfl (.tmp rfl) (.tmp rfl) trivial rfl (Nat.le_of_ble_eq_true rfl) vp_sz_3_1 rfl rfl ?_
  refine ARun.nil ?_
  refine AW.seq ?_
  refine AW.region ?_
  refine ARun.pure (PureOp.fieldPtr rfl (.tmp rfl) vp_fi_124_1_1) rfl rfl (Nat.le_of_ble_eq_true rfl) ?_
  refine ARun.pure (PureOp.loadPtr rfl (.tmp rfl) vp_pl_3 rfl rfl (Nat.le_of_ble_eq_true rfl) (Nat.le_of_ble_eq_true rfl)) rfl rfl (Nat.le_of_ble_eq_true rfl) ?_
  refine ARun.pure (PureOp.fieldPtr rfl (.tmp rfl) vp_fi_81_1_1) rfl rfl (Nat.le_of_ble_eq_true rfl) ?_
  refine ARun.store rfl (.tmp rfl) (.tmp rfl) trivial rfl (Nat.le_of_ble_eq_true rfl) vp_sz_3_1 rfl rfl ?_
  refine ARun.nil ?_
  refine AW.seq ?_
  refine AW.region ?_
  refine ARun.pure (PureOp.loadPtrAgg rfl (.tmp rfl) vp_ag_81_2 rfl rfl (Nat.le_of_ble_eq_true rfl) (Nat.le_of_ble_eq_true rfl)) rfl rfl (Nat.le_of_ble_eq_true rfl) ?_
  refine ARun.store rfl (.tmp rfl) (.tmp rfl) (SV.cells_of (by exact ⟨trivial, trivial, trivial⟩)) rfl (Nat.le_of_ble_eq_true rfl) vp_sz_81_2 rfl rfl ?_
  refine ARun.nil ?_
  exact AW.ret (show ∃ s, ResL _ _ [.cell 2 81] s ∧ FvS _ s _ from ⟨_, .inl ⟨_, rfl, .cells rfl vp_ag_81_2 rfl rfl (Nat.le_of_ble_eq_true rfl) (Nat.le_of_ble_eq_true rfl)⟩, ⟨.int, .int, trivial⟩⟩)

theorem v_toSampleS (x : List GSample) (hw : Small (x.length)) : FnT Try.prog 85 [.one (.lst 2 x.length (fun i0 j0 => ([.int .i64 ((x.getD i0 (default : GSample)).at_), .int .i64 ((x.getD i0 (default : GSample)).value)] : List AV).getD j0 (.con undef)))] (.one (.lst 2 x.length (fun i0 j0 => ([.int .i64 ((x.getD i0 (default : GSample)).at_), .int .i64 ((x.getD i0 (default : GSample)).value)] : List AV).getD j0 (.con undef)))) := by
  unfold Small at hw
  have hlen : x.length ≤ 1048576 := by omega
  refine FnT.of_body (fn := Try.f85) Try.func85 rfl (Nat.le_of_ble_eq_true rfl)  ?_
  intro w0
  show AW _ 23 _ _ _ _
  refine AW.seq ?_
  refine AW.region ?_
  refine ARun.pure (PureOp.assign rfl .con) rfl rfl (Nat.le_of_ble_eq_true rfl) ?_
  refine ARun.nil ?_
  refine AW.seq ?_
  refine AW.region ?_
  refine ARun.pure (PureOp.move rfl (.tmp rfl)) rfl rfl (Nat.le_of_ble_eq_true rfl) ?_
  refine ARun.pure (PureOp.lenLst rfl (.tmp rfl) vp_sl_101) rfl rfl (Nat.le_of_ble_eq_true rfl) ?_
  refine ARun.make (id := 0) (n := x.length) (l := [.int .i64 0, .int .i64 0]) (z := (.agg #[.int .i64 0, .int .i64 0])) (by_ := 16) rfl (by kernel_rfl) (fun _ _ _ => ⟨_, _, rfl, rfl, ⟨_, _, rfl, rfl, rfl⟩⟩) (.tmp rfl) (.tmp rfl) rfl rfl (by omega) (by omega) (by decide) ⟨rfl, (by repeat first | exact trivial | refine ⟨by decide, by first | rfl | exact trivial | (intro i j; first | rfl | exact getD_no rfl | (dsimp only; split <;> first | rfl | exact getD_no rfl) | exact scl_no (by apply_assumption) _), ?_⟩)⟩ rfl rfl rfl (Nat.le_of_ble_eq_true rfl) ?_
  refine ARun.pure (PureOp.assign rfl (.tmp rfl)) rfl rfl (Nat.le_of_ble_eq_true rfl) ?_
  refine ARun.nil ?_
  refine AW.seq ?_
  refine AW.seq ?_
  refine AW.region ?_
  refine ARun.pure (PureOp.assign rfl .int) rfl rfl (Nat.le_of_ble_eq_true rfl) ?_
  refine ARun.nil ?_
  refine AW.block ?_
  refine AW.loop (ι := Nat) (fun k => ⟨[(0, .one (.lst 2 x.length (fun i0 j0 => ([.int .i64 ((x.getD i0 (default : GSample)).at_), .int .i64 ((x.getD i0 (default : GSample)).value)] : List AV).getD j0 (.con undef)))), (3, .one (.own 0 2 x.length)), (4, .one (.int .i64 (k : Int)))], [(0, .arr 2 x.length (fun a b => if a < k then ceSample (x.getD a (default : GSample)) b else ([.int .i64 0, .int .i64 0] : List AV).getD b (.con undef)))]⟩) (fun k => k ≤ x.length) (fun k => x.length - k) 0 (Nat.zero_le _) ⟨⟨⟨_, rfl, rfl⟩, ⟨_, rfl, rfl⟩, ⟨_, rfl, rfl⟩, trivial⟩, ⟨⟨_, rfl, rfl, Nat.le_refl _, fun a b _ _ => by simp [AObj.f]⟩, trivial⟩⟩ ?_
  intro k hk
  refine AW.seq ?_
  refine AW.seq ?_
  refine AW.region ?_
  refine ARun.pure (PureOp.move rfl (.tmp rfl)) rfl rfl (Nat.le_of_ble_eq_true rfl) ?_
  refine ARun.pure (PureOp.move rfl (.tmp rfl)) rfl rfl (Nat.le_of_ble_eq_true rfl) ?_
  refine ARun.pure (PureOp.lenLst rfl (.tmp rfl) vp_sl_101) rfl rfl (Nat.le_of_ble_eq_true rfl) ?_
  refine ARun.pure (PureOp.intOp rfl (.tmp rfl) (.tmp rfl) rfl) rfl rfl (Nat.le_of_ble_eq_true rfl) ?_
  refine ARun.nil ?_
  refine AW.cond (.tmp rfl) (fun hb1 => ?_) (fun hb1 => ?_)
  · have _u := True.intro
    replace hb1 := of_decide_eq_true hb1
    have hlt : k < x.length := by omega
    refine AW.skip ?_
    refine AW.seq ?_
    refine AW.block ?_
    refine AW.region ?_
    refine ARun.pure (PureOp.move rfl (.tmp rfl)) rfl rfl (Nat.le_of_ble_eq_true rfl) ?_
    refine ARun.pure (PureOp.move rfl (.tmp rfl)) rfl rfl (Nat.le_of_ble_eq_true rfl) ?_
    refine ARun.pure (PureOp.move rfl (.tmp rfl)) rfl rfl (Nat.le_of_ble_eq_true rfl) ?_
    refine ARun.pure (PureOp.move rfl (.tmp rfl)) rfl rfl (Nat.le_of_ble_eq_true rfl) ?_
    refine ARun.pure (PureOp.indexLst (i := k) rfl (.tmp rfl) vp_el_101_2 (.tmp rfl) rfl (by omega)) rfl rfl (Nat.le_of_ble_eq_true rfl) ?_
    refine ARun.pure (PureOp.loadRefAgg rfl (.tmp rfl) vp_ag_124_2 (Nat.le_of_ble_eq_true rfl)) rfl rfl (Nat.le_of_ble_eq_true rfl) ?_
    refine ARun.fresh (FreshOp.callS rfl (v_toSample (x.getD k (default : GSample))) ⟨⟨_, (.tmp rfl), ⟨.int, .int, trivial⟩⟩, trivial⟩ vp_ca_90 rfl) rfl rfl (Nat.le_of_ble_eq_true rfl) ?_
    refine ARun.pure (PureOp.indexOwn (i := k) rfl (.tmp rfl) vp_el_33_2 (.tmp rfl) rfl (by omega)) rfl rfl (Nat.le_of_ble_eq_true rfl) ?_
    refine ARun.storeElem rfl (.tmp rfl) (.tmp rfl) (SV.cells_of (by exact ⟨trivial, trivial, trivial⟩)) rfl (by omega) rfl vp_sz_81_2 rfl rfl ?_
    refine ARun.nil ?_
    refine AW.region ?_
    refine ARun.pure (PureOp.move rfl (.tmp rfl)) rfl rfl (Nat.le_of_ble_eq_true rfl) ?_
    refine ARun.pure (PureOp.add (c := ((k + 1 : Nat) : Int)) rfl (.tmp rfl) .int (by rw [wrap_id (by omega) (by omega)]; omega)) rfl rfl (Nat.le_of_ble_eq_true rfl) ?_
    refine ARun.pure (PureOp.assign rfl (.tmp rfl)) rfl rfl (Nat.le_of_ble_eq_true rfl) ?_
    refine ARun.nil ?_
    exact ⟨k + 1, by omega, by dsimp only; omega, ⟨⟨⟨_, rfl, rfl⟩, ⟨_, rfl, rfl⟩, ⟨_, rfl, rfl⟩, trivial⟩, ⟨⟨_, rfl, rfl, Nat.le_refl _, fun a b _ hb => fill_next (sz := 2) (k := k) (g := fun a b => ceSample (x.getD a (default : GSample)) b) (z := fun b => ([.int .i64 0, .int .i64 0] : List AV).getD b (.con undef)) (c := fun b => ([.int .i64 ((x.getD k (default : GSample)).at_), .int .i64 ((x.getD k (default : GSample)).value)] : List AV).getD b (.con undef)) (fun b hb => match b, hb with | 0, _ => rfl | 1, _ => rfl | _ + 2, h => absurd h (by omega)) a b hb⟩, trivial⟩⟩⟩
  · have _u := True.intro
    replace hb1 := of_decide_eq_false hb1
    have hlt : ¬ k < x.length := by omega
    obtain rfl : k = x.length := by omega
    refine AW.exit ?_
    refine AW.seq ?_
    refine AW.region ?_
    refine ARun.pure (PureOp.move rfl (.tmp rfl)) rfl rfl (Nat.le_of_ble_eq_true rfl) ?_
    refine ARun.pure (PureOp.assign rfl (.tmp rfl)) rfl rfl (Nat.le_of_ble_eq_true rfl) ?_
    refine ARun.nil ?_
    exact AW.ret (show ∃ s t, ResL _ _ [.tmp 2] s ∧ TvS _ (ofLeaf t) 0 s _ from ⟨_, fun a b => if a = 0 then 0 else 1000, .inl ⟨_, rfl, .tmp rfl⟩, (Tv.flat rfl rfl rfl (Nat.le_refl _) (by rfl) (fun i j hi hj => if_pos hi) (fun i j hi hj => match j, hj with | 0, _ => rfl | 1, _ => rfl | _ + 2, h => absurd h (by omega)))⟩)

theorem v_toRow (x : GRow) (hw : Small (wtRow x)) : FnT Try.prog 69 [.agg [.str x.name, .lst 2 x.samples.length (fun i0 j0 => ([.int .i64 ((x.samples.getD i0 (default : GSample)).at_), .int .i64 ((x.samples.getD i0 (default : GSample)).value)] : List AV).getD j0 (.con undef))]] (.agg [.str x.name, .lst 2 x.samples.length (fun i0 j0 => ([.int .i64 ((x.samples.getD i0 (default : GSample)).at_), .int .i64 ((x.samples.getD i0 (default : GSample)).value)] : List AV).getD j0 (.con undef))]) := by
  unfold Small wtRow at hw
  refine FnT.of_body (fn := Try.f69) Try.func69 rfl (Nat.le_of_ble_eq_true rfl)  ?_
  intro w0
  show AW _ 12 _ _ _ _
  refine AW.seq ?_
  refine AW.region ?_
  refine ARun.box (id := 0) rfl (.tmp rfl) (SV.cells_of (by exact ⟨trivial, trivial, trivial⟩)) ⟨rfl, (by repeat first | exact trivial | refine ⟨by decide, by first | rfl | exact trivial | (intro i j; first | rfl | exact getD_no rfl | (dsimp only; split <;> first | rfl | exact getD_no rfl) | exact scl_no (by apply_assumption) _), ?_⟩)⟩ rfl rfl rfl (Nat.le_of_ble_eq_true rfl) ?_
  refine ARun.alloc (id := 1) (l := [.str ByteArray.empty, .con (.slice none 0 0)]) (z := (.agg #[.string ByteArray.empty, .slice none 0 0])) rfl (by kernel_rfl) (fun _ _ _ => ⟨_, _, rfl, ⟨rfl, by decide⟩, ⟨_, _, rfl, rfl, rfl⟩⟩) ⟨rfl, (by repeat first | exact trivial | refine ⟨by decide, by first | rfl | exact trivial | (intro i j; first | rfl | exact getD_no rfl | (dsimp only; split <;> first | rfl | exact getD_no rfl) | exact scl_no (by apply_assumption) _), ?_⟩)⟩ rfl rfl rfl (Nat.le_of_ble_eq_true rfl) ?_
  refine ARun.nil ?_
  refine AW.seq ?_
  refine AW.region ?_
  refine ARun.alloc (id := 2) (l := [.str ByteArray.empty, .con (.slice none 0 0)]) (z := (.agg #[.string ByteArray.empty, .slice none 0 0])) rfl (by kernel_rfl) (fun _ _ _ => ⟨_, _, rfl, ⟨rfl, by decide⟩, ⟨_, _, rfl, rfl, rfl⟩⟩) ⟨rfl, (by repeat first | exact trivial | refine ⟨by decide, by first | rfl | exact trivial | (intro i j; first | rfl | exact getD_no rfl | (dsimp only; split <;> first | rfl | exact getD_no rfl) | exact scl_no (by apply_assumption) _), ?_⟩)⟩ rfl rfl rfl (Nat.le_of_ble_eq_true rfl) ?_
  refine ARun.nil ?_
  refine AW.seq ?_
  refine AW.region ?_
  refine ARun.pure (PureOp.fieldPtr rfl (.tmp rfl) vp_fi_103_0_0) rfl rfl (Nat.le_of_ble_eq_true rfl) ?_
  refine ARun.pure (PureOp.loadPtr rfl (.tmp rfl) vp_pl_9 rfl rfl (Nat.le_of_ble_eq_true rfl) (Nat.le_of_ble_eq_true rfl)) rfl rfl (Nat.le_of_ble_eq_true rfl) ?_
  refine ARun.pure (PureOp.fieldPtr rfl (.tmp rfl) vp_fi_67_0_0) rfl rfl (Nat.le_of_ble_eq_true rfl) ?_
  refine ARun.store rfl (.tmp rfl) (.tmp rfl) trivial rfl (Nat.le_of_ble_eq_true rfl) vp_sz_9_1 rfl rfl ?_
  refine ARun.nil ?_
  refine AW.seq ?_
  refine AW.region ?_
  refine ARun.pure (PureOp.fieldPtr rfl (.tmp rfl) vp_fi_103_1_1) rfl rfl (Nat.le_of_ble_eq_true rfl) ?_
  refine ARun.pure (PureOp.loadPtr rfl (.tmp rfl) vp_pl_101 rfl rfl (Nat.le_of_ble_eq_true rfl) (Nat.le_of_ble_eq_true rfl)) rfl rfl (Nat.le_of_ble_eq_true rfl) ?_
  refine ARun.prod (K := 3) rfl (v_toSampleS x.samples (Small.mk (by omega))) ⟨rfl, (by repeat first | exact trivial | refine ⟨by decide, by first | rfl | exact trivial | (intro i j; first | rfl | exact getD_no rfl | (dsimp only; split <;> first | rfl | exact getD_no rfl) | exact scl_no (by apply_assumption) _), ?_⟩)⟩ ⟨⟨_, (.tmp rfl), .lst⟩, trivial⟩ vp_ca_85 rfl rfl rfl rfl rfl (Nat.le_of_ble_eq_true rfl) ?_
  refine ARun.pure (PureOp.fieldPtr rfl (.tmp rfl) vp_fi_67_1_1) rfl rfl (Nat.le_of_ble_eq_true rfl) ?_
  refine ARun.store rfl (.tmp rfl) (.tmp rfl) trivial rfl (Nat.le_of_ble_eq_true rfl) vp_sz_33_1 rfl rfl ?_
  refine ARun.nil ?_
  refine AW.seq ?_
  refine AW.region ?_
  refine ARun.pure (PureOp.loadPtrAgg rfl (.tmp rfl) vp_ag_67_2 rfl rfl (Nat.le_of_ble_eq_true rfl) (Nat.le_of_ble_eq_true rfl)) rfl rfl (Nat.le_of_ble_eq_true rfl) ?_
  refine ARun.store rfl (.tmp rfl) (.tmp rfl) (SV.cells_of (by exact ⟨trivial, trivial, trivial⟩)) rfl (Nat.le_of_ble_eq_true rfl) vp_sz_67_2 rfl rfl ?_
  refine ARun.nil ?_
  exact AW.ret (show ∃ s t, ResL _ _ [.cell 2 67] s ∧ TvS _ (ofLeaf t) 0 s _ from ⟨_, fun a b => if a = 3 then 1 else 1000, .inl ⟨_, rfl, .cells rfl vp_ag_67_2 rfl rfl (Nat.le_of_ble_eq_true rfl) (Nat.le_of_ble_eq_true rfl)⟩, ⟨.str, (Tv.cast (Tv.tre rfl (Nat.le_of_ble_eq_true rfl) (by rfl)) rfl), trivial⟩⟩)

theorem v_toRowS (x : List GRow) (hw : Small (wtl wtRow x)) : FnT Try.prog 45 [.one (.lst 2 x.length (fun i0 j0 => ([.str ((x.getD i0 (default : GRow)).name), .lst 2 (((x.getD i0 (default : GRow)).samples).length) (fun i1 j1 => ([.int .i64 ((((x.getD i0 (default : GRow)).samples).getD i1 (default : GSample)).at_), .int .i64 ((((x.getD i0 (default : GRow)).samples).getD i1 (default : GSample)).value)] : List AV).getD j1 (.con undef))] : List AV).getD j0 (.con undef)))] (.one (.lst 2 x.length (fun i0 j0 => ([.str ((x.getD i0 (default : GRow)).name), .lst 2 (((x.getD i0 (default : GRow)).samples).length) (fun i1 j1 => ([.int .i64 ((((x.getD i0 (default : GRow)).samples).getD i1 (default : GSample)).at_), .int .i64 ((((x.getD i0 (default : GRow)).samples).getD i1 (default : GSample)).value)] : List AV).getD j1 (.con undef))] : List AV).getD j0 (.con undef)))) := by
  unfold Small at hw
  replace hw : x.length + (x.map wtRow).sum ≤ 1048576 := hw
  have hlen : x.length ≤ 1048576 := by omega
  refine FnT.of_body (fn := Try.f45) Try.func45 rfl (Nat.le_of_ble_eq_true rfl)  ?_
  intro w0
  show AW _ 23 _ _ _ _
  refine AW.fam (id := 0) (famX 2 (fun i j => ceRow (x.getD i (default : GRow)) j)) ⟨rfl, (by exact trivial)⟩ ?_
  refine AW.seq ?_
  refine AW.region ?_
  refine ARun.pure (PureOp.assign rfl .con) rfl rfl (Nat.le_of_ble_eq_true rfl) ?_
  refine ARun.nil ?_
  refine AW.seq ?_
  refine AW.region ?_
  refine ARun.pure (PureOp.move rfl (.tmp rfl)) rfl rfl (Nat.le_of_ble_eq_true rfl) ?_
  refine ARun.pure (PureOp.lenLst rfl (.tmp rfl) vp_sl_22) rfl rfl (Nat.le_of_ble_eq_true rfl) ?_
  refine ARun.make (id := 1) (n := x.length) (l := [.str ByteArray.empty, .con (.slice none 0 0)]) (z := (.agg #[.string ByteArray.empty, .slice none 0 0])) (by_ := 40) rfl (by kernel_rfl) (fun _ _ _ => ⟨_, _, rfl, ⟨rfl, by decide⟩, ⟨_, _, rfl, rfl, rfl⟩⟩) (.tmp rfl) (.tmp rfl) rfl rfl (by omega) (by omega) (by decide) ⟨rfl, (by repeat first | exact trivial | refine ⟨by decide, by first | rfl | exact trivial | (intro i j; first | rfl | exact getD_no rfl | (dsimp only; split <;> first | rfl | exact getD_no rfl) | exact scl_no (by apply_assumption) _), ?_⟩)⟩ rfl rfl rfl (Nat.le_of_ble_eq_true rfl) ?_
  refine ARun.pure (PureOp.assign rfl (.tmp rfl)) rfl rfl (Nat.le_of_ble_eq_true rfl) ?_
  refine ARun.nil ?_
  refine AW.seq ?_
  refine AW.seq ?_
  refine AW.region ?_
  refine ARun.pure (PureOp.assign rfl .int) rfl rfl (Nat.le_of_ble_eq_true rfl) ?_
  refine ARun.nil ?_
  refine AW.block ?_
  refine AW.loop (ι := Nat) (fun k => ⟨[(0, .one (.lst 2 x.length (fun i0 j0 => ([.str ((x.getD i0 (default : GRow)).name), .lst 2 (((x.getD i0 (default : GRow)).samples).length) (fun i1 j1 => ([.int .i64 ((((x.getD i0 (default : GRow)).samples).getD i1 (default : GSample)).at_), .int .i64 ((((x.getD i0 (default : GRow)).samples).getD i1 (default : GSample)).value)] : List AV).getD j1 (.con undef))] : List AV).getD j0 (.con undef)))), (3, .one (.own 1 2 x.length)), (4, .one (.int .i64 (k : Int)))], [(0, .trees (k * 2) (famX 2 (fun i j => ceRow (x.getD i (default : GRow)) j))), (1, .arr 2 x.length (fun a b => if a < k then nmA 0 (a * 2 + b) (ceRow (x.getD a (default : GRow)) b) else ([.str ByteArray.empty, .con (.slice none 0 0)] : List AV).getD b (.con undef)))]⟩) (fun k => k ≤ x.length) (fun k => x.length - k) 0 (Nat.zero_le _) ⟨⟨⟨_, rfl, rfl⟩, ⟨_, rfl, rfl⟩, ⟨_, rfl, rfl⟩, trivial⟩, ⟨⟨_, rfl, fun _ _ => rfl⟩, ⟨_, rfl, rfl, Nat.le_refl _, fun a b _ _ => by simp [AObj.f]⟩, trivial⟩⟩ ?_
  intro k hk
  refine AW.seq ?_
  refine AW.seq ?_
  refine AW.region ?_
  refine ARun.pure (PureOp.move rfl (.tmp rfl)) rfl rfl (Nat.le_of_ble_eq_true rfl) ?_
  refine ARun.pure (PureOp.move rfl (.tmp rfl)) rfl rfl (Nat.le_of_ble_eq_true rfl) ?_
  refine ARun.pure (PureOp.lenLst rfl (.tmp rfl) vp_sl_22) rfl rfl (Nat.le_of_ble_eq_true rfl) ?_
  refine ARun.pure (PureOp.intOp rfl (.tmp rfl) (.tmp rfl) rfl) rfl rfl (Nat.le_of_ble_eq_true rfl) ?_
  refine ARun.nil ?_
  refine AW.cond (.tmp rfl) (fun hb1 => ?_) (fun hb1 => ?_)
  · have _u := True.intro
    replace hb1 := of_decide_eq_true hb1
    have hlt : k < x.length := by omega
    have hwk := wt_at (f := wtRow) (default : GRow) hlt
    refine AW.skip ?_
    refine AW.seq ?_
    refine AW.block ?_
    refine AW.region ?_
    refine ARun.pure (PureOp.move rfl (.tmp rfl)) rfl rfl (Nat.le_of_ble_eq_true rfl) ?_
    refine ARun.pure (PureOp.move rfl (.tmp rfl)) rfl rfl (Nat.le_of_ble_eq_true rfl) ?_
    refine ARun.pure (PureOp.move rfl (.tmp rfl)) rfl rfl (Nat.le_of_ble_eq_true rfl) ?_
    refine ARun.pure (PureOp.move rfl (.tmp rfl)) rfl rfl (Nat.le_of_ble_eq_true rfl) ?_
    refine ARun.pure (PureOp.indexLst (i := k) rfl (.tmp rfl) vp_el_22_2 (.tmp rfl) rfl (by omega)) rfl rfl (Nat.le_of_ble_eq_true rfl) ?_
    refine ARun.pure (PureOp.loadRefAgg rfl (.tmp rfl) vp_ag_103_2 (Nat.le_of_ble_eq_true rfl)) rfl rfl (Nat.le_of_ble_eq_true rfl) ?_
    refine ARun.prodTo (K := 0) (n := k * 2) (X := famX 2 (fun i j => ceRow (x.getD i (default : GRow)) j)) (X' := famX 2 (fun i j => ceRow (x.getD i (default : GRow)) j)) (m := (k + 1) * 2) rfl (v_toRow (x.getD k (default : GRow)) (Small.mk (by omega))) ⟨⟨_, (.tmp rfl), ⟨.str, .lst, trivial⟩⟩, trivial⟩ vp_ca_69 rfl rfl (fun _ _ => rfl) (fun p hp => (famX_at (show p < 2 from hp)).trans (match p, hp with | 0, _ => rfl | 1, _ => rfl | _ + 2, h => absurd h (by simp [SV.leaves]))) rfl (Nat.succ_mul k 2).symm rfl rfl (Nat.le_of_ble_eq_true rfl) ?_
    refine ARun.pure (PureOp.indexOwn (i := k) rfl (.tmp rfl) vp_el_27_2 (.tmp rfl) rfl (by omega)) rfl rfl (Nat.le_of_ble_eq_true rfl) ?_
    refine ARun.storeElem rfl (.tmp rfl) (.tmp rfl) (SV.cells_of (by exact ⟨trivial, trivial, trivial⟩)) rfl (by omega) rfl vp_sz_67_2 rfl rfl ?_
    refine ARun.nil ?_
    refine AW.region ?_
    refine ARun.pure (PureOp.move rfl (.tmp rfl)) rfl rfl (Nat.le_of_ble_eq_true rfl) ?_
    refine ARun.pure (PureOp.add (c := ((k + 1 : Nat) : Int)) rfl (.tmp rfl) .int (by rw [wrap_id (by omega) (by omega)]; omega)) rfl rfl (Nat.le_of_ble_eq_true rfl) ?_
    refine ARun.pure (PureOp.assign rfl (.tmp rfl)) rfl rfl (Nat.le_of_ble_eq_true rfl) ?_
    refine ARun.nil ?_
    exact ⟨k + 1, by omega, by dsimp only; omega, ⟨⟨⟨_, rfl, rfl⟩, ⟨_, rfl, rfl⟩, ⟨_, rfl, rfl⟩, trivial⟩, ⟨⟨_, rfl, fun _ _ => rfl⟩, ⟨_, rfl, rfl, Nat.le_refl _, fun a b _ hb => fill_next (sz := 2) (k := k) (g := fun a b => nmA 0 (a * 2 + b) (ceRow (x.getD a (default : GRow)) b)) (z := fun b => ([.str ByteArray.empty, .con (.slice none 0 0)] : List AV).getD b (.con undef)) (c := fun b => ([.str ((x.getD k (default : GRow)).name), .tre 0 (k * 2 + 1)] : List AV).getD b (.con undef)) (fun b hb => match b, hb with | 0, _ => rfl | 1, _ => rfl | _ + 2, h => absurd h (by omega)) a b hb⟩, trivial⟩⟩⟩
  · have _u := True.intro
    replace hb1 := of_decide_eq_false hb1
    have hlt : ¬ k < x.length := by omega
    obtain rfl : k = x.length := by omega
    refine AW.exit ?_
    refine AW.seq ?_
    refine AW.region ?_
    refine ARun.pure (PureOp.move rfl (.tmp rfl)) rfl rfl (Nat.le_of_ble_eq_true rfl) ?_
    refine ARun.pure (PureOp.assign rfl (.tmp rfl)) rfl rfl (Nat.le_of_ble_eq_true rfl) ?_
    refine ARun.nil ?_
    exact AW.ret (show ∃ s t, ResL _ _ [.tmp 2] s ∧ TvS _ (ofLeaf t) 0 s _ from ⟨_, fun a b => if a = 1 then 0 else if a = 0 then 0 else 1000, .inl ⟨_, rfl, .tmp rfl⟩, (Tv.rowN (K := 0) rfl rfl rfl (Nat.le_refl _) (by rfl) (fun i j hi hj => if_pos hi) rfl (by decide) (fun _ => by rfl) (fun i j hi hj => match j, hj with | 0, _ => rfl | 1, _ => rfl | _ + 2, h => absurd h (by omega)))⟩)

theorem v_toHead (x : GHead) (hw : Small (wtHead x)) : FnT Try.prog 11 [.agg [.lst 2 x.rows.length (fun i0 j0 => ([.str ((x.rows.getD i0 (default : GRow)).name), .lst 2 (((x.rows.getD i0 (default : GRow)).samples).length) (fun i1 j1 => ([.int .i64 ((((x.rows.getD i0 (default : GRow)).samples).getD i1 (default : GSample)).at_), .int .i64 ((((x.rows.getD i0 (default : GRow)).samples).getD i1 (default : GSample)).value)] : List AV).getD j1 (.con undef))] : List AV).getD j0 (.con undef)), .int .i64 x.offset]] (.agg [.lst 2 x.rows.length (fun i0 j0 => ([.str ((x.rows.getD i0 (default : GRow)).name), .lst 2 (((x.rows.getD i0 (default : GRow)).samples).length) (fun i1 j1 => ([.int .i64 ((((x.rows.getD i0 (default : GRow)).samples).getD i1 (default : GSample)).at_), .int .i64 ((((x.rows.getD i0 (default : GRow)).samples).getD i1 (default : GSample)).value)] : List AV).getD j1 (.con undef))] : List AV).getD j0 (.con undef)), .int .i64 x.offset]) := by
  unfold Small wtHead at hw
  refine FnT.of_body (fn := Try.f11) Try.func11 rfl (Nat.le_of_ble_eq_true rfl)  ?_
  intro w0
  show AW _ 12 _ _ _ _
  refine AW.seq ?_
  refine AW.region ?_
  refine ARun.box (id := 0) rfl (.tmp rfl) (SV.cells_of (by exact ⟨trivial, trivial, trivial⟩)) ⟨rfl, (by repeat first | exact trivial | refine ⟨by decide, by first | rfl | exact trivial | (intro i j; first | rfl | exact getD_no rfl | (dsimp only; split <;> first | rfl | exact getD_no rfl) | exact scl_no (by apply_assumption) _), ?_⟩)⟩ rfl rfl rfl (Nat.le_of_ble_eq_true rfl) ?_
  refine ARun.alloc (id := 1) (l := [.con (.slice none 0 0), .int .i64 0]) (z := (.agg #[.slice none 0 0, .int .i64 0])) rfl (by kernel_rfl) (fun _ _ _ => ⟨_, _, rfl, rfl, ⟨_, _, rfl, rfl, rfl⟩⟩) ⟨rfl, (by repeat first | exact trivial | refine ⟨by decide, by first | rfl | exact trivial | (intro i j; first | rfl | exact getD_no rfl | (dsimp only; split <;> first | rfl | exact getD_no rfl) | exact scl_no (by apply_assumption) _), ?_⟩)⟩ rfl rfl rfl (Nat.le_of_ble_eq_true rfl) ?_
  refine ARun.nil ?_
  refine AW.seq ?_
  refine AW.region ?_
  refine ARun.alloc (id := 2) (l := [.con (.slice none 0 0), .int .i64 0]) (z := (.agg #[.slice none 0 0, .int .i64 0])) rfl (by kernel_rfl) (fun _ _ _ => ⟨_, _, rfl, rfl, ⟨_, _, rfl, rfl, rfl⟩⟩) ⟨rfl, (by repeat first | exact trivial | refine ⟨by decide, by first | rfl | exact trivial | (intro i j; first | rfl | exact getD_no rfl | (dsimp only; split <;> first | rfl | exact getD_no rfl) | exact scl_no (by apply_assumption) _), ?_⟩)⟩ rfl rfl rfl (Nat.le_of_ble_eq_true rfl) ?_
  refine ARun.nil ?_
  refine AW.seq ?_
  refine AW.region ?_
  refine ARun.pure (PureOp.fieldPtr rfl (.tmp rfl) vp_fi_24_0_0) rfl rfl (Nat.le_of_ble_eq_true rfl) ?_
  refine ARun.pure (PureOp.loadPtr rfl (.tmp rfl) vp_pl_22 rfl rfl (Nat.le_of_ble_eq_true rfl) (Nat.le_of_ble_eq_true rfl)) rfl rfl (Nat.le_of_ble_eq_true rfl) ?_
  refine ARun.prod (K := 3) rfl (v_toRowS x.rows (Small.mk (by omega))) ⟨rfl, (by repeat first | exact trivial | refine ⟨by decide, by first | rfl | exact trivial | (intro i j; first | rfl | exact getD_no rfl | (dsimp only; split <;> first | rfl | exact getD_no rfl) | exact scl_no (by apply_assumption) _), ?_⟩)⟩ ⟨⟨_, (.tmp rfl), .lst⟩, trivial⟩ vp_ca_45 rfl rfl rfl rfl rfl (Nat.le_of_ble_eq_true rfl) ?_
  refine ARun.pure (PureOp.fieldPtr rfl (.tmp rfl) vp_fi_29_0_0) rfl rfl (Nat.le_of_ble_eq_true rfl) ?_
  refine ARun.store rfl (.tmp rfl) (.tmp rfl) trivial rfl (Nat.le_of_ble_eq_true rfl) vp_sz_27_1 rfl rfl ?_
  refine ARun.nil ?_
  refine AW.seq ?_
  refine AW.region ?_
  refine ARun.pure (PureOp.fieldPtr rfl (.tmp rfl) vp_fi_24_1_1) rfl rfl (Nat.le_of_ble_eq_true rfl) ?_
  refine ARun.pure (PureOp.loadPtr rfl (.tmp rfl) vp_pl_3 rfl rfl (Nat.le_of_ble_eq_true rfl) (Nat.le_of_ble_eq_true rfl)) rfl rfl (Nat.le_of_ble_eq_true rfl) ?_
  refine ARun.pure (PureOp.fieldPtr rfl (.tmp rfl) vp_fi_29_1_1) rfl rfl (Nat.le_of_ble_eq_true rfl) ?_
  refine ARun.store rfl (.tmp rfl) (.tmp rfl) trivial rfl (Nat.le_of_ble_eq_true rfl) vp_sz_3_1 rfl rfl ?_
  refine ARun.nil ?_
  refine AW.seq ?_
  refine AW.region ?_
  refine ARun.pure (PureOp.loadPtrAgg rfl (.tmp rfl) vp_ag_29_2 rfl rfl (Nat.le_of_ble_eq_true rfl) (Nat.le_of_ble_eq_true rfl)) rfl rfl (Nat.le_of_ble_eq_true rfl) ?_
  refine ARun.store rfl (.tmp rfl) (.tmp rfl) (SV.cells_of (by exact ⟨trivial, trivial, trivial⟩)) rfl (Nat.le_of_ble_eq_true rfl) vp_sz_29_2 rfl rfl ?_
  refine ARun.nil ?_
  exact AW.ret (show ∃ s t, ResL _ _ [.cell 2 29] s ∧ TvS _ (ofLeaf t) 0 s _ from ⟨_, fun a b => if a = 3 then 0 else 1000, .inl ⟨_, rfl, .cells rfl vp_ag_29_2 rfl rfl (Nat.le_of_ble_eq_true rfl) (Nat.le_of_ble_eq_true rfl)⟩, ⟨(Tv.cast (Tv.tre rfl (Nat.le_of_ble_eq_true rfl) (by rfl)) rfl), .int, trivial⟩⟩)

theorem v_toSay (x : GSay) (hw : Small (wtSay x)) : FnF Try.prog 25 [.agg [.str x.name, .int .i64 x.at_, .int .i64 x.value]] (.agg [.str x.name, .int .i64 x.at_, .int .i64 x.value]) := by
  unfold Small wtSay at hw
  refine FnF.of_body (fn := Try.f25) Try.func25 rfl (Nat.le_of_ble_eq_true rfl)  ?_
  intro w0
  show AW _ 14 _ _ _ _
  refine AW.seq ?_
  refine AW.region ?_
  refine ARun.box (id := 0) rfl (.tmp rfl) (SV.cells_of (by exact ⟨trivial, trivial, trivial, trivial⟩)) ⟨rfl, (by repeat first | exact trivial | refine ⟨by decide, by first | rfl | exact trivial | (intro i j; first | rfl | exact getD_no rfl | (dsimp only; split <;> first | rfl | exact getD_no rfl) | exact scl_no (by apply_assumption) _), ?_⟩)⟩ rfl rfl rfl (Nat.le_of_ble_eq_true rfl) ?_
  refine ARun.alloc (id := 1) (l := [.str ByteArray.empty, .int .i64 0, .int .i64 0]) (z := (.agg #[.string ByteArray.empty, .int .i64 0, .int .i64 0])) rfl (by kernel_rfl) (fun _ _ _ => ⟨_, _, rfl, ⟨rfl, by decide⟩, ⟨_, _, rfl, rfl, ⟨_, _, rfl, rfl, rfl⟩⟩⟩) ⟨rfl, (by repeat first | exact trivial | refine ⟨by decide, by first | rfl | exact trivial | (intro i j; first | rfl | exact getD_no rfl | (dsimp only; split <;> first | rfl | exact getD_no rfl) | exact scl_no (by apply_assumption) _), ?_⟩)⟩ rfl rfl rfl (Nat.le_of_ble_eq_true rfl) ?_
  refine ARun.nil ?_
  refine AW.seq ?_
  refine AW.region ?_
  refine ARun.alloc (id := 2) (l := [.str ByteArray.empty, .int .i64 0, .int .i64 0]) (z := (.agg #[.string ByteArray.empty, .int .i64 0, .int .i64 0])) rfl (by kernel_rfl) (fun _ _ _ => ⟨_, _, rfl, ⟨rfl, by decide⟩, ⟨_, _, rfl, rfl, ⟨_, _, rfl, rfl, rfl⟩⟩⟩) ⟨rfl, (by repeat first | exact trivial | refine ⟨by decide, by first | rfl | exact trivial | (intro i j; first | rfl | exact getD_no rfl | (dsimp only; split <;> first | rfl | exact getD_no rfl) | exact scl_no (by apply_assumption) _), ?_⟩)⟩ rfl rfl rfl (Nat.le_of_ble_eq_true rfl) ?_
  refine ARun.nil ?_
  refine AW.seq ?_
  refine AW.region ?_
  refine ARun.pure (PureOp.fieldPtr rfl (.tmp rfl) vp_fi_44_0_0) rfl rfl (Nat.le_of_ble_eq_true rfl) ?_
  refine ARun.pure (PureOp.loadPtr rfl (.tmp rfl) vp_pl_9 rfl rfl (Nat.le_of_ble_eq_true rfl) (Nat.le_of_ble_eq_true rfl)) rfl rfl (Nat.le_of_ble_eq_true rfl) ?_
  refine ARun.pure (PureOp.fieldPtr rfl (.tmp rfl) vp_fi_47_0_0) rfl rfl (Nat.le_of_ble_eq_true rfl) ?_
  refine ARun.store rfl (.tmp rfl) (.tmp rfl) trivial rfl (Nat.le_of_ble_eq_true rfl) vp_sz_9_1 rfl rfl ?_
  refine ARun.nil ?_
  refine AW.seq ?_
  refine AW.region ?_
  refine ARun.pure (PureOp.fieldPtr rfl (.tmp rfl) vp_fi_44_1_1) rfl rfl (Nat.le_of_ble_eq_true rfl) ?_
  refine ARun.pure (PureOp.loadPtr rfl (.tmp rfl) vp_pl_3 rfl rfl (Nat.le_of_ble_eq_true rfl) (Nat.le_of_ble_eq_true rfl)) rfl rfl (Nat.le_of_ble_eq_true rfl) ?_
  refine ARun.pure (PureOp.fieldPtr rfl (.tmp rfl) vp_fi_47_1_1) rfl rfl (Nat.le_of_ble_eq_true rfl) ?_
  refine ARun.store rfl (.tmp rfl) (.tmp rfl) trivial rfl (Nat.le_of_ble_eq_true rfl) vp_sz_3_1 rfl rfl ?_
  refine ARun.nil ?_
  refine AW.seq ?_
  refine AW.region ?_
  refine ARun.pure (PureOp.fieldPtr rfl (.tmp rfl) vp_fi_44_2_2) rfl rfl (Nat.le_of_ble_eq_true rfl) ?_
  refine ARun.pure (PureOp.loadPtr rfl (.tmp rfl) vp_pl_3 rfl rfl (Nat.le_of_ble_eq_true rfl) (Nat.le_of_ble_eq_true rfl)) rfl rfl (Nat.le_of_ble_eq_true rfl) ?_
  refine ARun.pure (PureOp.fieldPtr rfl (.tmp rfl) vp_fi_47_2_2) rfl rfl (Nat.le_of_ble_eq_true rfl) ?_
  refine ARun.store rfl (.tmp rfl) (.tmp rfl) trivial rfl (Nat.le_of_ble_eq_true rfl) vp_sz_3_1 rfl rfl ?_
  refine ARun.nil ?_
  refine AW.seq ?_
  refine AW.region ?_
  refine ARun.pure (PureOp.loadPtrAgg rfl (.tmp rfl) vp_ag_47_3 rfl rfl (Nat.le_of_ble_eq_true rfl) (Nat.le_of_ble_eq_true rfl)) rfl rfl (Nat.le_of_ble_eq_true rfl) ?_
  refine ARun.store rfl (.tmp rfl) (.tmp rfl) (SV.cells_of (by exact ⟨trivial, trivial, trivial, trivial⟩)) rfl (Nat.le_of_ble_eq_true rfl) vp_sz_47_3 rfl rfl ?_
  refine ARun.nil ?_
  exact AW.ret (show ∃ s, ResL _ _ [.cell 2 47] s ∧ FvS _ s _ from ⟨_, .inl ⟨_, rfl, .cells rfl vp_ag_47_3 rfl rfl (Nat.le_of_ble_eq_true rfl) (Nat.le_of_ble_eq_true rfl)⟩, ⟨.str, .int, .int, trivial⟩⟩)

end Go.Proofs.Ytmfkmifkkplidaa


/-
  The laws' own budgets (sz) over the data of this seat.
-/
namespace Go.Proofs.Ytmfkmifkkplidaa
open Go.ChangeShapes Go.WideShapes Go.ChangeAt Go.RowKit Go.BigFrame Go.Deep
set_option linter.unusedVariables false
set_option linter.unusedSimpArgs false
theorem vz_ag_103_2 : aggB Try.prog 103 2 = true := by kernel_rfl
theorem vz_ca_41 : callB Try.prog 41 = true := by kernel_rfl
theorem vz_ca_68 : callB Try.prog 68 = true := by kernel_rfl
theorem vz_ca_84 : callB Try.prog 84 = true := by kernel_rfl
theorem vz_el_22_2 : elemB Try.prog 22 2 = true := by kernel_rfl
theorem vz_fi_103_0_0 : fieldB Try.prog 103 0 0 = true := by kernel_rfl
theorem vz_fi_103_1_1 : fieldB Try.prog 103 1 1 = true := by kernel_rfl
theorem vz_fi_24_0_0 : fieldB Try.prog 24 0 0 = true := by kernel_rfl
theorem vz_fi_44_0_0 : fieldB Try.prog 44 0 0 = true := by kernel_rfl
theorem vz_pl_101 : plainB Try.prog 101 = true := by kernel_rfl
theorem vz_pl_22 : plainB Try.prog 22 = true := by kernel_rfl
theorem vz_pl_9 : plainB Try.prog 9 = true := by kernel_rfl
theorem vz_sl_101 : sliceB Try.prog 101 = true := by kernel_rfl
theorem vz_sl_22 : sliceB Try.prog 22 = true := by kernel_rfl
theorem vz_st_9 : stringB Try.prog 9 = true := by kernel_rfl
theorem v_szSampleS (x : List GSample) (left : Int) (hl : 0 ≤ left ∧ left ≤ 1048576) : Fn Try.prog 84 [.one (.lst 2 x.length (fun i0 j0 => ([.int .i64 ((x.getD i0 (default : GSample)).at_), .int .i64 ((x.getD i0 (default : GSample)).value)] : List AV).getD j0 (.con undef))), .one (.int .i64 left)] (.one (.int .i64 (szR left (x.length)))) := by
  obtain ⟨h0, h1⟩ := hl
  refine Fn.of_body (fn := Try.f84) Try.func84 rfl (Nat.le_of_ble_eq_true rfl) trivial ?_
  intro w0
  show AW _ 12 _ _ _ _
  refine AW.bound (t := 0) rfl fun hx => ?_
  refine AW.seq ?_
  refine AW.region ?_
  refine ARun.pure (PureOp.assign rfl .int) rfl rfl (Nat.le_of_ble_eq_true rfl) ?_
  refine ARun.nil ?_
  refine AW.seq ?_
  refine AW.region ?_
  refine ARun.pure (PureOp.move rfl (.tmp rfl)) rfl rfl (Nat.le_of_ble_eq_true rfl) ?_
  refine ARun.pure (PureOp.move rfl (.tmp rfl)) rfl rfl (Nat.le_of_ble_eq_true rfl) ?_
  refine ARun.pure (PureOp.lenLst rfl (.tmp rfl) vz_sl_101) rfl rfl (Nat.le_of_ble_eq_true rfl) ?_
  refine ARun.pure (PureOp.sub (c := left - (x.length : Int)) rfl (.tmp rfl) (.tmp rfl) (wrap_id (by omega) (by omega))) rfl rfl (Nat.le_of_ble_eq_true rfl) ?_
  refine ARun.pure (PureOp.assign rfl (.tmp rfl)) rfl rfl (Nat.le_of_ble_eq_true rfl) ?_
  refine ARun.nil ?_
  refine AW.seq ?_
  refine AW.seq ?_
  refine AW.region ?_
  refine ARun.pure (PureOp.move rfl (.tmp rfl)) rfl rfl (Nat.le_of_ble_eq_true rfl) ?_
  refine ARun.pure (PureOp.intOp rfl (.tmp rfl) .int rfl) rfl rfl (Nat.le_of_ble_eq_true rfl) ?_
  refine ARun.nil ?_
  refine AW.cond (.tmp rfl) (fun hb1 => ?_) (fun hb1 => ?_)
  · have _u := True.intro
    replace hb1 := of_decide_eq_true hb1
    refine AW.seq ?_
    refine AW.region ?_
    refine ARun.pure (PureOp.assign rfl .int) rfl rfl (Nat.le_of_ble_eq_true rfl) ?_
    refine ARun.nil ?_
    refine AW.ret (show ResL _ _ [.tmp 4] _ from resI rfl ?_)
    first | exact szF_big (by omega) | exact szF_ok (by omega)
  · have _u := True.intro
    replace hb1 := of_decide_eq_false hb1
    refine AW.skip ?_
    refine AW.seq ?_
    refine AW.region ?_
    refine ARun.pure (PureOp.move rfl (.tmp rfl)) rfl rfl (Nat.le_of_ble_eq_true rfl) ?_
    refine ARun.pure (PureOp.assign rfl (.tmp rfl)) rfl rfl (Nat.le_of_ble_eq_true rfl) ?_
    refine ARun.nil ?_
    refine AW.ret (show ResL _ _ [.tmp 4] _ from resI rfl ?_)
    first | exact szF_big (by omega) | exact szF_ok (by omega)

theorem v_szRow (x : GRow) (left : Int) (hl : 0 ≤ left ∧ left ≤ 1048576) : Fn Try.prog 68 [.agg [.str x.name, .lst 2 x.samples.length (fun i0 j0 => ([.int .i64 ((x.samples.getD i0 (default : GSample)).at_), .int .i64 ((x.samples.getD i0 (default : GSample)).value)] : List AV).getD j0 (.con undef))], .one (.int .i64 left)] (.one (.int .i64 (szR left (wtRow x)))) := by
  obtain ⟨h0, h1⟩ := hl
  have hU : ∀ (p : Int) (m : Nat), (szR p m < 0 ↔ p < m) := fun p m => by unfold szR; split <;> omega
  refine Fn.of_body (fn := Try.f68) Try.func68 rfl (Nat.le_of_ble_eq_true rfl) trivial ?_
  intro w0
  show AW _ 19 _ _ _ _
  refine AW.boundAS (t := 0) (j := 0) rfl rfl fun hbs0 => ?_
  refine AW.seq ?_
  refine AW.region ?_
  refine ARun.box (id := 0) rfl (.tmp rfl) (SV.cells_of (by exact ⟨trivial, trivial, trivial⟩)) ⟨rfl, (by repeat first | exact trivial | refine ⟨by decide, by first | rfl | exact trivial | (intro i j; first | rfl | exact getD_no rfl | (dsimp only; split <;> first | rfl | exact getD_no rfl) | exact scl_no (by apply_assumption) _), ?_⟩)⟩ rfl rfl rfl (Nat.le_of_ble_eq_true rfl) ?_
  refine ARun.pure (PureOp.assign rfl .int) rfl rfl (Nat.le_of_ble_eq_true rfl) ?_
  refine ARun.nil ?_
  refine AW.seq ?_
  refine AW.region ?_
  refine ARun.pure (PureOp.move rfl (.tmp rfl)) rfl rfl (Nat.le_of_ble_eq_true rfl) ?_
  refine ARun.pure (PureOp.fieldPtr rfl (.tmp rfl) vz_fi_103_0_0) rfl rfl (Nat.le_of_ble_eq_true rfl) ?_
  refine ARun.pure (PureOp.loadPtr rfl (.tmp rfl) vz_pl_9 rfl rfl (Nat.le_of_ble_eq_true rfl) (Nat.le_of_ble_eq_true rfl)) rfl rfl (Nat.le_of_ble_eq_true rfl) ?_
  refine ARun.pure (PureOp.lenStr rfl (.tmp rfl) vz_st_9) rfl rfl (Nat.le_of_ble_eq_true rfl) ?_
  refine ARun.pure (PureOp.sub (c := left - (x.name.size : Int)) rfl (.tmp rfl) (.tmp rfl) (wrap_id (by omega) (by omega))) rfl rfl (Nat.le_of_ble_eq_true rfl) ?_
  refine ARun.pure (PureOp.assign rfl (.tmp rfl)) rfl rfl (Nat.le_of_ble_eq_true rfl) ?_
  refine ARun.nil ?_
  refine AW.seq ?_
  refine AW.seq ?_
  refine AW.region ?_
  refine ARun.pure (PureOp.move rfl (.tmp rfl)) rfl rfl (Nat.le_of_ble_eq_true rfl) ?_
  refine ARun.pure (PureOp.intOp rfl (.tmp rfl) .int rfl) rfl rfl (Nat.le_of_ble_eq_true rfl) ?_
  refine ARun.nil ?_
  refine AW.cond (.tmp rfl) (fun hb1 => ?_) (fun hb1 => ?_)
  · have _u := True.intro
    replace hb1 := of_decide_eq_true hb1
    refine AW.seq ?_
    refine AW.region ?_
    refine ARun.pure (PureOp.assign rfl .int) rfl rfl (Nat.le_of_ble_eq_true rfl) ?_
    refine ARun.nil ?_
    refine AW.ret (show ResL _ _ [.tmp 4] _ from resI rfl ?_)
    unfold wtRow
    unfold szR at *; (repeat' split at *) <;> first | omega | (split <;> omega)
  · have _u := True.intro
    replace hb1 := of_decide_eq_false hb1
    refine AW.skip ?_
    refine AW.seq ?_
    refine AW.region ?_
    refine ARun.pure (PureOp.fieldPtr rfl (.tmp rfl) vz_fi_103_1_1) rfl rfl (Nat.le_of_ble_eq_true rfl) ?_
    refine ARun.pure (PureOp.loadPtr rfl (.tmp rfl) vz_pl_101 rfl rfl (Nat.le_of_ble_eq_true rfl) (Nat.le_of_ble_eq_true rfl)) rfl rfl (Nat.le_of_ble_eq_true rfl) ?_
    refine ARun.pure (PureOp.move rfl (.tmp rfl)) rfl rfl (Nat.le_of_ble_eq_true rfl) ?_
    refine ARun.pure (PureOp.call rfl (v_szSampleS x.samples (left - (x.name.size : Int)) (by first | omega | (unfold szR at *; split at * <;> omega))) ⟨⟨_, (.tmp rfl), .lst⟩, ⟨_, (.tmp rfl), .int⟩, trivial⟩ vz_ca_84 trivial) rfl rfl (Nat.le_of_ble_eq_true rfl) ?_
    refine ARun.pure (PureOp.assign rfl (.tmp rfl)) rfl rfl (Nat.le_of_ble_eq_true rfl) ?_
    refine ARun.nil ?_
    refine AW.seq ?_
    refine AW.seq ?_
    refine AW.region ?_
    refine ARun.pure (PureOp.move rfl (.tmp rfl)) rfl rfl (Nat.le_of_ble_eq_true rfl) ?_
    refine ARun.pure (PureOp.intOp rfl (.tmp rfl) .int rfl) rfl rfl (Nat.le_of_ble_eq_true rfl) ?_
    refine ARun.nil ?_
    refine AW.cond (.tmp rfl) (fun hb2 => ?_) (fun hb2 => ?_)
    · have _u := True.intro
      replace hb2 := of_decide_eq_true hb2
      refine AW.seq ?_
      refine AW.region ?_
      refine ARun.pure (PureOp.assign rfl .int) rfl rfl (Nat.le_of_ble_eq_true rfl) ?_
      refine ARun.nil ?_
      refine AW.ret (show ResL _ _ [.tmp 4] _ from resI rfl ?_)
      unfold wtRow
      unfold szR at *; (repeat' split at *) <;> first | omega | (split <;> omega)
    · have _u := True.intro
      replace hb2 := of_decide_eq_false hb2
      refine AW.skip ?_
      refine AW.seq ?_
      refine AW.region ?_
      refine ARun.pure (PureOp.move rfl (.tmp rfl)) rfl rfl (Nat.le_of_ble_eq_true rfl) ?_
      refine ARun.pure (PureOp.assign rfl (.tmp rfl)) rfl rfl (Nat.le_of_ble_eq_true rfl) ?_
      refine ARun.nil ?_
      refine AW.ret (show ResL _ _ [.tmp 4] _ from resI rfl ?_)
      unfold wtRow
      unfold szR at *; (repeat' split at *) <;> first | omega | (split <;> omega)

theorem v_szRowS (x : List GRow) (left : Int) (hl : 0 ≤ left ∧ left ≤ 1048576) : Fn Try.prog 41 [.one (.lst 2 x.length (fun i0 j0 => ([.str ((x.getD i0 (default : GRow)).name), .lst 2 (((x.getD i0 (default : GRow)).samples).length) (fun i1 j1 => ([.int .i64 ((((x.getD i0 (default : GRow)).samples).getD i1 (default : GSample)).at_), .int .i64 ((((x.getD i0 (default : GRow)).samples).getD i1 (default : GSample)).value)] : List AV).getD j1 (.con undef))] : List AV).getD j0 (.con undef))), .one (.int .i64 left)] (.one (.int .i64 (szR left (wtl wtRow x)))) := by
  obtain ⟨h0, h1⟩ := hl
  refine Fn.of_body (fn := Try.f41) Try.func41 rfl (Nat.le_of_ble_eq_true rfl) trivial ?_
  intro w0
  show AW _ 27 _ _ _ _
  refine AW.bound (t := 0) rfl fun hx => ?_
  refine AW.seq ?_
  refine AW.region ?_
  refine ARun.pure (PureOp.assign rfl .int) rfl rfl (Nat.le_of_ble_eq_true rfl) ?_
  refine ARun.nil ?_
  refine AW.seq ?_
  refine AW.region ?_
  refine ARun.pure (PureOp.move rfl (.tmp rfl)) rfl rfl (Nat.le_of_ble_eq_true rfl) ?_
  refine ARun.pure (PureOp.move rfl (.tmp rfl)) rfl rfl (Nat.le_of_ble_eq_true rfl) ?_
  refine ARun.pure (PureOp.lenLst rfl (.tmp rfl) vz_sl_22) rfl rfl (Nat.le_of_ble_eq_true rfl) ?_
  refine ARun.pure (PureOp.sub (c := left - (x.length : Int)) rfl (.tmp rfl) (.tmp rfl) (wrap_id (by omega) (by omega))) rfl rfl (Nat.le_of_ble_eq_true rfl) ?_
  refine ARun.pure (PureOp.assign rfl (.tmp rfl)) rfl rfl (Nat.le_of_ble_eq_true rfl) ?_
  refine ARun.nil ?_
  refine AW.seq ?_
  refine AW.seq ?_
  refine AW.region ?_
  refine ARun.pure (PureOp.move rfl (.tmp rfl)) rfl rfl (Nat.le_of_ble_eq_true rfl) ?_
  refine ARun.pure (PureOp.intOp rfl (.tmp rfl) .int rfl) rfl rfl (Nat.le_of_ble_eq_true rfl) ?_
  refine ARun.nil ?_
  refine AW.cond (.tmp rfl) (fun hb1 => ?_) (fun hb1 => ?_)
  · have _u := True.intro
    replace hb1 := of_decide_eq_true hb1
    refine AW.seq ?_
    refine AW.region ?_
    refine ARun.pure (PureOp.assign rfl .int) rfl rfl (Nat.le_of_ble_eq_true rfl) ?_
    refine ARun.nil ?_
    refine AW.ret (show ResL _ _ [.tmp 4] _ from resI rfl ?_)
    first | exact hfin | exact szL_end hlt hq | exact szL_big (by omega)
  · have _u := True.intro
    replace hb1 := of_decide_eq_false hb1
    refine AW.skip ?_
    refine AW.seq ?_
    refine AW.seq ?_
    refine AW.region ?_
    refine ARun.pure (PureOp.assign rfl .int) rfl rfl (Nat.le_of_ble_eq_true rfl) ?_
    refine ARun.nil ?_
    refine AW.block ?_
    refine AW.loop (ι := Nat) (fun k => ⟨[(0, .one (.lst 2 x.length (fun i0 j0 => ([.str ((x.getD i0 (default : GRow)).name), .lst 2 (((x.getD i0 (default : GRow)).samples).length) (fun i1 j1 => ([.int .i64 ((((x.getD i0 (default : GRow)).samples).getD i1 (default : GSample)).at_), .int .i64 ((((x.getD i0 (default : GRow)).samples).getD i1 (default : GSample)).value)] : List AV).getD j1 (.con undef))] : List AV).getD j0 (.con undef)))), (1, .one (.int .i64 (left - (x.length : Int) - ((((x.take k).map wtRow).sum : Nat) : Int)))), (5, .one (.int .i64 (k : Int)))], []⟩) (fun k => k ≤ x.length ∧ 0 ≤ left - (x.length : Int) - ((((x.take k).map wtRow).sum : Nat) : Int)) (fun k => x.length - k) 0 ⟨Nat.zero_le _, by simp; omega⟩ ⟨⟨⟨_, rfl, rfl⟩, ⟨_, rfl, by simp⟩, ⟨_, rfl, rfl⟩, trivial⟩, trivial⟩ ?_
    intro k hI
    obtain ⟨hk, hq⟩ := hI
    refine AW.seq ?_
    refine AW.seq ?_
    refine AW.region ?_
    refine ARun.pure (PureOp.move rfl (.tmp rfl)) rfl rfl (Nat.le_of_ble_eq_true rfl) ?_
    refine ARun.pure (PureOp.move rfl (.tmp rfl)) rfl rfl (Nat.le_of_ble_eq_true rfl) ?_
    refine ARun.pure (PureOp.lenLst rfl (.tmp rfl) vz_sl_22) rfl rfl (Nat.le_of_ble_eq_true rfl) ?_
    refine ARun.pure (PureOp.intOp rfl (.tmp rfl) (.tmp rfl) rfl) rfl rfl (Nat.le_of_ble_eq_true rfl) ?_
    refine ARun.nil ?_
    refine AW.cond (.tmp rfl) (fun hb2 => ?_) (fun hb2 => ?_)
    · have _u := True.intro
      replace hb2 := of_decide_eq_true hb2
      have hlt : k < x.length := by omega
      refine AW.skip ?_
      refine AW.seq ?_
      refine AW.block ?_
      refine AW.seq ?_
      refine AW.region ?_
      refine ARun.pure (PureOp.move rfl (.tmp rfl)) rfl rfl (Nat.le_of_ble_eq_true rfl) ?_
      refine ARun.pure (PureOp.move rfl (.tmp rfl)) rfl rfl (Nat.le_of_ble_eq_true rfl) ?_
      refine ARun.pure (PureOp.indexLst (i := k) rfl (.tmp rfl) vz_el_22_2 (.tmp rfl) rfl (by omega)) rfl rfl (Nat.le_of_ble_eq_true rfl) ?_
      refine ARun.pure (PureOp.loadRefAgg rfl (.tmp rfl) vz_ag_103_2 (Nat.le_of_ble_eq_true rfl)) rfl rfl (Nat.le_of_ble_eq_true rfl) ?_
      refine ARun.pure (PureOp.move rfl (.tmp rfl)) rfl rfl (Nat.le_of_ble_eq_true rfl) ?_
      refine ARun.pure (PureOp.call rfl (v_szRow (x.getD k (default : GRow)) (left - (x.length : Int) - ((((x.take k).map wtRow).sum : Nat) : Int)) (by first | omega | (unfold szR at *; split at * <;> omega))) ⟨⟨_, (.tmp rfl), ⟨.str, .lst, trivial⟩⟩, ⟨_, (.tmp rfl), .int⟩, trivial⟩ vz_ca_68 trivial) rfl rfl (Nat.le_of_ble_eq_true rfl) ?_
      refine ARun.pure (PureOp.assign rfl (.tmp rfl)) rfl rfl (Nat.le_of_ble_eq_true rfl) ?_
      refine ARun.nil ?_
      refine AW.seq ?_
      refine AW.region ?_
      refine ARun.pure (PureOp.move rfl (.tmp rfl)) rfl rfl (Nat.le_of_ble_eq_true rfl) ?_
      refine ARun.pure (PureOp.intOp rfl (.tmp rfl) .int rfl) rfl rfl (Nat.le_of_ble_eq_true rfl) ?_
      refine ARun.nil ?_
      refine AW.cond (.tmp rfl) (fun hb3 => ?_) (fun hb3 => ?_)
      · have _u := True.intro
        replace hb3 := of_decide_eq_true hb3
        have hfin := szL_neg (f := wtRow) (d := (default : GRow)) hlt hq hb3
        refine AW.seq ?_
        refine AW.region ?_
        refine ARun.pure (PureOp.assign rfl .int) rfl rfl (Nat.le_of_ble_eq_true rfl) ?_
        refine ARun.nil ?_
        refine AW.ret (show ResL _ _ [.tmp 4] _ from resI rfl ?_)
        first | exact hfin | exact szL_end hlt hq | exact szL_big (by omega)
      · have _u := True.intro
        replace hb3 := of_decide_eq_false hb3
        obtain ⟨hs1, hs2⟩ := szL_next (f := wtRow) (d := (default : GRow)) hlt hq hb3
        refine AW.skip ?_
        refine AW.region ?_
        refine ARun.pure (PureOp.move rfl (.tmp rfl)) rfl rfl (Nat.le_of_ble_eq_true rfl) ?_
        refine ARun.pure (PureOp.add (c := ((k + 1 : Nat) : Int)) rfl (.tmp rfl) .int (by rw [wrap_id (by omega) (by omega)]; omega)) rfl rfl (Nat.le_of_ble_eq_true rfl) ?_
        refine ARun.pure (PureOp.assign rfl (.tmp rfl)) rfl rfl (Nat.le_of_ble_eq_true rfl) ?_
        refine ARun.nil ?_
        exact ⟨k + 1, ⟨by omega, hs1⟩, by dsimp only; omega, ⟨⟨⟨_, rfl, rfl⟩, ⟨_, rfl, congrArg (fun z => SV.one (.int .i64 z)) hs2⟩, ⟨_, rfl, rfl⟩, trivial⟩, trivial⟩⟩
    · have _u := True.intro
      replace hb2 := of_decide_eq_false hb2
      have hlt : ¬ k < x.length := by omega
      refine AW.exit ?_
      refine AW.seq ?_
      refine AW.region ?_
      refine ARun.pure (PureOp.move rfl (.tmp rfl)) rfl rfl (Nat.le_of_ble_eq_true rfl) ?_
      refine ARun.pure (PureOp.assign rfl (.tmp rfl)) rfl rfl (Nat.le_of_ble_eq_true rfl) ?_
      refine ARun.nil ?_
      refine AW.ret (show ResL _ _ [.tmp 4] _ from resI rfl ?_)
      first | exact hfin | exact szL_end hlt hq | exact szL_big (by omega)

theorem v_szHead (x : GHead) (left : Int) (hl : 0 ≤ left ∧ left ≤ 1048576) : Fn Try.prog 9 [.agg [.lst 2 x.rows.length (fun i0 j0 => ([.str ((x.rows.getD i0 (default : GRow)).name), .lst 2 (((x.rows.getD i0 (default : GRow)).samples).length) (fun i1 j1 => ([.int .i64 ((((x.rows.getD i0 (default : GRow)).samples).getD i1 (default : GSample)).at_), .int .i64 ((((x.rows.getD i0 (default : GRow)).samples).getD i1 (default : GSample)).value)] : List AV).getD j1 (.con undef))] : List AV).getD j0 (.con undef)), .int .i64 x.offset], .one (.int .i64 left)] (.one (.int .i64 (szR left (wtHead x)))) := by
  obtain ⟨h0, h1⟩ := hl
  refine Fn.of_body (fn := Try.f9) Try.func9 rfl (Nat.le_of_ble_eq_true rfl) trivial ?_
  intro w0
  show AW _ 12 _ _ _ _
  refine AW.seq ?_
  refine AW.region ?_
  refine ARun.box (id := 0) rfl (.tmp rfl) (SV.cells_of (by exact ⟨trivial, trivial, trivial⟩)) ⟨rfl, (by repeat first | exact trivial | refine ⟨by decide, by first | rfl | exact trivial | (intro i j; first | rfl | exact getD_no rfl | (dsimp only; split <;> first | rfl | exact getD_no rfl) | exact scl_no (by apply_assumption) _), ?_⟩)⟩ rfl rfl rfl (Nat.le_of_ble_eq_true rfl) ?_
  refine ARun.pure (PureOp.assign rfl .int) rfl rfl (Nat.le_of_ble_eq_true rfl) ?_
  refine ARun.nil ?_
  refine AW.seq ?_
  refine AW.region ?_
  refine ARun.pure (PureOp.fieldPtr rfl (.tmp rfl) vz_fi_24_0_0) rfl rfl (Nat.le_of_ble_eq_true rfl) ?_
  refine ARun.pure (PureOp.loadPtr rfl (.tmp rfl) vz_pl_22 rfl rfl (Nat.le_of_ble_eq_true rfl) (Nat.le_of_ble_eq_true rfl)) rfl rfl (Nat.le_of_ble_eq_true rfl) ?_
  refine ARun.pure (PureOp.move rfl (.tmp rfl)) rfl rfl (Nat.le_of_ble_eq_true rfl) ?_
  refine ARun.pure (PureOp.call rfl (v_szRowS x.rows left (by first | omega | (unfold szR at *; split at * <;> omega))) ⟨⟨_, (.tmp rfl), .lst⟩, ⟨_, (.tmp rfl), .int⟩, trivial⟩ vz_ca_41 trivial) rfl rfl (Nat.le_of_ble_eq_true rfl) ?_
  refine ARun.pure (PureOp.assign rfl (.tmp rfl)) rfl rfl (Nat.le_of_ble_eq_true rfl) ?_
  refine ARun.nil ?_
  refine AW.seq ?_
  refine AW.seq ?_
  refine AW.region ?_
  refine ARun.pure (PureOp.move rfl (.tmp rfl)) rfl rfl (Nat.le_of_ble_eq_true rfl) ?_
  refine ARun.pure (PureOp.intOp rfl (.tmp rfl) .int rfl) rfl rfl (Nat.le_of_ble_eq_true rfl) ?_
  refine ARun.nil ?_
  refine AW.cond (.tmp rfl) (fun hb1 => ?_) (fun hb1 => ?_)
  · have _u := True.intro
    replace hb1 := of_decide_eq_true hb1
    refine AW.seq ?_
    refine AW.region ?_
    refine ARun.pure (PureOp.assign rfl .int) rfl rfl (Nat.le_of_ble_eq_true rfl) ?_
    refine ARun.nil ?_
    refine AW.ret (show ResL _ _ [.tmp 4] _ from resI rfl ?_)
    unfold wtHead
    exact (szR_neg0 (by omega) hb1).symm
  · have _u := True.intro
    replace hb1 := of_decide_eq_false hb1
    obtain ⟨hs2, hs2b, hs2c⟩ := szR_ok (by omega) hb1
    refine AW.skip ?_
    refine AW.seq ?_
    refine AW.region ?_
    refine ARun.pure (PureOp.move rfl (.tmp rfl)) rfl rfl (Nat.le_of_ble_eq_true rfl) ?_
    refine ARun.pure (PureOp.assign rfl (.tmp rfl)) rfl rfl (Nat.le_of_ble_eq_true rfl) ?_
    refine ARun.nil ?_
    refine AW.ret (show ResL _ _ [.tmp 4] _ from resI rfl ?_)
    rfl

theorem v_szSay (x : GSay) (left : Int) (hl : 0 ≤ left ∧ left ≤ 1048576) : Fn Try.prog 23 [.agg [.str x.name, .int .i64 x.at_, .int .i64 x.value], .one (.int .i64 left)] (.one (.int .i64 (szR left (wtSay x)))) := by
  obtain ⟨h0, h1⟩ := hl
  have hU : ∀ (p : Int) (m : Nat), (szR p m < 0 ↔ p < m) := fun p m => by unfold szR; split <;> omega
  refine Fn.of_body (fn := Try.f23) Try.func23 rfl (Nat.le_of_ble_eq_true rfl) trivial ?_
  intro w0
  show AW _ 13 _ _ _ _
  refine AW.boundAS (t := 0) (j := 0) rfl rfl fun hbs0 => ?_
  refine AW.seq ?_
  refine AW.region ?_
  refine ARun.box (id := 0) rfl (.tmp rfl) (SV.cells_of (by exact ⟨trivial, trivial, trivial, trivial⟩)) ⟨rfl, (by repeat first | exact trivial | refine ⟨by decide, by first | rfl | exact trivial | (intro i j; first | rfl | exact getD_no rfl | (dsimp only; split <;> first | rfl | exact getD_no rfl) | exact scl_no (by apply_assumption) _), ?_⟩)⟩ rfl rfl rfl (Nat.le_of_ble_eq_true rfl) ?_
  refine ARun.pure (PureOp.assign rfl .int) rfl rfl (Nat.le_of_ble_eq_true rfl) ?_
  refine ARun.nil ?_
  refine AW.seq ?_
  refine AW.region ?_
  refine ARun.pure (PureOp.move rfl (.tmp rfl)) rfl rfl (Nat.le_of_ble_eq_true rfl) ?_
  refine ARun.pure (PureOp.fieldPtr rfl (.tmp rfl) vz_fi_44_0_0) rfl rfl (Nat.le_of_ble_eq_true rfl) ?_
  refine ARun.pure (PureOp.loadPtr rfl (.tmp rfl) vz_pl_9 rfl rfl (Nat.le_of_ble_eq_true rfl) (Nat.le_of_ble_eq_true rfl)) rfl rfl (Nat.le_of_ble_eq_true rfl) ?_
  refine ARun.pure (PureOp.lenStr rfl (.tmp rfl) vz_st_9) rfl rfl (Nat.le_of_ble_eq_true rfl) ?_
  refine ARun.pure (PureOp.sub (c := left - (x.name.size : Int)) rfl (.tmp rfl) (.tmp rfl) (wrap_id (by omega) (by omega))) rfl rfl (Nat.le_of_ble_eq_true rfl) ?_
  refine ARun.pure (PureOp.assign rfl (.tmp rfl)) rfl rfl (Nat.le_of_ble_eq_true rfl) ?_
  refine ARun.nil ?_
  refine AW.seq ?_
  refine AW.seq ?_
  refine AW.region ?_
  refine ARun.pure (PureOp.move rfl (.tmp rfl)) rfl rfl (Nat.le_of_ble_eq_true rfl) ?_
  refine ARun.pure (PureOp.intOp rfl (.tmp rfl) .int rfl) rfl rfl (Nat.le_of_ble_eq_true rfl) ?_
  refine ARun.nil ?_
  refine AW.cond (.tmp rfl) (fun hb1 => ?_) (fun hb1 => ?_)
  · have _u := True.intro
    replace hb1 := of_decide_eq_true hb1
    refine AW.seq ?_
    refine AW.region ?_
    refine ARun.pure (PureOp.assign rfl .int) rfl rfl (Nat.le_of_ble_eq_true rfl) ?_
    refine ARun.nil ?_
    refine AW.ret (show ResL _ _ [.tmp 4] _ from resI rfl ?_)
    unfold wtSay
    unfold szR at *; (repeat' split at *) <;> first | omega | (split <;> omega)
  · have _u := True.intro
    replace hb1 := of_decide_eq_false hb1
    refine AW.skip ?_
    refine AW.seq ?_
    refine AW.region ?_
    refine ARun.pure (PureOp.move rfl (.tmp rfl)) rfl rfl (Nat.le_of_ble_eq_true rfl) ?_
    refine ARun.pure (PureOp.assign rfl (.tmp rfl)) rfl rfl (Nat.le_of_ble_eq_true rfl) ?_
    refine ARun.nil ?_
    refine AW.ret (show ResL _ _ [.tmp 4] _ from resI rfl ?_)
    unfold wtSay
    unfold szR at *; (repeat' split at *) <;> first | omega | (split <;> omega)

end Go.Proofs.Ytmfkmifkkplidaa


/-
  The laws' own comparisons (eq) over the data of this seat.
-/
namespace Go.Proofs.Ytmfkmifkkplidaa
open Go.ChangeShapes Go.WideShapes Go.ChangeAt Go.RowKit Go.BigFrame Go.Deep
set_option linter.unusedVariables false
set_option linter.unusedSimpArgs false
theorem ve_ag_67_2 : aggB Try.prog 67 2 = true := by kernel_rfl
theorem ve_ag_81_2 : aggB Try.prog 81 2 = true := by kernel_rfl
theorem ve_ca_16 : callB Try.prog 16 = true := by kernel_rfl
theorem ve_ca_47 : callB Try.prog 47 = true := by kernel_rfl
theorem ve_ca_50 : callB Try.prog 50 = true := by kernel_rfl
theorem ve_ca_73 : callB Try.prog 73 = true := by kernel_rfl
theorem ve_el_27_2 : elemB Try.prog 27 2 = true := by kernel_rfl
theorem ve_el_33_2 : elemB Try.prog 33 2 = true := by kernel_rfl
theorem ve_fi_29_0_0 : fieldB Try.prog 29 0 0 = true := by kernel_rfl
theorem ve_fi_29_1_1 : fieldB Try.prog 29 1 1 = true := by kernel_rfl
theorem ve_fi_67_0_0 : fieldB Try.prog 67 0 0 = true := by kernel_rfl
theorem ve_fi_67_1_1 : fieldB Try.prog 67 1 1 = true := by kernel_rfl
theorem ve_fi_81_0_0 : fieldB Try.prog 81 0 0 = true := by kernel_rfl
theorem ve_fi_81_1_1 : fieldB Try.prog 81 1 1 = true := by kernel_rfl
theorem ve_pl_27 : plainB Try.prog 27 = true := by kernel_rfl
theorem ve_pl_3 : plainB Try.prog 3 = true := by kernel_rfl
theorem ve_pl_33 : plainB Try.prog 33 = true := by kernel_rfl
theorem ve_pl_9 : plainB Try.prog 9 = true := by kernel_rfl
theorem ve_sl_27 : sliceB Try.prog 27 = true := by kernel_rfl
theorem ve_sl_33 : sliceB Try.prog 33 = true := by kernel_rfl
theorem v_eqSample (x y : GSample) : Fn Try.prog 50 [.agg [.int .i64 x.at_, .int .i64 x.value], .agg [.int .i64 y.at_, .int .i64 y.value]] (.one (.bool (decide (x = y)))) := by
  refine Fn.of_body (fn := Try.f50) Try.func50 rfl (Nat.le_of_ble_eq_true rfl) trivial ?_
  intro w0
  show AW _ 15 _ _ _ _
  refine AW.seq ?_
  refine AW.region ?_
  refine ARun.box (id := 0) rfl (.tmp rfl) (SV.cells_of (by exact ⟨trivial, trivial, trivial⟩)) ⟨rfl, (by repeat first | exact trivial | refine ⟨by decide, by first | rfl | exact trivial | (intro i j; first | rfl | exact getD_no rfl | (dsimp only; split <;> first | rfl | exact getD_no rfl) | exact scl_no (by apply_assumption) _), ?_⟩)⟩ rfl rfl rfl (Nat.le_of_ble_eq_true rfl) ?_
  refine ARun.box (id := 1) rfl (.tmp rfl) (SV.cells_of (by exact ⟨trivial, trivial, trivial⟩)) ⟨rfl, (by repeat first | exact trivial | refine ⟨by decide, by first | rfl | exact trivial | (intro i j; first | rfl | exact getD_no rfl | (dsimp only; split <;> first | rfl | exact getD_no rfl) | exact scl_no (by apply_assumption) _), ?_⟩)⟩ rfl rfl rfl (Nat.le_of_ble_eq_true rfl) ?_
  refine ARun.pure (PureOp.assign rfl .bool) rfl rfl (Nat.le_of_ble_eq_true rfl) ?_
  refine ARun.nil ?_
  refine AW.seq ?_
  refine AW.seq ?_
  refine AW.region ?_
  refine ARun.pure (PureOp.fieldPtr rfl (.tmp rfl) ve_fi_81_0_0) rfl rfl (Nat.le_of_ble_eq_true rfl) ?_
  refine ARun.pure (PureOp.loadPtr rfl (.tmp rfl) ve_pl_3 rfl rfl (Nat.le_of_ble_eq_true rfl) (Nat.le_of_ble_eq_true rfl)) rfl rfl (Nat.le_of_ble_eq_true rfl) ?_
  refine ARun.pure (PureOp.fieldPtr rfl (.tmp rfl) ve_fi_81_0_0) rfl rfl (Nat.le_of_ble_eq_true rfl) ?_
  refine ARun.pure (PureOp.loadPtr rfl (.tmp rfl) ve_pl_3 rfl rfl (Nat.le_of_ble_eq_true rfl) (Nat.le_of_ble_eq_true rfl)) rfl rfl (Nat.le_of_ble_eq_true rfl) ?_
  refine ARun.pure (PureOp.intOp rfl (.tmp rfl) (.tmp rfl) rfl) rfl rfl (Nat.le_of_ble_eq_true rfl) ?_
  refine ARun.nil ?_
  refine AW.cond (.tmp rfl) (fun hb1 => ?_) (fun hb1 => ?_)
  · have _u := True.intro
    replace hb1 := of_decide_eq_false (of_not hb1)
    refine AW.seq ?_
    refine AW.region ?_
    refine ARun.pure (PureOp.assign rfl .bool) rfl rfl (Nat.le_of_ble_eq_true rfl) ?_
    refine ARun.nil ?_
    refine AW.ret (show ResL _ _ [.tmp 4] _ from resB rfl ?_)
    exact (decide_eq_false (fun e => hb1 (by rw [e]))).symm
  · have _u := True.intro
    replace hb1 := of_decide_eq_true (not_f hb1)
    refine AW.skip ?_
    refine AW.seq ?_
    refine AW.seq ?_
    refine AW.region ?_
    refine ARun.pure (PureOp.fieldPtr rfl (.tmp rfl) ve_fi_81_1_1) rfl rfl (Nat.le_of_ble_eq_true rfl) ?_
    refine ARun.pure (PureOp.loadPtr rfl (.tmp rfl) ve_pl_3 rfl rfl (Nat.le_of_ble_eq_true rfl) (Nat.le_of_ble_eq_true rfl)) rfl rfl (Nat.le_of_ble_eq_true rfl) ?_
    refine ARun.pure (PureOp.fieldPtr rfl (.tmp rfl) ve_fi_81_1_1) rfl rfl (Nat.le_of_ble_eq_true rfl) ?_
    refine ARun.pure (PureOp.loadPtr rfl (.tmp rfl) ve_pl_3 rfl rfl (Nat.le_of_ble_eq_true rfl) (Nat.le_of_ble_eq_true rfl)) rfl rfl (Nat.le_of_ble_eq_true rfl) ?_
    refine ARun.pure (PureOp.intOp rfl (.tmp rfl) (.tmp rfl) rfl) rfl rfl (Nat.le_of_ble_eq_true rfl) ?_
    refine ARun.nil ?_
    refine AW.cond (.tmp rfl) (fun hb2 => ?_) (fun hb2 => ?_)
    · have _u := True.intro
      replace hb2 := of_decide_eq_false (of_not hb2)
      refine AW.seq ?_
      refine AW.region ?_
      refine ARun.pure (PureOp.assign rfl .bool) rfl rfl (Nat.le_of_ble_eq_true rfl) ?_
      refine ARun.nil ?_
      refine AW.ret (show ResL _ _ [.tmp 4] _ from resB rfl ?_)
      exact (decide_eq_false (fun e => hb2 (by rw [e]))).symm
    · have _u := True.intro
      replace hb2 := of_decide_eq_true (not_f hb2)
      refine AW.skip ?_
      refine AW.seq ?_
      refine AW.region ?_
      refine ARun.pure (PureOp.assign rfl .bool) rfl rfl (Nat.le_of_ble_eq_true rfl) ?_
      refine ARun.nil ?_
      refine AW.ret (show ResL _ _ [.tmp 4] _ from resB rfl ?_)
      exact (decide_eq_true (by cases x; cases y; simp_all)).symm

theorem v_eqSampleS (x y : List GSample) : Fn Try.prog 16 [.one (.lst 2 x.length (fun i0 j0 => ([.int .i64 ((x.getD i0 (default : GSample)).at_), .int .i64 ((x.getD i0 (default : GSample)).value)] : List AV).getD j0 (.con undef))), .one (.lst 2 y.length (fun i0 j0 => ([.int .i64 ((y.getD i0 (default : GSample)).at_), .int .i64 ((y.getD i0 (default : GSample)).value)] : List AV).getD j0 (.con undef)))] (.one (.bool (decide (x = y)))) := by
  refine Fn.of_body (fn := Try.f16) Try.func16 rfl (Nat.le_of_ble_eq_true rfl) trivial ?_
  intro w0
  show AW _ 27 _ _ _ _
  refine AW.bound (t := 0) rfl fun hx => ?_
  refine AW.seq ?_
  refine AW.region ?_
  refine ARun.pure (PureOp.assign rfl .bool) rfl rfl (Nat.le_of_ble_eq_true rfl) ?_
  refine ARun.nil ?_
  refine AW.seq ?_
  refine AW.seq ?_
  refine AW.region ?_
  refine ARun.pure (PureOp.move rfl (.tmp rfl)) rfl rfl (Nat.le_of_ble_eq_true rfl) ?_
  refine ARun.pure (PureOp.lenLst rfl (.tmp rfl) ve_sl_33) rfl rfl (Nat.le_of_ble_eq_true rfl) ?_
  refine ARun.pure (PureOp.move rfl (.tmp rfl)) rfl rfl (Nat.le_of_ble_eq_true rfl) ?_
  refine ARun.pure (PureOp.lenLst rfl (.tmp rfl) ve_sl_33) rfl rfl (Nat.le_of_ble_eq_true rfl) ?_
  refine ARun.pure (PureOp.intOp rfl (.tmp rfl) (.tmp rfl) rfl) rfl rfl (Nat.le_of_ble_eq_true rfl) ?_
  refine ARun.nil ?_
  refine AW.cond (.tmp rfl) (fun hb1 => ?_) (fun hb1 => ?_)
  · have _u := True.intro
    replace hb1 := of_decide_eq_false (of_not hb1)
    refine AW.seq ?_
    refine AW.region ?_
    refine ARun.pure (PureOp.assign rfl .bool) rfl rfl (Nat.le_of_ble_eq_true rfl) ?_
    refine ARun.nil ?_
    refine AW.ret (show ResL _ _ [.tmp 4] _ from resB rfl ?_)
    exact (decide_eq_false (fun e => by rw [e] at hb1; omega)).symm
  · have _u := True.intro
    replace hb1 := of_decide_eq_true (not_f hb1)
    refine AW.skip ?_
    refine AW.seq ?_
    refine AW.seq ?_
    refine AW.region ?_
    refine ARun.pure (PureOp.assign rfl .int) rfl rfl (Nat.le_of_ble_eq_true rfl) ?_
    refine ARun.nil ?_
    refine AW.block ?_
    refine AW.loop (ι := Nat) (fun k => ⟨[(0, .one (.lst 2 x.length (fun i0 j0 => ([.int .i64 ((x.getD i0 (default : GSample)).at_), .int .i64 ((x.getD i0 (default : GSample)).value)] : List AV).getD j0 (.con undef)))), (1, .one (.lst 2 y.length (fun i0 j0 => ([.int .i64 ((y.getD i0 (default : GSample)).at_), .int .i64 ((y.getD i0 (default : GSample)).value)] : List AV).getD j0 (.con undef)))), (5, .one (.int .i64 (k : Int)))], []⟩) (fun k => k ≤ x.length ∧ x.take k = y.take k) (fun k => x.length - k) 0 ⟨Nat.zero_le _, rfl⟩ ⟨⟨⟨_, rfl, rfl⟩, ⟨_, rfl, rfl⟩, ⟨_, rfl, rfl⟩, trivial⟩, trivial⟩ ?_
    intro k hI
    obtain ⟨hk, hq⟩ := hI
    refine AW.seq ?_
    refine AW.seq ?_
    refine AW.region ?_
    refine ARun.pure (PureOp.move rfl (.tmp rfl)) rfl rfl (Nat.le_of_ble_eq_true rfl) ?_
    refine ARun.pure (PureOp.move rfl (.tmp rfl)) rfl rfl (Nat.le_of_ble_eq_true rfl) ?_
    refine ARun.pure (PureOp.lenLst rfl (.tmp rfl) ve_sl_33) rfl rfl (Nat.le_of_ble_eq_true rfl) ?_
    refine ARun.pure (PureOp.intOp rfl (.tmp rfl) (.tmp rfl) rfl) rfl rfl (Nat.le_of_ble_eq_true rfl) ?_
    refine ARun.nil ?_
    refine AW.cond (.tmp rfl) (fun hb2 => ?_) (fun hb2 => ?_)
    · have _u := True.intro
      replace hb2 := of_decide_eq_true hb2
      have hlt : k < x.length := by omega
      have hlt2 : k < y.length := by omega
      refine AW.skip ?_
      refine AW.seq ?_
      refine AW.block ?_
      refine AW.seq ?_
      refine AW.any (by kernel_rfl) (by kernel_rfl) ?_
      refine AD.pure (PureOp.move rfl (.tmp rfl)) rfl rfl (Nat.le_of_ble_eq_true rfl) ?_
      refine AD.pure (PureOp.move rfl (.tmp rfl)) rfl rfl (Nat.le_of_ble_eq_true rfl) ?_
      refine AD.pure (PureOp.indexLst (i := k) rfl (.tmp rfl) ve_el_33_2 (.tmp rfl) rfl (by omega)) rfl rfl (Nat.le_of_ble_eq_true rfl) ?_
      refine AD.pure (PureOp.loadRefAgg rfl (.tmp rfl) ve_ag_81_2 (Nat.le_of_ble_eq_true rfl)) rfl rfl (Nat.le_of_ble_eq_true rfl) ?_
      refine AD.pure (PureOp.move rfl (.tmp rfl)) rfl rfl (Nat.le_of_ble_eq_true rfl) ?_
      refine AD.pure (PureOp.move rfl (.tmp rfl)) rfl rfl (Nat.le_of_ble_eq_true rfl) ?_
      refine AD.pure (PureOp.indexLst (i := k) rfl (.tmp rfl) ve_el_33_2 (.tmp rfl) rfl (by omega)) rfl rfl (Nat.le_of_ble_eq_true rfl) ?_
      refine AD.pure (PureOp.loadRefAgg rfl (.tmp rfl) ve_ag_81_2 (Nat.le_of_ble_eq_true rfl)) rfl rfl (Nat.le_of_ble_eq_true rfl) ?_
      refine AD.pure (PureOp.call rfl (v_eqSample (x.getD k (default : GSample)) (y.getD k (default : GSample))) ⟨⟨_, (.tmp rfl), ⟨.int, .int, trivial⟩⟩, ⟨_, (.tmp rfl), ⟨.int, .int, trivial⟩⟩, trivial⟩ ve_ca_50 trivial) rfl rfl (Nat.le_of_ble_eq_true rfl) ?_
      refine AD.pure (PureOp.not rfl (.tmp rfl)) rfl rfl (Nat.le_of_ble_eq_true rfl) ?_
      refine AD.nil ?_
      refine AW.cond (.tmp rfl) (fun hb3 => ?_) (fun hb3 => ?_)
      · have _u := True.intro
        replace hb3 := of_decide_eq_false (of_not hb3)
        refine AW.seq ?_
        refine AW.region ?_
        refine ARun.pure (PureOp.assign rfl .bool) rfl rfl (Nat.le_of_ble_eq_true rfl) ?_
        refine ARun.nil ?_
        refine AW.ret (show ResL _ _ [.tmp 4] _ from resB rfl ?_)
        exact (decide_eq_false (fun e => hb3 (by rw [e]))).symm
      · have _u := True.intro
        replace hb3 := of_decide_eq_true (not_f hb3)
        refine AW.skip ?_
        refine AW.region ?_
        refine ARun.pure (PureOp.move rfl (.tmp rfl)) rfl rfl (Nat.le_of_ble_eq_true rfl) ?_
        refine ARun.pure (PureOp.add (c := ((k + 1 : Nat) : Int)) rfl (.tmp rfl) .int (by rw [wrap_id (by omega) (by omega)]; omega)) rfl rfl (Nat.le_of_ble_eq_true rfl) ?_
        refine ARun.pure (PureOp.assign rfl (.tmp rfl)) rfl rfl (Nat.le_of_ble_eq_true rfl) ?_
        refine ARun.nil ?_
        exact ⟨k + 1, ⟨by omega, take_next (default : GSample) hlt (by omega) hq hb3⟩, by dsimp only; omega, ⟨⟨⟨_, rfl, rfl⟩, ⟨_, rfl, rfl⟩, ⟨_, rfl, rfl⟩, trivial⟩, trivial⟩⟩
    · have _u := True.intro
      replace hb2 := of_decide_eq_false hb2
      have hlt : ¬ k < x.length := by omega
      refine AW.exit ?_
      refine AW.seq ?_
      refine AW.region ?_
      refine ARun.pure (PureOp.assign rfl .bool) rfl rfl (Nat.le_of_ble_eq_true rfl) ?_
      refine ARun.nil ?_
      refine AW.ret (show ResL _ _ [.tmp 4] _ from resB rfl ?_)
      exact (decide_eq_true (eqL_yes hlt (by omega) hq)).symm

theorem v_eqRow (x y : GRow) : Fn Try.prog 73 [.agg [.str x.name, .lst 2 x.samples.length (fun i0 j0 => ([.int .i64 ((x.samples.getD i0 (default : GSample)).at_), .int .i64 ((x.samples.getD i0 (default : GSample)).value)] : List AV).getD j0 (.con undef))], .agg [.str y.name, .lst 2 y.samples.length (fun i0 j0 => ([.int .i64 ((y.samples.getD i0 (default : GSample)).at_), .int .i64 ((y.samples.getD i0 (default : GSample)).value)] : List AV).getD j0 (.con undef))]] (.one (.bool (decide (x = y)))) := by
  refine Fn.of_body (fn := Try.f73) Try.func73 rfl (Nat.le_of_ble_eq_true rfl) trivial ?_
  intro w0
  show AW _ 16 _ _ _ _
  refine AW.seq ?_
  refine AW.region ?_
  refine ARun.box (id := 0) rfl (.tmp rfl) (SV.cells_of (by exact ⟨trivial, trivial, trivial⟩)) ⟨rfl, (by repeat first | exact trivial | refine ⟨by decide, by first | rfl | exact trivial | (intro i j; first | rfl | exact getD_no rfl | (dsimp only; split <;> first | rfl | exact getD_no rfl) | exact scl_no (by apply_assumption) _), ?_⟩)⟩ rfl rfl rfl (Nat.le_of_ble_eq_true rfl) ?_
  refine ARun.box (id := 1) rfl (.tmp rfl) (SV.cells_of (by exact ⟨trivial, trivial, trivial⟩)) ⟨rfl, (by repeat first | exact trivial | refine ⟨by decide, by first | rfl | exact trivial | (intro i j; first | rfl | exact getD_no rfl | (dsimp only; split <;> first | rfl | exact getD_no rfl) | exact scl_no (by apply_assumption) _), ?_⟩)⟩ rfl rfl rfl (Nat.le_of_ble_eq_true rfl) ?_
  refine ARun.pure (PureOp.assign rfl .bool) rfl rfl (Nat.le_of_ble_eq_true rfl) ?_
  refine ARun.nil ?_
  refine AW.seq ?_
  refine AW.seq ?_
  refine AW.region ?_
  refine ARun.pure (PureOp.fieldPtr rfl (.tmp rfl) ve_fi_67_0_0) rfl rfl (Nat.le_of_ble_eq_true rfl) ?_
  refine ARun.pure (PureOp.loadPtr rfl (.tmp rfl) ve_pl_9 rfl rfl (Nat.le_of_ble_eq_true rfl) (Nat.le_of_ble_eq_true rfl)) rfl rfl (Nat.le_of_ble_eq_true rfl) ?_
  refine ARun.pure (PureOp.fieldPtr rfl (.tmp rfl) ve_fi_67_0_0) rfl rfl (Nat.le_of_ble_eq_true rfl) ?_
  refine ARun.pure (PureOp.loadPtr rfl (.tmp rfl) ve_pl_9 rfl rfl (Nat.le_of_ble_eq_true rfl) (Nat.le_of_ble_eq_true rfl)) rfl rfl (Nat.le_of_ble_eq_true rfl) ?_
  refine ARun.pure (PureOp.strOp rfl (.tmp rfl) (.tmp rfl) rfl) rfl rfl (Nat.le_of_ble_eq_true rfl) ?_
  refine ARun.nil ?_
  refine AW.cond (.tmp rfl) (fun hb1 => ?_) (fun hb1 => ?_)
  · have _u := True.intro
    replace hb1 := of_decide_eq_false (of_not hb1)
    refine AW.seq ?_
    refine AW.region ?_
    refine ARun.pure (PureOp.assign rfl .bool) rfl rfl (Nat.le_of_ble_eq_true rfl) ?_
    refine ARun.nil ?_
    refine AW.ret (show ResL _ _ [.tmp 4] _ from resB rfl ?_)
    exact (decide_eq_false (fun e => hb1 (by rw [e]))).symm
  · have _u := True.intro
    replace hb1 := of_decide_eq_true (not_f hb1)
    refine AW.skip ?_
    refine AW.seq ?_
    refine AW.seq ?_
    refine AW.region ?_
    refine ARun.pure (PureOp.fieldPtr rfl (.tmp rfl) ve_fi_67_1_1) rfl rfl (Nat.le_of_ble_eq_true rfl) ?_
    refine ARun.pure (PureOp.loadPtr rfl (.tmp rfl) ve_pl_33 rfl rfl (Nat.le_of_ble_eq_true rfl) (Nat.le_of_ble_eq_true rfl)) rfl rfl (Nat.le_of_ble_eq_true rfl) ?_
    refine ARun.pure (PureOp.fieldPtr rfl (.tmp rfl) ve_fi_67_1_1) rfl rfl (Nat.le_of_ble_eq_true rfl) ?_
    refine ARun.pure (PureOp.loadPtr rfl (.tmp rfl) ve_pl_33 rfl rfl (Nat.le_of_ble_eq_true rfl) (Nat.le_of_ble_eq_true rfl)) rfl rfl (Nat.le_of_ble_eq_true rfl) ?_
    refine ARun.pure (PureOp.call rfl (v_eqSampleS x.samples y.samples) ⟨⟨_, (.tmp rfl), .lst⟩, ⟨_, (.tmp rfl), .lst⟩, trivial⟩ ve_ca_16 trivial) rfl rfl (Nat.le_of_ble_eq_true rfl) ?_
    refine ARun.pure (PureOp.not rfl (.tmp rfl)) rfl rfl (Nat.le_of_ble_eq_true rfl) ?_
    refine ARun.nil ?_
    refine AW.cond (.tmp rfl) (fun hb2 => ?_) (fun hb2 => ?_)
    · have _u := True.intro
      replace hb2 := of_decide_eq_false (of_not hb2)
      refine AW.seq ?_
      refine AW.region ?_
      refine ARun.pure (PureOp.assign rfl .bool) rfl rfl (Nat.le_of_ble_eq_true rfl) ?_
      refine ARun.nil ?_
      refine AW.ret (show ResL _ _ [.tmp 4] _ from resB rfl ?_)
      exact (decide_eq_false (fun e => hb2 (by rw [e]))).symm
    · have _u := True.intro
      replace hb2 := of_decide_eq_true (not_f hb2)
      refine AW.skip ?_
      refine AW.seq ?_
      refine AW.region ?_
      refine ARun.pure (PureOp.assign rfl .bool) rfl rfl (Nat.le_of_ble_eq_true rfl) ?_
      refine ARun.nil ?_
      refine AW.ret (show ResL _ _ [.tmp 4] _ from resB rfl ?_)
      exact (decide_eq_true (by cases x; cases y; simp_all)).symm

theorem v_eqRowS (x y : List GRow) : Fn Try.prog 47 [.one (.lst 2 x.length (fun i0 j0 => ([.str ((x.getD i0 (default : GRow)).name), .lst 2 (((x.getD i0 (default : GRow)).samples).length) (fun i1 j1 => ([.int .i64 ((((x.getD i0 (default : GRow)).samples).getD i1 (default : GSample)).at_), .int .i64 ((((x.getD i0 (default : GRow)).samples).getD i1 (default : GSample)).value)] : List AV).getD j1 (.con undef))] : List AV).getD j0 (.con undef))), .one (.lst 2 y.length (fun i0 j0 => ([.str ((y.getD i0 (default : GRow)).name), .lst 2 (((y.getD i0 (default : GRow)).samples).length) (fun i1 j1 => ([.int .i64 ((((y.getD i0 (default : GRow)).samples).getD i1 (default : GSample)).at_), .int .i64 ((((y.getD i0 (default : GRow)).samples).getD i1 (default : GSample)).value)] : List AV).getD j1 (.con undef))] : List AV).getD j0 (.con undef)))] (.one (.bool (decide (x = y)))) := by
  refine Fn.of_body (fn := Try.f47) Try.func47 rfl (Nat.le_of_ble_eq_true rfl) trivial ?_
  intro w0
  show AW _ 27 _ _ _ _
  refine AW.bound (t := 0) rfl fun hx => ?_
  refine AW.seq ?_
  refine AW.region ?_
  refine ARun.pure (PureOp.assign rfl .bool) rfl rfl (Nat.le_of_ble_eq_true rfl) ?_
  refine ARun.nil ?_
  refine AW.seq ?_
  refine AW.seq ?_
  refine AW.region ?_
  refine ARun.pure (PureOp.move rfl (.tmp rfl)) rfl rfl (Nat.le_of_ble_eq_true rfl) ?_
  refine ARun.pure (PureOp.lenLst rfl (.tmp rfl) ve_sl_27) rfl rfl (Nat.le_of_ble_eq_true rfl) ?_
  refine ARun.pure (PureOp.move rfl (.tmp rfl)) rfl rfl (Nat.le_of_ble_eq_true rfl) ?_
  refine ARun.pure (PureOp.lenLst rfl (.tmp rfl) ve_sl_27) rfl rfl (Nat.le_of_ble_eq_true rfl) ?_
  refine ARun.pure (PureOp.intOp rfl (.tmp rfl) (.tmp rfl) rfl) rfl rfl (Nat.le_of_ble_eq_true rfl) ?_
  refine ARun.nil ?_
  refine AW.cond (.tmp rfl) (fun hb1 => ?_) (fun hb1 => ?_)
  · have _u := True.intro
    replace hb1 := of_decide_eq_false (of_not hb1)
    refine AW.seq ?_
    refine AW.region ?_
    refine ARun.pure (PureOp.assign rfl .bool) rfl rfl (Nat.le_of_ble_eq_true rfl) ?_
    refine ARun.nil ?_
    refine AW.ret (show ResL _ _ [.tmp 4] _ from resB rfl ?_)
    exact (decide_eq_false (fun e => by rw [e] at hb1; omega)).symm
  · have _u := True.intro
    replace hb1 := of_decide_eq_true (not_f hb1)
    refine AW.skip ?_
    refine AW.seq ?_
    refine AW.seq ?_
    refine AW.region ?_
    refine ARun.pure (PureOp.assign rfl .int) rfl rfl (Nat.le_of_ble_eq_true rfl) ?_
    refine ARun.nil ?_
    refine AW.block ?_
    refine AW.loop (ι := Nat) (fun k => ⟨[(0, .one (.lst 2 x.length (fun i0 j0 => ([.str ((x.getD i0 (default : GRow)).name), .lst 2 (((x.getD i0 (default : GRow)).samples).length) (fun i1 j1 => ([.int .i64 ((((x.getD i0 (default : GRow)).samples).getD i1 (default : GSample)).at_), .int .i64 ((((x.getD i0 (default : GRow)).samples).getD i1 (default : GSample)).value)] : List AV).getD j1 (.con undef))] : List AV).getD j0 (.con undef)))), (1, .one (.lst 2 y.length (fun i0 j0 => ([.str ((y.getD i0 (default : GRow)).name), .lst 2 (((y.getD i0 (default : GRow)).samples).length) (fun i1 j1 => ([.int .i64 ((((y.getD i0 (default : GRow)).samples).getD i1 (default : GSample)).at_), .int .i64 ((((y.getD i0 (default : GRow)).samples).getD i1 (default : GSample)).value)] : List AV).getD j1 (.con undef))] : List AV).getD j0 (.con undef)))), (5, .one (.int .i64 (k : Int)))], []⟩) (fun k => k ≤ x.length ∧ x.take k = y.take k) (fun k => x.length - k) 0 ⟨Nat.zero_le _, rfl⟩ ⟨⟨⟨_, rfl, rfl⟩, ⟨_, rfl, rfl⟩, ⟨_, rfl, rfl⟩, trivial⟩, trivial⟩ ?_
    intro k hI
    obtain ⟨hk, hq⟩ := hI
    refine AW.seq ?_
    refine AW.seq ?_
    refine AW.region ?_
    refine ARun.pure (PureOp.move rfl (.tmp rfl)) rfl rfl (Nat.le_of_ble_eq_true rfl) ?_
    refine ARun.pure (PureOp.move rfl (.tmp rfl)) rfl rfl (Nat.le_of_ble_eq_true rfl) ?_
    refine ARun.pure (PureOp.lenLst rfl (.tmp rfl) ve_sl_27) rfl rfl (Nat.le_of_ble_eq_true rfl) ?_
    refine ARun.pure (PureOp.intOp rfl (.tmp rfl) (.tmp rfl) rfl) rfl rfl (Nat.le_of_ble_eq_true rfl) ?_
    refine ARun.nil ?_
    refine AW.cond (.tmp rfl) (fun hb2 => ?_) (fun hb2 => ?_)
    · have _u := True.intro
      replace hb2 := of_decide_eq_true hb2
      have hlt : k < x.length := by omega
      have hlt2 : k < y.length := by omega
      refine AW.skip ?_
      refine AW.seq ?_
      refine AW.block ?_
      refine AW.seq ?_
      refine AW.any (by kernel_rfl) (by kernel_rfl) ?_
      refine AD.pure (PureOp.move rfl (.tmp rfl)) rfl rfl (Nat.le_of_ble_eq_true rfl) ?_
      refine AD.pure (PureOp.move rfl (.tmp rfl)) rfl rfl (Nat.le_of_ble_eq_true rfl) ?_
      refine AD.pure (PureOp.indexLst (i := k) rfl (.tmp rfl) ve_el_27_2 (.tmp rfl) rfl (by omega)) rfl rfl (Nat.le_of_ble_eq_true rfl) ?_
      refine AD.pure (PureOp.loadRefAgg rfl (.tmp rfl) ve_ag_67_2 (Nat.le_of_ble_eq_true rfl)) rfl rfl (Nat.le_of_ble_eq_true rfl) ?_
      refine AD.pure (PureOp.move rfl (.tmp rfl)) rfl rfl (Nat.le_of_ble_eq_true rfl) ?_
      refine AD.pure (PureOp.move rfl (.tmp rfl)) rfl rfl (Nat.le_of_ble_eq_true rfl) ?_
      refine AD.pure (PureOp.indexLst (i := k) rfl (.tmp rfl) ve_el_27_2 (.tmp rfl) rfl (by omega)) rfl rfl (Nat.le_of_ble_eq_true rfl) ?_
      refine AD.pure (PureOp.loadRefAgg rfl (.tmp rfl) ve_ag_67_2 (Nat.le_of_ble_eq_true rfl)) rfl rfl (Nat.le_of_ble_eq_true rfl) ?_
      refine AD.pure (PureOp.call rfl (v_eqRow (x.getD k (default : GRow)) (y.getD k (default : GRow))) ⟨⟨_, (.tmp rfl), ⟨.str, .lst, trivial⟩⟩, ⟨_, (.tmp rfl), ⟨.str, .lst, trivial⟩⟩, trivial⟩ ve_ca_73 trivial) rfl rfl (Nat.le_of_ble_eq_true rfl) ?_
      refine AD.pure (PureOp.not rfl (.tmp rfl)) rfl rfl (Nat.le_of_ble_eq_true rfl) ?_
      refine AD.nil ?_
      refine AW.cond (.tmp rfl) (fun hb3 => ?_) (fun hb3 => ?_)
      · have _u := True.intro
        replace hb3 := of_decide_eq_false (of_not hb3)
        refine AW.seq ?_
        refine AW.region ?_
        refine ARun.pure (PureOp.assign rfl .bool) rfl rfl (Nat.le_of_ble_eq_true rfl) ?_
        refine ARun.nil ?_
        refine AW.ret (show ResL _ _ [.tmp 4] _ from resB rfl ?_)
        exact (decide_eq_false (fun e => hb3 (by rw [e]))).symm
      · have _u := True.intro
        replace hb3 := of_decide_eq_true (not_f hb3)
        refine AW.skip ?_
        refine AW.region ?_
        refine ARun.pure (PureOp.move rfl (.tmp rfl)) rfl rfl (Nat.le_of_ble_eq_true rfl) ?_
        refine ARun.pure (PureOp.add (c := ((k + 1 : Nat) : Int)) rfl (.tmp rfl) .int (by rw [wrap_id (by omega) (by omega)]; omega)) rfl rfl (Nat.le_of_ble_eq_true rfl) ?_
        refine ARun.pure (PureOp.assign rfl (.tmp rfl)) rfl rfl (Nat.le_of_ble_eq_true rfl) ?_
        refine ARun.nil ?_
        exact ⟨k + 1, ⟨by omega, take_next (default : GRow) hlt (by omega) hq hb3⟩, by dsimp only; omega, ⟨⟨⟨_, rfl, rfl⟩, ⟨_, rfl, rfl⟩, ⟨_, rfl, rfl⟩, trivial⟩, trivial⟩⟩
    · have _u := True.intro
      replace hb2 := of_decide_eq_false hb2
      have hlt : ¬ k < x.length := by omega
      refine AW.exit ?_
      refine AW.seq ?_
      refine AW.region ?_
      refine ARun.pure (PureOp.assign rfl .bool) rfl rfl (Nat.le_of_ble_eq_true rfl) ?_
      refine ARun.nil ?_
      refine AW.ret (show ResL _ _ [.tmp 4] _ from resB rfl ?_)
      exact (decide_eq_true (eqL_yes hlt (by omega) hq)).symm

theorem v_eqHead (x y : GHead) : Fn Try.prog 13 [.agg [.lst 2 x.rows.length (fun i0 j0 => ([.str ((x.rows.getD i0 (default : GRow)).name), .lst 2 (((x.rows.getD i0 (default : GRow)).samples).length) (fun i1 j1 => ([.int .i64 ((((x.rows.getD i0 (default : GRow)).samples).getD i1 (default : GSample)).at_), .int .i64 ((((x.rows.getD i0 (default : GRow)).samples).getD i1 (default : GSample)).value)] : List AV).getD j1 (.con undef))] : List AV).getD j0 (.con undef)), .int .i64 x.offset], .agg [.lst 2 y.rows.length (fun i0 j0 => ([.str ((y.rows.getD i0 (default : GRow)).name), .lst 2 (((y.rows.getD i0 (default : GRow)).samples).length) (fun i1 j1 => ([.int .i64 ((((y.rows.getD i0 (default : GRow)).samples).getD i1 (default : GSample)).at_), .int .i64 ((((y.rows.getD i0 (default : GRow)).samples).getD i1 (default : GSample)).value)] : List AV).getD j1 (.con undef))] : List AV).getD j0 (.con undef)), .int .i64 y.offset]] (.one (.bool (decide (x = y)))) := by
  refine Fn.of_body (fn := Try.f13) Try.func13 rfl (Nat.le_of_ble_eq_true rfl) trivial ?_
  intro w0
  show AW _ 16 _ _ _ _
  refine AW.seq ?_
  refine AW.region ?_
  refine ARun.box (id := 0) rfl (.tmp rfl) (SV.cells_of (by exact ⟨trivial, trivial, trivial⟩)) ⟨rfl, (by repeat first | exact trivial | refine ⟨by decide, by first | rfl | exact trivial | (intro i j; first | rfl | exact getD_no rfl | (dsimp only; split <;> first | rfl | exact getD_no rfl) | exact scl_no (by apply_assumption) _), ?_⟩)⟩ rfl rfl rfl (Nat.le_of_ble_eq_true rfl) ?_
  refine ARun.box (id := 1) rfl (.tmp rfl) (SV.cells_of (by exact ⟨trivial, trivial, trivial⟩)) ⟨rfl, (by repeat first | exact trivial | refine ⟨by decide, by first | rfl | exact trivial | (intro i j; first | rfl | exact getD_no rfl | (dsimp only; split <;> first | rfl | exact getD_no rfl) | exact scl_no (by apply_assumption) _), ?_⟩)⟩ rfl rfl rfl (Nat.le_of_ble_eq_true rfl) ?_
  refine ARun.pure (PureOp.assign rfl .bool) rfl rfl (Nat.le_of_ble_eq_true rfl) ?_
  refine ARun.nil ?_
  refine AW.seq ?_
  refine AW.seq ?_
  refine AW.region ?_
  refine ARun.pure (PureOp.fieldPtr rfl (.tmp rfl) ve_fi_29_0_0) rfl rfl (Nat.le_of_ble_eq_true rfl) ?_
  refine ARun.pure (PureOp.loadPtr rfl (.tmp rfl) ve_pl_27 rfl rfl (Nat.le_of_ble_eq_true rfl) (Nat.le_of_ble_eq_true rfl)) rfl rfl (Nat.le_of_ble_eq_true rfl) ?_
  refine ARun.pure (PureOp.fieldPtr rfl (.tmp rfl) ve_fi_29_0_0) rfl rfl (Nat.le_of_ble_eq_true rfl) ?_
  refine ARun.pure (PureOp.loadPtr rfl (.tmp rfl) ve_pl_27 rfl rfl (Nat.le_of_ble_eq_true rfl) (Nat.le_of_ble_eq_true rfl)) rfl rfl (Nat.le_of_ble_eq_true rfl) ?_
  refine ARun.pure (PureOp.call rfl (v_eqRowS x.rows y.rows) ⟨⟨_, (.tmp rfl), .lst⟩, ⟨_, (.tmp rfl), .lst⟩, trivial⟩ ve_ca_47 trivial) rfl rfl (Nat.le_of_ble_eq_true rfl) ?_
  refine ARun.pure (PureOp.not rfl (.tmp rfl)) rfl rfl (Nat.le_of_ble_eq_true rfl) ?_
  refine ARun.nil ?_
  refine AW.cond (.tmp rfl) (fun hb1 => ?_) (fun hb1 => ?_)
  · have _u := True.intro
    replace hb1 := of_decide_eq_false (of_not hb1)
    refine AW.seq ?_
    refine AW.region ?_
    refine ARun.pure (PureOp.assign rfl .bool) rfl rfl (Nat.le_of_ble_eq_true rfl) ?_
    refine ARun.nil ?_
    refine AW.ret (show ResL _ _ [.tmp 4] _ from resB rfl ?_)
    exact (decide_eq_false (fun e => hb1 (by rw [e]))).symm
  · have _u := True.intro
    replace hb1 := of_decide_eq_true (not_f hb1)
    refine AW.skip ?_
    refine AW.seq ?_
    refine AW.seq ?_
    refine AW.region ?_
    refine ARun.pure (PureOp.fieldPtr rfl (.tmp rfl) ve_fi_29_1_1) rfl rfl (Nat.le_of_ble_eq_true rfl) ?_
    refine ARun.pure (PureOp.loadPtr rfl (.tmp rfl) ve_pl_3 rfl rfl (Nat.le_of_ble_eq_true rfl) (Nat.le_of_ble_eq_true rfl)) rfl rfl (Nat.le_of_ble_eq_true rfl) ?_
    refine ARun.pure (PureOp.fieldPtr rfl (.tmp rfl) ve_fi_29_1_1) rfl rfl (Nat.le_of_ble_eq_true rfl) ?_
    refine ARun.pure (PureOp.loadPtr rfl (.tmp rfl) ve_pl_3 rfl rfl (Nat.le_of_ble_eq_true rfl) (Nat.le_of_ble_eq_true rfl)) rfl rfl (Nat.le_of_ble_eq_true rfl) ?_
    refine ARun.pure (PureOp.intOp rfl (.tmp rfl) (.tmp rfl) rfl) rfl rfl (Nat.le_of_ble_eq_true rfl) ?_
    refine ARun.nil ?_
    refine AW.cond (.tmp rfl) (fun hb2 => ?_) (fun hb2 => ?_)
    · have _u := True.intro
      replace hb2 := of_decide_eq_false (of_not hb2)
      refine AW.seq ?_
      refine AW.region ?_
      refine ARun.pure (PureOp.assign rfl .bool) rfl rfl (Nat.le_of_ble_eq_true rfl) ?_
      refine ARun.nil ?_
      refine AW.ret (show ResL _ _ [.tmp 4] _ from resB rfl ?_)
      exact (decide_eq_false (fun e => hb2 (by rw [e]))).symm
    · have _u := True.intro
      replace hb2 := of_decide_eq_true (not_f hb2)
      refine AW.skip ?_
      refine AW.seq ?_
      refine AW.region ?_
      refine ARun.pure (PureOp.assign rfl .bool) rfl rfl (Nat.le_of_ble_eq_true rfl) ?_
      refine ARun.nil ?_
      refine AW.ret (show ResL _ _ [.tmp 4] _ from resB rfl ?_)
      exact (decide_eq_true (by cases x; cases y; simp_all)).symm

end Go.Proofs.Ytmfkmifkkplidaa


namespace Go.Proofs.Ytmfkmifkkplidaa
open Go.ChangeShapes Go.WideShapes Go.ChangeAt Go.RowKit Go.BigFrame Go.Deep
set_option linter.unusedVariables false
set_option linter.unusedSimpArgs false
theorem vtl_ag_24_2 : aggB Try.prog 24 2 = true := by kernel_rfl
theorem vtl_ag_29_2 : aggB Try.prog 29 2 = true := by kernel_rfl
theorem vtl_ag_44_3 : aggB Try.prog 44 3 = true := by kernel_rfl
theorem vtl_bo_4 : boolB Try.prog 4 = true := by kernel_rfl
theorem vtl_ca_11 : callB Try.prog 11 = true := by kernel_rfl
theorem vtl_ca_13 : callB Try.prog 13 = true := by kernel_rfl
theorem vtl_ca_17 : callB Try.prog 17 = true := by kernel_rfl
theorem vtl_ca_22 : callB Try.prog 22 = true := by kernel_rfl
theorem vtl_ca_23 : callB Try.prog 23 = true := by kernel_rfl
theorem vtl_ca_24 : callB Try.prog 24 = true := by kernel_rfl
theorem vtl_ca_25 : callB Try.prog 25 = true := by kernel_rfl
theorem vtl_ca_26 : callB Try.prog 26 = true := by kernel_rfl
theorem vtl_ca_9 : callB Try.prog 9 = true := by kernel_rfl
theorem vtl_sz_29_2 : sizeB Try.prog 29 2 = true := by kernel_rfl
theorem smp_cnt (l : List GSample) : ctL crSample l ≤ 2 * l.length := ctL_len (fun _ => Nat.le_refl 2) l
theorem row_cnt (r : GRow) : crRow r ≤ 2 * (1 + wtRow r) := by
  have h := smp_cnt r.samples
  have e : crRow r = 0 + 1 + ctL crSample r.samples := rfl
  have e2 : wtRow r = r.name.size + r.samples.length := rfl
  rw [e, e2]; omega
theorem head_cnt (x : GHead) : cvHead x ≤ 2 * wtHead x := by
  show 0 + ctL crRow x.rows ≤ 2 * wtl wtRow x.rows
  have := ctL_wtl (ct := crRow) (f := wtRow) (c := 2) row_cnt x.rows
  omega
theorem ctL_mem {α : Type} {ct : α → Nat} {c : Nat} : ∀ {l : List α}, (∀ x ∈ l, ct x ≤ c) → ctL ct l ≤ c * l.length
  | [], _ => Nat.zero_le _
  | a :: l, h => by
    have h1 := h a (List.mem_cons_self ..)
    have h2 := ctL_mem (l := l) fun x hx => h x (List.mem_cons_of_mem _ hx)
    have e : ctL ct (a :: l) = ct a + ctL ct l := by simp [ctL]
    rw [e, List.length_cons, Nat.mul_add]; omega
theorem good_cnt {h : GHead} (hg : goodHead ⟨h.rows, 0⟩ = true) : cvHead h ≤ 1000 := by
  have h1 : ctL crRow h.rows ≤ 81 * h.rows.length := ctL_mem fun r hr => by
    obtain ⟨k, hk, rfl⟩ := List.mem_iff_getElem.1 hr
    have h2 := smp_40 (good_at (h := ⟨h.rows, 0⟩) hg hk).2.2
    have e : h.rows.getD k (default : GRow) = h.rows[k] := by rw [List.getD_eq_getElem?_getD, List.getElem?_eq_getElem hk]; rfl
    have h2 : (h.rows.getD k (default : GRow)).samples.length ≤ 40 := h2
    rw [e] at h2
    have h3 := smp_cnt (h.rows[k]).samples
    have e2 : crRow h.rows[k] = 0 + 1 + ctL crSample (h.rows[k]).samples := rfl
    omega
  have h2 := good_len (h := ⟨h.rows, 0⟩) hg
  have h2 : h.rows.length ≤ 8 := h2
  show 0 + ctL crRow h.rows ≤ _
  omega
theorem takeV_cnt (h : GHead) (x : GSay) : cvHead (takeV h x).1 ≤ 1000 := by
  unfold takeV
  by_cases hc : goodHead h = true ∧ sayB x = true ∧ ¬ h.offset = 1000
  · rw [if_pos hc]; exact good_cnt (good_take (good0 hc.1) hc.2.1)
  · rw [if_neg hc]; exact Nat.zero_le _

theorem opensC_9 : OpensC Try.prog 9 (fun x : ByteArray => [.str x]) := OpensC.string Try.underlying9
theorem opensC_3 : OpensC Try.prog 3 (fun x : Int => [.int .i64 x]) := OpensC.int Try.underlying3
theorem opensC_124 : OpensC Try.prog 124 (fun x : GSample => [.int .i64 x.at_, .int .i64 x.value]) := fun H eh w fuel cs x h => by
  have hS : Try.prog.underlying 124 = some (.struct (Try.prog.fieldsOf 124)) := by kernel_rfl
  obtain ⟨xs, n, _, rfl, hl, hlen, hf⟩ := DataW.trod_struct hS h
  have hsz : (Try.prog.fieldsOf 124).size = 2 := by kernel_rfl
  have hC : Try.prog.cellsOf 124 = 2 := by kernel_rfl
  rw [hC] at hl
  have t0 : ((Try.prog.fieldsOf 124)[0]?).map (fun f => (f.type, f.offset, Try.prog.cellsOf f.type)) = some (3, 0, 1) := by kernel_rfl
  obtain ⟨f0, j0, y0⟩ := Option.map_eq_some_iff.1 t0
  simp only [Prod.mk.injEq] at y0
  have g0 := hf 0 f0 j0
  rw [y0.2.2, y0.2.1, y0.1, List.getElem?_eq_getElem (by omega)] at g0
  obtain ⟨a0, r0⟩ := opensC_3 H eh w n _ _ g0
  have t1 : ((Try.prog.fieldsOf 124)[1]?).map (fun f => (f.type, f.offset, Try.prog.cellsOf f.type)) = some (3, 1, 1) := by kernel_rfl
  obtain ⟨f1, j1, y1⟩ := Option.map_eq_some_iff.1 t1
  simp only [Prod.mk.injEq] at y1
  have g1 := hf 1 f1 j1
  rw [y1.2.2, y1.2.1, y1.1, List.getElem?_eq_getElem (by omega)] at g1
  obtain ⟨a1, r1⟩ := opensC_3 H eh w n _ _ g1
  have e2 : DL w (· < w.heap.size) [] (cs.drop 2) := List.drop_of_length_le (by omega)
  have e1 := DL.part (o := 1) (s := 1) r1 e2
  have e0 := DL.part (o := 0) (s := 1) r0 e1
  exact ⟨⟨a0, a1⟩, e0⟩
theorem opensC_101 : OpensC Try.prog 101 (fun x : List GSample => [.lst 2 x.length (fun i0 j0 => ([.int .i64 ((x.getD i0 (default : GSample)).at_), .int .i64 ((x.getD i0 (default : GSample)).value)] : List AV).getD j0 (.con undef))]) := OpensC.slice (default : GSample) Try.underlying101 (by kernel_rfl) (by decide) opensC_124 (fun _ => rfl) (fun l i j _ hj => match j, hj with | 0, _ => rfl | 1, _ => rfl | _ + 2, h => absurd h (by omega))
theorem opensC_103 : OpensC Try.prog 103 (fun x : GRow => [.str x.name, .lst 2 x.samples.length (fun i0 j0 => ([.int .i64 ((x.samples.getD i0 (default : GSample)).at_), .int .i64 ((x.samples.getD i0 (default : GSample)).value)] : List AV).getD j0 (.con undef))]) := fun H eh w fuel cs x h => by
  have hS : Try.prog.underlying 103 = some (.struct (Try.prog.fieldsOf 103)) := by kernel_rfl
  obtain ⟨xs, n, _, rfl, hl, hlen, hf⟩ := DataW.trod_struct hS h
  have hsz : (Try.prog.fieldsOf 103).size = 2 := by kernel_rfl
  have hC : Try.prog.cellsOf 103 = 2 := by kernel_rfl
  rw [hC] at hl
  have t0 : ((Try.prog.fieldsOf 103)[0]?).map (fun f => (f.type, f.offset, Try.prog.cellsOf f.type)) = some (9, 0, 1) := by kernel_rfl
  obtain ⟨f0, j0, y0⟩ := Option.map_eq_some_iff.1 t0
  simp only [Prod.mk.injEq] at y0
  have g0 := hf 0 f0 j0
  rw [y0.2.2, y0.2.1, y0.1, List.getElem?_eq_getElem (by omega)] at g0
  obtain ⟨a0, r0⟩ := opensC_9 H eh w n _ _ g0
  have t1 : ((Try.prog.fieldsOf 103)[1]?).map (fun f => (f.type, f.offset, Try.prog.cellsOf f.type)) = some (101, 1, 1) := by kernel_rfl
  obtain ⟨f1, j1, y1⟩ := Option.map_eq_some_iff.1 t1
  simp only [Prod.mk.injEq] at y1
  have g1 := hf 1 f1 j1
  rw [y1.2.2, y1.2.1, y1.1, List.getElem?_eq_getElem (by omega)] at g1
  obtain ⟨a1, r1⟩ := opensC_101 H eh w n _ _ g1
  have e2 : DL w (· < w.heap.size) [] (cs.drop 2) := List.drop_of_length_le (by omega)
  have e1 := DL.part (o := 1) (s := 1) r1 e2
  have e0 := DL.part (o := 0) (s := 1) r0 e1
  exact ⟨⟨a0, a1⟩, e0⟩
theorem opensC_22 : OpensC Try.prog 22 (fun x : List GRow => [.lst 2 x.length (fun i0 j0 => ([.str ((x.getD i0 (default : GRow)).name), .lst 2 (((x.getD i0 (default : GRow)).samples).length) (fun i1 j1 => ([.int .i64 ((((x.getD i0 (default : GRow)).samples).getD i1 (default : GSample)).at_), .int .i64 ((((x.getD i0 (default : GRow)).samples).getD i1 (default : GSample)).value)] : List AV).getD j1 (.con undef))] : List AV).getD j0 (.con undef))]) := OpensC.slice (default : GRow) Try.underlying22 (by kernel_rfl) (by decide) opensC_103 (fun _ => rfl) (fun l i j _ hj => match j, hj with | 0, _ => rfl | 1, _ => rfl | _ + 2, h => absurd h (by omega))
theorem opensC_24 : OpensC Try.prog 24 (fun x : GHead => [.lst 2 x.rows.length (fun i0 j0 => ([.str ((x.rows.getD i0 (default : GRow)).name), .lst 2 (((x.rows.getD i0 (default : GRow)).samples).length) (fun i1 j1 => ([.int .i64 ((((x.rows.getD i0 (default : GRow)).samples).getD i1 (default : GSample)).at_), .int .i64 ((((x.rows.getD i0 (default : GRow)).samples).getD i1 (default : GSample)).value)] : List AV).getD j1 (.con undef))] : List AV).getD j0 (.con undef)), .int .i64 x.offset]) := fun H eh w fuel cs x h => by
  have hS : Try.prog.underlying 24 = some (.struct (Try.prog.fieldsOf 24)) := by kernel_rfl
  obtain ⟨xs, n, _, rfl, hl, hlen, hf⟩ := DataW.trod_struct hS h
  have hsz : (Try.prog.fieldsOf 24).size = 2 := by kernel_rfl
  have hC : Try.prog.cellsOf 24 = 2 := by kernel_rfl
  rw [hC] at hl
  have t0 : ((Try.prog.fieldsOf 24)[0]?).map (fun f => (f.type, f.offset, Try.prog.cellsOf f.type)) = some (22, 0, 1) := by kernel_rfl
  obtain ⟨f0, j0, y0⟩ := Option.map_eq_some_iff.1 t0
  simp only [Prod.mk.injEq] at y0
  have g0 := hf 0 f0 j0
  rw [y0.2.2, y0.2.1, y0.1, List.getElem?_eq_getElem (by omega)] at g0
  obtain ⟨a0, r0⟩ := opensC_22 H eh w n _ _ g0
  have t1 : ((Try.prog.fieldsOf 24)[1]?).map (fun f => (f.type, f.offset, Try.prog.cellsOf f.type)) = some (3, 1, 1) := by kernel_rfl
  obtain ⟨f1, j1, y1⟩ := Option.map_eq_some_iff.1 t1
  simp only [Prod.mk.injEq] at y1
  have g1 := hf 1 f1 j1
  rw [y1.2.2, y1.2.1, y1.1, List.getElem?_eq_getElem (by omega)] at g1
  obtain ⟨a1, r1⟩ := opensC_3 H eh w n _ _ g1
  have e2 : DL w (· < w.heap.size) [] (cs.drop 2) := List.drop_of_length_le (by omega)
  have e1 := DL.part (o := 1) (s := 1) r1 e2
  have e0 := DL.part (o := 0) (s := 1) r0 e1
  exact ⟨⟨a0, a1⟩, e0⟩
theorem opensC_44 : OpensC Try.prog 44 (fun x : GSay => [.str x.name, .int .i64 x.at_, .int .i64 x.value]) := fun H eh w fuel cs x h => by
  have hS : Try.prog.underlying 44 = some (.struct (Try.prog.fieldsOf 44)) := by kernel_rfl
  obtain ⟨xs, n, _, rfl, hl, hlen, hf⟩ := DataW.trod_struct hS h
  have hsz : (Try.prog.fieldsOf 44).size = 3 := by kernel_rfl
  have hC : Try.prog.cellsOf 44 = 3 := by kernel_rfl
  rw [hC] at hl
  have t0 : ((Try.prog.fieldsOf 44)[0]?).map (fun f => (f.type, f.offset, Try.prog.cellsOf f.type)) = some (9, 0, 1) := by kernel_rfl
  obtain ⟨f0, j0, y0⟩ := Option.map_eq_some_iff.1 t0
  simp only [Prod.mk.injEq] at y0
  have g0 := hf 0 f0 j0
  rw [y0.2.2, y0.2.1, y0.1, List.getElem?_eq_getElem (by omega)] at g0
  obtain ⟨a0, r0⟩ := opensC_9 H eh w n _ _ g0
  have t1 : ((Try.prog.fieldsOf 44)[1]?).map (fun f => (f.type, f.offset, Try.prog.cellsOf f.type)) = some (3, 1, 1) := by kernel_rfl
  obtain ⟨f1, j1, y1⟩ := Option.map_eq_some_iff.1 t1
  simp only [Prod.mk.injEq] at y1
  have g1 := hf 1 f1 j1
  rw [y1.2.2, y1.2.1, y1.1, List.getElem?_eq_getElem (by omega)] at g1
  obtain ⟨a1, r1⟩ := opensC_3 H eh w n _ _ g1
  have t2 : ((Try.prog.fieldsOf 44)[2]?).map (fun f => (f.type, f.offset, Try.prog.cellsOf f.type)) = some (3, 2, 1) := by kernel_rfl
  obtain ⟨f2, j2, y2⟩ := Option.map_eq_some_iff.1 t2
  simp only [Prod.mk.injEq] at y2
  have g2 := hf 2 f2 j2
  rw [y2.2.2, y2.2.1, y2.1, List.getElem?_eq_getElem (by omega)] at g2
  obtain ⟨a2, r2⟩ := opensC_3 H eh w n _ _ g2
  have e3 : DL w (· < w.heap.size) [] (cs.drop 3) := List.drop_of_length_le (by omega)
  have e2 := DL.part (o := 2) (s := 1) r2 e3
  have e1 := DL.part (o := 1) (s := 1) r1 e2
  have e0 := DL.part (o := 0) (s := 1) r0 e1
  exact ⟨⟨a0, a1, a2⟩, e0⟩

theorem law_TakeSay (x0 : GHead) (x1 : GSay) : Fn Try.prog 6 [.agg [.lst 2 x0.rows.length (fun i0 j0 => ([.str ((x0.rows.getD i0 (default : GRow)).name), .lst 2 (((x0.rows.getD i0 (default : GRow)).samples).length) (fun i1 j1 => ([.int .i64 ((((x0.rows.getD i0 (default : GRow)).samples).getD i1 (default : GSample)).at_), .int .i64 ((((x0.rows.getD i0 (default : GRow)).samples).getD i1 (default : GSample)).value)] : List AV).getD j1 (.con undef))] : List AV).getD j0 (.con undef)), .int .i64 x0.offset], .agg [.str x1.name, .int .i64 x1.at_, .int .i64 x1.value]] (.one (.bool true)) := by
  have hct0 := head_cnt x0
  have hcnt := takeV_cnt x0 x1
  refine Fn.of_body (fn := Try.f6) Try.func6 rfl (Nat.le_of_ble_eq_true rfl) trivial ?_
  intro w0
  show AW _ 130 _ _ _ _
  refine AW.seq ?_
  refine AW.region ?_
  refine ARun.box (id := 0) rfl (.tmp rfl) (SV.cells_of (by exact ⟨trivial, trivial, trivial⟩)) ⟨rfl, (by repeat first | exact trivial | refine ⟨by decide, by first | rfl | exact trivial | (intro i j; first | rfl | exact getD_no rfl | (dsimp only; split <;> first | rfl | exact getD_no rfl) | exact scl_no (by apply_assumption) _), ?_⟩)⟩ rfl rfl rfl (Nat.le_of_ble_eq_true rfl) ?_
  refine ARun.box (id := 1) rfl (.tmp rfl) (SV.cells_of (by exact ⟨trivial, trivial, trivial, trivial⟩)) ⟨rfl, (by repeat first | exact trivial | refine ⟨by decide, by first | rfl | exact trivial | (intro i j; first | rfl | exact getD_no rfl | (dsimp only; split <;> first | rfl | exact getD_no rfl) | exact scl_no (by apply_assumption) _), ?_⟩)⟩ rfl rfl rfl (Nat.le_of_ble_eq_true rfl) ?_
  refine ARun.pure (PureOp.assign rfl .bool) rfl rfl (Nat.le_of_ble_eq_true rfl) ?_
  refine ARun.nil ?_
  refine AW.seq ?_
  refine AW.region ?_
  refine ARun.pure (PureOp.assign rfl .int) rfl rfl (Nat.le_of_ble_eq_true rfl) ?_
  refine ARun.nil ?_
  refine AW.seq ?_
  refine AW.region ?_
  refine ARun.pure (PureOp.loadPtrAgg rfl (.tmp rfl) vtl_ag_24_2 rfl rfl (Nat.le_of_ble_eq_true rfl) (Nat.le_of_ble_eq_true rfl)) rfl rfl (Nat.le_of_ble_eq_true rfl) ?_
  refine ARun.pure (PureOp.move rfl (.tmp rfl)) rfl rfl (Nat.le_of_ble_eq_true rfl) ?_
  refine ARun.pure (PureOp.call rfl (v_szHead x0 1048576 (by first | omega | (unfold szR at *; split at * <;> omega))) ⟨⟨_, (.tmp rfl), ⟨.lst, .int, trivial⟩⟩, ⟨_, (.tmp rfl), .int⟩, trivial⟩ vtl_ca_9 trivial) rfl rfl (Nat.le_of_ble_eq_true rfl) ?_
  refine ARun.pure (PureOp.assign rfl (.tmp rfl)) rfl rfl (Nat.le_of_ble_eq_true rfl) ?_
  refine ARun.nil ?_
  refine AW.seq ?_
  refine AW.seq ?_
  refine AW.region ?_
  refine ARun.pure (PureOp.move rfl (.tmp rfl)) rfl rfl (Nat.le_of_ble_eq_true rfl) ?_
  refine ARun.pure (PureOp.intOp rfl (.tmp rfl) .int rfl) rfl rfl (Nat.le_of_ble_eq_true rfl) ?_
  refine ARun.nil ?_
  refine AW.cond (.tmp rfl) (fun hb1 => ?_) (fun hb1 => ?_)
  · have _u := True.intro
    replace hb1 := of_decide_eq_true hb1
    refine AW.seq ?_
    refine AW.region ?_
    refine ARun.pure (PureOp.assign rfl .bool) rfl rfl (Nat.le_of_ble_eq_true rfl) ?_
    refine ARun.nil ?_
    refine AW.ret (show ResL _ _ [.tmp 4] _ from resB rfl ?_)
    rfl
  · have _u := True.intro
    replace hb1 := of_decide_eq_false hb1
    obtain ⟨hs2, hs2b, hs2c⟩ := szR_ok (by omega) hb1
    refine AW.skip ?_
    refine AW.seq ?_
    refine AW.region ?_
    refine ARun.pure (PureOp.loadPtrAgg rfl (.tmp rfl) vtl_ag_44_3 rfl rfl (Nat.le_of_ble_eq_true rfl) (Nat.le_of_ble_eq_true rfl)) rfl rfl (Nat.le_of_ble_eq_true rfl) ?_
    refine ARun.pure (PureOp.move rfl (.tmp rfl)) rfl rfl (Nat.le_of_ble_eq_true rfl) ?_
    refine ARun.pure (PureOp.call rfl (v_szSay x1 (szR 1048576 (wtHead x0)) (by first | omega | (unfold szR at *; split at * <;> omega))) ⟨⟨_, (.tmp rfl), ⟨.str, .int, .int, trivial⟩⟩, ⟨_, (.tmp rfl), .int⟩, trivial⟩ vtl_ca_23 trivial) rfl rfl (Nat.le_of_ble_eq_true rfl) ?_
    refine ARun.pure (PureOp.assign rfl (.tmp rfl)) rfl rfl (Nat.le_of_ble_eq_true rfl) ?_
    refine ARun.nil ?_
    refine AW.seq ?_
    refine AW.seq ?_
    refine AW.region ?_
    refine ARun.pure (PureOp.move rfl (.tmp rfl)) rfl rfl (Nat.le_of_ble_eq_true rfl) ?_
    refine ARun.pure (PureOp.intOp rfl (.tmp rfl) .int rfl) rfl rfl (Nat.le_of_ble_eq_true rfl) ?_
    refine ARun.nil ?_
    refine AW.cond (.tmp rfl) (fun hb3 => ?_) (fun hb3 => ?_)
    · have _u := True.intro
      replace hb3 := of_decide_eq_true hb3
      refine AW.seq ?_
      refine AW.region ?_
      refine ARun.pure (PureOp.assign rfl .bool) rfl rfl (Nat.le_of_ble_eq_true rfl) ?_
      refine ARun.nil ?_
      refine AW.ret (show ResL _ _ [.tmp 4] _ from resB rfl ?_)
      rfl
    · have _u := True.intro
      replace hb3 := of_decide_eq_false hb3
      obtain ⟨hs4, hs4b, hs4c⟩ := szR_ok (by omega) hb3
      refine AW.skip ?_
      refine AW.seq ?_
      refine AW.anyX [⟨[0], [], [], []⟩, ⟨[], [], [], []⟩, ⟨[1], [], [], []⟩, ⟨[], [], [], []⟩, ⟨[], [], [], []⟩, ⟨[], [], [], []⟩, ⟨[], [], [], []⟩, ⟨[], [], [], []⟩, ⟨[], [], [], []⟩, ⟨[], [2], [2], [(2, .cells [.con (.slice none 0 0), .int .i64 0])]⟩, ⟨[], [2], [], [(2, .cells [.frs (.lst 2 ((((takeV x0 x1).1).rows).length) (fun i0 j0 => ([.str (((((takeV x0 x1).1).rows).getD i0 (default : GRow)).name), .lst 2 ((((((takeV x0 x1).1).rows).getD i0 (default : GRow)).samples).length) (fun i1 j1 => ([.int .i64 (((((((takeV x0 x1).1).rows).getD i0 (default : GRow)).samples).getD i1 (default : GSample)).at_), .int .i64 (((((((takeV x0 x1).1).rows).getD i0 (default : GRow)).samples).getD i1 (default : GSample)).value)] : List AV).getD j1 (.con undef))] : List AV).getD j0 (.con undef))), .int .i64 (((takeV x0 x1).1).offset)])]⟩, ⟨[], [], [], []⟩, ⟨[], [], [], []⟩] (by kernel_rfl) (by kernel_rfl) (by kernel_rfl) ⟨⟨.inl rfl, .inr (.inr trivial), .inr (.inr trivial), .inr (.inr trivial), .inr (.inr trivial), .inr (.inr trivial), .inr (.inr trivial), .inr (.inr trivial), .inr (.inr trivial), .inr (.inr (by repeat first | exact trivial | refine And.intro ?_ ?_ | exact rfl | (intro i j; first | rfl | exact getD_no rfl | (dsimp only; split <;> first | rfl | exact getD_no rfl) | exact scl_no (by apply_assumption) _))), .inr (.inr trivial), .inr (.inr trivial), .inr (.inr trivial), trivial⟩, ⟨.inr (.inr trivial), .inl rfl, .inr (.inr trivial), .inr (.inr trivial), .inr (.inr trivial), .inr (.inr trivial), .inr (.inr trivial), .inr (.inr trivial), .inr (.inr trivial), .inr (.inr (by repeat first | exact trivial | refine And.intro ?_ ?_ | exact rfl | (intro i j; first | rfl | exact getD_no rfl | (dsimp only; split <;> first | rfl | exact getD_no rfl) | exact scl_no (by apply_assumption) _))), .inr (.inr trivial), .inr (.inr trivial), .inr (.inr trivial), trivial⟩, ⟨.inr (.inr trivial), .inr (.inr trivial), .inl rfl, .inr (.inr trivial), .inr (.inr trivial), .inr (.inr trivial), .inr (.inr trivial), .inr (.inr trivial), .inr (.inr trivial), .inr (.inr (by repeat first | exact trivial | refine And.intro ?_ ?_ | exact rfl | (intro i j; first | rfl | exact getD_no rfl | (dsimp only; split <;> first | rfl | exact getD_no rfl) | exact scl_no (by apply_assumption) _))), .inr (.inr trivial), .inr (.inr trivial), .inr (.inr trivial), trivial⟩, ⟨.inr (.inr trivial), .inr (.inr trivial), .inr (.inr trivial), .inl rfl, .inr (.inr trivial), .inr (.inr trivial), .inr (.inr trivial), .inr (.inr trivial), .inr (.inr trivial), .inr (.inr (by repeat first | exact trivial | refine And.intro ?_ ?_ | exact rfl | (intro i j; first | rfl | exact getD_no rfl | (dsimp only; split <;> first | rfl | exact getD_no rfl) | exact scl_no (by apply_assumption) _))), .inr (.inr trivial), .inr (.inr trivial), .inr (.inr trivial), trivial⟩, ⟨.inr (.inr trivial), .inr (.inr trivial), .inr (.inr trivial), .inr (.inr trivial), .inl rfl, .inr (.inr trivial), .inr (.inr trivial), .inr (.inr trivial), .inr (.inr trivial), .inr (.inr (by repeat first | exact trivial | refine And.intro ?_ ?_ | exact rfl | (intro i j; first | rfl | exact getD_no rfl | (dsimp only; split <;> first | rfl | exact getD_no rfl) | exact scl_no (by apply_assumption) _))), .inr (.inr trivial), .inr (.inr trivial), .inr (.inr trivial), trivial⟩, ⟨.inr (.inr trivial), .inr (.inr trivial), .inr (.inr trivial), .inr (.inr trivial), .inr (.inr trivial), .inl rfl, .inr (.inr trivial), .inr (.inr trivial), .inr (.inr trivial), .inr (.inr (by repeat first | exact trivial | refine And.intro ?_ ?_ | exact rfl | (intro i j; first | rfl | exact getD_no rfl | (dsimp only; split <;> first | rfl | exact getD_no rfl) | exact scl_no (by apply_assumption) _))), .inr (.inr trivial), .inr (.inr trivial), .inr (.inr trivial), trivial⟩, ⟨.inr (.inr trivial), .inr (.inr trivial), .inr (.inr trivial), .inr (.inr trivial), .inr (.inr trivial), .inr (.inr trivial), .inl rfl, .inr (.inr trivial), .inr (.inr trivial), .inr (.inr (by repeat first | exact trivial | refine And.intro ?_ ?_ | exact rfl | (intro i j; first | rfl | exact getD_no rfl | (dsimp only; split <;> first | rfl | exact getD_no rfl) | exact scl_no (by apply_assumption) _))), .inr (.inr trivial), .inr (.inr trivial), .inr (.inr trivial), trivial⟩, ⟨.inr (.inr trivial), .inr (.inr trivial), .inr (.inr trivial), .inr (.inr trivial), .inr (.inr trivial), .inr (.inr trivial), .inr (.inr trivial), .inl rfl, .inr (.inr trivial), .inr (.inr (by repeat first | exact trivial | refine And.intro ?_ ?_ | exact rfl | (intro i j; first | rfl | exact getD_no rfl | (dsimp only; split <;> first | rfl | exact getD_no rfl) | exact scl_no (by apply_assumption) _))), .inr (.inr trivial), .inr (.inr trivial), .inr (.inr trivial), trivial⟩, ⟨.inr (.inr trivial), .inr (.inr trivial), .inr (.inr trivial), .inr (.inr trivial), .inr (.inr trivial), .inr (.inr trivial), .inr (.inr trivial), .inr (.inr trivial), .inl rfl, .inr (.inr (by repeat first | exact trivial | refine And.intro ?_ ?_ | exact rfl | (intro i j; first | rfl | exact getD_no rfl | (dsimp only; split <;> first | rfl | exact getD_no rfl) | exact scl_no (by apply_assumption) _))), .inr (.inr trivial), .inr (.inr trivial), .inr (.inr trivial), trivial⟩, ⟨.inr (.inr trivial), .inr (.inr trivial), .inr (.inr trivial), .inr (.inr trivial), .inr (.inr trivial), .inr (.inr trivial), .inr (.inr trivial), .inr (.inr trivial), .inr (.inr trivial), .inl rfl, .inr (.inr trivial), .inr (.inr trivial), .inr (.inr trivial), trivial⟩, ⟨.inr (.inr trivial), .inr (.inr trivial), .inr (.inr trivial), .inr (.inr trivial), .inr (.inr trivial), .inr (.inr trivial), .inr (.inr trivial), .inr (.inr trivial), .inr (.inr trivial), .inr (.inl (by kernel_rfl)), .inl rfl, .inr (.inr trivial), .inr (.inr trivial), trivial⟩, ⟨.inr (.inr trivial), .inr (.inr trivial), .inr (.inr trivial), .inr (.inr trivial), .inr (.inr trivial), .inr (.inr trivial), .inr (.inr trivial), .inr (.inr trivial), .inr (.inr trivial), .inr (.inl (by kernel_rfl)), .inr (.inr trivial), .inl rfl, .inr (.inr trivial), trivial⟩, ⟨.inr (.inr trivial), .inr (.inr trivial), .inr (.inr trivial), .inr (.inr trivial), .inr (.inr trivial), .inr (.inr trivial), .inr (.inr trivial), .inr (.inr trivial), .inr (.inr trivial), .inr (.inl (by kernel_rfl)), .inr (.inr trivial), .inr (.inr trivial), .inl rfl, trivial⟩, trivial⟩ ⟨trivial, trivial, trivial, trivial, trivial, trivial, trivial, trivial, trivial, ⟨(by repeat first | exact trivial | refine ⟨by decide, by first | rfl | exact trivial | (intro i j; first | rfl | exact getD_no rfl | (dsimp only; split <;> first | rfl | exact getD_no rfl) | exact scl_no (by apply_assumption) _), ?_⟩), trivial⟩, trivial, trivial, trivial, trivial⟩ ?_
      refine ADX.pure [(0, .cells [.lst 2 x0.rows.length (fun i0 j0 => ([.str ((x0.rows.getD i0 (default : GRow)).name), .lst 2 (((x0.rows.getD i0 (default : GRow)).samples).length) (fun i1 j1 => ([.int .i64 ((((x0.rows.getD i0 (default : GRow)).samples).getD i1 (default : GSample)).at_), .int .i64 ((((x0.rows.getD i0 (default : GRow)).samples).getD i1 (default : GSample)).value)] : List AV).getD j1 (.con undef))] : List AV).getD j0 (.con undef)), .int .i64 x0.offset])] (PureOp.loadPtrAgg rfl (.tmp rfl) vtl_ag_24_2 rfl rfl (Nat.le_of_ble_eq_true rfl) (Nat.le_of_ble_eq_true rfl)) rfl rfl (Nat.le_of_ble_eq_true rfl) ⟨rfl, trivial⟩ rfl ?_
      refine ADX.fresh [] (FreshOp.callS rfl (FnT.toF (v_toHead x0 (Small.mk (by omega)))) ⟨⟨_, (.tmp rfl), ⟨.lst, .int, trivial⟩⟩, trivial⟩ vtl_ca_11 rfl) rfl rfl (Nat.le_of_ble_eq_true rfl) trivial rfl ?_
      refine ADX.pure [(1, .cells [.str x1.name, .int .i64 x1.at_, .int .i64 x1.value])] (PureOp.loadPtrAgg rfl (.tmp rfl) vtl_ag_44_3 rfl rfl (Nat.le_of_ble_eq_true rfl) (Nat.le_of_ble_eq_true rfl)) rfl rfl (Nat.le_of_ble_eq_true rfl) ⟨rfl, trivial⟩ rfl ?_
      refine ADX.fresh [] (FreshOp.callS rfl (v_toSay x1 (Small.mk (by omega))) ⟨⟨_, (.tmp rfl), ⟨.str, .int, .int, trivial⟩⟩, trivial⟩ vtl_ca_25 rfl) rfl rfl (Nat.le_of_ble_eq_true rfl) trivial rfl ?_
      refine ADX.fresh [] (FreshOp.callS rfl (FnT.toF (v_sTakeSay x0 x1)) ⟨⟨_, (.tmp rfl), ⟨.frs, .int, trivial⟩⟩, ⟨_, (.tmp rfl), ⟨.str, .int, .int, trivial⟩⟩, trivial⟩ vtl_ca_24 rfl) rfl rfl (Nat.le_of_ble_eq_true rfl) trivial rfl ?_
      refine ADX.pure [] (PureOp.move rfl (.tmp rfl)) rfl rfl (Nat.le_of_ble_eq_true rfl) trivial rfl ?_
      refine ADX.pure [] (PureOp.ext3a rfl (.tmp rfl)) rfl rfl (Nat.le_of_ble_eq_true rfl) trivial rfl ?_
      refine ADX.pure [] (PureOp.ext3b rfl (.tmp rfl)) rfl rfl (Nat.le_of_ble_eq_true rfl) trivial rfl ?_
      refine ADX.pure [] (PureOp.ext3c rfl (.tmp rfl)) rfl rfl (Nat.le_of_ble_eq_true rfl) trivial rfl ?_
      refine ADX.eff (tk := [2]) (new := [2]) (s := .one (.ptr 2 2 0 0)) (F := [(6, .one (.ptr 2 2 0 0))]) (Hin := []) (Hout := [(2, .cells [.con (.slice none 0 0), .int .i64 0])]) (fun E X hE hX Q rest hk => ?_) trivial ⟨rfl, rfl⟩ rfl rfl rfl rfl ⟨(by repeat first | exact trivial | refine ⟨by decide, by first | rfl | exact trivial | (intro i j; first | rfl | exact getD_no rfl | (dsimp only; split <;> first | rfl | exact getD_no rfl) | exact scl_no (by apply_assumption) _), ?_⟩), trivial⟩ rfl (fun _ e => by cases e; exact Nat.le_of_ble_eq_true rfl) ?_
      · refine ARun.alloc (id := 2) (l := [.con (.slice none 0 0), .int .i64 0]) (z := (.agg #[.slice none 0 0, .int .i64 0])) rfl (by kernel_rfl) (fun _ _ _ => ⟨_, _, rfl, rfl, ⟨_, _, rfl, rfl, rfl⟩⟩) (Fr.ext2 ⟨rfl, (by repeat first | exact trivial | refine ⟨by decide, by first | rfl | exact trivial | (intro i j; first | rfl | exact getD_no rfl | (dsimp only; split <;> first | rfl | exact getD_no rfl) | exact scl_no (by apply_assumption) _), ?_⟩)⟩ hE hX rfl rfl) rfl rfl rfl (Nat.le_of_ble_eq_true rfl) ?_
        refine ARun.hleX ?_ ?_ hk
        · exact HeapLe.one rfl trivial
        · repeat (first | exact LkX.refl | refine LkX.cons (hX.none rfl) ?_ | refine LkX.filter (hX.none rfl) ?_)
      refine ADX.eff (tk := [2]) (new := []) (s := .one (.con undef)) (F := []) (Hin := [(2, .cells [.con (.slice none 0 0), .int .i64 0])]) (Hout := [(2, .cells [.frs (.lst 2 ((((takeV x0 x1).1).rows).length) (fun i0 j0 => ([.str (((((takeV x0 x1).1).rows).getD i0 (default : GRow)).name), .lst 2 ((((((takeV x0 x1).1).rows).getD i0 (default : GRow)).samples).length) (fun i1 j1 => ([.int .i64 (((((((takeV x0 x1).1).rows).getD i0 (default : GRow)).samples).getD i1 (default : GSample)).at_), .int .i64 (((((((takeV x0 x1).1).rows).getD i0 (default : GRow)).samples).getD i1 (default : GSample)).value)] : List AV).getD j1 (.con undef))] : List AV).getD j0 (.con undef))), .int .i64 (((takeV x0 x1).1).offset)])]) (fun E X hE hX Q rest hk => ?_) ⟨rfl, trivial⟩ ⟨rfl, rfl⟩ rfl rfl rfl rfl trivial rfl (fun _ e => by cases e) ?_
      · refine ARun.store rfl (.tmp rfl) (.tmp rfl) (SV.cells_of (by exact ⟨trivial, trivial, trivial⟩)) rfl (Nat.le_of_ble_eq_true rfl) vtl_sz_29_2 rfl rfl ?_
        refine ARun.hleX ?_ ?_ hk
        · exact HeapLe.one rfl trivial
        · repeat (first | exact LkX.refl | refine LkX.cons (hX.none rfl) ?_ | refine LkX.filter (hX.none rfl) ?_)
      refine ADX.pure [] (PureOp.assign rfl (.tmp rfl)) rfl rfl (Nat.le_of_ble_eq_true rfl) trivial rfl ?_
      refine ADX.pure [] (PureOp.assign rfl (.tmp rfl)) rfl rfl (Nat.le_of_ble_eq_true rfl) trivial rfl ?_
      refine ADX.nil (H := [(0, .cells [.lst 2 x0.rows.length (fun i0 j0 => ([.str ((x0.rows.getD i0 (default : GRow)).name), .lst 2 (((x0.rows.getD i0 (default : GRow)).samples).length) (fun i1 j1 => ([.int .i64 ((((x0.rows.getD i0 (default : GRow)).samples).getD i1 (default : GSample)).at_), .int .i64 ((((x0.rows.getD i0 (default : GRow)).samples).getD i1 (default : GSample)).value)] : List AV).getD j1 (.con undef))] : List AV).getD j0 (.con undef)), .int .i64 x0.offset]), (1, .cells [.str x1.name, .int .i64 x1.at_, .int .i64 x1.value]), (2, .cells [.frs (.lst 2 ((((takeV x0 x1).1).rows).length) (fun i0 j0 => ([.str (((((takeV x0 x1).1).rows).getD i0 (default : GRow)).name), .lst 2 ((((((takeV x0 x1).1).rows).getD i0 (default : GRow)).samples).length) (fun i1 j1 => ([.int .i64 (((((((takeV x0 x1).1).rows).getD i0 (default : GRow)).samples).getD i1 (default : GSample)).at_), .int .i64 (((((((takeV x0 x1).1).rows).getD i0 (default : GRow)).samples).getD i1 (default : GSample)).value)] : List AV).getD j1 (.con undef))] : List AV).getD j0 (.con undef))), .int .i64 (((takeV x0 x1).1).offset)])]) ?_ ?_
      · exact HeapLe.one rfl (HeapLe.one rfl (HeapLe.one rfl trivial))
      refine AW.seq ?_
      refine AW.region ?_
      refine ARun.pure (PureOp.loadPtrAgg rfl (.tmp rfl) vtl_ag_24_2 rfl rfl (Nat.le_of_ble_eq_true rfl) (Nat.le_of_ble_eq_true rfl)) rfl rfl (Nat.le_of_ble_eq_true rfl) ?_
      refine ARun.prod (K := 3) rfl (v_toHead x0 (Small.mk (by omega))) ⟨rfl, (by repeat first | exact trivial | refine ⟨by decide, by first | rfl | exact trivial | (intro i j; first | rfl | exact getD_no rfl | (dsimp only; split <;> first | rfl | exact getD_no rfl) | exact scl_no (by apply_assumption) _), ?_⟩)⟩ ⟨⟨_, (.tmp rfl), ⟨.lst, .int, trivial⟩⟩, trivial⟩ vtl_ca_11 rfl rfl rfl rfl rfl (Nat.le_of_ble_eq_true rfl) ?_
      refine ARun.alloc (id := 4) (l := [.con (.slice none 0 0), .int .i64 0]) (z := (.agg #[.slice none 0 0, .int .i64 0])) rfl (by kernel_rfl) (fun _ _ _ => ⟨_, _, rfl, rfl, ⟨_, _, rfl, rfl, rfl⟩⟩) ⟨rfl, (by repeat first | exact trivial | refine ⟨by decide, by first | rfl | exact trivial | (intro i j; first | rfl | exact getD_no rfl | (dsimp only; split <;> first | rfl | exact getD_no rfl) | exact scl_no (by apply_assumption) _), ?_⟩)⟩ rfl rfl rfl (Nat.le_of_ble_eq_true rfl) ?_
      refine ARun.store rfl (.tmp rfl) (.tmp rfl) (SV.cells_of (by exact ⟨trivial, trivial, trivial⟩)) rfl (Nat.le_of_ble_eq_true rfl) vtl_sz_29_2 rfl rfl ?_
      refine ARun.nil ?_
      refine AW.seq ?_
      refine AW.anyX [⟨[4], [], [], []⟩, ⟨[1], [], [], []⟩, ⟨[], [], [], []⟩, ⟨[], [3, 5], [5], [(3, .trees 2 (fun p => ([.lst 2 x0.rows.length (fun i0 j0 => ([.str ((x0.rows.getD i0 (default : GRow)).name), .lst 2 (((x0.rows.getD i0 (default : GRow)).samples).length) (fun i1 j1 => ([.int .i64 ((((x0.rows.getD i0 (default : GRow)).samples).getD i1 (default : GSample)).at_), .int .i64 ((((x0.rows.getD i0 (default : GRow)).samples).getD i1 (default : GSample)).value)] : List AV).getD j1 (.con undef))] : List AV).getD j0 (.con undef)), .int .i64 x0.offset] : List AV).getD p (.con undef))), (5, .trees 4 (fun p => ([.lst 2 ((((takeV x0 x1).1).rows).length) (fun i0 j0 => ([.str (((((takeV x0 x1).1).rows).getD i0 (default : GRow)).name), .lst 2 ((((((takeV x0 x1).1).rows).getD i0 (default : GRow)).samples).length) (fun i1 j1 => ([.int .i64 (((((((takeV x0 x1).1).rows).getD i0 (default : GRow)).samples).getD i1 (default : GSample)).at_), .int .i64 (((((((takeV x0 x1).1).rows).getD i0 (default : GRow)).samples).getD i1 (default : GSample)).value)] : List AV).getD j1 (.con undef))] : List AV).getD j0 (.con undef)), .int .i64 (((takeV x0 x1).1).offset), .int .i64 (((takeV x0 x1).2.1 : Nat) : Int), .bool ((takeV x0 x1).2.2)] : List AV).getD p (.con undef)))]⟩, ⟨[], [], [], []⟩, ⟨[], [], [], []⟩, ⟨[], [], [], []⟩, ⟨[], [], [], []⟩, ⟨[], [6], [6], [(6, .cells [.con (.slice none 0 0), .int .i64 0])]⟩, ⟨[], [6], [], [(6, .cells [.tre 5 0, .int .i64 (((takeV x0 x1).1).offset)])]⟩, ⟨[], [], [], []⟩, ⟨[], [], [], []⟩] (by kernel_rfl) (by kernel_rfl) (by kernel_rfl) ⟨⟨.inl rfl, .inr (.inr trivial), .inr (.inr trivial), .inr (.inr (by repeat first | exact trivial | refine And.intro ?_ ?_ | exact rfl | (intro i j; first | rfl | exact getD_no rfl | (dsimp only; split <;> first | rfl | exact getD_no rfl) | exact scl_no (by apply_assumption) _))), .inr (.inr trivial), .inr (.inr trivial), .inr (.inr trivial), .inr (.inr trivial), .inr (.inr (by repeat first | exact trivial | refine And.intro ?_ ?_ | exact rfl | (intro i j; first | rfl | exact getD_no rfl | (dsimp only; split <;> first | rfl | exact getD_no rfl) | exact scl_no (by apply_assumption) _))), .inr (.inr trivial), .inr (.inr trivial), .inr (.inr trivial), trivial⟩, ⟨.inr (.inr trivial), .inl rfl, .inr (.inr trivial), .inr (.inr (by repeat first | exact trivial | refine And.intro ?_ ?_ | exact rfl | (intro i j; first | rfl | exact getD_no rfl | (dsimp only; split <;> first | rfl | exact getD_no rfl) | exact scl_no (by apply_assumption) _))), .inr (.inr trivial), .inr (.inr trivial), .inr (.inr trivial), .inr (.inr trivial), .inr (.inr (by repeat first | exact trivial | refine And.intro ?_ ?_ | exact rfl | (intro i j; first | rfl | exact getD_no rfl | (dsimp only; split <;> first | rfl | exact getD_no rfl) | exact scl_no (by apply_assumption) _))), .inr (.inr trivial), .inr (.inr trivial), .inr (.inr trivial), trivial⟩, ⟨.inr (.inr trivial), .inr (.inr trivial), .inl rfl, .inr (.inr (by repeat first | exact trivial | refine And.intro ?_ ?_ | exact rfl | (intro i j; first | rfl | exact getD_no rfl | (dsimp only; split <;> first | rfl | exact getD_no rfl) | exact scl_no (by apply_assumption) _))), .inr (.inr trivial), .inr (.inr trivial), .inr (.inr trivial), .inr (.inr trivial), .inr (.inr (by repeat first | exact trivial | refine And.intro ?_ ?_ | exact rfl | (intro i j; first | rfl | exact getD_no rfl | (dsimp only; split <;> first | rfl | exact getD_no rfl) | exact scl_no (by apply_assumption) _))), .inr (.inr trivial), .inr (.inr trivial), .inr (.inr trivial), trivial⟩, ⟨.inr (.inr trivial), .inr (.inr trivial), .inr (.inr trivial), .inl rfl, .inr (.inr trivial), .inr (.inr trivial), .inr (.inr trivial), .inr (.inr trivial), .inr (.inr (by repeat first | exact trivial | refine And.intro ?_ ?_ | exact rfl | (intro i j; first | rfl | exact getD_no rfl | (dsimp only; split <;> first | rfl | exact getD_no rfl) | exact scl_no (by apply_assumption) _))), .inr (.inr trivial), .inr (.inr trivial), .inr (.inr trivial), trivial⟩, ⟨.inr (.inr trivial), .inr (.inr trivial), .inr (.inr trivial), .inr (.inl (by kernel_rfl)), .inl rfl, .inr (.inr trivial), .inr (.inr trivial), .inr (.inr trivial), .inr (.inr (by repeat first | exact trivial | refine And.intro ?_ ?_ | exact rfl | (intro i j; first | rfl | exact getD_no rfl | (dsimp only; split <;> first | rfl | exact getD_no rfl) | exact scl_no (by apply_assumption) _))), .inr (.inr trivial), .inr (.inr trivial), .inr (.inr trivial), trivial⟩, ⟨.inr (.inr trivial), .inr (.inr trivial), .inr (.inr trivial), .inr (.inl (by kernel_rfl)), .inr (.inr trivial), .inl rfl, .inr (.inr trivial), .inr (.inr trivial), .inr (.inr (by repeat first | exact trivial | refine And.intro ?_ ?_ | exact rfl | (intro i j; first | rfl | exact getD_no rfl | (dsimp only; split <;> first | rfl | exact getD_no rfl) | exact scl_no (by apply_assumption) _))), .inr (.inr trivial), .inr (.inr trivial), .inr (.inr trivial), trivial⟩, ⟨.inr (.inr trivial), .inr (.inr trivial), .inr (.inr trivial), .inr (.inl (by kernel_rfl)), .inr (.inr trivial), .inr (.inr trivial), .inl rfl, .inr (.inr trivial), .inr (.inr (by repeat first | exact trivial | refine And.intro ?_ ?_ | exact rfl | (intro i j; first | rfl | exact getD_no rfl | (dsimp only; split <;> first | rfl | exact getD_no rfl) | exact scl_no (by apply_assumption) _))), .inr (.inr trivial), .inr (.inr trivial), .inr (.inr trivial), trivial⟩, ⟨.inr (.inr trivial), .inr (.inr trivial), .inr (.inr trivial), .inr (.inl (by kernel_rfl)), .inr (.inr trivial), .inr (.inr trivial), .inr (.inr trivial), .inl rfl, .inr (.inr (by repeat first | exact trivial | refine And.intro ?_ ?_ | exact rfl | (intro i j; first | rfl | exact getD_no rfl | (dsimp only; split <;> first | rfl | exact getD_no rfl) | exact scl_no (by apply_assumption) _))), .inr (.inr trivial), .inr (.inr trivial), .inr (.inr trivial), trivial⟩, ⟨.inr (.inr trivial), .inr (.inr trivial), .inr (.inr trivial), .inr (.inr (by repeat first | exact trivial | refine And.intro ?_ ?_ | exact rfl | (intro i j; first | rfl | exact getD_no rfl | (dsimp only; split <;> first | rfl | exact getD_no rfl) | exact scl_no (by apply_assumption) _))), .inr (.inr trivial), .inr (.inr trivial), .inr (.inr trivial), .inr (.inr trivial), .inl rfl, .inr (.inr trivial), .inr (.inr trivial), .inr (.inr trivial), trivial⟩, ⟨.inr (.inr trivial), .inr (.inr trivial), .inr (.inr trivial), .inr (.inl (by kernel_rfl)), .inr (.inr trivial), .inr (.inr trivial), .inr (.inr trivial), .inr (.inr trivial), .inr (.inl (by kernel_rfl)), .inl rfl, .inr (.inr trivial), .inr (.inr trivial), trivial⟩, ⟨.inr (.inr trivial), .inr (.inr trivial), .inr (.inr trivial), .inr (.inl (by kernel_rfl)), .inr (.inr trivial), .inr (.inr trivial), .inr (.inr trivial), .inr (.inr trivial), .inr (.inl (by kernel_rfl)), .inr (.inr trivial), .inl rfl, .inr (.inr trivial), trivial⟩, ⟨.inr (.inr trivial), .inr (.inr trivial), .inr (.inr trivial), .inr (.inl (by kernel_rfl)), .inr (.inr trivial), .inr (.inr trivial), .inr (.inr trivial), .inr (.inr trivial), .inr (.inl (by kernel_rfl)), .inr (.inr trivial), .inr (.inr trivial), .inl rfl, trivial⟩, trivial⟩ ⟨trivial, trivial, trivial, ⟨(by repeat first | exact trivial | refine ⟨by decide, by first | rfl | exact trivial | (intro i j; first | rfl | exact getD_no rfl | (dsimp only; split <;> first | rfl | exact getD_no rfl) | exact scl_no (by apply_assumption) _), ?_⟩), trivial⟩, trivial, trivial, trivial, trivial, ⟨(by repeat first | exact trivial | refine ⟨by decide, by first | rfl | exact trivial | (intro i j; first | rfl | exact getD_no rfl | (dsimp only; split <;> first | rfl | exact getD_no rfl) | exact scl_no (by apply_assumption) _), ?_⟩), trivial⟩, trivial, trivial, trivial, trivial⟩ ?_
      refine ADX.pure [(4, .cells [.tre 3 0, .int .i64 x0.offset])] (PureOp.loadPtrAgg rfl (.tmp rfl) vtl_ag_29_2 rfl rfl (Nat.le_of_ble_eq_true rfl) (Nat.le_of_ble_eq_true rfl)) rfl rfl (Nat.le_of_ble_eq_true rfl) ⟨rfl, trivial⟩ rfl ?_
      refine ADX.pure [(1, .cells [.str x1.name, .int .i64 x1.at_, .int .i64 x1.value])] (PureOp.loadPtrAgg rfl (.tmp rfl) vtl_ag_44_3 rfl rfl (Nat.le_of_ble_eq_true rfl) (Nat.le_of_ble_eq_true rfl)) rfl rfl (Nat.le_of_ble_eq_true rfl) ⟨rfl, trivial⟩ rfl ?_
      refine ADX.fresh [] (FreshOp.callS rfl (v_toSay x1 (Small.mk (by omega))) ⟨⟨_, (.tmp rfl), ⟨.str, .int, .int, trivial⟩⟩, trivial⟩ vtl_ca_25 rfl) rfl rfl (Nat.le_of_ble_eq_true rfl) trivial rfl ?_
      refine ADX.eff (tk := [3, 5]) (new := [5]) (s := .tup3 (.agg [.tre 5 0, .int .i64 (((takeV x0 x1).1).offset)]) (.one (.int .i64 (((takeV x0 x1).2.1 : Nat) : Int))) (.one (.bool ((takeV x0 x1).2.2)))) (F := [(44, .tup3 (.agg [.tre 5 0, .int .i64 (((takeV x0 x1).1).offset)]) (.one (.int .i64 (((takeV x0 x1).2.1 : Nat) : Int))) (.one (.bool ((takeV x0 x1).2.2))))]) (Hin := [(3, .trees 2 (fun p => ([.lst 2 x0.rows.length (fun i0 j0 => ([.str ((x0.rows.getD i0 (default : GRow)).name), .lst 2 (((x0.rows.getD i0 (default : GRow)).samples).length) (fun i1 j1 => ([.int .i64 ((((x0.rows.getD i0 (default : GRow)).samples).getD i1 (default : GSample)).at_), .int .i64 ((((x0.rows.getD i0 (default : GRow)).samples).getD i1 (default : GSample)).value)] : List AV).getD j1 (.con undef))] : List AV).getD j0 (.con undef)), .int .i64 x0.offset] : List AV).getD p (.con undef)))]) (Hout := [(3, .trees 2 (fun p => ([.lst 2 x0.rows.length (fun i0 j0 => ([.str ((x0.rows.getD i0 (default : GRow)).name), .lst 2 (((x0.rows.getD i0 (default : GRow)).samples).length) (fun i1 j1 => ([.int .i64 ((((x0.rows.getD i0 (default : GRow)).samples).getD i1 (default : GSample)).at_), .int .i64 ((((x0.rows.getD i0 (default : GRow)).samples).getD i1 (default : GSample)).value)] : List AV).getD j1 (.con undef))] : List AV).getD j0 (.con undef)), .int .i64 x0.offset] : List AV).getD p (.con undef))), (5, .trees 4 (fun p => ([.lst 2 ((((takeV x0 x1).1).rows).length) (fun i0 j0 => ([.str (((((takeV x0 x1).1).rows).getD i0 (default : GRow)).name), .lst 2 ((((((takeV x0 x1).1).rows).getD i0 (default : GRow)).samples).length) (fun i1 j1 => ([.int .i64 (((((((takeV x0 x1).1).rows).getD i0 (default : GRow)).samples).getD i1 (default : GSample)).at_), .int .i64 (((((((takeV x0 x1).1).rows).getD i0 (default : GRow)).samples).getD i1 (default : GSample)).value)] : List AV).getD j1 (.con undef))] : List AV).getD j0 (.con undef)), .int .i64 (((takeV x0 x1).1).offset), .int .i64 (((takeV x0 x1).2.1 : Nat) : Int), .bool ((takeV x0 x1).2.2)] : List AV).getD p (.con undef)))]) (fun E X hE hX Q rest hk => ?_) ⟨rfl, trivial⟩ ⟨rfl, rfl⟩ rfl rfl rfl rfl ⟨(by repeat first | exact trivial | refine ⟨by decide, by first | rfl | exact trivial | (intro i j; first | rfl | exact getD_no rfl | (dsimp only; split <;> first | rfl | exact getD_no rfl) | exact scl_no (by apply_assumption) _), ?_⟩), trivial⟩ rfl (fun _ e => by cases e; exact Nat.le_of_ble_eq_true rfl) ?_
      · refine ARun.prod (K := 5) rfl (v_iTakeSay x0 x1) (Fr.ext2 ⟨rfl, (by repeat first | exact trivial | refine ⟨by decide, by first | rfl | exact trivial | (intro i j; first | rfl | exact getD_no rfl | (dsimp only; split <;> first | rfl | exact getD_no rfl) | exact scl_no (by apply_assumption) _), ?_⟩)⟩ hE hX rfl rfl) ⟨⟨_, (.tmp rfl), ⟨(Vw.cast (Vw.tre rfl (Nat.le_of_ble_eq_true rfl)) rfl), .int, trivial⟩⟩, ⟨_, (.tmp rfl), ⟨.str, .int, .int, trivial⟩⟩, trivial⟩ vtl_ca_26 rfl rfl rfl rfl rfl (Nat.le_of_ble_eq_true rfl) ?_
        refine ARun.hleX ?_ ?_ hk
        · exact HeapLe.one rfl (HeapLe.one rfl trivial)
        · repeat (first | exact LkX.refl | refine LkX.cons (hX.none rfl) ?_ | refine LkX.filter (hX.none rfl) ?_)
      refine ADX.pure [] (PureOp.move rfl (.tmp rfl)) rfl rfl (Nat.le_of_ble_eq_true rfl) trivial rfl ?_
      refine ADX.pure [] (PureOp.ext3a rfl (.tmp rfl)) rfl rfl (Nat.le_of_ble_eq_true rfl) trivial rfl ?_
      refine ADX.pure [] (PureOp.ext3b rfl (.tmp rfl)) rfl rfl (Nat.le_of_ble_eq_true rfl) trivial rfl ?_
      refine ADX.pure [] (PureOp.ext3c rfl (.tmp rfl)) rfl rfl (Nat.le_of_ble_eq_true rfl) trivial rfl ?_
      refine ADX.eff (tk := [6]) (new := [6]) (s := .one (.ptr 6 2 0 0)) (F := [(10, .one (.ptr 6 2 0 0))]) (Hin := []) (Hout := [(6, .cells [.con (.slice none 0 0), .int .i64 0])]) (fun E X hE hX Q rest hk => ?_) trivial ⟨rfl, rfl⟩ rfl rfl rfl rfl ⟨(by repeat first | exact trivial | refine ⟨by decide, by first | rfl | exact trivial | (intro i j; first | rfl | exact getD_no rfl | (dsimp only; split <;> first | rfl | exact getD_no rfl) | exact scl_no (by apply_assumption) _), ?_⟩), trivial⟩ rfl (fun _ e => by cases e; exact Nat.le_of_ble_eq_true rfl) ?_
      · refine ARun.alloc (id := 6) (l := [.con (.slice none 0 0), .int .i64 0]) (z := (.agg #[.slice none 0 0, .int .i64 0])) rfl (by kernel_rfl) (fun _ _ _ => ⟨_, _, rfl, rfl, ⟨_, _, rfl, rfl, rfl⟩⟩) (Fr.ext2 ⟨rfl, (by repeat first | exact trivial | refine ⟨by decide, by first | rfl | exact trivial | (intro i j; first | rfl | exact getD_no rfl | (dsimp only; split <;> first | rfl | exact getD_no rfl) | exact scl_no (by apply_assumption) _), ?_⟩)⟩ hE hX rfl rfl) rfl rfl rfl (Nat.le_of_ble_eq_true rfl) ?_
        refine ARun.hleX ?_ ?_ hk
        · exact HeapLe.one rfl trivial
        · repeat (first | exact LkX.refl | refine LkX.cons (hX.none rfl) ?_ | refine LkX.filter (hX.none rfl) ?_)
      refine ADX.eff (tk := [6]) (new := []) (s := .one (.con undef)) (F := []) (Hin := [(6, .cells [.con (.slice none 0 0), .int .i64 0])]) (Hout := [(6, .cells [.tre 5 0, .int .i64 (((takeV x0 x1).1).offset)])]) (fun E X hE hX Q rest hk => ?_) ⟨rfl, trivial⟩ ⟨rfl, rfl⟩ rfl rfl rfl rfl trivial rfl (fun _ e => by cases e) ?_
      · refine ARun.store rfl (.tmp rfl) (.tmp rfl) (SV.cells_of (by exact ⟨trivial, trivial, trivial⟩)) rfl (Nat.le_of_ble_eq_true rfl) vtl_sz_29_2 rfl rfl ?_
        refine ARun.hleX ?_ ?_ hk
        · exact HeapLe.one rfl trivial
        · repeat (first | exact LkX.refl | refine LkX.cons (hX.none rfl) ?_ | refine LkX.filter (hX.none rfl) ?_)
      refine ADX.pure [] (PureOp.assign rfl (.tmp rfl)) rfl rfl (Nat.le_of_ble_eq_true rfl) trivial rfl ?_
      refine ADX.pure [] (PureOp.assign rfl (.tmp rfl)) rfl rfl (Nat.le_of_ble_eq_true rfl) trivial rfl ?_
      refine ADX.nil (H := [(0, .cells [.lst 2 x0.rows.length (fun i0 j0 => ([.str ((x0.rows.getD i0 (default : GRow)).name), .lst 2 (((x0.rows.getD i0 (default : GRow)).samples).length) (fun i1 j1 => ([.int .i64 ((((x0.rows.getD i0 (default : GRow)).samples).getD i1 (default : GSample)).at_), .int .i64 ((((x0.rows.getD i0 (default : GRow)).samples).getD i1 (default : GSample)).value)] : List AV).getD j1 (.con undef))] : List AV).getD j0 (.con undef)), .int .i64 x0.offset]), (1, .cells [.str x1.name, .int .i64 x1.at_, .int .i64 x1.value]), (2, .cells [.frs (.lst 2 ((((takeV x0 x1).1).rows).length) (fun i0 j0 => ([.str (((((takeV x0 x1).1).rows).getD i0 (default : GRow)).name), .lst 2 ((((((takeV x0 x1).1).rows).getD i0 (default : GRow)).samples).length) (fun i1 j1 => ([.int .i64 (((((((takeV x0 x1).1).rows).getD i0 (default : GRow)).samples).getD i1 (default : GSample)).at_), .int .i64 (((((((takeV x0 x1).1).rows).getD i0 (default : GRow)).samples).getD i1 (default : GSample)).value)] : List AV).getD j1 (.con undef))] : List AV).getD j0 (.con undef))), .int .i64 (((takeV x0 x1).1).offset)]), (3, .trees 2 (fun p => ([.lst 2 x0.rows.length (fun i0 j0 => ([.str ((x0.rows.getD i0 (default : GRow)).name), .lst 2 (((x0.rows.getD i0 (default : GRow)).samples).length) (fun i1 j1 => ([.int .i64 ((((x0.rows.getD i0 (default : GRow)).samples).getD i1 (default : GSample)).at_), .int .i64 ((((x0.rows.getD i0 (default : GRow)).samples).getD i1 (default : GSample)).value)] : List AV).getD j1 (.con undef))] : List AV).getD j0 (.con undef)), .int .i64 x0.offset] : List AV).getD p (.con undef))), (4, .cells [.tre 3 0, .int .i64 x0.offset]), (5, .trees 4 (fun p => ([.lst 2 ((((takeV x0 x1).1).rows).length) (fun i0 j0 => ([.str (((((takeV x0 x1).1).rows).getD i0 (default : GRow)).name), .lst 2 ((((((takeV x0 x1).1).rows).getD i0 (default : GRow)).samples).length) (fun i1 j1 => ([.int .i64 (((((((takeV x0 x1).1).rows).getD i0 (default : GRow)).samples).getD i1 (default : GSample)).at_), .int .i64 (((((((takeV x0 x1).1).rows).getD i0 (default : GRow)).samples).getD i1 (default : GSample)).value)] : List AV).getD j1 (.con undef))] : List AV).getD j0 (.con undef)), .int .i64 (((takeV x0 x1).1).offset), .int .i64 (((takeV x0 x1).2.1 : Nat) : Int), .bool ((takeV x0 x1).2.2)] : List AV).getD p (.con undef))), (6, .cells [.tre 5 0, .int .i64 (((takeV x0 x1).1).offset)])]) ?_ ?_
      · exact HeapLe.one rfl (HeapLe.one rfl (HeapLe.one rfl (HeapLe.one rfl (HeapLe.one rfl (HeapLe.one rfl (HeapLe.one rfl trivial))))))
      refine AW.seq ?_
      refine AW.seq ?_
      refine AW.region ?_
      refine ARun.pure (PureOp.loadPtrAgg rfl (.tmp rfl) vtl_ag_29_2 rfl rfl (Nat.le_of_ble_eq_true rfl) (Nat.le_of_ble_eq_true rfl)) rfl rfl (Nat.le_of_ble_eq_true rfl) ?_
      refine ARun.pure (PureOp.loadPtrAgg rfl (.tmp rfl) vtl_ag_29_2 rfl rfl (Nat.le_of_ble_eq_true rfl) (Nat.le_of_ble_eq_true rfl)) rfl rfl (Nat.le_of_ble_eq_true rfl) ?_
      refine ARun.pure (PureOp.call rfl (v_eqHead ((takeV x0 x1).1) ((takeV x0 x1).1)) ⟨⟨_, (.tmp rfl), ⟨(Vw.cast (Vw.tre rfl (Nat.le_of_ble_eq_true rfl)) rfl), .int, trivial⟩⟩, ⟨_, (.tmp rfl), ⟨.frs, .int, trivial⟩⟩, trivial⟩ vtl_ca_13 trivial) rfl rfl (Nat.le_of_ble_eq_true rfl) ?_
      refine ARun.pure (PureOp.not rfl (.tmp rfl)) rfl rfl (Nat.le_of_ble_eq_true rfl) ?_
      refine ARun.pure (PureOp.move rfl (.tmp rfl)) rfl rfl (Nat.le_of_ble_eq_true rfl) ?_
      refine ARun.gpure (want := false) (.tf rfl) (fun hg5 => PureOp.move rfl (.tmp rfl)) rfl rfl (Nat.le_of_ble_eq_true rfl) rfl (Nat.le_of_ble_eq_true rfl) ?_
      refine ARun.gpure (want := false) (.tf rfl) (fun hg6 => PureOp.move rfl (.tmp rfl)) rfl rfl (Nat.le_of_ble_eq_true rfl) rfl (Nat.le_of_ble_eq_true rfl) ?_
      refine ARun.gpure (want := false) (.tf rfl) (fun hg7 => PureOp.intOp rfl (.gtmp rfl hg7) (.gtmp rfl hg7) rfl) rfl rfl (Nat.le_of_ble_eq_true rfl) rfl (Nat.le_of_ble_eq_true rfl) ?_
      refine ARun.pure (PureOp.pick rfl (.tmp rfl) (fun _ => .bool) (fun hp9 => .gtmp rfl (not_of hp9))) rfl rfl (Nat.le_of_ble_eq_true rfl) ?_
      refine ARun.pure (PureOp.move rfl (.tmp rfl)) rfl rfl (Nat.le_of_ble_eq_true rfl) ?_
      refine ARun.gpure (want := false) (.tf rfl) (fun hg10 => PureOp.move rfl (.tmp rfl)) rfl rfl (Nat.le_of_ble_eq_true rfl) rfl (Nat.le_of_ble_eq_true rfl) ?_
      refine ARun.gpure (want := false) (.tf rfl) (fun hg11 => PureOp.move rfl (.tmp rfl)) rfl rfl (Nat.le_of_ble_eq_true rfl) rfl (Nat.le_of_ble_eq_true rfl) ?_
      refine ARun.gpure (want := false) (.tf rfl) (fun hg12 => PureOp.boolNe rfl (.gtmp rfl hg12) (.gtmp rfl hg12) vtl_bo_4) rfl rfl (Nat.le_of_ble_eq_true rfl) rfl (Nat.le_of_ble_eq_true rfl) ?_
      refine ARun.pure (PureOp.pick rfl (.tmp rfl) (fun _ => .bool) (fun hp14 => .gtmp rfl (not_of hp14))) rfl rfl (Nat.le_of_ble_eq_true rfl) ?_
      refine ARun.nil ?_
      refine AW.cond (.tmp rfl) (fun hb15 => ?_) (fun hb15 => ?_)
      · have _u := True.intro
        exact absurd (show (cond (cond (!(decide (((takeV x0 x1).1) = ((takeV x0 x1).1)))) true (!decide ((((takeV x0 x1).2.1 : Nat) : Int) = (((takeV x0 x1).2.1 : Nat) : Int)))) true (!(((takeV x0 x1).2.2) == ((takeV x0 x1).2.2)))) = false by first | (simp; done) | (rw [cast_neg]; simp; done)) (by rw [hb15]; simp)
        --end
      · have _u := True.intro
        refine AW.skip ?_
        refine AW.seq ?_
        refine AW.seq ?_
        refine AW.any (by kernel_rfl) (by kernel_rfl) ?_
        refine AD.pure (PureOp.loadPtrAgg rfl (.tmp rfl) vtl_ag_29_2 rfl rfl (Nat.le_of_ble_eq_true rfl) (Nat.le_of_ble_eq_true rfl)) rfl rfl (Nat.le_of_ble_eq_true rfl) ?_
        refine AD.pure (PureOp.loadPtrAgg rfl (.tmp rfl) vtl_ag_24_2 rfl rfl (Nat.le_of_ble_eq_true rfl) (Nat.le_of_ble_eq_true rfl)) rfl rfl (Nat.le_of_ble_eq_true rfl) ?_
        refine AD.fresh (FreshOp.callS rfl (FnT.toF (v_toHead x0 (Small.mk (by omega)))) ⟨⟨_, (.tmp rfl), ⟨.lst, .int, trivial⟩⟩, trivial⟩ vtl_ca_11 rfl) rfl rfl (Nat.le_of_ble_eq_true rfl) ?_
        refine AD.pure (PureOp.call rfl (v_eqHead x0 x0) ⟨⟨_, (.tmp rfl), ⟨(Vw.cast (Vw.tre rfl (Nat.le_of_ble_eq_true rfl)) rfl), .int, trivial⟩⟩, ⟨_, (.tmp rfl), ⟨.frs, .int, trivial⟩⟩, trivial⟩ vtl_ca_13 trivial) rfl rfl (Nat.le_of_ble_eq_true rfl) ?_
        refine AD.pure (PureOp.not rfl (.tmp rfl)) rfl rfl (Nat.le_of_ble_eq_true rfl) ?_
        refine AD.nil ?_
        refine AW.cond (.tmp rfl) (fun hb16 => ?_) (fun hb16 => ?_)
        · have _u := True.intro
          replace hb16 := of_decide_eq_false (of_not hb16)
          exact absurd rfl hb16
          --end
        · have _u := True.intro
          replace hb16 := of_decide_eq_true (not_f hb16)
          refine AW.skip ?_
          refine AW.seq ?_
          refine AW.region ?_
          refine ARun.pure (PureOp.assign rfl .int) rfl rfl (Nat.le_of_ble_eq_true rfl) ?_
          refine ARun.nil ?_
          refine AW.seq ?_
          refine AW.region ?_
          refine ARun.pure (PureOp.loadPtrAgg rfl (.tmp rfl) vtl_ag_29_2 rfl rfl (Nat.le_of_ble_eq_true rfl) (Nat.le_of_ble_eq_true rfl)) rfl rfl (Nat.le_of_ble_eq_true rfl) ?_
          refine ARun.pure (PureOp.move rfl (.tmp rfl)) rfl rfl (Nat.le_of_ble_eq_true rfl) ?_
          refine ARun.mark (id := 3) (q0 := 0) (X' := fun p => ([.lst 2 (((mvHead x0 1).rows).length) (fun i0 j0 => ([.str ((((mvHead x0 1).rows).getD i0 (default : GRow)).name), .lst 2 (((((mvHead x0 1).rows).getD i0 (default : GRow)).samples).length) (fun i1 j1 => ([.int .i64 ((((((mvHead x0 1).rows).getD i0 (default : GRow)).samples).getD i1 (default : GSample)).at_), .int .i64 ((((((mvHead x0 1).rows).getD i0 (default : GRow)).samples).getD i1 (default : GSample)).value)] : List AV).getD j1 (.con undef))] : List AV).getD j0 (.con undef)), .int .i64 ((mvHead x0 1).offset)] : List AV).getD p (.con undef)) rfl (m_Head x0 1 ⟨by omega, by omega⟩) vtl_ca_17 trivial (.tmp rfl) rfl rfl rfl (Nat.le_of_ble_eq_true rfl) (fun p hp _ => match p, hp with | 0, _ => rfl | 1, _ => rfl | _ + 2, h => absurd h (by simp [SV.leaves])) rfl rfl (fun p hp _ => match p, hp with | 0, _ => rfl | 1, _ => rfl | _ + 2, h => absurd h (by simp [SV.leaves])) (fun q hq hne => match q, hq, hne with | 0, _, h => absurd rfl (h 0 (Nat.le_of_ble_eq_true rfl) rfl) | 1, _, _ => rfl | _ + 2, h, _ => absurd (show _ < 2 from h) (by omega)) ⟨(.tmp rfl), trivial, trivial⟩ rfl rfl (Nat.le_of_ble_eq_true rfl) ?_
          refine ARun.pure (PureOp.assign rfl (.tmp rfl)) rfl rfl (Nat.le_of_ble_eq_true rfl) ?_
          refine ARun.nil ?_
          refine AW.seq ?_
          refine AW.seq ?_
          refine AW.region ?_
          refine ARun.pure (PureOp.move rfl (.tmp rfl)) rfl rfl (Nat.le_of_ble_eq_true rfl) ?_
          refine ARun.pure (PureOp.intOp rfl (.tmp rfl) .int rfl) rfl rfl (Nat.le_of_ble_eq_true rfl) ?_
          refine ARun.pure (PureOp.move rfl (.tmp rfl)) rfl rfl (Nat.le_of_ble_eq_true rfl) ?_
          refine ARun.gpure (want := false) (.tf rfl) (fun hg17 => PureOp.loadPtrAgg rfl (.tmp rfl) vtl_ag_29_2 rfl rfl (Nat.le_of_ble_eq_true rfl) (Nat.le_of_ble_eq_true rfl)) rfl rfl (Nat.le_of_ble_eq_true rfl) rfl (Nat.le_of_ble_eq_true rfl) ?_
          refine ARun.gpure (want := false) (.tf rfl) (fun hg18 => PureOp.loadPtrAgg rfl (.tmp rfl) vtl_ag_29_2 rfl rfl (Nat.le_of_ble_eq_true rfl) (Nat.le_of_ble_eq_true rfl)) rfl rfl (Nat.le_of_ble_eq_true rfl) rfl (Nat.le_of_ble_eq_true rfl) ?_
          refine ARun.gpure (want := false) (.tf rfl) (fun hg19 => PureOp.call rfl (v_eqHead ((takeV x0 x1).1) ((takeV x0 x1).1)) ⟨⟨_, (.gtmp rfl hg19), ⟨(Vw.cast (Vw.tre rfl (Nat.le_of_ble_eq_true rfl)) rfl), .int, trivial⟩⟩, ⟨_, (.gtmp rfl hg19), ⟨.frs, .int, trivial⟩⟩, trivial⟩ vtl_ca_13 trivial) rfl rfl (Nat.le_of_ble_eq_true rfl) rfl (Nat.le_of_ble_eq_true rfl) ?_
          refine ARun.gpure (want := false) (.tf rfl) (fun hg20 => PureOp.not rfl (.gtmp rfl hg20)) rfl rfl (Nat.le_of_ble_eq_true rfl) rfl (Nat.le_of_ble_eq_true rfl) ?_
          refine ARun.pure (PureOp.pick rfl (.tmp rfl) (fun _ => .bool) (fun hp22 => .gtmp rfl (not_of hp22))) rfl rfl (Nat.le_of_ble_eq_true rfl) ?_
          refine ARun.pure (PureOp.move rfl (.tmp rfl)) rfl rfl (Nat.le_of_ble_eq_true rfl) ?_
          refine ARun.gpure (want := false) (.tf rfl) (fun hg23 => PureOp.move rfl (.tmp rfl)) rfl rfl (Nat.le_of_ble_eq_true rfl) rfl (Nat.le_of_ble_eq_true rfl) ?_
          refine ARun.gpure (want := false) (.tf rfl) (fun hg24 => PureOp.move rfl (.tmp rfl)) rfl rfl (Nat.le_of_ble_eq_true rfl) rfl (Nat.le_of_ble_eq_true rfl) ?_
          refine ARun.gpure (want := false) (.tf rfl) (fun hg25 => PureOp.intOp rfl (.gtmp rfl hg25) (.gtmp rfl hg25) rfl) rfl rfl (Nat.le_of_ble_eq_true rfl) rfl (Nat.le_of_ble_eq_true rfl) ?_
          refine ARun.pure (PureOp.pick rfl (.tmp rfl) (fun _ => .bool) (fun hp27 => .gtmp rfl (not_of hp27))) rfl rfl (Nat.le_of_ble_eq_true rfl) ?_
          refine ARun.pure (PureOp.move rfl (.tmp rfl)) rfl rfl (Nat.le_of_ble_eq_true rfl) ?_
          refine ARun.gpure (want := false) (.tf rfl) (fun hg28 => PureOp.move rfl (.tmp rfl)) rfl rfl (Nat.le_of_ble_eq_true rfl) rfl (Nat.le_of_ble_eq_true rfl) ?_
          refine ARun.gpure (want := false) (.tf rfl) (fun hg29 => PureOp.move rfl (.tmp rfl)) rfl rfl (Nat.le_of_ble_eq_true rfl) rfl (Nat.le_of_ble_eq_true rfl) ?_
          refine ARun.gpure (want := false) (.tf rfl) (fun hg30 => PureOp.boolNe rfl (.gtmp rfl hg30) (.gtmp rfl hg30) vtl_bo_4) rfl rfl (Nat.le_of_ble_eq_true rfl) rfl (Nat.le_of_ble_eq_true rfl) ?_
          refine ARun.pure (PureOp.pick rfl (.tmp rfl) (fun _ => .bool) (fun hp32 => .gtmp rfl (not_of hp32))) rfl rfl (Nat.le_of_ble_eq_true rfl) ?_
          refine ARun.nil ?_
          refine AW.cond (.tmp rfl) (fun hb33 => ?_) (fun hb33 => ?_)
          · have _u := True.intro
            exact absurd (show (cond (cond (cond (decide (((1 + cvHead x0 : Nat) : Int) < 0)) true (!(decide (((takeV x0 x1).1) = ((takeV x0 x1).1))))) true (!decide ((((takeV x0 x1).2.1 : Nat) : Int) = (((takeV x0 x1).2.1 : Nat) : Int)))) true (!(((takeV x0 x1).2.2) == ((takeV x0 x1).2.2)))) = false by first | (simp; done) | (rw [cast_neg]; simp; done)) (by rw [hb33]; simp)
            --end
          · have _u := True.intro
            refine AW.skip ?_
            refine AW.seq ?_
            refine AW.region ?_
            refine ARun.pure (PureOp.assign rfl .int) rfl rfl (Nat.le_of_ble_eq_true rfl) ?_
            refine ARun.nil ?_
            refine AW.seq ?_
            refine AW.region ?_
            refine ARun.pure (PureOp.loadPtrAgg rfl (.tmp rfl) vtl_ag_29_2 rfl rfl (Nat.le_of_ble_eq_true rfl) (Nat.le_of_ble_eq_true rfl)) rfl rfl (Nat.le_of_ble_eq_true rfl) ?_
            refine ARun.pure (PureOp.move rfl (.tmp rfl)) rfl rfl (Nat.le_of_ble_eq_true rfl) ?_
            refine ARun.mark (id := 5) (q0 := 0) (X' := fun q => if q < 2 then (fun p => ([.lst 2 (((mvHead ((takeV x0 x1).1) 1).rows).length) (fun i0 j0 => ([.str ((((mvHead ((takeV x0 x1).1) 1).rows).getD i0 (default : GRow)).name), .lst 2 (((((mvHead ((takeV x0 x1).1) 1).rows).getD i0 (default : GRow)).samples).length) (fun i1 j1 => ([.int .i64 ((((((mvHead ((takeV x0 x1).1) 1).rows).getD i0 (default : GRow)).samples).getD i1 (default : GSample)).at_), .int .i64 ((((((mvHead ((takeV x0 x1).1) 1).rows).getD i0 (default : GRow)).samples).getD i1 (default : GSample)).value)] : List AV).getD j1 (.con undef))] : List AV).getD j0 (.con undef)), .int .i64 ((mvHead ((takeV x0 x1).1) 1).offset)] : List AV).getD p (.con undef)) q else (fun p => ([.lst 2 ((((takeV x0 x1).1).rows).length) (fun i0 j0 => ([.str (((((takeV x0 x1).1).rows).getD i0 (default : GRow)).name), .lst 2 ((((((takeV x0 x1).1).rows).getD i0 (default : GRow)).samples).length) (fun i1 j1 => ([.int .i64 (((((((takeV x0 x1).1).rows).getD i0 (default : GRow)).samples).getD i1 (default : GSample)).at_), .int .i64 (((((((takeV x0 x1).1).rows).getD i0 (default : GRow)).samples).getD i1 (default : GSample)).value)] : List AV).getD j1 (.con undef))] : List AV).getD j0 (.con undef)), .int .i64 (((takeV x0 x1).1).offset), .int .i64 (((takeV x0 x1).2.1 : Nat) : Int), .bool ((takeV x0 x1).2.2)] : List AV).getD p (.con undef)) q) rfl (m_Head ((takeV x0 x1).1) 1 ⟨by omega, by omega⟩) vtl_ca_17 trivial (.tmp rfl) rfl rfl rfl (Nat.le_of_ble_eq_true rfl) (fun p hp _ => match p, hp with | 0, _ => rfl | 1, _ => rfl | _ + 2, h => absurd h (by simp [SV.leaves])) rfl rfl (fun p hp _ => match p, hp with | 0, _ => rfl | 1, _ => rfl | _ + 2, h => absurd h (by simp [SV.leaves])) (fun q hq hne => match q, hq, hne with | 0, _, h => absurd rfl (h 0 (Nat.le_of_ble_eq_true rfl) rfl) | 1, _, _ => rfl | q + 2, _, _ => if_neg (by omega)) ⟨(.tmp rfl), trivial, trivial⟩ rfl rfl (Nat.le_of_ble_eq_true rfl) ?_
            refine ARun.pure (PureOp.assign rfl (.tmp rfl)) rfl rfl (Nat.le_of_ble_eq_true rfl) ?_
            refine ARun.nil ?_
            refine AW.seq ?_
            refine AW.region ?_
            refine ARun.pure (PureOp.assign rfl .int) rfl rfl (Nat.le_of_ble_eq_true rfl) ?_
            refine ARun.nil ?_
            refine AW.seq ?_
            refine AW.region ?_
            refine ARun.pure (PureOp.loadPtrAgg rfl (.tmp rfl) vtl_ag_29_2 rfl rfl (Nat.le_of_ble_eq_true rfl) (Nat.le_of_ble_eq_true rfl)) rfl rfl (Nat.le_of_ble_eq_true rfl) ?_
            refine ARun.pure (PureOp.move rfl (.tmp rfl)) rfl rfl (Nat.le_of_ble_eq_true rfl) ?_
            refine ARun.pure (PureOp.call rfl (h_Head ((takeV x0 x1).1) (mvHead ((takeV x0 x1).1) 1) 1 rfl ⟨by omega, by omega⟩) ⟨⟨_, (.tmp rfl), ⟨(Vw.cast (Vw.tre rfl (Nat.le_of_ble_eq_true rfl)) rfl), .int, trivial⟩⟩, ⟨_, (.tmp rfl), .int⟩, trivial⟩ vtl_ca_22 trivial) rfl rfl (Nat.le_of_ble_eq_true rfl) ?_
            refine ARun.pure (PureOp.assign rfl (.tmp rfl)) rfl rfl (Nat.le_of_ble_eq_true rfl) ?_
            refine ARun.nil ?_
            refine AW.seq ?_
            refine AW.seq ?_
            refine AW.region ?_
            refine ARun.pure (PureOp.move rfl (.tmp rfl)) rfl rfl (Nat.le_of_ble_eq_true rfl) ?_
            refine ARun.pure (PureOp.intOp rfl (.tmp rfl) .int rfl) rfl rfl (Nat.le_of_ble_eq_true rfl) ?_
            refine ARun.nil ?_
            refine AW.cond (.tmp rfl) (fun hb34 => ?_) (fun hb34 => ?_)
            · have _u := True.intro
              replace hb34 := of_decide_eq_true hb34
              exact absurd hb34 (by omega)
              --end
            · have _u := True.intro
              replace hb34 := of_decide_eq_false hb34
              refine AW.skip ?_
              refine AW.seq ?_
              refine AW.seq ?_
              refine AW.region ?_
              refine ARun.pure (PureOp.move rfl (.tmp rfl)) rfl rfl (Nat.le_of_ble_eq_true rfl) ?_
              refine ARun.pure (PureOp.move rfl (.tmp rfl)) rfl rfl (Nat.le_of_ble_eq_true rfl) ?_
              refine ARun.pure (PureOp.intOp rfl (.tmp rfl) (.tmp rfl) rfl) rfl rfl (Nat.le_of_ble_eq_true rfl) ?_
              refine ARun.nil ?_
              refine AW.cond (.tmp rfl) (fun hb35 => ?_) (fun hb35 => ?_)
              · have _u := True.intro
                replace hb35 := of_decide_eq_false (of_not hb35)
                exact absurd rfl hb35
                --end
              · have _u := True.intro
                replace hb35 := of_decide_eq_true (not_f hb35)
                refine AW.skip ?_
                refine AW.seq ?_
                refine AW.anyX [⟨[0], [], [], []⟩, ⟨[], [], [], []⟩, ⟨[1], [], [], []⟩, ⟨[], [], [], []⟩, ⟨[], [7], [7], [(7, .trees 4 (fun p => ([.lst 2 ((((takeV x0 x1).1).rows).length) (fun i0 j0 => ([.str (((((takeV x0 x1).1).rows).getD i0 (default : GRow)).name), .lst 2 ((((((takeV x0 x1).1).rows).getD i0 (default : GRow)).samples).length) (fun i1 j1 => ([.int .i64 (((((((takeV x0 x1).1).rows).getD i0 (default : GRow)).samples).getD i1 (default : GSample)).at_), .int .i64 (((((((takeV x0 x1).1).rows).getD i0 (default : GRow)).samples).getD i1 (default : GSample)).value)] : List AV).getD j1 (.con undef))] : List AV).getD j0 (.con undef)), .int .i64 (((takeV x0 x1).1).offset), .int .i64 (((takeV x0 x1).2.1 : Nat) : Int), .bool ((takeV x0 x1).2.2)] : List AV).getD p (.con undef)))]⟩, ⟨[], [], [], []⟩, ⟨[], [], [], []⟩, ⟨[], [], [], []⟩, ⟨[], [], [], []⟩, ⟨[], [8], [8], [(8, .cells [.con (.slice none 0 0), .int .i64 0])]⟩, ⟨[], [8], [], [(8, .cells [.tre 7 0, .int .i64 (((takeV x0 x1).1).offset)])]⟩, ⟨[], [], [], []⟩, ⟨[], [], [], []⟩] (by kernel_rfl) (by kernel_rfl) (by kernel_rfl) ⟨⟨.inl rfl, .inr (.inr trivial), .inr (.inr trivial), .inr (.inr trivial), .inr (.inr (by repeat first | exact trivial | refine And.intro ?_ ?_ | exact rfl | (intro i j; first | rfl | exact getD_no rfl | (dsimp only; split <;> first | rfl | exact getD_no rfl) | exact scl_no (by apply_assumption) _))), .inr (.inr trivial), .inr (.inr trivial), .inr (.inr trivial), .inr (.inr trivial), .inr (.inr (by repeat first | exact trivial | refine And.intro ?_ ?_ | exact rfl | (intro i j; first | rfl | exact getD_no rfl | (dsimp only; split <;> first | rfl | exact getD_no rfl) | exact scl_no (by apply_assumption) _))), .inr (.inr trivial), .inr (.inr trivial), .inr (.inr trivial), trivial⟩, ⟨.inr (.inr trivial), .inl rfl, .inr (.inr trivial), .inr (.inr trivial), .inr (.inr (by repeat first | exact trivial | refine And.intro ?_ ?_ | exact rfl | (intro i j; first | rfl | exact getD_no rfl | (dsimp only; split <;> first | rfl | exact getD_no rfl) | exact scl_no (by apply_assumption) _))), .inr (.inr trivial), .inr (.inr trivial), .inr (.inr trivial), .inr (.inr trivial), .inr (.inr (by repeat first | exact trivial | refine And.intro ?_ ?_ | exact rfl | (intro i j; first | rfl | exact getD_no rfl | (dsimp only; split <;> first | rfl | exact getD_no rfl) | exact scl_no (by apply_assumption) _))), .inr (.inr trivial), .inr (.inr trivial), .inr (.inr trivial), trivial⟩, ⟨.inr (.inr trivial), .inr (.inr trivial), .inl rfl, .inr (.inr trivial), .inr (.inr (by repeat first | exact trivial | refine And.intro ?_ ?_ | exact rfl | (intro i j; first | rfl | exact getD_no rfl | (dsimp only; split <;> first | rfl | exact getD_no rfl) | exact scl_no (by apply_assumption) _))), .inr (.inr trivial), .inr (.inr trivial), .inr (.inr trivial), .inr (.inr trivial), .inr (.inr (by repeat first | exact trivial | refine And.intro ?_ ?_ | exact rfl | (intro i j; first | rfl | exact getD_no rfl | (dsimp only; split <;> first | rfl | exact getD_no rfl) | exact scl_no (by apply_assumption) _))), .inr (.inr trivial), .inr (.inr trivial), .inr (.inr trivial), trivial⟩, ⟨.inr (.inr trivial), .inr (.inr trivial), .inr (.inr trivial), .inl rfl, .inr (.inr (by repeat first | exact trivial | refine And.intro ?_ ?_ | exact rfl | (intro i j; first | rfl | exact getD_no rfl | (dsimp only; split <;> first | rfl | exact getD_no rfl) | exact scl_no (by apply_assumption) _))), .inr (.inr trivial), .inr (.inr trivial), .inr (.inr trivial), .inr (.inr trivial), .inr (.inr (by repeat first | exact trivial | refine And.intro ?_ ?_ | exact rfl | (intro i j; first | rfl | exact getD_no rfl | (dsimp only; split <;> first | rfl | exact getD_no rfl) | exact scl_no (by apply_assumption) _))), .inr (.inr trivial), .inr (.inr trivial), .inr (.inr trivial), trivial⟩, ⟨.inr (.inr trivial), .inr (.inr trivial), .inr (.inr trivial), .inr (.inr trivial), .inl rfl, .inr (.inr trivial), .inr (.inr trivial), .inr (.inr trivial), .inr (.inr trivial), .inr (.inr (by repeat first | exact trivial | refine And.intro ?_ ?_ | exact rfl | (intro i j; first | rfl | exact getD_no rfl | (dsimp only; split <;> first | rfl | exact getD_no rfl) | exact scl_no (by apply_assumption) _))), .inr (.inr trivial), .inr (.inr trivial), .inr (.inr trivial), trivial⟩, ⟨.inr (.inr trivial), .inr (.inr trivial), .inr (.inr trivial), .inr (.inr trivial), .inr (.inl (by kernel_rfl)), .inl rfl, .inr (.inr trivial), .inr (.inr trivial), .inr (.inr trivial), .inr (.inr (by repeat first | exact trivial | refine And.intro ?_ ?_ | exact rfl | (intro i j; first | rfl | exact getD_no rfl | (dsimp only; split <;> first | rfl | exact getD_no rfl) | exact scl_no (by apply_assumption) _))), .inr (.inr trivial), .inr (.inr trivial), .inr (.inr trivial), trivial⟩, ⟨.inr (.inr trivial), .inr (.inr trivial), .inr (.inr trivial), .inr (.inr trivial), .inr (.inl (by kernel_rfl)), .inr (.inr trivial), .inl rfl, .inr (.inr trivial), .inr (.inr trivial), .inr (.inr (by repeat first | exact trivial | refine And.intro ?_ ?_ | exact rfl | (intro i j; first | rfl | exact getD_no rfl | (dsimp only; split <;> first | rfl | exact getD_no rfl) | exact scl_no (by apply_assumption) _))), .inr (.inr trivial), .inr (.inr trivial), .inr (.inr trivial), trivial⟩, ⟨.inr (.inr trivial), .inr (.inr trivial), .inr (.inr trivial), .inr (.inr trivial), .inr (.inl (by kernel_rfl)), .inr (.inr trivial), .inr (.inr trivial), .inl rfl, .inr (.inr trivial), .inr (.inr (by repeat first | exact trivial | refine And.intro ?_ ?_ | exact rfl | (intro i j; first | rfl | exact getD_no rfl | (dsimp only; split <;> first | rfl | exact getD_no rfl) | exact scl_no (by apply_assumption) _))), .inr (.inr trivial), .inr (.inr trivial), .inr (.inr trivial), trivial⟩, ⟨.inr (.inr trivial), .inr (.inr trivial), .inr (.inr trivial), .inr (.inr trivial), .inr (.inl (by kernel_rfl)), .inr (.inr trivial), .inr (.inr trivial), .inr (.inr trivial), .inl rfl, .inr (.inr (by repeat first | exact trivial | refine And.intro ?_ ?_ | exact rfl | (intro i j; first | rfl | exact getD_no rfl | (dsimp only; split <;> first | rfl | exact getD_no rfl) | exact scl_no (by apply_assumption) _))), .inr (.inr trivial), .inr (.inr trivial), .inr (.inr trivial), trivial⟩, ⟨.inr (.inr trivial), .inr (.inr trivial), .inr (.inr trivial), .inr (.inr trivial), .inr (.inr (by repeat first | exact trivial | refine And.intro ?_ ?_ | exact rfl | (intro i j; first | rfl | exact getD_no rfl | (dsimp only; split <;> first | rfl | exact getD_no rfl) | exact scl_no (by apply_assumption) _))), .inr (.inr trivial), .inr (.inr trivial), .inr (.inr trivial), .inr (.inr trivial), .inl rfl, .inr (.inr trivial), .inr (.inr trivial), .inr (.inr trivial), trivial⟩, ⟨.inr (.inr trivial), .inr (.inr trivial), .inr (.inr trivial), .inr (.inr trivial), .inr (.inl (by kernel_rfl)), .inr (.inr trivial), .inr (.inr trivial), .inr (.inr trivial), .inr (.inr trivial), .inr (.inl (by kernel_rfl)), .inl rfl, .inr (.inr trivial), .inr (.inr trivial), trivial⟩, ⟨.inr (.inr trivial), .inr (.inr trivial), .inr (.inr trivial), .inr (.inr trivial), .inr (.inl (by kernel_rfl)), .inr (.inr trivial), .inr (.inr trivial), .inr (.inr trivial), .inr (.inr trivial), .inr (.inl (by kernel_rfl)), .inr (.inr trivial), .inl rfl, .inr (.inr trivial), trivial⟩, ⟨.inr (.inr trivial), .inr (.inr trivial), .inr (.inr trivial), .inr (.inr trivial), .inr (.inl (by kernel_rfl)), .inr (.inr trivial), .inr (.inr trivial), .inr (.inr trivial), .inr (.inr trivial), .inr (.inl (by kernel_rfl)), .inr (.inr trivial), .inr (.inr trivial), .inl rfl, trivial⟩, trivial⟩ ⟨trivial, trivial, trivial, trivial, ⟨(by repeat first | exact trivial | refine ⟨by decide, by first | rfl | exact trivial | (intro i j; first | rfl | exact getD_no rfl | (dsimp only; split <;> first | rfl | exact getD_no rfl) | exact scl_no (by apply_assumption) _), ?_⟩), trivial⟩, trivial, trivial, trivial, trivial, ⟨(by repeat first | exact trivial | refine ⟨by decide, by first | rfl | exact trivial | (intro i j; first | rfl | exact getD_no rfl | (dsimp only; split <;> first | rfl | exact getD_no rfl) | exact scl_no (by apply_assumption) _), ?_⟩), trivial⟩, trivial, trivial, trivial, trivial⟩ ?_
                refine ADX.pure [(0, .cells [.lst 2 x0.rows.length (fun i0 j0 => ([.str ((x0.rows.getD i0 (default : GRow)).name), .lst 2 (((x0.rows.getD i0 (default : GRow)).samples).length) (fun i1 j1 => ([.int .i64 ((((x0.rows.getD i0 (default : GRow)).samples).getD i1 (default : GSample)).at_), .int .i64 ((((x0.rows.getD i0 (default : GRow)).samples).getD i1 (default : GSample)).value)] : List AV).getD j1 (.con undef))] : List AV).getD j0 (.con undef)), .int .i64 x0.offset])] (PureOp.loadPtrAgg rfl (.tmp rfl) vtl_ag_24_2 rfl rfl (Nat.le_of_ble_eq_true rfl) (Nat.le_of_ble_eq_true rfl)) rfl rfl (Nat.le_of_ble_eq_true rfl) ⟨rfl, trivial⟩ rfl ?_
                refine ADX.fresh [] (FreshOp.callS rfl (FnT.toF (v_toHead x0 (Small.mk (by omega)))) ⟨⟨_, (.tmp rfl), ⟨.lst, .int, trivial⟩⟩, trivial⟩ vtl_ca_11 rfl) rfl rfl (Nat.le_of_ble_eq_true rfl) trivial rfl ?_
                refine ADX.pure [(1, .cells [.str x1.name, .int .i64 x1.at_, .int .i64 x1.value])] (PureOp.loadPtrAgg rfl (.tmp rfl) vtl_ag_44_3 rfl rfl (Nat.le_of_ble_eq_true rfl) (Nat.le_of_ble_eq_true rfl)) rfl rfl (Nat.le_of_ble_eq_true rfl) ⟨rfl, trivial⟩ rfl ?_
                refine ADX.fresh [] (FreshOp.callS rfl (v_toSay x1 (Small.mk (by omega))) ⟨⟨_, (.tmp rfl), ⟨.str, .int, .int, trivial⟩⟩, trivial⟩ vtl_ca_25 rfl) rfl rfl (Nat.le_of_ble_eq_true rfl) trivial rfl ?_
                refine ADX.eff (tk := [7]) (new := [7]) (s := .tup3 (.agg [.tre 7 0, .int .i64 (((takeV x0 x1).1).offset)]) (.one (.int .i64 (((takeV x0 x1).2.1 : Nat) : Int))) (.one (.bool ((takeV x0 x1).2.2)))) (F := [(104, .tup3 (.agg [.tre 7 0, .int .i64 (((takeV x0 x1).1).offset)]) (.one (.int .i64 (((takeV x0 x1).2.1 : Nat) : Int))) (.one (.bool ((takeV x0 x1).2.2))))]) (Hin := []) (Hout := [(7, .trees 4 (fun p => ([.lst 2 ((((takeV x0 x1).1).rows).length) (fun i0 j0 => ([.str (((((takeV x0 x1).1).rows).getD i0 (default : GRow)).name), .lst 2 ((((((takeV x0 x1).1).rows).getD i0 (default : GRow)).samples).length) (fun i1 j1 => ([.int .i64 (((((((takeV x0 x1).1).rows).getD i0 (default : GRow)).samples).getD i1 (default : GSample)).at_), .int .i64 (((((((takeV x0 x1).1).rows).getD i0 (default : GRow)).samples).getD i1 (default : GSample)).value)] : List AV).getD j1 (.con undef))] : List AV).getD j0 (.con undef)), .int .i64 (((takeV x0 x1).1).offset), .int .i64 (((takeV x0 x1).2.1 : Nat) : Int), .bool ((takeV x0 x1).2.2)] : List AV).getD p (.con undef)))]) (fun E X hE hX Q rest hk => ?_) trivial ⟨rfl, rfl⟩ rfl rfl rfl rfl ⟨(by repeat first | exact trivial | refine ⟨by decide, by first | rfl | exact trivial | (intro i j; first | rfl | exact getD_no rfl | (dsimp only; split <;> first | rfl | exact getD_no rfl) | exact scl_no (by apply_assumption) _), ?_⟩), trivial⟩ rfl (fun _ e => by cases e; exact Nat.le_of_ble_eq_true rfl) ?_
                · refine ARun.prod (K := 7) rfl (v_iTakeSay x0 x1) (Fr.ext2 ⟨rfl, (by repeat first | exact trivial | refine ⟨by decide, by first | rfl | exact trivial | (intro i j; first | rfl | exact getD_no rfl | (dsimp only; split <;> first | rfl | exact getD_no rfl) | exact scl_no (by apply_assumption) _), ?_⟩)⟩ hE hX rfl rfl) ⟨⟨_, (.tmp rfl), ⟨.frs, .int, trivial⟩⟩, ⟨_, (.tmp rfl), ⟨.str, .int, .int, trivial⟩⟩, trivial⟩ vtl_ca_26 rfl rfl rfl rfl rfl (Nat.le_of_ble_eq_true rfl) ?_
                  refine ARun.hleX ?_ ?_ hk
                  · exact HeapLe.one rfl trivial
                  · repeat (first | exact LkX.refl | refine LkX.cons (hX.none rfl) ?_ | refine LkX.filter (hX.none rfl) ?_)
                refine ADX.pure [] (PureOp.move rfl (.tmp rfl)) rfl rfl (Nat.le_of_ble_eq_true rfl) trivial rfl ?_
                refine ADX.pure [] (PureOp.ext3a rfl (.tmp rfl)) rfl rfl (Nat.le_of_ble_eq_true rfl) trivial rfl ?_
                refine ADX.pure [] (PureOp.ext3b rfl (.tmp rfl)) rfl rfl (Nat.le_of_ble_eq_true rfl) trivial rfl ?_
                refine ADX.pure [] (PureOp.ext3c rfl (.tmp rfl)) rfl rfl (Nat.le_of_ble_eq_true rfl) trivial rfl ?_
                refine ADX.eff (tk := [8]) (new := [8]) (s := .one (.ptr 8 2 0 0)) (F := [(16, .one (.ptr 8 2 0 0))]) (Hin := []) (Hout := [(8, .cells [.con (.slice none 0 0), .int .i64 0])]) (fun E X hE hX Q rest hk => ?_) trivial ⟨rfl, rfl⟩ rfl rfl rfl rfl ⟨(by repeat first | exact trivial | refine ⟨by decide, by first | rfl | exact trivial | (intro i j; first | rfl | exact getD_no rfl | (dsimp only; split <;> first | rfl | exact getD_no rfl) | exact scl_no (by apply_assumption) _), ?_⟩), trivial⟩ rfl (fun _ e => by cases e; exact Nat.le_of_ble_eq_true rfl) ?_
                · refine ARun.alloc (id := 8) (l := [.con (.slice none 0 0), .int .i64 0]) (z := (.agg #[.slice none 0 0, .int .i64 0])) rfl (by kernel_rfl) (fun _ _ _ => ⟨_, _, rfl, rfl, ⟨_, _, rfl, rfl, rfl⟩⟩) (Fr.ext2 ⟨rfl, (by repeat first | exact trivial | refine ⟨by decide, by first | rfl | exact trivial | (intro i j; first | rfl | exact getD_no rfl | (dsimp only; split <;> first | rfl | exact getD_no rfl) | exact scl_no (by apply_assumption) _), ?_⟩)⟩ hE hX rfl rfl) rfl rfl rfl (Nat.le_of_ble_eq_true rfl) ?_
                  refine ARun.hleX ?_ ?_ hk
                  · exact HeapLe.one rfl trivial
                  · repeat (first | exact LkX.refl | refine LkX.cons (hX.none rfl) ?_ | refine LkX.filter (hX.none rfl) ?_)
                refine ADX.eff (tk := [8]) (new := []) (s := .one (.con undef)) (F := []) (Hin := [(8, .cells [.con (.slice none 0 0), .int .i64 0])]) (Hout := [(8, .cells [.tre 7 0, .int .i64 (((takeV x0 x1).1).offset)])]) (fun E X hE hX Q rest hk => ?_) ⟨rfl, trivial⟩ ⟨rfl, rfl⟩ rfl rfl rfl rfl trivial rfl (fun _ e => by cases e) ?_
                · refine ARun.store rfl (.tmp rfl) (.tmp rfl) (SV.cells_of (by exact ⟨trivial, trivial, trivial⟩)) rfl (Nat.le_of_ble_eq_true rfl) vtl_sz_29_2 rfl rfl ?_
                  refine ARun.hleX ?_ ?_ hk
                  · exact HeapLe.one rfl trivial
                  · repeat (first | exact LkX.refl | refine LkX.cons (hX.none rfl) ?_ | refine LkX.filter (hX.none rfl) ?_)
                refine ADX.pure [] (PureOp.assign rfl (.tmp rfl)) rfl rfl (Nat.le_of_ble_eq_true rfl) trivial rfl ?_
                refine ADX.pure [] (PureOp.assign rfl (.tmp rfl)) rfl rfl (Nat.le_of_ble_eq_true rfl) trivial rfl ?_
                refine ADX.nil (H := [(0, .cells [.lst 2 x0.rows.length (fun i0 j0 => ([.str ((x0.rows.getD i0 (default : GRow)).name), .lst 2 (((x0.rows.getD i0 (default : GRow)).samples).length) (fun i1 j1 => ([.int .i64 ((((x0.rows.getD i0 (default : GRow)).samples).getD i1 (default : GSample)).at_), .int .i64 ((((x0.rows.getD i0 (default : GRow)).samples).getD i1 (default : GSample)).value)] : List AV).getD j1 (.con undef))] : List AV).getD j0 (.con undef)), .int .i64 x0.offset]), (1, .cells [.str x1.name, .int .i64 x1.at_, .int .i64 x1.value]), (2, .cells [.frs (.lst 2 ((((takeV x0 x1).1).rows).length) (fun i0 j0 => ([.str (((((takeV x0 x1).1).rows).getD i0 (default : GRow)).name), .lst 2 ((((((takeV x0 x1).1).rows).getD i0 (default : GRow)).samples).length) (fun i1 j1 => ([.int .i64 (((((((takeV x0 x1).1).rows).getD i0 (default : GRow)).samples).getD i1 (default : GSample)).at_), .int .i64 (((((((takeV x0 x1).1).rows).getD i0 (default : GRow)).samples).getD i1 (default : GSample)).value)] : List AV).getD j1 (.con undef))] : List AV).getD j0 (.con undef))), .int .i64 (((takeV x0 x1).1).offset)]), (3, .trees 2 (fun p => ([.lst 2 (((mvHead x0 1).rows).length) (fun i0 j0 => ([.str ((((mvHead x0 1).rows).getD i0 (default : GRow)).name), .lst 2 (((((mvHead x0 1).rows).getD i0 (default : GRow)).samples).length) (fun i1 j1 => ([.int .i64 ((((((mvHead x0 1).rows).getD i0 (default : GRow)).samples).getD i1 (default : GSample)).at_), .int .i64 ((((((mvHead x0 1).rows).getD i0 (default : GRow)).samples).getD i1 (default : GSample)).value)] : List AV).getD j1 (.con undef))] : List AV).getD j0 (.con undef)), .int .i64 ((mvHead x0 1).offset)] : List AV).getD p (.con undef))), (4, .cells [.tre 3 0, .int .i64 x0.offset]), (5, .trees 4 (fun q => if q < 2 then (fun p => ([.lst 2 (((mvHead ((takeV x0 x1).1) 1).rows).length) (fun i0 j0 => ([.str ((((mvHead ((takeV x0 x1).1) 1).rows).getD i0 (default : GRow)).name), .lst 2 (((((mvHead ((takeV x0 x1).1) 1).rows).getD i0 (default : GRow)).samples).length) (fun i1 j1 => ([.int .i64 ((((((mvHead ((takeV x0 x1).1) 1).rows).getD i0 (default : GRow)).samples).getD i1 (default : GSample)).at_), .int .i64 ((((((mvHead ((takeV x0 x1).1) 1).rows).getD i0 (default : GRow)).samples).getD i1 (default : GSample)).value)] : List AV).getD j1 (.con undef))] : List AV).getD j0 (.con undef)), .int .i64 ((mvHead ((takeV x0 x1).1) 1).offset)] : List AV).getD p (.con undef)) q else (fun p => ([.lst 2 ((((takeV x0 x1).1).rows).length) (fun i0 j0 => ([.str (((((takeV x0 x1).1).rows).getD i0 (default : GRow)).name), .lst 2 ((((((takeV x0 x1).1).rows).getD i0 (default : GRow)).samples).length) (fun i1 j1 => ([.int .i64 (((((((takeV x0 x1).1).rows).getD i0 (default : GRow)).samples).getD i1 (default : GSample)).at_), .int .i64 (((((((takeV x0 x1).1).rows).getD i0 (default : GRow)).samples).getD i1 (default : GSample)).value)] : List AV).getD j1 (.con undef))] : List AV).getD j0 (.con undef)), .int .i64 (((takeV x0 x1).1).offset), .int .i64 (((takeV x0 x1).2.1 : Nat) : Int), .bool ((takeV x0 x1).2.2)] : List AV).getD p (.con undef)) q)), (6, .cells [.tre 5 0, .int .i64 (((takeV x0 x1).1).offset)]), (7, .trees 4 (fun p => ([.lst 2 ((((takeV x0 x1).1).rows).length) (fun i0 j0 => ([.str (((((takeV x0 x1).1).rows).getD i0 (default : GRow)).name), .lst 2 ((((((takeV x0 x1).1).rows).getD i0 (default : GRow)).samples).length) (fun i1 j1 => ([.int .i64 (((((((takeV x0 x1).1).rows).getD i0 (default : GRow)).samples).getD i1 (default : GSample)).at_), .int .i64 (((((((takeV x0 x1).1).rows).getD i0 (default : GRow)).samples).getD i1 (default : GSample)).value)] : List AV).getD j1 (.con undef))] : List AV).getD j0 (.con undef)), .int .i64 (((takeV x0 x1).1).offset), .int .i64 (((takeV x0 x1).2.1 : Nat) : Int), .bool ((takeV x0 x1).2.2)] : List AV).getD p (.con undef))), (8, .cells [.tre 7 0, .int .i64 (((takeV x0 x1).1).offset)])]) ?_ ?_
                · exact HeapLe.one rfl (HeapLe.one rfl (HeapLe.one rfl (HeapLe.one rfl (HeapLe.one rfl (HeapLe.one rfl (HeapLe.one rfl (HeapLe.one rfl (HeapLe.one rfl trivial))))))))
                refine AW.seq ?_
                refine AW.seq ?_
                refine AW.region ?_
                refine ARun.pure (PureOp.loadPtrAgg rfl (.tmp rfl) vtl_ag_29_2 rfl rfl (Nat.le_of_ble_eq_true rfl) (Nat.le_of_ble_eq_true rfl)) rfl rfl (Nat.le_of_ble_eq_true rfl) ?_
                refine ARun.pure (PureOp.loadPtrAgg rfl (.tmp rfl) vtl_ag_29_2 rfl rfl (Nat.le_of_ble_eq_true rfl) (Nat.le_of_ble_eq_true rfl)) rfl rfl (Nat.le_of_ble_eq_true rfl) ?_
                refine ARun.pure (PureOp.call rfl (v_eqHead ((takeV x0 x1).1) ((takeV x0 x1).1)) ⟨⟨_, (.tmp rfl), ⟨(Vw.cast (Vw.tre rfl (Nat.le_of_ble_eq_true rfl)) rfl), .int, trivial⟩⟩, ⟨_, (.tmp rfl), ⟨.frs, .int, trivial⟩⟩, trivial⟩ vtl_ca_13 trivial) rfl rfl (Nat.le_of_ble_eq_true rfl) ?_
                refine ARun.pure (PureOp.not rfl (.tmp rfl)) rfl rfl (Nat.le_of_ble_eq_true rfl) ?_
                refine ARun.pure (PureOp.move rfl (.tmp rfl)) rfl rfl (Nat.le_of_ble_eq_true rfl) ?_
                refine ARun.gpure (want := false) (.tf rfl) (fun hg36 => PureOp.move rfl (.tmp rfl)) rfl rfl (Nat.le_of_ble_eq_true rfl) rfl (Nat.le_of_ble_eq_true rfl) ?_
                refine ARun.gpure (want := false) (.tf rfl) (fun hg37 => PureOp.move rfl (.tmp rfl)) rfl rfl (Nat.le_of_ble_eq_true rfl) rfl (Nat.le_of_ble_eq_true rfl) ?_
                refine ARun.gpure (want := false) (.tf rfl) (fun hg38 => PureOp.intOp rfl (.gtmp rfl hg38) (.gtmp rfl hg38) rfl) rfl rfl (Nat.le_of_ble_eq_true rfl) rfl (Nat.le_of_ble_eq_true rfl) ?_
                refine ARun.pure (PureOp.pick rfl (.tmp rfl) (fun _ => .bool) (fun hp40 => .gtmp rfl (not_of hp40))) rfl rfl (Nat.le_of_ble_eq_true rfl) ?_
                refine ARun.pure (PureOp.move rfl (.tmp rfl)) rfl rfl (Nat.le_of_ble_eq_true rfl) ?_
                refine ARun.gpure (want := false) (.tf rfl) (fun hg41 => PureOp.move rfl (.tmp rfl)) rfl rfl (Nat.le_of_ble_eq_true rfl) rfl (Nat.le_of_ble_eq_true rfl) ?_
                refine ARun.gpure (want := false) (.tf rfl) (fun hg42 => PureOp.move rfl (.tmp rfl)) rfl rfl (Nat.le_of_ble_eq_true rfl) rfl (Nat.le_of_ble_eq_true rfl) ?_
                refine ARun.gpure (want := false) (.tf rfl) (fun hg43 => PureOp.boolNe rfl (.gtmp rfl hg43) (.gtmp rfl hg43) vtl_bo_4) rfl rfl (Nat.le_of_ble_eq_true rfl) rfl (Nat.le_of_ble_eq_true rfl) ?_
                refine ARun.pure (PureOp.pick rfl (.tmp rfl) (fun _ => .bool) (fun hp45 => .gtmp rfl (not_of hp45))) rfl rfl (Nat.le_of_ble_eq_true rfl) ?_
                refine ARun.nil ?_
                refine AW.cond (.tmp rfl) (fun hb46 => ?_) (fun hb46 => ?_)
                · have _u := True.intro
                  exact absurd (show (cond (cond (!(decide (((takeV x0 x1).1) = ((takeV x0 x1).1)))) true (!decide ((((takeV x0 x1).2.1 : Nat) : Int) = (((takeV x0 x1).2.1 : Nat) : Int)))) true (!(((takeV x0 x1).2.2) == ((takeV x0 x1).2.2)))) = false by first | (simp; done) | (rw [cast_neg]; simp; done)) (by rw [hb46]; simp)
                  --end
                · have _u := True.intro
                  refine AW.skip ?_
                  refine AW.seq ?_
                  refine AW.region ?_
                  refine ARun.pure (PureOp.assign rfl .int) rfl rfl (Nat.le_of_ble_eq_true rfl) ?_
                  refine ARun.nil ?_
                  refine AW.seq ?_
                  refine AW.region ?_
                  refine ARun.pure (PureOp.loadPtrAgg rfl (.tmp rfl) vtl_ag_29_2 rfl rfl (Nat.le_of_ble_eq_true rfl) (Nat.le_of_ble_eq_true rfl)) rfl rfl (Nat.le_of_ble_eq_true rfl) ?_
                  refine ARun.pure (PureOp.move rfl (.tmp rfl)) rfl rfl (Nat.le_of_ble_eq_true rfl) ?_
                  refine ARun.pure (PureOp.call rfl (h_Head ((takeV x0 x1).1) (mvHead ((takeV x0 x1).1) 1) 1 rfl ⟨by omega, by omega⟩) ⟨⟨_, (.tmp rfl), ⟨(Vw.cast (Vw.tre rfl (Nat.le_of_ble_eq_true rfl)) rfl), .int, trivial⟩⟩, ⟨_, (.tmp rfl), .int⟩, trivial⟩ vtl_ca_22 trivial) rfl rfl (Nat.le_of_ble_eq_true rfl) ?_
                  refine ARun.pure (PureOp.assign rfl (.tmp rfl)) rfl rfl (Nat.le_of_ble_eq_true rfl) ?_
                  refine ARun.nil ?_
                  refine AW.seq ?_
                  refine AW.seq ?_
                  refine AW.region ?_
                  refine ARun.pure (PureOp.move rfl (.tmp rfl)) rfl rfl (Nat.le_of_ble_eq_true rfl) ?_
                  refine ARun.pure (PureOp.intOp rfl (.tmp rfl) .int rfl) rfl rfl (Nat.le_of_ble_eq_true rfl) ?_
                  refine ARun.nil ?_
                  refine AW.cond (.tmp rfl) (fun hb47 => ?_) (fun hb47 => ?_)
                  · have _u := True.intro
                    replace hb47 := of_decide_eq_true hb47
                    exact absurd hb47 (by omega)
                    --end
                  · have _u := True.intro
                    replace hb47 := of_decide_eq_false hb47
                    refine AW.skip ?_
                    refine AW.seq ?_
                    refine AW.seq ?_
                    refine AW.region ?_
                    refine ARun.pure (PureOp.move rfl (.tmp rfl)) rfl rfl (Nat.le_of_ble_eq_true rfl) ?_
                    refine ARun.pure (PureOp.move rfl (.tmp rfl)) rfl rfl (Nat.le_of_ble_eq_true rfl) ?_
                    refine ARun.pure (PureOp.intOp rfl (.tmp rfl) (.tmp rfl) rfl) rfl rfl (Nat.le_of_ble_eq_true rfl) ?_
                    refine ARun.nil ?_
                    refine AW.cond (.tmp rfl) (fun hb48 => ?_) (fun hb48 => ?_)
                    · have _u := True.intro
                      replace hb48 := of_decide_eq_false (of_not hb48)
                      exact absurd rfl hb48
                      --end
                    · have _u := True.intro
                      replace hb48 := of_decide_eq_true (not_f hb48)
                      refine AW.skip ?_
                      refine AW.seq ?_
                      refine AW.region ?_
                      refine ARun.pure (PureOp.assign rfl .bool) rfl rfl (Nat.le_of_ble_eq_true rfl) ?_
                      refine ARun.nil ?_
                      refine AW.ret (show ResL _ _ [.tmp 4] _ from resB rfl ?_)
                      rfl

set_option maxRecDepth 100000 in
theorem lifted_TakeSay (os : Os) (started : os.Started) (H : Type) (enc : TypeId × Value → H) :
    ReturnsInHanded {} Try.checked os 6 .any (Rows.fnExactTakeSaySpec.pre6 enc Try.prog Try.f6 Rows.fnExactTakeSayRow.domain false) (Rows.fnExactTakeSaySpec.post enc Try.prog Try.f6 false true false false) := by
  refine returnsInHanded_of_change (C := Try.checked) own started (by kernel_rfl) Try.func6
    (ChangeSpec.witness6 (enc := enc) (C := Try.checked) false ⟨#[], #[.agg #[.slice none 0 0, .int .i64 0], .agg #[.string ByteArray.empty, .int .i64 0, .int .i64 0]], []⟩ 8 (by kernel_rfl) (by kernel_rfl) (by kernel_rfl) (by kernel_rfl)) ?_
  intro W base args ds gs before hval0 hW hcnd _
  have hval : ∀ (j : Nat) t v, Try.f6.params[j]? = some t → args[j]? = some v → Value.okWide Try.prog W .any base t v := hval0
  have hW' := hW
  obtain ⟨p, q, hA0, hV, rfl, hfz, hnd⟩ := hW
  have hA : DataW.TrodAll enc Try.prog W 0 (fun _ => true) true Try.f6.params.toList args.toList ds p := hA0
  rw [Try.params6] at hA hval
  obtain ⟨v0, vs0, d0, ds0, p0, q0, hargs, rfl, rfl, h0, r0⟩ := trodAll_cons hA
  obtain ⟨v1, vs1, d1, ds1, p1, q1, rfl, rfl, rfl, h1, r1⟩ := trodAll_cons r0
  obtain ⟨rfl, rfl, rfl⟩ := trodAll_nil r1
  obtain rfl : args = #[v0, v1] := by cases args; simp_all
  obtain ⟨rfl, rfl⟩ := trodVars_none hV
  obtain ⟨x0, R0⟩ := OpensC.arg opensC_24 h0
  have E0 : DS W (· < W.heap.size) (.agg [.lst 2 x0.rows.length (fun i0 j0 => ([.str ((x0.rows.getD i0 (default : GRow)).name), .lst 2 (((x0.rows.getD i0 (default : GRow)).samples).length) (fun i1 j1 => ([.int .i64 ((((x0.rows.getD i0 (default : GRow)).samples).getD i1 (default : GSample)).at_), .int .i64 ((((x0.rows.getD i0 (default : GRow)).samples).getD i1 (default : GSample)).value)] : List AV).getD j1 (.con undef))] : List AV).getD j0 (.con undef)), .int .i64 x0.offset]) v0 := DS.agg_of (let ⟨cs, e, _⟩ := okWide_struct Try.underlying24 (hval 0 24 v0 rfl rfl); ⟨cs, e⟩) R0
  obtain ⟨x1, R1⟩ := OpensC.arg opensC_44 h1
  have E1 : DS W (· < W.heap.size) (.agg [.str x1.name, .int .i64 x1.at_, .int .i64 x1.value]) v1 := DS.agg_of (let ⟨cs, e, _⟩ := okWide_struct Try.underlying44 (hval 1 44 v1 rfl rfl); ⟨cs, e⟩) R1
  clear hA0 hval0
  refine (law_TakeSay x0 x1 W (· < W.heap.size) _ ⟨fun _ h => h, trivial⟩ ⟨_, _, rfl, E0, ⟨_, _, rfl, E1, rfl⟩⟩).mono fun e W' ⟨he, hg⟩ => ?_
  subst he
  exact ⟨_, rfl, law_post hW' rfl laidOut (by kernel_rfl) hg rfl rfl Try.underlying4⟩
/-- The statement. -/
theorem proved_TakeSay : Rows.FnExactTakeSaySaid :=
  OpenClaim.holds_of_wide 6 Try.f6 rfl rfl rfl rfl rfl rfl rfl ⟨rfl, rfl, rfl, rfl, rfl⟩ rfl rfl rfl rfl rfl (by kernel_rfl) Try.func6 (by kernel_rfl)
    (of_decide_eq_true (by kernel_rfl)) (by unfold Func.isWrapper; first | (rw [if_pos (by decide +kernel)]; kernel_rfl) | (rw [if_neg (by decide +kernel)]; exact ⟨rfl, rfl⟩))
    (fun os started H enc _ => lifted_TakeSay os started H enc)
#print axioms proved_TakeSay
end Go.Proofs.Ytmfkmifkkplidaa

