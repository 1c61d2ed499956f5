/-
  TrimHead: the reference and the program make the same.
-/
import Derived.Test.YtmfkmifkkplidaaHd6
import Derived.Test.YtmfkmifkkplidaaKc6
import Derived.Test.YtmfkmifkkplidaaUd
namespace Go.Proofs.Ytmfkmifkkplidaa
open Go.ChangeShapes Go.WideShapes Go.ChangeAt Go.RowKit Go.BigFrame Go.Deep
set_option linter.unusedVariables false
set_option linter.unusedSimpArgs false
theorem vj_ag_29_2 : aggB Try.prog 29 2 = true := by kernel_rfl
theorem vj_ag_67_2 : aggB Try.prog 67 2 = true := by kernel_rfl
theorem vj_ag_81_2 : aggB Try.prog 81 2 = true := by kernel_rfl
theorem vj_ca_10 : callB Try.prog 10 = true := by kernel_rfl
theorem vj_ca_46 : callB Try.prog 46 = true := by kernel_rfl
theorem vj_ca_49 : callB Try.prog 49 = true := by kernel_rfl
theorem vj_ca_52 : callB Try.prog 52 = true := by kernel_rfl
theorem vj_ca_53 : callB Try.prog 53 = true := by kernel_rfl
theorem vj_el_27_2 : elemB Try.prog 27 2 = true := by kernel_rfl
theorem vj_el_33_2 : elemB Try.prog 33 2 = true := by kernel_rfl
theorem vj_fi_29_0_0 : fieldB Try.prog 29 0 0 = true := by kernel_rfl
theorem vj_fi_29_1_1 : fieldB Try.prog 29 1 1 = true := by kernel_rfl
theorem vj_fi_67_0_0 : fieldB Try.prog 67 0 0 = true := by kernel_rfl
theorem vj_fi_67_1_1 : fieldB Try.prog 67 1 1 = true := by kernel_rfl
theorem vj_fi_81_0_0 : fieldB Try.prog 81 0 0 = true := by kernel_rfl
theorem vj_pl_27 : plainB Try.prog 27 = true := by kernel_rfl
theorem vj_pl_3 : plainB Try.prog 3 = true := by kernel_rfl
theorem vj_pl_33 : plainB Try.prog 33 = true := by kernel_rfl
theorem vj_pl_9 : plainB Try.prog 9 = true := by kernel_rfl
theorem vj_sl_27 : sliceB Try.prog 27 = true := by kernel_rfl
theorem vj_sl_33 : sliceB Try.prog 33 = true := by kernel_rfl
theorem vj_sz_27_1 : sizeB Try.prog 27 1 = true := by kernel_rfl
theorem vj_sz_29_2 : sizeB Try.prog 29 2 = true := by kernel_rfl
theorem vj_sz_67_2 : sizeB Try.prog 67 2 = true := by kernel_rfl
theorem vj_sz_81_2 : sizeB Try.prog 81 2 = true := by kernel_rfl
def late (x : Int) (s : GSample) : Bool := decide (x ≤ s.at_)
def trimS (x : Int) (r : GRow) : List GSample := r.samples.filter (late x)
def trimR (x : Int) (r : GRow) : GRow := ⟨r.name, trimS x r⟩
def trimP (x : Int) (r : GRow) : Bool := decide (0 < (trimS x r).length)
def trimL (h : GHead) (x : Int) : List GRow := (h.rows.filter (trimP x)).map (trimR x)
def trimD (h : GHead) (x : Int) : GHead := ⟨trimL h x, h.offset⟩
def trimC (h : GHead) (x : Int) (k : Nat) : Nat := ((h.rows.take k).map fun r => r.samples.length - (trimS x r).length).sum
def trimV (h : GHead) (x : Int) : GHead × Nat × Bool := if goodHead h = true then (trimD h x, trimC h x h.rows.length, true) else (⟨[], 0⟩, 0, false)
def rowC (h : GHead) (x : Int) (K i j : Nat) : AV := ([.str ((trimL h x).getD i (default : GRow)).name, .tre K i] : List AV).getD j (.con undef)
def rowX (h : GHead) (x : Int) (i : Nat) : AV := .lst 2 ((trimL h x).getD i (default : GRow)).samples.length (fun a b => ceSample (((trimL h x).getD i (default : GRow)).samples.getD a (default : GSample)) b)
theorem map_getD {α β : Type} (f : α → β) (d : α) (e : β) (l : List α) (i : Nat) (h : i < l.length) : (l.map f).getD i e = f (l.getD i d) := by
  rw [List.getD_eq_getElem?_getD, List.getElem?_map, List.getD_eq_getElem?_getD, List.getElem?_eq_getElem h]; rfl
theorem trim_at {h : GHead} {x : Int} {k : Nat} (hk : k < h.rows.length) (hp : trimP x (h.rows.getD k (default : GRow)) = true) : (trimL h x).getD (cntP (trimP x) h.rows k) (default : GRow) = trimR x (h.rows.getD k (default : GRow)) := by
  obtain ⟨h1, h2⟩ := cntP_yes (default : GRow) hk hp
  have hlt : cntP (trimP x) h.rows k < (h.rows.filter (trimP x)).length := by
    have h3 : cntP (trimP x) h.rows (k + 1) ≤ (h.rows.filter (trimP x)).length := by
      unfold cntP
      exact (List.Sublist.filter _ (List.take_sublist _ _)).length_le
    omega
  rw [trimL, map_getD (trimR x) (default : GRow) _ _ _ hlt, h2]
theorem trim_len {h : GHead} {x : Int} {k : Nat} (hk : ¬ k < h.rows.length) : (trimL h x).length = cntP (trimP x) h.rows k := by
  rw [cntP_end hk, trimL, List.length_map]
theorem trimS_le (x : Int) (r : GRow) : (trimS x r).length ≤ r.samples.length := List.length_filter_le ..
theorem trimC_succ {h : GHead} {x : Int} {k : Nat} (hk : k < h.rows.length) : trimC h x (k + 1) = trimC h x k + ((h.rows.getD k (default : GRow)).samples.length - (trimS x (h.rows.getD k (default : GRow))).length) := wt_take (f := fun r : GRow => r.samples.length - (trimS x r).length) (default : GRow) hk
theorem sum_mono {α : Type} {f g : α → Nat} (h : ∀ x, f x ≤ g x) (l : List α) : (l.map f).sum ≤ (l.map g).sum := by
  induction l with
  | nil => exact Nat.le_refl _
  | cons a l ih => rw [List.map_cons, List.map_cons, List.sum_cons, List.sum_cons]; exact Nat.add_le_add (h a) ih
theorem trimC_le (h : GHead) (x : Int) (k : Nat) : trimC h x k ≤ wtHead h := by
  refine Nat.le_trans (wt_le _ _ _) (Nat.le_trans (sum_mono (g := wtRow) (fun r => ?_) _) (Nat.le_add_left _ _))
  show r.samples.length - (trimS x r).length ≤ r.name.size + r.samples.length
  omega
theorem smp_le {h : GHead} {k : Nat} (hk : k < h.rows.length) : (h.rows.getD k (default : GRow)).samples.length ≤ wtHead h := by
  have h1 : wtRow (h.rows.getD k (default : GRow)) ≤ (h.rows.map wtRow).sum := wt_at (f := wtRow) (default : GRow) hk
  have h2 : wtRow (h.rows.getD k (default : GRow)) = (h.rows.getD k (default : GRow)).name.size + (h.rows.getD k (default : GRow)).samples.length := rfl
  have h3 : wtHead h = h.rows.length + (h.rows.map wtRow).sum := rfl
  omega
theorem rows_le (h : GHead) : h.rows.length ≤ wtHead h := Nat.le_add_right _ _
def early (x : Int) (s : GSample) : Bool := decide (s.at_ < x)
theorem del_eq (l : List GSample) (x : Int) : l.filter (fun el => !(early x) el) = l.filter (late x) := by
  congr 1; funext s; unfold late early; rw [← decide_not]; exact decide_eq_decide.2 (by omega)
theorem v_Trim1 (s : GSample) (x : Int) : Fn Try.prog 53 [.agg [.int .i64 s.at_, .int .i64 s.value], .one (.ref 1 (fun _ => .int .i64 x))] (.one (.bool (decide (s.at_ < x)))) := by
  refine Fn.of_body (fn := Try.f53) Try.func53 rfl (Nat.le_of_ble_eq_true rfl) trivial ?_
  intro w0
  show AW _ 8 _ _ _ _
  refine AW.seq ?_
  refine AW.region ?_
  refine ARun.box (id := 0) rfl (.tmp rfl) (SV.cells_of (by exact ⟨trivial, trivial, trivial⟩)) ⟨rfl, (by repeat first | exact trivial | refine ⟨by decide, by first | rfl | exact trivial | (intro i j; first | rfl | exact getD_no rfl | (dsimp only; split <;> first | rfl | exact getD_no rfl)), ?_⟩)⟩ rfl rfl rfl (Nat.le_of_ble_eq_true rfl) ?_
  refine ARun.pure (PureOp.assign rfl .bool) rfl rfl (Nat.le_of_ble_eq_true rfl) ?_
  refine ARun.nil ?_
  refine AW.seq ?_
  refine AW.region ?_
  refine ARun.pure (PureOp.fieldPtr rfl (.tmp rfl) vj_fi_81_0_0) rfl rfl (Nat.le_of_ble_eq_true rfl) ?_
  refine ARun.pure (PureOp.loadPtr rfl (.tmp rfl) vj_pl_3 rfl rfl (Nat.le_of_ble_eq_true rfl) (Nat.le_of_ble_eq_true rfl)) rfl rfl (Nat.le_of_ble_eq_true rfl) ?_
  refine ARun.pure (PureOp.loadRef rfl (.tmp rfl) vj_pl_3 (Nat.le_of_ble_eq_true rfl)) rfl rfl (Nat.le_of_ble_eq_true rfl) ?_
  refine ARun.pure (PureOp.intOp rfl (.tmp rfl) (.tmp rfl) rfl) rfl rfl (Nat.le_of_ble_eq_true rfl) ?_
  refine ARun.pure (PureOp.assign rfl (.tmp rfl)) rfl rfl (Nat.le_of_ble_eq_true rfl) ?_
  refine ARun.nil ?_
  refine AW.ret (show ResL _ _ [.tmp 3] _ from resB rfl ?_)
  rfl

theorem v_sTrim (h : GHead) (x : Int) (hw : wtHead h ≤ 1048576) (hx : I64 x) : FnT Try.prog 20 [.agg [.lst 2 h.rows.length (fun i0 j0 => ([.str ((h.rows.getD i0 (default : GRow)).name), .lst 2 (((h.rows.getD i0 (default : GRow)).samples).length) (fun i1 j1 => ([.int .i64 ((((h.rows.getD i0 (default : GRow)).samples).getD i1 (default : GSample)).at_), .int .i64 ((((h.rows.getD i0 (default : GRow)).samples).getD i1 (default : GSample)).value)] : List AV).getD j1 (.con undef))] : List AV).getD j0 (.con undef)), .int .i64 h.offset], .one (.int .i64 x)] (.tup3 (.agg [.lst 2 ((((trimV h x).1).rows).length) (fun i0 j0 => ([.str (((((trimV h x).1).rows).getD i0 (default : GRow)).name), .lst 2 ((((((trimV h x).1).rows).getD i0 (default : GRow)).samples).length) (fun i1 j1 => ([.int .i64 (((((((trimV h x).1).rows).getD i0 (default : GRow)).samples).getD i1 (default : GSample)).at_), .int .i64 (((((((trimV h x).1).rows).getD i0 (default : GRow)).samples).getD i1 (default : GSample)).value)] : List AV).getD j1 (.con undef))] : List AV).getD j0 (.con undef)), .int .i64 (((trimV h x).1).offset)]) (.one (.int .i64 (((trimV h x).2.1 : Nat) : Int))) (.one (.bool ((trimV h x).2.2)))) := by
  obtain ⟨hx0, hx1⟩ := hx
  have hr0 := rows_le h
  refine FnT.of_body (fn := Try.f20) Try.func20 rfl (Nat.le_of_ble_eq_true rfl)  ?_
  intro w0
  show AW _ 61 _ _ _ _
  refine AW.seq ?_
  refine AW.region ?_
  refine ARun.box (id := 0) rfl (.tmp rfl) (SV.cells_of (by exact ⟨trivial, trivial, trivial⟩)) ⟨rfl, (by repeat first | exact trivial | refine ⟨by decide, by first | rfl | exact trivial | (intro i j; first | rfl | exact getD_no rfl | (dsimp only; split <;> first | rfl | exact getD_no rfl)), ?_⟩)⟩ rfl rfl rfl (Nat.le_of_ble_eq_true rfl) ?_
  refine ARun.alloc (id := 1) (l := [.con (.slice none 0 0), .int .i64 0]) (z := (.agg #[.slice none 0 0, .int .i64 0])) rfl (by kernel_rfl) (fun _ _ _ => ⟨_, _, rfl, rfl, ⟨_, _, rfl, rfl, rfl⟩⟩) ⟨rfl, (by repeat first | exact trivial | refine ⟨by decide, by first | rfl | exact trivial | (intro i j; first | rfl | exact getD_no rfl | (dsimp only; split <;> first | rfl | exact getD_no rfl)), ?_⟩)⟩ rfl rfl rfl (Nat.le_of_ble_eq_true rfl) ?_
  refine ARun.pure (PureOp.assign rfl .int) rfl rfl (Nat.le_of_ble_eq_true rfl) ?_
  refine ARun.pure (PureOp.assign rfl .bool) rfl rfl (Nat.le_of_ble_eq_true rfl) ?_
  refine ARun.nil ?_
  refine AW.seq ?_
  refine AW.seq ?_
  refine AW.region ?_
  refine ARun.pure (PureOp.loadPtrAgg rfl (.tmp rfl) vj_ag_29_2 rfl rfl (Nat.le_of_ble_eq_true rfl) (Nat.le_of_ble_eq_true rfl)) rfl rfl (Nat.le_of_ble_eq_true rfl) ?_
  refine ARun.pure (PureOp.call rfl (v_specGoodHead h) ⟨⟨_, (.tmp rfl), ⟨.lst, .int, trivial⟩⟩, trivial⟩ vj_ca_10 trivial) rfl rfl (Nat.le_of_ble_eq_true rfl) ?_
  refine ARun.pure (PureOp.not rfl (.tmp rfl)) rfl rfl (Nat.le_of_ble_eq_true rfl) ?_
  refine ARun.nil ?_
  refine AW.cond (.tmp rfl) (fun hb1 => ?_) (fun hb1 => ?_)
  · have _u := True.intro
    have hc0 : goodHead h = false := by revert hb1; generalize goodHead h = a1; revert a1; decide
    refine AW.seq ?_
    refine AW.region ?_
    refine ARun.pure (PureOp.build (ys := []) (l := [.con (.slice none 0 0), .int .i64 0]) (pl := [(0, 1), (1, 1)]) (z := (.agg #[.slice none 0 0, .int .i64 0])) rfl (by kernel_rfl) (by kernel_rfl) (fun _ _ _ => ⟨_, _, rfl, rfl, ⟨_, _, rfl, rfl, rfl⟩⟩) trivial rfl) rfl rfl (Nat.le_of_ble_eq_true rfl) ?_
    refine ARun.store rfl (.tmp rfl) (.tmp rfl) (SV.cells_of (by exact ⟨⟨rfl, (fun _ e => by cases e), (fun _ e => by cases e)⟩, trivial, trivial⟩)) rfl (Nat.le_of_ble_eq_true rfl) vj_sz_29_2 rfl rfl ?_
    refine ARun.pure (PureOp.assign rfl .int) rfl rfl (Nat.le_of_ble_eq_true rfl) ?_
    refine ARun.pure (PureOp.assign rfl .bool) rfl rfl (Nat.le_of_ble_eq_true rfl) ?_
    refine ARun.nil ?_
    rw [show trimV h x = (⟨[], 0⟩, 0, false) from if_neg (by rw [hc0]; decide)]
    exact AW.ret (show ∃ s t, ResL _ _ [.cell 4 29, .tmp 5, .tmp 6] s ∧ TvS _ (ofLeaf t) 0 s _ from ⟨_, fun a b => 1000, .inr (.inr ⟨_, _, _, _, _, _, rfl, .cells rfl vj_ag_29_2 rfl rfl (Nat.le_of_ble_eq_true rfl) (Nat.le_of_ble_eq_true rfl), .tmp rfl, .tmp rfl, rfl⟩), ⟨⟨.nil, .int, trivial⟩, .int, .bool⟩⟩)
  · have _u := True.intro
    have hc0 : goodHead h = true := by revert hb1; generalize goodHead h = a1; revert a1; decide
    refine AW.skip ?_
    refine AW.seq ?_
    refine AW.region ?_
    refine ARun.pure (PureOp.fieldPtr rfl (.tmp rfl) vj_fi_29_1_1) rfl rfl (Nat.le_of_ble_eq_true rfl) ?_
    refine ARun.pure (PureOp.loadPtr rfl (.tmp rfl) vj_pl_3 rfl rfl (Nat.le_of_ble_eq_true rfl) (Nat.le_of_ble_eq_true rfl)) rfl rfl (Nat.le_of_ble_eq_true rfl) ?_
    refine ARun.pure (PureOp.build (ys := [.int .i64 h.offset]) (l := [.con (.slice none 0 0), .int .i64 0]) (pl := [(0, 1), (1, 1)]) (z := (.agg #[.slice none 0 0, .int .i64 0])) rfl (by kernel_rfl) (by kernel_rfl) (fun _ _ _ => ⟨_, _, rfl, rfl, ⟨_, _, rfl, rfl, rfl⟩⟩) ⟨(.tmp rfl), trivial, rfl, trivial⟩ rfl) rfl rfl (Nat.le_of_ble_eq_true rfl) ?_
    refine ARun.alloc (id := 2) (l := [.con (.slice none 0 0), .int .i64 0]) (z := (.agg #[.slice none 0 0, .int .i64 0])) rfl (by kernel_rfl) (fun _ _ _ => ⟨_, _, rfl, rfl, ⟨_, _, rfl, rfl, rfl⟩⟩) ⟨rfl, (by repeat first | exact trivial | refine ⟨by decide, by first | rfl | exact trivial | (intro i j; first | rfl | exact getD_no rfl | (dsimp only; split <;> first | rfl | exact getD_no rfl)), ?_⟩)⟩ rfl rfl rfl (Nat.le_of_ble_eq_true rfl) ?_
    refine ARun.store rfl (.tmp rfl) (.tmp rfl) (SV.cells_of (by exact ⟨⟨rfl, (fun _ e => by cases e), (fun _ e => by cases e)⟩, trivial, trivial⟩)) rfl (Nat.le_of_ble_eq_true rfl) vj_sz_29_2 rfl rfl ?_
    refine ARun.nil ?_
    refine AW.seq ?_
    refine AW.region ?_
    refine ARun.pure (PureOp.assign rfl .int) rfl rfl (Nat.le_of_ble_eq_true rfl) ?_
    refine ARun.nil ?_
    refine AW.seq ?_
    refine AW.seq ?_
    refine AW.region ?_
    refine ARun.pure (PureOp.fieldPtr rfl (.tmp rfl) vj_fi_29_0_0) rfl rfl (Nat.le_of_ble_eq_true rfl) ?_
    refine ARun.pure (PureOp.loadPtr rfl (.tmp rfl) vj_pl_27 rfl rfl (Nat.le_of_ble_eq_true rfl) (Nat.le_of_ble_eq_true rfl)) rfl rfl (Nat.le_of_ble_eq_true rfl) ?_
    refine ARun.pure (PureOp.lenLst rfl (.tmp rfl) vj_sl_27) rfl rfl (Nat.le_of_ble_eq_true rfl) ?_
    refine ARun.pure (PureOp.move rfl .int) rfl rfl (Nat.le_of_ble_eq_true rfl) ?_
    refine ARun.nil ?_
    refine AW.block ?_
    refine AW.fam (id := 4) (rowX h x) ⟨rfl, (by repeat first | exact trivial | refine ⟨by decide, by first | rfl | exact trivial | (intro i j; first | rfl | exact getD_no rfl | (dsimp only; split <;> first | rfl | exact getD_no rfl)), ?_⟩)⟩ ?_
    refine AW.nilCell 2 0 3 2 _ (rowC h x 4) rfl rfl ⟨rfl, (by repeat first | exact trivial | refine ⟨by decide, by first | rfl | exact trivial | (intro i j; first | rfl | exact getD_no rfl | (dsimp only; split <;> first | rfl | exact getD_no rfl)), ?_⟩)⟩ ?_
    -- objects are renamed
    refine AW.loopR (ι := Nat) (fun k => ⟨[(1, .one (.int .i64 x)), (4, .one (.ptr 1 2 0 0)), (7, .one (.ptr 2 2 0 0)), (8, .one (.int .i64 ((trimC h x k : Nat) : Int))), (22, .one (.lst 2 h.rows.length (fun i0 j0 => ([.str ((h.rows.getD i0 (default : GRow)).name), .lst 2 (((h.rows.getD i0 (default : GRow)).samples).length) (fun i1 j1 => ([.int .i64 ((((h.rows.getD i0 (default : GRow)).samples).getD i1 (default : GSample)).at_), .int .i64 ((((h.rows.getD i0 (default : GRow)).samples).getD i1 (default : GSample)).value)] : List AV).getD j1 (.con undef))] : List AV).getD j0 (.con undef)))), (23, .one (.int .i64 (h.rows.length : Int))), (24, .one (.int .i64 (k : Int)))], [(1, .cells [.con (.slice none 0 0), .int .i64 0]), (2, .cells [.own 3 2 (cntP (trimP x) h.rows k), .int .i64 h.offset]), (3, .arr 2 (cntP (trimP x) h.rows k) (rowC h x 4)), (4, .trees (cntP (trimP x) h.rows k) (rowX h x))]⟩) (fun k => k ≤ h.rows.length) (fun k => h.rows.length - k) 0 (Nat.zero_le _) ⟨⟨⟨_, rfl, rfl⟩, ⟨_, rfl, rfl⟩, ⟨_, rfl, rfl⟩, ⟨_, rfl, rfl⟩, ⟨_, rfl, rfl⟩, ⟨_, rfl, rfl⟩, ⟨_, rfl, rfl⟩, trivial⟩, ⟨⟨_, rfl, rfl, Nat.le_refl _, fun _ _ _ _ => rfl⟩, ⟨_, rfl, rfl, Nat.le_refl _, fun _ _ _ _ => rfl⟩, ⟨_, rfl, rfl, Nat.le_refl _, fun _ _ _ _ => rfl⟩, ⟨_, rfl, fun _ _ => rfl⟩, trivial⟩⟩ ?_
    intro k hk
    have hcl := cntP_le (trimP x) h.rows k
    have htc := trimC_le h x k
    refine AW.seq ?_
    refine AW.region ?_
    refine ARun.pure (PureOp.intOp rfl (.tmp rfl) (.tmp rfl) rfl) rfl rfl (Nat.le_of_ble_eq_true rfl) ?_
    refine ARun.nil ?_
    refine AW.seq ?_
    refine AW.cond (.tmp rfl) (fun hb2 => ?_) (fun hb2 => ?_)
    · have _u := True.intro
      replace hb2 := of_decide_eq_true hb2
      have hkl : k < h.rows.length := by omega
      have hsl := smp_le hkl
      have hsp := trimS_le x (h.rows.getD k (default : GRow))
      have hcs := trimC_succ (x := x) hkl
      refine AW.skip ?_
      refine AW.seq ?_
      refine AW.block ?_
      refine AW.seq ?_
      refine AW.region ?_
      refine ARun.pure (PureOp.indexLst (i := k) rfl (.tmp rfl) vj_el_27_2 (.tmp rfl) rfl (by omega)) rfl rfl (Nat.le_of_ble_eq_true rfl) ?_
      refine ARun.pure (PureOp.loadRefAgg rfl (.tmp rfl) vj_ag_67_2 (Nat.le_of_ble_eq_true rfl)) rfl rfl (Nat.le_of_ble_eq_true rfl) ?_
      refine ARun.alloc (id := 5) (l := [.str ByteArray.empty, .con (.slice none 0 0)]) (z := (.agg #[.string ByteArray.empty, .slice none 0 0])) rfl (by kernel_rfl) (fun _ _ _ => ⟨_, _, rfl, ⟨rfl, by decide⟩, ⟨_, _, rfl, rfl, rfl⟩⟩) ⟨rfl, (by repeat first | exact trivial | refine ⟨by decide, by first | rfl | exact trivial | (intro i j; first | rfl | exact getD_no rfl | (dsimp only; split <;> first | rfl | exact getD_no rfl)), ?_⟩)⟩ rfl rfl rfl (Nat.le_of_ble_eq_true rfl) ?_
      refine ARun.store rfl (.tmp rfl) (.tmp rfl) (SV.cells_of (by exact ⟨trivial, trivial, trivial⟩)) rfl (Nat.le_of_ble_eq_true rfl) vj_sz_67_2 rfl rfl ?_
      refine ARun.nil ?_
      refine AW.seq ?_
      refine AW.region ?_
      refine ARun.pure (PureOp.assign rfl .con) rfl rfl (Nat.le_of_ble_eq_true rfl) ?_
      refine ARun.nil ?_
      refine AW.seq ?_
      refine AW.seq ?_
      refine AW.region ?_
      refine ARun.pure (PureOp.fieldPtr rfl (.tmp rfl) vj_fi_67_1_1) rfl rfl (Nat.le_of_ble_eq_true rfl) ?_
      refine ARun.pure (PureOp.loadPtr rfl (.tmp rfl) vj_pl_33 rfl rfl (Nat.le_of_ble_eq_true rfl) (Nat.le_of_ble_eq_true rfl)) rfl rfl (Nat.le_of_ble_eq_true rfl) ?_
      refine ARun.pure (PureOp.lenLst rfl (.tmp rfl) vj_sl_33) rfl rfl (Nat.le_of_ble_eq_true rfl) ?_
      refine ARun.pure (PureOp.move rfl .int) rfl rfl (Nat.le_of_ble_eq_true rfl) ?_
      refine ARun.nil ?_
      refine AW.block ?_
      refine AW.nilSlot 11 6 2 (fun a b => ceSample ((trimS x (h.rows.getD k (default : GRow))).getD a (default : GSample)) b) rfl ⟨rfl, (by repeat first | exact trivial | refine ⟨by decide, by first | rfl | exact trivial | (intro i j; first | rfl | exact getD_no rfl | (dsimp only; split <;> first | rfl | exact getD_no rfl)), ?_⟩)⟩ ?_
      -- objects are renamed
      refine AW.loopR (ι := Nat) (fun j => ⟨[(1, .one (.int .i64 x)), (4, .one (.ptr 1 2 0 0)), (7, .one (.ptr 2 2 0 0)), (8, .one (.int .i64 ((trimC h x k + (j - cntP (late x) (h.rows.getD k (default : GRow)).samples j) : Nat) : Int))), (10, .one (.ptr 5 2 0 0)), (11, .one (.own 6 2 (cntP (late x) (h.rows.getD k (default : GRow)).samples j))), (22, .one (.lst 2 h.rows.length (fun i0 j0 => ([.str ((h.rows.getD i0 (default : GRow)).name), .lst 2 (((h.rows.getD i0 (default : GRow)).samples).length) (fun i1 j1 => ([.int .i64 ((((h.rows.getD i0 (default : GRow)).samples).getD i1 (default : GSample)).at_), .int .i64 ((((h.rows.getD i0 (default : GRow)).samples).getD i1 (default : GSample)).value)] : List AV).getD j1 (.con undef))] : List AV).getD j0 (.con undef)))), (23, .one (.int .i64 (h.rows.length : Int))), (24, .one (.int .i64 (k : Int))), (29, .one (.lst 2 (((h.rows.getD k (default : GRow)).samples).length) (fun i0 j0 => ([.int .i64 ((((h.rows.getD k (default : GRow)).samples).getD i0 (default : GSample)).at_), .int .i64 ((((h.rows.getD k (default : GRow)).samples).getD i0 (default : GSample)).value)] : List AV).getD j0 (.con undef)))), (30, .one (.int .i64 ((((h.rows.getD k (default : GRow)).samples).length : Nat) : Int))), (31, .one (.int .i64 (j : Int)))], [(1, .cells [.con (.slice none 0 0), .int .i64 0]), (2, .cells [.own 3 2 (cntP (trimP x) h.rows k), .int .i64 h.offset]), (3, .arr 2 (cntP (trimP x) h.rows k) (rowC h x 4)), (4, .trees (cntP (trimP x) h.rows k) (rowX h x)), (5, .cells [.str ((h.rows.getD k (default : GRow)).name), .lst 2 (((h.rows.getD k (default : GRow)).samples).length) (fun i0 j0 => ([.int .i64 ((((h.rows.getD k (default : GRow)).samples).getD i0 (default : GSample)).at_), .int .i64 ((((h.rows.getD k (default : GRow)).samples).getD i0 (default : GSample)).value)] : List AV).getD j0 (.con undef))]), (6, .arr 2 (cntP (late x) (h.rows.getD k (default : GRow)).samples j) (fun a b => ceSample ((trimS x (h.rows.getD k (default : GRow))).getD a (default : GSample)) b))]⟩) (fun j => j ≤ (h.rows.getD k (default : GRow)).samples.length) (fun j => (h.rows.getD k (default : GRow)).samples.length - j) 0 (Nat.zero_le _) ⟨⟨⟨_, rfl, rfl⟩, ⟨_, rfl, rfl⟩, ⟨_, rfl, rfl⟩, ⟨_, rfl, rfl⟩, ⟨_, rfl, rfl⟩, ⟨_, rfl, rfl⟩, ⟨_, rfl, rfl⟩, ⟨_, rfl, rfl⟩, ⟨_, rfl, rfl⟩, ⟨_, rfl, rfl⟩, ⟨_, rfl, rfl⟩, ⟨_, rfl, rfl⟩, trivial⟩, ⟨⟨_, rfl, rfl, Nat.le_refl _, fun _ _ _ _ => rfl⟩, ⟨_, rfl, rfl, Nat.le_refl _, fun _ _ _ _ => rfl⟩, ⟨_, rfl, rfl, Nat.le_refl _, fun _ _ _ _ => rfl⟩, ⟨_, rfl, fun _ _ => rfl⟩, ⟨_, rfl, rfl, Nat.le_refl _, fun _ _ _ _ => rfl⟩, ⟨_, rfl, rfl, Nat.le_refl _, fun _ _ _ _ => rfl⟩, trivial⟩⟩ ?_
      intro j hj
      have hcj := cntP_le (late x) (h.rows.getD k (default : GRow)).samples j
      have hcj2 := cntP_leK (late x) (h.rows.getD k (default : GRow)).samples j
      refine AW.seq ?_
      refine AW.region ?_
      refine ARun.pure (PureOp.intOp rfl (.tmp rfl) (.tmp rfl) rfl) rfl rfl (Nat.le_of_ble_eq_true rfl) ?_
      refine ARun.nil ?_
      refine AW.seq ?_
      refine AW.cond (.tmp rfl) (fun hb3 => ?_) (fun hb3 => ?_)
      · have _u := True.intro
        replace hb3 := of_decide_eq_true hb3
        have hjl : j < (h.rows.getD k (default : GRow)).samples.length := by omega
        refine AW.skip ?_
        refine AW.seq ?_
        refine AW.block ?_
        refine AW.seq ?_
        refine AW.region ?_
        refine ARun.pure (PureOp.indexLst (i := j) rfl (.tmp rfl) vj_el_33_2 (.tmp rfl) rfl (by omega)) rfl rfl (Nat.le_of_ble_eq_true rfl) ?_
        refine ARun.pure (PureOp.loadRefAgg rfl (.tmp rfl) vj_ag_81_2 (Nat.le_of_ble_eq_true rfl)) rfl rfl (Nat.le_of_ble_eq_true rfl) ?_
        refine ARun.alloc (id := 7) (l := [.int .i64 0, .int .i64 0]) (z := (.agg #[.int .i64 0, .int .i64 0])) rfl (by kernel_rfl) (fun _ _ _ => ⟨_, _, rfl, rfl, ⟨_, _, rfl, rfl, rfl⟩⟩) ⟨rfl, (by repeat first | exact trivial | refine ⟨by decide, by first | rfl | exact trivial | (intro i j; first | rfl | exact getD_no rfl | (dsimp only; split <;> first | rfl | exact getD_no rfl)), ?_⟩)⟩ rfl rfl rfl (Nat.le_of_ble_eq_true rfl) ?_
        refine ARun.store rfl (.tmp rfl) (.tmp rfl) (SV.cells_of (by exact ⟨trivial, trivial, trivial⟩)) rfl (Nat.le_of_ble_eq_true rfl) vj_sz_81_2 rfl rfl ?_
        refine ARun.nil ?_
        refine AW.seq ?_
        refine AW.region ?_
        refine ARun.pure (PureOp.fieldPtr rfl (.tmp rfl) vj_fi_81_0_0) rfl rfl (Nat.le_of_ble_eq_true rfl) ?_
        refine ARun.pure (PureOp.loadPtr rfl (.tmp rfl) vj_pl_3 rfl rfl (Nat.le_of_ble_eq_true rfl) (Nat.le_of_ble_eq_true rfl)) rfl rfl (Nat.le_of_ble_eq_true rfl) ?_
        refine ARun.pure (PureOp.move rfl (.tmp rfl)) rfl rfl (Nat.le_of_ble_eq_true rfl) ?_
        refine ARun.pure (PureOp.intOp rfl (.tmp rfl) (.tmp rfl) rfl) rfl rfl (Nat.le_of_ble_eq_true rfl) ?_
        refine ARun.nil ?_
        refine AW.cond (.tmp rfl) (fun hb4 => ?_) (fun hb4 => ?_)
        · have _u := True.intro
          have hp : late x ((h.rows.getD k (default : GRow)).samples.getD j (default : GSample)) = true := hb4
          obtain ⟨hci, hati0⟩ := cntP_yes (default : GSample) hjl hp
          have hati : (trimS x (h.rows.getD k (default : GRow))).getD (cntP (late x) (h.rows.getD k (default : GRow)).samples j) (default : GSample) = _ := hati0
          refine AW.region ?_
          refine ARun.pure (PureOp.move rfl (.tmp rfl)) rfl rfl (Nat.le_of_ble_eq_true rfl) ?_
          refine ARun.pure (PureOp.loadPtrAgg rfl (.tmp rfl) vj_ag_81_2 rfl rfl (Nat.le_of_ble_eq_true rfl) (Nat.le_of_ble_eq_true rfl)) rfl rfl (Nat.le_of_ble_eq_true rfl) ?_
          refine ARun.slice1 (id := 8) (z := (.agg #[.int .i64 0, .int .i64 0])) (by_ := 16) rfl (.tmp rfl) (SV.cells_of (by exact ⟨trivial, trivial, trivial⟩)) (by kernel_rfl) rfl rfl (by decide) (by decide) ⟨rfl, (by repeat first | exact trivial | refine ⟨by decide, by first | rfl | exact trivial | (intro i j; first | rfl | exact getD_no rfl | (dsimp only; split <;> first | rfl | exact getD_no rfl)), ?_⟩)⟩ rfl rfl rfl (Nat.le_of_ble_eq_true rfl) ?_
          refine ARun.append (id := 9) (sz := 2) (n := (cntP (late x) (h.rows.getD k (default : GRow)).samples j)) (m := 1) (by_ := 16) (z := (.agg #[.int .i64 0, .int .i64 0])) (f := fun a b => ceSample ((trimS x (h.rows.getD k (default : GRow))).getD a (default : GSample)) b) (g := fun _ jc => ([.int .i64 ((((h.rows.getD k (default : GRow)).samples).getD j (default : GSample)).at_), .int .i64 ((((h.rows.getD k (default : GRow)).samples).getD j (default : GSample)).value)] : List AV).getD jc (.con undef)) (h := fun ia ja => if ia < (cntP (late x) (h.rows.getD k (default : GRow)).samples j) then (fun a b => ceSample ((trimS x (h.rows.getD k (default : GRow))).getD a (default : GSample)) b) ia ja else (fun _ jc => ([.int .i64 ((((h.rows.getD k (default : GRow)).samples).getD j (default : GSample)).at_), .int .i64 ((((h.rows.getD k (default : GRow)).samples).getD j (default : GSample)).value)] : List AV).getD jc (.con undef)) (ia - (cntP (late x) (h.rows.getD k (default : GRow)).samples j)) ja) rfl (by kernel_rfl) rfl vj_sl_33 (.own (.tmp rfl) rfl rfl rfl (Nat.le_refl _) (fun _ _ _ _ => rfl)) (.own (.tmp rfl) rfl rfl (Nat.le_refl _) (fun _ _ _ _ => rfl)) (by decide) (fun i j hi hj => match j, hj with | 0, _ => rfl | 1, _ => rfl | _ + 2, h => absurd h (by omega)) (fun _ _ _ _ => rfl) (by omega) (by omega) ⟨rfl, (by repeat first | exact trivial | refine ⟨by decide, by first | rfl | exact trivial | (intro i j; first | rfl | exact getD_no rfl | (dsimp only; split <;> first | rfl | exact getD_no rfl)), ?_⟩)⟩ (fun i j => by dsimp only; split <;> first | rfl | exact getD_no rfl) rfl rfl (Nat.le_of_ble_eq_true rfl) ?_
          refine ARun.pure (PureOp.assign rfl (.tmp rfl)) rfl rfl (Nat.le_of_ble_eq_true rfl) ?_
          refine ARun.nil ?_
          refine AW.region ?_
          refine ARun.pure (PureOp.add (c := ((j + 1 : Nat) : Int)) rfl (.tmp rfl) .int (by rw [wrap_id (by omega) (by omega)]; omega)) rfl rfl (Nat.le_of_ble_eq_true rfl) ?_
          refine ARun.pure (PureOp.move rfl (.tmp rfl)) rfl rfl (Nat.le_of_ble_eq_true rfl) ?_
          refine ARun.nil ?_
          exact ⟨j + 1, (swp 6 9), by omega, by dsimp only; omega, swp_inj, (swp_fix rfl rfl), ⟨⟨⟨_, rfl, rfl⟩, ⟨_, rfl, rfl⟩, ⟨_, rfl, rfl⟩, ⟨_, rfl, congrArg (fun z : Nat => SV.one (.int .i64 (z : Int))) (by omega)⟩, ⟨_, rfl, rfl⟩, ⟨_, rfl, congrArg (fun n => SV.one (.own 9 2 n)) hci.symm⟩, ⟨_, rfl, rfl⟩, ⟨_, rfl, rfl⟩, ⟨_, rfl, rfl⟩, ⟨_, rfl, rfl⟩, ⟨_, rfl, rfl⟩, ⟨_, rfl, rfl⟩, trivial⟩, ⟨⟨_, rfl, rfl, Nat.le_refl _, fun _ _ _ _ => rfl⟩, ⟨_, rfl, rfl, Nat.le_refl _, fun _ _ _ _ => rfl⟩, ⟨_, rfl, rfl, Nat.le_refl _, fun i b _ (hj : b < 2) => match b, hj with | 0, _ => rfl | 1, _ => rfl | _ + 2, h => absurd h (by omega)⟩, ⟨_, rfl, fun _ _ => rfl⟩, ⟨_, rfl, rfl, Nat.le_refl _, fun _ _ _ _ => rfl⟩, ⟨_, rfl, rfl, Nat.le_of_eq hci, fun i b hi (hj : b < 2) => match b, hj with | 0, _ => app_at (show i < cntP (late x) (h.rows.getD k (default : GRow)).samples j + 1 from hci ▸ hi) (fun _ => rfl) (fun h => by subst h; exact congrArg (fun e : GSample => ceSample e 0) hati.symm) | 1, _ => app_at (show i < cntP (late x) (h.rows.getD k (default : GRow)).samples j + 1 from hci ▸ hi) (fun _ => rfl) (fun h => by subst h; exact congrArg (fun e : GSample => ceSample e 1) hati.symm) | _ + 2, h => absurd h (by omega)⟩, trivial⟩⟩⟩
        · have _u := True.intro
          have hp : late x ((h.rows.getD k (default : GRow)).samples.getD j (default : GSample)) = false := hb4
          have hci := cntP_no (default : GSample) hjl hp
          refine AW.region ?_
          refine ARun.pure (PureOp.move rfl (.tmp rfl)) rfl rfl (Nat.le_of_ble_eq_true rfl) ?_
          refine ARun.pure (PureOp.add (c := ((trimC h x k + (j - cntP (late x) (h.rows.getD k (default : GRow)).samples j) + 1 : Nat) : Int)) rfl (.tmp rfl) .int (by rw [wrap_id (by omega) (by omega)]; omega)) rfl rfl (Nat.le_of_ble_eq_true rfl) ?_
          refine ARun.pure (PureOp.assign rfl (.tmp rfl)) rfl rfl (Nat.le_of_ble_eq_true rfl) ?_
          refine ARun.nil ?_
          refine AW.region ?_
          refine ARun.pure (PureOp.add (c := ((j + 1 : Nat) : Int)) rfl (.tmp rfl) .int (by rw [wrap_id (by omega) (by omega)]; omega)) rfl rfl (Nat.le_of_ble_eq_true rfl) ?_
          refine ARun.pure (PureOp.move rfl (.tmp rfl)) rfl rfl (Nat.le_of_ble_eq_true rfl) ?_
          refine ARun.nil ?_
          exact ⟨j + 1, id, by omega, by dsimp only; omega, id_inj, (fun _ _ => rfl), ⟨⟨⟨_, rfl, rfl⟩, ⟨_, rfl, rfl⟩, ⟨_, rfl, rfl⟩, ⟨_, rfl, congrArg (fun z : Nat => SV.one (.int .i64 (z : Int))) (by omega)⟩, ⟨_, rfl, rfl⟩, ⟨_, rfl, congrArg (fun n => SV.one (.own 6 2 n)) hci.symm⟩, ⟨_, rfl, rfl⟩, ⟨_, rfl, rfl⟩, ⟨_, rfl, rfl⟩, ⟨_, rfl, rfl⟩, ⟨_, rfl, rfl⟩, ⟨_, rfl, rfl⟩, trivial⟩, ⟨⟨_, rfl, rfl, Nat.le_refl _, fun _ _ _ _ => rfl⟩, ⟨_, rfl, rfl, Nat.le_refl _, fun _ _ _ _ => rfl⟩, ⟨_, rfl, rfl, Nat.le_refl _, fun i b _ (hj : b < 2) => match b, hj with | 0, _ => rfl | 1, _ => rfl | _ + 2, h => absurd h (by omega)⟩, ⟨_, rfl, fun _ _ => rfl⟩, ⟨_, rfl, rfl, Nat.le_refl _, fun _ _ _ _ => rfl⟩, ⟨_, rfl, rfl, Nat.le_of_eq hci, fun i j _ (hj : j < 2) => match j, hj with | 0, _ => rfl | 1, _ => rfl | _ + 2, h => absurd h (by omega)⟩, trivial⟩⟩⟩
      · have _u := True.intro
        replace hb3 := of_decide_eq_false hb3
        have hjl : ¬ j < (h.rows.getD k (default : GRow)).samples.length := by omega
        refine AW.exit ?_
        refine AW.seq ?_
        refine AW.region ?_
        refine ARun.pure (PureOp.move rfl (.tmp rfl)) rfl rfl (Nat.le_of_ble_eq_true rfl) ?_
        refine ARun.pure (PureOp.lenOwn rfl (.tmp rfl) vj_sl_33) rfl rfl (Nat.le_of_ble_eq_true rfl) ?_
        refine ARun.pure (PureOp.intOp rfl (.tmp rfl) .int rfl) rfl rfl (Nat.le_of_ble_eq_true rfl) ?_
        refine ARun.nil ?_
        refine AW.cond (.tmp rfl) (fun hb5 => ?_) (fun hb5 => ?_)
        · have _u := True.intro
          have hje : cntP (late x) (h.rows.getD k (default : GRow)).samples j = (trimS x (h.rows.getD k (default : GRow))).length := cntP_end hjl
          replace hb5 := of_decide_eq_true hb5
          have hp : trimP x (h.rows.getD k (default : GRow)) = true := by unfold trimP; exact decide_eq_true (by omega)
          have hc := (cntP_yes (default : GRow) hkl hp).1
          have hat := trim_at hkl hp
          have hcc : trimC h x k + (j - cntP (late x) (h.rows.getD k (default : GRow)).samples j) = trimC h x (k + 1) := by omega
          refine AW.region ?_
          refine ARun.closeRow 11 6 4 (cntP (trimP x) h.rows k) 2 (cntP (late x) (h.rows.getD k (default : GRow)).samples j) (m' := ((trimL h x).getD (cntP (trimP x) h.rows k) (default : GRow)).samples.length) (X := rowX h x) (g := fun a b => ceSample (((trimL h x).getD (cntP (trimP x) h.rows k) (default : GRow)).samples.getD a (default : GSample)) b) rfl rfl rfl rfl (Nat.le_refl _) rfl rfl rfl (by rw [hat]; exact hje.symm) (fun i b hi (hj : b < 2) => by
      show _ = ceSample (((trimL h x).getD (cntP (trimP x) h.rows k) (default : GRow)).samples.getD i (default : GSample)) b
      rw [hat]; show _ = ceSample ((trimS x (h.rows.getD k (default : GRow))).getD i (default : GSample)) b; exact (match b, hj with | 0, _ => rfl | 1, _ => rfl | _ + 2, h => absurd h (by omega))) (fun i b hi hj => match b, hj with | 0, _ => rfl | 1, _ => rfl | _ + 2, h => absurd h (by omega)) ?_
          refine ARun.pure (PureOp.fieldPtr rfl (.tmp rfl) vj_fi_29_0_0) rfl rfl (Nat.le_of_ble_eq_true rfl) ?_
          refine ARun.pure (PureOp.loadPtr rfl (.tmp rfl) vj_pl_27 rfl rfl (Nat.le_of_ble_eq_true rfl) (Nat.le_of_ble_eq_true rfl)) rfl rfl (Nat.le_of_ble_eq_true rfl) ?_
          refine ARun.pure (PureOp.fieldPtr rfl (.tmp rfl) vj_fi_67_0_0) rfl rfl (Nat.le_of_ble_eq_true rfl) ?_
          refine ARun.pure (PureOp.loadPtr rfl (.tmp rfl) vj_pl_9 rfl rfl (Nat.le_of_ble_eq_true rfl) (Nat.le_of_ble_eq_true rfl)) rfl rfl (Nat.le_of_ble_eq_true rfl) ?_
          refine ARun.pure (PureOp.move rfl (.tmp rfl)) rfl rfl (Nat.le_of_ble_eq_true rfl) ?_
          refine ARun.pure (PureOp.build (ys := [.str ((h.rows.getD k (default : GRow)).name), .tre 4 (cntP (trimP x) h.rows k)]) (l := [.str ByteArray.empty, .con (.slice none 0 0)]) (pl := [(0, 1), (1, 1)]) (z := (.agg #[.string ByteArray.empty, .slice none 0 0])) rfl (by kernel_rfl) (by kernel_rfl) (fun _ _ _ => ⟨_, _, rfl, ⟨rfl, by decide⟩, ⟨_, _, rfl, rfl, rfl⟩⟩) ⟨(.tmp rfl), trivial, rfl, ⟨(.tmp rfl), trivial, rfl, trivial⟩⟩ rfl) rfl rfl (Nat.le_of_ble_eq_true rfl) ?_
          refine ARun.slice1 (id := 10) (z := (.agg #[.string ByteArray.empty, .slice none 0 0])) (by_ := 40) rfl (.tmp rfl) (SV.cells_of (by exact ⟨trivial, trivial, trivial⟩)) (by kernel_rfl) rfl rfl (by decide) (by decide) ⟨rfl, (by repeat first | exact trivial | refine ⟨by decide, by first | rfl | exact trivial | (intro i j; first | rfl | exact getD_no rfl | (dsimp only; split <;> first | rfl | exact getD_no rfl)), ?_⟩)⟩ rfl rfl rfl (Nat.le_of_ble_eq_true rfl) ?_
          refine ARun.append (id := 11) (sz := 2) (n := (cntP (trimP x) h.rows k)) (m := 1) (by_ := 40) (z := (.agg #[.string ByteArray.empty, .slice none 0 0])) (f := rowC h x 4) (g := fun _ jc => ([.str ((h.rows.getD k (default : GRow)).name), .tre 4 (cntP (trimP x) h.rows k)] : List AV).getD jc (.con undef)) (h := fun ia ja => if ia < (cntP (trimP x) h.rows k) then (rowC h x 4) ia ja else (fun _ jc => ([.str ((h.rows.getD k (default : GRow)).name), .tre 4 (cntP (trimP x) h.rows k)] : List AV).getD jc (.con undef)) (ia - (cntP (trimP x) h.rows k)) ja) rfl (by kernel_rfl) rfl vj_sl_27 (.own (.tmp rfl) rfl rfl rfl (Nat.le_refl _) (fun _ _ _ _ => rfl)) (.own (.tmp rfl) rfl rfl (Nat.le_refl _) (fun _ _ _ _ => rfl)) (by decide) (fun i j hi hj => match j, hj with | 0, _ => rfl | 1, _ => rfl | _ + 2, h => absurd h (by omega)) (fun _ _ _ _ => rfl) (by omega) (by omega) ⟨rfl, (by repeat first | exact trivial | refine ⟨by decide, by first | rfl | exact trivial | (intro i j; first | rfl | exact getD_no rfl | (dsimp only; split <;> first | rfl | exact getD_no rfl)), ?_⟩)⟩ (fun i j => by dsimp only; split <;> first | rfl | exact getD_no rfl) rfl rfl (Nat.le_of_ble_eq_true rfl) ?_
          refine ARun.pure (PureOp.fieldPtr rfl (.tmp rfl) vj_fi_29_0_0) rfl rfl (Nat.le_of_ble_eq_true rfl) ?_
          refine ARun.store rfl (.tmp rfl) (.tmp rfl) trivial rfl (Nat.le_of_ble_eq_true rfl) vj_sz_27_1 rfl rfl ?_
          refine ARun.nil ?_
          refine AW.region ?_
          refine ARun.pure (PureOp.add (c := ((k + 1 : Nat) : Int)) rfl (.tmp rfl) .int (by rw [wrap_id (by omega) (by omega)]; omega)) rfl rfl (Nat.le_of_ble_eq_true rfl) ?_
          refine ARun.pure (PureOp.move rfl (.tmp rfl)) rfl rfl (Nat.le_of_ble_eq_true rfl) ?_
          refine ARun.nil ?_
          exact ⟨k + 1, (swp 3 11), by omega, by dsimp only; omega, swp_inj, (swp_fix rfl rfl), ⟨⟨⟨_, rfl, rfl⟩, ⟨_, rfl, rfl⟩, ⟨_, rfl, rfl⟩, ⟨_, rfl, congrArg (fun z : Nat => SV.one (.int .i64 (z : Int))) hcc⟩, ⟨_, rfl, rfl⟩, ⟨_, rfl, rfl⟩, ⟨_, rfl, rfl⟩, trivial⟩, ⟨⟨_, rfl, rfl, Nat.le_refl _, fun _ _ _ _ => rfl⟩, ⟨_, rfl, rfl, Nat.le_refl _, fun i j _ _ => by rw [hc]; rfl⟩, ⟨_, rfl, rfl, Nat.le_of_eq hc, fun i j hi (hj : j < 2) => match j, hj with | 0, _ => app_at (show i < cntP (trimP x) h.rows k + 1 from hc ▸ hi) (fun _ => rfl) (fun hik => by subst hik; exact (show AV.str (trimR x (h.rows.getD k (default : GRow))).name = _ from congrArg (fun e : GRow => AV.str e.name) hat.symm)) | 1, _ => app_at (show i < cntP (trimP x) h.rows k + 1 from hc ▸ hi) (fun _ => rfl) (fun h => by subst h; rfl) | _ + 2, h => absurd h (by omega)⟩, ⟨rowX h x, by rw [hc]; rfl, fun _ _ => rfl⟩, trivial⟩⟩⟩
        · have _u := True.intro
          have hje : cntP (late x) (h.rows.getD k (default : GRow)).samples j = (trimS x (h.rows.getD k (default : GRow))).length := cntP_end hjl
          replace hb5 := of_decide_eq_false hb5
          have hp : trimP x (h.rows.getD k (default : GRow)) = false := by unfold trimP; exact decide_eq_false (by omega)
          have hc := cntP_no (default : GRow) hkl hp
          have hcc : trimC h x k + (j - cntP (late x) (h.rows.getD k (default : GRow)).samples j) = trimC h x (k + 1) := by omega
          refine AW.skip ?_
          refine AW.region ?_
          refine ARun.pure (PureOp.add (c := ((k + 1 : Nat) : Int)) rfl (.tmp rfl) .int (by rw [wrap_id (by omega) (by omega)]; omega)) rfl rfl (Nat.le_of_ble_eq_true rfl) ?_
          refine ARun.pure (PureOp.move rfl (.tmp rfl)) rfl rfl (Nat.le_of_ble_eq_true rfl) ?_
          refine ARun.nil ?_
          exact ⟨k + 1, id, by omega, by dsimp only; omega, id_inj, (fun _ _ => rfl), ⟨⟨⟨_, rfl, rfl⟩, ⟨_, rfl, rfl⟩, ⟨_, rfl, rfl⟩, ⟨_, rfl, congrArg (fun z : Nat => SV.one (.int .i64 (z : Int))) hcc⟩, ⟨_, rfl, rfl⟩, ⟨_, rfl, rfl⟩, ⟨_, rfl, rfl⟩, trivial⟩, ⟨⟨_, rfl, rfl, Nat.le_refl _, fun _ _ _ _ => rfl⟩, ⟨_, rfl, rfl, Nat.le_refl _, fun i j _ _ => by rw [hc]; rfl⟩, ⟨_, rfl, rfl, Nat.le_of_eq hc, fun i j _ (hj : j < 2) => match j, hj with | 0, _ => rfl | 1, _ => rfl | _ + 2, h => absurd h (by omega)⟩, ⟨rowX h x, by rw [hc]; rfl, fun _ _ => rfl⟩, trivial⟩⟩⟩
    · have _u := True.intro
      replace hb2 := of_decide_eq_false hb2
      have hkl : ¬ k < h.rows.length := by omega
      refine AW.exit ?_
      refine AW.seq ?_
      refine AW.region ?_
      refine ARun.pure (PureOp.loadPtrAgg rfl (.tmp rfl) vj_ag_29_2 rfl rfl (Nat.le_of_ble_eq_true rfl) (Nat.le_of_ble_eq_true rfl)) rfl rfl (Nat.le_of_ble_eq_true rfl) ?_
      refine ARun.pure (PureOp.move rfl (.tmp rfl)) rfl rfl (Nat.le_of_ble_eq_true rfl) ?_
      refine ARun.store rfl (.tmp rfl) (.tmp rfl) (SV.cells_of (by exact ⟨trivial, trivial, trivial⟩)) rfl (Nat.le_of_ble_eq_true rfl) vj_sz_29_2 rfl rfl ?_
      refine ARun.pure (PureOp.assign rfl (.tmp rfl)) rfl rfl (Nat.le_of_ble_eq_true rfl) ?_
      refine ARun.pure (PureOp.assign rfl .bool) rfl rfl (Nat.le_of_ble_eq_true rfl) ?_
      refine ARun.nil ?_
      rw [show trimV h x = (trimD h x, trimC h x h.rows.length, true) from if_pos hc0, show h.rows.length = k from by omega]
      exact AW.ret (show ∃ s t, ResL _ _ [.cell 4 29, .tmp 5, .tmp 6] s ∧ TvS _ (ofLeaf t) 0 s _ from ⟨_, fun a b => if a = 3 then 0 else if a = 4 then 0 else 1000, .inr (.inr ⟨_, _, _, _, _, _, rfl, .cells rfl vj_ag_29_2 rfl rfl (Nat.le_of_ble_eq_true rfl) (Nat.le_of_ble_eq_true rfl), .tmp rfl, .tmp rfl, rfl⟩), ⟨⟨(Tv.colK (K := 4) (c := 1) (X := rowX h x) (trim_len hkl) rfl rfl rfl (Nat.le_refl _) (by rfl) (fun i j hi hj hne => match j, hj, hne with | 0, _, _ => ⟨rfl, rfl⟩ | 1, _, h => absurd rfl h | _ + 2, h, _ => absurd h (by omega)) (fun i hi => ⟨rfl, rfl⟩) rfl (by decide) (fun _ => by rfl)), .int, trivial⟩, .int, .bool⟩⟩)

theorem v_iTrim (h : GHead) (x : Int) (hw : wtHead h ≤ 1048576) (hx : I64 x) : FnT Try.prog 21 [.agg [.lst 2 h.rows.length (fun i0 j0 => ([.str ((h.rows.getD i0 (default : GRow)).name), .lst 2 (((h.rows.getD i0 (default : GRow)).samples).length) (fun i1 j1 => ([.int .i64 ((((h.rows.getD i0 (default : GRow)).samples).getD i1 (default : GSample)).at_), .int .i64 ((((h.rows.getD i0 (default : GRow)).samples).getD i1 (default : GSample)).value)] : List AV).getD j1 (.con undef))] : List AV).getD j0 (.con undef)), .int .i64 h.offset], .one (.int .i64 x)] (.tup3 (.agg [.lst 2 ((((trimV h x).1).rows).length) (fun i0 j0 => ([.str (((((trimV h x).1).rows).getD i0 (default : GRow)).name), .lst 2 ((((((trimV h x).1).rows).getD i0 (default : GRow)).samples).length) (fun i1 j1 => ([.int .i64 (((((((trimV h x).1).rows).getD i0 (default : GRow)).samples).getD i1 (default : GSample)).at_), .int .i64 (((((((trimV h x).1).rows).getD i0 (default : GRow)).samples).getD i1 (default : GSample)).value)] : List AV).getD j1 (.con undef))] : List AV).getD j0 (.con undef)), .int .i64 (((trimV h x).1).offset)]) (.one (.int .i64 (((trimV h x).2.1 : Nat) : Int))) (.one (.bool ((trimV h x).2.2)))) := by
  obtain ⟨hx0, hx1⟩ := hx
  have hr0 := rows_le h
  refine FnT.of_body (fn := Try.f21) Try.func21 rfl (Nat.le_of_ble_eq_true rfl)  ?_
  intro w0
  show AW _ 54 _ _ _ _
  refine AW.seq ?_
  refine AW.region ?_
  refine ARun.box (id := 0) rfl (.tmp rfl) (SV.cells_of (by exact ⟨trivial, trivial, trivial⟩)) ⟨rfl, (by repeat first | exact trivial | refine ⟨by decide, by first | rfl | exact trivial | (intro i j; first | rfl | exact getD_no rfl | (dsimp only; split <;> first | rfl | exact getD_no rfl)), ?_⟩)⟩ rfl rfl rfl (Nat.le_of_ble_eq_true rfl) ?_
  refine ARun.box (id := 1) rfl (.tmp rfl) trivial ⟨rfl, (by repeat first | exact trivial | refine ⟨by decide, by first | rfl | exact trivial | (intro i j; first | rfl | exact getD_no rfl | (dsimp only; split <;> first | rfl | exact getD_no rfl)), ?_⟩)⟩ rfl rfl rfl (Nat.le_of_ble_eq_true rfl) ?_
  refine ARun.alloc (id := 2) (l := [.con (.slice none 0 0), .int .i64 0]) (z := (.agg #[.slice none 0 0, .int .i64 0])) rfl (by kernel_rfl) (fun _ _ _ => ⟨_, _, rfl, rfl, ⟨_, _, rfl, rfl, rfl⟩⟩) ⟨rfl, (by repeat first | exact trivial | refine ⟨by decide, by first | rfl | exact trivial | (intro i j; first | rfl | exact getD_no rfl | (dsimp only; split <;> first | rfl | exact getD_no rfl)), ?_⟩)⟩ rfl rfl rfl (Nat.le_of_ble_eq_true rfl) ?_
  refine ARun.pure (PureOp.assign rfl .int) rfl rfl (Nat.le_of_ble_eq_true rfl) ?_
  refine ARun.pure (PureOp.assign rfl .bool) rfl rfl (Nat.le_of_ble_eq_true rfl) ?_
  refine ARun.nil ?_
  refine AW.seq ?_
  refine AW.seq ?_
  refine AW.region ?_
  refine ARun.pure (PureOp.loadPtrAgg rfl (.tmp rfl) vj_ag_29_2 rfl rfl (Nat.le_of_ble_eq_true rfl) (Nat.le_of_ble_eq_true rfl)) rfl rfl (Nat.le_of_ble_eq_true rfl) ?_
  refine ARun.pure (PureOp.call rfl (v_isHead h) ⟨⟨_, (.tmp rfl), ⟨.lst, .int, trivial⟩⟩, trivial⟩ vj_ca_46 trivial) rfl rfl (Nat.le_of_ble_eq_true rfl) ?_
  refine ARun.pure (PureOp.not rfl (.tmp rfl)) rfl rfl (Nat.le_of_ble_eq_true rfl) ?_
  refine ARun.nil ?_
  refine AW.cond (.tmp rfl) (fun hb1 => ?_) (fun hb1 => ?_)
  · have _u := True.intro
    have hc0 : goodHead h = false := by revert hb1; generalize goodHead h = a1; revert a1; decide
    refine AW.seq ?_
    refine AW.region ?_
    refine ARun.pure (PureOp.build (ys := []) (l := [.con (.slice none 0 0), .int .i64 0]) (pl := [(0, 1), (1, 1)]) (z := (.agg #[.slice none 0 0, .int .i64 0])) rfl (by kernel_rfl) (by kernel_rfl) (fun _ _ _ => ⟨_, _, rfl, rfl, ⟨_, _, rfl, rfl, rfl⟩⟩) trivial rfl) rfl rfl (Nat.le_of_ble_eq_true rfl) ?_
    refine ARun.store rfl (.tmp rfl) (.tmp rfl) (SV.cells_of (by exact ⟨⟨rfl, (fun _ e => by cases e), (fun _ e => by cases e)⟩, trivial, trivial⟩)) rfl (Nat.le_of_ble_eq_true rfl) vj_sz_29_2 rfl rfl ?_
    refine ARun.pure (PureOp.assign rfl .int) rfl rfl (Nat.le_of_ble_eq_true rfl) ?_
    refine ARun.pure (PureOp.assign rfl .bool) rfl rfl (Nat.le_of_ble_eq_true rfl) ?_
    refine ARun.nil ?_
    rw [show trimV h x = (⟨[], 0⟩, 0, false) from if_neg (by rw [hc0]; decide)]
    exact AW.ret (show ∃ s t, ResL _ _ [.cell 4 29, .tmp 5, .tmp 6] s ∧ TvS _ (ofLeaf t) 0 s _ from ⟨_, fun a b => 1000, .inr (.inr ⟨_, _, _, _, _, _, rfl, .cells rfl vj_ag_29_2 rfl rfl (Nat.le_of_ble_eq_true rfl) (Nat.le_of_ble_eq_true rfl), .tmp rfl, .tmp rfl, rfl⟩), ⟨⟨.nil, .int, trivial⟩, .int, .bool⟩⟩)
  · have _u := True.intro
    have hc0 : goodHead h = true := by revert hb1; generalize goodHead h = a1; revert a1; decide
    refine AW.skip ?_
    refine AW.seq ?_
    refine AW.region ?_
    refine ARun.pure (PureOp.fieldPtr rfl (.tmp rfl) vj_fi_29_1_1) rfl rfl (Nat.le_of_ble_eq_true rfl) ?_
    refine ARun.pure (PureOp.loadPtr rfl (.tmp rfl) vj_pl_3 rfl rfl (Nat.le_of_ble_eq_true rfl) (Nat.le_of_ble_eq_true rfl)) rfl rfl (Nat.le_of_ble_eq_true rfl) ?_
    refine ARun.pure (PureOp.build (ys := [.int .i64 h.offset]) (l := [.con (.slice none 0 0), .int .i64 0]) (pl := [(0, 1), (1, 1)]) (z := (.agg #[.slice none 0 0, .int .i64 0])) rfl (by kernel_rfl) (by kernel_rfl) (fun _ _ _ => ⟨_, _, rfl, rfl, ⟨_, _, rfl, rfl, rfl⟩⟩) ⟨(.tmp rfl), trivial, rfl, trivial⟩ rfl) rfl rfl (Nat.le_of_ble_eq_true rfl) ?_
    refine ARun.alloc (id := 3) (l := [.con (.slice none 0 0), .int .i64 0]) (z := (.agg #[.slice none 0 0, .int .i64 0])) rfl (by kernel_rfl) (fun _ _ _ => ⟨_, _, rfl, rfl, ⟨_, _, rfl, rfl, rfl⟩⟩) ⟨rfl, (by repeat first | exact trivial | refine ⟨by decide, by first | rfl | exact trivial | (intro i j; first | rfl | exact getD_no rfl | (dsimp only; split <;> first | rfl | exact getD_no rfl)), ?_⟩)⟩ rfl rfl rfl (Nat.le_of_ble_eq_true rfl) ?_
    refine ARun.store rfl (.tmp rfl) (.tmp rfl) (SV.cells_of (by exact ⟨⟨rfl, (fun _ e => by cases e), (fun _ e => by cases e)⟩, trivial, trivial⟩)) rfl (Nat.le_of_ble_eq_true rfl) vj_sz_29_2 rfl rfl ?_
    refine ARun.nil ?_
    refine AW.seq ?_
    refine AW.region ?_
    refine ARun.pure (PureOp.assign rfl .int) rfl rfl (Nat.le_of_ble_eq_true rfl) ?_
    refine ARun.nil ?_
    refine AW.seq ?_
    refine AW.seq ?_
    refine AW.region ?_
    refine ARun.pure (PureOp.fieldPtr rfl (.tmp rfl) vj_fi_29_0_0) rfl rfl (Nat.le_of_ble_eq_true rfl) ?_
    refine ARun.pure (PureOp.loadPtr rfl (.tmp rfl) vj_pl_27 rfl rfl (Nat.le_of_ble_eq_true rfl) (Nat.le_of_ble_eq_true rfl)) rfl rfl (Nat.le_of_ble_eq_true rfl) ?_
    refine ARun.pure (PureOp.lenLst rfl (.tmp rfl) vj_sl_27) rfl rfl (Nat.le_of_ble_eq_true rfl) ?_
    refine ARun.pure (PureOp.move rfl .int) rfl rfl (Nat.le_of_ble_eq_true rfl) ?_
    refine ARun.nil ?_
    refine AW.block ?_
    refine AW.fam (id := 5) (rowX h x) ⟨rfl, (by repeat first | exact trivial | refine ⟨by decide, by first | rfl | exact trivial | (intro i j; first | rfl | exact getD_no rfl | (dsimp only; split <;> first | rfl | exact getD_no rfl)), ?_⟩)⟩ ?_
    refine AW.nilCell 3 0 4 2 _ (rowC h x 5) rfl rfl ⟨rfl, (by repeat first | exact trivial | refine ⟨by decide, by first | rfl | exact trivial | (intro i j; first | rfl | exact getD_no rfl | (dsimp only; split <;> first | rfl | exact getD_no rfl)), ?_⟩)⟩ ?_
    -- objects are renamed
    refine AW.loopR (ι := Nat) (fun k => ⟨[(3, .one (.ptr 1 1 0 0)), (4, .one (.ptr 2 2 0 0)), (7, .one (.ptr 3 2 0 0)), (8, .one (.int .i64 ((trimC h x k : Nat) : Int))), (20, .one (.lst 2 h.rows.length (fun i0 j0 => ([.str ((h.rows.getD i0 (default : GRow)).name), .lst 2 (((h.rows.getD i0 (default : GRow)).samples).length) (fun i1 j1 => ([.int .i64 ((((h.rows.getD i0 (default : GRow)).samples).getD i1 (default : GSample)).at_), .int .i64 ((((h.rows.getD i0 (default : GRow)).samples).getD i1 (default : GSample)).value)] : List AV).getD j1 (.con undef))] : List AV).getD j0 (.con undef)))), (21, .one (.int .i64 (h.rows.length : Int))), (22, .one (.int .i64 (k : Int)))], [(1, .cells [.int .i64 x]), (2, .cells [.con (.slice none 0 0), .int .i64 0]), (3, .cells [.own 4 2 (cntP (trimP x) h.rows k), .int .i64 h.offset]), (4, .arr 2 (cntP (trimP x) h.rows k) (rowC h x 5)), (5, .trees (cntP (trimP x) h.rows k) (rowX h x))]⟩) (fun k => k ≤ h.rows.length) (fun k => h.rows.length - k) 0 (Nat.zero_le _) ⟨⟨⟨_, rfl, rfl⟩, ⟨_, rfl, rfl⟩, ⟨_, rfl, rfl⟩, ⟨_, rfl, rfl⟩, ⟨_, rfl, rfl⟩, ⟨_, rfl, rfl⟩, ⟨_, rfl, rfl⟩, trivial⟩, ⟨⟨_, rfl, rfl, Nat.le_refl _, fun _ _ _ _ => rfl⟩, ⟨_, rfl, rfl, Nat.le_refl _, fun _ _ _ _ => rfl⟩, ⟨_, rfl, rfl, Nat.le_refl _, fun _ _ _ _ => rfl⟩, ⟨_, rfl, rfl, Nat.le_refl _, fun _ _ _ _ => rfl⟩, ⟨_, rfl, fun _ _ => rfl⟩, trivial⟩⟩ ?_
    intro k hk
    have hcl := cntP_le (trimP x) h.rows k
    have htc := trimC_le h x k
    refine AW.seq ?_
    refine AW.region ?_
    refine ARun.pure (PureOp.intOp rfl (.tmp rfl) (.tmp rfl) rfl) rfl rfl (Nat.le_of_ble_eq_true rfl) ?_
    refine ARun.nil ?_
    refine AW.seq ?_
    refine AW.cond (.tmp rfl) (fun hb2 => ?_) (fun hb2 => ?_)
    · have _u := True.intro
      replace hb2 := of_decide_eq_true hb2
      have hkl : k < h.rows.length := by omega
      have hsl := smp_le hkl
      have hsp := trimS_le x (h.rows.getD k (default : GRow))
      have hcs := trimC_succ (x := x) hkl
      have hje : (((h.rows.getD k (default : GRow)).samples).filter (fun el => !(early x) el)).length = (trimS x (h.rows.getD k (default : GRow))).length := congrArg List.length (del_eq _ x)
      refine AW.skip ?_
      refine AW.seq ?_
      refine AW.block ?_
      refine AW.seq ?_
      refine AW.region ?_
      refine ARun.pure (PureOp.indexLst (i := k) rfl (.tmp rfl) vj_el_27_2 (.tmp rfl) rfl (by omega)) rfl rfl (Nat.le_of_ble_eq_true rfl) ?_
      refine ARun.pure (PureOp.loadRefAgg rfl (.tmp rfl) vj_ag_67_2 (Nat.le_of_ble_eq_true rfl)) rfl rfl (Nat.le_of_ble_eq_true rfl) ?_
      refine ARun.alloc (id := 6) (l := [.str ByteArray.empty, .con (.slice none 0 0)]) (z := (.agg #[.string ByteArray.empty, .slice none 0 0])) rfl (by kernel_rfl) (fun _ _ _ => ⟨_, _, rfl, ⟨rfl, by decide⟩, ⟨_, _, rfl, rfl, rfl⟩⟩) ⟨rfl, (by repeat first | exact trivial | refine ⟨by decide, by first | rfl | exact trivial | (intro i j; first | rfl | exact getD_no rfl | (dsimp only; split <;> first | rfl | exact getD_no rfl)), ?_⟩)⟩ rfl rfl rfl (Nat.le_of_ble_eq_true rfl) ?_
      refine ARun.store rfl (.tmp rfl) (.tmp rfl) (SV.cells_of (by exact ⟨trivial, trivial, trivial⟩)) rfl (Nat.le_of_ble_eq_true rfl) vj_sz_67_2 rfl rfl ?_
      refine ARun.nil ?_
      refine AW.seq ?_
      refine AW.region ?_
      refine ARun.pure (PureOp.fieldPtr rfl (.tmp rfl) vj_fi_67_1_1) rfl rfl (Nat.le_of_ble_eq_true rfl) ?_
      refine ARun.pure (PureOp.loadPtr rfl (.tmp rfl) vj_pl_33 rfl rfl (Nat.le_of_ble_eq_true rfl) (Nat.le_of_ble_eq_true rfl)) rfl rfl (Nat.le_of_ble_eq_true rfl) ?_
      refine ARun.prod (K := 7) rfl (v_Clone_Sample ((h.rows.getD k (default : GRow)).samples) (by omega)) ⟨rfl, (by repeat first | exact trivial | refine ⟨by decide, by first | rfl | exact trivial | (intro i j; first | rfl | exact getD_no rfl | (dsimp only; split <;> first | rfl | exact getD_no rfl)), ?_⟩)⟩ ⟨⟨_, (.tmp rfl), .lst⟩, trivial⟩ vj_ca_49 rfl rfl rfl rfl rfl (Nat.le_of_ble_eq_true rfl) ?_
      refine ARun.openRow 28 7 0 1 2 ((h.rows.getD k (default : GRow)).samples.length) 8 _ (fun i j => ceSample ((h.rows.getD k (default : GRow)).samples.getD i (default : GSample)) j) rfl rfl (by decide) rfl (fun i j hi hj => match j, hj with | 0, _ => rfl | 1, _ => rfl | _ + 2, h => absurd h (by omega)) (fun i j => getD_no rfl) ⟨rfl, (by repeat first | exact trivial | refine ⟨by decide, by first | rfl | exact trivial | (intro i j; first | rfl | exact getD_no rfl | (dsimp only; split <;> first | rfl | exact getD_no rfl)), ?_⟩)⟩ ?_
      refine ARun.pure (PureOp.makeFn (caps := [.ptr 1 1 0 0]) rfl ⟨(.tmp rfl), trivial⟩ rfl) rfl rfl (Nat.le_of_ble_eq_true rfl) ?_
      refine ARun.mut1 (A := 8) rfl (v_DeleteFunc_Sample ((h.rows.getD k (default : GRow)).samples) 53 1 (fun _ => .ref 1 (fun _ => .int .i64 x)) (early x) (by omega) (fun j h => match j, h with | 0, _ => trivial | _ + 1, h => absurd h (by omega)) vj_ca_53 (fun k hk => v_Trim1 _ x)) vj_ca_52 rfl ⟨.inr (.tmp rfl), ⟨.inl ⟨_, (.tmp rfl), (.fn (m := 1) (fun | 0, _ => (.ptr (m := 1) rfl rfl (Nat.le_of_ble_eq_true rfl) (Nat.le_of_ble_eq_true rfl) (fun | 0, _ => .int | _ + 1, h => absurd h (by omega))) | n + 1, (h : n + 1 < 1) => absurd h (by omega)))⟩, trivial⟩⟩ rfl (fun i j => getD_sc rfl) (fun i j => getD_sc rfl) rfl rfl rfl (Nat.le_of_ble_eq_true rfl) ?_
      refine ARun.pure (PureOp.assign rfl (.tmp rfl)) rfl rfl (Nat.le_of_ble_eq_true rfl) ?_
      refine ARun.nil ?_
      refine AW.seq ?_
      refine AW.region ?_
      refine ARun.pure (PureOp.move rfl (.tmp rfl)) rfl rfl (Nat.le_of_ble_eq_true rfl) ?_
      refine ARun.pure (PureOp.fieldPtr rfl (.tmp rfl) vj_fi_67_1_1) rfl rfl (Nat.le_of_ble_eq_true rfl) ?_
      refine ARun.pure (PureOp.loadPtr rfl (.tmp rfl) vj_pl_33 rfl rfl (Nat.le_of_ble_eq_true rfl) (Nat.le_of_ble_eq_true rfl)) rfl rfl (Nat.le_of_ble_eq_true rfl) ?_
      refine ARun.pure (PureOp.lenLst rfl (.tmp rfl) vj_sl_33) rfl rfl (Nat.le_of_ble_eq_true rfl) ?_
      refine ARun.pure (PureOp.move rfl (.tmp rfl)) rfl rfl (Nat.le_of_ble_eq_true rfl) ?_
      refine ARun.pure (PureOp.lenOwn rfl (.tmp rfl) vj_sl_33) rfl rfl (Nat.le_of_ble_eq_true rfl) ?_
      refine ARun.pure (PureOp.sub (c := ((((h.rows.getD k (default : GRow)).samples).length - ((((h.rows.getD k (default : GRow)).samples).filter (fun el => !(early x) el)).length) : Nat) : Int)) rfl (.tmp rfl) (.tmp rfl) (by rw [wrap_id (by omega) (by omega)]; omega)) rfl rfl (Nat.le_of_ble_eq_true rfl) ?_
      refine ARun.pure (PureOp.add (c := ((trimC h x k + ((h.rows.getD k (default : GRow)).samples).length - ((((h.rows.getD k (default : GRow)).samples).filter (fun el => !(early x) el)).length) : Nat) : Int)) rfl (.tmp rfl) (.tmp rfl) (by rw [wrap_id (by omega) (by omega)]; omega)) rfl rfl (Nat.le_of_ble_eq_true rfl) ?_
      refine ARun.pure (PureOp.assign rfl (.tmp rfl)) rfl rfl (Nat.le_of_ble_eq_true rfl) ?_
      refine ARun.nil ?_
      refine AW.seq ?_
      refine AW.region ?_
      refine ARun.pure (PureOp.move rfl (.tmp rfl)) rfl rfl (Nat.le_of_ble_eq_true rfl) ?_
      refine ARun.pure (PureOp.lenOwn rfl (.tmp rfl) vj_sl_33) rfl rfl (Nat.le_of_ble_eq_true rfl) ?_
      refine ARun.pure (PureOp.intOp rfl (.tmp rfl) .int rfl) rfl rfl (Nat.le_of_ble_eq_true rfl) ?_
      refine ARun.nil ?_
      refine AW.cond (.tmp rfl) (fun hb3 => ?_) (fun hb3 => ?_)
      · have _u := True.intro
        replace hb3 := of_decide_eq_true hb3
        have hp : trimP x (h.rows.getD k (default : GRow)) = true := by unfold trimP; exact decide_eq_true (by omega)
        have hc := (cntP_yes (default : GRow) hkl hp).1
        have hat := trim_at hkl hp
        have hcc : trimC h x k + ((h.rows.getD k (default : GRow)).samples).length - ((((h.rows.getD k (default : GRow)).samples).filter (fun el => !(early x) el)).length) = trimC h x (k + 1) := by omega
        refine AW.region ?_
        refine ARun.closeRow 11 8 5 (cntP (trimP x) h.rows k) 2 (((h.rows.getD k (default : GRow)).samples).filter (fun el => !(early x) el)).length (m' := ((trimL h x).getD (cntP (trimP x) h.rows k) (default : GRow)).samples.length) (X := rowX h x) (g := fun a b => ceSample (((trimL h x).getD (cntP (trimP x) h.rows k) (default : GRow)).samples.getD a (default : GSample)) b) rfl rfl rfl rfl (Nat.le_refl _) rfl rfl rfl (by rw [hat]; exact hje.symm) (fun i b hi (hj : b < 2) => by
      show _ = ceSample (((trimL h x).getD (cntP (trimP x) h.rows k) (default : GRow)).samples.getD i (default : GSample)) b
      rw [hat]; show _ = ceSample ((trimS x (h.rows.getD k (default : GRow))).getD i (default : GSample)) b; unfold trimS; rw [← del_eq]; exact (match b, hj with | 0, _ => rfl | 1, _ => rfl | _ + 2, h => absurd h (by omega))) (fun i b hi hj => match b, hj with | 0, _ => rfl | 1, _ => rfl | _ + 2, h => absurd h (by omega)) ?_
        refine ARun.pure (PureOp.fieldPtr rfl (.tmp rfl) vj_fi_29_0_0) rfl rfl (Nat.le_of_ble_eq_true rfl) ?_
        refine ARun.pure (PureOp.loadPtr rfl (.tmp rfl) vj_pl_27 rfl rfl (Nat.le_of_ble_eq_true rfl) (Nat.le_of_ble_eq_true rfl)) rfl rfl (Nat.le_of_ble_eq_true rfl) ?_
        refine ARun.pure (PureOp.fieldPtr rfl (.tmp rfl) vj_fi_67_0_0) rfl rfl (Nat.le_of_ble_eq_true rfl) ?_
        refine ARun.pure (PureOp.loadPtr rfl (.tmp rfl) vj_pl_9 rfl rfl (Nat.le_of_ble_eq_true rfl) (Nat.le_of_ble_eq_true rfl)) rfl rfl (Nat.le_of_ble_eq_true rfl) ?_
        refine ARun.pure (PureOp.move rfl (.tmp rfl)) rfl rfl (Nat.le_of_ble_eq_true rfl) ?_
        refine ARun.pure (PureOp.build (ys := [.str ((h.rows.getD k (default : GRow)).name), .tre 5 (cntP (trimP x) h.rows k)]) (l := [.str ByteArray.empty, .con (.slice none 0 0)]) (pl := [(0, 1), (1, 1)]) (z := (.agg #[.string ByteArray.empty, .slice none 0 0])) rfl (by kernel_rfl) (by kernel_rfl) (fun _ _ _ => ⟨_, _, rfl, ⟨rfl, by decide⟩, ⟨_, _, rfl, rfl, rfl⟩⟩) ⟨(.tmp rfl), trivial, rfl, ⟨(.tmp rfl), trivial, rfl, trivial⟩⟩ rfl) rfl rfl (Nat.le_of_ble_eq_true rfl) ?_
        refine ARun.slice1 (id := 9) (z := (.agg #[.string ByteArray.empty, .slice none 0 0])) (by_ := 40) rfl (.tmp rfl) (SV.cells_of (by exact ⟨trivial, trivial, trivial⟩)) (by kernel_rfl) rfl rfl (by decide) (by decide) ⟨rfl, (by repeat first | exact trivial | refine ⟨by decide, by first | rfl | exact trivial | (intro i j; first | rfl | exact getD_no rfl | (dsimp only; split <;> first | rfl | exact getD_no rfl)), ?_⟩)⟩ rfl rfl rfl (Nat.le_of_ble_eq_true rfl) ?_
        refine ARun.append (id := 10) (sz := 2) (n := (cntP (trimP x) h.rows k)) (m := 1) (by_ := 40) (z := (.agg #[.string ByteArray.empty, .slice none 0 0])) (f := rowC h x 5) (g := fun _ jc => ([.str ((h.rows.getD k (default : GRow)).name), .tre 5 (cntP (trimP x) h.rows k)] : List AV).getD jc (.con undef)) (h := fun ia ja => if ia < (cntP (trimP x) h.rows k) then (rowC h x 5) ia ja else (fun _ jc => ([.str ((h.rows.getD k (default : GRow)).name), .tre 5 (cntP (trimP x) h.rows k)] : List AV).getD jc (.con undef)) (ia - (cntP (trimP x) h.rows k)) ja) rfl (by kernel_rfl) rfl vj_sl_27 (.own (.tmp rfl) rfl rfl rfl (Nat.le_refl _) (fun _ _ _ _ => rfl)) (.own (.tmp rfl) rfl rfl (Nat.le_refl _) (fun _ _ _ _ => rfl)) (by decide) (fun i j hi hj => match j, hj with | 0, _ => rfl | 1, _ => rfl | _ + 2, h => absurd h (by omega)) (fun _ _ _ _ => rfl) (by omega) (by omega) ⟨rfl, (by repeat first | exact trivial | refine ⟨by decide, by first | rfl | exact trivial | (intro i j; first | rfl | exact getD_no rfl | (dsimp only; split <;> first | rfl | exact getD_no rfl)), ?_⟩)⟩ (fun i j => by dsimp only; split <;> first | rfl | exact getD_no rfl) rfl rfl (Nat.le_of_ble_eq_true rfl) ?_
        refine ARun.pure (PureOp.fieldPtr rfl (.tmp rfl) vj_fi_29_0_0) rfl rfl (Nat.le_of_ble_eq_true rfl) ?_
        refine ARun.store rfl (.tmp rfl) (.tmp rfl) trivial rfl (Nat.le_of_ble_eq_true rfl) vj_sz_27_1 rfl rfl ?_
        refine ARun.nil ?_
        refine AW.region ?_
        refine ARun.pure (PureOp.add (c := ((k + 1 : Nat) : Int)) rfl (.tmp rfl) .int (by rw [wrap_id (by omega) (by omega)]; omega)) rfl rfl (Nat.le_of_ble_eq_true rfl) ?_
        refine ARun.pure (PureOp.move rfl (.tmp rfl)) rfl rfl (Nat.le_of_ble_eq_true rfl) ?_
        refine ARun.nil ?_
        exact ⟨k + 1, (swp 4 10), by omega, by dsimp only; omega, swp_inj, (swp_fix rfl rfl), ⟨⟨⟨_, rfl, rfl⟩, ⟨_, rfl, rfl⟩, ⟨_, rfl, rfl⟩, ⟨_, rfl, congrArg (fun z : Nat => SV.one (.int .i64 (z : Int))) hcc⟩, ⟨_, rfl, rfl⟩, ⟨_, rfl, rfl⟩, ⟨_, rfl, rfl⟩, trivial⟩, ⟨⟨_, rfl, rfl, Nat.le_refl _, fun _ _ _ _ => rfl⟩, ⟨_, rfl, rfl, Nat.le_refl _, fun _ _ _ _ => rfl⟩, ⟨_, rfl, rfl, Nat.le_refl _, fun i j _ _ => by rw [hc]; rfl⟩, ⟨_, rfl, rfl, Nat.le_of_eq hc, fun i j hi (hj : j < 2) => match j, hj with | 0, _ => app_at (show i < cntP (trimP x) h.rows k + 1 from hc ▸ hi) (fun _ => rfl) (fun hik => by subst hik; exact (show AV.str (trimR x (h.rows.getD k (default : GRow))).name = _ from congrArg (fun e : GRow => AV.str e.name) hat.symm)) | 1, _ => app_at (show i < cntP (trimP x) h.rows k + 1 from hc ▸ hi) (fun _ => rfl) (fun h => by subst h; rfl) | _ + 2, h => absurd h (by omega)⟩, ⟨rowX h x, by rw [hc]; rfl, fun _ _ => rfl⟩, trivial⟩⟩⟩
      · have _u := True.intro
        replace hb3 := of_decide_eq_false hb3
        have hp : trimP x (h.rows.getD k (default : GRow)) = false := by unfold trimP; exact decide_eq_false (by omega)
        have hc := cntP_no (default : GRow) hkl hp
        have hcc : trimC h x k + ((h.rows.getD k (default : GRow)).samples).length - ((((h.rows.getD k (default : GRow)).samples).filter (fun el => !(early x) el)).length) = trimC h x (k + 1) := by omega
        refine AW.skip ?_
        refine AW.region ?_
        refine ARun.pure (PureOp.add (c := ((k + 1 : Nat) : Int)) rfl (.tmp rfl) .int (by rw [wrap_id (by omega) (by omega)]; omega)) rfl rfl (Nat.le_of_ble_eq_true rfl) ?_
        refine ARun.pure (PureOp.move rfl (.tmp rfl)) rfl rfl (Nat.le_of_ble_eq_true rfl) ?_
        refine ARun.nil ?_
        exact ⟨k + 1, id, by omega, by dsimp only; omega, id_inj, (fun _ _ => rfl), ⟨⟨⟨_, rfl, rfl⟩, ⟨_, rfl, rfl⟩, ⟨_, rfl, rfl⟩, ⟨_, rfl, congrArg (fun z : Nat => SV.one (.int .i64 (z : Int))) hcc⟩, ⟨_, rfl, rfl⟩, ⟨_, rfl, rfl⟩, ⟨_, rfl, rfl⟩, trivial⟩, ⟨⟨_, rfl, rfl, Nat.le_refl _, fun _ _ _ _ => rfl⟩, ⟨_, rfl, rfl, Nat.le_refl _, fun _ _ _ _ => rfl⟩, ⟨_, rfl, rfl, Nat.le_refl _, fun i j _ _ => by rw [hc]; rfl⟩, ⟨_, rfl, rfl, Nat.le_of_eq hc, fun i j _ (hj : j < 2) => match j, hj with | 0, _ => rfl | 1, _ => rfl | _ + 2, h => absurd h (by omega)⟩, ⟨rowX h x, by rw [hc]; rfl, fun _ _ => rfl⟩, trivial⟩⟩⟩
    · have _u := True.intro
      replace hb2 := of_decide_eq_false hb2
      have hkl : ¬ k < h.rows.length := by omega
      refine AW.exit ?_
      refine AW.seq ?_
      refine AW.region ?_
      refine ARun.pure (PureOp.loadPtrAgg rfl (.tmp rfl) vj_ag_29_2 rfl rfl (Nat.le_of_ble_eq_true rfl) (Nat.le_of_ble_eq_true rfl)) rfl rfl (Nat.le_of_ble_eq_true rfl) ?_
      refine ARun.pure (PureOp.move rfl (.tmp rfl)) rfl rfl (Nat.le_of_ble_eq_true rfl) ?_
      refine ARun.store rfl (.tmp rfl) (.tmp rfl) (SV.cells_of (by exact ⟨trivial, trivial, trivial⟩)) rfl (Nat.le_of_ble_eq_true rfl) vj_sz_29_2 rfl rfl ?_
      refine ARun.pure (PureOp.assign rfl (.tmp rfl)) rfl rfl (Nat.le_of_ble_eq_true rfl) ?_
      refine ARun.pure (PureOp.assign rfl .bool) rfl rfl (Nat.le_of_ble_eq_true rfl) ?_
      refine ARun.nil ?_
      rw [show trimV h x = (trimD h x, trimC h x h.rows.length, true) from if_pos hc0, show h.rows.length = k from by omega]
      exact AW.ret (show ∃ s t, ResL _ _ [.cell 4 29, .tmp 5, .tmp 6] s ∧ TvS _ (ofLeaf t) 0 s _ from ⟨_, fun a b => if a = 4 then 0 else if a = 5 then 0 else 1000, .inr (.inr ⟨_, _, _, _, _, _, rfl, .cells rfl vj_ag_29_2 rfl rfl (Nat.le_of_ble_eq_true rfl) (Nat.le_of_ble_eq_true rfl), .tmp rfl, .tmp rfl, rfl⟩), ⟨⟨(Tv.colK (K := 5) (c := 1) (X := rowX h x) (trim_len hkl) rfl rfl rfl (Nat.le_refl _) (by rfl) (fun i j hi hj hne => match j, hj, hne with | 0, _, _ => ⟨rfl, rfl⟩ | 1, _, h => absurd rfl h | _ + 2, h, _ => absurd h (by omega)) (fun i hi => ⟨rfl, rfl⟩) rfl (by decide) (fun _ => by rfl)), .int, trivial⟩, .int, .bool⟩⟩)
end Go.Proofs.Ytmfkmifkkplidaa
