/-
  strings.Compare and slices.BinarySearchFunc: where a row stands.
-/
import Derived.Shelf.Small.Strs
import Derived.Test.YtmfkmifkkplidaaHd6
import Derived.Test.YtmfkmifkkplidaaKc6
import Derived.Test.YtmfkmifkkplidaaUe
namespace Go.Proofs.Ytmfkmifkkplidaa
open Go.Proofs Go.Shelf
open Go.ChangeShapes Go.WideShapes Go.ChangeAt Go.RowKit Go.BigFrame Go.Deep
set_option linter.unusedVariables false
set_option linter.unusedSimpArgs false
theorem vrc_ag_67_2 : aggB Try.prog 67 2 = true := by kernel_rfl
theorem vrc_ca_74 : callB Try.prog 74 = true := by kernel_rfl
theorem vrc_ca_75 : callB Try.prog 75 = true := by kernel_rfl
theorem vrc_ca_76 : callB Try.prog 76 = true := by kernel_rfl
theorem vrc_cv_120_3_.i64 : convB Try.prog 120 3 .i64 = true := by kernel_rfl
theorem vrc_cv_3_120_.u64 : convB Try.prog 3 120 .u64 = true := by kernel_rfl
theorem vrc_el_27_2 : elemB Try.prog 27 2 = true := by kernel_rfl
theorem vrc_fi_29_0_0 : fieldB Try.prog 29 0 0 = true := by kernel_rfl
theorem vrc_fi_67_0_0 : fieldB Try.prog 67 0 0 = true := by kernel_rfl
theorem vrc_pl_27 : plainB Try.prog 27 = true := by kernel_rfl
theorem vrc_pl_9 : plainB Try.prog 9 = true := by kernel_rfl
theorem vrc_sl_27 : sliceB Try.prog 27 = true := by kernel_rfl
def ren_n106 : Shelf.Ren where
  f := fun x => match x with | 106 => 76 | 213 => 86 | 265 => 91 | n => n
  t := fun x => match x with | 3 => 3 | 9 => 9 | n => n
  g := fun x => x
theorem lays_n106 : Lays.n106 Try.prog ren_n106 where
  mixed := by kernel_rfl
  f106 := by kernel_rfl
  f213 := by kernel_rfl
  f265 := by kernel_rfl
  t3 := Try.underlying3
  a3 := Try.isAgg3
  z3 := Try.sizeOf3
  v3 := Try.zeroValue3
  t9 := Try.underlying9
  a9 := Try.isAgg9
  z9 := Try.sizeOf9
  v9 := Try.zeroValue9

theorem v_Compare (a b : ByteArray) : Fn Try.prog 76 [.one (.str a), .one (.str b)] (.one (.int .i64 (cmpS a b))) := by
  intro w S vs hS hd
  obtain ⟨v, vs1, rfl, ⟨rfl, _⟩, u, vs2, rfl, ⟨rfl, _⟩, h3⟩ := hd
  obtain rfl : vs2 = [] := h3
  exact (Any.strings_Compare lays_n106 a b w).mono fun e w' ⟨he, hw⟩ => ⟨he, hw ▸ Below.refl _ _⟩
/-- The first row whose name is not below s. -/
def loF (h : GHead) (s : ByteArray) : Nat := h.rows.findIdx (fun r => decide (0 ≤ cmpS r.name s))
theorem good_step {h : GHead} (hg : goodHead h = true) {k : Nat} (h0 : 0 < k) (hk : k < h.rows.length) : Op.bytesLess (h.rows.getD (k - 1) (default : GRow)).name.toList (h.rows.getD k (default : GRow)).name.toList = true := by
  unfold goodHead at hg
  rw [Bool.and_eq_true] at hg
  have h1 := List.all_eq_true.1 hg.1 k (List.mem_range.2 hk)
  rw [Bool.not_eq_true'] at h1
  unfold rowBad at h1
  revert h1
  generalize nameB _ false = a1
  generalize samplesB _ = a2
  generalize decide ((_ : Int) = 0) = a3
  have e : decide ((0 : Int) < (k : Int)) = true := decide_eq_true (by omega)
  rw [e]
  generalize Op.bytesLess _ _ = a4
  revert a1 a2 a3 a4; decide
theorem good_lt {h : GHead} (hg : goodHead h = true) : ∀ (d a : Nat), a + (d + 1) < h.rows.length → Op.bytesLess (h.rows.getD a (default : GRow)).name.toList (h.rows.getD (a + (d + 1)) (default : GRow)).name.toList = true
  | 0, a, hl => good_step hg (k := a + 1) (by omega) hl
  | d + 1, a, hl => less_trans (good_lt hg d a (by omega)) (good_step hg (k := a + (d + 1 + 1)) (by omega) hl)
theorem loF_le (h : GHead) (s : ByteArray) : loF h s ≤ h.rows.length := List.findIdx_le_length
theorem loF_lt {h : GHead} {s : ByteArray} {a : Nat} (ha : a < loF h s) : cmpS (h.rows.getD a (default : GRow)).name s < 0 := by
  have hl : a < h.rows.length := Nat.lt_of_lt_of_le ha (loF_le h s)
  have h1 := List.not_of_lt_findIdx ha
  rw [List.getD_eq_getElem?_getD, List.getElem?_eq_getElem hl]
  have := of_decide_eq_false h1
  show cmpS (h.rows[a]).name s < 0
  omega
theorem loF_at {h : GHead} {s : ByteArray} (hl : loF h s < h.rows.length) : 0 ≤ cmpS (h.rows.getD (loF h s) (default : GRow)).name s := by
  rw [List.getD_eq_getElem?_getD, List.getElem?_eq_getElem hl]
  exact of_decide_eq_true (List.findIdx_getElem (w := hl))
theorem loF_ge {h : GHead} {s : ByteArray} (hg : goodHead h = true) {a : Nat} (h1 : loF h s ≤ a) (h2 : a < h.rows.length) : ¬ cmpS (h.rows.getD a (default : GRow)).name s < 0 := by
  intro hc
  have h3 := loF_at (h := h) (s := s) (by omega)
  by_cases e : loF h s = a
  · rw [e] at h3; omega
  · obtain ⟨d, rfl⟩ : ∃ d, a = loF h s + (d + 1) := ⟨a - loF h s - 1, by omega⟩
    have h4 := good_lt hg d (loF h s) h2
    have h5 := (cmpS_lt _ _).2 (less_trans h4 ((cmpS_lt _ _).1 hc))
    omega
theorem loF_eq {h : GHead} {s : ByteArray} (hg : goodHead h = true) {k : Nat} (hk : k < h.rows.length) (he : (h.rows.getD k (default : GRow)).name = s) : loF h s = k := by
  have h0 : cmpS (h.rows.getD k (default : GRow)).name s = 0 := (cmpS_zero _ _).2 he
  rcases Nat.lt_trichotomy (loF h s) k with h1 | h1 | h1
  · have h3 := loF_at (h := h) (s := s) (by omega)
    obtain ⟨d, rfl⟩ : ∃ d, k = loF h s + (d + 1) := ⟨k - loF h s - 1, by omega⟩
    have h4 := good_lt hg d (loF h s) hk
    rw [he] at h4
    have := (cmpS_lt _ _).2 h4
    omega
  · exact h1
  · have := loF_lt h1
    omega
def isRow (h : GHead) (s : ByteArray) : Bool := decide (loF h s < h.rows.length) && decide ((h.rows.getD (loF h s) (default : GRow)).name = s)
def rowV (h : GHead) (s : ByteArray) : List GSample × Bool := if goodHead h = true ∧ isRow h s = true then ((h.rows.getD (loF h s) (default : GRow)).samples, true) else ([], false)

theorem v_Find1 (x : GRow) (s : ByteArray) : Fn Try.prog 75 [.agg [.str x.name, .lst 2 x.samples.length (fun i0 j0 => ([.int .i64 ((x.samples.getD i0 (default : GSample)).at_), .int .i64 ((x.samples.getD i0 (default : GSample)).value)] : List AV).getD j0 (.con undef))], .one (.str s)] (.one (.int .i64 (cmpS x.name s))) := by
  refine Fn.of_body (fn := Try.f75) Try.func75 rfl (Nat.le_of_ble_eq_true rfl) trivial ?_
  intro w0
  show AW _ 9 _ _ _ _
  refine AW.seq ?_
  refine AW.region ?_
  refine ARun.box (id := 0) rfl (.tmp rfl) (SV.cells_of (by exact ⟨trivial, trivial, trivial⟩)) ⟨rfl, (by repeat first | exact trivial | refine ⟨by decide, by first | rfl | exact trivial | (intro i j; first | rfl | exact getD_no rfl | (dsimp only; split <;> first | rfl | exact getD_no rfl)), ?_⟩)⟩ rfl rfl rfl (Nat.le_of_ble_eq_true rfl) ?_
  refine ARun.pure (PureOp.assign rfl .int) rfl rfl (Nat.le_of_ble_eq_true rfl) ?_
  refine ARun.nil ?_
  refine AW.seq ?_
  refine AW.region ?_
  refine ARun.pure (PureOp.fieldPtr rfl (.tmp rfl) vrc_fi_67_0_0) rfl rfl (Nat.le_of_ble_eq_true rfl) ?_
  refine ARun.pure (PureOp.loadPtr rfl (.tmp rfl) vrc_pl_9 rfl rfl (Nat.le_of_ble_eq_true rfl) (Nat.le_of_ble_eq_true rfl)) rfl rfl (Nat.le_of_ble_eq_true rfl) ?_
  refine ARun.pure (PureOp.move rfl (.tmp rfl)) rfl rfl (Nat.le_of_ble_eq_true rfl) ?_
  refine ARun.pure (PureOp.call rfl (v_Compare x.name s) ⟨⟨_, (.tmp rfl), .str⟩, ⟨_, (.tmp rfl), .str⟩, trivial⟩ vrc_ca_76 trivial) rfl rfl (Nat.le_of_ble_eq_true rfl) ?_
  refine ARun.pure (PureOp.assign rfl (.tmp rfl)) rfl rfl (Nat.le_of_ble_eq_true rfl) ?_
  refine ARun.nil ?_
  refine AW.ret (show ResL _ _ [.tmp 4] _ from resI rfl ?_)
  rfl

theorem v_Bs (l : List GRow) (s : ByteArray) (lo : Nat) (hl : l.length ≤ 1048576) (hlo : lo ≤ l.length) (hlt : ∀ a, a < lo → cmpS (l.getD a (default : GRow)).name s < 0) (hge : ∀ a, lo ≤ a → a < l.length → ¬ cmpS (l.getD a (default : GRow)).name s < 0) : Fn Try.prog 74 [.one (.lst 2 l.length (fun i0 j0 => ([.str ((l.getD i0 (default : GRow)).name), .lst 2 (((l.getD i0 (default : GRow)).samples).length) (fun i1 j1 => ([.int .i64 ((((l.getD i0 (default : GRow)).samples).getD i1 (default : GSample)).at_), .int .i64 ((((l.getD i0 (default : GRow)).samples).getD i1 (default : GSample)).value)] : List AV).getD j1 (.con undef))] : List AV).getD j0 (.con undef))), .one (.str s), .one (.fn 75 0 (fun _ => .con undef))] (.tup2 (.one (.int .i64 (lo : Int))) (.one (.bool (decide (lo < l.length) && decide ((l.getD lo (default : GRow)).name = s))))) := by
  refine Fn.of_body (fn := Try.f74) Try.func74 rfl (Nat.le_of_ble_eq_true rfl) ⟨trivial, trivial⟩ ?_
  intro w0
  show AW _ 49 _ _ _ _
  refine AW.bound (t := 0) rfl fun hx => ?_
  refine AW.seq ?_
  refine AW.region ?_
  refine ARun.pure (PureOp.assign rfl .int) rfl rfl (Nat.le_of_ble_eq_true rfl) ?_
  refine ARun.pure (PureOp.assign rfl .bool) rfl rfl (Nat.le_of_ble_eq_true rfl) ?_
  refine ARun.nil ?_
  refine AW.seq ?_
  refine AW.region ?_
  refine ARun.pure (PureOp.move rfl (.tmp rfl)) rfl rfl (Nat.le_of_ble_eq_true rfl) ?_
  refine ARun.pure (PureOp.lenLst rfl (.tmp rfl) vrc_sl_27) rfl rfl (Nat.le_of_ble_eq_true rfl) ?_
  refine ARun.pure (PureOp.assign rfl (.tmp rfl)) rfl rfl (Nat.le_of_ble_eq_true rfl) ?_
  refine ARun.nil ?_
  refine AW.seq ?_
  refine AW.region ?_
  refine ARun.pure (PureOp.move rfl (.tmp rfl)) rfl rfl (Nat.le_of_ble_eq_true rfl) ?_
  refine ARun.pure (PureOp.assign rfl .int) rfl rfl (Nat.le_of_ble_eq_true rfl) ?_
  refine ARun.pure (PureOp.assign rfl (.tmp rfl)) rfl rfl (Nat.le_of_ble_eq_true rfl) ?_
  refine ARun.nil ?_
  refine AW.seq ?_
  refine AW.block ?_
  refine AW.loop (ι := Nat × Nat) (fun vv => ⟨[(0, .one (.lst 2 l.length (fun i0 j0 => ([.str ((l.getD i0 (default : GRow)).name), .lst 2 (((l.getD i0 (default : GRow)).samples).length) (fun i1 j1 => ([.int .i64 ((((l.getD i0 (default : GRow)).samples).getD i1 (default : GSample)).at_), .int .i64 ((((l.getD i0 (default : GRow)).samples).getD i1 (default : GSample)).value)] : List AV).getD j1 (.con undef))] : List AV).getD j0 (.con undef)))), (1, .one (.str s)), (2, .one (.fn 75 0 (fun _ => .con undef))), (8, .one (.int .i64 (l.length : Int))), (9, .one (.int .i64 (vv.1 : Int))), (10, .one (.int .i64 (vv.2 : Int)))], []⟩) (fun vv => vv.1 ≤ lo ∧ lo ≤ vv.2 ∧ vv.2 ≤ l.length) (fun vv => vv.2 - vv.1) (0, l.length) ⟨Nat.zero_le _, hlo, Nat.le_refl _⟩ ⟨⟨⟨_, rfl, rfl⟩, ⟨_, rfl, rfl⟩, ⟨_, rfl, rfl⟩, ⟨_, rfl, rfl⟩, ⟨_, rfl, rfl⟩, ⟨_, rfl, rfl⟩, trivial⟩, trivial⟩ ?_
  intro vv hI
  obtain ⟨hi1, hi2, hi3⟩ := hI
  refine AW.seq ?_
  refine AW.seq ?_
  refine AW.region ?_
  refine ARun.pure (PureOp.move rfl (.tmp rfl)) rfl rfl (Nat.le_of_ble_eq_true rfl) ?_
  refine ARun.pure (PureOp.move rfl (.tmp rfl)) rfl rfl (Nat.le_of_ble_eq_true rfl) ?_
  refine ARun.pure (PureOp.intOp rfl (.tmp rfl) (.tmp rfl) rfl) rfl rfl (Nat.le_of_ble_eq_true rfl) ?_
  refine ARun.nil ?_
  refine AW.cond (.tmp rfl) (fun hb1 => ?_) (fun hb1 => ?_)
  · have _u := True.intro
    replace hb1 := of_decide_eq_true hb1
    refine AW.skip ?_
    refine AW.block ?_
    refine AW.seq ?_
    refine AW.region ?_
    refine ARun.pure (PureOp.move rfl (.tmp rfl)) rfl rfl (Nat.le_of_ble_eq_true rfl) ?_
    refine ARun.pure (PureOp.move rfl (.tmp rfl)) rfl rfl (Nat.le_of_ble_eq_true rfl) ?_
    refine ARun.pure (PureOp.add (c := ((vv.1 + vv.2 : Nat) : Int)) rfl (.tmp rfl) (.tmp rfl) (by rw [wrap_id (by omega) (by omega)]; omega)) rfl rfl (Nat.le_of_ble_eq_true rfl) ?_
    refine ARun.pure (PureOp.conv (b := ((vv.1 + vv.2 : Nat) : Int)) rfl (.tmp rfl) vrc_cv_3_120_.u64 (wrap_u64 (by omega) (by omega))) rfl rfl (Nat.le_of_ble_eq_true rfl) ?_
    refine ARun.pure (PureOp.shr1 (a := vv.1 + vv.2) rfl (.tmp rfl) .int) rfl rfl (Nat.le_of_ble_eq_true rfl) ?_
    refine ARun.pure (PureOp.conv (b := (((vv.1 + vv.2) / 2 : Nat) : Int)) rfl (.tmp rfl) vrc_cv_120_3_.i64 (wrap_id (by omega) (by omega))) rfl rfl (Nat.le_of_ble_eq_true rfl) ?_
    refine ARun.pure (PureOp.assign rfl (.tmp rfl)) rfl rfl (Nat.le_of_ble_eq_true rfl) ?_
    refine ARun.nil ?_
    refine AW.seq ?_
    refine AW.region ?_
    refine ARun.pure (PureOp.move rfl (.tmp rfl)) rfl rfl (Nat.le_of_ble_eq_true rfl) ?_
    refine ARun.pure (PureOp.move rfl (.tmp rfl)) rfl rfl (Nat.le_of_ble_eq_true rfl) ?_
    refine ARun.pure (PureOp.move rfl (.tmp rfl)) rfl rfl (Nat.le_of_ble_eq_true rfl) ?_
    refine ARun.pure (PureOp.indexLst (i := (vv.1 + vv.2) / 2) rfl (.tmp rfl) vrc_el_27_2 (.tmp rfl) rfl (by omega)) rfl rfl (Nat.le_of_ble_eq_true rfl) ?_
    refine ARun.pure (PureOp.loadRefAgg rfl (.tmp rfl) vrc_ag_67_2 (Nat.le_of_ble_eq_true rfl)) rfl rfl (Nat.le_of_ble_eq_true rfl) ?_
    refine ARun.pure (PureOp.move rfl (.tmp rfl)) rfl rfl (Nat.le_of_ble_eq_true rfl) ?_
    refine ARun.pure (PureOp.callv rfl (.tmp rfl) (show Fn Try.prog 75 ([.agg [.str ((l.getD ((vv.1 + vv.2) / 2) (default : GRow)).name), .lst 2 (((l.getD ((vv.1 + vv.2) / 2) (default : GRow)).samples).length) (fun i0 j0 => ([.int .i64 ((((l.getD ((vv.1 + vv.2) / 2) (default : GRow)).samples).getD i0 (default : GSample)).at_), .int .i64 ((((l.getD ((vv.1 + vv.2) / 2) (default : GRow)).samples).getD i0 (default : GSample)).value)] : List AV).getD j0 (.con undef))], .one (.str s)] ++ capL 0 (fun _ => .con undef)) _ from v_Find1 (l.getD ((vv.1 + vv.2) / 2) (default : GRow)) s) (fun j h => absurd h (by omega)) ⟨⟨_, (.tmp rfl), ⟨.str, .lst, trivial⟩⟩, ⟨_, (.tmp rfl), .str⟩, trivial⟩ vrc_ca_75 trivial) rfl rfl (Nat.le_of_ble_eq_true rfl) ?_
    refine ARun.pure (PureOp.intOp rfl (.tmp rfl) .int rfl) rfl rfl (Nat.le_of_ble_eq_true rfl) ?_
    refine ARun.nil ?_
    refine AW.cond (.tmp rfl) (fun hb2 => ?_) (fun hb2 => ?_)
    · have _u := True.intro
      replace hb2 := of_decide_eq_true hb2
      have hm : ((vv.1 + vv.2) / 2) < lo := (Nat.lt_or_ge ((vv.1 + vv.2) / 2) lo).elim id (fun hc => absurd hb2 (hge _ hc (by omega)))
      refine AW.region ?_
      refine ARun.pure (PureOp.move rfl (.tmp rfl)) rfl rfl (Nat.le_of_ble_eq_true rfl) ?_
      refine ARun.pure (PureOp.add (c := (((vv.1 + vv.2) / 2 + 1 : Nat) : Int)) rfl (.tmp rfl) .int (by rw [wrap_id (by omega) (by omega)]; omega)) rfl rfl (Nat.le_of_ble_eq_true rfl) ?_
      refine ARun.pure (PureOp.assign rfl (.tmp rfl)) rfl rfl (Nat.le_of_ble_eq_true rfl) ?_
      refine ARun.nil ?_
      exact ⟨((vv.1 + vv.2) / 2 + 1, vv.2), (by dsimp only; omega), by dsimp only; omega, ⟨⟨⟨_, rfl, rfl⟩, ⟨_, rfl, rfl⟩, ⟨_, rfl, rfl⟩, ⟨_, rfl, rfl⟩, ⟨_, rfl, rfl⟩, ⟨_, rfl, rfl⟩, trivial⟩, trivial⟩⟩
    · have _u := True.intro
      replace hb2 := of_decide_eq_false hb2
      have hm : ¬ ((vv.1 + vv.2) / 2) < lo := fun hc => hb2 (hlt _ hc)
      refine AW.region ?_
      refine ARun.pure (PureOp.move rfl (.tmp rfl)) rfl rfl (Nat.le_of_ble_eq_true rfl) ?_
      refine ARun.pure (PureOp.assign rfl (.tmp rfl)) rfl rfl (Nat.le_of_ble_eq_true rfl) ?_
      refine ARun.nil ?_
      exact ⟨(vv.1, (vv.1 + vv.2) / 2), (by dsimp only; omega), by dsimp only; omega, ⟨⟨⟨_, rfl, rfl⟩, ⟨_, rfl, rfl⟩, ⟨_, rfl, rfl⟩, ⟨_, rfl, rfl⟩, ⟨_, rfl, rfl⟩, ⟨_, rfl, rfl⟩, trivial⟩, trivial⟩⟩
  · have _u := True.intro
    replace hb1 := of_decide_eq_false hb1
    refine AW.exit ?_
    refine AW.seq ?_
    refine AW.region ?_
    refine ARun.pure (PureOp.move rfl (.tmp rfl)) rfl rfl (Nat.le_of_ble_eq_true rfl) ?_
    refine ARun.pure (PureOp.move rfl (.tmp rfl)) rfl rfl (Nat.le_of_ble_eq_true rfl) ?_
    refine ARun.pure (PureOp.move rfl (.tmp rfl)) rfl rfl (Nat.le_of_ble_eq_true rfl) ?_
    refine ARun.pure (PureOp.intOp rfl (.tmp rfl) (.tmp rfl) rfl) rfl rfl (Nat.le_of_ble_eq_true rfl) ?_
    refine ARun.pure (PureOp.move rfl (.tmp rfl)) rfl rfl (Nat.le_of_ble_eq_true rfl) ?_
    refine ARun.gpure (want := true) (.tt rfl) (fun hg3 => PureOp.move rfl (.tmp rfl)) rfl rfl (Nat.le_of_ble_eq_true rfl) rfl (Nat.le_of_ble_eq_true rfl) ?_
    refine ARun.gpure (want := true) (.tt rfl) (fun hg4 => PureOp.move rfl (.tmp rfl)) rfl rfl (Nat.le_of_ble_eq_true rfl) rfl (Nat.le_of_ble_eq_true rfl) ?_
    refine ARun.gpure (want := true) (.tt rfl) (fun hg5 => PureOp.move rfl (.tmp rfl)) rfl rfl (Nat.le_of_ble_eq_true rfl) rfl (Nat.le_of_ble_eq_true rfl) ?_
    refine ARun.gpure (want := true) (.tt rfl) (fun hg6 => PureOp.indexLst (i := vv.1) rfl (.gtmp rfl hg6) vrc_el_27_2 (.gtmp rfl hg6) rfl (by have q := hg6; simp only [Bool.cond_true_left, Bool.cond_false_right, Bool.not_eq_true', Bool.or_eq_false_iff, Bool.not_eq_false', Bool.and_eq_true, Bool.not_not, decide_eq_true_eq, decide_eq_false_iff_not, inB] at q; omega)) rfl rfl (Nat.le_of_ble_eq_true rfl) rfl (Nat.le_of_ble_eq_true rfl) ?_
    refine ARun.gpure (want := true) (.tt rfl) (fun hg7 => PureOp.loadRefAgg rfl (.gtmp rfl hg7) vrc_ag_67_2 (Nat.le_of_ble_eq_true rfl)) rfl rfl (Nat.le_of_ble_eq_true rfl) rfl (Nat.le_of_ble_eq_true rfl) ?_
    refine ARun.gpure (want := true) (.tt rfl) (fun hg8 => PureOp.move rfl (.tmp rfl)) rfl rfl (Nat.le_of_ble_eq_true rfl) rfl (Nat.le_of_ble_eq_true rfl) ?_
    refine ARun.gpure (want := true) (.tt rfl) (fun hg9 => PureOp.callv rfl (.gtmp rfl hg9) (show Fn Try.prog 75 ([.agg [.str ((l.getD vv.1 (default : GRow)).name), .lst 2 (((l.getD vv.1 (default : GRow)).samples).length) (fun i0 j0 => ([.int .i64 ((((l.getD vv.1 (default : GRow)).samples).getD i0 (default : GSample)).at_), .int .i64 ((((l.getD vv.1 (default : GRow)).samples).getD i0 (default : GSample)).value)] : List AV).getD j0 (.con undef))], .one (.str s)] ++ capL 0 (fun _ => .con undef)) _ from v_Find1 (l.getD vv.1 (default : GRow)) s) (fun j h => absurd h (by omega)) ⟨⟨_, (.gtmp rfl hg9), ⟨.str, .lst, trivial⟩⟩, ⟨_, (.gtmp rfl hg9), .str⟩, trivial⟩ vrc_ca_75 trivial) rfl rfl (Nat.le_of_ble_eq_true rfl) rfl (Nat.le_of_ble_eq_true rfl) ?_
    refine ARun.gpure (want := true) (.tt rfl) (fun hg10 => PureOp.intOp rfl (.gtmp rfl hg10) .int rfl) rfl rfl (Nat.le_of_ble_eq_true rfl) rfl (Nat.le_of_ble_eq_true rfl) ?_
    refine ARun.pure (PureOp.pick rfl (.tmp rfl) (fun hp11 => .gtmp rfl hp11) (fun _ => .bool)) rfl rfl (Nat.le_of_ble_eq_true rfl) ?_
    refine ARun.pure (PureOp.assign rfl (.tmp rfl)) rfl rfl (Nat.le_of_ble_eq_true rfl) ?_
    refine ARun.pure (PureOp.assign rfl (.tmp rfl)) rfl rfl (Nat.le_of_ble_eq_true rfl) ?_
    refine ARun.nil ?_
    refine AW.ret (show ResL _ _ [.tmp 6, .tmp 7] _ from res2I rfl rfl ?_)
    have he : vv.1 = lo := by omega
    rw [he]
    refine ⟨rfl, ?_⟩
    generalize (l.getD lo _) = rr
    by_cases hc : lo < l.length
    · rw [decide_eq_true (show ((lo : Nat) : Int) < ((l.length : Nat) : Int) by omega), decide_eq_true hc]; exact decide_eq_decide.2 (cmpS_zero _ _)
    · rw [decide_eq_false (show ¬ ((lo : Nat) : Int) < ((l.length : Nat) : Int) by omega), decide_eq_false hc]; rfl

theorem v_Find (h : GHead) (s : ByteArray) (hl : h.rows.length ≤ 1048576) (hg : goodHead h = true) : Fn Try.prog 48 [.one (.ref 2 (fun j => ([.lst 2 h.rows.length (fun i0 j0 => ([.str ((h.rows.getD i0 (default : GRow)).name), .lst 2 (((h.rows.getD i0 (default : GRow)).samples).length) (fun i1 j1 => ([.int .i64 ((((h.rows.getD i0 (default : GRow)).samples).getD i1 (default : GSample)).at_), .int .i64 ((((h.rows.getD i0 (default : GRow)).samples).getD i1 (default : GSample)).value)] : List AV).getD j1 (.con undef))] : List AV).getD j0 (.con undef)), .int .i64 h.offset] : List AV).getD j (.con undef))), .one (.str s)] (.tup2 (.one (.int .i64 (loF h s : Int))) (.one (.bool (isRow h s)))) := by
  refine Fn.of_body (fn := Try.f48) Try.func48 rfl (Nat.le_of_ble_eq_true rfl) ⟨trivial, trivial⟩ ?_
  intro w0
  show AW _ 14 _ _ _ _
  refine AW.seq ?_
  refine AW.region ?_
  refine ARun.pure (PureOp.assign rfl .int) rfl rfl (Nat.le_of_ble_eq_true rfl) ?_
  refine ARun.pure (PureOp.assign rfl .bool) rfl rfl (Nat.le_of_ble_eq_true rfl) ?_
  refine ARun.nil ?_
  refine AW.seq ?_
  refine AW.region ?_
  refine ARun.pure (PureOp.move rfl (.tmp rfl)) rfl rfl (Nat.le_of_ble_eq_true rfl) ?_
  refine ARun.pure (PureOp.nilRef rfl (.tmp rfl)) rfl rfl (Nat.le_of_ble_eq_true rfl) ?_
  refine ARun.pure (PureOp.fieldRef rfl (.tmp rfl) vrc_fi_29_0_0 (Nat.le_of_ble_eq_true rfl)) rfl rfl (Nat.le_of_ble_eq_true rfl) ?_
  refine ARun.pure (PureOp.loadRef rfl (.tmp rfl) vrc_pl_27 (Nat.le_of_ble_eq_true rfl)) rfl rfl (Nat.le_of_ble_eq_true rfl) ?_
  refine ARun.pure (PureOp.move rfl (.tmp rfl)) rfl rfl (Nat.le_of_ble_eq_true rfl) ?_
  refine ARun.pure (PureOp.call rfl (v_Bs h.rows s (loF h s) (by omega) (loF_le h s) (fun _ hq => loF_lt hq) (fun _ hq1 hq2 => loF_ge hg hq1 hq2)) ⟨⟨_, (.tmp rfl), .lst⟩, ⟨_, (.tmp rfl), .str⟩, ⟨_, .func, (.fn (fun j h => absurd h (by omega)))⟩, trivial⟩ vrc_ca_74 ⟨trivial, trivial⟩) rfl rfl (Nat.le_of_ble_eq_true rfl) ?_
  refine ARun.pure (PureOp.ext2a rfl (.tmp rfl)) rfl rfl (Nat.le_of_ble_eq_true rfl) ?_
  refine ARun.pure (PureOp.ext2b rfl (.tmp rfl)) rfl rfl (Nat.le_of_ble_eq_true rfl) ?_
  refine ARun.pure (PureOp.assign rfl (.tmp rfl)) rfl rfl (Nat.le_of_ble_eq_true rfl) ?_
  refine ARun.pure (PureOp.assign rfl (.tmp rfl)) rfl rfl (Nat.le_of_ble_eq_true rfl) ?_
  refine ARun.nil ?_
  refine AW.ret (show ResL _ _ [.tmp 4, .tmp 5] _ from res2I rfl rfl ?_)
  exact ⟨rfl, rfl⟩
end Go.Proofs.Ytmfkmifkkplidaa
