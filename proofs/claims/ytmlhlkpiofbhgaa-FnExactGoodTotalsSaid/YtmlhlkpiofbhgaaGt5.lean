/-
  Totals: what a valid list is, in the reference and in the program.
-/
import Derived.Test.YtmlhlkpiofbhgaaTx5
namespace Go.Proofs.Ytmlhlkpiofbhgaa
open Go.ChangeShapes Go.WideShapes Go.ChangeAt Go.RowKit Go.BigFrame Go.Deep
set_option linter.unusedVariables false
set_option linter.unusedSimpArgs false
theorem vjc_ag_114_5 : aggB Try.prog 114 5 = true := by kernel_rfl
theorem vjc_ca_114 : callB Try.prog 114 = true := by kernel_rfl
theorem vjc_ca_44 : callB Try.prog 44 = true := by kernel_rfl
theorem vjc_ca_45 : callB Try.prog 45 = true := by kernel_rfl
theorem vjc_ca_77 : callB Try.prog 77 = true := by kernel_rfl
theorem vjc_ca_84 : callB Try.prog 84 = true := by kernel_rfl
theorem vjc_ca_89 : callB Try.prog 89 = true := by kernel_rfl
theorem vjc_ca_91 : callB Try.prog 91 = true := by kernel_rfl
theorem vjc_el_69_5 : elemB Try.prog 69 5 = true := by kernel_rfl
theorem vjc_fi_114_0_0 : fieldB Try.prog 114 0 0 = true := by kernel_rfl
theorem vjc_fi_114_1_1 : fieldB Try.prog 114 1 1 = true := by kernel_rfl
theorem vjc_fi_114_2_2 : fieldB Try.prog 114 2 2 = true := by kernel_rfl
theorem vjc_fi_114_3_3 : fieldB Try.prog 114 3 3 = true := by kernel_rfl
theorem vjc_fi_114_4_4 : fieldB Try.prog 114 4 4 = true := by kernel_rfl
theorem vjc_pl_3 : plainB Try.prog 3 = true := by kernel_rfl
theorem vjc_pl_57 : plainB Try.prog 57 = true := by kernel_rfl
theorem vjc_sl_69 : sliceB Try.prog 69 = true := by kernel_rfl
theorem vjc_sz_114_5 : sizeB Try.prog 114 5 = true := by kernel_rfl
def totBad (l : List GTotal) (k : Nat) : Bool :=
  cond (cond (cond (cond (cond (!(labelsB ((l.getD k (default : GTotal)).labels))) true (!(inB 1 1000 ((l.getD k (default : GTotal)).count)))) true (!(inB (-1000000000) 1000000000 ((l.getD k (default : GTotal)).sum)))) true (!(inB (-1000000) ((l.getD k (default : GTotal)).most) ((l.getD k (default : GTotal)).least)))) true (decide (1000000 < (l.getD k (default : GTotal)).most))) true (cond (decide (0 < (k : Int))) (!Op.bytesLess (labelsT ((l.getD (k - 1) (default : GTotal)).labels)).toList (labelsT ((l.getD k (default : GTotal)).labels)).toList) false)
def totalsB (l : List GTotal) : Bool := (List.range l.length).all (fun j => !totBad l j) && decide ((l.length : Int) ≤ 40)
theorem totBad_lab {l : List GTotal} {j : Nat} (h : totBad l j = false) : labelsB (l.getD j (default : GTotal)).labels = true := by
  unfold totBad at h
  simp only [Bool.cond_true_left, Bool.or_eq_false_iff, Bool.not_eq_false'] at h
  first | exact h.1 | exact h.1.1 | exact h.1.1.1 | exact h.1.1.1.1 | exact h.1.1.1.1.1 | exact h.1.1.1.1.1.1
theorem v_specGoodTotals (l : List GTotal) : Fn Try.prog 40 [.one (.lst 5 l.length (fun i0 j0 => ([.lst 2 (((l.getD i0 (default : GTotal)).labels).length) (fun i1 j1 => ([.str ((((l.getD i0 (default : GTotal)).labels).getD i1 (default : GLabel)).lname), .str ((((l.getD i0 (default : GTotal)).labels).getD i1 (default : GLabel)).lvalue)] : List AV).getD j1 (.con undef)), .int .i64 ((l.getD i0 (default : GTotal)).sum), .int .i64 ((l.getD i0 (default : GTotal)).count), .int .i64 ((l.getD i0 (default : GTotal)).least), .int .i64 ((l.getD i0 (default : GTotal)).most)] : List AV).getD j0 (.con undef)))] (.one (.bool (totalsB l))) := by
  refine Fn.of_body (fn := Try.f40) Try.func40 rfl (Nat.le_of_ble_eq_true rfl) trivial ?_
  intro w0
  show AW _ 62 _ _ _ _
  refine AW.bound (t := 0) rfl fun hx => ?_
  refine AW.seq ?_
  refine AW.region ?_
  refine ARun.pure (PureOp.assign rfl .bool) rfl rfl (Nat.le_of_ble_eq_true rfl) ?_
  refine ARun.nil ?_
  refine AW.seq ?_
  refine AW.seq ?_
  refine AW.region ?_
  refine ARun.pure (PureOp.move rfl (.tmp rfl)) rfl rfl (Nat.le_of_ble_eq_true rfl) ?_
  refine ARun.pure (PureOp.lenLst rfl (.tmp rfl) vjc_sl_69) rfl rfl (Nat.le_of_ble_eq_true rfl) ?_
  refine ARun.pure (PureOp.move rfl .int) rfl rfl (Nat.le_of_ble_eq_true rfl) ?_
  refine ARun.nil ?_
  refine AW.block ?_
  refine AW.loop (ι := Nat) (fun k => ⟨[(0, .one (.lst 5 l.length (fun i0 j0 => ([.lst 2 (((l.getD i0 (default : GTotal)).labels).length) (fun i1 j1 => ([.str ((((l.getD i0 (default : GTotal)).labels).getD i1 (default : GLabel)).lname), .str ((((l.getD i0 (default : GTotal)).labels).getD i1 (default : GLabel)).lvalue)] : List AV).getD j1 (.con undef)), .int .i64 ((l.getD i0 (default : GTotal)).sum), .int .i64 ((l.getD i0 (default : GTotal)).count), .int .i64 ((l.getD i0 (default : GTotal)).least), .int .i64 ((l.getD i0 (default : GTotal)).most)] : List AV).getD j0 (.con undef)))), (5, .one (.lst 5 l.length (fun i0 j0 => ([.lst 2 (((l.getD i0 (default : GTotal)).labels).length) (fun i1 j1 => ([.str ((((l.getD i0 (default : GTotal)).labels).getD i1 (default : GLabel)).lname), .str ((((l.getD i0 (default : GTotal)).labels).getD i1 (default : GLabel)).lvalue)] : List AV).getD j1 (.con undef)), .int .i64 ((l.getD i0 (default : GTotal)).sum), .int .i64 ((l.getD i0 (default : GTotal)).count), .int .i64 ((l.getD i0 (default : GTotal)).least), .int .i64 ((l.getD i0 (default : GTotal)).most)] : List AV).getD j0 (.con undef)))), (6, .one (.int .i64 (l.length : Int))), (7, .one (.int .i64 (k : Int)))], []⟩) (fun k => k ≤ l.length ∧ ∀ j, j < k → totBad l j = false) (fun k => l.length - k) 0 ⟨Nat.zero_le _, fun j hj => absurd hj (by omega)⟩ ⟨⟨⟨_, rfl, rfl⟩, ⟨_, rfl, rfl⟩, ⟨_, rfl, rfl⟩, ⟨_, rfl, rfl⟩, trivial⟩, trivial⟩ ?_
  intro k hI
  obtain ⟨hk, hks⟩ := hI
  refine AW.seq ?_
  refine AW.region ?_
  refine ARun.pure (PureOp.intOp rfl (.tmp rfl) (.tmp rfl) rfl) rfl rfl (Nat.le_of_ble_eq_true rfl) ?_
  refine ARun.nil ?_
  refine AW.seq ?_
  refine AW.cond (.tmp rfl) (fun hb1 => ?_) (fun hb1 => ?_)
  · have _u := True.intro
    replace hb1 := of_decide_eq_true hb1
    have hkl : k < l.length := by omega
    refine AW.skip ?_
    refine AW.seq ?_
    refine AW.block ?_
    refine AW.seq ?_
    refine AW.region ?_
    refine ARun.pure (PureOp.move rfl (.tmp rfl)) rfl rfl (Nat.le_of_ble_eq_true rfl) ?_
    refine ARun.pure (PureOp.indexLst (i := k) rfl (.tmp rfl) vjc_el_69_5 (.tmp rfl) rfl (by omega)) rfl rfl (Nat.le_of_ble_eq_true rfl) ?_
    refine ARun.pure (PureOp.loadRefAgg rfl (.tmp rfl) vjc_ag_114_5 (Nat.le_of_ble_eq_true rfl)) rfl rfl (Nat.le_of_ble_eq_true rfl) ?_
    refine ARun.alloc (id := 0) (l := [.lst 2 0 (fun _ _ => .con undef), .int .i64 0, .int .i64 0, .int .i64 0, .int .i64 0]) (z := (.agg #[.slice none 0 0, .int .i64 0, .int .i64 0, .int .i64 0, .int .i64 0])) rfl (by kernel_rfl) (fun _ _ _ => ⟨_, _, rfl, ⟨none, 0, rfl, Nat.le_refl _, by decide, fun _ => rfl, fun i hi => absurd hi (by omega)⟩, ⟨_, _, rfl, rfl, ⟨_, _, rfl, rfl, ⟨_, _, rfl, rfl, ⟨_, _, rfl, rfl, rfl⟩⟩⟩⟩⟩) ⟨rfl, (by repeat first | exact trivial | refine ⟨by decide, by first | rfl | (intro i j; first | rfl | (dsimp only; split <;> rfl)), ?_⟩)⟩ rfl rfl rfl (Nat.le_of_ble_eq_true rfl) ?_
    refine ARun.pure (PureOp.assign rfl (.tmp rfl)) rfl rfl (Nat.le_of_ble_eq_true rfl) ?_
    refine ARun.store rfl (.tmp rfl) (.tmp rfl) (SV.cells_of (by exact ⟨trivial, trivial, trivial, trivial, trivial, trivial⟩)) rfl (Nat.le_of_ble_eq_true rfl) vjc_sz_114_5 rfl rfl ?_
    refine ARun.nil ?_
    refine AW.seq ?_
    refine AW.any (by kernel_rfl) (by kernel_rfl) ?_
    refine AD.pure (PureOp.fieldPtr rfl (.tmp rfl) vjc_fi_114_0_0) rfl rfl (Nat.le_of_ble_eq_true rfl) ?_
    refine AD.pure (PureOp.loadPtr rfl (.tmp rfl) vjc_pl_57 rfl rfl (Nat.le_of_ble_eq_true rfl) (Nat.le_of_ble_eq_true rfl)) rfl rfl (Nat.le_of_ble_eq_true rfl) ?_
    refine AD.pure (PureOp.call rfl (v_GoodLabels ((l.getD k (default : GTotal)).labels)) ⟨⟨_, (.tmp rfl), .lst⟩, trivial⟩ vjc_ca_77 trivial) rfl rfl (Nat.le_of_ble_eq_true rfl) ?_
    refine AD.pure (PureOp.not rfl (.tmp rfl)) rfl rfl (Nat.le_of_ble_eq_true rfl) ?_
    refine AD.pure (PureOp.move rfl (.tmp rfl)) rfl rfl (Nat.le_of_ble_eq_true rfl) ?_
    refine AD.gpure (want := false) (.tf rfl) (fun hg2 => PureOp.fieldPtr rfl (.tmp rfl) vjc_fi_114_2_2) rfl rfl rfl (Nat.le_of_ble_eq_true rfl) ?_
    refine AD.gpure (want := false) (.tf rfl) (fun hg3 => PureOp.loadPtr rfl (.gtmp rfl hg3) vjc_pl_3 rfl rfl (Nat.le_of_ble_eq_true rfl) (Nat.le_of_ble_eq_true rfl)) rfl rfl rfl (Nat.le_of_ble_eq_true rfl) ?_
    refine AD.gpure (want := false) (.tf rfl) (fun hg4 => PureOp.call rfl (v_l1In ((l.getD k (default : GTotal)).count) 1 1000) ⟨⟨_, (.gtmp rfl hg4), .int⟩, ⟨_, .int, .int⟩, ⟨_, .int, .int⟩, trivial⟩ vjc_ca_44 trivial) rfl rfl rfl (Nat.le_of_ble_eq_true rfl) ?_
    refine AD.gpure (want := false) (.tf rfl) (fun hg5 => PureOp.not rfl (.gtmp rfl hg5)) rfl rfl rfl (Nat.le_of_ble_eq_true rfl) ?_
    refine AD.pure (PureOp.pick rfl (.tmp rfl) (fun _ => .bool) (fun hp7 => .gtmp rfl (not_of hp7))) rfl rfl (Nat.le_of_ble_eq_true rfl) ?_
    refine AD.pure (PureOp.move rfl (.tmp rfl)) rfl rfl (Nat.le_of_ble_eq_true rfl) ?_
    refine AD.gpure (want := false) (.tf rfl) (fun hg8 => PureOp.fieldPtr rfl (.tmp rfl) vjc_fi_114_1_1) rfl rfl rfl (Nat.le_of_ble_eq_true rfl) ?_
    refine AD.gpure (want := false) (.tf rfl) (fun hg9 => PureOp.loadPtr rfl (.gtmp rfl hg9) vjc_pl_3 rfl rfl (Nat.le_of_ble_eq_true rfl) (Nat.le_of_ble_eq_true rfl)) rfl rfl rfl (Nat.le_of_ble_eq_true rfl) ?_
    refine AD.gpure (want := false) (.tf rfl) (fun hg10 => PureOp.call rfl (v_l1In ((l.getD k (default : GTotal)).sum) (-1000000000) 1000000000) ⟨⟨_, (.gtmp rfl hg10), .int⟩, ⟨_, .int, .int⟩, ⟨_, .int, .int⟩, trivial⟩ vjc_ca_44 trivial) rfl rfl rfl (Nat.le_of_ble_eq_true rfl) ?_
    refine AD.gpure (want := false) (.tf rfl) (fun hg11 => PureOp.not rfl (.gtmp rfl hg11)) rfl rfl rfl (Nat.le_of_ble_eq_true rfl) ?_
    refine AD.pure (PureOp.pick rfl (.tmp rfl) (fun _ => .bool) (fun hp13 => .gtmp rfl (not_of hp13))) rfl rfl (Nat.le_of_ble_eq_true rfl) ?_
    refine AD.pure (PureOp.move rfl (.tmp rfl)) rfl rfl (Nat.le_of_ble_eq_true rfl) ?_
    refine AD.gpure (want := false) (.tf rfl) (fun hg14 => PureOp.fieldPtr rfl (.tmp rfl) vjc_fi_114_3_3) rfl rfl rfl (Nat.le_of_ble_eq_true rfl) ?_
    refine AD.gpure (want := false) (.tf rfl) (fun hg15 => PureOp.loadPtr rfl (.gtmp rfl hg15) vjc_pl_3 rfl rfl (Nat.le_of_ble_eq_true rfl) (Nat.le_of_ble_eq_true rfl)) rfl rfl rfl (Nat.le_of_ble_eq_true rfl) ?_
    refine AD.gpure (want := false) (.tf rfl) (fun hg16 => PureOp.fieldPtr rfl (.tmp rfl) vjc_fi_114_4_4) rfl rfl rfl (Nat.le_of_ble_eq_true rfl) ?_
    refine AD.gpure (want := false) (.tf rfl) (fun hg17 => PureOp.loadPtr rfl (.gtmp rfl hg17) vjc_pl_3 rfl rfl (Nat.le_of_ble_eq_true rfl) (Nat.le_of_ble_eq_true rfl)) rfl rfl rfl (Nat.le_of_ble_eq_true rfl) ?_
    refine AD.gpure (want := false) (.tf rfl) (fun hg18 => PureOp.call rfl (v_l1In ((l.getD k (default : GTotal)).least) (-1000000) ((l.getD k (default : GTotal)).most)) ⟨⟨_, (.gtmp rfl hg18), .int⟩, ⟨_, .int, .int⟩, ⟨_, (.gtmp rfl hg18), .int⟩, trivial⟩ vjc_ca_44 trivial) rfl rfl rfl (Nat.le_of_ble_eq_true rfl) ?_
    refine AD.gpure (want := false) (.tf rfl) (fun hg19 => PureOp.not rfl (.gtmp rfl hg19)) rfl rfl rfl (Nat.le_of_ble_eq_true rfl) ?_
    refine AD.pure (PureOp.pick rfl (.tmp rfl) (fun _ => .bool) (fun hp21 => .gtmp rfl (not_of hp21))) rfl rfl (Nat.le_of_ble_eq_true rfl) ?_
    refine AD.pure (PureOp.move rfl (.tmp rfl)) rfl rfl (Nat.le_of_ble_eq_true rfl) ?_
    refine AD.gpure (want := false) (.tf rfl) (fun hg22 => PureOp.fieldPtr rfl (.tmp rfl) vjc_fi_114_4_4) rfl rfl rfl (Nat.le_of_ble_eq_true rfl) ?_
    refine AD.gpure (want := false) (.tf rfl) (fun hg23 => PureOp.loadPtr rfl (.gtmp rfl hg23) vjc_pl_3 rfl rfl (Nat.le_of_ble_eq_true rfl) (Nat.le_of_ble_eq_true rfl)) rfl rfl rfl (Nat.le_of_ble_eq_true rfl) ?_
    refine AD.gpure (want := false) (.tf rfl) (fun hg24 => PureOp.intOp rfl (.gtmp rfl hg24) .int rfl) rfl rfl rfl (Nat.le_of_ble_eq_true rfl) ?_
    refine AD.pure (PureOp.pick rfl (.tmp rfl) (fun _ => .bool) (fun hp26 => .gtmp rfl (not_of hp26))) rfl rfl (Nat.le_of_ble_eq_true rfl) ?_
    refine AD.pure (PureOp.move rfl (.tmp rfl)) rfl rfl (Nat.le_of_ble_eq_true rfl) ?_
    refine AD.gpure (want := false) (.tf rfl) (fun hg27 => PureOp.move rfl (.tmp rfl)) rfl rfl rfl (Nat.le_of_ble_eq_true rfl) ?_
    refine AD.gpure (want := false) (.tf rfl) (fun hg28 => PureOp.intOp rfl (.gtmp rfl hg28) .int rfl) rfl rfl rfl (Nat.le_of_ble_eq_true rfl) ?_
    refine AD.gpure (want := false) (.tf rfl) (fun hg29 => PureOp.move rfl (.gtmp rfl hg29)) rfl rfl rfl (Nat.le_of_ble_eq_true rfl) ?_
    refine AD.gpure (want := true) (.gt rfl) (fun hg30 => PureOp.move rfl (.tmp rfl)) rfl rfl rfl (Nat.le_of_ble_eq_true rfl) ?_
    refine AD.gpure (want := true) (.gt rfl) (fun hg31 => PureOp.move rfl (.tmp rfl)) rfl rfl rfl (Nat.le_of_ble_eq_true rfl) ?_
    refine AD.gpure (want := true) (.gt rfl) (fun hg32 => PureOp.sub (c := (((k - 1) : Nat) : Int)) rfl (.gtmp rfl hg32) .int (by have q := hg32; simp only [Bool.cond_true_left, Bool.cond_false_right, Bool.not_eq_true', Bool.or_eq_false_iff, Bool.not_eq_false', Bool.and_eq_true, Bool.not_not, decide_eq_true_eq, decide_eq_false_iff_not, inB] at q; rw [wrap_id (by omega) (by omega)]; omega)) rfl rfl rfl (Nat.le_of_ble_eq_true rfl) ?_
    refine AD.gpure (want := true) (.gt rfl) (fun hg33 => PureOp.indexLst (i := (k - 1)) rfl (.gtmp rfl hg33) vjc_el_69_5 (.gtmp rfl hg33) rfl (by have q := hg33; simp only [Bool.cond_true_left, Bool.cond_false_right, Bool.not_eq_true', Bool.or_eq_false_iff, Bool.not_eq_false', Bool.and_eq_true, Bool.not_not, decide_eq_true_eq, decide_eq_false_iff_not, inB] at q; omega)) rfl rfl rfl (Nat.le_of_ble_eq_true rfl) ?_
    refine AD.gpure (want := true) (.gt rfl) (fun hg34 => PureOp.fieldRef rfl (.gtmp rfl hg34) vjc_fi_114_0_0 (Nat.le_of_ble_eq_true rfl)) rfl rfl rfl (Nat.le_of_ble_eq_true rfl) ?_
    refine AD.gpure (want := true) (.gt rfl) (fun hg35 => PureOp.loadRef rfl (.gtmp rfl hg35) vjc_pl_57 (Nat.le_of_ble_eq_true rfl)) rfl rfl rfl (Nat.le_of_ble_eq_true rfl) ?_
    refine AD.gpure (want := true) (.gt rfl) (fun hg36 => PureOp.call rfl (v_l3Text ((l.getD (k - 1) (default : GTotal)).labels) (totBad_lab (hks (k - 1) (by have q := hg36; simp only [Bool.cond_true_left, Bool.cond_false_right, Bool.not_eq_true', Bool.or_eq_false_iff, Bool.not_eq_false', Bool.and_eq_true, Bool.not_not, decide_eq_true_eq, decide_eq_false_iff_not, inB] at q; omega)))) ⟨⟨_, (.gtmp rfl hg36), .lst⟩, trivial⟩ vjc_ca_89 (Nat.le_trans (labelsT_size (totBad_lab (hks (k - 1) (by have q := hg36; simp only [Bool.cond_true_left, Bool.cond_false_right, Bool.not_eq_true', Bool.or_eq_false_iff, Bool.not_eq_false', Bool.and_eq_true, Bool.not_not, decide_eq_true_eq, decide_eq_false_iff_not, inB] at q; omega)))) (by decide))) rfl rfl rfl (Nat.le_of_ble_eq_true rfl) ?_
    refine AD.gpure (want := true) (.gt rfl) (fun hg37 => PureOp.fieldPtr rfl (.tmp rfl) vjc_fi_114_0_0) rfl rfl rfl (Nat.le_of_ble_eq_true rfl) ?_
    refine AD.gpure (want := true) (.gt rfl) (fun hg38 => PureOp.loadPtr rfl (.gtmp rfl hg38) vjc_pl_57 rfl rfl (Nat.le_of_ble_eq_true rfl) (Nat.le_of_ble_eq_true rfl)) rfl rfl rfl (Nat.le_of_ble_eq_true rfl) ?_
    refine AD.gpure (want := true) (.gt rfl) (fun hg39 => PureOp.call rfl (v_l3Text ((l.getD k (default : GTotal)).labels) (by have q := hg39; simp only [Bool.cond_true_left, Bool.cond_false_right, Bool.not_eq_true', Bool.or_eq_false_iff, Bool.not_eq_false', Bool.and_eq_true, Bool.not_not, decide_eq_true_eq, decide_eq_false_iff_not, inB] at q; first | exact q.1 | exact q.1.1 | exact q.1.1.1 | exact q.1.1.1.1 | exact q.1.1.1.1.1 | exact q.1.1.1.1.1.1 | exact q.1.1.1.1.1.1.1)) ⟨⟨_, (.gtmp rfl hg39), .lst⟩, trivial⟩ vjc_ca_89 (Nat.le_trans (labelsT_size (by have q := hg39; simp only [Bool.cond_true_left, Bool.cond_false_right, Bool.not_eq_true', Bool.or_eq_false_iff, Bool.not_eq_false', Bool.and_eq_true, Bool.not_not, decide_eq_true_eq, decide_eq_false_iff_not, inB] at q; first | exact q.1 | exact q.1.1 | exact q.1.1.1 | exact q.1.1.1.1 | exact q.1.1.1.1.1 | exact q.1.1.1.1.1.1 | exact q.1.1.1.1.1.1.1)) (by decide))) rfl rfl rfl (Nat.le_of_ble_eq_true rfl) ?_
    refine AD.gpure (want := true) (.gt rfl) (fun hg40 => PureOp.strOp rfl (.gtmp rfl hg40) (.gtmp rfl hg40) rfl) rfl rfl rfl (Nat.le_of_ble_eq_true rfl) ?_
    refine AD.gpure (want := false) (.tf rfl) (fun hg41 => PureOp.pick rfl (.gtmp rfl hg41) (fun hp42 => .gtmp rfl (and_mk hg41 hp42)) (fun _ => .bool)) rfl rfl rfl (Nat.le_of_ble_eq_true rfl) ?_
    refine AD.pure (PureOp.pick rfl (.tmp rfl) (fun _ => .bool) (fun hp45 => .gtmp rfl (not_of hp45))) rfl rfl (Nat.le_of_ble_eq_true rfl) ?_
    refine AD.nil ?_
    refine AW.cond (.tmp rfl) (fun hb46 => ?_) (fun hb46 => ?_)
    · have _u := True.intro
      have hbd : totBad l k = true := hb46
      refine AW.seq ?_
      refine AW.region ?_
      refine ARun.pure (PureOp.assign rfl .bool) rfl rfl (Nat.le_of_ble_eq_true rfl) ?_
      refine ARun.nil ?_
      refine AW.ret (show ResL _ _ [.tmp 2] _ from resB rfl ?_)
      have hno : (List.range l.length).all (fun j => !totBad l j) = false := rng_no hkl (by rw [hbd]; rfl)
      unfold totalsB; rw [hno]; rfl
    · have _u := True.intro
      have hbd : totBad l k = false := hb46
      refine AW.skip ?_
      refine AW.region ?_
      refine ARun.pure (PureOp.add (c := ((k + 1 : Nat) : Int)) rfl (.tmp rfl) .int (by rw [wrap_id (by omega) (by omega)]; omega)) rfl rfl (Nat.le_of_ble_eq_true rfl) ?_
      refine ARun.pure (PureOp.move rfl (.tmp rfl)) rfl rfl (Nat.le_of_ble_eq_true rfl) ?_
      refine ARun.nil ?_
      exact ⟨k + 1, ⟨by omega, rng_succ (p := fun j => totBad l j = false) hks hbd⟩, by dsimp only; omega, ⟨⟨⟨_, rfl, rfl⟩, ⟨_, rfl, rfl⟩, ⟨_, rfl, rfl⟩, ⟨_, rfl, rfl⟩, trivial⟩, trivial⟩⟩
  · have _u := True.intro
    replace hb1 := of_decide_eq_false hb1
    have hkl : ¬ k < l.length := by omega
    have hall : (List.range l.length).all (fun j => !totBad l j) = true := rng_yes (fun j hj => by rw [hks j (by omega)]; rfl)
    refine AW.exit ?_
    refine AW.seq ?_
    refine AW.region ?_
    refine ARun.pure (PureOp.move rfl (.tmp rfl)) rfl rfl (Nat.le_of_ble_eq_true rfl) ?_
    refine ARun.pure (PureOp.lenLst rfl (.tmp rfl) vjc_sl_69) rfl rfl (Nat.le_of_ble_eq_true rfl) ?_
    refine ARun.pure (PureOp.intOp rfl (.tmp rfl) .int rfl) rfl rfl (Nat.le_of_ble_eq_true rfl) ?_
    refine ARun.pure (PureOp.assign rfl (.tmp rfl)) rfl rfl (Nat.le_of_ble_eq_true rfl) ?_
    refine ARun.nil ?_
    refine AW.ret (show ResL _ _ [.tmp 2] _ from resB rfl ?_)
    unfold totalsB; rw [hall]; rfl

theorem v_areTotals (l : List GTotal) : Fn Try.prog 91 [.one (.lst 5 l.length (fun i0 j0 => ([.lst 2 (((l.getD i0 (default : GTotal)).labels).length) (fun i1 j1 => ([.str ((((l.getD i0 (default : GTotal)).labels).getD i1 (default : GLabel)).lname), .str ((((l.getD i0 (default : GTotal)).labels).getD i1 (default : GLabel)).lvalue)] : List AV).getD j1 (.con undef)), .int .i64 ((l.getD i0 (default : GTotal)).sum), .int .i64 ((l.getD i0 (default : GTotal)).count), .int .i64 ((l.getD i0 (default : GTotal)).least), .int .i64 ((l.getD i0 (default : GTotal)).most)] : List AV).getD j0 (.con undef)))] (.one (.bool (totalsB l))) := by
  refine Fn.of_body (fn := Try.f91) Try.func91 rfl (Nat.le_of_ble_eq_true rfl) trivial ?_
  intro w0
  show AW _ 62 _ _ _ _
  refine AW.bound (t := 0) rfl fun hx => ?_
  refine AW.seq ?_
  refine AW.region ?_
  refine ARun.pure (PureOp.assign rfl .bool) rfl rfl (Nat.le_of_ble_eq_true rfl) ?_
  refine ARun.nil ?_
  refine AW.seq ?_
  refine AW.seq ?_
  refine AW.region ?_
  refine ARun.pure (PureOp.move rfl (.tmp rfl)) rfl rfl (Nat.le_of_ble_eq_true rfl) ?_
  refine ARun.pure (PureOp.lenLst rfl (.tmp rfl) vjc_sl_69) rfl rfl (Nat.le_of_ble_eq_true rfl) ?_
  refine ARun.pure (PureOp.move rfl .int) rfl rfl (Nat.le_of_ble_eq_true rfl) ?_
  refine ARun.nil ?_
  refine AW.block ?_
  refine AW.loop (ι := Nat) (fun k => ⟨[(0, .one (.lst 5 l.length (fun i0 j0 => ([.lst 2 (((l.getD i0 (default : GTotal)).labels).length) (fun i1 j1 => ([.str ((((l.getD i0 (default : GTotal)).labels).getD i1 (default : GLabel)).lname), .str ((((l.getD i0 (default : GTotal)).labels).getD i1 (default : GLabel)).lvalue)] : List AV).getD j1 (.con undef)), .int .i64 ((l.getD i0 (default : GTotal)).sum), .int .i64 ((l.getD i0 (default : GTotal)).count), .int .i64 ((l.getD i0 (default : GTotal)).least), .int .i64 ((l.getD i0 (default : GTotal)).most)] : List AV).getD j0 (.con undef)))), (5, .one (.lst 5 l.length (fun i0 j0 => ([.lst 2 (((l.getD i0 (default : GTotal)).labels).length) (fun i1 j1 => ([.str ((((l.getD i0 (default : GTotal)).labels).getD i1 (default : GLabel)).lname), .str ((((l.getD i0 (default : GTotal)).labels).getD i1 (default : GLabel)).lvalue)] : List AV).getD j1 (.con undef)), .int .i64 ((l.getD i0 (default : GTotal)).sum), .int .i64 ((l.getD i0 (default : GTotal)).count), .int .i64 ((l.getD i0 (default : GTotal)).least), .int .i64 ((l.getD i0 (default : GTotal)).most)] : List AV).getD j0 (.con undef)))), (6, .one (.int .i64 (l.length : Int))), (7, .one (.int .i64 (k : Int)))], []⟩) (fun k => k ≤ l.length ∧ ∀ j, j < k → totBad l j = false) (fun k => l.length - k) 0 ⟨Nat.zero_le _, fun j hj => absurd hj (by omega)⟩ ⟨⟨⟨_, rfl, rfl⟩, ⟨_, rfl, rfl⟩, ⟨_, rfl, rfl⟩, ⟨_, rfl, rfl⟩, trivial⟩, trivial⟩ ?_
  intro k hI
  obtain ⟨hk, hks⟩ := hI
  refine AW.seq ?_
  refine AW.region ?_
  refine ARun.pure (PureOp.intOp rfl (.tmp rfl) (.tmp rfl) rfl) rfl rfl (Nat.le_of_ble_eq_true rfl) ?_
  refine ARun.nil ?_
  refine AW.seq ?_
  refine AW.cond (.tmp rfl) (fun hb1 => ?_) (fun hb1 => ?_)
  · have _u := True.intro
    replace hb1 := of_decide_eq_true hb1
    have hkl : k < l.length := by omega
    refine AW.skip ?_
    refine AW.seq ?_
    refine AW.block ?_
    refine AW.seq ?_
    refine AW.region ?_
    refine ARun.pure (PureOp.move rfl (.tmp rfl)) rfl rfl (Nat.le_of_ble_eq_true rfl) ?_
    refine ARun.pure (PureOp.indexLst (i := k) rfl (.tmp rfl) vjc_el_69_5 (.tmp rfl) rfl (by omega)) rfl rfl (Nat.le_of_ble_eq_true rfl) ?_
    refine ARun.pure (PureOp.loadRefAgg rfl (.tmp rfl) vjc_ag_114_5 (Nat.le_of_ble_eq_true rfl)) rfl rfl (Nat.le_of_ble_eq_true rfl) ?_
    refine ARun.alloc (id := 0) (l := [.lst 2 0 (fun _ _ => .con undef), .int .i64 0, .int .i64 0, .int .i64 0, .int .i64 0]) (z := (.agg #[.slice none 0 0, .int .i64 0, .int .i64 0, .int .i64 0, .int .i64 0])) rfl (by kernel_rfl) (fun _ _ _ => ⟨_, _, rfl, ⟨none, 0, rfl, Nat.le_refl _, by decide, fun _ => rfl, fun i hi => absurd hi (by omega)⟩, ⟨_, _, rfl, rfl, ⟨_, _, rfl, rfl, ⟨_, _, rfl, rfl, ⟨_, _, rfl, rfl, rfl⟩⟩⟩⟩⟩) ⟨rfl, (by repeat first | exact trivial | refine ⟨by decide, by first | rfl | (intro i j; first | rfl | (dsimp only; split <;> rfl)), ?_⟩)⟩ rfl rfl rfl (Nat.le_of_ble_eq_true rfl) ?_
    refine ARun.pure (PureOp.assign rfl (.tmp rfl)) rfl rfl (Nat.le_of_ble_eq_true rfl) ?_
    refine ARun.store rfl (.tmp rfl) (.tmp rfl) (SV.cells_of (by exact ⟨trivial, trivial, trivial, trivial, trivial, trivial⟩)) rfl (Nat.le_of_ble_eq_true rfl) vjc_sz_114_5 rfl rfl ?_
    refine ARun.nil ?_
    refine AW.seq ?_
    refine AW.any (by kernel_rfl) (by kernel_rfl) ?_
    refine AD.pure (PureOp.fieldPtr rfl (.tmp rfl) vjc_fi_114_0_0) rfl rfl (Nat.le_of_ble_eq_true rfl) ?_
    refine AD.pure (PureOp.loadPtr rfl (.tmp rfl) vjc_pl_57 rfl rfl (Nat.le_of_ble_eq_true rfl) (Nat.le_of_ble_eq_true rfl)) rfl rfl (Nat.le_of_ble_eq_true rfl) ?_
    refine AD.pure (PureOp.call rfl (v_areLabels ((l.getD k (default : GTotal)).labels)) ⟨⟨_, (.tmp rfl), .lst⟩, trivial⟩ vjc_ca_84 trivial) rfl rfl (Nat.le_of_ble_eq_true rfl) ?_
    refine AD.pure (PureOp.not rfl (.tmp rfl)) rfl rfl (Nat.le_of_ble_eq_true rfl) ?_
    refine AD.pure (PureOp.move rfl (.tmp rfl)) rfl rfl (Nat.le_of_ble_eq_true rfl) ?_
    refine AD.gpure (want := false) (.tf rfl) (fun hg2 => PureOp.fieldPtr rfl (.tmp rfl) vjc_fi_114_2_2) rfl rfl rfl (Nat.le_of_ble_eq_true rfl) ?_
    refine AD.gpure (want := false) (.tf rfl) (fun hg3 => PureOp.loadPtr rfl (.gtmp rfl hg3) vjc_pl_3 rfl rfl (Nat.le_of_ble_eq_true rfl) (Nat.le_of_ble_eq_true rfl)) rfl rfl rfl (Nat.le_of_ble_eq_true rfl) ?_
    refine AD.gpure (want := false) (.tf rfl) (fun hg4 => PureOp.call rfl (v_within ((l.getD k (default : GTotal)).count) 1 1000) ⟨⟨_, (.gtmp rfl hg4), .int⟩, ⟨_, .int, .int⟩, ⟨_, .int, .int⟩, trivial⟩ vjc_ca_45 trivial) rfl rfl rfl (Nat.le_of_ble_eq_true rfl) ?_
    refine AD.gpure (want := false) (.tf rfl) (fun hg5 => PureOp.not rfl (.gtmp rfl hg5)) rfl rfl rfl (Nat.le_of_ble_eq_true rfl) ?_
    refine AD.pure (PureOp.pick rfl (.tmp rfl) (fun _ => .bool) (fun hp7 => .gtmp rfl (not_of hp7))) rfl rfl (Nat.le_of_ble_eq_true rfl) ?_
    refine AD.pure (PureOp.move rfl (.tmp rfl)) rfl rfl (Nat.le_of_ble_eq_true rfl) ?_
    refine AD.gpure (want := false) (.tf rfl) (fun hg8 => PureOp.fieldPtr rfl (.tmp rfl) vjc_fi_114_1_1) rfl rfl rfl (Nat.le_of_ble_eq_true rfl) ?_
    refine AD.gpure (want := false) (.tf rfl) (fun hg9 => PureOp.loadPtr rfl (.gtmp rfl hg9) vjc_pl_3 rfl rfl (Nat.le_of_ble_eq_true rfl) (Nat.le_of_ble_eq_true rfl)) rfl rfl rfl (Nat.le_of_ble_eq_true rfl) ?_
    refine AD.gpure (want := false) (.tf rfl) (fun hg10 => PureOp.call rfl (v_within ((l.getD k (default : GTotal)).sum) (-1000000000) 1000000000) ⟨⟨_, (.gtmp rfl hg10), .int⟩, ⟨_, .int, .int⟩, ⟨_, .int, .int⟩, trivial⟩ vjc_ca_45 trivial) rfl rfl rfl (Nat.le_of_ble_eq_true rfl) ?_
    refine AD.gpure (want := false) (.tf rfl) (fun hg11 => PureOp.not rfl (.gtmp rfl hg11)) rfl rfl rfl (Nat.le_of_ble_eq_true rfl) ?_
    refine AD.pure (PureOp.pick rfl (.tmp rfl) (fun _ => .bool) (fun hp13 => .gtmp rfl (not_of hp13))) rfl rfl (Nat.le_of_ble_eq_true rfl) ?_
    refine AD.pure (PureOp.move rfl (.tmp rfl)) rfl rfl (Nat.le_of_ble_eq_true rfl) ?_
    refine AD.gpure (want := false) (.tf rfl) (fun hg14 => PureOp.fieldPtr rfl (.tmp rfl) vjc_fi_114_3_3) rfl rfl rfl (Nat.le_of_ble_eq_true rfl) ?_
    refine AD.gpure (want := false) (.tf rfl) (fun hg15 => PureOp.loadPtr rfl (.gtmp rfl hg15) vjc_pl_3 rfl rfl (Nat.le_of_ble_eq_true rfl) (Nat.le_of_ble_eq_true rfl)) rfl rfl rfl (Nat.le_of_ble_eq_true rfl) ?_
    refine AD.gpure (want := false) (.tf rfl) (fun hg16 => PureOp.fieldPtr rfl (.tmp rfl) vjc_fi_114_4_4) rfl rfl rfl (Nat.le_of_ble_eq_true rfl) ?_
    refine AD.gpure (want := false) (.tf rfl) (fun hg17 => PureOp.loadPtr rfl (.gtmp rfl hg17) vjc_pl_3 rfl rfl (Nat.le_of_ble_eq_true rfl) (Nat.le_of_ble_eq_true rfl)) rfl rfl rfl (Nat.le_of_ble_eq_true rfl) ?_
    refine AD.gpure (want := false) (.tf rfl) (fun hg18 => PureOp.call rfl (v_within ((l.getD k (default : GTotal)).least) (-1000000) ((l.getD k (default : GTotal)).most)) ⟨⟨_, (.gtmp rfl hg18), .int⟩, ⟨_, .int, .int⟩, ⟨_, (.gtmp rfl hg18), .int⟩, trivial⟩ vjc_ca_45 trivial) rfl rfl rfl (Nat.le_of_ble_eq_true rfl) ?_
    refine AD.gpure (want := false) (.tf rfl) (fun hg19 => PureOp.not rfl (.gtmp rfl hg19)) rfl rfl rfl (Nat.le_of_ble_eq_true rfl) ?_
    refine AD.pure (PureOp.pick rfl (.tmp rfl) (fun _ => .bool) (fun hp21 => .gtmp rfl (not_of hp21))) rfl rfl (Nat.le_of_ble_eq_true rfl) ?_
    refine AD.pure (PureOp.move rfl (.tmp rfl)) rfl rfl (Nat.le_of_ble_eq_true rfl) ?_
    refine AD.gpure (want := false) (.tf rfl) (fun hg22 => PureOp.fieldPtr rfl (.tmp rfl) vjc_fi_114_4_4) rfl rfl rfl (Nat.le_of_ble_eq_true rfl) ?_
    refine AD.gpure (want := false) (.tf rfl) (fun hg23 => PureOp.loadPtr rfl (.gtmp rfl hg23) vjc_pl_3 rfl rfl (Nat.le_of_ble_eq_true rfl) (Nat.le_of_ble_eq_true rfl)) rfl rfl rfl (Nat.le_of_ble_eq_true rfl) ?_
    refine AD.gpure (want := false) (.tf rfl) (fun hg24 => PureOp.intOp rfl (.gtmp rfl hg24) .int rfl) rfl rfl rfl (Nat.le_of_ble_eq_true rfl) ?_
    refine AD.pure (PureOp.pick rfl (.tmp rfl) (fun _ => .bool) (fun hp26 => .gtmp rfl (not_of hp26))) rfl rfl (Nat.le_of_ble_eq_true rfl) ?_
    refine AD.pure (PureOp.move rfl (.tmp rfl)) rfl rfl (Nat.le_of_ble_eq_true rfl) ?_
    refine AD.gpure (want := false) (.tf rfl) (fun hg27 => PureOp.move rfl (.tmp rfl)) rfl rfl rfl (Nat.le_of_ble_eq_true rfl) ?_
    refine AD.gpure (want := false) (.tf rfl) (fun hg28 => PureOp.intOp rfl (.gtmp rfl hg28) .int rfl) rfl rfl rfl (Nat.le_of_ble_eq_true rfl) ?_
    refine AD.gpure (want := false) (.tf rfl) (fun hg29 => PureOp.move rfl (.gtmp rfl hg29)) rfl rfl rfl (Nat.le_of_ble_eq_true rfl) ?_
    refine AD.gpure (want := true) (.gt rfl) (fun hg30 => PureOp.move rfl (.tmp rfl)) rfl rfl rfl (Nat.le_of_ble_eq_true rfl) ?_
    refine AD.gpure (want := true) (.gt rfl) (fun hg31 => PureOp.move rfl (.tmp rfl)) rfl rfl rfl (Nat.le_of_ble_eq_true rfl) ?_
    refine AD.gpure (want := true) (.gt rfl) (fun hg32 => PureOp.sub (c := (((k - 1) : Nat) : Int)) rfl (.gtmp rfl hg32) .int (by have q := hg32; simp only [Bool.cond_true_left, Bool.cond_false_right, Bool.not_eq_true', Bool.or_eq_false_iff, Bool.not_eq_false', Bool.and_eq_true, Bool.not_not, decide_eq_true_eq, decide_eq_false_iff_not, inB] at q; rw [wrap_id (by omega) (by omega)]; omega)) rfl rfl rfl (Nat.le_of_ble_eq_true rfl) ?_
    refine AD.gpure (want := true) (.gt rfl) (fun hg33 => PureOp.indexLst (i := (k - 1)) rfl (.gtmp rfl hg33) vjc_el_69_5 (.gtmp rfl hg33) rfl (by have q := hg33; simp only [Bool.cond_true_left, Bool.cond_false_right, Bool.not_eq_true', Bool.or_eq_false_iff, Bool.not_eq_false', Bool.and_eq_true, Bool.not_not, decide_eq_true_eq, decide_eq_false_iff_not, inB] at q; omega)) rfl rfl rfl (Nat.le_of_ble_eq_true rfl) ?_
    refine AD.gpure (want := true) (.gt rfl) (fun hg34 => PureOp.fieldRef rfl (.gtmp rfl hg34) vjc_fi_114_0_0 (Nat.le_of_ble_eq_true rfl)) rfl rfl rfl (Nat.le_of_ble_eq_true rfl) ?_
    refine AD.gpure (want := true) (.gt rfl) (fun hg35 => PureOp.loadRef rfl (.gtmp rfl hg35) vjc_pl_57 (Nat.le_of_ble_eq_true rfl)) rfl rfl rfl (Nat.le_of_ble_eq_true rfl) ?_
    refine AD.gpure (want := true) (.gt rfl) (fun hg36 => PureOp.call rfl (v_labelsText ((l.getD (k - 1) (default : GTotal)).labels) (totBad_lab (hks (k - 1) (by have q := hg36; simp only [Bool.cond_true_left, Bool.cond_false_right, Bool.not_eq_true', Bool.or_eq_false_iff, Bool.not_eq_false', Bool.and_eq_true, Bool.not_not, decide_eq_true_eq, decide_eq_false_iff_not, inB] at q; omega)))) ⟨⟨_, (.gtmp rfl hg36), .lst⟩, trivial⟩ vjc_ca_114 (Nat.le_trans (labelsT_size (totBad_lab (hks (k - 1) (by have q := hg36; simp only [Bool.cond_true_left, Bool.cond_false_right, Bool.not_eq_true', Bool.or_eq_false_iff, Bool.not_eq_false', Bool.and_eq_true, Bool.not_not, decide_eq_true_eq, decide_eq_false_iff_not, inB] at q; omega)))) (by decide))) rfl rfl rfl (Nat.le_of_ble_eq_true rfl) ?_
    refine AD.gpure (want := true) (.gt rfl) (fun hg37 => PureOp.fieldPtr rfl (.tmp rfl) vjc_fi_114_0_0) rfl rfl rfl (Nat.le_of_ble_eq_true rfl) ?_
    refine AD.gpure (want := true) (.gt rfl) (fun hg38 => PureOp.loadPtr rfl (.gtmp rfl hg38) vjc_pl_57 rfl rfl (Nat.le_of_ble_eq_true rfl) (Nat.le_of_ble_eq_true rfl)) rfl rfl rfl (Nat.le_of_ble_eq_true rfl) ?_
    refine AD.gpure (want := true) (.gt rfl) (fun hg39 => PureOp.call rfl (v_labelsText ((l.getD k (default : GTotal)).labels) (by have q := hg39; simp only [Bool.cond_true_left, Bool.cond_false_right, Bool.not_eq_true', Bool.or_eq_false_iff, Bool.not_eq_false', Bool.and_eq_true, Bool.not_not, decide_eq_true_eq, decide_eq_false_iff_not, inB] at q; first | exact q.1 | exact q.1.1 | exact q.1.1.1 | exact q.1.1.1.1 | exact q.1.1.1.1.1 | exact q.1.1.1.1.1.1 | exact q.1.1.1.1.1.1.1)) ⟨⟨_, (.gtmp rfl hg39), .lst⟩, trivial⟩ vjc_ca_114 (Nat.le_trans (labelsT_size (by have q := hg39; simp only [Bool.cond_true_left, Bool.cond_false_right, Bool.not_eq_true', Bool.or_eq_false_iff, Bool.not_eq_false', Bool.and_eq_true, Bool.not_not, decide_eq_true_eq, decide_eq_false_iff_not, inB] at q; first | exact q.1 | exact q.1.1 | exact q.1.1.1 | exact q.1.1.1.1 | exact q.1.1.1.1.1 | exact q.1.1.1.1.1.1 | exact q.1.1.1.1.1.1.1)) (by decide))) rfl rfl rfl (Nat.le_of_ble_eq_true rfl) ?_
    refine AD.gpure (want := true) (.gt rfl) (fun hg40 => PureOp.strOp rfl (.gtmp rfl hg40) (.gtmp rfl hg40) rfl) rfl rfl rfl (Nat.le_of_ble_eq_true rfl) ?_
    refine AD.gpure (want := false) (.tf rfl) (fun hg41 => PureOp.pick rfl (.gtmp rfl hg41) (fun hp42 => .gtmp rfl (and_mk hg41 hp42)) (fun _ => .bool)) rfl rfl rfl (Nat.le_of_ble_eq_true rfl) ?_
    refine AD.pure (PureOp.pick rfl (.tmp rfl) (fun _ => .bool) (fun hp45 => .gtmp rfl (not_of hp45))) rfl rfl (Nat.le_of_ble_eq_true rfl) ?_
    refine AD.nil ?_
    refine AW.cond (.tmp rfl) (fun hb46 => ?_) (fun hb46 => ?_)
    · have _u := True.intro
      have hbd : totBad l k = true := hb46
      refine AW.seq ?_
      refine AW.region ?_
      refine ARun.pure (PureOp.assign rfl .bool) rfl rfl (Nat.le_of_ble_eq_true rfl) ?_
      refine ARun.nil ?_
      refine AW.ret (show ResL _ _ [.tmp 2] _ from resB rfl ?_)
      have hno : (List.range l.length).all (fun j => !totBad l j) = false := rng_no hkl (by rw [hbd]; rfl)
      unfold totalsB; rw [hno]; rfl
    · have _u := True.intro
      have hbd : totBad l k = false := hb46
      refine AW.skip ?_
      refine AW.region ?_
      refine ARun.pure (PureOp.add (c := ((k + 1 : Nat) : Int)) rfl (.tmp rfl) .int (by rw [wrap_id (by omega) (by omega)]; omega)) rfl rfl (Nat.le_of_ble_eq_true rfl) ?_
      refine ARun.pure (PureOp.move rfl (.tmp rfl)) rfl rfl (Nat.le_of_ble_eq_true rfl) ?_
      refine ARun.nil ?_
      exact ⟨k + 1, ⟨by omega, rng_succ (p := fun j => totBad l j = false) hks hbd⟩, by dsimp only; omega, ⟨⟨⟨_, rfl, rfl⟩, ⟨_, rfl, rfl⟩, ⟨_, rfl, rfl⟩, ⟨_, rfl, rfl⟩, trivial⟩, trivial⟩⟩
  · have _u := True.intro
    replace hb1 := of_decide_eq_false hb1
    have hkl : ¬ k < l.length := by omega
    have hall : (List.range l.length).all (fun j => !totBad l j) = true := rng_yes (fun j hj => by rw [hks j (by omega)]; rfl)
    refine AW.exit ?_
    refine AW.seq ?_
    refine AW.region ?_
    refine ARun.pure (PureOp.move rfl (.tmp rfl)) rfl rfl (Nat.le_of_ble_eq_true rfl) ?_
    refine ARun.pure (PureOp.lenLst rfl (.tmp rfl) vjc_sl_69) rfl rfl (Nat.le_of_ble_eq_true rfl) ?_
    refine ARun.pure (PureOp.intOp rfl (.tmp rfl) .int rfl) rfl rfl (Nat.le_of_ble_eq_true rfl) ?_
    refine ARun.pure (PureOp.assign rfl (.tmp rfl)) rfl rfl (Nat.le_of_ble_eq_true rfl) ?_
    refine ARun.nil ?_
    refine AW.ret (show ResL _ _ [.tmp 2] _ from resB rfl ?_)
    unfold totalsB; rw [hall]; rfl

theorem v_implGoodTotals (l : List GTotal) : Fn Try.prog 42 [.one (.lst 5 l.length (fun i0 j0 => ([.lst 2 (((l.getD i0 (default : GTotal)).labels).length) (fun i1 j1 => ([.str ((((l.getD i0 (default : GTotal)).labels).getD i1 (default : GLabel)).lname), .str ((((l.getD i0 (default : GTotal)).labels).getD i1 (default : GLabel)).lvalue)] : List AV).getD j1 (.con undef)), .int .i64 ((l.getD i0 (default : GTotal)).sum), .int .i64 ((l.getD i0 (default : GTotal)).count), .int .i64 ((l.getD i0 (default : GTotal)).least), .int .i64 ((l.getD i0 (default : GTotal)).most)] : List AV).getD j0 (.con undef)))] (.one (.bool (totalsB l))) := by
  refine Fn.of_body (fn := Try.f42) Try.func42 rfl (Nat.le_of_ble_eq_true rfl) trivial ?_
  intro w0
  show AW _ 5 _ _ _ _
  refine AW.seq ?_
  refine AW.region ?_
  refine ARun.pure (PureOp.assign rfl .bool) rfl rfl (Nat.le_of_ble_eq_true rfl) ?_
  refine ARun.nil ?_
  refine AW.seq ?_
  refine AW.region ?_
  refine ARun.pure (PureOp.move rfl (.tmp rfl)) rfl rfl (Nat.le_of_ble_eq_true rfl) ?_
  refine ARun.pure (PureOp.call rfl (v_areTotals l) ⟨⟨_, (.tmp rfl), .lst⟩, trivial⟩ vjc_ca_91 trivial) rfl rfl (Nat.le_of_ble_eq_true rfl) ?_
  refine ARun.pure (PureOp.assign rfl (.tmp rfl)) rfl rfl (Nat.le_of_ble_eq_true rfl) ?_
  refine ARun.nil ?_
  refine AW.ret (show ResL _ _ [.tmp 2] _ from resB rfl ?_)
  rfl
end Go.Proofs.Ytmlhlkpiofbhgaa
