/-
  Proved: the law FnExactTrimHead returns true for every input: the program's TrimHead answers what the reference's does, leaves its arguments alone, and hands out memory that nobody else holds. Conditions: none.
-/
import Derived.Test.YtmfkmifkkplidaaTr6
import Derived.Test.YtmfkmifkkplidaaLa6
import Derived.Test.YtmfkmifkkplidaaLh6
import Derived.Test.YtmfkmifkkplidaaLo6
import Derived.Test.YtmfkmifkkplidaaLz6
import Derived.Test.YtmfkmifkkplidaaLe6
import Derived.Test.YtmfkmifkkplidaaVo
namespace Go.Proofs.Ytmfkmifkkplidaa
open Go.ChangeShapes Go.WideShapes Go.ChangeAt Go.RowKit Go.BigFrame Go.Deep
set_option linter.unusedVariables false
set_option linter.unusedSimpArgs false
theorem vl_ag_24_2 : aggB Try.prog 24 2 = true := by kernel_rfl
theorem vl_ag_29_2 : aggB Try.prog 29 2 = true := by kernel_rfl
theorem vl_bo_4 : boolB Try.prog 4 = true := by kernel_rfl
theorem vl_ca_11 : callB Try.prog 11 = true := by kernel_rfl
theorem vl_ca_13 : callB Try.prog 13 = true := by kernel_rfl
theorem vl_ca_17 : callB Try.prog 17 = true := by kernel_rfl
theorem vl_ca_20 : callB Try.prog 20 = true := by kernel_rfl
theorem vl_ca_21 : callB Try.prog 21 = true := by kernel_rfl
theorem vl_ca_22 : callB Try.prog 22 = true := by kernel_rfl
theorem vl_ca_9 : callB Try.prog 9 = true := by kernel_rfl
theorem vl_sz_29_2 : sizeB Try.prog 29 2 = true := by kernel_rfl
theorem smp_cnt (l : List GSample) : ctL crSample l ≤ 2 * l.length := ctL_len (fun _ => Nat.le_refl 2) l
theorem row_cnt (r : GRow) : crRow r ≤ 2 * (1 + wtRow r) := by
  have h := smp_cnt r.samples
  have e : crRow r = 0 + 1 + ctL crSample r.samples := rfl
  have e2 : wtRow r = r.name.size + r.samples.length := rfl
  rw [e, e2]; omega
theorem head_cnt (x : GHead) : cvHead x ≤ 2 * wtHead x := by
  show 0 + ctL crRow x.rows ≤ 2 * wtl wtRow x.rows
  have := ctL_wtl (ct := crRow) (f := wtRow) (c := 2) row_cnt x.rows
  omega
theorem ct_part {α : Type} {ct : α → Nat} {f : α → α} (p : α → Bool) (h : ∀ x, ct (f x) ≤ ct x) (l : List α) : ctL ct ((l.filter p).map f) ≤ ctL ct l := by
  induction l with
  | nil => exact Nat.le_refl _
  | cons a l ih =>
    have e : ctL ct (a :: l) = ct a + ctL ct l := by simp [ctL]
    rw [e]
    cases hp : p a with
    | true =>
      rw [List.filter_cons_of_pos hp, List.map_cons]
      have e2 : ctL ct (f a :: (l.filter p).map f) = ct (f a) + ctL ct ((l.filter p).map f) := by simp [ctL]
      rw [e2]
      exact Nat.add_le_add (h a) ih
    | false =>
      rw [List.filter_cons_of_neg (by rw [hp]; decide)]
      omega
theorem trim_cnt (h : GHead) (x : Int) : cvHead (trimV h x).1 ≤ 2 * wtHead h := by
  unfold trimV
  by_cases hg : goodHead h = true
  · rw [if_pos hg]
    have h1 : ctL crRow (trimL h x) ≤ ctL crRow h.rows := ct_part (trimP x) (fun r => by
      have e : crRow r = 0 + 1 + ctL crSample r.samples := rfl
      have e2 : crRow (trimR x r) = 0 + 1 + ctL crSample (trimS x r) := rfl
      have h3 : ctL crSample (trimS x r) = 2 * (trimS x r).length := by
        unfold ctL
        generalize trimS x r = l
        induction l with
        | nil => rfl
        | cons a l ih => rw [List.map_cons, List.sum_cons, ih, List.length_cons]; have : crSample a = 2 := rfl; omega
      have h4 : ctL crSample r.samples = 2 * r.samples.length := by
        unfold ctL
        generalize r.samples = l
        induction l with
        | nil => rfl
        | cons a l ih => rw [List.map_cons, List.sum_cons, ih, List.length_cons]; have : crSample a = 2 := rfl; omega
      have h5 := trimS_le x r
      rw [e, e2, h3, h4]; omega) h.rows
    have h2 := head_cnt h
    have e3 : cvHead h = 0 + ctL crRow h.rows := rfl
    show 0 + ctL crRow (trimL h x) ≤ _
    omega
  · rw [if_neg hg]; exact Nat.zero_le _

theorem opensC_9 : OpensC Try.prog 9 (fun x : ByteArray => [.str x]) := OpensC.string Try.underlying9
theorem opensC_3 : OpensC Try.prog 3 (fun x : Int => [.int .i64 x]) := OpensC.int Try.underlying3
theorem opensC_124 : OpensC Try.prog 124 (fun x : GSample => [.int .i64 x.at_, .int .i64 x.value]) := fun H eh w fuel cs x h => by
  have hS : Try.prog.underlying 124 = some (.struct (Try.prog.fieldsOf 124)) := by kernel_rfl
  obtain ⟨xs, n, _, rfl, hl, hlen, hf⟩ := DataW.trod_struct hS h
  have hsz : (Try.prog.fieldsOf 124).size = 2 := by kernel_rfl
  have hC : Try.prog.cellsOf 124 = 2 := by kernel_rfl
  rw [hC] at hl
  have t0 : ((Try.prog.fieldsOf 124)[0]?).map (fun f => (f.type, f.offset, Try.prog.cellsOf f.type)) = some (3, 0, 1) := by kernel_rfl
  obtain ⟨f0, j0, y0⟩ := Option.map_eq_some_iff.1 t0
  simp only [Prod.mk.injEq] at y0
  have g0 := hf 0 f0 j0
  rw [y0.2.2, y0.2.1, y0.1, List.getElem?_eq_getElem (by omega)] at g0
  obtain ⟨a0, r0⟩ := opensC_3 H eh w n _ _ g0
  have t1 : ((Try.prog.fieldsOf 124)[1]?).map (fun f => (f.type, f.offset, Try.prog.cellsOf f.type)) = some (3, 1, 1) := by kernel_rfl
  obtain ⟨f1, j1, y1⟩ := Option.map_eq_some_iff.1 t1
  simp only [Prod.mk.injEq] at y1
  have g1 := hf 1 f1 j1
  rw [y1.2.2, y1.2.1, y1.1, List.getElem?_eq_getElem (by omega)] at g1
  obtain ⟨a1, r1⟩ := opensC_3 H eh w n _ _ g1
  have e2 : DL w (· < w.heap.size) [] (cs.drop 2) := List.drop_of_length_le (by omega)
  have e1 := DL.part (o := 1) (s := 1) r1 e2
  have e0 := DL.part (o := 0) (s := 1) r0 e1
  exact ⟨⟨a0, a1⟩, e0⟩
theorem opensC_101 : OpensC Try.prog 101 (fun x : List GSample => [.lst 2 x.length (fun i0 j0 => ([.int .i64 ((x.getD i0 (default : GSample)).at_), .int .i64 ((x.getD i0 (default : GSample)).value)] : List AV).getD j0 (.con undef))]) := OpensC.slice (default : GSample) Try.underlying101 (by kernel_rfl) (by decide) opensC_124 (fun _ => rfl) (fun l i j _ hj => match j, hj with | 0, _ => rfl | 1, _ => rfl | _ + 2, h => absurd h (by omega))
theorem opensC_103 : OpensC Try.prog 103 (fun x : GRow => [.str x.name, .lst 2 x.samples.length (fun i0 j0 => ([.int .i64 ((x.samples.getD i0 (default : GSample)).at_), .int .i64 ((x.samples.getD i0 (default : GSample)).value)] : List AV).getD j0 (.con undef))]) := fun H eh w fuel cs x h => by
  have hS : Try.prog.underlying 103 = some (.struct (Try.prog.fieldsOf 103)) := by kernel_rfl
  obtain ⟨xs, n, _, rfl, hl, hlen, hf⟩ := DataW.trod_struct hS h
  have hsz : (Try.prog.fieldsOf 103).size = 2 := by kernel_rfl
  have hC : Try.prog.cellsOf 103 = 2 := by kernel_rfl
  rw [hC] at hl
  have t0 : ((Try.prog.fieldsOf 103)[0]?).map (fun f => (f.type, f.offset, Try.prog.cellsOf f.type)) = some (9, 0, 1) := by kernel_rfl
  obtain ⟨f0, j0, y0⟩ := Option.map_eq_some_iff.1 t0
  simp only [Prod.mk.injEq] at y0
  have g0 := hf 0 f0 j0
  rw [y0.2.2, y0.2.1, y0.1, List.getElem?_eq_getElem (by omega)] at g0
  obtain ⟨a0, r0⟩ := opensC_9 H eh w n _ _ g0
  have t1 : ((Try.prog.fieldsOf 103)[1]?).map (fun f => (f.type, f.offset, Try.prog.cellsOf f.type)) = some (101, 1, 1) := by kernel_rfl
  obtain ⟨f1, j1, y1⟩ := Option.map_eq_some_iff.1 t1
  simp only [Prod.mk.injEq] at y1
  have g1 := hf 1 f1 j1
  rw [y1.2.2, y1.2.1, y1.1, List.getElem?_eq_getElem (by omega)] at g1
  obtain ⟨a1, r1⟩ := opensC_101 H eh w n _ _ g1
  have e2 : DL w (· < w.heap.size) [] (cs.drop 2) := List.drop_of_length_le (by omega)
  have e1 := DL.part (o := 1) (s := 1) r1 e2
  have e0 := DL.part (o := 0) (s := 1) r0 e1
  exact ⟨⟨a0, a1⟩, e0⟩
theorem opensC_22 : OpensC Try.prog 22 (fun x : List GRow => [.lst 2 x.length (fun i0 j0 => ([.str ((x.getD i0 (default : GRow)).name), .lst 2 (((x.getD i0 (default : GRow)).samples).length) (fun i1 j1 => ([.int .i64 ((((x.getD i0 (default : GRow)).samples).getD i1 (default : GSample)).at_), .int .i64 ((((x.getD i0 (default : GRow)).samples).getD i1 (default : GSample)).value)] : List AV).getD j1 (.con undef))] : List AV).getD j0 (.con undef))]) := OpensC.slice (default : GRow) Try.underlying22 (by kernel_rfl) (by decide) opensC_103 (fun _ => rfl) (fun l i j _ hj => match j, hj with | 0, _ => rfl | 1, _ => rfl | _ + 2, h => absurd h (by omega))
theorem opensC_24 : OpensC Try.prog 24 (fun x : GHead => [.lst 2 x.rows.length (fun i0 j0 => ([.str ((x.rows.getD i0 (default : GRow)).name), .lst 2 (((x.rows.getD i0 (default : GRow)).samples).length) (fun i1 j1 => ([.int .i64 ((((x.rows.getD i0 (default : GRow)).samples).getD i1 (default : GSample)).at_), .int .i64 ((((x.rows.getD i0 (default : GRow)).samples).getD i1 (default : GSample)).value)] : List AV).getD j1 (.con undef))] : List AV).getD j0 (.con undef)), .int .i64 x.offset]) := fun H eh w fuel cs x h => by
  have hS : Try.prog.underlying 24 = some (.struct (Try.prog.fieldsOf 24)) := by kernel_rfl
  obtain ⟨xs, n, _, rfl, hl, hlen, hf⟩ := DataW.trod_struct hS h
  have hsz : (Try.prog.fieldsOf 24).size = 2 := by kernel_rfl
  have hC : Try.prog.cellsOf 24 = 2 := by kernel_rfl
  rw [hC] at hl
  have t0 : ((Try.prog.fieldsOf 24)[0]?).map (fun f => (f.type, f.offset, Try.prog.cellsOf f.type)) = some (22, 0, 1) := by kernel_rfl
  obtain ⟨f0, j0, y0⟩ := Option.map_eq_some_iff.1 t0
  simp only [Prod.mk.injEq] at y0
  have g0 := hf 0 f0 j0
  rw [y0.2.2, y0.2.1, y0.1, List.getElem?_eq_getElem (by omega)] at g0
  obtain ⟨a0, r0⟩ := opensC_22 H eh w n _ _ g0
  have t1 : ((Try.prog.fieldsOf 24)[1]?).map (fun f => (f.type, f.offset, Try.prog.cellsOf f.type)) = some (3, 1, 1) := by kernel_rfl
  obtain ⟨f1, j1, y1⟩ := Option.map_eq_some_iff.1 t1
  simp only [Prod.mk.injEq] at y1
  have g1 := hf 1 f1 j1
  rw [y1.2.2, y1.2.1, y1.1, List.getElem?_eq_getElem (by omega)] at g1
  obtain ⟨a1, r1⟩ := opensC_3 H eh w n _ _ g1
  have e2 : DL w (· < w.heap.size) [] (cs.drop 2) := List.drop_of_length_le (by omega)
  have e1 := DL.part (o := 1) (s := 1) r1 e2
  have e0 := DL.part (o := 0) (s := 1) r0 e1
  exact ⟨⟨a0, a1⟩, e0⟩

theorem law_TrimHead (x0 : GHead) (x1 : Int) (hx1 : I64 x1) : Fn Try.prog 5 [.agg [.lst 2 x0.rows.length (fun i0 j0 => ([.str ((x0.rows.getD i0 (default : GRow)).name), .lst 2 (((x0.rows.getD i0 (default : GRow)).samples).length) (fun i1 j1 => ([.int .i64 ((((x0.rows.getD i0 (default : GRow)).samples).getD i1 (default : GSample)).at_), .int .i64 ((((x0.rows.getD i0 (default : GRow)).samples).getD i1 (default : GSample)).value)] : List AV).getD j1 (.con undef))] : List AV).getD j0 (.con undef)), .int .i64 x0.offset], .one (.int .i64 x1)] (.one (.bool true)) := by
  have hct0 := head_cnt x0
  have hcnt : cvHead (trimV x0 x1).1 ≤ 2 * wtHead x0 := trim_cnt x0 x1
  have hx1' : -9223372036854775808 ≤ x1 ∧ x1 ≤ 9223372036854775807 := hx1
  refine Fn.of_body (fn := Try.f5) Try.func5 rfl (Nat.le_of_ble_eq_true rfl) trivial ?_
  intro w0
  show AW _ 122 _ _ _ _
  refine AW.seq ?_
  refine AW.region ?_
  refine ARun.box (id := 0) rfl (.tmp rfl) (SV.cells_of (by exact ⟨trivial, trivial, trivial⟩)) ⟨rfl, (by repeat first | exact trivial | refine ⟨by decide, by first | rfl | exact trivial | (intro i j; first | rfl | exact getD_no rfl | (dsimp only; split <;> first | rfl | exact getD_no rfl)), ?_⟩)⟩ rfl rfl rfl (Nat.le_of_ble_eq_true rfl) ?_
  refine ARun.pure (PureOp.assign rfl .bool) rfl rfl (Nat.le_of_ble_eq_true rfl) ?_
  refine ARun.nil ?_
  refine AW.seq ?_
  refine AW.region ?_
  refine ARun.pure (PureOp.assign rfl .int) rfl rfl (Nat.le_of_ble_eq_true rfl) ?_
  refine ARun.nil ?_
  refine AW.seq ?_
  refine AW.region ?_
  refine ARun.pure (PureOp.loadPtrAgg rfl (.tmp rfl) vl_ag_24_2 rfl rfl (Nat.le_of_ble_eq_true rfl) (Nat.le_of_ble_eq_true rfl)) rfl rfl (Nat.le_of_ble_eq_true rfl) ?_
  refine ARun.pure (PureOp.move rfl (.tmp rfl)) rfl rfl (Nat.le_of_ble_eq_true rfl) ?_
  refine ARun.pure (PureOp.call rfl (v_szHead x0 1048576 (by first | omega | (unfold szR at *; split at * <;> omega))) ⟨⟨_, (.tmp rfl), ⟨.lst, .int, trivial⟩⟩, ⟨_, (.tmp rfl), .int⟩, trivial⟩ vl_ca_9 trivial) rfl rfl (Nat.le_of_ble_eq_true rfl) ?_
  refine ARun.pure (PureOp.assign rfl (.tmp rfl)) rfl rfl (Nat.le_of_ble_eq_true rfl) ?_
  refine ARun.nil ?_
  refine AW.seq ?_
  refine AW.seq ?_
  refine AW.region ?_
  refine ARun.pure (PureOp.move rfl (.tmp rfl)) rfl rfl (Nat.le_of_ble_eq_true rfl) ?_
  refine ARun.pure (PureOp.intOp rfl (.tmp rfl) .int rfl) rfl rfl (Nat.le_of_ble_eq_true rfl) ?_
  refine ARun.nil ?_
  refine AW.cond (.tmp rfl) (fun hb1 => ?_) (fun hb1 => ?_)
  · have _u := True.intro
    replace hb1 := of_decide_eq_true hb1
    refine AW.seq ?_
    refine AW.region ?_
    refine ARun.pure (PureOp.assign rfl .bool) rfl rfl (Nat.le_of_ble_eq_true rfl) ?_
    refine ARun.nil ?_
    refine AW.ret (show ResL _ _ [.tmp 4] _ from resB rfl ?_)
    rfl
  · have _u := True.intro
    replace hb1 := of_decide_eq_false hb1
    obtain ⟨hs2, hs2b, hs2c⟩ := szR_ok (by omega) hb1
    refine AW.skip ?_
    refine AW.seq ?_
    refine AW.region ?_
    refine ARun.pure (PureOp.loadPtrAgg rfl (.tmp rfl) vl_ag_24_2 rfl rfl (Nat.le_of_ble_eq_true rfl) (Nat.le_of_ble_eq_true rfl)) rfl rfl (Nat.le_of_ble_eq_true rfl) ?_
    refine ARun.prod (K := 1) rfl (v_toHead x0 (Small.mk (by omega))) ⟨rfl, (by repeat first | exact trivial | refine ⟨by decide, by first | rfl | exact trivial | (intro i j; first | rfl | exact getD_no rfl | (dsimp only; split <;> first | rfl | exact getD_no rfl)), ?_⟩)⟩ ⟨⟨_, (.tmp rfl), ⟨.lst, .int, trivial⟩⟩, trivial⟩ vl_ca_11 rfl rfl rfl rfl rfl (Nat.le_of_ble_eq_true rfl) ?_
    refine ARun.pure (PureOp.move rfl (.tmp rfl)) rfl rfl (Nat.le_of_ble_eq_true rfl) ?_
    refine ARun.prod (K := 2) rfl (v_sTrim x0 x1 (by omega) ⟨by omega, by omega⟩) ⟨rfl, (by repeat first | exact trivial | refine ⟨by decide, by first | rfl | exact trivial | (intro i j; first | rfl | exact getD_no rfl | (dsimp only; split <;> first | rfl | exact getD_no rfl)), ?_⟩)⟩ ⟨⟨_, (.tmp rfl), ⟨(Vw.cast (Vw.tre rfl (Nat.le_of_ble_eq_true rfl)) rfl), .int, trivial⟩⟩, ⟨_, (.tmp rfl), .int⟩, trivial⟩ vl_ca_20 rfl rfl rfl rfl rfl (Nat.le_of_ble_eq_true rfl) ?_
    refine ARun.pure (PureOp.move rfl (.tmp rfl)) rfl rfl (Nat.le_of_ble_eq_true rfl) ?_
    refine ARun.pure (PureOp.ext3a rfl (.tmp rfl)) rfl rfl (Nat.le_of_ble_eq_true rfl) ?_
    refine ARun.pure (PureOp.ext3b rfl (.tmp rfl)) rfl rfl (Nat.le_of_ble_eq_true rfl) ?_
    refine ARun.pure (PureOp.ext3c rfl (.tmp rfl)) rfl rfl (Nat.le_of_ble_eq_true rfl) ?_
    refine ARun.alloc (id := 3) (l := [.con (.slice none 0 0), .int .i64 0]) (z := (.agg #[.slice none 0 0, .int .i64 0])) rfl (by kernel_rfl) (fun _ _ _ => ⟨_, _, rfl, rfl, ⟨_, _, rfl, rfl, rfl⟩⟩) ⟨rfl, (by repeat first | exact trivial | refine ⟨by decide, by first | rfl | exact trivial | (intro i j; first | rfl | exact getD_no rfl | (dsimp only; split <;> first | rfl | exact getD_no rfl)), ?_⟩)⟩ rfl rfl rfl (Nat.le_of_ble_eq_true rfl) ?_
    refine ARun.store rfl (.tmp rfl) (.tmp rfl) (SV.cells_of (by exact ⟨trivial, trivial, trivial⟩)) rfl (Nat.le_of_ble_eq_true rfl) vl_sz_29_2 rfl rfl ?_
    refine ARun.pure (PureOp.assign rfl (.tmp rfl)) rfl rfl (Nat.le_of_ble_eq_true rfl) ?_
    refine ARun.pure (PureOp.assign rfl (.tmp rfl)) rfl rfl (Nat.le_of_ble_eq_true rfl) ?_
    refine ARun.nil ?_
    refine AW.seq ?_
    refine AW.region ?_
    refine ARun.pure (PureOp.loadPtrAgg rfl (.tmp rfl) vl_ag_24_2 rfl rfl (Nat.le_of_ble_eq_true rfl) (Nat.le_of_ble_eq_true rfl)) rfl rfl (Nat.le_of_ble_eq_true rfl) ?_
    refine ARun.prod (K := 4) rfl (v_toHead x0 (Small.mk (by omega))) ⟨rfl, (by repeat first | exact trivial | refine ⟨by decide, by first | rfl | exact trivial | (intro i j; first | rfl | exact getD_no rfl | (dsimp only; split <;> first | rfl | exact getD_no rfl)), ?_⟩)⟩ ⟨⟨_, (.tmp rfl), ⟨.lst, .int, trivial⟩⟩, trivial⟩ vl_ca_11 rfl rfl rfl rfl rfl (Nat.le_of_ble_eq_true rfl) ?_
    refine ARun.alloc (id := 5) (l := [.con (.slice none 0 0), .int .i64 0]) (z := (.agg #[.slice none 0 0, .int .i64 0])) rfl (by kernel_rfl) (fun _ _ _ => ⟨_, _, rfl, rfl, ⟨_, _, rfl, rfl, rfl⟩⟩) ⟨rfl, (by repeat first | exact trivial | refine ⟨by decide, by first | rfl | exact trivial | (intro i j; first | rfl | exact getD_no rfl | (dsimp only; split <;> first | rfl | exact getD_no rfl)), ?_⟩)⟩ rfl rfl rfl (Nat.le_of_ble_eq_true rfl) ?_
    refine ARun.store rfl (.tmp rfl) (.tmp rfl) (SV.cells_of (by exact ⟨trivial, trivial, trivial⟩)) rfl (Nat.le_of_ble_eq_true rfl) vl_sz_29_2 rfl rfl ?_
    refine ARun.nil ?_
    refine AW.seq ?_
    refine AW.region ?_
    refine ARun.pure (PureOp.loadPtrAgg rfl (.tmp rfl) vl_ag_29_2 rfl rfl (Nat.le_of_ble_eq_true rfl) (Nat.le_of_ble_eq_true rfl)) rfl rfl (Nat.le_of_ble_eq_true rfl) ?_
    refine ARun.pure (PureOp.move rfl (.tmp rfl)) rfl rfl (Nat.le_of_ble_eq_true rfl) ?_
    refine ARun.prod (K := 6) rfl (v_iTrim x0 x1 (by omega) ⟨by omega, by omega⟩) ⟨rfl, (by repeat first | exact trivial | refine ⟨by decide, by first | rfl | exact trivial | (intro i j; first | rfl | exact getD_no rfl | (dsimp only; split <;> first | rfl | exact getD_no rfl)), ?_⟩)⟩ ⟨⟨_, (.tmp rfl), ⟨(Vw.cast (Vw.tre rfl (Nat.le_of_ble_eq_true rfl)) rfl), .int, trivial⟩⟩, ⟨_, (.tmp rfl), .int⟩, trivial⟩ vl_ca_21 rfl rfl rfl rfl rfl (Nat.le_of_ble_eq_true rfl) ?_
    refine ARun.pure (PureOp.move rfl (.tmp rfl)) rfl rfl (Nat.le_of_ble_eq_true rfl) ?_
    refine ARun.pure (PureOp.ext3a rfl (.tmp rfl)) rfl rfl (Nat.le_of_ble_eq_true rfl) ?_
    refine ARun.pure (PureOp.ext3b rfl (.tmp rfl)) rfl rfl (Nat.le_of_ble_eq_true rfl) ?_
    refine ARun.pure (PureOp.ext3c rfl (.tmp rfl)) rfl rfl (Nat.le_of_ble_eq_true rfl) ?_
    refine ARun.alloc (id := 7) (l := [.con (.slice none 0 0), .int .i64 0]) (z := (.agg #[.slice none 0 0, .int .i64 0])) rfl (by kernel_rfl) (fun _ _ _ => ⟨_, _, rfl, rfl, ⟨_, _, rfl, rfl, rfl⟩⟩) ⟨rfl, (by repeat first | exact trivial | refine ⟨by decide, by first | rfl | exact trivial | (intro i j; first | rfl | exact getD_no rfl | (dsimp only; split <;> first | rfl | exact getD_no rfl)), ?_⟩)⟩ rfl rfl rfl (Nat.le_of_ble_eq_true rfl) ?_
    refine ARun.store rfl (.tmp rfl) (.tmp rfl) (SV.cells_of (by exact ⟨trivial, trivial, trivial⟩)) rfl (Nat.le_of_ble_eq_true rfl) vl_sz_29_2 rfl rfl ?_
    refine ARun.pure (PureOp.assign rfl (.tmp rfl)) rfl rfl (Nat.le_of_ble_eq_true rfl) ?_
    refine ARun.pure (PureOp.assign rfl (.tmp rfl)) rfl rfl (Nat.le_of_ble_eq_true rfl) ?_
    refine ARun.nil ?_
    refine AW.seq ?_
    refine AW.seq ?_
    refine AW.region ?_
    refine ARun.pure (PureOp.loadPtrAgg rfl (.tmp rfl) vl_ag_29_2 rfl rfl (Nat.le_of_ble_eq_true rfl) (Nat.le_of_ble_eq_true rfl)) rfl rfl (Nat.le_of_ble_eq_true rfl) ?_
    refine ARun.pure (PureOp.loadPtrAgg rfl (.tmp rfl) vl_ag_29_2 rfl rfl (Nat.le_of_ble_eq_true rfl) (Nat.le_of_ble_eq_true rfl)) rfl rfl (Nat.le_of_ble_eq_true rfl) ?_
    refine ARun.pure (PureOp.call rfl (v_eqHead ((trimV x0 x1).1) ((trimV x0 x1).1)) ⟨⟨_, (.tmp rfl), ⟨(Vw.cast (Vw.tre rfl (Nat.le_of_ble_eq_true rfl)) rfl), .int, trivial⟩⟩, ⟨_, (.tmp rfl), ⟨(Vw.cast (Vw.tre rfl (Nat.le_of_ble_eq_true rfl)) rfl), .int, trivial⟩⟩, trivial⟩ vl_ca_13 trivial) rfl rfl (Nat.le_of_ble_eq_true rfl) ?_
    refine ARun.pure (PureOp.not rfl (.tmp rfl)) rfl rfl (Nat.le_of_ble_eq_true rfl) ?_
    refine ARun.pure (PureOp.move rfl (.tmp rfl)) rfl rfl (Nat.le_of_ble_eq_true rfl) ?_
    refine ARun.gpure (want := false) (.tf rfl) (fun hg3 => PureOp.move rfl (.tmp rfl)) rfl rfl (Nat.le_of_ble_eq_true rfl) rfl (Nat.le_of_ble_eq_true rfl) ?_
    refine ARun.gpure (want := false) (.tf rfl) (fun hg4 => PureOp.move rfl (.tmp rfl)) rfl rfl (Nat.le_of_ble_eq_true rfl) rfl (Nat.le_of_ble_eq_true rfl) ?_
    refine ARun.gpure (want := false) (.tf rfl) (fun hg5 => PureOp.intOp rfl (.gtmp rfl hg5) (.gtmp rfl hg5) rfl) rfl rfl (Nat.le_of_ble_eq_true rfl) rfl (Nat.le_of_ble_eq_true rfl) ?_
    refine ARun.pure (PureOp.pick rfl (.tmp rfl) (fun _ => .bool) (fun hp7 => .gtmp rfl (not_of hp7))) rfl rfl (Nat.le_of_ble_eq_true rfl) ?_
    refine ARun.pure (PureOp.move rfl (.tmp rfl)) rfl rfl (Nat.le_of_ble_eq_true rfl) ?_
    refine ARun.gpure (want := false) (.tf rfl) (fun hg8 => PureOp.move rfl (.tmp rfl)) rfl rfl (Nat.le_of_ble_eq_true rfl) rfl (Nat.le_of_ble_eq_true rfl) ?_
    refine ARun.gpure (want := false) (.tf rfl) (fun hg9 => PureOp.move rfl (.tmp rfl)) rfl rfl (Nat.le_of_ble_eq_true rfl) rfl (Nat.le_of_ble_eq_true rfl) ?_
    refine ARun.gpure (want := false) (.tf rfl) (fun hg10 => PureOp.boolNe rfl (.gtmp rfl hg10) (.gtmp rfl hg10) vl_bo_4) rfl rfl (Nat.le_of_ble_eq_true rfl) rfl (Nat.le_of_ble_eq_true rfl) ?_
    refine ARun.pure (PureOp.pick rfl (.tmp rfl) (fun _ => .bool) (fun hp12 => .gtmp rfl (not_of hp12))) rfl rfl (Nat.le_of_ble_eq_true rfl) ?_
    refine ARun.nil ?_
    refine AW.cond (.tmp rfl) (fun hb13 => ?_) (fun hb13 => ?_)
    · have _u := True.intro
      exact absurd (show (cond (cond (!(decide (((trimV x0 x1).1) = ((trimV x0 x1).1)))) true (!decide ((((trimV x0 x1).2.1 : Nat) : Int) = (((trimV x0 x1).2.1 : Nat) : Int)))) true (!(((trimV x0 x1).2.2) == ((trimV x0 x1).2.2)))) = false by first | (simp; done) | (rw [cast_neg]; simp; done)) (by rw [hb13]; simp)
      --end
    · have _u := True.intro
      refine AW.skip ?_
      refine AW.seq ?_
      refine AW.seq ?_
      refine AW.any (by kernel_rfl) (by kernel_rfl) ?_
      refine AD.pure (PureOp.loadPtrAgg rfl (.tmp rfl) vl_ag_29_2 rfl rfl (Nat.le_of_ble_eq_true rfl) (Nat.le_of_ble_eq_true rfl)) rfl rfl (Nat.le_of_ble_eq_true rfl) ?_
      refine AD.pure (PureOp.loadPtrAgg rfl (.tmp rfl) vl_ag_24_2 rfl rfl (Nat.le_of_ble_eq_true rfl) (Nat.le_of_ble_eq_true rfl)) rfl rfl (Nat.le_of_ble_eq_true rfl) ?_
      refine AD.fresh (FreshOp.callS rfl (FnT.toF (v_toHead x0 (Small.mk (by omega)))) ⟨⟨_, (.tmp rfl), ⟨.lst, .int, trivial⟩⟩, trivial⟩ vl_ca_11 rfl) rfl rfl (Nat.le_of_ble_eq_true rfl) ?_
      refine AD.pure (PureOp.call rfl (v_eqHead x0 x0) ⟨⟨_, (.tmp rfl), ⟨(Vw.cast (Vw.tre rfl (Nat.le_of_ble_eq_true rfl)) rfl), .int, trivial⟩⟩, ⟨_, (.tmp rfl), ⟨.frs, .int, trivial⟩⟩, trivial⟩ vl_ca_13 trivial) rfl rfl (Nat.le_of_ble_eq_true rfl) ?_
      refine AD.pure (PureOp.not rfl (.tmp rfl)) rfl rfl (Nat.le_of_ble_eq_true rfl) ?_
      refine AD.nil ?_
      refine AW.cond (.tmp rfl) (fun hb14 => ?_) (fun hb14 => ?_)
      · have _u := True.intro
        replace hb14 := of_decide_eq_false (of_not hb14)
        exact absurd rfl hb14
        --end
      · have _u := True.intro
        replace hb14 := of_decide_eq_true (not_f hb14)
        refine AW.skip ?_
        refine AW.seq ?_
        refine AW.region ?_
        refine ARun.pure (PureOp.assign rfl .int) rfl rfl (Nat.le_of_ble_eq_true rfl) ?_
        refine ARun.nil ?_
        refine AW.seq ?_
        refine AW.region ?_
        refine ARun.pure (PureOp.loadPtrAgg rfl (.tmp rfl) vl_ag_29_2 rfl rfl (Nat.le_of_ble_eq_true rfl) (Nat.le_of_ble_eq_true rfl)) rfl rfl (Nat.le_of_ble_eq_true rfl) ?_
        refine ARun.pure (PureOp.move rfl (.tmp rfl)) rfl rfl (Nat.le_of_ble_eq_true rfl) ?_
        refine ARun.mark (id := 4) (q0 := 0) (X' := fun p => ([.lst 2 (((mvHead x0 1).rows).length) (fun i0 j0 => ([.str ((((mvHead x0 1).rows).getD i0 (default : GRow)).name), .lst 2 (((((mvHead x0 1).rows).getD i0 (default : GRow)).samples).length) (fun i1 j1 => ([.int .i64 ((((((mvHead x0 1).rows).getD i0 (default : GRow)).samples).getD i1 (default : GSample)).at_), .int .i64 ((((((mvHead x0 1).rows).getD i0 (default : GRow)).samples).getD i1 (default : GSample)).value)] : List AV).getD j1 (.con undef))] : List AV).getD j0 (.con undef)), .int .i64 ((mvHead x0 1).offset)] : List AV).getD p (.con undef)) rfl (m_Head x0 1 ⟨by omega, by omega⟩) vl_ca_17 trivial (.tmp rfl) rfl rfl rfl (Nat.le_of_ble_eq_true rfl) (fun p hp _ => match p, hp with | 0, _ => rfl | 1, _ => rfl | _ + 2, h => absurd h (by simp [SV.leaves])) rfl rfl (fun p hp _ => match p, hp with | 0, _ => rfl | 1, _ => rfl | _ + 2, h => absurd h (by simp [SV.leaves])) (fun q hq hne => match q, hq, hne with | 0, _, h => absurd rfl (h 0 (Nat.le_of_ble_eq_true rfl) rfl) | 1, _, _ => rfl | _ + 2, h, _ => absurd (show _ < 2 from h) (by omega)) ⟨(.tmp rfl), trivial, trivial⟩ rfl rfl (Nat.le_of_ble_eq_true rfl) ?_
        refine ARun.pure (PureOp.assign rfl (.tmp rfl)) rfl rfl (Nat.le_of_ble_eq_true rfl) ?_
        refine ARun.nil ?_
        refine AW.seq ?_
        refine AW.seq ?_
        refine AW.region ?_
        refine ARun.pure (PureOp.move rfl (.tmp rfl)) rfl rfl (Nat.le_of_ble_eq_true rfl) ?_
        refine ARun.pure (PureOp.intOp rfl (.tmp rfl) .int rfl) rfl rfl (Nat.le_of_ble_eq_true rfl) ?_
        refine ARun.pure (PureOp.move rfl (.tmp rfl)) rfl rfl (Nat.le_of_ble_eq_true rfl) ?_
        refine ARun.gpure (want := false) (.tf rfl) (fun hg15 => PureOp.loadPtrAgg rfl (.tmp rfl) vl_ag_29_2 rfl rfl (Nat.le_of_ble_eq_true rfl) (Nat.le_of_ble_eq_true rfl)) rfl rfl (Nat.le_of_ble_eq_true rfl) rfl (Nat.le_of_ble_eq_true rfl) ?_
        refine ARun.gpure (want := false) (.tf rfl) (fun hg16 => PureOp.loadPtrAgg rfl (.tmp rfl) vl_ag_29_2 rfl rfl (Nat.le_of_ble_eq_true rfl) (Nat.le_of_ble_eq_true rfl)) rfl rfl (Nat.le_of_ble_eq_true rfl) rfl (Nat.le_of_ble_eq_true rfl) ?_
        refine ARun.gpure (want := false) (.tf rfl) (fun hg17 => PureOp.call rfl (v_eqHead ((trimV x0 x1).1) ((trimV x0 x1).1)) ⟨⟨_, (.gtmp rfl hg17), ⟨(Vw.cast (Vw.tre rfl (Nat.le_of_ble_eq_true rfl)) rfl), .int, trivial⟩⟩, ⟨_, (.gtmp rfl hg17), ⟨(Vw.cast (Vw.tre rfl (Nat.le_of_ble_eq_true rfl)) rfl), .int, trivial⟩⟩, trivial⟩ vl_ca_13 trivial) rfl rfl (Nat.le_of_ble_eq_true rfl) rfl (Nat.le_of_ble_eq_true rfl) ?_
        refine ARun.gpure (want := false) (.tf rfl) (fun hg18 => PureOp.not rfl (.gtmp rfl hg18)) rfl rfl (Nat.le_of_ble_eq_true rfl) rfl (Nat.le_of_ble_eq_true rfl) ?_
        refine ARun.pure (PureOp.pick rfl (.tmp rfl) (fun _ => .bool) (fun hp20 => .gtmp rfl (not_of hp20))) rfl rfl (Nat.le_of_ble_eq_true rfl) ?_
        refine ARun.pure (PureOp.move rfl (.tmp rfl)) rfl rfl (Nat.le_of_ble_eq_true rfl) ?_
        refine ARun.gpure (want := false) (.tf rfl) (fun hg21 => PureOp.move rfl (.tmp rfl)) rfl rfl (Nat.le_of_ble_eq_true rfl) rfl (Nat.le_of_ble_eq_true rfl) ?_
        refine ARun.gpure (want := false) (.tf rfl) (fun hg22 => PureOp.move rfl (.tmp rfl)) rfl rfl (Nat.le_of_ble_eq_true rfl) rfl (Nat.le_of_ble_eq_true rfl) ?_
        refine ARun.gpure (want := false) (.tf rfl) (fun hg23 => PureOp.intOp rfl (.gtmp rfl hg23) (.gtmp rfl hg23) rfl) rfl rfl (Nat.le_of_ble_eq_true rfl) rfl (Nat.le_of_ble_eq_true rfl) ?_
        refine ARun.pure (PureOp.pick rfl (.tmp rfl) (fun _ => .bool) (fun hp25 => .gtmp rfl (not_of hp25))) rfl rfl (Nat.le_of_ble_eq_true rfl) ?_
        refine ARun.pure (PureOp.move rfl (.tmp rfl)) rfl rfl (Nat.le_of_ble_eq_true rfl) ?_
        refine ARun.gpure (want := false) (.tf rfl) (fun hg26 => PureOp.move rfl (.tmp rfl)) rfl rfl (Nat.le_of_ble_eq_true rfl) rfl (Nat.le_of_ble_eq_true rfl) ?_
        refine ARun.gpure (want := false) (.tf rfl) (fun hg27 => PureOp.move rfl (.tmp rfl)) rfl rfl (Nat.le_of_ble_eq_true rfl) rfl (Nat.le_of_ble_eq_true rfl) ?_
        refine ARun.gpure (want := false) (.tf rfl) (fun hg28 => PureOp.boolNe rfl (.gtmp rfl hg28) (.gtmp rfl hg28) vl_bo_4) rfl rfl (Nat.le_of_ble_eq_true rfl) rfl (Nat.le_of_ble_eq_true rfl) ?_
        refine ARun.pure (PureOp.pick rfl (.tmp rfl) (fun _ => .bool) (fun hp30 => .gtmp rfl (not_of hp30))) rfl rfl (Nat.le_of_ble_eq_true rfl) ?_
        refine ARun.nil ?_
        refine AW.cond (.tmp rfl) (fun hb31 => ?_) (fun hb31 => ?_)
        · have _u := True.intro
          exact absurd (show (cond (cond (cond (decide (((1 + cvHead x0 : Nat) : Int) < 0)) true (!(decide (((trimV x0 x1).1) = ((trimV x0 x1).1))))) true (!decide ((((trimV x0 x1).2.1 : Nat) : Int) = (((trimV x0 x1).2.1 : Nat) : Int)))) true (!(((trimV x0 x1).2.2) == ((trimV x0 x1).2.2)))) = false by first | (simp; done) | (rw [cast_neg]; simp; done)) (by rw [hb31]; simp)
          --end
        · have _u := True.intro
          refine AW.skip ?_
          refine AW.seq ?_
          refine AW.region ?_
          refine ARun.pure (PureOp.assign rfl .int) rfl rfl (Nat.le_of_ble_eq_true rfl) ?_
          refine ARun.nil ?_
          refine AW.seq ?_
          refine AW.region ?_
          refine ARun.pure (PureOp.loadPtrAgg rfl (.tmp rfl) vl_ag_29_2 rfl rfl (Nat.le_of_ble_eq_true rfl) (Nat.le_of_ble_eq_true rfl)) rfl rfl (Nat.le_of_ble_eq_true rfl) ?_
          refine ARun.pure (PureOp.move rfl (.tmp rfl)) rfl rfl (Nat.le_of_ble_eq_true rfl) ?_
          refine ARun.mark (id := 6) (q0 := 0) (X' := fun q => if q < 2 then (fun p => ([.lst 2 (((mvHead ((trimV x0 x1).1) 1).rows).length) (fun i0 j0 => ([.str ((((mvHead ((trimV x0 x1).1) 1).rows).getD i0 (default : GRow)).name), .lst 2 (((((mvHead ((trimV x0 x1).1) 1).rows).getD i0 (default : GRow)).samples).length) (fun i1 j1 => ([.int .i64 ((((((mvHead ((trimV x0 x1).1) 1).rows).getD i0 (default : GRow)).samples).getD i1 (default : GSample)).at_), .int .i64 ((((((mvHead ((trimV x0 x1).1) 1).rows).getD i0 (default : GRow)).samples).getD i1 (default : GSample)).value)] : List AV).getD j1 (.con undef))] : List AV).getD j0 (.con undef)), .int .i64 ((mvHead ((trimV x0 x1).1) 1).offset)] : List AV).getD p (.con undef)) q else (fun p => ([.lst 2 ((((trimV x0 x1).1).rows).length) (fun i0 j0 => ([.str (((((trimV x0 x1).1).rows).getD i0 (default : GRow)).name), .lst 2 ((((((trimV x0 x1).1).rows).getD i0 (default : GRow)).samples).length) (fun i1 j1 => ([.int .i64 (((((((trimV x0 x1).1).rows).getD i0 (default : GRow)).samples).getD i1 (default : GSample)).at_), .int .i64 (((((((trimV x0 x1).1).rows).getD i0 (default : GRow)).samples).getD i1 (default : GSample)).value)] : List AV).getD j1 (.con undef))] : List AV).getD j0 (.con undef)), .int .i64 (((trimV x0 x1).1).offset), .int .i64 (((trimV x0 x1).2.1 : Nat) : Int), .bool ((trimV x0 x1).2.2)] : List AV).getD p (.con undef)) q) rfl (m_Head ((trimV x0 x1).1) 1 ⟨by omega, by omega⟩) vl_ca_17 trivial (.tmp rfl) rfl rfl rfl (Nat.le_of_ble_eq_true rfl) (fun p hp _ => match p, hp with | 0, _ => rfl | 1, _ => rfl | _ + 2, h => absurd h (by simp [SV.leaves])) rfl rfl (fun p hp _ => match p, hp with | 0, _ => rfl | 1, _ => rfl | _ + 2, h => absurd h (by simp [SV.leaves])) (fun q hq hne => match q, hq, hne with | 0, _, h => absurd rfl (h 0 (Nat.le_of_ble_eq_true rfl) rfl) | 1, _, _ => rfl | q + 2, _, _ => if_neg (by omega)) ⟨(.tmp rfl), trivial, trivial⟩ rfl rfl (Nat.le_of_ble_eq_true rfl) ?_
          refine ARun.pure (PureOp.assign rfl (.tmp rfl)) rfl rfl (Nat.le_of_ble_eq_true rfl) ?_
          refine ARun.nil ?_
          refine AW.seq ?_
          refine AW.region ?_
          refine ARun.pure (PureOp.assign rfl .int) rfl rfl (Nat.le_of_ble_eq_true rfl) ?_
          refine ARun.nil ?_
          refine AW.seq ?_
          refine AW.region ?_
          refine ARun.pure (PureOp.loadPtrAgg rfl (.tmp rfl) vl_ag_29_2 rfl rfl (Nat.le_of_ble_eq_true rfl) (Nat.le_of_ble_eq_true rfl)) rfl rfl (Nat.le_of_ble_eq_true rfl) ?_
          refine ARun.pure (PureOp.move rfl (.tmp rfl)) rfl rfl (Nat.le_of_ble_eq_true rfl) ?_
          refine ARun.pure (PureOp.call rfl (h_Head ((trimV x0 x1).1) (mvHead ((trimV x0 x1).1) 1) 1 rfl ⟨by omega, by omega⟩) ⟨⟨_, (.tmp rfl), ⟨(Vw.cast (Vw.tre rfl (Nat.le_of_ble_eq_true rfl)) rfl), .int, trivial⟩⟩, ⟨_, (.tmp rfl), .int⟩, trivial⟩ vl_ca_22 trivial) rfl rfl (Nat.le_of_ble_eq_true rfl) ?_
          refine ARun.pure (PureOp.assign rfl (.tmp rfl)) rfl rfl (Nat.le_of_ble_eq_true rfl) ?_
          refine ARun.nil ?_
          refine AW.seq ?_
          refine AW.seq ?_
          refine AW.region ?_
          refine ARun.pure (PureOp.move rfl (.tmp rfl)) rfl rfl (Nat.le_of_ble_eq_true rfl) ?_
          refine ARun.pure (PureOp.intOp rfl (.tmp rfl) .int rfl) rfl rfl (Nat.le_of_ble_eq_true rfl) ?_
          refine ARun.nil ?_
          refine AW.cond (.tmp rfl) (fun hb32 => ?_) (fun hb32 => ?_)
          · have _u := True.intro
            replace hb32 := of_decide_eq_true hb32
            exact absurd hb32 (by omega)
            --end
          · have _u := True.intro
            replace hb32 := of_decide_eq_false hb32
            refine AW.skip ?_
            refine AW.seq ?_
            refine AW.seq ?_
            refine AW.region ?_
            refine ARun.pure (PureOp.move rfl (.tmp rfl)) rfl rfl (Nat.le_of_ble_eq_true rfl) ?_
            refine ARun.pure (PureOp.move rfl (.tmp rfl)) rfl rfl (Nat.le_of_ble_eq_true rfl) ?_
            refine ARun.pure (PureOp.intOp rfl (.tmp rfl) (.tmp rfl) rfl) rfl rfl (Nat.le_of_ble_eq_true rfl) ?_
            refine ARun.nil ?_
            refine AW.cond (.tmp rfl) (fun hb33 => ?_) (fun hb33 => ?_)
            · have _u := True.intro
              replace hb33 := of_decide_eq_false (of_not hb33)
              exact absurd rfl hb33
              --end
            · have _u := True.intro
              replace hb33 := of_decide_eq_true (not_f hb33)
              refine AW.skip ?_
              refine AW.seq ?_
              refine AW.region ?_
              refine ARun.pure (PureOp.loadPtrAgg rfl (.tmp rfl) vl_ag_24_2 rfl rfl (Nat.le_of_ble_eq_true rfl) (Nat.le_of_ble_eq_true rfl)) rfl rfl (Nat.le_of_ble_eq_true rfl) ?_
              refine ARun.prod (K := 8) rfl (v_toHead x0 (Small.mk (by omega))) ⟨rfl, (by repeat first | exact trivial | refine ⟨by decide, by first | rfl | exact trivial | (intro i j; first | rfl | exact getD_no rfl | (dsimp only; split <;> first | rfl | exact getD_no rfl)), ?_⟩)⟩ ⟨⟨_, (.tmp rfl), ⟨.lst, .int, trivial⟩⟩, trivial⟩ vl_ca_11 rfl rfl rfl rfl rfl (Nat.le_of_ble_eq_true rfl) ?_
              refine ARun.pure (PureOp.move rfl (.tmp rfl)) rfl rfl (Nat.le_of_ble_eq_true rfl) ?_
              refine ARun.prod (K := 9) rfl (v_iTrim x0 x1 (by omega) ⟨by omega, by omega⟩) ⟨rfl, (by repeat first | exact trivial | refine ⟨by decide, by first | rfl | exact trivial | (intro i j; first | rfl | exact getD_no rfl | (dsimp only; split <;> first | rfl | exact getD_no rfl)), ?_⟩)⟩ ⟨⟨_, (.tmp rfl), ⟨(Vw.cast (Vw.tre rfl (Nat.le_of_ble_eq_true rfl)) rfl), .int, trivial⟩⟩, ⟨_, (.tmp rfl), .int⟩, trivial⟩ vl_ca_21 rfl rfl rfl rfl rfl (Nat.le_of_ble_eq_true rfl) ?_
              refine ARun.pure (PureOp.move rfl (.tmp rfl)) rfl rfl (Nat.le_of_ble_eq_true rfl) ?_
              refine ARun.pure (PureOp.ext3a rfl (.tmp rfl)) rfl rfl (Nat.le_of_ble_eq_true rfl) ?_
              refine ARun.pure (PureOp.ext3b rfl (.tmp rfl)) rfl rfl (Nat.le_of_ble_eq_true rfl) ?_
              refine ARun.pure (PureOp.ext3c rfl (.tmp rfl)) rfl rfl (Nat.le_of_ble_eq_true rfl) ?_
              refine ARun.alloc (id := 10) (l := [.con (.slice none 0 0), .int .i64 0]) (z := (.agg #[.slice none 0 0, .int .i64 0])) rfl (by kernel_rfl) (fun _ _ _ => ⟨_, _, rfl, rfl, ⟨_, _, rfl, rfl, rfl⟩⟩) ⟨rfl, (by repeat first | exact trivial | refine ⟨by decide, by first | rfl | exact trivial | (intro i j; first | rfl | exact getD_no rfl | (dsimp only; split <;> first | rfl | exact getD_no rfl)), ?_⟩)⟩ rfl rfl rfl (Nat.le_of_ble_eq_true rfl) ?_
              refine ARun.store rfl (.tmp rfl) (.tmp rfl) (SV.cells_of (by exact ⟨trivial, trivial, trivial⟩)) rfl (Nat.le_of_ble_eq_true rfl) vl_sz_29_2 rfl rfl ?_
              refine ARun.pure (PureOp.assign rfl (.tmp rfl)) rfl rfl (Nat.le_of_ble_eq_true rfl) ?_
              refine ARun.pure (PureOp.assign rfl (.tmp rfl)) rfl rfl (Nat.le_of_ble_eq_true rfl) ?_
              refine ARun.nil ?_
              refine AW.seq ?_
              refine AW.seq ?_
              refine AW.region ?_
              refine ARun.pure (PureOp.loadPtrAgg rfl (.tmp rfl) vl_ag_29_2 rfl rfl (Nat.le_of_ble_eq_true rfl) (Nat.le_of_ble_eq_true rfl)) rfl rfl (Nat.le_of_ble_eq_true rfl) ?_
              refine ARun.pure (PureOp.loadPtrAgg rfl (.tmp rfl) vl_ag_29_2 rfl rfl (Nat.le_of_ble_eq_true rfl) (Nat.le_of_ble_eq_true rfl)) rfl rfl (Nat.le_of_ble_eq_true rfl) ?_
              refine ARun.pure (PureOp.call rfl (v_eqHead ((trimV x0 x1).1) ((trimV x0 x1).1)) ⟨⟨_, (.tmp rfl), ⟨(Vw.cast (Vw.tre rfl (Nat.le_of_ble_eq_true rfl)) rfl), .int, trivial⟩⟩, ⟨_, (.tmp rfl), ⟨(Vw.cast (Vw.tre rfl (Nat.le_of_ble_eq_true rfl)) rfl), .int, trivial⟩⟩, trivial⟩ vl_ca_13 trivial) rfl rfl (Nat.le_of_ble_eq_true rfl) ?_
              refine ARun.pure (PureOp.not rfl (.tmp rfl)) rfl rfl (Nat.le_of_ble_eq_true rfl) ?_
              refine ARun.pure (PureOp.move rfl (.tmp rfl)) rfl rfl (Nat.le_of_ble_eq_true rfl) ?_
              refine ARun.gpure (want := false) (.tf rfl) (fun hg34 => PureOp.move rfl (.tmp rfl)) rfl rfl (Nat.le_of_ble_eq_true rfl) rfl (Nat.le_of_ble_eq_true rfl) ?_
              refine ARun.gpure (want := false) (.tf rfl) (fun hg35 => PureOp.move rfl (.tmp rfl)) rfl rfl (Nat.le_of_ble_eq_true rfl) rfl (Nat.le_of_ble_eq_true rfl) ?_
              refine ARun.gpure (want := false) (.tf rfl) (fun hg36 => PureOp.intOp rfl (.gtmp rfl hg36) (.gtmp rfl hg36) rfl) rfl rfl (Nat.le_of_ble_eq_true rfl) rfl (Nat.le_of_ble_eq_true rfl) ?_
              refine ARun.pure (PureOp.pick rfl (.tmp rfl) (fun _ => .bool) (fun hp38 => .gtmp rfl (not_of hp38))) rfl rfl (Nat.le_of_ble_eq_true rfl) ?_
              refine ARun.pure (PureOp.move rfl (.tmp rfl)) rfl rfl (Nat.le_of_ble_eq_true rfl) ?_
              refine ARun.gpure (want := false) (.tf rfl) (fun hg39 => PureOp.move rfl (.tmp rfl)) rfl rfl (Nat.le_of_ble_eq_true rfl) rfl (Nat.le_of_ble_eq_true rfl) ?_
              refine ARun.gpure (want := false) (.tf rfl) (fun hg40 => PureOp.move rfl (.tmp rfl)) rfl rfl (Nat.le_of_ble_eq_true rfl) rfl (Nat.le_of_ble_eq_true rfl) ?_
              refine ARun.gpure (want := false) (.tf rfl) (fun hg41 => PureOp.boolNe rfl (.gtmp rfl hg41) (.gtmp rfl hg41) vl_bo_4) rfl rfl (Nat.le_of_ble_eq_true rfl) rfl (Nat.le_of_ble_eq_true rfl) ?_
              refine ARun.pure (PureOp.pick rfl (.tmp rfl) (fun _ => .bool) (fun hp43 => .gtmp rfl (not_of hp43))) rfl rfl (Nat.le_of_ble_eq_true rfl) ?_
              refine ARun.nil ?_
              refine AW.cond (.tmp rfl) (fun hb44 => ?_) (fun hb44 => ?_)
              · have _u := True.intro
                exact absurd (show (cond (cond (!(decide (((trimV x0 x1).1) = ((trimV x0 x1).1)))) true (!decide ((((trimV x0 x1).2.1 : Nat) : Int) = (((trimV x0 x1).2.1 : Nat) : Int)))) true (!(((trimV x0 x1).2.2) == ((trimV x0 x1).2.2)))) = false by first | (simp; done) | (rw [cast_neg]; simp; done)) (by rw [hb44]; simp)
                --end
              · have _u := True.intro
                refine AW.skip ?_
                refine AW.seq ?_
                refine AW.region ?_
                refine ARun.pure (PureOp.assign rfl .int) rfl rfl (Nat.le_of_ble_eq_true rfl) ?_
                refine ARun.nil ?_
                refine AW.seq ?_
                refine AW.region ?_
                refine ARun.pure (PureOp.loadPtrAgg rfl (.tmp rfl) vl_ag_29_2 rfl rfl (Nat.le_of_ble_eq_true rfl) (Nat.le_of_ble_eq_true rfl)) rfl rfl (Nat.le_of_ble_eq_true rfl) ?_
                refine ARun.pure (PureOp.move rfl (.tmp rfl)) rfl rfl (Nat.le_of_ble_eq_true rfl) ?_
                refine ARun.pure (PureOp.call rfl (h_Head ((trimV x0 x1).1) (mvHead ((trimV x0 x1).1) 1) 1 rfl ⟨by omega, by omega⟩) ⟨⟨_, (.tmp rfl), ⟨(Vw.cast (Vw.tre rfl (Nat.le_of_ble_eq_true rfl)) rfl), .int, trivial⟩⟩, ⟨_, (.tmp rfl), .int⟩, trivial⟩ vl_ca_22 trivial) rfl rfl (Nat.le_of_ble_eq_true rfl) ?_
                refine ARun.pure (PureOp.assign rfl (.tmp rfl)) rfl rfl (Nat.le_of_ble_eq_true rfl) ?_
                refine ARun.nil ?_
                refine AW.seq ?_
                refine AW.seq ?_
                refine AW.region ?_
                refine ARun.pure (PureOp.move rfl (.tmp rfl)) rfl rfl (Nat.le_of_ble_eq_true rfl) ?_
                refine ARun.pure (PureOp.intOp rfl (.tmp rfl) .int rfl) rfl rfl (Nat.le_of_ble_eq_true rfl) ?_
                refine ARun.nil ?_
                refine AW.cond (.tmp rfl) (fun hb45 => ?_) (fun hb45 => ?_)
                · have _u := True.intro
                  replace hb45 := of_decide_eq_true hb45
                  exact absurd hb45 (by omega)
                  --end
                · have _u := True.intro
                  replace hb45 := of_decide_eq_false hb45
                  refine AW.skip ?_
                  refine AW.seq ?_
                  refine AW.seq ?_
                  refine AW.region ?_
                  refine ARun.pure (PureOp.move rfl (.tmp rfl)) rfl rfl (Nat.le_of_ble_eq_true rfl) ?_
                  refine ARun.pure (PureOp.move rfl (.tmp rfl)) rfl rfl (Nat.le_of_ble_eq_true rfl) ?_
                  refine ARun.pure (PureOp.intOp rfl (.tmp rfl) (.tmp rfl) rfl) rfl rfl (Nat.le_of_ble_eq_true rfl) ?_
                  refine ARun.nil ?_
                  refine AW.cond (.tmp rfl) (fun hb46 => ?_) (fun hb46 => ?_)
                  · have _u := True.intro
                    replace hb46 := of_decide_eq_false (of_not hb46)
                    exact absurd rfl hb46
                    --end
                  · have _u := True.intro
                    replace hb46 := of_decide_eq_true (not_f hb46)
                    refine AW.skip ?_
                    refine AW.seq ?_
                    refine AW.region ?_
                    refine ARun.pure (PureOp.assign rfl .bool) rfl rfl (Nat.le_of_ble_eq_true rfl) ?_
                    refine ARun.nil ?_
                    refine AW.ret (show ResL _ _ [.tmp 4] _ from resB rfl ?_)
                    rfl

set_option maxRecDepth 100000 in
theorem lifted_TrimHead (os : Os) (started : os.Started) (H : Type) (enc : TypeId × Value → H) :
    ReturnsInHanded {} Try.checked os 5 .any (Rows.fnExactTrimHeadSpec.pre6 enc Try.prog Try.f5 Rows.fnExactTrimHeadRow.domain false) (Rows.fnExactTrimHeadSpec.post enc Try.prog Try.f5 false true false false) := by
  refine returnsInHanded_of_change (C := Try.checked) own started (by kernel_rfl) Try.func5
    (ChangeSpec.witness6 (enc := enc) (C := Try.checked) false ⟨#[], #[.agg #[.slice none 0 0, .int .i64 0], .int .i64 0], []⟩ 8 (by kernel_rfl) (by kernel_rfl) (by kernel_rfl) (by kernel_rfl)) ?_
  intro W base args ds gs before hval0 hW hcnd _
  have hval : ∀ (j : Nat) t v, Try.f5.params[j]? = some t → args[j]? = some v → Value.okWide Try.prog W .any base t v := hval0
  have hW' := hW
  obtain ⟨p, q, hA0, hV, rfl, hfz, hnd⟩ := hW
  have hA : DataW.TrodAll enc Try.prog W 0 (fun _ => true) true Try.f5.params.toList args.toList ds p := hA0
  rw [Try.params5] at hA hval
  obtain ⟨v0, vs0, d0, ds0, p0, q0, hargs, rfl, rfl, h0, r0⟩ := trodAll_cons hA
  obtain ⟨v1, vs1, d1, ds1, p1, q1, rfl, rfl, rfl, h1, r1⟩ := trodAll_cons r0
  obtain ⟨rfl, rfl, rfl⟩ := trodAll_nil r1
  obtain rfl : args = #[v0, v1] := by cases args; simp_all
  obtain ⟨rfl, rfl⟩ := trodVars_none hV
  obtain ⟨x0, R0⟩ := OpensC.arg opensC_24 h0
  have E0 : DS W (· < W.heap.size) (.agg [.lst 2 x0.rows.length (fun i0 j0 => ([.str ((x0.rows.getD i0 (default : GRow)).name), .lst 2 (((x0.rows.getD i0 (default : GRow)).samples).length) (fun i1 j1 => ([.int .i64 ((((x0.rows.getD i0 (default : GRow)).samples).getD i1 (default : GSample)).at_), .int .i64 ((((x0.rows.getD i0 (default : GRow)).samples).getD i1 (default : GSample)).value)] : List AV).getD j1 (.con undef))] : List AV).getD j0 (.con undef)), .int .i64 x0.offset]) v0 := DS.agg_of (let ⟨cs, e, _⟩ := okWide_struct Try.underlying24 (hval 0 24 v0 rfl rfl); ⟨cs, e⟩) R0
  obtain ⟨x1, rfl, rfl, rfl, w1⟩ := open_int Try.underlying3 (hval 1 3 v1 rfl rfl) h1
  have E1 : DS W (· < W.heap.size) (.one (.int .i64 x1)) _ := rfl
  clear hA0 hval0
  refine (law_TrimHead x0 x1 (i64_of_wf w1) W _ _ (fun _ h => h) ⟨_, _, rfl, E0, ⟨_, _, rfl, E1, rfl⟩⟩).mono fun e W' ⟨he, hg⟩ => ?_
  subst he
  exact ⟨_, rfl, law_post hW' rfl laidOut (by kernel_rfl) hg rfl rfl Try.underlying4⟩
/-- The statement. -/
theorem proved_TrimHead : Rows.FnExactTrimHeadSaid :=
  OpenClaim.holds_of_wide 5 Try.f5 rfl rfl rfl rfl rfl rfl rfl ⟨rfl, rfl, rfl, rfl, rfl⟩ rfl rfl rfl rfl rfl (by kernel_rfl) Try.func5 (by kernel_rfl)
    (of_decide_eq_true (by kernel_rfl)) (by unfold Func.isWrapper; first | (rw [if_pos (by decide +kernel)]; kernel_rfl) | (rw [if_neg (by decide +kernel)]; exact ⟨rfl, rfl⟩))
    (fun os started H enc _ => lifted_TrimHead os started H enc)
#print axioms proved_TrimHead
end Go.Proofs.Ytmfkmifkkplidaa
