/-
  Proved: the law FnExactFoldSays returns true for every input: the program's FoldSays answers what the reference's does, leaves its arguments alone, and hands out memory that nobody else holds. Conditions: none.
-/
import Derived.Test.YtmfkmifkkplidaaFsa2
import Derived.Test.YtmfkmifkkplidaaFsa5
namespace Go.Proofs.Ytmfkmifkkplidaa
open Go.ChangeShapes Go.WideShapes Go.ChangeAt Go.RowKit Go.BigFrame Go.Deep
set_option linter.unusedVariables false
set_option linter.unusedSimpArgs false
theorem vfl_ag_24_2 : aggB Try.prog 24 2 = true := by kernel_rfl
theorem vfl_ag_29_2 : aggB Try.prog 29 2 = true := by kernel_rfl
theorem vfl_bo_4 : boolB Try.prog 4 = true := by kernel_rfl
theorem vfl_ca_11 : callB Try.prog 11 = true := by kernel_rfl
theorem vfl_ca_13 : callB Try.prog 13 = true := by kernel_rfl
theorem vfl_ca_17 : callB Try.prog 17 = true := by kernel_rfl
theorem vfl_ca_22 : callB Try.prog 22 = true := by kernel_rfl
theorem vfl_ca_27 : callB Try.prog 27 = true := by kernel_rfl
theorem vfl_ca_28 : callB Try.prog 28 = true := by kernel_rfl
theorem vfl_ca_29 : callB Try.prog 29 = true := by kernel_rfl
theorem vfl_ca_30 : callB Try.prog 30 = true := by kernel_rfl
theorem vfl_ca_31 : callB Try.prog 31 = true := by kernel_rfl
theorem vfl_ca_32 : callB Try.prog 32 = true := by kernel_rfl
theorem vfl_ca_33 : callB Try.prog 33 = true := by kernel_rfl
theorem vfl_ca_34 : callB Try.prog 34 = true := by kernel_rfl
theorem vfl_ca_35 : callB Try.prog 35 = true := by kernel_rfl
theorem vfl_ca_9 : callB Try.prog 9 = true := by kernel_rfl
theorem vfl_sz_29_2 : sizeB Try.prog 29 2 = true := by kernel_rfl
theorem smp_cnt (l : List GSample) : ctL crSample l ≤ 2 * l.length := ctL_len (fun _ => Nat.le_refl 2) l
theorem row_cnt (r : GRow) : crRow r ≤ 2 * (1 + wtRow r) := by
  have h := smp_cnt r.samples
  have e : crRow r = 0 + 1 + ctL crSample r.samples := rfl
  have e2 : wtRow r = r.name.size + r.samples.length := rfl
  rw [e, e2]; omega
theorem head_cnt (x : GHead) : cvHead x ≤ 2 * wtHead x := by
  show 0 + ctL crRow x.rows ≤ 2 * wtl wtRow x.rows
  have := ctL_wtl (ct := crRow) (f := wtRow) (c := 2) row_cnt x.rows
  omega
theorem ctL_mem {α : Type} {ct : α → Nat} {c : Nat} : ∀ {l : List α}, (∀ x ∈ l, ct x ≤ c) → ctL ct l ≤ c * l.length
  | [], _ => Nat.zero_le _
  | a :: l, h => by
    have h1 := h a (List.mem_cons_self ..)
    have h2 := ctL_mem (l := l) fun x hx => h x (List.mem_cons_of_mem _ hx)
    have e : ctL ct (a :: l) = ct a + ctL ct l := by simp [ctL]
    rw [e, List.length_cons, Nat.mul_add]; omega
theorem good_cnt {h : GHead} (hg : goodHead ⟨h.rows, 0⟩ = true) : cvHead h ≤ 1000 := by
  have h1 : ctL crRow h.rows ≤ 81 * h.rows.length := ctL_mem fun r hr => by
    obtain ⟨k, hk, rfl⟩ := List.mem_iff_getElem.1 hr
    have h2 := smp_40 (good_at (h := ⟨h.rows, 0⟩) hg hk).2.2
    have e : h.rows.getD k (default : GRow) = h.rows[k] := by rw [List.getD_eq_getElem?_getD, List.getElem?_eq_getElem hk]; rfl
    have h2 : (h.rows.getD k (default : GRow)).samples.length ≤ 40 := h2
    rw [e] at h2
    have h3 := smp_cnt (h.rows[k]).samples
    have e2 : crRow h.rows[k] = 0 + 1 + ctL crSample (h.rows[k]).samples := rfl
    omega
  have h2 := good_len (h := ⟨h.rows, 0⟩) hg
  have h2 : h.rows.length ≤ 8 := h2
  show 0 + ctL crRow h.rows ≤ _
  omega
theorem foldV_cnt (h : GHead) (l : List GSay) : cvHead (foldV h l).1 ≤ 1000 ∧ (foldV h l).2.1.length ≤ 60 := by
  by_cases F : FoldOk h l
  · rw [foldV_yes F]
    exact ⟨good_cnt (fold_good (good0 F.good) l.length F.says), by show (codesL h l l.length).length ≤ 60; rw [codes_len]; exact F.len⟩
  · rw [foldV_no F]; exact ⟨Nat.zero_le _, Nat.zero_le _⟩
theorem says_cnt (l : List GSay) : ctL crSay l ≤ 3 * l.length := ctL_mem fun _ _ => Nat.le_refl 3

theorem opensC_9 : OpensC Try.prog 9 (fun x : ByteArray => [.str x]) := OpensC.string Try.underlying9
theorem opensC_3 : OpensC Try.prog 3 (fun x : Int => [.int .i64 x]) := OpensC.int Try.underlying3
theorem opensC_124 : OpensC Try.prog 124 (fun x : GSample => [.int .i64 x.at_, .int .i64 x.value]) := fun H eh w fuel cs x h => by
  have hS : Try.prog.underlying 124 = some (.struct (Try.prog.fieldsOf 124)) := by kernel_rfl
  obtain ⟨xs, n, _, rfl, hl, hlen, hf⟩ := DataW.trod_struct hS h
  have hsz : (Try.prog.fieldsOf 124).size = 2 := by kernel_rfl
  have hC : Try.prog.cellsOf 124 = 2 := by kernel_rfl
  rw [hC] at hl
  have t0 : ((Try.prog.fieldsOf 124)[0]?).map (fun f => (f.type, f.offset, Try.prog.cellsOf f.type)) = some (3, 0, 1) := by kernel_rfl
  obtain ⟨f0, j0, y0⟩ := Option.map_eq_some_iff.1 t0
  simp only [Prod.mk.injEq] at y0
  have g0 := hf 0 f0 j0
  rw [y0.2.2, y0.2.1, y0.1, List.getElem?_eq_getElem (by omega)] at g0
  obtain ⟨a0, r0⟩ := opensC_3 H eh w n _ _ g0
  have t1 : ((Try.prog.fieldsOf 124)[1]?).map (fun f => (f.type, f.offset, Try.prog.cellsOf f.type)) = some (3, 1, 1) := by kernel_rfl
  obtain ⟨f1, j1, y1⟩ := Option.map_eq_some_iff.1 t1
  simp only [Prod.mk.injEq] at y1
  have g1 := hf 1 f1 j1
  rw [y1.2.2, y1.2.1, y1.1, List.getElem?_eq_getElem (by omega)] at g1
  obtain ⟨a1, r1⟩ := opensC_3 H eh w n _ _ g1
  have e2 : DL w (· < w.heap.size) [] (cs.drop 2) := List.drop_of_length_le (by omega)
  have e1 := DL.part (o := 1) (s := 1) r1 e2
  have e0 := DL.part (o := 0) (s := 1) r0 e1
  exact ⟨⟨a0, a1⟩, e0⟩
theorem opensC_101 : OpensC Try.prog 101 (fun x : List GSample => [.lst 2 x.length (fun i0 j0 => ([.int .i64 ((x.getD i0 (default : GSample)).at_), .int .i64 ((x.getD i0 (default : GSample)).value)] : List AV).getD j0 (.con undef))]) := OpensC.slice (default : GSample) Try.underlying101 (by kernel_rfl) (by decide) opensC_124 (fun _ => rfl) (fun l i j _ hj => match j, hj with | 0, _ => rfl | 1, _ => rfl | _ + 2, h => absurd h (by omega))
theorem opensC_103 : OpensC Try.prog 103 (fun x : GRow => [.str x.name, .lst 2 x.samples.length (fun i0 j0 => ([.int .i64 ((x.samples.getD i0 (default : GSample)).at_), .int .i64 ((x.samples.getD i0 (default : GSample)).value)] : List AV).getD j0 (.con undef))]) := fun H eh w fuel cs x h => by
  have hS : Try.prog.underlying 103 = some (.struct (Try.prog.fieldsOf 103)) := by kernel_rfl
  obtain ⟨xs, n, _, rfl, hl, hlen, hf⟩ := DataW.trod_struct hS h
  have hsz : (Try.prog.fieldsOf 103).size = 2 := by kernel_rfl
  have hC : Try.prog.cellsOf 103 = 2 := by kernel_rfl
  rw [hC] at hl
  have t0 : ((Try.prog.fieldsOf 103)[0]?).map (fun f => (f.type, f.offset, Try.prog.cellsOf f.type)) = some (9, 0, 1) := by kernel_rfl
  obtain ⟨f0, j0, y0⟩ := Option.map_eq_some_iff.1 t0
  simp only [Prod.mk.injEq] at y0
  have g0 := hf 0 f0 j0
  rw [y0.2.2, y0.2.1, y0.1, List.getElem?_eq_getElem (by omega)] at g0
  obtain ⟨a0, r0⟩ := opensC_9 H eh w n _ _ g0
  have t1 : ((Try.prog.fieldsOf 103)[1]?).map (fun f => (f.type, f.offset, Try.prog.cellsOf f.type)) = some (101, 1, 1) := by kernel_rfl
  obtain ⟨f1, j1, y1⟩ := Option.map_eq_some_iff.1 t1
  simp only [Prod.mk.injEq] at y1
  have g1 := hf 1 f1 j1
  rw [y1.2.2, y1.2.1, y1.1, List.getElem?_eq_getElem (by omega)] at g1
  obtain ⟨a1, r1⟩ := opensC_101 H eh w n _ _ g1
  have e2 : DL w (· < w.heap.size) [] (cs.drop 2) := List.drop_of_length_le (by omega)
  have e1 := DL.part (o := 1) (s := 1) r1 e2
  have e0 := DL.part (o := 0) (s := 1) r0 e1
  exact ⟨⟨a0, a1⟩, e0⟩
theorem opensC_22 : OpensC Try.prog 22 (fun x : List GRow => [.lst 2 x.length (fun i0 j0 => ([.str ((x.getD i0 (default : GRow)).name), .lst 2 (((x.getD i0 (default : GRow)).samples).length) (fun i1 j1 => ([.int .i64 ((((x.getD i0 (default : GRow)).samples).getD i1 (default : GSample)).at_), .int .i64 ((((x.getD i0 (default : GRow)).samples).getD i1 (default : GSample)).value)] : List AV).getD j1 (.con undef))] : List AV).getD j0 (.con undef))]) := OpensC.slice (default : GRow) Try.underlying22 (by kernel_rfl) (by decide) opensC_103 (fun _ => rfl) (fun l i j _ hj => match j, hj with | 0, _ => rfl | 1, _ => rfl | _ + 2, h => absurd h (by omega))
theorem opensC_24 : OpensC Try.prog 24 (fun x : GHead => [.lst 2 x.rows.length (fun i0 j0 => ([.str ((x.rows.getD i0 (default : GRow)).name), .lst 2 (((x.rows.getD i0 (default : GRow)).samples).length) (fun i1 j1 => ([.int .i64 ((((x.rows.getD i0 (default : GRow)).samples).getD i1 (default : GSample)).at_), .int .i64 ((((x.rows.getD i0 (default : GRow)).samples).getD i1 (default : GSample)).value)] : List AV).getD j1 (.con undef))] : List AV).getD j0 (.con undef)), .int .i64 x.offset]) := fun H eh w fuel cs x h => by
  have hS : Try.prog.underlying 24 = some (.struct (Try.prog.fieldsOf 24)) := by kernel_rfl
  obtain ⟨xs, n, _, rfl, hl, hlen, hf⟩ := DataW.trod_struct hS h
  have hsz : (Try.prog.fieldsOf 24).size = 2 := by kernel_rfl
  have hC : Try.prog.cellsOf 24 = 2 := by kernel_rfl
  rw [hC] at hl
  have t0 : ((Try.prog.fieldsOf 24)[0]?).map (fun f => (f.type, f.offset, Try.prog.cellsOf f.type)) = some (22, 0, 1) := by kernel_rfl
  obtain ⟨f0, j0, y0⟩ := Option.map_eq_some_iff.1 t0
  simp only [Prod.mk.injEq] at y0
  have g0 := hf 0 f0 j0
  rw [y0.2.2, y0.2.1, y0.1, List.getElem?_eq_getElem (by omega)] at g0
  obtain ⟨a0, r0⟩ := opensC_22 H eh w n _ _ g0
  have t1 : ((Try.prog.fieldsOf 24)[1]?).map (fun f => (f.type, f.offset, Try.prog.cellsOf f.type)) = some (3, 1, 1) := by kernel_rfl
  obtain ⟨f1, j1, y1⟩ := Option.map_eq_some_iff.1 t1
  simp only [Prod.mk.injEq] at y1
  have g1 := hf 1 f1 j1
  rw [y1.2.2, y1.2.1, y1.1, List.getElem?_eq_getElem (by omega)] at g1
  obtain ⟨a1, r1⟩ := opensC_3 H eh w n _ _ g1
  have e2 : DL w (· < w.heap.size) [] (cs.drop 2) := List.drop_of_length_le (by omega)
  have e1 := DL.part (o := 1) (s := 1) r1 e2
  have e0 := DL.part (o := 0) (s := 1) r0 e1
  exact ⟨⟨a0, a1⟩, e0⟩
theorem opensC_44 : OpensC Try.prog 44 (fun x : GSay => [.str x.name, .int .i64 x.at_, .int .i64 x.value]) := fun H eh w fuel cs x h => by
  have hS : Try.prog.underlying 44 = some (.struct (Try.prog.fieldsOf 44)) := by kernel_rfl
  obtain ⟨xs, n, _, rfl, hl, hlen, hf⟩ := DataW.trod_struct hS h
  have hsz : (Try.prog.fieldsOf 44).size = 3 := by kernel_rfl
  have hC : Try.prog.cellsOf 44 = 3 := by kernel_rfl
  rw [hC] at hl
  have t0 : ((Try.prog.fieldsOf 44)[0]?).map (fun f => (f.type, f.offset, Try.prog.cellsOf f.type)) = some (9, 0, 1) := by kernel_rfl
  obtain ⟨f0, j0, y0⟩ := Option.map_eq_some_iff.1 t0
  simp only [Prod.mk.injEq] at y0
  have g0 := hf 0 f0 j0
  rw [y0.2.2, y0.2.1, y0.1, List.getElem?_eq_getElem (by omega)] at g0
  obtain ⟨a0, r0⟩ := opensC_9 H eh w n _ _ g0
  have t1 : ((Try.prog.fieldsOf 44)[1]?).map (fun f => (f.type, f.offset, Try.prog.cellsOf f.type)) = some (3, 1, 1) := by kernel_rfl
  obtain ⟨f1, j1, y1⟩ := Option.map_eq_some_iff.1 t1
  simp only [Prod.mk.injEq] at y1
  have g1 := hf 1 f1 j1
  rw [y1.2.2, y1.2.1, y1.1, List.getElem?_eq_getElem (by omega)] at g1
  obtain ⟨a1, r1⟩ := opensC_3 H eh w n _ _ g1
  have t2 : ((Try.prog.fieldsOf 44)[2]?).map (fun f => (f.type, f.offset, Try.prog.cellsOf f.type)) = some (3, 2, 1) := by kernel_rfl
  obtain ⟨f2, j2, y2⟩ := Option.map_eq_some_iff.1 t2
  simp only [Prod.mk.injEq] at y2
  have g2 := hf 2 f2 j2
  rw [y2.2.2, y2.2.1, y2.1, List.getElem?_eq_getElem (by omega)] at g2
  obtain ⟨a2, r2⟩ := opensC_3 H eh w n _ _ g2
  have e3 : DL w (· < w.heap.size) [] (cs.drop 3) := List.drop_of_length_le (by omega)
  have e2 := DL.part (o := 2) (s := 1) r2 e3
  have e1 := DL.part (o := 1) (s := 1) r1 e2
  have e0 := DL.part (o := 0) (s := 1) r0 e1
  exact ⟨⟨a0, a1, a2⟩, e0⟩
theorem opensC_50 : OpensC Try.prog 50 (fun x : List GSay => [.lst 3 x.length (fun i0 j0 => ([.str ((x.getD i0 (default : GSay)).name), .int .i64 ((x.getD i0 (default : GSay)).at_), .int .i64 ((x.getD i0 (default : GSay)).value)] : List AV).getD j0 (.con undef))]) := OpensC.slice (default : GSay) Try.underlying50 (by kernel_rfl) (by decide) opensC_44 (fun _ => rfl) (fun l i j _ hj => match j, hj with | 0, _ => rfl | 1, _ => rfl | 2, _ => rfl | _ + 3, h => absurd h (by omega))

theorem law_FoldSays (x0 : GHead) (x1 : List GSay) : Fn Try.prog 7 [.agg [.lst 2 x0.rows.length (fun i0 j0 => ([.str ((x0.rows.getD i0 (default : GRow)).name), .lst 2 (((x0.rows.getD i0 (default : GRow)).samples).length) (fun i1 j1 => ([.int .i64 ((((x0.rows.getD i0 (default : GRow)).samples).getD i1 (default : GSample)).at_), .int .i64 ((((x0.rows.getD i0 (default : GRow)).samples).getD i1 (default : GSample)).value)] : List AV).getD j1 (.con undef))] : List AV).getD j0 (.con undef)), .int .i64 x0.offset], .one (.lst 3 x1.length (fun i0 j0 => ([.str ((x1.getD i0 (default : GSay)).name), .int .i64 ((x1.getD i0 (default : GSay)).at_), .int .i64 ((x1.getD i0 (default : GSay)).value)] : List AV).getD j0 (.con undef)))] (.one (.bool true)) := by
  have hct0 := head_cnt x0
  obtain ⟨hcnt, hcn2⟩ := foldV_cnt x0 x1
  have hcn3 := says_cnt x1
  have hwl : x1.length ≤ wtl wtSay x1 := Nat.le_add_right _ _
  have hcn4 : ctL c1 (foldV x0 x1).2.1 = _ := ctL_one (fun _ => rfl) _
  refine Fn.of_body (fn := Try.f7) Try.func7 rfl (Nat.le_of_ble_eq_true rfl) trivial ?_
  intro w0
  show AW _ 156 _ _ _ _
  refine AW.seq ?_
  refine AW.region ?_
  refine ARun.box (id := 0) rfl (.tmp rfl) (SV.cells_of (by exact ⟨trivial, trivial, trivial⟩)) ⟨rfl, (by repeat first | exact trivial | refine ⟨by decide, by first | rfl | exact trivial | (intro i j; first | rfl | exact getD_no rfl | (dsimp only; split <;> first | rfl | exact getD_no rfl) | exact scl_no (by apply_assumption) _), ?_⟩)⟩ rfl rfl rfl (Nat.le_of_ble_eq_true rfl) ?_
  refine ARun.pure (PureOp.assign rfl .bool) rfl rfl (Nat.le_of_ble_eq_true rfl) ?_
  refine ARun.nil ?_
  refine AW.seq ?_
  refine AW.region ?_
  refine ARun.pure (PureOp.assign rfl .int) rfl rfl (Nat.le_of_ble_eq_true rfl) ?_
  refine ARun.nil ?_
  refine AW.seq ?_
  refine AW.region ?_
  refine ARun.pure (PureOp.loadPtrAgg rfl (.tmp rfl) vfl_ag_24_2 rfl rfl (Nat.le_of_ble_eq_true rfl) (Nat.le_of_ble_eq_true rfl)) rfl rfl (Nat.le_of_ble_eq_true rfl) ?_
  refine ARun.pure (PureOp.move rfl (.tmp rfl)) rfl rfl (Nat.le_of_ble_eq_true rfl) ?_
  refine ARun.pure (PureOp.call rfl (v_szHead x0 1048576 (by first | omega | (unfold szR at *; split at * <;> omega))) ⟨⟨_, (.tmp rfl), ⟨.lst, .int, trivial⟩⟩, ⟨_, (.tmp rfl), .int⟩, trivial⟩ vfl_ca_9 trivial) rfl rfl (Nat.le_of_ble_eq_true rfl) ?_
  refine ARun.pure (PureOp.assign rfl (.tmp rfl)) rfl rfl (Nat.le_of_ble_eq_true rfl) ?_
  refine ARun.nil ?_
  refine AW.seq ?_
  refine AW.seq ?_
  refine AW.region ?_
  refine ARun.pure (PureOp.move rfl (.tmp rfl)) rfl rfl (Nat.le_of_ble_eq_true rfl) ?_
  refine ARun.pure (PureOp.intOp rfl (.tmp rfl) .int rfl) rfl rfl (Nat.le_of_ble_eq_true rfl) ?_
  refine ARun.nil ?_
  refine AW.cond (.tmp rfl) (fun hb1 => ?_) (fun hb1 => ?_)
  · have _u := True.intro
    replace hb1 := of_decide_eq_true hb1
    refine AW.seq ?_
    refine AW.region ?_
    refine ARun.pure (PureOp.assign rfl .bool) rfl rfl (Nat.le_of_ble_eq_true rfl) ?_
    refine ARun.nil ?_
    refine AW.ret (show ResL _ _ [.tmp 4] _ from resB rfl ?_)
    rfl
  · have _u := True.intro
    replace hb1 := of_decide_eq_false hb1
    obtain ⟨hs2, hs2b, hs2c⟩ := szR_ok (by omega) hb1
    refine AW.skip ?_
    refine AW.seq ?_
    refine AW.region ?_
    refine ARun.pure (PureOp.move rfl (.tmp rfl)) rfl rfl (Nat.le_of_ble_eq_true rfl) ?_
    refine ARun.pure (PureOp.move rfl (.tmp rfl)) rfl rfl (Nat.le_of_ble_eq_true rfl) ?_
    refine ARun.pure (PureOp.call rfl (v_szSayS x1 (szR 1048576 (wtHead x0)) (by first | omega | (unfold szR at *; split at * <;> omega))) ⟨⟨_, (.tmp rfl), .lst⟩, ⟨_, (.tmp rfl), .int⟩, trivial⟩ vfl_ca_27 trivial) rfl rfl (Nat.le_of_ble_eq_true rfl) ?_
    refine ARun.pure (PureOp.assign rfl (.tmp rfl)) rfl rfl (Nat.le_of_ble_eq_true rfl) ?_
    refine ARun.nil ?_
    refine AW.seq ?_
    refine AW.seq ?_
    refine AW.region ?_
    refine ARun.pure (PureOp.move rfl (.tmp rfl)) rfl rfl (Nat.le_of_ble_eq_true rfl) ?_
    refine ARun.pure (PureOp.intOp rfl (.tmp rfl) .int rfl) rfl rfl (Nat.le_of_ble_eq_true rfl) ?_
    refine ARun.nil ?_
    refine AW.cond (.tmp rfl) (fun hb3 => ?_) (fun hb3 => ?_)
    · have _u := True.intro
      replace hb3 := of_decide_eq_true hb3
      refine AW.seq ?_
      refine AW.region ?_
      refine ARun.pure (PureOp.assign rfl .bool) rfl rfl (Nat.le_of_ble_eq_true rfl) ?_
      refine ARun.nil ?_
      refine AW.ret (show ResL _ _ [.tmp 4] _ from resB rfl ?_)
      rfl
    · have _u := True.intro
      replace hb3 := of_decide_eq_false hb3
      obtain ⟨hs4, hs4b, hs4c⟩ := szR_ok (by omega) hb3
      refine AW.skip ?_
      refine AW.seq ?_
      refine AW.region ?_
      refine ARun.pure (PureOp.loadPtrAgg rfl (.tmp rfl) vfl_ag_24_2 rfl rfl (Nat.le_of_ble_eq_true rfl) (Nat.le_of_ble_eq_true rfl)) rfl rfl (Nat.le_of_ble_eq_true rfl) ?_
      refine ARun.prod (K := 1) rfl (v_toHead x0 (Small.mk (by omega))) ⟨rfl, (by repeat first | exact trivial | refine ⟨by decide, by first | rfl | exact trivial | (intro i j; first | rfl | exact getD_no rfl | (dsimp only; split <;> first | rfl | exact getD_no rfl) | exact scl_no (by apply_assumption) _), ?_⟩)⟩ ⟨⟨_, (.tmp rfl), ⟨.lst, .int, trivial⟩⟩, trivial⟩ vfl_ca_11 rfl rfl rfl rfl rfl (Nat.le_of_ble_eq_true rfl) ?_
      refine ARun.pure (PureOp.move rfl (.tmp rfl)) rfl rfl (Nat.le_of_ble_eq_true rfl) ?_
      refine ARun.prod (K := 2) rfl (v_toSayS x1 (Small.mk (by omega))) ⟨rfl, (by repeat first | exact trivial | refine ⟨by decide, by first | rfl | exact trivial | (intro i j; first | rfl | exact getD_no rfl | (dsimp only; split <;> first | rfl | exact getD_no rfl) | exact scl_no (by apply_assumption) _), ?_⟩)⟩ ⟨⟨_, (.tmp rfl), .lst⟩, trivial⟩ vfl_ca_29 rfl rfl rfl rfl rfl (Nat.le_of_ble_eq_true rfl) ?_
      refine ARun.prod (K := 3) rfl (v_sFold x0 x1) ⟨rfl, (by repeat first | exact trivial | refine ⟨by decide, by first | rfl | exact trivial | (intro i j; first | rfl | exact getD_no rfl | (dsimp only; split <;> first | rfl | exact getD_no rfl) | exact scl_no (by apply_assumption) _), ?_⟩)⟩ ⟨⟨_, (.tmp rfl), ⟨(Vw.cast (Vw.tre rfl (Nat.le_of_ble_eq_true rfl)) rfl), .int, trivial⟩⟩, ⟨_, (.tmp rfl), (Vw.cast (Vw.tre rfl (Nat.le_of_ble_eq_true rfl)) rfl)⟩, trivial⟩ vfl_ca_28 rfl rfl rfl rfl rfl (Nat.le_of_ble_eq_true rfl) ?_
      refine ARun.pure (PureOp.move rfl (.tmp rfl)) rfl rfl (Nat.le_of_ble_eq_true rfl) ?_
      refine ARun.pure (PureOp.ext3a rfl (.tmp rfl)) rfl rfl (Nat.le_of_ble_eq_true rfl) ?_
      refine ARun.pure (PureOp.ext3b rfl (.tmp rfl)) rfl rfl (Nat.le_of_ble_eq_true rfl) ?_
      refine ARun.pure (PureOp.ext3c rfl (.tmp rfl)) rfl rfl (Nat.le_of_ble_eq_true rfl) ?_
      refine ARun.alloc (id := 4) (l := [.con (.slice none 0 0), .int .i64 0]) (z := (.agg #[.slice none 0 0, .int .i64 0])) rfl (by kernel_rfl) (fun _ _ _ => ⟨_, _, rfl, rfl, ⟨_, _, rfl, rfl, rfl⟩⟩) ⟨rfl, (by repeat first | exact trivial | refine ⟨by decide, by first | rfl | exact trivial | (intro i j; first | rfl | exact getD_no rfl | (dsimp only; split <;> first | rfl | exact getD_no rfl) | exact scl_no (by apply_assumption) _), ?_⟩)⟩ rfl rfl rfl (Nat.le_of_ble_eq_true rfl) ?_
      refine ARun.store rfl (.tmp rfl) (.tmp rfl) (SV.cells_of (by exact ⟨trivial, trivial, trivial⟩)) rfl (Nat.le_of_ble_eq_true rfl) vfl_sz_29_2 rfl rfl ?_
      refine ARun.pure (PureOp.assign rfl (.tmp rfl)) rfl rfl (Nat.le_of_ble_eq_true rfl) ?_
      refine ARun.pure (PureOp.assign rfl (.tmp rfl)) rfl rfl (Nat.le_of_ble_eq_true rfl) ?_
      refine ARun.nil ?_
      refine AW.seq ?_
      refine AW.region ?_
      refine ARun.pure (PureOp.loadPtrAgg rfl (.tmp rfl) vfl_ag_24_2 rfl rfl (Nat.le_of_ble_eq_true rfl) (Nat.le_of_ble_eq_true rfl)) rfl rfl (Nat.le_of_ble_eq_true rfl) ?_
      refine ARun.prod (K := 5) rfl (v_toHead x0 (Small.mk (by omega))) ⟨rfl, (by repeat first | exact trivial | refine ⟨by decide, by first | rfl | exact trivial | (intro i j; first | rfl | exact getD_no rfl | (dsimp only; split <;> first | rfl | exact getD_no rfl) | exact scl_no (by apply_assumption) _), ?_⟩)⟩ ⟨⟨_, (.tmp rfl), ⟨.lst, .int, trivial⟩⟩, trivial⟩ vfl_ca_11 rfl rfl rfl rfl rfl (Nat.le_of_ble_eq_true rfl) ?_
      refine ARun.alloc (id := 6) (l := [.con (.slice none 0 0), .int .i64 0]) (z := (.agg #[.slice none 0 0, .int .i64 0])) rfl (by kernel_rfl) (fun _ _ _ => ⟨_, _, rfl, rfl, ⟨_, _, rfl, rfl, rfl⟩⟩) ⟨rfl, (by repeat first | exact trivial | refine ⟨by decide, by first | rfl | exact trivial | (intro i j; first | rfl | exact getD_no rfl | (dsimp only; split <;> first | rfl | exact getD_no rfl) | exact scl_no (by apply_assumption) _), ?_⟩)⟩ rfl rfl rfl (Nat.le_of_ble_eq_true rfl) ?_
      refine ARun.store rfl (.tmp rfl) (.tmp rfl) (SV.cells_of (by exact ⟨trivial, trivial, trivial⟩)) rfl (Nat.le_of_ble_eq_true rfl) vfl_sz_29_2 rfl rfl ?_
      refine ARun.nil ?_
      refine AW.seq ?_
      refine AW.region ?_
      refine ARun.pure (PureOp.move rfl (.tmp rfl)) rfl rfl (Nat.le_of_ble_eq_true rfl) ?_
      refine ARun.prod (K := 7) rfl (v_toSayS x1 (Small.mk (by omega))) ⟨rfl, (by repeat first | exact trivial | refine ⟨by decide, by first | rfl | exact trivial | (intro i j; first | rfl | exact getD_no rfl | (dsimp only; split <;> first | rfl | exact getD_no rfl) | exact scl_no (by apply_assumption) _), ?_⟩)⟩ ⟨⟨_, (.tmp rfl), .lst⟩, trivial⟩ vfl_ca_29 rfl rfl rfl rfl rfl (Nat.le_of_ble_eq_true rfl) ?_
      refine ARun.pure (PureOp.assign rfl (.tmp rfl)) rfl rfl (Nat.le_of_ble_eq_true rfl) ?_
      refine ARun.nil ?_
      refine AW.seq ?_
      refine AW.region ?_
      refine ARun.pure (PureOp.loadPtrAgg rfl (.tmp rfl) vfl_ag_29_2 rfl rfl (Nat.le_of_ble_eq_true rfl) (Nat.le_of_ble_eq_true rfl)) rfl rfl (Nat.le_of_ble_eq_true rfl) ?_
      refine ARun.pure (PureOp.move rfl (.tmp rfl)) rfl rfl (Nat.le_of_ble_eq_true rfl) ?_
      refine ARun.prod (K := 8) rfl (v_iFold x0 x1) ⟨rfl, (by repeat first | exact trivial | refine ⟨by decide, by first | rfl | exact trivial | (intro i j; first | rfl | exact getD_no rfl | (dsimp only; split <;> first | rfl | exact getD_no rfl) | exact scl_no (by apply_assumption) _), ?_⟩)⟩ ⟨⟨_, (.tmp rfl), ⟨(Vw.cast (Vw.tre rfl (Nat.le_of_ble_eq_true rfl)) rfl), .int, trivial⟩⟩, ⟨_, (.tmp rfl), (Vw.cast (Vw.tre rfl (Nat.le_of_ble_eq_true rfl)) rfl)⟩, trivial⟩ vfl_ca_30 rfl rfl rfl rfl rfl (Nat.le_of_ble_eq_true rfl) ?_
      refine ARun.pure (PureOp.move rfl (.tmp rfl)) rfl rfl (Nat.le_of_ble_eq_true rfl) ?_
      refine ARun.pure (PureOp.ext3a rfl (.tmp rfl)) rfl rfl (Nat.le_of_ble_eq_true rfl) ?_
      refine ARun.pure (PureOp.ext3b rfl (.tmp rfl)) rfl rfl (Nat.le_of_ble_eq_true rfl) ?_
      refine ARun.pure (PureOp.ext3c rfl (.tmp rfl)) rfl rfl (Nat.le_of_ble_eq_true rfl) ?_
      refine ARun.alloc (id := 9) (l := [.con (.slice none 0 0), .int .i64 0]) (z := (.agg #[.slice none 0 0, .int .i64 0])) rfl (by kernel_rfl) (fun _ _ _ => ⟨_, _, rfl, rfl, ⟨_, _, rfl, rfl, rfl⟩⟩) ⟨rfl, (by repeat first | exact trivial | refine ⟨by decide, by first | rfl | exact trivial | (intro i j; first | rfl | exact getD_no rfl | (dsimp only; split <;> first | rfl | exact getD_no rfl) | exact scl_no (by apply_assumption) _), ?_⟩)⟩ rfl rfl rfl (Nat.le_of_ble_eq_true rfl) ?_
      refine ARun.store rfl (.tmp rfl) (.tmp rfl) (SV.cells_of (by exact ⟨trivial, trivial, trivial⟩)) rfl (Nat.le_of_ble_eq_true rfl) vfl_sz_29_2 rfl rfl ?_
      refine ARun.pure (PureOp.assign rfl (.tmp rfl)) rfl rfl (Nat.le_of_ble_eq_true rfl) ?_
      refine ARun.pure (PureOp.assign rfl (.tmp rfl)) rfl rfl (Nat.le_of_ble_eq_true rfl) ?_
      refine ARun.nil ?_
      refine AW.seq ?_
      refine AW.seq ?_
      refine AW.region ?_
      refine ARun.pure (PureOp.loadPtrAgg rfl (.tmp rfl) vfl_ag_29_2 rfl rfl (Nat.le_of_ble_eq_true rfl) (Nat.le_of_ble_eq_true rfl)) rfl rfl (Nat.le_of_ble_eq_true rfl) ?_
      refine ARun.pure (PureOp.loadPtrAgg rfl (.tmp rfl) vfl_ag_29_2 rfl rfl (Nat.le_of_ble_eq_true rfl) (Nat.le_of_ble_eq_true rfl)) rfl rfl (Nat.le_of_ble_eq_true rfl) ?_
      refine ARun.pure (PureOp.call rfl (v_eqHead ((foldV x0 x1).1) ((foldV x0 x1).1)) ⟨⟨_, (.tmp rfl), ⟨(Vw.cast (Vw.tre rfl (Nat.le_of_ble_eq_true rfl)) rfl), .int, trivial⟩⟩, ⟨_, (.tmp rfl), ⟨(Vw.cast (Vw.tre rfl (Nat.le_of_ble_eq_true rfl)) rfl), .int, trivial⟩⟩, trivial⟩ vfl_ca_13 trivial) rfl rfl (Nat.le_of_ble_eq_true rfl) ?_
      refine ARun.pure (PureOp.not rfl (.tmp rfl)) rfl rfl (Nat.le_of_ble_eq_true rfl) ?_
      refine ARun.pure (PureOp.move rfl (.tmp rfl)) rfl rfl (Nat.le_of_ble_eq_true rfl) ?_
      refine ARun.gpure (want := false) (.tf rfl) (fun hg5 => PureOp.move rfl (.tmp rfl)) rfl rfl (Nat.le_of_ble_eq_true rfl) rfl (Nat.le_of_ble_eq_true rfl) ?_
      refine ARun.gpure (want := false) (.tf rfl) (fun hg6 => PureOp.move rfl (.tmp rfl)) rfl rfl (Nat.le_of_ble_eq_true rfl) rfl (Nat.le_of_ble_eq_true rfl) ?_
      refine ARun.gpure (want := false) (.tf rfl) (fun hg7 => PureOp.call rfl (v_eqIntS ((foldV x0 x1).2.1) ((foldV x0 x1).2.1)) ⟨⟨_, (.gtmp rfl hg7), (Vw.cast (Vw.tre rfl (Nat.le_of_ble_eq_true rfl)) rfl)⟩, ⟨_, (.gtmp rfl hg7), (Vw.cast (Vw.tre rfl (Nat.le_of_ble_eq_true rfl)) rfl)⟩, trivial⟩ vfl_ca_31 trivial) rfl rfl (Nat.le_of_ble_eq_true rfl) rfl (Nat.le_of_ble_eq_true rfl) ?_
      refine ARun.gpure (want := false) (.tf rfl) (fun hg8 => PureOp.not rfl (.gtmp rfl hg8)) rfl rfl (Nat.le_of_ble_eq_true rfl) rfl (Nat.le_of_ble_eq_true rfl) ?_
      refine ARun.pure (PureOp.pick rfl (.tmp rfl) (fun _ => .bool) (fun hp10 => .gtmp rfl (not_of hp10))) rfl rfl (Nat.le_of_ble_eq_true rfl) ?_
      refine ARun.pure (PureOp.move rfl (.tmp rfl)) rfl rfl (Nat.le_of_ble_eq_true rfl) ?_
      refine ARun.gpure (want := false) (.tf rfl) (fun hg11 => PureOp.move rfl (.tmp rfl)) rfl rfl (Nat.le_of_ble_eq_true rfl) rfl (Nat.le_of_ble_eq_true rfl) ?_
      refine ARun.gpure (want := false) (.tf rfl) (fun hg12 => PureOp.move rfl (.tmp rfl)) rfl rfl (Nat.le_of_ble_eq_true rfl) rfl (Nat.le_of_ble_eq_true rfl) ?_
      refine ARun.gpure (want := false) (.tf rfl) (fun hg13 => PureOp.boolNe rfl (.gtmp rfl hg13) (.gtmp rfl hg13) vfl_bo_4) rfl rfl (Nat.le_of_ble_eq_true rfl) rfl (Nat.le_of_ble_eq_true rfl) ?_
      refine ARun.pure (PureOp.pick rfl (.tmp rfl) (fun _ => .bool) (fun hp15 => .gtmp rfl (not_of hp15))) rfl rfl (Nat.le_of_ble_eq_true rfl) ?_
      refine ARun.nil ?_
      refine AW.cond (.tmp rfl) (fun hb16 => ?_) (fun hb16 => ?_)
      · have _u := True.intro
        exact absurd (show (cond (cond (!(decide (((foldV x0 x1).1) = ((foldV x0 x1).1)))) true (!(decide ((foldV x0 x1).2.1 = (foldV x0 x1).2.1)))) true (!(((foldV x0 x1).2.2) == ((foldV x0 x1).2.2)))) = false by first | (simp; done) | (rw [cast_neg]; simp; done)) (by rw [hb16]; simp)
        --end
      · have _u := True.intro
        refine AW.skip ?_
        refine AW.seq ?_
        refine AW.seq ?_
        refine AW.any (by kernel_rfl) (by kernel_rfl) ?_
        refine AD.pure (PureOp.loadPtrAgg rfl (.tmp rfl) vfl_ag_29_2 rfl rfl (Nat.le_of_ble_eq_true rfl) (Nat.le_of_ble_eq_true rfl)) rfl rfl (Nat.le_of_ble_eq_true rfl) ?_
        refine AD.pure (PureOp.loadPtrAgg rfl (.tmp rfl) vfl_ag_24_2 rfl rfl (Nat.le_of_ble_eq_true rfl) (Nat.le_of_ble_eq_true rfl)) rfl rfl (Nat.le_of_ble_eq_true rfl) ?_
        refine AD.fresh (FreshOp.callS rfl (FnT.toF (v_toHead x0 (Small.mk (by omega)))) ⟨⟨_, (.tmp rfl), ⟨.lst, .int, trivial⟩⟩, trivial⟩ vfl_ca_11 rfl) rfl rfl (Nat.le_of_ble_eq_true rfl) ?_
        refine AD.pure (PureOp.call rfl (v_eqHead x0 x0) ⟨⟨_, (.tmp rfl), ⟨(Vw.cast (Vw.tre rfl (Nat.le_of_ble_eq_true rfl)) rfl), .int, trivial⟩⟩, ⟨_, (.tmp rfl), ⟨.frs, .int, trivial⟩⟩, trivial⟩ vfl_ca_13 trivial) rfl rfl (Nat.le_of_ble_eq_true rfl) ?_
        refine AD.pure (PureOp.not rfl (.tmp rfl)) rfl rfl (Nat.le_of_ble_eq_true rfl) ?_
        refine AD.nil ?_
        refine AW.cond (.tmp rfl) (fun hb17 => ?_) (fun hb17 => ?_)
        · have _u := True.intro
          replace hb17 := of_decide_eq_false (of_not hb17)
          exact absurd rfl hb17
          --end
        · have _u := True.intro
          replace hb17 := of_decide_eq_true (not_f hb17)
          refine AW.skip ?_
          refine AW.seq ?_
          refine AW.seq ?_
          refine AW.region ?_
          refine ARun.pure (PureOp.move rfl (.tmp rfl)) rfl rfl (Nat.le_of_ble_eq_true rfl) ?_
          refine ARun.pure (PureOp.move rfl (.tmp rfl)) rfl rfl (Nat.le_of_ble_eq_true rfl) ?_
          refine ARun.prod (K := 10) rfl (v_toSayS x1 (Small.mk (by omega))) ⟨rfl, (by repeat first | exact trivial | refine ⟨by decide, by first | rfl | exact trivial | (intro i j; first | rfl | exact getD_no rfl | (dsimp only; split <;> first | rfl | exact getD_no rfl) | exact scl_no (by apply_assumption) _), ?_⟩)⟩ ⟨⟨_, (.tmp rfl), .lst⟩, trivial⟩ vfl_ca_29 rfl rfl rfl rfl rfl (Nat.le_of_ble_eq_true rfl) ?_
          refine ARun.pure (PureOp.call rfl (v_eqSayS x1 x1) ⟨⟨_, (.tmp rfl), (Vw.cast (Vw.tre rfl (Nat.le_of_ble_eq_true rfl)) rfl)⟩, ⟨_, (.tmp rfl), (Vw.cast (Vw.tre rfl (Nat.le_of_ble_eq_true rfl)) rfl)⟩, trivial⟩ vfl_ca_32 trivial) rfl rfl (Nat.le_of_ble_eq_true rfl) ?_
          refine ARun.pure (PureOp.not rfl (.tmp rfl)) rfl rfl (Nat.le_of_ble_eq_true rfl) ?_
          refine ARun.nil ?_
          refine AW.cond (.tmp rfl) (fun hb18 => ?_) (fun hb18 => ?_)
          · have _u := True.intro
            replace hb18 := of_decide_eq_false (of_not hb18)
            exact absurd rfl hb18
            --end
          · have _u := True.intro
            replace hb18 := of_decide_eq_true (not_f hb18)
            refine AW.skip ?_
            refine AW.seq ?_
            refine AW.region ?_
            refine ARun.pure (PureOp.assign rfl .int) rfl rfl (Nat.le_of_ble_eq_true rfl) ?_
            refine ARun.nil ?_
            refine AW.seq ?_
            refine AW.region ?_
            refine ARun.pure (PureOp.loadPtrAgg rfl (.tmp rfl) vfl_ag_29_2 rfl rfl (Nat.le_of_ble_eq_true rfl) (Nat.le_of_ble_eq_true rfl)) rfl rfl (Nat.le_of_ble_eq_true rfl) ?_
            refine ARun.pure (PureOp.move rfl (.tmp rfl)) rfl rfl (Nat.le_of_ble_eq_true rfl) ?_
            refine ARun.mark (id := 5) (q0 := 0) (X' := fun p => ([.lst 2 (((mvHead x0 1).rows).length) (fun i0 j0 => ([.str ((((mvHead x0 1).rows).getD i0 (default : GRow)).name), .lst 2 (((((mvHead x0 1).rows).getD i0 (default : GRow)).samples).length) (fun i1 j1 => ([.int .i64 ((((((mvHead x0 1).rows).getD i0 (default : GRow)).samples).getD i1 (default : GSample)).at_), .int .i64 ((((((mvHead x0 1).rows).getD i0 (default : GRow)).samples).getD i1 (default : GSample)).value)] : List AV).getD j1 (.con undef))] : List AV).getD j0 (.con undef)), .int .i64 ((mvHead x0 1).offset)] : List AV).getD p (.con undef)) rfl (m_Head x0 1 ⟨by omega, by omega⟩) vfl_ca_17 trivial (.tmp rfl) rfl rfl rfl (Nat.le_of_ble_eq_true rfl) (fun p hp _ => match p, hp with | 0, _ => rfl | 1, _ => rfl | _ + 2, h => absurd h (by simp [SV.leaves])) rfl rfl (fun p hp _ => match p, hp with | 0, _ => rfl | 1, _ => rfl | _ + 2, h => absurd h (by simp [SV.leaves])) (fun q hq hne => match q, hq, hne with | 0, _, h => absurd rfl (h 0 (Nat.le_of_ble_eq_true rfl) rfl) | 1, _, _ => rfl | _ + 2, h, _ => absurd (show _ < 2 from h) (by omega)) ⟨(.tmp rfl), trivial, trivial⟩ rfl rfl (Nat.le_of_ble_eq_true rfl) ?_
            refine ARun.pure (PureOp.assign rfl (.tmp rfl)) rfl rfl (Nat.le_of_ble_eq_true rfl) ?_
            refine ARun.nil ?_
            refine AW.seq ?_
            refine AW.region ?_
            refine ARun.pure (PureOp.move rfl (.tmp rfl)) rfl rfl (Nat.le_of_ble_eq_true rfl) ?_
            refine ARun.pure (PureOp.move rfl (.tmp rfl)) rfl rfl (Nat.le_of_ble_eq_true rfl) ?_
            refine ARun.mark (id := 7) (q0 := 0) (X' := fun q => if q = 0 then .lst 3 ((mkL crSay mrSay x1 (1 + cvHead x0)).length) (fun i0 j0 => ([.str (((mkL crSay mrSay x1 (1 + cvHead x0)).getD i0 (default : GSay)).name), .int .i64 (((mkL crSay mrSay x1 (1 + cvHead x0)).getD i0 (default : GSay)).at_), .int .i64 (((mkL crSay mrSay x1 (1 + cvHead x0)).getD i0 (default : GSay)).value)] : List AV).getD j0 (.con undef)) else (fun p => ([.lst 3 x1.length (fun i0 j0 => ([.str ((x1.getD i0 (default : GSay)).name), .int .i64 ((x1.getD i0 (default : GSay)).at_), .int .i64 ((x1.getD i0 (default : GSay)).value)] : List AV).getD j0 (.con undef))] : List AV).getD p (.con undef)) q) rfl (m_SayS x1 (1 + cvHead x0) ⟨by omega, by omega⟩) vfl_ca_33 trivial (.tmp rfl) rfl rfl rfl (Nat.le_of_ble_eq_true rfl) (fun p hp _ => match p, hp with | 0, _ => rfl | _ + 1, h => absurd h (by simp [SV.leaves])) rfl trivial (fun p hp _ => match p, hp with | 0, _ => if_pos rfl | _ + 1, h => absurd h (by simp [SV.leaves])) (fun q _ hne => if_neg (fun e => hne 0 (Nat.zero_lt_one) rfl e)) ⟨(.tmp rfl), trivial, trivial⟩ rfl rfl (Nat.le_of_ble_eq_true rfl) ?_
            refine ARun.pure (PureOp.assign rfl (.tmp rfl)) rfl rfl (Nat.le_of_ble_eq_true rfl) ?_
            refine ARun.nil ?_
            refine AW.seq ?_
            refine AW.seq ?_
            refine AW.region ?_
            refine ARun.pure (PureOp.move rfl (.tmp rfl)) rfl rfl (Nat.le_of_ble_eq_true rfl) ?_
            refine ARun.pure (PureOp.intOp rfl (.tmp rfl) .int rfl) rfl rfl (Nat.le_of_ble_eq_true rfl) ?_
            refine ARun.pure (PureOp.move rfl (.tmp rfl)) rfl rfl (Nat.le_of_ble_eq_true rfl) ?_
            refine ARun.gpure (want := false) (.tf rfl) (fun hg19 => PureOp.loadPtrAgg rfl (.tmp rfl) vfl_ag_29_2 rfl rfl (Nat.le_of_ble_eq_true rfl) (Nat.le_of_ble_eq_true rfl)) rfl rfl (Nat.le_of_ble_eq_true rfl) rfl (Nat.le_of_ble_eq_true rfl) ?_
            refine ARun.gpure (want := false) (.tf rfl) (fun hg20 => PureOp.loadPtrAgg rfl (.tmp rfl) vfl_ag_29_2 rfl rfl (Nat.le_of_ble_eq_true rfl) (Nat.le_of_ble_eq_true rfl)) rfl rfl (Nat.le_of_ble_eq_true rfl) rfl (Nat.le_of_ble_eq_true rfl) ?_
            refine ARun.gpure (want := false) (.tf rfl) (fun hg21 => PureOp.call rfl (v_eqHead ((foldV x0 x1).1) ((foldV x0 x1).1)) ⟨⟨_, (.gtmp rfl hg21), ⟨(Vw.cast (Vw.tre rfl (Nat.le_of_ble_eq_true rfl)) rfl), .int, trivial⟩⟩, ⟨_, (.gtmp rfl hg21), ⟨(Vw.cast (Vw.tre rfl (Nat.le_of_ble_eq_true rfl)) rfl), .int, trivial⟩⟩, trivial⟩ vfl_ca_13 trivial) rfl rfl (Nat.le_of_ble_eq_true rfl) rfl (Nat.le_of_ble_eq_true rfl) ?_
            refine ARun.gpure (want := false) (.tf rfl) (fun hg22 => PureOp.not rfl (.gtmp rfl hg22)) rfl rfl (Nat.le_of_ble_eq_true rfl) rfl (Nat.le_of_ble_eq_true rfl) ?_
            refine ARun.pure (PureOp.pick rfl (.tmp rfl) (fun _ => .bool) (fun hp24 => .gtmp rfl (not_of hp24))) rfl rfl (Nat.le_of_ble_eq_true rfl) ?_
            refine ARun.pure (PureOp.move rfl (.tmp rfl)) rfl rfl (Nat.le_of_ble_eq_true rfl) ?_
            refine ARun.gpure (want := false) (.tf rfl) (fun hg25 => PureOp.move rfl (.tmp rfl)) rfl rfl (Nat.le_of_ble_eq_true rfl) rfl (Nat.le_of_ble_eq_true rfl) ?_
            refine ARun.gpure (want := false) (.tf rfl) (fun hg26 => PureOp.move rfl (.tmp rfl)) rfl rfl (Nat.le_of_ble_eq_true rfl) rfl (Nat.le_of_ble_eq_true rfl) ?_
            refine ARun.gpure (want := false) (.tf rfl) (fun hg27 => PureOp.call rfl (v_eqIntS ((foldV x0 x1).2.1) ((foldV x0 x1).2.1)) ⟨⟨_, (.gtmp rfl hg27), (Vw.cast (Vw.tre rfl (Nat.le_of_ble_eq_true rfl)) rfl)⟩, ⟨_, (.gtmp rfl hg27), (Vw.cast (Vw.tre rfl (Nat.le_of_ble_eq_true rfl)) rfl)⟩, trivial⟩ vfl_ca_31 trivial) rfl rfl (Nat.le_of_ble_eq_true rfl) rfl (Nat.le_of_ble_eq_true rfl) ?_
            refine ARun.gpure (want := false) (.tf rfl) (fun hg28 => PureOp.not rfl (.gtmp rfl hg28)) rfl rfl (Nat.le_of_ble_eq_true rfl) rfl (Nat.le_of_ble_eq_true rfl) ?_
            refine ARun.pure (PureOp.pick rfl (.tmp rfl) (fun _ => .bool) (fun hp30 => .gtmp rfl (not_of hp30))) rfl rfl (Nat.le_of_ble_eq_true rfl) ?_
            refine ARun.pure (PureOp.move rfl (.tmp rfl)) rfl rfl (Nat.le_of_ble_eq_true rfl) ?_
            refine ARun.gpure (want := false) (.tf rfl) (fun hg31 => PureOp.move rfl (.tmp rfl)) rfl rfl (Nat.le_of_ble_eq_true rfl) rfl (Nat.le_of_ble_eq_true rfl) ?_
            refine ARun.gpure (want := false) (.tf rfl) (fun hg32 => PureOp.move rfl (.tmp rfl)) rfl rfl (Nat.le_of_ble_eq_true rfl) rfl (Nat.le_of_ble_eq_true rfl) ?_
            refine ARun.gpure (want := false) (.tf rfl) (fun hg33 => PureOp.boolNe rfl (.gtmp rfl hg33) (.gtmp rfl hg33) vfl_bo_4) rfl rfl (Nat.le_of_ble_eq_true rfl) rfl (Nat.le_of_ble_eq_true rfl) ?_
            refine ARun.pure (PureOp.pick rfl (.tmp rfl) (fun _ => .bool) (fun hp35 => .gtmp rfl (not_of hp35))) rfl rfl (Nat.le_of_ble_eq_true rfl) ?_
            refine ARun.nil ?_
            refine AW.cond (.tmp rfl) (fun hb36 => ?_) (fun hb36 => ?_)
            · have _u := True.intro
              exact absurd (show (cond (cond (cond (decide (((1 + cvHead x0 + ctL crSay x1 : Nat) : Int) < 0)) true (!(decide (((foldV x0 x1).1) = ((foldV x0 x1).1))))) true (!(decide ((foldV x0 x1).2.1 = (foldV x0 x1).2.1)))) true (!(((foldV x0 x1).2.2) == ((foldV x0 x1).2.2)))) = false by first | (simp; done) | (rw [cast_neg]; simp; done)) (by rw [hb36]; simp)
              --end
            · have _u := True.intro
              refine AW.skip ?_
              refine AW.seq ?_
              refine AW.region ?_
              refine ARun.pure (PureOp.assign rfl .int) rfl rfl (Nat.le_of_ble_eq_true rfl) ?_
              refine ARun.nil ?_
              refine AW.seq ?_
              refine AW.region ?_
              refine ARun.pure (PureOp.loadPtrAgg rfl (.tmp rfl) vfl_ag_29_2 rfl rfl (Nat.le_of_ble_eq_true rfl) (Nat.le_of_ble_eq_true rfl)) rfl rfl (Nat.le_of_ble_eq_true rfl) ?_
              refine ARun.pure (PureOp.move rfl (.tmp rfl)) rfl rfl (Nat.le_of_ble_eq_true rfl) ?_
              refine ARun.mark (id := 8) (q0 := 0) (X' := fun q => if q < 2 then (fun p => ([.lst 2 (((mvHead ((foldV x0 x1).1) 1).rows).length) (fun i0 j0 => ([.str ((((mvHead ((foldV x0 x1).1) 1).rows).getD i0 (default : GRow)).name), .lst 2 (((((mvHead ((foldV x0 x1).1) 1).rows).getD i0 (default : GRow)).samples).length) (fun i1 j1 => ([.int .i64 ((((((mvHead ((foldV x0 x1).1) 1).rows).getD i0 (default : GRow)).samples).getD i1 (default : GSample)).at_), .int .i64 ((((((mvHead ((foldV x0 x1).1) 1).rows).getD i0 (default : GRow)).samples).getD i1 (default : GSample)).value)] : List AV).getD j1 (.con undef))] : List AV).getD j0 (.con undef)), .int .i64 ((mvHead ((foldV x0 x1).1) 1).offset)] : List AV).getD p (.con undef)) q else (fun p => ([.lst 2 ((((foldV x0 x1).1).rows).length) (fun i0 j0 => ([.str (((((foldV x0 x1).1).rows).getD i0 (default : GRow)).name), .lst 2 ((((((foldV x0 x1).1).rows).getD i0 (default : GRow)).samples).length) (fun i1 j1 => ([.int .i64 (((((((foldV x0 x1).1).rows).getD i0 (default : GRow)).samples).getD i1 (default : GSample)).at_), .int .i64 (((((((foldV x0 x1).1).rows).getD i0 (default : GRow)).samples).getD i1 (default : GSample)).value)] : List AV).getD j1 (.con undef))] : List AV).getD j0 (.con undef)), .int .i64 (((foldV x0 x1).1).offset), .lst 1 (((foldV x0 x1).2.1).length) (fun i0 _ => .int .i64 (((foldV x0 x1).2.1).getD i0 0)), .bool ((foldV x0 x1).2.2)] : List AV).getD p (.con undef)) q) rfl (m_Head ((foldV x0 x1).1) 1 ⟨by omega, by omega⟩) vfl_ca_17 trivial (.tmp rfl) rfl rfl rfl (Nat.le_of_ble_eq_true rfl) (fun p hp _ => match p, hp with | 0, _ => rfl | 1, _ => rfl | _ + 2, h => absurd h (by simp [SV.leaves])) rfl rfl (fun p hp _ => match p, hp with | 0, _ => rfl | 1, _ => rfl | _ + 2, h => absurd h (by simp [SV.leaves])) (fun q hq hne => match q, hq, hne with | 0, _, h => absurd rfl (h 0 (Nat.le_of_ble_eq_true rfl) rfl) | 1, _, _ => rfl | q + 2, _, _ => if_neg (by omega)) ⟨(.tmp rfl), trivial, trivial⟩ rfl rfl (Nat.le_of_ble_eq_true rfl) ?_
              refine ARun.pure (PureOp.assign rfl (.tmp rfl)) rfl rfl (Nat.le_of_ble_eq_true rfl) ?_
              refine ARun.nil ?_
              refine AW.seq ?_
              refine AW.region ?_
              refine ARun.pure (PureOp.move rfl (.tmp rfl)) rfl rfl (Nat.le_of_ble_eq_true rfl) ?_
              refine ARun.pure (PureOp.move rfl (.tmp rfl)) rfl rfl (Nat.le_of_ble_eq_true rfl) ?_
              refine ARun.mark (id := 8) (q0 := 2) (X' := fun q => if q = 2 then .lst 1 ((mkL c1 mkI ((foldV x0 x1).2.1) (1 + cvHead ((foldV x0 x1).1))).length) (fun i0 _ => .int .i64 ((mkL c1 mkI ((foldV x0 x1).2.1) (1 + cvHead ((foldV x0 x1).1))).getD i0 0)) else (fun q => if q < 2 then (fun p => ([.lst 2 (((mvHead ((foldV x0 x1).1) 1).rows).length) (fun i0 j0 => ([.str ((((mvHead ((foldV x0 x1).1) 1).rows).getD i0 (default : GRow)).name), .lst 2 (((((mvHead ((foldV x0 x1).1) 1).rows).getD i0 (default : GRow)).samples).length) (fun i1 j1 => ([.int .i64 ((((((mvHead ((foldV x0 x1).1) 1).rows).getD i0 (default : GRow)).samples).getD i1 (default : GSample)).at_), .int .i64 ((((((mvHead ((foldV x0 x1).1) 1).rows).getD i0 (default : GRow)).samples).getD i1 (default : GSample)).value)] : List AV).getD j1 (.con undef))] : List AV).getD j0 (.con undef)), .int .i64 ((mvHead ((foldV x0 x1).1) 1).offset)] : List AV).getD p (.con undef)) q else (fun p => ([.lst 2 ((((foldV x0 x1).1).rows).length) (fun i0 j0 => ([.str (((((foldV x0 x1).1).rows).getD i0 (default : GRow)).name), .lst 2 ((((((foldV x0 x1).1).rows).getD i0 (default : GRow)).samples).length) (fun i1 j1 => ([.int .i64 (((((((foldV x0 x1).1).rows).getD i0 (default : GRow)).samples).getD i1 (default : GSample)).at_), .int .i64 (((((((foldV x0 x1).1).rows).getD i0 (default : GRow)).samples).getD i1 (default : GSample)).value)] : List AV).getD j1 (.con undef))] : List AV).getD j0 (.con undef)), .int .i64 (((foldV x0 x1).1).offset), .lst 1 (((foldV x0 x1).2.1).length) (fun i0 _ => .int .i64 (((foldV x0 x1).2.1).getD i0 0)), .bool ((foldV x0 x1).2.2)] : List AV).getD p (.con undef)) q) q) rfl (m_IntS ((foldV x0 x1).2.1) (1 + cvHead ((foldV x0 x1).1)) ⟨by omega, by omega⟩) vfl_ca_34 trivial (.tmp rfl) rfl rfl rfl (Nat.le_of_ble_eq_true rfl) (fun p hp _ => match p, hp with | 0, _ => rfl | _ + 1, h => absurd h (by simp [SV.leaves])) rfl trivial (fun p hp _ => match p, hp with | 0, _ => if_pos rfl | _ + 1, h => absurd h (by simp [SV.leaves])) (fun q _ hne => if_neg (fun e => hne 0 (Nat.zero_lt_one) rfl e)) ⟨(.tmp rfl), trivial, trivial⟩ rfl rfl (Nat.le_of_ble_eq_true rfl) ?_
              refine ARun.pure (PureOp.assign rfl (.tmp rfl)) rfl rfl (Nat.le_of_ble_eq_true rfl) ?_
              refine ARun.nil ?_
              refine AW.seq ?_
              refine AW.region ?_
              refine ARun.pure (PureOp.assign rfl .int) rfl rfl (Nat.le_of_ble_eq_true rfl) ?_
              refine ARun.nil ?_
              refine AW.seq ?_
              refine AW.region ?_
              refine ARun.pure (PureOp.loadPtrAgg rfl (.tmp rfl) vfl_ag_29_2 rfl rfl (Nat.le_of_ble_eq_true rfl) (Nat.le_of_ble_eq_true rfl)) rfl rfl (Nat.le_of_ble_eq_true rfl) ?_
              refine ARun.pure (PureOp.move rfl (.tmp rfl)) rfl rfl (Nat.le_of_ble_eq_true rfl) ?_
              refine ARun.pure (PureOp.call rfl (h_Head ((foldV x0 x1).1) (mvHead ((foldV x0 x1).1) 1) 1 rfl ⟨by omega, by omega⟩) ⟨⟨_, (.tmp rfl), ⟨(Vw.cast (Vw.tre rfl (Nat.le_of_ble_eq_true rfl)) rfl), .int, trivial⟩⟩, ⟨_, (.tmp rfl), .int⟩, trivial⟩ vfl_ca_22 trivial) rfl rfl (Nat.le_of_ble_eq_true rfl) ?_
              refine ARun.pure (PureOp.assign rfl (.tmp rfl)) rfl rfl (Nat.le_of_ble_eq_true rfl) ?_
              refine ARun.nil ?_
              refine AW.seq ?_
              refine AW.seq ?_
              refine AW.region ?_
              refine ARun.pure (PureOp.move rfl (.tmp rfl)) rfl rfl (Nat.le_of_ble_eq_true rfl) ?_
              refine ARun.pure (PureOp.intOp rfl (.tmp rfl) .int rfl) rfl rfl (Nat.le_of_ble_eq_true rfl) ?_
              refine ARun.nil ?_
              refine AW.cond (.tmp rfl) (fun hb37 => ?_) (fun hb37 => ?_)
              · have _u := True.intro
                replace hb37 := of_decide_eq_true hb37
                exact absurd hb37 (by omega)
                --end
              · have _u := True.intro
                replace hb37 := of_decide_eq_false hb37
                refine AW.skip ?_
                refine AW.seq ?_
                refine AW.region ?_
                refine ARun.pure (PureOp.move rfl (.tmp rfl)) rfl rfl (Nat.le_of_ble_eq_true rfl) ?_
                refine ARun.pure (PureOp.move rfl (.tmp rfl)) rfl rfl (Nat.le_of_ble_eq_true rfl) ?_
                refine ARun.pure (PureOp.call rfl (h_IntS ((foldV x0 x1).2.1) (mkL c1 mkI ((foldV x0 x1).2.1) (1 + cvHead ((foldV x0 x1).1))) (1 + cvHead ((foldV x0 x1).1)) rfl ⟨by omega, by omega⟩) ⟨⟨_, (.tmp rfl), (Vw.cast (Vw.tre rfl (Nat.le_of_ble_eq_true rfl)) rfl)⟩, ⟨_, (.tmp rfl), .int⟩, trivial⟩ vfl_ca_35 trivial) rfl rfl (Nat.le_of_ble_eq_true rfl) ?_
                refine ARun.pure (PureOp.assign rfl (.tmp rfl)) rfl rfl (Nat.le_of_ble_eq_true rfl) ?_
                refine ARun.nil ?_
                refine AW.seq ?_
                refine AW.seq ?_
                refine AW.region ?_
                refine ARun.pure (PureOp.move rfl (.tmp rfl)) rfl rfl (Nat.le_of_ble_eq_true rfl) ?_
                refine ARun.pure (PureOp.intOp rfl (.tmp rfl) .int rfl) rfl rfl (Nat.le_of_ble_eq_true rfl) ?_
                refine ARun.nil ?_
                refine AW.cond (.tmp rfl) (fun hb38 => ?_) (fun hb38 => ?_)
                · have _u := True.intro
                  replace hb38 := of_decide_eq_true hb38
                  exact absurd hb38 (by omega)
                  --end
                · have _u := True.intro
                  replace hb38 := of_decide_eq_false hb38
                  refine AW.skip ?_
                  refine AW.seq ?_
                  refine AW.seq ?_
                  refine AW.region ?_
                  refine ARun.pure (PureOp.move rfl (.tmp rfl)) rfl rfl (Nat.le_of_ble_eq_true rfl) ?_
                  refine ARun.pure (PureOp.move rfl (.tmp rfl)) rfl rfl (Nat.le_of_ble_eq_true rfl) ?_
                  refine ARun.pure (PureOp.intOp rfl (.tmp rfl) (.tmp rfl) rfl) rfl rfl (Nat.le_of_ble_eq_true rfl) ?_
                  refine ARun.nil ?_
                  refine AW.cond (.tmp rfl) (fun hb39 => ?_) (fun hb39 => ?_)
                  · have _u := True.intro
                    replace hb39 := of_decide_eq_false (of_not hb39)
                    exact absurd rfl hb39
                    --end
                  · have _u := True.intro
                    replace hb39 := of_decide_eq_true (not_f hb39)
                    refine AW.skip ?_
                    refine AW.seq ?_
                    refine AW.region ?_
                    refine ARun.pure (PureOp.loadPtrAgg rfl (.tmp rfl) vfl_ag_24_2 rfl rfl (Nat.le_of_ble_eq_true rfl) (Nat.le_of_ble_eq_true rfl)) rfl rfl (Nat.le_of_ble_eq_true rfl) ?_
                    refine ARun.prod (K := 11) rfl (v_toHead x0 (Small.mk (by omega))) ⟨rfl, (by repeat first | exact trivial | refine ⟨by decide, by first | rfl | exact trivial | (intro i j; first | rfl | exact getD_no rfl | (dsimp only; split <;> first | rfl | exact getD_no rfl) | exact scl_no (by apply_assumption) _), ?_⟩)⟩ ⟨⟨_, (.tmp rfl), ⟨.lst, .int, trivial⟩⟩, trivial⟩ vfl_ca_11 rfl rfl rfl rfl rfl (Nat.le_of_ble_eq_true rfl) ?_
                    refine ARun.pure (PureOp.move rfl (.tmp rfl)) rfl rfl (Nat.le_of_ble_eq_true rfl) ?_
                    refine ARun.prod (K := 12) rfl (v_toSayS x1 (Small.mk (by omega))) ⟨rfl, (by repeat first | exact trivial | refine ⟨by decide, by first | rfl | exact trivial | (intro i j; first | rfl | exact getD_no rfl | (dsimp only; split <;> first | rfl | exact getD_no rfl) | exact scl_no (by apply_assumption) _), ?_⟩)⟩ ⟨⟨_, (.tmp rfl), .lst⟩, trivial⟩ vfl_ca_29 rfl rfl rfl rfl rfl (Nat.le_of_ble_eq_true rfl) ?_
                    refine ARun.prod (K := 13) rfl (v_iFold x0 x1) ⟨rfl, (by repeat first | exact trivial | refine ⟨by decide, by first | rfl | exact trivial | (intro i j; first | rfl | exact getD_no rfl | (dsimp only; split <;> first | rfl | exact getD_no rfl) | exact scl_no (by apply_assumption) _), ?_⟩)⟩ ⟨⟨_, (.tmp rfl), ⟨(Vw.cast (Vw.tre rfl (Nat.le_of_ble_eq_true rfl)) rfl), .int, trivial⟩⟩, ⟨_, (.tmp rfl), (Vw.cast (Vw.tre rfl (Nat.le_of_ble_eq_true rfl)) rfl)⟩, trivial⟩ vfl_ca_30 rfl rfl rfl rfl rfl (Nat.le_of_ble_eq_true rfl) ?_
                    refine ARun.pure (PureOp.move rfl (.tmp rfl)) rfl rfl (Nat.le_of_ble_eq_true rfl) ?_
                    refine ARun.pure (PureOp.ext3a rfl (.tmp rfl)) rfl rfl (Nat.le_of_ble_eq_true rfl) ?_
                    refine ARun.pure (PureOp.ext3b rfl (.tmp rfl)) rfl rfl (Nat.le_of_ble_eq_true rfl) ?_
                    refine ARun.pure (PureOp.ext3c rfl (.tmp rfl)) rfl rfl (Nat.le_of_ble_eq_true rfl) ?_
                    refine ARun.alloc (id := 14) (l := [.con (.slice none 0 0), .int .i64 0]) (z := (.agg #[.slice none 0 0, .int .i64 0])) rfl (by kernel_rfl) (fun _ _ _ => ⟨_, _, rfl, rfl, ⟨_, _, rfl, rfl, rfl⟩⟩) ⟨rfl, (by repeat first | exact trivial | refine ⟨by decide, by first | rfl | exact trivial | (intro i j; first | rfl | exact getD_no rfl | (dsimp only; split <;> first | rfl | exact getD_no rfl) | exact scl_no (by apply_assumption) _), ?_⟩)⟩ rfl rfl rfl (Nat.le_of_ble_eq_true rfl) ?_
                    refine ARun.store rfl (.tmp rfl) (.tmp rfl) (SV.cells_of (by exact ⟨trivial, trivial, trivial⟩)) rfl (Nat.le_of_ble_eq_true rfl) vfl_sz_29_2 rfl rfl ?_
                    refine ARun.pure (PureOp.assign rfl (.tmp rfl)) rfl rfl (Nat.le_of_ble_eq_true rfl) ?_
                    refine ARun.pure (PureOp.assign rfl (.tmp rfl)) rfl rfl (Nat.le_of_ble_eq_true rfl) ?_
                    refine ARun.nil ?_
                    refine AW.seq ?_
                    refine AW.seq ?_
                    refine AW.region ?_
                    refine ARun.pure (PureOp.loadPtrAgg rfl (.tmp rfl) vfl_ag_29_2 rfl rfl (Nat.le_of_ble_eq_true rfl) (Nat.le_of_ble_eq_true rfl)) rfl rfl (Nat.le_of_ble_eq_true rfl) ?_
                    refine ARun.pure (PureOp.loadPtrAgg rfl (.tmp rfl) vfl_ag_29_2 rfl rfl (Nat.le_of_ble_eq_true rfl) (Nat.le_of_ble_eq_true rfl)) rfl rfl (Nat.le_of_ble_eq_true rfl) ?_
                    refine ARun.pure (PureOp.call rfl (v_eqHead ((foldV x0 x1).1) ((foldV x0 x1).1)) ⟨⟨_, (.tmp rfl), ⟨(Vw.cast (Vw.tre rfl (Nat.le_of_ble_eq_true rfl)) rfl), .int, trivial⟩⟩, ⟨_, (.tmp rfl), ⟨(Vw.cast (Vw.tre rfl (Nat.le_of_ble_eq_true rfl)) rfl), .int, trivial⟩⟩, trivial⟩ vfl_ca_13 trivial) rfl rfl (Nat.le_of_ble_eq_true rfl) ?_
                    refine ARun.pure (PureOp.not rfl (.tmp rfl)) rfl rfl (Nat.le_of_ble_eq_true rfl) ?_
                    refine ARun.pure (PureOp.move rfl (.tmp rfl)) rfl rfl (Nat.le_of_ble_eq_true rfl) ?_
                    refine ARun.gpure (want := false) (.tf rfl) (fun hg40 => PureOp.move rfl (.tmp rfl)) rfl rfl (Nat.le_of_ble_eq_true rfl) rfl (Nat.le_of_ble_eq_true rfl) ?_
                    refine ARun.gpure (want := false) (.tf rfl) (fun hg41 => PureOp.move rfl (.tmp rfl)) rfl rfl (Nat.le_of_ble_eq_true rfl) rfl (Nat.le_of_ble_eq_true rfl) ?_
                    refine ARun.gpure (want := false) (.tf rfl) (fun hg42 => PureOp.call rfl (v_eqIntS ((foldV x0 x1).2.1) ((foldV x0 x1).2.1)) ⟨⟨_, (.gtmp rfl hg42), (Vw.cast (Vw.tre rfl (Nat.le_of_ble_eq_true rfl)) rfl)⟩, ⟨_, (.gtmp rfl hg42), (Vw.cast (Vw.tre rfl (Nat.le_of_ble_eq_true rfl)) rfl)⟩, trivial⟩ vfl_ca_31 trivial) rfl rfl (Nat.le_of_ble_eq_true rfl) rfl (Nat.le_of_ble_eq_true rfl) ?_
                    refine ARun.gpure (want := false) (.tf rfl) (fun hg43 => PureOp.not rfl (.gtmp rfl hg43)) rfl rfl (Nat.le_of_ble_eq_true rfl) rfl (Nat.le_of_ble_eq_true rfl) ?_
                    refine ARun.pure (PureOp.pick rfl (.tmp rfl) (fun _ => .bool) (fun hp45 => .gtmp rfl (not_of hp45))) rfl rfl (Nat.le_of_ble_eq_true rfl) ?_
                    refine ARun.pure (PureOp.move rfl (.tmp rfl)) rfl rfl (Nat.le_of_ble_eq_true rfl) ?_
                    refine ARun.gpure (want := false) (.tf rfl) (fun hg46 => PureOp.move rfl (.tmp rfl)) rfl rfl (Nat.le_of_ble_eq_true rfl) rfl (Nat.le_of_ble_eq_true rfl) ?_
                    refine ARun.gpure (want := false) (.tf rfl) (fun hg47 => PureOp.move rfl (.tmp rfl)) rfl rfl (Nat.le_of_ble_eq_true rfl) rfl (Nat.le_of_ble_eq_true rfl) ?_
                    refine ARun.gpure (want := false) (.tf rfl) (fun hg48 => PureOp.boolNe rfl (.gtmp rfl hg48) (.gtmp rfl hg48) vfl_bo_4) rfl rfl (Nat.le_of_ble_eq_true rfl) rfl (Nat.le_of_ble_eq_true rfl) ?_
                    refine ARun.pure (PureOp.pick rfl (.tmp rfl) (fun _ => .bool) (fun hp50 => .gtmp rfl (not_of hp50))) rfl rfl (Nat.le_of_ble_eq_true rfl) ?_
                    refine ARun.nil ?_
                    refine AW.cond (.tmp rfl) (fun hb51 => ?_) (fun hb51 => ?_)
                    · have _u := True.intro
                      exact absurd (show (cond (cond (!(decide (((foldV x0 x1).1) = ((foldV x0 x1).1)))) true (!(decide ((foldV x0 x1).2.1 = (foldV x0 x1).2.1)))) true (!(((foldV x0 x1).2.2) == ((foldV x0 x1).2.2)))) = false by first | (simp; done) | (rw [cast_neg]; simp; done)) (by rw [hb51]; simp)
                      --end
                    · have _u := True.intro
                      refine AW.skip ?_
                      refine AW.seq ?_
                      refine AW.region ?_
                      refine ARun.pure (PureOp.assign rfl .int) rfl rfl (Nat.le_of_ble_eq_true rfl) ?_
                      refine ARun.nil ?_
                      refine AW.seq ?_
                      refine AW.region ?_
                      refine ARun.pure (PureOp.loadPtrAgg rfl (.tmp rfl) vfl_ag_29_2 rfl rfl (Nat.le_of_ble_eq_true rfl) (Nat.le_of_ble_eq_true rfl)) rfl rfl (Nat.le_of_ble_eq_true rfl) ?_
                      refine ARun.pure (PureOp.move rfl (.tmp rfl)) rfl rfl (Nat.le_of_ble_eq_true rfl) ?_
                      refine ARun.pure (PureOp.call rfl (h_Head ((foldV x0 x1).1) (mvHead ((foldV x0 x1).1) 1) 1 rfl ⟨by omega, by omega⟩) ⟨⟨_, (.tmp rfl), ⟨(Vw.cast (Vw.tre rfl (Nat.le_of_ble_eq_true rfl)) rfl), .int, trivial⟩⟩, ⟨_, (.tmp rfl), .int⟩, trivial⟩ vfl_ca_22 trivial) rfl rfl (Nat.le_of_ble_eq_true rfl) ?_
                      refine ARun.pure (PureOp.assign rfl (.tmp rfl)) rfl rfl (Nat.le_of_ble_eq_true rfl) ?_
                      refine ARun.nil ?_
                      refine AW.seq ?_
                      refine AW.seq ?_
                      refine AW.region ?_
                      refine ARun.pure (PureOp.move rfl (.tmp rfl)) rfl rfl (Nat.le_of_ble_eq_true rfl) ?_
                      refine ARun.pure (PureOp.intOp rfl (.tmp rfl) .int rfl) rfl rfl (Nat.le_of_ble_eq_true rfl) ?_
                      refine ARun.nil ?_
                      refine AW.cond (.tmp rfl) (fun hb52 => ?_) (fun hb52 => ?_)
                      · have _u := True.intro
                        replace hb52 := of_decide_eq_true hb52
                        exact absurd hb52 (by omega)
                        --end
                      · have _u := True.intro
                        replace hb52 := of_decide_eq_false hb52
                        refine AW.skip ?_
                        refine AW.seq ?_
                        refine AW.region ?_
                        refine ARun.pure (PureOp.move rfl (.tmp rfl)) rfl rfl (Nat.le_of_ble_eq_true rfl) ?_
                        refine ARun.pure (PureOp.move rfl (.tmp rfl)) rfl rfl (Nat.le_of_ble_eq_true rfl) ?_
                        refine ARun.pure (PureOp.call rfl (h_IntS ((foldV x0 x1).2.1) (mkL c1 mkI ((foldV x0 x1).2.1) (1 + cvHead ((foldV x0 x1).1))) (1 + cvHead ((foldV x0 x1).1)) rfl ⟨by omega, by omega⟩) ⟨⟨_, (.tmp rfl), (Vw.cast (Vw.tre rfl (Nat.le_of_ble_eq_true rfl)) rfl)⟩, ⟨_, (.tmp rfl), .int⟩, trivial⟩ vfl_ca_35 trivial) rfl rfl (Nat.le_of_ble_eq_true rfl) ?_
                        refine ARun.pure (PureOp.assign rfl (.tmp rfl)) rfl rfl (Nat.le_of_ble_eq_true rfl) ?_
                        refine ARun.nil ?_
                        refine AW.seq ?_
                        refine AW.seq ?_
                        refine AW.region ?_
                        refine ARun.pure (PureOp.move rfl (.tmp rfl)) rfl rfl (Nat.le_of_ble_eq_true rfl) ?_
                        refine ARun.pure (PureOp.intOp rfl (.tmp rfl) .int rfl) rfl rfl (Nat.le_of_ble_eq_true rfl) ?_
                        refine ARun.nil ?_
                        refine AW.cond (.tmp rfl) (fun hb53 => ?_) (fun hb53 => ?_)
                        · have _u := True.intro
                          replace hb53 := of_decide_eq_true hb53
                          exact absurd hb53 (by omega)
                          --end
                        · have _u := True.intro
                          replace hb53 := of_decide_eq_false hb53
                          refine AW.skip ?_
                          refine AW.seq ?_
                          refine AW.seq ?_
                          refine AW.region ?_
                          refine ARun.pure (PureOp.move rfl (.tmp rfl)) rfl rfl (Nat.le_of_ble_eq_true rfl) ?_
                          refine ARun.pure (PureOp.move rfl (.tmp rfl)) rfl rfl (Nat.le_of_ble_eq_true rfl) ?_
                          refine ARun.pure (PureOp.intOp rfl (.tmp rfl) (.tmp rfl) rfl) rfl rfl (Nat.le_of_ble_eq_true rfl) ?_
                          refine ARun.nil ?_
                          refine AW.cond (.tmp rfl) (fun hb54 => ?_) (fun hb54 => ?_)
                          · have _u := True.intro
                            replace hb54 := of_decide_eq_false (of_not hb54)
                            exact absurd rfl hb54
                            --end
                          · have _u := True.intro
                            replace hb54 := of_decide_eq_true (not_f hb54)
                            refine AW.skip ?_
                            refine AW.seq ?_
                            refine AW.region ?_
                            refine ARun.pure (PureOp.assign rfl .bool) rfl rfl (Nat.le_of_ble_eq_true rfl) ?_
                            refine ARun.nil ?_
                            refine AW.ret (show ResL _ _ [.tmp 4] _ from resB rfl ?_)
                            rfl

set_option maxRecDepth 100000 in
theorem lifted_FoldSays (os : Os) (started : os.Started) (H : Type) (enc : TypeId × Value → H) :
    ReturnsInHanded {} Try.checked os 7 .any (Rows.fnExactFoldSaysSpec.pre6 enc Try.prog Try.f7 Rows.fnExactFoldSaysRow.domain false) (Rows.fnExactFoldSaysSpec.post enc Try.prog Try.f7 false true false false) := by
  refine returnsInHanded_of_change (C := Try.checked) own started (by kernel_rfl) Try.func7
    (ChangeSpec.witness6 (enc := enc) (C := Try.checked) false ⟨#[], #[.agg #[.slice none 0 0, .int .i64 0], .slice none 0 0], []⟩ 8 (by kernel_rfl) (by kernel_rfl) (by kernel_rfl) (by kernel_rfl)) ?_
  intro W base args ds gs before hval0 hW hcnd _
  have hval : ∀ (j : Nat) t v, Try.f7.params[j]? = some t → args[j]? = some v → Value.okWide Try.prog W .any base t v := hval0
  have hW' := hW
  obtain ⟨p, q, hA0, hV, rfl, hfz, hnd⟩ := hW
  have hA : DataW.TrodAll enc Try.prog W 0 (fun _ => true) true Try.f7.params.toList args.toList ds p := hA0
  rw [Try.params7] at hA hval
  obtain ⟨v0, vs0, d0, ds0, p0, q0, hargs, rfl, rfl, h0, r0⟩ := trodAll_cons hA
  obtain ⟨v1, vs1, d1, ds1, p1, q1, rfl, rfl, rfl, h1, r1⟩ := trodAll_cons r0
  obtain ⟨rfl, rfl, rfl⟩ := trodAll_nil r1
  obtain rfl : args = #[v0, v1] := by cases args; simp_all
  obtain ⟨rfl, rfl⟩ := trodVars_none hV
  obtain ⟨x0, R0⟩ := OpensC.arg opensC_24 h0
  have E0 : DS W (· < W.heap.size) (.agg [.lst 2 x0.rows.length (fun i0 j0 => ([.str ((x0.rows.getD i0 (default : GRow)).name), .lst 2 (((x0.rows.getD i0 (default : GRow)).samples).length) (fun i1 j1 => ([.int .i64 ((((x0.rows.getD i0 (default : GRow)).samples).getD i1 (default : GSample)).at_), .int .i64 ((((x0.rows.getD i0 (default : GRow)).samples).getD i1 (default : GSample)).value)] : List AV).getD j1 (.con undef))] : List AV).getD j0 (.con undef)), .int .i64 x0.offset]) v0 := DS.agg_of (let ⟨cs, e, _⟩ := okWide_struct Try.underlying24 (hval 0 24 v0 rfl rfl); ⟨cs, e⟩) R0
  obtain ⟨x1, R1⟩ := OpensC.arg opensC_50 h1
  have E1 : DS W (· < W.heap.size) (.one (.lst 3 x1.length (fun i0 j0 => ([.str ((x1.getD i0 (default : GSay)).name), .int .i64 ((x1.getD i0 (default : GSay)).at_), .int .i64 ((x1.getD i0 (default : GSay)).value)] : List AV).getD j0 (.con undef)))) v1 := DS.one_of (by obtain ⟨a, n, c, rfl⟩ := okWide_slice Try.underlying50 (hval 1 50 v1 rfl rfl); rfl) R1
  clear hA0 hval0
  refine (law_FoldSays x0 x1 W (· < W.heap.size) _ ⟨fun _ h => h, trivial⟩ ⟨_, _, rfl, E0, ⟨_, _, rfl, E1, rfl⟩⟩).mono fun e W' ⟨he, hg⟩ => ?_
  subst he
  exact ⟨_, rfl, law_post hW' rfl laidOut (by kernel_rfl) hg rfl rfl Try.underlying4⟩
/-- The statement. -/
theorem proved_FoldSays : Rows.FnExactFoldSaysSaid :=
  OpenClaim.holds_of_wide 7 Try.f7 rfl rfl rfl rfl rfl rfl rfl ⟨rfl, rfl, rfl, rfl, rfl⟩ rfl rfl rfl rfl rfl (by kernel_rfl) Try.func7 (by kernel_rfl)
    (of_decide_eq_true (by kernel_rfl)) (by unfold Func.isWrapper; first | (rw [if_pos (by decide +kernel)]; kernel_rfl) | (rw [if_neg (by decide +kernel)]; exact ⟨rfl, rfl⟩))
    (fun os started H enc _ => lifted_FoldSays os started H enc)
#print axioms proved_FoldSays
end Go.Proofs.Ytmfkmifkkplidaa

