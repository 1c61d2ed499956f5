/-
  KeepLabels: the reference and the program make the same.
-/
import Derived.Test.YtmlhlkpiofbhgaaIs
import Derived.Test.YtmlhlkpiofbhgaaKc
namespace Go.Proofs.Ytmlhlkpiofbhgaa
open Go.ChangeShapes Go.WideShapes Go.ChangeAt Go.RowKit Go.BigFrame Go.Deep
set_option linter.unusedVariables false
set_option linter.unusedSimpArgs false
theorem vj_ag_106_2 : aggB Try.prog 106 2 = true := by kernel_rfl
theorem vj_ca_110 : callB Try.prog 110 = true := by kernel_rfl
theorem vj_ca_111 : callB Try.prog 111 = true := by kernel_rfl
theorem vj_ca_112 : callB Try.prog 112 = true := by kernel_rfl
theorem vj_ca_113 : callB Try.prog 113 = true := by kernel_rfl
theorem vj_ca_121 : callB Try.prog 121 = true := by kernel_rfl
theorem vj_ca_77 : callB Try.prog 77 = true := by kernel_rfl
theorem vj_ca_82 : callB Try.prog 82 = true := by kernel_rfl
theorem vj_ca_84 : callB Try.prog 84 = true := by kernel_rfl
theorem vj_ca_85 : callB Try.prog 85 = true := by kernel_rfl
theorem vj_el_54_1 : elemB Try.prog 54 1 = true := by kernel_rfl
theorem vj_el_57_2 : elemB Try.prog 57 2 = true := by kernel_rfl
theorem vj_fi_106_0_0 : fieldB Try.prog 106 0 0 = true := by kernel_rfl
theorem vj_pl_54 : plainB Try.prog 54 = true := by kernel_rfl
theorem vj_pl_9 : plainB Try.prog 9 = true := by kernel_rfl
theorem vj_sl_54 : sliceB Try.prog 54 = true := by kernel_rfl
theorem vj_sl_57 : sliceB Try.prog 57 = true := by kernel_rfl
theorem vj_sz_106_2 : sizeB Try.prog 106 2 = true := by kernel_rfl
def keepP (names : List ByteArray) (x : GLabel) : Bool := names.any fun n => decide (n = x.lname)
def keepL (l : List GLabel) (names : List ByteArray) : List GLabel := l.filter (keepP names)
def keepC (l : List GLabel) (names : List ByteArray) (i j : Nat) : AV := ceLabel ((keepL l names).getD i (default : GLabel)) j
def keepB (l : List GLabel) (names : List ByteArray) : Bool := labelsB l && !decide ((6 : Int) < (names.length : Int))
def keepV (l : List GLabel) (names : List ByteArray) : List GLabel × Bool := if keepB l names = true then (keepL l names, true) else ([], false)
theorem keepP_sw (names : List ByteArray) (x : GLabel) : (names.any fun n => decide (x.lname = n)) = keepP names x := by
  unfold keepP; congr 1; funext n; exact decide_eq_decide.2 eq_comm
theorem keep_f (l : List GLabel) (names : List ByteArray) : l.filter (fun x => !(!(names.any fun n => decide (x.lname = n)))) = keepL l names := by
  unfold keepL; congr 1; funext x; rw [Bool.not_not, keepP_sw]
theorem any_succ {α : Type} {p : α → Bool} (d : α) {l : List α} {k : Nat} (h : k < l.length) : (l.take (k + 1)).any p = (cond ((l.take k).any p) true (p (l.getD k d))) := by
  rw [List.take_succ_eq_append_getElem h, List.any_append, getD_at d h]
  cases (l.take k).any p <;> simp
theorem keep_len {l : List GLabel} {names : List ByteArray} {k : Nat} (h : ¬ k < l.length) : (keepL l names).length = cntP (keepP names) l k := (cntP_end h).symm
theorem keepV_le (l : List GLabel) (names : List ByteArray) : (keepV l names).1.length ≤ l.length := by
  unfold keepV
  by_cases h : keepB l names = true
  · rw [if_pos h]; exact List.length_filter_le ..
  · rw [if_neg h]; exact Nat.zero_le _
theorem v_Index_Str (l : List ByteArray) (v : ByteArray) : Fn Try.prog 121 [.one (.lst 1 l.length (fun i0 _ => .str (l.getD i0 ByteArray.empty))), .one (.str v)] (.one (.int .i64 (idxF (fun n => decide (v = n)) l))) := by
  refine Fn.of_body (fn := Try.f121) Try.func121 rfl (Nat.le_of_ble_eq_true rfl) trivial ?_
  intro w0
  show AW _ 19 _ _ _ _
  refine AW.bound (t := 0) rfl fun hx => ?_
  refine AW.seq ?_
  refine AW.region ?_
  refine ARun.pure (PureOp.assign rfl .int) rfl rfl (Nat.le_of_ble_eq_true rfl) ?_
  refine ARun.nil ?_
  refine AW.seq ?_
  refine AW.seq ?_
  refine AW.region ?_
  refine ARun.pure (PureOp.move rfl (.tmp rfl)) rfl rfl (Nat.le_of_ble_eq_true rfl) ?_
  refine ARun.pure (PureOp.lenLst rfl (.tmp rfl) vj_sl_54) rfl rfl (Nat.le_of_ble_eq_true rfl) ?_
  refine ARun.pure (PureOp.move rfl .int) rfl rfl (Nat.le_of_ble_eq_true rfl) ?_
  refine ARun.nil ?_
  refine AW.block ?_
  refine AW.loop (ι := Nat) (fun k => ⟨[(0, .one (.lst 1 l.length (fun i0 _ => .str (l.getD i0 ByteArray.empty)))), (1, .one (.str v)), (7, .one (.int .i64 (l.length : Int))), (8, .one (.int .i64 (k : Int)))], []⟩) (fun k => k ≤ l.length ∧ (l.take k).any (fun n => decide (v = n)) = false) (fun k => l.length - k) 0 ⟨Nat.zero_le _, rfl⟩ ⟨⟨⟨_, rfl, rfl⟩, ⟨_, rfl, rfl⟩, ⟨_, rfl, rfl⟩, ⟨_, rfl, rfl⟩, trivial⟩, trivial⟩ ?_
  intro k hI
  obtain ⟨hk, hq⟩ := hI
  refine AW.seq ?_
  refine AW.region ?_
  refine ARun.pure (PureOp.intOp rfl (.tmp rfl) (.tmp rfl) rfl) rfl rfl (Nat.le_of_ble_eq_true rfl) ?_
  refine ARun.nil ?_
  refine AW.seq ?_
  refine AW.cond (.tmp rfl) (fun hb1 => ?_) (fun hb1 => ?_)
  · have _u := True.intro
    replace hb1 := of_decide_eq_true hb1
    have hlt : k < l.length := by omega
    refine AW.skip ?_
    refine AW.seq ?_
    refine AW.block ?_
    refine AW.seq ?_
    refine AW.region ?_
    refine ARun.pure (PureOp.move rfl (.tmp rfl)) rfl rfl (Nat.le_of_ble_eq_true rfl) ?_
    refine ARun.pure (PureOp.assign rfl (.tmp rfl)) rfl rfl (Nat.le_of_ble_eq_true rfl) ?_
    refine ARun.nil ?_
    refine AW.seq ?_
    refine AW.region ?_
    refine ARun.pure (PureOp.move rfl (.tmp rfl)) rfl rfl (Nat.le_of_ble_eq_true rfl) ?_
    refine ARun.pure (PureOp.move rfl (.tmp rfl)) rfl rfl (Nat.le_of_ble_eq_true rfl) ?_
    refine ARun.pure (PureOp.move rfl (.tmp rfl)) rfl rfl (Nat.le_of_ble_eq_true rfl) ?_
    refine ARun.pure (PureOp.indexLst (i := k) rfl (.tmp rfl) vj_el_54_1 (.tmp rfl) rfl (by omega)) rfl rfl (Nat.le_of_ble_eq_true rfl) ?_
    refine ARun.pure (PureOp.loadRef rfl (.tmp rfl) vj_pl_9 (Nat.le_of_ble_eq_true rfl)) rfl rfl (Nat.le_of_ble_eq_true rfl) ?_
    refine ARun.pure (PureOp.strOp rfl (.tmp rfl) (.tmp rfl) rfl) rfl rfl (Nat.le_of_ble_eq_true rfl) ?_
    refine ARun.nil ?_
    refine AW.cond (.tmp rfl) (fun hb2 => ?_) (fun hb2 => ?_)
    · have _u := True.intro
      replace hb2 := of_decide_eq_true hb2
      refine AW.seq ?_
      refine AW.region ?_
      refine ARun.pure (PureOp.move rfl (.tmp rfl)) rfl rfl (Nat.le_of_ble_eq_true rfl) ?_
      refine ARun.pure (PureOp.assign rfl (.tmp rfl)) rfl rfl (Nat.le_of_ble_eq_true rfl) ?_
      refine ARun.nil ?_
      refine AW.ret (show ResL _ _ [.tmp 4] _ from resI rfl ?_)
      exact idxF_hit ByteArray.empty hlt hq (decide_eq_true hb2)
    · have _u := True.intro
      replace hb2 := of_decide_eq_false hb2
      have hnb := hb2
      refine AW.skip ?_
      refine AW.region ?_
      refine ARun.pure (PureOp.add (c := ((k + 1 : Nat) : Int)) rfl (.tmp rfl) .int (by rw [wrap_id (by omega) (by omega)]; omega)) rfl rfl (Nat.le_of_ble_eq_true rfl) ?_
      refine ARun.pure (PureOp.move rfl (.tmp rfl)) rfl rfl (Nat.le_of_ble_eq_true rfl) ?_
      refine ARun.nil ?_
      exact ⟨k + 1, ⟨by omega, any_take ByteArray.empty hlt hq (decide_eq_false hnb)⟩, by dsimp only; omega, ⟨⟨⟨_, rfl, rfl⟩, ⟨_, rfl, rfl⟩, ⟨_, rfl, rfl⟩, ⟨_, rfl, rfl⟩, trivial⟩, trivial⟩⟩
  · have _u := True.intro
    replace hb1 := of_decide_eq_false hb1
    have hlt : ¬ k < l.length := by omega
    refine AW.exit ?_
    refine AW.seq ?_
    refine AW.region ?_
    refine ARun.pure (PureOp.assign rfl .int) rfl rfl (Nat.le_of_ble_eq_true rfl) ?_
    refine ARun.nil ?_
    refine AW.ret (show ResL _ _ [.tmp 4] _ from resI rfl ?_)
    exact idxF_none hlt hq

theorem v_Contains_Str (l : List ByteArray) (v : ByteArray) : Fn Try.prog 113 [.one (.lst 1 l.length (fun i0 _ => .str (l.getD i0 ByteArray.empty))), .one (.str v)] (.one (.bool (l.any (fun n => decide (v = n))))) := by
  refine Fn.of_body (fn := Try.f113) Try.func113 rfl (Nat.le_of_ble_eq_true rfl) trivial ?_
  intro w0
  show AW _ 9 _ _ _ _
  refine AW.seq ?_
  refine AW.region ?_
  refine ARun.pure (PureOp.assign rfl .bool) rfl rfl (Nat.le_of_ble_eq_true rfl) ?_
  refine ARun.nil ?_
  refine AW.seq ?_
  refine AW.region ?_
  refine ARun.pure (PureOp.move rfl (.tmp rfl)) rfl rfl (Nat.le_of_ble_eq_true rfl) ?_
  refine ARun.pure (PureOp.move rfl (.tmp rfl)) rfl rfl (Nat.le_of_ble_eq_true rfl) ?_
  refine ARun.pure (PureOp.call rfl (v_Index_Str l v) ⟨⟨_, (.tmp rfl), .lst⟩, ⟨_, (.tmp rfl), .str⟩, trivial⟩ vj_ca_121 trivial) rfl rfl (Nat.le_of_ble_eq_true rfl) ?_
  refine ARun.pure (PureOp.intOp rfl (.tmp rfl) .int rfl) rfl rfl (Nat.le_of_ble_eq_true rfl) ?_
  refine ARun.pure (PureOp.assign rfl (.tmp rfl)) rfl rfl (Nat.le_of_ble_eq_true rfl) ?_
  refine ARun.nil ?_
  refine AW.ret (show ResL _ _ [.tmp 4] _ from resB rfl ?_)
  exact idxF_any _ l

theorem v_keepLabels1 (names : List ByteArray) (x : GLabel) : Fn Try.prog 112 [.agg [.str x.lname, .str x.lvalue], .one (.ref 1 (fun _ => .lst 1 names.length (fun i0 _ => .str (names.getD i0 ByteArray.empty))))] (.one (.bool (!(names.any fun n => decide (x.lname = n))))) := by
  refine Fn.of_body (fn := Try.f112) Try.func112 rfl (Nat.le_of_ble_eq_true rfl) trivial ?_
  intro w0
  show AW _ 9 _ _ _ _
  refine AW.seq ?_
  refine AW.region ?_
  refine ARun.box (id := 0) rfl (.tmp rfl) (SV.cells_of (by exact ⟨trivial, trivial, trivial⟩)) ⟨rfl, (by repeat first | exact trivial | refine ⟨by decide, by first | rfl | exact trivial | (intro i j; first | rfl | exact getD_no rfl | (dsimp only; split <;> first | rfl | exact getD_no rfl)), ?_⟩)⟩ rfl rfl rfl (Nat.le_of_ble_eq_true rfl) ?_
  refine ARun.pure (PureOp.assign rfl .bool) rfl rfl (Nat.le_of_ble_eq_true rfl) ?_
  refine ARun.nil ?_
  refine AW.seq ?_
  refine AW.region ?_
  refine ARun.pure (PureOp.loadRef rfl (.tmp rfl) vj_pl_54 (Nat.le_of_ble_eq_true rfl)) rfl rfl (Nat.le_of_ble_eq_true rfl) ?_
  refine ARun.pure (PureOp.fieldPtr rfl (.tmp rfl) vj_fi_106_0_0) rfl rfl (Nat.le_of_ble_eq_true rfl) ?_
  refine ARun.pure (PureOp.loadPtr rfl (.tmp rfl) vj_pl_9 rfl rfl (Nat.le_of_ble_eq_true rfl) (Nat.le_of_ble_eq_true rfl)) rfl rfl (Nat.le_of_ble_eq_true rfl) ?_
  refine ARun.pure (PureOp.call rfl (v_Contains_Str names x.lname) ⟨⟨_, (.tmp rfl), .lst⟩, ⟨_, (.tmp rfl), .str⟩, trivial⟩ vj_ca_113 trivial) rfl rfl (Nat.le_of_ble_eq_true rfl) ?_
  refine ARun.pure (PureOp.not rfl (.tmp rfl)) rfl rfl (Nat.le_of_ble_eq_true rfl) ?_
  refine ARun.pure (PureOp.assign rfl (.tmp rfl)) rfl rfl (Nat.le_of_ble_eq_true rfl) ?_
  refine ARun.nil ?_
  refine AW.ret (show ResL _ _ [.tmp 3] _ from resB rfl ?_)
  rfl

theorem v_keepLabels (l : List GLabel) (names : List ByteArray) (hl : l.length ≤ 1048576) : FnT Try.prog 85 [.one (.lst 2 l.length (fun i0 j0 => ([.str ((l.getD i0 (default : GLabel)).lname), .str ((l.getD i0 (default : GLabel)).lvalue)] : List AV).getD j0 (.con undef))), .one (.lst 1 names.length (fun i0 _ => .str (names.getD i0 ByteArray.empty)))] (.one (.lst 2 ((keepL l names).length) (fun i0 j0 => ([.str (((keepL l names).getD i0 (default : GLabel)).lname), .str (((keepL l names).getD i0 (default : GLabel)).lvalue)] : List AV).getD j0 (.con undef)))) := by
  refine FnT.of_body (fn := Try.f85) Try.func85 rfl (Nat.le_of_ble_eq_true rfl)  ?_
  intro w0
  show AW _ 9 _ _ _ _
  refine AW.seq ?_
  refine AW.region ?_
  refine ARun.box (id := 0) rfl (.tmp rfl) trivial ⟨rfl, (by repeat first | exact trivial | refine ⟨by decide, by first | rfl | exact trivial | (intro i j; first | rfl | exact getD_no rfl | (dsimp only; split <;> first | rfl | exact getD_no rfl)), ?_⟩)⟩ rfl rfl rfl (Nat.le_of_ble_eq_true rfl) ?_
  refine ARun.pure (PureOp.assign rfl .con) rfl rfl (Nat.le_of_ble_eq_true rfl) ?_
  refine ARun.nil ?_
  refine AW.seq ?_
  refine AW.region ?_
  refine ARun.pure (PureOp.move rfl (.tmp rfl)) rfl rfl (Nat.le_of_ble_eq_true rfl) ?_
  refine ARun.prod (K := 1) rfl (v_Clone_Label l (by omega)) ⟨rfl, (by repeat first | exact trivial | refine ⟨by decide, by first | rfl | exact trivial | (intro i j; first | rfl | exact getD_no rfl | (dsimp only; split <;> first | rfl | exact getD_no rfl)), ?_⟩)⟩ ⟨⟨_, (.tmp rfl), .lst⟩, trivial⟩ vj_ca_111 rfl rfl rfl rfl rfl (Nat.le_of_ble_eq_true rfl) ?_
  refine ARun.openRow 6 1 0 1 2 l.length 2 _ (fun i j => ceLabel (l.getD i (default : GLabel)) j) rfl rfl (by decide) rfl (fun i j hi hj => match j, hj with | 0, _ => rfl | 1, _ => rfl | _ + 2, h => absurd h (by omega)) (fun i j => getD_no rfl) ⟨rfl, (by repeat first | exact trivial | refine ⟨by decide, by first | rfl | exact trivial | (intro i j; first | rfl | exact getD_no rfl | (dsimp only; split <;> first | rfl | exact getD_no rfl)), ?_⟩)⟩ ?_
  refine ARun.pure (PureOp.makeFn (caps := [.ptr 0 1 0 0]) rfl ⟨(.tmp rfl), trivial⟩ rfl) rfl rfl (Nat.le_of_ble_eq_true rfl) ?_
  refine ARun.mut1 (A := 2) rfl (v_DeleteFunc_Label l 112 1 (fun _ => .ref 1 (fun _ => .lst 1 names.length (fun i0 _ => .str (names.getD i0 ByteArray.empty)))) (fun x => !(names.any fun n => decide (x.lname = n))) (by omega) (fun j h => match j, h with | 0, _ => trivial | _ + 1, h => absurd h (by omega)) vj_ca_112 (fun k hk => v_keepLabels1 names _)) vj_ca_110 rfl ⟨.inr (.tmp rfl), ⟨.inl ⟨_, (.tmp rfl), (.fn (m := 1) (fun | 0, _ => (.ptr (m := 1) rfl rfl (Nat.le_of_ble_eq_true rfl) (Nat.le_of_ble_eq_true rfl) (fun | 0, _ => .lst | _ + 1, h => absurd h (by omega))) | n + 1, (h : n + 1 < 1) => absurd h (by omega)))⟩, trivial⟩⟩ rfl (fun i j => getD_sc rfl) (fun i j => getD_sc rfl) rfl rfl rfl (Nat.le_of_ble_eq_true rfl) ?_
  refine ARun.pure (PureOp.assign rfl (.tmp rfl)) rfl rfl (Nat.le_of_ble_eq_true rfl) ?_
  refine ARun.nil ?_
  rw [← keep_f l names]
  exact AW.ret (show ∃ s t, ResL _ _ [.tmp 4] s ∧ TvS _ (ofLeaf t) 0 s _ from ⟨_, fun a b => if a = 2 then 0 else 1000, .inl ⟨_, rfl, .tmp rfl⟩, (Tv.flatN rfl rfl rfl rfl (Nat.le_refl _) (by rfl) (fun i j hi hj => rfl) (fun i j hi hj => match j, hj with | 0, _ => rfl | 1, _ => rfl | _ + 2, h => absurd h (by omega)))⟩)

theorem v_l14Keep (l : List GLabel) (names : List ByteArray) (hl : l.length ≤ 1048576) : FnT Try.prog 82 [.one (.lst 2 l.length (fun i0 j0 => ([.str ((l.getD i0 (default : GLabel)).lname), .str ((l.getD i0 (default : GLabel)).lvalue)] : List AV).getD j0 (.con undef))), .one (.lst 1 names.length (fun i0 _ => .str (names.getD i0 ByteArray.empty)))] (.one (.lst 2 ((keepL l names).length) (fun i0 j0 => ([.str (((keepL l names).getD i0 (default : GLabel)).lname), .str (((keepL l names).getD i0 (default : GLabel)).lvalue)] : List AV).getD j0 (.con undef)))) := by
  refine FnT.of_body (fn := Try.f82) Try.func82 rfl (Nat.le_of_ble_eq_true rfl)  ?_
  intro w0
  show AW _ 38 _ _ _ _
  refine AW.bound (t := 0) rfl fun hx => ?_
  refine AW.bound (t := 1) rfl fun hy => ?_
  refine AW.seq ?_
  refine AW.region ?_
  refine ARun.pure (PureOp.assign rfl .con) rfl rfl (Nat.le_of_ble_eq_true rfl) ?_
  refine ARun.nil ?_
  refine AW.seq ?_
  refine AW.region ?_
  refine ARun.pure (PureOp.assign rfl .con) rfl rfl (Nat.le_of_ble_eq_true rfl) ?_
  refine ARun.nil ?_
  refine AW.seq ?_
  refine AW.seq ?_
  refine AW.region ?_
  refine ARun.pure (PureOp.move rfl (.tmp rfl)) rfl rfl (Nat.le_of_ble_eq_true rfl) ?_
  refine ARun.pure (PureOp.lenLst rfl (.tmp rfl) vj_sl_57) rfl rfl (Nat.le_of_ble_eq_true rfl) ?_
  refine ARun.pure (PureOp.move rfl .int) rfl rfl (Nat.le_of_ble_eq_true rfl) ?_
  refine ARun.nil ?_
  refine AW.block ?_
  refine AW.nilSlot 5 0 2 (keepC l names) rfl ⟨rfl, (by repeat first | exact trivial | refine ⟨by decide, by first | rfl | exact trivial | (intro i j; first | rfl | exact getD_no rfl | (dsimp only; split <;> first | rfl | exact getD_no rfl)), ?_⟩)⟩ ?_
  -- objects are renamed
  refine AW.loopR (ι := Nat) (fun k => ⟨[(1, .one (.lst 1 names.length (fun i0 _ => .str (names.getD i0 ByteArray.empty)))), (5, .one (.own 0 2 (cntP (keepP names) l k))), (11, .one (.lst 2 l.length (fun i0 j0 => ([.str ((l.getD i0 (default : GLabel)).lname), .str ((l.getD i0 (default : GLabel)).lvalue)] : List AV).getD j0 (.con undef)))), (12, .one (.int .i64 (l.length : Int))), (13, .one (.int .i64 (k : Int)))], [(0, .arr 2 (cntP (keepP names) l k) (keepC l names))]⟩) (fun k => k ≤ l.length) (fun k => l.length - k) 0 (Nat.zero_le _) ⟨⟨⟨_, rfl, rfl⟩, ⟨_, rfl, rfl⟩, ⟨_, rfl, rfl⟩, ⟨_, rfl, rfl⟩, ⟨_, rfl, rfl⟩, trivial⟩, ⟨⟨_, rfl, rfl, Nat.le_refl _, fun _ _ _ _ => rfl⟩, trivial⟩⟩ ?_
  intro k hk
  have hcl := cntP_le (keepP names) l k
  refine AW.seq ?_
  refine AW.region ?_
  refine ARun.pure (PureOp.intOp rfl (.tmp rfl) (.tmp rfl) rfl) rfl rfl (Nat.le_of_ble_eq_true rfl) ?_
  refine ARun.nil ?_
  refine AW.seq ?_
  refine AW.cond (.tmp rfl) (fun hb1 => ?_) (fun hb1 => ?_)
  · have _u := True.intro
    replace hb1 := of_decide_eq_true hb1
    have hkl : k < l.length := by omega
    refine AW.skip ?_
    refine AW.seq ?_
    refine AW.block ?_
    refine AW.seq ?_
    refine AW.region ?_
    refine ARun.pure (PureOp.indexLst (i := k) rfl (.tmp rfl) vj_el_57_2 (.tmp rfl) rfl (by omega)) rfl rfl (Nat.le_of_ble_eq_true rfl) ?_
    refine ARun.pure (PureOp.loadRefAgg rfl (.tmp rfl) vj_ag_106_2 (Nat.le_of_ble_eq_true rfl)) rfl rfl (Nat.le_of_ble_eq_true rfl) ?_
    refine ARun.alloc (id := 1) (l := [.str ByteArray.empty, .str ByteArray.empty]) (z := (.agg #[.string ByteArray.empty, .string ByteArray.empty])) rfl (by kernel_rfl) (fun _ _ _ => ⟨_, _, rfl, ⟨rfl, by decide⟩, ⟨_, _, rfl, ⟨rfl, by decide⟩, rfl⟩⟩) ⟨rfl, (by repeat first | exact trivial | refine ⟨by decide, by first | rfl | exact trivial | (intro i j; first | rfl | exact getD_no rfl | (dsimp only; split <;> first | rfl | exact getD_no rfl)), ?_⟩)⟩ rfl rfl rfl (Nat.le_of_ble_eq_true rfl) ?_
    refine ARun.store rfl (.tmp rfl) (.tmp rfl) (SV.cells_of (by exact ⟨trivial, trivial, trivial⟩)) rfl (Nat.le_of_ble_eq_true rfl) vj_sz_106_2 rfl rfl ?_
    refine ARun.nil ?_
    refine AW.seq ?_
    refine AW.region ?_
    refine ARun.pure (PureOp.assign rfl .bool) rfl rfl (Nat.le_of_ble_eq_true rfl) ?_
    refine ARun.nil ?_
    refine AW.seq ?_
    refine AW.seq ?_
    refine AW.region ?_
    refine ARun.pure (PureOp.move rfl (.tmp rfl)) rfl rfl (Nat.le_of_ble_eq_true rfl) ?_
    refine ARun.pure (PureOp.lenLst rfl (.tmp rfl) vj_sl_54) rfl rfl (Nat.le_of_ble_eq_true rfl) ?_
    refine ARun.pure (PureOp.move rfl .int) rfl rfl (Nat.le_of_ble_eq_true rfl) ?_
    refine ARun.nil ?_
    refine AW.block ?_
    refine AW.loop (ι := Nat) (fun j => ⟨[(1, .one (.lst 1 names.length (fun i0 _ => .str (names.getD i0 ByteArray.empty)))), (5, .one (.own 0 2 (cntP (keepP names) l k))), (7, .one (.ptr 1 2 0 0)), (8, .one (.bool ((names.take j).any (fun n => decide (n = (l.getD k (default : GLabel)).lname))))), (11, .one (.lst 2 l.length (fun i0 j0 => ([.str ((l.getD i0 (default : GLabel)).lname), .str ((l.getD i0 (default : GLabel)).lvalue)] : List AV).getD j0 (.con undef)))), (12, .one (.int .i64 (l.length : Int))), (13, .one (.int .i64 (k : Int))), (17, .one (.lst 1 names.length (fun i0 _ => .str (names.getD i0 ByteArray.empty)))), (18, .one (.int .i64 (names.length : Int))), (19, .one (.int .i64 (j : Int)))], [(0, .arr 2 (cntP (keepP names) l k) (keepC l names)), (1, .cells [.str ((l.getD k (default : GLabel)).lname), .str ((l.getD k (default : GLabel)).lvalue)])]⟩) (fun j => j ≤ names.length) (fun j => names.length - j) 0 (Nat.zero_le _) ⟨⟨⟨_, rfl, rfl⟩, ⟨_, rfl, rfl⟩, ⟨_, rfl, rfl⟩, ⟨_, rfl, rfl⟩, ⟨_, rfl, rfl⟩, ⟨_, rfl, rfl⟩, ⟨_, rfl, rfl⟩, ⟨_, rfl, rfl⟩, ⟨_, rfl, rfl⟩, ⟨_, rfl, rfl⟩, trivial⟩, HeapLe.one rfl (HeapLe.one rfl trivial)⟩ ?_
    intro j hj
    refine AW.seq ?_
    refine AW.region ?_
    refine ARun.pure (PureOp.intOp rfl (.tmp rfl) (.tmp rfl) rfl) rfl rfl (Nat.le_of_ble_eq_true rfl) ?_
    refine ARun.nil ?_
    refine AW.seq ?_
    refine AW.cond (.tmp rfl) (fun hb2 => ?_) (fun hb2 => ?_)
    · have _u := True.intro
      replace hb2 := of_decide_eq_true hb2
      have hjl : j < names.length := by omega
      refine AW.skip ?_
      refine AW.seq ?_
      refine AW.block ?_
      refine AW.seq ?_
      refine AW.region ?_
      refine ARun.pure (PureOp.indexLst (i := j) rfl (.tmp rfl) vj_el_54_1 (.tmp rfl) rfl (by omega)) rfl rfl (Nat.le_of_ble_eq_true rfl) ?_
      refine ARun.pure (PureOp.loadRef rfl (.tmp rfl) vj_pl_9 (Nat.le_of_ble_eq_true rfl)) rfl rfl (Nat.le_of_ble_eq_true rfl) ?_
      refine ARun.pure (PureOp.assign rfl (.tmp rfl)) rfl rfl (Nat.le_of_ble_eq_true rfl) ?_
      refine ARun.nil ?_
      refine AW.region ?_
      refine ARun.pure (PureOp.move rfl (.tmp rfl)) rfl rfl (Nat.le_of_ble_eq_true rfl) ?_
      refine ARun.pure (PureOp.move rfl (.tmp rfl)) rfl rfl (Nat.le_of_ble_eq_true rfl) ?_
      refine ARun.gpure (want := false) (.tf rfl) (fun hg3 => PureOp.move rfl (.tmp rfl)) rfl rfl (Nat.le_of_ble_eq_true rfl) rfl (Nat.le_of_ble_eq_true rfl) ?_
      refine ARun.gpure (want := false) (.tf rfl) (fun hg4 => PureOp.fieldPtr rfl (.tmp rfl) vj_fi_106_0_0) rfl rfl (Nat.le_of_ble_eq_true rfl) rfl (Nat.le_of_ble_eq_true rfl) ?_
      refine ARun.gpure (want := false) (.tf rfl) (fun hg5 => PureOp.loadPtr rfl (.gtmp rfl hg5) vj_pl_9 rfl rfl (Nat.le_of_ble_eq_true rfl) (Nat.le_of_ble_eq_true rfl)) rfl rfl (Nat.le_of_ble_eq_true rfl) rfl (Nat.le_of_ble_eq_true rfl) ?_
      refine ARun.gpure (want := false) (.tf rfl) (fun hg6 => PureOp.strOp rfl (.gtmp rfl hg6) (.gtmp rfl hg6) rfl) rfl rfl (Nat.le_of_ble_eq_true rfl) rfl (Nat.le_of_ble_eq_true rfl) ?_
      refine ARun.pure (PureOp.pick rfl (.tmp rfl) (fun _ => .bool) (fun hp8 => .gtmp rfl (not_of hp8))) rfl rfl (Nat.le_of_ble_eq_true rfl) ?_
      refine ARun.pure (PureOp.assign rfl (.tmp rfl)) rfl rfl (Nat.le_of_ble_eq_true rfl) ?_
      refine ARun.nil ?_
      refine AW.region ?_
      refine ARun.pure (PureOp.add (c := ((j + 1 : Nat) : Int)) rfl (.tmp rfl) .int (by rw [wrap_id (by omega) (by omega)]; omega)) rfl rfl (Nat.le_of_ble_eq_true rfl) ?_
      refine ARun.pure (PureOp.move rfl (.tmp rfl)) rfl rfl (Nat.le_of_ble_eq_true rfl) ?_
      refine ARun.nil ?_
      exact ⟨j + 1, by omega, by dsimp only; omega, ⟨⟨⟨_, rfl, rfl⟩, ⟨_, rfl, rfl⟩, ⟨_, rfl, rfl⟩, ⟨_, rfl, congrArg (fun b => SV.one (.bool b)) (any_succ (p := (fun n => decide (n = (l.getD k (default : GLabel)).lname))) ByteArray.empty hjl).symm⟩, ⟨_, rfl, rfl⟩, ⟨_, rfl, rfl⟩, ⟨_, rfl, rfl⟩, ⟨_, rfl, rfl⟩, ⟨_, rfl, rfl⟩, ⟨_, rfl, rfl⟩, trivial⟩, HeapLe.one rfl (HeapLe.one rfl trivial)⟩⟩
    · have _u := True.intro
      replace hb2 := of_decide_eq_false hb2
      have hjl : ¬ j < names.length := by omega
      refine AW.exit ?_
      refine AW.seq ?_
      refine AW.region ?_
      refine ARun.pure (PureOp.move rfl (.tmp rfl)) rfl rfl (Nat.le_of_ble_eq_true rfl) ?_
      refine ARun.nil ?_
      refine AW.cond (.tmp rfl) (fun hb9 => ?_) (fun hb9 => ?_)
      · have _u := True.intro
        have hp : keepP names (l.getD k (default : GLabel)) = true := by rw [List.take_of_length_le (by omega)] at hb9; exact hb9
        have hc := (cntP_yes (default : GLabel) hkl hp).1
        have hat := (cntP_yes (default : GLabel) hkl hp).2
        refine AW.region ?_
        refine ARun.pure (PureOp.move rfl (.tmp rfl)) rfl rfl (Nat.le_of_ble_eq_true rfl) ?_
        refine ARun.pure (PureOp.loadPtrAgg rfl (.tmp rfl) vj_ag_106_2 rfl rfl (Nat.le_of_ble_eq_true rfl) (Nat.le_of_ble_eq_true rfl)) rfl rfl (Nat.le_of_ble_eq_true rfl) ?_
        refine ARun.slice1 (id := 2) (z := (.agg #[.string ByteArray.empty, .string ByteArray.empty])) (by_ := 32) rfl (.tmp rfl) (SV.cells_of (by exact ⟨trivial, trivial, trivial⟩)) (by kernel_rfl) rfl rfl (by decide) (by decide) ⟨rfl, (by repeat first | exact trivial | refine ⟨by decide, by first | rfl | exact trivial | (intro i j; first | rfl | exact getD_no rfl | (dsimp only; split <;> first | rfl | exact getD_no rfl)), ?_⟩)⟩ rfl rfl rfl (Nat.le_of_ble_eq_true rfl) ?_
        refine ARun.append (id := 3) (sz := 2) (n := (cntP (keepP names) l k)) (m := 1) (by_ := 32) (z := (.agg #[.string ByteArray.empty, .string ByteArray.empty])) (f := keepC l names) (g := fun _ j => ([.str ((l.getD k (default : GLabel)).lname), .str ((l.getD k (default : GLabel)).lvalue)] : List AV).getD j (.con undef)) (h := fun i j => if i < (cntP (keepP names) l k) then (keepC l names) i j else (fun _ j => ([.str ((l.getD k (default : GLabel)).lname), .str ((l.getD k (default : GLabel)).lvalue)] : List AV).getD j (.con undef)) (i - (cntP (keepP names) l k)) j) rfl (by kernel_rfl) rfl vj_sl_57 (.own (.tmp rfl) rfl rfl rfl (Nat.le_refl _) (fun _ _ _ _ => rfl)) (.own (.tmp rfl) rfl rfl (Nat.le_refl _) (fun _ _ _ _ => rfl)) (by decide) (fun i j hi hj => match j, hj with | 0, _ => rfl | 1, _ => rfl | _ + 2, h => absurd h (by omega)) (fun _ _ _ _ => rfl) (by omega) (by omega) ⟨rfl, (by repeat first | exact trivial | refine ⟨by decide, by first | rfl | exact trivial | (intro i j; first | rfl | exact getD_no rfl | (dsimp only; split <;> first | rfl | exact getD_no rfl)), ?_⟩)⟩ (fun i j => by dsimp only; split <;> first | rfl | exact getD_no rfl) rfl rfl (Nat.le_of_ble_eq_true rfl) ?_
        refine ARun.pure (PureOp.assign rfl (.tmp rfl)) rfl rfl (Nat.le_of_ble_eq_true rfl) ?_
        refine ARun.nil ?_
        refine AW.region ?_
        refine ARun.pure (PureOp.add (c := ((k + 1 : Nat) : Int)) rfl (.tmp rfl) .int (by rw [wrap_id (by omega) (by omega)]; omega)) rfl rfl (Nat.le_of_ble_eq_true rfl) ?_
        refine ARun.pure (PureOp.move rfl (.tmp rfl)) rfl rfl (Nat.le_of_ble_eq_true rfl) ?_
        refine ARun.nil ?_
        exact ⟨k + 1, (swp 0 3), by omega, by dsimp only; omega, swp_inj, (swp_fix rfl rfl), ⟨⟨⟨_, rfl, rfl⟩, ⟨_, rfl, congrArg (fun n => SV.one (.own 3 2 n)) hc.symm⟩, ⟨_, rfl, rfl⟩, ⟨_, rfl, rfl⟩, ⟨_, rfl, rfl⟩, trivial⟩, ⟨⟨_, rfl, rfl, Nat.le_of_eq hc, fun i j hi (hj : j < 2) => match j, hj with | 0, _ => app_at (show i < cntP (keepP names) l k + 1 from hc ▸ hi) (fun _ => rfl) (fun h => by subst h; exact congrArg (fun e : GLabel => ceLabel e 0) hat.symm) | 1, _ => app_at (show i < cntP (keepP names) l k + 1 from hc ▸ hi) (fun _ => rfl) (fun h => by subst h; exact congrArg (fun e : GLabel => ceLabel e 1) hat.symm) | _ + 2, h => absurd h (by omega)⟩, trivial⟩⟩⟩
      · have _u := True.intro
        have hp : keepP names (l.getD k (default : GLabel)) = false := by rw [List.take_of_length_le (by omega)] at hb9; exact hb9
        have hc := cntP_no (default : GLabel) hkl hp
        refine AW.skip ?_
        refine AW.region ?_
        refine ARun.pure (PureOp.add (c := ((k + 1 : Nat) : Int)) rfl (.tmp rfl) .int (by rw [wrap_id (by omega) (by omega)]; omega)) rfl rfl (Nat.le_of_ble_eq_true rfl) ?_
        refine ARun.pure (PureOp.move rfl (.tmp rfl)) rfl rfl (Nat.le_of_ble_eq_true rfl) ?_
        refine ARun.nil ?_
        exact ⟨k + 1, id, by omega, by dsimp only; omega, id_inj, (fun _ _ => rfl), ⟨⟨⟨_, rfl, rfl⟩, ⟨_, rfl, congrArg (fun n => SV.one (.own 0 2 n)) hc.symm⟩, ⟨_, rfl, rfl⟩, ⟨_, rfl, rfl⟩, ⟨_, rfl, rfl⟩, trivial⟩, ⟨⟨_, rfl, rfl, Nat.le_of_eq hc, fun i j _ (hj : j < 2) => match j, hj with | 0, _ => rfl | 1, _ => rfl | _ + 2, h => absurd h (by omega)⟩, trivial⟩⟩⟩
  · have _u := True.intro
    replace hb1 := of_decide_eq_false hb1
    have hkl : ¬ k < l.length := by omega
    refine AW.exit ?_
    refine AW.seq ?_
    refine AW.region ?_
    refine ARun.pure (PureOp.move rfl (.tmp rfl)) rfl rfl (Nat.le_of_ble_eq_true rfl) ?_
    refine ARun.pure (PureOp.assign rfl (.tmp rfl)) rfl rfl (Nat.le_of_ble_eq_true rfl) ?_
    refine ARun.nil ?_
    exact AW.ret (show ∃ s t, ResL _ _ [.tmp 4] s ∧ TvS _ (ofLeaf t) 0 s _ from ⟨_, fun a b => if a = 0 then 0 else 1000, .inl ⟨_, rfl, .tmp rfl⟩, (Tv.flatN (keep_len hkl) rfl rfl rfl (Nat.le_refl _) (by rfl) (fun i j hi hj => rfl) (fun i j hi hj => match j, hj with | 0, _ => rfl | 1, _ => rfl | _ + 2, h => absurd h (by omega)))⟩)

theorem v_sKeep (l : List GLabel) (names : List ByteArray) (hl : l.length ≤ 1048576) : FnT Try.prog 30 [.one (.lst 2 l.length (fun i0 j0 => ([.str ((l.getD i0 (default : GLabel)).lname), .str ((l.getD i0 (default : GLabel)).lvalue)] : List AV).getD j0 (.con undef))), .one (.lst 1 names.length (fun i0 _ => .str (names.getD i0 ByteArray.empty)))] (.tup2 (.one (.lst 2 (((keepV l names).1).length) (fun i0 j0 => ([.str ((((keepV l names).1).getD i0 (default : GLabel)).lname), .str ((((keepV l names).1).getD i0 (default : GLabel)).lvalue)] : List AV).getD j0 (.con undef)))) (.one (.bool ((keepV l names).2)))) := by
  refine FnT.of_body (fn := Try.f30) Try.func30 rfl (Nat.le_of_ble_eq_true rfl)  ?_
  intro w0
  show AW _ 17 _ _ _ _
  refine AW.seq ?_
  refine AW.region ?_
  refine ARun.pure (PureOp.assign rfl .con) rfl rfl (Nat.le_of_ble_eq_true rfl) ?_
  refine ARun.pure (PureOp.assign rfl .bool) rfl rfl (Nat.le_of_ble_eq_true rfl) ?_
  refine ARun.nil ?_
  refine AW.seq ?_
  refine AW.seq ?_
  refine AW.region ?_
  refine ARun.pure (PureOp.move rfl (.tmp rfl)) rfl rfl (Nat.le_of_ble_eq_true rfl) ?_
  refine ARun.pure (PureOp.call rfl (v_GoodLabels l) ⟨⟨_, (.tmp rfl), .lst⟩, trivial⟩ vj_ca_77 trivial) rfl rfl (Nat.le_of_ble_eq_true rfl) ?_
  refine ARun.pure (PureOp.not rfl (.tmp rfl)) rfl rfl (Nat.le_of_ble_eq_true rfl) ?_
  refine ARun.pure (PureOp.move rfl (.tmp rfl)) rfl rfl (Nat.le_of_ble_eq_true rfl) ?_
  refine ARun.gpure (want := false) (.tf rfl) (fun hg1 => PureOp.move rfl (.tmp rfl)) rfl rfl (Nat.le_of_ble_eq_true rfl) rfl (Nat.le_of_ble_eq_true rfl) ?_
  refine ARun.gpure (want := false) (.tf rfl) (fun hg2 => PureOp.lenLst rfl (.gtmp rfl hg2) vj_sl_54) rfl rfl (Nat.le_of_ble_eq_true rfl) rfl (Nat.le_of_ble_eq_true rfl) ?_
  refine ARun.gpure (want := false) (.tf rfl) (fun hg3 => PureOp.intOp rfl (.gtmp rfl hg3) .int rfl) rfl rfl (Nat.le_of_ble_eq_true rfl) rfl (Nat.le_of_ble_eq_true rfl) ?_
  refine ARun.pure (PureOp.pick rfl (.tmp rfl) (fun _ => .bool) (fun hp5 => .gtmp rfl (not_of hp5))) rfl rfl (Nat.le_of_ble_eq_true rfl) ?_
  refine ARun.nil ?_
  refine AW.cond (.tmp rfl) (fun hb6 => ?_) (fun hb6 => ?_)
  · have _u := True.intro
    have hc : keepB l names = false := by revert hb6; unfold keepB; generalize labelsB l = a1; generalize decide ((6 : Int) < (names.length : Int)) = a2; revert a1 a2; decide
    refine AW.seq ?_
    refine AW.region ?_
    refine ARun.pure (PureOp.assign rfl .con) rfl rfl (Nat.le_of_ble_eq_true rfl) ?_
    refine ARun.pure (PureOp.assign rfl .bool) rfl rfl (Nat.le_of_ble_eq_true rfl) ?_
    refine ARun.nil ?_
    rw [show keepV l names = ([], false) from if_neg (by rw [hc]; decide)]
    exact AW.ret (show ∃ s t, ResL _ _ [.tmp 4, .tmp 5] s ∧ TvS _ (ofLeaf t) 0 s _ from ⟨_, fun a b => 1000, .inr (.inl ⟨_, _, _, _, rfl, .tmp rfl, .tmp rfl, rfl⟩), ⟨.nil, .bool⟩⟩)
  · have _u := True.intro
    have hc : keepB l names = true := by revert hb6; unfold keepB; generalize labelsB l = a1; generalize decide ((6 : Int) < (names.length : Int)) = a2; revert a1 a2; decide
    refine AW.skip ?_
    refine AW.seq ?_
    refine AW.region ?_
    refine ARun.pure (PureOp.move rfl (.tmp rfl)) rfl rfl (Nat.le_of_ble_eq_true rfl) ?_
    refine ARun.pure (PureOp.move rfl (.tmp rfl)) rfl rfl (Nat.le_of_ble_eq_true rfl) ?_
    refine ARun.prod (K := 0) rfl (v_l14Keep l names (by omega)) ⟨rfl, (by repeat first | exact trivial | refine ⟨by decide, by first | rfl | exact trivial | (intro i j; first | rfl | exact getD_no rfl | (dsimp only; split <;> first | rfl | exact getD_no rfl)), ?_⟩)⟩ ⟨⟨_, (.tmp rfl), .lst⟩, ⟨_, (.tmp rfl), .lst⟩, trivial⟩ vj_ca_82 rfl rfl rfl rfl rfl (Nat.le_of_ble_eq_true rfl) ?_
    refine ARun.pure (PureOp.assign rfl (.tmp rfl)) rfl rfl (Nat.le_of_ble_eq_true rfl) ?_
    refine ARun.pure (PureOp.assign rfl .bool) rfl rfl (Nat.le_of_ble_eq_true rfl) ?_
    refine ARun.nil ?_
    rw [show keepV l names = (keepL l names, true) from if_pos hc]
    exact AW.ret (show ∃ s t, ResL _ _ [.tmp 4, .tmp 5] s ∧ TvS _ (ofLeaf t) 0 s _ from ⟨_, fun a b => if a = 0 then 0 else 1000, .inr (.inl ⟨_, _, _, _, rfl, .tmp rfl, .tmp rfl, rfl⟩), ⟨(Tv.cast (Tv.tre rfl (Nat.le_of_ble_eq_true rfl) (by rfl)) rfl), .bool⟩⟩)

theorem v_iKeep (l : List GLabel) (names : List ByteArray) (hl : l.length ≤ 1048576) : FnT Try.prog 33 [.one (.lst 2 l.length (fun i0 j0 => ([.str ((l.getD i0 (default : GLabel)).lname), .str ((l.getD i0 (default : GLabel)).lvalue)] : List AV).getD j0 (.con undef))), .one (.lst 1 names.length (fun i0 _ => .str (names.getD i0 ByteArray.empty)))] (.tup2 (.one (.lst 2 (((keepV l names).1).length) (fun i0 j0 => ([.str ((((keepV l names).1).getD i0 (default : GLabel)).lname), .str ((((keepV l names).1).getD i0 (default : GLabel)).lvalue)] : List AV).getD j0 (.con undef)))) (.one (.bool ((keepV l names).2)))) := by
  refine FnT.of_body (fn := Try.f33) Try.func33 rfl (Nat.le_of_ble_eq_true rfl)  ?_
  intro w0
  show AW _ 17 _ _ _ _
  refine AW.seq ?_
  refine AW.region ?_
  refine ARun.pure (PureOp.assign rfl .con) rfl rfl (Nat.le_of_ble_eq_true rfl) ?_
  refine ARun.pure (PureOp.assign rfl .bool) rfl rfl (Nat.le_of_ble_eq_true rfl) ?_
  refine ARun.nil ?_
  refine AW.seq ?_
  refine AW.seq ?_
  refine AW.region ?_
  refine ARun.pure (PureOp.move rfl (.tmp rfl)) rfl rfl (Nat.le_of_ble_eq_true rfl) ?_
  refine ARun.pure (PureOp.call rfl (v_areLabels l) ⟨⟨_, (.tmp rfl), .lst⟩, trivial⟩ vj_ca_84 trivial) rfl rfl (Nat.le_of_ble_eq_true rfl) ?_
  refine ARun.pure (PureOp.not rfl (.tmp rfl)) rfl rfl (Nat.le_of_ble_eq_true rfl) ?_
  refine ARun.pure (PureOp.move rfl (.tmp rfl)) rfl rfl (Nat.le_of_ble_eq_true rfl) ?_
  refine ARun.gpure (want := false) (.tf rfl) (fun hg1 => PureOp.move rfl (.tmp rfl)) rfl rfl (Nat.le_of_ble_eq_true rfl) rfl (Nat.le_of_ble_eq_true rfl) ?_
  refine ARun.gpure (want := false) (.tf rfl) (fun hg2 => PureOp.lenLst rfl (.gtmp rfl hg2) vj_sl_54) rfl rfl (Nat.le_of_ble_eq_true rfl) rfl (Nat.le_of_ble_eq_true rfl) ?_
  refine ARun.gpure (want := false) (.tf rfl) (fun hg3 => PureOp.intOp rfl (.gtmp rfl hg3) .int rfl) rfl rfl (Nat.le_of_ble_eq_true rfl) rfl (Nat.le_of_ble_eq_true rfl) ?_
  refine ARun.pure (PureOp.pick rfl (.tmp rfl) (fun _ => .bool) (fun hp5 => .gtmp rfl (not_of hp5))) rfl rfl (Nat.le_of_ble_eq_true rfl) ?_
  refine ARun.nil ?_
  refine AW.cond (.tmp rfl) (fun hb6 => ?_) (fun hb6 => ?_)
  · have _u := True.intro
    have hc : keepB l names = false := by revert hb6; unfold keepB; generalize labelsB l = a1; generalize decide ((6 : Int) < (names.length : Int)) = a2; revert a1 a2; decide
    refine AW.seq ?_
    refine AW.region ?_
    refine ARun.pure (PureOp.assign rfl .con) rfl rfl (Nat.le_of_ble_eq_true rfl) ?_
    refine ARun.pure (PureOp.assign rfl .bool) rfl rfl (Nat.le_of_ble_eq_true rfl) ?_
    refine ARun.nil ?_
    rw [show keepV l names = ([], false) from if_neg (by rw [hc]; decide)]
    exact AW.ret (show ∃ s t, ResL _ _ [.tmp 4, .tmp 5] s ∧ TvS _ (ofLeaf t) 0 s _ from ⟨_, fun a b => 1000, .inr (.inl ⟨_, _, _, _, rfl, .tmp rfl, .tmp rfl, rfl⟩), ⟨.nil, .bool⟩⟩)
  · have _u := True.intro
    have hc : keepB l names = true := by revert hb6; unfold keepB; generalize labelsB l = a1; generalize decide ((6 : Int) < (names.length : Int)) = a2; revert a1 a2; decide
    refine AW.skip ?_
    refine AW.seq ?_
    refine AW.region ?_
    refine ARun.pure (PureOp.move rfl (.tmp rfl)) rfl rfl (Nat.le_of_ble_eq_true rfl) ?_
    refine ARun.pure (PureOp.move rfl (.tmp rfl)) rfl rfl (Nat.le_of_ble_eq_true rfl) ?_
    refine ARun.prod (K := 0) rfl (v_keepLabels l names (by omega)) ⟨rfl, (by repeat first | exact trivial | refine ⟨by decide, by first | rfl | exact trivial | (intro i j; first | rfl | exact getD_no rfl | (dsimp only; split <;> first | rfl | exact getD_no rfl)), ?_⟩)⟩ ⟨⟨_, (.tmp rfl), .lst⟩, ⟨_, (.tmp rfl), .lst⟩, trivial⟩ vj_ca_85 rfl rfl rfl rfl rfl (Nat.le_of_ble_eq_true rfl) ?_
    refine ARun.pure (PureOp.assign rfl (.tmp rfl)) rfl rfl (Nat.le_of_ble_eq_true rfl) ?_
    refine ARun.pure (PureOp.assign rfl .bool) rfl rfl (Nat.le_of_ble_eq_true rfl) ?_
    refine ARun.nil ?_
    rw [show keepV l names = (keepL l names, true) from if_pos hc]
    exact AW.ret (show ∃ s t, ResL _ _ [.tmp 4, .tmp 5] s ∧ TvS _ (ofLeaf t) 0 s _ from ⟨_, fun a b => if a = 0 then 0 else 1000, .inr (.inl ⟨_, _, _, _, rfl, .tmp rfl, .tmp rfl, rfl⟩), ⟨(Tv.cast (Tv.tre rfl (Nat.le_of_ble_eq_true rfl) (by rfl)) rfl), .bool⟩⟩)
end Go.Proofs.Ytmlhlkpiofbhgaa
