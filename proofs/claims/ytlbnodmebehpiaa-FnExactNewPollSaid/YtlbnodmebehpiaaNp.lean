/-
  NewPoll: the reference and the program make the same.
-/
import Derived.Test.YtlbnodmebehpiaaLb
import Derived.Test.YtlbnodmebehpiaaTm
import Derived.Test.YtlbnodmebehpiaaUb
namespace Go.Proofs.Ytlbnodmebehpiaa
open Go.ChangeShapes Go.WideShapes Go.ChangeAt Go.RowKit Go.BigFrame Go.Deep
set_option linter.unusedVariables false
set_option linter.unusedSimpArgs false
theorem vk_ag_27_3 : aggB Try.prog 27 3 = true := by kernel_rfl
theorem vk_ca_57 : callB Try.prog 57 = true := by kernel_rfl
theorem vk_ca_58 : callB Try.prog 58 = true := by kernel_rfl
theorem vk_ca_59 : callB Try.prog 59 = true := by kernel_rfl
theorem vk_ca_60 : callB Try.prog 60 = true := by kernel_rfl
theorem vk_ca_61 : callB Try.prog 61 = true := by kernel_rfl
theorem vk_ca_62 : callB Try.prog 62 = true := by kernel_rfl
theorem vk_ca_63 : callB Try.prog 63 = true := by kernel_rfl
theorem vk_el_22_1 : elemB Try.prog 22 1 = true := by kernel_rfl
theorem vk_fi_27_0_0 : fieldB Try.prog 27 0 0 = true := by kernel_rfl
theorem vk_pl_23 : plainB Try.prog 23 = true := by kernel_rfl
theorem vk_pl_3 : plainB Try.prog 3 = true := by kernel_rfl
theorem vk_sl_22 : sliceB Try.prog 22 = true := by kernel_rfl
theorem vk_sl_23 : sliceB Try.prog 23 = true := by kernel_rfl
theorem vk_sz_23_1 : sizeB Try.prog 23 1 = true := by kernel_rfl
theorem vk_sz_27_3 : sizeB Try.prog 27 3 = true := by kernel_rfl
theorem v_isAge (x : Int) : Fn Try.prog 62 [.one (.int .i64 x)] (.one (.bool (inB 0 9 x))) := by
  refine Fn.of_body (fn := Try.f62) Try.func62 rfl (Nat.le_of_ble_eq_true rfl) trivial ?_
  intro w0
  show AW _ 5 _ _ _ _
  refine AW.seq ?_
  refine AW.region ?_
  refine ARun.pure (PureOp.assign rfl .bool) rfl rfl (Nat.le_of_ble_eq_true rfl) ?_
  refine ARun.nil ?_
  refine AW.seq ?_
  refine AW.region ?_
  refine ARun.pure (PureOp.move rfl (.tmp rfl)) rfl rfl (Nat.le_of_ble_eq_true rfl) ?_
  refine ARun.pure (PureOp.call rfl (v_within x 0 9) ⟨⟨_, (.tmp rfl), .int⟩, ⟨_, .int, .int⟩, ⟨_, .int, .int⟩, trivial⟩ vk_ca_59 trivial) rfl rfl (Nat.le_of_ble_eq_true rfl) ?_
  refine ARun.pure (PureOp.assign rfl (.tmp rfl)) rfl rfl (Nat.le_of_ble_eq_true rfl) ?_
  refine ARun.nil ?_
  refine AW.ret (show ResL _ _ [.tmp 2] _ from resB rfl ?_)
  rfl

theorem v_NewPoll1 (x : Int) : Fn Try.prog 61 [.one (.int .i64 x)] (.one (.bool (!inB 0 9 x))) := by
  refine Fn.of_body (fn := Try.f61) Try.func61 rfl (Nat.le_of_ble_eq_true rfl) trivial ?_
  intro w0
  show AW _ 6 _ _ _ _
  refine AW.seq ?_
  refine AW.region ?_
  refine ARun.pure (PureOp.assign rfl .bool) rfl rfl (Nat.le_of_ble_eq_true rfl) ?_
  refine ARun.nil ?_
  refine AW.seq ?_
  refine AW.region ?_
  refine ARun.pure (PureOp.move rfl (.tmp rfl)) rfl rfl (Nat.le_of_ble_eq_true rfl) ?_
  refine ARun.pure (PureOp.call rfl (v_isAge x) ⟨⟨_, (.tmp rfl), .int⟩, trivial⟩ vk_ca_62 trivial) rfl rfl (Nat.le_of_ble_eq_true rfl) ?_
  refine ARun.pure (PureOp.not rfl (.tmp rfl)) rfl rfl (Nat.le_of_ble_eq_true rfl) ?_
  refine ARun.pure (PureOp.assign rfl (.tmp rfl)) rfl rfl (Nat.le_of_ble_eq_true rfl) ?_
  refine ARun.nil ?_
  refine AW.ret (show ResL _ _ [.tmp 2] _ from resB rfl ?_)
  rfl

def nodeC (l : List Int) (i j : Nat) : AV := ([.int .i64 0, .int .i64 (-1), .int .i64 (l.getD i 0), .con (.slice none 0 0), .int .i64 0] : List AV).getD j (.con undef)
def pollNodes (l : List Int) : List GNode := l.map fun a => ⟨0, -1, a, [], 0⟩
theorem pn_at {l : List Int} {i : Nat} (h : i < l.length) : (pollNodes l).getD i (default : GNode) = ⟨0, -1, l.getD i 0, [], 0⟩ := by
  unfold pollNodes
  rw [List.getD_eq_getElem?_getD, List.getElem?_map, List.getD_eq_getElem?_getD, List.getElem?_eq_getElem h]; rfl
theorem pn_len (l : List Int) : (pollNodes l).length = l.length := by simp [pollNodes]
def newPollD (l : List Int) : GPoll := ⟨pollNodes l, [], []⟩
def okAges (l : List Int) : Bool := inB 1 5 (l.length : Int) && l.all (inB 0 9)
def newPollV (l : List Int) : GPoll × Bool := if okAges l = true then (newPollD l, true) else (⟨[], [], []⟩, false)
theorem v_newPoll (l : List Int) (hl : l.length ≤ 5) : FnT Try.prog 63 [.one (.lst 1 l.length (fun i0 _ => .int .i64 (l.getD i0 0)))] (.agg [.lst 5 (((newPollD l).nodes).length) (fun i0 j0 => ([.int .i64 ((((newPollD l).nodes).getD i0 (default : GNode)).term), .int .i64 ((((newPollD l).nodes).getD i0 (default : GNode)).voted), .int .i64 ((((newPollD l).nodes).getD i0 (default : GNode)).age), .lst 1 (((((newPollD l).nodes).getD i0 (default : GNode)).heard).length) (fun i1 _ => .int .i64 (((((newPollD l).nodes).getD i0 (default : GNode)).heard).getD i1 0)), .int .i64 ((((newPollD l).nodes).getD i0 (default : GNode)).role)] : List AV).getD j0 (.con undef)), .lst 5 (((newPollD l).letters).length) (fun i0 j0 => ([.int .i64 ((((newPollD l).letters).getD i0 (default : GLetter)).from_), .int .i64 ((((newPollD l).letters).getD i0 (default : GLetter)).to), .int .i64 ((((newPollD l).letters).getD i0 (default : GLetter)).term), .bool ((((newPollD l).letters).getD i0 (default : GLetter)).ask), .int .i64 ((((newPollD l).letters).getD i0 (default : GLetter)).age)] : List AV).getD j0 (.con undef)), .lst 1 (((newPollD l).leaders).length) (fun i0 _ => .lst 1 ((((newPollD l).leaders).getD i0 []).length) (fun i1 _ => .int .i64 ((((newPollD l).leaders).getD i0 []).getD i1 0)))]) := by
  refine FnT.of_body (fn := Try.f63) Try.func63 rfl (Nat.le_of_ble_eq_true rfl)  ?_
  intro w0
  show AW _ 21 _ _ _ _
  refine AW.bound (t := 0) rfl fun hx => ?_
  refine AW.seq ?_
  refine AW.region ?_
  refine ARun.alloc (id := 0) (l := [.con (.slice none 0 0), .con (.slice none 0 0), .con (.slice none 0 0)]) (z := (.agg #[.slice none 0 0, .slice none 0 0, .slice none 0 0])) rfl (by kernel_rfl) (fun _ _ _ => ⟨_, _, rfl, rfl, ⟨_, _, rfl, rfl, ⟨_, _, rfl, rfl, rfl⟩⟩⟩) ⟨rfl, (by repeat first | exact trivial | refine ⟨by decide, by first | rfl | exact trivial | (intro i j; first | rfl | exact getD_no rfl | (dsimp only; split <;> first | rfl | exact getD_no rfl)), ?_⟩)⟩ rfl rfl rfl (Nat.le_of_ble_eq_true rfl) ?_
  refine ARun.nil ?_
  refine AW.seq ?_
  refine AW.region ?_
  refine ARun.alloc (id := 1) (l := [.con (.slice none 0 0), .con (.slice none 0 0), .con (.slice none 0 0)]) (z := (.agg #[.slice none 0 0, .slice none 0 0, .slice none 0 0])) rfl (by kernel_rfl) (fun _ _ _ => ⟨_, _, rfl, rfl, ⟨_, _, rfl, rfl, ⟨_, _, rfl, rfl, rfl⟩⟩⟩) ⟨rfl, (by repeat first | exact trivial | refine ⟨by decide, by first | rfl | exact trivial | (intro i j; first | rfl | exact getD_no rfl | (dsimp only; split <;> first | rfl | exact getD_no rfl)), ?_⟩)⟩ rfl rfl rfl (Nat.le_of_ble_eq_true rfl) ?_
  refine ARun.nil ?_
  refine AW.seq ?_
  refine AW.seq ?_
  refine AW.region ?_
  refine ARun.pure (PureOp.move rfl (.tmp rfl)) rfl rfl (Nat.le_of_ble_eq_true rfl) ?_
  refine ARun.pure (PureOp.lenLst rfl (.tmp rfl) vk_sl_22) rfl rfl (Nat.le_of_ble_eq_true rfl) ?_
  refine ARun.pure (PureOp.move rfl .int) rfl rfl (Nat.le_of_ble_eq_true rfl) ?_
  refine ARun.nil ?_
  refine AW.block ?_
  refine AW.nilCell 1 0 2 5 _ (nodeC l) rfl rfl ⟨rfl, (by repeat first | exact trivial | refine ⟨by decide, by first | rfl | exact trivial | (intro i j; first | rfl | exact getD_no rfl | (dsimp only; split <;> first | rfl | exact getD_no rfl)), ?_⟩)⟩ ?_
  -- objects are renamed
  refine AW.loopR (ι := Nat) (fun k => ⟨[(2, .one (.ptr 0 3 0 0)), (3, .one (.ptr 1 3 0 0)), (6, .one (.lst 1 l.length (fun i0 _ => .int .i64 (l.getD i0 0)))), (7, .one (.int .i64 (l.length : Int))), (8, .one (.int .i64 (k : Int)))], [(0, .cells [.con (.slice none 0 0), .con (.slice none 0 0), .con (.slice none 0 0)]), (1, .cells [.own 2 5 k, .con (.slice none 0 0), .con (.slice none 0 0)]), (2, .arr 5 k (nodeC l))]⟩) (fun k => k ≤ l.length) (fun k => l.length - k) 0 (Nat.zero_le _) ⟨⟨⟨_, rfl, rfl⟩, ⟨_, rfl, rfl⟩, ⟨_, rfl, rfl⟩, ⟨_, rfl, rfl⟩, ⟨_, rfl, rfl⟩, trivial⟩, ⟨⟨_, rfl, rfl, Nat.le_refl _, fun _ _ _ _ => rfl⟩, ⟨_, rfl, rfl, Nat.le_refl _, fun _ _ _ _ => rfl⟩, ⟨_, rfl, rfl, Nat.le_refl _, fun _ _ _ _ => rfl⟩, trivial⟩⟩ ?_
  intro k hk
  refine AW.seq ?_
  refine AW.region ?_
  refine ARun.pure (PureOp.intOp rfl (.tmp rfl) (.tmp rfl) rfl) rfl rfl (Nat.le_of_ble_eq_true rfl) ?_
  refine ARun.nil ?_
  refine AW.seq ?_
  refine AW.cond (.tmp rfl) (fun hb1 => ?_) (fun hb1 => ?_)
  · have _u := True.intro
    replace hb1 := of_decide_eq_true hb1
    have hkl : k < l.length := by omega
    refine AW.skip ?_
    refine AW.seq ?_
    refine AW.block ?_
    refine AW.seq ?_
    refine AW.region ?_
    refine ARun.pure (PureOp.indexLst (i := k) rfl (.tmp rfl) vk_el_22_1 (.tmp rfl) rfl (by omega)) rfl rfl (Nat.le_of_ble_eq_true rfl) ?_
    refine ARun.pure (PureOp.loadRef rfl (.tmp rfl) vk_pl_3 (Nat.le_of_ble_eq_true rfl)) rfl rfl (Nat.le_of_ble_eq_true rfl) ?_
    refine ARun.pure (PureOp.assign rfl (.tmp rfl)) rfl rfl (Nat.le_of_ble_eq_true rfl) ?_
    refine ARun.nil ?_
    refine AW.region ?_
    refine ARun.pure (PureOp.fieldPtr rfl (.tmp rfl) vk_fi_27_0_0) rfl rfl (Nat.le_of_ble_eq_true rfl) ?_
    refine ARun.pure (PureOp.loadPtr rfl (.tmp rfl) vk_pl_23 rfl rfl (Nat.le_of_ble_eq_true rfl) (Nat.le_of_ble_eq_true rfl)) rfl rfl (Nat.le_of_ble_eq_true rfl) ?_
    refine ARun.pure (PureOp.move rfl (.tmp rfl)) rfl rfl (Nat.le_of_ble_eq_true rfl) ?_
    refine ARun.pure (PureOp.build (ys := [.int .i64 (-1), .int .i64 (l.getD k 0)]) (l := [.int .i64 0, .int .i64 0, .int .i64 0, .con (.slice none 0 0), .int .i64 0]) (pl := [(0, 1), (1, 1), (2, 1), (3, 1), (4, 1)]) (z := (.agg #[.int .i64 0, .int .i64 0, .int .i64 0, .slice none 0 0, .int .i64 0])) rfl (by kernel_rfl) (by kernel_rfl) (fun _ _ _ => ⟨_, _, rfl, rfl, ⟨_, _, rfl, rfl, ⟨_, _, rfl, rfl, ⟨_, _, rfl, rfl, ⟨_, _, rfl, rfl, rfl⟩⟩⟩⟩⟩) ⟨.int, trivial, rfl, ⟨(.tmp rfl), trivial, rfl, trivial⟩⟩ rfl) rfl rfl (Nat.le_of_ble_eq_true rfl) ?_
    refine ARun.slice1 (id := 3) (z := (.agg #[.int .i64 0, .int .i64 0, .int .i64 0, .slice none 0 0, .int .i64 0])) (by_ := 56) rfl (.tmp rfl) (SV.cells_of (by exact ⟨trivial, trivial, trivial, ⟨rfl, (fun _ e => by cases e), (fun _ e => by cases e)⟩, trivial, trivial⟩)) (by kernel_rfl) rfl rfl (by decide) (by decide) ⟨rfl, (by repeat first | exact trivial | refine ⟨by decide, by first | rfl | exact trivial | (intro i j; first | rfl | exact getD_no rfl | (dsimp only; split <;> first | rfl | exact getD_no rfl)), ?_⟩)⟩ rfl rfl rfl (Nat.le_of_ble_eq_true rfl) ?_
    refine ARun.append (id := 4) (sz := 5) (n := k) (m := 1) (by_ := 56) (z := (.agg #[.int .i64 0, .int .i64 0, .int .i64 0, .slice none 0 0, .int .i64 0])) (f := nodeC l) (g := fun _ j => ([.int .i64 0, .int .i64 (-1), .int .i64 (l.getD k 0), .con (.slice none 0 0), .int .i64 0] : List AV).getD j (.con undef)) (h := fun i j => if i < k then (nodeC l) i j else (fun _ j => ([.int .i64 0, .int .i64 (-1), .int .i64 (l.getD k 0), .con (.slice none 0 0), .int .i64 0] : List AV).getD j (.con undef)) (i - k) j) rfl (by kernel_rfl) rfl vk_sl_23 (.own (.tmp rfl) rfl rfl rfl (Nat.le_refl _) (fun _ _ _ _ => rfl)) (.own (.tmp rfl) rfl rfl (Nat.le_refl _) (fun _ _ _ _ => rfl)) (by decide) (fun i j hi hj => match j, hj with | 0, _ => rfl | 1, _ => rfl | 2, _ => rfl | 3, _ => rfl | 4, _ => rfl | _ + 5, h => absurd h (by omega)) (fun _ _ _ _ => rfl) (by omega) (by omega) ⟨rfl, (by repeat first | exact trivial | refine ⟨by decide, by first | rfl | exact trivial | (intro i j; first | rfl | exact getD_no rfl | (dsimp only; split <;> first | rfl | exact getD_no rfl)), ?_⟩)⟩ (fun i j => by dsimp only; split <;> first | rfl | exact getD_no rfl) rfl rfl (Nat.le_of_ble_eq_true rfl) ?_
    refine ARun.pure (PureOp.fieldPtr rfl (.tmp rfl) vk_fi_27_0_0) rfl rfl (Nat.le_of_ble_eq_true rfl) ?_
    refine ARun.store rfl (.tmp rfl) (.tmp rfl) trivial rfl (Nat.le_of_ble_eq_true rfl) vk_sz_23_1 rfl rfl ?_
    refine ARun.nil ?_
    refine AW.region ?_
    refine ARun.pure (PureOp.add (c := ((k + 1 : Nat) : Int)) rfl (.tmp rfl) .int (by rw [wrap_id (by omega) (by omega)]; omega)) rfl rfl (Nat.le_of_ble_eq_true rfl) ?_
    refine ARun.pure (PureOp.move rfl (.tmp rfl)) rfl rfl (Nat.le_of_ble_eq_true rfl) ?_
    refine ARun.nil ?_
    exact ⟨k + 1, (swp 2 4), by omega, by dsimp only; omega, swp_inj, (swp_fix rfl rfl), ⟨⟨⟨_, rfl, rfl⟩, ⟨_, rfl, rfl⟩, ⟨_, rfl, rfl⟩, ⟨_, rfl, rfl⟩, ⟨_, rfl, rfl⟩, trivial⟩, ⟨⟨_, rfl, rfl, Nat.le_refl _, fun _ _ _ _ => rfl⟩, ⟨_, rfl, rfl, Nat.le_refl _, fun _ _ _ _ => rfl⟩, ⟨_, rfl, rfl, Nat.le_refl _, fun i j hi (hj : j < 5) => match j, hj with | 0, _ => app_at hi (fun _ => rfl) (fun h => by subst h; rfl) | 1, _ => app_at hi (fun _ => rfl) (fun h => by subst h; rfl) | 2, _ => app_at hi (fun _ => rfl) (fun h => by subst h; rfl) | 3, _ => app_at hi (fun _ => rfl) (fun h => by subst h; rfl) | 4, _ => app_at hi (fun _ => rfl) (fun h => by subst h; rfl) | _ + 5, h => absurd h (by omega)⟩, trivial⟩⟩⟩
  · have _u := True.intro
    replace hb1 := of_decide_eq_false hb1
    have hkl : ¬ k < l.length := by omega
    obtain rfl : k = l.length := by omega
    refine AW.exit ?_
    refine AW.seq ?_
    refine AW.region ?_
    refine ARun.pure (PureOp.loadPtrAgg rfl (.tmp rfl) vk_ag_27_3 rfl rfl (Nat.le_of_ble_eq_true rfl) (Nat.le_of_ble_eq_true rfl)) rfl rfl (Nat.le_of_ble_eq_true rfl) ?_
    refine ARun.store rfl (.tmp rfl) (.tmp rfl) (SV.cells_of (by exact ⟨trivial, ⟨rfl, (fun _ e => by cases e), (fun _ e => by cases e)⟩, ⟨rfl, (fun _ e => by cases e), (fun _ e => by cases e)⟩, trivial⟩)) rfl (Nat.le_of_ble_eq_true rfl) vk_sz_27_3 rfl rfl ?_
    refine ARun.nil ?_
    exact AW.ret (show ∃ s t, ResL _ _ [.cell 2 27] s ∧ TvS _ (ofLeaf t) 0 s _ from ⟨_, fun a b => if a = 2 then 0 else 1000, .inl ⟨_, rfl, .cells rfl vk_ag_27_3 rfl rfl (Nat.le_of_ble_eq_true rfl) (Nat.le_of_ble_eq_true rfl)⟩, ⟨(Tv.partN (pn_len l) rfl rfl rfl (Nat.le_refl _) (by rfl) (fun i j hi hj => match j, hj with | 0, _ => .inl ⟨by show nodeC l i 0 = ceNode ((pollNodes l).getD i default) 0; rw [pn_at hi]; rfl, rfl⟩ | 1, _ => .inl ⟨by show nodeC l i 1 = ceNode ((pollNodes l).getD i default) 1; rw [pn_at hi]; rfl, rfl⟩ | 2, _ => .inl ⟨by show nodeC l i 2 = ceNode ((pollNodes l).getD i default) 2; rw [pn_at hi]; rfl, rfl⟩ | 3, _ => .inr ⟨rfl, 1, _, by show ceNode ((pollNodes l).getD i default) 3 = _; rw [pn_at hi]; rfl⟩ | 4, _ => .inl ⟨by show nodeC l i 4 = ceNode ((pollNodes l).getD i default) 4; rw [pn_at hi]; rfl, rfl⟩ | _ + 5, h => absurd h (by omega))), .nil, .nil, trivial⟩⟩)

theorem v_sNewPoll (l : List Int) : FnT Try.prog 14 [.one (.lst 1 l.length (fun i0 _ => .int .i64 (l.getD i0 0)))] (.tup2 (.agg [.lst 5 ((((newPollV l).1).nodes).length) (fun i0 j0 => ([.int .i64 (((((newPollV l).1).nodes).getD i0 (default : GNode)).term), .int .i64 (((((newPollV l).1).nodes).getD i0 (default : GNode)).voted), .int .i64 (((((newPollV l).1).nodes).getD i0 (default : GNode)).age), .lst 1 ((((((newPollV l).1).nodes).getD i0 (default : GNode)).heard).length) (fun i1 _ => .int .i64 ((((((newPollV l).1).nodes).getD i0 (default : GNode)).heard).getD i1 0)), .int .i64 (((((newPollV l).1).nodes).getD i0 (default : GNode)).role)] : List AV).getD j0 (.con undef)), .lst 5 ((((newPollV l).1).letters).length) (fun i0 j0 => ([.int .i64 (((((newPollV l).1).letters).getD i0 (default : GLetter)).from_), .int .i64 (((((newPollV l).1).letters).getD i0 (default : GLetter)).to), .int .i64 (((((newPollV l).1).letters).getD i0 (default : GLetter)).term), .bool (((((newPollV l).1).letters).getD i0 (default : GLetter)).ask), .int .i64 (((((newPollV l).1).letters).getD i0 (default : GLetter)).age)] : List AV).getD j0 (.con undef)), .lst 1 ((((newPollV l).1).leaders).length) (fun i0 _ => .lst 1 (((((newPollV l).1).leaders).getD i0 []).length) (fun i1 _ => .int .i64 (((((newPollV l).1).leaders).getD i0 []).getD i1 0)))]) (.one (.bool ((newPollV l).2)))) := by
  refine FnT.of_body (fn := Try.f14) Try.func14 rfl (Nat.le_of_ble_eq_true rfl)  ?_
  intro w0
  show AW _ 32 _ _ _ _
  refine AW.bound (t := 0) rfl fun hx => ?_
  refine AW.seq ?_
  refine AW.region ?_
  refine ARun.alloc (id := 0) (l := [.con (.slice none 0 0), .con (.slice none 0 0), .con (.slice none 0 0)]) (z := (.agg #[.slice none 0 0, .slice none 0 0, .slice none 0 0])) rfl (by kernel_rfl) (fun _ _ _ => ⟨_, _, rfl, rfl, ⟨_, _, rfl, rfl, ⟨_, _, rfl, rfl, rfl⟩⟩⟩) ⟨rfl, (by repeat first | exact trivial | refine ⟨by decide, by first | rfl | exact trivial | (intro i j; first | rfl | exact getD_no rfl | (dsimp only; split <;> first | rfl | exact getD_no rfl)), ?_⟩)⟩ rfl rfl rfl (Nat.le_of_ble_eq_true rfl) ?_
  refine ARun.pure (PureOp.assign rfl .bool) rfl rfl (Nat.le_of_ble_eq_true rfl) ?_
  refine ARun.nil ?_
  refine AW.seq ?_
  refine AW.seq ?_
  refine AW.region ?_
  refine ARun.pure (PureOp.move rfl (.tmp rfl)) rfl rfl (Nat.le_of_ble_eq_true rfl) ?_
  refine ARun.pure (PureOp.lenLst rfl (.tmp rfl) vk_sl_22) rfl rfl (Nat.le_of_ble_eq_true rfl) ?_
  refine ARun.pure (PureOp.call rfl (v_l1In (l.length : Int) 1 5) ⟨⟨_, (.tmp rfl), .int⟩, ⟨_, .int, .int⟩, ⟨_, .int, .int⟩, trivial⟩ vk_ca_57 trivial) rfl rfl (Nat.le_of_ble_eq_true rfl) ?_
  refine ARun.pure (PureOp.not rfl (.tmp rfl)) rfl rfl (Nat.le_of_ble_eq_true rfl) ?_
  refine ARun.pure (PureOp.move rfl (.tmp rfl)) rfl rfl (Nat.le_of_ble_eq_true rfl) ?_
  refine ARun.gpure (want := false) (.tf rfl) (fun hg1 => PureOp.move rfl (.tmp rfl)) rfl rfl (Nat.le_of_ble_eq_true rfl) rfl (Nat.le_of_ble_eq_true rfl) ?_
  refine ARun.gpure (want := false) (.tf rfl) (fun hg2 => PureOp.call rfl (v_l1All l 0 9) ⟨⟨_, (.gtmp rfl hg2), .lst⟩, ⟨_, .int, .int⟩, ⟨_, .int, .int⟩, trivial⟩ vk_ca_58 trivial) rfl rfl (Nat.le_of_ble_eq_true rfl) rfl (Nat.le_of_ble_eq_true rfl) ?_
  refine ARun.gpure (want := false) (.tf rfl) (fun hg3 => PureOp.not rfl (.gtmp rfl hg3)) rfl rfl (Nat.le_of_ble_eq_true rfl) rfl (Nat.le_of_ble_eq_true rfl) ?_
  refine ARun.pure (PureOp.pick rfl (.tmp rfl) (fun _ => .bool) (fun hp5 => .gtmp rfl (not_of hp5))) rfl rfl (Nat.le_of_ble_eq_true rfl) ?_
  refine ARun.nil ?_
  refine AW.cond (.tmp rfl) (fun hb6 => ?_) (fun hb6 => ?_)
  · have _u := True.intro
    have hc : okAges l = false := by revert hb6; unfold okAges; generalize inB 1 5 (l.length : Int) = a1; generalize l.all (inB 0 9) = a2; revert a1 a2; decide
    refine AW.seq ?_
    refine AW.region ?_
    refine ARun.pure (PureOp.build (ys := []) (l := [.con (.slice none 0 0), .con (.slice none 0 0), .con (.slice none 0 0)]) (pl := [(0, 1), (1, 1), (2, 1)]) (z := (.agg #[.slice none 0 0, .slice none 0 0, .slice none 0 0])) rfl (by kernel_rfl) (by kernel_rfl) (fun _ _ _ => ⟨_, _, rfl, rfl, ⟨_, _, rfl, rfl, ⟨_, _, rfl, rfl, rfl⟩⟩⟩) trivial rfl) rfl rfl (Nat.le_of_ble_eq_true rfl) ?_
    refine ARun.store rfl (.tmp rfl) (.tmp rfl) (SV.cells_of (by exact ⟨⟨rfl, (fun _ e => by cases e), (fun _ e => by cases e)⟩, ⟨rfl, (fun _ e => by cases e), (fun _ e => by cases e)⟩, ⟨rfl, (fun _ e => by cases e), (fun _ e => by cases e)⟩, trivial⟩)) rfl (Nat.le_of_ble_eq_true rfl) vk_sz_27_3 rfl rfl ?_
    refine ARun.pure (PureOp.assign rfl .bool) rfl rfl (Nat.le_of_ble_eq_true rfl) ?_
    refine ARun.nil ?_
    rw [show newPollV l = (⟨[], [], []⟩, false) from if_neg (by rw [hc]; decide)]
    exact AW.ret (show ∃ s t, ResL _ _ [.cell 2 27, .tmp 3] s ∧ TvS _ (ofLeaf t) 0 s _ from ⟨_, fun a b => 1000, .inr (.inl ⟨_, _, _, _, rfl, .cells rfl vk_ag_27_3 rfl rfl (Nat.le_of_ble_eq_true rfl) (Nat.le_of_ble_eq_true rfl), .tmp rfl, rfl⟩), ⟨⟨.nil, .nil, .nil, trivial⟩, .bool⟩⟩)
  · have _u := True.intro
    have hc : okAges l = true := by revert hb6; unfold okAges; generalize inB 1 5 (l.length : Int) = a1; generalize l.all (inB 0 9) = a2; revert a1 a2; decide
    have hl5 : l.length ≤ 5 := by have h5 := (inB_true (and_l (show (inB 1 5 (l.length : Int) && l.all (inB 0 9)) = true from hc))).2; omega
    refine AW.skip ?_
    refine AW.seq ?_
    refine AW.region ?_
    refine ARun.alloc (id := 1) (l := [.con (.slice none 0 0), .con (.slice none 0 0), .con (.slice none 0 0)]) (z := (.agg #[.slice none 0 0, .slice none 0 0, .slice none 0 0])) rfl (by kernel_rfl) (fun _ _ _ => ⟨_, _, rfl, rfl, ⟨_, _, rfl, rfl, ⟨_, _, rfl, rfl, rfl⟩⟩⟩) ⟨rfl, (by repeat first | exact trivial | refine ⟨by decide, by first | rfl | exact trivial | (intro i j; first | rfl | exact getD_no rfl | (dsimp only; split <;> first | rfl | exact getD_no rfl)), ?_⟩)⟩ rfl rfl rfl (Nat.le_of_ble_eq_true rfl) ?_
    refine ARun.nil ?_
    refine AW.seq ?_
    refine AW.seq ?_
    refine AW.region ?_
    refine ARun.pure (PureOp.move rfl (.tmp rfl)) rfl rfl (Nat.le_of_ble_eq_true rfl) ?_
    refine ARun.pure (PureOp.lenLst rfl (.tmp rfl) vk_sl_22) rfl rfl (Nat.le_of_ble_eq_true rfl) ?_
    refine ARun.pure (PureOp.move rfl .int) rfl rfl (Nat.le_of_ble_eq_true rfl) ?_
    refine ARun.nil ?_
    refine AW.block ?_
    refine AW.nilCell 1 0 2 5 _ (nodeC l) rfl rfl ⟨rfl, (by repeat first | exact trivial | refine ⟨by decide, by first | rfl | exact trivial | (intro i j; first | rfl | exact getD_no rfl | (dsimp only; split <;> first | rfl | exact getD_no rfl)), ?_⟩)⟩ ?_
    -- objects are renamed
    refine AW.loopR (ι := Nat) (fun k => ⟨[(2, .one (.ptr 0 3 0 0)), (4, .one (.ptr 1 3 0 0)), (17, .one (.lst 1 l.length (fun i0 _ => .int .i64 (l.getD i0 0)))), (18, .one (.int .i64 (l.length : Int))), (19, .one (.int .i64 (k : Int)))], [(0, .cells [.con (.slice none 0 0), .con (.slice none 0 0), .con (.slice none 0 0)]), (1, .cells [.own 2 5 k, .con (.slice none 0 0), .con (.slice none 0 0)]), (2, .arr 5 k (nodeC l))]⟩) (fun k => k ≤ l.length) (fun k => l.length - k) 0 (Nat.zero_le _) ⟨⟨⟨_, rfl, rfl⟩, ⟨_, rfl, rfl⟩, ⟨_, rfl, rfl⟩, ⟨_, rfl, rfl⟩, ⟨_, rfl, rfl⟩, trivial⟩, ⟨⟨_, rfl, rfl, Nat.le_refl _, fun _ _ _ _ => rfl⟩, ⟨_, rfl, rfl, Nat.le_refl _, fun _ _ _ _ => rfl⟩, ⟨_, rfl, rfl, Nat.le_refl _, fun _ _ _ _ => rfl⟩, trivial⟩⟩ ?_
    intro k hk
    refine AW.seq ?_
    refine AW.region ?_
    refine ARun.pure (PureOp.intOp rfl (.tmp rfl) (.tmp rfl) rfl) rfl rfl (Nat.le_of_ble_eq_true rfl) ?_
    refine ARun.nil ?_
    refine AW.seq ?_
    refine AW.cond (.tmp rfl) (fun hb7 => ?_) (fun hb7 => ?_)
    · have _u := True.intro
      replace hb7 := of_decide_eq_true hb7
      have hkl : k < l.length := by omega
      refine AW.skip ?_
      refine AW.seq ?_
      refine AW.block ?_
      refine AW.seq ?_
      refine AW.region ?_
      refine ARun.pure (PureOp.indexLst (i := k) rfl (.tmp rfl) vk_el_22_1 (.tmp rfl) rfl (by omega)) rfl rfl (Nat.le_of_ble_eq_true rfl) ?_
      refine ARun.pure (PureOp.loadRef rfl (.tmp rfl) vk_pl_3 (Nat.le_of_ble_eq_true rfl)) rfl rfl (Nat.le_of_ble_eq_true rfl) ?_
      refine ARun.pure (PureOp.assign rfl (.tmp rfl)) rfl rfl (Nat.le_of_ble_eq_true rfl) ?_
      refine ARun.nil ?_
      refine AW.region ?_
      refine ARun.pure (PureOp.fieldPtr rfl (.tmp rfl) vk_fi_27_0_0) rfl rfl (Nat.le_of_ble_eq_true rfl) ?_
      refine ARun.pure (PureOp.loadPtr rfl (.tmp rfl) vk_pl_23 rfl rfl (Nat.le_of_ble_eq_true rfl) (Nat.le_of_ble_eq_true rfl)) rfl rfl (Nat.le_of_ble_eq_true rfl) ?_
      refine ARun.pure (PureOp.move rfl (.tmp rfl)) rfl rfl (Nat.le_of_ble_eq_true rfl) ?_
      refine ARun.pure (PureOp.build (ys := [.int .i64 (-1), .int .i64 (l.getD k 0)]) (l := [.int .i64 0, .int .i64 0, .int .i64 0, .con (.slice none 0 0), .int .i64 0]) (pl := [(0, 1), (1, 1), (2, 1), (3, 1), (4, 1)]) (z := (.agg #[.int .i64 0, .int .i64 0, .int .i64 0, .slice none 0 0, .int .i64 0])) rfl (by kernel_rfl) (by kernel_rfl) (fun _ _ _ => ⟨_, _, rfl, rfl, ⟨_, _, rfl, rfl, ⟨_, _, rfl, rfl, ⟨_, _, rfl, rfl, ⟨_, _, rfl, rfl, rfl⟩⟩⟩⟩⟩) ⟨.int, trivial, rfl, ⟨(.tmp rfl), trivial, rfl, trivial⟩⟩ rfl) rfl rfl (Nat.le_of_ble_eq_true rfl) ?_
      refine ARun.slice1 (id := 3) (z := (.agg #[.int .i64 0, .int .i64 0, .int .i64 0, .slice none 0 0, .int .i64 0])) (by_ := 56) rfl (.tmp rfl) (SV.cells_of (by exact ⟨trivial, trivial, trivial, ⟨rfl, (fun _ e => by cases e), (fun _ e => by cases e)⟩, trivial, trivial⟩)) (by kernel_rfl) rfl rfl (by decide) (by decide) ⟨rfl, (by repeat first | exact trivial | refine ⟨by decide, by first | rfl | exact trivial | (intro i j; first | rfl | exact getD_no rfl | (dsimp only; split <;> first | rfl | exact getD_no rfl)), ?_⟩)⟩ rfl rfl rfl (Nat.le_of_ble_eq_true rfl) ?_
      refine ARun.append (id := 4) (sz := 5) (n := k) (m := 1) (by_ := 56) (z := (.agg #[.int .i64 0, .int .i64 0, .int .i64 0, .slice none 0 0, .int .i64 0])) (f := nodeC l) (g := fun _ j => ([.int .i64 0, .int .i64 (-1), .int .i64 (l.getD k 0), .con (.slice none 0 0), .int .i64 0] : List AV).getD j (.con undef)) (h := fun i j => if i < k then (nodeC l) i j else (fun _ j => ([.int .i64 0, .int .i64 (-1), .int .i64 (l.getD k 0), .con (.slice none 0 0), .int .i64 0] : List AV).getD j (.con undef)) (i - k) j) rfl (by kernel_rfl) rfl vk_sl_23 (.own (.tmp rfl) rfl rfl rfl (Nat.le_refl _) (fun _ _ _ _ => rfl)) (.own (.tmp rfl) rfl rfl (Nat.le_refl _) (fun _ _ _ _ => rfl)) (by decide) (fun i j hi hj => match j, hj with | 0, _ => rfl | 1, _ => rfl | 2, _ => rfl | 3, _ => rfl | 4, _ => rfl | _ + 5, h => absurd h (by omega)) (fun _ _ _ _ => rfl) (by omega) (by omega) ⟨rfl, (by repeat first | exact trivial | refine ⟨by decide, by first | rfl | exact trivial | (intro i j; first | rfl | exact getD_no rfl | (dsimp only; split <;> first | rfl | exact getD_no rfl)), ?_⟩)⟩ (fun i j => by dsimp only; split <;> first | rfl | exact getD_no rfl) rfl rfl (Nat.le_of_ble_eq_true rfl) ?_
      refine ARun.pure (PureOp.fieldPtr rfl (.tmp rfl) vk_fi_27_0_0) rfl rfl (Nat.le_of_ble_eq_true rfl) ?_
      refine ARun.store rfl (.tmp rfl) (.tmp rfl) trivial rfl (Nat.le_of_ble_eq_true rfl) vk_sz_23_1 rfl rfl ?_
      refine ARun.nil ?_
      refine AW.region ?_
      refine ARun.pure (PureOp.add (c := ((k + 1 : Nat) : Int)) rfl (.tmp rfl) .int (by rw [wrap_id (by omega) (by omega)]; omega)) rfl rfl (Nat.le_of_ble_eq_true rfl) ?_
      refine ARun.pure (PureOp.move rfl (.tmp rfl)) rfl rfl (Nat.le_of_ble_eq_true rfl) ?_
      refine ARun.nil ?_
      exact ⟨k + 1, (swp 2 4), by omega, by dsimp only; omega, swp_inj, (swp_fix rfl rfl), ⟨⟨⟨_, rfl, rfl⟩, ⟨_, rfl, rfl⟩, ⟨_, rfl, rfl⟩, ⟨_, rfl, rfl⟩, ⟨_, rfl, rfl⟩, trivial⟩, ⟨⟨_, rfl, rfl, Nat.le_refl _, fun _ _ _ _ => rfl⟩, ⟨_, rfl, rfl, Nat.le_refl _, fun _ _ _ _ => rfl⟩, ⟨_, rfl, rfl, Nat.le_refl _, fun i j hi (hj : j < 5) => match j, hj with | 0, _ => app_at hi (fun _ => rfl) (fun h => by subst h; rfl) | 1, _ => app_at hi (fun _ => rfl) (fun h => by subst h; rfl) | 2, _ => app_at hi (fun _ => rfl) (fun h => by subst h; rfl) | 3, _ => app_at hi (fun _ => rfl) (fun h => by subst h; rfl) | 4, _ => app_at hi (fun _ => rfl) (fun h => by subst h; rfl) | _ + 5, h => absurd h (by omega)⟩, trivial⟩⟩⟩
    · have _u := True.intro
      replace hb7 := of_decide_eq_false hb7
      have hkl : ¬ k < l.length := by omega
      obtain rfl : k = l.length := by omega
      refine AW.exit ?_
      refine AW.seq ?_
      refine AW.region ?_
      refine ARun.pure (PureOp.loadPtrAgg rfl (.tmp rfl) vk_ag_27_3 rfl rfl (Nat.le_of_ble_eq_true rfl) (Nat.le_of_ble_eq_true rfl)) rfl rfl (Nat.le_of_ble_eq_true rfl) ?_
      refine ARun.store rfl (.tmp rfl) (.tmp rfl) (SV.cells_of (by exact ⟨trivial, ⟨rfl, (fun _ e => by cases e), (fun _ e => by cases e)⟩, ⟨rfl, (fun _ e => by cases e), (fun _ e => by cases e)⟩, trivial⟩)) rfl (Nat.le_of_ble_eq_true rfl) vk_sz_27_3 rfl rfl ?_
      refine ARun.pure (PureOp.assign rfl .bool) rfl rfl (Nat.le_of_ble_eq_true rfl) ?_
      refine ARun.nil ?_
      rw [show newPollV l = (newPollD l, true) from if_pos hc]
      exact AW.ret (show ∃ s t, ResL _ _ [.cell 2 27, .tmp 3] s ∧ TvS _ (ofLeaf t) 0 s _ from ⟨_, fun a b => if a = 2 then 0 else 1000, .inr (.inl ⟨_, _, _, _, rfl, .cells rfl vk_ag_27_3 rfl rfl (Nat.le_of_ble_eq_true rfl) (Nat.le_of_ble_eq_true rfl), .tmp rfl, rfl⟩), ⟨⟨(Tv.partN (pn_len l) rfl rfl rfl (Nat.le_refl _) (by rfl) (fun i j hi hj => match j, hj with | 0, _ => .inl ⟨by show nodeC l i 0 = ceNode ((pollNodes l).getD i default) 0; rw [pn_at hi]; rfl, rfl⟩ | 1, _ => .inl ⟨by show nodeC l i 1 = ceNode ((pollNodes l).getD i default) 1; rw [pn_at hi]; rfl, rfl⟩ | 2, _ => .inl ⟨by show nodeC l i 2 = ceNode ((pollNodes l).getD i default) 2; rw [pn_at hi]; rfl, rfl⟩ | 3, _ => .inr ⟨rfl, 1, _, by show ceNode ((pollNodes l).getD i default) 3 = _; rw [pn_at hi]; rfl⟩ | 4, _ => .inl ⟨by show nodeC l i 4 = ceNode ((pollNodes l).getD i default) 4; rw [pn_at hi]; rfl, rfl⟩ | _ + 5, h => absurd h (by omega))), .nil, .nil, trivial⟩, .bool⟩⟩)

theorem v_iNewPoll (l : List Int) : FnT Try.prog 16 [.one (.lst 1 l.length (fun i0 _ => .int .i64 (l.getD i0 0)))] (.tup2 (.agg [.lst 5 ((((newPollV l).1).nodes).length) (fun i0 j0 => ([.int .i64 (((((newPollV l).1).nodes).getD i0 (default : GNode)).term), .int .i64 (((((newPollV l).1).nodes).getD i0 (default : GNode)).voted), .int .i64 (((((newPollV l).1).nodes).getD i0 (default : GNode)).age), .lst 1 ((((((newPollV l).1).nodes).getD i0 (default : GNode)).heard).length) (fun i1 _ => .int .i64 ((((((newPollV l).1).nodes).getD i0 (default : GNode)).heard).getD i1 0)), .int .i64 (((((newPollV l).1).nodes).getD i0 (default : GNode)).role)] : List AV).getD j0 (.con undef)), .lst 5 ((((newPollV l).1).letters).length) (fun i0 j0 => ([.int .i64 (((((newPollV l).1).letters).getD i0 (default : GLetter)).from_), .int .i64 (((((newPollV l).1).letters).getD i0 (default : GLetter)).to), .int .i64 (((((newPollV l).1).letters).getD i0 (default : GLetter)).term), .bool (((((newPollV l).1).letters).getD i0 (default : GLetter)).ask), .int .i64 (((((newPollV l).1).letters).getD i0 (default : GLetter)).age)] : List AV).getD j0 (.con undef)), .lst 1 ((((newPollV l).1).leaders).length) (fun i0 _ => .lst 1 (((((newPollV l).1).leaders).getD i0 []).length) (fun i1 _ => .int .i64 (((((newPollV l).1).leaders).getD i0 []).getD i1 0)))]) (.one (.bool ((newPollV l).2)))) := by
  refine FnT.of_body (fn := Try.f16) Try.func16 rfl (Nat.le_of_ble_eq_true rfl)  ?_
  intro w0
  show AW _ 15 _ _ _ _
  refine AW.bound (t := 0) rfl fun hx => ?_
  refine AW.seq ?_
  refine AW.region ?_
  refine ARun.alloc (id := 0) (l := [.con (.slice none 0 0), .con (.slice none 0 0), .con (.slice none 0 0)]) (z := (.agg #[.slice none 0 0, .slice none 0 0, .slice none 0 0])) rfl (by kernel_rfl) (fun _ _ _ => ⟨_, _, rfl, rfl, ⟨_, _, rfl, rfl, ⟨_, _, rfl, rfl, rfl⟩⟩⟩) ⟨rfl, (by repeat first | exact trivial | refine ⟨by decide, by first | rfl | exact trivial | (intro i j; first | rfl | exact getD_no rfl | (dsimp only; split <;> first | rfl | exact getD_no rfl)), ?_⟩)⟩ rfl rfl rfl (Nat.le_of_ble_eq_true rfl) ?_
  refine ARun.pure (PureOp.assign rfl .bool) rfl rfl (Nat.le_of_ble_eq_true rfl) ?_
  refine ARun.nil ?_
  refine AW.seq ?_
  refine AW.seq ?_
  refine AW.region ?_
  refine ARun.pure (PureOp.move rfl (.tmp rfl)) rfl rfl (Nat.le_of_ble_eq_true rfl) ?_
  refine ARun.pure (PureOp.lenLst rfl (.tmp rfl) vk_sl_22) rfl rfl (Nat.le_of_ble_eq_true rfl) ?_
  refine ARun.pure (PureOp.call rfl (v_within (l.length : Int) 1 5) ⟨⟨_, (.tmp rfl), .int⟩, ⟨_, .int, .int⟩, ⟨_, .int, .int⟩, trivial⟩ vk_ca_59 trivial) rfl rfl (Nat.le_of_ble_eq_true rfl) ?_
  refine ARun.pure (PureOp.not rfl (.tmp rfl)) rfl rfl (Nat.le_of_ble_eq_true rfl) ?_
  refine ARun.pure (PureOp.move rfl (.tmp rfl)) rfl rfl (Nat.le_of_ble_eq_true rfl) ?_
  refine ARun.gpure (want := false) (.tf rfl) (fun hg1 => PureOp.move rfl (.tmp rfl)) rfl rfl (Nat.le_of_ble_eq_true rfl) rfl (Nat.le_of_ble_eq_true rfl) ?_
  refine ARun.gpure (want := false) (.tf rfl) (fun hg2 => PureOp.call rfl (v_ContainsFunc_Int l 61 0 (fun _ => .con undef) (fun x => !inB 0 9 x) (fun j h => absurd h (by omega)) vk_ca_61 (fun k hk => v_NewPoll1 _)) ⟨⟨_, (.gtmp rfl hg2), .lst⟩, ⟨_, .func, (.fn (fun j h => absurd h (by omega)))⟩, trivial⟩ vk_ca_60 trivial) rfl rfl (Nat.le_of_ble_eq_true rfl) rfl (Nat.le_of_ble_eq_true rfl) ?_
  refine ARun.pure (PureOp.pick rfl (.tmp rfl) (fun _ => .bool) (fun hp4 => .gtmp rfl (not_of hp4))) rfl rfl (Nat.le_of_ble_eq_true rfl) ?_
  refine ARun.nil ?_
  refine AW.cond (.tmp rfl) (fun hb5 => ?_) (fun hb5 => ?_)
  · have _u := True.intro
    have hc : okAges l = false := by revert hb5; rw [show l.any (fun x => !inB 0 9 x) = !(l.all (inB 0 9)) from by rw [List.all_eq_not_any_not, Bool.not_not]]; unfold okAges; generalize inB 1 5 (l.length : Int) = a1; generalize l.all (inB 0 9) = a2; revert a1 a2; decide
    refine AW.seq ?_
    refine AW.region ?_
    refine ARun.pure (PureOp.build (ys := []) (l := [.con (.slice none 0 0), .con (.slice none 0 0), .con (.slice none 0 0)]) (pl := [(0, 1), (1, 1), (2, 1)]) (z := (.agg #[.slice none 0 0, .slice none 0 0, .slice none 0 0])) rfl (by kernel_rfl) (by kernel_rfl) (fun _ _ _ => ⟨_, _, rfl, rfl, ⟨_, _, rfl, rfl, ⟨_, _, rfl, rfl, rfl⟩⟩⟩) trivial rfl) rfl rfl (Nat.le_of_ble_eq_true rfl) ?_
    refine ARun.store rfl (.tmp rfl) (.tmp rfl) (SV.cells_of (by exact ⟨⟨rfl, (fun _ e => by cases e), (fun _ e => by cases e)⟩, ⟨rfl, (fun _ e => by cases e), (fun _ e => by cases e)⟩, ⟨rfl, (fun _ e => by cases e), (fun _ e => by cases e)⟩, trivial⟩)) rfl (Nat.le_of_ble_eq_true rfl) vk_sz_27_3 rfl rfl ?_
    refine ARun.pure (PureOp.assign rfl .bool) rfl rfl (Nat.le_of_ble_eq_true rfl) ?_
    refine ARun.nil ?_
    rw [show newPollV l = (⟨[], [], []⟩, false) from if_neg (by rw [hc]; decide)]
    exact AW.ret (show ∃ s t, ResL _ _ [.cell 2 27, .tmp 3] s ∧ TvS _ (ofLeaf t) 0 s _ from ⟨_, fun a b => 1000, .inr (.inl ⟨_, _, _, _, rfl, .cells rfl vk_ag_27_3 rfl rfl (Nat.le_of_ble_eq_true rfl) (Nat.le_of_ble_eq_true rfl), .tmp rfl, rfl⟩), ⟨⟨.nil, .nil, .nil, trivial⟩, .bool⟩⟩)
  · have _u := True.intro
    have hc : okAges l = true := by revert hb5; rw [show l.any (fun x => !inB 0 9 x) = !(l.all (inB 0 9)) from by rw [List.all_eq_not_any_not, Bool.not_not]]; unfold okAges; generalize inB 1 5 (l.length : Int) = a1; generalize l.all (inB 0 9) = a2; revert a1 a2; decide
    have hl5 : l.length ≤ 5 := by have h5 := (inB_true (and_l (show (inB 1 5 (l.length : Int) && l.all (inB 0 9)) = true from hc))).2; omega
    refine AW.skip ?_
    refine AW.seq ?_
    refine AW.region ?_
    refine ARun.pure (PureOp.move rfl (.tmp rfl)) rfl rfl (Nat.le_of_ble_eq_true rfl) ?_
    refine ARun.prod (K := 1) rfl (v_newPoll l (by omega)) ⟨rfl, (by repeat first | exact trivial | refine ⟨by decide, by first | rfl | exact trivial | (intro i j; first | rfl | exact getD_no rfl | (dsimp only; split <;> first | rfl | exact getD_no rfl)), ?_⟩)⟩ ⟨⟨_, (.tmp rfl), .lst⟩, trivial⟩ vk_ca_63 rfl rfl rfl rfl rfl (Nat.le_of_ble_eq_true rfl) ?_
    refine ARun.store rfl (.tmp rfl) (.tmp rfl) (SV.cells_of (by exact ⟨trivial, trivial, trivial, trivial⟩)) rfl (Nat.le_of_ble_eq_true rfl) vk_sz_27_3 rfl rfl ?_
    refine ARun.pure (PureOp.assign rfl .bool) rfl rfl (Nat.le_of_ble_eq_true rfl) ?_
    refine ARun.nil ?_
    rw [show newPollV l = (newPollD l, true) from if_pos hc]
    exact AW.ret (show ∃ s t, ResL _ _ [.cell 2 27, .tmp 3] s ∧ TvS _ (ofLeaf t) 0 s _ from ⟨_, fun a b => if a = 1 then b else 1000, .inr (.inl ⟨_, _, _, _, rfl, .cells rfl vk_ag_27_3 rfl rfl (Nat.le_of_ble_eq_true rfl) (Nat.le_of_ble_eq_true rfl), .tmp rfl, rfl⟩), ⟨⟨(Tv.cast (Tv.tre rfl (Nat.le_of_ble_eq_true rfl) (by rfl)) rfl), (Tv.cast (Tv.tre rfl (Nat.le_of_ble_eq_true rfl) (by rfl)) rfl), (Tv.cast (Tv.tre rfl (Nat.le_of_ble_eq_true rfl) (by rfl)) rfl), trivial⟩, .bool⟩⟩)
end Go.Proofs.Ytlbnodmebehpiaa
