/-
  The text of labels, in the reference and in the program.
-/
import Derived.Test.YtmlhlkpiofbhgaaIs
import Derived.Test.YtmlhlkpiofbhgaaJn5
import Derived.Test.YtmlhlkpiofbhgaaVr
namespace Go.Proofs.Ytmlhlkpiofbhgaa
open Go.Proofs Go.Shelf
open Go.ChangeShapes Go.WideShapes Go.ChangeAt Go.RowKit Go.BigFrame Go.Deep
set_option linter.unusedVariables false
set_option linter.unusedSimpArgs false
theorem vjb_ag_106_2 : aggB Try.prog 106 2 = true := by kernel_rfl
theorem vjb_ca_122 : callB Try.prog 122 = true := by kernel_rfl
theorem vjb_el_54_1 : elemB Try.prog 54 1 = true := by kernel_rfl
theorem vjb_el_57_2 : elemB Try.prog 57 2 = true := by kernel_rfl
theorem vjb_fi_106_0_0 : fieldB Try.prog 106 0 0 = true := by kernel_rfl
theorem vjb_fi_106_1_1 : fieldB Try.prog 106 1 1 = true := by kernel_rfl
theorem vjb_pl_9 : plainB Try.prog 9 = true := by kernel_rfl
theorem vjb_sl_57 : sliceB Try.prog 57 = true := by kernel_rfl
theorem vjb_sz_106_2 : sizeB Try.prog 106 2 = true := by kernel_rfl
theorem vjb_sz_9_1 : sizeB Try.prog 9 1 = true := by kernel_rfl
theorem v_JoinF (n : Nat) (f : Nat → ByteArray) (sep : ByteArray) (hN : n ≤ 1000000) (hlen : (joinB ((List.range n).map f) sep).size ≤ 1000000) :
    Fn Try.prog 122 [.one (.lst 1 n fun i _ => .str (f i)), .one (.str sep)] (.one (.str (joinB ((List.range n).map f) sep))) := by
  intro w S vs hS hd
  refine v_Join ((List.range n).map f) sep (by simpa using hN) hlen w S vs hS ?_
  obtain ⟨v, vs1, rfl, h1, h2⟩ := hd
  refine ⟨v, vs1, rfl, ?_, h2⟩
  obtain ⟨A, c, e, g1, g2, g3, g4⟩ := h1
  refine ⟨A, c, by rw [e]; simp, by simpa using g1, g2, g3, fun i hi => ?_⟩
  have hi' : i < n := by simpa using hi
  obtain ⟨b, off, hA, hSb, hc⟩ := g4 i hi'
  refine ⟨b, off, hA, hSb, fun j hj => ?_⟩
  obtain ⟨u, hu, hd⟩ := hc j hj
  refine ⟨u, hu, ?_⟩
  have : ((List.range n).map f).getD i ByteArray.empty = f i := by
    rw [List.getD_eq_getElem?_getD, List.getElem?_map, List.getElem?_range hi']; rfl
  show D w S (.str (((List.range n).map f).getD i ByteArray.empty)) u
  rw [this]; exact hd
def labT (x : GLabel) : ByteArray := (x.lname ++ (⟨#[61]⟩ : ByteArray)) ++ x.lvalue
def textAt (l : List GLabel) : Nat → ByteArray
  | 0 => (⟨#[123]⟩ : ByteArray)
  | k + 1 => (if 0 < k then textAt l k ++ (⟨#[44]⟩ : ByteArray) else textAt l k) ++ labT (l.getD k (default : GLabel))
theorem ba_ext {a b : ByteArray} (h : a.data.toList = b.data.toList) : a = b := by
  obtain ⟨⟨x⟩⟩ := a
  obtain ⟨⟨y⟩⟩ := b
  simp at h
  rw [h]
theorem ba_app (a b : ByteArray) : (a ++ b).data.toList = a.data.toList ++ b.data.toList := by
  rw [ByteArray.data_append, Array.toList_append]
theorem joinB_data (xs : List ByteArray) (sep : ByteArray) : (joinB xs sep).data.toList = Lib.join (xs.map (·.data.toList)) sep.data.toList := by simp [joinB]
theorem join_last (xs : List (List UInt8)) (y sep : List UInt8) : Lib.join (xs ++ [y]) sep = if xs = [] then y else Lib.join xs sep ++ (sep ++ y) := by
  cases xs with
  | nil => simp [Lib.join_one]
  | cons x r => rw [if_neg (by simp), List.cons_append, Lib.join_cons, Lib.join_cons]; simp [Lib.joinTail]
theorem textAt_eq (l : List GLabel) : ∀ k, textAt l k = (⟨#[123]⟩ : ByteArray) ++ joinB ((List.range k).map fun i => labT (l.getD i (default : GLabel))) (⟨#[44]⟩ : ByteArray)
  | 0 => by
    refine ba_ext ?_
    rw [ba_app, joinB_data]; rfl
  | k + 1 => by
    have ih := textAt_eq l k
    refine ba_ext ?_
    rw [ba_app, joinB_data, List.range_succ, List.map_append, List.map_append, List.map_cons, List.map_cons, List.map_nil, List.map_nil, join_last]
    simp only [textAt]
    by_cases hk : 0 < k
    · rw [if_pos hk, if_neg (by simp; omega), ih, ba_app, ba_app, ba_app, joinB_data]
      simp
    · obtain rfl : k = 0 := by omega
      rfl
theorem lab_small {l : List GLabel} (h : labelsB l = true) : l.length ≤ 6 ∧ ∀ k, k < l.length → (l.getD k (default : GLabel)).lname.size ≤ 8 ∧ (l.getD k (default : GLabel)).lvalue.size ≤ 8 := by
  unfold labelsB at h
  rw [Bool.and_eq_true, decide_eq_true_eq] at h
  refine ⟨by omega, fun k hk => ?_⟩
  have h1 := rng_at h.1 hk
  unfold labBad nameB at h1
  simp only [Bool.cond_true_left, Bool.not_eq_true', Bool.or_eq_false_iff, Bool.not_eq_false', Bool.and_eq_true] at h1
  have e1 := (inB_true h1.1.1.2).2
  have e2 := (inB_true h1.1.2.2).2
  omega
theorem labT_size (x : GLabel) : (labT x).size = x.lname.size + 1 + x.lvalue.size := by
  unfold labT; rw [ByteArray.size_append, ByteArray.size_append]; rfl
theorem textAt_size {l : List GLabel} (h : labelsB l = true) : ∀ k, k ≤ l.length → (textAt l k).size ≤ 1 + 18 * k
  | 0, _ => Nat.le_refl 1
  | k + 1, hk => by
    have ih := textAt_size h k (by omega)
    have hs := (lab_small h).2 k (by omega)
    have e := labT_size (l.getD k (default : GLabel))
    have c : (⟨#[44]⟩ : ByteArray).size = 1 := rfl
    simp only [textAt]
    split <;> simp only [ByteArray.size_append] <;> omega
theorem join_size {l : List GLabel} (h : labelsB l = true) {k : Nat} (hk : k ≤ l.length) : (joinB ((List.range k).map fun i => labT (l.getD i (default : GLabel))) (⟨#[44]⟩ : ByteArray)).size ≤ 200 := by
  have h1 := textAt_size h k hk
  rw [textAt_eq, ByteArray.size_append] at h1
  have := (lab_small h).1
  omega
def labelsT (l : List GLabel) : ByteArray := textAt l l.length ++ (⟨#[125]⟩ : ByteArray)
theorem labelsT_size {l : List GLabel} (h : labelsB l = true) : (labelsT l).size ≤ 1000 := by
  have h1 := textAt_size h l.length (Nat.le_refl _)
  have h2 := (lab_small h).1
  have c : (⟨#[125]⟩ : ByteArray).size = 1 := rfl
  unfold labelsT; rw [ByteArray.size_append]; omega
theorem v_l3Text (l : List GLabel) (hl : labelsB l = true) : Fn Try.prog 89 [.one (.lst 2 l.length (fun i0 j0 => ([.str ((l.getD i0 (default : GLabel)).lname), .str ((l.getD i0 (default : GLabel)).lvalue)] : List AV).getD j0 (.con undef)))] (.one (.str (labelsT l))) := by
  obtain ⟨hl6, hls⟩ := lab_small hl
  have c61 : (⟨#[61]⟩ : ByteArray).size = 1 := rfl
  have c44 : (⟨#[44]⟩ : ByteArray).size = 1 := rfl
  have c123 : (⟨#[123]⟩ : ByteArray).size = 1 := rfl
  have c125 : (⟨#[125]⟩ : ByteArray).size = 1 := rfl
  refine Fn.of_body (fn := Try.f89) Try.func89 rfl (Nat.le_of_ble_eq_true rfl) (Nat.le_trans (labelsT_size hl) (by decide)) ?_
  intro w0
  show AW _ 28 _ _ _ _
  refine AW.bound (t := 0) rfl fun hx => ?_
  refine AW.seq ?_
  refine AW.region ?_
  refine ARun.pure (PureOp.assign rfl (.str (by decide))) rfl rfl (Nat.le_of_ble_eq_true rfl) ?_
  refine ARun.nil ?_
  refine AW.seq ?_
  refine AW.region ?_
  refine ARun.pure (PureOp.assign rfl (.str (by decide))) rfl rfl (Nat.le_of_ble_eq_true rfl) ?_
  refine ARun.nil ?_
  refine AW.seq ?_
  refine AW.seq ?_
  refine AW.region ?_
  refine ARun.pure (PureOp.move rfl (.tmp rfl)) rfl rfl (Nat.le_of_ble_eq_true rfl) ?_
  refine ARun.pure (PureOp.lenLst rfl (.tmp rfl) vjb_sl_57) rfl rfl (Nat.le_of_ble_eq_true rfl) ?_
  refine ARun.pure (PureOp.move rfl .int) rfl rfl (Nat.le_of_ble_eq_true rfl) ?_
  refine ARun.nil ?_
  refine AW.block ?_
  refine AW.loop (ι := Nat) (fun k => ⟨[(3, .one (.str (textAt l k))), (6, .one (.lst 2 l.length (fun i0 j0 => ([.str ((l.getD i0 (default : GLabel)).lname), .str ((l.getD i0 (default : GLabel)).lvalue)] : List AV).getD j0 (.con undef)))), (7, .one (.int .i64 (l.length : Int))), (8, .one (.int .i64 (k : Int)))], []⟩) (fun k => k ≤ l.length) (fun k => l.length - k) 0 (Nat.zero_le _) ⟨⟨⟨_, rfl, rfl⟩, ⟨_, rfl, rfl⟩, ⟨_, rfl, rfl⟩, ⟨_, rfl, rfl⟩, trivial⟩, trivial⟩ ?_
  intro k hk
  have hts := textAt_size hl k hk
  refine AW.seq ?_
  refine AW.region ?_
  refine ARun.pure (PureOp.intOp rfl (.tmp rfl) (.tmp rfl) rfl) rfl rfl (Nat.le_of_ble_eq_true rfl) ?_
  refine ARun.nil ?_
  refine AW.seq ?_
  refine AW.cond (.tmp rfl) (fun hb1 => ?_) (fun hb1 => ?_)
  · have _u := True.intro
    replace hb1 := of_decide_eq_true hb1
    have hkl : k < l.length := by omega
    obtain ⟨hs1, hs2⟩ := hls k hkl
    refine AW.skip ?_
    refine AW.seq ?_
    refine AW.block ?_
    refine AW.seq ?_
    refine AW.region ?_
    refine ARun.pure (PureOp.move rfl (.tmp rfl)) rfl rfl (Nat.le_of_ble_eq_true rfl) ?_
    refine ARun.pure (PureOp.indexLst (i := k) rfl (.tmp rfl) vjb_el_57_2 (.tmp rfl) rfl (by omega)) rfl rfl (Nat.le_of_ble_eq_true rfl) ?_
    refine ARun.pure (PureOp.loadRefAgg rfl (.tmp rfl) vjb_ag_106_2 (Nat.le_of_ble_eq_true rfl)) rfl rfl (Nat.le_of_ble_eq_true rfl) ?_
    refine ARun.alloc (id := 0) (l := [.str ByteArray.empty, .str ByteArray.empty]) (z := (.agg #[.string ByteArray.empty, .string ByteArray.empty])) rfl (by kernel_rfl) (fun _ _ _ => ⟨_, _, rfl, ⟨rfl, by decide⟩, ⟨_, _, rfl, ⟨rfl, by decide⟩, rfl⟩⟩) ⟨rfl, (by repeat first | exact trivial | refine ⟨by decide, by first | rfl | (intro i j; first | rfl | (dsimp only; split <;> rfl)), ?_⟩)⟩ rfl rfl rfl (Nat.le_of_ble_eq_true rfl) ?_
    refine ARun.pure (PureOp.assign rfl (.tmp rfl)) rfl rfl (Nat.le_of_ble_eq_true rfl) ?_
    refine ARun.store rfl (.tmp rfl) (.tmp rfl) (SV.cells_of (by exact ⟨trivial, trivial, trivial⟩)) rfl (Nat.le_of_ble_eq_true rfl) vjb_sz_106_2 rfl rfl ?_
    refine ARun.nil ?_
    refine AW.seq ?_
    refine AW.seq ?_
    refine AW.region ?_
    refine ARun.pure (PureOp.move rfl (.tmp rfl)) rfl rfl (Nat.le_of_ble_eq_true rfl) ?_
    refine ARun.pure (PureOp.intOp rfl (.tmp rfl) .int rfl) rfl rfl (Nat.le_of_ble_eq_true rfl) ?_
    refine ARun.nil ?_
    refine AW.cond (.tmp rfl) (fun hb2 => ?_) (fun hb2 => ?_)
    · have _u := True.intro
      replace hb2 := of_decide_eq_true hb2
      refine AW.region ?_
      refine ARun.pure (PureOp.move rfl (.tmp rfl)) rfl rfl (Nat.le_of_ble_eq_true rfl) ?_
      refine ARun.pure (PureOp.strAdd rfl (.tmp rfl) (.str (by decide)) (by skip; (try simp only [ByteArray.size_append]); omega)) rfl rfl (Nat.le_of_ble_eq_true rfl) ?_
      refine ARun.pure (PureOp.assign rfl (.tmp rfl)) rfl rfl (Nat.le_of_ble_eq_true rfl) ?_
      refine ARun.nil ?_
      refine AW.region ?_
      refine ARun.pure (PureOp.move rfl (.tmp rfl)) rfl rfl (Nat.le_of_ble_eq_true rfl) ?_
      refine ARun.pure (PureOp.fieldPtr rfl (.tmp rfl) vjb_fi_106_0_0) rfl rfl (Nat.le_of_ble_eq_true rfl) ?_
      refine ARun.pure (PureOp.loadPtr rfl (.tmp rfl) vjb_pl_9 rfl rfl (Nat.le_of_ble_eq_true rfl) (Nat.le_of_ble_eq_true rfl)) rfl rfl (Nat.le_of_ble_eq_true rfl) ?_
      refine ARun.pure (PureOp.strAdd rfl (.tmp rfl) (.str (by decide)) (by skip; (try simp only [ByteArray.size_append]); omega)) rfl rfl (Nat.le_of_ble_eq_true rfl) ?_
      refine ARun.pure (PureOp.fieldPtr rfl (.tmp rfl) vjb_fi_106_1_1) rfl rfl (Nat.le_of_ble_eq_true rfl) ?_
      refine ARun.pure (PureOp.loadPtr rfl (.tmp rfl) vjb_pl_9 rfl rfl (Nat.le_of_ble_eq_true rfl) (Nat.le_of_ble_eq_true rfl)) rfl rfl (Nat.le_of_ble_eq_true rfl) ?_
      refine ARun.pure (PureOp.strAdd rfl (.tmp rfl) (.tmp rfl) (by skip; (try simp only [ByteArray.size_append]); omega)) rfl rfl (Nat.le_of_ble_eq_true rfl) ?_
      refine ARun.pure (PureOp.strAdd rfl (.tmp rfl) (.tmp rfl) (by skip; (try simp only [ByteArray.size_append]); omega)) rfl rfl (Nat.le_of_ble_eq_true rfl) ?_
      refine ARun.pure (PureOp.assign rfl (.tmp rfl)) rfl rfl (Nat.le_of_ble_eq_true rfl) ?_
      refine ARun.nil ?_
      refine AW.region ?_
      refine ARun.pure (PureOp.add (c := ((k + 1 : Nat) : Int)) rfl (.tmp rfl) .int (by rw [wrap_id (by omega) (by omega)]; omega)) rfl rfl (Nat.le_of_ble_eq_true rfl) ?_
      refine ARun.pure (PureOp.move rfl (.tmp rfl)) rfl rfl (Nat.le_of_ble_eq_true rfl) ?_
      refine ARun.nil ?_
      exact ⟨k + 1, by omega, by dsimp only; omega, ⟨⟨⟨_, rfl, congrArg (fun z => SV.one (.str z)) (by simp only [textAt]; rw [if_pos (by omega)]; rfl)⟩, ⟨_, rfl, rfl⟩, ⟨_, rfl, rfl⟩, ⟨_, rfl, rfl⟩, trivial⟩, trivial⟩⟩
    · have _u := True.intro
      replace hb2 := of_decide_eq_false hb2
      refine AW.skip ?_
      refine AW.region ?_
      refine ARun.pure (PureOp.move rfl (.tmp rfl)) rfl rfl (Nat.le_of_ble_eq_true rfl) ?_
      refine ARun.pure (PureOp.fieldPtr rfl (.tmp rfl) vjb_fi_106_0_0) rfl rfl (Nat.le_of_ble_eq_true rfl) ?_
      refine ARun.pure (PureOp.loadPtr rfl (.tmp rfl) vjb_pl_9 rfl rfl (Nat.le_of_ble_eq_true rfl) (Nat.le_of_ble_eq_true rfl)) rfl rfl (Nat.le_of_ble_eq_true rfl) ?_
      refine ARun.pure (PureOp.strAdd rfl (.tmp rfl) (.str (by decide)) (by skip; (try simp only [ByteArray.size_append]); omega)) rfl rfl (Nat.le_of_ble_eq_true rfl) ?_
      refine ARun.pure (PureOp.fieldPtr rfl (.tmp rfl) vjb_fi_106_1_1) rfl rfl (Nat.le_of_ble_eq_true rfl) ?_
      refine ARun.pure (PureOp.loadPtr rfl (.tmp rfl) vjb_pl_9 rfl rfl (Nat.le_of_ble_eq_true rfl) (Nat.le_of_ble_eq_true rfl)) rfl rfl (Nat.le_of_ble_eq_true rfl) ?_
      refine ARun.pure (PureOp.strAdd rfl (.tmp rfl) (.tmp rfl) (by skip; (try simp only [ByteArray.size_append]); omega)) rfl rfl (Nat.le_of_ble_eq_true rfl) ?_
      refine ARun.pure (PureOp.strAdd rfl (.tmp rfl) (.tmp rfl) (by skip; (try simp only [ByteArray.size_append]); omega)) rfl rfl (Nat.le_of_ble_eq_true rfl) ?_
      refine ARun.pure (PureOp.assign rfl (.tmp rfl)) rfl rfl (Nat.le_of_ble_eq_true rfl) ?_
      refine ARun.nil ?_
      refine AW.region ?_
      refine ARun.pure (PureOp.add (c := ((k + 1 : Nat) : Int)) rfl (.tmp rfl) .int (by rw [wrap_id (by omega) (by omega)]; omega)) rfl rfl (Nat.le_of_ble_eq_true rfl) ?_
      refine ARun.pure (PureOp.move rfl (.tmp rfl)) rfl rfl (Nat.le_of_ble_eq_true rfl) ?_
      refine ARun.nil ?_
      exact ⟨k + 1, by omega, by dsimp only; omega, ⟨⟨⟨_, rfl, congrArg (fun z => SV.one (.str z)) (by simp only [textAt]; rw [if_neg (by omega)]; rfl)⟩, ⟨_, rfl, rfl⟩, ⟨_, rfl, rfl⟩, ⟨_, rfl, rfl⟩, trivial⟩, trivial⟩⟩
  · have _u := True.intro
    replace hb1 := of_decide_eq_false hb1
    have hkl : ¬ k < l.length := by omega
    refine AW.exit ?_
    refine AW.seq ?_
    refine AW.region ?_
    refine ARun.pure (PureOp.move rfl (.tmp rfl)) rfl rfl (Nat.le_of_ble_eq_true rfl) ?_
    refine ARun.pure (PureOp.strAdd rfl (.tmp rfl) (.str (by decide)) (by skip; (try simp only [ByteArray.size_append]); omega)) rfl rfl (Nat.le_of_ble_eq_true rfl) ?_
    refine ARun.pure (PureOp.assign rfl (.tmp rfl)) rfl rfl (Nat.le_of_ble_eq_true rfl) ?_
    refine ARun.nil ?_
    refine AW.ret (show ResL _ _ [.tmp 2] _ from resS rfl ?_)
    have : k = l.length := by omega
    rw [this]; rfl

theorem v_labelsText (l : List GLabel) (hl : labelsB l = true) : Fn Try.prog 114 [.one (.lst 2 l.length (fun i0 j0 => ([.str ((l.getD i0 (default : GLabel)).lname), .str ((l.getD i0 (default : GLabel)).lvalue)] : List AV).getD j0 (.con undef)))] (.one (.str (labelsT l))) := by
  obtain ⟨hl6, hls⟩ := lab_small hl
  have c61 : (⟨#[61]⟩ : ByteArray).size = 1 := rfl
  have c44 : (⟨#[44]⟩ : ByteArray).size = 1 := rfl
  have c123 : (⟨#[123]⟩ : ByteArray).size = 1 := rfl
  have c125 : (⟨#[125]⟩ : ByteArray).size = 1 := rfl
  refine Fn.of_body (fn := Try.f114) Try.func114 rfl (Nat.le_of_ble_eq_true rfl) (Nat.le_trans (labelsT_size hl) (by decide)) ?_
  intro w0
  show AW _ 30 _ _ _ _
  refine AW.bound (t := 0) rfl fun hx => ?_
  refine AW.seq ?_
  refine AW.region ?_
  refine ARun.pure (PureOp.assign rfl (.str (by decide))) rfl rfl (Nat.le_of_ble_eq_true rfl) ?_
  refine ARun.nil ?_
  refine AW.seq ?_
  refine AW.region ?_
  refine ARun.pure (PureOp.move rfl (.tmp rfl)) rfl rfl (Nat.le_of_ble_eq_true rfl) ?_
  refine ARun.pure (PureOp.lenLst rfl (.tmp rfl) vjb_sl_57) rfl rfl (Nat.le_of_ble_eq_true rfl) ?_
  refine ARun.make (id := 0) (n := l.length) (l := [.str ByteArray.empty]) (z := (.string ByteArray.empty)) (by_ := 16) rfl (by kernel_rfl) (fun _ _ _ => ⟨_, _, rfl, ⟨rfl, by decide⟩, rfl⟩) (.tmp rfl) (.tmp rfl) rfl rfl (by omega) (by omega) (by decide) ⟨rfl, (by repeat first | exact trivial | refine ⟨by decide, by first | rfl | (intro i j; first | rfl | (dsimp only; split <;> rfl)), ?_⟩)⟩ rfl rfl rfl (Nat.le_of_ble_eq_true rfl) ?_
  refine ARun.pure (PureOp.assign rfl (.tmp rfl)) rfl rfl (Nat.le_of_ble_eq_true rfl) ?_
  refine ARun.nil ?_
  refine AW.seq ?_
  refine AW.seq ?_
  refine AW.region ?_
  refine ARun.pure (PureOp.move rfl (.tmp rfl)) rfl rfl (Nat.le_of_ble_eq_true rfl) ?_
  refine ARun.pure (PureOp.lenLst rfl (.tmp rfl) vjb_sl_57) rfl rfl (Nat.le_of_ble_eq_true rfl) ?_
  refine ARun.pure (PureOp.move rfl .int) rfl rfl (Nat.le_of_ble_eq_true rfl) ?_
  refine ARun.nil ?_
  refine AW.block ?_
  refine AW.loop (ι := Nat) (fun k => ⟨[(3, .one (.own 0 1 l.length)), (9, .one (.lst 2 l.length (fun i0 j0 => ([.str ((l.getD i0 (default : GLabel)).lname), .str ((l.getD i0 (default : GLabel)).lvalue)] : List AV).getD j0 (.con undef)))), (10, .one (.int .i64 (l.length : Int))), (11, .one (.int .i64 (k : Int)))], [(0, .arr 1 l.length (fun a b => if a < k then (fun i _ => .str (labT (l.getD i (default : GLabel)))) a b else .str ByteArray.empty))]⟩) (fun k => k ≤ l.length) (fun k => l.length - k) 0 (Nat.zero_le _) ⟨⟨⟨_, rfl, rfl⟩, ⟨_, rfl, rfl⟩, ⟨_, rfl, rfl⟩, ⟨_, rfl, rfl⟩, trivial⟩, ⟨⟨_, rfl, rfl, Nat.le_refl _, fun a b _ (hb : b < 1) => (match b, hb with | 0, _ => by simp [AObj.f] | _ + 1, h => absurd h (by omega))⟩, trivial⟩⟩ ?_
  intro k hk
  refine AW.seq ?_
  refine AW.region ?_
  refine ARun.pure (PureOp.intOp rfl (.tmp rfl) (.tmp rfl) rfl) rfl rfl (Nat.le_of_ble_eq_true rfl) ?_
  refine ARun.nil ?_
  refine AW.seq ?_
  refine AW.cond (.tmp rfl) (fun hb1 => ?_) (fun hb1 => ?_)
  · have _u := True.intro
    replace hb1 := of_decide_eq_true hb1
    have hkl : k < l.length := by omega
    obtain ⟨hs1, hs2⟩ := hls k hkl
    refine AW.skip ?_
    refine AW.seq ?_
    refine AW.block ?_
    refine AW.seq ?_
    refine AW.region ?_
    refine ARun.pure (PureOp.move rfl (.tmp rfl)) rfl rfl (Nat.le_of_ble_eq_true rfl) ?_
    refine ARun.pure (PureOp.indexLst (i := k) rfl (.tmp rfl) vjb_el_57_2 (.tmp rfl) rfl (by omega)) rfl rfl (Nat.le_of_ble_eq_true rfl) ?_
    refine ARun.pure (PureOp.loadRefAgg rfl (.tmp rfl) vjb_ag_106_2 (Nat.le_of_ble_eq_true rfl)) rfl rfl (Nat.le_of_ble_eq_true rfl) ?_
    refine ARun.alloc (id := 1) (l := [.str ByteArray.empty, .str ByteArray.empty]) (z := (.agg #[.string ByteArray.empty, .string ByteArray.empty])) rfl (by kernel_rfl) (fun _ _ _ => ⟨_, _, rfl, ⟨rfl, by decide⟩, ⟨_, _, rfl, ⟨rfl, by decide⟩, rfl⟩⟩) ⟨rfl, (by repeat first | exact trivial | refine ⟨by decide, by first | rfl | (intro i j; first | rfl | (dsimp only; split <;> rfl)), ?_⟩)⟩ rfl rfl rfl (Nat.le_of_ble_eq_true rfl) ?_
    refine ARun.pure (PureOp.assign rfl (.tmp rfl)) rfl rfl (Nat.le_of_ble_eq_true rfl) ?_
    refine ARun.store rfl (.tmp rfl) (.tmp rfl) (SV.cells_of (by exact ⟨trivial, trivial, trivial⟩)) rfl (Nat.le_of_ble_eq_true rfl) vjb_sz_106_2 rfl rfl ?_
    refine ARun.nil ?_
    refine AW.region ?_
    refine ARun.pure (PureOp.move rfl (.tmp rfl)) rfl rfl (Nat.le_of_ble_eq_true rfl) ?_
    refine ARun.pure (PureOp.move rfl (.tmp rfl)) rfl rfl (Nat.le_of_ble_eq_true rfl) ?_
    refine ARun.pure (PureOp.fieldPtr rfl (.tmp rfl) vjb_fi_106_0_0) rfl rfl (Nat.le_of_ble_eq_true rfl) ?_
    refine ARun.pure (PureOp.loadPtr rfl (.tmp rfl) vjb_pl_9 rfl rfl (Nat.le_of_ble_eq_true rfl) (Nat.le_of_ble_eq_true rfl)) rfl rfl (Nat.le_of_ble_eq_true rfl) ?_
    refine ARun.pure (PureOp.strAdd rfl (.tmp rfl) (.str (by decide)) (by skip; (try simp only [ByteArray.size_append]); omega)) rfl rfl (Nat.le_of_ble_eq_true rfl) ?_
    refine ARun.pure (PureOp.fieldPtr rfl (.tmp rfl) vjb_fi_106_1_1) rfl rfl (Nat.le_of_ble_eq_true rfl) ?_
    refine ARun.pure (PureOp.loadPtr rfl (.tmp rfl) vjb_pl_9 rfl rfl (Nat.le_of_ble_eq_true rfl) (Nat.le_of_ble_eq_true rfl)) rfl rfl (Nat.le_of_ble_eq_true rfl) ?_
    refine ARun.pure (PureOp.strAdd rfl (.tmp rfl) (.tmp rfl) (by skip; (try simp only [ByteArray.size_append]); omega)) rfl rfl (Nat.le_of_ble_eq_true rfl) ?_
    refine ARun.pure (PureOp.indexOwn (i := k) rfl (.tmp rfl) vjb_el_54_1 (.tmp rfl) rfl (by omega)) rfl rfl (Nat.le_of_ble_eq_true rfl) ?_
    refine ARun.storeElem rfl (.tmp rfl) (.tmp rfl) trivial rfl (show k < l.length from by omega) rfl vjb_sz_9_1 rfl rfl ?_
    refine ARun.nil ?_
    refine AW.region ?_
    refine ARun.pure (PureOp.add (c := ((k + 1 : Nat) : Int)) rfl (.tmp rfl) .int (by rw [wrap_id (by omega) (by omega)]; omega)) rfl rfl (Nat.le_of_ble_eq_true rfl) ?_
    refine ARun.pure (PureOp.move rfl (.tmp rfl)) rfl rfl (Nat.le_of_ble_eq_true rfl) ?_
    refine ARun.nil ?_
    exact ⟨k + 1, by omega, by dsimp only; omega, ⟨⟨⟨_, rfl, rfl⟩, ⟨_, rfl, rfl⟩, ⟨_, rfl, rfl⟩, ⟨_, rfl, rfl⟩, trivial⟩, ⟨⟨_, rfl, rfl, Nat.le_refl _, fun a b _ hb => fill_next (sz := 1) (k := k) (g := fun i _ => .str (labT (l.getD i (default : GLabel)))) (z := fun _ => .str ByteArray.empty) (c := fun b => ([.str (labT (l.getD k (default : GLabel)))] : List AV).getD b (.con undef)) (fun b hb => match b, hb with | 0, _ => rfl | _ + 1, h => absurd h (by omega)) a b hb⟩, trivial⟩⟩⟩
  · have _u := True.intro
    replace hb1 := of_decide_eq_false hb1
    have hkl : ¬ k < l.length := by omega
    have hjs := join_size hl (Nat.le_refl _)
    have hkk : k = l.length := by omega
    refine AW.exit ?_
    refine AW.seq ?_
    refine AW.region ?_
    refine ARun.pure (PureOp.move rfl (.tmp rfl)) rfl rfl (Nat.le_of_ble_eq_true rfl) ?_
    refine ARun.pure (PureOp.call rfl (v_JoinF l.length (fun i => labT (l.getD i (default : GLabel))) (⟨#[44]⟩ : ByteArray) (by omega) (Nat.le_trans hjs (by decide))) ⟨⟨_, (.tmp rfl), (.own rfl rfl (Nat.le_refl _) (fun i j hi hj => (by dsimp only [AObj.f]; rw [if_pos (show i < k by omega)]; exact .str)))⟩, ⟨_, (.str (by decide)), .str⟩, trivial⟩ vjb_ca_122 (by show _ ≤ maxLen; exact Nat.le_trans hjs (by decide))) rfl rfl (Nat.le_of_ble_eq_true rfl) ?_
    refine ARun.pure (PureOp.strAdd rfl (.str (by decide)) (.tmp rfl) (by skip; (try simp only [ByteArray.size_append]); omega)) rfl rfl (Nat.le_of_ble_eq_true rfl) ?_
    refine ARun.pure (PureOp.strAdd rfl (.tmp rfl) (.str (by decide)) (by skip; (try simp only [ByteArray.size_append]); omega)) rfl rfl (Nat.le_of_ble_eq_true rfl) ?_
    refine ARun.pure (PureOp.assign rfl (.tmp rfl)) rfl rfl (Nat.le_of_ble_eq_true rfl) ?_
    refine ARun.nil ?_
    refine AW.ret (show ResL _ _ [.tmp 2] _ from resS rfl ?_)
    unfold labelsT; rw [textAt_eq]
end Go.Proofs.Ytmlhlkpiofbhgaa
