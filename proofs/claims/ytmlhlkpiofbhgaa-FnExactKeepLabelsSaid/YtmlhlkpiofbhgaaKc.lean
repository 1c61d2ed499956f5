/-
  slices.Clone and slices.DeleteFunc over labels.
-/
import Derived.Test.YtmlhlkpiofbhgaaLb5
import Derived.Test.YtmlhlkpiofbhgaaTm5
import Derived.Test.YtmlhlkpiofbhgaaUc
namespace Go.Proofs.Ytmlhlkpiofbhgaa
open Go.ChangeShapes Go.WideShapes Go.ChangeAt Go.RowKit Go.BigFrame Go.Deep
set_option linter.unusedVariables false
set_option linter.unusedSimpArgs false
theorem vk_ag_106_2 : aggB Try.prog 106 2 = true := by kernel_rfl
theorem vk_ca_120 : callB Try.prog 120 = true := by kernel_rfl
theorem vk_el_57_2 : elemB Try.prog 57 2 = true := by kernel_rfl
theorem vk_sl_57 : sliceB Try.prog 57 = true := by kernel_rfl
theorem vk_sz_106_2 : sizeB Try.prog 106 2 = true := by kernel_rfl
theorem v_Clone_Label (l : List GLabel) (hl : l.length ≤ 1048576) : FnT Try.prog 111 [.one (.lst 2 l.length (fun i0 j0 => ([.str ((l.getD i0 (default : GLabel)).lname), .str ((l.getD i0 (default : GLabel)).lvalue)] : List AV).getD j0 (.con undef)))] (.one (.lst 2 l.length (fun i0 j0 => ([.str ((l.getD i0 (default : GLabel)).lname), .str ((l.getD i0 (default : GLabel)).lvalue)] : List AV).getD j0 (.con undef)))) := by
  refine FnT.of_body (fn := Try.f111) Try.func111 rfl (Nat.le_of_ble_eq_true rfl)  ?_
  intro w0
  show AW _ 8 _ _ _ _
  refine AW.bound (t := 0) rfl fun hx => ?_
  refine AW.seq ?_
  refine AW.region ?_
  refine ARun.pure (PureOp.assign rfl .con) rfl rfl (Nat.le_of_ble_eq_true rfl) ?_
  refine ARun.nil ?_
  refine AW.seq ?_
  refine AW.seq ?_
  refine AW.region ?_
  refine ARun.pure (PureOp.move rfl (.tmp rfl)) rfl rfl (Nat.le_of_ble_eq_true rfl) ?_
  refine ARun.nilEq rfl (.tmp rfl) vk_sl_57 rfl rfl (Nat.le_of_ble_eq_true rfl) (fun bn1 hbn1 => ?_)
  refine ARun.nil ?_
  refine AW.cond (.tmp rfl) (fun hb2 => ?_) (fun hb2 => ?_)
  · have _u := True.intro
    obtain rfl : l = [] := List.eq_nil_of_length_eq_zero (hbn1 hb2)
    refine AW.seq ?_
    refine AW.region ?_
    refine ARun.pure (PureOp.assign rfl .con) rfl rfl (Nat.le_of_ble_eq_true rfl) ?_
    refine ARun.nil ?_
    exact AW.ret (show ∃ s t, ResL _ _ [.tmp 2] s ∧ TvS _ (ofLeaf t) 0 s _ from ⟨_, fun a b => 1000, .inl ⟨_, rfl, .tmp rfl⟩, .nil⟩)
  · have _u := True.intro
    refine AW.skip ?_
    refine AW.seq ?_
    refine AW.region ?_
    refine ARun.slice0 (id := 0) (z := (.agg #[.string ByteArray.empty, .string ByteArray.empty])) (sz := 2) (by_ := 32) rfl (by kernel_rfl) (fun _ _ => .con undef) (fun _ _ => rfl) ⟨rfl, (by repeat first | exact trivial | refine ⟨by decide, by first | rfl | exact trivial | (intro i j; first | rfl | exact getD_no rfl | (dsimp only; split <;> first | rfl | exact getD_no rfl)), ?_⟩)⟩ rfl rfl (Nat.le_of_ble_eq_true rfl) ?_
    refine ARun.pure (PureOp.move rfl (.tmp rfl)) rfl rfl (Nat.le_of_ble_eq_true rfl) ?_
    refine ARun.append (id := 1) (sz := 2) (n := 0) (m := l.length) (by_ := 32) (z := (.agg #[.string ByteArray.empty, .string ByteArray.empty])) (f := fun _ _ => .con undef) (g := fun i0 j0 => ([.str ((l.getD i0 (default : GLabel)).lname), .str ((l.getD i0 (default : GLabel)).lvalue)] : List AV).getD j0 (.con undef)) (h := fun i j => if i < 0 then (fun _ _ => .con undef) i j else (fun i0 j0 => ([.str ((l.getD i0 (default : GLabel)).lname), .str ((l.getD i0 (default : GLabel)).lvalue)] : List AV).getD j0 (.con undef)) (i - 0) j) rfl (by kernel_rfl) rfl vk_sl_57 (.own (.tmp rfl) rfl rfl rfl (Nat.le_refl _) (fun _ _ _ _ => rfl)) (.lst (.tmp rfl)) (by decide) (fun i j hi hj => match j, hj with | 0, _ => rfl | 1, _ => rfl | _ + 2, h => absurd h (by omega)) (fun _ _ _ _ => rfl) (by omega) (by omega) ⟨rfl, (by repeat first | exact trivial | refine ⟨by decide, by first | rfl | exact trivial | (intro i j; first | rfl | exact getD_no rfl | (dsimp only; split <;> first | rfl | exact getD_no rfl)), ?_⟩)⟩ (fun i j => by dsimp only; split <;> first | rfl | exact getD_no rfl) rfl rfl (Nat.le_of_ble_eq_true rfl) ?_
    refine ARun.pure (PureOp.assign rfl (.tmp rfl)) rfl rfl (Nat.le_of_ble_eq_true rfl) ?_
    refine ARun.nil ?_
    exact AW.ret (show ∃ s t, ResL _ _ [.tmp 2] s ∧ TvS _ (ofLeaf t) 0 s _ from ⟨_, fun a b => if a = 1 then 0 else 1000, .inl ⟨_, rfl, .tmp rfl⟩, (Tv.flatN (Nat.zero_add _).symm rfl rfl rfl (Nat.le_refl _) (by rfl) (fun i j hi hj => by show (if i < 0 then AV.con undef else (fun i0 j0 => ([.str ((l.getD i0 (default : GLabel)).lname), .str ((l.getD i0 (default : GLabel)).lvalue)] : List AV).getD j0 (.con undef)) i j) = _; exact app0) (fun i j hi hj => match j, hj with | 0, _ => rfl | 1, _ => rfl | _ + 2, h => absurd h (by omega)))⟩)

theorem v_IndexFunc_Label (l : List GLabel) (g : FuncId) (m : Nat) (caps : Nat → AV) (p : GLabel → Bool) (hd : ∀ j, j < m → (caps j).Deep) (hB : callB Try.prog g = true) (hp : ∀ k, k < l.length → Fn Try.prog g ([.agg [.str ((l.getD k (default : GLabel)).lname), .str ((l.getD k (default : GLabel)).lvalue)]] ++ capL m caps) (.one (.bool (p (l.getD k (default : GLabel)))))) : Fn Try.prog 120 [.one (.lst 2 l.length (fun i0 j0 => ([.str ((l.getD i0 (default : GLabel)).lname), .str ((l.getD i0 (default : GLabel)).lvalue)] : List AV).getD j0 (.con undef))), .one (.fn g m caps)] (.one (.int .i64 (idxF p l))) := by
  refine Fn.of_body (fn := Try.f120) Try.func120 rfl (Nat.le_of_ble_eq_true rfl) trivial ?_
  intro w0
  show AW _ 19 _ _ _ _
  refine AW.bound (t := 0) rfl fun hx => ?_
  refine AW.seq ?_
  refine AW.region ?_
  refine ARun.pure (PureOp.assign rfl .int) rfl rfl (Nat.le_of_ble_eq_true rfl) ?_
  refine ARun.nil ?_
  refine AW.seq ?_
  refine AW.seq ?_
  refine AW.region ?_
  refine ARun.pure (PureOp.move rfl (.tmp rfl)) rfl rfl (Nat.le_of_ble_eq_true rfl) ?_
  refine ARun.pure (PureOp.lenLst rfl (.tmp rfl) vk_sl_57) rfl rfl (Nat.le_of_ble_eq_true rfl) ?_
  refine ARun.pure (PureOp.move rfl .int) rfl rfl (Nat.le_of_ble_eq_true rfl) ?_
  refine ARun.nil ?_
  refine AW.block ?_
  refine AW.loop (ι := Nat) (fun k => ⟨[(0, .one (.lst 2 l.length (fun i0 j0 => ([.str ((l.getD i0 (default : GLabel)).lname), .str ((l.getD i0 (default : GLabel)).lvalue)] : List AV).getD j0 (.con undef)))), (1, .one (.fn g m caps)), (7, .one (.int .i64 (l.length : Int))), (8, .one (.int .i64 (k : Int)))], []⟩) (fun k => k ≤ l.length ∧ (l.take k).any p = false) (fun k => l.length - k) 0 ⟨Nat.zero_le _, rfl⟩ ⟨⟨⟨_, rfl, rfl⟩, ⟨_, rfl, rfl⟩, ⟨_, rfl, rfl⟩, ⟨_, rfl, rfl⟩, trivial⟩, trivial⟩ ?_
  intro k hI
  obtain ⟨hk, hq⟩ := hI
  refine AW.seq ?_
  refine AW.region ?_
  refine ARun.pure (PureOp.intOp rfl (.tmp rfl) (.tmp rfl) rfl) rfl rfl (Nat.le_of_ble_eq_true rfl) ?_
  refine ARun.nil ?_
  refine AW.seq ?_
  refine AW.cond (.tmp rfl) (fun hb1 => ?_) (fun hb1 => ?_)
  · have _u := True.intro
    replace hb1 := of_decide_eq_true hb1
    have hlt : k < l.length := by omega
    refine AW.skip ?_
    refine AW.seq ?_
    refine AW.block ?_
    refine AW.seq ?_
    refine AW.region ?_
    refine ARun.pure (PureOp.move rfl (.tmp rfl)) rfl rfl (Nat.le_of_ble_eq_true rfl) ?_
    refine ARun.pure (PureOp.assign rfl (.tmp rfl)) rfl rfl (Nat.le_of_ble_eq_true rfl) ?_
    refine ARun.nil ?_
    refine AW.seq ?_
    refine AW.region ?_
    refine ARun.pure (PureOp.move rfl (.tmp rfl)) rfl rfl (Nat.le_of_ble_eq_true rfl) ?_
    refine ARun.pure (PureOp.move rfl (.tmp rfl)) rfl rfl (Nat.le_of_ble_eq_true rfl) ?_
    refine ARun.pure (PureOp.move rfl (.tmp rfl)) rfl rfl (Nat.le_of_ble_eq_true rfl) ?_
    refine ARun.pure (PureOp.indexLst (i := k) rfl (.tmp rfl) vk_el_57_2 (.tmp rfl) rfl (by omega)) rfl rfl (Nat.le_of_ble_eq_true rfl) ?_
    refine ARun.pure (PureOp.loadRefAgg rfl (.tmp rfl) vk_ag_106_2 (Nat.le_of_ble_eq_true rfl)) rfl rfl (Nat.le_of_ble_eq_true rfl) ?_
    refine ARun.pure (PureOp.callv rfl (.tmp rfl) (hp k hlt) (fun j hj => Vw.of_deep (hd j hj)) ⟨⟨_, (.tmp rfl), ⟨.str, .str, trivial⟩⟩, trivial⟩ hB trivial) rfl rfl (Nat.le_of_ble_eq_true rfl) ?_
    refine ARun.nil ?_
    refine AW.cond (.tmp rfl) (fun hb2 => ?_) (fun hb2 => ?_)
    · have _u := True.intro
      refine AW.seq ?_
      refine AW.region ?_
      refine ARun.pure (PureOp.move rfl (.tmp rfl)) rfl rfl (Nat.le_of_ble_eq_true rfl) ?_
      refine ARun.pure (PureOp.assign rfl (.tmp rfl)) rfl rfl (Nat.le_of_ble_eq_true rfl) ?_
      refine ARun.nil ?_
      refine AW.ret (show ResL _ _ [.tmp 4] _ from resI rfl ?_)
      exact idxF_hit (default : GLabel) hlt hq hb2
    · have _u := True.intro
      refine AW.skip ?_
      refine AW.region ?_
      refine ARun.pure (PureOp.add (c := ((k + 1 : Nat) : Int)) rfl (.tmp rfl) .int (by rw [wrap_id (by omega) (by omega)]; omega)) rfl rfl (Nat.le_of_ble_eq_true rfl) ?_
      refine ARun.pure (PureOp.move rfl (.tmp rfl)) rfl rfl (Nat.le_of_ble_eq_true rfl) ?_
      refine ARun.nil ?_
      exact ⟨k + 1, ⟨by omega, any_take (default : GLabel) hlt hq hb2⟩, by dsimp only; omega, ⟨⟨⟨_, rfl, rfl⟩, ⟨_, rfl, rfl⟩, ⟨_, rfl, rfl⟩, ⟨_, rfl, rfl⟩, trivial⟩, trivial⟩⟩
  · have _u := True.intro
    replace hb1 := of_decide_eq_false hb1
    have hlt : ¬ k < l.length := by omega
    refine AW.exit ?_
    refine AW.seq ?_
    refine AW.region ?_
    refine ARun.pure (PureOp.assign rfl .int) rfl rfl (Nat.le_of_ble_eq_true rfl) ?_
    refine ARun.nil ?_
    refine AW.ret (show ResL _ _ [.tmp 4] _ from resI rfl ?_)
    exact idxF_none hlt hq

theorem v_DeleteFunc_Label (l : List GLabel) (g : FuncId) (m : Nat) (caps : Nat → AV) (p : GLabel → Bool) (hl : l.length ≤ 1048576) (hd : ∀ j, j < m → (caps j).Deep) (hB : callB Try.prog g = true) (hp : ∀ k, k < l.length → Fn Try.prog g ([.agg [.str ((l.getD k (default : GLabel)).lname), .str ((l.getD k (default : GLabel)).lvalue)]] ++ capL m caps) (.one (.bool (p (l.getD k (default : GLabel)))))) : FnG Try.prog 110 [.one (.own 1000000 2 l.length), .one (.fn g m caps)] [(1000000, .arr 2 l.length (fun i j => ceLabel (l.getD i (default : GLabel)) j))] (.one (.own 1000000 2 (l.filter (fun x => !p x)).length)) [(1000000, .arr 2 ((l.filter (fun x => !p x)).length) (fun i j => ceLabel ((l.filter (fun x => !p x)).getD i (default : GLabel)) j))] := by
  refine FnG.of_body (fn := Try.f110) Try.func110 rfl (Nat.le_of_ble_eq_true rfl) ?_
  intro w0
  show AW _ 42 _ _ _ _
  refine AW.boundO (t := 0) rfl fun hx => ?_
  refine AW.seq ?_
  refine AW.region ?_
  refine ARun.pure (PureOp.assign rfl .con) rfl rfl (Nat.le_of_ble_eq_true rfl) ?_
  refine ARun.nil ?_
  refine AW.seq ?_
  refine AW.region ?_
  refine ARun.pure (PureOp.move rfl (.tmp rfl)) rfl rfl (Nat.le_of_ble_eq_true rfl) ?_
  refine ARun.pure (PureOp.move rfl (.tmp rfl)) rfl rfl (Nat.le_of_ble_eq_true rfl) ?_
  refine ARun.pure (PureOp.call rfl (v_IndexFunc_Label l g m caps p hd hB hp) ⟨⟨_, (.tmp rfl), (.own rfl rfl (Nat.le_refl _) (fun i j hi hj => (match j, hj with | 0, _ => .str | 1, _ => .str | _ + 2, h => absurd h (by omega))))⟩, ⟨_, (.tmp rfl), (.fn (fun j hj => Vw.of_deep (hd j hj)))⟩, trivial⟩ vk_ca_120 trivial) rfl rfl (Nat.le_of_ble_eq_true rfl) ?_
  refine ARun.pure (PureOp.assign rfl (.tmp rfl)) rfl rfl (Nat.le_of_ble_eq_true rfl) ?_
  refine ARun.nil ?_
  refine AW.seq ?_
  refine AW.seq ?_
  refine AW.region ?_
  refine ARun.pure (PureOp.move rfl (.tmp rfl)) rfl rfl (Nat.le_of_ble_eq_true rfl) ?_
  refine ARun.pure (PureOp.intOp rfl (.tmp rfl) .int rfl) rfl rfl (Nat.le_of_ble_eq_true rfl) ?_
  refine ARun.nil ?_
  refine AW.cond (.tmp rfl) (fun hb1 => ?_) (fun hb1 => ?_)
  · have _u := True.intro
    have hnil := idxF_nil (of_decide_eq_true hb1)
    refine AW.seq ?_
    refine AW.region ?_
    refine ARun.pure (PureOp.move rfl (.tmp rfl)) rfl rfl (Nat.le_of_ble_eq_true rfl) ?_
    refine ARun.pure (PureOp.assign rfl (.tmp rfl)) rfl rfl (Nat.le_of_ble_eq_true rfl) ?_
    refine ARun.nil ?_
    refine AW.ret (show ResL _ _ [.tmp 4] _ ∧ HeapLe _ _ from ⟨resO rfl ?_, ⟨⟨_, rfl, rfl, Nat.le_of_eq (by show (List.filter _ l).length = _; rw [hnil]; rfl), fun i j _ _ => by show _ = ceLabel ((List.filter _ l).getD i (default : GLabel)) j; rw [hnil]; rfl⟩, trivial⟩⟩)
    rw [hnil]
  · have _u := True.intro
    obtain ⟨i0, he, hi0, hpi, hbef⟩ := idxF_some (default : GLabel) (of_decide_eq_false hb1)
    rw [he]
    obtain ⟨hca, hsa⟩ := cntP_all (q := (fun x => !p x)) (default : GLabel) (l := l) (k := i0) (by omega) (fun j hj => by show (!p (l.getD j (default : GLabel))) = true; rw [hbef j hj]; rfl)
    have hq0 : (fun x => !p x) (l.getD i0 (default : GLabel)) = false := by show (!p (l.getD i0 (default : GLabel))) = false; rw [hpi]; rfl
    have hc0 : cntP (fun x => !p x) l (i0 + 1) = i0 := (cntP_no (default : GLabel) hi0 hq0).trans hca
    have hst0 : ∀ a, stF (fun x => !p x) (default : GLabel) l (i0 + 1) a = l.getD a (default : GLabel) := fun a => (stF_no (q := fun x => !p x) hq0 a).trans (hsa a)
    refine AW.skip ?_
    refine AW.seq ?_
    refine AW.seq ?_
    refine AW.region ?_
    refine ARun.pure (PureOp.move rfl (.tmp rfl)) rfl rfl (Nat.le_of_ble_eq_true rfl) ?_
    refine ARun.pure (PureOp.add (c := ((i0 + 1 : Nat) : Int)) rfl (.tmp rfl) .int (by rw [wrap_id (by omega) (by omega)]; omega)) rfl rfl (Nat.le_of_ble_eq_true rfl) ?_
    refine ARun.pure (PureOp.assign rfl (.tmp rfl)) rfl rfl (Nat.le_of_ble_eq_true rfl) ?_
    refine ARun.nil ?_
    refine AW.block ?_
    refine AW.loop (ι := Nat) (fun k => ⟨[(0, .one (.own 1000000 2 l.length)), (1, .one (.fn g m caps)), (5, .one (.int .i64 ((cntP (fun x => !p x) l k : Nat) : Int))), (6, .one (.int .i64 (k : Int)))], [(1000000, .arr 2 l.length (fun i j => ceLabel (stF (fun x => !p x) (default : GLabel) l k i) j))]⟩) (fun k => k ≤ l.length) (fun k => l.length - k) (i0 + 1) (show i0 + 1 ≤ l.length from hi0) ⟨⟨⟨_, rfl, rfl⟩, ⟨_, rfl, rfl⟩, ⟨_, rfl, congrArg (fun z : Nat => SV.one (.int .i64 (z : Int))) hc0.symm⟩, ⟨_, rfl, rfl⟩, trivial⟩, ⟨⟨_, rfl, rfl, Nat.le_refl _, fun i j _ _ => congrArg (fun e => ceLabel e j) (hst0 i).symm⟩, trivial⟩⟩ ?_
    intro k hk
    have hck := cntP_leK (fun x => !p x) l k
    refine AW.seq ?_
    refine AW.seq ?_
    refine AW.region ?_
    refine ARun.pure (PureOp.move rfl (.tmp rfl)) rfl rfl (Nat.le_of_ble_eq_true rfl) ?_
    refine ARun.pure (PureOp.move rfl (.tmp rfl)) rfl rfl (Nat.le_of_ble_eq_true rfl) ?_
    refine ARun.pure (PureOp.lenOwn rfl (.tmp rfl) vk_sl_57) rfl rfl (Nat.le_of_ble_eq_true rfl) ?_
    refine ARun.pure (PureOp.intOp rfl (.tmp rfl) (.tmp rfl) rfl) rfl rfl (Nat.le_of_ble_eq_true rfl) ?_
    refine ARun.nil ?_
    refine AW.cond (.tmp rfl) (fun hb2 => ?_) (fun hb2 => ?_)
    · have _u := True.intro
      replace hb2 := of_decide_eq_true hb2
      have hkl : k < l.length := by omega
      refine AW.skip ?_
      refine AW.seq ?_
      refine AW.block ?_
      refine AW.seq ?_
      refine AW.region ?_
      refine ARun.pure (PureOp.move rfl (.tmp rfl)) rfl rfl (Nat.le_of_ble_eq_true rfl) ?_
      refine ARun.pure (PureOp.move rfl (.tmp rfl)) rfl rfl (Nat.le_of_ble_eq_true rfl) ?_
      refine ARun.pure (PureOp.indexOwn (i := k) rfl (.tmp rfl) vk_el_57_2 (.tmp rfl) rfl (by omega)) rfl rfl (Nat.le_of_ble_eq_true rfl) ?_
      refine ARun.pure (PureOp.loadPtrAggE (l := [.str ((l.getD k (default : GLabel)).lname), .str ((l.getD k (default : GLabel)).lvalue)]) rfl (.tmp rfl) vk_ag_106_2 rfl rfl (show k < l.length from by omega) (Nat.le_of_ble_eq_true rfl) (by show [ceLabel (stF (fun x => !p x) (default : GLabel) l k k) 0, ceLabel (stF (fun x => !p x) (default : GLabel) l k k) 1] = _; rw [stF_hi (Nat.le_refl k)]; rfl)) rfl rfl (Nat.le_of_ble_eq_true rfl) ?_
      refine ARun.alloc (id := 0) (l := [.str ByteArray.empty, .str ByteArray.empty]) (z := (.agg #[.string ByteArray.empty, .string ByteArray.empty])) rfl (by kernel_rfl) (fun _ _ _ => ⟨_, _, rfl, ⟨rfl, by decide⟩, ⟨_, _, rfl, ⟨rfl, by decide⟩, rfl⟩⟩) ⟨(by rw [Bool.and_eq_true]; exact ⟨rfl, (by repeat (first | exact fn_no hd | rfl | refine Bool.and_eq_true_iff.mpr ⟨?_, ?_⟩))⟩), (by repeat first | exact trivial | refine ⟨by decide, by first | rfl | exact trivial | (intro i j; first | rfl | exact getD_no rfl | (dsimp only; split <;> first | rfl | exact getD_no rfl)), ?_⟩)⟩ rfl rfl rfl (Nat.le_of_ble_eq_true rfl) ?_
      refine ARun.store rfl (.tmp rfl) (.tmp rfl) (SV.cells_of (by exact ⟨trivial, trivial, trivial⟩)) rfl (Nat.le_of_ble_eq_true rfl) vk_sz_106_2 rfl rfl ?_
      refine ARun.nil ?_
      refine AW.seq ?_
      refine AW.region ?_
      refine ARun.pure (PureOp.move rfl (.tmp rfl)) rfl rfl (Nat.le_of_ble_eq_true rfl) ?_
      refine ARun.pure (PureOp.loadPtrAgg rfl (.tmp rfl) vk_ag_106_2 rfl rfl (Nat.le_of_ble_eq_true rfl) (Nat.le_of_ble_eq_true rfl)) rfl rfl (Nat.le_of_ble_eq_true rfl) ?_
      refine ARun.pure (PureOp.callv rfl (.tmp rfl) (hp k hkl) (fun j hj => Vw.of_deep (hd j hj)) ⟨⟨_, (.tmp rfl), ⟨.str, .str, trivial⟩⟩, trivial⟩ hB trivial) rfl rfl (Nat.le_of_ble_eq_true rfl) ?_
      refine ARun.pure (PureOp.not rfl (.tmp rfl)) rfl rfl (Nat.le_of_ble_eq_true rfl) ?_
      refine ARun.nil ?_
      refine AW.cond (.tmp rfl) (fun hb3 => ?_) (fun hb3 => ?_)
      · have _u := True.intro
        have hq : (fun x => !p x) (l.getD k (default : GLabel)) = true := hb3
        have hc := (cntP_yes (p := (fun x => !p x)) (default : GLabel) hkl hq).1
        refine AW.seq ?_
        refine AW.region ?_
        refine ARun.pure (PureOp.move rfl (.tmp rfl)) rfl rfl (Nat.le_of_ble_eq_true rfl) ?_
        refine ARun.pure (PureOp.move rfl (.tmp rfl)) rfl rfl (Nat.le_of_ble_eq_true rfl) ?_
        refine ARun.pure (PureOp.loadPtrAgg rfl (.tmp rfl) vk_ag_106_2 rfl rfl (Nat.le_of_ble_eq_true rfl) (Nat.le_of_ble_eq_true rfl)) rfl rfl (Nat.le_of_ble_eq_true rfl) ?_
        refine ARun.pure (PureOp.indexOwn (i := cntP (fun x => !p x) l k) rfl (.tmp rfl) vk_el_57_2 (.tmp rfl) rfl (by omega)) rfl rfl (Nat.le_of_ble_eq_true rfl) ?_
        refine ARun.storeElem rfl (.tmp rfl) (.tmp rfl) (SV.cells_of (by exact ⟨trivial, trivial, trivial⟩)) rfl (show cntP (fun x => !p x) l k < l.length from by omega) rfl vk_sz_106_2 rfl rfl ?_
        refine ARun.nil ?_
        refine AW.region ?_
        refine ARun.pure (PureOp.move rfl (.tmp rfl)) rfl rfl (Nat.le_of_ble_eq_true rfl) ?_
        refine ARun.pure (PureOp.add (c := ((cntP (fun x => !p x) l k + 1 : Nat) : Int)) rfl (.tmp rfl) .int (by rw [wrap_id (by omega) (by omega)]; omega)) rfl rfl (Nat.le_of_ble_eq_true rfl) ?_
        refine ARun.pure (PureOp.assign rfl (.tmp rfl)) rfl rfl (Nat.le_of_ble_eq_true rfl) ?_
        refine ARun.nil ?_
        refine AW.region ?_
        refine ARun.pure (PureOp.move rfl (.tmp rfl)) rfl rfl (Nat.le_of_ble_eq_true rfl) ?_
        refine ARun.pure (PureOp.add (c := ((k + 1 : Nat) : Int)) rfl (.tmp rfl) .int (by rw [wrap_id (by omega) (by omega)]; omega)) rfl rfl (Nat.le_of_ble_eq_true rfl) ?_
        refine ARun.pure (PureOp.assign rfl (.tmp rfl)) rfl rfl (Nat.le_of_ble_eq_true rfl) ?_
        refine ARun.nil ?_
        exact ⟨k + 1, by omega, by dsimp only; omega, ⟨⟨⟨_, rfl, rfl⟩, ⟨_, rfl, rfl⟩, ⟨_, rfl, congrArg (fun z : Nat => SV.one (.int .i64 (z : Int))) hc.symm⟩, ⟨_, rfl, rfl⟩, trivial⟩, ⟨⟨_, rfl, rfl, Nat.le_refl _, fun a b _ (hb : b < 2) => by
      show (if a = cntP (fun x => !p x) l k then ([.str ((l.getD k (default : GLabel)).lname), .str ((l.getD k (default : GLabel)).lvalue)] : List AV).getD b (.con undef) else ceLabel (stF (fun x => !p x) (default : GLabel) l k a) b) = _
      exact (ce_ite (ce := ceLabel) (x := l.getD k (default : GLabel)) (fun b hb => match b, hb with | 0, _ => rfl | 1, _ => rfl | _ + 2, h => absurd h (by omega)) hb).trans (congrArg (fun e => ceLabel e b) (stF_yes (q := fun x => !p x) hq a).symm)⟩, trivial⟩⟩⟩
      · have _u := True.intro
        have hq : (fun x => !p x) (l.getD k (default : GLabel)) = false := hb3
        have hc := cntP_no (p := (fun x => !p x)) (default : GLabel) hkl hq
        refine AW.skip ?_
        refine AW.region ?_
        refine ARun.pure (PureOp.move rfl (.tmp rfl)) rfl rfl (Nat.le_of_ble_eq_true rfl) ?_
        refine ARun.pure (PureOp.add (c := ((k + 1 : Nat) : Int)) rfl (.tmp rfl) .int (by rw [wrap_id (by omega) (by omega)]; omega)) rfl rfl (Nat.le_of_ble_eq_true rfl) ?_
        refine ARun.pure (PureOp.assign rfl (.tmp rfl)) rfl rfl (Nat.le_of_ble_eq_true rfl) ?_
        refine ARun.nil ?_
        exact ⟨k + 1, by omega, by dsimp only; omega, ⟨⟨⟨_, rfl, rfl⟩, ⟨_, rfl, rfl⟩, ⟨_, rfl, congrArg (fun z : Nat => SV.one (.int .i64 (z : Int))) hc.symm⟩, ⟨_, rfl, rfl⟩, trivial⟩, ⟨⟨_, rfl, rfl, Nat.le_refl _, fun a b _ _ => congrArg (fun e => ceLabel e b) (stF_no (q := fun x => !p x) hq a).symm⟩, trivial⟩⟩⟩
    · have _u := True.intro
      replace hb2 := of_decide_eq_false hb2
      have hkl : ¬ k < l.length := by omega
      refine AW.exit ?_
      refine AW.seq ?_
      refine AW.region ?_
      refine ARun.pure (PureOp.move rfl (.tmp rfl)) rfl rfl (Nat.le_of_ble_eq_true rfl) ?_
      refine ARun.pure (PureOp.move rfl (.tmp rfl)) rfl rfl (Nat.le_of_ble_eq_true rfl) ?_
      refine ARun.clearTail (k := cntP (fun x => !p x) l k) (z := (.agg #[.string ByteArray.empty, .string ByteArray.empty])) (by_ := 32) rfl rfl (.tmp rfl) rfl (.tmp rfl) rfl (by omega) (by kernel_rfl) rfl (by kernel_rfl) rfl rfl rfl rfl (Nat.le_of_ble_eq_true rfl) ?_
      refine ARun.nil ?_
      refine AW.seq ?_
      refine AW.region ?_
      refine ARun.pure (PureOp.move rfl (.tmp rfl)) rfl rfl (Nat.le_of_ble_eq_true rfl) ?_
      refine ARun.pure (PureOp.move rfl (.tmp rfl)) rfl rfl (Nat.le_of_ble_eq_true rfl) ?_
      refine ARun.pure (PureOp.takeOwn (k := cntP (fun x => !p x) l k) rfl (.tmp rfl) (.tmp rfl) rfl (by omega) vk_el_57_2) rfl rfl (Nat.le_of_ble_eq_true rfl) ?_
      refine ARun.pure (PureOp.assign rfl (.tmp rfl)) rfl rfl (Nat.le_of_ble_eq_true rfl) ?_
      refine ARun.nil ?_
      refine AW.ret (show ResL _ _ [.tmp 4] _ ∧ HeapLe _ _ from ⟨resO rfl ?_, ⟨⟨_, rfl, rfl, Nat.le_of_eq (cntP_end hkl).symm, fun i j (hi : i < (List.filter _ l).length) _ => congrArg (fun e => ceLabel e j) (stF_lo (by omega) (by rw [cntP_end hkl]; exact hi))⟩, trivial⟩⟩)
      exact cntP_end hkl
end Go.Proofs.Ytmlhlkpiofbhgaa
