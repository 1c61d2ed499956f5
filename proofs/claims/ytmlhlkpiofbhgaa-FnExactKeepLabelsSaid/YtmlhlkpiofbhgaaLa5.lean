/-
  Marks.
-/
import Derived.Test.YtmlhlkpiofbhgaaTm5
namespace Go.Proofs.Ytmlhlkpiofbhgaa
open Go.ChangeShapes Go.WideShapes Go.ChangeAt Go.RowKit Go.BigFrame Go.Deep
set_option linter.unusedVariables false
set_option linter.unusedSimpArgs false
theorem vq_ca_51 : callB Try.prog 51 = true := by kernel_rfl
theorem vq_ca_52 : callB Try.prog 52 = true := by kernel_rfl
theorem vq_ca_53 : callB Try.prog 53 = true := by kernel_rfl
theorem vq_ca_54 : callB Try.prog 54 = true := by kernel_rfl
theorem vq_ca_87 : callB Try.prog 87 = true := by kernel_rfl
theorem vq_el_22_1 : elemB Try.prog 22 1 = true := by kernel_rfl
theorem vq_el_23_1 : elemB Try.prog 23 1 = true := by kernel_rfl
theorem vq_el_24_1 : elemB Try.prog 24 1 = true := by kernel_rfl
theorem vq_el_25_2 : elemB Try.prog 25 2 = true := by kernel_rfl
theorem vq_el_54_1 : elemB Try.prog 54 1 = true := by kernel_rfl
theorem vq_el_57_2 : elemB Try.prog 57 2 = true := by kernel_rfl
theorem vq_fi_106_0_0 : fieldB Try.prog 106 0 0 = true := by kernel_rfl
theorem vq_fi_106_1_1 : fieldB Try.prog 106 1 1 = true := by kernel_rfl
theorem vq_fi_120_0_0 : fieldB Try.prog 120 0 0 = true := by kernel_rfl
theorem vq_fi_120_1_1 : fieldB Try.prog 120 1 1 = true := by kernel_rfl
theorem vq_fi_27_0_0 : fieldB Try.prog 27 0 0 = true := by kernel_rfl
theorem vq_fi_27_1_1 : fieldB Try.prog 27 1 1 = true := by kernel_rfl
theorem vq_fi_27_4_4 : fieldB Try.prog 27 4 4 = true := by kernel_rfl
theorem vq_fi_27_5_5 : fieldB Try.prog 27 5 5 = true := by kernel_rfl
theorem vq_pl_22 : plainB Try.prog 22 = true := by kernel_rfl
theorem vq_pl_23 : plainB Try.prog 23 = true := by kernel_rfl
theorem vq_pl_24 : plainB Try.prog 24 = true := by kernel_rfl
theorem vq_pl_25 : plainB Try.prog 25 = true := by kernel_rfl
theorem vq_sl_22 : sliceB Try.prog 22 = true := by kernel_rfl
theorem vq_sl_23 : sliceB Try.prog 23 = true := by kernel_rfl
theorem vq_sl_24 : sliceB Try.prog 24 = true := by kernel_rfl
theorem vq_sl_25 : sliceB Try.prog 25 = true := by kernel_rfl
theorem vq_sl_54 : sliceB Try.prog 54 = true := by kernel_rfl
theorem vq_sl_57 : sliceB Try.prog 57 = true := by kernel_rfl
theorem vq_sz_3_1 : sizeB Try.prog 3 1 = true := by kernel_rfl
theorem vq_sz_4_1 : sizeB Try.prog 4 1 = true := by kernel_rfl
theorem vq_sz_9_1 : sizeB Try.prog 9 1 = true := by kernel_rfl
theorem digTo_size : ∀ (d f q : Nat) (s : ByteArray), q < 10 ^ d → q ≤ f → (digTo f q s).size ≤ s.size + d
  | 0, f, q, s, hq, _ => by
    obtain rfl : q = 0 := by simpa using hq
    rw [digTo_zero]; omega
  | d + 1, f, q, s, hq, hf => by
    by_cases h : 0 < q
    · rw [digTo_step h hf]
      have h1 : q / 10 < 10 ^ d := by rw [Nat.pow_succ] at hq; omega
      have h2 := digTo_size d (f - 1) (q / 10) ((⟨#[UInt8.ofNat (48 + q % 10)]⟩ : ByteArray) ++ s) h1 (by omega)
      rw [ByteArray.size_append] at h2
      have c : (⟨#[UInt8.ofNat (48 + q % 10)]⟩ : ByteArray).size = 1 := rfl
      omega
    · obtain rfl : q = 0 := by omega
      rw [digTo_zero]; omega
theorem mkText_size {k : Nat} (h : k ≤ 1000000000) : (mkText k).size ≤ 20 := by
  have h1 := digTo_size 10 k k ⟨#[]⟩ (by omega) (Nat.le_refl _)
  unfold mkText
  rw [ByteArray.size_append]
  have c : (⟨#[109]⟩ : ByteArray).size = 1 := rfl
  have c0 : (⟨#[]⟩ : ByteArray).size = 0 := rfl
  omega
theorem v_markText (k : Nat) (hk : 0 < k) (h : k ≤ 1000000000) : Fn Try.prog 87 [.one (.int .i64 (k : Int))] (.one (.str (mkText k))) := by
  intro w S vs hS hd
  obtain ⟨v, vs1, rfl, h1, h2⟩ := hd
  obtain rfl : vs1 = [] := h2
  have h1 : v = .int .i64 (k : Int) := h1
  subst h1
  exact (markText_any k hk h w).mono fun e w' ⟨he, _, hb⟩ => ⟨he, hb⟩

theorem g_markLabelS (x : List GLabel) (a : Nat) (ha : 0 < a ∧ a + ctL crLabel x ≤ 900000000) : FnG Try.prog 36 [.one (.own 1000000 2 x.length), .one (.int .i64 (a : Int))] [(1000000, .arr 2 x.length (fun i j => nmA 1000001 (i * 2 + j) (ceLabel (x.getD i (default : GLabel)) j))), (1000001, .trees (x.length * 2) (fun _ => .int .i64 0))] (.one (.int .i64 ((a + ctL crLabel x : Nat) : Int))) [(1000000, .arr 2 x.length (fun i j => nmA 1000001 (i * 2 + j) (ceLabel ((mkL crLabel mrLabel x a).getD i (default : GLabel)) j))), (1000001, .trees (x.length * 2) (fun _ => .int .i64 0))] := by
  obtain ⟨ha0, ha1⟩ := ha
  refine FnG.of_body (fn := Try.f36) Try.func36 rfl (Nat.le_of_ble_eq_true rfl) ?_
  intro w0
  show AW _ 29 _ _ _ _
  refine AW.boundO (t := 0) rfl fun hx => ?_
  refine AW.seq ?_
  refine AW.region ?_
  refine ARun.pure (PureOp.assign rfl .int) rfl rfl (Nat.le_of_ble_eq_true rfl) ?_
  refine ARun.nil ?_
  refine AW.seq ?_
  refine AW.seq ?_
  refine AW.region ?_
  refine ARun.pure (PureOp.assign rfl .int) rfl rfl (Nat.le_of_ble_eq_true rfl) ?_
  refine ARun.nil ?_
  refine AW.block ?_
  refine AW.loop (ι := Nat) (fun k => ⟨[(0, .one (.own 1000000 2 x.length)), (1, .one (.int .i64 ((a + ((x.take k).map crLabel).sum : Nat) : Int))), (5, .one (.int .i64 (k : Int)))], [(1000000, .arr 2 x.length (fun i j => nmA 1000001 (i * 2 + j) (ceLabel ((mixL crLabel mrLabel x a k).getD i (default : GLabel)) j))), (1000001, .trees (x.length * 2) (fun _ => .int .i64 0))]⟩) (fun k => k ≤ x.length) (fun k => x.length - k) 0 (Nat.zero_le _) ⟨⟨⟨_, rfl, rfl⟩, ⟨_, rfl, by simp⟩, ⟨_, rfl, rfl⟩, trivial⟩, ⟨⟨_, rfl, rfl, Nat.le_refl _, fun i j _ _ => by rw [mix_zero]⟩, ⟨_, rfl, fun _ _ => rfl⟩, trivial⟩⟩ ?_
  intro k hk
  refine AW.seq ?_
  refine AW.seq ?_
  refine AW.region ?_
  refine ARun.pure (PureOp.move rfl (.tmp rfl)) rfl rfl (Nat.le_of_ble_eq_true rfl) ?_
  refine ARun.pure (PureOp.move rfl (.tmp rfl)) rfl rfl (Nat.le_of_ble_eq_true rfl) ?_
  refine ARun.pure (PureOp.lenOwn rfl (.tmp rfl) vq_sl_57) rfl rfl (Nat.le_of_ble_eq_true rfl) ?_
  refine ARun.pure (PureOp.intOp rfl (.tmp rfl) (.tmp rfl) rfl) rfl rfl (Nat.le_of_ble_eq_true rfl) ?_
  refine ARun.nil ?_
  refine AW.cond (.tmp rfl) (fun hb1 => ?_) (fun hb1 => ?_)
  · have _u := True.intro
    replace hb1 := of_decide_eq_true hb1
    have hkl : k < x.length := by omega
    obtain ⟨hst, hsm⟩ := ct_step (ct := crLabel) (default : GLabel) hkl
    have hce : crLabel (x.getD k (default : GLabel)) = 0 + 1 + 1 := rfl
    refine AW.skip ?_
    refine AW.seq ?_
    refine AW.block ?_
    refine AW.seq ?_
    refine AW.region ?_
    refine ARun.pure (PureOp.move rfl (.tmp rfl)) rfl rfl (Nat.le_of_ble_eq_true rfl) ?_
    refine ARun.pure (PureOp.move rfl (.tmp rfl)) rfl rfl (Nat.le_of_ble_eq_true rfl) ?_
    refine ARun.pure (PureOp.move rfl (.tmp rfl)) rfl rfl (Nat.le_of_ble_eq_true rfl) ?_
    refine ARun.pure (PureOp.call rfl (v_markText (a + ((x.take k).map crLabel).sum) (by omega) (by omega)) ⟨⟨_, (.tmp rfl), .int⟩, trivial⟩ vq_ca_87 (Nat.le_trans (mkText_size (by omega)) (by decide))) rfl rfl (Nat.le_of_ble_eq_true rfl) ?_
    refine ARun.pure (PureOp.indexOwn (i := k) rfl (.tmp rfl) vq_el_57_2 (.tmp rfl) rfl (by omega)) rfl rfl (Nat.le_of_ble_eq_true rfl) ?_
    refine ARun.pure (PureOp.fieldPtr rfl (.tmp rfl) vq_fi_106_0_0) rfl rfl (Nat.le_of_ble_eq_true rfl) ?_
    refine ARun.storeArr rfl (.tmp rfl) (.tmp rfl) trivial rfl (show k < x.length from by omega) (Nat.le_of_ble_eq_true rfl) vq_sz_9_1 rfl rfl ?_
    refine ARun.nil ?_
    refine AW.seq ?_
    refine AW.region ?_
    refine ARun.pure (PureOp.move rfl (.tmp rfl)) rfl rfl (Nat.le_of_ble_eq_true rfl) ?_
    refine ARun.pure (PureOp.add (c := ((a + ((x.take k).map crLabel).sum + 1 : Nat) : Int)) rfl (.tmp rfl) .int (by rw [wrap_id (by omega) (by omega)]; omega)) rfl rfl (Nat.le_of_ble_eq_true rfl) ?_
    refine ARun.pure (PureOp.assign rfl (.tmp rfl)) rfl rfl (Nat.le_of_ble_eq_true rfl) ?_
    refine ARun.nil ?_
    refine AW.seq ?_
    refine AW.region ?_
    refine ARun.pure (PureOp.move rfl (.tmp rfl)) rfl rfl (Nat.le_of_ble_eq_true rfl) ?_
    refine ARun.pure (PureOp.move rfl (.tmp rfl)) rfl rfl (Nat.le_of_ble_eq_true rfl) ?_
    refine ARun.pure (PureOp.move rfl (.tmp rfl)) rfl rfl (Nat.le_of_ble_eq_true rfl) ?_
    refine ARun.pure (PureOp.call rfl (v_markText (a + ((x.take k).map crLabel).sum + 1) (by omega) (by omega)) ⟨⟨_, (.tmp rfl), .int⟩, trivial⟩ vq_ca_87 (Nat.le_trans (mkText_size (by omega)) (by decide))) rfl rfl (Nat.le_of_ble_eq_true rfl) ?_
    refine ARun.pure (PureOp.indexOwn (i := k) rfl (.tmp rfl) vq_el_57_2 (.tmp rfl) rfl (by omega)) rfl rfl (Nat.le_of_ble_eq_true rfl) ?_
    refine ARun.pure (PureOp.fieldPtr rfl (.tmp rfl) vq_fi_106_1_1) rfl rfl (Nat.le_of_ble_eq_true rfl) ?_
    refine ARun.storeArr rfl (.tmp rfl) (.tmp rfl) trivial rfl (show k < x.length from by omega) (Nat.le_of_ble_eq_true rfl) vq_sz_9_1 rfl rfl ?_
    refine ARun.nil ?_
    refine AW.region ?_
    refine ARun.pure (PureOp.move rfl (.tmp rfl)) rfl rfl (Nat.le_of_ble_eq_true rfl) ?_
    refine ARun.pure (PureOp.add (c := ((a + ((x.take k).map crLabel).sum + 1 + 1 : Nat) : Int)) rfl (.tmp rfl) .int (by rw [wrap_id (by omega) (by omega)]; omega)) rfl rfl (Nat.le_of_ble_eq_true rfl) ?_
    refine ARun.pure (PureOp.assign rfl (.tmp rfl)) rfl rfl (Nat.le_of_ble_eq_true rfl) ?_
    refine ARun.nil ?_
    refine AW.region ?_
    refine ARun.pure (PureOp.move rfl (.tmp rfl)) rfl rfl (Nat.le_of_ble_eq_true rfl) ?_
    refine ARun.pure (PureOp.add (c := ((k + 1 : Nat) : Int)) rfl (.tmp rfl) .int (by rw [wrap_id (by omega) (by omega)]; omega)) rfl rfl (Nat.le_of_ble_eq_true rfl) ?_
    refine ARun.pure (PureOp.assign rfl (.tmp rfl)) rfl rfl (Nat.le_of_ble_eq_true rfl) ?_
    refine ARun.nil ?_
    exact ⟨k + 1, by omega, by dsimp only; omega, ⟨⟨⟨_, rfl, rfl⟩, ⟨_, rfl, congrArg (fun z : Nat => SV.one (.int .i64 (z : Int))) (by omega)⟩, ⟨_, rfl, rfl⟩, trivial⟩, ⟨⟨_, rfl, rfl, Nat.le_refl _, fun i j hi (hj : j < 2) => by
      by_cases h : i = k
      · subst h; simp only [AObj.f, true_and, mix_new (default : GLabel) hkl]; exact (match j, hj with | 0, _ => rfl | 1, _ => rfl | _ + 2, h => absurd h (by omega))
      · simp only [AObj.f, h, false_and, if_false, mix_old (default : GLabel) hkl h]⟩, ⟨_, rfl, fun _ _ => rfl⟩, trivial⟩⟩⟩
  · have _u := True.intro
    replace hb1 := of_decide_eq_false hb1
    have hkl : ¬ k < x.length := by omega
    refine AW.exit ?_
    refine AW.seq ?_
    refine AW.region ?_
    refine ARun.pure (PureOp.move rfl (.tmp rfl)) rfl rfl (Nat.le_of_ble_eq_true rfl) ?_
    refine ARun.pure (PureOp.assign rfl (.tmp rfl)) rfl rfl (Nat.le_of_ble_eq_true rfl) ?_
    refine ARun.nil ?_
    refine AW.ret (show ResL _ _ [.tmp 4] _ ∧ HeapLe _ _ from ⟨resI rfl ?_, ⟨⟨_, rfl, rfl, Nat.le_refl _, fun i j _ _ => by rw [mix_all hkl]⟩, ⟨_, rfl, fun _ _ => rfl⟩, trivial⟩⟩)
    rw [show ctL crLabel x = _ from (ct_end hkl).symm]

theorem m_LabelS (x : List GLabel) (a : Nat) (ha : 0 < a ∧ a + ctL crLabel x ≤ 900000000) : FnM Try.prog 36 (.one (.lst 2 x.length (fun i0 j0 => ([.str ((x.getD i0 (default : GLabel)).lname), .str ((x.getD i0 (default : GLabel)).lvalue)] : List AV).getD j0 (.con undef)))) [.one (.int .i64 (a : Int))] (.one (.int .i64 ((a + ctL crLabel x : Nat) : Int))) (.one (.lst 2 ((mkL crLabel mrLabel x a).length) (fun i0 j0 => ([.str (((mkL crLabel mrLabel x a).getD i0 (default : GLabel)).lname), .str (((mkL crLabel mrLabel x a).getD i0 (default : GLabel)).lvalue)] : List AV).getD j0 (.con undef)))) := by
  have h := FnM.ofRow (r := .one (.int .i64 ((a + ctL crLabel x : Nat) : Int))) (args := [.one (.int .i64 (a : Int))]) (g := fun i j => ceLabel (x.getD i (default : GLabel)) j) (g' := fun i j => ceLabel ((mkL crLabel mrLabel x a).getD i (default : GLabel)) j) trivial (fun s hs => by simp only [List.mem_singleton] at hs; subst hs; trivial) (by decide) (fun i j hi hj => ⟨rfl, match j, hj with | 0, _ => rfl | 1, _ => rfl | _ + 2, h => absurd h (by omega)⟩) (fun i j hi hj => ⟨rfl, match j, hj with | 0, _ => fun h => by cases h | 1, _ => fun h => by cases h | _ + 2, h => absurd h (by omega)⟩) (fun i j hi hj => match j, hj with | 0, _ => rfl | 1, _ => rfl | _ + 2, h => absurd h (by omega)) (g_markLabelS x a ha)
  have hl : (mkL crLabel mrLabel x a).length = x.length := mkL_len
  show FnM _ _ _ _ _ (.one (.lst 2 (mkL crLabel mrLabel x a).length (fun i j => ceLabel ((mkL crLabel mrLabel x a).getD i (default : GLabel)) j)))
  rw [hl]; exact h
theorem g_markStringS (x : List ByteArray) (a : Nat) (ha : 0 < a ∧ a + ctL c1 x ≤ 900000000) : FnG Try.prog 37 [.one (.own 1000000 1 x.length), .one (.int .i64 (a : Int))] [(1000000, .arr 1 x.length (fun i j => nmA 1000001 (i * 1 + j) (ceString (x.getD i (ByteArray.empty : ByteArray)) j))), (1000001, .trees (x.length * 1) (fun _ => .int .i64 0))] (.one (.int .i64 ((a + ctL c1 x : Nat) : Int))) [(1000000, .arr 1 x.length (fun i j => nmA 1000001 (i * 1 + j) (ceString ((mkL c1 mkS x a).getD i (ByteArray.empty : ByteArray)) j))), (1000001, .trees (x.length * 1) (fun _ => .int .i64 0))] := by
  obtain ⟨ha0, ha1⟩ := ha
  refine FnG.of_body (fn := Try.f37) Try.func37 rfl (Nat.le_of_ble_eq_true rfl) ?_
  intro w0
  show AW _ 20 _ _ _ _
  refine AW.boundO (t := 0) rfl fun hx => ?_
  refine AW.seq ?_
  refine AW.region ?_
  refine ARun.pure (PureOp.assign rfl .int) rfl rfl (Nat.le_of_ble_eq_true rfl) ?_
  refine ARun.nil ?_
  refine AW.seq ?_
  refine AW.seq ?_
  refine AW.region ?_
  refine ARun.pure (PureOp.assign rfl .int) rfl rfl (Nat.le_of_ble_eq_true rfl) ?_
  refine ARun.nil ?_
  refine AW.block ?_
  refine AW.loop (ι := Nat) (fun k => ⟨[(0, .one (.own 1000000 1 x.length)), (1, .one (.int .i64 ((a + ((x.take k).map c1).sum : Nat) : Int))), (5, .one (.int .i64 (k : Int)))], [(1000000, .arr 1 x.length (fun i j => nmA 1000001 (i * 1 + j) (ceString ((mixL c1 mkS x a k).getD i (ByteArray.empty : ByteArray)) j))), (1000001, .trees (x.length * 1) (fun _ => .int .i64 0))]⟩) (fun k => k ≤ x.length) (fun k => x.length - k) 0 (Nat.zero_le _) ⟨⟨⟨_, rfl, rfl⟩, ⟨_, rfl, by simp⟩, ⟨_, rfl, rfl⟩, trivial⟩, ⟨⟨_, rfl, rfl, Nat.le_refl _, fun i j _ _ => by rw [mix_zero]⟩, ⟨_, rfl, fun _ _ => rfl⟩, trivial⟩⟩ ?_
  intro k hk
  refine AW.seq ?_
  refine AW.seq ?_
  refine AW.region ?_
  refine ARun.pure (PureOp.move rfl (.tmp rfl)) rfl rfl (Nat.le_of_ble_eq_true rfl) ?_
  refine ARun.pure (PureOp.move rfl (.tmp rfl)) rfl rfl (Nat.le_of_ble_eq_true rfl) ?_
  refine ARun.pure (PureOp.lenOwn rfl (.tmp rfl) vq_sl_54) rfl rfl (Nat.le_of_ble_eq_true rfl) ?_
  refine ARun.pure (PureOp.intOp rfl (.tmp rfl) (.tmp rfl) rfl) rfl rfl (Nat.le_of_ble_eq_true rfl) ?_
  refine ARun.nil ?_
  refine AW.cond (.tmp rfl) (fun hb1 => ?_) (fun hb1 => ?_)
  · have _u := True.intro
    replace hb1 := of_decide_eq_true hb1
    have hkl : k < x.length := by omega
    obtain ⟨hst, hsm⟩ := ct_step (ct := c1) (ByteArray.empty : ByteArray) hkl
    have hce : c1 (x.getD k (ByteArray.empty : ByteArray)) = 1 := rfl
    refine AW.skip ?_
    refine AW.seq ?_
    refine AW.block ?_
    refine AW.seq ?_
    refine AW.region ?_
    refine ARun.pure (PureOp.move rfl (.tmp rfl)) rfl rfl (Nat.le_of_ble_eq_true rfl) ?_
    refine ARun.pure (PureOp.move rfl (.tmp rfl)) rfl rfl (Nat.le_of_ble_eq_true rfl) ?_
    refine ARun.pure (PureOp.move rfl (.tmp rfl)) rfl rfl (Nat.le_of_ble_eq_true rfl) ?_
    refine ARun.pure (PureOp.call rfl (v_markText (a + ((x.take k).map c1).sum) (by omega) (by omega)) ⟨⟨_, (.tmp rfl), .int⟩, trivial⟩ vq_ca_87 (Nat.le_trans (mkText_size (by omega)) (by decide))) rfl rfl (Nat.le_of_ble_eq_true rfl) ?_
    refine ARun.pure (PureOp.indexOwn (i := k) rfl (.tmp rfl) vq_el_54_1 (.tmp rfl) rfl (by omega)) rfl rfl (Nat.le_of_ble_eq_true rfl) ?_
    refine ARun.storeElem rfl (.tmp rfl) (.tmp rfl) trivial rfl (show k < x.length from by omega) rfl vq_sz_9_1 rfl rfl ?_
    refine ARun.nil ?_
    refine AW.region ?_
    refine ARun.pure (PureOp.move rfl (.tmp rfl)) rfl rfl (Nat.le_of_ble_eq_true rfl) ?_
    refine ARun.pure (PureOp.add (c := ((a + ((x.take k).map c1).sum + 1 : Nat) : Int)) rfl (.tmp rfl) .int (by rw [wrap_id (by omega) (by omega)]; omega)) rfl rfl (Nat.le_of_ble_eq_true rfl) ?_
    refine ARun.pure (PureOp.assign rfl (.tmp rfl)) rfl rfl (Nat.le_of_ble_eq_true rfl) ?_
    refine ARun.nil ?_
    refine AW.region ?_
    refine ARun.pure (PureOp.move rfl (.tmp rfl)) rfl rfl (Nat.le_of_ble_eq_true rfl) ?_
    refine ARun.pure (PureOp.add (c := ((k + 1 : Nat) : Int)) rfl (.tmp rfl) .int (by rw [wrap_id (by omega) (by omega)]; omega)) rfl rfl (Nat.le_of_ble_eq_true rfl) ?_
    refine ARun.pure (PureOp.assign rfl (.tmp rfl)) rfl rfl (Nat.le_of_ble_eq_true rfl) ?_
    refine ARun.nil ?_
    exact ⟨k + 1, by omega, by dsimp only; omega, ⟨⟨⟨_, rfl, rfl⟩, ⟨_, rfl, congrArg (fun z : Nat => SV.one (.int .i64 (z : Int))) (by omega)⟩, ⟨_, rfl, rfl⟩, trivial⟩, ⟨⟨_, rfl, rfl, Nat.le_refl _, fun i j hi (hj : j < 1) => by
      by_cases h : i = k
      · subst h; simp only [AObj.f, true_and, mix_new (ByteArray.empty : ByteArray) hkl]; exact (match j, hj with | 0, _ => rfl | _ + 1, h => absurd h (by omega))
      · simp only [AObj.f, h, false_and, if_false, mix_old (ByteArray.empty : ByteArray) hkl h]⟩, ⟨_, rfl, fun _ _ => rfl⟩, trivial⟩⟩⟩
  · have _u := True.intro
    replace hb1 := of_decide_eq_false hb1
    have hkl : ¬ k < x.length := by omega
    refine AW.exit ?_
    refine AW.seq ?_
    refine AW.region ?_
    refine ARun.pure (PureOp.move rfl (.tmp rfl)) rfl rfl (Nat.le_of_ble_eq_true rfl) ?_
    refine ARun.pure (PureOp.assign rfl (.tmp rfl)) rfl rfl (Nat.le_of_ble_eq_true rfl) ?_
    refine ARun.nil ?_
    refine AW.ret (show ResL _ _ [.tmp 4] _ ∧ HeapLe _ _ from ⟨resI rfl ?_, ⟨⟨_, rfl, rfl, Nat.le_refl _, fun i j _ _ => by rw [mix_all hkl]⟩, ⟨_, rfl, fun _ _ => rfl⟩, trivial⟩⟩)
    rw [show ctL c1 x = _ from (ct_end hkl).symm]

theorem m_StringS (x : List ByteArray) (a : Nat) (ha : 0 < a ∧ a + ctL c1 x ≤ 900000000) : FnM Try.prog 37 (.one (.lst 1 x.length (fun i0 _ => .str (x.getD i0 ByteArray.empty)))) [.one (.int .i64 (a : Int))] (.one (.int .i64 ((a + ctL c1 x : Nat) : Int))) (.one (.lst 1 ((mkL c1 mkS x a).length) (fun i0 _ => .str ((mkL c1 mkS x a).getD i0 ByteArray.empty)))) := by
  have h := FnM.ofRow (r := .one (.int .i64 ((a + ctL c1 x : Nat) : Int))) (args := [.one (.int .i64 (a : Int))]) (g := fun i j => ceString (x.getD i (ByteArray.empty : ByteArray)) j) (g' := fun i j => ceString ((mkL c1 mkS x a).getD i (ByteArray.empty : ByteArray)) j) trivial (fun s hs => by simp only [List.mem_singleton] at hs; subst hs; trivial) (by decide) (fun i j hi hj => ⟨rfl, match j, hj with | 0, _ => rfl | _ + 1, h => absurd h (by omega)⟩) (fun i j hi hj => ⟨rfl, match j, hj with | 0, _ => fun h => by cases h | _ + 1, h => absurd h (by omega)⟩) (fun i j hi hj => match j, hj with | 0, _ => rfl | _ + 1, h => absurd h (by omega)) (g_markStringS x a ha)
  have hl : (mkL c1 mkS x a).length = x.length := mkL_len
  show FnM _ _ _ _ _ (.one (.lst 1 (mkL c1 mkS x a).length (fun i j => ceString ((mkL c1 mkS x a).getD i (ByteArray.empty : ByteArray)) j)))
  rw [hl]; exact h
theorem g_markEntryS (x : List GEntry) (a : Nat) (ha : 0 < a ∧ a + ctL crEntry x ≤ 900000000) : FnG Try.prog 54 [.one (.own 1000000 2 x.length), .one (.int .i64 (a : Int))] [(1000000, .arr 2 x.length (fun i j => nmA 1000001 (i * 2 + j) (ceEntry (x.getD i (default : GEntry)) j))), (1000001, .trees (x.length * 2) (fun _ => .int .i64 0))] (.one (.int .i64 ((a + ctL crEntry x : Nat) : Int))) [(1000000, .arr 2 x.length (fun i j => nmA 1000001 (i * 2 + j) (ceEntry ((mkL crEntry mrEntry x a).getD i (default : GEntry)) j))), (1000001, .trees (x.length * 2) (fun _ => .int .i64 0))] := by
  obtain ⟨ha0, ha1⟩ := ha
  refine FnG.of_body (fn := Try.f54) Try.func54 rfl (Nat.le_of_ble_eq_true rfl) ?_
  intro w0
  show AW _ 28 _ _ _ _
  refine AW.boundO (t := 0) rfl fun hx => ?_
  refine AW.seq ?_
  refine AW.region ?_
  refine ARun.pure (PureOp.assign rfl .int) rfl rfl (Nat.le_of_ble_eq_true rfl) ?_
  refine ARun.nil ?_
  refine AW.seq ?_
  refine AW.seq ?_
  refine AW.region ?_
  refine ARun.pure (PureOp.assign rfl .int) rfl rfl (Nat.le_of_ble_eq_true rfl) ?_
  refine ARun.nil ?_
  refine AW.block ?_
  refine AW.loop (ι := Nat) (fun k => ⟨[(0, .one (.own 1000000 2 x.length)), (1, .one (.int .i64 ((a + ((x.take k).map crEntry).sum : Nat) : Int))), (5, .one (.int .i64 (k : Int)))], [(1000000, .arr 2 x.length (fun i j => nmA 1000001 (i * 2 + j) (ceEntry ((mixL crEntry mrEntry x a k).getD i (default : GEntry)) j))), (1000001, .trees (x.length * 2) (fun _ => .int .i64 0))]⟩) (fun k => k ≤ x.length) (fun k => x.length - k) 0 (Nat.zero_le _) ⟨⟨⟨_, rfl, rfl⟩, ⟨_, rfl, by simp⟩, ⟨_, rfl, rfl⟩, trivial⟩, ⟨⟨_, rfl, rfl, Nat.le_refl _, fun i j _ _ => by rw [mix_zero]⟩, ⟨_, rfl, fun _ _ => rfl⟩, trivial⟩⟩ ?_
  intro k hk
  refine AW.seq ?_
  refine AW.seq ?_
  refine AW.region ?_
  refine ARun.pure (PureOp.move rfl (.tmp rfl)) rfl rfl (Nat.le_of_ble_eq_true rfl) ?_
  refine ARun.pure (PureOp.move rfl (.tmp rfl)) rfl rfl (Nat.le_of_ble_eq_true rfl) ?_
  refine ARun.pure (PureOp.lenOwn rfl (.tmp rfl) vq_sl_25) rfl rfl (Nat.le_of_ble_eq_true rfl) ?_
  refine ARun.pure (PureOp.intOp rfl (.tmp rfl) (.tmp rfl) rfl) rfl rfl (Nat.le_of_ble_eq_true rfl) ?_
  refine ARun.nil ?_
  refine AW.cond (.tmp rfl) (fun hb1 => ?_) (fun hb1 => ?_)
  · have _u := True.intro
    replace hb1 := of_decide_eq_true hb1
    have hkl : k < x.length := by omega
    obtain ⟨hst, hsm⟩ := ct_step (ct := crEntry) (default : GEntry) hkl
    have hce : crEntry (x.getD k (default : GEntry)) = 0 + 1 + 1 := rfl
    refine AW.skip ?_
    refine AW.seq ?_
    refine AW.block ?_
    refine AW.seq ?_
    refine AW.region ?_
    refine ARun.pure (PureOp.move rfl (.tmp rfl)) rfl rfl (Nat.le_of_ble_eq_true rfl) ?_
    refine ARun.pure (PureOp.move rfl (.tmp rfl)) rfl rfl (Nat.le_of_ble_eq_true rfl) ?_
    refine ARun.pure (PureOp.move rfl (.tmp rfl)) rfl rfl (Nat.le_of_ble_eq_true rfl) ?_
    refine ARun.pure (PureOp.indexOwn (i := k) rfl (.tmp rfl) vq_el_25_2 (.tmp rfl) rfl (by omega)) rfl rfl (Nat.le_of_ble_eq_true rfl) ?_
    refine ARun.pure (PureOp.fieldPtr rfl (.tmp rfl) vq_fi_120_0_0) rfl rfl (Nat.le_of_ble_eq_true rfl) ?_
    refine ARun.storeArr rfl (.tmp rfl) (.tmp rfl) trivial rfl (show k < x.length from by omega) (Nat.le_of_ble_eq_true rfl) vq_sz_3_1 rfl rfl ?_
    refine ARun.nil ?_
    refine AW.seq ?_
    refine AW.region ?_
    refine ARun.pure (PureOp.move rfl (.tmp rfl)) rfl rfl (Nat.le_of_ble_eq_true rfl) ?_
    refine ARun.pure (PureOp.add (c := ((a + ((x.take k).map crEntry).sum + 1 : Nat) : Int)) rfl (.tmp rfl) .int (by rw [wrap_id (by omega) (by omega)]; omega)) rfl rfl (Nat.le_of_ble_eq_true rfl) ?_
    refine ARun.pure (PureOp.assign rfl (.tmp rfl)) rfl rfl (Nat.le_of_ble_eq_true rfl) ?_
    refine ARun.nil ?_
    refine AW.seq ?_
    refine AW.region ?_
    refine ARun.pure (PureOp.move rfl (.tmp rfl)) rfl rfl (Nat.le_of_ble_eq_true rfl) ?_
    refine ARun.pure (PureOp.move rfl (.tmp rfl)) rfl rfl (Nat.le_of_ble_eq_true rfl) ?_
    refine ARun.pure (PureOp.move rfl (.tmp rfl)) rfl rfl (Nat.le_of_ble_eq_true rfl) ?_
    refine ARun.pure (PureOp.call rfl (v_markText (a + ((x.take k).map crEntry).sum + 1) (by omega) (by omega)) ⟨⟨_, (.tmp rfl), .int⟩, trivial⟩ vq_ca_87 (Nat.le_trans (mkText_size (by omega)) (by decide))) rfl rfl (Nat.le_of_ble_eq_true rfl) ?_
    refine ARun.pure (PureOp.indexOwn (i := k) rfl (.tmp rfl) vq_el_25_2 (.tmp rfl) rfl (by omega)) rfl rfl (Nat.le_of_ble_eq_true rfl) ?_
    refine ARun.pure (PureOp.fieldPtr rfl (.tmp rfl) vq_fi_120_1_1) rfl rfl (Nat.le_of_ble_eq_true rfl) ?_
    refine ARun.storeArr rfl (.tmp rfl) (.tmp rfl) trivial rfl (show k < x.length from by omega) (Nat.le_of_ble_eq_true rfl) vq_sz_9_1 rfl rfl ?_
    refine ARun.nil ?_
    refine AW.region ?_
    refine ARun.pure (PureOp.move rfl (.tmp rfl)) rfl rfl (Nat.le_of_ble_eq_true rfl) ?_
    refine ARun.pure (PureOp.add (c := ((a + ((x.take k).map crEntry).sum + 1 + 1 : Nat) : Int)) rfl (.tmp rfl) .int (by rw [wrap_id (by omega) (by omega)]; omega)) rfl rfl (Nat.le_of_ble_eq_true rfl) ?_
    refine ARun.pure (PureOp.assign rfl (.tmp rfl)) rfl rfl (Nat.le_of_ble_eq_true rfl) ?_
    refine ARun.nil ?_
    refine AW.region ?_
    refine ARun.pure (PureOp.move rfl (.tmp rfl)) rfl rfl (Nat.le_of_ble_eq_true rfl) ?_
    refine ARun.pure (PureOp.add (c := ((k + 1 : Nat) : Int)) rfl (.tmp rfl) .int (by rw [wrap_id (by omega) (by omega)]; omega)) rfl rfl (Nat.le_of_ble_eq_true rfl) ?_
    refine ARun.pure (PureOp.assign rfl (.tmp rfl)) rfl rfl (Nat.le_of_ble_eq_true rfl) ?_
    refine ARun.nil ?_
    exact ⟨k + 1, by omega, by dsimp only; omega, ⟨⟨⟨_, rfl, rfl⟩, ⟨_, rfl, congrArg (fun z : Nat => SV.one (.int .i64 (z : Int))) (by omega)⟩, ⟨_, rfl, rfl⟩, trivial⟩, ⟨⟨_, rfl, rfl, Nat.le_refl _, fun i j hi (hj : j < 2) => by
      by_cases h : i = k
      · subst h; simp only [AObj.f, true_and, mix_new (default : GEntry) hkl]; exact (match j, hj with | 0, _ => rfl | 1, _ => rfl | _ + 2, h => absurd h (by omega))
      · simp only [AObj.f, h, false_and, if_false, mix_old (default : GEntry) hkl h]⟩, ⟨_, rfl, fun _ _ => rfl⟩, trivial⟩⟩⟩
  · have _u := True.intro
    replace hb1 := of_decide_eq_false hb1
    have hkl : ¬ k < x.length := by omega
    refine AW.exit ?_
    refine AW.seq ?_
    refine AW.region ?_
    refine ARun.pure (PureOp.move rfl (.tmp rfl)) rfl rfl (Nat.le_of_ble_eq_true rfl) ?_
    refine ARun.pure (PureOp.assign rfl (.tmp rfl)) rfl rfl (Nat.le_of_ble_eq_true rfl) ?_
    refine ARun.nil ?_
    refine AW.ret (show ResL _ _ [.tmp 4] _ ∧ HeapLe _ _ from ⟨resI rfl ?_, ⟨⟨_, rfl, rfl, Nat.le_refl _, fun i j _ _ => by rw [mix_all hkl]⟩, ⟨_, rfl, fun _ _ => rfl⟩, trivial⟩⟩)
    rw [show ctL crEntry x = _ from (ct_end hkl).symm]

theorem m_EntryS (x : List GEntry) (a : Nat) (ha : 0 < a ∧ a + ctL crEntry x ≤ 900000000) : FnM Try.prog 54 (.one (.lst 2 x.length (fun i0 j0 => ([.int .i64 ((x.getD i0 (default : GEntry)).epoch), .str ((x.getD i0 (default : GEntry)).text)] : List AV).getD j0 (.con undef)))) [.one (.int .i64 (a : Int))] (.one (.int .i64 ((a + ctL crEntry x : Nat) : Int))) (.one (.lst 2 ((mkL crEntry mrEntry x a).length) (fun i0 j0 => ([.int .i64 (((mkL crEntry mrEntry x a).getD i0 (default : GEntry)).epoch), .str (((mkL crEntry mrEntry x a).getD i0 (default : GEntry)).text)] : List AV).getD j0 (.con undef)))) := by
  have h := FnM.ofRow (r := .one (.int .i64 ((a + ctL crEntry x : Nat) : Int))) (args := [.one (.int .i64 (a : Int))]) (g := fun i j => ceEntry (x.getD i (default : GEntry)) j) (g' := fun i j => ceEntry ((mkL crEntry mrEntry x a).getD i (default : GEntry)) j) trivial (fun s hs => by simp only [List.mem_singleton] at hs; subst hs; trivial) (by decide) (fun i j hi hj => ⟨rfl, match j, hj with | 0, _ => rfl | 1, _ => rfl | _ + 2, h => absurd h (by omega)⟩) (fun i j hi hj => ⟨rfl, match j, hj with | 0, _ => fun h => by cases h | 1, _ => fun h => by cases h | _ + 2, h => absurd h (by omega)⟩) (fun i j hi hj => match j, hj with | 0, _ => rfl | 1, _ => rfl | _ + 2, h => absurd h (by omega)) (g_markEntryS x a ha)
  have hl : (mkL crEntry mrEntry x a).length = x.length := mkL_len
  show FnM _ _ _ _ _ (.one (.lst 2 (mkL crEntry mrEntry x a).length (fun i j => ceEntry ((mkL crEntry mrEntry x a).getD i (default : GEntry)) j)))
  rw [hl]; exact h
theorem g_markEntrySS (x : List (List GEntry)) (a : Nat) (ha : 0 < a ∧ a + ctL (ctL crEntry) x ≤ 900000000) : FnG Try.prog 51 [.one (.own 1000000 1 x.length), .one (.int .i64 (a : Int))] [(1000000, .arr 1 x.length (fun i j => nmA 1000001 (i * 1 + j) (ceEntryS (x.getD i ([] : List GEntry)) j))), (1000001, .trees (x.length * 1) (famX 1 (fun i j => lonly (ceEntryS (x.getD i ([] : List GEntry)) j))))] (.one (.int .i64 ((a + ctL (ctL crEntry) x : Nat) : Int))) [(1000000, .arr 1 x.length (fun i j => nmA 1000001 (i * 1 + j) (ceEntryS ((mkL (ctL crEntry) (mkL crEntry mrEntry) x a).getD i ([] : List GEntry)) j))), (1000001, .trees (x.length * 1) (famX 1 (fun i j => lonly (ceEntryS ((mkL (ctL crEntry) (mkL crEntry mrEntry) x a).getD i ([] : List GEntry)) j))))] := by
  obtain ⟨ha0, ha1⟩ := ha
  refine FnG.of_body (fn := Try.f51) Try.func51 rfl (Nat.le_of_ble_eq_true rfl) ?_
  intro w0
  show AW _ 19 _ _ _ _
  refine AW.boundO (t := 0) rfl fun hx => ?_
  refine AW.seq ?_
  refine AW.region ?_
  refine ARun.pure (PureOp.assign rfl .int) rfl rfl (Nat.le_of_ble_eq_true rfl) ?_
  refine ARun.nil ?_
  refine AW.seq ?_
  refine AW.seq ?_
  refine AW.region ?_
  refine ARun.pure (PureOp.assign rfl .int) rfl rfl (Nat.le_of_ble_eq_true rfl) ?_
  refine ARun.nil ?_
  refine AW.block ?_
  refine AW.loop (ι := Nat) (fun k => ⟨[(0, .one (.own 1000000 1 x.length)), (1, .one (.int .i64 ((a + ((x.take k).map (ctL crEntry)).sum : Nat) : Int))), (5, .one (.int .i64 (k : Int)))], [(1000000, .arr 1 x.length (fun i j => nmA 1000001 (i * 1 + j) (ceEntryS ((mixL (ctL crEntry) (mkL crEntry mrEntry) x a k).getD i ([] : List GEntry)) j))), (1000001, .trees (x.length * 1) (famX 1 (fun i j => lonly (ceEntryS ((mixL (ctL crEntry) (mkL crEntry mrEntry) x a k).getD i ([] : List GEntry)) j))))]⟩) (fun k => k ≤ x.length) (fun k => x.length - k) 0 (Nat.zero_le _) ⟨⟨⟨_, rfl, rfl⟩, ⟨_, rfl, by simp⟩, ⟨_, rfl, rfl⟩, trivial⟩, ⟨⟨_, rfl, rfl, Nat.le_refl _, fun i j _ _ => by rw [mix_zero]⟩, ⟨_, rfl, fun q _ => by rw [mix_zero]⟩, trivial⟩⟩ ?_
  intro k hk
  refine AW.seq ?_
  refine AW.seq ?_
  refine AW.region ?_
  refine ARun.pure (PureOp.move rfl (.tmp rfl)) rfl rfl (Nat.le_of_ble_eq_true rfl) ?_
  refine ARun.pure (PureOp.move rfl (.tmp rfl)) rfl rfl (Nat.le_of_ble_eq_true rfl) ?_
  refine ARun.pure (PureOp.lenOwn rfl (.tmp rfl) vq_sl_22) rfl rfl (Nat.le_of_ble_eq_true rfl) ?_
  refine ARun.pure (PureOp.intOp rfl (.tmp rfl) (.tmp rfl) rfl) rfl rfl (Nat.le_of_ble_eq_true rfl) ?_
  refine ARun.nil ?_
  refine AW.cond (.tmp rfl) (fun hb1 => ?_) (fun hb1 => ?_)
  · have _u := True.intro
    replace hb1 := of_decide_eq_true hb1
    have hkl : k < x.length := by omega
    obtain ⟨hst, hsm⟩ := ct_step (ct := (ctL crEntry)) ([] : List GEntry) hkl
    refine AW.skip ?_
    refine AW.seq ?_
    refine AW.block ?_
    refine AW.region ?_
    refine ARun.pure (PureOp.move rfl (.tmp rfl)) rfl rfl (Nat.le_of_ble_eq_true rfl) ?_
    refine ARun.pure (PureOp.move rfl (.tmp rfl)) rfl rfl (Nat.le_of_ble_eq_true rfl) ?_
    refine ARun.pure (PureOp.indexOwn (i := k) rfl (.tmp rfl) vq_el_22_1 (.tmp rfl) rfl (by omega)) rfl rfl (Nat.le_of_ble_eq_true rfl) ?_
    refine ARun.pure (PureOp.loadPtr rfl (.tmp rfl) vq_pl_25 rfl rfl (show k < x.length from by omega) (Nat.le_of_ble_eq_true rfl)) rfl rfl (Nat.le_of_ble_eq_true rfl) ?_
    refine ARun.pure (PureOp.move rfl (.tmp rfl)) rfl rfl (Nat.le_of_ble_eq_true rfl) ?_
    refine ARun.mark (id := 1000001) (q0 := k * 1 + 0) (X' := fun q => if q = k * 1 + 0 then .lst 2 ((mkL crEntry mrEntry (x.getD k []) (a + ((x.take k).map (ctL crEntry)).sum)).length) (fun i0 j0 => ([.int .i64 (((mkL crEntry mrEntry (x.getD k []) (a + ((x.take k).map (ctL crEntry)).sum)).getD i0 (default : GEntry)).epoch), .str (((mkL crEntry mrEntry (x.getD k []) (a + ((x.take k).map (ctL crEntry)).sum)).getD i0 (default : GEntry)).text)] : List AV).getD j0 (.con undef)) else (famX 1 (fun i j => lonly (ceEntryS ((mixL (ctL crEntry) (mkL crEntry mrEntry) x a k).getD i ([] : List GEntry)) j))) q) rfl (m_EntryS (x.getD k []) (a + ((x.take k).map (ctL crEntry)).sum) ⟨by omega, by omega⟩) vq_ca_54 trivial (.tmp rfl) rfl rfl rfl (cell_lt (sz := 1) (j := 0) hkl (by decide)) (fun p hp _ => match p, hp with | 0, _ => (by show (famX 1 (fun i j => lonly (ceEntryS ((mixL (ctL crEntry) (mkL crEntry mrEntry) x a k).getD i ([] : List GEntry)) j))) (k * 1 + 0) = _; (try dsimp only); (repeat rw [if_neg (by omega)]); rw [famX_at (sz := 1) (j := 0) (by decide), mix_at ([] : List GEntry) hkl]; rfl) | _ + 1, h => absurd h (by simp [SV.leaves])) rfl trivial (fun p hp _ => match p, hp with | 0, _ => if_pos rfl | _ + 1, h => absurd h (by simp [SV.leaves])) (fun q _ hne => if_neg (fun e => hne 0 (Nat.zero_lt_one) rfl e)) ⟨(.tmp rfl), trivial, trivial⟩ rfl rfl (Nat.le_of_ble_eq_true rfl) ?_
    refine ARun.pure (PureOp.assign rfl (.tmp rfl)) rfl rfl (Nat.le_of_ble_eq_true rfl) ?_
    refine ARun.nil ?_
    refine AW.region ?_
    refine ARun.pure (PureOp.move rfl (.tmp rfl)) rfl rfl (Nat.le_of_ble_eq_true rfl) ?_
    refine ARun.pure (PureOp.add (c := ((k + 1 : Nat) : Int)) rfl (.tmp rfl) .int (by rw [wrap_id (by omega) (by omega)]; omega)) rfl rfl (Nat.le_of_ble_eq_true rfl) ?_
    refine ARun.pure (PureOp.assign rfl (.tmp rfl)) rfl rfl (Nat.le_of_ble_eq_true rfl) ?_
    refine ARun.nil ?_
    exact ⟨k + 1, by omega, by dsimp only; omega, ⟨⟨⟨_, rfl, rfl⟩, ⟨_, rfl, congrArg (fun z : Nat => SV.one (.int .i64 (z : Int))) (by omega)⟩, ⟨_, rfl, rfl⟩, trivial⟩, ⟨⟨_, rfl, rfl, Nat.le_refl _, fun i j hi (hj : j < 1) => by
      by_cases h : i = k
      · subst h; simp only [AObj.f, true_and, mix_new ([] : List GEntry) hkl]; exact (match j, hj with | 0, _ => rfl | _ + 1, h => absurd h (by omega))
      · simp only [AObj.f, h, false_and, if_false, mix_old ([] : List GEntry) hkl h]⟩, ⟨_, rfl, fun q hq => famX_ext (X := fun q => if q = k * 1 + 0 then .lst 2 ((mkL crEntry mrEntry (x.getD k []) (a + ((x.take k).map (ctL crEntry)).sum)).length) (fun i0 j0 => ([.int .i64 (((mkL crEntry mrEntry (x.getD k []) (a + ((x.take k).map (ctL crEntry)).sum)).getD i0 (default : GEntry)).epoch), .str (((mkL crEntry mrEntry (x.getD k []) (a + ((x.take k).map (ctL crEntry)).sum)).getD i0 (default : GEntry)).text)] : List AV).getD j0 (.con undef)) else (famX 1 (fun i j => lonly (ceEntryS ((mixL (ctL crEntry) (mkL crEntry mrEntry) x a k).getD i ([] : List GEntry)) j))) q) (g := fun i j => lonly (ceEntryS ((mixL (ctL crEntry) (mkL crEntry mrEntry) x a (k + 1)).getD i ([] : List GEntry)) j)) (by decide) (fun i j hi (hj : j < 1) => by
      (try dsimp only)
      by_cases h : i = k
      · subst h; rw [upd_at hj (show 0 < 1 by decide)]; simp only [famX_at hj, true_and, mix_new ([] : List GEntry) hkl, mix_at ([] : List GEntry) hkl]; exact (match j, hj with | 0, _ => rfl | _ + 1, h => absurd h (by omega))
      · rw [upd_at hj (show 0 < 1 by decide)]; simp only [famX_at hj, h, false_and, if_false, mix_old ([] : List GEntry) hkl h]) q hq⟩, trivial⟩⟩⟩
  · have _u := True.intro
    replace hb1 := of_decide_eq_false hb1
    have hkl : ¬ k < x.length := by omega
    refine AW.exit ?_
    refine AW.seq ?_
    refine AW.region ?_
    refine ARun.pure (PureOp.move rfl (.tmp rfl)) rfl rfl (Nat.le_of_ble_eq_true rfl) ?_
    refine ARun.pure (PureOp.assign rfl (.tmp rfl)) rfl rfl (Nat.le_of_ble_eq_true rfl) ?_
    refine ARun.nil ?_
    refine AW.ret (show ResL _ _ [.tmp 4] _ ∧ HeapLe _ _ from ⟨resI rfl ?_, ⟨⟨_, rfl, rfl, Nat.le_refl _, fun i j _ _ => by rw [mix_all hkl]⟩, ⟨_, rfl, fun q _ => by rw [mix_all hkl]⟩, trivial⟩⟩)
    rw [show ctL (ctL crEntry) x = _ from (ct_end hkl).symm]

theorem m_EntrySS (x : List (List GEntry)) (a : Nat) (ha : 0 < a ∧ a + ctL (ctL crEntry) x ≤ 900000000) : FnM Try.prog 51 (.one (.lst 1 x.length (fun i0 _ => .lst 2 ((x.getD i0 []).length) (fun i1 j1 => ([.int .i64 (((x.getD i0 []).getD i1 (default : GEntry)).epoch), .str (((x.getD i0 []).getD i1 (default : GEntry)).text)] : List AV).getD j1 (.con undef))))) [.one (.int .i64 (a : Int))] (.one (.int .i64 ((a + ctL (ctL crEntry) x : Nat) : Int))) (.one (.lst 1 ((mkL (ctL crEntry) (mkL crEntry mrEntry) x a).length) (fun i0 _ => .lst 2 (((mkL (ctL crEntry) (mkL crEntry mrEntry) x a).getD i0 []).length) (fun i1 j1 => ([.int .i64 ((((mkL (ctL crEntry) (mkL crEntry mrEntry) x a).getD i0 []).getD i1 (default : GEntry)).epoch), .str ((((mkL (ctL crEntry) (mkL crEntry mrEntry) x a).getD i0 []).getD i1 (default : GEntry)).text)] : List AV).getD j1 (.con undef))))) := by
  have h := FnM.ofRow (r := .one (.int .i64 ((a + ctL (ctL crEntry) x : Nat) : Int))) (args := [.one (.int .i64 (a : Int))]) (g := fun i j => ceEntryS (x.getD i ([] : List GEntry)) j) (g' := fun i j => ceEntryS ((mkL (ctL crEntry) (mkL crEntry mrEntry) x a).getD i ([] : List GEntry)) j) trivial (fun s hs => by simp only [List.mem_singleton] at hs; subst hs; trivial) (by decide) (fun i j hi hj => ⟨rfl, famX_at hj⟩) (fun i j hi hj => ⟨rfl, fun h => (famX_at hj).trans (lonly_L h)⟩) (fun i j hi hj => match j, hj with | 0, _ => rfl | _ + 1, h => absurd h (by omega)) (g_markEntrySS x a ha)
  have hl : (mkL (ctL crEntry) (mkL crEntry mrEntry) x a).length = x.length := mkL_len
  show FnM _ _ _ _ _ (.one (.lst 1 (mkL (ctL crEntry) (mkL crEntry mrEntry) x a).length (fun i j => ceEntryS ((mkL (ctL crEntry) (mkL crEntry mrEntry) x a).getD i ([] : List GEntry)) j)))
  rw [hl]; exact h
theorem g_markBoolS (x : List Bool) (a : Nat) (ha : 0 < a ∧ a + ctL c1 x ≤ 900000000) : FnG Try.prog 52 [.one (.own 1000000 1 x.length), .one (.int .i64 (a : Int))] [(1000000, .arr 1 x.length (fun i j => nmA 1000001 (i * 1 + j) (ceBool (x.getD i (false : Bool)) j))), (1000001, .trees (x.length * 1) (fun _ => .int .i64 0))] (.one (.int .i64 ((a + ctL c1 x : Nat) : Int))) [(1000000, .arr 1 x.length (fun i j => nmA 1000001 (i * 1 + j) (ceBool ((mkL c1 mkB x a).getD i (false : Bool)) j))), (1000001, .trees (x.length * 1) (fun _ => .int .i64 0))] := by
  obtain ⟨ha0, ha1⟩ := ha
  refine FnG.of_body (fn := Try.f52) Try.func52 rfl (Nat.le_of_ble_eq_true rfl) ?_
  intro w0
  show AW _ 21 _ _ _ _
  refine AW.boundO (t := 0) rfl fun hx => ?_
  refine AW.seq ?_
  refine AW.region ?_
  refine ARun.pure (PureOp.assign rfl .int) rfl rfl (Nat.le_of_ble_eq_true rfl) ?_
  refine ARun.nil ?_
  refine AW.seq ?_
  refine AW.seq ?_
  refine AW.region ?_
  refine ARun.pure (PureOp.assign rfl .int) rfl rfl (Nat.le_of_ble_eq_true rfl) ?_
  refine ARun.nil ?_
  refine AW.block ?_
  refine AW.loop (ι := Nat) (fun k => ⟨[(0, .one (.own 1000000 1 x.length)), (1, .one (.int .i64 ((a + ((x.take k).map c1).sum : Nat) : Int))), (5, .one (.int .i64 (k : Int)))], [(1000000, .arr 1 x.length (fun i j => nmA 1000001 (i * 1 + j) (ceBool ((mixL c1 mkB x a k).getD i (false : Bool)) j))), (1000001, .trees (x.length * 1) (fun _ => .int .i64 0))]⟩) (fun k => k ≤ x.length) (fun k => x.length - k) 0 (Nat.zero_le _) ⟨⟨⟨_, rfl, rfl⟩, ⟨_, rfl, by simp⟩, ⟨_, rfl, rfl⟩, trivial⟩, ⟨⟨_, rfl, rfl, Nat.le_refl _, fun i j _ _ => by rw [mix_zero]⟩, ⟨_, rfl, fun _ _ => rfl⟩, trivial⟩⟩ ?_
  intro k hk
  refine AW.seq ?_
  refine AW.seq ?_
  refine AW.region ?_
  refine ARun.pure (PureOp.move rfl (.tmp rfl)) rfl rfl (Nat.le_of_ble_eq_true rfl) ?_
  refine ARun.pure (PureOp.move rfl (.tmp rfl)) rfl rfl (Nat.le_of_ble_eq_true rfl) ?_
  refine ARun.pure (PureOp.lenOwn rfl (.tmp rfl) vq_sl_23) rfl rfl (Nat.le_of_ble_eq_true rfl) ?_
  refine ARun.pure (PureOp.intOp rfl (.tmp rfl) (.tmp rfl) rfl) rfl rfl (Nat.le_of_ble_eq_true rfl) ?_
  refine ARun.nil ?_
  refine AW.cond (.tmp rfl) (fun hb1 => ?_) (fun hb1 => ?_)
  · have _u := True.intro
    replace hb1 := of_decide_eq_true hb1
    have hkl : k < x.length := by omega
    obtain ⟨hst, hsm⟩ := ct_step (ct := c1) (false : Bool) hkl
    have hce : c1 (x.getD k (false : Bool)) = 1 := rfl
    refine AW.skip ?_
    refine AW.seq ?_
    refine AW.block ?_
    refine AW.seq ?_
    refine AW.region ?_
    refine ARun.pure (PureOp.move rfl (.tmp rfl)) rfl rfl (Nat.le_of_ble_eq_true rfl) ?_
    refine ARun.pure (PureOp.move rfl (.tmp rfl)) rfl rfl (Nat.le_of_ble_eq_true rfl) ?_
    refine ARun.pure (PureOp.move rfl (.tmp rfl)) rfl rfl (Nat.le_of_ble_eq_true rfl) ?_
    refine ARun.pure (PureOp.rem (a := a + ((x.take k).map c1).sum) (b := 3) rfl (.tmp rfl) .int rfl (by decide) (by omega)) rfl rfl (Nat.le_of_ble_eq_true rfl) ?_
    refine ARun.pure (PureOp.intOp rfl (.tmp rfl) .int rfl) rfl rfl (Nat.le_of_ble_eq_true rfl) ?_
    refine ARun.pure (PureOp.indexOwn (i := k) rfl (.tmp rfl) vq_el_23_1 (.tmp rfl) rfl (by omega)) rfl rfl (Nat.le_of_ble_eq_true rfl) ?_
    refine ARun.storeElem rfl (.tmp rfl) (.tmp rfl) trivial rfl (show k < x.length from by omega) rfl vq_sz_4_1 rfl rfl ?_
    refine ARun.nil ?_
    refine AW.region ?_
    refine ARun.pure (PureOp.move rfl (.tmp rfl)) rfl rfl (Nat.le_of_ble_eq_true rfl) ?_
    refine ARun.pure (PureOp.add (c := ((a + ((x.take k).map c1).sum + 1 : Nat) : Int)) rfl (.tmp rfl) .int (by rw [wrap_id (by omega) (by omega)]; omega)) rfl rfl (Nat.le_of_ble_eq_true rfl) ?_
    refine ARun.pure (PureOp.assign rfl (.tmp rfl)) rfl rfl (Nat.le_of_ble_eq_true rfl) ?_
    refine ARun.nil ?_
    refine AW.region ?_
    refine ARun.pure (PureOp.move rfl (.tmp rfl)) rfl rfl (Nat.le_of_ble_eq_true rfl) ?_
    refine ARun.pure (PureOp.add (c := ((k + 1 : Nat) : Int)) rfl (.tmp rfl) .int (by rw [wrap_id (by omega) (by omega)]; omega)) rfl rfl (Nat.le_of_ble_eq_true rfl) ?_
    refine ARun.pure (PureOp.assign rfl (.tmp rfl)) rfl rfl (Nat.le_of_ble_eq_true rfl) ?_
    refine ARun.nil ?_
    exact ⟨k + 1, by omega, by dsimp only; omega, ⟨⟨⟨_, rfl, rfl⟩, ⟨_, rfl, congrArg (fun z : Nat => SV.one (.int .i64 (z : Int))) (by omega)⟩, ⟨_, rfl, rfl⟩, trivial⟩, ⟨⟨_, rfl, rfl, Nat.le_refl _, fun i j hi (hj : j < 1) => by
      by_cases h : i = k
      · subst h; simp only [AObj.f, true_and, mix_new (false : Bool) hkl]; exact (match j, hj with | 0, _ => rfl | _ + 1, h => absurd h (by omega))
      · simp only [AObj.f, h, false_and, if_false, mix_old (false : Bool) hkl h]⟩, ⟨_, rfl, fun _ _ => rfl⟩, trivial⟩⟩⟩
  · have _u := True.intro
    replace hb1 := of_decide_eq_false hb1
    have hkl : ¬ k < x.length := by omega
    refine AW.exit ?_
    refine AW.seq ?_
    refine AW.region ?_
    refine ARun.pure (PureOp.move rfl (.tmp rfl)) rfl rfl (Nat.le_of_ble_eq_true rfl) ?_
    refine ARun.pure (PureOp.assign rfl (.tmp rfl)) rfl rfl (Nat.le_of_ble_eq_true rfl) ?_
    refine ARun.nil ?_
    refine AW.ret (show ResL _ _ [.tmp 4] _ ∧ HeapLe _ _ from ⟨resI rfl ?_, ⟨⟨_, rfl, rfl, Nat.le_refl _, fun i j _ _ => by rw [mix_all hkl]⟩, ⟨_, rfl, fun _ _ => rfl⟩, trivial⟩⟩)
    rw [show ctL c1 x = _ from (ct_end hkl).symm]

theorem m_BoolS (x : List Bool) (a : Nat) (ha : 0 < a ∧ a + ctL c1 x ≤ 900000000) : FnM Try.prog 52 (.one (.lst 1 x.length (fun i0 _ => .bool (x.getD i0 false)))) [.one (.int .i64 (a : Int))] (.one (.int .i64 ((a + ctL c1 x : Nat) : Int))) (.one (.lst 1 ((mkL c1 mkB x a).length) (fun i0 _ => .bool ((mkL c1 mkB x a).getD i0 false)))) := by
  have h := FnM.ofRow (r := .one (.int .i64 ((a + ctL c1 x : Nat) : Int))) (args := [.one (.int .i64 (a : Int))]) (g := fun i j => ceBool (x.getD i (false : Bool)) j) (g' := fun i j => ceBool ((mkL c1 mkB x a).getD i (false : Bool)) j) trivial (fun s hs => by simp only [List.mem_singleton] at hs; subst hs; trivial) (by decide) (fun i j hi hj => ⟨rfl, match j, hj with | 0, _ => rfl | _ + 1, h => absurd h (by omega)⟩) (fun i j hi hj => ⟨rfl, match j, hj with | 0, _ => fun h => by cases h | _ + 1, h => absurd h (by omega)⟩) (fun i j hi hj => match j, hj with | 0, _ => rfl | _ + 1, h => absurd h (by omega)) (g_markBoolS x a ha)
  have hl : (mkL c1 mkB x a).length = x.length := mkL_len
  show FnM _ _ _ _ _ (.one (.lst 1 (mkL c1 mkB x a).length (fun i j => ceBool ((mkL c1 mkB x a).getD i (false : Bool)) j)))
  rw [hl]; exact h
theorem g_markIntS (x : List Int) (a : Nat) (ha : 0 < a ∧ a + ctL c1 x ≤ 900000000) : FnG Try.prog 53 [.one (.own 1000000 1 x.length), .one (.int .i64 (a : Int))] [(1000000, .arr 1 x.length (fun i j => nmA 1000001 (i * 1 + j) (ceInt (x.getD i (0 : Int)) j))), (1000001, .trees (x.length * 1) (fun _ => .int .i64 0))] (.one (.int .i64 ((a + ctL c1 x : Nat) : Int))) [(1000000, .arr 1 x.length (fun i j => nmA 1000001 (i * 1 + j) (ceInt ((mkL c1 mkI x a).getD i (0 : Int)) j))), (1000001, .trees (x.length * 1) (fun _ => .int .i64 0))] := by
  obtain ⟨ha0, ha1⟩ := ha
  refine FnG.of_body (fn := Try.f53) Try.func53 rfl (Nat.le_of_ble_eq_true rfl) ?_
  intro w0
  show AW _ 19 _ _ _ _
  refine AW.boundO (t := 0) rfl fun hx => ?_
  refine AW.seq ?_
  refine AW.region ?_
  refine ARun.pure (PureOp.assign rfl .int) rfl rfl (Nat.le_of_ble_eq_true rfl) ?_
  refine ARun.nil ?_
  refine AW.seq ?_
  refine AW.seq ?_
  refine AW.region ?_
  refine ARun.pure (PureOp.assign rfl .int) rfl rfl (Nat.le_of_ble_eq_true rfl) ?_
  refine ARun.nil ?_
  refine AW.block ?_
  refine AW.loop (ι := Nat) (fun k => ⟨[(0, .one (.own 1000000 1 x.length)), (1, .one (.int .i64 ((a + ((x.take k).map c1).sum : Nat) : Int))), (5, .one (.int .i64 (k : Int)))], [(1000000, .arr 1 x.length (fun i j => nmA 1000001 (i * 1 + j) (ceInt ((mixL c1 mkI x a k).getD i (0 : Int)) j))), (1000001, .trees (x.length * 1) (fun _ => .int .i64 0))]⟩) (fun k => k ≤ x.length) (fun k => x.length - k) 0 (Nat.zero_le _) ⟨⟨⟨_, rfl, rfl⟩, ⟨_, rfl, by simp⟩, ⟨_, rfl, rfl⟩, trivial⟩, ⟨⟨_, rfl, rfl, Nat.le_refl _, fun i j _ _ => by rw [mix_zero]⟩, ⟨_, rfl, fun _ _ => rfl⟩, trivial⟩⟩ ?_
  intro k hk
  refine AW.seq ?_
  refine AW.seq ?_
  refine AW.region ?_
  refine ARun.pure (PureOp.move rfl (.tmp rfl)) rfl rfl (Nat.le_of_ble_eq_true rfl) ?_
  refine ARun.pure (PureOp.move rfl (.tmp rfl)) rfl rfl (Nat.le_of_ble_eq_true rfl) ?_
  refine ARun.pure (PureOp.lenOwn rfl (.tmp rfl) vq_sl_24) rfl rfl (Nat.le_of_ble_eq_true rfl) ?_
  refine ARun.pure (PureOp.intOp rfl (.tmp rfl) (.tmp rfl) rfl) rfl rfl (Nat.le_of_ble_eq_true rfl) ?_
  refine ARun.nil ?_
  refine AW.cond (.tmp rfl) (fun hb1 => ?_) (fun hb1 => ?_)
  · have _u := True.intro
    replace hb1 := of_decide_eq_true hb1
    have hkl : k < x.length := by omega
    obtain ⟨hst, hsm⟩ := ct_step (ct := c1) (0 : Int) hkl
    have hce : c1 (x.getD k (0 : Int)) = 1 := rfl
    refine AW.skip ?_
    refine AW.seq ?_
    refine AW.block ?_
    refine AW.seq ?_
    refine AW.region ?_
    refine ARun.pure (PureOp.move rfl (.tmp rfl)) rfl rfl (Nat.le_of_ble_eq_true rfl) ?_
    refine ARun.pure (PureOp.move rfl (.tmp rfl)) rfl rfl (Nat.le_of_ble_eq_true rfl) ?_
    refine ARun.pure (PureOp.move rfl (.tmp rfl)) rfl rfl (Nat.le_of_ble_eq_true rfl) ?_
    refine ARun.pure (PureOp.indexOwn (i := k) rfl (.tmp rfl) vq_el_24_1 (.tmp rfl) rfl (by omega)) rfl rfl (Nat.le_of_ble_eq_true rfl) ?_
    refine ARun.storeElem rfl (.tmp rfl) (.tmp rfl) trivial rfl (show k < x.length from by omega) rfl vq_sz_3_1 rfl rfl ?_
    refine ARun.nil ?_
    refine AW.region ?_
    refine ARun.pure (PureOp.move rfl (.tmp rfl)) rfl rfl (Nat.le_of_ble_eq_true rfl) ?_
    refine ARun.pure (PureOp.add (c := ((a + ((x.take k).map c1).sum + 1 : Nat) : Int)) rfl (.tmp rfl) .int (by rw [wrap_id (by omega) (by omega)]; omega)) rfl rfl (Nat.le_of_ble_eq_true rfl) ?_
    refine ARun.pure (PureOp.assign rfl (.tmp rfl)) rfl rfl (Nat.le_of_ble_eq_true rfl) ?_
    refine ARun.nil ?_
    refine AW.region ?_
    refine ARun.pure (PureOp.move rfl (.tmp rfl)) rfl rfl (Nat.le_of_ble_eq_true rfl) ?_
    refine ARun.pure (PureOp.add (c := ((k + 1 : Nat) : Int)) rfl (.tmp rfl) .int (by rw [wrap_id (by omega) (by omega)]; omega)) rfl rfl (Nat.le_of_ble_eq_true rfl) ?_
    refine ARun.pure (PureOp.assign rfl (.tmp rfl)) rfl rfl (Nat.le_of_ble_eq_true rfl) ?_
    refine ARun.nil ?_
    exact ⟨k + 1, by omega, by dsimp only; omega, ⟨⟨⟨_, rfl, rfl⟩, ⟨_, rfl, congrArg (fun z : Nat => SV.one (.int .i64 (z : Int))) (by omega)⟩, ⟨_, rfl, rfl⟩, trivial⟩, ⟨⟨_, rfl, rfl, Nat.le_refl _, fun i j hi (hj : j < 1) => by
      by_cases h : i = k
      · subst h; simp only [AObj.f, true_and, mix_new (0 : Int) hkl]; exact (match j, hj with | 0, _ => rfl | _ + 1, h => absurd h (by omega))
      · simp only [AObj.f, h, false_and, if_false, mix_old (0 : Int) hkl h]⟩, ⟨_, rfl, fun _ _ => rfl⟩, trivial⟩⟩⟩
  · have _u := True.intro
    replace hb1 := of_decide_eq_false hb1
    have hkl : ¬ k < x.length := by omega
    refine AW.exit ?_
    refine AW.seq ?_
    refine AW.region ?_
    refine ARun.pure (PureOp.move rfl (.tmp rfl)) rfl rfl (Nat.le_of_ble_eq_true rfl) ?_
    refine ARun.pure (PureOp.assign rfl (.tmp rfl)) rfl rfl (Nat.le_of_ble_eq_true rfl) ?_
    refine ARun.nil ?_
    refine AW.ret (show ResL _ _ [.tmp 4] _ ∧ HeapLe _ _ from ⟨resI rfl ?_, ⟨⟨_, rfl, rfl, Nat.le_refl _, fun i j _ _ => by rw [mix_all hkl]⟩, ⟨_, rfl, fun _ _ => rfl⟩, trivial⟩⟩)
    rw [show ctL c1 x = _ from (ct_end hkl).symm]

theorem m_IntS (x : List Int) (a : Nat) (ha : 0 < a ∧ a + ctL c1 x ≤ 900000000) : FnM Try.prog 53 (.one (.lst 1 x.length (fun i0 _ => .int .i64 (x.getD i0 0)))) [.one (.int .i64 (a : Int))] (.one (.int .i64 ((a + ctL c1 x : Nat) : Int))) (.one (.lst 1 ((mkL c1 mkI x a).length) (fun i0 _ => .int .i64 ((mkL c1 mkI x a).getD i0 0)))) := by
  have h := FnM.ofRow (r := .one (.int .i64 ((a + ctL c1 x : Nat) : Int))) (args := [.one (.int .i64 (a : Int))]) (g := fun i j => ceInt (x.getD i (0 : Int)) j) (g' := fun i j => ceInt ((mkL c1 mkI x a).getD i (0 : Int)) j) trivial (fun s hs => by simp only [List.mem_singleton] at hs; subst hs; trivial) (by decide) (fun i j hi hj => ⟨rfl, match j, hj with | 0, _ => rfl | _ + 1, h => absurd h (by omega)⟩) (fun i j hi hj => ⟨rfl, match j, hj with | 0, _ => fun h => by cases h | _ + 1, h => absurd h (by omega)⟩) (fun i j hi hj => match j, hj with | 0, _ => rfl | _ + 1, h => absurd h (by omega)) (g_markIntS x a ha)
  have hl : (mkL c1 mkI x a).length = x.length := mkL_len
  show FnM _ _ _ _ _ (.one (.lst 1 (mkL c1 mkI x a).length (fun i j => ceInt ((mkL c1 mkI x a).getD i (0 : Int)) j)))
  rw [hl]; exact h
theorem g_markRepl (x : GRepl) (a : Nat) (ha : 0 < a ∧ a + cvRepl x ≤ 900000000) : FnG Try.prog 13 [.agg [.tre 1000000 0, .tre 1000000 1, .int .i64 x.leader, .int .i64 x.epoch, .tre 1000000 4, .tre 1000000 5], .one (.int .i64 (a : Int))] [(1000000, .trees 6 (fun p => ([.lst 1 x.logs.length (fun i0 _ => .lst 2 ((x.logs.getD i0 []).length) (fun i1 j1 => ([.int .i64 (((x.logs.getD i0 []).getD i1 (default : GEntry)).epoch), .str (((x.logs.getD i0 []).getD i1 (default : GEntry)).text)] : List AV).getD j1 (.con undef))), .lst 1 x.down.length (fun i0 _ => .bool (x.down.getD i0 false)), .int .i64 x.leader, .int .i64 x.epoch, .lst 1 x.inSync.length (fun i0 _ => .int .i64 (x.inSync.getD i0 0)), .lst 2 x.certain.length (fun i0 j0 => ([.int .i64 ((x.certain.getD i0 (default : GEntry)).epoch), .str ((x.certain.getD i0 (default : GEntry)).text)] : List AV).getD j0 (.con undef))] : List AV).getD p (.con undef)))] (.one (.int .i64 ((a + cvRepl x : Nat) : Int))) [(1000000, .trees 6 (fun p => ([.lst 1 (((mvRepl x a).logs).length) (fun i0 _ => .lst 2 ((((mvRepl x a).logs).getD i0 []).length) (fun i1 j1 => ([.int .i64 (((((mvRepl x a).logs).getD i0 []).getD i1 (default : GEntry)).epoch), .str (((((mvRepl x a).logs).getD i0 []).getD i1 (default : GEntry)).text)] : List AV).getD j1 (.con undef))), .lst 1 (((mvRepl x a).down).length) (fun i0 _ => .bool (((mvRepl x a).down).getD i0 false)), .int .i64 ((mvRepl x a).leader), .int .i64 ((mvRepl x a).epoch), .lst 1 (((mvRepl x a).inSync).length) (fun i0 _ => .int .i64 (((mvRepl x a).inSync).getD i0 0)), .lst 2 (((mvRepl x a).certain).length) (fun i0 j0 => ([.int .i64 ((((mvRepl x a).certain).getD i0 (default : GEntry)).epoch), .str ((((mvRepl x a).certain).getD i0 (default : GEntry)).text)] : List AV).getD j0 (.con undef))] : List AV).getD p (.con undef)))] := by
  obtain ⟨ha0, ha1⟩ := ha
  have hcv : cvRepl x = 0 + ctL (ctL crEntry) (x.logs) + ctL c1 (x.down) + ctL c1 (x.inSync) + ctL crEntry (x.certain) := rfl
  refine FnG.of_body (fn := Try.f13) Try.func13 rfl (Nat.le_of_ble_eq_true rfl) ?_
  intro w0
  show AW _ 22 _ _ _ _
  refine AW.seq ?_
  refine AW.region ?_
  refine ARun.box (id := 0) rfl (.tmp rfl) (SV.cells_of (by exact ⟨trivial, trivial, trivial, trivial, trivial, trivial, trivial⟩)) ⟨rfl, (by repeat first | exact trivial | refine ⟨by decide, by first | rfl | exact trivial | (intro i j; first | rfl | exact getD_no rfl | (dsimp only; split <;> first | rfl | exact getD_no rfl)), ?_⟩)⟩ rfl rfl rfl (Nat.le_of_ble_eq_true rfl) ?_
  refine ARun.pure (PureOp.assign rfl .int) rfl rfl (Nat.le_of_ble_eq_true rfl) ?_
  refine ARun.nil ?_
  refine AW.seq ?_
  refine AW.region ?_
  refine ARun.pure (PureOp.fieldPtr rfl (.tmp rfl) vq_fi_27_0_0) rfl rfl (Nat.le_of_ble_eq_true rfl) ?_
  refine ARun.pure (PureOp.loadPtr rfl (.tmp rfl) vq_pl_22 rfl rfl (Nat.le_of_ble_eq_true rfl) (Nat.le_of_ble_eq_true rfl)) rfl rfl (Nat.le_of_ble_eq_true rfl) ?_
  refine ARun.pure (PureOp.move rfl (.tmp rfl)) rfl rfl (Nat.le_of_ble_eq_true rfl) ?_
  refine ARun.mark (id := 1000000) (q0 := 0) (X' := fun q => if q = 0 then .lst 1 ((mkL (ctL crEntry) (mkL crEntry mrEntry) x.logs a).length) (fun i0 _ => .lst 2 (((mkL (ctL crEntry) (mkL crEntry mrEntry) x.logs a).getD i0 []).length) (fun i1 j1 => ([.int .i64 ((((mkL (ctL crEntry) (mkL crEntry mrEntry) x.logs a).getD i0 []).getD i1 (default : GEntry)).epoch), .str ((((mkL (ctL crEntry) (mkL crEntry mrEntry) x.logs a).getD i0 []).getD i1 (default : GEntry)).text)] : List AV).getD j1 (.con undef))) else (fun p => ([.lst 1 x.logs.length (fun i0 _ => .lst 2 ((x.logs.getD i0 []).length) (fun i1 j1 => ([.int .i64 (((x.logs.getD i0 []).getD i1 (default : GEntry)).epoch), .str (((x.logs.getD i0 []).getD i1 (default : GEntry)).text)] : List AV).getD j1 (.con undef))), .lst 1 x.down.length (fun i0 _ => .bool (x.down.getD i0 false)), .int .i64 x.leader, .int .i64 x.epoch, .lst 1 x.inSync.length (fun i0 _ => .int .i64 (x.inSync.getD i0 0)), .lst 2 x.certain.length (fun i0 j0 => ([.int .i64 ((x.certain.getD i0 (default : GEntry)).epoch), .str ((x.certain.getD i0 (default : GEntry)).text)] : List AV).getD j0 (.con undef))] : List AV).getD p (.con undef)) q) rfl (m_EntrySS x.logs a ⟨by omega, by omega⟩) vq_ca_51 trivial (.tmp rfl) rfl rfl rfl (Nat.le_of_ble_eq_true rfl) (fun p hp _ => match p, hp with | 0, _ => rfl | _ + 1, h => absurd h (by simp [SV.leaves])) rfl trivial (fun p hp _ => match p, hp with | 0, _ => if_pos rfl | _ + 1, h => absurd h (by simp [SV.leaves])) (fun q _ hne => if_neg (fun e => hne 0 (Nat.zero_lt_one) rfl e)) ⟨(.tmp rfl), trivial, trivial⟩ rfl rfl (Nat.le_of_ble_eq_true rfl) ?_
  refine ARun.pure (PureOp.assign rfl (.tmp rfl)) rfl rfl (Nat.le_of_ble_eq_true rfl) ?_
  refine ARun.nil ?_
  refine AW.seq ?_
  refine AW.region ?_
  refine ARun.pure (PureOp.fieldPtr rfl (.tmp rfl) vq_fi_27_1_1) rfl rfl (Nat.le_of_ble_eq_true rfl) ?_
  refine ARun.pure (PureOp.loadPtr rfl (.tmp rfl) vq_pl_23 rfl rfl (Nat.le_of_ble_eq_true rfl) (Nat.le_of_ble_eq_true rfl)) rfl rfl (Nat.le_of_ble_eq_true rfl) ?_
  refine ARun.pure (PureOp.move rfl (.tmp rfl)) rfl rfl (Nat.le_of_ble_eq_true rfl) ?_
  refine ARun.mark (id := 1000000) (q0 := 1) (X' := fun q => if q = 1 then .lst 1 ((mkL c1 mkB x.down (a + ctL (ctL crEntry) x.logs)).length) (fun i0 _ => .bool ((mkL c1 mkB x.down (a + ctL (ctL crEntry) x.logs)).getD i0 false)) else (fun q => if q = 0 then .lst 1 ((mkL (ctL crEntry) (mkL crEntry mrEntry) x.logs a).length) (fun i0 _ => .lst 2 (((mkL (ctL crEntry) (mkL crEntry mrEntry) x.logs a).getD i0 []).length) (fun i1 j1 => ([.int .i64 ((((mkL (ctL crEntry) (mkL crEntry mrEntry) x.logs a).getD i0 []).getD i1 (default : GEntry)).epoch), .str ((((mkL (ctL crEntry) (mkL crEntry mrEntry) x.logs a).getD i0 []).getD i1 (default : GEntry)).text)] : List AV).getD j1 (.con undef))) else (fun p => ([.lst 1 x.logs.length (fun i0 _ => .lst 2 ((x.logs.getD i0 []).length) (fun i1 j1 => ([.int .i64 (((x.logs.getD i0 []).getD i1 (default : GEntry)).epoch), .str (((x.logs.getD i0 []).getD i1 (default : GEntry)).text)] : List AV).getD j1 (.con undef))), .lst 1 x.down.length (fun i0 _ => .bool (x.down.getD i0 false)), .int .i64 x.leader, .int .i64 x.epoch, .lst 1 x.inSync.length (fun i0 _ => .int .i64 (x.inSync.getD i0 0)), .lst 2 x.certain.length (fun i0 j0 => ([.int .i64 ((x.certain.getD i0 (default : GEntry)).epoch), .str ((x.certain.getD i0 (default : GEntry)).text)] : List AV).getD j0 (.con undef))] : List AV).getD p (.con undef)) q) q) rfl (m_BoolS x.down (a + ctL (ctL crEntry) x.logs) ⟨by omega, by omega⟩) vq_ca_52 trivial (.tmp rfl) rfl rfl rfl (Nat.le_of_ble_eq_true rfl) (fun p hp _ => match p, hp with | 0, _ => rfl | _ + 1, h => absurd h (by simp [SV.leaves])) rfl trivial (fun p hp _ => match p, hp with | 0, _ => if_pos rfl | _ + 1, h => absurd h (by simp [SV.leaves])) (fun q _ hne => if_neg (fun e => hne 0 (Nat.zero_lt_one) rfl e)) ⟨(.tmp rfl), trivial, trivial⟩ rfl rfl (Nat.le_of_ble_eq_true rfl) ?_
  refine ARun.pure (PureOp.assign rfl (.tmp rfl)) rfl rfl (Nat.le_of_ble_eq_true rfl) ?_
  refine ARun.nil ?_
  refine AW.seq ?_
  refine AW.region ?_
  refine ARun.pure (PureOp.fieldPtr rfl (.tmp rfl) vq_fi_27_4_4) rfl rfl (Nat.le_of_ble_eq_true rfl) ?_
  refine ARun.pure (PureOp.loadPtr rfl (.tmp rfl) vq_pl_24 rfl rfl (Nat.le_of_ble_eq_true rfl) (Nat.le_of_ble_eq_true rfl)) rfl rfl (Nat.le_of_ble_eq_true rfl) ?_
  refine ARun.pure (PureOp.move rfl (.tmp rfl)) rfl rfl (Nat.le_of_ble_eq_true rfl) ?_
  refine ARun.mark (id := 1000000) (q0 := 4) (X' := fun q => if q = 4 then .lst 1 ((mkL c1 mkI x.inSync (a + ctL (ctL crEntry) x.logs + ctL c1 x.down)).length) (fun i0 _ => .int .i64 ((mkL c1 mkI x.inSync (a + ctL (ctL crEntry) x.logs + ctL c1 x.down)).getD i0 0)) else (fun q => if q = 1 then .lst 1 ((mkL c1 mkB x.down (a + ctL (ctL crEntry) x.logs)).length) (fun i0 _ => .bool ((mkL c1 mkB x.down (a + ctL (ctL crEntry) x.logs)).getD i0 false)) else (fun q => if q = 0 then .lst 1 ((mkL (ctL crEntry) (mkL crEntry mrEntry) x.logs a).length) (fun i0 _ => .lst 2 (((mkL (ctL crEntry) (mkL crEntry mrEntry) x.logs a).getD i0 []).length) (fun i1 j1 => ([.int .i64 ((((mkL (ctL crEntry) (mkL crEntry mrEntry) x.logs a).getD i0 []).getD i1 (default : GEntry)).epoch), .str ((((mkL (ctL crEntry) (mkL crEntry mrEntry) x.logs a).getD i0 []).getD i1 (default : GEntry)).text)] : List AV).getD j1 (.con undef))) else (fun p => ([.lst 1 x.logs.length (fun i0 _ => .lst 2 ((x.logs.getD i0 []).length) (fun i1 j1 => ([.int .i64 (((x.logs.getD i0 []).getD i1 (default : GEntry)).epoch), .str (((x.logs.getD i0 []).getD i1 (default : GEntry)).text)] : List AV).getD j1 (.con undef))), .lst 1 x.down.length (fun i0 _ => .bool (x.down.getD i0 false)), .int .i64 x.leader, .int .i64 x.epoch, .lst 1 x.inSync.length (fun i0 _ => .int .i64 (x.inSync.getD i0 0)), .lst 2 x.certain.length (fun i0 j0 => ([.int .i64 ((x.certain.getD i0 (default : GEntry)).epoch), .str ((x.certain.getD i0 (default : GEntry)).text)] : List AV).getD j0 (.con undef))] : List AV).getD p (.con undef)) q) q) q) rfl (m_IntS x.inSync (a + ctL (ctL crEntry) x.logs + ctL c1 x.down) ⟨by omega, by omega⟩) vq_ca_53 trivial (.tmp rfl) rfl rfl rfl (Nat.le_of_ble_eq_true rfl) (fun p hp _ => match p, hp with | 0, _ => rfl | _ + 1, h => absurd h (by simp [SV.leaves])) rfl trivial (fun p hp _ => match p, hp with | 0, _ => if_pos rfl | _ + 1, h => absurd h (by simp [SV.leaves])) (fun q _ hne => if_neg (fun e => hne 0 (Nat.zero_lt_one) rfl e)) ⟨(.tmp rfl), trivial, trivial⟩ rfl rfl (Nat.le_of_ble_eq_true rfl) ?_
  refine ARun.pure (PureOp.assign rfl (.tmp rfl)) rfl rfl (Nat.le_of_ble_eq_true rfl) ?_
  refine ARun.nil ?_
  refine AW.seq ?_
  refine AW.region ?_
  refine ARun.pure (PureOp.fieldPtr rfl (.tmp rfl) vq_fi_27_5_5) rfl rfl (Nat.le_of_ble_eq_true rfl) ?_
  refine ARun.pure (PureOp.loadPtr rfl (.tmp rfl) vq_pl_25 rfl rfl (Nat.le_of_ble_eq_true rfl) (Nat.le_of_ble_eq_true rfl)) rfl rfl (Nat.le_of_ble_eq_true rfl) ?_
  refine ARun.pure (PureOp.move rfl (.tmp rfl)) rfl rfl (Nat.le_of_ble_eq_true rfl) ?_
  refine ARun.mark (id := 1000000) (q0 := 5) (X' := fun q => if q = 5 then .lst 2 ((mkL crEntry mrEntry x.certain (a + ctL (ctL crEntry) x.logs + ctL c1 x.down + ctL c1 x.inSync)).length) (fun i0 j0 => ([.int .i64 (((mkL crEntry mrEntry x.certain (a + ctL (ctL crEntry) x.logs + ctL c1 x.down + ctL c1 x.inSync)).getD i0 (default : GEntry)).epoch), .str (((mkL crEntry mrEntry x.certain (a + ctL (ctL crEntry) x.logs + ctL c1 x.down + ctL c1 x.inSync)).getD i0 (default : GEntry)).text)] : List AV).getD j0 (.con undef)) else (fun q => if q = 4 then .lst 1 ((mkL c1 mkI x.inSync (a + ctL (ctL crEntry) x.logs + ctL c1 x.down)).length) (fun i0 _ => .int .i64 ((mkL c1 mkI x.inSync (a + ctL (ctL crEntry) x.logs + ctL c1 x.down)).getD i0 0)) else (fun q => if q = 1 then .lst 1 ((mkL c1 mkB x.down (a + ctL (ctL crEntry) x.logs)).length) (fun i0 _ => .bool ((mkL c1 mkB x.down (a + ctL (ctL crEntry) x.logs)).getD i0 false)) else (fun q => if q = 0 then .lst 1 ((mkL (ctL crEntry) (mkL crEntry mrEntry) x.logs a).length) (fun i0 _ => .lst 2 (((mkL (ctL crEntry) (mkL crEntry mrEntry) x.logs a).getD i0 []).length) (fun i1 j1 => ([.int .i64 ((((mkL (ctL crEntry) (mkL crEntry mrEntry) x.logs a).getD i0 []).getD i1 (default : GEntry)).epoch), .str ((((mkL (ctL crEntry) (mkL crEntry mrEntry) x.logs a).getD i0 []).getD i1 (default : GEntry)).text)] : List AV).getD j1 (.con undef))) else (fun p => ([.lst 1 x.logs.length (fun i0 _ => .lst 2 ((x.logs.getD i0 []).length) (fun i1 j1 => ([.int .i64 (((x.logs.getD i0 []).getD i1 (default : GEntry)).epoch), .str (((x.logs.getD i0 []).getD i1 (default : GEntry)).text)] : List AV).getD j1 (.con undef))), .lst 1 x.down.length (fun i0 _ => .bool (x.down.getD i0 false)), .int .i64 x.leader, .int .i64 x.epoch, .lst 1 x.inSync.length (fun i0 _ => .int .i64 (x.inSync.getD i0 0)), .lst 2 x.certain.length (fun i0 j0 => ([.int .i64 ((x.certain.getD i0 (default : GEntry)).epoch), .str ((x.certain.getD i0 (default : GEntry)).text)] : List AV).getD j0 (.con undef))] : List AV).getD p (.con undef)) q) q) q) q) rfl (m_EntryS x.certain (a + ctL (ctL crEntry) x.logs + ctL c1 x.down + ctL c1 x.inSync) ⟨by omega, by omega⟩) vq_ca_54 trivial (.tmp rfl) rfl rfl rfl (Nat.le_of_ble_eq_true rfl) (fun p hp _ => match p, hp with | 0, _ => rfl | _ + 1, h => absurd h (by simp [SV.leaves])) rfl trivial (fun p hp _ => match p, hp with | 0, _ => if_pos rfl | _ + 1, h => absurd h (by simp [SV.leaves])) (fun q _ hne => if_neg (fun e => hne 0 (Nat.zero_lt_one) rfl e)) ⟨(.tmp rfl), trivial, trivial⟩ rfl rfl (Nat.le_of_ble_eq_true rfl) ?_
  refine ARun.pure (PureOp.assign rfl (.tmp rfl)) rfl rfl (Nat.le_of_ble_eq_true rfl) ?_
  refine ARun.nil ?_
  refine AW.seq ?_
  refine AW.region ?_
  refine ARun.pure (PureOp.move rfl (.tmp rfl)) rfl rfl (Nat.le_of_ble_eq_true rfl) ?_
  refine ARun.pure (PureOp.assign rfl (.tmp rfl)) rfl rfl (Nat.le_of_ble_eq_true rfl) ?_
  refine ARun.nil ?_
  refine AW.ret (show ResL _ _ [.tmp 4] _ ∧ HeapLe _ _ from ⟨resI rfl ?_, ⟨⟨_, rfl, fun q hq => match q, hq with | 0, _ => rfl | 1, _ => rfl | 2, _ => rfl | 3, _ => rfl | 4, _ => rfl | 5, _ => rfl | _ + 6, h => absurd h (by omega)⟩, trivial⟩⟩)
  omega

theorem m_Repl (x : GRepl) (a : Nat) (ha : 0 < a ∧ a + cvRepl x ≤ 900000000) : FnM Try.prog 13 (.agg [.lst 1 x.logs.length (fun i0 _ => .lst 2 ((x.logs.getD i0 []).length) (fun i1 j1 => ([.int .i64 (((x.logs.getD i0 []).getD i1 (default : GEntry)).epoch), .str (((x.logs.getD i0 []).getD i1 (default : GEntry)).text)] : List AV).getD j1 (.con undef))), .lst 1 x.down.length (fun i0 _ => .bool (x.down.getD i0 false)), .int .i64 x.leader, .int .i64 x.epoch, .lst 1 x.inSync.length (fun i0 _ => .int .i64 (x.inSync.getD i0 0)), .lst 2 x.certain.length (fun i0 j0 => ([.int .i64 ((x.certain.getD i0 (default : GEntry)).epoch), .str ((x.certain.getD i0 (default : GEntry)).text)] : List AV).getD j0 (.con undef))]) [.one (.int .i64 (a : Int))] (.one (.int .i64 ((a + cvRepl x : Nat) : Int))) (.agg [.lst 1 (((mvRepl x a).logs).length) (fun i0 _ => .lst 2 ((((mvRepl x a).logs).getD i0 []).length) (fun i1 j1 => ([.int .i64 (((((mvRepl x a).logs).getD i0 []).getD i1 (default : GEntry)).epoch), .str (((((mvRepl x a).logs).getD i0 []).getD i1 (default : GEntry)).text)] : List AV).getD j1 (.con undef))), .lst 1 (((mvRepl x a).down).length) (fun i0 _ => .bool (((mvRepl x a).down).getD i0 false)), .int .i64 ((mvRepl x a).leader), .int .i64 ((mvRepl x a).epoch), .lst 1 (((mvRepl x a).inSync).length) (fun i0 _ => .int .i64 (((mvRepl x a).inSync).getD i0 0)), .lst 2 (((mvRepl x a).certain).length) (fun i0 j0 => ([.int .i64 ((((mvRepl x a).certain).getD i0 (default : GEntry)).epoch), .str ((((mvRepl x a).certain).getD i0 (default : GEntry)).text)] : List AV).getD j0 (.con undef))]) :=
  FnM.ofAgg trivial (fun s hs => by simp only [List.mem_singleton] at hs; subst hs; trivial) rfl (fun _ _ h => h) (g_markRepl x a ha)end Go.Proofs.Ytmlhlkpiofbhgaa
