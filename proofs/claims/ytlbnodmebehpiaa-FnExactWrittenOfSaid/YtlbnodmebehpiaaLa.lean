/-
  Marks.
-/
import Derived.Test.YtlbnodmebehpiaaTm
namespace Go.Proofs.Ytlbnodmebehpiaa
open Go.ChangeShapes Go.WideShapes Go.ChangeAt Go.RowKit Go.BigFrame Go.Deep
set_option linter.unusedVariables false
set_option linter.unusedSimpArgs false
theorem vq_ca_101 : callB Try.prog 101 = true := by kernel_rfl
theorem vq_ca_102 : callB Try.prog 102 = true := by kernel_rfl
theorem vq_ca_103 : callB Try.prog 103 = true := by kernel_rfl
theorem vq_ca_117 : callB Try.prog 117 = true := by kernel_rfl
theorem vq_ca_131 : callB Try.prog 131 = true := by kernel_rfl
theorem vq_ca_19 : callB Try.prog 19 = true := by kernel_rfl
theorem vq_ca_55 : callB Try.prog 55 = true := by kernel_rfl
theorem vq_ca_67 : callB Try.prog 67 = true := by kernel_rfl
theorem vq_ca_68 : callB Try.prog 68 = true := by kernel_rfl
theorem vq_ca_69 : callB Try.prog 69 = true := by kernel_rfl
theorem vq_ca_85 : callB Try.prog 85 = true := by kernel_rfl
theorem vq_el_107_1 : elemB Try.prog 107 1 = true := by kernel_rfl
theorem vq_el_22_1 : elemB Try.prog 22 1 = true := by kernel_rfl
theorem vq_el_23_5 : elemB Try.prog 23 5 = true := by kernel_rfl
theorem vq_el_24_5 : elemB Try.prog 24 5 = true := by kernel_rfl
theorem vq_el_25_1 : elemB Try.prog 25 1 = true := by kernel_rfl
theorem vq_el_47_1 : elemB Try.prog 47 1 = true := by kernel_rfl
theorem vq_el_62_1 : elemB Try.prog 62 1 = true := by kernel_rfl
theorem vq_el_63_4 : elemB Try.prog 63 4 = true := by kernel_rfl
theorem vq_el_64_3 : elemB Try.prog 64 3 = true := by kernel_rfl
theorem vq_el_80_1 : elemB Try.prog 80 1 = true := by kernel_rfl
theorem vq_fi_102_0_0 : fieldB Try.prog 102 0 0 = true := by kernel_rfl
theorem vq_fi_102_1_1 : fieldB Try.prog 102 1 1 = true := by kernel_rfl
theorem vq_fi_102_2_2 : fieldB Try.prog 102 2 2 = true := by kernel_rfl
theorem vq_fi_102_3_3 : fieldB Try.prog 102 3 3 = true := by kernel_rfl
theorem vq_fi_102_4_4 : fieldB Try.prog 102 4 4 = true := by kernel_rfl
theorem vq_fi_125_0_0 : fieldB Try.prog 125 0 0 = true := by kernel_rfl
theorem vq_fi_125_1_1 : fieldB Try.prog 125 1 1 = true := by kernel_rfl
theorem vq_fi_125_2_2 : fieldB Try.prog 125 2 2 = true := by kernel_rfl
theorem vq_fi_127_0_0 : fieldB Try.prog 127 0 0 = true := by kernel_rfl
theorem vq_fi_127_1_1 : fieldB Try.prog 127 1 1 = true := by kernel_rfl
theorem vq_fi_27_0_0 : fieldB Try.prog 27 0 0 = true := by kernel_rfl
theorem vq_fi_27_1_1 : fieldB Try.prog 27 1 1 = true := by kernel_rfl
theorem vq_fi_27_2_2 : fieldB Try.prog 27 2 2 = true := by kernel_rfl
theorem vq_fi_49_0_0 : fieldB Try.prog 49 0 0 = true := by kernel_rfl
theorem vq_fi_49_1_1 : fieldB Try.prog 49 1 1 = true := by kernel_rfl
theorem vq_fi_49_2_2 : fieldB Try.prog 49 2 2 = true := by kernel_rfl
theorem vq_fi_49_3_3 : fieldB Try.prog 49 3 3 = true := by kernel_rfl
theorem vq_fi_49_4_4 : fieldB Try.prog 49 4 4 = true := by kernel_rfl
theorem vq_fi_66_0_0 : fieldB Try.prog 66 0 0 = true := by kernel_rfl
theorem vq_fi_66_1_1 : fieldB Try.prog 66 1 1 = true := by kernel_rfl
theorem vq_fi_66_2_2 : fieldB Try.prog 66 2 2 = true := by kernel_rfl
theorem vq_fi_66_3_3 : fieldB Try.prog 66 3 3 = true := by kernel_rfl
theorem vq_fi_66_4_4 : fieldB Try.prog 66 4 4 = true := by kernel_rfl
theorem vq_fi_89_0_0 : fieldB Try.prog 89 0 0 = true := by kernel_rfl
theorem vq_fi_89_1_1 : fieldB Try.prog 89 1 1 = true := by kernel_rfl
theorem vq_fi_89_2_2 : fieldB Try.prog 89 2 2 = true := by kernel_rfl
theorem vq_fi_89_3_3 : fieldB Try.prog 89 3 3 = true := by kernel_rfl
theorem vq_fi_89_4_4 : fieldB Try.prog 89 4 4 = true := by kernel_rfl
theorem vq_pl_107 : plainB Try.prog 107 = true := by kernel_rfl
theorem vq_pl_22 : plainB Try.prog 22 = true := by kernel_rfl
theorem vq_pl_23 : plainB Try.prog 23 = true := by kernel_rfl
theorem vq_pl_24 : plainB Try.prog 24 = true := by kernel_rfl
theorem vq_pl_25 : plainB Try.prog 25 = true := by kernel_rfl
theorem vq_pl_47 : plainB Try.prog 47 = true := by kernel_rfl
theorem vq_pl_62 : plainB Try.prog 62 = true := by kernel_rfl
theorem vq_pl_63 : plainB Try.prog 63 = true := by kernel_rfl
theorem vq_pl_64 : plainB Try.prog 64 = true := by kernel_rfl
theorem vq_pl_80 : plainB Try.prog 80 = true := by kernel_rfl
theorem vq_sl_107 : sliceB Try.prog 107 = true := by kernel_rfl
theorem vq_sl_22 : sliceB Try.prog 22 = true := by kernel_rfl
theorem vq_sl_23 : sliceB Try.prog 23 = true := by kernel_rfl
theorem vq_sl_24 : sliceB Try.prog 24 = true := by kernel_rfl
theorem vq_sl_25 : sliceB Try.prog 25 = true := by kernel_rfl
theorem vq_sl_47 : sliceB Try.prog 47 = true := by kernel_rfl
theorem vq_sl_62 : sliceB Try.prog 62 = true := by kernel_rfl
theorem vq_sl_63 : sliceB Try.prog 63 = true := by kernel_rfl
theorem vq_sl_64 : sliceB Try.prog 64 = true := by kernel_rfl
theorem vq_sl_80 : sliceB Try.prog 80 = true := by kernel_rfl
theorem vq_sz_3_1 : sizeB Try.prog 3 1 = true := by kernel_rfl
theorem vq_sz_4_1 : sizeB Try.prog 4 1 = true := by kernel_rfl
theorem vq_sz_9_1 : sizeB Try.prog 9 1 = true := by kernel_rfl
theorem digTo_size : ∀ (d f q : Nat) (s : ByteArray), q < 10 ^ d → q ≤ f → (digTo f q s).size ≤ s.size + d
  | 0, f, q, s, hq, _ => by
    obtain rfl : q = 0 := by simpa using hq
    rw [digTo_zero]; omega
  | d + 1, f, q, s, hq, hf => by
    by_cases h : 0 < q
    · rw [digTo_step h hf]
      have h1 : q / 10 < 10 ^ d := by rw [Nat.pow_succ] at hq; omega
      have h2 := digTo_size d (f - 1) (q / 10) ((⟨#[UInt8.ofNat (48 + q % 10)]⟩ : ByteArray) ++ s) h1 (by omega)
      rw [ByteArray.size_append] at h2
      have c : (⟨#[UInt8.ofNat (48 + q % 10)]⟩ : ByteArray).size = 1 := rfl
      omega
    · obtain rfl : q = 0 := by omega
      rw [digTo_zero]; omega
theorem mkText_size {k : Nat} (h : k ≤ 1000000000) : (mkText k).size ≤ 20 := by
  have h1 := digTo_size 10 k k ⟨#[]⟩ (by omega) (Nat.le_refl _)
  unfold mkText
  rw [ByteArray.size_append]
  have c : (⟨#[109]⟩ : ByteArray).size = 1 := rfl
  have c0 : (⟨#[]⟩ : ByteArray).size = 0 := rfl
  omega
theorem v_markText (k : Nat) (hk : 0 < k) (h : k ≤ 1000000000) : Fn Try.prog 117 [.one (.int .i64 (k : Int))] (.one (.str (mkText k))) := by
  intro w S vs hS hd
  obtain ⟨v, vs1, rfl, h1, h2⟩ := hd
  obtain rfl : vs1 = [] := h2
  have h1 : v = .int .i64 (k : Int) := h1
  subst h1
  exact (markText_any k hk h w).mono fun e w' ⟨he, _, hb⟩ => ⟨he, hb⟩

theorem g_markStringS (x : List ByteArray) (a : Nat) (ha : 0 < a ∧ a + ctL c1 x ≤ 900000000) : FnG Try.prog 55 [.one (.own 1000000 1 x.length), .one (.int .i64 (a : Int))] [(1000000, .arr 1 x.length (fun i j => nmA 1000001 (i * 1 + j) (ceString (x.getD i (ByteArray.empty : ByteArray)) j))), (1000001, .trees (x.length * 1) (fun _ => .int .i64 0))] (.one (.int .i64 ((a + ctL c1 x : Nat) : Int))) [(1000000, .arr 1 x.length (fun i j => nmA 1000001 (i * 1 + j) (ceString ((mkL c1 mkS x a).getD i (ByteArray.empty : ByteArray)) j))), (1000001, .trees (x.length * 1) (fun _ => .int .i64 0))] := by
  obtain ⟨ha0, ha1⟩ := ha
  refine FnG.of_body (fn := Try.f55) Try.func55 rfl (Nat.le_of_ble_eq_true rfl) ?_
  intro w0
  show AW _ 20 _ _ _ _
  refine AW.boundO (t := 0) rfl fun hx => ?_
  refine AW.seq ?_
  refine AW.region ?_
  refine ARun.pure (PureOp.assign rfl .int) rfl rfl (Nat.le_of_ble_eq_true rfl) ?_
  refine ARun.nil ?_
  refine AW.seq ?_
  refine AW.seq ?_
  refine AW.region ?_
  refine ARun.pure (PureOp.assign rfl .int) rfl rfl (Nat.le_of_ble_eq_true rfl) ?_
  refine ARun.nil ?_
  refine AW.block ?_
  refine AW.loop (ι := Nat) (fun k => ⟨[(0, .one (.own 1000000 1 x.length)), (1, .one (.int .i64 ((a + ((x.take k).map c1).sum : Nat) : Int))), (5, .one (.int .i64 (k : Int)))], [(1000000, .arr 1 x.length (fun i j => nmA 1000001 (i * 1 + j) (ceString ((mixL c1 mkS x a k).getD i (ByteArray.empty : ByteArray)) j))), (1000001, .trees (x.length * 1) (fun _ => .int .i64 0))]⟩) (fun k => k ≤ x.length) (fun k => x.length - k) 0 (Nat.zero_le _) ⟨⟨⟨_, rfl, rfl⟩, ⟨_, rfl, by simp⟩, ⟨_, rfl, rfl⟩, trivial⟩, ⟨⟨_, rfl, rfl, Nat.le_refl _, fun i j _ _ => by rw [mix_zero]⟩, ⟨_, rfl, fun _ _ => rfl⟩, trivial⟩⟩ ?_
  intro k hk
  refine AW.seq ?_
  refine AW.seq ?_
  refine AW.region ?_
  refine ARun.pure (PureOp.move rfl (.tmp rfl)) rfl rfl (Nat.le_of_ble_eq_true rfl) ?_
  refine ARun.pure (PureOp.move rfl (.tmp rfl)) rfl rfl (Nat.le_of_ble_eq_true rfl) ?_
  refine ARun.pure (PureOp.lenOwn rfl (.tmp rfl) vq_sl_80) rfl rfl (Nat.le_of_ble_eq_true rfl) ?_
  refine ARun.pure (PureOp.intOp rfl (.tmp rfl) (.tmp rfl) rfl) rfl rfl (Nat.le_of_ble_eq_true rfl) ?_
  refine ARun.nil ?_
  refine AW.cond (.tmp rfl) (fun hb1 => ?_) (fun hb1 => ?_)
  · have _u := True.intro
    replace hb1 := of_decide_eq_true hb1
    have hkl : k < x.length := by omega
    obtain ⟨hst, hsm⟩ := ct_step (ct := c1) (ByteArray.empty : ByteArray) hkl
    have hce : c1 (x.getD k (ByteArray.empty : ByteArray)) = 1 := rfl
    refine AW.skip ?_
    refine AW.seq ?_
    refine AW.block ?_
    refine AW.seq ?_
    refine AW.region ?_
    refine ARun.pure (PureOp.move rfl (.tmp rfl)) rfl rfl (Nat.le_of_ble_eq_true rfl) ?_
    refine ARun.pure (PureOp.move rfl (.tmp rfl)) rfl rfl (Nat.le_of_ble_eq_true rfl) ?_
    refine ARun.pure (PureOp.move rfl (.tmp rfl)) rfl rfl (Nat.le_of_ble_eq_true rfl) ?_
    refine ARun.pure (PureOp.call rfl (v_markText (a + ((x.take k).map c1).sum) (by omega) (by omega)) ⟨⟨_, (.tmp rfl), .int⟩, trivial⟩ vq_ca_117 (Nat.le_trans (mkText_size (by omega)) (by decide))) rfl rfl (Nat.le_of_ble_eq_true rfl) ?_
    refine ARun.pure (PureOp.indexOwn (i := k) rfl (.tmp rfl) vq_el_80_1 (.tmp rfl) rfl (by omega)) rfl rfl (Nat.le_of_ble_eq_true rfl) ?_
    refine ARun.storeElem rfl (.tmp rfl) (.tmp rfl) trivial rfl (show k < x.length from by omega) rfl vq_sz_9_1 rfl rfl ?_
    refine ARun.nil ?_
    refine AW.region ?_
    refine ARun.pure (PureOp.move rfl (.tmp rfl)) rfl rfl (Nat.le_of_ble_eq_true rfl) ?_
    refine ARun.pure (PureOp.add (c := ((a + ((x.take k).map c1).sum + 1 : Nat) : Int)) rfl (.tmp rfl) .int (by rw [wrap_id (by omega) (by omega)]; omega)) rfl rfl (Nat.le_of_ble_eq_true rfl) ?_
    refine ARun.pure (PureOp.assign rfl (.tmp rfl)) rfl rfl (Nat.le_of_ble_eq_true rfl) ?_
    refine ARun.nil ?_
    refine AW.region ?_
    refine ARun.pure (PureOp.move rfl (.tmp rfl)) rfl rfl (Nat.le_of_ble_eq_true rfl) ?_
    refine ARun.pure (PureOp.add (c := ((k + 1 : Nat) : Int)) rfl (.tmp rfl) .int (by rw [wrap_id (by omega) (by omega)]; omega)) rfl rfl (Nat.le_of_ble_eq_true rfl) ?_
    refine ARun.pure (PureOp.assign rfl (.tmp rfl)) rfl rfl (Nat.le_of_ble_eq_true rfl) ?_
    refine ARun.nil ?_
    exact ⟨k + 1, by omega, by dsimp only; omega, ⟨⟨⟨_, rfl, rfl⟩, ⟨_, rfl, congrArg (fun z : Nat => SV.one (.int .i64 (z : Int))) (by omega)⟩, ⟨_, rfl, rfl⟩, trivial⟩, ⟨⟨_, rfl, rfl, Nat.le_refl _, fun i j hi (hj : j < 1) => by
      by_cases h : i = k
      · subst h; simp only [AObj.f, true_and, mix_new (ByteArray.empty : ByteArray) hkl]; exact (match j, hj with | 0, _ => rfl | _ + 1, h => absurd h (by omega))
      · simp only [AObj.f, h, false_and, if_false, mix_old (ByteArray.empty : ByteArray) hkl h]⟩, ⟨_, rfl, fun _ _ => rfl⟩, trivial⟩⟩⟩
  · have _u := True.intro
    replace hb1 := of_decide_eq_false hb1
    have hkl : ¬ k < x.length := by omega
    refine AW.exit ?_
    refine AW.seq ?_
    refine AW.region ?_
    refine ARun.pure (PureOp.move rfl (.tmp rfl)) rfl rfl (Nat.le_of_ble_eq_true rfl) ?_
    refine ARun.pure (PureOp.assign rfl (.tmp rfl)) rfl rfl (Nat.le_of_ble_eq_true rfl) ?_
    refine ARun.nil ?_
    refine AW.ret (show ResL _ _ [.tmp 4] _ ∧ HeapLe _ _ from ⟨resI rfl ?_, ⟨⟨_, rfl, rfl, Nat.le_refl _, fun i j _ _ => by rw [mix_all hkl]⟩, ⟨_, rfl, fun _ _ => rfl⟩, trivial⟩⟩)
    rw [show ctL c1 x = _ from (ct_end hkl).symm]

theorem m_StringS (x : List ByteArray) (a : Nat) (ha : 0 < a ∧ a + ctL c1 x ≤ 900000000) : FnM Try.prog 55 (.one (.lst 1 x.length (fun i0 _ => .str (x.getD i0 ByteArray.empty)))) [.one (.int .i64 (a : Int))] (.one (.int .i64 ((a + ctL c1 x : Nat) : Int))) (.one (.lst 1 ((mkL c1 mkS x a).length) (fun i0 _ => .str ((mkL c1 mkS x a).getD i0 ByteArray.empty)))) := by
  have h := FnM.ofRow (r := .one (.int .i64 ((a + ctL c1 x : Nat) : Int))) (args := [.one (.int .i64 (a : Int))]) (g := fun i j => ceString (x.getD i (ByteArray.empty : ByteArray)) j) (g' := fun i j => ceString ((mkL c1 mkS x a).getD i (ByteArray.empty : ByteArray)) j) trivial (fun s hs => by simp only [List.mem_singleton] at hs; subst hs; trivial) (by decide) (fun i j hi hj => ⟨rfl, match j, hj with | 0, _ => rfl | _ + 1, h => absurd h (by omega)⟩) (fun i j hi hj => ⟨rfl, match j, hj with | 0, _ => fun h => by cases h | _ + 1, h => absurd h (by omega)⟩) (fun i j hi hj => match j, hj with | 0, _ => rfl | _ + 1, h => absurd h (by omega)) (g_markStringS x a ha)
  have hl : (mkL c1 mkS x a).length = x.length := mkL_len
  show FnM _ _ _ _ _ (.one (.lst 1 (mkL c1 mkS x a).length (fun i j => ceString ((mkL c1 mkS x a).getD i (ByteArray.empty : ByteArray)) j)))
  rw [hl]; exact h
theorem g_markStringSS (x : List (List ByteArray)) (a : Nat) (ha : 0 < a ∧ a + ctL (ctL c1) x ≤ 900000000) : FnG Try.prog 101 [.one (.own 1000000 1 x.length), .one (.int .i64 (a : Int))] [(1000000, .arr 1 x.length (fun i j => nmA 1000001 (i * 1 + j) (ceStringS (x.getD i ([] : List ByteArray)) j))), (1000001, .trees (x.length * 1) (famX 1 (fun i j => lonly (ceStringS (x.getD i ([] : List ByteArray)) j))))] (.one (.int .i64 ((a + ctL (ctL c1) x : Nat) : Int))) [(1000000, .arr 1 x.length (fun i j => nmA 1000001 (i * 1 + j) (ceStringS ((mkL (ctL c1) (mkL c1 mkS) x a).getD i ([] : List ByteArray)) j))), (1000001, .trees (x.length * 1) (famX 1 (fun i j => lonly (ceStringS ((mkL (ctL c1) (mkL c1 mkS) x a).getD i ([] : List ByteArray)) j))))] := by
  obtain ⟨ha0, ha1⟩ := ha
  refine FnG.of_body (fn := Try.f101) Try.func101 rfl (Nat.le_of_ble_eq_true rfl) ?_
  intro w0
  show AW _ 19 _ _ _ _
  refine AW.boundO (t := 0) rfl fun hx => ?_
  refine AW.seq ?_
  refine AW.region ?_
  refine ARun.pure (PureOp.assign rfl .int) rfl rfl (Nat.le_of_ble_eq_true rfl) ?_
  refine ARun.nil ?_
  refine AW.seq ?_
  refine AW.seq ?_
  refine AW.region ?_
  refine ARun.pure (PureOp.assign rfl .int) rfl rfl (Nat.le_of_ble_eq_true rfl) ?_
  refine ARun.nil ?_
  refine AW.block ?_
  refine AW.loop (ι := Nat) (fun k => ⟨[(0, .one (.own 1000000 1 x.length)), (1, .one (.int .i64 ((a + ((x.take k).map (ctL c1)).sum : Nat) : Int))), (5, .one (.int .i64 (k : Int)))], [(1000000, .arr 1 x.length (fun i j => nmA 1000001 (i * 1 + j) (ceStringS ((mixL (ctL c1) (mkL c1 mkS) x a k).getD i ([] : List ByteArray)) j))), (1000001, .trees (x.length * 1) (famX 1 (fun i j => lonly (ceStringS ((mixL (ctL c1) (mkL c1 mkS) x a k).getD i ([] : List ByteArray)) j))))]⟩) (fun k => k ≤ x.length) (fun k => x.length - k) 0 (Nat.zero_le _) ⟨⟨⟨_, rfl, rfl⟩, ⟨_, rfl, by simp⟩, ⟨_, rfl, rfl⟩, trivial⟩, ⟨⟨_, rfl, rfl, Nat.le_refl _, fun i j _ _ => by rw [mix_zero]⟩, ⟨_, rfl, fun q _ => by rw [mix_zero]⟩, trivial⟩⟩ ?_
  intro k hk
  refine AW.seq ?_
  refine AW.seq ?_
  refine AW.region ?_
  refine ARun.pure (PureOp.move rfl (.tmp rfl)) rfl rfl (Nat.le_of_ble_eq_true rfl) ?_
  refine ARun.pure (PureOp.move rfl (.tmp rfl)) rfl rfl (Nat.le_of_ble_eq_true rfl) ?_
  refine ARun.pure (PureOp.lenOwn rfl (.tmp rfl) vq_sl_62) rfl rfl (Nat.le_of_ble_eq_true rfl) ?_
  refine ARun.pure (PureOp.intOp rfl (.tmp rfl) (.tmp rfl) rfl) rfl rfl (Nat.le_of_ble_eq_true rfl) ?_
  refine ARun.nil ?_
  refine AW.cond (.tmp rfl) (fun hb1 => ?_) (fun hb1 => ?_)
  · have _u := True.intro
    replace hb1 := of_decide_eq_true hb1
    have hkl : k < x.length := by omega
    obtain ⟨hst, hsm⟩ := ct_step (ct := (ctL c1)) ([] : List ByteArray) hkl
    refine AW.skip ?_
    refine AW.seq ?_
    refine AW.block ?_
    refine AW.region ?_
    refine ARun.pure (PureOp.move rfl (.tmp rfl)) rfl rfl (Nat.le_of_ble_eq_true rfl) ?_
    refine ARun.pure (PureOp.move rfl (.tmp rfl)) rfl rfl (Nat.le_of_ble_eq_true rfl) ?_
    refine ARun.pure (PureOp.indexOwn (i := k) rfl (.tmp rfl) vq_el_62_1 (.tmp rfl) rfl (by omega)) rfl rfl (Nat.le_of_ble_eq_true rfl) ?_
    refine ARun.pure (PureOp.loadPtr rfl (.tmp rfl) vq_pl_80 rfl rfl (show k < x.length from by omega) (Nat.le_of_ble_eq_true rfl)) rfl rfl (Nat.le_of_ble_eq_true rfl) ?_
    refine ARun.pure (PureOp.move rfl (.tmp rfl)) rfl rfl (Nat.le_of_ble_eq_true rfl) ?_
    refine ARun.mark (id := 1000001) (q0 := k * 1 + 0) (X' := fun q => if q = k * 1 + 0 then .lst 1 ((mkL c1 mkS (x.getD k []) (a + ((x.take k).map (ctL c1)).sum)).length) (fun i0 _ => .str ((mkL c1 mkS (x.getD k []) (a + ((x.take k).map (ctL c1)).sum)).getD i0 ByteArray.empty)) else (famX 1 (fun i j => lonly (ceStringS ((mixL (ctL c1) (mkL c1 mkS) x a k).getD i ([] : List ByteArray)) j))) q) rfl (m_StringS (x.getD k []) (a + ((x.take k).map (ctL c1)).sum) ⟨by omega, by omega⟩) vq_ca_55 trivial (.tmp rfl) rfl rfl rfl (cell_lt (sz := 1) (j := 0) hkl (by decide)) (fun p hp _ => match p, hp with | 0, _ => (by show (famX 1 (fun i j => lonly (ceStringS ((mixL (ctL c1) (mkL c1 mkS) x a k).getD i ([] : List ByteArray)) j))) (k * 1 + 0) = _; (try dsimp only); (repeat rw [if_neg (by omega)]); rw [famX_at (sz := 1) (j := 0) (by decide), mix_at ([] : List ByteArray) hkl]; rfl) | _ + 1, h => absurd h (by simp [SV.leaves])) rfl trivial (fun p hp _ => match p, hp with | 0, _ => if_pos rfl | _ + 1, h => absurd h (by simp [SV.leaves])) (fun q _ hne => if_neg (fun e => hne 0 (Nat.zero_lt_one) rfl e)) ⟨(.tmp rfl), trivial, trivial⟩ rfl rfl (Nat.le_of_ble_eq_true rfl) ?_
    refine ARun.pure (PureOp.assign rfl (.tmp rfl)) rfl rfl (Nat.le_of_ble_eq_true rfl) ?_
    refine ARun.nil ?_
    refine AW.region ?_
    refine ARun.pure (PureOp.move rfl (.tmp rfl)) rfl rfl (Nat.le_of_ble_eq_true rfl) ?_
    refine ARun.pure (PureOp.add (c := ((k + 1 : Nat) : Int)) rfl (.tmp rfl) .int (by rw [wrap_id (by omega) (by omega)]; omega)) rfl rfl (Nat.le_of_ble_eq_true rfl) ?_
    refine ARun.pure (PureOp.assign rfl (.tmp rfl)) rfl rfl (Nat.le_of_ble_eq_true rfl) ?_
    refine ARun.nil ?_
    exact ⟨k + 1, by omega, by dsimp only; omega, ⟨⟨⟨_, rfl, rfl⟩, ⟨_, rfl, congrArg (fun z : Nat => SV.one (.int .i64 (z : Int))) (by omega)⟩, ⟨_, rfl, rfl⟩, trivial⟩, ⟨⟨_, rfl, rfl, Nat.le_refl _, fun i j hi (hj : j < 1) => by
      by_cases h : i = k
      · subst h; simp only [AObj.f, true_and, mix_new ([] : List ByteArray) hkl]; exact (match j, hj with | 0, _ => rfl | _ + 1, h => absurd h (by omega))
      · simp only [AObj.f, h, false_and, if_false, mix_old ([] : List ByteArray) hkl h]⟩, ⟨_, rfl, fun q hq => famX_ext (X := fun q => if q = k * 1 + 0 then .lst 1 ((mkL c1 mkS (x.getD k []) (a + ((x.take k).map (ctL c1)).sum)).length) (fun i0 _ => .str ((mkL c1 mkS (x.getD k []) (a + ((x.take k).map (ctL c1)).sum)).getD i0 ByteArray.empty)) else (famX 1 (fun i j => lonly (ceStringS ((mixL (ctL c1) (mkL c1 mkS) x a k).getD i ([] : List ByteArray)) j))) q) (g := fun i j => lonly (ceStringS ((mixL (ctL c1) (mkL c1 mkS) x a (k + 1)).getD i ([] : List ByteArray)) j)) (by decide) (fun i j hi (hj : j < 1) => by
      (try dsimp only)
      by_cases h : i = k
      · subst h; rw [upd_at hj (show 0 < 1 by decide)]; simp only [famX_at hj, true_and, mix_new ([] : List ByteArray) hkl, mix_at ([] : List ByteArray) hkl]; exact (match j, hj with | 0, _ => rfl | _ + 1, h => absurd h (by omega))
      · rw [upd_at hj (show 0 < 1 by decide)]; simp only [famX_at hj, h, false_and, if_false, mix_old ([] : List ByteArray) hkl h]) q hq⟩, trivial⟩⟩⟩
  · have _u := True.intro
    replace hb1 := of_decide_eq_false hb1
    have hkl : ¬ k < x.length := by omega
    refine AW.exit ?_
    refine AW.seq ?_
    refine AW.region ?_
    refine ARun.pure (PureOp.move rfl (.tmp rfl)) rfl rfl (Nat.le_of_ble_eq_true rfl) ?_
    refine ARun.pure (PureOp.assign rfl (.tmp rfl)) rfl rfl (Nat.le_of_ble_eq_true rfl) ?_
    refine ARun.nil ?_
    refine AW.ret (show ResL _ _ [.tmp 4] _ ∧ HeapLe _ _ from ⟨resI rfl ?_, ⟨⟨_, rfl, rfl, Nat.le_refl _, fun i j _ _ => by rw [mix_all hkl]⟩, ⟨_, rfl, fun q _ => by rw [mix_all hkl]⟩, trivial⟩⟩)
    rw [show ctL (ctL c1) x = _ from (ct_end hkl).symm]

theorem m_StringSS (x : List (List ByteArray)) (a : Nat) (ha : 0 < a ∧ a + ctL (ctL c1) x ≤ 900000000) : FnM Try.prog 101 (.one (.lst 1 x.length (fun i0 _ => .lst 1 ((x.getD i0 []).length) (fun i1 _ => .str ((x.getD i0 []).getD i1 ByteArray.empty))))) [.one (.int .i64 (a : Int))] (.one (.int .i64 ((a + ctL (ctL c1) x : Nat) : Int))) (.one (.lst 1 ((mkL (ctL c1) (mkL c1 mkS) x a).length) (fun i0 _ => .lst 1 (((mkL (ctL c1) (mkL c1 mkS) x a).getD i0 []).length) (fun i1 _ => .str (((mkL (ctL c1) (mkL c1 mkS) x a).getD i0 []).getD i1 ByteArray.empty))))) := by
  have h := FnM.ofRow (r := .one (.int .i64 ((a + ctL (ctL c1) x : Nat) : Int))) (args := [.one (.int .i64 (a : Int))]) (g := fun i j => ceStringS (x.getD i ([] : List ByteArray)) j) (g' := fun i j => ceStringS ((mkL (ctL c1) (mkL c1 mkS) x a).getD i ([] : List ByteArray)) j) trivial (fun s hs => by simp only [List.mem_singleton] at hs; subst hs; trivial) (by decide) (fun i j hi hj => ⟨rfl, famX_at hj⟩) (fun i j hi hj => ⟨rfl, fun h => (famX_at hj).trans (lonly_L h)⟩) (fun i j hi hj => match j, hj with | 0, _ => rfl | _ + 1, h => absurd h (by omega)) (g_markStringSS x a ha)
  have hl : (mkL (ctL c1) (mkL c1 mkS) x a).length = x.length := mkL_len
  show FnM _ _ _ _ _ (.one (.lst 1 (mkL (ctL c1) (mkL c1 mkS) x a).length (fun i j => ceStringS ((mkL (ctL c1) (mkL c1 mkS) x a).getD i ([] : List ByteArray)) j)))
  rw [hl]; exact h
theorem g_markIntS (x : List Int) (a : Nat) (ha : 0 < a ∧ a + ctL c1 x ≤ 900000000) : FnG Try.prog 19 [.one (.own 1000000 1 x.length), .one (.int .i64 (a : Int))] [(1000000, .arr 1 x.length (fun i j => nmA 1000001 (i * 1 + j) (ceInt (x.getD i (0 : Int)) j))), (1000001, .trees (x.length * 1) (fun _ => .int .i64 0))] (.one (.int .i64 ((a + ctL c1 x : Nat) : Int))) [(1000000, .arr 1 x.length (fun i j => nmA 1000001 (i * 1 + j) (ceInt ((mkL c1 mkI x a).getD i (0 : Int)) j))), (1000001, .trees (x.length * 1) (fun _ => .int .i64 0))] := by
  obtain ⟨ha0, ha1⟩ := ha
  refine FnG.of_body (fn := Try.f19) Try.func19 rfl (Nat.le_of_ble_eq_true rfl) ?_
  intro w0
  show AW _ 19 _ _ _ _
  refine AW.boundO (t := 0) rfl fun hx => ?_
  refine AW.seq ?_
  refine AW.region ?_
  refine ARun.pure (PureOp.assign rfl .int) rfl rfl (Nat.le_of_ble_eq_true rfl) ?_
  refine ARun.nil ?_
  refine AW.seq ?_
  refine AW.seq ?_
  refine AW.region ?_
  refine ARun.pure (PureOp.assign rfl .int) rfl rfl (Nat.le_of_ble_eq_true rfl) ?_
  refine ARun.nil ?_
  refine AW.block ?_
  refine AW.loop (ι := Nat) (fun k => ⟨[(0, .one (.own 1000000 1 x.length)), (1, .one (.int .i64 ((a + ((x.take k).map c1).sum : Nat) : Int))), (5, .one (.int .i64 (k : Int)))], [(1000000, .arr 1 x.length (fun i j => nmA 1000001 (i * 1 + j) (ceInt ((mixL c1 mkI x a k).getD i (0 : Int)) j))), (1000001, .trees (x.length * 1) (fun _ => .int .i64 0))]⟩) (fun k => k ≤ x.length) (fun k => x.length - k) 0 (Nat.zero_le _) ⟨⟨⟨_, rfl, rfl⟩, ⟨_, rfl, by simp⟩, ⟨_, rfl, rfl⟩, trivial⟩, ⟨⟨_, rfl, rfl, Nat.le_refl _, fun i j _ _ => by rw [mix_zero]⟩, ⟨_, rfl, fun _ _ => rfl⟩, trivial⟩⟩ ?_
  intro k hk
  refine AW.seq ?_
  refine AW.seq ?_
  refine AW.region ?_
  refine ARun.pure (PureOp.move rfl (.tmp rfl)) rfl rfl (Nat.le_of_ble_eq_true rfl) ?_
  refine ARun.pure (PureOp.move rfl (.tmp rfl)) rfl rfl (Nat.le_of_ble_eq_true rfl) ?_
  refine ARun.pure (PureOp.lenOwn rfl (.tmp rfl) vq_sl_22) rfl rfl (Nat.le_of_ble_eq_true rfl) ?_
  refine ARun.pure (PureOp.intOp rfl (.tmp rfl) (.tmp rfl) rfl) rfl rfl (Nat.le_of_ble_eq_true rfl) ?_
  refine ARun.nil ?_
  refine AW.cond (.tmp rfl) (fun hb1 => ?_) (fun hb1 => ?_)
  · have _u := True.intro
    replace hb1 := of_decide_eq_true hb1
    have hkl : k < x.length := by omega
    obtain ⟨hst, hsm⟩ := ct_step (ct := c1) (0 : Int) hkl
    have hce : c1 (x.getD k (0 : Int)) = 1 := rfl
    refine AW.skip ?_
    refine AW.seq ?_
    refine AW.block ?_
    refine AW.seq ?_
    refine AW.region ?_
    refine ARun.pure (PureOp.move rfl (.tmp rfl)) rfl rfl (Nat.le_of_ble_eq_true rfl) ?_
    refine ARun.pure (PureOp.move rfl (.tmp rfl)) rfl rfl (Nat.le_of_ble_eq_true rfl) ?_
    refine ARun.pure (PureOp.move rfl (.tmp rfl)) rfl rfl (Nat.le_of_ble_eq_true rfl) ?_
    refine ARun.pure (PureOp.indexOwn (i := k) rfl (.tmp rfl) vq_el_22_1 (.tmp rfl) rfl (by omega)) rfl rfl (Nat.le_of_ble_eq_true rfl) ?_
    refine ARun.storeElem rfl (.tmp rfl) (.tmp rfl) trivial rfl (show k < x.length from by omega) rfl vq_sz_3_1 rfl rfl ?_
    refine ARun.nil ?_
    refine AW.region ?_
    refine ARun.pure (PureOp.move rfl (.tmp rfl)) rfl rfl (Nat.le_of_ble_eq_true rfl) ?_
    refine ARun.pure (PureOp.add (c := ((a + ((x.take k).map c1).sum + 1 : Nat) : Int)) rfl (.tmp rfl) .int (by rw [wrap_id (by omega) (by omega)]; omega)) rfl rfl (Nat.le_of_ble_eq_true rfl) ?_
    refine ARun.pure (PureOp.assign rfl (.tmp rfl)) rfl rfl (Nat.le_of_ble_eq_true rfl) ?_
    refine ARun.nil ?_
    refine AW.region ?_
    refine ARun.pure (PureOp.move rfl (.tmp rfl)) rfl rfl (Nat.le_of_ble_eq_true rfl) ?_
    refine ARun.pure (PureOp.add (c := ((k + 1 : Nat) : Int)) rfl (.tmp rfl) .int (by rw [wrap_id (by omega) (by omega)]; omega)) rfl rfl (Nat.le_of_ble_eq_true rfl) ?_
    refine ARun.pure (PureOp.assign rfl (.tmp rfl)) rfl rfl (Nat.le_of_ble_eq_true rfl) ?_
    refine ARun.nil ?_
    exact ⟨k + 1, by omega, by dsimp only; omega, ⟨⟨⟨_, rfl, rfl⟩, ⟨_, rfl, congrArg (fun z : Nat => SV.one (.int .i64 (z : Int))) (by omega)⟩, ⟨_, rfl, rfl⟩, trivial⟩, ⟨⟨_, rfl, rfl, Nat.le_refl _, fun i j hi (hj : j < 1) => by
      by_cases h : i = k
      · subst h; simp only [AObj.f, true_and, mix_new (0 : Int) hkl]; exact (match j, hj with | 0, _ => rfl | _ + 1, h => absurd h (by omega))
      · simp only [AObj.f, h, false_and, if_false, mix_old (0 : Int) hkl h]⟩, ⟨_, rfl, fun _ _ => rfl⟩, trivial⟩⟩⟩
  · have _u := True.intro
    replace hb1 := of_decide_eq_false hb1
    have hkl : ¬ k < x.length := by omega
    refine AW.exit ?_
    refine AW.seq ?_
    refine AW.region ?_
    refine ARun.pure (PureOp.move rfl (.tmp rfl)) rfl rfl (Nat.le_of_ble_eq_true rfl) ?_
    refine ARun.pure (PureOp.assign rfl (.tmp rfl)) rfl rfl (Nat.le_of_ble_eq_true rfl) ?_
    refine ARun.nil ?_
    refine AW.ret (show ResL _ _ [.tmp 4] _ ∧ HeapLe _ _ from ⟨resI rfl ?_, ⟨⟨_, rfl, rfl, Nat.le_refl _, fun i j _ _ => by rw [mix_all hkl]⟩, ⟨_, rfl, fun _ _ => rfl⟩, trivial⟩⟩)
    rw [show ctL c1 x = _ from (ct_end hkl).symm]

theorem m_IntS (x : List Int) (a : Nat) (ha : 0 < a ∧ a + ctL c1 x ≤ 900000000) : FnM Try.prog 19 (.one (.lst 1 x.length (fun i0 _ => .int .i64 (x.getD i0 0)))) [.one (.int .i64 (a : Int))] (.one (.int .i64 ((a + ctL c1 x : Nat) : Int))) (.one (.lst 1 ((mkL c1 mkI x a).length) (fun i0 _ => .int .i64 ((mkL c1 mkI x a).getD i0 0)))) := by
  have h := FnM.ofRow (r := .one (.int .i64 ((a + ctL c1 x : Nat) : Int))) (args := [.one (.int .i64 (a : Int))]) (g := fun i j => ceInt (x.getD i (0 : Int)) j) (g' := fun i j => ceInt ((mkL c1 mkI x a).getD i (0 : Int)) j) trivial (fun s hs => by simp only [List.mem_singleton] at hs; subst hs; trivial) (by decide) (fun i j hi hj => ⟨rfl, match j, hj with | 0, _ => rfl | _ + 1, h => absurd h (by omega)⟩) (fun i j hi hj => ⟨rfl, match j, hj with | 0, _ => fun h => by cases h | _ + 1, h => absurd h (by omega)⟩) (fun i j hi hj => match j, hj with | 0, _ => rfl | _ + 1, h => absurd h (by omega)) (g_markIntS x a ha)
  have hl : (mkL c1 mkI x a).length = x.length := mkL_len
  show FnM _ _ _ _ _ (.one (.lst 1 (mkL c1 mkI x a).length (fun i j => ceInt ((mkL c1 mkI x a).getD i (0 : Int)) j)))
  rw [hl]; exact h
theorem g_markNoteS (x : List GNote) (a : Nat) (ha : 0 < a ∧ a + ctL crNote x ≤ 900000000) : FnG Try.prog 102 [.one (.own 1000000 4 x.length), .one (.int .i64 (a : Int))] [(1000000, .arr 4 x.length (fun i j => nmA 1000001 (i * 4 + j) (ceNote (x.getD i (default : GNote)) j))), (1000001, .trees (x.length * 4) (fun _ => .int .i64 0))] (.one (.int .i64 ((a + ctL crNote x : Nat) : Int))) [(1000000, .arr 4 x.length (fun i j => nmA 1000001 (i * 4 + j) (ceNote ((mkL crNote mrNote x a).getD i (default : GNote)) j))), (1000001, .trees (x.length * 4) (fun _ => .int .i64 0))] := by
  obtain ⟨ha0, ha1⟩ := ha
  refine FnG.of_body (fn := Try.f102) Try.func102 rfl (Nat.le_of_ble_eq_true rfl) ?_
  intro w0
  show AW _ 47 _ _ _ _
  refine AW.boundO (t := 0) rfl fun hx => ?_
  refine AW.seq ?_
  refine AW.region ?_
  refine ARun.pure (PureOp.assign rfl .int) rfl rfl (Nat.le_of_ble_eq_true rfl) ?_
  refine ARun.nil ?_
  refine AW.seq ?_
  refine AW.seq ?_
  refine AW.region ?_
  refine ARun.pure (PureOp.assign rfl .int) rfl rfl (Nat.le_of_ble_eq_true rfl) ?_
  refine ARun.nil ?_
  refine AW.block ?_
  refine AW.loop (ι := Nat) (fun k => ⟨[(0, .one (.own 1000000 4 x.length)), (1, .one (.int .i64 ((a + ((x.take k).map crNote).sum : Nat) : Int))), (5, .one (.int .i64 (k : Int)))], [(1000000, .arr 4 x.length (fun i j => nmA 1000001 (i * 4 + j) (ceNote ((mixL crNote mrNote x a k).getD i (default : GNote)) j))), (1000001, .trees (x.length * 4) (fun _ => .int .i64 0))]⟩) (fun k => k ≤ x.length) (fun k => x.length - k) 0 (Nat.zero_le _) ⟨⟨⟨_, rfl, rfl⟩, ⟨_, rfl, by simp⟩, ⟨_, rfl, rfl⟩, trivial⟩, ⟨⟨_, rfl, rfl, Nat.le_refl _, fun i j _ _ => by rw [mix_zero]⟩, ⟨_, rfl, fun _ _ => rfl⟩, trivial⟩⟩ ?_
  intro k hk
  refine AW.seq ?_
  refine AW.seq ?_
  refine AW.region ?_
  refine ARun.pure (PureOp.move rfl (.tmp rfl)) rfl rfl (Nat.le_of_ble_eq_true rfl) ?_
  refine ARun.pure (PureOp.move rfl (.tmp rfl)) rfl rfl (Nat.le_of_ble_eq_true rfl) ?_
  refine ARun.pure (PureOp.lenOwn rfl (.tmp rfl) vq_sl_63) rfl rfl (Nat.le_of_ble_eq_true rfl) ?_
  refine ARun.pure (PureOp.intOp rfl (.tmp rfl) (.tmp rfl) rfl) rfl rfl (Nat.le_of_ble_eq_true rfl) ?_
  refine ARun.nil ?_
  refine AW.cond (.tmp rfl) (fun hb1 => ?_) (fun hb1 => ?_)
  · have _u := True.intro
    replace hb1 := of_decide_eq_true hb1
    have hkl : k < x.length := by omega
    obtain ⟨hst, hsm⟩ := ct_step (ct := crNote) (default : GNote) hkl
    have hce : crNote (x.getD k (default : GNote)) = 0 + 1 + 1 + 1 + 1 := rfl
    refine AW.skip ?_
    refine AW.seq ?_
    refine AW.block ?_
    refine AW.seq ?_
    refine AW.region ?_
    refine ARun.pure (PureOp.move rfl (.tmp rfl)) rfl rfl (Nat.le_of_ble_eq_true rfl) ?_
    refine ARun.pure (PureOp.move rfl (.tmp rfl)) rfl rfl (Nat.le_of_ble_eq_true rfl) ?_
    refine ARun.pure (PureOp.move rfl (.tmp rfl)) rfl rfl (Nat.le_of_ble_eq_true rfl) ?_
    refine ARun.pure (PureOp.rem (a := a + ((x.take k).map crNote).sum) (b := 3) rfl (.tmp rfl) .int rfl (by decide) (by omega)) rfl rfl (Nat.le_of_ble_eq_true rfl) ?_
    refine ARun.pure (PureOp.intOp rfl (.tmp rfl) .int rfl) rfl rfl (Nat.le_of_ble_eq_true rfl) ?_
    refine ARun.pure (PureOp.indexOwn (i := k) rfl (.tmp rfl) vq_el_63_4 (.tmp rfl) rfl (by omega)) rfl rfl (Nat.le_of_ble_eq_true rfl) ?_
    refine ARun.pure (PureOp.fieldPtr rfl (.tmp rfl) vq_fi_127_0_0) rfl rfl (Nat.le_of_ble_eq_true rfl) ?_
    refine ARun.storeArr rfl (.tmp rfl) (.tmp rfl) trivial rfl (show k < x.length from by omega) (Nat.le_of_ble_eq_true rfl) vq_sz_4_1 rfl rfl ?_
    refine ARun.nil ?_
    refine AW.seq ?_
    refine AW.region ?_
    refine ARun.pure (PureOp.move rfl (.tmp rfl)) rfl rfl (Nat.le_of_ble_eq_true rfl) ?_
    refine ARun.pure (PureOp.add (c := ((a + ((x.take k).map crNote).sum + 1 : Nat) : Int)) rfl (.tmp rfl) .int (by rw [wrap_id (by omega) (by omega)]; omega)) rfl rfl (Nat.le_of_ble_eq_true rfl) ?_
    refine ARun.pure (PureOp.assign rfl (.tmp rfl)) rfl rfl (Nat.le_of_ble_eq_true rfl) ?_
    refine ARun.nil ?_
    refine AW.seq ?_
    refine AW.region ?_
    refine ARun.pure (PureOp.move rfl (.tmp rfl)) rfl rfl (Nat.le_of_ble_eq_true rfl) ?_
    refine ARun.pure (PureOp.move rfl (.tmp rfl)) rfl rfl (Nat.le_of_ble_eq_true rfl) ?_
    refine ARun.pure (PureOp.move rfl (.tmp rfl)) rfl rfl (Nat.le_of_ble_eq_true rfl) ?_
    refine ARun.pure (PureOp.indexOwn (i := k) rfl (.tmp rfl) vq_el_63_4 (.tmp rfl) rfl (by omega)) rfl rfl (Nat.le_of_ble_eq_true rfl) ?_
    refine ARun.pure (PureOp.fieldPtr rfl (.tmp rfl) vq_fi_127_1_1) rfl rfl (Nat.le_of_ble_eq_true rfl) ?_
    refine ARun.pure (PureOp.fieldPtr rfl (.tmp rfl) vq_fi_125_0_0) rfl rfl (Nat.le_of_ble_eq_true rfl) ?_
    refine ARun.storeArr rfl (.tmp rfl) (.tmp rfl) trivial rfl (show k < x.length from by omega) (Nat.le_of_ble_eq_true rfl) vq_sz_3_1 rfl rfl ?_
    refine ARun.nil ?_
    refine AW.seq ?_
    refine AW.region ?_
    refine ARun.pure (PureOp.move rfl (.tmp rfl)) rfl rfl (Nat.le_of_ble_eq_true rfl) ?_
    refine ARun.pure (PureOp.add (c := ((a + ((x.take k).map crNote).sum + 1 + 1 : Nat) : Int)) rfl (.tmp rfl) .int (by rw [wrap_id (by omega) (by omega)]; omega)) rfl rfl (Nat.le_of_ble_eq_true rfl) ?_
    refine ARun.pure (PureOp.assign rfl (.tmp rfl)) rfl rfl (Nat.le_of_ble_eq_true rfl) ?_
    refine ARun.nil ?_
    refine AW.seq ?_
    refine AW.region ?_
    refine ARun.pure (PureOp.move rfl (.tmp rfl)) rfl rfl (Nat.le_of_ble_eq_true rfl) ?_
    refine ARun.pure (PureOp.move rfl (.tmp rfl)) rfl rfl (Nat.le_of_ble_eq_true rfl) ?_
    refine ARun.pure (PureOp.move rfl (.tmp rfl)) rfl rfl (Nat.le_of_ble_eq_true rfl) ?_
    refine ARun.pure (PureOp.indexOwn (i := k) rfl (.tmp rfl) vq_el_63_4 (.tmp rfl) rfl (by omega)) rfl rfl (Nat.le_of_ble_eq_true rfl) ?_
    refine ARun.pure (PureOp.fieldPtr rfl (.tmp rfl) vq_fi_127_1_1) rfl rfl (Nat.le_of_ble_eq_true rfl) ?_
    refine ARun.pure (PureOp.fieldPtr rfl (.tmp rfl) vq_fi_125_1_1) rfl rfl (Nat.le_of_ble_eq_true rfl) ?_
    refine ARun.storeArr rfl (.tmp rfl) (.tmp rfl) trivial rfl (show k < x.length from by omega) (Nat.le_of_ble_eq_true rfl) vq_sz_3_1 rfl rfl ?_
    refine ARun.nil ?_
    refine AW.seq ?_
    refine AW.region ?_
    refine ARun.pure (PureOp.move rfl (.tmp rfl)) rfl rfl (Nat.le_of_ble_eq_true rfl) ?_
    refine ARun.pure (PureOp.add (c := ((a + ((x.take k).map crNote).sum + 1 + 1 + 1 : Nat) : Int)) rfl (.tmp rfl) .int (by rw [wrap_id (by omega) (by omega)]; omega)) rfl rfl (Nat.le_of_ble_eq_true rfl) ?_
    refine ARun.pure (PureOp.assign rfl (.tmp rfl)) rfl rfl (Nat.le_of_ble_eq_true rfl) ?_
    refine ARun.nil ?_
    refine AW.seq ?_
    refine AW.region ?_
    refine ARun.pure (PureOp.move rfl (.tmp rfl)) rfl rfl (Nat.le_of_ble_eq_true rfl) ?_
    refine ARun.pure (PureOp.move rfl (.tmp rfl)) rfl rfl (Nat.le_of_ble_eq_true rfl) ?_
    refine ARun.pure (PureOp.move rfl (.tmp rfl)) rfl rfl (Nat.le_of_ble_eq_true rfl) ?_
    refine ARun.pure (PureOp.call rfl (v_markText (a + ((x.take k).map crNote).sum + 1 + 1 + 1) (by omega) (by omega)) ⟨⟨_, (.tmp rfl), .int⟩, trivial⟩ vq_ca_117 (Nat.le_trans (mkText_size (by omega)) (by decide))) rfl rfl (Nat.le_of_ble_eq_true rfl) ?_
    refine ARun.pure (PureOp.indexOwn (i := k) rfl (.tmp rfl) vq_el_63_4 (.tmp rfl) rfl (by omega)) rfl rfl (Nat.le_of_ble_eq_true rfl) ?_
    refine ARun.pure (PureOp.fieldPtr rfl (.tmp rfl) vq_fi_127_1_1) rfl rfl (Nat.le_of_ble_eq_true rfl) ?_
    refine ARun.pure (PureOp.fieldPtr rfl (.tmp rfl) vq_fi_125_2_2) rfl rfl (Nat.le_of_ble_eq_true rfl) ?_
    refine ARun.storeArr rfl (.tmp rfl) (.tmp rfl) trivial rfl (show k < x.length from by omega) (Nat.le_of_ble_eq_true rfl) vq_sz_9_1 rfl rfl ?_
    refine ARun.nil ?_
    refine AW.region ?_
    refine ARun.pure (PureOp.move rfl (.tmp rfl)) rfl rfl (Nat.le_of_ble_eq_true rfl) ?_
    refine ARun.pure (PureOp.add (c := ((a + ((x.take k).map crNote).sum + 1 + 1 + 1 + 1 : Nat) : Int)) rfl (.tmp rfl) .int (by rw [wrap_id (by omega) (by omega)]; omega)) rfl rfl (Nat.le_of_ble_eq_true rfl) ?_
    refine ARun.pure (PureOp.assign rfl (.tmp rfl)) rfl rfl (Nat.le_of_ble_eq_true rfl) ?_
    refine ARun.nil ?_
    refine AW.region ?_
    refine ARun.pure (PureOp.move rfl (.tmp rfl)) rfl rfl (Nat.le_of_ble_eq_true rfl) ?_
    refine ARun.pure (PureOp.add (c := ((k + 1 : Nat) : Int)) rfl (.tmp rfl) .int (by rw [wrap_id (by omega) (by omega)]; omega)) rfl rfl (Nat.le_of_ble_eq_true rfl) ?_
    refine ARun.pure (PureOp.assign rfl (.tmp rfl)) rfl rfl (Nat.le_of_ble_eq_true rfl) ?_
    refine ARun.nil ?_
    exact ⟨k + 1, by omega, by dsimp only; omega, ⟨⟨⟨_, rfl, rfl⟩, ⟨_, rfl, congrArg (fun z : Nat => SV.one (.int .i64 (z : Int))) (by omega)⟩, ⟨_, rfl, rfl⟩, trivial⟩, ⟨⟨_, rfl, rfl, Nat.le_refl _, fun i j hi (hj : j < 4) => by
      by_cases h : i = k
      · subst h; simp only [AObj.f, true_and, mix_new (default : GNote) hkl]; exact (match j, hj with | 0, _ => rfl | 1, _ => rfl | 2, _ => rfl | 3, _ => rfl | _ + 4, h => absurd h (by omega))
      · simp only [AObj.f, h, false_and, if_false, mix_old (default : GNote) hkl h]⟩, ⟨_, rfl, fun _ _ => rfl⟩, trivial⟩⟩⟩
  · have _u := True.intro
    replace hb1 := of_decide_eq_false hb1
    have hkl : ¬ k < x.length := by omega
    refine AW.exit ?_
    refine AW.seq ?_
    refine AW.region ?_
    refine ARun.pure (PureOp.move rfl (.tmp rfl)) rfl rfl (Nat.le_of_ble_eq_true rfl) ?_
    refine ARun.pure (PureOp.assign rfl (.tmp rfl)) rfl rfl (Nat.le_of_ble_eq_true rfl) ?_
    refine ARun.nil ?_
    refine AW.ret (show ResL _ _ [.tmp 4] _ ∧ HeapLe _ _ from ⟨resI rfl ?_, ⟨⟨_, rfl, rfl, Nat.le_refl _, fun i j _ _ => by rw [mix_all hkl]⟩, ⟨_, rfl, fun _ _ => rfl⟩, trivial⟩⟩)
    rw [show ctL crNote x = _ from (ct_end hkl).symm]

theorem m_NoteS (x : List GNote) (a : Nat) (ha : 0 < a ∧ a + ctL crNote x ≤ 900000000) : FnM Try.prog 102 (.one (.lst 4 x.length (fun i0 j0 => ([.bool ((x.getD i0 (default : GNote)).back), .int .i64 (((x.getD i0 (default : GNote)).what).who), .int .i64 (((x.getD i0 (default : GNote)).what).no), .str (((x.getD i0 (default : GNote)).what).text)] : List AV).getD j0 (.con undef)))) [.one (.int .i64 (a : Int))] (.one (.int .i64 ((a + ctL crNote x : Nat) : Int))) (.one (.lst 4 ((mkL crNote mrNote x a).length) (fun i0 j0 => ([.bool (((mkL crNote mrNote x a).getD i0 (default : GNote)).back), .int .i64 ((((mkL crNote mrNote x a).getD i0 (default : GNote)).what).who), .int .i64 ((((mkL crNote mrNote x a).getD i0 (default : GNote)).what).no), .str ((((mkL crNote mrNote x a).getD i0 (default : GNote)).what).text)] : List AV).getD j0 (.con undef)))) := by
  have h := FnM.ofRow (r := .one (.int .i64 ((a + ctL crNote x : Nat) : Int))) (args := [.one (.int .i64 (a : Int))]) (g := fun i j => ceNote (x.getD i (default : GNote)) j) (g' := fun i j => ceNote ((mkL crNote mrNote x a).getD i (default : GNote)) j) trivial (fun s hs => by simp only [List.mem_singleton] at hs; subst hs; trivial) (by decide) (fun i j hi hj => ⟨rfl, match j, hj with | 0, _ => rfl | 1, _ => rfl | 2, _ => rfl | 3, _ => rfl | _ + 4, h => absurd h (by omega)⟩) (fun i j hi hj => ⟨rfl, match j, hj with | 0, _ => fun h => by cases h | 1, _ => fun h => by cases h | 2, _ => fun h => by cases h | 3, _ => fun h => by cases h | _ + 4, h => absurd h (by omega)⟩) (fun i j hi hj => match j, hj with | 0, _ => rfl | 1, _ => rfl | 2, _ => rfl | 3, _ => rfl | _ + 4, h => absurd h (by omega)) (g_markNoteS x a ha)
  have hl : (mkL crNote mrNote x a).length = x.length := mkL_len
  show FnM _ _ _ _ _ (.one (.lst 4 (mkL crNote mrNote x a).length (fun i j => ceNote ((mkL crNote mrNote x a).getD i (default : GNote)) j)))
  rw [hl]; exact h
theorem g_markToldS (x : List GTold) (a : Nat) (ha : 0 < a ∧ a + ctL crTold x ≤ 900000000) : FnG Try.prog 103 [.one (.own 1000000 3 x.length), .one (.int .i64 (a : Int))] [(1000000, .arr 3 x.length (fun i j => nmA 1000001 (i * 3 + j) (ceTold (x.getD i (default : GTold)) j))), (1000001, .trees (x.length * 3) (fun _ => .int .i64 0))] (.one (.int .i64 ((a + ctL crTold x : Nat) : Int))) [(1000000, .arr 3 x.length (fun i j => nmA 1000001 (i * 3 + j) (ceTold ((mkL crTold mrTold x a).getD i (default : GTold)) j))), (1000001, .trees (x.length * 3) (fun _ => .int .i64 0))] := by
  obtain ⟨ha0, ha1⟩ := ha
  refine FnG.of_body (fn := Try.f103) Try.func103 rfl (Nat.le_of_ble_eq_true rfl) ?_
  intro w0
  show AW _ 35 _ _ _ _
  refine AW.boundO (t := 0) rfl fun hx => ?_
  refine AW.seq ?_
  refine AW.region ?_
  refine ARun.pure (PureOp.assign rfl .int) rfl rfl (Nat.le_of_ble_eq_true rfl) ?_
  refine ARun.nil ?_
  refine AW.seq ?_
  refine AW.seq ?_
  refine AW.region ?_
  refine ARun.pure (PureOp.assign rfl .int) rfl rfl (Nat.le_of_ble_eq_true rfl) ?_
  refine ARun.nil ?_
  refine AW.block ?_
  refine AW.loop (ι := Nat) (fun k => ⟨[(0, .one (.own 1000000 3 x.length)), (1, .one (.int .i64 ((a + ((x.take k).map crTold).sum : Nat) : Int))), (5, .one (.int .i64 (k : Int)))], [(1000000, .arr 3 x.length (fun i j => nmA 1000001 (i * 3 + j) (ceTold ((mixL crTold mrTold x a k).getD i (default : GTold)) j))), (1000001, .trees (x.length * 3) (fun _ => .int .i64 0))]⟩) (fun k => k ≤ x.length) (fun k => x.length - k) 0 (Nat.zero_le _) ⟨⟨⟨_, rfl, rfl⟩, ⟨_, rfl, by simp⟩, ⟨_, rfl, rfl⟩, trivial⟩, ⟨⟨_, rfl, rfl, Nat.le_refl _, fun i j _ _ => by rw [mix_zero]⟩, ⟨_, rfl, fun _ _ => rfl⟩, trivial⟩⟩ ?_
  intro k hk
  refine AW.seq ?_
  refine AW.seq ?_
  refine AW.region ?_
  refine ARun.pure (PureOp.move rfl (.tmp rfl)) rfl rfl (Nat.le_of_ble_eq_true rfl) ?_
  refine ARun.pure (PureOp.move rfl (.tmp rfl)) rfl rfl (Nat.le_of_ble_eq_true rfl) ?_
  refine ARun.pure (PureOp.lenOwn rfl (.tmp rfl) vq_sl_64) rfl rfl (Nat.le_of_ble_eq_true rfl) ?_
  refine ARun.pure (PureOp.intOp rfl (.tmp rfl) (.tmp rfl) rfl) rfl rfl (Nat.le_of_ble_eq_true rfl) ?_
  refine ARun.nil ?_
  refine AW.cond (.tmp rfl) (fun hb1 => ?_) (fun hb1 => ?_)
  · have _u := True.intro
    replace hb1 := of_decide_eq_true hb1
    have hkl : k < x.length := by omega
    obtain ⟨hst, hsm⟩ := ct_step (ct := crTold) (default : GTold) hkl
    have hce : crTold (x.getD k (default : GTold)) = 0 + 1 + 1 + 1 := rfl
    refine AW.skip ?_
    refine AW.seq ?_
    refine AW.block ?_
    refine AW.seq ?_
    refine AW.region ?_
    refine ARun.pure (PureOp.move rfl (.tmp rfl)) rfl rfl (Nat.le_of_ble_eq_true rfl) ?_
    refine ARun.pure (PureOp.move rfl (.tmp rfl)) rfl rfl (Nat.le_of_ble_eq_true rfl) ?_
    refine ARun.pure (PureOp.move rfl (.tmp rfl)) rfl rfl (Nat.le_of_ble_eq_true rfl) ?_
    refine ARun.pure (PureOp.indexOwn (i := k) rfl (.tmp rfl) vq_el_64_3 (.tmp rfl) rfl (by omega)) rfl rfl (Nat.le_of_ble_eq_true rfl) ?_
    refine ARun.pure (PureOp.fieldPtr rfl (.tmp rfl) vq_fi_125_0_0) rfl rfl (Nat.le_of_ble_eq_true rfl) ?_
    refine ARun.storeArr rfl (.tmp rfl) (.tmp rfl) trivial rfl (show k < x.length from by omega) (Nat.le_of_ble_eq_true rfl) vq_sz_3_1 rfl rfl ?_
    refine ARun.nil ?_
    refine AW.seq ?_
    refine AW.region ?_
    refine ARun.pure (PureOp.move rfl (.tmp rfl)) rfl rfl (Nat.le_of_ble_eq_true rfl) ?_
    refine ARun.pure (PureOp.add (c := ((a + ((x.take k).map crTold).sum + 1 : Nat) : Int)) rfl (.tmp rfl) .int (by rw [wrap_id (by omega) (by omega)]; omega)) rfl rfl (Nat.le_of_ble_eq_true rfl) ?_
    refine ARun.pure (PureOp.assign rfl (.tmp rfl)) rfl rfl (Nat.le_of_ble_eq_true rfl) ?_
    refine ARun.nil ?_
    refine AW.seq ?_
    refine AW.region ?_
    refine ARun.pure (PureOp.move rfl (.tmp rfl)) rfl rfl (Nat.le_of_ble_eq_true rfl) ?_
    refine ARun.pure (PureOp.move rfl (.tmp rfl)) rfl rfl (Nat.le_of_ble_eq_true rfl) ?_
    refine ARun.pure (PureOp.move rfl (.tmp rfl)) rfl rfl (Nat.le_of_ble_eq_true rfl) ?_
    refine ARun.pure (PureOp.indexOwn (i := k) rfl (.tmp rfl) vq_el_64_3 (.tmp rfl) rfl (by omega)) rfl rfl (Nat.le_of_ble_eq_true rfl) ?_
    refine ARun.pure (PureOp.fieldPtr rfl (.tmp rfl) vq_fi_125_1_1) rfl rfl (Nat.le_of_ble_eq_true rfl) ?_
    refine ARun.storeArr rfl (.tmp rfl) (.tmp rfl) trivial rfl (show k < x.length from by omega) (Nat.le_of_ble_eq_true rfl) vq_sz_3_1 rfl rfl ?_
    refine ARun.nil ?_
    refine AW.seq ?_
    refine AW.region ?_
    refine ARun.pure (PureOp.move rfl (.tmp rfl)) rfl rfl (Nat.le_of_ble_eq_true rfl) ?_
    refine ARun.pure (PureOp.add (c := ((a + ((x.take k).map crTold).sum + 1 + 1 : Nat) : Int)) rfl (.tmp rfl) .int (by rw [wrap_id (by omega) (by omega)]; omega)) rfl rfl (Nat.le_of_ble_eq_true rfl) ?_
    refine ARun.pure (PureOp.assign rfl (.tmp rfl)) rfl rfl (Nat.le_of_ble_eq_true rfl) ?_
    refine ARun.nil ?_
    refine AW.seq ?_
    refine AW.region ?_
    refine ARun.pure (PureOp.move rfl (.tmp rfl)) rfl rfl (Nat.le_of_ble_eq_true rfl) ?_
    refine ARun.pure (PureOp.move rfl (.tmp rfl)) rfl rfl (Nat.le_of_ble_eq_true rfl) ?_
    refine ARun.pure (PureOp.move rfl (.tmp rfl)) rfl rfl (Nat.le_of_ble_eq_true rfl) ?_
    refine ARun.pure (PureOp.call rfl (v_markText (a + ((x.take k).map crTold).sum + 1 + 1) (by omega) (by omega)) ⟨⟨_, (.tmp rfl), .int⟩, trivial⟩ vq_ca_117 (Nat.le_trans (mkText_size (by omega)) (by decide))) rfl rfl (Nat.le_of_ble_eq_true rfl) ?_
    refine ARun.pure (PureOp.indexOwn (i := k) rfl (.tmp rfl) vq_el_64_3 (.tmp rfl) rfl (by omega)) rfl rfl (Nat.le_of_ble_eq_true rfl) ?_
    refine ARun.pure (PureOp.fieldPtr rfl (.tmp rfl) vq_fi_125_2_2) rfl rfl (Nat.le_of_ble_eq_true rfl) ?_
    refine ARun.storeArr rfl (.tmp rfl) (.tmp rfl) trivial rfl (show k < x.length from by omega) (Nat.le_of_ble_eq_true rfl) vq_sz_9_1 rfl rfl ?_
    refine ARun.nil ?_
    refine AW.region ?_
    refine ARun.pure (PureOp.move rfl (.tmp rfl)) rfl rfl (Nat.le_of_ble_eq_true rfl) ?_
    refine ARun.pure (PureOp.add (c := ((a + ((x.take k).map crTold).sum + 1 + 1 + 1 : Nat) : Int)) rfl (.tmp rfl) .int (by rw [wrap_id (by omega) (by omega)]; omega)) rfl rfl (Nat.le_of_ble_eq_true rfl) ?_
    refine ARun.pure (PureOp.assign rfl (.tmp rfl)) rfl rfl (Nat.le_of_ble_eq_true rfl) ?_
    refine ARun.nil ?_
    refine AW.region ?_
    refine ARun.pure (PureOp.move rfl (.tmp rfl)) rfl rfl (Nat.le_of_ble_eq_true rfl) ?_
    refine ARun.pure (PureOp.add (c := ((k + 1 : Nat) : Int)) rfl (.tmp rfl) .int (by rw [wrap_id (by omega) (by omega)]; omega)) rfl rfl (Nat.le_of_ble_eq_true rfl) ?_
    refine ARun.pure (PureOp.assign rfl (.tmp rfl)) rfl rfl (Nat.le_of_ble_eq_true rfl) ?_
    refine ARun.nil ?_
    exact ⟨k + 1, by omega, by dsimp only; omega, ⟨⟨⟨_, rfl, rfl⟩, ⟨_, rfl, congrArg (fun z : Nat => SV.one (.int .i64 (z : Int))) (by omega)⟩, ⟨_, rfl, rfl⟩, trivial⟩, ⟨⟨_, rfl, rfl, Nat.le_refl _, fun i j hi (hj : j < 3) => by
      by_cases h : i = k
      · subst h; simp only [AObj.f, true_and, mix_new (default : GTold) hkl]; exact (match j, hj with | 0, _ => rfl | 1, _ => rfl | 2, _ => rfl | _ + 3, h => absurd h (by omega))
      · simp only [AObj.f, h, false_and, if_false, mix_old (default : GTold) hkl h]⟩, ⟨_, rfl, fun _ _ => rfl⟩, trivial⟩⟩⟩
  · have _u := True.intro
    replace hb1 := of_decide_eq_false hb1
    have hkl : ¬ k < x.length := by omega
    refine AW.exit ?_
    refine AW.seq ?_
    refine AW.region ?_
    refine ARun.pure (PureOp.move rfl (.tmp rfl)) rfl rfl (Nat.le_of_ble_eq_true rfl) ?_
    refine ARun.pure (PureOp.assign rfl (.tmp rfl)) rfl rfl (Nat.le_of_ble_eq_true rfl) ?_
    refine ARun.nil ?_
    refine AW.ret (show ResL _ _ [.tmp 4] _ ∧ HeapLe _ _ from ⟨resI rfl ?_, ⟨⟨_, rfl, rfl, Nat.le_refl _, fun i j _ _ => by rw [mix_all hkl]⟩, ⟨_, rfl, fun _ _ => rfl⟩, trivial⟩⟩)
    rw [show ctL crTold x = _ from (ct_end hkl).symm]

theorem m_ToldS (x : List GTold) (a : Nat) (ha : 0 < a ∧ a + ctL crTold x ≤ 900000000) : FnM Try.prog 103 (.one (.lst 3 x.length (fun i0 j0 => ([.int .i64 ((x.getD i0 (default : GTold)).who), .int .i64 ((x.getD i0 (default : GTold)).no), .str ((x.getD i0 (default : GTold)).text)] : List AV).getD j0 (.con undef)))) [.one (.int .i64 (a : Int))] (.one (.int .i64 ((a + ctL crTold x : Nat) : Int))) (.one (.lst 3 ((mkL crTold mrTold x a).length) (fun i0 j0 => ([.int .i64 (((mkL crTold mrTold x a).getD i0 (default : GTold)).who), .int .i64 (((mkL crTold mrTold x a).getD i0 (default : GTold)).no), .str (((mkL crTold mrTold x a).getD i0 (default : GTold)).text)] : List AV).getD j0 (.con undef)))) := by
  have h := FnM.ofRow (r := .one (.int .i64 ((a + ctL crTold x : Nat) : Int))) (args := [.one (.int .i64 (a : Int))]) (g := fun i j => ceTold (x.getD i (default : GTold)) j) (g' := fun i j => ceTold ((mkL crTold mrTold x a).getD i (default : GTold)) j) trivial (fun s hs => by simp only [List.mem_singleton] at hs; subst hs; trivial) (by decide) (fun i j hi hj => ⟨rfl, match j, hj with | 0, _ => rfl | 1, _ => rfl | 2, _ => rfl | _ + 3, h => absurd h (by omega)⟩) (fun i j hi hj => ⟨rfl, match j, hj with | 0, _ => fun h => by cases h | 1, _ => fun h => by cases h | 2, _ => fun h => by cases h | _ + 3, h => absurd h (by omega)⟩) (fun i j hi hj => match j, hj with | 0, _ => rfl | 1, _ => rfl | 2, _ => rfl | _ + 3, h => absurd h (by omega)) (g_markToldS x a ha)
  have hl : (mkL crTold mrTold x a).length = x.length := mkL_len
  show FnM _ _ _ _ _ (.one (.lst 3 (mkL crTold mrTold x a).length (fun i j => ceTold ((mkL crTold mrTold x a).getD i (default : GTold)) j)))
  rw [hl]; exact h
theorem g_markTell (x : GTell) (a : Nat) (ha : 0 < a ∧ a + cvTell x ≤ 900000000) : FnG Try.prog 46 [.agg [.tre 1000000 0, .tre 1000000 1, .tre 1000000 2, .tre 1000000 3, .tre 1000000 4], .one (.int .i64 (a : Int))] [(1000000, .trees 5 (fun p => ([.lst 1 x.texts.length (fun i0 _ => .lst 1 ((x.texts.getD i0 []).length) (fun i1 _ => .str ((x.texts.getD i0 []).getD i1 ByteArray.empty))), .lst 1 x.heard.length (fun i0 _ => .int .i64 (x.heard.getD i0 0)), .lst 4 x.line.length (fun i0 j0 => ([.bool ((x.line.getD i0 (default : GNote)).back), .int .i64 (((x.line.getD i0 (default : GNote)).what).who), .int .i64 (((x.line.getD i0 (default : GNote)).what).no), .str (((x.line.getD i0 (default : GNote)).what).text)] : List AV).getD j0 (.con undef)), .lst 3 x.log.length (fun i0 j0 => ([.int .i64 ((x.log.getD i0 (default : GTold)).who), .int .i64 ((x.log.getD i0 (default : GTold)).no), .str ((x.log.getD i0 (default : GTold)).text)] : List AV).getD j0 (.con undef)), .lst 1 x.next.length (fun i0 _ => .int .i64 (x.next.getD i0 0))] : List AV).getD p (.con undef)))] (.one (.int .i64 ((a + cvTell x : Nat) : Int))) [(1000000, .trees 5 (fun p => ([.lst 1 (((mvTell x a).texts).length) (fun i0 _ => .lst 1 ((((mvTell x a).texts).getD i0 []).length) (fun i1 _ => .str ((((mvTell x a).texts).getD i0 []).getD i1 ByteArray.empty))), .lst 1 (((mvTell x a).heard).length) (fun i0 _ => .int .i64 (((mvTell x a).heard).getD i0 0)), .lst 4 (((mvTell x a).line).length) (fun i0 j0 => ([.bool ((((mvTell x a).line).getD i0 (default : GNote)).back), .int .i64 (((((mvTell x a).line).getD i0 (default : GNote)).what).who), .int .i64 (((((mvTell x a).line).getD i0 (default : GNote)).what).no), .str (((((mvTell x a).line).getD i0 (default : GNote)).what).text)] : List AV).getD j0 (.con undef)), .lst 3 (((mvTell x a).log).length) (fun i0 j0 => ([.int .i64 ((((mvTell x a).log).getD i0 (default : GTold)).who), .int .i64 ((((mvTell x a).log).getD i0 (default : GTold)).no), .str ((((mvTell x a).log).getD i0 (default : GTold)).text)] : List AV).getD j0 (.con undef)), .lst 1 (((mvTell x a).next).length) (fun i0 _ => .int .i64 (((mvTell x a).next).getD i0 0))] : List AV).getD p (.con undef)))] := by
  obtain ⟨ha0, ha1⟩ := ha
  have hcv : cvTell x = 0 + ctL (ctL c1) (x.texts) + ctL c1 (x.heard) + ctL crNote (x.line) + ctL crTold (x.log) + ctL c1 (x.next) := rfl
  refine FnG.of_body (fn := Try.f46) Try.func46 rfl (Nat.le_of_ble_eq_true rfl) ?_
  intro w0
  show AW _ 26 _ _ _ _
  refine AW.seq ?_
  refine AW.region ?_
  refine ARun.box (id := 0) rfl (.tmp rfl) (SV.cells_of (by exact ⟨trivial, trivial, trivial, trivial, trivial, trivial⟩)) ⟨rfl, (by repeat first | exact trivial | refine ⟨by decide, by first | rfl | exact trivial | (intro i j; first | rfl | exact getD_no rfl | (dsimp only; split <;> first | rfl | exact getD_no rfl)), ?_⟩)⟩ rfl rfl rfl (Nat.le_of_ble_eq_true rfl) ?_
  refine ARun.pure (PureOp.assign rfl .int) rfl rfl (Nat.le_of_ble_eq_true rfl) ?_
  refine ARun.nil ?_
  refine AW.seq ?_
  refine AW.region ?_
  refine ARun.pure (PureOp.fieldPtr rfl (.tmp rfl) vq_fi_66_0_0) rfl rfl (Nat.le_of_ble_eq_true rfl) ?_
  refine ARun.pure (PureOp.loadPtr rfl (.tmp rfl) vq_pl_62 rfl rfl (Nat.le_of_ble_eq_true rfl) (Nat.le_of_ble_eq_true rfl)) rfl rfl (Nat.le_of_ble_eq_true rfl) ?_
  refine ARun.pure (PureOp.move rfl (.tmp rfl)) rfl rfl (Nat.le_of_ble_eq_true rfl) ?_
  refine ARun.mark (id := 1000000) (q0 := 0) (X' := fun q => if q = 0 then .lst 1 ((mkL (ctL c1) (mkL c1 mkS) x.texts a).length) (fun i0 _ => .lst 1 (((mkL (ctL c1) (mkL c1 mkS) x.texts a).getD i0 []).length) (fun i1 _ => .str (((mkL (ctL c1) (mkL c1 mkS) x.texts a).getD i0 []).getD i1 ByteArray.empty))) else (fun p => ([.lst 1 x.texts.length (fun i0 _ => .lst 1 ((x.texts.getD i0 []).length) (fun i1 _ => .str ((x.texts.getD i0 []).getD i1 ByteArray.empty))), .lst 1 x.heard.length (fun i0 _ => .int .i64 (x.heard.getD i0 0)), .lst 4 x.line.length (fun i0 j0 => ([.bool ((x.line.getD i0 (default : GNote)).back), .int .i64 (((x.line.getD i0 (default : GNote)).what).who), .int .i64 (((x.line.getD i0 (default : GNote)).what).no), .str (((x.line.getD i0 (default : GNote)).what).text)] : List AV).getD j0 (.con undef)), .lst 3 x.log.length (fun i0 j0 => ([.int .i64 ((x.log.getD i0 (default : GTold)).who), .int .i64 ((x.log.getD i0 (default : GTold)).no), .str ((x.log.getD i0 (default : GTold)).text)] : List AV).getD j0 (.con undef)), .lst 1 x.next.length (fun i0 _ => .int .i64 (x.next.getD i0 0))] : List AV).getD p (.con undef)) q) rfl (m_StringSS x.texts a ⟨by omega, by omega⟩) vq_ca_101 trivial (.tmp rfl) rfl rfl rfl (Nat.le_of_ble_eq_true rfl) (fun p hp _ => match p, hp with | 0, _ => rfl | _ + 1, h => absurd h (by simp [SV.leaves])) rfl trivial (fun p hp _ => match p, hp with | 0, _ => if_pos rfl | _ + 1, h => absurd h (by simp [SV.leaves])) (fun q _ hne => if_neg (fun e => hne 0 (Nat.zero_lt_one) rfl e)) ⟨(.tmp rfl), trivial, trivial⟩ rfl rfl (Nat.le_of_ble_eq_true rfl) ?_
  refine ARun.pure (PureOp.assign rfl (.tmp rfl)) rfl rfl (Nat.le_of_ble_eq_true rfl) ?_
  refine ARun.nil ?_
  refine AW.seq ?_
  refine AW.region ?_
  refine ARun.pure (PureOp.fieldPtr rfl (.tmp rfl) vq_fi_66_1_1) rfl rfl (Nat.le_of_ble_eq_true rfl) ?_
  refine ARun.pure (PureOp.loadPtr rfl (.tmp rfl) vq_pl_22 rfl rfl (Nat.le_of_ble_eq_true rfl) (Nat.le_of_ble_eq_true rfl)) rfl rfl (Nat.le_of_ble_eq_true rfl) ?_
  refine ARun.pure (PureOp.move rfl (.tmp rfl)) rfl rfl (Nat.le_of_ble_eq_true rfl) ?_
  refine ARun.mark (id := 1000000) (q0 := 1) (X' := fun q => if q = 1 then .lst 1 ((mkL c1 mkI x.heard (a + ctL (ctL c1) x.texts)).length) (fun i0 _ => .int .i64 ((mkL c1 mkI x.heard (a + ctL (ctL c1) x.texts)).getD i0 0)) else (fun q => if q = 0 then .lst 1 ((mkL (ctL c1) (mkL c1 mkS) x.texts a).length) (fun i0 _ => .lst 1 (((mkL (ctL c1) (mkL c1 mkS) x.texts a).getD i0 []).length) (fun i1 _ => .str (((mkL (ctL c1) (mkL c1 mkS) x.texts a).getD i0 []).getD i1 ByteArray.empty))) else (fun p => ([.lst 1 x.texts.length (fun i0 _ => .lst 1 ((x.texts.getD i0 []).length) (fun i1 _ => .str ((x.texts.getD i0 []).getD i1 ByteArray.empty))), .lst 1 x.heard.length (fun i0 _ => .int .i64 (x.heard.getD i0 0)), .lst 4 x.line.length (fun i0 j0 => ([.bool ((x.line.getD i0 (default : GNote)).back), .int .i64 (((x.line.getD i0 (default : GNote)).what).who), .int .i64 (((x.line.getD i0 (default : GNote)).what).no), .str (((x.line.getD i0 (default : GNote)).what).text)] : List AV).getD j0 (.con undef)), .lst 3 x.log.length (fun i0 j0 => ([.int .i64 ((x.log.getD i0 (default : GTold)).who), .int .i64 ((x.log.getD i0 (default : GTold)).no), .str ((x.log.getD i0 (default : GTold)).text)] : List AV).getD j0 (.con undef)), .lst 1 x.next.length (fun i0 _ => .int .i64 (x.next.getD i0 0))] : List AV).getD p (.con undef)) q) q) rfl (m_IntS x.heard (a + ctL (ctL c1) x.texts) ⟨by omega, by omega⟩) vq_ca_19 trivial (.tmp rfl) rfl rfl rfl (Nat.le_of_ble_eq_true rfl) (fun p hp _ => match p, hp with | 0, _ => rfl | _ + 1, h => absurd h (by simp [SV.leaves])) rfl trivial (fun p hp _ => match p, hp with | 0, _ => if_pos rfl | _ + 1, h => absurd h (by simp [SV.leaves])) (fun q _ hne => if_neg (fun e => hne 0 (Nat.zero_lt_one) rfl e)) ⟨(.tmp rfl), trivial, trivial⟩ rfl rfl (Nat.le_of_ble_eq_true rfl) ?_
  refine ARun.pure (PureOp.assign rfl (.tmp rfl)) rfl rfl (Nat.le_of_ble_eq_true rfl) ?_
  refine ARun.nil ?_
  refine AW.seq ?_
  refine AW.region ?_
  refine ARun.pure (PureOp.fieldPtr rfl (.tmp rfl) vq_fi_66_2_2) rfl rfl (Nat.le_of_ble_eq_true rfl) ?_
  refine ARun.pure (PureOp.loadPtr rfl (.tmp rfl) vq_pl_63 rfl rfl (Nat.le_of_ble_eq_true rfl) (Nat.le_of_ble_eq_true rfl)) rfl rfl (Nat.le_of_ble_eq_true rfl) ?_
  refine ARun.pure (PureOp.move rfl (.tmp rfl)) rfl rfl (Nat.le_of_ble_eq_true rfl) ?_
  refine ARun.mark (id := 1000000) (q0 := 2) (X' := fun q => if q = 2 then .lst 4 ((mkL crNote mrNote x.line (a + ctL (ctL c1) x.texts + ctL c1 x.heard)).length) (fun i0 j0 => ([.bool (((mkL crNote mrNote x.line (a + ctL (ctL c1) x.texts + ctL c1 x.heard)).getD i0 (default : GNote)).back), .int .i64 ((((mkL crNote mrNote x.line (a + ctL (ctL c1) x.texts + ctL c1 x.heard)).getD i0 (default : GNote)).what).who), .int .i64 ((((mkL crNote mrNote x.line (a + ctL (ctL c1) x.texts + ctL c1 x.heard)).getD i0 (default : GNote)).what).no), .str ((((mkL crNote mrNote x.line (a + ctL (ctL c1) x.texts + ctL c1 x.heard)).getD i0 (default : GNote)).what).text)] : List AV).getD j0 (.con undef)) else (fun q => if q = 1 then .lst 1 ((mkL c1 mkI x.heard (a + ctL (ctL c1) x.texts)).length) (fun i0 _ => .int .i64 ((mkL c1 mkI x.heard (a + ctL (ctL c1) x.texts)).getD i0 0)) else (fun q => if q = 0 then .lst 1 ((mkL (ctL c1) (mkL c1 mkS) x.texts a).length) (fun i0 _ => .lst 1 (((mkL (ctL c1) (mkL c1 mkS) x.texts a).getD i0 []).length) (fun i1 _ => .str (((mkL (ctL c1) (mkL c1 mkS) x.texts a).getD i0 []).getD i1 ByteArray.empty))) else (fun p => ([.lst 1 x.texts.length (fun i0 _ => .lst 1 ((x.texts.getD i0 []).length) (fun i1 _ => .str ((x.texts.getD i0 []).getD i1 ByteArray.empty))), .lst 1 x.heard.length (fun i0 _ => .int .i64 (x.heard.getD i0 0)), .lst 4 x.line.length (fun i0 j0 => ([.bool ((x.line.getD i0 (default : GNote)).back), .int .i64 (((x.line.getD i0 (default : GNote)).what).who), .int .i64 (((x.line.getD i0 (default : GNote)).what).no), .str (((x.line.getD i0 (default : GNote)).what).text)] : List AV).getD j0 (.con undef)), .lst 3 x.log.length (fun i0 j0 => ([.int .i64 ((x.log.getD i0 (default : GTold)).who), .int .i64 ((x.log.getD i0 (default : GTold)).no), .str ((x.log.getD i0 (default : GTold)).text)] : List AV).getD j0 (.con undef)), .lst 1 x.next.length (fun i0 _ => .int .i64 (x.next.getD i0 0))] : List AV).getD p (.con undef)) q) q) q) rfl (m_NoteS x.line (a + ctL (ctL c1) x.texts + ctL c1 x.heard) ⟨by omega, by omega⟩) vq_ca_102 trivial (.tmp rfl) rfl rfl rfl (Nat.le_of_ble_eq_true rfl) (fun p hp _ => match p, hp with | 0, _ => rfl | _ + 1, h => absurd h (by simp [SV.leaves])) rfl trivial (fun p hp _ => match p, hp with | 0, _ => if_pos rfl | _ + 1, h => absurd h (by simp [SV.leaves])) (fun q _ hne => if_neg (fun e => hne 0 (Nat.zero_lt_one) rfl e)) ⟨(.tmp rfl), trivial, trivial⟩ rfl rfl (Nat.le_of_ble_eq_true rfl) ?_
  refine ARun.pure (PureOp.assign rfl (.tmp rfl)) rfl rfl (Nat.le_of_ble_eq_true rfl) ?_
  refine ARun.nil ?_
  refine AW.seq ?_
  refine AW.region ?_
  refine ARun.pure (PureOp.fieldPtr rfl (.tmp rfl) vq_fi_66_3_3) rfl rfl (Nat.le_of_ble_eq_true rfl) ?_
  refine ARun.pure (PureOp.loadPtr rfl (.tmp rfl) vq_pl_64 rfl rfl (Nat.le_of_ble_eq_true rfl) (Nat.le_of_ble_eq_true rfl)) rfl rfl (Nat.le_of_ble_eq_true rfl) ?_
  refine ARun.pure (PureOp.move rfl (.tmp rfl)) rfl rfl (Nat.le_of_ble_eq_true rfl) ?_
  refine ARun.mark (id := 1000000) (q0 := 3) (X' := fun q => if q = 3 then .lst 3 ((mkL crTold mrTold x.log (a + ctL (ctL c1) x.texts + ctL c1 x.heard + ctL crNote x.line)).length) (fun i0 j0 => ([.int .i64 (((mkL crTold mrTold x.log (a + ctL (ctL c1) x.texts + ctL c1 x.heard + ctL crNote x.line)).getD i0 (default : GTold)).who), .int .i64 (((mkL crTold mrTold x.log (a + ctL (ctL c1) x.texts + ctL c1 x.heard + ctL crNote x.line)).getD i0 (default : GTold)).no), .str (((mkL crTold mrTold x.log (a + ctL (ctL c1) x.texts + ctL c1 x.heard + ctL crNote x.line)).getD i0 (default : GTold)).text)] : List AV).getD j0 (.con undef)) else (fun q => if q = 2 then .lst 4 ((mkL crNote mrNote x.line (a + ctL (ctL c1) x.texts + ctL c1 x.heard)).length) (fun i0 j0 => ([.bool (((mkL crNote mrNote x.line (a + ctL (ctL c1) x.texts + ctL c1 x.heard)).getD i0 (default : GNote)).back), .int .i64 ((((mkL crNote mrNote x.line (a + ctL (ctL c1) x.texts + ctL c1 x.heard)).getD i0 (default : GNote)).what).who), .int .i64 ((((mkL crNote mrNote x.line (a + ctL (ctL c1) x.texts + ctL c1 x.heard)).getD i0 (default : GNote)).what).no), .str ((((mkL crNote mrNote x.line (a + ctL (ctL c1) x.texts + ctL c1 x.heard)).getD i0 (default : GNote)).what).text)] : List AV).getD j0 (.con undef)) else (fun q => if q = 1 then .lst 1 ((mkL c1 mkI x.heard (a + ctL (ctL c1) x.texts)).length) (fun i0 _ => .int .i64 ((mkL c1 mkI x.heard (a + ctL (ctL c1) x.texts)).getD i0 0)) else (fun q => if q = 0 then .lst 1 ((mkL (ctL c1) (mkL c1 mkS) x.texts a).length) (fun i0 _ => .lst 1 (((mkL (ctL c1) (mkL c1 mkS) x.texts a).getD i0 []).length) (fun i1 _ => .str (((mkL (ctL c1) (mkL c1 mkS) x.texts a).getD i0 []).getD i1 ByteArray.empty))) else (fun p => ([.lst 1 x.texts.length (fun i0 _ => .lst 1 ((x.texts.getD i0 []).length) (fun i1 _ => .str ((x.texts.getD i0 []).getD i1 ByteArray.empty))), .lst 1 x.heard.length (fun i0 _ => .int .i64 (x.heard.getD i0 0)), .lst 4 x.line.length (fun i0 j0 => ([.bool ((x.line.getD i0 (default : GNote)).back), .int .i64 (((x.line.getD i0 (default : GNote)).what).who), .int .i64 (((x.line.getD i0 (default : GNote)).what).no), .str (((x.line.getD i0 (default : GNote)).what).text)] : List AV).getD j0 (.con undef)), .lst 3 x.log.length (fun i0 j0 => ([.int .i64 ((x.log.getD i0 (default : GTold)).who), .int .i64 ((x.log.getD i0 (default : GTold)).no), .str ((x.log.getD i0 (default : GTold)).text)] : List AV).getD j0 (.con undef)), .lst 1 x.next.length (fun i0 _ => .int .i64 (x.next.getD i0 0))] : List AV).getD p (.con undef)) q) q) q) q) rfl (m_ToldS x.log (a + ctL (ctL c1) x.texts + ctL c1 x.heard + ctL crNote x.line) ⟨by omega, by omega⟩) vq_ca_103 trivial (.tmp rfl) rfl rfl rfl (Nat.le_of_ble_eq_true rfl) (fun p hp _ => match p, hp with | 0, _ => rfl | _ + 1, h => absurd h (by simp [SV.leaves])) rfl trivial (fun p hp _ => match p, hp with | 0, _ => if_pos rfl | _ + 1, h => absurd h (by simp [SV.leaves])) (fun q _ hne => if_neg (fun e => hne 0 (Nat.zero_lt_one) rfl e)) ⟨(.tmp rfl), trivial, trivial⟩ rfl rfl (Nat.le_of_ble_eq_true rfl) ?_
  refine ARun.pure (PureOp.assign rfl (.tmp rfl)) rfl rfl (Nat.le_of_ble_eq_true rfl) ?_
  refine ARun.nil ?_
  refine AW.seq ?_
  refine AW.region ?_
  refine ARun.pure (PureOp.fieldPtr rfl (.tmp rfl) vq_fi_66_4_4) rfl rfl (Nat.le_of_ble_eq_true rfl) ?_
  refine ARun.pure (PureOp.loadPtr rfl (.tmp rfl) vq_pl_22 rfl rfl (Nat.le_of_ble_eq_true rfl) (Nat.le_of_ble_eq_true rfl)) rfl rfl (Nat.le_of_ble_eq_true rfl) ?_
  refine ARun.pure (PureOp.move rfl (.tmp rfl)) rfl rfl (Nat.le_of_ble_eq_true rfl) ?_
  refine ARun.mark (id := 1000000) (q0 := 4) (X' := fun q => if q = 4 then .lst 1 ((mkL c1 mkI x.next (a + ctL (ctL c1) x.texts + ctL c1 x.heard + ctL crNote x.line + ctL crTold x.log)).length) (fun i0 _ => .int .i64 ((mkL c1 mkI x.next (a + ctL (ctL c1) x.texts + ctL c1 x.heard + ctL crNote x.line + ctL crTold x.log)).getD i0 0)) else (fun q => if q = 3 then .lst 3 ((mkL crTold mrTold x.log (a + ctL (ctL c1) x.texts + ctL c1 x.heard + ctL crNote x.line)).length) (fun i0 j0 => ([.int .i64 (((mkL crTold mrTold x.log (a + ctL (ctL c1) x.texts + ctL c1 x.heard + ctL crNote x.line)).getD i0 (default : GTold)).who), .int .i64 (((mkL crTold mrTold x.log (a + ctL (ctL c1) x.texts + ctL c1 x.heard + ctL crNote x.line)).getD i0 (default : GTold)).no), .str (((mkL crTold mrTold x.log (a + ctL (ctL c1) x.texts + ctL c1 x.heard + ctL crNote x.line)).getD i0 (default : GTold)).text)] : List AV).getD j0 (.con undef)) else (fun q => if q = 2 then .lst 4 ((mkL crNote mrNote x.line (a + ctL (ctL c1) x.texts + ctL c1 x.heard)).length) (fun i0 j0 => ([.bool (((mkL crNote mrNote x.line (a + ctL (ctL c1) x.texts + ctL c1 x.heard)).getD i0 (default : GNote)).back), .int .i64 ((((mkL crNote mrNote x.line (a + ctL (ctL c1) x.texts + ctL c1 x.heard)).getD i0 (default : GNote)).what).who), .int .i64 ((((mkL crNote mrNote x.line (a + ctL (ctL c1) x.texts + ctL c1 x.heard)).getD i0 (default : GNote)).what).no), .str ((((mkL crNote mrNote x.line (a + ctL (ctL c1) x.texts + ctL c1 x.heard)).getD i0 (default : GNote)).what).text)] : List AV).getD j0 (.con undef)) else (fun q => if q = 1 then .lst 1 ((mkL c1 mkI x.heard (a + ctL (ctL c1) x.texts)).length) (fun i0 _ => .int .i64 ((mkL c1 mkI x.heard (a + ctL (ctL c1) x.texts)).getD i0 0)) else (fun q => if q = 0 then .lst 1 ((mkL (ctL c1) (mkL c1 mkS) x.texts a).length) (fun i0 _ => .lst 1 (((mkL (ctL c1) (mkL c1 mkS) x.texts a).getD i0 []).length) (fun i1 _ => .str (((mkL (ctL c1) (mkL c1 mkS) x.texts a).getD i0 []).getD i1 ByteArray.empty))) else (fun p => ([.lst 1 x.texts.length (fun i0 _ => .lst 1 ((x.texts.getD i0 []).length) (fun i1 _ => .str ((x.texts.getD i0 []).getD i1 ByteArray.empty))), .lst 1 x.heard.length (fun i0 _ => .int .i64 (x.heard.getD i0 0)), .lst 4 x.line.length (fun i0 j0 => ([.bool ((x.line.getD i0 (default : GNote)).back), .int .i64 (((x.line.getD i0 (default : GNote)).what).who), .int .i64 (((x.line.getD i0 (default : GNote)).what).no), .str (((x.line.getD i0 (default : GNote)).what).text)] : List AV).getD j0 (.con undef)), .lst 3 x.log.length (fun i0 j0 => ([.int .i64 ((x.log.getD i0 (default : GTold)).who), .int .i64 ((x.log.getD i0 (default : GTold)).no), .str ((x.log.getD i0 (default : GTold)).text)] : List AV).getD j0 (.con undef)), .lst 1 x.next.length (fun i0 _ => .int .i64 (x.next.getD i0 0))] : List AV).getD p (.con undef)) q) q) q) q) q) rfl (m_IntS x.next (a + ctL (ctL c1) x.texts + ctL c1 x.heard + ctL crNote x.line + ctL crTold x.log) ⟨by omega, by omega⟩) vq_ca_19 trivial (.tmp rfl) rfl rfl rfl (Nat.le_of_ble_eq_true rfl) (fun p hp _ => match p, hp with | 0, _ => rfl | _ + 1, h => absurd h (by simp [SV.leaves])) rfl trivial (fun p hp _ => match p, hp with | 0, _ => if_pos rfl | _ + 1, h => absurd h (by simp [SV.leaves])) (fun q _ hne => if_neg (fun e => hne 0 (Nat.zero_lt_one) rfl e)) ⟨(.tmp rfl), trivial, trivial⟩ rfl rfl (Nat.le_of_ble_eq_true rfl) ?_
  refine ARun.pure (PureOp.assign rfl (.tmp rfl)) rfl rfl (Nat.le_of_ble_eq_true rfl) ?_
  refine ARun.nil ?_
  refine AW.seq ?_
  refine AW.region ?_
  refine ARun.pure (PureOp.move rfl (.tmp rfl)) rfl rfl (Nat.le_of_ble_eq_true rfl) ?_
  refine ARun.pure (PureOp.assign rfl (.tmp rfl)) rfl rfl (Nat.le_of_ble_eq_true rfl) ?_
  refine ARun.nil ?_
  refine AW.ret (show ResL _ _ [.tmp 4] _ ∧ HeapLe _ _ from ⟨resI rfl ?_, ⟨⟨_, rfl, fun q hq => match q, hq with | 0, _ => rfl | 1, _ => rfl | 2, _ => rfl | 3, _ => rfl | 4, _ => rfl | _ + 5, h => absurd h (by omega)⟩, trivial⟩⟩)
  omega

theorem m_Tell (x : GTell) (a : Nat) (ha : 0 < a ∧ a + cvTell x ≤ 900000000) : FnM Try.prog 46 (.agg [.lst 1 x.texts.length (fun i0 _ => .lst 1 ((x.texts.getD i0 []).length) (fun i1 _ => .str ((x.texts.getD i0 []).getD i1 ByteArray.empty))), .lst 1 x.heard.length (fun i0 _ => .int .i64 (x.heard.getD i0 0)), .lst 4 x.line.length (fun i0 j0 => ([.bool ((x.line.getD i0 (default : GNote)).back), .int .i64 (((x.line.getD i0 (default : GNote)).what).who), .int .i64 (((x.line.getD i0 (default : GNote)).what).no), .str (((x.line.getD i0 (default : GNote)).what).text)] : List AV).getD j0 (.con undef)), .lst 3 x.log.length (fun i0 j0 => ([.int .i64 ((x.log.getD i0 (default : GTold)).who), .int .i64 ((x.log.getD i0 (default : GTold)).no), .str ((x.log.getD i0 (default : GTold)).text)] : List AV).getD j0 (.con undef)), .lst 1 x.next.length (fun i0 _ => .int .i64 (x.next.getD i0 0))]) [.one (.int .i64 (a : Int))] (.one (.int .i64 ((a + cvTell x : Nat) : Int))) (.agg [.lst 1 (((mvTell x a).texts).length) (fun i0 _ => .lst 1 ((((mvTell x a).texts).getD i0 []).length) (fun i1 _ => .str ((((mvTell x a).texts).getD i0 []).getD i1 ByteArray.empty))), .lst 1 (((mvTell x a).heard).length) (fun i0 _ => .int .i64 (((mvTell x a).heard).getD i0 0)), .lst 4 (((mvTell x a).line).length) (fun i0 j0 => ([.bool ((((mvTell x a).line).getD i0 (default : GNote)).back), .int .i64 (((((mvTell x a).line).getD i0 (default : GNote)).what).who), .int .i64 (((((mvTell x a).line).getD i0 (default : GNote)).what).no), .str (((((mvTell x a).line).getD i0 (default : GNote)).what).text)] : List AV).getD j0 (.con undef)), .lst 3 (((mvTell x a).log).length) (fun i0 j0 => ([.int .i64 ((((mvTell x a).log).getD i0 (default : GTold)).who), .int .i64 ((((mvTell x a).log).getD i0 (default : GTold)).no), .str ((((mvTell x a).log).getD i0 (default : GTold)).text)] : List AV).getD j0 (.con undef)), .lst 1 (((mvTell x a).next).length) (fun i0 _ => .int .i64 (((mvTell x a).next).getD i0 0))]) :=
  FnM.ofAgg trivial (fun s hs => by simp only [List.mem_singleton] at hs; subst hs; trivial) rfl (fun _ _ h => h) (g_markTell x a ha)
theorem g_markNodeS (x : List GNode) (a : Nat) (ha : 0 < a ∧ a + ctL crNode x ≤ 900000000) : FnG Try.prog 67 [.one (.own 1000000 5 x.length), .one (.int .i64 (a : Int))] [(1000000, .arr 5 x.length (fun i j => nmA 1000001 (i * 5 + j) (ceNode (x.getD i (default : GNode)) j))), (1000001, .trees (x.length * 5) (famX 5 (fun i j => lonly (ceNode (x.getD i (default : GNode)) j))))] (.one (.int .i64 ((a + ctL crNode x : Nat) : Int))) [(1000000, .arr 5 x.length (fun i j => nmA 1000001 (i * 5 + j) (ceNode ((mkL crNode mrNode x a).getD i (default : GNode)) j))), (1000001, .trees (x.length * 5) (famX 5 (fun i j => lonly (ceNode ((mkL crNode mrNode x a).getD i (default : GNode)) j))))] := by
  obtain ⟨ha0, ha1⟩ := ha
  refine FnG.of_body (fn := Try.f67) Try.func67 rfl (Nat.le_of_ble_eq_true rfl) ?_
  intro w0
  show AW _ 48 _ _ _ _
  refine AW.boundO (t := 0) rfl fun hx => ?_
  refine AW.seq ?_
  refine AW.region ?_
  refine ARun.pure (PureOp.assign rfl .int) rfl rfl (Nat.le_of_ble_eq_true rfl) ?_
  refine ARun.nil ?_
  refine AW.seq ?_
  refine AW.seq ?_
  refine AW.region ?_
  refine ARun.pure (PureOp.assign rfl .int) rfl rfl (Nat.le_of_ble_eq_true rfl) ?_
  refine ARun.nil ?_
  refine AW.block ?_
  refine AW.loop (ι := Nat) (fun k => ⟨[(0, .one (.own 1000000 5 x.length)), (1, .one (.int .i64 ((a + ((x.take k).map crNode).sum : Nat) : Int))), (5, .one (.int .i64 (k : Int)))], [(1000000, .arr 5 x.length (fun i j => nmA 1000001 (i * 5 + j) (ceNode ((mixL crNode mrNode x a k).getD i (default : GNode)) j))), (1000001, .trees (x.length * 5) (famX 5 (fun i j => lonly (ceNode ((mixL crNode mrNode x a k).getD i (default : GNode)) j))))]⟩) (fun k => k ≤ x.length) (fun k => x.length - k) 0 (Nat.zero_le _) ⟨⟨⟨_, rfl, rfl⟩, ⟨_, rfl, by simp⟩, ⟨_, rfl, rfl⟩, trivial⟩, ⟨⟨_, rfl, rfl, Nat.le_refl _, fun i j _ _ => by rw [mix_zero]⟩, ⟨_, rfl, fun q _ => by rw [mix_zero]⟩, trivial⟩⟩ ?_
  intro k hk
  refine AW.seq ?_
  refine AW.seq ?_
  refine AW.region ?_
  refine ARun.pure (PureOp.move rfl (.tmp rfl)) rfl rfl (Nat.le_of_ble_eq_true rfl) ?_
  refine ARun.pure (PureOp.move rfl (.tmp rfl)) rfl rfl (Nat.le_of_ble_eq_true rfl) ?_
  refine ARun.pure (PureOp.lenOwn rfl (.tmp rfl) vq_sl_23) rfl rfl (Nat.le_of_ble_eq_true rfl) ?_
  refine ARun.pure (PureOp.intOp rfl (.tmp rfl) (.tmp rfl) rfl) rfl rfl (Nat.le_of_ble_eq_true rfl) ?_
  refine ARun.nil ?_
  refine AW.cond (.tmp rfl) (fun hb1 => ?_) (fun hb1 => ?_)
  · have _u := True.intro
    replace hb1 := of_decide_eq_true hb1
    have hkl : k < x.length := by omega
    obtain ⟨hst, hsm⟩ := ct_step (ct := crNode) (default : GNode) hkl
    have hce : crNode (x.getD k (default : GNode)) = 0 + 1 + 1 + 1 + ctL c1 ((x.getD k (default : GNode)).heard) + 1 := rfl
    refine AW.skip ?_
    refine AW.seq ?_
    refine AW.block ?_
    refine AW.seq ?_
    refine AW.region ?_
    refine ARun.pure (PureOp.move rfl (.tmp rfl)) rfl rfl (Nat.le_of_ble_eq_true rfl) ?_
    refine ARun.pure (PureOp.move rfl (.tmp rfl)) rfl rfl (Nat.le_of_ble_eq_true rfl) ?_
    refine ARun.pure (PureOp.move rfl (.tmp rfl)) rfl rfl (Nat.le_of_ble_eq_true rfl) ?_
    refine ARun.pure (PureOp.indexOwn (i := k) rfl (.tmp rfl) vq_el_23_5 (.tmp rfl) rfl (by omega)) rfl rfl (Nat.le_of_ble_eq_true rfl) ?_
    refine ARun.pure (PureOp.fieldPtr rfl (.tmp rfl) vq_fi_89_0_0) rfl rfl (Nat.le_of_ble_eq_true rfl) ?_
    refine ARun.storeArr rfl (.tmp rfl) (.tmp rfl) trivial rfl (show k < x.length from by omega) (Nat.le_of_ble_eq_true rfl) vq_sz_3_1 rfl rfl ?_
    refine ARun.nil ?_
    refine AW.seq ?_
    refine AW.region ?_
    refine ARun.pure (PureOp.move rfl (.tmp rfl)) rfl rfl (Nat.le_of_ble_eq_true rfl) ?_
    refine ARun.pure (PureOp.add (c := ((a + ((x.take k).map crNode).sum + 1 : Nat) : Int)) rfl (.tmp rfl) .int (by rw [wrap_id (by omega) (by omega)]; omega)) rfl rfl (Nat.le_of_ble_eq_true rfl) ?_
    refine ARun.pure (PureOp.assign rfl (.tmp rfl)) rfl rfl (Nat.le_of_ble_eq_true rfl) ?_
    refine ARun.nil ?_
    refine AW.seq ?_
    refine AW.region ?_
    refine ARun.pure (PureOp.move rfl (.tmp rfl)) rfl rfl (Nat.le_of_ble_eq_true rfl) ?_
    refine ARun.pure (PureOp.move rfl (.tmp rfl)) rfl rfl (Nat.le_of_ble_eq_true rfl) ?_
    refine ARun.pure (PureOp.move rfl (.tmp rfl)) rfl rfl (Nat.le_of_ble_eq_true rfl) ?_
    refine ARun.pure (PureOp.indexOwn (i := k) rfl (.tmp rfl) vq_el_23_5 (.tmp rfl) rfl (by omega)) rfl rfl (Nat.le_of_ble_eq_true rfl) ?_
    refine ARun.pure (PureOp.fieldPtr rfl (.tmp rfl) vq_fi_89_1_1) rfl rfl (Nat.le_of_ble_eq_true rfl) ?_
    refine ARun.storeArr rfl (.tmp rfl) (.tmp rfl) trivial rfl (show k < x.length from by omega) (Nat.le_of_ble_eq_true rfl) vq_sz_3_1 rfl rfl ?_
    refine ARun.nil ?_
    refine AW.seq ?_
    refine AW.region ?_
    refine ARun.pure (PureOp.move rfl (.tmp rfl)) rfl rfl (Nat.le_of_ble_eq_true rfl) ?_
    refine ARun.pure (PureOp.add (c := ((a + ((x.take k).map crNode).sum + 1 + 1 : Nat) : Int)) rfl (.tmp rfl) .int (by rw [wrap_id (by omega) (by omega)]; omega)) rfl rfl (Nat.le_of_ble_eq_true rfl) ?_
    refine ARun.pure (PureOp.assign rfl (.tmp rfl)) rfl rfl (Nat.le_of_ble_eq_true rfl) ?_
    refine ARun.nil ?_
    refine AW.seq ?_
    refine AW.region ?_
    refine ARun.pure (PureOp.move rfl (.tmp rfl)) rfl rfl (Nat.le_of_ble_eq_true rfl) ?_
    refine ARun.pure (PureOp.move rfl (.tmp rfl)) rfl rfl (Nat.le_of_ble_eq_true rfl) ?_
    refine ARun.pure (PureOp.move rfl (.tmp rfl)) rfl rfl (Nat.le_of_ble_eq_true rfl) ?_
    refine ARun.pure (PureOp.indexOwn (i := k) rfl (.tmp rfl) vq_el_23_5 (.tmp rfl) rfl (by omega)) rfl rfl (Nat.le_of_ble_eq_true rfl) ?_
    refine ARun.pure (PureOp.fieldPtr rfl (.tmp rfl) vq_fi_89_2_2) rfl rfl (Nat.le_of_ble_eq_true rfl) ?_
    refine ARun.storeArr rfl (.tmp rfl) (.tmp rfl) trivial rfl (show k < x.length from by omega) (Nat.le_of_ble_eq_true rfl) vq_sz_3_1 rfl rfl ?_
    refine ARun.nil ?_
    refine AW.seq ?_
    refine AW.region ?_
    refine ARun.pure (PureOp.move rfl (.tmp rfl)) rfl rfl (Nat.le_of_ble_eq_true rfl) ?_
    refine ARun.pure (PureOp.add (c := ((a + ((x.take k).map crNode).sum + 1 + 1 + 1 : Nat) : Int)) rfl (.tmp rfl) .int (by rw [wrap_id (by omega) (by omega)]; omega)) rfl rfl (Nat.le_of_ble_eq_true rfl) ?_
    refine ARun.pure (PureOp.assign rfl (.tmp rfl)) rfl rfl (Nat.le_of_ble_eq_true rfl) ?_
    refine ARun.nil ?_
    refine AW.seq ?_
    refine AW.region ?_
    refine ARun.pure (PureOp.move rfl (.tmp rfl)) rfl rfl (Nat.le_of_ble_eq_true rfl) ?_
    refine ARun.pure (PureOp.move rfl (.tmp rfl)) rfl rfl (Nat.le_of_ble_eq_true rfl) ?_
    refine ARun.pure (PureOp.indexOwn (i := k) rfl (.tmp rfl) vq_el_23_5 (.tmp rfl) rfl (by omega)) rfl rfl (Nat.le_of_ble_eq_true rfl) ?_
    refine ARun.pure (PureOp.fieldPtr rfl (.tmp rfl) vq_fi_89_3_3) rfl rfl (Nat.le_of_ble_eq_true rfl) ?_
    refine ARun.pure (PureOp.loadPtrE (y := .tre 1000001 (k * 5 + 3)) rfl (.tmp rfl) vq_pl_22 rfl rfl (show k < x.length from by omega) (Nat.le_of_ble_eq_true rfl) (by simp only [AObj.f]; (repeat rw [if_neg (by omega)]); rfl)) rfl rfl (Nat.le_of_ble_eq_true rfl) ?_
    refine ARun.pure (PureOp.move rfl (.tmp rfl)) rfl rfl (Nat.le_of_ble_eq_true rfl) ?_
    refine ARun.mark (id := 1000001) (q0 := k * 5 + 3) (X' := fun q => if q = k * 5 + 3 then .lst 1 ((mkL c1 mkI ((x.getD k (default : GNode)).heard) (a + ((x.take k).map crNode).sum + 1 + 1 + 1)).length) (fun i0 _ => .int .i64 ((mkL c1 mkI ((x.getD k (default : GNode)).heard) (a + ((x.take k).map crNode).sum + 1 + 1 + 1)).getD i0 0)) else (famX 5 (fun i j => lonly (ceNode ((mixL crNode mrNode x a k).getD i (default : GNode)) j))) q) rfl (m_IntS ((x.getD k (default : GNode)).heard) (a + ((x.take k).map crNode).sum + 1 + 1 + 1) ⟨by omega, by omega⟩) vq_ca_19 trivial (.tmp rfl) rfl rfl rfl (cell_lt (sz := 5) (j := 3) hkl (by decide)) (fun p hp _ => match p, hp with | 0, _ => (by show (famX 5 (fun i j => lonly (ceNode ((mixL crNode mrNode x a k).getD i (default : GNode)) j))) (k * 5 + 3) = _; (try dsimp only); (repeat rw [if_neg (by omega)]); rw [famX_at (sz := 5) (j := 3) (by decide), mix_at (default : GNode) hkl]; rfl) | _ + 1, h => absurd h (by simp [SV.leaves])) rfl trivial (fun p hp _ => match p, hp with | 0, _ => if_pos rfl | _ + 1, h => absurd h (by simp [SV.leaves])) (fun q _ hne => if_neg (fun e => hne 0 (Nat.zero_lt_one) rfl e)) ⟨(.tmp rfl), trivial, trivial⟩ rfl rfl (Nat.le_of_ble_eq_true rfl) ?_
    refine ARun.pure (PureOp.assign rfl (.tmp rfl)) rfl rfl (Nat.le_of_ble_eq_true rfl) ?_
    refine ARun.nil ?_
    refine AW.seq ?_
    refine AW.region ?_
    refine ARun.pure (PureOp.move rfl (.tmp rfl)) rfl rfl (Nat.le_of_ble_eq_true rfl) ?_
    refine ARun.pure (PureOp.move rfl (.tmp rfl)) rfl rfl (Nat.le_of_ble_eq_true rfl) ?_
    refine ARun.pure (PureOp.move rfl (.tmp rfl)) rfl rfl (Nat.le_of_ble_eq_true rfl) ?_
    refine ARun.pure (PureOp.indexOwn (i := k) rfl (.tmp rfl) vq_el_23_5 (.tmp rfl) rfl (by omega)) rfl rfl (Nat.le_of_ble_eq_true rfl) ?_
    refine ARun.pure (PureOp.fieldPtr rfl (.tmp rfl) vq_fi_89_4_4) rfl rfl (Nat.le_of_ble_eq_true rfl) ?_
    refine ARun.storeArr rfl (.tmp rfl) (.tmp rfl) trivial rfl (show k < x.length from by omega) (Nat.le_of_ble_eq_true rfl) vq_sz_3_1 rfl rfl ?_
    refine ARun.nil ?_
    refine AW.region ?_
    refine ARun.pure (PureOp.move rfl (.tmp rfl)) rfl rfl (Nat.le_of_ble_eq_true rfl) ?_
    refine ARun.pure (PureOp.add (c := ((a + ((x.take k).map crNode).sum + 1 + 1 + 1 + ctL c1 ((x.getD k (default : GNode)).heard) + 1 : Nat) : Int)) rfl (.tmp rfl) .int (by rw [wrap_id (by omega) (by omega)]; omega)) rfl rfl (Nat.le_of_ble_eq_true rfl) ?_
    refine ARun.pure (PureOp.assign rfl (.tmp rfl)) rfl rfl (Nat.le_of_ble_eq_true rfl) ?_
    refine ARun.nil ?_
    refine AW.region ?_
    refine ARun.pure (PureOp.move rfl (.tmp rfl)) rfl rfl (Nat.le_of_ble_eq_true rfl) ?_
    refine ARun.pure (PureOp.add (c := ((k + 1 : Nat) : Int)) rfl (.tmp rfl) .int (by rw [wrap_id (by omega) (by omega)]; omega)) rfl rfl (Nat.le_of_ble_eq_true rfl) ?_
    refine ARun.pure (PureOp.assign rfl (.tmp rfl)) rfl rfl (Nat.le_of_ble_eq_true rfl) ?_
    refine ARun.nil ?_
    exact ⟨k + 1, by omega, by dsimp only; omega, ⟨⟨⟨_, rfl, rfl⟩, ⟨_, rfl, congrArg (fun z : Nat => SV.one (.int .i64 (z : Int))) (by omega)⟩, ⟨_, rfl, rfl⟩, trivial⟩, ⟨⟨_, rfl, rfl, Nat.le_refl _, fun i j hi (hj : j < 5) => by
      by_cases h : i = k
      · subst h; simp only [AObj.f, true_and, mix_new (default : GNode) hkl]; exact (match j, hj with | 0, _ => rfl | 1, _ => rfl | 2, _ => rfl | 3, _ => rfl | 4, _ => rfl | _ + 5, h => absurd h (by omega))
      · simp only [AObj.f, h, false_and, if_false, mix_old (default : GNode) hkl h]⟩, ⟨_, rfl, fun q hq => famX_ext (X := fun q => if q = k * 5 + 3 then .lst 1 ((mkL c1 mkI ((x.getD k (default : GNode)).heard) (a + ((x.take k).map crNode).sum + 1 + 1 + 1)).length) (fun i0 _ => .int .i64 ((mkL c1 mkI ((x.getD k (default : GNode)).heard) (a + ((x.take k).map crNode).sum + 1 + 1 + 1)).getD i0 0)) else (famX 5 (fun i j => lonly (ceNode ((mixL crNode mrNode x a k).getD i (default : GNode)) j))) q) (g := fun i j => lonly (ceNode ((mixL crNode mrNode x a (k + 1)).getD i (default : GNode)) j)) (by decide) (fun i j hi (hj : j < 5) => by
      (try dsimp only)
      by_cases h : i = k
      · subst h; rw [upd_at hj (show 3 < 5 by decide)]; simp only [famX_at hj, true_and, mix_new (default : GNode) hkl, mix_at (default : GNode) hkl]; exact (match j, hj with | 0, _ => rfl | 1, _ => rfl | 2, _ => rfl | 3, _ => rfl | 4, _ => rfl | _ + 5, h => absurd h (by omega))
      · rw [upd_at hj (show 3 < 5 by decide)]; simp only [famX_at hj, h, false_and, if_false, mix_old (default : GNode) hkl h]) q hq⟩, trivial⟩⟩⟩
  · have _u := True.intro
    replace hb1 := of_decide_eq_false hb1
    have hkl : ¬ k < x.length := by omega
    refine AW.exit ?_
    refine AW.seq ?_
    refine AW.region ?_
    refine ARun.pure (PureOp.move rfl (.tmp rfl)) rfl rfl (Nat.le_of_ble_eq_true rfl) ?_
    refine ARun.pure (PureOp.assign rfl (.tmp rfl)) rfl rfl (Nat.le_of_ble_eq_true rfl) ?_
    refine ARun.nil ?_
    refine AW.ret (show ResL _ _ [.tmp 4] _ ∧ HeapLe _ _ from ⟨resI rfl ?_, ⟨⟨_, rfl, rfl, Nat.le_refl _, fun i j _ _ => by rw [mix_all hkl]⟩, ⟨_, rfl, fun q _ => by rw [mix_all hkl]⟩, trivial⟩⟩)
    rw [show ctL crNode x = _ from (ct_end hkl).symm]

theorem m_NodeS (x : List GNode) (a : Nat) (ha : 0 < a ∧ a + ctL crNode x ≤ 900000000) : FnM Try.prog 67 (.one (.lst 5 x.length (fun i0 j0 => ([.int .i64 ((x.getD i0 (default : GNode)).term), .int .i64 ((x.getD i0 (default : GNode)).voted), .int .i64 ((x.getD i0 (default : GNode)).age), .lst 1 (((x.getD i0 (default : GNode)).heard).length) (fun i1 _ => .int .i64 (((x.getD i0 (default : GNode)).heard).getD i1 0)), .int .i64 ((x.getD i0 (default : GNode)).role)] : List AV).getD j0 (.con undef)))) [.one (.int .i64 (a : Int))] (.one (.int .i64 ((a + ctL crNode x : Nat) : Int))) (.one (.lst 5 ((mkL crNode mrNode x a).length) (fun i0 j0 => ([.int .i64 (((mkL crNode mrNode x a).getD i0 (default : GNode)).term), .int .i64 (((mkL crNode mrNode x a).getD i0 (default : GNode)).voted), .int .i64 (((mkL crNode mrNode x a).getD i0 (default : GNode)).age), .lst 1 ((((mkL crNode mrNode x a).getD i0 (default : GNode)).heard).length) (fun i1 _ => .int .i64 ((((mkL crNode mrNode x a).getD i0 (default : GNode)).heard).getD i1 0)), .int .i64 (((mkL crNode mrNode x a).getD i0 (default : GNode)).role)] : List AV).getD j0 (.con undef)))) := by
  have h := FnM.ofRow (r := .one (.int .i64 ((a + ctL crNode x : Nat) : Int))) (args := [.one (.int .i64 (a : Int))]) (g := fun i j => ceNode (x.getD i (default : GNode)) j) (g' := fun i j => ceNode ((mkL crNode mrNode x a).getD i (default : GNode)) j) trivial (fun s hs => by simp only [List.mem_singleton] at hs; subst hs; trivial) (by decide) (fun i j hi hj => ⟨rfl, famX_at hj⟩) (fun i j hi hj => ⟨rfl, fun h => (famX_at hj).trans (lonly_L h)⟩) (fun i j hi hj => match j, hj with | 0, _ => rfl | 1, _ => rfl | 2, _ => rfl | 3, _ => rfl | 4, _ => rfl | _ + 5, h => absurd h (by omega)) (g_markNodeS x a ha)
  have hl : (mkL crNode mrNode x a).length = x.length := mkL_len
  show FnM _ _ _ _ _ (.one (.lst 5 (mkL crNode mrNode x a).length (fun i j => ceNode ((mkL crNode mrNode x a).getD i (default : GNode)) j)))
  rw [hl]; exact h
theorem g_markLetterS (x : List GLetter) (a : Nat) (ha : 0 < a ∧ a + ctL crLetter x ≤ 900000000) : FnG Try.prog 68 [.one (.own 1000000 5 x.length), .one (.int .i64 (a : Int))] [(1000000, .arr 5 x.length (fun i j => nmA 1000001 (i * 5 + j) (ceLetter (x.getD i (default : GLetter)) j))), (1000001, .trees (x.length * 5) (fun _ => .int .i64 0))] (.one (.int .i64 ((a + ctL crLetter x : Nat) : Int))) [(1000000, .arr 5 x.length (fun i j => nmA 1000001 (i * 5 + j) (ceLetter ((mkL crLetter mrLetter x a).getD i (default : GLetter)) j))), (1000001, .trees (x.length * 5) (fun _ => .int .i64 0))] := by
  obtain ⟨ha0, ha1⟩ := ha
  refine FnG.of_body (fn := Try.f68) Try.func68 rfl (Nat.le_of_ble_eq_true rfl) ?_
  intro w0
  show AW _ 50 _ _ _ _
  refine AW.boundO (t := 0) rfl fun hx => ?_
  refine AW.seq ?_
  refine AW.region ?_
  refine ARun.pure (PureOp.assign rfl .int) rfl rfl (Nat.le_of_ble_eq_true rfl) ?_
  refine ARun.nil ?_
  refine AW.seq ?_
  refine AW.seq ?_
  refine AW.region ?_
  refine ARun.pure (PureOp.assign rfl .int) rfl rfl (Nat.le_of_ble_eq_true rfl) ?_
  refine ARun.nil ?_
  refine AW.block ?_
  refine AW.loop (ι := Nat) (fun k => ⟨[(0, .one (.own 1000000 5 x.length)), (1, .one (.int .i64 ((a + ((x.take k).map crLetter).sum : Nat) : Int))), (5, .one (.int .i64 (k : Int)))], [(1000000, .arr 5 x.length (fun i j => nmA 1000001 (i * 5 + j) (ceLetter ((mixL crLetter mrLetter x a k).getD i (default : GLetter)) j))), (1000001, .trees (x.length * 5) (fun _ => .int .i64 0))]⟩) (fun k => k ≤ x.length) (fun k => x.length - k) 0 (Nat.zero_le _) ⟨⟨⟨_, rfl, rfl⟩, ⟨_, rfl, by simp⟩, ⟨_, rfl, rfl⟩, trivial⟩, ⟨⟨_, rfl, rfl, Nat.le_refl _, fun i j _ _ => by rw [mix_zero]⟩, ⟨_, rfl, fun _ _ => rfl⟩, trivial⟩⟩ ?_
  intro k hk
  refine AW.seq ?_
  refine AW.seq ?_
  refine AW.region ?_
  refine ARun.pure (PureOp.move rfl (.tmp rfl)) rfl rfl (Nat.le_of_ble_eq_true rfl) ?_
  refine ARun.pure (PureOp.move rfl (.tmp rfl)) rfl rfl (Nat.le_of_ble_eq_true rfl) ?_
  refine ARun.pure (PureOp.lenOwn rfl (.tmp rfl) vq_sl_24) rfl rfl (Nat.le_of_ble_eq_true rfl) ?_
  refine ARun.pure (PureOp.intOp rfl (.tmp rfl) (.tmp rfl) rfl) rfl rfl (Nat.le_of_ble_eq_true rfl) ?_
  refine ARun.nil ?_
  refine AW.cond (.tmp rfl) (fun hb1 => ?_) (fun hb1 => ?_)
  · have _u := True.intro
    replace hb1 := of_decide_eq_true hb1
    have hkl : k < x.length := by omega
    obtain ⟨hst, hsm⟩ := ct_step (ct := crLetter) (default : GLetter) hkl
    have hce : crLetter (x.getD k (default : GLetter)) = 0 + 1 + 1 + 1 + 1 + 1 := rfl
    refine AW.skip ?_
    refine AW.seq ?_
    refine AW.block ?_
    refine AW.seq ?_
    refine AW.region ?_
    refine ARun.pure (PureOp.move rfl (.tmp rfl)) rfl rfl (Nat.le_of_ble_eq_true rfl) ?_
    refine ARun.pure (PureOp.move rfl (.tmp rfl)) rfl rfl (Nat.le_of_ble_eq_true rfl) ?_
    refine ARun.pure (PureOp.move rfl (.tmp rfl)) rfl rfl (Nat.le_of_ble_eq_true rfl) ?_
    refine ARun.pure (PureOp.indexOwn (i := k) rfl (.tmp rfl) vq_el_24_5 (.tmp rfl) rfl (by omega)) rfl rfl (Nat.le_of_ble_eq_true rfl) ?_
    refine ARun.pure (PureOp.fieldPtr rfl (.tmp rfl) vq_fi_102_0_0) rfl rfl (Nat.le_of_ble_eq_true rfl) ?_
    refine ARun.storeArr rfl (.tmp rfl) (.tmp rfl) trivial rfl (show k < x.length from by omega) (Nat.le_of_ble_eq_true rfl) vq_sz_3_1 rfl rfl ?_
    refine ARun.nil ?_
    refine AW.seq ?_
    refine AW.region ?_
    refine ARun.pure (PureOp.move rfl (.tmp rfl)) rfl rfl (Nat.le_of_ble_eq_true rfl) ?_
    refine ARun.pure (PureOp.add (c := ((a + ((x.take k).map crLetter).sum + 1 : Nat) : Int)) rfl (.tmp rfl) .int (by rw [wrap_id (by omega) (by omega)]; omega)) rfl rfl (Nat.le_of_ble_eq_true rfl) ?_
    refine ARun.pure (PureOp.assign rfl (.tmp rfl)) rfl rfl (Nat.le_of_ble_eq_true rfl) ?_
    refine ARun.nil ?_
    refine AW.seq ?_
    refine AW.region ?_
    refine ARun.pure (PureOp.move rfl (.tmp rfl)) rfl rfl (Nat.le_of_ble_eq_true rfl) ?_
    refine ARun.pure (PureOp.move rfl (.tmp rfl)) rfl rfl (Nat.le_of_ble_eq_true rfl) ?_
    refine ARun.pure (PureOp.move rfl (.tmp rfl)) rfl rfl (Nat.le_of_ble_eq_true rfl) ?_
    refine ARun.pure (PureOp.indexOwn (i := k) rfl (.tmp rfl) vq_el_24_5 (.tmp rfl) rfl (by omega)) rfl rfl (Nat.le_of_ble_eq_true rfl) ?_
    refine ARun.pure (PureOp.fieldPtr rfl (.tmp rfl) vq_fi_102_1_1) rfl rfl (Nat.le_of_ble_eq_true rfl) ?_
    refine ARun.storeArr rfl (.tmp rfl) (.tmp rfl) trivial rfl (show k < x.length from by omega) (Nat.le_of_ble_eq_true rfl) vq_sz_3_1 rfl rfl ?_
    refine ARun.nil ?_
    refine AW.seq ?_
    refine AW.region ?_
    refine ARun.pure (PureOp.move rfl (.tmp rfl)) rfl rfl (Nat.le_of_ble_eq_true rfl) ?_
    refine ARun.pure (PureOp.add (c := ((a + ((x.take k).map crLetter).sum + 1 + 1 : Nat) : Int)) rfl (.tmp rfl) .int (by rw [wrap_id (by omega) (by omega)]; omega)) rfl rfl (Nat.le_of_ble_eq_true rfl) ?_
    refine ARun.pure (PureOp.assign rfl (.tmp rfl)) rfl rfl (Nat.le_of_ble_eq_true rfl) ?_
    refine ARun.nil ?_
    refine AW.seq ?_
    refine AW.region ?_
    refine ARun.pure (PureOp.move rfl (.tmp rfl)) rfl rfl (Nat.le_of_ble_eq_true rfl) ?_
    refine ARun.pure (PureOp.move rfl (.tmp rfl)) rfl rfl (Nat.le_of_ble_eq_true rfl) ?_
    refine ARun.pure (PureOp.move rfl (.tmp rfl)) rfl rfl (Nat.le_of_ble_eq_true rfl) ?_
    refine ARun.pure (PureOp.indexOwn (i := k) rfl (.tmp rfl) vq_el_24_5 (.tmp rfl) rfl (by omega)) rfl rfl (Nat.le_of_ble_eq_true rfl) ?_
    refine ARun.pure (PureOp.fieldPtr rfl (.tmp rfl) vq_fi_102_2_2) rfl rfl (Nat.le_of_ble_eq_true rfl) ?_
    refine ARun.storeArr rfl (.tmp rfl) (.tmp rfl) trivial rfl (show k < x.length from by omega) (Nat.le_of_ble_eq_true rfl) vq_sz_3_1 rfl rfl ?_
    refine ARun.nil ?_
    refine AW.seq ?_
    refine AW.region ?_
    refine ARun.pure (PureOp.move rfl (.tmp rfl)) rfl rfl (Nat.le_of_ble_eq_true rfl) ?_
    refine ARun.pure (PureOp.add (c := ((a + ((x.take k).map crLetter).sum + 1 + 1 + 1 : Nat) : Int)) rfl (.tmp rfl) .int (by rw [wrap_id (by omega) (by omega)]; omega)) rfl rfl (Nat.le_of_ble_eq_true rfl) ?_
    refine ARun.pure (PureOp.assign rfl (.tmp rfl)) rfl rfl (Nat.le_of_ble_eq_true rfl) ?_
    refine ARun.nil ?_
    refine AW.seq ?_
    refine AW.region ?_
    refine ARun.pure (PureOp.move rfl (.tmp rfl)) rfl rfl (Nat.le_of_ble_eq_true rfl) ?_
    refine ARun.pure (PureOp.move rfl (.tmp rfl)) rfl rfl (Nat.le_of_ble_eq_true rfl) ?_
    refine ARun.pure (PureOp.move rfl (.tmp rfl)) rfl rfl (Nat.le_of_ble_eq_true rfl) ?_
    refine ARun.pure (PureOp.rem (a := a + ((x.take k).map crLetter).sum + 1 + 1 + 1) (b := 3) rfl (.tmp rfl) .int rfl (by decide) (by omega)) rfl rfl (Nat.le_of_ble_eq_true rfl) ?_
    refine ARun.pure (PureOp.intOp rfl (.tmp rfl) .int rfl) rfl rfl (Nat.le_of_ble_eq_true rfl) ?_
    refine ARun.pure (PureOp.indexOwn (i := k) rfl (.tmp rfl) vq_el_24_5 (.tmp rfl) rfl (by omega)) rfl rfl (Nat.le_of_ble_eq_true rfl) ?_
    refine ARun.pure (PureOp.fieldPtr rfl (.tmp rfl) vq_fi_102_3_3) rfl rfl (Nat.le_of_ble_eq_true rfl) ?_
    refine ARun.storeArr rfl (.tmp rfl) (.tmp rfl) trivial rfl (show k < x.length from by omega) (Nat.le_of_ble_eq_true rfl) vq_sz_4_1 rfl rfl ?_
    refine ARun.nil ?_
    refine AW.seq ?_
    refine AW.region ?_
    refine ARun.pure (PureOp.move rfl (.tmp rfl)) rfl rfl (Nat.le_of_ble_eq_true rfl) ?_
    refine ARun.pure (PureOp.add (c := ((a + ((x.take k).map crLetter).sum + 1 + 1 + 1 + 1 : Nat) : Int)) rfl (.tmp rfl) .int (by rw [wrap_id (by omega) (by omega)]; omega)) rfl rfl (Nat.le_of_ble_eq_true rfl) ?_
    refine ARun.pure (PureOp.assign rfl (.tmp rfl)) rfl rfl (Nat.le_of_ble_eq_true rfl) ?_
    refine ARun.nil ?_
    refine AW.seq ?_
    refine AW.region ?_
    refine ARun.pure (PureOp.move rfl (.tmp rfl)) rfl rfl (Nat.le_of_ble_eq_true rfl) ?_
    refine ARun.pure (PureOp.move rfl (.tmp rfl)) rfl rfl (Nat.le_of_ble_eq_true rfl) ?_
    refine ARun.pure (PureOp.move rfl (.tmp rfl)) rfl rfl (Nat.le_of_ble_eq_true rfl) ?_
    refine ARun.pure (PureOp.indexOwn (i := k) rfl (.tmp rfl) vq_el_24_5 (.tmp rfl) rfl (by omega)) rfl rfl (Nat.le_of_ble_eq_true rfl) ?_
    refine ARun.pure (PureOp.fieldPtr rfl (.tmp rfl) vq_fi_102_4_4) rfl rfl (Nat.le_of_ble_eq_true rfl) ?_
    refine ARun.storeArr rfl (.tmp rfl) (.tmp rfl) trivial rfl (show k < x.length from by omega) (Nat.le_of_ble_eq_true rfl) vq_sz_3_1 rfl rfl ?_
    refine ARun.nil ?_
    refine AW.region ?_
    refine ARun.pure (PureOp.move rfl (.tmp rfl)) rfl rfl (Nat.le_of_ble_eq_true rfl) ?_
    refine ARun.pure (PureOp.add (c := ((a + ((x.take k).map crLetter).sum + 1 + 1 + 1 + 1 + 1 : Nat) : Int)) rfl (.tmp rfl) .int (by rw [wrap_id (by omega) (by omega)]; omega)) rfl rfl (Nat.le_of_ble_eq_true rfl) ?_
    refine ARun.pure (PureOp.assign rfl (.tmp rfl)) rfl rfl (Nat.le_of_ble_eq_true rfl) ?_
    refine ARun.nil ?_
    refine AW.region ?_
    refine ARun.pure (PureOp.move rfl (.tmp rfl)) rfl rfl (Nat.le_of_ble_eq_true rfl) ?_
    refine ARun.pure (PureOp.add (c := ((k + 1 : Nat) : Int)) rfl (.tmp rfl) .int (by rw [wrap_id (by omega) (by omega)]; omega)) rfl rfl (Nat.le_of_ble_eq_true rfl) ?_
    refine ARun.pure (PureOp.assign rfl (.tmp rfl)) rfl rfl (Nat.le_of_ble_eq_true rfl) ?_
    refine ARun.nil ?_
    exact ⟨k + 1, by omega, by dsimp only; omega, ⟨⟨⟨_, rfl, rfl⟩, ⟨_, rfl, congrArg (fun z : Nat => SV.one (.int .i64 (z : Int))) (by omega)⟩, ⟨_, rfl, rfl⟩, trivial⟩, ⟨⟨_, rfl, rfl, Nat.le_refl _, fun i j hi (hj : j < 5) => by
      by_cases h : i = k
      · subst h; simp only [AObj.f, true_and, mix_new (default : GLetter) hkl]; exact (match j, hj with | 0, _ => rfl | 1, _ => rfl | 2, _ => rfl | 3, _ => rfl | 4, _ => rfl | _ + 5, h => absurd h (by omega))
      · simp only [AObj.f, h, false_and, if_false, mix_old (default : GLetter) hkl h]⟩, ⟨_, rfl, fun _ _ => rfl⟩, trivial⟩⟩⟩
  · have _u := True.intro
    replace hb1 := of_decide_eq_false hb1
    have hkl : ¬ k < x.length := by omega
    refine AW.exit ?_
    refine AW.seq ?_
    refine AW.region ?_
    refine ARun.pure (PureOp.move rfl (.tmp rfl)) rfl rfl (Nat.le_of_ble_eq_true rfl) ?_
    refine ARun.pure (PureOp.assign rfl (.tmp rfl)) rfl rfl (Nat.le_of_ble_eq_true rfl) ?_
    refine ARun.nil ?_
    refine AW.ret (show ResL _ _ [.tmp 4] _ ∧ HeapLe _ _ from ⟨resI rfl ?_, ⟨⟨_, rfl, rfl, Nat.le_refl _, fun i j _ _ => by rw [mix_all hkl]⟩, ⟨_, rfl, fun _ _ => rfl⟩, trivial⟩⟩)
    rw [show ctL crLetter x = _ from (ct_end hkl).symm]

theorem m_LetterS (x : List GLetter) (a : Nat) (ha : 0 < a ∧ a + ctL crLetter x ≤ 900000000) : FnM Try.prog 68 (.one (.lst 5 x.length (fun i0 j0 => ([.int .i64 ((x.getD i0 (default : GLetter)).from_), .int .i64 ((x.getD i0 (default : GLetter)).to), .int .i64 ((x.getD i0 (default : GLetter)).term), .bool ((x.getD i0 (default : GLetter)).ask), .int .i64 ((x.getD i0 (default : GLetter)).age)] : List AV).getD j0 (.con undef)))) [.one (.int .i64 (a : Int))] (.one (.int .i64 ((a + ctL crLetter x : Nat) : Int))) (.one (.lst 5 ((mkL crLetter mrLetter x a).length) (fun i0 j0 => ([.int .i64 (((mkL crLetter mrLetter x a).getD i0 (default : GLetter)).from_), .int .i64 (((mkL crLetter mrLetter x a).getD i0 (default : GLetter)).to), .int .i64 (((mkL crLetter mrLetter x a).getD i0 (default : GLetter)).term), .bool (((mkL crLetter mrLetter x a).getD i0 (default : GLetter)).ask), .int .i64 (((mkL crLetter mrLetter x a).getD i0 (default : GLetter)).age)] : List AV).getD j0 (.con undef)))) := by
  have h := FnM.ofRow (r := .one (.int .i64 ((a + ctL crLetter x : Nat) : Int))) (args := [.one (.int .i64 (a : Int))]) (g := fun i j => ceLetter (x.getD i (default : GLetter)) j) (g' := fun i j => ceLetter ((mkL crLetter mrLetter x a).getD i (default : GLetter)) j) trivial (fun s hs => by simp only [List.mem_singleton] at hs; subst hs; trivial) (by decide) (fun i j hi hj => ⟨rfl, match j, hj with | 0, _ => rfl | 1, _ => rfl | 2, _ => rfl | 3, _ => rfl | 4, _ => rfl | _ + 5, h => absurd h (by omega)⟩) (fun i j hi hj => ⟨rfl, match j, hj with | 0, _ => fun h => by cases h | 1, _ => fun h => by cases h | 2, _ => fun h => by cases h | 3, _ => fun h => by cases h | 4, _ => fun h => by cases h | _ + 5, h => absurd h (by omega)⟩) (fun i j hi hj => match j, hj with | 0, _ => rfl | 1, _ => rfl | 2, _ => rfl | 3, _ => rfl | 4, _ => rfl | _ + 5, h => absurd h (by omega)) (g_markLetterS x a ha)
  have hl : (mkL crLetter mrLetter x a).length = x.length := mkL_len
  show FnM _ _ _ _ _ (.one (.lst 5 (mkL crLetter mrLetter x a).length (fun i j => ceLetter ((mkL crLetter mrLetter x a).getD i (default : GLetter)) j)))
  rw [hl]; exact h
theorem g_markIntSS (x : List (List Int)) (a : Nat) (ha : 0 < a ∧ a + ctL (ctL c1) x ≤ 900000000) : FnG Try.prog 69 [.one (.own 1000000 1 x.length), .one (.int .i64 (a : Int))] [(1000000, .arr 1 x.length (fun i j => nmA 1000001 (i * 1 + j) (ceIntS (x.getD i ([] : List Int)) j))), (1000001, .trees (x.length * 1) (famX 1 (fun i j => lonly (ceIntS (x.getD i ([] : List Int)) j))))] (.one (.int .i64 ((a + ctL (ctL c1) x : Nat) : Int))) [(1000000, .arr 1 x.length (fun i j => nmA 1000001 (i * 1 + j) (ceIntS ((mkL (ctL c1) (mkL c1 mkI) x a).getD i ([] : List Int)) j))), (1000001, .trees (x.length * 1) (famX 1 (fun i j => lonly (ceIntS ((mkL (ctL c1) (mkL c1 mkI) x a).getD i ([] : List Int)) j))))] := by
  obtain ⟨ha0, ha1⟩ := ha
  refine FnG.of_body (fn := Try.f69) Try.func69 rfl (Nat.le_of_ble_eq_true rfl) ?_
  intro w0
  show AW _ 19 _ _ _ _
  refine AW.boundO (t := 0) rfl fun hx => ?_
  refine AW.seq ?_
  refine AW.region ?_
  refine ARun.pure (PureOp.assign rfl .int) rfl rfl (Nat.le_of_ble_eq_true rfl) ?_
  refine ARun.nil ?_
  refine AW.seq ?_
  refine AW.seq ?_
  refine AW.region ?_
  refine ARun.pure (PureOp.assign rfl .int) rfl rfl (Nat.le_of_ble_eq_true rfl) ?_
  refine ARun.nil ?_
  refine AW.block ?_
  refine AW.loop (ι := Nat) (fun k => ⟨[(0, .one (.own 1000000 1 x.length)), (1, .one (.int .i64 ((a + ((x.take k).map (ctL c1)).sum : Nat) : Int))), (5, .one (.int .i64 (k : Int)))], [(1000000, .arr 1 x.length (fun i j => nmA 1000001 (i * 1 + j) (ceIntS ((mixL (ctL c1) (mkL c1 mkI) x a k).getD i ([] : List Int)) j))), (1000001, .trees (x.length * 1) (famX 1 (fun i j => lonly (ceIntS ((mixL (ctL c1) (mkL c1 mkI) x a k).getD i ([] : List Int)) j))))]⟩) (fun k => k ≤ x.length) (fun k => x.length - k) 0 (Nat.zero_le _) ⟨⟨⟨_, rfl, rfl⟩, ⟨_, rfl, by simp⟩, ⟨_, rfl, rfl⟩, trivial⟩, ⟨⟨_, rfl, rfl, Nat.le_refl _, fun i j _ _ => by rw [mix_zero]⟩, ⟨_, rfl, fun q _ => by rw [mix_zero]⟩, trivial⟩⟩ ?_
  intro k hk
  refine AW.seq ?_
  refine AW.seq ?_
  refine AW.region ?_
  refine ARun.pure (PureOp.move rfl (.tmp rfl)) rfl rfl (Nat.le_of_ble_eq_true rfl) ?_
  refine ARun.pure (PureOp.move rfl (.tmp rfl)) rfl rfl (Nat.le_of_ble_eq_true rfl) ?_
  refine ARun.pure (PureOp.lenOwn rfl (.tmp rfl) vq_sl_25) rfl rfl (Nat.le_of_ble_eq_true rfl) ?_
  refine ARun.pure (PureOp.intOp rfl (.tmp rfl) (.tmp rfl) rfl) rfl rfl (Nat.le_of_ble_eq_true rfl) ?_
  refine ARun.nil ?_
  refine AW.cond (.tmp rfl) (fun hb1 => ?_) (fun hb1 => ?_)
  · have _u := True.intro
    replace hb1 := of_decide_eq_true hb1
    have hkl : k < x.length := by omega
    obtain ⟨hst, hsm⟩ := ct_step (ct := (ctL c1)) ([] : List Int) hkl
    refine AW.skip ?_
    refine AW.seq ?_
    refine AW.block ?_
    refine AW.region ?_
    refine ARun.pure (PureOp.move rfl (.tmp rfl)) rfl rfl (Nat.le_of_ble_eq_true rfl) ?_
    refine ARun.pure (PureOp.move rfl (.tmp rfl)) rfl rfl (Nat.le_of_ble_eq_true rfl) ?_
    refine ARun.pure (PureOp.indexOwn (i := k) rfl (.tmp rfl) vq_el_25_1 (.tmp rfl) rfl (by omega)) rfl rfl (Nat.le_of_ble_eq_true rfl) ?_
    refine ARun.pure (PureOp.loadPtr rfl (.tmp rfl) vq_pl_22 rfl rfl (show k < x.length from by omega) (Nat.le_of_ble_eq_true rfl)) rfl rfl (Nat.le_of_ble_eq_true rfl) ?_
    refine ARun.pure (PureOp.move rfl (.tmp rfl)) rfl rfl (Nat.le_of_ble_eq_true rfl) ?_
    refine ARun.mark (id := 1000001) (q0 := k * 1 + 0) (X' := fun q => if q = k * 1 + 0 then .lst 1 ((mkL c1 mkI (x.getD k []) (a + ((x.take k).map (ctL c1)).sum)).length) (fun i0 _ => .int .i64 ((mkL c1 mkI (x.getD k []) (a + ((x.take k).map (ctL c1)).sum)).getD i0 0)) else (famX 1 (fun i j => lonly (ceIntS ((mixL (ctL c1) (mkL c1 mkI) x a k).getD i ([] : List Int)) j))) q) rfl (m_IntS (x.getD k []) (a + ((x.take k).map (ctL c1)).sum) ⟨by omega, by omega⟩) vq_ca_19 trivial (.tmp rfl) rfl rfl rfl (cell_lt (sz := 1) (j := 0) hkl (by decide)) (fun p hp _ => match p, hp with | 0, _ => (by show (famX 1 (fun i j => lonly (ceIntS ((mixL (ctL c1) (mkL c1 mkI) x a k).getD i ([] : List Int)) j))) (k * 1 + 0) = _; (try dsimp only); (repeat rw [if_neg (by omega)]); rw [famX_at (sz := 1) (j := 0) (by decide), mix_at ([] : List Int) hkl]; rfl) | _ + 1, h => absurd h (by simp [SV.leaves])) rfl trivial (fun p hp _ => match p, hp with | 0, _ => if_pos rfl | _ + 1, h => absurd h (by simp [SV.leaves])) (fun q _ hne => if_neg (fun e => hne 0 (Nat.zero_lt_one) rfl e)) ⟨(.tmp rfl), trivial, trivial⟩ rfl rfl (Nat.le_of_ble_eq_true rfl) ?_
    refine ARun.pure (PureOp.assign rfl (.tmp rfl)) rfl rfl (Nat.le_of_ble_eq_true rfl) ?_
    refine ARun.nil ?_
    refine AW.region ?_
    refine ARun.pure (PureOp.move rfl (.tmp rfl)) rfl rfl (Nat.le_of_ble_eq_true rfl) ?_
    refine ARun.pure (PureOp.add (c := ((k + 1 : Nat) : Int)) rfl (.tmp rfl) .int (by rw [wrap_id (by omega) (by omega)]; omega)) rfl rfl (Nat.le_of_ble_eq_true rfl) ?_
    refine ARun.pure (PureOp.assign rfl (.tmp rfl)) rfl rfl (Nat.le_of_ble_eq_true rfl) ?_
    refine ARun.nil ?_
    exact ⟨k + 1, by omega, by dsimp only; omega, ⟨⟨⟨_, rfl, rfl⟩, ⟨_, rfl, congrArg (fun z : Nat => SV.one (.int .i64 (z : Int))) (by omega)⟩, ⟨_, rfl, rfl⟩, trivial⟩, ⟨⟨_, rfl, rfl, Nat.le_refl _, fun i j hi (hj : j < 1) => by
      by_cases h : i = k
      · subst h; simp only [AObj.f, true_and, mix_new ([] : List Int) hkl]; exact (match j, hj with | 0, _ => rfl | _ + 1, h => absurd h (by omega))
      · simp only [AObj.f, h, false_and, if_false, mix_old ([] : List Int) hkl h]⟩, ⟨_, rfl, fun q hq => famX_ext (X := fun q => if q = k * 1 + 0 then .lst 1 ((mkL c1 mkI (x.getD k []) (a + ((x.take k).map (ctL c1)).sum)).length) (fun i0 _ => .int .i64 ((mkL c1 mkI (x.getD k []) (a + ((x.take k).map (ctL c1)).sum)).getD i0 0)) else (famX 1 (fun i j => lonly (ceIntS ((mixL (ctL c1) (mkL c1 mkI) x a k).getD i ([] : List Int)) j))) q) (g := fun i j => lonly (ceIntS ((mixL (ctL c1) (mkL c1 mkI) x a (k + 1)).getD i ([] : List Int)) j)) (by decide) (fun i j hi (hj : j < 1) => by
      (try dsimp only)
      by_cases h : i = k
      · subst h; rw [upd_at hj (show 0 < 1 by decide)]; simp only [famX_at hj, true_and, mix_new ([] : List Int) hkl, mix_at ([] : List Int) hkl]; exact (match j, hj with | 0, _ => rfl | _ + 1, h => absurd h (by omega))
      · rw [upd_at hj (show 0 < 1 by decide)]; simp only [famX_at hj, h, false_and, if_false, mix_old ([] : List Int) hkl h]) q hq⟩, trivial⟩⟩⟩
  · have _u := True.intro
    replace hb1 := of_decide_eq_false hb1
    have hkl : ¬ k < x.length := by omega
    refine AW.exit ?_
    refine AW.seq ?_
    refine AW.region ?_
    refine ARun.pure (PureOp.move rfl (.tmp rfl)) rfl rfl (Nat.le_of_ble_eq_true rfl) ?_
    refine ARun.pure (PureOp.assign rfl (.tmp rfl)) rfl rfl (Nat.le_of_ble_eq_true rfl) ?_
    refine ARun.nil ?_
    refine AW.ret (show ResL _ _ [.tmp 4] _ ∧ HeapLe _ _ from ⟨resI rfl ?_, ⟨⟨_, rfl, rfl, Nat.le_refl _, fun i j _ _ => by rw [mix_all hkl]⟩, ⟨_, rfl, fun q _ => by rw [mix_all hkl]⟩, trivial⟩⟩)
    rw [show ctL (ctL c1) x = _ from (ct_end hkl).symm]

theorem m_IntSS (x : List (List Int)) (a : Nat) (ha : 0 < a ∧ a + ctL (ctL c1) x ≤ 900000000) : FnM Try.prog 69 (.one (.lst 1 x.length (fun i0 _ => .lst 1 ((x.getD i0 []).length) (fun i1 _ => .int .i64 ((x.getD i0 []).getD i1 0))))) [.one (.int .i64 (a : Int))] (.one (.int .i64 ((a + ctL (ctL c1) x : Nat) : Int))) (.one (.lst 1 ((mkL (ctL c1) (mkL c1 mkI) x a).length) (fun i0 _ => .lst 1 (((mkL (ctL c1) (mkL c1 mkI) x a).getD i0 []).length) (fun i1 _ => .int .i64 (((mkL (ctL c1) (mkL c1 mkI) x a).getD i0 []).getD i1 0))))) := by
  have h := FnM.ofRow (r := .one (.int .i64 ((a + ctL (ctL c1) x : Nat) : Int))) (args := [.one (.int .i64 (a : Int))]) (g := fun i j => ceIntS (x.getD i ([] : List Int)) j) (g' := fun i j => ceIntS ((mkL (ctL c1) (mkL c1 mkI) x a).getD i ([] : List Int)) j) trivial (fun s hs => by simp only [List.mem_singleton] at hs; subst hs; trivial) (by decide) (fun i j hi hj => ⟨rfl, famX_at hj⟩) (fun i j hi hj => ⟨rfl, fun h => (famX_at hj).trans (lonly_L h)⟩) (fun i j hi hj => match j, hj with | 0, _ => rfl | _ + 1, h => absurd h (by omega)) (g_markIntSS x a ha)
  have hl : (mkL (ctL c1) (mkL c1 mkI) x a).length = x.length := mkL_len
  show FnM _ _ _ _ _ (.one (.lst 1 (mkL (ctL c1) (mkL c1 mkI) x a).length (fun i j => ceIntS ((mkL (ctL c1) (mkL c1 mkI) x a).getD i ([] : List Int)) j)))
  rw [hl]; exact h
theorem g_markPoll (x : GPoll) (a : Nat) (ha : 0 < a ∧ a + cvPoll x ≤ 900000000) : FnG Try.prog 20 [.agg [.tre 1000000 0, .tre 1000000 1, .tre 1000000 2], .one (.int .i64 (a : Int))] [(1000000, .trees 3 (fun p => ([.lst 5 x.nodes.length (fun i0 j0 => ([.int .i64 ((x.nodes.getD i0 (default : GNode)).term), .int .i64 ((x.nodes.getD i0 (default : GNode)).voted), .int .i64 ((x.nodes.getD i0 (default : GNode)).age), .lst 1 (((x.nodes.getD i0 (default : GNode)).heard).length) (fun i1 _ => .int .i64 (((x.nodes.getD i0 (default : GNode)).heard).getD i1 0)), .int .i64 ((x.nodes.getD i0 (default : GNode)).role)] : List AV).getD j0 (.con undef)), .lst 5 x.letters.length (fun i0 j0 => ([.int .i64 ((x.letters.getD i0 (default : GLetter)).from_), .int .i64 ((x.letters.getD i0 (default : GLetter)).to), .int .i64 ((x.letters.getD i0 (default : GLetter)).term), .bool ((x.letters.getD i0 (default : GLetter)).ask), .int .i64 ((x.letters.getD i0 (default : GLetter)).age)] : List AV).getD j0 (.con undef)), .lst 1 x.leaders.length (fun i0 _ => .lst 1 ((x.leaders.getD i0 []).length) (fun i1 _ => .int .i64 ((x.leaders.getD i0 []).getD i1 0)))] : List AV).getD p (.con undef)))] (.one (.int .i64 ((a + cvPoll x : Nat) : Int))) [(1000000, .trees 3 (fun p => ([.lst 5 (((mvPoll x a).nodes).length) (fun i0 j0 => ([.int .i64 ((((mvPoll x a).nodes).getD i0 (default : GNode)).term), .int .i64 ((((mvPoll x a).nodes).getD i0 (default : GNode)).voted), .int .i64 ((((mvPoll x a).nodes).getD i0 (default : GNode)).age), .lst 1 (((((mvPoll x a).nodes).getD i0 (default : GNode)).heard).length) (fun i1 _ => .int .i64 (((((mvPoll x a).nodes).getD i0 (default : GNode)).heard).getD i1 0)), .int .i64 ((((mvPoll x a).nodes).getD i0 (default : GNode)).role)] : List AV).getD j0 (.con undef)), .lst 5 (((mvPoll x a).letters).length) (fun i0 j0 => ([.int .i64 ((((mvPoll x a).letters).getD i0 (default : GLetter)).from_), .int .i64 ((((mvPoll x a).letters).getD i0 (default : GLetter)).to), .int .i64 ((((mvPoll x a).letters).getD i0 (default : GLetter)).term), .bool ((((mvPoll x a).letters).getD i0 (default : GLetter)).ask), .int .i64 ((((mvPoll x a).letters).getD i0 (default : GLetter)).age)] : List AV).getD j0 (.con undef)), .lst 1 (((mvPoll x a).leaders).length) (fun i0 _ => .lst 1 ((((mvPoll x a).leaders).getD i0 []).length) (fun i1 _ => .int .i64 ((((mvPoll x a).leaders).getD i0 []).getD i1 0)))] : List AV).getD p (.con undef)))] := by
  obtain ⟨ha0, ha1⟩ := ha
  have hcv : cvPoll x = 0 + ctL crNode (x.nodes) + ctL crLetter (x.letters) + ctL (ctL c1) (x.leaders) := rfl
  refine FnG.of_body (fn := Try.f20) Try.func20 rfl (Nat.le_of_ble_eq_true rfl) ?_
  intro w0
  show AW _ 18 _ _ _ _
  refine AW.seq ?_
  refine AW.region ?_
  refine ARun.box (id := 0) rfl (.tmp rfl) (SV.cells_of (by exact ⟨trivial, trivial, trivial, trivial⟩)) ⟨rfl, (by repeat first | exact trivial | refine ⟨by decide, by first | rfl | exact trivial | (intro i j; first | rfl | exact getD_no rfl | (dsimp only; split <;> first | rfl | exact getD_no rfl)), ?_⟩)⟩ rfl rfl rfl (Nat.le_of_ble_eq_true rfl) ?_
  refine ARun.pure (PureOp.assign rfl .int) rfl rfl (Nat.le_of_ble_eq_true rfl) ?_
  refine ARun.nil ?_
  refine AW.seq ?_
  refine AW.region ?_
  refine ARun.pure (PureOp.fieldPtr rfl (.tmp rfl) vq_fi_27_0_0) rfl rfl (Nat.le_of_ble_eq_true rfl) ?_
  refine ARun.pure (PureOp.loadPtr rfl (.tmp rfl) vq_pl_23 rfl rfl (Nat.le_of_ble_eq_true rfl) (Nat.le_of_ble_eq_true rfl)) rfl rfl (Nat.le_of_ble_eq_true rfl) ?_
  refine ARun.pure (PureOp.move rfl (.tmp rfl)) rfl rfl (Nat.le_of_ble_eq_true rfl) ?_
  refine ARun.mark (id := 1000000) (q0 := 0) (X' := fun q => if q = 0 then .lst 5 ((mkL crNode mrNode x.nodes a).length) (fun i0 j0 => ([.int .i64 (((mkL crNode mrNode x.nodes a).getD i0 (default : GNode)).term), .int .i64 (((mkL crNode mrNode x.nodes a).getD i0 (default : GNode)).voted), .int .i64 (((mkL crNode mrNode x.nodes a).getD i0 (default : GNode)).age), .lst 1 ((((mkL crNode mrNode x.nodes a).getD i0 (default : GNode)).heard).length) (fun i1 _ => .int .i64 ((((mkL crNode mrNode x.nodes a).getD i0 (default : GNode)).heard).getD i1 0)), .int .i64 (((mkL crNode mrNode x.nodes a).getD i0 (default : GNode)).role)] : List AV).getD j0 (.con undef)) else (fun p => ([.lst 5 x.nodes.length (fun i0 j0 => ([.int .i64 ((x.nodes.getD i0 (default : GNode)).term), .int .i64 ((x.nodes.getD i0 (default : GNode)).voted), .int .i64 ((x.nodes.getD i0 (default : GNode)).age), .lst 1 (((x.nodes.getD i0 (default : GNode)).heard).length) (fun i1 _ => .int .i64 (((x.nodes.getD i0 (default : GNode)).heard).getD i1 0)), .int .i64 ((x.nodes.getD i0 (default : GNode)).role)] : List AV).getD j0 (.con undef)), .lst 5 x.letters.length (fun i0 j0 => ([.int .i64 ((x.letters.getD i0 (default : GLetter)).from_), .int .i64 ((x.letters.getD i0 (default : GLetter)).to), .int .i64 ((x.letters.getD i0 (default : GLetter)).term), .bool ((x.letters.getD i0 (default : GLetter)).ask), .int .i64 ((x.letters.getD i0 (default : GLetter)).age)] : List AV).getD j0 (.con undef)), .lst 1 x.leaders.length (fun i0 _ => .lst 1 ((x.leaders.getD i0 []).length) (fun i1 _ => .int .i64 ((x.leaders.getD i0 []).getD i1 0)))] : List AV).getD p (.con undef)) q) rfl (m_NodeS x.nodes a ⟨by omega, by omega⟩) vq_ca_67 trivial (.tmp rfl) rfl rfl rfl (Nat.le_of_ble_eq_true rfl) (fun p hp _ => match p, hp with | 0, _ => rfl | _ + 1, h => absurd h (by simp [SV.leaves])) rfl trivial (fun p hp _ => match p, hp with | 0, _ => if_pos rfl | _ + 1, h => absurd h (by simp [SV.leaves])) (fun q _ hne => if_neg (fun e => hne 0 (Nat.zero_lt_one) rfl e)) ⟨(.tmp rfl), trivial, trivial⟩ rfl rfl (Nat.le_of_ble_eq_true rfl) ?_
  refine ARun.pure (PureOp.assign rfl (.tmp rfl)) rfl rfl (Nat.le_of_ble_eq_true rfl) ?_
  refine ARun.nil ?_
  refine AW.seq ?_
  refine AW.region ?_
  refine ARun.pure (PureOp.fieldPtr rfl (.tmp rfl) vq_fi_27_1_1) rfl rfl (Nat.le_of_ble_eq_true rfl) ?_
  refine ARun.pure (PureOp.loadPtr rfl (.tmp rfl) vq_pl_24 rfl rfl (Nat.le_of_ble_eq_true rfl) (Nat.le_of_ble_eq_true rfl)) rfl rfl (Nat.le_of_ble_eq_true rfl) ?_
  refine ARun.pure (PureOp.move rfl (.tmp rfl)) rfl rfl (Nat.le_of_ble_eq_true rfl) ?_
  refine ARun.mark (id := 1000000) (q0 := 1) (X' := fun q => if q = 1 then .lst 5 ((mkL crLetter mrLetter x.letters (a + ctL crNode x.nodes)).length) (fun i0 j0 => ([.int .i64 (((mkL crLetter mrLetter x.letters (a + ctL crNode x.nodes)).getD i0 (default : GLetter)).from_), .int .i64 (((mkL crLetter mrLetter x.letters (a + ctL crNode x.nodes)).getD i0 (default : GLetter)).to), .int .i64 (((mkL crLetter mrLetter x.letters (a + ctL crNode x.nodes)).getD i0 (default : GLetter)).term), .bool (((mkL crLetter mrLetter x.letters (a + ctL crNode x.nodes)).getD i0 (default : GLetter)).ask), .int .i64 (((mkL crLetter mrLetter x.letters (a + ctL crNode x.nodes)).getD i0 (default : GLetter)).age)] : List AV).getD j0 (.con undef)) else (fun q => if q = 0 then .lst 5 ((mkL crNode mrNode x.nodes a).length) (fun i0 j0 => ([.int .i64 (((mkL crNode mrNode x.nodes a).getD i0 (default : GNode)).term), .int .i64 (((mkL crNode mrNode x.nodes a).getD i0 (default : GNode)).voted), .int .i64 (((mkL crNode mrNode x.nodes a).getD i0 (default : GNode)).age), .lst 1 ((((mkL crNode mrNode x.nodes a).getD i0 (default : GNode)).heard).length) (fun i1 _ => .int .i64 ((((mkL crNode mrNode x.nodes a).getD i0 (default : GNode)).heard).getD i1 0)), .int .i64 (((mkL crNode mrNode x.nodes a).getD i0 (default : GNode)).role)] : List AV).getD j0 (.con undef)) else (fun p => ([.lst 5 x.nodes.length (fun i0 j0 => ([.int .i64 ((x.nodes.getD i0 (default : GNode)).term), .int .i64 ((x.nodes.getD i0 (default : GNode)).voted), .int .i64 ((x.nodes.getD i0 (default : GNode)).age), .lst 1 (((x.nodes.getD i0 (default : GNode)).heard).length) (fun i1 _ => .int .i64 (((x.nodes.getD i0 (default : GNode)).heard).getD i1 0)), .int .i64 ((x.nodes.getD i0 (default : GNode)).role)] : List AV).getD j0 (.con undef)), .lst 5 x.letters.length (fun i0 j0 => ([.int .i64 ((x.letters.getD i0 (default : GLetter)).from_), .int .i64 ((x.letters.getD i0 (default : GLetter)).to), .int .i64 ((x.letters.getD i0 (default : GLetter)).term), .bool ((x.letters.getD i0 (default : GLetter)).ask), .int .i64 ((x.letters.getD i0 (default : GLetter)).age)] : List AV).getD j0 (.con undef)), .lst 1 x.leaders.length (fun i0 _ => .lst 1 ((x.leaders.getD i0 []).length) (fun i1 _ => .int .i64 ((x.leaders.getD i0 []).getD i1 0)))] : List AV).getD p (.con undef)) q) q) rfl (m_LetterS x.letters (a + ctL crNode x.nodes) ⟨by omega, by omega⟩) vq_ca_68 trivial (.tmp rfl) rfl rfl rfl (Nat.le_of_ble_eq_true rfl) (fun p hp _ => match p, hp with | 0, _ => rfl | _ + 1, h => absurd h (by simp [SV.leaves])) rfl trivial (fun p hp _ => match p, hp with | 0, _ => if_pos rfl | _ + 1, h => absurd h (by simp [SV.leaves])) (fun q _ hne => if_neg (fun e => hne 0 (Nat.zero_lt_one) rfl e)) ⟨(.tmp rfl), trivial, trivial⟩ rfl rfl (Nat.le_of_ble_eq_true rfl) ?_
  refine ARun.pure (PureOp.assign rfl (.tmp rfl)) rfl rfl (Nat.le_of_ble_eq_true rfl) ?_
  refine ARun.nil ?_
  refine AW.seq ?_
  refine AW.region ?_
  refine ARun.pure (PureOp.fieldPtr rfl (.tmp rfl) vq_fi_27_2_2) rfl rfl (Nat.le_of_ble_eq_true rfl) ?_
  refine ARun.pure (PureOp.loadPtr rfl (.tmp rfl) vq_pl_25 rfl rfl (Nat.le_of_ble_eq_true rfl) (Nat.le_of_ble_eq_true rfl)) rfl rfl (Nat.le_of_ble_eq_true rfl) ?_
  refine ARun.pure (PureOp.move rfl (.tmp rfl)) rfl rfl (Nat.le_of_ble_eq_true rfl) ?_
  refine ARun.mark (id := 1000000) (q0 := 2) (X' := fun q => if q = 2 then .lst 1 ((mkL (ctL c1) (mkL c1 mkI) x.leaders (a + ctL crNode x.nodes + ctL crLetter x.letters)).length) (fun i0 _ => .lst 1 (((mkL (ctL c1) (mkL c1 mkI) x.leaders (a + ctL crNode x.nodes + ctL crLetter x.letters)).getD i0 []).length) (fun i1 _ => .int .i64 (((mkL (ctL c1) (mkL c1 mkI) x.leaders (a + ctL crNode x.nodes + ctL crLetter x.letters)).getD i0 []).getD i1 0))) else (fun q => if q = 1 then .lst 5 ((mkL crLetter mrLetter x.letters (a + ctL crNode x.nodes)).length) (fun i0 j0 => ([.int .i64 (((mkL crLetter mrLetter x.letters (a + ctL crNode x.nodes)).getD i0 (default : GLetter)).from_), .int .i64 (((mkL crLetter mrLetter x.letters (a + ctL crNode x.nodes)).getD i0 (default : GLetter)).to), .int .i64 (((mkL crLetter mrLetter x.letters (a + ctL crNode x.nodes)).getD i0 (default : GLetter)).term), .bool (((mkL crLetter mrLetter x.letters (a + ctL crNode x.nodes)).getD i0 (default : GLetter)).ask), .int .i64 (((mkL crLetter mrLetter x.letters (a + ctL crNode x.nodes)).getD i0 (default : GLetter)).age)] : List AV).getD j0 (.con undef)) else (fun q => if q = 0 then .lst 5 ((mkL crNode mrNode x.nodes a).length) (fun i0 j0 => ([.int .i64 (((mkL crNode mrNode x.nodes a).getD i0 (default : GNode)).term), .int .i64 (((mkL crNode mrNode x.nodes a).getD i0 (default : GNode)).voted), .int .i64 (((mkL crNode mrNode x.nodes a).getD i0 (default : GNode)).age), .lst 1 ((((mkL crNode mrNode x.nodes a).getD i0 (default : GNode)).heard).length) (fun i1 _ => .int .i64 ((((mkL crNode mrNode x.nodes a).getD i0 (default : GNode)).heard).getD i1 0)), .int .i64 (((mkL crNode mrNode x.nodes a).getD i0 (default : GNode)).role)] : List AV).getD j0 (.con undef)) else (fun p => ([.lst 5 x.nodes.length (fun i0 j0 => ([.int .i64 ((x.nodes.getD i0 (default : GNode)).term), .int .i64 ((x.nodes.getD i0 (default : GNode)).voted), .int .i64 ((x.nodes.getD i0 (default : GNode)).age), .lst 1 (((x.nodes.getD i0 (default : GNode)).heard).length) (fun i1 _ => .int .i64 (((x.nodes.getD i0 (default : GNode)).heard).getD i1 0)), .int .i64 ((x.nodes.getD i0 (default : GNode)).role)] : List AV).getD j0 (.con undef)), .lst 5 x.letters.length (fun i0 j0 => ([.int .i64 ((x.letters.getD i0 (default : GLetter)).from_), .int .i64 ((x.letters.getD i0 (default : GLetter)).to), .int .i64 ((x.letters.getD i0 (default : GLetter)).term), .bool ((x.letters.getD i0 (default : GLetter)).ask), .int .i64 ((x.letters.getD i0 (default : GLetter)).age)] : List AV).getD j0 (.con undef)), .lst 1 x.leaders.length (fun i0 _ => .lst 1 ((x.leaders.getD i0 []).length) (fun i1 _ => .int .i64 ((x.leaders.getD i0 []).getD i1 0)))] : List AV).getD p (.con undef)) q) q) q) rfl (m_IntSS x.leaders (a + ctL crNode x.nodes + ctL crLetter x.letters) ⟨by omega, by omega⟩) vq_ca_69 trivial (.tmp rfl) rfl rfl rfl (Nat.le_of_ble_eq_true rfl) (fun p hp _ => match p, hp with | 0, _ => rfl | _ + 1, h => absurd h (by simp [SV.leaves])) rfl trivial (fun p hp _ => match p, hp with | 0, _ => if_pos rfl | _ + 1, h => absurd h (by simp [SV.leaves])) (fun q _ hne => if_neg (fun e => hne 0 (Nat.zero_lt_one) rfl e)) ⟨(.tmp rfl), trivial, trivial⟩ rfl rfl (Nat.le_of_ble_eq_true rfl) ?_
  refine ARun.pure (PureOp.assign rfl (.tmp rfl)) rfl rfl (Nat.le_of_ble_eq_true rfl) ?_
  refine ARun.nil ?_
  refine AW.seq ?_
  refine AW.region ?_
  refine ARun.pure (PureOp.move rfl (.tmp rfl)) rfl rfl (Nat.le_of_ble_eq_true rfl) ?_
  refine ARun.pure (PureOp.assign rfl (.tmp rfl)) rfl rfl (Nat.le_of_ble_eq_true rfl) ?_
  refine ARun.nil ?_
  refine AW.ret (show ResL _ _ [.tmp 4] _ ∧ HeapLe _ _ from ⟨resI rfl ?_, ⟨⟨_, rfl, fun q hq => match q, hq with | 0, _ => rfl | 1, _ => rfl | 2, _ => rfl | _ + 3, h => absurd h (by omega)⟩, trivial⟩⟩)
  omega

theorem m_Poll (x : GPoll) (a : Nat) (ha : 0 < a ∧ a + cvPoll x ≤ 900000000) : FnM Try.prog 20 (.agg [.lst 5 x.nodes.length (fun i0 j0 => ([.int .i64 ((x.nodes.getD i0 (default : GNode)).term), .int .i64 ((x.nodes.getD i0 (default : GNode)).voted), .int .i64 ((x.nodes.getD i0 (default : GNode)).age), .lst 1 (((x.nodes.getD i0 (default : GNode)).heard).length) (fun i1 _ => .int .i64 (((x.nodes.getD i0 (default : GNode)).heard).getD i1 0)), .int .i64 ((x.nodes.getD i0 (default : GNode)).role)] : List AV).getD j0 (.con undef)), .lst 5 x.letters.length (fun i0 j0 => ([.int .i64 ((x.letters.getD i0 (default : GLetter)).from_), .int .i64 ((x.letters.getD i0 (default : GLetter)).to), .int .i64 ((x.letters.getD i0 (default : GLetter)).term), .bool ((x.letters.getD i0 (default : GLetter)).ask), .int .i64 ((x.letters.getD i0 (default : GLetter)).age)] : List AV).getD j0 (.con undef)), .lst 1 x.leaders.length (fun i0 _ => .lst 1 ((x.leaders.getD i0 []).length) (fun i1 _ => .int .i64 ((x.leaders.getD i0 []).getD i1 0)))]) [.one (.int .i64 (a : Int))] (.one (.int .i64 ((a + cvPoll x : Nat) : Int))) (.agg [.lst 5 (((mvPoll x a).nodes).length) (fun i0 j0 => ([.int .i64 ((((mvPoll x a).nodes).getD i0 (default : GNode)).term), .int .i64 ((((mvPoll x a).nodes).getD i0 (default : GNode)).voted), .int .i64 ((((mvPoll x a).nodes).getD i0 (default : GNode)).age), .lst 1 (((((mvPoll x a).nodes).getD i0 (default : GNode)).heard).length) (fun i1 _ => .int .i64 (((((mvPoll x a).nodes).getD i0 (default : GNode)).heard).getD i1 0)), .int .i64 ((((mvPoll x a).nodes).getD i0 (default : GNode)).role)] : List AV).getD j0 (.con undef)), .lst 5 (((mvPoll x a).letters).length) (fun i0 j0 => ([.int .i64 ((((mvPoll x a).letters).getD i0 (default : GLetter)).from_), .int .i64 ((((mvPoll x a).letters).getD i0 (default : GLetter)).to), .int .i64 ((((mvPoll x a).letters).getD i0 (default : GLetter)).term), .bool ((((mvPoll x a).letters).getD i0 (default : GLetter)).ask), .int .i64 ((((mvPoll x a).letters).getD i0 (default : GLetter)).age)] : List AV).getD j0 (.con undef)), .lst 1 (((mvPoll x a).leaders).length) (fun i0 _ => .lst 1 ((((mvPoll x a).leaders).getD i0 []).length) (fun i1 _ => .int .i64 ((((mvPoll x a).leaders).getD i0 []).getD i1 0)))]) :=
  FnM.ofAgg trivial (fun s hs => by simp only [List.mem_singleton] at hs; subst hs; trivial) rfl (fun _ _ h => h) (g_markPoll x a ha)
theorem g_markBoolS (x : List Bool) (a : Nat) (ha : 0 < a ∧ a + ctL c1 x ≤ 900000000) : FnG Try.prog 131 [.one (.own 1000000 1 x.length), .one (.int .i64 (a : Int))] [(1000000, .arr 1 x.length (fun i j => nmA 1000001 (i * 1 + j) (ceBool (x.getD i (false : Bool)) j))), (1000001, .trees (x.length * 1) (fun _ => .int .i64 0))] (.one (.int .i64 ((a + ctL c1 x : Nat) : Int))) [(1000000, .arr 1 x.length (fun i j => nmA 1000001 (i * 1 + j) (ceBool ((mkL c1 mkB x a).getD i (false : Bool)) j))), (1000001, .trees (x.length * 1) (fun _ => .int .i64 0))] := by
  obtain ⟨ha0, ha1⟩ := ha
  refine FnG.of_body (fn := Try.f131) Try.func131 rfl (Nat.le_of_ble_eq_true rfl) ?_
  intro w0
  show AW _ 21 _ _ _ _
  refine AW.boundO (t := 0) rfl fun hx => ?_
  refine AW.seq ?_
  refine AW.region ?_
  refine ARun.pure (PureOp.assign rfl .int) rfl rfl (Nat.le_of_ble_eq_true rfl) ?_
  refine ARun.nil ?_
  refine AW.seq ?_
  refine AW.seq ?_
  refine AW.region ?_
  refine ARun.pure (PureOp.assign rfl .int) rfl rfl (Nat.le_of_ble_eq_true rfl) ?_
  refine ARun.nil ?_
  refine AW.block ?_
  refine AW.loop (ι := Nat) (fun k => ⟨[(0, .one (.own 1000000 1 x.length)), (1, .one (.int .i64 ((a + ((x.take k).map c1).sum : Nat) : Int))), (5, .one (.int .i64 (k : Int)))], [(1000000, .arr 1 x.length (fun i j => nmA 1000001 (i * 1 + j) (ceBool ((mixL c1 mkB x a k).getD i (false : Bool)) j))), (1000001, .trees (x.length * 1) (fun _ => .int .i64 0))]⟩) (fun k => k ≤ x.length) (fun k => x.length - k) 0 (Nat.zero_le _) ⟨⟨⟨_, rfl, rfl⟩, ⟨_, rfl, by simp⟩, ⟨_, rfl, rfl⟩, trivial⟩, ⟨⟨_, rfl, rfl, Nat.le_refl _, fun i j _ _ => by rw [mix_zero]⟩, ⟨_, rfl, fun _ _ => rfl⟩, trivial⟩⟩ ?_
  intro k hk
  refine AW.seq ?_
  refine AW.seq ?_
  refine AW.region ?_
  refine ARun.pure (PureOp.move rfl (.tmp rfl)) rfl rfl (Nat.le_of_ble_eq_true rfl) ?_
  refine ARun.pure (PureOp.move rfl (.tmp rfl)) rfl rfl (Nat.le_of_ble_eq_true rfl) ?_
  refine ARun.pure (PureOp.lenOwn rfl (.tmp rfl) vq_sl_107) rfl rfl (Nat.le_of_ble_eq_true rfl) ?_
  refine ARun.pure (PureOp.intOp rfl (.tmp rfl) (.tmp rfl) rfl) rfl rfl (Nat.le_of_ble_eq_true rfl) ?_
  refine ARun.nil ?_
  refine AW.cond (.tmp rfl) (fun hb1 => ?_) (fun hb1 => ?_)
  · have _u := True.intro
    replace hb1 := of_decide_eq_true hb1
    have hkl : k < x.length := by omega
    obtain ⟨hst, hsm⟩ := ct_step (ct := c1) (false : Bool) hkl
    have hce : c1 (x.getD k (false : Bool)) = 1 := rfl
    refine AW.skip ?_
    refine AW.seq ?_
    refine AW.block ?_
    refine AW.seq ?_
    refine AW.region ?_
    refine ARun.pure (PureOp.move rfl (.tmp rfl)) rfl rfl (Nat.le_of_ble_eq_true rfl) ?_
    refine ARun.pure (PureOp.move rfl (.tmp rfl)) rfl rfl (Nat.le_of_ble_eq_true rfl) ?_
    refine ARun.pure (PureOp.move rfl (.tmp rfl)) rfl rfl (Nat.le_of_ble_eq_true rfl) ?_
    refine ARun.pure (PureOp.rem (a := a + ((x.take k).map c1).sum) (b := 3) rfl (.tmp rfl) .int rfl (by decide) (by omega)) rfl rfl (Nat.le_of_ble_eq_true rfl) ?_
    refine ARun.pure (PureOp.intOp rfl (.tmp rfl) .int rfl) rfl rfl (Nat.le_of_ble_eq_true rfl) ?_
    refine ARun.pure (PureOp.indexOwn (i := k) rfl (.tmp rfl) vq_el_107_1 (.tmp rfl) rfl (by omega)) rfl rfl (Nat.le_of_ble_eq_true rfl) ?_
    refine ARun.storeElem rfl (.tmp rfl) (.tmp rfl) trivial rfl (show k < x.length from by omega) rfl vq_sz_4_1 rfl rfl ?_
    refine ARun.nil ?_
    refine AW.region ?_
    refine ARun.pure (PureOp.move rfl (.tmp rfl)) rfl rfl (Nat.le_of_ble_eq_true rfl) ?_
    refine ARun.pure (PureOp.add (c := ((a + ((x.take k).map c1).sum + 1 : Nat) : Int)) rfl (.tmp rfl) .int (by rw [wrap_id (by omega) (by omega)]; omega)) rfl rfl (Nat.le_of_ble_eq_true rfl) ?_
    refine ARun.pure (PureOp.assign rfl (.tmp rfl)) rfl rfl (Nat.le_of_ble_eq_true rfl) ?_
    refine ARun.nil ?_
    refine AW.region ?_
    refine ARun.pure (PureOp.move rfl (.tmp rfl)) rfl rfl (Nat.le_of_ble_eq_true rfl) ?_
    refine ARun.pure (PureOp.add (c := ((k + 1 : Nat) : Int)) rfl (.tmp rfl) .int (by rw [wrap_id (by omega) (by omega)]; omega)) rfl rfl (Nat.le_of_ble_eq_true rfl) ?_
    refine ARun.pure (PureOp.assign rfl (.tmp rfl)) rfl rfl (Nat.le_of_ble_eq_true rfl) ?_
    refine ARun.nil ?_
    exact ⟨k + 1, by omega, by dsimp only; omega, ⟨⟨⟨_, rfl, rfl⟩, ⟨_, rfl, congrArg (fun z : Nat => SV.one (.int .i64 (z : Int))) (by omega)⟩, ⟨_, rfl, rfl⟩, trivial⟩, ⟨⟨_, rfl, rfl, Nat.le_refl _, fun i j hi (hj : j < 1) => by
      by_cases h : i = k
      · subst h; simp only [AObj.f, true_and, mix_new (false : Bool) hkl]; exact (match j, hj with | 0, _ => rfl | _ + 1, h => absurd h (by omega))
      · simp only [AObj.f, h, false_and, if_false, mix_old (false : Bool) hkl h]⟩, ⟨_, rfl, fun _ _ => rfl⟩, trivial⟩⟩⟩
  · have _u := True.intro
    replace hb1 := of_decide_eq_false hb1
    have hkl : ¬ k < x.length := by omega
    refine AW.exit ?_
    refine AW.seq ?_
    refine AW.region ?_
    refine ARun.pure (PureOp.move rfl (.tmp rfl)) rfl rfl (Nat.le_of_ble_eq_true rfl) ?_
    refine ARun.pure (PureOp.assign rfl (.tmp rfl)) rfl rfl (Nat.le_of_ble_eq_true rfl) ?_
    refine ARun.nil ?_
    refine AW.ret (show ResL _ _ [.tmp 4] _ ∧ HeapLe _ _ from ⟨resI rfl ?_, ⟨⟨_, rfl, rfl, Nat.le_refl _, fun i j _ _ => by rw [mix_all hkl]⟩, ⟨_, rfl, fun _ _ => rfl⟩, trivial⟩⟩)
    rw [show ctL c1 x = _ from (ct_end hkl).symm]

theorem m_BoolS (x : List Bool) (a : Nat) (ha : 0 < a ∧ a + ctL c1 x ≤ 900000000) : FnM Try.prog 131 (.one (.lst 1 x.length (fun i0 _ => .bool (x.getD i0 false)))) [.one (.int .i64 (a : Int))] (.one (.int .i64 ((a + ctL c1 x : Nat) : Int))) (.one (.lst 1 ((mkL c1 mkB x a).length) (fun i0 _ => .bool ((mkL c1 mkB x a).getD i0 false)))) := by
  have h := FnM.ofRow (r := .one (.int .i64 ((a + ctL c1 x : Nat) : Int))) (args := [.one (.int .i64 (a : Int))]) (g := fun i j => ceBool (x.getD i (false : Bool)) j) (g' := fun i j => ceBool ((mkL c1 mkB x a).getD i (false : Bool)) j) trivial (fun s hs => by simp only [List.mem_singleton] at hs; subst hs; trivial) (by decide) (fun i j hi hj => ⟨rfl, match j, hj with | 0, _ => rfl | _ + 1, h => absurd h (by omega)⟩) (fun i j hi hj => ⟨rfl, match j, hj with | 0, _ => fun h => by cases h | _ + 1, h => absurd h (by omega)⟩) (fun i j hi hj => match j, hj with | 0, _ => rfl | _ + 1, h => absurd h (by omega)) (g_markBoolS x a ha)
  have hl : (mkL c1 mkB x a).length = x.length := mkL_len
  show FnM _ _ _ _ _ (.one (.lst 1 (mkL c1 mkB x a).length (fun i j => ceBool ((mkL c1 mkB x a).getD i (false : Bool)) j)))
  rw [hl]; exact h
theorem g_markBoolSS (x : List (List Bool)) (a : Nat) (ha : 0 < a ∧ a + ctL (ctL c1) x ≤ 900000000) : FnG Try.prog 85 [.one (.own 1000000 1 x.length), .one (.int .i64 (a : Int))] [(1000000, .arr 1 x.length (fun i j => nmA 1000001 (i * 1 + j) (ceBoolS (x.getD i ([] : List Bool)) j))), (1000001, .trees (x.length * 1) (famX 1 (fun i j => lonly (ceBoolS (x.getD i ([] : List Bool)) j))))] (.one (.int .i64 ((a + ctL (ctL c1) x : Nat) : Int))) [(1000000, .arr 1 x.length (fun i j => nmA 1000001 (i * 1 + j) (ceBoolS ((mkL (ctL c1) (mkL c1 mkB) x a).getD i ([] : List Bool)) j))), (1000001, .trees (x.length * 1) (famX 1 (fun i j => lonly (ceBoolS ((mkL (ctL c1) (mkL c1 mkB) x a).getD i ([] : List Bool)) j))))] := by
  obtain ⟨ha0, ha1⟩ := ha
  refine FnG.of_body (fn := Try.f85) Try.func85 rfl (Nat.le_of_ble_eq_true rfl) ?_
  intro w0
  show AW _ 19 _ _ _ _
  refine AW.boundO (t := 0) rfl fun hx => ?_
  refine AW.seq ?_
  refine AW.region ?_
  refine ARun.pure (PureOp.assign rfl .int) rfl rfl (Nat.le_of_ble_eq_true rfl) ?_
  refine ARun.nil ?_
  refine AW.seq ?_
  refine AW.seq ?_
  refine AW.region ?_
  refine ARun.pure (PureOp.assign rfl .int) rfl rfl (Nat.le_of_ble_eq_true rfl) ?_
  refine ARun.nil ?_
  refine AW.block ?_
  refine AW.loop (ι := Nat) (fun k => ⟨[(0, .one (.own 1000000 1 x.length)), (1, .one (.int .i64 ((a + ((x.take k).map (ctL c1)).sum : Nat) : Int))), (5, .one (.int .i64 (k : Int)))], [(1000000, .arr 1 x.length (fun i j => nmA 1000001 (i * 1 + j) (ceBoolS ((mixL (ctL c1) (mkL c1 mkB) x a k).getD i ([] : List Bool)) j))), (1000001, .trees (x.length * 1) (famX 1 (fun i j => lonly (ceBoolS ((mixL (ctL c1) (mkL c1 mkB) x a k).getD i ([] : List Bool)) j))))]⟩) (fun k => k ≤ x.length) (fun k => x.length - k) 0 (Nat.zero_le _) ⟨⟨⟨_, rfl, rfl⟩, ⟨_, rfl, by simp⟩, ⟨_, rfl, rfl⟩, trivial⟩, ⟨⟨_, rfl, rfl, Nat.le_refl _, fun i j _ _ => by rw [mix_zero]⟩, ⟨_, rfl, fun q _ => by rw [mix_zero]⟩, trivial⟩⟩ ?_
  intro k hk
  refine AW.seq ?_
  refine AW.seq ?_
  refine AW.region ?_
  refine ARun.pure (PureOp.move rfl (.tmp rfl)) rfl rfl (Nat.le_of_ble_eq_true rfl) ?_
  refine ARun.pure (PureOp.move rfl (.tmp rfl)) rfl rfl (Nat.le_of_ble_eq_true rfl) ?_
  refine ARun.pure (PureOp.lenOwn rfl (.tmp rfl) vq_sl_47) rfl rfl (Nat.le_of_ble_eq_true rfl) ?_
  refine ARun.pure (PureOp.intOp rfl (.tmp rfl) (.tmp rfl) rfl) rfl rfl (Nat.le_of_ble_eq_true rfl) ?_
  refine ARun.nil ?_
  refine AW.cond (.tmp rfl) (fun hb1 => ?_) (fun hb1 => ?_)
  · have _u := True.intro
    replace hb1 := of_decide_eq_true hb1
    have hkl : k < x.length := by omega
    obtain ⟨hst, hsm⟩ := ct_step (ct := (ctL c1)) ([] : List Bool) hkl
    refine AW.skip ?_
    refine AW.seq ?_
    refine AW.block ?_
    refine AW.region ?_
    refine ARun.pure (PureOp.move rfl (.tmp rfl)) rfl rfl (Nat.le_of_ble_eq_true rfl) ?_
    refine ARun.pure (PureOp.move rfl (.tmp rfl)) rfl rfl (Nat.le_of_ble_eq_true rfl) ?_
    refine ARun.pure (PureOp.indexOwn (i := k) rfl (.tmp rfl) vq_el_47_1 (.tmp rfl) rfl (by omega)) rfl rfl (Nat.le_of_ble_eq_true rfl) ?_
    refine ARun.pure (PureOp.loadPtr rfl (.tmp rfl) vq_pl_107 rfl rfl (show k < x.length from by omega) (Nat.le_of_ble_eq_true rfl)) rfl rfl (Nat.le_of_ble_eq_true rfl) ?_
    refine ARun.pure (PureOp.move rfl (.tmp rfl)) rfl rfl (Nat.le_of_ble_eq_true rfl) ?_
    refine ARun.mark (id := 1000001) (q0 := k * 1 + 0) (X' := fun q => if q = k * 1 + 0 then .lst 1 ((mkL c1 mkB (x.getD k []) (a + ((x.take k).map (ctL c1)).sum)).length) (fun i0 _ => .bool ((mkL c1 mkB (x.getD k []) (a + ((x.take k).map (ctL c1)).sum)).getD i0 false)) else (famX 1 (fun i j => lonly (ceBoolS ((mixL (ctL c1) (mkL c1 mkB) x a k).getD i ([] : List Bool)) j))) q) rfl (m_BoolS (x.getD k []) (a + ((x.take k).map (ctL c1)).sum) ⟨by omega, by omega⟩) vq_ca_131 trivial (.tmp rfl) rfl rfl rfl (cell_lt (sz := 1) (j := 0) hkl (by decide)) (fun p hp _ => match p, hp with | 0, _ => (by show (famX 1 (fun i j => lonly (ceBoolS ((mixL (ctL c1) (mkL c1 mkB) x a k).getD i ([] : List Bool)) j))) (k * 1 + 0) = _; (try dsimp only); (repeat rw [if_neg (by omega)]); rw [famX_at (sz := 1) (j := 0) (by decide), mix_at ([] : List Bool) hkl]; rfl) | _ + 1, h => absurd h (by simp [SV.leaves])) rfl trivial (fun p hp _ => match p, hp with | 0, _ => if_pos rfl | _ + 1, h => absurd h (by simp [SV.leaves])) (fun q _ hne => if_neg (fun e => hne 0 (Nat.zero_lt_one) rfl e)) ⟨(.tmp rfl), trivial, trivial⟩ rfl rfl (Nat.le_of_ble_eq_true rfl) ?_
    refine ARun.pure (PureOp.assign rfl (.tmp rfl)) rfl rfl (Nat.le_of_ble_eq_true rfl) ?_
    refine ARun.nil ?_
    refine AW.region ?_
    refine ARun.pure (PureOp.move rfl (.tmp rfl)) rfl rfl (Nat.le_of_ble_eq_true rfl) ?_
    refine ARun.pure (PureOp.add (c := ((k + 1 : Nat) : Int)) rfl (.tmp rfl) .int (by rw [wrap_id (by omega) (by omega)]; omega)) rfl rfl (Nat.le_of_ble_eq_true rfl) ?_
    refine ARun.pure (PureOp.assign rfl (.tmp rfl)) rfl rfl (Nat.le_of_ble_eq_true rfl) ?_
    refine ARun.nil ?_
    exact ⟨k + 1, by omega, by dsimp only; omega, ⟨⟨⟨_, rfl, rfl⟩, ⟨_, rfl, congrArg (fun z : Nat => SV.one (.int .i64 (z : Int))) (by omega)⟩, ⟨_, rfl, rfl⟩, trivial⟩, ⟨⟨_, rfl, rfl, Nat.le_refl _, fun i j hi (hj : j < 1) => by
      by_cases h : i = k
      · subst h; simp only [AObj.f, true_and, mix_new ([] : List Bool) hkl]; exact (match j, hj with | 0, _ => rfl | _ + 1, h => absurd h (by omega))
      · simp only [AObj.f, h, false_and, if_false, mix_old ([] : List Bool) hkl h]⟩, ⟨_, rfl, fun q hq => famX_ext (X := fun q => if q = k * 1 + 0 then .lst 1 ((mkL c1 mkB (x.getD k []) (a + ((x.take k).map (ctL c1)).sum)).length) (fun i0 _ => .bool ((mkL c1 mkB (x.getD k []) (a + ((x.take k).map (ctL c1)).sum)).getD i0 false)) else (famX 1 (fun i j => lonly (ceBoolS ((mixL (ctL c1) (mkL c1 mkB) x a k).getD i ([] : List Bool)) j))) q) (g := fun i j => lonly (ceBoolS ((mixL (ctL c1) (mkL c1 mkB) x a (k + 1)).getD i ([] : List Bool)) j)) (by decide) (fun i j hi (hj : j < 1) => by
      (try dsimp only)
      by_cases h : i = k
      · subst h; rw [upd_at hj (show 0 < 1 by decide)]; simp only [famX_at hj, true_and, mix_new ([] : List Bool) hkl, mix_at ([] : List Bool) hkl]; exact (match j, hj with | 0, _ => rfl | _ + 1, h => absurd h (by omega))
      · rw [upd_at hj (show 0 < 1 by decide)]; simp only [famX_at hj, h, false_and, if_false, mix_old ([] : List Bool) hkl h]) q hq⟩, trivial⟩⟩⟩
  · have _u := True.intro
    replace hb1 := of_decide_eq_false hb1
    have hkl : ¬ k < x.length := by omega
    refine AW.exit ?_
    refine AW.seq ?_
    refine AW.region ?_
    refine ARun.pure (PureOp.move rfl (.tmp rfl)) rfl rfl (Nat.le_of_ble_eq_true rfl) ?_
    refine ARun.pure (PureOp.assign rfl (.tmp rfl)) rfl rfl (Nat.le_of_ble_eq_true rfl) ?_
    refine ARun.nil ?_
    refine AW.ret (show ResL _ _ [.tmp 4] _ ∧ HeapLe _ _ from ⟨resI rfl ?_, ⟨⟨_, rfl, rfl, Nat.le_refl _, fun i j _ _ => by rw [mix_all hkl]⟩, ⟨_, rfl, fun q _ => by rw [mix_all hkl]⟩, trivial⟩⟩)
    rw [show ctL (ctL c1) x = _ from (ct_end hkl).symm]

theorem m_BoolSS (x : List (List Bool)) (a : Nat) (ha : 0 < a ∧ a + ctL (ctL c1) x ≤ 900000000) : FnM Try.prog 85 (.one (.lst 1 x.length (fun i0 _ => .lst 1 ((x.getD i0 []).length) (fun i1 _ => .bool ((x.getD i0 []).getD i1 false))))) [.one (.int .i64 (a : Int))] (.one (.int .i64 ((a + ctL (ctL c1) x : Nat) : Int))) (.one (.lst 1 ((mkL (ctL c1) (mkL c1 mkB) x a).length) (fun i0 _ => .lst 1 (((mkL (ctL c1) (mkL c1 mkB) x a).getD i0 []).length) (fun i1 _ => .bool (((mkL (ctL c1) (mkL c1 mkB) x a).getD i0 []).getD i1 false))))) := by
  have h := FnM.ofRow (r := .one (.int .i64 ((a + ctL (ctL c1) x : Nat) : Int))) (args := [.one (.int .i64 (a : Int))]) (g := fun i j => ceBoolS (x.getD i ([] : List Bool)) j) (g' := fun i j => ceBoolS ((mkL (ctL c1) (mkL c1 mkB) x a).getD i ([] : List Bool)) j) trivial (fun s hs => by simp only [List.mem_singleton] at hs; subst hs; trivial) (by decide) (fun i j hi hj => ⟨rfl, famX_at hj⟩) (fun i j hi hj => ⟨rfl, fun h => (famX_at hj).trans (lonly_L h)⟩) (fun i j hi hj => match j, hj with | 0, _ => rfl | _ + 1, h => absurd h (by omega)) (g_markBoolSS x a ha)
  have hl : (mkL (ctL c1) (mkL c1 mkB) x a).length = x.length := mkL_len
  show FnM _ _ _ _ _ (.one (.lst 1 (mkL (ctL c1) (mkL c1 mkB) x a).length (fun i j => ceBoolS ((mkL (ctL c1) (mkL c1 mkB) x a).getD i ([] : List Bool)) j)))
  rw [hl]; exact h
theorem g_markBank (x : GBank) (a : Nat) (ha : 0 < a ∧ a + cvBank x ≤ 900000000) : FnG Try.prog 31 [.agg [.tre 1000000 0, .tre 1000000 1, .tre 1000000 2, .tre 1000000 3, .tre 1000000 4], .one (.int .i64 (a : Int))] [(1000000, .trees 5 (fun p => ([.lst 1 x.cCoins.length (fun i0 _ => .int .i64 (x.cCoins.getD i0 0)), .lst 1 x.cWays.length (fun i0 _ => .lst 1 ((x.cWays.getD i0 []).length) (fun i1 _ => .int .i64 ((x.cWays.getD i0 []).getD i1 0))), .lst 1 x.cKept.length (fun i0 _ => .int .i64 (x.cKept.getD i0 0)), .lst 1 x.cHeard.length (fun i0 _ => .lst 1 ((x.cHeard.getD i0 []).length) (fun i1 _ => .bool ((x.cHeard.getD i0 []).getD i1 false))), .lst 1 x.cFound.length (fun i0 _ => .lst 1 ((x.cFound.getD i0 []).length) (fun i1 _ => .int .i64 ((x.cFound.getD i0 []).getD i1 0)))] : List AV).getD p (.con undef)))] (.one (.int .i64 ((a + cvBank x : Nat) : Int))) [(1000000, .trees 5 (fun p => ([.lst 1 (((mvBank x a).cCoins).length) (fun i0 _ => .int .i64 (((mvBank x a).cCoins).getD i0 0)), .lst 1 (((mvBank x a).cWays).length) (fun i0 _ => .lst 1 ((((mvBank x a).cWays).getD i0 []).length) (fun i1 _ => .int .i64 ((((mvBank x a).cWays).getD i0 []).getD i1 0))), .lst 1 (((mvBank x a).cKept).length) (fun i0 _ => .int .i64 (((mvBank x a).cKept).getD i0 0)), .lst 1 (((mvBank x a).cHeard).length) (fun i0 _ => .lst 1 ((((mvBank x a).cHeard).getD i0 []).length) (fun i1 _ => .bool ((((mvBank x a).cHeard).getD i0 []).getD i1 false))), .lst 1 (((mvBank x a).cFound).length) (fun i0 _ => .lst 1 ((((mvBank x a).cFound).getD i0 []).length) (fun i1 _ => .int .i64 ((((mvBank x a).cFound).getD i0 []).getD i1 0)))] : List AV).getD p (.con undef)))] := by
  obtain ⟨ha0, ha1⟩ := ha
  have hcv : cvBank x = 0 + ctL c1 (x.cCoins) + ctL (ctL c1) (x.cWays) + ctL c1 (x.cKept) + ctL (ctL c1) (x.cHeard) + ctL (ctL c1) (x.cFound) := rfl
  refine FnG.of_body (fn := Try.f31) Try.func31 rfl (Nat.le_of_ble_eq_true rfl) ?_
  intro w0
  show AW _ 26 _ _ _ _
  refine AW.seq ?_
  refine AW.region ?_
  refine ARun.box (id := 0) rfl (.tmp rfl) (SV.cells_of (by exact ⟨trivial, trivial, trivial, trivial, trivial, trivial⟩)) ⟨rfl, (by repeat first | exact trivial | refine ⟨by decide, by first | rfl | exact trivial | (intro i j; first | rfl | exact getD_no rfl | (dsimp only; split <;> first | rfl | exact getD_no rfl)), ?_⟩)⟩ rfl rfl rfl (Nat.le_of_ble_eq_true rfl) ?_
  refine ARun.pure (PureOp.assign rfl .int) rfl rfl (Nat.le_of_ble_eq_true rfl) ?_
  refine ARun.nil ?_
  refine AW.seq ?_
  refine AW.region ?_
  refine ARun.pure (PureOp.fieldPtr rfl (.tmp rfl) vq_fi_49_0_0) rfl rfl (Nat.le_of_ble_eq_true rfl) ?_
  refine ARun.pure (PureOp.loadPtr rfl (.tmp rfl) vq_pl_22 rfl rfl (Nat.le_of_ble_eq_true rfl) (Nat.le_of_ble_eq_true rfl)) rfl rfl (Nat.le_of_ble_eq_true rfl) ?_
  refine ARun.pure (PureOp.move rfl (.tmp rfl)) rfl rfl (Nat.le_of_ble_eq_true rfl) ?_
  refine ARun.mark (id := 1000000) (q0 := 0) (X' := fun q => if q = 0 then .lst 1 ((mkL c1 mkI x.cCoins a).length) (fun i0 _ => .int .i64 ((mkL c1 mkI x.cCoins a).getD i0 0)) else (fun p => ([.lst 1 x.cCoins.length (fun i0 _ => .int .i64 (x.cCoins.getD i0 0)), .lst 1 x.cWays.length (fun i0 _ => .lst 1 ((x.cWays.getD i0 []).length) (fun i1 _ => .int .i64 ((x.cWays.getD i0 []).getD i1 0))), .lst 1 x.cKept.length (fun i0 _ => .int .i64 (x.cKept.getD i0 0)), .lst 1 x.cHeard.length (fun i0 _ => .lst 1 ((x.cHeard.getD i0 []).length) (fun i1 _ => .bool ((x.cHeard.getD i0 []).getD i1 false))), .lst 1 x.cFound.length (fun i0 _ => .lst 1 ((x.cFound.getD i0 []).length) (fun i1 _ => .int .i64 ((x.cFound.getD i0 []).getD i1 0)))] : List AV).getD p (.con undef)) q) rfl (m_IntS x.cCoins a ⟨by omega, by omega⟩) vq_ca_19 trivial (.tmp rfl) rfl rfl rfl (Nat.le_of_ble_eq_true rfl) (fun p hp _ => match p, hp with | 0, _ => rfl | _ + 1, h => absurd h (by simp [SV.leaves])) rfl trivial (fun p hp _ => match p, hp with | 0, _ => if_pos rfl | _ + 1, h => absurd h (by simp [SV.leaves])) (fun q _ hne => if_neg (fun e => hne 0 (Nat.zero_lt_one) rfl e)) ⟨(.tmp rfl), trivial, trivial⟩ rfl rfl (Nat.le_of_ble_eq_true rfl) ?_
  refine ARun.pure (PureOp.assign rfl (.tmp rfl)) rfl rfl (Nat.le_of_ble_eq_true rfl) ?_
  refine ARun.nil ?_
  refine AW.seq ?_
  refine AW.region ?_
  refine ARun.pure (PureOp.fieldPtr rfl (.tmp rfl) vq_fi_49_1_1) rfl rfl (Nat.le_of_ble_eq_true rfl) ?_
  refine ARun.pure (PureOp.loadPtr rfl (.tmp rfl) vq_pl_25 rfl rfl (Nat.le_of_ble_eq_true rfl) (Nat.le_of_ble_eq_true rfl)) rfl rfl (Nat.le_of_ble_eq_true rfl) ?_
  refine ARun.pure (PureOp.move rfl (.tmp rfl)) rfl rfl (Nat.le_of_ble_eq_true rfl) ?_
  refine ARun.mark (id := 1000000) (q0 := 1) (X' := fun q => if q = 1 then .lst 1 ((mkL (ctL c1) (mkL c1 mkI) x.cWays (a + ctL c1 x.cCoins)).length) (fun i0 _ => .lst 1 (((mkL (ctL c1) (mkL c1 mkI) x.cWays (a + ctL c1 x.cCoins)).getD i0 []).length) (fun i1 _ => .int .i64 (((mkL (ctL c1) (mkL c1 mkI) x.cWays (a + ctL c1 x.cCoins)).getD i0 []).getD i1 0))) else (fun q => if q = 0 then .lst 1 ((mkL c1 mkI x.cCoins a).length) (fun i0 _ => .int .i64 ((mkL c1 mkI x.cCoins a).getD i0 0)) else (fun p => ([.lst 1 x.cCoins.length (fun i0 _ => .int .i64 (x.cCoins.getD i0 0)), .lst 1 x.cWays.length (fun i0 _ => .lst 1 ((x.cWays.getD i0 []).length) (fun i1 _ => .int .i64 ((x.cWays.getD i0 []).getD i1 0))), .lst 1 x.cKept.length (fun i0 _ => .int .i64 (x.cKept.getD i0 0)), .lst 1 x.cHeard.length (fun i0 _ => .lst 1 ((x.cHeard.getD i0 []).length) (fun i1 _ => .bool ((x.cHeard.getD i0 []).getD i1 false))), .lst 1 x.cFound.length (fun i0 _ => .lst 1 ((x.cFound.getD i0 []).length) (fun i1 _ => .int .i64 ((x.cFound.getD i0 []).getD i1 0)))] : List AV).getD p (.con undef)) q) q) rfl (m_IntSS x.cWays (a + ctL c1 x.cCoins) ⟨by omega, by omega⟩) vq_ca_69 trivial (.tmp rfl) rfl rfl rfl (Nat.le_of_ble_eq_true rfl) (fun p hp _ => match p, hp with | 0, _ => rfl | _ + 1, h => absurd h (by simp [SV.leaves])) rfl trivial (fun p hp _ => match p, hp with | 0, _ => if_pos rfl | _ + 1, h => absurd h (by simp [SV.leaves])) (fun q _ hne => if_neg (fun e => hne 0 (Nat.zero_lt_one) rfl e)) ⟨(.tmp rfl), trivial, trivial⟩ rfl rfl (Nat.le_of_ble_eq_true rfl) ?_
  refine ARun.pure (PureOp.assign rfl (.tmp rfl)) rfl rfl (Nat.le_of_ble_eq_true rfl) ?_
  refine ARun.nil ?_
  refine AW.seq ?_
  refine AW.region ?_
  refine ARun.pure (PureOp.fieldPtr rfl (.tmp rfl) vq_fi_49_2_2) rfl rfl (Nat.le_of_ble_eq_true rfl) ?_
  refine ARun.pure (PureOp.loadPtr rfl (.tmp rfl) vq_pl_22 rfl rfl (Nat.le_of_ble_eq_true rfl) (Nat.le_of_ble_eq_true rfl)) rfl rfl (Nat.le_of_ble_eq_true rfl) ?_
  refine ARun.pure (PureOp.move rfl (.tmp rfl)) rfl rfl (Nat.le_of_ble_eq_true rfl) ?_
  refine ARun.mark (id := 1000000) (q0 := 2) (X' := fun q => if q = 2 then .lst 1 ((mkL c1 mkI x.cKept (a + ctL c1 x.cCoins + ctL (ctL c1) x.cWays)).length) (fun i0 _ => .int .i64 ((mkL c1 mkI x.cKept (a + ctL c1 x.cCoins + ctL (ctL c1) x.cWays)).getD i0 0)) else (fun q => if q = 1 then .lst 1 ((mkL (ctL c1) (mkL c1 mkI) x.cWays (a + ctL c1 x.cCoins)).length) (fun i0 _ => .lst 1 (((mkL (ctL c1) (mkL c1 mkI) x.cWays (a + ctL c1 x.cCoins)).getD i0 []).length) (fun i1 _ => .int .i64 (((mkL (ctL c1) (mkL c1 mkI) x.cWays (a + ctL c1 x.cCoins)).getD i0 []).getD i1 0))) else (fun q => if q = 0 then .lst 1 ((mkL c1 mkI x.cCoins a).length) (fun i0 _ => .int .i64 ((mkL c1 mkI x.cCoins a).getD i0 0)) else (fun p => ([.lst 1 x.cCoins.length (fun i0 _ => .int .i64 (x.cCoins.getD i0 0)), .lst 1 x.cWays.length (fun i0 _ => .lst 1 ((x.cWays.getD i0 []).length) (fun i1 _ => .int .i64 ((x.cWays.getD i0 []).getD i1 0))), .lst 1 x.cKept.length (fun i0 _ => .int .i64 (x.cKept.getD i0 0)), .lst 1 x.cHeard.length (fun i0 _ => .lst 1 ((x.cHeard.getD i0 []).length) (fun i1 _ => .bool ((x.cHeard.getD i0 []).getD i1 false))), .lst 1 x.cFound.length (fun i0 _ => .lst 1 ((x.cFound.getD i0 []).length) (fun i1 _ => .int .i64 ((x.cFound.getD i0 []).getD i1 0)))] : List AV).getD p (.con undef)) q) q) q) rfl (m_IntS x.cKept (a + ctL c1 x.cCoins + ctL (ctL c1) x.cWays) ⟨by omega, by omega⟩) vq_ca_19 trivial (.tmp rfl) rfl rfl rfl (Nat.le_of_ble_eq_true rfl) (fun p hp _ => match p, hp with | 0, _ => rfl | _ + 1, h => absurd h (by simp [SV.leaves])) rfl trivial (fun p hp _ => match p, hp with | 0, _ => if_pos rfl | _ + 1, h => absurd h (by simp [SV.leaves])) (fun q _ hne => if_neg (fun e => hne 0 (Nat.zero_lt_one) rfl e)) ⟨(.tmp rfl), trivial, trivial⟩ rfl rfl (Nat.le_of_ble_eq_true rfl) ?_
  refine ARun.pure (PureOp.assign rfl (.tmp rfl)) rfl rfl (Nat.le_of_ble_eq_true rfl) ?_
  refine ARun.nil ?_
  refine AW.seq ?_
  refine AW.region ?_
  refine ARun.pure (PureOp.fieldPtr rfl (.tmp rfl) vq_fi_49_3_3) rfl rfl (Nat.le_of_ble_eq_true rfl) ?_
  refine ARun.pure (PureOp.loadPtr rfl (.tmp rfl) vq_pl_47 rfl rfl (Nat.le_of_ble_eq_true rfl) (Nat.le_of_ble_eq_true rfl)) rfl rfl (Nat.le_of_ble_eq_true rfl) ?_
  refine ARun.pure (PureOp.move rfl (.tmp rfl)) rfl rfl (Nat.le_of_ble_eq_true rfl) ?_
  refine ARun.mark (id := 1000000) (q0 := 3) (X' := fun q => if q = 3 then .lst 1 ((mkL (ctL c1) (mkL c1 mkB) x.cHeard (a + ctL c1 x.cCoins + ctL (ctL c1) x.cWays + ctL c1 x.cKept)).length) (fun i0 _ => .lst 1 (((mkL (ctL c1) (mkL c1 mkB) x.cHeard (a + ctL c1 x.cCoins + ctL (ctL c1) x.cWays + ctL c1 x.cKept)).getD i0 []).length) (fun i1 _ => .bool (((mkL (ctL c1) (mkL c1 mkB) x.cHeard (a + ctL c1 x.cCoins + ctL (ctL c1) x.cWays + ctL c1 x.cKept)).getD i0 []).getD i1 false))) else (fun q => if q = 2 then .lst 1 ((mkL c1 mkI x.cKept (a + ctL c1 x.cCoins + ctL (ctL c1) x.cWays)).length) (fun i0 _ => .int .i64 ((mkL c1 mkI x.cKept (a + ctL c1 x.cCoins + ctL (ctL c1) x.cWays)).getD i0 0)) else (fun q => if q = 1 then .lst 1 ((mkL (ctL c1) (mkL c1 mkI) x.cWays (a + ctL c1 x.cCoins)).length) (fun i0 _ => .lst 1 (((mkL (ctL c1) (mkL c1 mkI) x.cWays (a + ctL c1 x.cCoins)).getD i0 []).length) (fun i1 _ => .int .i64 (((mkL (ctL c1) (mkL c1 mkI) x.cWays (a + ctL c1 x.cCoins)).getD i0 []).getD i1 0))) else (fun q => if q = 0 then .lst 1 ((mkL c1 mkI x.cCoins a).length) (fun i0 _ => .int .i64 ((mkL c1 mkI x.cCoins a).getD i0 0)) else (fun p => ([.lst 1 x.cCoins.length (fun i0 _ => .int .i64 (x.cCoins.getD i0 0)), .lst 1 x.cWays.length (fun i0 _ => .lst 1 ((x.cWays.getD i0 []).length) (fun i1 _ => .int .i64 ((x.cWays.getD i0 []).getD i1 0))), .lst 1 x.cKept.length (fun i0 _ => .int .i64 (x.cKept.getD i0 0)), .lst 1 x.cHeard.length (fun i0 _ => .lst 1 ((x.cHeard.getD i0 []).length) (fun i1 _ => .bool ((x.cHeard.getD i0 []).getD i1 false))), .lst 1 x.cFound.length (fun i0 _ => .lst 1 ((x.cFound.getD i0 []).length) (fun i1 _ => .int .i64 ((x.cFound.getD i0 []).getD i1 0)))] : List AV).getD p (.con undef)) q) q) q) q) rfl (m_BoolSS x.cHeard (a + ctL c1 x.cCoins + ctL (ctL c1) x.cWays + ctL c1 x.cKept) ⟨by omega, by omega⟩) vq_ca_85 trivial (.tmp rfl) rfl rfl rfl (Nat.le_of_ble_eq_true rfl) (fun p hp _ => match p, hp with | 0, _ => rfl | _ + 1, h => absurd h (by simp [SV.leaves])) rfl trivial (fun p hp _ => match p, hp with | 0, _ => if_pos rfl | _ + 1, h => absurd h (by simp [SV.leaves])) (fun q _ hne => if_neg (fun e => hne 0 (Nat.zero_lt_one) rfl e)) ⟨(.tmp rfl), trivial, trivial⟩ rfl rfl (Nat.le_of_ble_eq_true rfl) ?_
  refine ARun.pure (PureOp.assign rfl (.tmp rfl)) rfl rfl (Nat.le_of_ble_eq_true rfl) ?_
  refine ARun.nil ?_
  refine AW.seq ?_
  refine AW.region ?_
  refine ARun.pure (PureOp.fieldPtr rfl (.tmp rfl) vq_fi_49_4_4) rfl rfl (Nat.le_of_ble_eq_true rfl) ?_
  refine ARun.pure (PureOp.loadPtr rfl (.tmp rfl) vq_pl_25 rfl rfl (Nat.le_of_ble_eq_true rfl) (Nat.le_of_ble_eq_true rfl)) rfl rfl (Nat.le_of_ble_eq_true rfl) ?_
  refine ARun.pure (PureOp.move rfl (.tmp rfl)) rfl rfl (Nat.le_of_ble_eq_true rfl) ?_
  refine ARun.mark (id := 1000000) (q0 := 4) (X' := fun q => if q = 4 then .lst 1 ((mkL (ctL c1) (mkL c1 mkI) x.cFound (a + ctL c1 x.cCoins + ctL (ctL c1) x.cWays + ctL c1 x.cKept + ctL (ctL c1) x.cHeard)).length) (fun i0 _ => .lst 1 (((mkL (ctL c1) (mkL c1 mkI) x.cFound (a + ctL c1 x.cCoins + ctL (ctL c1) x.cWays + ctL c1 x.cKept + ctL (ctL c1) x.cHeard)).getD i0 []).length) (fun i1 _ => .int .i64 (((mkL (ctL c1) (mkL c1 mkI) x.cFound (a + ctL c1 x.cCoins + ctL (ctL c1) x.cWays + ctL c1 x.cKept + ctL (ctL c1) x.cHeard)).getD i0 []).getD i1 0))) else (fun q => if q = 3 then .lst 1 ((mkL (ctL c1) (mkL c1 mkB) x.cHeard (a + ctL c1 x.cCoins + ctL (ctL c1) x.cWays + ctL c1 x.cKept)).length) (fun i0 _ => .lst 1 (((mkL (ctL c1) (mkL c1 mkB) x.cHeard (a + ctL c1 x.cCoins + ctL (ctL c1) x.cWays + ctL c1 x.cKept)).getD i0 []).length) (fun i1 _ => .bool (((mkL (ctL c1) (mkL c1 mkB) x.cHeard (a + ctL c1 x.cCoins + ctL (ctL c1) x.cWays + ctL c1 x.cKept)).getD i0 []).getD i1 false))) else (fun q => if q = 2 then .lst 1 ((mkL c1 mkI x.cKept (a + ctL c1 x.cCoins + ctL (ctL c1) x.cWays)).length) (fun i0 _ => .int .i64 ((mkL c1 mkI x.cKept (a + ctL c1 x.cCoins + ctL (ctL c1) x.cWays)).getD i0 0)) else (fun q => if q = 1 then .lst 1 ((mkL (ctL c1) (mkL c1 mkI) x.cWays (a + ctL c1 x.cCoins)).length) (fun i0 _ => .lst 1 (((mkL (ctL c1) (mkL c1 mkI) x.cWays (a + ctL c1 x.cCoins)).getD i0 []).length) (fun i1 _ => .int .i64 (((mkL (ctL c1) (mkL c1 mkI) x.cWays (a + ctL c1 x.cCoins)).getD i0 []).getD i1 0))) else (fun q => if q = 0 then .lst 1 ((mkL c1 mkI x.cCoins a).length) (fun i0 _ => .int .i64 ((mkL c1 mkI x.cCoins a).getD i0 0)) else (fun p => ([.lst 1 x.cCoins.length (fun i0 _ => .int .i64 (x.cCoins.getD i0 0)), .lst 1 x.cWays.length (fun i0 _ => .lst 1 ((x.cWays.getD i0 []).length) (fun i1 _ => .int .i64 ((x.cWays.getD i0 []).getD i1 0))), .lst 1 x.cKept.length (fun i0 _ => .int .i64 (x.cKept.getD i0 0)), .lst 1 x.cHeard.length (fun i0 _ => .lst 1 ((x.cHeard.getD i0 []).length) (fun i1 _ => .bool ((x.cHeard.getD i0 []).getD i1 false))), .lst 1 x.cFound.length (fun i0 _ => .lst 1 ((x.cFound.getD i0 []).length) (fun i1 _ => .int .i64 ((x.cFound.getD i0 []).getD i1 0)))] : List AV).getD p (.con undef)) q) q) q) q) q) rfl (m_IntSS x.cFound (a + ctL c1 x.cCoins + ctL (ctL c1) x.cWays + ctL c1 x.cKept + ctL (ctL c1) x.cHeard) ⟨by omega, by omega⟩) vq_ca_69 trivial (.tmp rfl) rfl rfl rfl (Nat.le_of_ble_eq_true rfl) (fun p hp _ => match p, hp with | 0, _ => rfl | _ + 1, h => absurd h (by simp [SV.leaves])) rfl trivial (fun p hp _ => match p, hp with | 0, _ => if_pos rfl | _ + 1, h => absurd h (by simp [SV.leaves])) (fun q _ hne => if_neg (fun e => hne 0 (Nat.zero_lt_one) rfl e)) ⟨(.tmp rfl), trivial, trivial⟩ rfl rfl (Nat.le_of_ble_eq_true rfl) ?_
  refine ARun.pure (PureOp.assign rfl (.tmp rfl)) rfl rfl (Nat.le_of_ble_eq_true rfl) ?_
  refine ARun.nil ?_
  refine AW.seq ?_
  refine AW.region ?_
  refine ARun.pure (PureOp.move rfl (.tmp rfl)) rfl rfl (Nat.le_of_ble_eq_true rfl) ?_
  refine ARun.pure (PureOp.assign rfl (.tmp rfl)) rfl rfl (Nat.le_of_ble_eq_true rfl) ?_
  refine ARun.nil ?_
  refine AW.ret (show ResL _ _ [.tmp 4] _ ∧ HeapLe _ _ from ⟨resI rfl ?_, ⟨⟨_, rfl, fun q hq => match q, hq with | 0, _ => rfl | 1, _ => rfl | 2, _ => rfl | 3, _ => rfl | 4, _ => rfl | _ + 5, h => absurd h (by omega)⟩, trivial⟩⟩)
  omega

theorem m_Bank (x : GBank) (a : Nat) (ha : 0 < a ∧ a + cvBank x ≤ 900000000) : FnM Try.prog 31 (.agg [.lst 1 x.cCoins.length (fun i0 _ => .int .i64 (x.cCoins.getD i0 0)), .lst 1 x.cWays.length (fun i0 _ => .lst 1 ((x.cWays.getD i0 []).length) (fun i1 _ => .int .i64 ((x.cWays.getD i0 []).getD i1 0))), .lst 1 x.cKept.length (fun i0 _ => .int .i64 (x.cKept.getD i0 0)), .lst 1 x.cHeard.length (fun i0 _ => .lst 1 ((x.cHeard.getD i0 []).length) (fun i1 _ => .bool ((x.cHeard.getD i0 []).getD i1 false))), .lst 1 x.cFound.length (fun i0 _ => .lst 1 ((x.cFound.getD i0 []).length) (fun i1 _ => .int .i64 ((x.cFound.getD i0 []).getD i1 0)))]) [.one (.int .i64 (a : Int))] (.one (.int .i64 ((a + cvBank x : Nat) : Int))) (.agg [.lst 1 (((mvBank x a).cCoins).length) (fun i0 _ => .int .i64 (((mvBank x a).cCoins).getD i0 0)), .lst 1 (((mvBank x a).cWays).length) (fun i0 _ => .lst 1 ((((mvBank x a).cWays).getD i0 []).length) (fun i1 _ => .int .i64 ((((mvBank x a).cWays).getD i0 []).getD i1 0))), .lst 1 (((mvBank x a).cKept).length) (fun i0 _ => .int .i64 (((mvBank x a).cKept).getD i0 0)), .lst 1 (((mvBank x a).cHeard).length) (fun i0 _ => .lst 1 ((((mvBank x a).cHeard).getD i0 []).length) (fun i1 _ => .bool ((((mvBank x a).cHeard).getD i0 []).getD i1 false))), .lst 1 (((mvBank x a).cFound).length) (fun i0 _ => .lst 1 ((((mvBank x a).cFound).getD i0 []).length) (fun i1 _ => .int .i64 ((((mvBank x a).cFound).getD i0 []).getD i1 0)))]) :=
  FnM.ofAgg trivial (fun s hs => by simp only [List.mem_singleton] at hs; subst hs; trivial) rfl (fun _ _ h => h) (g_markBank x a ha)end Go.Proofs.Ytlbnodmebehpiaa
