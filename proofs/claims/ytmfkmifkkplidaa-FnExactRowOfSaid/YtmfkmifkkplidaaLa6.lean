/-
  Marks.
-/
import Derived.Test.YtmfkmifkkplidaaTm6
namespace Go.Proofs.Ytmfkmifkkplidaa
open Go.ChangeShapes Go.WideShapes Go.ChangeAt Go.RowKit Go.BigFrame Go.Deep
set_option linter.unusedVariables false
set_option linter.unusedSimpArgs false
theorem vq_ca_18 : callB Try.prog 18 = true := by kernel_rfl
theorem vq_ca_51 : callB Try.prog 51 = true := by kernel_rfl
theorem vq_ca_63 : callB Try.prog 63 = true := by kernel_rfl
theorem vq_el_27_2 : elemB Try.prog 27 2 = true := by kernel_rfl
theorem vq_el_33_2 : elemB Try.prog 33 2 = true := by kernel_rfl
theorem vq_el_52_1 : elemB Try.prog 52 1 = true := by kernel_rfl
theorem vq_fi_29_0_0 : fieldB Try.prog 29 0 0 = true := by kernel_rfl
theorem vq_fi_67_0_0 : fieldB Try.prog 67 0 0 = true := by kernel_rfl
theorem vq_fi_67_1_1 : fieldB Try.prog 67 1 1 = true := by kernel_rfl
theorem vq_fi_81_0_0 : fieldB Try.prog 81 0 0 = true := by kernel_rfl
theorem vq_fi_81_1_1 : fieldB Try.prog 81 1 1 = true := by kernel_rfl
theorem vq_pl_27 : plainB Try.prog 27 = true := by kernel_rfl
theorem vq_pl_33 : plainB Try.prog 33 = true := by kernel_rfl
theorem vq_sl_27 : sliceB Try.prog 27 = true := by kernel_rfl
theorem vq_sl_33 : sliceB Try.prog 33 = true := by kernel_rfl
theorem vq_sl_52 : sliceB Try.prog 52 = true := by kernel_rfl
theorem vq_sz_3_1 : sizeB Try.prog 3 1 = true := by kernel_rfl
theorem vq_sz_9_1 : sizeB Try.prog 9 1 = true := by kernel_rfl
theorem digTo_size : ∀ (d f q : Nat) (s : ByteArray), q < 10 ^ d → q ≤ f → (digTo f q s).size ≤ s.size + d
  | 0, f, q, s, hq, _ => by
    obtain rfl : q = 0 := by simpa using hq
    rw [digTo_zero]; omega
  | d + 1, f, q, s, hq, hf => by
    by_cases h : 0 < q
    · rw [digTo_step h hf]
      have h1 : q / 10 < 10 ^ d := by rw [Nat.pow_succ] at hq; omega
      have h2 := digTo_size d (f - 1) (q / 10) ((⟨#[UInt8.ofNat (48 + q % 10)]⟩ : ByteArray) ++ s) h1 (by omega)
      rw [ByteArray.size_append] at h2
      have c : (⟨#[UInt8.ofNat (48 + q % 10)]⟩ : ByteArray).size = 1 := rfl
      omega
    · obtain rfl : q = 0 := by omega
      rw [digTo_zero]; omega
theorem mkText_size {k : Nat} (h : k ≤ 1000000000) : (mkText k).size ≤ 20 := by
  have h1 := digTo_size 10 k k ⟨#[]⟩ (by omega) (Nat.le_refl _)
  unfold mkText
  rw [ByteArray.size_append]
  have c : (⟨#[109]⟩ : ByteArray).size = 1 := rfl
  have c0 : (⟨#[]⟩ : ByteArray).size = 0 := rfl
  omega
theorem v_markText (k : Nat) (hk : 0 < k) (h : k ≤ 1000000000) : Fn Try.prog 63 [.one (.int .i64 (k : Int))] (.one (.str (mkText k))) := by
  intro w S vs hS hd
  obtain ⟨v, vs1, rfl, h1, h2⟩ := hd
  obtain rfl : vs1 = [] := h2
  have h1 : v = .int .i64 (k : Int) := h1
  subst h1
  exact (markText_any k hk h w).mono fun e w' ⟨he, _, hb⟩ => ⟨he, hb⟩

theorem g_markSampleS (x : List GSample) (a : Nat) (ha : 0 < a ∧ a + ctL crSample x ≤ 900000000) : FnG Try.prog 18 [.one (.own 1000000 2 x.length), .one (.int .i64 (a : Int))] [(1000000, .arr 2 x.length (fun i j => nmA 1000001 (i * 2 + j) (ceSample (x.getD i (default : GSample)) j))), (1000001, .trees (x.length * 2) (fun _ => .int .i64 0))] (.one (.int .i64 ((a + ctL crSample x : Nat) : Int))) [(1000000, .arr 2 x.length (fun i j => nmA 1000001 (i * 2 + j) (ceSample ((mkL crSample mrSample x a).getD i (default : GSample)) j))), (1000001, .trees (x.length * 2) (fun _ => .int .i64 0))] := by
  obtain ⟨ha0, ha1⟩ := ha
  refine FnG.of_body (fn := Try.f18) Try.func18 rfl (Nat.le_of_ble_eq_true rfl) ?_
  intro w0
  show AW _ 27 _ _ _ _
  refine AW.boundO (t := 0) rfl fun hx => ?_
  refine AW.seq ?_
  refine AW.region ?_
  refine ARun.pure (PureOp.assign rfl .int) rfl rfl (Nat.le_of_ble_eq_true rfl) ?_
  refine ARun.nil ?_
  refine AW.seq ?_
  refine AW.seq ?_
  refine AW.region ?_
  refine ARun.pure (PureOp.assign rfl .int) rfl rfl (Nat.le_of_ble_eq_true rfl) ?_
  refine ARun.nil ?_
  refine AW.block ?_
  refine AW.loop (ι := Nat) (fun k => ⟨[(0, .one (.own 1000000 2 x.length)), (1, .one (.int .i64 ((a + ((x.take k).map crSample).sum : Nat) : Int))), (5, .one (.int .i64 (k : Int)))], [(1000000, .arr 2 x.length (fun i j => nmA 1000001 (i * 2 + j) (ceSample ((mixL crSample mrSample x a k).getD i (default : GSample)) j))), (1000001, .trees (x.length * 2) (fun _ => .int .i64 0))]⟩) (fun k => k ≤ x.length) (fun k => x.length - k) 0 (Nat.zero_le _) ⟨⟨⟨_, rfl, rfl⟩, ⟨_, rfl, by simp⟩, ⟨_, rfl, rfl⟩, trivial⟩, ⟨⟨_, rfl, rfl, Nat.le_refl _, fun i j _ _ => by rw [mix_zero]⟩, ⟨_, rfl, fun _ _ => rfl⟩, trivial⟩⟩ ?_
  intro k hk
  refine AW.seq ?_
  refine AW.seq ?_
  refine AW.region ?_
  refine ARun.pure (PureOp.move rfl (.tmp rfl)) rfl rfl (Nat.le_of_ble_eq_true rfl) ?_
  refine ARun.pure (PureOp.move rfl (.tmp rfl)) rfl rfl (Nat.le_of_ble_eq_true rfl) ?_
  refine ARun.pure (PureOp.lenOwn rfl (.tmp rfl) vq_sl_33) rfl rfl (Nat.le_of_ble_eq_true rfl) ?_
  refine ARun.pure (PureOp.intOp rfl (.tmp rfl) (.tmp rfl) rfl) rfl rfl (Nat.le_of_ble_eq_true rfl) ?_
  refine ARun.nil ?_
  refine AW.cond (.tmp rfl) (fun hb1 => ?_) (fun hb1 => ?_)
  · have _u := True.intro
    replace hb1 := of_decide_eq_true hb1
    have hkl : k < x.length := by omega
    obtain ⟨hst, hsm⟩ := ct_step (ct := crSample) (default : GSample) hkl
    have hce : crSample (x.getD k (default : GSample)) = 0 + 1 + 1 := rfl
    refine AW.skip ?_
    refine AW.seq ?_
    refine AW.block ?_
    refine AW.seq ?_
    refine AW.region ?_
    refine ARun.pure (PureOp.move rfl (.tmp rfl)) rfl rfl (Nat.le_of_ble_eq_true rfl) ?_
    refine ARun.pure (PureOp.move rfl (.tmp rfl)) rfl rfl (Nat.le_of_ble_eq_true rfl) ?_
    refine ARun.pure (PureOp.move rfl (.tmp rfl)) rfl rfl (Nat.le_of_ble_eq_true rfl) ?_
    refine ARun.pure (PureOp.indexOwn (i := k) rfl (.tmp rfl) vq_el_33_2 (.tmp rfl) rfl (by omega)) rfl rfl (Nat.le_of_ble_eq_true rfl) ?_
    refine ARun.pure (PureOp.fieldPtr rfl (.tmp rfl) vq_fi_81_0_0) rfl rfl (Nat.le_of_ble_eq_true rfl) ?_
    refine ARun.storeArr rfl (.tmp rfl) (.tmp rfl) trivial rfl (show k < x.length from by omega) (Nat.le_of_ble_eq_true rfl) vq_sz_3_1 rfl rfl ?_
    refine ARun.nil ?_
    refine AW.seq ?_
    refine AW.region ?_
    refine ARun.pure (PureOp.move rfl (.tmp rfl)) rfl rfl (Nat.le_of_ble_eq_true rfl) ?_
    refine ARun.pure (PureOp.add (c := ((a + ((x.take k).map crSample).sum + 1 : Nat) : Int)) rfl (.tmp rfl) .int (by rw [wrap_id (by omega) (by omega)]; omega)) rfl rfl (Nat.le_of_ble_eq_true rfl) ?_
    refine ARun.pure (PureOp.assign rfl (.tmp rfl)) rfl rfl (Nat.le_of_ble_eq_true rfl) ?_
    refine ARun.nil ?_
    refine AW.seq ?_
    refine AW.region ?_
    refine ARun.pure (PureOp.move rfl (.tmp rfl)) rfl rfl (Nat.le_of_ble_eq_true rfl) ?_
    refine ARun.pure (PureOp.move rfl (.tmp rfl)) rfl rfl (Nat.le_of_ble_eq_true rfl) ?_
    refine ARun.pure (PureOp.move rfl (.tmp rfl)) rfl rfl (Nat.le_of_ble_eq_true rfl) ?_
    refine ARun.pure (PureOp.indexOwn (i := k) rfl (.tmp rfl) vq_el_33_2 (.tmp rfl) rfl (by omega)) rfl rfl (Nat.le_of_ble_eq_true rfl) ?_
    refine ARun.pure (PureOp.fieldPtr rfl (.tmp rfl) vq_fi_81_1_1) rfl rfl (Nat.le_of_ble_eq_true rfl) ?_
    refine ARun.storeArr rfl (.tmp rfl) (.tmp rfl) trivial rfl (show k < x.length from by omega) (Nat.le_of_ble_eq_true rfl) vq_sz_3_1 rfl rfl ?_
    refine ARun.nil ?_
    refine AW.region ?_
    refine ARun.pure (PureOp.move rfl (.tmp rfl)) rfl rfl (Nat.le_of_ble_eq_true rfl) ?_
    refine ARun.pure (PureOp.add (c := ((a + ((x.take k).map crSample).sum + 1 + 1 : Nat) : Int)) rfl (.tmp rfl) .int (by rw [wrap_id (by omega) (by omega)]; omega)) rfl rfl (Nat.le_of_ble_eq_true rfl) ?_
    refine ARun.pure (PureOp.assign rfl (.tmp rfl)) rfl rfl (Nat.le_of_ble_eq_true rfl) ?_
    refine ARun.nil ?_
    refine AW.region ?_
    refine ARun.pure (PureOp.move rfl (.tmp rfl)) rfl rfl (Nat.le_of_ble_eq_true rfl) ?_
    refine ARun.pure (PureOp.add (c := ((k + 1 : Nat) : Int)) rfl (.tmp rfl) .int (by rw [wrap_id (by omega) (by omega)]; omega)) rfl rfl (Nat.le_of_ble_eq_true rfl) ?_
    refine ARun.pure (PureOp.assign rfl (.tmp rfl)) rfl rfl (Nat.le_of_ble_eq_true rfl) ?_
    refine ARun.nil ?_
    exact ⟨k + 1, by omega, by dsimp only; omega, ⟨⟨⟨_, rfl, rfl⟩, ⟨_, rfl, congrArg (fun z : Nat => SV.one (.int .i64 (z : Int))) (by omega)⟩, ⟨_, rfl, rfl⟩, trivial⟩, ⟨⟨_, rfl, rfl, Nat.le_refl _, fun i j hi (hj : j < 2) => by
      by_cases h : i = k
      · subst h; simp only [AObj.f, true_and, mix_new (default : GSample) hkl]; exact (match j, hj with | 0, _ => rfl | 1, _ => rfl | _ + 2, h => absurd h (by omega))
      · simp only [AObj.f, h, false_and, if_false, mix_old (default : GSample) hkl h]⟩, ⟨_, rfl, fun _ _ => rfl⟩, trivial⟩⟩⟩
  · have _u := True.intro
    replace hb1 := of_decide_eq_false hb1
    have hkl : ¬ k < x.length := by omega
    refine AW.exit ?_
    refine AW.seq ?_
    refine AW.region ?_
    refine ARun.pure (PureOp.move rfl (.tmp rfl)) rfl rfl (Nat.le_of_ble_eq_true rfl) ?_
    refine ARun.pure (PureOp.assign rfl (.tmp rfl)) rfl rfl (Nat.le_of_ble_eq_true rfl) ?_
    refine ARun.nil ?_
    refine AW.ret (show ResL _ _ [.tmp 4] _ ∧ HeapLe _ _ from ⟨resI rfl ?_, ⟨⟨_, rfl, rfl, Nat.le_refl _, fun i j _ _ => by rw [mix_all hkl]⟩, ⟨_, rfl, fun _ _ => rfl⟩, trivial⟩⟩)
    rw [show ctL crSample x = _ from (ct_end hkl).symm]

theorem m_SampleS (x : List GSample) (a : Nat) (ha : 0 < a ∧ a + ctL crSample x ≤ 900000000) : FnM Try.prog 18 (.one (.lst 2 x.length (fun i0 j0 => ([.int .i64 ((x.getD i0 (default : GSample)).at_), .int .i64 ((x.getD i0 (default : GSample)).value)] : List AV).getD j0 (.con undef)))) [.one (.int .i64 (a : Int))] (.one (.int .i64 ((a + ctL crSample x : Nat) : Int))) (.one (.lst 2 ((mkL crSample mrSample x a).length) (fun i0 j0 => ([.int .i64 (((mkL crSample mrSample x a).getD i0 (default : GSample)).at_), .int .i64 (((mkL crSample mrSample x a).getD i0 (default : GSample)).value)] : List AV).getD j0 (.con undef)))) := by
  have h := FnM.ofRow (r := .one (.int .i64 ((a + ctL crSample x : Nat) : Int))) (args := [.one (.int .i64 (a : Int))]) (g := fun i j => ceSample (x.getD i (default : GSample)) j) (g' := fun i j => ceSample ((mkL crSample mrSample x a).getD i (default : GSample)) j) trivial (fun s hs => by simp only [List.mem_singleton] at hs; subst hs; trivial) (by decide) (fun i j hi hj => ⟨rfl, match j, hj with | 0, _ => rfl | 1, _ => rfl | _ + 2, h => absurd h (by omega)⟩) (fun i j hi hj => ⟨rfl, match j, hj with | 0, _ => fun h => by cases h | 1, _ => fun h => by cases h | _ + 2, h => absurd h (by omega)⟩) (fun i j hi hj => match j, hj with | 0, _ => rfl | 1, _ => rfl | _ + 2, h => absurd h (by omega)) (g_markSampleS x a ha)
  have hl : (mkL crSample mrSample x a).length = x.length := mkL_len
  show FnM _ _ _ _ _ (.one (.lst 2 (mkL crSample mrSample x a).length (fun i j => ceSample ((mkL crSample mrSample x a).getD i (default : GSample)) j)))
  rw [hl]; exact h

theorem g_markRowS (x : List GRow) (a : Nat) (ha : 0 < a ∧ a + ctL crRow x ≤ 900000000) : FnG Try.prog 51 [.one (.own 1000000 2 x.length), .one (.int .i64 (a : Int))] [(1000000, .arr 2 x.length (fun i j => nmA 1000001 (i * 2 + j) (ceRow (x.getD i (default : GRow)) j))), (1000001, .trees (x.length * 2) (famX 2 (fun i j => lonly (ceRow (x.getD i (default : GRow)) j))))] (.one (.int .i64 ((a + ctL crRow x : Nat) : Int))) [(1000000, .arr 2 x.length (fun i j => nmA 1000001 (i * 2 + j) (ceRow ((mkL crRow mrRow x a).getD i (default : GRow)) j))), (1000001, .trees (x.length * 2) (famX 2 (fun i j => lonly (ceRow ((mkL crRow mrRow x a).getD i (default : GRow)) j))))] := by
  obtain ⟨ha0, ha1⟩ := ha
  refine FnG.of_body (fn := Try.f51) Try.func51 rfl (Nat.le_of_ble_eq_true rfl) ?_
  intro w0
  show AW _ 28 _ _ _ _
  refine AW.boundO (t := 0) rfl fun hx => ?_
  refine AW.seq ?_
  refine AW.region ?_
  refine ARun.pure (PureOp.assign rfl .int) rfl rfl (Nat.le_of_ble_eq_true rfl) ?_
  refine ARun.nil ?_
  refine AW.seq ?_
  refine AW.seq ?_
  refine AW.region ?_
  refine ARun.pure (PureOp.assign rfl .int) rfl rfl (Nat.le_of_ble_eq_true rfl) ?_
  refine ARun.nil ?_
  refine AW.block ?_
  refine AW.loop (ι := Nat) (fun k => ⟨[(0, .one (.own 1000000 2 x.length)), (1, .one (.int .i64 ((a + ((x.take k).map crRow).sum : Nat) : Int))), (5, .one (.int .i64 (k : Int)))], [(1000000, .arr 2 x.length (fun i j => nmA 1000001 (i * 2 + j) (ceRow ((mixL crRow mrRow x a k).getD i (default : GRow)) j))), (1000001, .trees (x.length * 2) (famX 2 (fun i j => lonly (ceRow ((mixL crRow mrRow x a k).getD i (default : GRow)) j))))]⟩) (fun k => k ≤ x.length) (fun k => x.length - k) 0 (Nat.zero_le _) ⟨⟨⟨_, rfl, rfl⟩, ⟨_, rfl, by simp⟩, ⟨_, rfl, rfl⟩, trivial⟩, ⟨⟨_, rfl, rfl, Nat.le_refl _, fun i j _ _ => by rw [mix_zero]⟩, ⟨_, rfl, fun q _ => by rw [mix_zero]⟩, trivial⟩⟩ ?_
  intro k hk
  refine AW.seq ?_
  refine AW.seq ?_
  refine AW.region ?_
  refine ARun.pure (PureOp.move rfl (.tmp rfl)) rfl rfl (Nat.le_of_ble_eq_true rfl) ?_
  refine ARun.pure (PureOp.move rfl (.tmp rfl)) rfl rfl (Nat.le_of_ble_eq_true rfl) ?_
  refine ARun.pure (PureOp.lenOwn rfl (.tmp rfl) vq_sl_27) rfl rfl (Nat.le_of_ble_eq_true rfl) ?_
  refine ARun.pure (PureOp.intOp rfl (.tmp rfl) (.tmp rfl) rfl) rfl rfl (Nat.le_of_ble_eq_true rfl) ?_
  refine ARun.nil ?_
  refine AW.cond (.tmp rfl) (fun hb1 => ?_) (fun hb1 => ?_)
  · have _u := True.intro
    replace hb1 := of_decide_eq_true hb1
    have hkl : k < x.length := by omega
    obtain ⟨hst, hsm⟩ := ct_step (ct := crRow) (default : GRow) hkl
    have hce : crRow (x.getD k (default : GRow)) = 0 + 1 + ctL crSample ((x.getD k (default : GRow)).samples) := rfl
    refine AW.skip ?_
    refine AW.seq ?_
    refine AW.block ?_
    refine AW.seq ?_
    refine AW.region ?_
    refine ARun.pure (PureOp.move rfl (.tmp rfl)) rfl rfl (Nat.le_of_ble_eq_true rfl) ?_
    refine ARun.pure (PureOp.move rfl (.tmp rfl)) rfl rfl (Nat.le_of_ble_eq_true rfl) ?_
    refine ARun.pure (PureOp.move rfl (.tmp rfl)) rfl rfl (Nat.le_of_ble_eq_true rfl) ?_
    refine ARun.pure (PureOp.call rfl (v_markText (a + ((x.take k).map crRow).sum) (by omega) (by omega)) ⟨⟨_, (.tmp rfl), .int⟩, trivial⟩ vq_ca_63 (Nat.le_trans (mkText_size (by omega)) (by decide))) rfl rfl (Nat.le_of_ble_eq_true rfl) ?_
    refine ARun.pure (PureOp.indexOwn (i := k) rfl (.tmp rfl) vq_el_27_2 (.tmp rfl) rfl (by omega)) rfl rfl (Nat.le_of_ble_eq_true rfl) ?_
    refine ARun.pure (PureOp.fieldPtr rfl (.tmp rfl) vq_fi_67_0_0) rfl rfl (Nat.le_of_ble_eq_true rfl) ?_
    refine ARun.storeArr rfl (.tmp rfl) (.tmp rfl) trivial rfl (show k < x.length from by omega) (Nat.le_of_ble_eq_true rfl) vq_sz_9_1 rfl rfl ?_
    refine ARun.nil ?_
    refine AW.seq ?_
    refine AW.region ?_
    refine ARun.pure (PureOp.move rfl (.tmp rfl)) rfl rfl (Nat.le_of_ble_eq_true rfl) ?_
    refine ARun.pure (PureOp.add (c := ((a + ((x.take k).map crRow).sum + 1 : Nat) : Int)) rfl (.tmp rfl) .int (by rw [wrap_id (by omega) (by omega)]; omega)) rfl rfl (Nat.le_of_ble_eq_true rfl) ?_
    refine ARun.pure (PureOp.assign rfl (.tmp rfl)) rfl rfl (Nat.le_of_ble_eq_true rfl) ?_
    refine ARun.nil ?_
    refine AW.region ?_
    refine ARun.pure (PureOp.move rfl (.tmp rfl)) rfl rfl (Nat.le_of_ble_eq_true rfl) ?_
    refine ARun.pure (PureOp.move rfl (.tmp rfl)) rfl rfl (Nat.le_of_ble_eq_true rfl) ?_
    refine ARun.pure (PureOp.indexOwn (i := k) rfl (.tmp rfl) vq_el_27_2 (.tmp rfl) rfl (by omega)) rfl rfl (Nat.le_of_ble_eq_true rfl) ?_
    refine ARun.pure (PureOp.fieldPtr rfl (.tmp rfl) vq_fi_67_1_1) rfl rfl (Nat.le_of_ble_eq_true rfl) ?_
    refine ARun.pure (PureOp.loadPtrE (y := .tre 1000001 (k * 2 + 1)) rfl (.tmp rfl) vq_pl_33 rfl rfl (show k < x.length from by omega) (Nat.le_of_ble_eq_true rfl) (by simp only [AObj.f]; (repeat rw [if_neg (by omega)]); rfl)) rfl rfl (Nat.le_of_ble_eq_true rfl) ?_
    refine ARun.pure (PureOp.move rfl (.tmp rfl)) rfl rfl (Nat.le_of_ble_eq_true rfl) ?_
    refine ARun.mark (id := 1000001) (q0 := k * 2 + 1) (X' := fun q => if q = k * 2 + 1 then .lst 2 ((mkL crSample mrSample ((x.getD k (default : GRow)).samples) (a + ((x.take k).map crRow).sum + 1)).length) (fun i0 j0 => ([.int .i64 (((mkL crSample mrSample ((x.getD k (default : GRow)).samples) (a + ((x.take k).map crRow).sum + 1)).getD i0 (default : GSample)).at_), .int .i64 (((mkL crSample mrSample ((x.getD k (default : GRow)).samples) (a + ((x.take k).map crRow).sum + 1)).getD i0 (default : GSample)).value)] : List AV).getD j0 (.con undef)) else (famX 2 (fun i j => lonly (ceRow ((mixL crRow mrRow x a k).getD i (default : GRow)) j))) q) rfl (m_SampleS ((x.getD k (default : GRow)).samples) (a + ((x.take k).map crRow).sum + 1) ⟨by omega, by omega⟩) vq_ca_18 trivial (.tmp rfl) rfl rfl rfl (cell_lt (sz := 2) (j := 1) hkl (by decide)) (fun p hp _ => match p, hp with | 0, _ => (by show (famX 2 (fun i j => lonly (ceRow ((mixL crRow mrRow x a k).getD i (default : GRow)) j))) (k * 2 + 1) = _; (try dsimp only); (repeat rw [if_neg (by omega)]); rw [famX_at (sz := 2) (j := 1) (by decide), mix_at (default : GRow) hkl]; rfl) | _ + 1, h => absurd h (by simp [SV.leaves])) rfl trivial (fun p hp _ => match p, hp with | 0, _ => if_pos rfl | _ + 1, h => absurd h (by simp [SV.leaves])) (fun q _ hne => if_neg (fun e => hne 0 (Nat.zero_lt_one) rfl e)) ⟨(.tmp rfl), trivial, trivial⟩ rfl rfl (Nat.le_of_ble_eq_true rfl) ?_
    refine ARun.pure (PureOp.assign rfl (.tmp rfl)) rfl rfl (Nat.le_of_ble_eq_true rfl) ?_
    refine ARun.nil ?_
    refine AW.region ?_
    refine ARun.pure (PureOp.move rfl (.tmp rfl)) rfl rfl (Nat.le_of_ble_eq_true rfl) ?_
    refine ARun.pure (PureOp.add (c := ((k + 1 : Nat) : Int)) rfl (.tmp rfl) .int (by rw [wrap_id (by omega) (by omega)]; omega)) rfl rfl (Nat.le_of_ble_eq_true rfl) ?_
    refine ARun.pure (PureOp.assign rfl (.tmp rfl)) rfl rfl (Nat.le_of_ble_eq_true rfl) ?_
    refine ARun.nil ?_
    exact ⟨k + 1, by omega, by dsimp only; omega, ⟨⟨⟨_, rfl, rfl⟩, ⟨_, rfl, congrArg (fun z : Nat => SV.one (.int .i64 (z : Int))) (by omega)⟩, ⟨_, rfl, rfl⟩, trivial⟩, ⟨⟨_, rfl, rfl, Nat.le_refl _, fun i j hi (hj : j < 2) => by
      by_cases h : i = k
      · subst h; simp only [AObj.f, true_and, mix_new (default : GRow) hkl]; exact (match j, hj with | 0, _ => rfl | 1, _ => rfl | _ + 2, h => absurd h (by omega))
      · simp only [AObj.f, h, false_and, if_false, mix_old (default : GRow) hkl h]⟩, ⟨_, rfl, fun q hq => famX_ext (X := fun q => if q = k * 2 + 1 then .lst 2 ((mkL crSample mrSample ((x.getD k (default : GRow)).samples) (a + ((x.take k).map crRow).sum + 1)).length) (fun i0 j0 => ([.int .i64 (((mkL crSample mrSample ((x.getD k (default : GRow)).samples) (a + ((x.take k).map crRow).sum + 1)).getD i0 (default : GSample)).at_), .int .i64 (((mkL crSample mrSample ((x.getD k (default : GRow)).samples) (a + ((x.take k).map crRow).sum + 1)).getD i0 (default : GSample)).value)] : List AV).getD j0 (.con undef)) else (famX 2 (fun i j => lonly (ceRow ((mixL crRow mrRow x a k).getD i (default : GRow)) j))) q) (g := fun i j => lonly (ceRow ((mixL crRow mrRow x a (k + 1)).getD i (default : GRow)) j)) (by decide) (fun i j hi (hj : j < 2) => by
      (try dsimp only)
      by_cases h : i = k
      · subst h; rw [upd_at hj (show 1 < 2 by decide)]; simp only [famX_at hj, true_and, mix_new (default : GRow) hkl, mix_at (default : GRow) hkl]; exact (match j, hj with | 0, _ => rfl | 1, _ => rfl | _ + 2, h => absurd h (by omega))
      · rw [upd_at hj (show 1 < 2 by decide)]; simp only [famX_at hj, h, false_and, if_false, mix_old (default : GRow) hkl h]) q hq⟩, trivial⟩⟩⟩
  · have _u := True.intro
    replace hb1 := of_decide_eq_false hb1
    have hkl : ¬ k < x.length := by omega
    refine AW.exit ?_
    refine AW.seq ?_
    refine AW.region ?_
    refine ARun.pure (PureOp.move rfl (.tmp rfl)) rfl rfl (Nat.le_of_ble_eq_true rfl) ?_
    refine ARun.pure (PureOp.assign rfl (.tmp rfl)) rfl rfl (Nat.le_of_ble_eq_true rfl) ?_
    refine ARun.nil ?_
    refine AW.ret (show ResL _ _ [.tmp 4] _ ∧ HeapLe _ _ from ⟨resI rfl ?_, ⟨⟨_, rfl, rfl, Nat.le_refl _, fun i j _ _ => by rw [mix_all hkl]⟩, ⟨_, rfl, fun q _ => by rw [mix_all hkl]⟩, trivial⟩⟩)
    rw [show ctL crRow x = _ from (ct_end hkl).symm]

theorem m_RowS (x : List GRow) (a : Nat) (ha : 0 < a ∧ a + ctL crRow x ≤ 900000000) : FnM Try.prog 51 (.one (.lst 2 x.length (fun i0 j0 => ([.str ((x.getD i0 (default : GRow)).name), .lst 2 (((x.getD i0 (default : GRow)).samples).length) (fun i1 j1 => ([.int .i64 ((((x.getD i0 (default : GRow)).samples).getD i1 (default : GSample)).at_), .int .i64 ((((x.getD i0 (default : GRow)).samples).getD i1 (default : GSample)).value)] : List AV).getD j1 (.con undef))] : List AV).getD j0 (.con undef)))) [.one (.int .i64 (a : Int))] (.one (.int .i64 ((a + ctL crRow x : Nat) : Int))) (.one (.lst 2 ((mkL crRow mrRow x a).length) (fun i0 j0 => ([.str (((mkL crRow mrRow x a).getD i0 (default : GRow)).name), .lst 2 ((((mkL crRow mrRow x a).getD i0 (default : GRow)).samples).length) (fun i1 j1 => ([.int .i64 (((((mkL crRow mrRow x a).getD i0 (default : GRow)).samples).getD i1 (default : GSample)).at_), .int .i64 (((((mkL crRow mrRow x a).getD i0 (default : GRow)).samples).getD i1 (default : GSample)).value)] : List AV).getD j1 (.con undef))] : List AV).getD j0 (.con undef)))) := by
  have h := FnM.ofRow (r := .one (.int .i64 ((a + ctL crRow x : Nat) : Int))) (args := [.one (.int .i64 (a : Int))]) (g := fun i j => ceRow (x.getD i (default : GRow)) j) (g' := fun i j => ceRow ((mkL crRow mrRow x a).getD i (default : GRow)) j) trivial (fun s hs => by simp only [List.mem_singleton] at hs; subst hs; trivial) (by decide) (fun i j hi hj => ⟨rfl, famX_at hj⟩) (fun i j hi hj => ⟨rfl, fun h => (famX_at hj).trans (lonly_L h)⟩) (fun i j hi hj => match j, hj with | 0, _ => rfl | 1, _ => rfl | _ + 2, h => absurd h (by omega)) (g_markRowS x a ha)
  have hl : (mkL crRow mrRow x a).length = x.length := mkL_len
  show FnM _ _ _ _ _ (.one (.lst 2 (mkL crRow mrRow x a).length (fun i j => ceRow ((mkL crRow mrRow x a).getD i (default : GRow)) j)))
  rw [hl]; exact h

theorem g_markHead (x : GHead) (a : Nat) (ha : 0 < a ∧ a + cvHead x ≤ 900000000) : FnG Try.prog 17 [.agg [.tre 1000000 0, .int .i64 x.offset], .one (.int .i64 (a : Int))] [(1000000, .trees 2 (fun p => ([.lst 2 x.rows.length (fun i0 j0 => ([.str ((x.rows.getD i0 (default : GRow)).name), .lst 2 (((x.rows.getD i0 (default : GRow)).samples).length) (fun i1 j1 => ([.int .i64 ((((x.rows.getD i0 (default : GRow)).samples).getD i1 (default : GSample)).at_), .int .i64 ((((x.rows.getD i0 (default : GRow)).samples).getD i1 (default : GSample)).value)] : List AV).getD j1 (.con undef))] : List AV).getD j0 (.con undef)), .int .i64 x.offset] : List AV).getD p (.con undef)))] (.one (.int .i64 ((a + cvHead x : Nat) : Int))) [(1000000, .trees 2 (fun p => ([.lst 2 (((mvHead x a).rows).length) (fun i0 j0 => ([.str ((((mvHead x a).rows).getD i0 (default : GRow)).name), .lst 2 (((((mvHead x a).rows).getD i0 (default : GRow)).samples).length) (fun i1 j1 => ([.int .i64 ((((((mvHead x a).rows).getD i0 (default : GRow)).samples).getD i1 (default : GSample)).at_), .int .i64 ((((((mvHead x a).rows).getD i0 (default : GRow)).samples).getD i1 (default : GSample)).value)] : List AV).getD j1 (.con undef))] : List AV).getD j0 (.con undef)), .int .i64 ((mvHead x a).offset)] : List AV).getD p (.con undef)))] := by
  obtain ⟨ha0, ha1⟩ := ha
  have hcv : cvHead x = 0 + ctL crRow (x.rows) := rfl
  refine FnG.of_body (fn := Try.f17) Try.func17 rfl (Nat.le_of_ble_eq_true rfl) ?_
  intro w0
  show AW _ 10 _ _ _ _
  refine AW.seq ?_
  refine AW.region ?_
  refine ARun.box (id := 0) rfl (.tmp rfl) (SV.cells_of (by exact ⟨trivial, trivial, trivial⟩)) ⟨rfl, (by repeat first | exact trivial | refine ⟨by decide, by first | rfl | exact trivial | (intro i j; first | rfl | exact getD_no rfl | (dsimp only; split <;> first | rfl | exact getD_no rfl)), ?_⟩)⟩ rfl rfl rfl (Nat.le_of_ble_eq_true rfl) ?_
  refine ARun.pure (PureOp.assign rfl .int) rfl rfl (Nat.le_of_ble_eq_true rfl) ?_
  refine ARun.nil ?_
  refine AW.seq ?_
  refine AW.region ?_
  refine ARun.pure (PureOp.fieldPtr rfl (.tmp rfl) vq_fi_29_0_0) rfl rfl (Nat.le_of_ble_eq_true rfl) ?_
  refine ARun.pure (PureOp.loadPtr rfl (.tmp rfl) vq_pl_27 rfl rfl (Nat.le_of_ble_eq_true rfl) (Nat.le_of_ble_eq_true rfl)) rfl rfl (Nat.le_of_ble_eq_true rfl) ?_
  refine ARun.pure (PureOp.move rfl (.tmp rfl)) rfl rfl (Nat.le_of_ble_eq_true rfl) ?_
  refine ARun.mark (id := 1000000) (q0 := 0) (X' := fun q => if q = 0 then .lst 2 ((mkL crRow mrRow x.rows a).length) (fun i0 j0 => ([.str (((mkL crRow mrRow x.rows a).getD i0 (default : GRow)).name), .lst 2 ((((mkL crRow mrRow x.rows a).getD i0 (default : GRow)).samples).length) (fun i1 j1 => ([.int .i64 (((((mkL crRow mrRow x.rows a).getD i0 (default : GRow)).samples).getD i1 (default : GSample)).at_), .int .i64 (((((mkL crRow mrRow x.rows a).getD i0 (default : GRow)).samples).getD i1 (default : GSample)).value)] : List AV).getD j1 (.con undef))] : List AV).getD j0 (.con undef)) else (fun p => ([.lst 2 x.rows.length (fun i0 j0 => ([.str ((x.rows.getD i0 (default : GRow)).name), .lst 2 (((x.rows.getD i0 (default : GRow)).samples).length) (fun i1 j1 => ([.int .i64 ((((x.rows.getD i0 (default : GRow)).samples).getD i1 (default : GSample)).at_), .int .i64 ((((x.rows.getD i0 (default : GRow)).samples).getD i1 (default : GSample)).value)] : List AV).getD j1 (.con undef))] : List AV).getD j0 (.con undef)), .int .i64 x.offset] : List AV).getD p (.con undef)) q) rfl (m_RowS x.rows a ⟨by omega, by omega⟩) vq_ca_51 trivial (.tmp rfl) rfl rfl rfl (Nat.le_of_ble_eq_true rfl) (fun p hp _ => match p, hp with | 0, _ => rfl | _ + 1, h => absurd h (by simp [SV.leaves])) rfl trivial (fun p hp _ => match p, hp with | 0, _ => if_pos rfl | _ + 1, h => absurd h (by simp [SV.leaves])) (fun q _ hne => if_neg (fun e => hne 0 (Nat.zero_lt_one) rfl e)) ⟨(.tmp rfl), trivial, trivial⟩ rfl rfl (Nat.le_of_ble_eq_true rfl) ?_
  refine ARun.pure (PureOp.assign rfl (.tmp rfl)) rfl rfl (Nat.le_of_ble_eq_true rfl) ?_
  refine ARun.nil ?_
  refine AW.seq ?_
  refine AW.region ?_
  refine ARun.pure (PureOp.move rfl (.tmp rfl)) rfl rfl (Nat.le_of_ble_eq_true rfl) ?_
  refine ARun.pure (PureOp.assign rfl (.tmp rfl)) rfl rfl (Nat.le_of_ble_eq_true rfl) ?_
  refine ARun.nil ?_
  refine AW.ret (show ResL _ _ [.tmp 4] _ ∧ HeapLe _ _ from ⟨resI rfl ?_, ⟨⟨_, rfl, fun q hq => match q, hq with | 0, _ => rfl | 1, _ => rfl | _ + 2, h => absurd h (by omega)⟩, trivial⟩⟩)
  omega

theorem m_Head (x : GHead) (a : Nat) (ha : 0 < a ∧ a + cvHead x ≤ 900000000) : FnM Try.prog 17 (.agg [.lst 2 x.rows.length (fun i0 j0 => ([.str ((x.rows.getD i0 (default : GRow)).name), .lst 2 (((x.rows.getD i0 (default : GRow)).samples).length) (fun i1 j1 => ([.int .i64 ((((x.rows.getD i0 (default : GRow)).samples).getD i1 (default : GSample)).at_), .int .i64 ((((x.rows.getD i0 (default : GRow)).samples).getD i1 (default : GSample)).value)] : List AV).getD j1 (.con undef))] : List AV).getD j0 (.con undef)), .int .i64 x.offset]) [.one (.int .i64 (a : Int))] (.one (.int .i64 ((a + cvHead x : Nat) : Int))) (.agg [.lst 2 (((mvHead x a).rows).length) (fun i0 j0 => ([.str ((((mvHead x a).rows).getD i0 (default : GRow)).name), .lst 2 (((((mvHead x a).rows).getD i0 (default : GRow)).samples).length) (fun i1 j1 => ([.int .i64 ((((((mvHead x a).rows).getD i0 (default : GRow)).samples).getD i1 (default : GSample)).at_), .int .i64 ((((((mvHead x a).rows).getD i0 (default : GRow)).samples).getD i1 (default : GSample)).value)] : List AV).getD j1 (.con undef))] : List AV).getD j0 (.con undef)), .int .i64 ((mvHead x a).offset)]) :=
  FnM.ofAgg trivial (fun s hs => by simp only [List.mem_singleton] at hs; subst hs; trivial) rfl (fun _ _ h => h) (g_markHead x a ha)

theorem g_markIntS (x : List Int) (a : Nat) (ha : 0 < a ∧ a + ctL c1 x ≤ 900000000) : FnG Try.prog 34 [.one (.own 1000000 1 x.length), .one (.int .i64 (a : Int))] [(1000000, .arr 1 x.length (fun i j => nmA 1000001 (i * 1 + j) (ceInt (x.getD i (0 : Int)) j))), (1000001, .trees (x.length * 1) (fun _ => .int .i64 0))] (.one (.int .i64 ((a + ctL c1 x : Nat) : Int))) [(1000000, .arr 1 x.length (fun i j => nmA 1000001 (i * 1 + j) (ceInt ((mkL c1 mkI x a).getD i (0 : Int)) j))), (1000001, .trees (x.length * 1) (fun _ => .int .i64 0))] := by
  obtain ⟨ha0, ha1⟩ := ha
  refine FnG.of_body (fn := Try.f34) Try.func34 rfl (Nat.le_of_ble_eq_true rfl) ?_
  intro w0
  show AW _ 19 _ _ _ _
  refine AW.boundO (t := 0) rfl fun hx => ?_
  refine AW.seq ?_
  refine AW.region ?_
  refine ARun.pure (PureOp.assign rfl .int) rfl rfl (Nat.le_of_ble_eq_true rfl) ?_
  refine ARun.nil ?_
  refine AW.seq ?_
  refine AW.seq ?_
  refine AW.region ?_
  refine ARun.pure (PureOp.assign rfl .int) rfl rfl (Nat.le_of_ble_eq_true rfl) ?_
  refine ARun.nil ?_
  refine AW.block ?_
  refine AW.loop (ι := Nat) (fun k => ⟨[(0, .one (.own 1000000 1 x.length)), (1, .one (.int .i64 ((a + ((x.take k).map c1).sum : Nat) : Int))), (5, .one (.int .i64 (k : Int)))], [(1000000, .arr 1 x.length (fun i j => nmA 1000001 (i * 1 + j) (ceInt ((mixL c1 mkI x a k).getD i (0 : Int)) j))), (1000001, .trees (x.length * 1) (fun _ => .int .i64 0))]⟩) (fun k => k ≤ x.length) (fun k => x.length - k) 0 (Nat.zero_le _) ⟨⟨⟨_, rfl, rfl⟩, ⟨_, rfl, by simp⟩, ⟨_, rfl, rfl⟩, trivial⟩, ⟨⟨_, rfl, rfl, Nat.le_refl _, fun i j _ _ => by rw [mix_zero]⟩, ⟨_, rfl, fun _ _ => rfl⟩, trivial⟩⟩ ?_
  intro k hk
  refine AW.seq ?_
  refine AW.seq ?_
  refine AW.region ?_
  refine ARun.pure (PureOp.move rfl (.tmp rfl)) rfl rfl (Nat.le_of_ble_eq_true rfl) ?_
  refine ARun.pure (PureOp.move rfl (.tmp rfl)) rfl rfl (Nat.le_of_ble_eq_true rfl) ?_
  refine ARun.pure (PureOp.lenOwn rfl (.tmp rfl) vq_sl_52) rfl rfl (Nat.le_of_ble_eq_true rfl) ?_
  refine ARun.pure (PureOp.intOp rfl (.tmp rfl) (.tmp rfl) rfl) rfl rfl (Nat.le_of_ble_eq_true rfl) ?_
  refine ARun.nil ?_
  refine AW.cond (.tmp rfl) (fun hb1 => ?_) (fun hb1 => ?_)
  · have _u := True.intro
    replace hb1 := of_decide_eq_true hb1
    have hkl : k < x.length := by omega
    obtain ⟨hst, hsm⟩ := ct_step (ct := c1) (0 : Int) hkl
    have hce : c1 (x.getD k (0 : Int)) = 1 := rfl
    refine AW.skip ?_
    refine AW.seq ?_
    refine AW.block ?_
    refine AW.seq ?_
    refine AW.region ?_
    refine ARun.pure (PureOp.move rfl (.tmp rfl)) rfl rfl (Nat.le_of_ble_eq_true rfl) ?_
    refine ARun.pure (PureOp.move rfl (.tmp rfl)) rfl rfl (Nat.le_of_ble_eq_true rfl) ?_
    refine ARun.pure (PureOp.move rfl (.tmp rfl)) rfl rfl (Nat.le_of_ble_eq_true rfl) ?_
    refine ARun.pure (PureOp.indexOwn (i := k) rfl (.tmp rfl) vq_el_52_1 (.tmp rfl) rfl (by omega)) rfl rfl (Nat.le_of_ble_eq_true rfl) ?_
    refine ARun.storeElem rfl (.tmp rfl) (.tmp rfl) trivial rfl (show k < x.length from by omega) rfl vq_sz_3_1 rfl rfl ?_
    refine ARun.nil ?_
    refine AW.region ?_
    refine ARun.pure (PureOp.move rfl (.tmp rfl)) rfl rfl (Nat.le_of_ble_eq_true rfl) ?_
    refine ARun.pure (PureOp.add (c := ((a + ((x.take k).map c1).sum + 1 : Nat) : Int)) rfl (.tmp rfl) .int (by rw [wrap_id (by omega) (by omega)]; omega)) rfl rfl (Nat.le_of_ble_eq_true rfl) ?_
    refine ARun.pure (PureOp.assign rfl (.tmp rfl)) rfl rfl (Nat.le_of_ble_eq_true rfl) ?_
    refine ARun.nil ?_
    refine AW.region ?_
    refine ARun.pure (PureOp.move rfl (.tmp rfl)) rfl rfl (Nat.le_of_ble_eq_true rfl) ?_
    refine ARun.pure (PureOp.add (c := ((k + 1 : Nat) : Int)) rfl (.tmp rfl) .int (by rw [wrap_id (by omega) (by omega)]; omega)) rfl rfl (Nat.le_of_ble_eq_true rfl) ?_
    refine ARun.pure (PureOp.assign rfl (.tmp rfl)) rfl rfl (Nat.le_of_ble_eq_true rfl) ?_
    refine ARun.nil ?_
    exact ⟨k + 1, by omega, by dsimp only; omega, ⟨⟨⟨_, rfl, rfl⟩, ⟨_, rfl, congrArg (fun z : Nat => SV.one (.int .i64 (z : Int))) (by omega)⟩, ⟨_, rfl, rfl⟩, trivial⟩, ⟨⟨_, rfl, rfl, Nat.le_refl _, fun i j hi (hj : j < 1) => by
      by_cases h : i = k
      · subst h; simp only [AObj.f, true_and, mix_new (0 : Int) hkl]; exact (match j, hj with | 0, _ => rfl | _ + 1, h => absurd h (by omega))
      · simp only [AObj.f, h, false_and, if_false, mix_old (0 : Int) hkl h]⟩, ⟨_, rfl, fun _ _ => rfl⟩, trivial⟩⟩⟩
  · have _u := True.intro
    replace hb1 := of_decide_eq_false hb1
    have hkl : ¬ k < x.length := by omega
    refine AW.exit ?_
    refine AW.seq ?_
    refine AW.region ?_
    refine ARun.pure (PureOp.move rfl (.tmp rfl)) rfl rfl (Nat.le_of_ble_eq_true rfl) ?_
    refine ARun.pure (PureOp.assign rfl (.tmp rfl)) rfl rfl (Nat.le_of_ble_eq_true rfl) ?_
    refine ARun.nil ?_
    refine AW.ret (show ResL _ _ [.tmp 4] _ ∧ HeapLe _ _ from ⟨resI rfl ?_, ⟨⟨_, rfl, rfl, Nat.le_refl _, fun i j _ _ => by rw [mix_all hkl]⟩, ⟨_, rfl, fun _ _ => rfl⟩, trivial⟩⟩)
    rw [show ctL c1 x = _ from (ct_end hkl).symm]

theorem m_IntS (x : List Int) (a : Nat) (ha : 0 < a ∧ a + ctL c1 x ≤ 900000000) : FnM Try.prog 34 (.one (.lst 1 x.length (fun i0 _ => .int .i64 (x.getD i0 0)))) [.one (.int .i64 (a : Int))] (.one (.int .i64 ((a + ctL c1 x : Nat) : Int))) (.one (.lst 1 ((mkL c1 mkI x a).length) (fun i0 _ => .int .i64 ((mkL c1 mkI x a).getD i0 0)))) := by
  have h := FnM.ofRow (r := .one (.int .i64 ((a + ctL c1 x : Nat) : Int))) (args := [.one (.int .i64 (a : Int))]) (g := fun i j => ceInt (x.getD i (0 : Int)) j) (g' := fun i j => ceInt ((mkL c1 mkI x a).getD i (0 : Int)) j) trivial (fun s hs => by simp only [List.mem_singleton] at hs; subst hs; trivial) (by decide) (fun i j hi hj => ⟨rfl, match j, hj with | 0, _ => rfl | _ + 1, h => absurd h (by omega)⟩) (fun i j hi hj => ⟨rfl, match j, hj with | 0, _ => fun h => by cases h | _ + 1, h => absurd h (by omega)⟩) (fun i j hi hj => match j, hj with | 0, _ => rfl | _ + 1, h => absurd h (by omega)) (g_markIntS x a ha)
  have hl : (mkL c1 mkI x a).length = x.length := mkL_len
  show FnM _ _ _ _ _ (.one (.lst 1 (mkL c1 mkI x a).length (fun i j => ceInt ((mkL c1 mkI x a).getD i (0 : Int)) j)))
  rw [hl]; exact h
end Go.Proofs.Ytmfkmifkkplidaa
