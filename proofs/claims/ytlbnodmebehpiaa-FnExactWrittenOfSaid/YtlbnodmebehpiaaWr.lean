/-
  WrittenOf: the reference and the program make the same.
-/
import Derived.Test.YtlbnodmebehpiaaTi
import Derived.Test.YtlbnodmebehpiaaTm
import Derived.Test.YtlbnodmebehpiaaUb
namespace Go.Proofs.Ytlbnodmebehpiaa
open Go.ChangeShapes Go.WideShapes Go.ChangeAt Go.RowKit Go.BigFrame Go.Deep
set_option linter.unusedVariables false
set_option linter.unusedSimpArgs false
theorem vk_ag_125_3 : aggB Try.prog 125 3 = true := by kernel_rfl
theorem vk_ag_66_5 : aggB Try.prog 66 5 = true := by kernel_rfl
theorem vk_ca_110 : callB Try.prog 110 = true := by kernel_rfl
theorem vk_ca_116 : callB Try.prog 116 = true := by kernel_rfl
theorem vk_ca_49 : callB Try.prog 49 = true := by kernel_rfl
theorem vk_ca_59 : callB Try.prog 59 = true := by kernel_rfl
theorem vk_el_64_3 : elemB Try.prog 64 3 = true := by kernel_rfl
theorem vk_fi_125_0_0 : fieldB Try.prog 125 0 0 = true := by kernel_rfl
theorem vk_fi_125_2_2 : fieldB Try.prog 125 2 2 = true := by kernel_rfl
theorem vk_fi_66_0_0 : fieldB Try.prog 66 0 0 = true := by kernel_rfl
theorem vk_fi_66_3_3 : fieldB Try.prog 66 3 3 = true := by kernel_rfl
theorem vk_pl_3 : plainB Try.prog 3 = true := by kernel_rfl
theorem vk_pl_62 : plainB Try.prog 62 = true := by kernel_rfl
theorem vk_pl_64 : plainB Try.prog 64 = true := by kernel_rfl
theorem vk_pl_9 : plainB Try.prog 9 = true := by kernel_rfl
theorem vk_sl_62 : sliceB Try.prog 62 = true := by kernel_rfl
theorem vk_sl_64 : sliceB Try.prog 64 = true := by kernel_rfl
theorem vk_sl_80 : sliceB Try.prog 80 = true := by kernel_rfl
theorem vk_sz_125_3 : sizeB Try.prog 125 3 = true := by kernel_rfl
def isWho (x : Int) (d : GTold) : Bool := decide (d.who = x)
def writL (t : GTell) (x : Int) : List ByteArray := (t.log.filter (isWho x)).map fun d => d.text
def writC (t : GTell) (x : Int) (i _j : Nat) : AV := .str ((writL t x).getD i ByteArray.empty)
def writB (t : GTell) (x : Int) : Bool := goodTell t && inB 0 ((t.texts.length : Int) - 1) x
def writV (t : GTell) (x : Int) : List ByteArray × Bool := if writB t x = true then (writL t x, true) else ([], false)
theorem map_getD {α β : Type} (f : α → β) (d : α) (l : List α) (i : Nat) : (l.map f).getD i (f d) = f (l.getD i d) := by
  rw [List.getD_eq_getElem?_getD, List.getElem?_map, List.getD_eq_getElem?_getD]
  cases l[i]? <;> rfl
theorem writ_at {t : GTell} {x : Int} {k : Nat} (h : k < t.log.length) (hp : isWho x (t.log.getD k (default : GTold)) = true) : (writL t x).getD (cntP (isWho x) t.log k) ByteArray.empty = (t.log.getD k (default : GTold)).text := by
  rw [← (cntP_yes (default : GTold) h hp).2]
  exact map_getD (fun d : GTold => d.text) (default : GTold) _ _
theorem writ_len {t : GTell} {x : Int} {k : Nat} (h : ¬ k < t.log.length) : (writL t x).length = cntP (isWho x) t.log k := by
  rw [cntP_end h]; simp [writL]
theorem writ_le (t : GTell) (x : Int) : (writV t x).1.length ≤ t.log.length := by
  unfold writV
  by_cases h : writB t x = true
  · rw [if_pos h]
    show (writL t x).length ≤ _
    unfold writL
    rw [List.length_map]; exact List.length_filter_le ..
  · rw [if_neg h]; exact Nat.zero_le _
theorem v_sWrittenOf (t : GTell) (x : Int) (hs : t.log.length ≤ 1048576) : FnT Try.prog 52 [.agg [.lst 1 t.texts.length (fun i0 _ => .lst 1 ((t.texts.getD i0 []).length) (fun i1 _ => .str ((t.texts.getD i0 []).getD i1 ByteArray.empty))), .lst 1 t.heard.length (fun i0 _ => .int .i64 (t.heard.getD i0 0)), .lst 4 t.line.length (fun i0 j0 => ([.bool ((t.line.getD i0 (default : GNote)).back), .int .i64 (((t.line.getD i0 (default : GNote)).what).who), .int .i64 (((t.line.getD i0 (default : GNote)).what).no), .str (((t.line.getD i0 (default : GNote)).what).text)] : List AV).getD j0 (.con undef)), .lst 3 t.log.length (fun i0 j0 => ([.int .i64 ((t.log.getD i0 (default : GTold)).who), .int .i64 ((t.log.getD i0 (default : GTold)).no), .str ((t.log.getD i0 (default : GTold)).text)] : List AV).getD j0 (.con undef)), .lst 1 t.next.length (fun i0 _ => .int .i64 (t.next.getD i0 0))], .one (.int .i64 x)] (.tup2 (.one (.lst 1 (((writV t x).1).length) (fun i0 _ => .str (((writV t x).1).getD i0 ByteArray.empty)))) (.one (.bool ((writV t x).2)))) := by
  refine FnT.of_body (fn := Try.f52) Try.func52 rfl (Nat.le_of_ble_eq_true rfl)  ?_
  intro w0
  show AW _ 36 _ _ _ _
  refine AW.boundAL (t := 0) (j := 0) rfl rfl fun hx0 => ?_
  refine AW.boundAL (t := 0) (j := 3) rfl rfl fun hx => ?_
  refine AW.seq ?_
  refine AW.region ?_
  refine ARun.box (id := 0) rfl (.tmp rfl) (SV.cells_of (by exact ⟨trivial, trivial, trivial, trivial, trivial, trivial⟩)) ⟨rfl, (by repeat first | exact trivial | refine ⟨by decide, by first | rfl | exact trivial | (intro i j; first | rfl | exact getD_no rfl | (dsimp only; split <;> first | rfl | exact getD_no rfl)), ?_⟩)⟩ rfl rfl rfl (Nat.le_of_ble_eq_true rfl) ?_
  refine ARun.pure (PureOp.assign rfl .con) rfl rfl (Nat.le_of_ble_eq_true rfl) ?_
  refine ARun.pure (PureOp.assign rfl .bool) rfl rfl (Nat.le_of_ble_eq_true rfl) ?_
  refine ARun.nil ?_
  refine AW.seq ?_
  refine AW.seq ?_
  refine AW.region ?_
  refine ARun.pure (PureOp.loadPtrAgg rfl (.tmp rfl) vk_ag_66_5 rfl rfl (Nat.le_of_ble_eq_true rfl) (Nat.le_of_ble_eq_true rfl)) rfl rfl (Nat.le_of_ble_eq_true rfl) ?_
  refine ARun.pure (PureOp.call rfl (v_specGoodTell t) ⟨⟨_, (.tmp rfl), ⟨.lst, .lst, .lst, .lst, .lst, trivial⟩⟩, trivial⟩ vk_ca_49 trivial) rfl rfl (Nat.le_of_ble_eq_true rfl) ?_
  refine ARun.pure (PureOp.not rfl (.tmp rfl)) rfl rfl (Nat.le_of_ble_eq_true rfl) ?_
  refine ARun.pure (PureOp.move rfl (.tmp rfl)) rfl rfl (Nat.le_of_ble_eq_true rfl) ?_
  refine ARun.gpure (want := false) (.tf rfl) (fun hg1 => PureOp.loadPtrAgg rfl (.tmp rfl) vk_ag_66_5 rfl rfl (Nat.le_of_ble_eq_true rfl) (Nat.le_of_ble_eq_true rfl)) rfl rfl (Nat.le_of_ble_eq_true rfl) rfl (Nat.le_of_ble_eq_true rfl) ?_
  refine ARun.gpure (want := false) (.tf rfl) (fun hg2 => PureOp.move rfl (.tmp rfl)) rfl rfl (Nat.le_of_ble_eq_true rfl) rfl (Nat.le_of_ble_eq_true rfl) ?_
  refine ARun.gpure (want := false) (.tf rfl) (fun hg3 => PureOp.call rfl (v_l10Who t x) ⟨⟨_, (.gtmp rfl hg3), ⟨.lst, .lst, .lst, .lst, .lst, trivial⟩⟩, ⟨_, (.gtmp rfl hg3), .int⟩, trivial⟩ vk_ca_110 trivial) rfl rfl (Nat.le_of_ble_eq_true rfl) rfl (Nat.le_of_ble_eq_true rfl) ?_
  refine ARun.gpure (want := false) (.tf rfl) (fun hg4 => PureOp.not rfl (.gtmp rfl hg4)) rfl rfl (Nat.le_of_ble_eq_true rfl) rfl (Nat.le_of_ble_eq_true rfl) ?_
  refine ARun.pure (PureOp.pick rfl (.tmp rfl) (fun _ => .bool) (fun hp6 => .gtmp rfl (not_of hp6))) rfl rfl (Nat.le_of_ble_eq_true rfl) ?_
  refine ARun.nil ?_
  refine AW.cond (.tmp rfl) (fun hb7 => ?_) (fun hb7 => ?_)
  · have _u := True.intro
    have hcw : writB t x = false := by revert hb7; unfold writB; generalize goodTell t = a1; generalize inB 0 ((t.texts.length : Int) - 1) x = a2; revert a1 a2; decide
    refine AW.seq ?_
    refine AW.region ?_
    refine ARun.pure (PureOp.assign rfl .con) rfl rfl (Nat.le_of_ble_eq_true rfl) ?_
    refine ARun.pure (PureOp.assign rfl .bool) rfl rfl (Nat.le_of_ble_eq_true rfl) ?_
    refine ARun.nil ?_
    rw [show writV t x = ([], false) from if_neg (by rw [hcw]; decide)]
    exact AW.ret (show ∃ s t, ResL _ _ [.tmp 4, .tmp 5] s ∧ TvS _ (ofLeaf t) 0 s _ from ⟨_, fun a b => 1000, .inr (.inl ⟨_, _, _, _, rfl, .tmp rfl, .tmp rfl, rfl⟩), ⟨.nil, .bool⟩⟩)
  · have _u := True.intro
    have hcw : writB t x = true := by revert hb7; unfold writB; generalize goodTell t = a1; generalize inB 0 ((t.texts.length : Int) - 1) x = a2; revert a1 a2; decide
    refine AW.skip ?_
    refine AW.seq ?_
    refine AW.region ?_
    refine ARun.pure (PureOp.assign rfl .con) rfl rfl (Nat.le_of_ble_eq_true rfl) ?_
    refine ARun.nil ?_
    refine AW.seq ?_
    refine AW.seq ?_
    refine AW.region ?_
    refine ARun.pure (PureOp.fieldPtr rfl (.tmp rfl) vk_fi_66_3_3) rfl rfl (Nat.le_of_ble_eq_true rfl) ?_
    refine ARun.pure (PureOp.loadPtr rfl (.tmp rfl) vk_pl_64 rfl rfl (Nat.le_of_ble_eq_true rfl) (Nat.le_of_ble_eq_true rfl)) rfl rfl (Nat.le_of_ble_eq_true rfl) ?_
    refine ARun.pure (PureOp.lenLst rfl (.tmp rfl) vk_sl_64) rfl rfl (Nat.le_of_ble_eq_true rfl) ?_
    refine ARun.pure (PureOp.move rfl .int) rfl rfl (Nat.le_of_ble_eq_true rfl) ?_
    refine ARun.nil ?_
    refine AW.block ?_
    refine AW.nilSlot 6 1 1 (writC t x) rfl ⟨rfl, (by repeat first | exact trivial | refine ⟨by decide, by first | rfl | exact trivial | (intro i j; first | rfl | exact getD_no rfl | (dsimp only; split <;> first | rfl | exact getD_no rfl)), ?_⟩)⟩ ?_
    -- objects are renamed
    refine AW.loopR (ι := Nat) (fun k => ⟨[(1, .one (.int .i64 x)), (6, .one (.own 1 1 (cntP (isWho x) t.log k))), (19, .one (.lst 3 t.log.length (fun i0 j0 => ([.int .i64 ((t.log.getD i0 (default : GTold)).who), .int .i64 ((t.log.getD i0 (default : GTold)).no), .str ((t.log.getD i0 (default : GTold)).text)] : List AV).getD j0 (.con undef)))), (20, .one (.int .i64 (t.log.length : Int))), (21, .one (.int .i64 (k : Int)))], [(1, .arr 1 (cntP (isWho x) t.log k) (writC t x))]⟩) (fun k => k ≤ t.log.length) (fun k => t.log.length - k) 0 (Nat.zero_le _) ⟨⟨⟨_, rfl, rfl⟩, ⟨_, rfl, rfl⟩, ⟨_, rfl, rfl⟩, ⟨_, rfl, rfl⟩, ⟨_, rfl, rfl⟩, trivial⟩, ⟨⟨_, rfl, rfl, Nat.le_refl _, fun _ _ _ _ => rfl⟩, trivial⟩⟩ ?_
    intro k hk
    have hcl := cntP_le (isWho x) t.log k
    refine AW.seq ?_
    refine AW.region ?_
    refine ARun.pure (PureOp.intOp rfl (.tmp rfl) (.tmp rfl) rfl) rfl rfl (Nat.le_of_ble_eq_true rfl) ?_
    refine ARun.nil ?_
    refine AW.seq ?_
    refine AW.cond (.tmp rfl) (fun hb8 => ?_) (fun hb8 => ?_)
    · have _u := True.intro
      replace hb8 := of_decide_eq_true hb8
      have hkl : k < t.log.length := by omega
      refine AW.skip ?_
      refine AW.seq ?_
      refine AW.block ?_
      refine AW.seq ?_
      refine AW.region ?_
      refine ARun.pure (PureOp.indexLst (i := k) rfl (.tmp rfl) vk_el_64_3 (.tmp rfl) rfl (by omega)) rfl rfl (Nat.le_of_ble_eq_true rfl) ?_
      refine ARun.pure (PureOp.loadRefAgg rfl (.tmp rfl) vk_ag_125_3 (Nat.le_of_ble_eq_true rfl)) rfl rfl (Nat.le_of_ble_eq_true rfl) ?_
      refine ARun.alloc (id := 2) (l := [.int .i64 0, .int .i64 0, .str ByteArray.empty]) (z := (.agg #[.int .i64 0, .int .i64 0, .string ByteArray.empty])) rfl (by kernel_rfl) (fun _ _ _ => ⟨_, _, rfl, rfl, ⟨_, _, rfl, rfl, ⟨_, _, rfl, ⟨rfl, by decide⟩, rfl⟩⟩⟩) ⟨rfl, (by repeat first | exact trivial | refine ⟨by decide, by first | rfl | exact trivial | (intro i j; first | rfl | exact getD_no rfl | (dsimp only; split <;> first | rfl | exact getD_no rfl)), ?_⟩)⟩ rfl rfl rfl (Nat.le_of_ble_eq_true rfl) ?_
      refine ARun.store rfl (.tmp rfl) (.tmp rfl) (SV.cells_of (by exact ⟨trivial, trivial, trivial, trivial⟩)) rfl (Nat.le_of_ble_eq_true rfl) vk_sz_125_3 rfl rfl ?_
      refine ARun.nil ?_
      refine AW.seq ?_
      refine AW.region ?_
      refine ARun.pure (PureOp.fieldPtr rfl (.tmp rfl) vk_fi_125_0_0) rfl rfl (Nat.le_of_ble_eq_true rfl) ?_
      refine ARun.pure (PureOp.loadPtr rfl (.tmp rfl) vk_pl_3 rfl rfl (Nat.le_of_ble_eq_true rfl) (Nat.le_of_ble_eq_true rfl)) rfl rfl (Nat.le_of_ble_eq_true rfl) ?_
      refine ARun.pure (PureOp.move rfl (.tmp rfl)) rfl rfl (Nat.le_of_ble_eq_true rfl) ?_
      refine ARun.pure (PureOp.intOp rfl (.tmp rfl) (.tmp rfl) rfl) rfl rfl (Nat.le_of_ble_eq_true rfl) ?_
      refine ARun.nil ?_
      refine AW.cond (.tmp rfl) (fun hb9 => ?_) (fun hb9 => ?_)
      · have _u := True.intro
        have hp : isWho x (t.log.getD k (default : GTold)) = true := hb9
        have hc := (cntP_yes (default : GTold) hkl hp).1
        have hat := writ_at hkl hp
        refine AW.region ?_
        refine ARun.pure (PureOp.move rfl (.tmp rfl)) rfl rfl (Nat.le_of_ble_eq_true rfl) ?_
        refine ARun.pure (PureOp.fieldPtr rfl (.tmp rfl) vk_fi_125_2_2) rfl rfl (Nat.le_of_ble_eq_true rfl) ?_
        refine ARun.pure (PureOp.loadPtr rfl (.tmp rfl) vk_pl_9 rfl rfl (Nat.le_of_ble_eq_true rfl) (Nat.le_of_ble_eq_true rfl)) rfl rfl (Nat.le_of_ble_eq_true rfl) ?_
        refine ARun.slice1 (id := 3) (z := (.string ByteArray.empty)) (by_ := 16) rfl (.tmp rfl) trivial (by kernel_rfl) rfl rfl (by decide) (by decide) ⟨rfl, (by repeat first | exact trivial | refine ⟨by decide, by first | rfl | exact trivial | (intro i j; first | rfl | exact getD_no rfl | (dsimp only; split <;> first | rfl | exact getD_no rfl)), ?_⟩)⟩ rfl rfl rfl (Nat.le_of_ble_eq_true rfl) ?_
        refine ARun.append (id := 4) (sz := 1) (n := (cntP (isWho x) t.log k)) (m := 1) (by_ := 16) (z := (.string ByteArray.empty)) (f := writC t x) (g := fun _ j => ([.str ((t.log.getD k (default : GTold)).text)] : List AV).getD j (.con undef)) (h := fun i j => if i < (cntP (isWho x) t.log k) then (writC t x) i j else (fun _ j => ([.str ((t.log.getD k (default : GTold)).text)] : List AV).getD j (.con undef)) (i - (cntP (isWho x) t.log k)) j) rfl (by kernel_rfl) rfl vk_sl_80 (.own (.tmp rfl) rfl rfl rfl (Nat.le_refl _) (fun _ _ _ _ => rfl)) (.own (.tmp rfl) rfl rfl (Nat.le_refl _) (fun _ _ _ _ => rfl)) (by decide) (fun i j hi hj => match j, hj with | 0, _ => rfl | _ + 1, h => absurd h (by omega)) (fun _ _ _ _ => rfl) (by omega) (by omega) ⟨rfl, (by repeat first | exact trivial | refine ⟨by decide, by first | rfl | exact trivial | (intro i j; first | rfl | exact getD_no rfl | (dsimp only; split <;> first | rfl | exact getD_no rfl)), ?_⟩)⟩ (fun i j => by dsimp only; split <;> first | rfl | exact getD_no rfl) rfl rfl (Nat.le_of_ble_eq_true rfl) ?_
        refine ARun.pure (PureOp.assign rfl (.tmp rfl)) rfl rfl (Nat.le_of_ble_eq_true rfl) ?_
        refine ARun.nil ?_
        refine AW.region ?_
        refine ARun.pure (PureOp.add (c := ((k + 1 : Nat) : Int)) rfl (.tmp rfl) .int (by rw [wrap_id (by omega) (by omega)]; omega)) rfl rfl (Nat.le_of_ble_eq_true rfl) ?_
        refine ARun.pure (PureOp.move rfl (.tmp rfl)) rfl rfl (Nat.le_of_ble_eq_true rfl) ?_
        refine ARun.nil ?_
        exact ⟨k + 1, (swp 1 4), by omega, by dsimp only; omega, swp_inj, (swp_fix rfl rfl), ⟨⟨⟨_, rfl, rfl⟩, ⟨_, rfl, congrArg (fun n => SV.one (.own 4 1 n)) hc.symm⟩, ⟨_, rfl, rfl⟩, ⟨_, rfl, rfl⟩, ⟨_, rfl, rfl⟩, trivial⟩, ⟨⟨_, rfl, rfl, Nat.le_of_eq hc, fun i j hi (hj : j < 1) => match j, hj with | 0, _ => app_at (show i < cntP (isWho x) t.log k + 1 from hc ▸ hi) (fun _ => rfl) (fun h => by subst h; exact congrArg AV.str hat.symm) | _ + 1, h => absurd h (by omega)⟩, trivial⟩⟩⟩
      · have _u := True.intro
        have hp : isWho x (t.log.getD k (default : GTold)) = false := hb9
        have hc := cntP_no (default : GTold) hkl hp
        refine AW.skip ?_
        refine AW.region ?_
        refine ARun.pure (PureOp.add (c := ((k + 1 : Nat) : Int)) rfl (.tmp rfl) .int (by rw [wrap_id (by omega) (by omega)]; omega)) rfl rfl (Nat.le_of_ble_eq_true rfl) ?_
        refine ARun.pure (PureOp.move rfl (.tmp rfl)) rfl rfl (Nat.le_of_ble_eq_true rfl) ?_
        refine ARun.nil ?_
        exact ⟨k + 1, id, by omega, by dsimp only; omega, id_inj, (fun _ _ => rfl), ⟨⟨⟨_, rfl, rfl⟩, ⟨_, rfl, congrArg (fun n => SV.one (.own 1 1 n)) hc.symm⟩, ⟨_, rfl, rfl⟩, ⟨_, rfl, rfl⟩, ⟨_, rfl, rfl⟩, trivial⟩, ⟨⟨_, rfl, rfl, Nat.le_of_eq hc, fun _ _ _ _ => rfl⟩, trivial⟩⟩⟩
    · have _u := True.intro
      replace hb8 := of_decide_eq_false hb8
      have hkl : ¬ k < t.log.length := by omega
      refine AW.exit ?_
      refine AW.seq ?_
      refine AW.region ?_
      refine ARun.pure (PureOp.move rfl (.tmp rfl)) rfl rfl (Nat.le_of_ble_eq_true rfl) ?_
      refine ARun.pure (PureOp.assign rfl (.tmp rfl)) rfl rfl (Nat.le_of_ble_eq_true rfl) ?_
      refine ARun.pure (PureOp.assign rfl .bool) rfl rfl (Nat.le_of_ble_eq_true rfl) ?_
      refine ARun.nil ?_
      rw [show writV t x = (writL t x, true) from if_pos hcw]
      exact AW.ret (show ∃ s t, ResL _ _ [.tmp 4, .tmp 5] s ∧ TvS _ (ofLeaf t) 0 s _ from ⟨_, fun a b => if a = 1 then 0 else 1000, .inr (.inl ⟨_, _, _, _, rfl, .tmp rfl, .tmp rfl, rfl⟩), ⟨(Tv.flatN (writ_len hkl) rfl rfl rfl (Nat.le_refl _) (by rfl) (fun i j hi hj => rfl) (fun i j hi hj => rfl)), .bool⟩⟩)

theorem v_iWrittenOf (t : GTell) (x : Int) (hs : t.log.length ≤ 1048576) : FnT Try.prog 53 [.agg [.lst 1 t.texts.length (fun i0 _ => .lst 1 ((t.texts.getD i0 []).length) (fun i1 _ => .str ((t.texts.getD i0 []).getD i1 ByteArray.empty))), .lst 1 t.heard.length (fun i0 _ => .int .i64 (t.heard.getD i0 0)), .lst 4 t.line.length (fun i0 j0 => ([.bool ((t.line.getD i0 (default : GNote)).back), .int .i64 (((t.line.getD i0 (default : GNote)).what).who), .int .i64 (((t.line.getD i0 (default : GNote)).what).no), .str (((t.line.getD i0 (default : GNote)).what).text)] : List AV).getD j0 (.con undef)), .lst 3 t.log.length (fun i0 j0 => ([.int .i64 ((t.log.getD i0 (default : GTold)).who), .int .i64 ((t.log.getD i0 (default : GTold)).no), .str ((t.log.getD i0 (default : GTold)).text)] : List AV).getD j0 (.con undef)), .lst 1 t.next.length (fun i0 _ => .int .i64 (t.next.getD i0 0))], .one (.int .i64 x)] (.tup2 (.one (.lst 1 (((writV t x).1).length) (fun i0 _ => .str (((writV t x).1).getD i0 ByteArray.empty)))) (.one (.bool ((writV t x).2)))) := by
  refine FnT.of_body (fn := Try.f53) Try.func53 rfl (Nat.le_of_ble_eq_true rfl)  ?_
  intro w0
  show AW _ 39 _ _ _ _
  refine AW.boundAL (t := 0) (j := 0) rfl rfl fun hx0 => ?_
  refine AW.boundAL (t := 0) (j := 3) rfl rfl fun hx => ?_
  refine AW.seq ?_
  refine AW.region ?_
  refine ARun.box (id := 0) rfl (.tmp rfl) (SV.cells_of (by exact ⟨trivial, trivial, trivial, trivial, trivial, trivial⟩)) ⟨rfl, (by repeat first | exact trivial | refine ⟨by decide, by first | rfl | exact trivial | (intro i j; first | rfl | exact getD_no rfl | (dsimp only; split <;> first | rfl | exact getD_no rfl)), ?_⟩)⟩ rfl rfl rfl (Nat.le_of_ble_eq_true rfl) ?_
  refine ARun.pure (PureOp.assign rfl .con) rfl rfl (Nat.le_of_ble_eq_true rfl) ?_
  refine ARun.pure (PureOp.assign rfl .bool) rfl rfl (Nat.le_of_ble_eq_true rfl) ?_
  refine ARun.nil ?_
  refine AW.seq ?_
  refine AW.seq ?_
  refine AW.region ?_
  refine ARun.pure (PureOp.loadPtrAgg rfl (.tmp rfl) vk_ag_66_5 rfl rfl (Nat.le_of_ble_eq_true rfl) (Nat.le_of_ble_eq_true rfl)) rfl rfl (Nat.le_of_ble_eq_true rfl) ?_
  refine ARun.pure (PureOp.call rfl (v_isTell t) ⟨⟨_, (.tmp rfl), ⟨.lst, .lst, .lst, .lst, .lst, trivial⟩⟩, trivial⟩ vk_ca_116 trivial) rfl rfl (Nat.le_of_ble_eq_true rfl) ?_
  refine ARun.pure (PureOp.not rfl (.tmp rfl)) rfl rfl (Nat.le_of_ble_eq_true rfl) ?_
  refine ARun.pure (PureOp.move rfl (.tmp rfl)) rfl rfl (Nat.le_of_ble_eq_true rfl) ?_
  refine ARun.gpure (want := false) (.tf rfl) (fun hg1 => PureOp.move rfl (.tmp rfl)) rfl rfl (Nat.le_of_ble_eq_true rfl) rfl (Nat.le_of_ble_eq_true rfl) ?_
  refine ARun.gpure (want := false) (.tf rfl) (fun hg2 => PureOp.fieldPtr rfl (.tmp rfl) vk_fi_66_0_0) rfl rfl (Nat.le_of_ble_eq_true rfl) rfl (Nat.le_of_ble_eq_true rfl) ?_
  refine ARun.gpure (want := false) (.tf rfl) (fun hg3 => PureOp.loadPtr rfl (.gtmp rfl hg3) vk_pl_62 rfl rfl (Nat.le_of_ble_eq_true rfl) (Nat.le_of_ble_eq_true rfl)) rfl rfl (Nat.le_of_ble_eq_true rfl) rfl (Nat.le_of_ble_eq_true rfl) ?_
  refine ARun.gpure (want := false) (.tf rfl) (fun hg4 => PureOp.lenLst rfl (.gtmp rfl hg4) vk_sl_62) rfl rfl (Nat.le_of_ble_eq_true rfl) rfl (Nat.le_of_ble_eq_true rfl) ?_
  refine ARun.gpure (want := false) (.tf rfl) (fun hg5 => PureOp.sub (c := (t.texts.length : Int) - 1) rfl (.gtmp rfl hg5) .int (wrap_id (by omega) (by omega))) rfl rfl (Nat.le_of_ble_eq_true rfl) rfl (Nat.le_of_ble_eq_true rfl) ?_
  refine ARun.gpure (want := false) (.tf rfl) (fun hg6 => PureOp.call rfl (v_within x 0 ((t.texts.length : Int) - 1)) ⟨⟨_, (.gtmp rfl hg6), .int⟩, ⟨_, .int, .int⟩, ⟨_, (.gtmp rfl hg6), .int⟩, trivial⟩ vk_ca_59 trivial) rfl rfl (Nat.le_of_ble_eq_true rfl) rfl (Nat.le_of_ble_eq_true rfl) ?_
  refine ARun.gpure (want := false) (.tf rfl) (fun hg7 => PureOp.not rfl (.gtmp rfl hg7)) rfl rfl (Nat.le_of_ble_eq_true rfl) rfl (Nat.le_of_ble_eq_true rfl) ?_
  refine ARun.pure (PureOp.pick rfl (.tmp rfl) (fun _ => .bool) (fun hp9 => .gtmp rfl (not_of hp9))) rfl rfl (Nat.le_of_ble_eq_true rfl) ?_
  refine ARun.nil ?_
  refine AW.cond (.tmp rfl) (fun hb10 => ?_) (fun hb10 => ?_)
  · have _u := True.intro
    have hcw : writB t x = false := by revert hb10; unfold writB; generalize goodTell t = a1; generalize inB 0 ((t.texts.length : Int) - 1) x = a2; revert a1 a2; decide
    refine AW.seq ?_
    refine AW.region ?_
    refine ARun.pure (PureOp.assign rfl .con) rfl rfl (Nat.le_of_ble_eq_true rfl) ?_
    refine ARun.pure (PureOp.assign rfl .bool) rfl rfl (Nat.le_of_ble_eq_true rfl) ?_
    refine ARun.nil ?_
    rw [show writV t x = ([], false) from if_neg (by rw [hcw]; decide)]
    exact AW.ret (show ∃ s t, ResL _ _ [.tmp 4, .tmp 5] s ∧ TvS _ (ofLeaf t) 0 s _ from ⟨_, fun a b => 1000, .inr (.inl ⟨_, _, _, _, rfl, .tmp rfl, .tmp rfl, rfl⟩), ⟨.nil, .bool⟩⟩)
  · have _u := True.intro
    have hcw : writB t x = true := by revert hb10; unfold writB; generalize goodTell t = a1; generalize inB 0 ((t.texts.length : Int) - 1) x = a2; revert a1 a2; decide
    refine AW.skip ?_
    refine AW.seq ?_
    refine AW.region ?_
    refine ARun.pure (PureOp.assign rfl .con) rfl rfl (Nat.le_of_ble_eq_true rfl) ?_
    refine ARun.nil ?_
    refine AW.seq ?_
    refine AW.seq ?_
    refine AW.region ?_
    refine ARun.pure (PureOp.fieldPtr rfl (.tmp rfl) vk_fi_66_3_3) rfl rfl (Nat.le_of_ble_eq_true rfl) ?_
    refine ARun.pure (PureOp.loadPtr rfl (.tmp rfl) vk_pl_64 rfl rfl (Nat.le_of_ble_eq_true rfl) (Nat.le_of_ble_eq_true rfl)) rfl rfl (Nat.le_of_ble_eq_true rfl) ?_
    refine ARun.pure (PureOp.lenLst rfl (.tmp rfl) vk_sl_64) rfl rfl (Nat.le_of_ble_eq_true rfl) ?_
    refine ARun.pure (PureOp.move rfl .int) rfl rfl (Nat.le_of_ble_eq_true rfl) ?_
    refine ARun.nil ?_
    refine AW.block ?_
    refine AW.nilSlot 6 1 1 (writC t x) rfl ⟨rfl, (by repeat first | exact trivial | refine ⟨by decide, by first | rfl | exact trivial | (intro i j; first | rfl | exact getD_no rfl | (dsimp only; split <;> first | rfl | exact getD_no rfl)), ?_⟩)⟩ ?_
    -- objects are renamed
    refine AW.loopR (ι := Nat) (fun k => ⟨[(1, .one (.int .i64 x)), (6, .one (.own 1 1 (cntP (isWho x) t.log k))), (22, .one (.lst 3 t.log.length (fun i0 j0 => ([.int .i64 ((t.log.getD i0 (default : GTold)).who), .int .i64 ((t.log.getD i0 (default : GTold)).no), .str ((t.log.getD i0 (default : GTold)).text)] : List AV).getD j0 (.con undef)))), (23, .one (.int .i64 (t.log.length : Int))), (24, .one (.int .i64 (k : Int)))], [(1, .arr 1 (cntP (isWho x) t.log k) (writC t x))]⟩) (fun k => k ≤ t.log.length) (fun k => t.log.length - k) 0 (Nat.zero_le _) ⟨⟨⟨_, rfl, rfl⟩, ⟨_, rfl, rfl⟩, ⟨_, rfl, rfl⟩, ⟨_, rfl, rfl⟩, ⟨_, rfl, rfl⟩, trivial⟩, ⟨⟨_, rfl, rfl, Nat.le_refl _, fun _ _ _ _ => rfl⟩, trivial⟩⟩ ?_
    intro k hk
    have hcl := cntP_le (isWho x) t.log k
    refine AW.seq ?_
    refine AW.region ?_
    refine ARun.pure (PureOp.intOp rfl (.tmp rfl) (.tmp rfl) rfl) rfl rfl (Nat.le_of_ble_eq_true rfl) ?_
    refine ARun.nil ?_
    refine AW.seq ?_
    refine AW.cond (.tmp rfl) (fun hb11 => ?_) (fun hb11 => ?_)
    · have _u := True.intro
      replace hb11 := of_decide_eq_true hb11
      have hkl : k < t.log.length := by omega
      refine AW.skip ?_
      refine AW.seq ?_
      refine AW.block ?_
      refine AW.seq ?_
      refine AW.region ?_
      refine ARun.pure (PureOp.indexLst (i := k) rfl (.tmp rfl) vk_el_64_3 (.tmp rfl) rfl (by omega)) rfl rfl (Nat.le_of_ble_eq_true rfl) ?_
      refine ARun.pure (PureOp.loadRefAgg rfl (.tmp rfl) vk_ag_125_3 (Nat.le_of_ble_eq_true rfl)) rfl rfl (Nat.le_of_ble_eq_true rfl) ?_
      refine ARun.alloc (id := 2) (l := [.int .i64 0, .int .i64 0, .str ByteArray.empty]) (z := (.agg #[.int .i64 0, .int .i64 0, .string ByteArray.empty])) rfl (by kernel_rfl) (fun _ _ _ => ⟨_, _, rfl, rfl, ⟨_, _, rfl, rfl, ⟨_, _, rfl, ⟨rfl, by decide⟩, rfl⟩⟩⟩) ⟨rfl, (by repeat first | exact trivial | refine ⟨by decide, by first | rfl | exact trivial | (intro i j; first | rfl | exact getD_no rfl | (dsimp only; split <;> first | rfl | exact getD_no rfl)), ?_⟩)⟩ rfl rfl rfl (Nat.le_of_ble_eq_true rfl) ?_
      refine ARun.store rfl (.tmp rfl) (.tmp rfl) (SV.cells_of (by exact ⟨trivial, trivial, trivial, trivial⟩)) rfl (Nat.le_of_ble_eq_true rfl) vk_sz_125_3 rfl rfl ?_
      refine ARun.nil ?_
      refine AW.seq ?_
      refine AW.region ?_
      refine ARun.pure (PureOp.fieldPtr rfl (.tmp rfl) vk_fi_125_0_0) rfl rfl (Nat.le_of_ble_eq_true rfl) ?_
      refine ARun.pure (PureOp.loadPtr rfl (.tmp rfl) vk_pl_3 rfl rfl (Nat.le_of_ble_eq_true rfl) (Nat.le_of_ble_eq_true rfl)) rfl rfl (Nat.le_of_ble_eq_true rfl) ?_
      refine ARun.pure (PureOp.move rfl (.tmp rfl)) rfl rfl (Nat.le_of_ble_eq_true rfl) ?_
      refine ARun.pure (PureOp.intOp rfl (.tmp rfl) (.tmp rfl) rfl) rfl rfl (Nat.le_of_ble_eq_true rfl) ?_
      refine ARun.nil ?_
      refine AW.cond (.tmp rfl) (fun hb12 => ?_) (fun hb12 => ?_)
      · have _u := True.intro
        have hp : isWho x (t.log.getD k (default : GTold)) = true := hb12
        have hc := (cntP_yes (default : GTold) hkl hp).1
        have hat := writ_at hkl hp
        refine AW.region ?_
        refine ARun.pure (PureOp.move rfl (.tmp rfl)) rfl rfl (Nat.le_of_ble_eq_true rfl) ?_
        refine ARun.pure (PureOp.fieldPtr rfl (.tmp rfl) vk_fi_125_2_2) rfl rfl (Nat.le_of_ble_eq_true rfl) ?_
        refine ARun.pure (PureOp.loadPtr rfl (.tmp rfl) vk_pl_9 rfl rfl (Nat.le_of_ble_eq_true rfl) (Nat.le_of_ble_eq_true rfl)) rfl rfl (Nat.le_of_ble_eq_true rfl) ?_
        refine ARun.slice1 (id := 3) (z := (.string ByteArray.empty)) (by_ := 16) rfl (.tmp rfl) trivial (by kernel_rfl) rfl rfl (by decide) (by decide) ⟨rfl, (by repeat first | exact trivial | refine ⟨by decide, by first | rfl | exact trivial | (intro i j; first | rfl | exact getD_no rfl | (dsimp only; split <;> first | rfl | exact getD_no rfl)), ?_⟩)⟩ rfl rfl rfl (Nat.le_of_ble_eq_true rfl) ?_
        refine ARun.append (id := 4) (sz := 1) (n := (cntP (isWho x) t.log k)) (m := 1) (by_ := 16) (z := (.string ByteArray.empty)) (f := writC t x) (g := fun _ j => ([.str ((t.log.getD k (default : GTold)).text)] : List AV).getD j (.con undef)) (h := fun i j => if i < (cntP (isWho x) t.log k) then (writC t x) i j else (fun _ j => ([.str ((t.log.getD k (default : GTold)).text)] : List AV).getD j (.con undef)) (i - (cntP (isWho x) t.log k)) j) rfl (by kernel_rfl) rfl vk_sl_80 (.own (.tmp rfl) rfl rfl rfl (Nat.le_refl _) (fun _ _ _ _ => rfl)) (.own (.tmp rfl) rfl rfl (Nat.le_refl _) (fun _ _ _ _ => rfl)) (by decide) (fun i j hi hj => match j, hj with | 0, _ => rfl | _ + 1, h => absurd h (by omega)) (fun _ _ _ _ => rfl) (by omega) (by omega) ⟨rfl, (by repeat first | exact trivial | refine ⟨by decide, by first | rfl | exact trivial | (intro i j; first | rfl | exact getD_no rfl | (dsimp only; split <;> first | rfl | exact getD_no rfl)), ?_⟩)⟩ (fun i j => by dsimp only; split <;> first | rfl | exact getD_no rfl) rfl rfl (Nat.le_of_ble_eq_true rfl) ?_
        refine ARun.pure (PureOp.assign rfl (.tmp rfl)) rfl rfl (Nat.le_of_ble_eq_true rfl) ?_
        refine ARun.nil ?_
        refine AW.region ?_
        refine ARun.pure (PureOp.add (c := ((k + 1 : Nat) : Int)) rfl (.tmp rfl) .int (by rw [wrap_id (by omega) (by omega)]; omega)) rfl rfl (Nat.le_of_ble_eq_true rfl) ?_
        refine ARun.pure (PureOp.move rfl (.tmp rfl)) rfl rfl (Nat.le_of_ble_eq_true rfl) ?_
        refine ARun.nil ?_
        exact ⟨k + 1, (swp 1 4), by omega, by dsimp only; omega, swp_inj, (swp_fix rfl rfl), ⟨⟨⟨_, rfl, rfl⟩, ⟨_, rfl, congrArg (fun n => SV.one (.own 4 1 n)) hc.symm⟩, ⟨_, rfl, rfl⟩, ⟨_, rfl, rfl⟩, ⟨_, rfl, rfl⟩, trivial⟩, ⟨⟨_, rfl, rfl, Nat.le_of_eq hc, fun i j hi (hj : j < 1) => match j, hj with | 0, _ => app_at (show i < cntP (isWho x) t.log k + 1 from hc ▸ hi) (fun _ => rfl) (fun h => by subst h; exact congrArg AV.str hat.symm) | _ + 1, h => absurd h (by omega)⟩, trivial⟩⟩⟩
      · have _u := True.intro
        have hp : isWho x (t.log.getD k (default : GTold)) = false := hb12
        have hc := cntP_no (default : GTold) hkl hp
        refine AW.skip ?_
        refine AW.region ?_
        refine ARun.pure (PureOp.add (c := ((k + 1 : Nat) : Int)) rfl (.tmp rfl) .int (by rw [wrap_id (by omega) (by omega)]; omega)) rfl rfl (Nat.le_of_ble_eq_true rfl) ?_
        refine ARun.pure (PureOp.move rfl (.tmp rfl)) rfl rfl (Nat.le_of_ble_eq_true rfl) ?_
        refine ARun.nil ?_
        exact ⟨k + 1, id, by omega, by dsimp only; omega, id_inj, (fun _ _ => rfl), ⟨⟨⟨_, rfl, rfl⟩, ⟨_, rfl, congrArg (fun n => SV.one (.own 1 1 n)) hc.symm⟩, ⟨_, rfl, rfl⟩, ⟨_, rfl, rfl⟩, ⟨_, rfl, rfl⟩, trivial⟩, ⟨⟨_, rfl, rfl, Nat.le_of_eq hc, fun _ _ _ _ => rfl⟩, trivial⟩⟩⟩
    · have _u := True.intro
      replace hb11 := of_decide_eq_false hb11
      have hkl : ¬ k < t.log.length := by omega
      refine AW.exit ?_
      refine AW.seq ?_
      refine AW.region ?_
      refine ARun.pure (PureOp.move rfl (.tmp rfl)) rfl rfl (Nat.le_of_ble_eq_true rfl) ?_
      refine ARun.pure (PureOp.assign rfl (.tmp rfl)) rfl rfl (Nat.le_of_ble_eq_true rfl) ?_
      refine ARun.pure (PureOp.assign rfl .bool) rfl rfl (Nat.le_of_ble_eq_true rfl) ?_
      refine ARun.nil ?_
      rw [show writV t x = (writL t x, true) from if_pos hcw]
      exact AW.ret (show ∃ s t, ResL _ _ [.tmp 4, .tmp 5] s ∧ TvS _ (ofLeaf t) 0 s _ from ⟨_, fun a b => if a = 1 then 0 else 1000, .inr (.inl ⟨_, _, _, _, rfl, .tmp rfl, .tmp rfl, rfl⟩), ⟨(Tv.flatN (writ_len hkl) rfl rfl rfl (Nat.le_refl _) (by rfl) (fun i j hi hj => rfl) (fun i j hi hj => rfl)), .bool⟩⟩)
end Go.Proofs.Ytlbnodmebehpiaa
