/-
  NewTell: the reference and the program make the same.
-/
import Derived.Test.YtlbnodmebehpiaaLb
import Derived.Test.YtlbnodmebehpiaaTm
import Derived.Test.YtlbnodmebehpiaaVz
namespace Go.Proofs.Ytlbnodmebehpiaa
open Go.ChangeShapes Go.WideShapes Go.ChangeAt Go.RowKit Go.BigFrame Go.Deep
set_option linter.unusedVariables false
set_option linter.unusedSimpArgs false
theorem vk_ag_66_5 : aggB Try.prog 66 5 = true := by kernel_rfl
theorem vk_ca_57 : callB Try.prog 57 = true := by kernel_rfl
theorem vk_ca_59 : callB Try.prog 59 = true := by kernel_rfl
theorem vk_ca_97 : callB Try.prog 97 = true := by kernel_rfl
theorem vk_sz_66_5 : sizeB Try.prog 66 5 = true := by kernel_rfl
def newTellD (k : Nat) : GTell := ⟨List.replicate k [], List.replicate k 0, [], [], List.replicate k 0⟩
def newTellV (x : Int) : GTell × Bool := if inB 1 4 x = true then (newTellD x.toNat, true) else (⟨[], [], [], [], []⟩, false)
theorem v_newTell (x : Int) (hx : 0 ≤ x ∧ x ≤ 5) : FnT Try.prog 97 [.one (.int .i64 x)] (.agg [.lst 1 (((newTellD x.toNat).texts).length) (fun i0 _ => .lst 1 ((((newTellD x.toNat).texts).getD i0 []).length) (fun i1 _ => .str ((((newTellD x.toNat).texts).getD i0 []).getD i1 ByteArray.empty))), .lst 1 (((newTellD x.toNat).heard).length) (fun i0 _ => .int .i64 (((newTellD x.toNat).heard).getD i0 0)), .lst 4 (((newTellD x.toNat).line).length) (fun i0 j0 => ([.bool ((((newTellD x.toNat).line).getD i0 (default : GNote)).back), .int .i64 (((((newTellD x.toNat).line).getD i0 (default : GNote)).what).who), .int .i64 (((((newTellD x.toNat).line).getD i0 (default : GNote)).what).no), .str (((((newTellD x.toNat).line).getD i0 (default : GNote)).what).text)] : List AV).getD j0 (.con undef)), .lst 3 (((newTellD x.toNat).log).length) (fun i0 j0 => ([.int .i64 ((((newTellD x.toNat).log).getD i0 (default : GTold)).who), .int .i64 ((((newTellD x.toNat).log).getD i0 (default : GTold)).no), .str ((((newTellD x.toNat).log).getD i0 (default : GTold)).text)] : List AV).getD j0 (.con undef)), .lst 1 (((newTellD x.toNat).next).length) (fun i0 _ => .int .i64 (((newTellD x.toNat).next).getD i0 0))]) := by
  obtain ⟨h0, h1⟩ := hx
  refine FnT.of_body (fn := Try.f97) Try.func97 rfl (Nat.le_of_ble_eq_true rfl)  ?_
  intro w0
  show AW _ 10 _ _ _ _
  refine AW.seq ?_
  refine AW.region ?_
  refine ARun.alloc (id := 0) (l := [.con (.slice none 0 0), .con (.slice none 0 0), .con (.slice none 0 0), .con (.slice none 0 0), .con (.slice none 0 0)]) (z := (.agg #[.slice none 0 0, .slice none 0 0, .slice none 0 0, .slice none 0 0, .slice none 0 0])) rfl (by kernel_rfl) (fun _ _ _ => ⟨_, _, rfl, rfl, ⟨_, _, rfl, rfl, ⟨_, _, rfl, rfl, ⟨_, _, rfl, rfl, ⟨_, _, rfl, rfl, rfl⟩⟩⟩⟩⟩) ⟨rfl, (by repeat first | exact trivial | refine ⟨by decide, by first | rfl | exact trivial | (intro i j; first | rfl | exact getD_no rfl | (dsimp only; split <;> first | rfl | exact getD_no rfl)), ?_⟩)⟩ rfl rfl rfl (Nat.le_of_ble_eq_true rfl) ?_
  refine ARun.nil ?_
  refine AW.seq ?_
  refine AW.anyC 7 (by kernel_rfl) (Nat.le_of_ble_eq_true rfl) (by kernel_rfl) ?_
  refine ADC.pure (PureOp.move rfl (.tmp rfl)) rfl rfl (Nat.le_of_ble_eq_true rfl) rfl ?_
  refine ADC.cons (C := some (1, .arr 1 x.toNat (fun _ j => ([.con (.slice none 0 0)] : List AV).getD j (.con undef)))) (OpStepC.make (id := 1) (n := x.toNat) (l := [.con (.slice none 0 0)]) (z := (.slice none 0 0)) (by_ := 24) rfl (by kernel_rfl) (fun _ _ _ => ⟨_, _, rfl, rfl, rfl⟩) (.tmp rfl) (.tmp rfl) (show x = _ from by omega) (show x = _ from by omega) (by omega) (by omega) (by decide) ⟨rfl, (by repeat first | exact trivial | refine ⟨by decide, by first | rfl | exact trivial | (intro i j; first | rfl | exact getD_no rfl | (dsimp only; split <;> first | rfl | exact getD_no rfl)), ?_⟩)⟩ rfl rfl) (fun p h => by cases h; exact (show Fr 1 _ ∧ _ from ⟨⟨rfl, (by repeat first | exact trivial | refine ⟨by decide, by first | rfl | exact trivial | (intro i j; first | rfl | exact getD_no rfl | (dsimp only; split <;> first | rfl | exact getD_no rfl)), ?_⟩)⟩, (fun _ j => match j with | 0 => rfl | _ + 1 => rfl)⟩)) rfl rfl (Nat.le_of_ble_eq_true rfl) ?_
  refine ADC.pure (PureOp.move rfl (.tmp rfl)) rfl rfl (Nat.le_of_ble_eq_true rfl) rfl ?_
  refine ADC.cons (C := some (2, .arr 1 x.toNat (fun _ j => ([.int .i64 0] : List AV).getD j (.con undef)))) (OpStepC.make (id := 2) (n := x.toNat) (l := [.int .i64 0]) (z := (.int .i64 0)) (by_ := 8) rfl (by kernel_rfl) (fun _ _ _ => ⟨_, _, rfl, rfl, rfl⟩) (.tmp rfl) (.tmp rfl) (show x = _ from by omega) (show x = _ from by omega) (by omega) (by omega) (by decide) ⟨rfl, (by repeat first | exact trivial | refine ⟨by decide, by first | rfl | exact trivial | (intro i j; first | rfl | exact getD_no rfl | (dsimp only; split <;> first | rfl | exact getD_no rfl)), ?_⟩)⟩ rfl rfl) (fun p h => by cases h; exact (show Fr 2 _ ∧ _ from ⟨⟨rfl, (by repeat first | exact trivial | refine ⟨by decide, by first | rfl | exact trivial | (intro i j; first | rfl | exact getD_no rfl | (dsimp only; split <;> first | rfl | exact getD_no rfl)), ?_⟩)⟩, (fun _ j => match j with | 0 => rfl | _ + 1 => rfl)⟩)) rfl rfl (Nat.le_of_ble_eq_true rfl) ?_
  refine ADC.pure (PureOp.move rfl (.tmp rfl)) rfl rfl (Nat.le_of_ble_eq_true rfl) rfl ?_
  refine ADC.cons (C := some (3, .arr 1 x.toNat (fun _ j => ([.int .i64 0] : List AV).getD j (.con undef)))) (OpStepC.make (id := 3) (n := x.toNat) (l := [.int .i64 0]) (z := (.int .i64 0)) (by_ := 8) rfl (by kernel_rfl) (fun _ _ _ => ⟨_, _, rfl, rfl, rfl⟩) (.tmp rfl) (.tmp rfl) (show x = _ from by omega) (show x = _ from by omega) (by omega) (by omega) (by decide) ⟨rfl, (by repeat first | exact trivial | refine ⟨by decide, by first | rfl | exact trivial | (intro i j; first | rfl | exact getD_no rfl | (dsimp only; split <;> first | rfl | exact getD_no rfl)), ?_⟩)⟩ rfl rfl) (fun p h => by cases h; exact (show Fr 3 _ ∧ _ from ⟨⟨rfl, (by repeat first | exact trivial | refine ⟨by decide, by first | rfl | exact trivial | (intro i j; first | rfl | exact getD_no rfl | (dsimp only; split <;> first | rfl | exact getD_no rfl)), ?_⟩)⟩, (fun _ j => match j with | 0 => rfl | _ + 1 => rfl)⟩)) rfl rfl (Nat.le_of_ble_eq_true rfl) ?_
  refine ADC.pure (PureOp.build (ys := [.own 1 1 x.toNat, .own 2 1 x.toNat, .own 3 1 x.toNat]) (l := [.con (.slice none 0 0), .con (.slice none 0 0), .con (.slice none 0 0), .con (.slice none 0 0), .con (.slice none 0 0)]) (pl := [(0, 1), (1, 1), (2, 1), (3, 1), (4, 1)]) (z := (.agg #[.slice none 0 0, .slice none 0 0, .slice none 0 0, .slice none 0 0, .slice none 0 0])) rfl (by kernel_rfl) (by kernel_rfl) (fun _ _ _ => ⟨_, _, rfl, rfl, ⟨_, _, rfl, rfl, ⟨_, _, rfl, rfl, ⟨_, _, rfl, rfl, ⟨_, _, rfl, rfl, rfl⟩⟩⟩⟩⟩) ⟨(.tmp rfl), trivial, rfl, ⟨(.tmp rfl), trivial, rfl, ⟨(.tmp rfl), trivial, rfl, trivial⟩⟩⟩ rfl) rfl rfl (Nat.le_of_ble_eq_true rfl) rfl ?_
  refine ADC.tail ?_
  refine ARun.store rfl (.tmp rfl) (.tmp rfl) (SV.cells_of (by exact ⟨trivial, trivial, ⟨rfl, (fun _ e => by cases e), (fun _ e => by cases e)⟩, ⟨rfl, (fun _ e => by cases e), (fun _ e => by cases e)⟩, trivial, trivial⟩)) rfl (Nat.le_of_ble_eq_true rfl) vk_sz_66_5 rfl rfl ?_
  refine ARun.nil ?_
  exact AW.ret (show ∃ s t, ResL _ _ [.cell 2 66] s ∧ TvS _ (ofLeaf t) 0 s _ from ⟨_, fun a b => if a = 1 then 0 else if a = 2 then 1 else if a = 3 then 4 else 1000, .inl ⟨_, rfl, .cells rfl vk_ag_66_5 rfl rfl (Nat.le_of_ble_eq_true rfl) (Nat.le_of_ble_eq_true rfl)⟩, ⟨(Tv.nilsN List.length_replicate rfl rfl rfl (Nat.le_refl _) (by rfl) (fun i hi => rfl) (fun i hi => ⟨1, _, by show AV.lst 1 (List.length ((List.replicate _ ([] : List ByteArray)).getD i [])) _ = _; rw [getD_rep hi]; rfl⟩)), (Tv.flatN List.length_replicate rfl rfl rfl (Nat.le_refl _) (by rfl) (fun i j hi hj => match j, hj with | 0, _ => congrArg (AV.int .i64) (getD_rep hi).symm | _ + 1, h => absurd h (by omega)) (fun i j hi hj => match j, hj with | 0, _ => rfl | _ + 1, h => absurd h (by omega))), .nil, .nil, (Tv.flatN List.length_replicate rfl rfl rfl (Nat.le_refl _) (by rfl) (fun i j hi hj => match j, hj with | 0, _ => congrArg (AV.int .i64) (getD_rep hi).symm | _ + 1, h => absurd h (by omega)) (fun i j hi hj => match j, hj with | 0, _ => rfl | _ + 1, h => absurd h (by omega))), trivial⟩⟩)

theorem v_sNewTell (x : Int) : FnT Try.prog 43 [.one (.int .i64 x)] (.tup2 (.agg [.lst 1 ((((newTellV x).1).texts).length) (fun i0 _ => .lst 1 (((((newTellV x).1).texts).getD i0 []).length) (fun i1 _ => .str (((((newTellV x).1).texts).getD i0 []).getD i1 ByteArray.empty))), .lst 1 ((((newTellV x).1).heard).length) (fun i0 _ => .int .i64 ((((newTellV x).1).heard).getD i0 0)), .lst 4 ((((newTellV x).1).line).length) (fun i0 j0 => ([.bool (((((newTellV x).1).line).getD i0 (default : GNote)).back), .int .i64 ((((((newTellV x).1).line).getD i0 (default : GNote)).what).who), .int .i64 ((((((newTellV x).1).line).getD i0 (default : GNote)).what).no), .str ((((((newTellV x).1).line).getD i0 (default : GNote)).what).text)] : List AV).getD j0 (.con undef)), .lst 3 ((((newTellV x).1).log).length) (fun i0 j0 => ([.int .i64 (((((newTellV x).1).log).getD i0 (default : GTold)).who), .int .i64 (((((newTellV x).1).log).getD i0 (default : GTold)).no), .str (((((newTellV x).1).log).getD i0 (default : GTold)).text)] : List AV).getD j0 (.con undef)), .lst 1 ((((newTellV x).1).next).length) (fun i0 _ => .int .i64 ((((newTellV x).1).next).getD i0 0))]) (.one (.bool ((newTellV x).2)))) := by
  refine FnT.of_body (fn := Try.f43) Try.func43 rfl (Nat.le_of_ble_eq_true rfl)  ?_
  intro w0
  show AW _ 15 _ _ _ _
  refine AW.seq ?_
  refine AW.region ?_
  refine ARun.alloc (id := 0) (l := [.con (.slice none 0 0), .con (.slice none 0 0), .con (.slice none 0 0), .con (.slice none 0 0), .con (.slice none 0 0)]) (z := (.agg #[.slice none 0 0, .slice none 0 0, .slice none 0 0, .slice none 0 0, .slice none 0 0])) rfl (by kernel_rfl) (fun _ _ _ => ⟨_, _, rfl, rfl, ⟨_, _, rfl, rfl, ⟨_, _, rfl, rfl, ⟨_, _, rfl, rfl, ⟨_, _, rfl, rfl, rfl⟩⟩⟩⟩⟩) ⟨rfl, (by repeat first | exact trivial | refine ⟨by decide, by first | rfl | exact trivial | (intro i j; first | rfl | exact getD_no rfl | (dsimp only; split <;> first | rfl | exact getD_no rfl)), ?_⟩)⟩ rfl rfl rfl (Nat.le_of_ble_eq_true rfl) ?_
  refine ARun.pure (PureOp.assign rfl .bool) rfl rfl (Nat.le_of_ble_eq_true rfl) ?_
  refine ARun.nil ?_
  refine AW.seq ?_
  refine AW.seq ?_
  refine AW.region ?_
  refine ARun.pure (PureOp.move rfl (.tmp rfl)) rfl rfl (Nat.le_of_ble_eq_true rfl) ?_
  refine ARun.pure (PureOp.call rfl (v_l1In x 1 4) ⟨⟨_, (.tmp rfl), .int⟩, ⟨_, .int, .int⟩, ⟨_, .int, .int⟩, trivial⟩ vk_ca_57 trivial) rfl rfl (Nat.le_of_ble_eq_true rfl) ?_
  refine ARun.pure (PureOp.not rfl (.tmp rfl)) rfl rfl (Nat.le_of_ble_eq_true rfl) ?_
  refine ARun.nil ?_
  refine AW.cond (.tmp rfl) (fun hb1 => ?_) (fun hb1 => ?_)
  · have _u := True.intro
    replace hb1 := of_not hb1
    refine AW.seq ?_
    refine AW.region ?_
    refine ARun.pure (PureOp.build (ys := []) (l := [.con (.slice none 0 0), .con (.slice none 0 0), .con (.slice none 0 0), .con (.slice none 0 0), .con (.slice none 0 0)]) (pl := [(0, 1), (1, 1), (2, 1), (3, 1), (4, 1)]) (z := (.agg #[.slice none 0 0, .slice none 0 0, .slice none 0 0, .slice none 0 0, .slice none 0 0])) rfl (by kernel_rfl) (by kernel_rfl) (fun _ _ _ => ⟨_, _, rfl, rfl, ⟨_, _, rfl, rfl, ⟨_, _, rfl, rfl, ⟨_, _, rfl, rfl, ⟨_, _, rfl, rfl, rfl⟩⟩⟩⟩⟩) trivial rfl) rfl rfl (Nat.le_of_ble_eq_true rfl) ?_
    refine ARun.store rfl (.tmp rfl) (.tmp rfl) (SV.cells_of (by exact ⟨⟨rfl, (fun _ e => by cases e), (fun _ e => by cases e)⟩, ⟨rfl, (fun _ e => by cases e), (fun _ e => by cases e)⟩, ⟨rfl, (fun _ e => by cases e), (fun _ e => by cases e)⟩, ⟨rfl, (fun _ e => by cases e), (fun _ e => by cases e)⟩, ⟨rfl, (fun _ e => by cases e), (fun _ e => by cases e)⟩, trivial⟩)) rfl (Nat.le_of_ble_eq_true rfl) vk_sz_66_5 rfl rfl ?_
    refine ARun.pure (PureOp.assign rfl .bool) rfl rfl (Nat.le_of_ble_eq_true rfl) ?_
    refine ARun.nil ?_
    rw [show newTellV x = (⟨[], [], [], [], []⟩, false) from if_neg (by rw [hb1]; decide)]
    exact AW.ret (show ∃ s t, ResL _ _ [.cell 2 66, .tmp 3] s ∧ TvS _ (ofLeaf t) 0 s _ from ⟨_, fun a b => 1000, .inr (.inl ⟨_, _, _, _, rfl, .cells rfl vk_ag_66_5 rfl rfl (Nat.le_of_ble_eq_true rfl) (Nat.le_of_ble_eq_true rfl), .tmp rfl, rfl⟩), ⟨⟨.nil, .nil, .nil, .nil, .nil, trivial⟩, .bool⟩⟩)
  · have _u := True.intro
    replace hb1 := not_f hb1
    obtain ⟨hlo, hhi⟩ := inB_true hb1
    refine AW.skip ?_
    refine AW.seq ?_
    refine AW.anyC 7 (by kernel_rfl) (Nat.le_of_ble_eq_true rfl) (by kernel_rfl) ?_
    refine ADC.pure (PureOp.move rfl (.tmp rfl)) rfl rfl (Nat.le_of_ble_eq_true rfl) rfl ?_
    refine ADC.cons (C := some (1, .arr 1 x.toNat (fun _ j => ([.con (.slice none 0 0)] : List AV).getD j (.con undef)))) (OpStepC.make (id := 1) (n := x.toNat) (l := [.con (.slice none 0 0)]) (z := (.slice none 0 0)) (by_ := 24) rfl (by kernel_rfl) (fun _ _ _ => ⟨_, _, rfl, rfl, rfl⟩) (.tmp rfl) (.tmp rfl) (show x = _ from by omega) (show x = _ from by omega) (by omega) (by omega) (by decide) ⟨rfl, (by repeat first | exact trivial | refine ⟨by decide, by first | rfl | exact trivial | (intro i j; first | rfl | exact getD_no rfl | (dsimp only; split <;> first | rfl | exact getD_no rfl)), ?_⟩)⟩ rfl rfl) (fun p h => by cases h; exact (show Fr 1 _ ∧ _ from ⟨⟨rfl, (by repeat first | exact trivial | refine ⟨by decide, by first | rfl | exact trivial | (intro i j; first | rfl | exact getD_no rfl | (dsimp only; split <;> first | rfl | exact getD_no rfl)), ?_⟩)⟩, (fun _ j => match j with | 0 => rfl | _ + 1 => rfl)⟩)) rfl rfl (Nat.le_of_ble_eq_true rfl) ?_
    refine ADC.pure (PureOp.move rfl (.tmp rfl)) rfl rfl (Nat.le_of_ble_eq_true rfl) rfl ?_
    refine ADC.cons (C := some (2, .arr 1 x.toNat (fun _ j => ([.int .i64 0] : List AV).getD j (.con undef)))) (OpStepC.make (id := 2) (n := x.toNat) (l := [.int .i64 0]) (z := (.int .i64 0)) (by_ := 8) rfl (by kernel_rfl) (fun _ _ _ => ⟨_, _, rfl, rfl, rfl⟩) (.tmp rfl) (.tmp rfl) (show x = _ from by omega) (show x = _ from by omega) (by omega) (by omega) (by decide) ⟨rfl, (by repeat first | exact trivial | refine ⟨by decide, by first | rfl | exact trivial | (intro i j; first | rfl | exact getD_no rfl | (dsimp only; split <;> first | rfl | exact getD_no rfl)), ?_⟩)⟩ rfl rfl) (fun p h => by cases h; exact (show Fr 2 _ ∧ _ from ⟨⟨rfl, (by repeat first | exact trivial | refine ⟨by decide, by first | rfl | exact trivial | (intro i j; first | rfl | exact getD_no rfl | (dsimp only; split <;> first | rfl | exact getD_no rfl)), ?_⟩)⟩, (fun _ j => match j with | 0 => rfl | _ + 1 => rfl)⟩)) rfl rfl (Nat.le_of_ble_eq_true rfl) ?_
    refine ADC.pure (PureOp.move rfl (.tmp rfl)) rfl rfl (Nat.le_of_ble_eq_true rfl) rfl ?_
    refine ADC.cons (C := some (3, .arr 1 x.toNat (fun _ j => ([.int .i64 0] : List AV).getD j (.con undef)))) (OpStepC.make (id := 3) (n := x.toNat) (l := [.int .i64 0]) (z := (.int .i64 0)) (by_ := 8) rfl (by kernel_rfl) (fun _ _ _ => ⟨_, _, rfl, rfl, rfl⟩) (.tmp rfl) (.tmp rfl) (show x = _ from by omega) (show x = _ from by omega) (by omega) (by omega) (by decide) ⟨rfl, (by repeat first | exact trivial | refine ⟨by decide, by first | rfl | exact trivial | (intro i j; first | rfl | exact getD_no rfl | (dsimp only; split <;> first | rfl | exact getD_no rfl)), ?_⟩)⟩ rfl rfl) (fun p h => by cases h; exact (show Fr 3 _ ∧ _ from ⟨⟨rfl, (by repeat first | exact trivial | refine ⟨by decide, by first | rfl | exact trivial | (intro i j; first | rfl | exact getD_no rfl | (dsimp only; split <;> first | rfl | exact getD_no rfl)), ?_⟩)⟩, (fun _ j => match j with | 0 => rfl | _ + 1 => rfl)⟩)) rfl rfl (Nat.le_of_ble_eq_true rfl) ?_
    refine ADC.pure (PureOp.build (ys := [.own 1 1 x.toNat, .own 2 1 x.toNat, .own 3 1 x.toNat]) (l := [.con (.slice none 0 0), .con (.slice none 0 0), .con (.slice none 0 0), .con (.slice none 0 0), .con (.slice none 0 0)]) (pl := [(0, 1), (1, 1), (2, 1), (3, 1), (4, 1)]) (z := (.agg #[.slice none 0 0, .slice none 0 0, .slice none 0 0, .slice none 0 0, .slice none 0 0])) rfl (by kernel_rfl) (by kernel_rfl) (fun _ _ _ => ⟨_, _, rfl, rfl, ⟨_, _, rfl, rfl, ⟨_, _, rfl, rfl, ⟨_, _, rfl, rfl, ⟨_, _, rfl, rfl, rfl⟩⟩⟩⟩⟩) ⟨(.tmp rfl), trivial, rfl, ⟨(.tmp rfl), trivial, rfl, ⟨(.tmp rfl), trivial, rfl, trivial⟩⟩⟩ rfl) rfl rfl (Nat.le_of_ble_eq_true rfl) rfl ?_
    refine ADC.tail ?_
    refine ARun.store rfl (.tmp rfl) (.tmp rfl) (SV.cells_of (by exact ⟨trivial, trivial, ⟨rfl, (fun _ e => by cases e), (fun _ e => by cases e)⟩, ⟨rfl, (fun _ e => by cases e), (fun _ e => by cases e)⟩, trivial, trivial⟩)) rfl (Nat.le_of_ble_eq_true rfl) vk_sz_66_5 rfl rfl ?_
    refine ARun.pure (PureOp.assign rfl .bool) rfl rfl (Nat.le_of_ble_eq_true rfl) ?_
    refine ARun.nil ?_
    rw [show newTellV x = (newTellD x.toNat, true) from if_pos hb1]
    exact AW.ret (show ∃ s t, ResL _ _ [.cell 2 66, .tmp 3] s ∧ TvS _ (ofLeaf t) 0 s _ from ⟨_, fun a b => if a = 1 then 0 else if a = 2 then 1 else if a = 3 then 4 else 1000, .inr (.inl ⟨_, _, _, _, rfl, .cells rfl vk_ag_66_5 rfl rfl (Nat.le_of_ble_eq_true rfl) (Nat.le_of_ble_eq_true rfl), .tmp rfl, rfl⟩), ⟨⟨(Tv.nilsN List.length_replicate rfl rfl rfl (Nat.le_refl _) (by rfl) (fun i hi => rfl) (fun i hi => ⟨1, _, by show AV.lst 1 (List.length ((List.replicate _ ([] : List ByteArray)).getD i [])) _ = _; rw [getD_rep hi]; rfl⟩)), (Tv.flatN List.length_replicate rfl rfl rfl (Nat.le_refl _) (by rfl) (fun i j hi hj => match j, hj with | 0, _ => congrArg (AV.int .i64) (getD_rep hi).symm | _ + 1, h => absurd h (by omega)) (fun i j hi hj => match j, hj with | 0, _ => rfl | _ + 1, h => absurd h (by omega))), .nil, .nil, (Tv.flatN List.length_replicate rfl rfl rfl (Nat.le_refl _) (by rfl) (fun i j hi hj => match j, hj with | 0, _ => congrArg (AV.int .i64) (getD_rep hi).symm | _ + 1, h => absurd h (by omega)) (fun i j hi hj => match j, hj with | 0, _ => rfl | _ + 1, h => absurd h (by omega))), trivial⟩, .bool⟩⟩)

theorem v_iNewTell (x : Int) : FnT Try.prog 44 [.one (.int .i64 x)] (.tup2 (.agg [.lst 1 ((((newTellV x).1).texts).length) (fun i0 _ => .lst 1 (((((newTellV x).1).texts).getD i0 []).length) (fun i1 _ => .str (((((newTellV x).1).texts).getD i0 []).getD i1 ByteArray.empty))), .lst 1 ((((newTellV x).1).heard).length) (fun i0 _ => .int .i64 ((((newTellV x).1).heard).getD i0 0)), .lst 4 ((((newTellV x).1).line).length) (fun i0 j0 => ([.bool (((((newTellV x).1).line).getD i0 (default : GNote)).back), .int .i64 ((((((newTellV x).1).line).getD i0 (default : GNote)).what).who), .int .i64 ((((((newTellV x).1).line).getD i0 (default : GNote)).what).no), .str ((((((newTellV x).1).line).getD i0 (default : GNote)).what).text)] : List AV).getD j0 (.con undef)), .lst 3 ((((newTellV x).1).log).length) (fun i0 j0 => ([.int .i64 (((((newTellV x).1).log).getD i0 (default : GTold)).who), .int .i64 (((((newTellV x).1).log).getD i0 (default : GTold)).no), .str (((((newTellV x).1).log).getD i0 (default : GTold)).text)] : List AV).getD j0 (.con undef)), .lst 1 ((((newTellV x).1).next).length) (fun i0 _ => .int .i64 ((((newTellV x).1).next).getD i0 0))]) (.one (.bool ((newTellV x).2)))) := by
  refine FnT.of_body (fn := Try.f44) Try.func44 rfl (Nat.le_of_ble_eq_true rfl)  ?_
  intro w0
  show AW _ 10 _ _ _ _
  refine AW.seq ?_
  refine AW.region ?_
  refine ARun.alloc (id := 0) (l := [.con (.slice none 0 0), .con (.slice none 0 0), .con (.slice none 0 0), .con (.slice none 0 0), .con (.slice none 0 0)]) (z := (.agg #[.slice none 0 0, .slice none 0 0, .slice none 0 0, .slice none 0 0, .slice none 0 0])) rfl (by kernel_rfl) (fun _ _ _ => ⟨_, _, rfl, rfl, ⟨_, _, rfl, rfl, ⟨_, _, rfl, rfl, ⟨_, _, rfl, rfl, ⟨_, _, rfl, rfl, rfl⟩⟩⟩⟩⟩) ⟨rfl, (by repeat first | exact trivial | refine ⟨by decide, by first | rfl | exact trivial | (intro i j; first | rfl | exact getD_no rfl | (dsimp only; split <;> first | rfl | exact getD_no rfl)), ?_⟩)⟩ rfl rfl rfl (Nat.le_of_ble_eq_true rfl) ?_
  refine ARun.pure (PureOp.assign rfl .bool) rfl rfl (Nat.le_of_ble_eq_true rfl) ?_
  refine ARun.nil ?_
  refine AW.seq ?_
  refine AW.seq ?_
  refine AW.region ?_
  refine ARun.pure (PureOp.move rfl (.tmp rfl)) rfl rfl (Nat.le_of_ble_eq_true rfl) ?_
  refine ARun.pure (PureOp.call rfl (v_within x 1 4) ⟨⟨_, (.tmp rfl), .int⟩, ⟨_, .int, .int⟩, ⟨_, .int, .int⟩, trivial⟩ vk_ca_59 trivial) rfl rfl (Nat.le_of_ble_eq_true rfl) ?_
  refine ARun.pure (PureOp.not rfl (.tmp rfl)) rfl rfl (Nat.le_of_ble_eq_true rfl) ?_
  refine ARun.nil ?_
  refine AW.cond (.tmp rfl) (fun hb1 => ?_) (fun hb1 => ?_)
  · have _u := True.intro
    replace hb1 := of_not hb1
    refine AW.seq ?_
    refine AW.region ?_
    refine ARun.pure (PureOp.build (ys := []) (l := [.con (.slice none 0 0), .con (.slice none 0 0), .con (.slice none 0 0), .con (.slice none 0 0), .con (.slice none 0 0)]) (pl := [(0, 1), (1, 1), (2, 1), (3, 1), (4, 1)]) (z := (.agg #[.slice none 0 0, .slice none 0 0, .slice none 0 0, .slice none 0 0, .slice none 0 0])) rfl (by kernel_rfl) (by kernel_rfl) (fun _ _ _ => ⟨_, _, rfl, rfl, ⟨_, _, rfl, rfl, ⟨_, _, rfl, rfl, ⟨_, _, rfl, rfl, ⟨_, _, rfl, rfl, rfl⟩⟩⟩⟩⟩) trivial rfl) rfl rfl (Nat.le_of_ble_eq_true rfl) ?_
    refine ARun.store rfl (.tmp rfl) (.tmp rfl) (SV.cells_of (by exact ⟨⟨rfl, (fun _ e => by cases e), (fun _ e => by cases e)⟩, ⟨rfl, (fun _ e => by cases e), (fun _ e => by cases e)⟩, ⟨rfl, (fun _ e => by cases e), (fun _ e => by cases e)⟩, ⟨rfl, (fun _ e => by cases e), (fun _ e => by cases e)⟩, ⟨rfl, (fun _ e => by cases e), (fun _ e => by cases e)⟩, trivial⟩)) rfl (Nat.le_of_ble_eq_true rfl) vk_sz_66_5 rfl rfl ?_
    refine ARun.pure (PureOp.assign rfl .bool) rfl rfl (Nat.le_of_ble_eq_true rfl) ?_
    refine ARun.nil ?_
    rw [show newTellV x = (⟨[], [], [], [], []⟩, false) from if_neg (by rw [hb1]; decide)]
    exact AW.ret (show ∃ s t, ResL _ _ [.cell 2 66, .tmp 3] s ∧ TvS _ (ofLeaf t) 0 s _ from ⟨_, fun a b => 1000, .inr (.inl ⟨_, _, _, _, rfl, .cells rfl vk_ag_66_5 rfl rfl (Nat.le_of_ble_eq_true rfl) (Nat.le_of_ble_eq_true rfl), .tmp rfl, rfl⟩), ⟨⟨.nil, .nil, .nil, .nil, .nil, trivial⟩, .bool⟩⟩)
  · have _u := True.intro
    replace hb1 := not_f hb1
    obtain ⟨hlo, hhi⟩ := inB_true hb1
    refine AW.skip ?_
    refine AW.seq ?_
    refine AW.region ?_
    refine ARun.pure (PureOp.move rfl (.tmp rfl)) rfl rfl (Nat.le_of_ble_eq_true rfl) ?_
    refine ARun.prod (K := 1) rfl (v_newTell x ⟨by omega, by omega⟩) ⟨rfl, (by repeat first | exact trivial | refine ⟨by decide, by first | rfl | exact trivial | (intro i j; first | rfl | exact getD_no rfl | (dsimp only; split <;> first | rfl | exact getD_no rfl)), ?_⟩)⟩ ⟨⟨_, (.tmp rfl), .int⟩, trivial⟩ vk_ca_97 rfl rfl rfl rfl rfl (Nat.le_of_ble_eq_true rfl) ?_
    refine ARun.store rfl (.tmp rfl) (.tmp rfl) (SV.cells_of (by exact ⟨trivial, trivial, trivial, trivial, trivial, trivial⟩)) rfl (Nat.le_of_ble_eq_true rfl) vk_sz_66_5 rfl rfl ?_
    refine ARun.pure (PureOp.assign rfl .bool) rfl rfl (Nat.le_of_ble_eq_true rfl) ?_
    refine ARun.nil ?_
    rw [show newTellV x = (newTellD x.toNat, true) from if_pos hb1]
    exact AW.ret (show ∃ s t, ResL _ _ [.cell 2 66, .tmp 3] s ∧ TvS _ (ofLeaf t) 0 s _ from ⟨_, fun a b => if a = 1 then b else 1000, .inr (.inl ⟨_, _, _, _, rfl, .cells rfl vk_ag_66_5 rfl rfl (Nat.le_of_ble_eq_true rfl) (Nat.le_of_ble_eq_true rfl), .tmp rfl, rfl⟩), ⟨⟨(Tv.cast (Tv.tre rfl (Nat.le_of_ble_eq_true rfl) (by rfl)) rfl), (Tv.cast (Tv.tre rfl (Nat.le_of_ble_eq_true rfl) (by rfl)) rfl), (Tv.cast (Tv.tre rfl (Nat.le_of_ble_eq_true rfl) (by rfl)) rfl), (Tv.cast (Tv.tre rfl (Nat.le_of_ble_eq_true rfl) (by rfl)) rfl), (Tv.cast (Tv.tre rfl (Nat.le_of_ble_eq_true rfl) (by rfl)) rfl), trivial⟩, .bool⟩⟩)
end Go.Proofs.Ytlbnodmebehpiaa
