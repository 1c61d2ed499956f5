/-
  Part 3 of the proof: the texts of a seat's own library, joined.
-/
import Derived.Shelf.Bits.Mul64
import Derived.Test.YtlbnodmebehpiaaNm1
import Derived.Test.YtlbnodmebehpiaaNm2
/-
  math/bits.Mul by the library's own contract; slices.Repeat, slices.Clone.
-/
namespace Go.Proofs.Ytlbnodmebehpiaa
open Go.ChangeShapes Go.WideShapes Go.ChangeAt Go.RowKit Go.BigFrame Go.Deep
set_option linter.unusedVariables false
set_option linter.unusedSimpArgs false
theorem vmb_ca_150 : callB Try.prog 150 = true := by kernel_rfl
theorem vmb_cv_165_3_.i64 : convB Try.prog 165 3 .i64 = true := by kernel_rfl
theorem vmb_cv_3_165_.u64 : convB Try.prog 3 165 .u64 = true := by kernel_rfl
theorem vmb_el_22_1 : elemB Try.prog 22 1 = true := by kernel_rfl
theorem vmb_sl_22 : sliceB Try.prog 22 = true := by kernel_rfl
def ren_n212 : Shelf.Ren where
  f := fun x => match x with | 212 => 150 | 263 => 153 | 264 => 154 | n => n
  t := fun x => match x with | 46 => 165 | 51 => 170 | 146 => 171 | 53 => 173 | 148 => 174 | n => n
  g := fun x => x
theorem lays_n212 : Lays.n212 Try.prog ren_n212 where
  mixed := by kernel_rfl
  f212 := by kernel_rfl
  f263 := by kernel_rfl
  f264 := by kernel_rfl
  t46 := Try.underlying165
  a46 := Try.isAgg165
  z46 := Try.sizeOf165
  v46 := Try.zeroValue165
  t51 := Try.underlying170
  a51 := Try.isAgg170
  z51 := Try.sizeOf170
  v51 := Try.zeroValue170
  t53 := Try.underlying173
  a53 := Try.isAgg173
  z53 := Try.sizeOf173
  v53 := Try.zeroValue173
  t146 := Try.underlying171
  a146 := Try.isAgg171
  z146 := Try.sizeOf171
  v146 := Try.zeroValue171
  t148 := Try.underlying174
  a148 := Try.isAgg174
  z148 := Try.sizeOf174
  v148 := Try.zeroValue174

/-- The product of one and n: nothing in the upper half. -/
theorem v_Mul (n : Nat) (hn : n ≤ 5) : Fn Try.prog 150 [.one (.int .u64 1), .one (.int .u64 (n : Int))] (.tup2 (.one (.int .u64 0)) (.one (.int .u64 (n : Int)))) := by
  intro w S vs hS hd
  obtain ⟨v, vs1, rfl, h1, u, vs2, rfl, h2, h3⟩ := hd
  obtain rfl : vs2 = [] := h3
  obtain ⟨rfl, _⟩ := h1
  obtain ⟨rfl, _⟩ := h2
  refine (Any.bits_Mul lays_n212 1 n (by omega) (by omega) w).mono fun e w' ⟨he, hw⟩ => ⟨?_, hw ▸ Below.refl _ _⟩
  rw [he, show 1 * n / 18446744073709551616 = 0 from by omega, show 1 * n % 18446744073709551616 = n from by omega]; rfl
def repF (x : Int) (k i _j : Nat) : AV := if i < k then .int .i64 x else .int .i64 0
theorem repF_0 {x : Int} {i j : Nat} (hj : j < 1) : (if 0 ≤ i ∧ i < 0 + 1 then AV.int .i64 x else ([.int .i64 0] : List AV).getD j (.con undef)) = repF x 1 i j := by
  obtain rfl : j = 0 := by omega
  unfold repF
  by_cases h : i < 1
  · rw [if_pos h, if_pos (by omega)]
  · rw [if_neg h, if_neg (by omega)]; rfl
theorem repF_s {x : Int} {k r i j : Nat} (hr : r ≤ k) : (if k ≤ i ∧ i < k + r then repF x k (i - k) j else repF x k i j) = repF x (k + r) i j := by
  unfold repF
  by_cases h : k ≤ i ∧ i < k + r
  · rw [if_pos h, if_pos (show i - k < k by omega), if_pos h.2]
  · rw [if_neg h]
    by_cases h2 : i < k
    · rw [if_pos h2, if_pos (by omega)]
    · rw [if_neg h2, if_neg (by omega)]
theorem v_Repeat (x : Int) (n : Nat) (hn : 1 ≤ n ∧ n ≤ 5) : FnT Try.prog 129 [.one (.lst 1 1 (fun _ _ => .int .i64 x)), .one (.int .i64 (n : Int))] (.one (.lst 1 ((List.replicate n x).length) (fun i0 _ => .int .i64 ((List.replicate n x).getD i0 0)))) := by
  obtain ⟨hn1, hn5⟩ := hn
  refine FnT.of_body (fn := Try.f129) Try.func129 rfl (Nat.le_of_ble_eq_true rfl)  ?_
  intro w0
  show AW _ 48 _ _ _ _
  refine AW.seq ?_
  refine AW.region ?_
  refine ARun.pure (PureOp.assign rfl .con) rfl rfl (Nat.le_of_ble_eq_true rfl) ?_
  refine ARun.nil ?_
  refine AW.seq ?_
  refine AW.seq ?_
  refine AW.region ?_
  refine ARun.pure (PureOp.move rfl (.tmp rfl)) rfl rfl (Nat.le_of_ble_eq_true rfl) ?_
  refine ARun.pure (PureOp.intOp rfl (.tmp rfl) .int rfl) rfl rfl (Nat.le_of_ble_eq_true rfl) ?_
  refine ARun.nil ?_
  refine AW.cond (.tmp rfl) (fun hb1 => ?_) (fun hb1 => ?_)
  · have _u := True.intro
    exfalso
    revert hb1
    simp
    try omega
    --end
  · have _u := True.intro
    refine AW.skip ?_
    refine AW.seq ?_
    refine AW.region ?_
    refine ARun.pure (PureOp.move rfl (.tmp rfl)) rfl rfl (Nat.le_of_ble_eq_true rfl) ?_
    refine ARun.pure (PureOp.lenLst rfl (.tmp rfl) vmb_sl_22) rfl rfl (Nat.le_of_ble_eq_true rfl) ?_
    refine ARun.pure (PureOp.conv (b := ((1 : Nat) : Int)) rfl (.tmp rfl) vmb_cv_3_165_.u64 (wrap_u64 (by omega) (by omega))) rfl rfl (Nat.le_of_ble_eq_true rfl) ?_
    refine ARun.pure (PureOp.move rfl (.tmp rfl)) rfl rfl (Nat.le_of_ble_eq_true rfl) ?_
    refine ARun.pure (PureOp.conv (b := ((n : Nat) : Int)) rfl (.tmp rfl) vmb_cv_3_165_.u64 (wrap_u64 (by omega) (by omega))) rfl rfl (Nat.le_of_ble_eq_true rfl) ?_
    refine ARun.pure (PureOp.call rfl (v_Mul n (by omega)) ⟨⟨_, (.tmp rfl), .int⟩, ⟨_, (.tmp rfl), .int⟩, trivial⟩ vmb_ca_150 ⟨trivial, trivial⟩) rfl rfl (Nat.le_of_ble_eq_true rfl) ?_
    refine ARun.pure (PureOp.move rfl (.tmp rfl)) rfl rfl (Nat.le_of_ble_eq_true rfl) ?_
    refine ARun.pure (PureOp.ext2a rfl (.tmp rfl)) rfl rfl (Nat.le_of_ble_eq_true rfl) ?_
    refine ARun.pure (PureOp.ext2b rfl (.tmp rfl)) rfl rfl (Nat.le_of_ble_eq_true rfl) ?_
    refine ARun.pure (PureOp.assign rfl (.tmp rfl)) rfl rfl (Nat.le_of_ble_eq_true rfl) ?_
    refine ARun.pure (PureOp.assign rfl (.tmp rfl)) rfl rfl (Nat.le_of_ble_eq_true rfl) ?_
    refine ARun.nil ?_
    refine AW.seq ?_
    refine AW.seq ?_
    refine AW.region ?_
    refine ARun.pure (PureOp.move rfl (.tmp rfl)) rfl rfl (Nat.le_of_ble_eq_true rfl) ?_
    refine ARun.pure (PureOp.intOp rfl (.tmp rfl) .int rfl) rfl rfl (Nat.le_of_ble_eq_true rfl) ?_
    refine ARun.pure (PureOp.move rfl (.tmp rfl)) rfl rfl (Nat.le_of_ble_eq_true rfl) ?_
    refine ARun.gpure (want := false) (.tf rfl) (fun hg2 => PureOp.move rfl (.tmp rfl)) rfl rfl (Nat.le_of_ble_eq_true rfl) rfl (Nat.le_of_ble_eq_true rfl) ?_
    refine ARun.gpure (want := false) (.tf rfl) (fun hg3 => PureOp.intOp rfl (.gtmp rfl hg3) .int rfl) rfl rfl (Nat.le_of_ble_eq_true rfl) rfl (Nat.le_of_ble_eq_true rfl) ?_
    refine ARun.pure (PureOp.pick rfl (.tmp rfl) (fun _ => .bool) (fun hp5 => .gtmp rfl (not_of hp5))) rfl rfl (Nat.le_of_ble_eq_true rfl) ?_
    refine ARun.nil ?_
    refine AW.cond (.tmp rfl) (fun hb6 => ?_) (fun hb6 => ?_)
    · have _u := True.intro
      exfalso
      revert hb6
      simp
      try omega
      --end
    · have _u := True.intro
      refine AW.skip ?_
      refine AW.seq ?_
      refine AW.region ?_
      refine ARun.pure (PureOp.move rfl (.tmp rfl)) rfl rfl (Nat.le_of_ble_eq_true rfl) ?_
      refine ARun.pure (PureOp.conv (b := ((n : Nat) : Int)) rfl (.tmp rfl) vmb_cv_165_3_.i64 (wrap_id (by omega) (by omega))) rfl rfl (Nat.le_of_ble_eq_true rfl) ?_
      refine ARun.make (id := 0) (n := n) (l := [.int .i64 0]) (z := (.int .i64 0)) (by_ := 8) rfl (by kernel_rfl) (fun _ _ _ => ⟨_, _, rfl, rfl, rfl⟩) (.tmp rfl) (.tmp rfl) rfl rfl (by omega) (by omega) (by decide) ⟨rfl, (by repeat first | exact trivial | refine ⟨by decide, by first | rfl | exact trivial | (intro i j; first | rfl | exact getD_no rfl | (dsimp only; split <;> first | rfl | exact getD_no rfl) | exact scl_no (by apply_assumption) _), ?_⟩)⟩ rfl rfl rfl (Nat.le_of_ble_eq_true rfl) ?_
      refine ARun.pure (PureOp.assign rfl (.tmp rfl)) rfl rfl (Nat.le_of_ble_eq_true rfl) ?_
      refine ARun.nil ?_
      refine AW.seq ?_
      refine AW.region ?_
      refine ARun.pure (PureOp.move rfl (.tmp rfl)) rfl rfl (Nat.le_of_ble_eq_true rfl) ?_
      refine ARun.pure (PureOp.move rfl (.tmp rfl)) rfl rfl (Nat.le_of_ble_eq_true rfl) ?_
      refine ARun.copy1 (id := 0) (q := 0) (n := n) (m := 1) (r := 1) (f := fun _ j => ([.int .i64 0] : List AV).getD j (.con undef)) (g := fun _ _ => .int .i64 x) rfl vmb_el_22_1 (.own rfl (.tmp rfl)) rfl (.lst (.tmp rfl)) (fun _ _ => by first | rfl | (unfold repF; split <;> rfl)) (show 1 = min 1 (n - 0) from by omega) rfl rfl (Nat.le_of_ble_eq_true rfl) ?_
      refine ARun.pure (PureOp.assign rfl (.tmp rfl)) rfl rfl (Nat.le_of_ble_eq_true rfl) ?_
      refine ARun.nil ?_
      refine AW.seq ?_
      refine AW.block ?_
      refine AW.loop (ι := Nat) (fun k => ⟨[(7, .one (.own 0 1 n)), (8, .one (.int .i64 (k : Int)))], [(0, .arr 1 n (repF x k))]⟩) (fun k => 1 ≤ k ∧ k ≤ n) (fun k => n - k) 1 (show 1 ≤ 1 ∧ 1 ≤ n from ⟨by omega, by omega⟩) ⟨⟨⟨_, rfl, rfl⟩, ⟨_, rfl, rfl⟩, trivial⟩, ⟨⟨_, rfl, rfl, Nat.le_refl _, fun i j hi (hj : j < 1) => repF_0 hj⟩, trivial⟩⟩ ?_
      intro k hk
      obtain ⟨hk1, hk2⟩ := hk
      refine AW.seq ?_
      refine AW.seq ?_
      refine AW.region ?_
      refine ARun.pure (PureOp.move rfl (.tmp rfl)) rfl rfl (Nat.le_of_ble_eq_true rfl) ?_
      refine ARun.pure (PureOp.move rfl (.tmp rfl)) rfl rfl (Nat.le_of_ble_eq_true rfl) ?_
      refine ARun.pure (PureOp.lenOwn rfl (.tmp rfl) vmb_sl_22) rfl rfl (Nat.le_of_ble_eq_true rfl) ?_
      refine ARun.pure (PureOp.intOp rfl (.tmp rfl) (.tmp rfl) rfl) rfl rfl (Nat.le_of_ble_eq_true rfl) ?_
      refine ARun.nil ?_
      refine AW.cond (.tmp rfl) (fun hb7 => ?_) (fun hb7 => ?_)
      · have _u := True.intro
        replace hb7 := of_decide_eq_true hb7
        have hkl : k < n := by omega
        refine AW.skip ?_
        refine AW.block ?_
        refine AW.anyX [⟨[], [], [], []⟩, ⟨[], [], [], []⟩, ⟨[], [], [], []⟩, ⟨[], [], [], []⟩, ⟨[], [], [], []⟩, ⟨[], [], [], []⟩, ⟨[], [], [], []⟩, ⟨[], [0], [], [(0, .arr 1 n (fun ic_ jc_ => if k ≤ ic_ ∧ ic_ < k + (min k (n - k)) then (repF x k) (ic_ - k) jc_ else (repF x k) ic_ jc_))]⟩, ⟨[], [], [], []⟩, ⟨[], [], [], []⟩] (by kernel_rfl) (by kernel_rfl) (by kernel_rfl) ⟨⟨.inl rfl, .inr (.inr trivial), .inr (.inr trivial), .inr (.inr trivial), .inr (.inr trivial), .inr (.inr trivial), .inr (.inr trivial), .inr (.inr trivial), .inr (.inr trivial), .inr (.inr trivial), trivial⟩, ⟨.inr (.inr trivial), .inl rfl, .inr (.inr trivial), .inr (.inr trivial), .inr (.inr trivial), .inr (.inr trivial), .inr (.inr trivial), .inr (.inr trivial), .inr (.inr trivial), .inr (.inr trivial), trivial⟩, ⟨.inr (.inr trivial), .inr (.inr trivial), .inl rfl, .inr (.inr trivial), .inr (.inr trivial), .inr (.inr trivial), .inr (.inr trivial), .inr (.inr trivial), .inr (.inr trivial), .inr (.inr trivial), trivial⟩, ⟨.inr (.inr trivial), .inr (.inr trivial), .inr (.inr trivial), .inl rfl, .inr (.inr trivial), .inr (.inr trivial), .inr (.inr trivial), .inr (.inr trivial), .inr (.inr trivial), .inr (.inr trivial), trivial⟩, ⟨.inr (.inr trivial), .inr (.inr trivial), .inr (.inr trivial), .inr (.inr trivial), .inl rfl, .inr (.inr trivial), .inr (.inr trivial), .inr (.inr trivial), .inr (.inr trivial), .inr (.inr trivial), trivial⟩, ⟨.inr (.inr trivial), .inr (.inr trivial), .inr (.inr trivial), .inr (.inr trivial), .inr (.inr trivial), .inl rfl, .inr (.inr trivial), .inr (.inr trivial), .inr (.inr trivial), .inr (.inr trivial), trivial⟩, ⟨.inr (.inr trivial), .inr (.inr trivial), .inr (.inr trivial), .inr (.inr trivial), .inr (.inr trivial), .inr (.inr trivial), .inl rfl, .inr (.inr trivial), .inr (.inr trivial), .inr (.inr trivial), trivial⟩, ⟨.inr (.inr trivial), .inr (.inr trivial), .inr (.inr trivial), .inr (.inr trivial), .inr (.inr trivial), .inr (.inr trivial), .inr (.inr trivial), .inl rfl, .inr (.inr trivial), .inr (.inr trivial), trivial⟩, ⟨.inr (.inr trivial), .inr (.inr trivial), .inr (.inr trivial), .inr (.inr trivial), .inr (.inr trivial), .inr (.inr trivial), .inr (.inr trivial), .inr (.inr trivial), .inl rfl, .inr (.inr trivial), trivial⟩, ⟨.inr (.inr trivial), .inr (.inr trivial), .inr (.inr trivial), .inr (.inr trivial), .inr (.inr trivial), .inr (.inr trivial), .inr (.inr trivial), .inr (.inr trivial), .inr (.inr trivial), .inl rfl, trivial⟩, trivial⟩ ⟨trivial, trivial, trivial, trivial, trivial, trivial, trivial, trivial, trivial, trivial, trivial⟩ ?_
        refine ADX.pure [] (PureOp.move rfl (.tmp rfl)) rfl rfl (Nat.le_of_ble_eq_true rfl) trivial rfl ?_
        refine ADX.pure [] (PureOp.move rfl (.tmp rfl)) rfl rfl (Nat.le_of_ble_eq_true rfl) trivial rfl ?_
        refine ADX.pure [] (PureOp.move rfl (.tmp rfl)) rfl rfl (Nat.le_of_ble_eq_true rfl) trivial rfl ?_
        refine ADX.pure [] (PureOp.dropOwn (k := k) rfl (.tmp rfl) (.tmp rfl) rfl (show k ≤ n from by omega) vmb_el_22_1) rfl rfl (Nat.le_of_ble_eq_true rfl) trivial rfl ?_
        refine ADX.pure [] (PureOp.move rfl (.tmp rfl)) rfl rfl (Nat.le_of_ble_eq_true rfl) trivial rfl ?_
        refine ADX.pure [] (PureOp.move rfl (.tmp rfl)) rfl rfl (Nat.le_of_ble_eq_true rfl) trivial rfl ?_
        refine ADX.pure [] (PureOp.takeOwn (k := k) rfl (.tmp rfl) (.tmp rfl) rfl (show k ≤ n from by omega) vmb_el_22_1) rfl rfl (Nat.le_of_ble_eq_true rfl) trivial rfl ?_
        refine ADX.eff (tk := [0]) (new := []) (s := .one (.int .i64 (((min k (n - k)) : Nat) : Int))) (F := [(45, .one (.int .i64 (((min k (n - k)) : Nat) : Int)))]) (Hin := [(0, .arr 1 n (repF x k))]) (Hout := [(0, .arr 1 n (fun ic_ jc_ => if k ≤ ic_ ∧ ic_ < k + (min k (n - k)) then (repF x k) (ic_ - k) jc_ else (repF x k) ic_ jc_))]) (fun E X hE hX Q rest hk => ?_) ⟨rfl, trivial⟩ ⟨rfl, rfl⟩ rfl rfl rfl rfl trivial rfl (fun _ e => by cases e; exact Nat.le_of_ble_eq_true rfl) ?_
        · refine ARun.copy1 (id := 0) (q := k) (n := n) (m := k) (r := (min k (n - k))) (f := repF x k) (g := repF x k) rfl vmb_el_22_1 (.tl (.tmp rfl)) rfl (.own (.tmp rfl) rfl rfl (show k ≤ n from by omega) (fun _ _ _ _ => rfl)) (fun _ _ => by first | rfl | (unfold repF; split <;> rfl)) rfl rfl rfl (Nat.le_of_ble_eq_true rfl) ?_
          refine ARun.hleX ?_ ?_ hk
          · exact HeapLe.one rfl trivial
          · repeat (first | exact LkX.refl | refine LkX.cons (hX.none rfl) ?_ | refine LkX.filter (hX.none rfl) ?_)
        refine ADX.pure [] (PureOp.add (c := ((k + (min k (n - k)) : Nat) : Int)) rfl (.tmp rfl) (.tmp rfl) (by rw [wrap_id (by omega) (by omega)]; omega)) rfl rfl (Nat.le_of_ble_eq_true rfl) trivial rfl ?_
        refine ADX.pure [] (PureOp.assign rfl (.tmp rfl)) rfl rfl (Nat.le_of_ble_eq_true rfl) trivial rfl ?_
        refine ADX.nil (H := [(0, .arr 1 n (fun ic_ jc_ => if k ≤ ic_ ∧ ic_ < k + (min k (n - k)) then (repF x k) (ic_ - k) jc_ else (repF x k) ic_ jc_))]) ?_ ?_
        · exact HeapLe.one rfl trivial
        exact ⟨(k + min k (n - k)), ⟨by omega, by omega⟩, by dsimp only; omega, ⟨⟨⟨_, rfl, rfl⟩, ⟨_, rfl, rfl⟩, trivial⟩, ⟨⟨_, rfl, rfl, Nat.le_refl _, fun i j hi hj => repF_s (Nat.min_le_left ..)⟩, trivial⟩⟩⟩
      · have _u := True.intro
        replace hb7 := of_decide_eq_false hb7
        have hkl : k = n := by omega
        refine AW.exit ?_
        refine AW.seq ?_
        refine AW.region ?_
        refine ARun.pure (PureOp.move rfl (.tmp rfl)) rfl rfl (Nat.le_of_ble_eq_true rfl) ?_
        refine ARun.pure (PureOp.assign rfl (.tmp rfl)) rfl rfl (Nat.le_of_ble_eq_true rfl) ?_
        refine ARun.nil ?_
        exact AW.ret (show ∃ s t, ResL _ _ [.tmp 4] s ∧ TvS _ (ofLeaf t) 0 s _ from ⟨_, fun a b => if a = 0 then 0 else 1000, .inl ⟨_, rfl, .tmp rfl⟩, (Tv.flatN List.length_replicate rfl rfl rfl (Nat.le_refl _) (by rfl) (fun i j (hi : i < n) hj => by show repF x k i j = AV.int .i64 _; rw [hkl, getD_rep hi]; unfold repF; rw [if_pos hi]) (fun i j hi hj => rfl))⟩)

theorem v_Clone_Int (l : List Int) (hl : l.length ≤ 1048576) : FnT Try.prog 128 [.one (.lst 1 l.length (fun i0 _ => .int .i64 (l.getD i0 0)))] (.one (.lst 1 l.length (fun i0 _ => .int .i64 (l.getD i0 0)))) := by
  refine FnT.of_body (fn := Try.f128) Try.func128 rfl (Nat.le_of_ble_eq_true rfl)  ?_
  intro w0
  show AW _ 8 _ _ _ _
  refine AW.bound (t := 0) rfl fun hx => ?_
  refine AW.seq ?_
  refine AW.region ?_
  refine ARun.pure (PureOp.assign rfl .con) rfl rfl (Nat.le_of_ble_eq_true rfl) ?_
  refine ARun.nil ?_
  refine AW.seq ?_
  refine AW.seq ?_
  refine AW.region ?_
  refine ARun.pure (PureOp.move rfl (.tmp rfl)) rfl rfl (Nat.le_of_ble_eq_true rfl) ?_
  refine ARun.nilEq rfl (.tmp rfl) vmb_sl_22 rfl rfl (Nat.le_of_ble_eq_true rfl) (fun bn1 hbn1 => ?_)
  refine ARun.nil ?_
  refine AW.cond (.tmp rfl) (fun hb2 => ?_) (fun hb2 => ?_)
  · have _u := True.intro
    obtain rfl : l = [] := List.eq_nil_of_length_eq_zero (hbn1 hb2)
    refine AW.seq ?_
    refine AW.region ?_
    refine ARun.pure (PureOp.assign rfl .con) rfl rfl (Nat.le_of_ble_eq_true rfl) ?_
    refine ARun.nil ?_
    exact AW.ret (show ∃ s t, ResL _ _ [.tmp 2] s ∧ TvS _ (ofLeaf t) 0 s _ from ⟨_, fun a b => 1000, .inl ⟨_, rfl, .tmp rfl⟩, .nil⟩)
  · have _u := True.intro
    refine AW.skip ?_
    refine AW.seq ?_
    refine AW.region ?_
    refine ARun.slice0 (id := 0) (z := (.int .i64 0)) (sz := 1) (by_ := 8) rfl (by kernel_rfl) (fun _ _ => .con undef) (fun _ _ => rfl) ⟨rfl, (by repeat first | exact trivial | refine ⟨by decide, by first | rfl | exact trivial | (intro i j; first | rfl | exact getD_no rfl | (dsimp only; split <;> first | rfl | exact getD_no rfl) | exact scl_no (by apply_assumption) _), ?_⟩)⟩ rfl rfl (Nat.le_of_ble_eq_true rfl) ?_
    refine ARun.pure (PureOp.move rfl (.tmp rfl)) rfl rfl (Nat.le_of_ble_eq_true rfl) ?_
    refine ARun.append (id := 1) (sz := 1) (n := 0) (m := l.length) (by_ := 8) (z := (.int .i64 0)) (f := fun _ _ => .con undef) (g := fun i0 _ => .int .i64 (l.getD i0 0)) (h := fun ia ja => if ia < 0 then (fun _ _ => .con undef : Nat → Nat → AV) ia ja else (fun i0 _ => .int .i64 (l.getD i0 0) : Nat → Nat → AV) (ia - 0) ja) rfl (by kernel_rfl) rfl vmb_sl_22 (.own (.tmp rfl) rfl rfl rfl (Nat.le_refl _) (fun _ _ _ _ => rfl)) (.lst (.tmp rfl)) (by decide) (fun i j hi hj => match j, hj with | 0, _ => rfl | _ + 1, h => absurd h (by omega)) (fun _ _ _ _ => rfl) (by omega) (by omega) ⟨rfl, (by repeat first | exact trivial | refine ⟨by decide, by first | rfl | exact trivial | (intro i j; first | rfl | exact getD_no rfl | (dsimp only; split <;> first | rfl | exact getD_no rfl) | exact scl_no (by apply_assumption) _), ?_⟩)⟩ (fun i j => by dsimp only; (repeat' split) <;> first | rfl | exact getD_no rfl) rfl rfl (Nat.le_of_ble_eq_true rfl) ?_
    refine ARun.pure (PureOp.assign rfl (.tmp rfl)) rfl rfl (Nat.le_of_ble_eq_true rfl) ?_
    refine ARun.nil ?_
    exact AW.ret (show ∃ s t, ResL _ _ [.tmp 2] s ∧ TvS _ (ofLeaf t) 0 s _ from ⟨_, fun a b => if a = 1 then 0 else 1000, .inl ⟨_, rfl, .tmp rfl⟩, (Tv.flatN (Nat.zero_add _).symm rfl rfl rfl (Nat.le_refl _) (by rfl) (fun i j hi hj => by show (if i < 0 then AV.con undef else (fun i0 _ => .int .i64 (l.getD i0 0)) i j) = _; exact app0) (fun i j hi hj => match j, hj with | 0, _ => rfl | _ + 1, h => absurd h (by omega)))⟩)
end Go.Proofs.Ytlbnodmebehpiaa


/-
  NewBank: the reference and the program make the same.
-/
namespace Go.Proofs.Ytlbnodmebehpiaa
open Go.ChangeShapes Go.WideShapes Go.ChangeAt Go.RowKit Go.BigFrame Go.Deep
set_option linter.unusedVariables false
set_option linter.unusedSimpArgs false
theorem vnb_ag_49_5 : aggB Try.prog 49 5 = true := by kernel_rfl
theorem vnb_ca_127 : callB Try.prog 127 = true := by kernel_rfl
theorem vnb_ca_128 : callB Try.prog 128 = true := by kernel_rfl
theorem vnb_ca_129 : callB Try.prog 129 = true := by kernel_rfl
theorem vnb_ca_57 : callB Try.prog 57 = true := by kernel_rfl
theorem vnb_ca_58 : callB Try.prog 58 = true := by kernel_rfl
theorem vnb_ca_59 : callB Try.prog 59 = true := by kernel_rfl
theorem vnb_ca_60 : callB Try.prog 60 = true := by kernel_rfl
theorem vnb_ca_82 : callB Try.prog 82 = true := by kernel_rfl
theorem vnb_ca_83 : callB Try.prog 83 = true := by kernel_rfl
theorem vnb_fi_49_2_2 : fieldB Try.prog 49 2 2 = true := by kernel_rfl
theorem vnb_fi_49_3_3 : fieldB Try.prog 49 3 3 = true := by kernel_rfl
theorem vnb_fi_49_4_4 : fieldB Try.prog 49 4 4 = true := by kernel_rfl
theorem vnb_pl_22 : plainB Try.prog 22 = true := by kernel_rfl
theorem vnb_pl_25 : plainB Try.prog 25 = true := by kernel_rfl
theorem vnb_pl_47 : plainB Try.prog 47 = true := by kernel_rfl
theorem vnb_sl_22 : sliceB Try.prog 22 = true := by kernel_rfl
theorem vnb_sl_25 : sliceB Try.prog 25 = true := by kernel_rfl
theorem vnb_sl_47 : sliceB Try.prog 47 = true := by kernel_rfl
theorem vnb_sz_22_1 : sizeB Try.prog 22 1 = true := by kernel_rfl
theorem vnb_sz_25_1 : sizeB Try.prog 25 1 = true := by kernel_rfl
theorem vnb_sz_47_1 : sizeB Try.prog 47 1 = true := by kernel_rfl
theorem vnb_sz_49_5 : sizeB Try.prog 49 5 = true := by kernel_rfl
def okCoins (l : List Int) : Bool := inB 1 5 (l.length : Int) && l.all (inB 0 50)
def newBankD (l : List Int) : GBank := ⟨l, List.replicate (l.length * l.length) [], List.replicate l.length (-1), List.replicate l.length (List.replicate l.length false), List.replicate l.length (List.replicate l.length 0)⟩
def newBankV (l : List Int) : GBank × Bool := if okCoins l = true then (newBankD l, true) else (⟨[], [], [], [], []⟩, false)
/-- The rows of what was heard, of what was found. -/
def bkH (n : Nat) (_ : Nat) : AV := .lst 1 (List.replicate n false).length (fun a _ => .bool ((List.replicate n false).getD a false))
def bkF (n : Nat) (_ : Nat) : AV := .lst 1 (List.replicate n (0 : Int)).length (fun a _ => .int .i64 ((List.replicate n (0 : Int)).getD a 0))
theorem v_areCoins1 (x : Int) : Fn Try.prog 127 [.one (.int .i64 x)] (.one (.bool (!inB 0 50 x))) := by
  refine Fn.of_body (fn := Try.f127) Try.func127 rfl (Nat.le_of_ble_eq_true rfl) trivial ?_
  intro w0
  show AW _ 6 _ _ _ _
  refine AW.seq ?_
  refine AW.region ?_
  refine ARun.pure (PureOp.assign rfl .bool) rfl rfl (Nat.le_of_ble_eq_true rfl) ?_
  refine ARun.nil ?_
  refine AW.seq ?_
  refine AW.region ?_
  refine ARun.pure (PureOp.move rfl (.tmp rfl)) rfl rfl (Nat.le_of_ble_eq_true rfl) ?_
  refine ARun.pure (PureOp.call rfl (v_within x 0 50) ⟨⟨_, (.tmp rfl), .int⟩, ⟨_, .int, .int⟩, ⟨_, .int, .int⟩, trivial⟩ vnb_ca_59 trivial) rfl rfl (Nat.le_of_ble_eq_true rfl) ?_
  refine ARun.pure (PureOp.not rfl (.tmp rfl)) rfl rfl (Nat.le_of_ble_eq_true rfl) ?_
  refine ARun.pure (PureOp.assign rfl (.tmp rfl)) rfl rfl (Nat.le_of_ble_eq_true rfl) ?_
  refine ARun.nil ?_
  refine AW.ret (show ResL _ _ [.tmp 2] _ from resB rfl ?_)
  rfl

theorem v_areCoins (l : List Int) : Fn Try.prog 82 [.one (.lst 1 l.length (fun i0 _ => .int .i64 (l.getD i0 0)))] (.one (.bool (okCoins l))) := by
  refine Fn.of_body (fn := Try.f82) Try.func82 rfl (Nat.le_of_ble_eq_true rfl) trivial ?_
  intro w0
  show AW _ 11 _ _ _ _
  refine AW.bound (t := 0) rfl fun hx => ?_
  refine AW.seq ?_
  refine AW.region ?_
  refine ARun.pure (PureOp.assign rfl .bool) rfl rfl (Nat.le_of_ble_eq_true rfl) ?_
  refine ARun.nil ?_
  refine AW.seq ?_
  refine AW.region ?_
  refine ARun.pure (PureOp.move rfl (.tmp rfl)) rfl rfl (Nat.le_of_ble_eq_true rfl) ?_
  refine ARun.pure (PureOp.lenLst rfl (.tmp rfl) vnb_sl_22) rfl rfl (Nat.le_of_ble_eq_true rfl) ?_
  refine ARun.pure (PureOp.call rfl (v_within (l.length : Int) 1 5) ⟨⟨_, (.tmp rfl), .int⟩, ⟨_, .int, .int⟩, ⟨_, .int, .int⟩, trivial⟩ vnb_ca_59 trivial) rfl rfl (Nat.le_of_ble_eq_true rfl) ?_
  refine ARun.pure (PureOp.move rfl (.tmp rfl)) rfl rfl (Nat.le_of_ble_eq_true rfl) ?_
  refine ARun.gpure (want := true) (.tt rfl) (fun hg1 => PureOp.move rfl (.tmp rfl)) rfl rfl (Nat.le_of_ble_eq_true rfl) rfl (Nat.le_of_ble_eq_true rfl) ?_
  refine ARun.gpure (want := true) (.tt rfl) (fun hg2 => PureOp.call rfl (v_ContainsFunc_Int l 127 0 (fun _ => .con undef) (fun x => !inB 0 50 x) (fun j h => absurd h (by omega)) vnb_ca_127 (fun k hk => v_areCoins1 _)) ⟨⟨_, (.gtmp rfl hg2), .lst⟩, ⟨_, .func, (.fn (fun j h => absurd h (by omega)))⟩, trivial⟩ vnb_ca_60 trivial) rfl rfl (Nat.le_of_ble_eq_true rfl) rfl (Nat.le_of_ble_eq_true rfl) ?_
  refine ARun.gpure (want := true) (.tt rfl) (fun hg3 => PureOp.not rfl (.gtmp rfl hg3)) rfl rfl (Nat.le_of_ble_eq_true rfl) rfl (Nat.le_of_ble_eq_true rfl) ?_
  refine ARun.pure (PureOp.pick rfl (.tmp rfl) (fun hp4 => .gtmp rfl hp4) (fun _ => .bool)) rfl rfl (Nat.le_of_ble_eq_true rfl) ?_
  refine ARun.pure (PureOp.assign rfl (.tmp rfl)) rfl rfl (Nat.le_of_ble_eq_true rfl) ?_
  refine ARun.nil ?_
  refine AW.ret (show ResL _ _ [.tmp 2] _ from resB rfl ?_)
  rw [show l.any (fun x => !inB 0 50 x) = !(l.all (inB 0 50)) from by rw [List.all_eq_not_any_not, Bool.not_not]]
  unfold okCoins
  generalize inB 1 5 (l.length : Int) = a1
  generalize l.all (inB 0 50) = a2
  revert a1 a2
  decide

theorem v_newBank (l : List Int) (hl : 1 ≤ l.length ∧ l.length ≤ 5) : FnT Try.prog 83 [.one (.lst 1 l.length (fun i0 _ => .int .i64 (l.getD i0 0)))] (.agg [.lst 1 (((newBankD l).cCoins).length) (fun i0 _ => .int .i64 (((newBankD l).cCoins).getD i0 0)), .lst 1 (((newBankD l).cWays).length) (fun i0 _ => .lst 1 ((((newBankD l).cWays).getD i0 []).length) (fun i1 _ => .int .i64 ((((newBankD l).cWays).getD i0 []).getD i1 0))), .lst 1 (((newBankD l).cKept).length) (fun i0 _ => .int .i64 (((newBankD l).cKept).getD i0 0)), .lst 1 (((newBankD l).cHeard).length) (fun i0 _ => .lst 1 ((((newBankD l).cHeard).getD i0 []).length) (fun i1 _ => .bool ((((newBankD l).cHeard).getD i0 []).getD i1 false))), .lst 1 (((newBankD l).cFound).length) (fun i0 _ => .lst 1 ((((newBankD l).cFound).getD i0 []).length) (fun i1 _ => .int .i64 ((((newBankD l).cFound).getD i0 []).getD i1 0)))]) := by
  obtain ⟨hl1, hl5⟩ := hl
  refine FnT.of_body (fn := Try.f83) Try.func83 rfl (Nat.le_of_ble_eq_true rfl)  ?_
  intro w0
  show AW _ 36 _ _ _ _
  have hll : l.length * l.length ≤ 25 := Nat.mul_le_mul hl5 hl5
  refine AW.seq ?_
  refine AW.region ?_
  refine ARun.alloc (id := 0) (l := [.con (.slice none 0 0), .con (.slice none 0 0), .con (.slice none 0 0), .con (.slice none 0 0), .con (.slice none 0 0)]) (z := (.agg #[.slice none 0 0, .slice none 0 0, .slice none 0 0, .slice none 0 0, .slice none 0 0])) rfl (by kernel_rfl) (fun _ _ _ => ⟨_, _, rfl, rfl, ⟨_, _, rfl, rfl, ⟨_, _, rfl, rfl, ⟨_, _, rfl, rfl, ⟨_, _, rfl, rfl, rfl⟩⟩⟩⟩⟩) ⟨rfl, (by repeat first | exact trivial | refine ⟨by decide, by first | rfl | exact trivial | (intro i j; first | rfl | exact getD_no rfl | (dsimp only; split <;> first | rfl | exact getD_no rfl) | exact scl_no (by apply_assumption) _), ?_⟩)⟩ rfl rfl rfl (Nat.le_of_ble_eq_true rfl) ?_
  refine ARun.nil ?_
  refine AW.seq ?_
  refine AW.region ?_
  refine ARun.pure (PureOp.move rfl (.tmp rfl)) rfl rfl (Nat.le_of_ble_eq_true rfl) ?_
  refine ARun.pure (PureOp.lenLst rfl (.tmp rfl) vnb_sl_22) rfl rfl (Nat.le_of_ble_eq_true rfl) ?_
  refine ARun.pure (PureOp.assign rfl (.tmp rfl)) rfl rfl (Nat.le_of_ble_eq_true rfl) ?_
  refine ARun.nil ?_
  refine AW.seq ?_
  refine AW.anyX [⟨[], [], [], []⟩, ⟨[], [1], [1], [(1, .trees 1 (fun p => ([.lst 1 l.length (fun i0 _ => .int .i64 (l.getD i0 0))] : List AV).getD p (.con undef)))]⟩, ⟨[], [], [], []⟩, ⟨[], [], [], []⟩, ⟨[], [], [], []⟩, ⟨[], [2], [2], [(2, .arr 1 (l.length * l.length) (fun _ j => ([.con (.slice none 0 0)] : List AV).getD j (.con undef)))]⟩, ⟨[], [3], [3], [(3, .arr 1 1 (fun _ jc => ([.int .i64 (-1)] : List AV).getD jc (.con undef)))]⟩, ⟨[], [], [], []⟩, ⟨[], [3, 4], [4], [(3, .arr 1 1 (fun _ jc => ([.int .i64 (-1)] : List AV).getD jc (.con undef))), (4, .trees 1 (fun p => ([.lst 1 ((List.replicate l.length (-1)).length) (fun i0 _ => .int .i64 ((List.replicate l.length (-1)).getD i0 0))] : List AV).getD p (.con undef)))]⟩, ⟨[], [], [], []⟩, ⟨[], [5], [5], [(5, .cells [.con (.slice none 0 0), .con (.slice none 0 0), .con (.slice none 0 0), .con (.slice none 0 0), .con (.slice none 0 0)])]⟩, ⟨[], [5], [], [(5, .cells [.tre 1 0, .own 2 1 (l.length * l.length), .tre 4 0, .con (.slice none 0 0), .con (.slice none 0 0)])]⟩] (by kernel_rfl) (by kernel_rfl) (by kernel_rfl) ⟨⟨.inl rfl, .inr (.inr (by repeat first | exact trivial | refine And.intro ?_ ?_ | exact rfl | (intro i j; first | rfl | exact getD_no rfl | (dsimp only; split <;> first | rfl | exact getD_no rfl) | exact scl_no (by apply_assumption) _))), .inr (.inr trivial), .inr (.inr trivial), .inr (.inr trivial), .inr (.inr (by repeat first | exact trivial | refine And.intro ?_ ?_ | exact rfl | (intro i j; first | rfl | exact getD_no rfl | (dsimp only; split <;> first | rfl | exact getD_no rfl) | exact scl_no (by apply_assumption) _))), .inr (.inr (by repeat first | exact trivial | refine And.intro ?_ ?_ | exact rfl | (intro i j; first | rfl | exact getD_no rfl | (dsimp only; split <;> first | rfl | exact getD_no rfl) | exact scl_no (by apply_assumption) _))), .inr (.inr trivial), .inr (.inr (by repeat first | exact trivial | refine And.intro ?_ ?_ | exact rfl | (intro i j; first | rfl | exact getD_no rfl | (dsimp only; split <;> first | rfl | exact getD_no rfl) | exact scl_no (by apply_assumption) _))), .inr (.inr trivial), .inr (.inr (by repeat first | exact trivial | refine And.intro ?_ ?_ | exact rfl | (intro i j; first | rfl | exact getD_no rfl | (dsimp only; split <;> first | rfl | exact getD_no rfl) | exact scl_no (by apply_assumption) _))), .inr (.inr trivial), trivial⟩, ⟨.inr (.inr trivial), .inl rfl, .inr (.inr trivial), .inr (.inr trivial), .inr (.inr trivial), .inr (.inr (by repeat first | exact trivial | refine And.intro ?_ ?_ | exact rfl | (intro i j; first | rfl | exact getD_no rfl | (dsimp only; split <;> first | rfl | exact getD_no rfl) | exact scl_no (by apply_assumption) _))), .inr (.inr (by repeat first | exact trivial | refine And.intro ?_ ?_ | exact rfl | (intro i j; first | rfl | exact getD_no rfl | (dsimp only; split <;> first | rfl | exact getD_no rfl) | exact scl_no (by apply_assumption) _))), .inr (.inr trivial), .inr (.inr (by repeat first | exact trivial | refine And.intro ?_ ?_ | exact rfl | (intro i j; first | rfl | exact getD_no rfl | (dsimp only; split <;> first | rfl | exact getD_no rfl) | exact scl_no (by apply_assumption) _))), .inr (.inr trivial), .inr (.inr (by repeat first | exact trivial | refine And.intro ?_ ?_ | exact rfl | (intro i j; first | rfl | exact getD_no rfl | (dsimp only; split <;> first | rfl | exact getD_no rfl) | exact scl_no (by apply_assumption) _))), .inr (.inr trivial), trivial⟩, ⟨.inr (.inr trivial), .inr (.inr (by repeat first | exact trivial | refine And.intro ?_ ?_ | exact rfl | (intro i j; first | rfl | exact getD_no rfl | (dsimp only; split <;> first | rfl | exact getD_no rfl) | exact scl_no (by apply_assumption) _))), .inl rfl, .inr (.inr trivial), .inr (.inr trivial), .inr (.inr (by repeat first | exact trivial | refine And.intro ?_ ?_ | exact rfl | (intro i j; first | rfl | exact getD_no rfl | (dsimp only; split <;> first | rfl | exact getD_no rfl) | exact scl_no (by apply_assumption) _))), .inr (.inr (by repeat first | exact trivial | refine And.intro ?_ ?_ | exact rfl | (intro i j; first | rfl | exact getD_no rfl | (dsimp only; split <;> first | rfl | exact getD_no rfl) | exact scl_no (by apply_assumption) _))), .inr (.inr trivial), .inr (.inr (by repeat first | exact trivial | refine And.intro ?_ ?_ | exact rfl | (intro i j; first | rfl | exact getD_no rfl | (dsimp only; split <;> first | rfl | exact getD_no rfl) | exact scl_no (by apply_assumption) _))), .inr (.inr trivial), .inr (.inr (by repeat first | exact trivial | refine And.intro ?_ ?_ | exact rfl | (intro i j; first | rfl | exact getD_no rfl | (dsimp only; split <;> first | rfl | exact getD_no rfl) | exact scl_no (by apply_assumption) _))), .inr (.inr trivial), trivial⟩, ⟨.inr (.inr trivial), .inr (.inr (by repeat first | exact trivial | refine And.intro ?_ ?_ | exact rfl | (intro i j; first | rfl | exact getD_no rfl | (dsimp only; split <;> first | rfl | exact getD_no rfl) | exact scl_no (by apply_assumption) _))), .inr (.inr trivial), .inl rfl, .inr (.inr trivial), .inr (.inr (by repeat first | exact trivial | refine And.intro ?_ ?_ | exact rfl | (intro i j; first | rfl | exact getD_no rfl | (dsimp only; split <;> first | rfl | exact getD_no rfl) | exact scl_no (by apply_assumption) _))), .inr (.inr (by repeat first | exact trivial | refine And.intro ?_ ?_ | exact rfl | (intro i j; first | rfl | exact getD_no rfl | (dsimp only; split <;> first | rfl | exact getD_no rfl) | exact scl_no (by apply_assumption) _))), .inr (.inr trivial), .inr (.inr (by repeat first | exact trivial | refine And.intro ?_ ?_ | exact rfl | (intro i j; first | rfl | exact getD_no rfl | (dsimp only; split <;> first | rfl | exact getD_no rfl) | exact scl_no (by apply_assumption) _))), .inr (.inr trivial), .inr (.inr (by repeat first | exact trivial | refine And.intro ?_ ?_ | exact rfl | (intro i j; first | rfl | exact getD_no rfl | (dsimp only; split <;> first | rfl | exact getD_no rfl) | exact scl_no (by apply_assumption) _))), .inr (.inr trivial), trivial⟩, ⟨.inr (.inr trivial), .inr (.inr (by repeat first | exact trivial | refine And.intro ?_ ?_ | exact rfl | (intro i j; first | rfl | exact getD_no rfl | (dsimp only; split <;> first | rfl | exact getD_no rfl) | exact scl_no (by apply_assumption) _))), .inr (.inr trivial), .inr (.inr trivial), .inl rfl, .inr (.inr (by repeat first | exact trivial | refine And.intro ?_ ?_ | exact rfl | (intro i j; first | rfl | exact getD_no rfl | (dsimp only; split <;> first | rfl | exact getD_no rfl) | exact scl_no (by apply_assumption) _))), .inr (.inr (by repeat first | exact trivial | refine And.intro ?_ ?_ | exact rfl | (intro i j; first | rfl | exact getD_no rfl | (dsimp only; split <;> first | rfl | exact getD_no rfl) | exact scl_no (by apply_assumption) _))), .inr (.inr trivial), .inr (.inr (by repeat first | exact trivial | refine And.intro ?_ ?_ | exact rfl | (intro i j; first | rfl | exact getD_no rfl | (dsimp only; split <;> first | rfl | exact getD_no rfl) | exact scl_no (by apply_assumption) _))), .inr (.inr trivial), .inr (.inr (by repeat first | exact trivial | refine And.intro ?_ ?_ | exact rfl | (intro i j; first | rfl | exact getD_no rfl | (dsimp only; split <;> first | rfl | exact getD_no rfl) | exact scl_no (by apply_assumption) _))), .inr (.inr trivial), trivial⟩, ⟨.inr (.inr trivial), .inr (.inr (by repeat first | exact trivial | refine And.intro ?_ ?_ | exact rfl | (intro i j; first | rfl | exact getD_no rfl | (dsimp only; split <;> first | rfl | exact getD_no rfl) | exact scl_no (by apply_assumption) _))), .inr (.inr trivial), .inr (.inr trivial), .inr (.inr trivial), .inl rfl, .inr (.inr (by repeat first | exact trivial | refine And.intro ?_ ?_ | exact rfl | (intro i j; first | rfl | exact getD_no rfl | (dsimp only; split <;> first | rfl | exact getD_no rfl) | exact scl_no (by apply_assumption) _))), .inr (.inr trivial), .inr (.inr (by repeat first | exact trivial | refine And.intro ?_ ?_ | exact rfl | (intro i j; first | rfl | exact getD_no rfl | (dsimp only; split <;> first | rfl | exact getD_no rfl) | exact scl_no (by apply_assumption) _))), .inr (.inr trivial), .inr (.inr (by repeat first | exact trivial | refine And.intro ?_ ?_ | exact rfl | (intro i j; first | rfl | exact getD_no rfl | (dsimp only; split <;> first | rfl | exact getD_no rfl) | exact scl_no (by apply_assumption) _))), .inr (.inr trivial), trivial⟩, ⟨.inr (.inr trivial), .inr (.inr (by repeat first | exact trivial | refine And.intro ?_ ?_ | exact rfl | (intro i j; first | rfl | exact getD_no rfl | (dsimp only; split <;> first | rfl | exact getD_no rfl) | exact scl_no (by apply_assumption) _))), .inr (.inr trivial), .inr (.inr trivial), .inr (.inr trivial), .inr (.inr (by repeat first | exact trivial | refine And.intro ?_ ?_ | exact rfl | (intro i j; first | rfl | exact getD_no rfl | (dsimp only; split <;> first | rfl | exact getD_no rfl) | exact scl_no (by apply_assumption) _))), .inl rfl, .inr (.inr trivial), .inr (.inr (by repeat first | exact trivial | refine And.intro ?_ ?_ | exact rfl | (intro i j; first | rfl | exact getD_no rfl | (dsimp only; split <;> first | rfl | exact getD_no rfl) | exact scl_no (by apply_assumption) _))), .inr (.inr trivial), .inr (.inr (by repeat first | exact trivial | refine And.intro ?_ ?_ | exact rfl | (intro i j; first | rfl | exact getD_no rfl | (dsimp only; split <;> first | rfl | exact getD_no rfl) | exact scl_no (by apply_assumption) _))), .inr (.inr trivial), trivial⟩, ⟨.inr (.inr trivial), .inr (.inr (by repeat first | exact trivial | refine And.intro ?_ ?_ | exact rfl | (intro i j; first | rfl | exact getD_no rfl | (dsimp only; split <;> first | rfl | exact getD_no rfl) | exact scl_no (by apply_assumption) _))), .inr (.inr trivial), .inr (.inr trivial), .inr (.inr trivial), .inr (.inr (by repeat first | exact trivial | refine And.intro ?_ ?_ | exact rfl | (intro i j; first | rfl | exact getD_no rfl | (dsimp only; split <;> first | rfl | exact getD_no rfl) | exact scl_no (by apply_assumption) _))), .inr (.inr (by repeat first | exact trivial | refine And.intro ?_ ?_ | exact rfl | (intro i j; first | rfl | exact getD_no rfl | (dsimp only; split <;> first | rfl | exact getD_no rfl) | exact scl_no (by apply_assumption) _))), .inl rfl, .inr (.inr (by repeat first | exact trivial | refine And.intro ?_ ?_ | exact rfl | (intro i j; first | rfl | exact getD_no rfl | (dsimp only; split <;> first | rfl | exact getD_no rfl) | exact scl_no (by apply_assumption) _))), .inr (.inr trivial), .inr (.inr (by repeat first | exact trivial | refine And.intro ?_ ?_ | exact rfl | (intro i j; first | rfl | exact getD_no rfl | (dsimp only; split <;> first | rfl | exact getD_no rfl) | exact scl_no (by apply_assumption) _))), .inr (.inr trivial), trivial⟩, ⟨.inr (.inr trivial), .inr (.inl (by kernel_rfl)), .inr (.inr trivial), .inr (.inr trivial), .inr (.inr trivial), .inr (.inr (by repeat first | exact trivial | refine And.intro ?_ ?_ | exact rfl | (intro i j; first | rfl | exact getD_no rfl | (dsimp only; split <;> first | rfl | exact getD_no rfl) | exact scl_no (by apply_assumption) _))), .inr (.inl (by kernel_rfl)), .inr (.inr trivial), .inl rfl, .inr (.inr trivial), .inr (.inr (by repeat first | exact trivial | refine And.intro ?_ ?_ | exact rfl | (intro i j; first | rfl | exact getD_no rfl | (dsimp only; split <;> first | rfl | exact getD_no rfl) | exact scl_no (by apply_assumption) _))), .inr (.inr trivial), trivial⟩, ⟨.inr (.inr trivial), .inr (.inl (by kernel_rfl)), .inr (.inr trivial), .inr (.inr trivial), .inr (.inr trivial), .inr (.inl (by kernel_rfl)), .inr (.inl (by kernel_rfl)), .inr (.inr trivial), .inr (.inl (by kernel_rfl)), .inl rfl, .inr (.inr (by repeat first | exact trivial | refine And.intro ?_ ?_ | exact rfl | (intro i j; first | rfl | exact getD_no rfl | (dsimp only; split <;> first | rfl | exact getD_no rfl) | exact scl_no (by apply_assumption) _))), .inr (.inr trivial), trivial⟩, ⟨.inr (.inr trivial), .inr (.inr (by repeat first | exact trivial | refine And.intro ?_ ?_ | exact rfl | (intro i j; first | rfl | exact getD_no rfl | (dsimp only; split <;> first | rfl | exact getD_no rfl) | exact scl_no (by apply_assumption) _))), .inr (.inr trivial), .inr (.inr trivial), .inr (.inr trivial), .inr (.inr (by repeat first | exact trivial | refine And.intro ?_ ?_ | exact rfl | (intro i j; first | rfl | exact getD_no rfl | (dsimp only; split <;> first | rfl | exact getD_no rfl) | exact scl_no (by apply_assumption) _))), .inr (.inr (by repeat first | exact trivial | refine And.intro ?_ ?_ | exact rfl | (intro i j; first | rfl | exact getD_no rfl | (dsimp only; split <;> first | rfl | exact getD_no rfl) | exact scl_no (by apply_assumption) _))), .inr (.inr trivial), .inr (.inr (by repeat first | exact trivial | refine And.intro ?_ ?_ | exact rfl | (intro i j; first | rfl | exact getD_no rfl | (dsimp only; split <;> first | rfl | exact getD_no rfl) | exact scl_no (by apply_assumption) _))), .inr (.inr trivial), .inl rfl, .inr (.inr trivial), trivial⟩, ⟨.inr (.inr trivial), .inr (.inl (by kernel_rfl)), .inr (.inr trivial), .inr (.inr trivial), .inr (.inr trivial), .inr (.inl (by kernel_rfl)), .inr (.inl (by kernel_rfl)), .inr (.inr trivial), .inr (.inl (by kernel_rfl)), .inr (.inr trivial), .inr (.inl (by kernel_rfl)), .inl rfl, trivial⟩, trivial⟩ ⟨trivial, ⟨(by repeat first | exact trivial | refine ⟨by decide, by first | rfl | exact trivial | (intro i j; first | rfl | exact getD_no rfl | (dsimp only; split <;> first | rfl | exact getD_no rfl) | exact scl_no (by apply_assumption) _), ?_⟩), trivial⟩, trivial, trivial, trivial, ⟨(by repeat first | exact trivial | refine ⟨by decide, by first | rfl | exact trivial | (intro i j; first | rfl | exact getD_no rfl | (dsimp only; split <;> first | rfl | exact getD_no rfl) | exact scl_no (by apply_assumption) _), ?_⟩), trivial⟩, ⟨(by repeat first | exact trivial | refine ⟨by decide, by first | rfl | exact trivial | (intro i j; first | rfl | exact getD_no rfl | (dsimp only; split <;> first | rfl | exact getD_no rfl) | exact scl_no (by apply_assumption) _), ?_⟩), trivial⟩, trivial, ⟨(by repeat first | exact trivial | refine ⟨by decide, by first | rfl | exact trivial | (intro i j; first | rfl | exact getD_no rfl | (dsimp only; split <;> first | rfl | exact getD_no rfl) | exact scl_no (by apply_assumption) _), ?_⟩), trivial⟩, trivial, ⟨(by repeat first | exact trivial | refine ⟨by decide, by first | rfl | exact trivial | (intro i j; first | rfl | exact getD_no rfl | (dsimp only; split <;> first | rfl | exact getD_no rfl) | exact scl_no (by apply_assumption) _), ?_⟩), trivial⟩, trivial, trivial⟩ ?_
  refine ADX.pure [] (PureOp.move rfl (.tmp rfl)) rfl rfl (Nat.le_of_ble_eq_true rfl) trivial rfl ?_
  refine ADX.eff (tk := [1]) (new := [1]) (s := .one (.tre 1 0)) (F := [(8, .one (.tre 1 0))]) (Hin := []) (Hout := [(1, .trees 1 (fun p => ([.lst 1 l.length (fun i0 _ => .int .i64 (l.getD i0 0))] : List AV).getD p (.con undef)))]) (fun E X hE hX Q rest hk => ?_) trivial ⟨rfl, rfl⟩ rfl rfl rfl rfl ⟨(by repeat first | exact trivial | refine ⟨by decide, by first | rfl | exact trivial | (intro i j; first | rfl | exact getD_no rfl | (dsimp only; split <;> first | rfl | exact getD_no rfl) | exact scl_no (by apply_assumption) _), ?_⟩), trivial⟩ rfl (fun _ e => by cases e; exact Nat.le_of_ble_eq_true rfl) ?_
  · refine ARun.prod (K := 1) rfl (v_Clone_Int l (by omega)) (Fr.ext2 ⟨rfl, (by repeat first | exact trivial | refine ⟨by decide, by first | rfl | exact trivial | (intro i j; first | rfl | exact getD_no rfl | (dsimp only; split <;> first | rfl | exact getD_no rfl) | exact scl_no (by apply_assumption) _), ?_⟩)⟩ hE hX rfl rfl) ⟨⟨_, (.tmp rfl), .lst⟩, trivial⟩ vnb_ca_128 rfl rfl rfl rfl rfl (Nat.le_of_ble_eq_true rfl) ?_
    refine ARun.hleX ?_ ?_ hk
    · exact HeapLe.one rfl trivial
    · repeat (first | exact LkX.refl | refine LkX.cons (hX.none rfl) ?_ | refine LkX.filter (hX.none rfl) ?_)
  refine ADX.pure [] (PureOp.move rfl (.tmp rfl)) rfl rfl (Nat.le_of_ble_eq_true rfl) trivial rfl ?_
  refine ADX.pure [] (PureOp.move rfl (.tmp rfl)) rfl rfl (Nat.le_of_ble_eq_true rfl) trivial rfl ?_
  refine ADX.pure [] (PureOp.mul (c := ((l.length * l.length : Nat) : Int)) rfl (.tmp rfl) (.tmp rfl) (wrap_sq hl5)) rfl rfl (Nat.le_of_ble_eq_true rfl) trivial rfl ?_
  refine ADX.eff (tk := [2]) (new := [2]) (s := .one (.own 2 1 (l.length * l.length))) (F := [(12, .one (.own 2 1 (l.length * l.length)))]) (Hin := []) (Hout := [(2, .arr 1 (l.length * l.length) (fun _ j => ([.con (.slice none 0 0)] : List AV).getD j (.con undef)))]) (fun E X hE hX Q rest hk => ?_) trivial ⟨rfl, rfl⟩ rfl rfl rfl rfl ⟨(by repeat first | exact trivial | refine ⟨by decide, by first | rfl | exact trivial | (intro i j; first | rfl | exact getD_no rfl | (dsimp only; split <;> first | rfl | exact getD_no rfl) | exact scl_no (by apply_assumption) _), ?_⟩), trivial⟩ rfl (fun _ e => by cases e; exact Nat.le_of_ble_eq_true rfl) ?_
  · refine ARun.make (id := 2) (n := l.length * l.length) (l := [.con (.slice none 0 0)]) (z := (.slice none 0 0)) (by_ := 24) rfl (by kernel_rfl) (fun _ _ _ => ⟨_, _, rfl, rfl, rfl⟩) (.tmp rfl) (.tmp rfl) rfl rfl (by omega) (by omega) (by decide) (Fr.ext2 ⟨rfl, (by repeat first | exact trivial | refine ⟨by decide, by first | rfl | exact trivial | (intro i j; first | rfl | exact getD_no rfl | (dsimp only; split <;> first | rfl | exact getD_no rfl) | exact scl_no (by apply_assumption) _), ?_⟩)⟩ hE hX rfl rfl) rfl rfl rfl (Nat.le_of_ble_eq_true rfl) ?_
    refine ARun.hleX ?_ ?_ hk
    · exact HeapLe.one rfl trivial
    · repeat (first | exact LkX.refl | refine LkX.cons (hX.none rfl) ?_ | refine LkX.filter (hX.none rfl) ?_)
  refine ADX.eff (tk := [3]) (new := [3]) (s := .one (.own 3 1 1)) (F := [(13, .one (.own 3 1 1))]) (Hin := []) (Hout := [(3, .arr 1 1 (fun _ jc => ([.int .i64 (-1)] : List AV).getD jc (.con undef)))]) (fun E X hE hX Q rest hk => ?_) trivial ⟨rfl, rfl⟩ rfl rfl rfl rfl ⟨(by repeat first | exact trivial | refine ⟨by decide, by first | rfl | exact trivial | (intro i j; first | rfl | exact getD_no rfl | (dsimp only; split <;> first | rfl | exact getD_no rfl) | exact scl_no (by apply_assumption) _), ?_⟩), trivial⟩ rfl (fun _ e => by cases e; exact Nat.le_of_ble_eq_true rfl) ?_
  · refine ARun.slice1 (id := 3) (z := (.int .i64 0)) (by_ := 8) rfl .int trivial (by kernel_rfl) rfl rfl (by decide) (by decide) (Fr.ext2 ⟨rfl, (by repeat first | exact trivial | refine ⟨by decide, by first | rfl | exact trivial | (intro i j; first | rfl | exact getD_no rfl | (dsimp only; split <;> first | rfl | exact getD_no rfl) | exact scl_no (by apply_assumption) _), ?_⟩)⟩ hE hX rfl rfl) rfl rfl rfl (Nat.le_of_ble_eq_true rfl) ?_
    refine ARun.hleX ?_ ?_ hk
    · exact HeapLe.one rfl trivial
    · repeat (first | exact LkX.refl | refine LkX.cons (hX.none rfl) ?_ | refine LkX.filter (hX.none rfl) ?_)
  refine ADX.pure [] (PureOp.move rfl (.tmp rfl)) rfl rfl (Nat.le_of_ble_eq_true rfl) trivial rfl ?_
  refine ADX.eff (tk := [3, 4]) (new := [4]) (s := .one (.tre 4 0)) (F := [(15, .one (.tre 4 0))]) (Hin := [(3, .arr 1 1 (fun _ jc => ([.int .i64 (-1)] : List AV).getD jc (.con undef)))]) (Hout := [(3, .arr 1 1 (fun _ jc => ([.int .i64 (-1)] : List AV).getD jc (.con undef))), (4, .trees 1 (fun p => ([.lst 1 ((List.replicate l.length (-1)).length) (fun i0 _ => .int .i64 ((List.replicate l.length (-1)).getD i0 0))] : List AV).getD p (.con undef)))]) (fun E X hE hX Q rest hk => ?_) ⟨rfl, trivial⟩ ⟨rfl, rfl⟩ rfl rfl rfl rfl ⟨(by repeat first | exact trivial | refine ⟨by decide, by first | rfl | exact trivial | (intro i j; first | rfl | exact getD_no rfl | (dsimp only; split <;> first | rfl | exact getD_no rfl) | exact scl_no (by apply_assumption) _), ?_⟩), trivial⟩ rfl (fun _ e => by cases e; exact Nat.le_of_ble_eq_true rfl) ?_
  · refine ARun.prod (K := 4) rfl (v_Repeat (-1) l.length ⟨by omega, by omega⟩) (Fr.ext2 ⟨rfl, (by repeat first | exact trivial | refine ⟨by decide, by first | rfl | exact trivial | (intro i j; first | rfl | exact getD_no rfl | (dsimp only; split <;> first | rfl | exact getD_no rfl) | exact scl_no (by apply_assumption) _), ?_⟩)⟩ hE hX rfl rfl) ⟨⟨_, (.tmp rfl), (.own rfl rfl (Nat.le_refl _) (fun i j hi hj => (match j, hj with | 0, _ => .int | _ + 1, h => absurd h (by omega))))⟩, ⟨_, (.tmp rfl), .int⟩, trivial⟩ vnb_ca_129 rfl rfl rfl rfl rfl (Nat.le_of_ble_eq_true rfl) ?_
    refine ARun.hleX ?_ ?_ hk
    · exact HeapLe.one rfl (HeapLe.one rfl trivial)
    · repeat (first | exact LkX.refl | refine LkX.cons (hX.none rfl) ?_ | refine LkX.filter (hX.none rfl) ?_)
  refine ADX.pure [] (PureOp.build (ys := [.tre 1 0, .own 2 1 (l.length * l.length), .tre 4 0]) (l := [.con (.slice none 0 0), .con (.slice none 0 0), .con (.slice none 0 0), .con (.slice none 0 0), .con (.slice none 0 0)]) (pl := [(0, 1), (1, 1), (2, 1), (3, 1), (4, 1)]) (z := (.agg #[.slice none 0 0, .slice none 0 0, .slice none 0 0, .slice none 0 0, .slice none 0 0])) rfl (by kernel_rfl) (by kernel_rfl) (fun _ _ _ => ⟨_, _, rfl, rfl, ⟨_, _, rfl, rfl, ⟨_, _, rfl, rfl, ⟨_, _, rfl, rfl, ⟨_, _, rfl, rfl, rfl⟩⟩⟩⟩⟩) ⟨(.tmp rfl), trivial, rfl, ⟨(.tmp rfl), trivial, rfl, ⟨(.tmp rfl), trivial, rfl, trivial⟩⟩⟩ rfl) rfl rfl (Nat.le_of_ble_eq_true rfl) trivial rfl ?_
  refine ADX.eff (tk := [5]) (new := [5]) (s := .one (.ptr 5 5 0 0)) (F := [(4, .one (.ptr 5 5 0 0))]) (Hin := []) (Hout := [(5, .cells [.con (.slice none 0 0), .con (.slice none 0 0), .con (.slice none 0 0), .con (.slice none 0 0), .con (.slice none 0 0)])]) (fun E X hE hX Q rest hk => ?_) trivial ⟨rfl, rfl⟩ rfl rfl rfl rfl ⟨(by repeat first | exact trivial | refine ⟨by decide, by first | rfl | exact trivial | (intro i j; first | rfl | exact getD_no rfl | (dsimp only; split <;> first | rfl | exact getD_no rfl) | exact scl_no (by apply_assumption) _), ?_⟩), trivial⟩ rfl (fun _ e => by cases e; exact Nat.le_of_ble_eq_true rfl) ?_
  · refine ARun.alloc (id := 5) (l := [.con (.slice none 0 0), .con (.slice none 0 0), .con (.slice none 0 0), .con (.slice none 0 0), .con (.slice none 0 0)]) (z := (.agg #[.slice none 0 0, .slice none 0 0, .slice none 0 0, .slice none 0 0, .slice none 0 0])) rfl (by kernel_rfl) (fun _ _ _ => ⟨_, _, rfl, rfl, ⟨_, _, rfl, rfl, ⟨_, _, rfl, rfl, ⟨_, _, rfl, rfl, ⟨_, _, rfl, rfl, rfl⟩⟩⟩⟩⟩) (Fr.ext2 ⟨rfl, (by repeat first | exact trivial | refine ⟨by decide, by first | rfl | exact trivial | (intro i j; first | rfl | exact getD_no rfl | (dsimp only; split <;> first | rfl | exact getD_no rfl) | exact scl_no (by apply_assumption) _), ?_⟩)⟩ hE hX rfl rfl) rfl rfl rfl (Nat.le_of_ble_eq_true rfl) ?_
    refine ARun.hleX ?_ ?_ hk
    · exact HeapLe.one rfl trivial
    · repeat (first | exact LkX.refl | refine LkX.cons (hX.none rfl) ?_ | refine LkX.filter (hX.none rfl) ?_)
  refine ADX.eff (tk := [5]) (new := []) (s := .one (.con undef)) (F := []) (Hin := [(5, .cells [.con (.slice none 0 0), .con (.slice none 0 0), .con (.slice none 0 0), .con (.slice none 0 0), .con (.slice none 0 0)])]) (Hout := [(5, .cells [.tre 1 0, .own 2 1 (l.length * l.length), .tre 4 0, .con (.slice none 0 0), .con (.slice none 0 0)])]) (fun E X hE hX Q rest hk => ?_) ⟨rfl, trivial⟩ ⟨rfl, rfl⟩ rfl rfl rfl rfl trivial rfl (fun _ e => by cases e) ?_
  · refine ARun.store rfl (.tmp rfl) (.tmp rfl) (SV.cells_of (by exact ⟨trivial, trivial, trivial, ⟨rfl, (fun _ e => by cases e), (fun _ e => by cases e)⟩, ⟨rfl, (fun _ e => by cases e), (fun _ e => by cases e)⟩, trivial⟩)) rfl (Nat.le_of_ble_eq_true rfl) vnb_sz_49_5 rfl rfl ?_
    refine ARun.hleX ?_ ?_ hk
    · exact HeapLe.one rfl trivial
    · repeat (first | exact LkX.refl | refine LkX.cons (hX.none rfl) ?_ | refine LkX.filter (hX.none rfl) ?_)
  refine ADX.nil (H := [(0, .cells [.con (.slice none 0 0), .con (.slice none 0 0), .con (.slice none 0 0), .con (.slice none 0 0), .con (.slice none 0 0)]), (1, .trees 1 (fun p => ([.lst 1 l.length (fun i0 _ => .int .i64 (l.getD i0 0))] : List AV).getD p (.con undef))), (2, .arr 1 (l.length * l.length) (fun _ j => ([.con (.slice none 0 0)] : List AV).getD j (.con undef))), (3, .arr 1 1 (fun _ jc => ([.int .i64 (-1)] : List AV).getD jc (.con undef))), (4, .trees 1 (fun p => ([.lst 1 ((List.replicate l.length (-1)).length) (fun i0 _ => .int .i64 ((List.replicate l.length (-1)).getD i0 0))] : List AV).getD p (.con undef))), (5, .cells [.tre 1 0, .own 2 1 (l.length * l.length), .tre 4 0, .con (.slice none 0 0), .con (.slice none 0 0)])]) ?_ ?_
  · exact HeapLe.one rfl (HeapLe.one rfl (HeapLe.one rfl (HeapLe.one rfl (HeapLe.one rfl (HeapLe.one rfl trivial)))))
  refine AW.seq ?_
  refine AW.seq ?_
  refine AW.region ?_
  refine ARun.pure (PureOp.move rfl (.tmp rfl)) rfl rfl (Nat.le_of_ble_eq_true rfl) ?_
  refine ARun.pure (PureOp.move rfl .int) rfl rfl (Nat.le_of_ble_eq_true rfl) ?_
  refine ARun.nil ?_
  refine AW.block ?_
  refine AW.fam (id := 7) (bkH l.length) ⟨rfl, (by repeat first | exact trivial | refine ⟨by decide, by first | rfl | exact trivial | (intro i j; first | rfl | exact getD_no rfl | (dsimp only; split <;> first | rfl | exact getD_no rfl) | exact scl_no (by apply_assumption) _), ?_⟩)⟩ ?_
  refine AW.fam (id := 9) (bkF l.length) ⟨rfl, (by repeat first | exact trivial | refine ⟨by decide, by first | rfl | exact trivial | (intro i j; first | rfl | exact getD_no rfl | (dsimp only; split <;> first | rfl | exact getD_no rfl) | exact scl_no (by apply_assumption) _), ?_⟩)⟩ ?_
  refine AW.nilCell 5 3 6 1 _ (fun i_ _ => .tre 7 i_) rfl rfl ⟨rfl, (by repeat first | exact trivial | refine ⟨by decide, by first | rfl | exact trivial | (intro i j; first | rfl | exact getD_no rfl | (dsimp only; split <;> first | rfl | exact getD_no rfl) | exact scl_no (by apply_assumption) _), ?_⟩)⟩ ?_
  refine AW.nilCell 5 4 8 1 _ (fun i_ _ => .tre 9 i_) rfl rfl ⟨rfl, (by repeat first | exact trivial | refine ⟨by decide, by first | rfl | exact trivial | (intro i j; first | rfl | exact getD_no rfl | (dsimp only; split <;> first | rfl | exact getD_no rfl) | exact scl_no (by apply_assumption) _), ?_⟩)⟩ ?_
  -- objects are renamed
  refine AW.loopR (ι := Nat) (fun k => ⟨[(2, .one (.ptr 0 5 0 0)), (3, .one (.int .i64 (l.length : Int))), (4, .one (.ptr 5 5 0 0)), (17, .one (.int .i64 (l.length : Int))), (18, .one (.int .i64 (k : Int)))], [(0, .cells [.con (.slice none 0 0), .con (.slice none 0 0), .con (.slice none 0 0), .con (.slice none 0 0), .con (.slice none 0 0)]), (1, .trees 1 (fun p => ([.lst 1 l.length (fun i0 _ => .int .i64 (l.getD i0 0))] : List AV).getD p (.con undef))), (2, .arr 1 (l.length * l.length) (fun _ j => ([.con (.slice none 0 0)] : List AV).getD j (.con undef))), (4, .trees 1 (fun p => ([.lst 1 ((List.replicate l.length (-1)).length) (fun i0 _ => .int .i64 ((List.replicate l.length (-1)).getD i0 0))] : List AV).getD p (.con undef))), (5, .cells [.tre 1 0, .own 2 1 (l.length * l.length), .tre 4 0, .own 6 1 k, .own 8 1 k]), (6, .arr 1 k (fun i_ _ => .tre 7 i_)), (7, .trees k (bkH l.length)), (8, .arr 1 k (fun i_ _ => .tre 9 i_)), (9, .trees k (bkF l.length))]⟩) (fun k => k ≤ l.length) (fun k => l.length - k) 0 (Nat.zero_le _) ⟨⟨⟨_, rfl, rfl⟩, ⟨_, rfl, rfl⟩, ⟨_, rfl, rfl⟩, ⟨_, rfl, rfl⟩, ⟨_, rfl, rfl⟩, trivial⟩, ⟨⟨_, rfl, rfl, Nat.le_refl _, fun _ _ _ _ => rfl⟩, ⟨_, rfl, fun _ _ => rfl⟩, ⟨_, rfl, rfl, Nat.le_refl _, fun _ _ _ _ => rfl⟩, ⟨_, rfl, fun _ _ => rfl⟩, ⟨_, rfl, rfl, Nat.le_refl _, fun _ _ _ _ => rfl⟩, ⟨_, rfl, rfl, Nat.le_refl _, fun _ _ _ _ => rfl⟩, ⟨_, rfl, fun _ _ => rfl⟩, ⟨_, rfl, rfl, Nat.le_refl _, fun _ _ _ _ => rfl⟩, ⟨_, rfl, fun _ _ => rfl⟩, trivial⟩⟩ ?_
  intro k hk
  refine AW.seq ?_
  refine AW.region ?_
  refine ARun.pure (PureOp.intOp rfl (.tmp rfl) (.tmp rfl) rfl) rfl rfl (Nat.le_of_ble_eq_true rfl) ?_
  refine ARun.nil ?_
  refine AW.seq ?_
  refine AW.cond (.tmp rfl) (fun hb1 => ?_) (fun hb1 => ?_)
  · have _u := True.intro
    replace hb1 := of_decide_eq_true hb1
    have hkl : k < l.length := by omega
    refine AW.skip ?_
    refine AW.seq ?_
    refine AW.block ?_
    refine AW.anyX [⟨[], [], [], []⟩, ⟨[5], [], [], []⟩, ⟨[], [], [], []⟩, ⟨[], [7, 10], [10], [(7, .trees (k + 1) (bkH l.length))]⟩, ⟨[], [11], [11], [(11, .arr 1 1 (fun _ jc => ([.tre 7 k] : List AV).getD jc (.con undef)))]⟩, ⟨[], [6, 11, 12], [12], [(11, .arr 1 1 (fun _ jc => ([.tre 7 k] : List AV).getD jc (.con undef))), (12, .arr 1 (k + 1) (fun ia ja => if ia < k then (fun i_ _ => .tre 7 i_ : Nat → Nat → AV) ia ja else (fun _ jc => ([.tre 7 k] : List AV).getD jc (.con undef) : Nat → Nat → AV) (ia - k) ja))]⟩, ⟨[], [], [], []⟩, ⟨[5], [], [], []⟩, ⟨[], [], [], []⟩, ⟨[], [9, 13], [13], [(9, .trees (k + 1) (bkF l.length))]⟩, ⟨[], [14], [14], [(14, .arr 1 1 (fun _ jc => ([.tre 9 k] : List AV).getD jc (.con undef)))]⟩, ⟨[], [8, 14, 15], [15], [(14, .arr 1 1 (fun _ jc => ([.tre 9 k] : List AV).getD jc (.con undef))), (15, .arr 1 (k + 1) (fun ia ja => if ia < k then (fun i_ _ => .tre 9 i_ : Nat → Nat → AV) ia ja else (fun _ jc => ([.tre 9 k] : List AV).getD jc (.con undef) : Nat → Nat → AV) (ia - k) ja))]⟩, ⟨[], [], [], []⟩, ⟨[], [5], [], [(5, .cells [.tre 1 0, .own 2 1 (l.length * l.length), .tre 4 0, .own 12 1 (k + 1), .own 8 1 k])]⟩, ⟨[], [], [], []⟩, ⟨[], [5], [], [(5, .cells [.tre 1 0, .own 2 1 (l.length * l.length), .tre 4 0, .own 12 1 (k + 1), .own 15 1 (k + 1)])]⟩] (by kernel_rfl) (by kernel_rfl) (by kernel_rfl) ⟨⟨.inl rfl, .inr (.inr trivial), .inr (.inr trivial), .inr (.inr (by repeat first | exact trivial | refine And.intro ?_ ?_ | exact rfl | (intro i j; first | rfl | exact getD_no rfl | (dsimp only; split <;> first | rfl | exact getD_no rfl) | exact scl_no (by apply_assumption) _))), .inr (.inr (by repeat first | exact trivial | refine And.intro ?_ ?_ | exact rfl | (intro i j; first | rfl | exact getD_no rfl | (dsimp only; split <;> first | rfl | exact getD_no rfl) | exact scl_no (by apply_assumption) _))), .inr (.inr (by repeat first | exact trivial | refine And.intro ?_ ?_ | exact rfl | (intro i j; first | rfl | exact getD_no rfl | (dsimp only; split <;> first | rfl | exact getD_no rfl) | exact scl_no (by apply_assumption) _))), .inr (.inr trivial), .inr (.inr trivial), .inr (.inr trivial), .inr (.inr (by repeat first | exact trivial | refine And.intro ?_ ?_ | exact rfl | (intro i j; first | rfl | exact getD_no rfl | (dsimp only; split <;> first | rfl | exact getD_no rfl) | exact scl_no (by apply_assumption) _))), .inr (.inr (by repeat first | exact trivial | refine And.intro ?_ ?_ | exact rfl | (intro i j; first | rfl | exact getD_no rfl | (dsimp only; split <;> first | rfl | exact getD_no rfl) | exact scl_no (by apply_assumption) _))), .inr (.inr (by repeat first | exact trivial | refine And.intro ?_ ?_ | exact rfl | (intro i j; first | rfl | exact getD_no rfl | (dsimp only; split <;> first | rfl | exact getD_no rfl) | exact scl_no (by apply_assumption) _))), .inr (.inr trivial), .inr (.inr trivial), .inr (.inr trivial), .inr (.inr trivial), trivial⟩, ⟨.inr (.inr trivial), .inl rfl, .inr (.inr trivial), .inr (.inr (by repeat first | exact trivial | refine And.intro ?_ ?_ | exact rfl | (intro i j; first | rfl | exact getD_no rfl | (dsimp only; split <;> first | rfl | exact getD_no rfl) | exact scl_no (by apply_assumption) _))), .inr (.inr (by repeat first | exact trivial | refine And.intro ?_ ?_ | exact rfl | (intro i j; first | rfl | exact getD_no rfl | (dsimp only; split <;> first | rfl | exact getD_no rfl) | exact scl_no (by apply_assumption) _))), .inr (.inr (by repeat first | exact trivial | refine And.intro ?_ ?_ | exact rfl | (intro i j; first | rfl | exact getD_no rfl | (dsimp only; split <;> first | rfl | exact getD_no rfl) | exact scl_no (by apply_assumption) _))), .inr (.inr trivial), .inr (.inr trivial), .inr (.inr trivial), .inr (.inr (by repeat first | exact trivial | refine And.intro ?_ ?_ | exact rfl | (intro i j; first | rfl | exact getD_no rfl | (dsimp only; split <;> first | rfl | exact getD_no rfl) | exact scl_no (by apply_assumption) _))), .inr (.inr (by repeat first | exact trivial | refine And.intro ?_ ?_ | exact rfl | (intro i j; first | rfl | exact getD_no rfl | (dsimp only; split <;> first | rfl | exact getD_no rfl) | exact scl_no (by apply_assumption) _))), .inr (.inr (by repeat first | exact trivial | refine And.intro ?_ ?_ | exact rfl | (intro i j; first | rfl | exact getD_no rfl | (dsimp only; split <;> first | rfl | exact getD_no rfl) | exact scl_no (by apply_assumption) _))), .inr (.inr trivial), .inr (.inr trivial), .inr (.inr trivial), .inr (.inr trivial), trivial⟩, ⟨.inr (.inr trivial), .inr (.inr trivial), .inl rfl, .inr (.inr (by repeat first | exact trivial | refine And.intro ?_ ?_ | exact rfl | (intro i j; first | rfl | exact getD_no rfl | (dsimp only; split <;> first | rfl | exact getD_no rfl) | exact scl_no (by apply_assumption) _))), .inr (.inr (by repeat first | exact trivial | refine And.intro ?_ ?_ | exact rfl | (intro i j; first | rfl | exact getD_no rfl | (dsimp only; split <;> first | rfl | exact getD_no rfl) | exact scl_no (by apply_assumption) _))), .inr (.inr (by repeat first | exact trivial | refine And.intro ?_ ?_ | exact rfl | (intro i j; first | rfl | exact getD_no rfl | (dsimp only; split <;> first | rfl | exact getD_no rfl) | exact scl_no (by apply_assumption) _))), .inr (.inr trivial), .inr (.inr trivial), .inr (.inr trivial), .inr (.inr (by repeat first | exact trivial | refine And.intro ?_ ?_ | exact rfl | (intro i j; first | rfl | exact getD_no rfl | (dsimp only; split <;> first | rfl | exact getD_no rfl) | exact scl_no (by apply_assumption) _))), .inr (.inr (by repeat first | exact trivial | refine And.intro ?_ ?_ | exact rfl | (intro i j; first | rfl | exact getD_no rfl | (dsimp only; split <;> first | rfl | exact getD_no rfl) | exact scl_no (by apply_assumption) _))), .inr (.inr (by repeat first | exact trivial | refine And.intro ?_ ?_ | exact rfl | (intro i j; first | rfl | exact getD_no rfl | (dsimp only; split <;> first | rfl | exact getD_no rfl) | exact scl_no (by apply_assumption) _))), .inr (.inr trivial), .inr (.inr trivial), .inr (.inr trivial), .inr (.inr trivial), trivial⟩, ⟨.inr (.inr trivial), .inr (.inr trivial), .inr (.inr trivial), .inl rfl, .inr (.inr (by repeat first | exact trivial | refine And.intro ?_ ?_ | exact rfl | (intro i j; first | rfl | exact getD_no rfl | (dsimp only; split <;> first | rfl | exact getD_no rfl) | exact scl_no (by apply_assumption) _))), .inr (.inr (by repeat first | exact trivial | refine And.intro ?_ ?_ | exact rfl | (intro i j; first | rfl | exact getD_no rfl | (dsimp only; split <;> first | rfl | exact getD_no rfl) | exact scl_no (by apply_assumption) _))), .inr (.inr trivial), .inr (.inr trivial), .inr (.inr trivial), .inr (.inr (by repeat first | exact trivial | refine And.intro ?_ ?_ | exact rfl | (intro i j; first | rfl | exact getD_no rfl | (dsimp only; split <;> first | rfl | exact getD_no rfl) | exact scl_no (by apply_assumption) _))), .inr (.inr (by repeat first | exact trivial | refine And.intro ?_ ?_ | exact rfl | (intro i j; first | rfl | exact getD_no rfl | (dsimp only; split <;> first | rfl | exact getD_no rfl) | exact scl_no (by apply_assumption) _))), .inr (.inr (by repeat first | exact trivial | refine And.intro ?_ ?_ | exact rfl | (intro i j; first | rfl | exact getD_no rfl | (dsimp only; split <;> first | rfl | exact getD_no rfl) | exact scl_no (by apply_assumption) _))), .inr (.inr trivial), .inr (.inr trivial), .inr (.inr trivial), .inr (.inr trivial), trivial⟩, ⟨.inr (.inr trivial), .inr (.inr trivial), .inr (.inr trivial), .inr (.inl (by kernel_rfl)), .inl rfl, .inr (.inr (by repeat first | exact trivial | refine And.intro ?_ ?_ | exact rfl | (intro i j; first | rfl | exact getD_no rfl | (dsimp only; split <;> first | rfl | exact getD_no rfl) | exact scl_no (by apply_assumption) _))), .inr (.inr trivial), .inr (.inr trivial), .inr (.inr trivial), .inr (.inr (by repeat first | exact trivial | refine And.intro ?_ ?_ | exact rfl | (intro i j; first | rfl | exact getD_no rfl | (dsimp only; split <;> first | rfl | exact getD_no rfl) | exact scl_no (by apply_assumption) _))), .inr (.inr (by repeat first | exact trivial | refine And.intro ?_ ?_ | exact rfl | (intro i j; first | rfl | exact getD_no rfl | (dsimp only; split <;> first | rfl | exact getD_no rfl) | exact scl_no (by apply_assumption) _))), .inr (.inr (by repeat first | exact trivial | refine And.intro ?_ ?_ | exact rfl | (intro i j; first | rfl | exact getD_no rfl | (dsimp only; split <;> first | rfl | exact getD_no rfl) | exact scl_no (by apply_assumption) _))), .inr (.inr trivial), .inr (.inr trivial), .inr (.inr trivial), .inr (.inr trivial), trivial⟩, ⟨.inr (.inr trivial), .inr (.inr trivial), .inr (.inr trivial), .inr (.inl (by kernel_rfl)), .inr (.inl (by kernel_rfl)), .inl rfl, .inr (.inr trivial), .inr (.inr trivial), .inr (.inr trivial), .inr (.inr (by repeat first | exact trivial | refine And.intro ?_ ?_ | exact rfl | (intro i j; first | rfl | exact getD_no rfl | (dsimp only; split <;> first | rfl | exact getD_no rfl) | exact scl_no (by apply_assumption) _))), .inr (.inr (by repeat first | exact trivial | refine And.intro ?_ ?_ | exact rfl | (intro i j; first | rfl | exact getD_no rfl | (dsimp only; split <;> first | rfl | exact getD_no rfl) | exact scl_no (by apply_assumption) _))), .inr (.inr (by repeat first | exact trivial | refine And.intro ?_ ?_ | exact rfl | (intro i j; first | rfl | exact getD_no rfl | (dsimp only; split <;> first | rfl | exact getD_no rfl) | exact scl_no (by apply_assumption) _))), .inr (.inr trivial), .inr (.inr trivial), .inr (.inr trivial), .inr (.inr trivial), trivial⟩, ⟨.inr (.inr trivial), .inr (.inr trivial), .inr (.inr trivial), .inr (.inr (by repeat first | exact trivial | refine And.intro ?_ ?_ | exact rfl | (intro i j; first | rfl | exact getD_no rfl | (dsimp only; split <;> first | rfl | exact getD_no rfl) | exact scl_no (by apply_assumption) _))), .inr (.inr (by repeat first | exact trivial | refine And.intro ?_ ?_ | exact rfl | (intro i j; first | rfl | exact getD_no rfl | (dsimp only; split <;> first | rfl | exact getD_no rfl) | exact scl_no (by apply_assumption) _))), .inr (.inr (by repeat first | exact trivial | refine And.intro ?_ ?_ | exact rfl | (intro i j; first | rfl | exact getD_no rfl | (dsimp only; split <;> first | rfl | exact getD_no rfl) | exact scl_no (by apply_assumption) _))), .inl rfl, .inr (.inr trivial), .inr (.inr trivial), .inr (.inr (by repeat first | exact trivial | refine And.intro ?_ ?_ | exact rfl | (intro i j; first | rfl | exact getD_no rfl | (dsimp only; split <;> first | rfl | exact getD_no rfl) | exact scl_no (by apply_assumption) _))), .inr (.inr (by repeat first | exact trivial | refine And.intro ?_ ?_ | exact rfl | (intro i j; first | rfl | exact getD_no rfl | (dsimp only; split <;> first | rfl | exact getD_no rfl) | exact scl_no (by apply_assumption) _))), .inr (.inr (by repeat first | exact trivial | refine And.intro ?_ ?_ | exact rfl | (intro i j; first | rfl | exact getD_no rfl | (dsimp only; split <;> first | rfl | exact getD_no rfl) | exact scl_no (by apply_assumption) _))), .inr (.inr trivial), .inr (.inr trivial), .inr (.inr trivial), .inr (.inr trivial), trivial⟩, ⟨.inr (.inr trivial), .inr (.inr trivial), .inr (.inr trivial), .inr (.inr (by repeat first | exact trivial | refine And.intro ?_ ?_ | exact rfl | (intro i j; first | rfl | exact getD_no rfl | (dsimp only; split <;> first | rfl | exact getD_no rfl) | exact scl_no (by apply_assumption) _))), .inr (.inr (by repeat first | exact trivial | refine And.intro ?_ ?_ | exact rfl | (intro i j; first | rfl | exact getD_no rfl | (dsimp only; split <;> first | rfl | exact getD_no rfl) | exact scl_no (by apply_assumption) _))), .inr (.inr (by repeat first | exact trivial | refine And.intro ?_ ?_ | exact rfl | (intro i j; first | rfl | exact getD_no rfl | (dsimp only; split <;> first | rfl | exact getD_no rfl) | exact scl_no (by apply_assumption) _))), .inr (.inr trivial), .inl rfl, .inr (.inr trivial), .inr (.inr (by repeat first | exact trivial | refine And.intro ?_ ?_ | exact rfl | (intro i j; first | rfl | exact getD_no rfl | (dsimp only; split <;> first | rfl | exact getD_no rfl) | exact scl_no (by apply_assumption) _))), .inr (.inr (by repeat first | exact trivial | refine And.intro ?_ ?_ | exact rfl | (intro i j; first | rfl | exact getD_no rfl | (dsimp only; split <;> first | rfl | exact getD_no rfl) | exact scl_no (by apply_assumption) _))), .inr (.inr (by repeat first | exact trivial | refine And.intro ?_ ?_ | exact rfl | (intro i j; first | rfl | exact getD_no rfl | (dsimp only; split <;> first | rfl | exact getD_no rfl) | exact scl_no (by apply_assumption) _))), .inr (.inr trivial), .inr (.inr trivial), .inr (.inr trivial), .inr (.inr trivial), trivial⟩, ⟨.inr (.inr trivial), .inr (.inr trivial), .inr (.inr trivial), .inr (.inr (by repeat first | exact trivial | refine And.intro ?_ ?_ | exact rfl | (intro i j; first | rfl | exact getD_no rfl | (dsimp only; split <;> first | rfl | exact getD_no rfl) | exact scl_no (by apply_assumption) _))), .inr (.inr (by repeat first | exact trivial | refine And.intro ?_ ?_ | exact rfl | (intro i j; first | rfl | exact getD_no rfl | (dsimp only; split <;> first | rfl | exact getD_no rfl) | exact scl_no (by apply_assumption) _))), .inr (.inr (by repeat first | exact trivial | refine And.intro ?_ ?_ | exact rfl | (intro i j; first | rfl | exact getD_no rfl | (dsimp only; split <;> first | rfl | exact getD_no rfl) | exact scl_no (by apply_assumption) _))), .inr (.inr trivial), .inr (.inr trivial), .inl rfl, .inr (.inr (by repeat first | exact trivial | refine And.intro ?_ ?_ | exact rfl | (intro i j; first | rfl | exact getD_no rfl | (dsimp only; split <;> first | rfl | exact getD_no rfl) | exact scl_no (by apply_assumption) _))), .inr (.inr (by repeat first | exact trivial | refine And.intro ?_ ?_ | exact rfl | (intro i j; first | rfl | exact getD_no rfl | (dsimp only; split <;> first | rfl | exact getD_no rfl) | exact scl_no (by apply_assumption) _))), .inr (.inr (by repeat first | exact trivial | refine And.intro ?_ ?_ | exact rfl | (intro i j; first | rfl | exact getD_no rfl | (dsimp only; split <;> first | rfl | exact getD_no rfl) | exact scl_no (by apply_assumption) _))), .inr (.inr trivial), .inr (.inr trivial), .inr (.inr trivial), .inr (.inr trivial), trivial⟩, ⟨.inr (.inr trivial), .inr (.inr trivial), .inr (.inr trivial), .inr (.inr (by repeat first | exact trivial | refine And.intro ?_ ?_ | exact rfl | (intro i j; first | rfl | exact getD_no rfl | (dsimp only; split <;> first | rfl | exact getD_no rfl) | exact scl_no (by apply_assumption) _))), .inr (.inr (by repeat first | exact trivial | refine And.intro ?_ ?_ | exact rfl | (intro i j; first | rfl | exact getD_no rfl | (dsimp only; split <;> first | rfl | exact getD_no rfl) | exact scl_no (by apply_assumption) _))), .inr (.inr (by repeat first | exact trivial | refine And.intro ?_ ?_ | exact rfl | (intro i j; first | rfl | exact getD_no rfl | (dsimp only; split <;> first | rfl | exact getD_no rfl) | exact scl_no (by apply_assumption) _))), .inr (.inr trivial), .inr (.inr trivial), .inr (.inr trivial), .inl rfl, .inr (.inr (by repeat first | exact trivial | refine And.intro ?_ ?_ | exact rfl | (intro i j; first | rfl | exact getD_no rfl | (dsimp only; split <;> first | rfl | exact getD_no rfl) | exact scl_no (by apply_assumption) _))), .inr (.inr (by repeat first | exact trivial | refine And.intro ?_ ?_ | exact rfl | (intro i j; first | rfl | exact getD_no rfl | (dsimp only; split <;> first | rfl | exact getD_no rfl) | exact scl_no (by apply_assumption) _))), .inr (.inr trivial), .inr (.inr trivial), .inr (.inr trivial), .inr (.inr trivial), trivial⟩, ⟨.inr (.inr trivial), .inr (.inr trivial), .inr (.inr trivial), .inr (.inr (by repeat first | exact trivial | refine And.intro ?_ ?_ | exact rfl | (intro i j; first | rfl | exact getD_no rfl | (dsimp only; split <;> first | rfl | exact getD_no rfl) | exact scl_no (by apply_assumption) _))), .inr (.inr (by repeat first | exact trivial | refine And.intro ?_ ?_ | exact rfl | (intro i j; first | rfl | exact getD_no rfl | (dsimp only; split <;> first | rfl | exact getD_no rfl) | exact scl_no (by apply_assumption) _))), .inr (.inr (by repeat first | exact trivial | refine And.intro ?_ ?_ | exact rfl | (intro i j; first | rfl | exact getD_no rfl | (dsimp only; split <;> first | rfl | exact getD_no rfl) | exact scl_no (by apply_assumption) _))), .inr (.inr trivial), .inr (.inr trivial), .inr (.inr trivial), .inr (.inl (by kernel_rfl)), .inl rfl, .inr (.inr (by repeat first | exact trivial | refine And.intro ?_ ?_ | exact rfl | (intro i j; first | rfl | exact getD_no rfl | (dsimp only; split <;> first | rfl | exact getD_no rfl) | exact scl_no (by apply_assumption) _))), .inr (.inr trivial), .inr (.inr trivial), .inr (.inr trivial), .inr (.inr trivial), trivial⟩, ⟨.inr (.inr trivial), .inr (.inr trivial), .inr (.inr trivial), .inr (.inl (by kernel_rfl)), .inr (.inl (by kernel_rfl)), .inr (.inl (by kernel_rfl)), .inr (.inr trivial), .inr (.inr trivial), .inr (.inr trivial), .inr (.inl (by kernel_rfl)), .inr (.inl (by kernel_rfl)), .inl rfl, .inr (.inr trivial), .inr (.inr trivial), .inr (.inr trivial), .inr (.inr trivial), trivial⟩, ⟨.inr (.inr trivial), .inr (.inr trivial), .inr (.inr trivial), .inr (.inl (by kernel_rfl)), .inr (.inl (by kernel_rfl)), .inr (.inl (by kernel_rfl)), .inr (.inr trivial), .inr (.inr trivial), .inr (.inr trivial), .inr (.inr (by repeat first | exact trivial | refine And.intro ?_ ?_ | exact rfl | (intro i j; first | rfl | exact getD_no rfl | (dsimp only; split <;> first | rfl | exact getD_no rfl) | exact scl_no (by apply_assumption) _))), .inr (.inr (by repeat first | exact trivial | refine And.intro ?_ ?_ | exact rfl | (intro i j; first | rfl | exact getD_no rfl | (dsimp only; split <;> first | rfl | exact getD_no rfl) | exact scl_no (by apply_assumption) _))), .inr (.inr (by repeat first | exact trivial | refine And.intro ?_ ?_ | exact rfl | (intro i j; first | rfl | exact getD_no rfl | (dsimp only; split <;> first | rfl | exact getD_no rfl) | exact scl_no (by apply_assumption) _))), .inl rfl, .inr (.inr trivial), .inr (.inr trivial), .inr (.inr trivial), trivial⟩, ⟨.inr (.inr trivial), .inr (.inr trivial), .inr (.inr trivial), .inr (.inl (by kernel_rfl)), .inr (.inl (by kernel_rfl)), .inr (.inl (by kernel_rfl)), .inr (.inr trivial), .inr (.inr trivial), .inr (.inr trivial), .inr (.inl (by kernel_rfl)), .inr (.inl (by kernel_rfl)), .inr (.inl (by kernel_rfl)), .inr (.inr trivial), .inl rfl, .inr (.inr trivial), .inr (.inr trivial), trivial⟩, ⟨.inr (.inr trivial), .inr (.inr trivial), .inr (.inr trivial), .inr (.inl (by kernel_rfl)), .inr (.inl (by kernel_rfl)), .inr (.inl (by kernel_rfl)), .inr (.inr trivial), .inr (.inr trivial), .inr (.inr trivial), .inr (.inl (by kernel_rfl)), .inr (.inl (by kernel_rfl)), .inr (.inl (by kernel_rfl)), .inr (.inr trivial), .inr (.inr trivial), .inl rfl, .inr (.inr trivial), trivial⟩, ⟨.inr (.inr trivial), .inr (.inr trivial), .inr (.inr trivial), .inr (.inl (by kernel_rfl)), .inr (.inl (by kernel_rfl)), .inr (.inl (by kernel_rfl)), .inr (.inr trivial), .inr (.inr trivial), .inr (.inr trivial), .inr (.inl (by kernel_rfl)), .inr (.inl (by kernel_rfl)), .inr (.inl (by kernel_rfl)), .inr (.inr trivial), .inr (.inr trivial), .inr (.inr trivial), .inl rfl, trivial⟩, trivial⟩ ⟨trivial, trivial, trivial, ⟨(by repeat first | exact trivial | refine ⟨by decide, by first | rfl | exact trivial | (intro i j; first | rfl | exact getD_no rfl | (dsimp only; split <;> first | rfl | exact getD_no rfl) | exact scl_no (by apply_assumption) _), ?_⟩), trivial⟩, ⟨(by repeat first | exact trivial | refine ⟨by decide, by first | rfl | exact trivial | (intro i j; first | rfl | exact getD_no rfl | (dsimp only; split <;> first | rfl | exact getD_no rfl) | exact scl_no (by apply_assumption) _), ?_⟩), trivial⟩, ⟨(by repeat first | exact trivial | refine ⟨by decide, by first | rfl | exact trivial | (intro i j; first | rfl | exact getD_no rfl | (dsimp only; split <;> first | rfl | exact getD_no rfl) | exact scl_no (by apply_assumption) _), ?_⟩), trivial⟩, trivial, trivial, trivial, ⟨(by repeat first | exact trivial | refine ⟨by decide, by first | rfl | exact trivial | (intro i j; first | rfl | exact getD_no rfl | (dsimp only; split <;> first | rfl | exact getD_no rfl) | exact scl_no (by apply_assumption) _), ?_⟩), trivial⟩, ⟨(by repeat first | exact trivial | refine ⟨by decide, by first | rfl | exact trivial | (intro i j; first | rfl | exact getD_no rfl | (dsimp only; split <;> first | rfl | exact getD_no rfl) | exact scl_no (by apply_assumption) _), ?_⟩), trivial⟩, ⟨(by repeat first | exact trivial | refine ⟨by decide, by first | rfl | exact trivial | (intro i j; first | rfl | exact getD_no rfl | (dsimp only; split <;> first | rfl | exact getD_no rfl) | exact scl_no (by apply_assumption) _), ?_⟩), trivial⟩, trivial, trivial, trivial, trivial, trivial⟩ ?_
    refine ADX.pure [] (PureOp.fieldPtr rfl (.tmp rfl) vnb_fi_49_3_3) rfl rfl (Nat.le_of_ble_eq_true rfl) trivial rfl ?_
    refine ADX.pure [(5, .cells [.tre 1 0, .own 2 1 (l.length * l.length), .tre 4 0, .own 6 1 k, .own 8 1 k])] (PureOp.loadPtr rfl (.tmp rfl) vnb_pl_47 rfl rfl (Nat.le_of_ble_eq_true rfl) (Nat.le_of_ble_eq_true rfl)) rfl rfl (Nat.le_of_ble_eq_true rfl) ⟨rfl, trivial⟩ rfl ?_
    refine ADX.pure [] (PureOp.move rfl (.tmp rfl)) rfl rfl (Nat.le_of_ble_eq_true rfl) trivial rfl ?_
    refine ADX.eff (tk := [7, 10]) (new := [10]) (s := .one (.tre 7 k)) (F := [(23, .one (.tre 7 k)), (23, .one (.own 10 1 l.length))]) (Hin := [(7, .trees k (bkH l.length))]) (Hout := [(7, .trees (k + 1) (bkH l.length))]) (fun E X hE hX Q rest hk => ?_) ⟨rfl, trivial⟩ ⟨rfl, rfl⟩ rfl rfl rfl rfl ⟨(by repeat first | exact trivial | refine ⟨by decide, by first | rfl | exact trivial | (intro i j; first | rfl | exact getD_no rfl | (dsimp only; split <;> first | rfl | exact getD_no rfl) | exact scl_no (by apply_assumption) _), ?_⟩), trivial⟩ rfl (fun _ e => by cases e; exact Nat.le_of_ble_eq_true rfl) ?_
    · refine ARun.make (id := 10) (n := l.length) (l := [.bool false]) (z := (.bool false)) (by_ := 1) rfl (by kernel_rfl) (fun _ _ _ => ⟨_, _, rfl, rfl, rfl⟩) (.tmp rfl) (.tmp rfl) rfl rfl (by omega) (by omega) (by decide) (Fr.ext2 ⟨rfl, (by repeat first | exact trivial | refine ⟨by decide, by first | rfl | exact trivial | (intro i j; first | rfl | exact getD_no rfl | (dsimp only; split <;> first | rfl | exact getD_no rfl) | exact scl_no (by apply_assumption) _), ?_⟩)⟩ hE hX rfl rfl) rfl rfl rfl (Nat.le_of_ble_eq_true rfl) ?_
      refine ARun.closeRow 23 10 7 k 1 l.length (m' := (List.replicate l.length false).length) (X := bkH l.length) (g := fun a _ => .bool ((List.replicate l.length false).getD a false)) rfl rfl rfl rfl (Nat.le_refl _) rfl rfl rfl List.length_replicate (fun i j hi (hj : j < 1) => match j, hj with | 0, _ => congrArg (fun e => AV.bool e) (getD_rep hi).symm | _ + 1, h => absurd h (by omega)) (fun i j hi (hj : j < 1) => rfl) ?_
      refine ARun.hleX ?_ ?_ hk
      · exact HeapLe.one rfl trivial
      · repeat (first | exact LkX.refl | refine LkX.cons (hX.none rfl) ?_ | refine LkX.filter (hX.none rfl) ?_)
    refine ADX.eff (tk := [11]) (new := [11]) (s := .one (.own 11 1 1)) (F := [(24, .one (.own 11 1 1))]) (Hin := []) (Hout := [(11, .arr 1 1 (fun _ jc => ([.tre 7 k] : List AV).getD jc (.con undef)))]) (fun E X hE hX Q rest hk => ?_) trivial ⟨rfl, rfl⟩ rfl rfl rfl rfl ⟨(by repeat first | exact trivial | refine ⟨by decide, by first | rfl | exact trivial | (intro i j; first | rfl | exact getD_no rfl | (dsimp only; split <;> first | rfl | exact getD_no rfl) | exact scl_no (by apply_assumption) _), ?_⟩), trivial⟩ rfl (fun _ e => by cases e; exact Nat.le_of_ble_eq_true rfl) ?_
    · refine ARun.slice1 (id := 11) (z := (.slice none 0 0)) (by_ := 24) rfl (.tmp rfl) trivial (by kernel_rfl) rfl rfl (by decide) (by decide) (Fr.ext2 ⟨rfl, (by repeat first | exact trivial | refine ⟨by decide, by first | rfl | exact trivial | (intro i j; first | rfl | exact getD_no rfl | (dsimp only; split <;> first | rfl | exact getD_no rfl) | exact scl_no (by apply_assumption) _), ?_⟩)⟩ hE hX rfl rfl) rfl rfl rfl (Nat.le_of_ble_eq_true rfl) ?_
      refine ARun.hleX ?_ ?_ hk
      · exact HeapLe.one rfl trivial
      · repeat (first | exact LkX.refl | refine LkX.cons (hX.none rfl) ?_ | refine LkX.filter (hX.none rfl) ?_)
    refine ADX.eff (tk := [6, 11, 12]) (new := [12]) (s := .one (.own 12 1 (k + 1))) (F := [(25, .one (.own 12 1 (k + 1)))]) (Hin := [(6, .arr 1 k (fun i_ _ => .tre 7 i_)), (11, .arr 1 1 (fun _ jc => ([.tre 7 k] : List AV).getD jc (.con undef)))]) (Hout := [(11, .arr 1 1 (fun _ jc => ([.tre 7 k] : List AV).getD jc (.con undef))), (12, .arr 1 (k + 1) (fun ia ja => if ia < k then (fun i_ _ => .tre 7 i_ : Nat → Nat → AV) ia ja else (fun _ jc => ([.tre 7 k] : List AV).getD jc (.con undef) : Nat → Nat → AV) (ia - k) ja))]) (fun E X hE hX Q rest hk => ?_) ⟨rfl, rfl, trivial⟩ ⟨rfl, rfl⟩ rfl rfl rfl rfl ⟨(by repeat first | exact trivial | refine ⟨by decide, by first | rfl | exact trivial | (intro i j; first | rfl | exact getD_no rfl | (dsimp only; split <;> first | rfl | exact getD_no rfl) | exact scl_no (by apply_assumption) _), ?_⟩), trivial⟩ rfl (fun _ e => by cases e; exact Nat.le_of_ble_eq_true rfl) ?_
    · refine ARun.append (id := 12) (sz := 1) (n := k) (m := 1) (by_ := 24) (z := (.slice none 0 0)) (f := fun i_ _ => .tre 7 i_) (g := fun _ jc => ([.tre 7 k] : List AV).getD jc (.con undef)) (h := fun ia ja => if ia < k then (fun i_ _ => .tre 7 i_ : Nat → Nat → AV) ia ja else (fun _ jc => ([.tre 7 k] : List AV).getD jc (.con undef) : Nat → Nat → AV) (ia - k) ja) rfl (by kernel_rfl) rfl vnb_sl_47 (.own (.tmp rfl) rfl rfl rfl (Nat.le_refl _) (fun _ _ _ _ => rfl)) (.own (.tmp rfl) rfl rfl (Nat.le_refl _) (fun _ _ _ _ => rfl)) (by decide) (fun i j hi hj => match j, hj with | 0, _ => rfl | _ + 1, h => absurd h (by omega)) (fun _ _ _ _ => rfl) (by omega) (by omega) (Fr.ext2 ⟨rfl, (by repeat first | exact trivial | refine ⟨by decide, by first | rfl | exact trivial | (intro i j; first | rfl | exact getD_no rfl | (dsimp only; split <;> first | rfl | exact getD_no rfl) | exact scl_no (by apply_assumption) _), ?_⟩)⟩ hE hX rfl rfl) (fun i j => by dsimp only; (repeat' split) <;> first | rfl | exact getD_no rfl) rfl rfl (Nat.le_of_ble_eq_true rfl) ?_
      refine ARun.hleX ?_ ?_ hk
      · exact HeapLe.one rfl (HeapLe.one rfl trivial)
      · repeat (first | exact LkX.refl | refine LkX.cons (hX.none rfl) ?_ | refine LkX.filter (hX.none rfl) ?_)
    refine ADX.pure [] (PureOp.fieldPtr rfl (.tmp rfl) vnb_fi_49_4_4) rfl rfl (Nat.le_of_ble_eq_true rfl) trivial rfl ?_
    refine ADX.pure [(5, .cells [.tre 1 0, .own 2 1 (l.length * l.length), .tre 4 0, .own 6 1 k, .own 8 1 k])] (PureOp.loadPtr rfl (.tmp rfl) vnb_pl_25 rfl rfl (Nat.le_of_ble_eq_true rfl) (Nat.le_of_ble_eq_true rfl)) rfl rfl (Nat.le_of_ble_eq_true rfl) ⟨rfl, trivial⟩ rfl ?_
    refine ADX.pure [] (PureOp.move rfl (.tmp rfl)) rfl rfl (Nat.le_of_ble_eq_true rfl) trivial rfl ?_
    refine ADX.eff (tk := [9, 13]) (new := [13]) (s := .one (.tre 9 k)) (F := [(29, .one (.tre 9 k)), (29, .one (.own 13 1 l.length))]) (Hin := [(9, .trees k (bkF l.length))]) (Hout := [(9, .trees (k + 1) (bkF l.length))]) (fun E X hE hX Q rest hk => ?_) ⟨rfl, trivial⟩ ⟨rfl, rfl⟩ rfl rfl rfl rfl ⟨(by repeat first | exact trivial | refine ⟨by decide, by first | rfl | exact trivial | (intro i j; first | rfl | exact getD_no rfl | (dsimp only; split <;> first | rfl | exact getD_no rfl) | exact scl_no (by apply_assumption) _), ?_⟩), trivial⟩ rfl (fun _ e => by cases e; exact Nat.le_of_ble_eq_true rfl) ?_
    · refine ARun.make (id := 13) (n := l.length) (l := [.int .i64 0]) (z := (.int .i64 0)) (by_ := 8) rfl (by kernel_rfl) (fun _ _ _ => ⟨_, _, rfl, rfl, rfl⟩) (.tmp rfl) (.tmp rfl) rfl rfl (by omega) (by omega) (by decide) (Fr.ext2 ⟨rfl, (by repeat first | exact trivial | refine ⟨by decide, by first | rfl | exact trivial | (intro i j; first | rfl | exact getD_no rfl | (dsimp only; split <;> first | rfl | exact getD_no rfl) | exact scl_no (by apply_assumption) _), ?_⟩)⟩ hE hX rfl rfl) rfl rfl rfl (Nat.le_of_ble_eq_true rfl) ?_
      refine ARun.closeRow 29 13 9 k 1 l.length (m' := (List.replicate l.length (0 : Int)).length) (X := bkF l.length) (g := fun a _ => .int .i64 ((List.replicate l.length (0 : Int)).getD a 0)) rfl rfl rfl rfl (Nat.le_refl _) rfl rfl rfl List.length_replicate (fun i j hi (hj : j < 1) => match j, hj with | 0, _ => congrArg (fun e => AV.int .i64 e) (getD_rep hi).symm | _ + 1, h => absurd h (by omega)) (fun i j hi (hj : j < 1) => rfl) ?_
      refine ARun.hleX ?_ ?_ hk
      · exact HeapLe.one rfl trivial
      · repeat (first | exact LkX.refl | refine LkX.cons (hX.none rfl) ?_ | refine LkX.filter (hX.none rfl) ?_)
    refine ADX.eff (tk := [14]) (new := [14]) (s := .one (.own 14 1 1)) (F := [(30, .one (.own 14 1 1))]) (Hin := []) (Hout := [(14, .arr 1 1 (fun _ jc => ([.tre 9 k] : List AV).getD jc (.con undef)))]) (fun E X hE hX Q rest hk => ?_) trivial ⟨rfl, rfl⟩ rfl rfl rfl rfl ⟨(by repeat first | exact trivial | refine ⟨by decide, by first | rfl | exact trivial | (intro i j; first | rfl | exact getD_no rfl | (dsimp only; split <;> first | rfl | exact getD_no rfl) | exact scl_no (by apply_assumption) _), ?_⟩), trivial⟩ rfl (fun _ e => by cases e; exact Nat.le_of_ble_eq_true rfl) ?_
    · refine ARun.slice1 (id := 14) (z := (.slice none 0 0)) (by_ := 24) rfl (.tmp rfl) trivial (by kernel_rfl) rfl rfl (by decide) (by decide) (Fr.ext2 ⟨rfl, (by repeat first | exact trivial | refine ⟨by decide, by first | rfl | exact trivial | (intro i j; first | rfl | exact getD_no rfl | (dsimp only; split <;> first | rfl | exact getD_no rfl) | exact scl_no (by apply_assumption) _), ?_⟩)⟩ hE hX rfl rfl) rfl rfl rfl (Nat.le_of_ble_eq_true rfl) ?_
      refine ARun.hleX ?_ ?_ hk
      · exact HeapLe.one rfl trivial
      · repeat (first | exact LkX.refl | refine LkX.cons (hX.none rfl) ?_ | refine LkX.filter (hX.none rfl) ?_)
    refine ADX.eff (tk := [8, 14, 15]) (new := [15]) (s := .one (.own 15 1 (k + 1))) (F := [(31, .one (.own 15 1 (k + 1)))]) (Hin := [(8, .arr 1 k (fun i_ _ => .tre 9 i_)), (14, .arr 1 1 (fun _ jc => ([.tre 9 k] : List AV).getD jc (.con undef)))]) (Hout := [(14, .arr 1 1 (fun _ jc => ([.tre 9 k] : List AV).getD jc (.con undef))), (15, .arr 1 (k + 1) (fun ia ja => if ia < k then (fun i_ _ => .tre 9 i_ : Nat → Nat → AV) ia ja else (fun _ jc => ([.tre 9 k] : List AV).getD jc (.con undef) : Nat → Nat → AV) (ia - k) ja))]) (fun E X hE hX Q rest hk => ?_) ⟨rfl, rfl, trivial⟩ ⟨rfl, rfl⟩ rfl rfl rfl rfl ⟨(by repeat first | exact trivial | refine ⟨by decide, by first | rfl | exact trivial | (intro i j; first | rfl | exact getD_no rfl | (dsimp only; split <;> first | rfl | exact getD_no rfl) | exact scl_no (by apply_assumption) _), ?_⟩), trivial⟩ rfl (fun _ e => by cases e; exact Nat.le_of_ble_eq_true rfl) ?_
    · refine ARun.append (id := 15) (sz := 1) (n := k) (m := 1) (by_ := 24) (z := (.slice none 0 0)) (f := fun i_ _ => .tre 9 i_) (g := fun _ jc => ([.tre 9 k] : List AV).getD jc (.con undef)) (h := fun ia ja => if ia < k then (fun i_ _ => .tre 9 i_ : Nat → Nat → AV) ia ja else (fun _ jc => ([.tre 9 k] : List AV).getD jc (.con undef) : Nat → Nat → AV) (ia - k) ja) rfl (by kernel_rfl) rfl vnb_sl_25 (.own (.tmp rfl) rfl rfl rfl (Nat.le_refl _) (fun _ _ _ _ => rfl)) (.own (.tmp rfl) rfl rfl (Nat.le_refl _) (fun _ _ _ _ => rfl)) (by decide) (fun i j hi hj => match j, hj with | 0, _ => rfl | _ + 1, h => absurd h (by omega)) (fun _ _ _ _ => rfl) (by omega) (by omega) (Fr.ext2 ⟨rfl, (by repeat first | exact trivial | refine ⟨by decide, by first | rfl | exact trivial | (intro i j; first | rfl | exact getD_no rfl | (dsimp only; split <;> first | rfl | exact getD_no rfl) | exact scl_no (by apply_assumption) _), ?_⟩)⟩ hE hX rfl rfl) (fun i j => by dsimp only; (repeat' split) <;> first | rfl | exact getD_no rfl) rfl rfl (Nat.le_of_ble_eq_true rfl) ?_
      refine ARun.hleX ?_ ?_ hk
      · exact HeapLe.one rfl (HeapLe.one rfl trivial)
      · repeat (first | exact LkX.refl | refine LkX.cons (hX.none rfl) ?_ | refine LkX.filter (hX.none rfl) ?_)
    refine ADX.pure [] (PureOp.fieldPtr rfl (.tmp rfl) vnb_fi_49_3_3) rfl rfl (Nat.le_of_ble_eq_true rfl) trivial rfl ?_
    refine ADX.eff (tk := [5]) (new := []) (s := .one (.con undef)) (F := []) (Hin := [(5, .cells [.tre 1 0, .own 2 1 (l.length * l.length), .tre 4 0, .own 6 1 k, .own 8 1 k])]) (Hout := [(5, .cells [.tre 1 0, .own 2 1 (l.length * l.length), .tre 4 0, .own 12 1 (k + 1), .own 8 1 k])]) (fun E X hE hX Q rest hk => ?_) ⟨rfl, trivial⟩ ⟨rfl, rfl⟩ rfl rfl rfl rfl trivial rfl (fun _ e => by cases e) ?_
    · refine ARun.store rfl (.tmp rfl) (.tmp rfl) trivial rfl (Nat.le_of_ble_eq_true rfl) vnb_sz_47_1 rfl rfl ?_
      refine ARun.hleX ?_ ?_ hk
      · exact HeapLe.one rfl trivial
      · repeat (first | exact LkX.refl | refine LkX.cons (hX.none rfl) ?_ | refine LkX.filter (hX.none rfl) ?_)
    refine ADX.pure [] (PureOp.fieldPtr rfl (.tmp rfl) vnb_fi_49_4_4) rfl rfl (Nat.le_of_ble_eq_true rfl) trivial rfl ?_
    refine ADX.eff (tk := [5]) (new := []) (s := .one (.con undef)) (F := []) (Hin := [(5, .cells [.tre 1 0, .own 2 1 (l.length * l.length), .tre 4 0, .own 12 1 (k + 1), .own 8 1 k])]) (Hout := [(5, .cells [.tre 1 0, .own 2 1 (l.length * l.length), .tre 4 0, .own 12 1 (k + 1), .own 15 1 (k + 1)])]) (fun E X hE hX Q rest hk => ?_) ⟨rfl, trivial⟩ ⟨rfl, rfl⟩ rfl rfl rfl rfl trivial rfl (fun _ e => by cases e) ?_
    · refine ARun.store rfl (.tmp rfl) (.tmp rfl) trivial rfl (Nat.le_of_ble_eq_true rfl) vnb_sz_25_1 rfl rfl ?_
      refine ARun.hleX ?_ ?_ hk
      · exact HeapLe.one rfl trivial
      · repeat (first | exact LkX.refl | refine LkX.cons (hX.none rfl) ?_ | refine LkX.filter (hX.none rfl) ?_)
    refine ADX.nil (H := [(0, .cells [.con (.slice none 0 0), .con (.slice none 0 0), .con (.slice none 0 0), .con (.slice none 0 0), .con (.slice none 0 0)]), (1, .trees 1 (fun p => ([.lst 1 l.length (fun i0 _ => .int .i64 (l.getD i0 0))] : List AV).getD p (.con undef))), (2, .arr 1 (l.length * l.length) (fun _ j => ([.con (.slice none 0 0)] : List AV).getD j (.con undef))), (4, .trees 1 (fun p => ([.lst 1 ((List.replicate l.length (-1)).length) (fun i0 _ => .int .i64 ((List.replicate l.length (-1)).getD i0 0))] : List AV).getD p (.con undef))), (5, .cells [.tre 1 0, .own 2 1 (l.length * l.length), .tre 4 0, .own 12 1 (k + 1), .own 15 1 (k + 1)]), (7, .trees (k + 1) (bkH l.length)), (9, .trees (k + 1) (bkF l.length)), (11, .arr 1 1 (fun _ jc => ([.tre 7 k] : List AV).getD jc (.con undef))), (12, .arr 1 (k + 1) (fun ia ja => if ia < k then (fun i_ _ => .tre 7 i_ : Nat → Nat → AV) ia ja else (fun _ jc => ([.tre 7 k] : List AV).getD jc (.con undef) : Nat → Nat → AV) (ia - k) ja)), (14, .arr 1 1 (fun _ jc => ([.tre 9 k] : List AV).getD jc (.con undef))), (15, .arr 1 (k + 1) (fun ia ja => if ia < k then (fun i_ _ => .tre 9 i_ : Nat → Nat → AV) ia ja else (fun _ jc => ([.tre 9 k] : List AV).getD jc (.con undef) : Nat → Nat → AV) (ia - k) ja))]) ?_ ?_
    · exact HeapLe.one rfl (HeapLe.one rfl (HeapLe.one rfl (HeapLe.one rfl (HeapLe.one rfl (HeapLe.one rfl (HeapLe.one rfl (HeapLe.one rfl (HeapLe.one rfl (HeapLe.one rfl (HeapLe.one rfl trivial))))))))))
    refine AW.region ?_
    refine ARun.pure (PureOp.add (c := ((k + 1 : Nat) : Int)) rfl (.tmp rfl) .int (by rw [wrap_id (by omega) (by omega)]; omega)) rfl rfl (Nat.le_of_ble_eq_true rfl) ?_
    refine ARun.pure (PureOp.move rfl (.tmp rfl)) rfl rfl (Nat.le_of_ble_eq_true rfl) ?_
    refine ARun.nil ?_
    exact ⟨k + 1, (fun z => (swp 6 12) ((swp 8 15) z)), (show k + 1 ≤ l.length from by omega), by dsimp only; omega, (comp_inj swp_inj swp_inj), (comp_fix (swp_fix rfl rfl) (swp_fix rfl rfl)), ⟨⟨⟨_, rfl, rfl⟩, ⟨_, rfl, rfl⟩, ⟨_, rfl, rfl⟩, ⟨_, rfl, rfl⟩, ⟨_, rfl, rfl⟩, trivial⟩, ⟨⟨_, rfl, rfl, Nat.le_refl _, fun _ _ _ _ => rfl⟩, ⟨_, rfl, fun _ _ => rfl⟩, ⟨_, rfl, rfl, Nat.le_refl _, fun i j _ (hj : j < 1) => match j, hj with | 0, _ => rfl | _ + 1, h => absurd h (by omega)⟩, ⟨_, rfl, fun _ _ => rfl⟩, ⟨_, rfl, rfl, Nat.le_refl _, fun _ _ _ _ => rfl⟩, ⟨_, rfl, rfl, Nat.le_refl _, fun i j hi (hj : j < 1) => match j, hj with | 0, _ => app_at (show i < k + 1 from hi) (fun _ => rfl) (fun h => by subst h; rfl) | _ + 1, h => absurd h (by omega)⟩, ⟨_, rfl, fun _ _ => rfl⟩, ⟨_, rfl, rfl, Nat.le_refl _, fun i j hi (hj : j < 1) => match j, hj with | 0, _ => app_at (show i < k + 1 from hi) (fun _ => rfl) (fun h => by subst h; rfl) | _ + 1, h => absurd h (by omega)⟩, ⟨_, rfl, fun _ _ => rfl⟩, trivial⟩⟩⟩
  · have _u := True.intro
    replace hb1 := of_decide_eq_false hb1
    have hkl : ¬ k < l.length := by omega
    have hke : k = l.length := by omega
    refine AW.exit ?_
    refine AW.seq ?_
    refine AW.region ?_
    refine ARun.pure (PureOp.loadPtrAgg rfl (.tmp rfl) vnb_ag_49_5 rfl rfl (Nat.le_of_ble_eq_true rfl) (Nat.le_of_ble_eq_true rfl)) rfl rfl (Nat.le_of_ble_eq_true rfl) ?_
    refine ARun.store rfl (.tmp rfl) (.tmp rfl) (SV.cells_of (by exact ⟨trivial, trivial, trivial, trivial, trivial, trivial⟩)) rfl (Nat.le_of_ble_eq_true rfl) vnb_sz_49_5 rfl rfl ?_
    refine ARun.nil ?_
    exact AW.ret (show ∃ s t, ResL _ _ [.cell 2 49] s ∧ TvS _ (ofLeaf t) 0 s _ from ⟨_, fun a b => if a = 1 then 0 else if a = 2 then 1 else if a = 4 then 2 else if a = 6 then 3 else if a = 7 then 3 else if a = 8 then 4 else if a = 9 then 4 else 1000, .inl ⟨_, rfl, .cells rfl vnb_ag_49_5 rfl rfl (Nat.le_of_ble_eq_true rfl) (Nat.le_of_ble_eq_true rfl)⟩, ⟨(Tv.cast (Tv.tre rfl (Nat.le_of_ble_eq_true rfl) (by rfl)) rfl), (Tv.nilsN List.length_replicate rfl rfl rfl (Nat.le_refl _) (by rfl) (fun i hi => rfl) (fun i hi => ⟨1, _, by show AV.lst 1 (List.length ((List.replicate _ ([] : List Int)).getD i [])) _ = _; rw [getD_rep hi]; rfl⟩)), (Tv.cast (Tv.tre rfl (Nat.le_of_ble_eq_true rfl) (by rfl)) rfl), (Tv.colK (K := 7) (c := 0) (X := bkH l.length) (List.length_replicate.trans hke.symm) rfl rfl rfl (Nat.le_refl _) (by rfl) (fun i j hi hj hne => match j, hj, hne with | 0, _, h => absurd rfl h | _ + 1, h, _ => absurd h (by omega)) (fun i hi => ⟨rfl, by show bkH l.length i = AV.lst 1 (List.length ((List.replicate _ (List.replicate _ false)).getD i [])) (fun a _ => AV.bool (((List.replicate _ (List.replicate _ false)).getD i []).getD a false)); rw [getD_rep (Nat.lt_of_lt_of_eq hi hke)]; rfl⟩) rfl (by decide) (fun _ => by rfl)), (Tv.colK (K := 9) (c := 0) (X := bkF l.length) (List.length_replicate.trans hke.symm) rfl rfl rfl (Nat.le_refl _) (by rfl) (fun i j hi hj hne => match j, hj, hne with | 0, _, h => absurd rfl h | _ + 1, h, _ => absurd h (by omega)) (fun i hi => ⟨rfl, by show bkF l.length i = AV.lst 1 (List.length ((List.replicate _ (List.replicate _ (0 : Int))).getD i [])) (fun a _ => AV.int .i64 (((List.replicate _ (List.replicate _ (0 : Int))).getD i []).getD a 0)); rw [getD_rep (Nat.lt_of_lt_of_eq hi hke)]; rfl⟩) rfl (by decide) (fun _ => by rfl)), trivial⟩⟩)

theorem v_iNewBank (l : List Int) : FnT Try.prog 29 [.one (.lst 1 l.length (fun i0 _ => .int .i64 (l.getD i0 0)))] (.tup2 (.agg [.lst 1 ((((newBankV l).1).cCoins).length) (fun i0 _ => .int .i64 ((((newBankV l).1).cCoins).getD i0 0)), .lst 1 ((((newBankV l).1).cWays).length) (fun i0 _ => .lst 1 (((((newBankV l).1).cWays).getD i0 []).length) (fun i1 _ => .int .i64 (((((newBankV l).1).cWays).getD i0 []).getD i1 0))), .lst 1 ((((newBankV l).1).cKept).length) (fun i0 _ => .int .i64 ((((newBankV l).1).cKept).getD i0 0)), .lst 1 ((((newBankV l).1).cHeard).length) (fun i0 _ => .lst 1 (((((newBankV l).1).cHeard).getD i0 []).length) (fun i1 _ => .bool (((((newBankV l).1).cHeard).getD i0 []).getD i1 false))), .lst 1 ((((newBankV l).1).cFound).length) (fun i0 _ => .lst 1 (((((newBankV l).1).cFound).getD i0 []).length) (fun i1 _ => .int .i64 (((((newBankV l).1).cFound).getD i0 []).getD i1 0)))]) (.one (.bool ((newBankV l).2)))) := by
  refine FnT.of_body (fn := Try.f29) Try.func29 rfl (Nat.le_of_ble_eq_true rfl)  ?_
  intro w0
  show AW _ 10 _ _ _ _
  refine AW.bound (t := 0) rfl fun hx => ?_
  refine AW.seq ?_
  refine AW.region ?_
  refine ARun.alloc (id := 0) (l := [.con (.slice none 0 0), .con (.slice none 0 0), .con (.slice none 0 0), .con (.slice none 0 0), .con (.slice none 0 0)]) (z := (.agg #[.slice none 0 0, .slice none 0 0, .slice none 0 0, .slice none 0 0, .slice none 0 0])) rfl (by kernel_rfl) (fun _ _ _ => ⟨_, _, rfl, rfl, ⟨_, _, rfl, rfl, ⟨_, _, rfl, rfl, ⟨_, _, rfl, rfl, ⟨_, _, rfl, rfl, rfl⟩⟩⟩⟩⟩) ⟨rfl, (by repeat first | exact trivial | refine ⟨by decide, by first | rfl | exact trivial | (intro i j; first | rfl | exact getD_no rfl | (dsimp only; split <;> first | rfl | exact getD_no rfl) | exact scl_no (by apply_assumption) _), ?_⟩)⟩ rfl rfl rfl (Nat.le_of_ble_eq_true rfl) ?_
  refine ARun.pure (PureOp.assign rfl .bool) rfl rfl (Nat.le_of_ble_eq_true rfl) ?_
  refine ARun.nil ?_
  refine AW.seq ?_
  refine AW.seq ?_
  refine AW.region ?_
  refine ARun.pure (PureOp.move rfl (.tmp rfl)) rfl rfl (Nat.le_of_ble_eq_true rfl) ?_
  refine ARun.pure (PureOp.call rfl (v_areCoins l) ⟨⟨_, (.tmp rfl), .lst⟩, trivial⟩ vnb_ca_82 trivial) rfl rfl (Nat.le_of_ble_eq_true rfl) ?_
  refine ARun.pure (PureOp.not rfl (.tmp rfl)) rfl rfl (Nat.le_of_ble_eq_true rfl) ?_
  refine ARun.nil ?_
  refine AW.cond (.tmp rfl) (fun hb1 => ?_) (fun hb1 => ?_)
  · have _u := True.intro
    have hc : okCoins l = false := by revert hb1; generalize okCoins l = a1; revert a1; decide
    refine AW.seq ?_
    refine AW.region ?_
    refine ARun.pure (PureOp.build (ys := []) (l := [.con (.slice none 0 0), .con (.slice none 0 0), .con (.slice none 0 0), .con (.slice none 0 0), .con (.slice none 0 0)]) (pl := [(0, 1), (1, 1), (2, 1), (3, 1), (4, 1)]) (z := (.agg #[.slice none 0 0, .slice none 0 0, .slice none 0 0, .slice none 0 0, .slice none 0 0])) rfl (by kernel_rfl) (by kernel_rfl) (fun _ _ _ => ⟨_, _, rfl, rfl, ⟨_, _, rfl, rfl, ⟨_, _, rfl, rfl, ⟨_, _, rfl, rfl, ⟨_, _, rfl, rfl, rfl⟩⟩⟩⟩⟩) trivial rfl) rfl rfl (Nat.le_of_ble_eq_true rfl) ?_
    refine ARun.store rfl (.tmp rfl) (.tmp rfl) (SV.cells_of (by exact ⟨⟨rfl, (fun _ e => by cases e), (fun _ e => by cases e)⟩, ⟨rfl, (fun _ e => by cases e), (fun _ e => by cases e)⟩, ⟨rfl, (fun _ e => by cases e), (fun _ e => by cases e)⟩, ⟨rfl, (fun _ e => by cases e), (fun _ e => by cases e)⟩, ⟨rfl, (fun _ e => by cases e), (fun _ e => by cases e)⟩, trivial⟩)) rfl (Nat.le_of_ble_eq_true rfl) vnb_sz_49_5 rfl rfl ?_
    refine ARun.pure (PureOp.assign rfl .bool) rfl rfl (Nat.le_of_ble_eq_true rfl) ?_
    refine ARun.nil ?_
    rw [show newBankV l = (⟨[], [], [], [], []⟩, false) from if_neg (by rw [hc]; decide)]
    exact AW.ret (show ∃ s t, ResL _ _ [.cell 2 49, .tmp 3] s ∧ TvS _ (ofLeaf t) 0 s _ from ⟨_, fun a b => 1000, .inr (.inl ⟨_, _, _, _, rfl, .cells rfl vnb_ag_49_5 rfl rfl (Nat.le_of_ble_eq_true rfl) (Nat.le_of_ble_eq_true rfl), .tmp rfl, rfl⟩), ⟨⟨.nil, .nil, .nil, .nil, .nil, trivial⟩, .bool⟩⟩)
  · have _u := True.intro
    have hc : okCoins l = true := by revert hb1; generalize okCoins l = a1; revert a1; decide
    obtain ⟨hl1, hl5⟩ : 1 ≤ l.length ∧ l.length ≤ 5 := by have h5 := inB_true (and_l (show (inB 1 5 (l.length : Int) && l.all (inB 0 50)) = true from hc)); omega
    have hll : l.length * l.length ≤ 25 := Nat.mul_le_mul hl5 hl5
    refine AW.skip ?_
    refine AW.seq ?_
    refine AW.region ?_
    refine ARun.pure (PureOp.move rfl (.tmp rfl)) rfl rfl (Nat.le_of_ble_eq_true rfl) ?_
    refine ARun.prod (K := 1) rfl (v_newBank l ⟨hl1, hl5⟩) ⟨rfl, (by repeat first | exact trivial | refine ⟨by decide, by first | rfl | exact trivial | (intro i j; first | rfl | exact getD_no rfl | (dsimp only; split <;> first | rfl | exact getD_no rfl) | exact scl_no (by apply_assumption) _), ?_⟩)⟩ ⟨⟨_, (.tmp rfl), .lst⟩, trivial⟩ vnb_ca_83 rfl rfl rfl rfl rfl (Nat.le_of_ble_eq_true rfl) ?_
    refine ARun.store rfl (.tmp rfl) (.tmp rfl) (SV.cells_of (by exact ⟨trivial, trivial, trivial, trivial, trivial, trivial⟩)) rfl (Nat.le_of_ble_eq_true rfl) vnb_sz_49_5 rfl rfl ?_
    refine ARun.pure (PureOp.assign rfl .bool) rfl rfl (Nat.le_of_ble_eq_true rfl) ?_
    refine ARun.nil ?_
    rw [show newBankV l = (newBankD l, true) from if_pos hc]
    exact AW.ret (show ∃ s t, ResL _ _ [.cell 2 49, .tmp 3] s ∧ TvS _ (ofLeaf t) 0 s _ from ⟨_, fun a b => if a = 1 then b else 1000, .inr (.inl ⟨_, _, _, _, rfl, .cells rfl vnb_ag_49_5 rfl rfl (Nat.le_of_ble_eq_true rfl) (Nat.le_of_ble_eq_true rfl), .tmp rfl, rfl⟩), ⟨⟨(Tv.cast (Tv.tre rfl (Nat.le_of_ble_eq_true rfl) (by rfl)) rfl), (Tv.cast (Tv.tre rfl (Nat.le_of_ble_eq_true rfl) (by rfl)) rfl), (Tv.cast (Tv.tre rfl (Nat.le_of_ble_eq_true rfl) (by rfl)) rfl), (Tv.cast (Tv.tre rfl (Nat.le_of_ble_eq_true rfl) (by rfl)) rfl), (Tv.cast (Tv.tre rfl (Nat.le_of_ble_eq_true rfl) (by rfl)) rfl), trivial⟩, .bool⟩⟩)

theorem v_sNewBank (l : List Int) : FnT Try.prog 28 [.one (.lst 1 l.length (fun i0 _ => .int .i64 (l.getD i0 0)))] (.tup2 (.agg [.lst 1 ((((newBankV l).1).cCoins).length) (fun i0 _ => .int .i64 ((((newBankV l).1).cCoins).getD i0 0)), .lst 1 ((((newBankV l).1).cWays).length) (fun i0 _ => .lst 1 (((((newBankV l).1).cWays).getD i0 []).length) (fun i1 _ => .int .i64 (((((newBankV l).1).cWays).getD i0 []).getD i1 0))), .lst 1 ((((newBankV l).1).cKept).length) (fun i0 _ => .int .i64 ((((newBankV l).1).cKept).getD i0 0)), .lst 1 ((((newBankV l).1).cHeard).length) (fun i0 _ => .lst 1 (((((newBankV l).1).cHeard).getD i0 []).length) (fun i1 _ => .bool (((((newBankV l).1).cHeard).getD i0 []).getD i1 false))), .lst 1 ((((newBankV l).1).cFound).length) (fun i0 _ => .lst 1 (((((newBankV l).1).cFound).getD i0 []).length) (fun i1 _ => .int .i64 (((((newBankV l).1).cFound).getD i0 []).getD i1 0)))]) (.one (.bool ((newBankV l).2)))) := by
  refine FnT.of_body (fn := Try.f28) Try.func28 rfl (Nat.le_of_ble_eq_true rfl)  ?_
  intro w0
  show AW _ 51 _ _ _ _
  refine AW.bound (t := 0) rfl fun hx => ?_
  refine AW.seq ?_
  refine AW.region ?_
  refine ARun.alloc (id := 0) (l := [.con (.slice none 0 0), .con (.slice none 0 0), .con (.slice none 0 0), .con (.slice none 0 0), .con (.slice none 0 0)]) (z := (.agg #[.slice none 0 0, .slice none 0 0, .slice none 0 0, .slice none 0 0, .slice none 0 0])) rfl (by kernel_rfl) (fun _ _ _ => ⟨_, _, rfl, rfl, ⟨_, _, rfl, rfl, ⟨_, _, rfl, rfl, ⟨_, _, rfl, rfl, ⟨_, _, rfl, rfl, rfl⟩⟩⟩⟩⟩) ⟨rfl, (by repeat first | exact trivial | refine ⟨by decide, by first | rfl | exact trivial | (intro i j; first | rfl | exact getD_no rfl | (dsimp only; split <;> first | rfl | exact getD_no rfl) | exact scl_no (by apply_assumption) _), ?_⟩)⟩ rfl rfl rfl (Nat.le_of_ble_eq_true rfl) ?_
  refine ARun.pure (PureOp.assign rfl .bool) rfl rfl (Nat.le_of_ble_eq_true rfl) ?_
  refine ARun.nil ?_
  refine AW.seq ?_
  refine AW.region ?_
  refine ARun.pure (PureOp.move rfl (.tmp rfl)) rfl rfl (Nat.le_of_ble_eq_true rfl) ?_
  refine ARun.pure (PureOp.lenLst rfl (.tmp rfl) vnb_sl_22) rfl rfl (Nat.le_of_ble_eq_true rfl) ?_
  refine ARun.pure (PureOp.assign rfl (.tmp rfl)) rfl rfl (Nat.le_of_ble_eq_true rfl) ?_
  refine ARun.nil ?_
  refine AW.seq ?_
  refine AW.seq ?_
  refine AW.region ?_
  refine ARun.pure (PureOp.move rfl (.tmp rfl)) rfl rfl (Nat.le_of_ble_eq_true rfl) ?_
  refine ARun.pure (PureOp.call rfl (v_l1In (l.length : Int) 1 5) ⟨⟨_, (.tmp rfl), .int⟩, ⟨_, .int, .int⟩, ⟨_, .int, .int⟩, trivial⟩ vnb_ca_57 trivial) rfl rfl (Nat.le_of_ble_eq_true rfl) ?_
  refine ARun.pure (PureOp.not rfl (.tmp rfl)) rfl rfl (Nat.le_of_ble_eq_true rfl) ?_
  refine ARun.pure (PureOp.move rfl (.tmp rfl)) rfl rfl (Nat.le_of_ble_eq_true rfl) ?_
  refine ARun.gpure (want := false) (.tf rfl) (fun hg1 => PureOp.move rfl (.tmp rfl)) rfl rfl (Nat.le_of_ble_eq_true rfl) rfl (Nat.le_of_ble_eq_true rfl) ?_
  refine ARun.gpure (want := false) (.tf rfl) (fun hg2 => PureOp.call rfl (v_l1All l 0 50) ⟨⟨_, (.gtmp rfl hg2), .lst⟩, ⟨_, .int, .int⟩, ⟨_, .int, .int⟩, trivial⟩ vnb_ca_58 trivial) rfl rfl (Nat.le_of_ble_eq_true rfl) rfl (Nat.le_of_ble_eq_true rfl) ?_
  refine ARun.gpure (want := false) (.tf rfl) (fun hg3 => PureOp.not rfl (.gtmp rfl hg3)) rfl rfl (Nat.le_of_ble_eq_true rfl) rfl (Nat.le_of_ble_eq_true rfl) ?_
  refine ARun.pure (PureOp.pick rfl (.tmp rfl) (fun _ => .bool) (fun hp5 => .gtmp rfl (not_of hp5))) rfl rfl (Nat.le_of_ble_eq_true rfl) ?_
  refine ARun.nil ?_
  refine AW.cond (.tmp rfl) (fun hb6 => ?_) (fun hb6 => ?_)
  · have _u := True.intro
    have hc : okCoins l = false := by revert hb6; unfold okCoins; generalize inB 1 5 (l.length : Int) = a1; generalize l.all (inB 0 50) = a2; revert a1 a2; decide
    refine AW.seq ?_
    refine AW.region ?_
    refine ARun.pure (PureOp.build (ys := []) (l := [.con (.slice none 0 0), .con (.slice none 0 0), .con (.slice none 0 0), .con (.slice none 0 0), .con (.slice none 0 0)]) (pl := [(0, 1), (1, 1), (2, 1), (3, 1), (4, 1)]) (z := (.agg #[.slice none 0 0, .slice none 0 0, .slice none 0 0, .slice none 0 0, .slice none 0 0])) rfl (by kernel_rfl) (by kernel_rfl) (fun _ _ _ => ⟨_, _, rfl, rfl, ⟨_, _, rfl, rfl, ⟨_, _, rfl, rfl, ⟨_, _, rfl, rfl, ⟨_, _, rfl, rfl, rfl⟩⟩⟩⟩⟩) trivial rfl) rfl rfl (Nat.le_of_ble_eq_true rfl) ?_
    refine ARun.store rfl (.tmp rfl) (.tmp rfl) (SV.cells_of (by exact ⟨⟨rfl, (fun _ e => by cases e), (fun _ e => by cases e)⟩, ⟨rfl, (fun _ e => by cases e), (fun _ e => by cases e)⟩, ⟨rfl, (fun _ e => by cases e), (fun _ e => by cases e)⟩, ⟨rfl, (fun _ e => by cases e), (fun _ e => by cases e)⟩, ⟨rfl, (fun _ e => by cases e), (fun _ e => by cases e)⟩, trivial⟩)) rfl (Nat.le_of_ble_eq_true rfl) vnb_sz_49_5 rfl rfl ?_
    refine ARun.pure (PureOp.assign rfl .bool) rfl rfl (Nat.le_of_ble_eq_true rfl) ?_
    refine ARun.nil ?_
    rw [show newBankV l = (⟨[], [], [], [], []⟩, false) from if_neg (by rw [hc]; decide)]
    exact AW.ret (show ∃ s t, ResL _ _ [.cell 2 49, .tmp 3] s ∧ TvS _ (ofLeaf t) 0 s _ from ⟨_, fun a b => 1000, .inr (.inl ⟨_, _, _, _, rfl, .cells rfl vnb_ag_49_5 rfl rfl (Nat.le_of_ble_eq_true rfl) (Nat.le_of_ble_eq_true rfl), .tmp rfl, rfl⟩), ⟨⟨.nil, .nil, .nil, .nil, .nil, trivial⟩, .bool⟩⟩)
  · have _u := True.intro
    have hc : okCoins l = true := by revert hb6; unfold okCoins; generalize inB 1 5 (l.length : Int) = a1; generalize l.all (inB 0 50) = a2; revert a1 a2; decide
    obtain ⟨hl1, hl5⟩ : 1 ≤ l.length ∧ l.length ≤ 5 := by have h5 := inB_true (and_l (show (inB 1 5 (l.length : Int) && l.all (inB 0 50)) = true from hc)); omega
    have hll : l.length * l.length ≤ 25 := Nat.mul_le_mul hl5 hl5
    refine AW.skip ?_
    refine AW.seq ?_
    refine AW.anyX [⟨[], [1], [1], [(1, .arr 1 0 (fun _ _ => .con undef))]⟩, ⟨[], [], [], []⟩, ⟨[], [1, 2], [2], [(2, .arr 1 (0 + l.length) (fun ia ja => if ia < 0 then (fun _ _ => .con undef : Nat → Nat → AV) ia ja else (fun i0 _ => .int .i64 (l.getD i0 0) : Nat → Nat → AV) (ia - 0) ja))]⟩, ⟨[], [], [], []⟩, ⟨[], [], [], []⟩, ⟨[], [], [], []⟩, ⟨[], [3], [3], [(3, .arr 1 (l.length * l.length) (fun _ j => ([.con (.slice none 0 0)] : List AV).getD j (.con undef)))]⟩, ⟨[], [], [], []⟩, ⟨[], [4], [4], [(4, .cells [.con (.slice none 0 0), .con (.slice none 0 0), .con (.slice none 0 0), .con (.slice none 0 0), .con (.slice none 0 0)])]⟩, ⟨[], [4], [], [(4, .cells [.own 2 1 (0 + l.length), .own 3 1 (l.length * l.length), .con (.slice none 0 0), .con (.slice none 0 0), .con (.slice none 0 0)])]⟩] (by kernel_rfl) (by kernel_rfl) (by kernel_rfl) ⟨⟨.inl rfl, .inr (.inr trivial), .inr (.inr (by repeat first | exact trivial | refine And.intro ?_ ?_ | exact rfl | (intro i j; first | rfl | exact getD_no rfl | (dsimp only; split <;> first | rfl | exact getD_no rfl) | exact scl_no (by apply_assumption) _))), .inr (.inr trivial), .inr (.inr trivial), .inr (.inr trivial), .inr (.inr (by repeat first | exact trivial | refine And.intro ?_ ?_ | exact rfl | (intro i j; first | rfl | exact getD_no rfl | (dsimp only; split <;> first | rfl | exact getD_no rfl) | exact scl_no (by apply_assumption) _))), .inr (.inr trivial), .inr (.inr (by repeat first | exact trivial | refine And.intro ?_ ?_ | exact rfl | (intro i j; first | rfl | exact getD_no rfl | (dsimp only; split <;> first | rfl | exact getD_no rfl) | exact scl_no (by apply_assumption) _))), .inr (.inr trivial), trivial⟩, ⟨.inr (.inr (by repeat first | exact trivial | refine And.intro ?_ ?_ | exact rfl | (intro i j; first | rfl | exact getD_no rfl | (dsimp only; split <;> first | rfl | exact getD_no rfl) | exact scl_no (by apply_assumption) _))), .inl rfl, .inr (.inr (by repeat first | exact trivial | refine And.intro ?_ ?_ | exact rfl | (intro i j; first | rfl | exact getD_no rfl | (dsimp only; split <;> first | rfl | exact getD_no rfl) | exact scl_no (by apply_assumption) _))), .inr (.inr trivial), .inr (.inr trivial), .inr (.inr trivial), .inr (.inr (by repeat first | exact trivial | refine And.intro ?_ ?_ | exact rfl | (intro i j; first | rfl | exact getD_no rfl | (dsimp only; split <;> first | rfl | exact getD_no rfl) | exact scl_no (by apply_assumption) _))), .inr (.inr trivial), .inr (.inr (by repeat first | exact trivial | refine And.intro ?_ ?_ | exact rfl | (intro i j; first | rfl | exact getD_no rfl | (dsimp only; split <;> first | rfl | exact getD_no rfl) | exact scl_no (by apply_assumption) _))), .inr (.inr trivial), trivial⟩, ⟨.inr (.inl (by kernel_rfl)), .inr (.inr trivial), .inl rfl, .inr (.inr trivial), .inr (.inr trivial), .inr (.inr trivial), .inr (.inr (by repeat first | exact trivial | refine And.intro ?_ ?_ | exact rfl | (intro i j; first | rfl | exact getD_no rfl | (dsimp only; split <;> first | rfl | exact getD_no rfl) | exact scl_no (by apply_assumption) _))), .inr (.inr trivial), .inr (.inr (by repeat first | exact trivial | refine And.intro ?_ ?_ | exact rfl | (intro i j; first | rfl | exact getD_no rfl | (dsimp only; split <;> first | rfl | exact getD_no rfl) | exact scl_no (by apply_assumption) _))), .inr (.inr trivial), trivial⟩, ⟨.inr (.inr (by repeat first | exact trivial | refine And.intro ?_ ?_ | exact rfl | (intro i j; first | rfl | exact getD_no rfl | (dsimp only; split <;> first | rfl | exact getD_no rfl) | exact scl_no (by apply_assumption) _))), .inr (.inr trivial), .inr (.inr (by repeat first | exact trivial | refine And.intro ?_ ?_ | exact rfl | (intro i j; first | rfl | exact getD_no rfl | (dsimp only; split <;> first | rfl | exact getD_no rfl) | exact scl_no (by apply_assumption) _))), .inl rfl, .inr (.inr trivial), .inr (.inr trivial), .inr (.inr (by repeat first | exact trivial | refine And.intro ?_ ?_ | exact rfl | (intro i j; first | rfl | exact getD_no rfl | (dsimp only; split <;> first | rfl | exact getD_no rfl) | exact scl_no (by apply_assumption) _))), .inr (.inr trivial), .inr (.inr (by repeat first | exact trivial | refine And.intro ?_ ?_ | exact rfl | (intro i j; first | rfl | exact getD_no rfl | (dsimp only; split <;> first | rfl | exact getD_no rfl) | exact scl_no (by apply_assumption) _))), .inr (.inr trivial), trivial⟩, ⟨.inr (.inr (by repeat first | exact trivial | refine And.intro ?_ ?_ | exact rfl | (intro i j; first | rfl | exact getD_no rfl | (dsimp only; split <;> first | rfl | exact getD_no rfl) | exact scl_no (by apply_assumption) _))), .inr (.inr trivial), .inr (.inr (by repeat first | exact trivial | refine And.intro ?_ ?_ | exact rfl | (intro i j; first | rfl | exact getD_no rfl | (dsimp only; split <;> first | rfl | exact getD_no rfl) | exact scl_no (by apply_assumption) _))), .inr (.inr trivial), .inl rfl, .inr (.inr trivial), .inr (.inr (by repeat first | exact trivial | refine And.intro ?_ ?_ | exact rfl | (intro i j; first | rfl | exact getD_no rfl | (dsimp only; split <;> first | rfl | exact getD_no rfl) | exact scl_no (by apply_assumption) _))), .inr (.inr trivial), .inr (.inr (by repeat first | exact trivial | refine And.intro ?_ ?_ | exact rfl | (intro i j; first | rfl | exact getD_no rfl | (dsimp only; split <;> first | rfl | exact getD_no rfl) | exact scl_no (by apply_assumption) _))), .inr (.inr trivial), trivial⟩, ⟨.inr (.inr (by repeat first | exact trivial | refine And.intro ?_ ?_ | exact rfl | (intro i j; first | rfl | exact getD_no rfl | (dsimp only; split <;> first | rfl | exact getD_no rfl) | exact scl_no (by apply_assumption) _))), .inr (.inr trivial), .inr (.inr (by repeat first | exact trivial | refine And.intro ?_ ?_ | exact rfl | (intro i j; first | rfl | exact getD_no rfl | (dsimp only; split <;> first | rfl | exact getD_no rfl) | exact scl_no (by apply_assumption) _))), .inr (.inr trivial), .inr (.inr trivial), .inl rfl, .inr (.inr (by repeat first | exact trivial | refine And.intro ?_ ?_ | exact rfl | (intro i j; first | rfl | exact getD_no rfl | (dsimp only; split <;> first | rfl | exact getD_no rfl) | exact scl_no (by apply_assumption) _))), .inr (.inr trivial), .inr (.inr (by repeat first | exact trivial | refine And.intro ?_ ?_ | exact rfl | (intro i j; first | rfl | exact getD_no rfl | (dsimp only; split <;> first | rfl | exact getD_no rfl) | exact scl_no (by apply_assumption) _))), .inr (.inr trivial), trivial⟩, ⟨.inr (.inr (by repeat first | exact trivial | refine And.intro ?_ ?_ | exact rfl | (intro i j; first | rfl | exact getD_no rfl | (dsimp only; split <;> first | rfl | exact getD_no rfl) | exact scl_no (by apply_assumption) _))), .inr (.inr trivial), .inr (.inr (by repeat first | exact trivial | refine And.intro ?_ ?_ | exact rfl | (intro i j; first | rfl | exact getD_no rfl | (dsimp only; split <;> first | rfl | exact getD_no rfl) | exact scl_no (by apply_assumption) _))), .inr (.inr trivial), .inr (.inr trivial), .inr (.inr trivial), .inl rfl, .inr (.inr trivial), .inr (.inr (by repeat first | exact trivial | refine And.intro ?_ ?_ | exact rfl | (intro i j; first | rfl | exact getD_no rfl | (dsimp only; split <;> first | rfl | exact getD_no rfl) | exact scl_no (by apply_assumption) _))), .inr (.inr trivial), trivial⟩, ⟨.inr (.inl (by kernel_rfl)), .inr (.inr trivial), .inr (.inl (by kernel_rfl)), .inr (.inr trivial), .inr (.inr trivial), .inr (.inr trivial), .inr (.inl (by kernel_rfl)), .inl rfl, .inr (.inr (by repeat first | exact trivial | refine And.intro ?_ ?_ | exact rfl | (intro i j; first | rfl | exact getD_no rfl | (dsimp only; split <;> first | rfl | exact getD_no rfl) | exact scl_no (by apply_assumption) _))), .inr (.inr trivial), trivial⟩, ⟨.inr (.inr (by repeat first | exact trivial | refine And.intro ?_ ?_ | exact rfl | (intro i j; first | rfl | exact getD_no rfl | (dsimp only; split <;> first | rfl | exact getD_no rfl) | exact scl_no (by apply_assumption) _))), .inr (.inr trivial), .inr (.inr (by repeat first | exact trivial | refine And.intro ?_ ?_ | exact rfl | (intro i j; first | rfl | exact getD_no rfl | (dsimp only; split <;> first | rfl | exact getD_no rfl) | exact scl_no (by apply_assumption) _))), .inr (.inr trivial), .inr (.inr trivial), .inr (.inr trivial), .inr (.inr (by repeat first | exact trivial | refine And.intro ?_ ?_ | exact rfl | (intro i j; first | rfl | exact getD_no rfl | (dsimp only; split <;> first | rfl | exact getD_no rfl) | exact scl_no (by apply_assumption) _))), .inr (.inr trivial), .inl rfl, .inr (.inr trivial), trivial⟩, ⟨.inr (.inl (by kernel_rfl)), .inr (.inr trivial), .inr (.inl (by kernel_rfl)), .inr (.inr trivial), .inr (.inr trivial), .inr (.inr trivial), .inr (.inl (by kernel_rfl)), .inr (.inr trivial), .inr (.inl (by kernel_rfl)), .inl rfl, trivial⟩, trivial⟩ ⟨⟨(by repeat first | exact trivial | refine ⟨by decide, by first | rfl | exact trivial | (intro i j; first | rfl | exact getD_no rfl | (dsimp only; split <;> first | rfl | exact getD_no rfl) | exact scl_no (by apply_assumption) _), ?_⟩), trivial⟩, trivial, ⟨(by repeat first | exact trivial | refine ⟨by decide, by first | rfl | exact trivial | (intro i j; first | rfl | exact getD_no rfl | (dsimp only; split <;> first | rfl | exact getD_no rfl) | exact scl_no (by apply_assumption) _), ?_⟩), trivial⟩, trivial, trivial, trivial, ⟨(by repeat first | exact trivial | refine ⟨by decide, by first | rfl | exact trivial | (intro i j; first | rfl | exact getD_no rfl | (dsimp only; split <;> first | rfl | exact getD_no rfl) | exact scl_no (by apply_assumption) _), ?_⟩), trivial⟩, trivial, ⟨(by repeat first | exact trivial | refine ⟨by decide, by first | rfl | exact trivial | (intro i j; first | rfl | exact getD_no rfl | (dsimp only; split <;> first | rfl | exact getD_no rfl) | exact scl_no (by apply_assumption) _), ?_⟩), trivial⟩, trivial, trivial⟩ ?_
    refine ADX.eff (tk := [1]) (new := [1]) (s := .one (.own 1 1 0)) (F := [(18, .one (.own 1 1 0))]) (Hin := []) (Hout := [(1, .arr 1 0 (fun _ _ => .con undef))]) (fun E X hE hX Q rest hk => ?_) trivial ⟨rfl, rfl⟩ rfl rfl rfl rfl ⟨(by repeat first | exact trivial | refine ⟨by decide, by first | rfl | exact trivial | (intro i j; first | rfl | exact getD_no rfl | (dsimp only; split <;> first | rfl | exact getD_no rfl) | exact scl_no (by apply_assumption) _), ?_⟩), trivial⟩ rfl (fun _ e => by cases e; exact Nat.le_of_ble_eq_true rfl) ?_
    · refine ARun.slice0 (id := 1) (z := (.int .i64 0)) (sz := 1) (by_ := 8) rfl (by kernel_rfl) (fun _ _ => .con undef) (fun _ _ => rfl) (Fr.ext2 ⟨rfl, (by repeat first | exact trivial | refine ⟨by decide, by first | rfl | exact trivial | (intro i j; first | rfl | exact getD_no rfl | (dsimp only; split <;> first | rfl | exact getD_no rfl) | exact scl_no (by apply_assumption) _), ?_⟩)⟩ hE hX rfl rfl) rfl rfl (Nat.le_of_ble_eq_true rfl) ?_
      refine ARun.hleX ?_ ?_ hk
      · exact HeapLe.one rfl trivial
      · repeat (first | exact LkX.refl | refine LkX.cons (hX.none rfl) ?_ | refine LkX.filter (hX.none rfl) ?_)
    refine ADX.pure [] (PureOp.move rfl (.tmp rfl)) rfl rfl (Nat.le_of_ble_eq_true rfl) trivial rfl ?_
    refine ADX.eff (tk := [1, 2]) (new := [2]) (s := .one (.own 2 1 (0 + l.length))) (F := [(20, .one (.own 2 1 (0 + l.length)))]) (Hin := [(1, .arr 1 0 (fun _ _ => .con undef))]) (Hout := [(2, .arr 1 (0 + l.length) (fun ia ja => if ia < 0 then (fun _ _ => .con undef : Nat → Nat → AV) ia ja else (fun i0 _ => .int .i64 (l.getD i0 0) : Nat → Nat → AV) (ia - 0) ja))]) (fun E X hE hX Q rest hk => ?_) ⟨rfl, trivial⟩ ⟨rfl, rfl⟩ rfl rfl rfl rfl ⟨(by repeat first | exact trivial | refine ⟨by decide, by first | rfl | exact trivial | (intro i j; first | rfl | exact getD_no rfl | (dsimp only; split <;> first | rfl | exact getD_no rfl) | exact scl_no (by apply_assumption) _), ?_⟩), trivial⟩ rfl (fun _ e => by cases e; exact Nat.le_of_ble_eq_true rfl) ?_
    · refine ARun.append (id := 2) (sz := 1) (n := 0) (m := l.length) (by_ := 8) (z := (.int .i64 0)) (f := fun _ _ => .con undef) (g := fun i0 _ => .int .i64 (l.getD i0 0)) (h := fun ia ja => if ia < 0 then (fun _ _ => .con undef : Nat → Nat → AV) ia ja else (fun i0 _ => .int .i64 (l.getD i0 0) : Nat → Nat → AV) (ia - 0) ja) rfl (by kernel_rfl) rfl vnb_sl_22 (.own (.tmp rfl) rfl rfl rfl (Nat.le_refl _) (fun _ _ _ _ => rfl)) (.lst (.tmp rfl)) (by decide) (fun i j hi hj => match j, hj with | 0, _ => rfl | _ + 1, h => absurd h (by omega)) (fun _ _ _ _ => rfl) (by omega) (by omega) (Fr.ext2 ⟨rfl, (by repeat first | exact trivial | refine ⟨by decide, by first | rfl | exact trivial | (intro i j; first | rfl | exact getD_no rfl | (dsimp only; split <;> first | rfl | exact getD_no rfl) | exact scl_no (by apply_assumption) _), ?_⟩)⟩ hE hX rfl rfl) (fun i j => by dsimp only; (repeat' split) <;> first | rfl | exact getD_no rfl) rfl rfl (Nat.le_of_ble_eq_true rfl) ?_
      refine ARun.hleX ?_ ?_ hk
      · exact HeapLe.one rfl trivial
      · repeat (first | exact LkX.refl | refine LkX.cons (hX.none rfl) ?_ | refine LkX.filter (hX.none rfl) ?_)
    refine ADX.pure [] (PureOp.move rfl (.tmp rfl)) rfl rfl (Nat.le_of_ble_eq_true rfl) trivial rfl ?_
    refine ADX.pure [] (PureOp.move rfl (.tmp rfl)) rfl rfl (Nat.le_of_ble_eq_true rfl) trivial rfl ?_
    refine ADX.pure [] (PureOp.mul (c := ((l.length * l.length : Nat) : Int)) rfl (.tmp rfl) (.tmp rfl) (wrap_sq hl5)) rfl rfl (Nat.le_of_ble_eq_true rfl) trivial rfl ?_
    refine ADX.eff (tk := [3]) (new := [3]) (s := .one (.own 3 1 (l.length * l.length))) (F := [(24, .one (.own 3 1 (l.length * l.length)))]) (Hin := []) (Hout := [(3, .arr 1 (l.length * l.length) (fun _ j => ([.con (.slice none 0 0)] : List AV).getD j (.con undef)))]) (fun E X hE hX Q rest hk => ?_) trivial ⟨rfl, rfl⟩ rfl rfl rfl rfl ⟨(by repeat first | exact trivial | refine ⟨by decide, by first | rfl | exact trivial | (intro i j; first | rfl | exact getD_no rfl | (dsimp only; split <;> first | rfl | exact getD_no rfl) | exact scl_no (by apply_assumption) _), ?_⟩), trivial⟩ rfl (fun _ e => by cases e; exact Nat.le_of_ble_eq_true rfl) ?_
    · refine ARun.make (id := 3) (n := l.length * l.length) (l := [.con (.slice none 0 0)]) (z := (.slice none 0 0)) (by_ := 24) rfl (by kernel_rfl) (fun _ _ _ => ⟨_, _, rfl, rfl, rfl⟩) (.tmp rfl) (.tmp rfl) rfl rfl (by omega) (by omega) (by decide) (Fr.ext2 ⟨rfl, (by repeat first | exact trivial | refine ⟨by decide, by first | rfl | exact trivial | (intro i j; first | rfl | exact getD_no rfl | (dsimp only; split <;> first | rfl | exact getD_no rfl) | exact scl_no (by apply_assumption) _), ?_⟩)⟩ hE hX rfl rfl) rfl rfl rfl (Nat.le_of_ble_eq_true rfl) ?_
      refine ARun.hleX ?_ ?_ hk
      · exact HeapLe.one rfl trivial
      · repeat (first | exact LkX.refl | refine LkX.cons (hX.none rfl) ?_ | refine LkX.filter (hX.none rfl) ?_)
    refine ADX.pure [] (PureOp.build (ys := [.own 2 1 (0 + l.length), .own 3 1 (l.length * l.length)]) (l := [.con (.slice none 0 0), .con (.slice none 0 0), .con (.slice none 0 0), .con (.slice none 0 0), .con (.slice none 0 0)]) (pl := [(0, 1), (1, 1), (2, 1), (3, 1), (4, 1)]) (z := (.agg #[.slice none 0 0, .slice none 0 0, .slice none 0 0, .slice none 0 0, .slice none 0 0])) rfl (by kernel_rfl) (by kernel_rfl) (fun _ _ _ => ⟨_, _, rfl, rfl, ⟨_, _, rfl, rfl, ⟨_, _, rfl, rfl, ⟨_, _, rfl, rfl, ⟨_, _, rfl, rfl, rfl⟩⟩⟩⟩⟩) ⟨(.tmp rfl), trivial, rfl, ⟨(.tmp rfl), trivial, rfl, trivial⟩⟩ rfl) rfl rfl (Nat.le_of_ble_eq_true rfl) trivial rfl ?_
    refine ADX.eff (tk := [4]) (new := [4]) (s := .one (.ptr 4 5 0 0)) (F := [(5, .one (.ptr 4 5 0 0))]) (Hin := []) (Hout := [(4, .cells [.con (.slice none 0 0), .con (.slice none 0 0), .con (.slice none 0 0), .con (.slice none 0 0), .con (.slice none 0 0)])]) (fun E X hE hX Q rest hk => ?_) trivial ⟨rfl, rfl⟩ rfl rfl rfl rfl ⟨(by repeat first | exact trivial | refine ⟨by decide, by first | rfl | exact trivial | (intro i j; first | rfl | exact getD_no rfl | (dsimp only; split <;> first | rfl | exact getD_no rfl) | exact scl_no (by apply_assumption) _), ?_⟩), trivial⟩ rfl (fun _ e => by cases e; exact Nat.le_of_ble_eq_true rfl) ?_
    · refine ARun.alloc (id := 4) (l := [.con (.slice none 0 0), .con (.slice none 0 0), .con (.slice none 0 0), .con (.slice none 0 0), .con (.slice none 0 0)]) (z := (.agg #[.slice none 0 0, .slice none 0 0, .slice none 0 0, .slice none 0 0, .slice none 0 0])) rfl (by kernel_rfl) (fun _ _ _ => ⟨_, _, rfl, rfl, ⟨_, _, rfl, rfl, ⟨_, _, rfl, rfl, ⟨_, _, rfl, rfl, ⟨_, _, rfl, rfl, rfl⟩⟩⟩⟩⟩) (Fr.ext2 ⟨rfl, (by repeat first | exact trivial | refine ⟨by decide, by first | rfl | exact trivial | (intro i j; first | rfl | exact getD_no rfl | (dsimp only; split <;> first | rfl | exact getD_no rfl) | exact scl_no (by apply_assumption) _), ?_⟩)⟩ hE hX rfl rfl) rfl rfl rfl (Nat.le_of_ble_eq_true rfl) ?_
      refine ARun.hleX ?_ ?_ hk
      · exact HeapLe.one rfl trivial
      · repeat (first | exact LkX.refl | refine LkX.cons (hX.none rfl) ?_ | refine LkX.filter (hX.none rfl) ?_)
    refine ADX.eff (tk := [4]) (new := []) (s := .one (.con undef)) (F := []) (Hin := [(4, .cells [.con (.slice none 0 0), .con (.slice none 0 0), .con (.slice none 0 0), .con (.slice none 0 0), .con (.slice none 0 0)])]) (Hout := [(4, .cells [.own 2 1 (0 + l.length), .own 3 1 (l.length * l.length), .con (.slice none 0 0), .con (.slice none 0 0), .con (.slice none 0 0)])]) (fun E X hE hX Q rest hk => ?_) ⟨rfl, trivial⟩ ⟨rfl, rfl⟩ rfl rfl rfl rfl trivial rfl (fun _ e => by cases e) ?_
    · refine ARun.store rfl (.tmp rfl) (.tmp rfl) (SV.cells_of (by exact ⟨trivial, trivial, ⟨rfl, (fun _ e => by cases e), (fun _ e => by cases e)⟩, ⟨rfl, (fun _ e => by cases e), (fun _ e => by cases e)⟩, ⟨rfl, (fun _ e => by cases e), (fun _ e => by cases e)⟩, trivial⟩)) rfl (Nat.le_of_ble_eq_true rfl) vnb_sz_49_5 rfl rfl ?_
      refine ARun.hleX ?_ ?_ hk
      · exact HeapLe.one rfl trivial
      · repeat (first | exact LkX.refl | refine LkX.cons (hX.none rfl) ?_ | refine LkX.filter (hX.none rfl) ?_)
    refine ADX.nil (H := [(0, .cells [.con (.slice none 0 0), .con (.slice none 0 0), .con (.slice none 0 0), .con (.slice none 0 0), .con (.slice none 0 0)]), (2, .arr 1 (0 + l.length) (fun ia ja => if ia < 0 then (fun _ _ => .con undef : Nat → Nat → AV) ia ja else (fun i0 _ => .int .i64 (l.getD i0 0) : Nat → Nat → AV) (ia - 0) ja)), (3, .arr 1 (l.length * l.length) (fun _ j => ([.con (.slice none 0 0)] : List AV).getD j (.con undef))), (4, .cells [.own 2 1 (0 + l.length), .own 3 1 (l.length * l.length), .con (.slice none 0 0), .con (.slice none 0 0), .con (.slice none 0 0)])]) ?_ ?_
    · exact HeapLe.one rfl (HeapLe.one rfl (HeapLe.one rfl (HeapLe.one rfl trivial)))
    refine AW.seq ?_
    refine AW.seq ?_
    refine AW.region ?_
    refine ARun.pure (PureOp.assign rfl .int) rfl rfl (Nat.le_of_ble_eq_true rfl) ?_
    refine ARun.nil ?_
    refine AW.block ?_
    refine AW.fam (id := 7) (bkH l.length) ⟨rfl, (by repeat first | exact trivial | refine ⟨by decide, by first | rfl | exact trivial | (intro i j; first | rfl | exact getD_no rfl | (dsimp only; split <;> first | rfl | exact getD_no rfl) | exact scl_no (by apply_assumption) _), ?_⟩)⟩ ?_
    refine AW.fam (id := 9) (bkF l.length) ⟨rfl, (by repeat first | exact trivial | refine ⟨by decide, by first | rfl | exact trivial | (intro i j; first | rfl | exact getD_no rfl | (dsimp only; split <;> first | rfl | exact getD_no rfl) | exact scl_no (by apply_assumption) _), ?_⟩)⟩ ?_
    refine AW.nilCell 4 2 5 1 _ (fun _ _ => .int .i64 (-1)) rfl rfl ⟨rfl, (by repeat first | exact trivial | refine ⟨by decide, by first | rfl | exact trivial | (intro i j; first | rfl | exact getD_no rfl | (dsimp only; split <;> first | rfl | exact getD_no rfl) | exact scl_no (by apply_assumption) _), ?_⟩)⟩ ?_
    refine AW.nilCell 4 3 6 1 _ (fun i_ _ => .tre 7 i_) rfl rfl ⟨rfl, (by repeat first | exact trivial | refine ⟨by decide, by first | rfl | exact trivial | (intro i j; first | rfl | exact getD_no rfl | (dsimp only; split <;> first | rfl | exact getD_no rfl) | exact scl_no (by apply_assumption) _), ?_⟩)⟩ ?_
    refine AW.nilCell 4 4 8 1 _ (fun i_ _ => .tre 9 i_) rfl rfl ⟨rfl, (by repeat first | exact trivial | refine ⟨by decide, by first | rfl | exact trivial | (intro i j; first | rfl | exact getD_no rfl | (dsimp only; split <;> first | rfl | exact getD_no rfl) | exact scl_no (by apply_assumption) _), ?_⟩)⟩ ?_
    -- objects are renamed
    refine AW.loopR (ι := Nat) (fun k => ⟨[(2, .one (.ptr 0 5 0 0)), (4, .one (.int .i64 (l.length : Int))), (5, .one (.ptr 4 5 0 0)), (6, .one (.int .i64 (k : Int)))], [(0, .cells [.con (.slice none 0 0), .con (.slice none 0 0), .con (.slice none 0 0), .con (.slice none 0 0), .con (.slice none 0 0)]), (2, .arr 1 (0 + l.length) (fun ia ja => if ia < 0 then (fun _ _ => .con undef : Nat → Nat → AV) ia ja else (fun i0 _ => .int .i64 (l.getD i0 0) : Nat → Nat → AV) (ia - 0) ja)), (3, .arr 1 (l.length * l.length) (fun _ j => ([.con (.slice none 0 0)] : List AV).getD j (.con undef))), (4, .cells [.own 2 1 (0 + l.length), .own 3 1 (l.length * l.length), .own 5 1 k, .own 6 1 k, .own 8 1 k]), (5, .arr 1 k (fun _ _ => .int .i64 (-1))), (6, .arr 1 k (fun i_ _ => .tre 7 i_)), (7, .trees k (bkH l.length)), (8, .arr 1 k (fun i_ _ => .tre 9 i_)), (9, .trees k (bkF l.length))]⟩) (fun k => k ≤ l.length) (fun k => l.length - k) 0 (Nat.zero_le _) ⟨⟨⟨_, rfl, rfl⟩, ⟨_, rfl, rfl⟩, ⟨_, rfl, rfl⟩, ⟨_, rfl, rfl⟩, trivial⟩, ⟨⟨_, rfl, rfl, Nat.le_refl _, fun _ _ _ _ => rfl⟩, ⟨_, rfl, rfl, Nat.le_refl _, fun _ _ _ _ => rfl⟩, ⟨_, rfl, rfl, Nat.le_refl _, fun _ _ _ _ => rfl⟩, ⟨_, rfl, rfl, Nat.le_refl _, fun _ _ _ _ => rfl⟩, ⟨_, rfl, rfl, Nat.le_refl _, fun _ _ _ _ => rfl⟩, ⟨_, rfl, rfl, Nat.le_refl _, fun _ _ _ _ => rfl⟩, ⟨_, rfl, fun _ _ => rfl⟩, ⟨_, rfl, rfl, Nat.le_refl _, fun _ _ _ _ => rfl⟩, ⟨_, rfl, fun _ _ => rfl⟩, trivial⟩⟩ ?_
    intro k hk
    refine AW.seq ?_
    refine AW.seq ?_
    refine AW.region ?_
    refine ARun.pure (PureOp.move rfl (.tmp rfl)) rfl rfl (Nat.le_of_ble_eq_true rfl) ?_
    refine ARun.pure (PureOp.move rfl (.tmp rfl)) rfl rfl (Nat.le_of_ble_eq_true rfl) ?_
    refine ARun.pure (PureOp.intOp rfl (.tmp rfl) (.tmp rfl) rfl) rfl rfl (Nat.le_of_ble_eq_true rfl) ?_
    refine ARun.nil ?_
    refine AW.cond (.tmp rfl) (fun hb7 => ?_) (fun hb7 => ?_)
    · have _u := True.intro
      replace hb7 := of_decide_eq_true hb7
      have hkl : k < l.length := by omega
      refine AW.skip ?_
      refine AW.seq ?_
      refine AW.block ?_
      refine AW.seq ?_
      refine AW.region ?_
      refine ARun.pure (PureOp.fieldPtr rfl (.tmp rfl) vnb_fi_49_2_2) rfl rfl (Nat.le_of_ble_eq_true rfl) ?_
      refine ARun.pure (PureOp.loadPtr rfl (.tmp rfl) vnb_pl_22 rfl rfl (Nat.le_of_ble_eq_true rfl) (Nat.le_of_ble_eq_true rfl)) rfl rfl (Nat.le_of_ble_eq_true rfl) ?_
      refine ARun.slice1 (id := 10) (z := (.int .i64 0)) (by_ := 8) rfl .int trivial (by kernel_rfl) rfl rfl (by decide) (by decide) ⟨rfl, (by repeat first | exact trivial | refine ⟨by decide, by first | rfl | exact trivial | (intro i j; first | rfl | exact getD_no rfl | (dsimp only; split <;> first | rfl | exact getD_no rfl) | exact scl_no (by apply_assumption) _), ?_⟩)⟩ rfl rfl rfl (Nat.le_of_ble_eq_true rfl) ?_
      refine ARun.append (id := 11) (sz := 1) (n := k) (m := 1) (by_ := 8) (z := (.int .i64 0)) (f := fun _ _ => .int .i64 (-1)) (g := fun _ jc => ([.int .i64 (-1)] : List AV).getD jc (.con undef)) (h := fun ia ja => if ia < k then (fun _ _ => .int .i64 (-1) : Nat → Nat → AV) ia ja else (fun _ jc => ([.int .i64 (-1)] : List AV).getD jc (.con undef) : Nat → Nat → AV) (ia - k) ja) rfl (by kernel_rfl) rfl vnb_sl_22 (.own (.tmp rfl) rfl rfl rfl (Nat.le_refl _) (fun _ _ _ _ => rfl)) (.own (.tmp rfl) rfl rfl (Nat.le_refl _) (fun _ _ _ _ => rfl)) (by decide) (fun i j hi hj => match j, hj with | 0, _ => rfl | _ + 1, h => absurd h (by omega)) (fun _ _ _ _ => rfl) (by omega) (by omega) ⟨rfl, (by repeat first | exact trivial | refine ⟨by decide, by first | rfl | exact trivial | (intro i j; first | rfl | exact getD_no rfl | (dsimp only; split <;> first | rfl | exact getD_no rfl) | exact scl_no (by apply_assumption) _), ?_⟩)⟩ (fun i j => by dsimp only; (repeat' split) <;> first | rfl | exact getD_no rfl) rfl rfl (Nat.le_of_ble_eq_true rfl) ?_
      refine ARun.pure (PureOp.fieldPtr rfl (.tmp rfl) vnb_fi_49_2_2) rfl rfl (Nat.le_of_ble_eq_true rfl) ?_
      refine ARun.store rfl (.tmp rfl) (.tmp rfl) trivial rfl (Nat.le_of_ble_eq_true rfl) vnb_sz_22_1 rfl rfl ?_
      refine ARun.nil ?_
      refine AW.seq ?_
      refine AW.anyX [⟨[], [], [], []⟩, ⟨[4], [], [], []⟩, ⟨[], [], [], []⟩, ⟨[], [7, 12], [12], [(7, .trees (k + 1) (bkH l.length))]⟩, ⟨[], [13], [13], [(13, .arr 1 1 (fun _ jc => ([.tre 7 k] : List AV).getD jc (.con undef)))]⟩, ⟨[], [6, 13, 14], [14], [(13, .arr 1 1 (fun _ jc => ([.tre 7 k] : List AV).getD jc (.con undef))), (14, .arr 1 (k + 1) (fun ia ja => if ia < k then (fun i_ _ => .tre 7 i_ : Nat → Nat → AV) ia ja else (fun _ jc => ([.tre 7 k] : List AV).getD jc (.con undef) : Nat → Nat → AV) (ia - k) ja))]⟩, ⟨[], [], [], []⟩, ⟨[], [4], [], [(4, .cells [.own 2 1 (0 + l.length), .own 3 1 (l.length * l.length), .own 11 1 (k + 1), .own 14 1 (k + 1), .own 8 1 k])]⟩] (by kernel_rfl) (by kernel_rfl) (by kernel_rfl) ⟨⟨.inl rfl, .inr (.inr trivial), .inr (.inr trivial), .inr (.inr (by repeat first | exact trivial | refine And.intro ?_ ?_ | exact rfl | (intro i j; first | rfl | exact getD_no rfl | (dsimp only; split <;> first | rfl | exact getD_no rfl) | exact scl_no (by apply_assumption) _))), .inr (.inr (by repeat first | exact trivial | refine And.intro ?_ ?_ | exact rfl | (intro i j; first | rfl | exact getD_no rfl | (dsimp only; split <;> first | rfl | exact getD_no rfl) | exact scl_no (by apply_assumption) _))), .inr (.inr (by repeat first | exact trivial | refine And.intro ?_ ?_ | exact rfl | (intro i j; first | rfl | exact getD_no rfl | (dsimp only; split <;> first | rfl | exact getD_no rfl) | exact scl_no (by apply_assumption) _))), .inr (.inr trivial), .inr (.inr trivial), trivial⟩, ⟨.inr (.inr trivial), .inl rfl, .inr (.inr trivial), .inr (.inr (by repeat first | exact trivial | refine And.intro ?_ ?_ | exact rfl | (intro i j; first | rfl | exact getD_no rfl | (dsimp only; split <;> first | rfl | exact getD_no rfl) | exact scl_no (by apply_assumption) _))), .inr (.inr (by repeat first | exact trivial | refine And.intro ?_ ?_ | exact rfl | (intro i j; first | rfl | exact getD_no rfl | (dsimp only; split <;> first | rfl | exact getD_no rfl) | exact scl_no (by apply_assumption) _))), .inr (.inr (by repeat first | exact trivial | refine And.intro ?_ ?_ | exact rfl | (intro i j; first | rfl | exact getD_no rfl | (dsimp only; split <;> first | rfl | exact getD_no rfl) | exact scl_no (by apply_assumption) _))), .inr (.inr trivial), .inr (.inr trivial), trivial⟩, ⟨.inr (.inr trivial), .inr (.inr trivial), .inl rfl, .inr (.inr (by repeat first | exact trivial | refine And.intro ?_ ?_ | exact rfl | (intro i j; first | rfl | exact getD_no rfl | (dsimp only; split <;> first | rfl | exact getD_no rfl) | exact scl_no (by apply_assumption) _))), .inr (.inr (by repeat first | exact trivial | refine And.intro ?_ ?_ | exact rfl | (intro i j; first | rfl | exact getD_no rfl | (dsimp only; split <;> first | rfl | exact getD_no rfl) | exact scl_no (by apply_assumption) _))), .inr (.inr (by repeat first | exact trivial | refine And.intro ?_ ?_ | exact rfl | (intro i j; first | rfl | exact getD_no rfl | (dsimp only; split <;> first | rfl | exact getD_no rfl) | exact scl_no (by apply_assumption) _))), .inr (.inr trivial), .inr (.inr trivial), trivial⟩, ⟨.inr (.inr trivial), .inr (.inr trivial), .inr (.inr trivial), .inl rfl, .inr (.inr (by repeat first | exact trivial | refine And.intro ?_ ?_ | exact rfl | (intro i j; first | rfl | exact getD_no rfl | (dsimp only; split <;> first | rfl | exact getD_no rfl) | exact scl_no (by apply_assumption) _))), .inr (.inr (by repeat first | exact trivial | refine And.intro ?_ ?_ | exact rfl | (intro i j; first | rfl | exact getD_no rfl | (dsimp only; split <;> first | rfl | exact getD_no rfl) | exact scl_no (by apply_assumption) _))), .inr (.inr trivial), .inr (.inr trivial), trivial⟩, ⟨.inr (.inr trivial), .inr (.inr trivial), .inr (.inr trivial), .inr (.inl (by kernel_rfl)), .inl rfl, .inr (.inr (by repeat first | exact trivial | refine And.intro ?_ ?_ | exact rfl | (intro i j; first | rfl | exact getD_no rfl | (dsimp only; split <;> first | rfl | exact getD_no rfl) | exact scl_no (by apply_assumption) _))), .inr (.inr trivial), .inr (.inr trivial), trivial⟩, ⟨.inr (.inr trivial), .inr (.inr trivial), .inr (.inr trivial), .inr (.inl (by kernel_rfl)), .inr (.inl (by kernel_rfl)), .inl rfl, .inr (.inr trivial), .inr (.inr trivial), trivial⟩, ⟨.inr (.inr trivial), .inr (.inr trivial), .inr (.inr trivial), .inr (.inl (by kernel_rfl)), .inr (.inl (by kernel_rfl)), .inr (.inl (by kernel_rfl)), .inl rfl, .inr (.inr trivial), trivial⟩, ⟨.inr (.inr trivial), .inr (.inr trivial), .inr (.inr trivial), .inr (.inl (by kernel_rfl)), .inr (.inl (by kernel_rfl)), .inr (.inl (by kernel_rfl)), .inr (.inr trivial), .inl rfl, trivial⟩, trivial⟩ ⟨trivial, trivial, trivial, ⟨(by repeat first | exact trivial | refine ⟨by decide, by first | rfl | exact trivial | (intro i j; first | rfl | exact getD_no rfl | (dsimp only; split <;> first | rfl | exact getD_no rfl) | exact scl_no (by apply_assumption) _), ?_⟩), trivial⟩, ⟨(by repeat first | exact trivial | refine ⟨by decide, by first | rfl | exact trivial | (intro i j; first | rfl | exact getD_no rfl | (dsimp only; split <;> first | rfl | exact getD_no rfl) | exact scl_no (by apply_assumption) _), ?_⟩), trivial⟩, ⟨(by repeat first | exact trivial | refine ⟨by decide, by first | rfl | exact trivial | (intro i j; first | rfl | exact getD_no rfl | (dsimp only; split <;> first | rfl | exact getD_no rfl) | exact scl_no (by apply_assumption) _), ?_⟩), trivial⟩, trivial, trivial, trivial⟩ ?_
      refine ADX.pure [] (PureOp.fieldPtr rfl (.tmp rfl) vnb_fi_49_3_3) rfl rfl (Nat.le_of_ble_eq_true rfl) trivial rfl ?_
      refine ADX.pure [(4, .cells [.own 2 1 (0 + l.length), .own 3 1 (l.length * l.length), .own 11 1 (k + 1), .own 6 1 k, .own 8 1 k])] (PureOp.loadPtr rfl (.tmp rfl) vnb_pl_47 rfl rfl (Nat.le_of_ble_eq_true rfl) (Nat.le_of_ble_eq_true rfl)) rfl rfl (Nat.le_of_ble_eq_true rfl) ⟨rfl, trivial⟩ rfl ?_
      refine ADX.pure [] (PureOp.move rfl (.tmp rfl)) rfl rfl (Nat.le_of_ble_eq_true rfl) trivial rfl ?_
      refine ADX.eff (tk := [7, 12]) (new := [12]) (s := .one (.tre 7 k)) (F := [(39, .one (.tre 7 k)), (39, .one (.own 12 1 l.length))]) (Hin := [(7, .trees k (bkH l.length))]) (Hout := [(7, .trees (k + 1) (bkH l.length))]) (fun E X hE hX Q rest hk => ?_) ⟨rfl, trivial⟩ ⟨rfl, rfl⟩ rfl rfl rfl rfl ⟨(by repeat first | exact trivial | refine ⟨by decide, by first | rfl | exact trivial | (intro i j; first | rfl | exact getD_no rfl | (dsimp only; split <;> first | rfl | exact getD_no rfl) | exact scl_no (by apply_assumption) _), ?_⟩), trivial⟩ rfl (fun _ e => by cases e; exact Nat.le_of_ble_eq_true rfl) ?_
      · refine ARun.make (id := 12) (n := l.length) (l := [.bool false]) (z := (.bool false)) (by_ := 1) rfl (by kernel_rfl) (fun _ _ _ => ⟨_, _, rfl, rfl, rfl⟩) (.tmp rfl) (.tmp rfl) rfl rfl (by omega) (by omega) (by decide) (Fr.ext2 ⟨rfl, (by repeat first | exact trivial | refine ⟨by decide, by first | rfl | exact trivial | (intro i j; first | rfl | exact getD_no rfl | (dsimp only; split <;> first | rfl | exact getD_no rfl) | exact scl_no (by apply_assumption) _), ?_⟩)⟩ hE hX rfl rfl) rfl rfl rfl (Nat.le_of_ble_eq_true rfl) ?_
        refine ARun.closeRow 39 12 7 k 1 l.length (m' := (List.replicate l.length false).length) (X := bkH l.length) (g := fun a _ => .bool ((List.replicate l.length false).getD a false)) rfl rfl rfl rfl (Nat.le_refl _) rfl rfl rfl List.length_replicate (fun i j hi (hj : j < 1) => match j, hj with | 0, _ => congrArg (fun e => AV.bool e) (getD_rep hi).symm | _ + 1, h => absurd h (by omega)) (fun i j hi (hj : j < 1) => rfl) ?_
        refine ARun.hleX ?_ ?_ hk
        · exact HeapLe.one rfl trivial
        · repeat (first | exact LkX.refl | refine LkX.cons (hX.none rfl) ?_ | refine LkX.filter (hX.none rfl) ?_)
      refine ADX.eff (tk := [13]) (new := [13]) (s := .one (.own 13 1 1)) (F := [(40, .one (.own 13 1 1))]) (Hin := []) (Hout := [(13, .arr 1 1 (fun _ jc => ([.tre 7 k] : List AV).getD jc (.con undef)))]) (fun E X hE hX Q rest hk => ?_) trivial ⟨rfl, rfl⟩ rfl rfl rfl rfl ⟨(by repeat first | exact trivial | refine ⟨by decide, by first | rfl | exact trivial | (intro i j; first | rfl | exact getD_no rfl | (dsimp only; split <;> first | rfl | exact getD_no rfl) | exact scl_no (by apply_assumption) _), ?_⟩), trivial⟩ rfl (fun _ e => by cases e; exact Nat.le_of_ble_eq_true rfl) ?_
      · refine ARun.slice1 (id := 13) (z := (.slice none 0 0)) (by_ := 24) rfl (.tmp rfl) trivial (by kernel_rfl) rfl rfl (by decide) (by decide) (Fr.ext2 ⟨rfl, (by repeat first | exact trivial | refine ⟨by decide, by first | rfl | exact trivial | (intro i j; first | rfl | exact getD_no rfl | (dsimp only; split <;> first | rfl | exact getD_no rfl) | exact scl_no (by apply_assumption) _), ?_⟩)⟩ hE hX rfl rfl) rfl rfl rfl (Nat.le_of_ble_eq_true rfl) ?_
        refine ARun.hleX ?_ ?_ hk
        · exact HeapLe.one rfl trivial
        · repeat (first | exact LkX.refl | refine LkX.cons (hX.none rfl) ?_ | refine LkX.filter (hX.none rfl) ?_)
      refine ADX.eff (tk := [6, 13, 14]) (new := [14]) (s := .one (.own 14 1 (k + 1))) (F := [(41, .one (.own 14 1 (k + 1)))]) (Hin := [(6, .arr 1 k (fun i_ _ => .tre 7 i_)), (13, .arr 1 1 (fun _ jc => ([.tre 7 k] : List AV).getD jc (.con undef)))]) (Hout := [(13, .arr 1 1 (fun _ jc => ([.tre 7 k] : List AV).getD jc (.con undef))), (14, .arr 1 (k + 1) (fun ia ja => if ia < k then (fun i_ _ => .tre 7 i_ : Nat → Nat → AV) ia ja else (fun _ jc => ([.tre 7 k] : List AV).getD jc (.con undef) : Nat → Nat → AV) (ia - k) ja))]) (fun E X hE hX Q rest hk => ?_) ⟨rfl, rfl, trivial⟩ ⟨rfl, rfl⟩ rfl rfl rfl rfl ⟨(by repeat first | exact trivial | refine ⟨by decide, by first | rfl | exact trivial | (intro i j; first | rfl | exact getD_no rfl | (dsimp only; split <;> first | rfl | exact getD_no rfl) | exact scl_no (by apply_assumption) _), ?_⟩), trivial⟩ rfl (fun _ e => by cases e; exact Nat.le_of_ble_eq_true rfl) ?_
      · refine ARun.append (id := 14) (sz := 1) (n := k) (m := 1) (by_ := 24) (z := (.slice none 0 0)) (f := fun i_ _ => .tre 7 i_) (g := fun _ jc => ([.tre 7 k] : List AV).getD jc (.con undef)) (h := fun ia ja => if ia < k then (fun i_ _ => .tre 7 i_ : Nat → Nat → AV) ia ja else (fun _ jc => ([.tre 7 k] : List AV).getD jc (.con undef) : Nat → Nat → AV) (ia - k) ja) rfl (by kernel_rfl) rfl vnb_sl_47 (.own (.tmp rfl) rfl rfl rfl (Nat.le_refl _) (fun _ _ _ _ => rfl)) (.own (.tmp rfl) rfl rfl (Nat.le_refl _) (fun _ _ _ _ => rfl)) (by decide) (fun i j hi hj => match j, hj with | 0, _ => rfl | _ + 1, h => absurd h (by omega)) (fun _ _ _ _ => rfl) (by omega) (by omega) (Fr.ext2 ⟨rfl, (by repeat first | exact trivial | refine ⟨by decide, by first | rfl | exact trivial | (intro i j; first | rfl | exact getD_no rfl | (dsimp only; split <;> first | rfl | exact getD_no rfl) | exact scl_no (by apply_assumption) _), ?_⟩)⟩ hE hX rfl rfl) (fun i j => by dsimp only; (repeat' split) <;> first | rfl | exact getD_no rfl) rfl rfl (Nat.le_of_ble_eq_true rfl) ?_
        refine ARun.hleX ?_ ?_ hk
        · exact HeapLe.one rfl (HeapLe.one rfl trivial)
        · repeat (first | exact LkX.refl | refine LkX.cons (hX.none rfl) ?_ | refine LkX.filter (hX.none rfl) ?_)
      refine ADX.pure [] (PureOp.fieldPtr rfl (.tmp rfl) vnb_fi_49_3_3) rfl rfl (Nat.le_of_ble_eq_true rfl) trivial rfl ?_
      refine ADX.eff (tk := [4]) (new := []) (s := .one (.con undef)) (F := []) (Hin := [(4, .cells [.own 2 1 (0 + l.length), .own 3 1 (l.length * l.length), .own 11 1 (k + 1), .own 6 1 k, .own 8 1 k])]) (Hout := [(4, .cells [.own 2 1 (0 + l.length), .own 3 1 (l.length * l.length), .own 11 1 (k + 1), .own 14 1 (k + 1), .own 8 1 k])]) (fun E X hE hX Q rest hk => ?_) ⟨rfl, trivial⟩ ⟨rfl, rfl⟩ rfl rfl rfl rfl trivial rfl (fun _ e => by cases e) ?_
      · refine ARun.store rfl (.tmp rfl) (.tmp rfl) trivial rfl (Nat.le_of_ble_eq_true rfl) vnb_sz_47_1 rfl rfl ?_
        refine ARun.hleX ?_ ?_ hk
        · exact HeapLe.one rfl trivial
        · repeat (first | exact LkX.refl | refine LkX.cons (hX.none rfl) ?_ | refine LkX.filter (hX.none rfl) ?_)
      refine ADX.nil (H := [(0, .cells [.con (.slice none 0 0), .con (.slice none 0 0), .con (.slice none 0 0), .con (.slice none 0 0), .con (.slice none 0 0)]), (2, .arr 1 (0 + l.length) (fun ia ja => if ia < 0 then (fun _ _ => .con undef : Nat → Nat → AV) ia ja else (fun i0 _ => .int .i64 (l.getD i0 0) : Nat → Nat → AV) (ia - 0) ja)), (3, .arr 1 (l.length * l.length) (fun _ j => ([.con (.slice none 0 0)] : List AV).getD j (.con undef))), (4, .cells [.own 2 1 (0 + l.length), .own 3 1 (l.length * l.length), .own 11 1 (k + 1), .own 14 1 (k + 1), .own 8 1 k]), (7, .trees (k + 1) (bkH l.length)), (8, .arr 1 k (fun i_ _ => .tre 9 i_)), (9, .trees k (bkF l.length)), (10, .arr 1 1 (fun _ jc => ([.int .i64 (-1)] : List AV).getD jc (.con undef))), (11, .arr 1 (k + 1) (fun ia ja => if ia < k then (fun _ _ => .int .i64 (-1) : Nat → Nat → AV) ia ja else (fun _ jc => ([.int .i64 (-1)] : List AV).getD jc (.con undef) : Nat → Nat → AV) (ia - k) ja)), (13, .arr 1 1 (fun _ jc => ([.tre 7 k] : List AV).getD jc (.con undef))), (14, .arr 1 (k + 1) (fun ia ja => if ia < k then (fun i_ _ => .tre 7 i_ : Nat → Nat → AV) ia ja else (fun _ jc => ([.tre 7 k] : List AV).getD jc (.con undef) : Nat → Nat → AV) (ia - k) ja))]) ?_ ?_
      · exact HeapLe.one rfl (HeapLe.one rfl (HeapLe.one rfl (HeapLe.one rfl (HeapLe.one rfl (HeapLe.one rfl (HeapLe.one rfl (HeapLe.one rfl (HeapLe.one rfl (HeapLe.one rfl (HeapLe.one rfl trivial))))))))))
      refine AW.anyX [⟨[], [], [], []⟩, ⟨[4], [], [], []⟩, ⟨[], [], [], []⟩, ⟨[], [9, 15], [15], [(9, .trees (k + 1) (bkF l.length))]⟩, ⟨[], [16], [16], [(16, .arr 1 1 (fun _ jc => ([.tre 9 k] : List AV).getD jc (.con undef)))]⟩, ⟨[], [8, 16, 17], [17], [(16, .arr 1 1 (fun _ jc => ([.tre 9 k] : List AV).getD jc (.con undef))), (17, .arr 1 (k + 1) (fun ia ja => if ia < k then (fun i_ _ => .tre 9 i_ : Nat → Nat → AV) ia ja else (fun _ jc => ([.tre 9 k] : List AV).getD jc (.con undef) : Nat → Nat → AV) (ia - k) ja))]⟩, ⟨[], [], [], []⟩, ⟨[], [4], [], [(4, .cells [.own 2 1 (0 + l.length), .own 3 1 (l.length * l.length), .own 11 1 (k + 1), .own 14 1 (k + 1), .own 17 1 (k + 1)])]⟩] (by kernel_rfl) (by kernel_rfl) (by kernel_rfl) ⟨⟨.inl rfl, .inr (.inr trivial), .inr (.inr trivial), .inr (.inr (by repeat first | exact trivial | refine And.intro ?_ ?_ | exact rfl | (intro i j; first | rfl | exact getD_no rfl | (dsimp only; split <;> first | rfl | exact getD_no rfl) | exact scl_no (by apply_assumption) _))), .inr (.inr (by repeat first | exact trivial | refine And.intro ?_ ?_ | exact rfl | (intro i j; first | rfl | exact getD_no rfl | (dsimp only; split <;> first | rfl | exact getD_no rfl) | exact scl_no (by apply_assumption) _))), .inr (.inr (by repeat first | exact trivial | refine And.intro ?_ ?_ | exact rfl | (intro i j; first | rfl | exact getD_no rfl | (dsimp only; split <;> first | rfl | exact getD_no rfl) | exact scl_no (by apply_assumption) _))), .inr (.inr trivial), .inr (.inr trivial), trivial⟩, ⟨.inr (.inr trivial), .inl rfl, .inr (.inr trivial), .inr (.inr (by repeat first | exact trivial | refine And.intro ?_ ?_ | exact rfl | (intro i j; first | rfl | exact getD_no rfl | (dsimp only; split <;> first | rfl | exact getD_no rfl) | exact scl_no (by apply_assumption) _))), .inr (.inr (by repeat first | exact trivial | refine And.intro ?_ ?_ | exact rfl | (intro i j; first | rfl | exact getD_no rfl | (dsimp only; split <;> first | rfl | exact getD_no rfl) | exact scl_no (by apply_assumption) _))), .inr (.inr (by repeat first | exact trivial | refine And.intro ?_ ?_ | exact rfl | (intro i j; first | rfl | exact getD_no rfl | (dsimp only; split <;> first | rfl | exact getD_no rfl) | exact scl_no (by apply_assumption) _))), .inr (.inr trivial), .inr (.inr trivial), trivial⟩, ⟨.inr (.inr trivial), .inr (.inr trivial), .inl rfl, .inr (.inr (by repeat first | exact trivial | refine And.intro ?_ ?_ | exact rfl | (intro i j; first | rfl | exact getD_no rfl | (dsimp only; split <;> first | rfl | exact getD_no rfl) | exact scl_no (by apply_assumption) _))), .inr (.inr (by repeat first | exact trivial | refine And.intro ?_ ?_ | exact rfl | (intro i j; first | rfl | exact getD_no rfl | (dsimp only; split <;> first | rfl | exact getD_no rfl) | exact scl_no (by apply_assumption) _))), .inr (.inr (by repeat first | exact trivial | refine And.intro ?_ ?_ | exact rfl | (intro i j; first | rfl | exact getD_no rfl | (dsimp only; split <;> first | rfl | exact getD_no rfl) | exact scl_no (by apply_assumption) _))), .inr (.inr trivial), .inr (.inr trivial), trivial⟩, ⟨.inr (.inr trivial), .inr (.inr trivial), .inr (.inr trivial), .inl rfl, .inr (.inr (by repeat first | exact trivial | refine And.intro ?_ ?_ | exact rfl | (intro i j; first | rfl | exact getD_no rfl | (dsimp only; split <;> first | rfl | exact getD_no rfl) | exact scl_no (by apply_assumption) _))), .inr (.inr (by repeat first | exact trivial | refine And.intro ?_ ?_ | exact rfl | (intro i j; first | rfl | exact getD_no rfl | (dsimp only; split <;> first | rfl | exact getD_no rfl) | exact scl_no (by apply_assumption) _))), .inr (.inr trivial), .inr (.inr trivial), trivial⟩, ⟨.inr (.inr trivial), .inr (.inr trivial), .inr (.inr trivial), .inr (.inl (by kernel_rfl)), .inl rfl, .inr (.inr (by repeat first | exact trivial | refine And.intro ?_ ?_ | exact rfl | (intro i j; first | rfl | exact getD_no rfl | (dsimp only; split <;> first | rfl | exact getD_no rfl) | exact scl_no (by apply_assumption) _))), .inr (.inr trivial), .inr (.inr trivial), trivial⟩, ⟨.inr (.inr trivial), .inr (.inr trivial), .inr (.inr trivial), .inr (.inl (by kernel_rfl)), .inr (.inl (by kernel_rfl)), .inl rfl, .inr (.inr trivial), .inr (.inr trivial), trivial⟩, ⟨.inr (.inr trivial), .inr (.inr trivial), .inr (.inr trivial), .inr (.inl (by kernel_rfl)), .inr (.inl (by kernel_rfl)), .inr (.inl (by kernel_rfl)), .inl rfl, .inr (.inr trivial), trivial⟩, ⟨.inr (.inr trivial), .inr (.inr trivial), .inr (.inr trivial), .inr (.inl (by kernel_rfl)), .inr (.inl (by kernel_rfl)), .inr (.inl (by kernel_rfl)), .inr (.inr trivial), .inl rfl, trivial⟩, trivial⟩ ⟨trivial, trivial, trivial, ⟨(by repeat first | exact trivial | refine ⟨by decide, by first | rfl | exact trivial | (intro i j; first | rfl | exact getD_no rfl | (dsimp only; split <;> first | rfl | exact getD_no rfl) | exact scl_no (by apply_assumption) _), ?_⟩), trivial⟩, ⟨(by repeat first | exact trivial | refine ⟨by decide, by first | rfl | exact trivial | (intro i j; first | rfl | exact getD_no rfl | (dsimp only; split <;> first | rfl | exact getD_no rfl) | exact scl_no (by apply_assumption) _), ?_⟩), trivial⟩, ⟨(by repeat first | exact trivial | refine ⟨by decide, by first | rfl | exact trivial | (intro i j; first | rfl | exact getD_no rfl | (dsimp only; split <;> first | rfl | exact getD_no rfl) | exact scl_no (by apply_assumption) _), ?_⟩), trivial⟩, trivial, trivial, trivial⟩ ?_
      refine ADX.pure [] (PureOp.fieldPtr rfl (.tmp rfl) vnb_fi_49_4_4) rfl rfl (Nat.le_of_ble_eq_true rfl) trivial rfl ?_
      refine ADX.pure [(4, .cells [.own 2 1 (0 + l.length), .own 3 1 (l.length * l.length), .own 11 1 (k + 1), .own 14 1 (k + 1), .own 8 1 k])] (PureOp.loadPtr rfl (.tmp rfl) vnb_pl_25 rfl rfl (Nat.le_of_ble_eq_true rfl) (Nat.le_of_ble_eq_true rfl)) rfl rfl (Nat.le_of_ble_eq_true rfl) ⟨rfl, trivial⟩ rfl ?_
      refine ADX.pure [] (PureOp.move rfl (.tmp rfl)) rfl rfl (Nat.le_of_ble_eq_true rfl) trivial rfl ?_
      refine ADX.eff (tk := [9, 15]) (new := [15]) (s := .one (.tre 9 k)) (F := [(46, .one (.tre 9 k)), (46, .one (.own 15 1 l.length))]) (Hin := [(9, .trees k (bkF l.length))]) (Hout := [(9, .trees (k + 1) (bkF l.length))]) (fun E X hE hX Q rest hk => ?_) ⟨rfl, trivial⟩ ⟨rfl, rfl⟩ rfl rfl rfl rfl ⟨(by repeat first | exact trivial | refine ⟨by decide, by first | rfl | exact trivial | (intro i j; first | rfl | exact getD_no rfl | (dsimp only; split <;> first | rfl | exact getD_no rfl) | exact scl_no (by apply_assumption) _), ?_⟩), trivial⟩ rfl (fun _ e => by cases e; exact Nat.le_of_ble_eq_true rfl) ?_
      · refine ARun.make (id := 15) (n := l.length) (l := [.int .i64 0]) (z := (.int .i64 0)) (by_ := 8) rfl (by kernel_rfl) (fun _ _ _ => ⟨_, _, rfl, rfl, rfl⟩) (.tmp rfl) (.tmp rfl) rfl rfl (by omega) (by omega) (by decide) (Fr.ext2 ⟨rfl, (by repeat first | exact trivial | refine ⟨by decide, by first | rfl | exact trivial | (intro i j; first | rfl | exact getD_no rfl | (dsimp only; split <;> first | rfl | exact getD_no rfl) | exact scl_no (by apply_assumption) _), ?_⟩)⟩ hE hX rfl rfl) rfl rfl rfl (Nat.le_of_ble_eq_true rfl) ?_
        refine ARun.closeRow 46 15 9 k 1 l.length (m' := (List.replicate l.length (0 : Int)).length) (X := bkF l.length) (g := fun a _ => .int .i64 ((List.replicate l.length (0 : Int)).getD a 0)) rfl rfl rfl rfl (Nat.le_refl _) rfl rfl rfl List.length_replicate (fun i j hi (hj : j < 1) => match j, hj with | 0, _ => congrArg (fun e => AV.int .i64 e) (getD_rep hi).symm | _ + 1, h => absurd h (by omega)) (fun i j hi (hj : j < 1) => rfl) ?_
        refine ARun.hleX ?_ ?_ hk
        · exact HeapLe.one rfl trivial
        · repeat (first | exact LkX.refl | refine LkX.cons (hX.none rfl) ?_ | refine LkX.filter (hX.none rfl) ?_)
      refine ADX.eff (tk := [16]) (new := [16]) (s := .one (.own 16 1 1)) (F := [(47, .one (.own 16 1 1))]) (Hin := []) (Hout := [(16, .arr 1 1 (fun _ jc => ([.tre 9 k] : List AV).getD jc (.con undef)))]) (fun E X hE hX Q rest hk => ?_) trivial ⟨rfl, rfl⟩ rfl rfl rfl rfl ⟨(by repeat first | exact trivial | refine ⟨by decide, by first | rfl | exact trivial | (intro i j; first | rfl | exact getD_no rfl | (dsimp only; split <;> first | rfl | exact getD_no rfl) | exact scl_no (by apply_assumption) _), ?_⟩), trivial⟩ rfl (fun _ e => by cases e; exact Nat.le_of_ble_eq_true rfl) ?_
      · refine ARun.slice1 (id := 16) (z := (.slice none 0 0)) (by_ := 24) rfl (.tmp rfl) trivial (by kernel_rfl) rfl rfl (by decide) (by decide) (Fr.ext2 ⟨rfl, (by repeat first | exact trivial | refine ⟨by decide, by first | rfl | exact trivial | (intro i j; first | rfl | exact getD_no rfl | (dsimp only; split <;> first | rfl | exact getD_no rfl) | exact scl_no (by apply_assumption) _), ?_⟩)⟩ hE hX rfl rfl) rfl rfl rfl (Nat.le_of_ble_eq_true rfl) ?_
        refine ARun.hleX ?_ ?_ hk
        · exact HeapLe.one rfl trivial
        · repeat (first | exact LkX.refl | refine LkX.cons (hX.none rfl) ?_ | refine LkX.filter (hX.none rfl) ?_)
      refine ADX.eff (tk := [8, 16, 17]) (new := [17]) (s := .one (.own 17 1 (k + 1))) (F := [(48, .one (.own 17 1 (k + 1)))]) (Hin := [(8, .arr 1 k (fun i_ _ => .tre 9 i_)), (16, .arr 1 1 (fun _ jc => ([.tre 9 k] : List AV).getD jc (.con undef)))]) (Hout := [(16, .arr 1 1 (fun _ jc => ([.tre 9 k] : List AV).getD jc (.con undef))), (17, .arr 1 (k + 1) (fun ia ja => if ia < k then (fun i_ _ => .tre 9 i_ : Nat → Nat → AV) ia ja else (fun _ jc => ([.tre 9 k] : List AV).getD jc (.con undef) : Nat → Nat → AV) (ia - k) ja))]) (fun E X hE hX Q rest hk => ?_) ⟨rfl, rfl, trivial⟩ ⟨rfl, rfl⟩ rfl rfl rfl rfl ⟨(by repeat first | exact trivial | refine ⟨by decide, by first | rfl | exact trivial | (intro i j; first | rfl | exact getD_no rfl | (dsimp only; split <;> first | rfl | exact getD_no rfl) | exact scl_no (by apply_assumption) _), ?_⟩), trivial⟩ rfl (fun _ e => by cases e; exact Nat.le_of_ble_eq_true rfl) ?_
      · refine ARun.append (id := 17) (sz := 1) (n := k) (m := 1) (by_ := 24) (z := (.slice none 0 0)) (f := fun i_ _ => .tre 9 i_) (g := fun _ jc => ([.tre 9 k] : List AV).getD jc (.con undef)) (h := fun ia ja => if ia < k then (fun i_ _ => .tre 9 i_ : Nat → Nat → AV) ia ja else (fun _ jc => ([.tre 9 k] : List AV).getD jc (.con undef) : Nat → Nat → AV) (ia - k) ja) rfl (by kernel_rfl) rfl vnb_sl_25 (.own (.tmp rfl) rfl rfl rfl (Nat.le_refl _) (fun _ _ _ _ => rfl)) (.own (.tmp rfl) rfl rfl (Nat.le_refl _) (fun _ _ _ _ => rfl)) (by decide) (fun i j hi hj => match j, hj with | 0, _ => rfl | _ + 1, h => absurd h (by omega)) (fun _ _ _ _ => rfl) (by omega) (by omega) (Fr.ext2 ⟨rfl, (by repeat first | exact trivial | refine ⟨by decide, by first | rfl | exact trivial | (intro i j; first | rfl | exact getD_no rfl | (dsimp only; split <;> first | rfl | exact getD_no rfl) | exact scl_no (by apply_assumption) _), ?_⟩)⟩ hE hX rfl rfl) (fun i j => by dsimp only; (repeat' split) <;> first | rfl | exact getD_no rfl) rfl rfl (Nat.le_of_ble_eq_true rfl) ?_
        refine ARun.hleX ?_ ?_ hk
        · exact HeapLe.one rfl (HeapLe.one rfl trivial)
        · repeat (first | exact LkX.refl | refine LkX.cons (hX.none rfl) ?_ | refine LkX.filter (hX.none rfl) ?_)
      refine ADX.pure [] (PureOp.fieldPtr rfl (.tmp rfl) vnb_fi_49_4_4) rfl rfl (Nat.le_of_ble_eq_true rfl) trivial rfl ?_
      refine ADX.eff (tk := [4]) (new := []) (s := .one (.con undef)) (F := []) (Hin := [(4, .cells [.own 2 1 (0 + l.length), .own 3 1 (l.length * l.length), .own 11 1 (k + 1), .own 14 1 (k + 1), .own 8 1 k])]) (Hout := [(4, .cells [.own 2 1 (0 + l.length), .own 3 1 (l.length * l.length), .own 11 1 (k + 1), .own 14 1 (k + 1), .own 17 1 (k + 1)])]) (fun E X hE hX Q rest hk => ?_) ⟨rfl, trivial⟩ ⟨rfl, rfl⟩ rfl rfl rfl rfl trivial rfl (fun _ e => by cases e) ?_
      · refine ARun.store rfl (.tmp rfl) (.tmp rfl) trivial rfl (Nat.le_of_ble_eq_true rfl) vnb_sz_25_1 rfl rfl ?_
        refine ARun.hleX ?_ ?_ hk
        · exact HeapLe.one rfl trivial
        · repeat (first | exact LkX.refl | refine LkX.cons (hX.none rfl) ?_ | refine LkX.filter (hX.none rfl) ?_)
      refine ADX.nil (H := [(0, .cells [.con (.slice none 0 0), .con (.slice none 0 0), .con (.slice none 0 0), .con (.slice none 0 0), .con (.slice none 0 0)]), (2, .arr 1 (0 + l.length) (fun ia ja => if ia < 0 then (fun _ _ => .con undef : Nat → Nat → AV) ia ja else (fun i0 _ => .int .i64 (l.getD i0 0) : Nat → Nat → AV) (ia - 0) ja)), (3, .arr 1 (l.length * l.length) (fun _ j => ([.con (.slice none 0 0)] : List AV).getD j (.con undef))), (4, .cells [.own 2 1 (0 + l.length), .own 3 1 (l.length * l.length), .own 11 1 (k + 1), .own 14 1 (k + 1), .own 17 1 (k + 1)]), (7, .trees (k + 1) (bkH l.length)), (9, .trees (k + 1) (bkF l.length)), (10, .arr 1 1 (fun _ jc => ([.int .i64 (-1)] : List AV).getD jc (.con undef))), (11, .arr 1 (k + 1) (fun ia ja => if ia < k then (fun _ _ => .int .i64 (-1) : Nat → Nat → AV) ia ja else (fun _ jc => ([.int .i64 (-1)] : List AV).getD jc (.con undef) : Nat → Nat → AV) (ia - k) ja)), (13, .arr 1 1 (fun _ jc => ([.tre 7 k] : List AV).getD jc (.con undef))), (14, .arr 1 (k + 1) (fun ia ja => if ia < k then (fun i_ _ => .tre 7 i_ : Nat → Nat → AV) ia ja else (fun _ jc => ([.tre 7 k] : List AV).getD jc (.con undef) : Nat → Nat → AV) (ia - k) ja)), (16, .arr 1 1 (fun _ jc => ([.tre 9 k] : List AV).getD jc (.con undef))), (17, .arr 1 (k + 1) (fun ia ja => if ia < k then (fun i_ _ => .tre 9 i_ : Nat → Nat → AV) ia ja else (fun _ jc => ([.tre 9 k] : List AV).getD jc (.con undef) : Nat → Nat → AV) (ia - k) ja))]) ?_ ?_
      · exact HeapLe.one rfl (HeapLe.one rfl (HeapLe.one rfl (HeapLe.one rfl (HeapLe.one rfl (HeapLe.one rfl (HeapLe.one rfl (HeapLe.one rfl (HeapLe.one rfl (HeapLe.one rfl (HeapLe.one rfl (HeapLe.one rfl trivial)))))))))))
      refine AW.region ?_
      refine ARun.pure (PureOp.move rfl (.tmp rfl)) rfl rfl (Nat.le_of_ble_eq_true rfl) ?_
      refine ARun.pure (PureOp.add (c := ((k + 1 : Nat) : Int)) rfl (.tmp rfl) .int (by rw [wrap_id (by omega) (by omega)]; omega)) rfl rfl (Nat.le_of_ble_eq_true rfl) ?_
      refine ARun.pure (PureOp.assign rfl (.tmp rfl)) rfl rfl (Nat.le_of_ble_eq_true rfl) ?_
      refine ARun.nil ?_
      exact ⟨k + 1, (fun z => (fun z => (swp 5 11) ((swp 6 14) z)) ((swp 8 17) z)), (show k + 1 ≤ l.length from by omega), by dsimp only; omega, (comp_inj (comp_inj swp_inj swp_inj) swp_inj), (comp_fix (comp_fix (swp_fix rfl rfl) (swp_fix rfl rfl)) (swp_fix rfl rfl)), ⟨⟨⟨_, rfl, rfl⟩, ⟨_, rfl, rfl⟩, ⟨_, rfl, rfl⟩, ⟨_, rfl, rfl⟩, trivial⟩, ⟨⟨_, rfl, rfl, Nat.le_refl _, fun _ _ _ _ => rfl⟩, ⟨_, rfl, rfl, Nat.le_refl _, fun i j _ (hj : j < 1) => match j, hj with | 0, _ => rfl | _ + 1, h => absurd h (by omega)⟩, ⟨_, rfl, rfl, Nat.le_refl _, fun i j _ (hj : j < 1) => match j, hj with | 0, _ => rfl | _ + 1, h => absurd h (by omega)⟩, ⟨_, rfl, rfl, Nat.le_refl _, fun _ _ _ _ => rfl⟩, ⟨_, rfl, rfl, Nat.le_refl _, fun i j hi (hj : j < 1) => match j, hj with | 0, _ => app_at (show i < k + 1 from hi) (fun _ => rfl) (fun h => by subst h; rfl) | _ + 1, h => absurd h (by omega)⟩, ⟨_, rfl, rfl, Nat.le_refl _, fun i j hi (hj : j < 1) => match j, hj with | 0, _ => app_at (show i < k + 1 from hi) (fun _ => rfl) (fun h => by subst h; rfl) | _ + 1, h => absurd h (by omega)⟩, ⟨_, rfl, fun _ _ => rfl⟩, ⟨_, rfl, rfl, Nat.le_refl _, fun i j hi (hj : j < 1) => match j, hj with | 0, _ => app_at (show i < k + 1 from hi) (fun _ => rfl) (fun h => by subst h; rfl) | _ + 1, h => absurd h (by omega)⟩, ⟨_, rfl, fun _ _ => rfl⟩, trivial⟩⟩⟩
    · have _u := True.intro
      replace hb7 := of_decide_eq_false hb7
      have hkl : ¬ k < l.length := by omega
      have hke : k = l.length := by omega
      refine AW.exit ?_
      refine AW.seq ?_
      refine AW.region ?_
      refine ARun.pure (PureOp.loadPtrAgg rfl (.tmp rfl) vnb_ag_49_5 rfl rfl (Nat.le_of_ble_eq_true rfl) (Nat.le_of_ble_eq_true rfl)) rfl rfl (Nat.le_of_ble_eq_true rfl) ?_
      refine ARun.store rfl (.tmp rfl) (.tmp rfl) (SV.cells_of (by exact ⟨trivial, trivial, trivial, trivial, trivial, trivial⟩)) rfl (Nat.le_of_ble_eq_true rfl) vnb_sz_49_5 rfl rfl ?_
      refine ARun.pure (PureOp.assign rfl .bool) rfl rfl (Nat.le_of_ble_eq_true rfl) ?_
      refine ARun.nil ?_
      rw [show newBankV l = (newBankD l, true) from if_pos hc]
      exact AW.ret (show ∃ s t, ResL _ _ [.cell 2 49, .tmp 3] s ∧ TvS _ (ofLeaf t) 0 s _ from ⟨_, fun a b => if a = 2 then 0 else if a = 3 then 1 else if a = 5 then 2 else if a = 6 then 3 else if a = 7 then 3 else if a = 8 then 4 else if a = 9 then 4 else 1000, .inr (.inl ⟨_, _, _, _, rfl, .cells rfl vnb_ag_49_5 rfl rfl (Nat.le_of_ble_eq_true rfl) (Nat.le_of_ble_eq_true rfl), .tmp rfl, rfl⟩), ⟨⟨(Tv.flatN (Nat.zero_add _).symm rfl rfl rfl (Nat.le_refl _) (by rfl) (fun i j hi hj => by show (if i < 0 then AV.con undef else _) = _; exact app0) (fun i j hi hj => match j, hj with | 0, _ => rfl | _ + 1, h => absurd h (by omega))), (Tv.nilsN List.length_replicate rfl rfl rfl (Nat.le_refl _) (by rfl) (fun i hi => rfl) (fun i hi => ⟨1, _, by show AV.lst 1 (List.length ((List.replicate _ ([] : List Int)).getD i [])) _ = _; rw [getD_rep hi]; rfl⟩)), (Tv.flatN (List.length_replicate.trans hke.symm) rfl rfl rfl (Nat.le_refl _) (by rfl) (fun i j hi hj => match j, hj with | 0, _ => congrArg (AV.int .i64) (getD_rep (Nat.lt_of_lt_of_eq hi hke)).symm | _ + 1, h => absurd h (by omega)) (fun i j hi hj => match j, hj with | 0, _ => rfl | _ + 1, h => absurd h (by omega))), (Tv.colK (K := 7) (c := 0) (X := bkH l.length) (List.length_replicate.trans hke.symm) rfl rfl rfl (Nat.le_refl _) (by rfl) (fun i j hi hj hne => match j, hj, hne with | 0, _, h => absurd rfl h | _ + 1, h, _ => absurd h (by omega)) (fun i hi => ⟨rfl, by show bkH l.length i = AV.lst 1 (List.length ((List.replicate _ (List.replicate _ false)).getD i [])) (fun a _ => AV.bool (((List.replicate _ (List.replicate _ false)).getD i []).getD a false)); rw [getD_rep (Nat.lt_of_lt_of_eq hi hke)]; rfl⟩) rfl (by decide) (fun _ => by rfl)), (Tv.colK (K := 9) (c := 0) (X := bkF l.length) (List.length_replicate.trans hke.symm) rfl rfl rfl (Nat.le_refl _) (by rfl) (fun i j hi hj hne => match j, hj, hne with | 0, _, h => absurd rfl h | _ + 1, h, _ => absurd h (by omega)) (fun i hi => ⟨rfl, by show bkF l.length i = AV.lst 1 (List.length ((List.replicate _ (List.replicate _ (0 : Int))).getD i [])) (fun a _ => AV.int .i64 (((List.replicate _ (List.replicate _ (0 : Int))).getD i []).getD a 0)); rw [getD_rep (Nat.lt_of_lt_of_eq hi hke)]; rfl⟩) rfl (by decide) (fun _ => by rfl)), trivial⟩, .bool⟩⟩)
end Go.Proofs.Ytlbnodmebehpiaa


/-
  Marks.
-/
namespace Go.Proofs.Ytlbnodmebehpiaa
open Go.ChangeShapes Go.WideShapes Go.ChangeAt Go.RowKit Go.BigFrame Go.Deep
set_option linter.unusedVariables false
set_option linter.unusedSimpArgs false
theorem vq_ca_131 : callB Try.prog 131 = true := by kernel_rfl
theorem vq_ca_19 : callB Try.prog 19 = true := by kernel_rfl
theorem vq_ca_69 : callB Try.prog 69 = true := by kernel_rfl
theorem vq_ca_85 : callB Try.prog 85 = true := by kernel_rfl
theorem vq_el_107_1 : elemB Try.prog 107 1 = true := by kernel_rfl
theorem vq_el_22_1 : elemB Try.prog 22 1 = true := by kernel_rfl
theorem vq_el_25_1 : elemB Try.prog 25 1 = true := by kernel_rfl
theorem vq_el_47_1 : elemB Try.prog 47 1 = true := by kernel_rfl
theorem vq_fi_49_0_0 : fieldB Try.prog 49 0 0 = true := by kernel_rfl
theorem vq_fi_49_1_1 : fieldB Try.prog 49 1 1 = true := by kernel_rfl
theorem vq_fi_49_2_2 : fieldB Try.prog 49 2 2 = true := by kernel_rfl
theorem vq_fi_49_3_3 : fieldB Try.prog 49 3 3 = true := by kernel_rfl
theorem vq_fi_49_4_4 : fieldB Try.prog 49 4 4 = true := by kernel_rfl
theorem vq_pl_107 : plainB Try.prog 107 = true := by kernel_rfl
theorem vq_pl_22 : plainB Try.prog 22 = true := by kernel_rfl
theorem vq_pl_25 : plainB Try.prog 25 = true := by kernel_rfl
theorem vq_pl_47 : plainB Try.prog 47 = true := by kernel_rfl
theorem vq_sl_107 : sliceB Try.prog 107 = true := by kernel_rfl
theorem vq_sl_22 : sliceB Try.prog 22 = true := by kernel_rfl
theorem vq_sl_25 : sliceB Try.prog 25 = true := by kernel_rfl
theorem vq_sl_47 : sliceB Try.prog 47 = true := by kernel_rfl
theorem vq_sz_3_1 : sizeB Try.prog 3 1 = true := by kernel_rfl
theorem vq_sz_4_1 : sizeB Try.prog 4 1 = true := by kernel_rfl
theorem g_markIntS (x : List Int) (a : Nat) (ha : 0 < a ∧ a + ctL c1 x ≤ 900000000) : FnG Try.prog 19 [.one (.own 1000000 1 x.length), .one (.int .i64 (a : Int))] [(1000000, .arr 1 x.length (fun i j => nmA 1000001 (i * 1 + j) (ceInt (x.getD i (0 : Int)) j))), (1000001, .trees (x.length * 1) (fun _ => .int .i64 0))] (.one (.int .i64 ((a + ctL c1 x : Nat) : Int))) [(1000000, .arr 1 x.length (fun i j => nmA 1000001 (i * 1 + j) (ceInt ((mkL c1 mkI x a).getD i (0 : Int)) j))), (1000001, .trees (x.length * 1) (fun _ => .int .i64 0))] := by
  obtain ⟨ha0, ha1⟩ := ha
  refine FnG.of_body (fn := Try.f19) Try.func19 rfl (Nat.le_of_ble_eq_true rfl) ?_
  intro w0
  show AW _ 19 _ _ _ _
  refine AW.boundO (t := 0) rfl fun hx => ?_
  refine AW.seq ?_
  refine AW.region ?_
  refine ARun.pure (PureOp.assign rfl .int) rfl rfl (Nat.le_of_ble_eq_true rfl) ?_
  refine ARun.nil ?_
  refine AW.seq ?_
  refine AW.seq ?_
  refine AW.region ?_
  refine ARun.pure (PureOp.assign rfl .int) rfl rfl (Nat.le_of_ble_eq_true rfl) ?_
  refine ARun.nil ?_
  refine AW.block ?_
  refine AW.loop (ι := Nat) (fun k => ⟨[(0, .one (.own 1000000 1 x.length)), (1, .one (.int .i64 ((a + ((x.take k).map c1).sum : Nat) : Int))), (5, .one (.int .i64 (k : Int)))], [(1000000, .arr 1 x.length (fun i j => nmA 1000001 (i * 1 + j) (ceInt ((mixL c1 mkI x a k).getD i (0 : Int)) j))), (1000001, .trees (x.length * 1) (fun _ => .int .i64 0))]⟩) (fun k => k ≤ x.length) (fun k => x.length - k) 0 (Nat.zero_le _) ⟨⟨⟨_, rfl, rfl⟩, ⟨_, rfl, by simp⟩, ⟨_, rfl, rfl⟩, trivial⟩, ⟨⟨_, rfl, rfl, Nat.le_refl _, fun i j _ _ => by rw [mix_zero]⟩, ⟨_, rfl, fun _ _ => rfl⟩, trivial⟩⟩ ?_
  intro k hk
  refine AW.seq ?_
  refine AW.seq ?_
  refine AW.region ?_
  refine ARun.pure (PureOp.move rfl (.tmp rfl)) rfl rfl (Nat.le_of_ble_eq_true rfl) ?_
  refine ARun.pure (PureOp.move rfl (.tmp rfl)) rfl rfl (Nat.le_of_ble_eq_true rfl) ?_
  refine ARun.pure (PureOp.lenOwn rfl (.tmp rfl) vq_sl_22) rfl rfl (Nat.le_of_ble_eq_true rfl) ?_
  refine ARun.pure (PureOp.intOp rfl (.tmp rfl) (.tmp rfl) rfl) rfl rfl (Nat.le_of_ble_eq_true rfl) ?_
  refine ARun.nil ?_
  refine AW.cond (.tmp rfl) (fun hb1 => ?_) (fun hb1 => ?_)
  · have _u := True.intro
    replace hb1 := of_decide_eq_true hb1
    have hkl : k < x.length := by omega
    obtain ⟨hst, hsm⟩ := ct_step (ct := c1) (0 : Int) hkl
    have hce : c1 (x.getD k (0 : Int)) = 1 := rfl
    refine AW.skip ?_
    refine AW.seq ?_
    refine AW.block ?_
    refine AW.seq ?_
    refine AW.region ?_
    refine ARun.pure (PureOp.move rfl (.tmp rfl)) rfl rfl (Nat.le_of_ble_eq_true rfl) ?_
    refine ARun.pure (PureOp.move rfl (.tmp rfl)) rfl rfl (Nat.le_of_ble_eq_true rfl) ?_
    refine ARun.pure (PureOp.move rfl (.tmp rfl)) rfl rfl (Nat.le_of_ble_eq_true rfl) ?_
    refine ARun.pure (PureOp.indexOwn (i := k) rfl (.tmp rfl) vq_el_22_1 (.tmp rfl) rfl (by omega)) rfl rfl (Nat.le_of_ble_eq_true rfl) ?_
    refine ARun.storeElem rfl (.tmp rfl) (.tmp rfl) trivial rfl (show k < x.length from by omega) rfl vq_sz_3_1 rfl rfl ?_
    refine ARun.nil ?_
    refine AW.region ?_
    refine ARun.pure (PureOp.move rfl (.tmp rfl)) rfl rfl (Nat.le_of_ble_eq_true rfl) ?_
    refine ARun.pure (PureOp.add (c := ((a + ((x.take k).map c1).sum + 1 : Nat) : Int)) rfl (.tmp rfl) .int (by rw [wrap_id (by omega) (by omega)]; omega)) rfl rfl (Nat.le_of_ble_eq_true rfl) ?_
    refine ARun.pure (PureOp.assign rfl (.tmp rfl)) rfl rfl (Nat.le_of_ble_eq_true rfl) ?_
    refine ARun.nil ?_
    refine AW.region ?_
    refine ARun.pure (PureOp.move rfl (.tmp rfl)) rfl rfl (Nat.le_of_ble_eq_true rfl) ?_
    refine ARun.pure (PureOp.add (c := ((k + 1 : Nat) : Int)) rfl (.tmp rfl) .int (by rw [wrap_id (by omega) (by omega)]; omega)) rfl rfl (Nat.le_of_ble_eq_true rfl) ?_
    refine ARun.pure (PureOp.assign rfl (.tmp rfl)) rfl rfl (Nat.le_of_ble_eq_true rfl) ?_
    refine ARun.nil ?_
    exact ⟨k + 1, by omega, by dsimp only; omega, ⟨⟨⟨_, rfl, rfl⟩, ⟨_, rfl, congrArg (fun z : Nat => SV.one (.int .i64 (z : Int))) (by omega)⟩, ⟨_, rfl, rfl⟩, trivial⟩, ⟨⟨_, rfl, rfl, Nat.le_refl _, fun i j hi (hj : j < 1) => by
      by_cases h : i = k
      · subst h; simp only [AObj.f, true_and, mix_new (0 : Int) hkl]; exact (match j, hj with | 0, _ => rfl | _ + 1, h => absurd h (by omega))
      · simp only [AObj.f, h, false_and, if_false, mix_old (0 : Int) hkl h]⟩, ⟨_, rfl, fun _ _ => rfl⟩, trivial⟩⟩⟩
  · have _u := True.intro
    replace hb1 := of_decide_eq_false hb1
    have hkl : ¬ k < x.length := by omega
    refine AW.exit ?_
    refine AW.seq ?_
    refine AW.region ?_
    refine ARun.pure (PureOp.move rfl (.tmp rfl)) rfl rfl (Nat.le_of_ble_eq_true rfl) ?_
    refine ARun.pure (PureOp.assign rfl (.tmp rfl)) rfl rfl (Nat.le_of_ble_eq_true rfl) ?_
    refine ARun.nil ?_
    refine AW.ret (show ResL _ _ [.tmp 4] _ ∧ HeapLe _ _ from ⟨resI rfl ?_, ⟨⟨_, rfl, rfl, Nat.le_refl _, fun i j _ _ => by rw [mix_all hkl]⟩, ⟨_, rfl, fun _ _ => rfl⟩, trivial⟩⟩)
    rw [show ctL c1 x = _ from (ct_end hkl).symm]

theorem m_IntS (x : List Int) (a : Nat) (ha : 0 < a ∧ a + ctL c1 x ≤ 900000000) : FnM Try.prog 19 (.one (.lst 1 x.length (fun i0 _ => .int .i64 (x.getD i0 0)))) [.one (.int .i64 (a : Int))] (.one (.int .i64 ((a + ctL c1 x : Nat) : Int))) (.one (.lst 1 ((mkL c1 mkI x a).length) (fun i0 _ => .int .i64 ((mkL c1 mkI x a).getD i0 0)))) := by
  have h := FnM.ofRow (r := .one (.int .i64 ((a + ctL c1 x : Nat) : Int))) (args := [.one (.int .i64 (a : Int))]) (g := fun i j => ceInt (x.getD i (0 : Int)) j) (g' := fun i j => ceInt ((mkL c1 mkI x a).getD i (0 : Int)) j) trivial (fun s hs => by simp only [List.mem_singleton] at hs; subst hs; trivial) (by decide) (fun i j hi hj => ⟨rfl, match j, hj with | 0, _ => rfl | _ + 1, h => absurd h (by omega)⟩) (fun i j hi hj => ⟨rfl, match j, hj with | 0, _ => fun h => by cases h | _ + 1, h => absurd h (by omega)⟩) (fun i j hi hj => match j, hj with | 0, _ => rfl | _ + 1, h => absurd h (by omega)) (g_markIntS x a ha)
  have hl : (mkL c1 mkI x a).length = x.length := mkL_len
  show FnM _ _ _ _ _ (.one (.lst 1 (mkL c1 mkI x a).length (fun i j => ceInt ((mkL c1 mkI x a).getD i (0 : Int)) j)))
  rw [hl]; exact h

theorem g_markIntSS (x : List (List Int)) (a : Nat) (ha : 0 < a ∧ a + ctL (ctL c1) x ≤ 900000000) : FnG Try.prog 69 [.one (.own 1000000 1 x.length), .one (.int .i64 (a : Int))] [(1000000, .arr 1 x.length (fun i j => nmA 1000001 (i * 1 + j) (ceIntS (x.getD i ([] : List Int)) j))), (1000001, .trees (x.length * 1) (famX 1 (fun i j => lonly (ceIntS (x.getD i ([] : List Int)) j))))] (.one (.int .i64 ((a + ctL (ctL c1) x : Nat) : Int))) [(1000000, .arr 1 x.length (fun i j => nmA 1000001 (i * 1 + j) (ceIntS ((mkL (ctL c1) (mkL c1 mkI) x a).getD i ([] : List Int)) j))), (1000001, .trees (x.length * 1) (famX 1 (fun i j => lonly (ceIntS ((mkL (ctL c1) (mkL c1 mkI) x a).getD i ([] : List Int)) j))))] := by
  obtain ⟨ha0, ha1⟩ := ha
  refine FnG.of_body (fn := Try.f69) Try.func69 rfl (Nat.le_of_ble_eq_true rfl) ?_
  intro w0
  show AW _ 19 _ _ _ _
  refine AW.boundO (t := 0) rfl fun hx => ?_
  refine AW.seq ?_
  refine AW.region ?_
  refine ARun.pure (PureOp.assign rfl .int) rfl rfl (Nat.le_of_ble_eq_true rfl) ?_
  refine ARun.nil ?_
  refine AW.seq ?_
  refine AW.seq ?_
  refine AW.region ?_
  refine ARun.pure (PureOp.assign rfl .int) rfl rfl (Nat.le_of_ble_eq_true rfl) ?_
  refine ARun.nil ?_
  refine AW.block ?_
  refine AW.loop (ι := Nat) (fun k => ⟨[(0, .one (.own 1000000 1 x.length)), (1, .one (.int .i64 ((a + ((x.take k).map (ctL c1)).sum : Nat) : Int))), (5, .one (.int .i64 (k : Int)))], [(1000000, .arr 1 x.length (fun i j => nmA 1000001 (i * 1 + j) (ceIntS ((mixL (ctL c1) (mkL c1 mkI) x a k).getD i ([] : List Int)) j))), (1000001, .trees (x.length * 1) (famX 1 (fun i j => lonly (ceIntS ((mixL (ctL c1) (mkL c1 mkI) x a k).getD i ([] : List Int)) j))))]⟩) (fun k => k ≤ x.length) (fun k => x.length - k) 0 (Nat.zero_le _) ⟨⟨⟨_, rfl, rfl⟩, ⟨_, rfl, by simp⟩, ⟨_, rfl, rfl⟩, trivial⟩, ⟨⟨_, rfl, rfl, Nat.le_refl _, fun i j _ _ => by rw [mix_zero]⟩, ⟨_, rfl, fun q _ => by rw [mix_zero]⟩, trivial⟩⟩ ?_
  intro k hk
  refine AW.seq ?_
  refine AW.seq ?_
  refine AW.region ?_
  refine ARun.pure (PureOp.move rfl (.tmp rfl)) rfl rfl (Nat.le_of_ble_eq_true rfl) ?_
  refine ARun.pure (PureOp.move rfl (.tmp rfl)) rfl rfl (Nat.le_of_ble_eq_true rfl) ?_
  refine ARun.pure (PureOp.lenOwn rfl (.tmp rfl) vq_sl_25) rfl rfl (Nat.le_of_ble_eq_true rfl) ?_
  refine ARun.pure (PureOp.intOp rfl (.tmp rfl) (.tmp rfl) rfl) rfl rfl (Nat.le_of_ble_eq_true rfl) ?_
  refine ARun.nil ?_
  refine AW.cond (.tmp rfl) (fun hb1 => ?_) (fun hb1 => ?_)
  · have _u := True.intro
    replace hb1 := of_decide_eq_true hb1
    have hkl : k < x.length := by omega
    obtain ⟨hst, hsm⟩ := ct_step (ct := (ctL c1)) ([] : List Int) hkl
    refine AW.skip ?_
    refine AW.seq ?_
    refine AW.block ?_
    refine AW.region ?_
    refine ARun.pure (PureOp.move rfl (.tmp rfl)) rfl rfl (Nat.le_of_ble_eq_true rfl) ?_
    refine ARun.pure (PureOp.move rfl (.tmp rfl)) rfl rfl (Nat.le_of_ble_eq_true rfl) ?_
    refine ARun.pure (PureOp.indexOwn (i := k) rfl (.tmp rfl) vq_el_25_1 (.tmp rfl) rfl (by omega)) rfl rfl (Nat.le_of_ble_eq_true rfl) ?_
    refine ARun.pure (PureOp.loadPtr rfl (.tmp rfl) vq_pl_22 rfl rfl (show k < x.length from by omega) (Nat.le_of_ble_eq_true rfl)) rfl rfl (Nat.le_of_ble_eq_true rfl) ?_
    refine ARun.pure (PureOp.move rfl (.tmp rfl)) rfl rfl (Nat.le_of_ble_eq_true rfl) ?_
    refine ARun.mark (id := 1000001) (q0 := k * 1 + 0) (X' := fun q => if q = k * 1 + 0 then .lst 1 ((mkL c1 mkI (x.getD k []) (a + ((x.take k).map (ctL c1)).sum)).length) (fun i0 _ => .int .i64 ((mkL c1 mkI (x.getD k []) (a + ((x.take k).map (ctL c1)).sum)).getD i0 0)) else (famX 1 (fun i j => lonly (ceIntS ((mixL (ctL c1) (mkL c1 mkI) x a k).getD i ([] : List Int)) j))) q) rfl (m_IntS (x.getD k []) (a + ((x.take k).map (ctL c1)).sum) ⟨by omega, by omega⟩) vq_ca_19 trivial (.tmp rfl) rfl rfl rfl (cell_lt (sz := 1) (j := 0) hkl (by decide)) (fun p hp _ => match p, hp with | 0, _ => (by show (famX 1 (fun i j => lonly (ceIntS ((mixL (ctL c1) (mkL c1 mkI) x a k).getD i ([] : List Int)) j))) (k * 1 + 0) = _; (try dsimp only); (repeat rw [if_neg (by omega)]); rw [famX_at (sz := 1) (j := 0) (by decide), mix_at ([] : List Int) hkl]; rfl) | _ + 1, h => absurd h (by simp [SV.leaves])) rfl trivial (fun p hp _ => match p, hp with | 0, _ => if_pos rfl | _ + 1, h => absurd h (by simp [SV.leaves])) (fun q _ hne => if_neg (fun e => hne 0 (Nat.zero_lt_one) rfl e)) ⟨(.tmp rfl), trivial, trivial⟩ rfl rfl (Nat.le_of_ble_eq_true rfl) ?_
    refine ARun.pure (PureOp.assign rfl (.tmp rfl)) rfl rfl (Nat.le_of_ble_eq_true rfl) ?_
    refine ARun.nil ?_
    refine AW.region ?_
    refine ARun.pure (PureOp.move rfl (.tmp rfl)) rfl rfl (Nat.le_of_ble_eq_true rfl) ?_
    refine ARun.pure (PureOp.add (c := ((k + 1 : Nat) : Int)) rfl (.tmp rfl) .int (by rw [wrap_id (by omega) (by omega)]; omega)) rfl rfl (Nat.le_of_ble_eq_true rfl) ?_
    refine ARun.pure (PureOp.assign rfl (.tmp rfl)) rfl rfl (Nat.le_of_ble_eq_true rfl) ?_
    refine ARun.nil ?_
    exact ⟨k + 1, by omega, by dsimp only; omega, ⟨⟨⟨_, rfl, rfl⟩, ⟨_, rfl, congrArg (fun z : Nat => SV.one (.int .i64 (z : Int))) (by omega)⟩, ⟨_, rfl, rfl⟩, trivial⟩, ⟨⟨_, rfl, rfl, Nat.le_refl _, fun i j hi (hj : j < 1) => by
      by_cases h : i = k
      · subst h; simp only [AObj.f, true_and, mix_new ([] : List Int) hkl]; exact (match j, hj with | 0, _ => rfl | _ + 1, h => absurd h (by omega))
      · simp only [AObj.f, h, false_and, if_false, mix_old ([] : List Int) hkl h]⟩, ⟨_, rfl, fun q hq => famX_ext (X := fun q => if q = k * 1 + 0 then .lst 1 ((mkL c1 mkI (x.getD k []) (a + ((x.take k).map (ctL c1)).sum)).length) (fun i0 _ => .int .i64 ((mkL c1 mkI (x.getD k []) (a + ((x.take k).map (ctL c1)).sum)).getD i0 0)) else (famX 1 (fun i j => lonly (ceIntS ((mixL (ctL c1) (mkL c1 mkI) x a k).getD i ([] : List Int)) j))) q) (g := fun i j => lonly (ceIntS ((mixL (ctL c1) (mkL c1 mkI) x a (k + 1)).getD i ([] : List Int)) j)) (by decide) (fun i j hi (hj : j < 1) => by
      (try dsimp only)
      by_cases h : i = k
      · subst h; rw [upd_at hj (show 0 < 1 by decide)]; simp only [famX_at hj, true_and, mix_new ([] : List Int) hkl, mix_at ([] : List Int) hkl]; exact (match j, hj with | 0, _ => rfl | _ + 1, h => absurd h (by omega))
      · rw [upd_at hj (show 0 < 1 by decide)]; simp only [famX_at hj, h, false_and, if_false, mix_old ([] : List Int) hkl h]) q hq⟩, trivial⟩⟩⟩
  · have _u := True.intro
    replace hb1 := of_decide_eq_false hb1
    have hkl : ¬ k < x.length := by omega
    refine AW.exit ?_
    refine AW.seq ?_
    refine AW.region ?_
    refine ARun.pure (PureOp.move rfl (.tmp rfl)) rfl rfl (Nat.le_of_ble_eq_true rfl) ?_
    refine ARun.pure (PureOp.assign rfl (.tmp rfl)) rfl rfl (Nat.le_of_ble_eq_true rfl) ?_
    refine ARun.nil ?_
    refine AW.ret (show ResL _ _ [.tmp 4] _ ∧ HeapLe _ _ from ⟨resI rfl ?_, ⟨⟨_, rfl, rfl, Nat.le_refl _, fun i j _ _ => by rw [mix_all hkl]⟩, ⟨_, rfl, fun q _ => by rw [mix_all hkl]⟩, trivial⟩⟩)
    rw [show ctL (ctL c1) x = _ from (ct_end hkl).symm]

theorem m_IntSS (x : List (List Int)) (a : Nat) (ha : 0 < a ∧ a + ctL (ctL c1) x ≤ 900000000) : FnM Try.prog 69 (.one (.lst 1 x.length (fun i0 _ => .lst 1 ((x.getD i0 []).length) (fun i1 _ => .int .i64 ((x.getD i0 []).getD i1 0))))) [.one (.int .i64 (a : Int))] (.one (.int .i64 ((a + ctL (ctL c1) x : Nat) : Int))) (.one (.lst 1 ((mkL (ctL c1) (mkL c1 mkI) x a).length) (fun i0 _ => .lst 1 (((mkL (ctL c1) (mkL c1 mkI) x a).getD i0 []).length) (fun i1 _ => .int .i64 (((mkL (ctL c1) (mkL c1 mkI) x a).getD i0 []).getD i1 0))))) := by
  have h := FnM.ofRow (r := .one (.int .i64 ((a + ctL (ctL c1) x : Nat) : Int))) (args := [.one (.int .i64 (a : Int))]) (g := fun i j => ceIntS (x.getD i ([] : List Int)) j) (g' := fun i j => ceIntS ((mkL (ctL c1) (mkL c1 mkI) x a).getD i ([] : List Int)) j) trivial (fun s hs => by simp only [List.mem_singleton] at hs; subst hs; trivial) (by decide) (fun i j hi hj => ⟨rfl, famX_at hj⟩) (fun i j hi hj => ⟨rfl, fun h => (famX_at hj).trans (lonly_L h)⟩) (fun i j hi hj => match j, hj with | 0, _ => rfl | _ + 1, h => absurd h (by omega)) (g_markIntSS x a ha)
  have hl : (mkL (ctL c1) (mkL c1 mkI) x a).length = x.length := mkL_len
  show FnM _ _ _ _ _ (.one (.lst 1 (mkL (ctL c1) (mkL c1 mkI) x a).length (fun i j => ceIntS ((mkL (ctL c1) (mkL c1 mkI) x a).getD i ([] : List Int)) j)))
  rw [hl]; exact h

theorem g_markBoolS (x : List Bool) (a : Nat) (ha : 0 < a ∧ a + ctL c1 x ≤ 900000000) : FnG Try.prog 131 [.one (.own 1000000 1 x.length), .one (.int .i64 (a : Int))] [(1000000, .arr 1 x.length (fun i j => nmA 1000001 (i * 1 + j) (ceBool (x.getD i (false : Bool)) j))), (1000001, .trees (x.length * 1) (fun _ => .int .i64 0))] (.one (.int .i64 ((a + ctL c1 x : Nat) : Int))) [(1000000, .arr 1 x.length (fun i j => nmA 1000001 (i * 1 + j) (ceBool ((mkL c1 mkB x a).getD i (false : Bool)) j))), (1000001, .trees (x.length * 1) (fun _ => .int .i64 0))] := by
  obtain ⟨ha0, ha1⟩ := ha
  refine FnG.of_body (fn := Try.f131) Try.func131 rfl (Nat.le_of_ble_eq_true rfl) ?_
  intro w0
  show AW _ 21 _ _ _ _
  refine AW.boundO (t := 0) rfl fun hx => ?_
  refine AW.seq ?_
  refine AW.region ?_
  refine ARun.pure (PureOp.assign rfl .int) rfl rfl (Nat.le_of_ble_eq_true rfl) ?_
  refine ARun.nil ?_
  refine AW.seq ?_
  refine AW.seq ?_
  refine AW.region ?_
  refine ARun.pure (PureOp.assign rfl .int) rfl rfl (Nat.le_of_ble_eq_true rfl) ?_
  refine ARun.nil ?_
  refine AW.block ?_
  refine AW.loop (ι := Nat) (fun k => ⟨[(0, .one (.own 1000000 1 x.length)), (1, .one (.int .i64 ((a + ((x.take k).map c1).sum : Nat) : Int))), (5, .one (.int .i64 (k : Int)))], [(1000000, .arr 1 x.length (fun i j => nmA 1000001 (i * 1 + j) (ceBool ((mixL c1 mkB x a k).getD i (false : Bool)) j))), (1000001, .trees (x.length * 1) (fun _ => .int .i64 0))]⟩) (fun k => k ≤ x.length) (fun k => x.length - k) 0 (Nat.zero_le _) ⟨⟨⟨_, rfl, rfl⟩, ⟨_, rfl, by simp⟩, ⟨_, rfl, rfl⟩, trivial⟩, ⟨⟨_, rfl, rfl, Nat.le_refl _, fun i j _ _ => by rw [mix_zero]⟩, ⟨_, rfl, fun _ _ => rfl⟩, trivial⟩⟩ ?_
  intro k hk
  refine AW.seq ?_
  refine AW.seq ?_
  refine AW.region ?_
  refine ARun.pure (PureOp.move rfl (.tmp rfl)) rfl rfl (Nat.le_of_ble_eq_true rfl) ?_
  refine ARun.pure (PureOp.move rfl (.tmp rfl)) rfl rfl (Nat.le_of_ble_eq_true rfl) ?_
  refine ARun.pure (PureOp.lenOwn rfl (.tmp rfl) vq_sl_107) rfl rfl (Nat.le_of_ble_eq_true rfl) ?_
  refine ARun.pure (PureOp.intOp rfl (.tmp rfl) (.tmp rfl) rfl) rfl rfl (Nat.le_of_ble_eq_true rfl) ?_
  refine ARun.nil ?_
  refine AW.cond (.tmp rfl) (fun hb1 => ?_) (fun hb1 => ?_)
  · have _u := True.intro
    replace hb1 := of_decide_eq_true hb1
    have hkl : k < x.length := by omega
    obtain ⟨hst, hsm⟩ := ct_step (ct := c1) (false : Bool) hkl
    have hce : c1 (x.getD k (false : Bool)) = 1 := rfl
    refine AW.skip ?_
    refine AW.seq ?_
    refine AW.block ?_
    refine AW.seq ?_
    refine AW.region ?_
    refine ARun.pure (PureOp.move rfl (.tmp rfl)) rfl rfl (Nat.le_of_ble_eq_true rfl) ?_
    refine ARun.pure (PureOp.move rfl (.tmp rfl)) rfl rfl (Nat.le_of_ble_eq_true rfl) ?_
    refine ARun.pure (PureOp.move rfl (.tmp rfl)) rfl rfl (Nat.le_of_ble_eq_true rfl) ?_
    refine ARun.pure (PureOp.rem (a := a + ((x.take k).map c1).sum) (b := 3) rfl (.tmp rfl) .int rfl (by decide) (by omega)) rfl rfl (Nat.le_of_ble_eq_true rfl) ?_
    refine ARun.pure (PureOp.intOp rfl (.tmp rfl) .int rfl) rfl rfl (Nat.le_of_ble_eq_true rfl) ?_
    refine ARun.pure (PureOp.indexOwn (i := k) rfl (.tmp rfl) vq_el_107_1 (.tmp rfl) rfl (by omega)) rfl rfl (Nat.le_of_ble_eq_true rfl) ?_
    refine ARun.storeElem rfl (.tmp rfl) (.tmp rfl) trivial rfl (show k < x.length from by omega) rfl vq_sz_4_1 rfl rfl ?_
    refine ARun.nil ?_
    refine AW.region ?_
    refine ARun.pure (PureOp.move rfl (.tmp rfl)) rfl rfl (Nat.le_of_ble_eq_true rfl) ?_
    refine ARun.pure (PureOp.add (c := ((a + ((x.take k).map c1).sum + 1 : Nat) : Int)) rfl (.tmp rfl) .int (by rw [wrap_id (by omega) (by omega)]; omega)) rfl rfl (Nat.le_of_ble_eq_true rfl) ?_
    refine ARun.pure (PureOp.assign rfl (.tmp rfl)) rfl rfl (Nat.le_of_ble_eq_true rfl) ?_
    refine ARun.nil ?_
    refine AW.region ?_
    refine ARun.pure (PureOp.move rfl (.tmp rfl)) rfl rfl (Nat.le_of_ble_eq_true rfl) ?_
    refine ARun.pure (PureOp.add (c := ((k + 1 : Nat) : Int)) rfl (.tmp rfl) .int (by rw [wrap_id (by omega) (by omega)]; omega)) rfl rfl (Nat.le_of_ble_eq_true rfl) ?_
    refine ARun.pure (PureOp.assign rfl (.tmp rfl)) rfl rfl (Nat.le_of_ble_eq_true rfl) ?_
    refine ARun.nil ?_
    exact ⟨k + 1, by omega, by dsimp only; omega, ⟨⟨⟨_, rfl, rfl⟩, ⟨_, rfl, congrArg (fun z : Nat => SV.one (.int .i64 (z : Int))) (by omega)⟩, ⟨_, rfl, rfl⟩, trivial⟩, ⟨⟨_, rfl, rfl, Nat.le_refl _, fun i j hi (hj : j < 1) => by
      by_cases h : i = k
      · subst h; simp only [AObj.f, true_and, mix_new (false : Bool) hkl]; exact (match j, hj with | 0, _ => rfl | _ + 1, h => absurd h (by omega))
      · simp only [AObj.f, h, false_and, if_false, mix_old (false : Bool) hkl h]⟩, ⟨_, rfl, fun _ _ => rfl⟩, trivial⟩⟩⟩
  · have _u := True.intro
    replace hb1 := of_decide_eq_false hb1
    have hkl : ¬ k < x.length := by omega
    refine AW.exit ?_
    refine AW.seq ?_
    refine AW.region ?_
    refine ARun.pure (PureOp.move rfl (.tmp rfl)) rfl rfl (Nat.le_of_ble_eq_true rfl) ?_
    refine ARun.pure (PureOp.assign rfl (.tmp rfl)) rfl rfl (Nat.le_of_ble_eq_true rfl) ?_
    refine ARun.nil ?_
    refine AW.ret (show ResL _ _ [.tmp 4] _ ∧ HeapLe _ _ from ⟨resI rfl ?_, ⟨⟨_, rfl, rfl, Nat.le_refl _, fun i j _ _ => by rw [mix_all hkl]⟩, ⟨_, rfl, fun _ _ => rfl⟩, trivial⟩⟩)
    rw [show ctL c1 x = _ from (ct_end hkl).symm]

theorem m_BoolS (x : List Bool) (a : Nat) (ha : 0 < a ∧ a + ctL c1 x ≤ 900000000) : FnM Try.prog 131 (.one (.lst 1 x.length (fun i0 _ => .bool (x.getD i0 false)))) [.one (.int .i64 (a : Int))] (.one (.int .i64 ((a + ctL c1 x : Nat) : Int))) (.one (.lst 1 ((mkL c1 mkB x a).length) (fun i0 _ => .bool ((mkL c1 mkB x a).getD i0 false)))) := by
  have h := FnM.ofRow (r := .one (.int .i64 ((a + ctL c1 x : Nat) : Int))) (args := [.one (.int .i64 (a : Int))]) (g := fun i j => ceBool (x.getD i (false : Bool)) j) (g' := fun i j => ceBool ((mkL c1 mkB x a).getD i (false : Bool)) j) trivial (fun s hs => by simp only [List.mem_singleton] at hs; subst hs; trivial) (by decide) (fun i j hi hj => ⟨rfl, match j, hj with | 0, _ => rfl | _ + 1, h => absurd h (by omega)⟩) (fun i j hi hj => ⟨rfl, match j, hj with | 0, _ => fun h => by cases h | _ + 1, h => absurd h (by omega)⟩) (fun i j hi hj => match j, hj with | 0, _ => rfl | _ + 1, h => absurd h (by omega)) (g_markBoolS x a ha)
  have hl : (mkL c1 mkB x a).length = x.length := mkL_len
  show FnM _ _ _ _ _ (.one (.lst 1 (mkL c1 mkB x a).length (fun i j => ceBool ((mkL c1 mkB x a).getD i (false : Bool)) j)))
  rw [hl]; exact h

theorem g_markBoolSS (x : List (List Bool)) (a : Nat) (ha : 0 < a ∧ a + ctL (ctL c1) x ≤ 900000000) : FnG Try.prog 85 [.one (.own 1000000 1 x.length), .one (.int .i64 (a : Int))] [(1000000, .arr 1 x.length (fun i j => nmA 1000001 (i * 1 + j) (ceBoolS (x.getD i ([] : List Bool)) j))), (1000001, .trees (x.length * 1) (famX 1 (fun i j => lonly (ceBoolS (x.getD i ([] : List Bool)) j))))] (.one (.int .i64 ((a + ctL (ctL c1) x : Nat) : Int))) [(1000000, .arr 1 x.length (fun i j => nmA 1000001 (i * 1 + j) (ceBoolS ((mkL (ctL c1) (mkL c1 mkB) x a).getD i ([] : List Bool)) j))), (1000001, .trees (x.length * 1) (famX 1 (fun i j => lonly (ceBoolS ((mkL (ctL c1) (mkL c1 mkB) x a).getD i ([] : List Bool)) j))))] := by
  obtain ⟨ha0, ha1⟩ := ha
  refine FnG.of_body (fn := Try.f85) Try.func85 rfl (Nat.le_of_ble_eq_true rfl) ?_
  intro w0
  show AW _ 19 _ _ _ _
  refine AW.boundO (t := 0) rfl fun hx => ?_
  refine AW.seq ?_
  refine AW.region ?_
  refine ARun.pure (PureOp.assign rfl .int) rfl rfl (Nat.le_of_ble_eq_true rfl) ?_
  refine ARun.nil ?_
  refine AW.seq ?_
  refine AW.seq ?_
  refine AW.region ?_
  refine ARun.pure (PureOp.assign rfl .int) rfl rfl (Nat.le_of_ble_eq_true rfl) ?_
  refine ARun.nil ?_
  refine AW.block ?_
  refine AW.loop (ι := Nat) (fun k => ⟨[(0, .one (.own 1000000 1 x.length)), (1, .one (.int .i64 ((a + ((x.take k).map (ctL c1)).sum : Nat) : Int))), (5, .one (.int .i64 (k : Int)))], [(1000000, .arr 1 x.length (fun i j => nmA 1000001 (i * 1 + j) (ceBoolS ((mixL (ctL c1) (mkL c1 mkB) x a k).getD i ([] : List Bool)) j))), (1000001, .trees (x.length * 1) (famX 1 (fun i j => lonly (ceBoolS ((mixL (ctL c1) (mkL c1 mkB) x a k).getD i ([] : List Bool)) j))))]⟩) (fun k => k ≤ x.length) (fun k => x.length - k) 0 (Nat.zero_le _) ⟨⟨⟨_, rfl, rfl⟩, ⟨_, rfl, by simp⟩, ⟨_, rfl, rfl⟩, trivial⟩, ⟨⟨_, rfl, rfl, Nat.le_refl _, fun i j _ _ => by rw [mix_zero]⟩, ⟨_, rfl, fun q _ => by rw [mix_zero]⟩, trivial⟩⟩ ?_
  intro k hk
  refine AW.seq ?_
  refine AW.seq ?_
  refine AW.region ?_
  refine ARun.pure (PureOp.move rfl (.tmp rfl)) rfl rfl (Nat.le_of_ble_eq_true rfl) ?_
  refine ARun.pure (PureOp.move rfl (.tmp rfl)) rfl rfl (Nat.le_of_ble_eq_true rfl) ?_
  refine ARun.pure (PureOp.lenOwn rfl (.tmp rfl) vq_sl_47) rfl rfl (Nat.le_of_ble_eq_true rfl) ?_
  refine ARun.pure (PureOp.intOp rfl (.tmp rfl) (.tmp rfl) rfl) rfl rfl (Nat.le_of_ble_eq_true rfl) ?_
  refine ARun.nil ?_
  refine AW.cond (.tmp rfl) (fun hb1 => ?_) (fun hb1 => ?_)
  · have _u := True.intro
    replace hb1 := of_decide_eq_true hb1
    have hkl : k < x.length := by omega
    obtain ⟨hst, hsm⟩ := ct_step (ct := (ctL c1)) ([] : List Bool) hkl
    refine AW.skip ?_
    refine AW.seq ?_
    refine AW.block ?_
    refine AW.region ?_
    refine ARun.pure (PureOp.move rfl (.tmp rfl)) rfl rfl (Nat.le_of_ble_eq_true rfl) ?_
    refine ARun.pure (PureOp.move rfl (.tmp rfl)) rfl rfl (Nat.le_of_ble_eq_true rfl) ?_
    refine ARun.pure (PureOp.indexOwn (i := k) rfl (.tmp rfl) vq_el_47_1 (.tmp rfl) rfl (by omega)) rfl rfl (Nat.le_of_ble_eq_true rfl) ?_
    refine ARun.pure (PureOp.loadPtr rfl (.tmp rfl) vq_pl_107 rfl rfl (show k < x.length from by omega) (Nat.le_of_ble_eq_true rfl)) rfl rfl (Nat.le_of_ble_eq_true rfl) ?_
    refine ARun.pure (PureOp.move rfl (.tmp rfl)) rfl rfl (Nat.le_of_ble_eq_true rfl) ?_
    refine ARun.mark (id := 1000001) (q0 := k * 1 + 0) (X' := fun q => if q = k * 1 + 0 then .lst 1 ((mkL c1 mkB (x.getD k []) (a + ((x.take k).map (ctL c1)).sum)).length) (fun i0 _ => .bool ((mkL c1 mkB (x.getD k []) (a + ((x.take k).map (ctL c1)).sum)).getD i0 false)) else (famX 1 (fun i j => lonly (ceBoolS ((mixL (ctL c1) (mkL c1 mkB) x a k).getD i ([] : List Bool)) j))) q) rfl (m_BoolS (x.getD k []) (a + ((x.take k).map (ctL c1)).sum) ⟨by omega, by omega⟩) vq_ca_131 trivial (.tmp rfl) rfl rfl rfl (cell_lt (sz := 1) (j := 0) hkl (by decide)) (fun p hp _ => match p, hp with | 0, _ => (by show (famX 1 (fun i j => lonly (ceBoolS ((mixL (ctL c1) (mkL c1 mkB) x a k).getD i ([] : List Bool)) j))) (k * 1 + 0) = _; (try dsimp only); (repeat rw [if_neg (by omega)]); rw [famX_at (sz := 1) (j := 0) (by decide), mix_at ([] : List Bool) hkl]; rfl) | _ + 1, h => absurd h (by simp [SV.leaves])) rfl trivial (fun p hp _ => match p, hp with | 0, _ => if_pos rfl | _ + 1, h => absurd h (by simp [SV.leaves])) (fun q _ hne => if_neg (fun e => hne 0 (Nat.zero_lt_one) rfl e)) ⟨(.tmp rfl), trivial, trivial⟩ rfl rfl (Nat.le_of_ble_eq_true rfl) ?_
    refine ARun.pure (PureOp.assign rfl (.tmp rfl)) rfl rfl (Nat.le_of_ble_eq_true rfl) ?_
    refine ARun.nil ?_
    refine AW.region ?_
    refine ARun.pure (PureOp.move rfl (.tmp rfl)) rfl rfl (Nat.le_of_ble_eq_true rfl) ?_
    refine ARun.pure (PureOp.add (c := ((k + 1 : Nat) : Int)) rfl (.tmp rfl) .int (by rw [wrap_id (by omega) (by omega)]; omega)) rfl rfl (Nat.le_of_ble_eq_true rfl) ?_
    refine ARun.pure (PureOp.assign rfl (.tmp rfl)) rfl rfl (Nat.le_of_ble_eq_true rfl) ?_
    refine ARun.nil ?_
    exact ⟨k + 1, by omega, by dsimp only; omega, ⟨⟨⟨_, rfl, rfl⟩, ⟨_, rfl, congrArg (fun z : Nat => SV.one (.int .i64 (z : Int))) (by omega)⟩, ⟨_, rfl, rfl⟩, trivial⟩, ⟨⟨_, rfl, rfl, Nat.le_refl _, fun i j hi (hj : j < 1) => by
      by_cases h : i = k
      · subst h; simp only [AObj.f, true_and, mix_new ([] : List Bool) hkl]; exact (match j, hj with | 0, _ => rfl | _ + 1, h => absurd h (by omega))
      · simp only [AObj.f, h, false_and, if_false, mix_old ([] : List Bool) hkl h]⟩, ⟨_, rfl, fun q hq => famX_ext (X := fun q => if q = k * 1 + 0 then .lst 1 ((mkL c1 mkB (x.getD k []) (a + ((x.take k).map (ctL c1)).sum)).length) (fun i0 _ => .bool ((mkL c1 mkB (x.getD k []) (a + ((x.take k).map (ctL c1)).sum)).getD i0 false)) else (famX 1 (fun i j => lonly (ceBoolS ((mixL (ctL c1) (mkL c1 mkB) x a k).getD i ([] : List Bool)) j))) q) (g := fun i j => lonly (ceBoolS ((mixL (ctL c1) (mkL c1 mkB) x a (k + 1)).getD i ([] : List Bool)) j)) (by decide) (fun i j hi (hj : j < 1) => by
      (try dsimp only)
      by_cases h : i = k
      · subst h; rw [upd_at hj (show 0 < 1 by decide)]; simp only [famX_at hj, true_and, mix_new ([] : List Bool) hkl, mix_at ([] : List Bool) hkl]; exact (match j, hj with | 0, _ => rfl | _ + 1, h => absurd h (by omega))
      · rw [upd_at hj (show 0 < 1 by decide)]; simp only [famX_at hj, h, false_and, if_false, mix_old ([] : List Bool) hkl h]) q hq⟩, trivial⟩⟩⟩
  · have _u := True.intro
    replace hb1 := of_decide_eq_false hb1
    have hkl : ¬ k < x.length := by omega
    refine AW.exit ?_
    refine AW.seq ?_
    refine AW.region ?_
    refine ARun.pure (PureOp.move rfl (.tmp rfl)) rfl rfl (Nat.le_of_ble_eq_true rfl) ?_
    refine ARun.pure (PureOp.assign rfl (.tmp rfl)) rfl rfl (Nat.le_of_ble_eq_true rfl) ?_
    refine ARun.nil ?_
    refine AW.ret (show ResL _ _ [.tmp 4] _ ∧ HeapLe _ _ from ⟨resI rfl ?_, ⟨⟨_, rfl, rfl, Nat.le_refl _, fun i j _ _ => by rw [mix_all hkl]⟩, ⟨_, rfl, fun q _ => by rw [mix_all hkl]⟩, trivial⟩⟩)
    rw [show ctL (ctL c1) x = _ from (ct_end hkl).symm]

theorem m_BoolSS (x : List (List Bool)) (a : Nat) (ha : 0 < a ∧ a + ctL (ctL c1) x ≤ 900000000) : FnM Try.prog 85 (.one (.lst 1 x.length (fun i0 _ => .lst 1 ((x.getD i0 []).length) (fun i1 _ => .bool ((x.getD i0 []).getD i1 false))))) [.one (.int .i64 (a : Int))] (.one (.int .i64 ((a + ctL (ctL c1) x : Nat) : Int))) (.one (.lst 1 ((mkL (ctL c1) (mkL c1 mkB) x a).length) (fun i0 _ => .lst 1 (((mkL (ctL c1) (mkL c1 mkB) x a).getD i0 []).length) (fun i1 _ => .bool (((mkL (ctL c1) (mkL c1 mkB) x a).getD i0 []).getD i1 false))))) := by
  have h := FnM.ofRow (r := .one (.int .i64 ((a + ctL (ctL c1) x : Nat) : Int))) (args := [.one (.int .i64 (a : Int))]) (g := fun i j => ceBoolS (x.getD i ([] : List Bool)) j) (g' := fun i j => ceBoolS ((mkL (ctL c1) (mkL c1 mkB) x a).getD i ([] : List Bool)) j) trivial (fun s hs => by simp only [List.mem_singleton] at hs; subst hs; trivial) (by decide) (fun i j hi hj => ⟨rfl, famX_at hj⟩) (fun i j hi hj => ⟨rfl, fun h => (famX_at hj).trans (lonly_L h)⟩) (fun i j hi hj => match j, hj with | 0, _ => rfl | _ + 1, h => absurd h (by omega)) (g_markBoolSS x a ha)
  have hl : (mkL (ctL c1) (mkL c1 mkB) x a).length = x.length := mkL_len
  show FnM _ _ _ _ _ (.one (.lst 1 (mkL (ctL c1) (mkL c1 mkB) x a).length (fun i j => ceBoolS ((mkL (ctL c1) (mkL c1 mkB) x a).getD i ([] : List Bool)) j)))
  rw [hl]; exact h

theorem g_markBank (x : GBank) (a : Nat) (ha : 0 < a ∧ a + cvBank x ≤ 900000000) : FnG Try.prog 31 [.agg [.tre 1000000 0, .tre 1000000 1, .tre 1000000 2, .tre 1000000 3, .tre 1000000 4], .one (.int .i64 (a : Int))] [(1000000, .trees 5 (fun p => ([.lst 1 x.cCoins.length (fun i0 _ => .int .i64 (x.cCoins.getD i0 0)), .lst 1 x.cWays.length (fun i0 _ => .lst 1 ((x.cWays.getD i0 []).length) (fun i1 _ => .int .i64 ((x.cWays.getD i0 []).getD i1 0))), .lst 1 x.cKept.length (fun i0 _ => .int .i64 (x.cKept.getD i0 0)), .lst 1 x.cHeard.length (fun i0 _ => .lst 1 ((x.cHeard.getD i0 []).length) (fun i1 _ => .bool ((x.cHeard.getD i0 []).getD i1 false))), .lst 1 x.cFound.length (fun i0 _ => .lst 1 ((x.cFound.getD i0 []).length) (fun i1 _ => .int .i64 ((x.cFound.getD i0 []).getD i1 0)))] : List AV).getD p (.con undef)))] (.one (.int .i64 ((a + cvBank x : Nat) : Int))) [(1000000, .trees 5 (fun p => ([.lst 1 (((mvBank x a).cCoins).length) (fun i0 _ => .int .i64 (((mvBank x a).cCoins).getD i0 0)), .lst 1 (((mvBank x a).cWays).length) (fun i0 _ => .lst 1 ((((mvBank x a).cWays).getD i0 []).length) (fun i1 _ => .int .i64 ((((mvBank x a).cWays).getD i0 []).getD i1 0))), .lst 1 (((mvBank x a).cKept).length) (fun i0 _ => .int .i64 (((mvBank x a).cKept).getD i0 0)), .lst 1 (((mvBank x a).cHeard).length) (fun i0 _ => .lst 1 ((((mvBank x a).cHeard).getD i0 []).length) (fun i1 _ => .bool ((((mvBank x a).cHeard).getD i0 []).getD i1 false))), .lst 1 (((mvBank x a).cFound).length) (fun i0 _ => .lst 1 ((((mvBank x a).cFound).getD i0 []).length) (fun i1 _ => .int .i64 ((((mvBank x a).cFound).getD i0 []).getD i1 0)))] : List AV).getD p (.con undef)))] := by
  obtain ⟨ha0, ha1⟩ := ha
  have hcv : cvBank x = 0 + ctL c1 (x.cCoins) + ctL (ctL c1) (x.cWays) + ctL c1 (x.cKept) + ctL (ctL c1) (x.cHeard) + ctL (ctL c1) (x.cFound) := rfl
  refine FnG.of_body (fn := Try.f31) Try.func31 rfl (Nat.le_of_ble_eq_true rfl) ?_
  intro w0
  show AW _ 26 _ _ _ _
  refine AW.seq ?_
  refine AW.region ?_
  refine ARun.box (id := 0) rfl (.tmp rfl) (SV.cells_of (by exact ⟨trivial, trivial, trivial, trivial, trivial, trivial⟩)) ⟨rfl, (by repeat first | exact trivial | refine ⟨by decide, by first | rfl | exact trivial | (intro i j; first | rfl | exact getD_no rfl | (dsimp only; split <;> first | rfl | exact getD_no rfl) | exact scl_no (by apply_assumption) _), ?_⟩)⟩ rfl rfl rfl (Nat.le_of_ble_eq_true rfl) ?_
  refine ARun.pure (PureOp.assign rfl .int) rfl rfl (Nat.le_of_ble_eq_true rfl) ?_
  refine ARun.nil ?_
  refine AW.seq ?_
  refine AW.region ?_
  refine ARun.pure (PureOp.fieldPtr rfl (.tmp rfl) vq_fi_49_0_0) rfl rfl (Nat.le_of_ble_eq_true rfl) ?_
  refine ARun.pure (PureOp.loadPtr rfl (.tmp rfl) vq_pl_22 rfl rfl (Nat.le_of_ble_eq_true rfl) (Nat.le_of_ble_eq_true rfl)) rfl rfl (Nat.le_of_ble_eq_true rfl) ?_
  refine ARun.pure (PureOp.move rfl (.tmp rfl)) rfl rfl (Nat.le_of_ble_eq_true rfl) ?_
  refine ARun.mark (id := 1000000) (q0 := 0) (X' := fun q => if q = 0 then .lst 1 ((mkL c1 mkI x.cCoins a).length) (fun i0 _ => .int .i64 ((mkL c1 mkI x.cCoins a).getD i0 0)) else (fun p => ([.lst 1 x.cCoins.length (fun i0 _ => .int .i64 (x.cCoins.getD i0 0)), .lst 1 x.cWays.length (fun i0 _ => .lst 1 ((x.cWays.getD i0 []).length) (fun i1 _ => .int .i64 ((x.cWays.getD i0 []).getD i1 0))), .lst 1 x.cKept.length (fun i0 _ => .int .i64 (x.cKept.getD i0 0)), .lst 1 x.cHeard.length (fun i0 _ => .lst 1 ((x.cHeard.getD i0 []).length) (fun i1 _ => .bool ((x.cHeard.getD i0 []).getD i1 false))), .lst 1 x.cFound.length (fun i0 _ => .lst 1 ((x.cFound.getD i0 []).length) (fun i1 _ => .int .i64 ((x.cFound.getD i0 []).getD i1 0)))] : List AV).getD p (.con undef)) q) rfl (m_IntS x.cCoins a ⟨by omega, by omega⟩) vq_ca_19 trivial (.tmp rfl) rfl rfl rfl (Nat.le_of_ble_eq_true rfl) (fun p hp _ => match p, hp with | 0, _ => rfl | _ + 1, h => absurd h (by simp [SV.leaves])) rfl trivial (fun p hp _ => match p, hp with | 0, _ => if_pos rfl | _ + 1, h => absurd h (by simp [SV.leaves])) (fun q _ hne => if_neg (fun e => hne 0 (Nat.zero_lt_one) rfl e)) ⟨(.tmp rfl), trivial, trivial⟩ rfl rfl (Nat.le_of_ble_eq_true rfl) ?_
  refine ARun.pure (PureOp.assign rfl (.tmp rfl)) rfl rfl (Nat.le_of_ble_eq_true rfl) ?_
  refine ARun.nil ?_
  refine AW.seq ?_
  refine AW.region ?_
  refine ARun.pure (PureOp.fieldPtr rfl (.tmp rfl) vq_fi_49_1_1) rfl rfl (Nat.le_of_ble_eq_true rfl) ?_
  refine ARun.pure (PureOp.loadPtr rfl (.tmp rfl) vq_pl_25 rfl rfl (Nat.le_of_ble_eq_true rfl) (Nat.le_of_ble_eq_true rfl)) rfl rfl (Nat.le_of_ble_eq_true rfl) ?_
  refine ARun.pure (PureOp.move rfl (.tmp rfl)) rfl rfl (Nat.le_of_ble_eq_true rfl) ?_
  refine ARun.mark (id := 1000000) (q0 := 1) (X' := fun q => if q = 1 then .lst 1 ((mkL (ctL c1) (mkL c1 mkI) x.cWays (a + ctL c1 x.cCoins)).length) (fun i0 _ => .lst 1 (((mkL (ctL c1) (mkL c1 mkI) x.cWays (a + ctL c1 x.cCoins)).getD i0 []).length) (fun i1 _ => .int .i64 (((mkL (ctL c1) (mkL c1 mkI) x.cWays (a + ctL c1 x.cCoins)).getD i0 []).getD i1 0))) else (fun q => if q = 0 then .lst 1 ((mkL c1 mkI x.cCoins a).length) (fun i0 _ => .int .i64 ((mkL c1 mkI x.cCoins a).getD i0 0)) else (fun p => ([.lst 1 x.cCoins.length (fun i0 _ => .int .i64 (x.cCoins.getD i0 0)), .lst 1 x.cWays.length (fun i0 _ => .lst 1 ((x.cWays.getD i0 []).length) (fun i1 _ => .int .i64 ((x.cWays.getD i0 []).getD i1 0))), .lst 1 x.cKept.length (fun i0 _ => .int .i64 (x.cKept.getD i0 0)), .lst 1 x.cHeard.length (fun i0 _ => .lst 1 ((x.cHeard.getD i0 []).length) (fun i1 _ => .bool ((x.cHeard.getD i0 []).getD i1 false))), .lst 1 x.cFound.length (fun i0 _ => .lst 1 ((x.cFound.getD i0 []).length) (fun i1 _ => .int .i64 ((x.cFound.getD i0 []).getD i1 0)))] : List AV).getD p (.con undef)) q) q) rfl (m_IntSS x.cWays (a + ctL c1 x.cCoins) ⟨by omega, by omega⟩) vq_ca_69 trivial (.tmp rfl) rfl rfl rfl (Nat.le_of_ble_eq_true rfl) (fun p hp _ => match p, hp with | 0, _ => rfl | _ + 1, h => absurd h (by simp [SV.leaves])) rfl trivial (fun p hp _ => match p, hp with | 0, _ => if_pos rfl | _ + 1, h => absurd h (by simp [SV.leaves])) (fun q _ hne => if_neg (fun e => hne 0 (Nat.zero_lt_one) rfl e)) ⟨(.tmp rfl), trivial, trivial⟩ rfl rfl (Nat.le_of_ble_eq_true rfl) ?_
  refine ARun.pure (PureOp.assign rfl (.tmp rfl)) rfl rfl (Nat.le_of_ble_eq_true rfl) ?_
  refine ARun.nil ?_
  refine AW.seq ?_
  refine AW.region ?_
  refine ARun.pure (PureOp.fieldPtr rfl (.tmp rfl) vq_fi_49_2_2) rfl rfl (Nat.le_of_ble_eq_true rfl) ?_
  refine ARun.pure (PureOp.loadPtr rfl (.tmp rfl) vq_pl_22 rfl rfl (Nat.le_of_ble_eq_true rfl) (Nat.le_of_ble_eq_true rfl)) rfl rfl (Nat.le_of_ble_eq_true rfl) ?_
  refine ARun.pure (PureOp.move rfl (.tmp rfl)) rfl rfl (Nat.le_of_ble_eq_true rfl) ?_
  refine ARun.mark (id := 1000000) (q0 := 2) (X' := fun q => if q = 2 then .lst 1 ((mkL c1 mkI x.cKept (a + ctL c1 x.cCoins + ctL (ctL c1) x.cWays)).length) (fun i0 _ => .int .i64 ((mkL c1 mkI x.cKept (a + ctL c1 x.cCoins + ctL (ctL c1) x.cWays)).getD i0 0)) else (fun q => if q = 1 then .lst 1 ((mkL (ctL c1) (mkL c1 mkI) x.cWays (a + ctL c1 x.cCoins)).length) (fun i0 _ => .lst 1 (((mkL (ctL c1) (mkL c1 mkI) x.cWays (a + ctL c1 x.cCoins)).getD i0 []).length) (fun i1 _ => .int .i64 (((mkL (ctL c1) (mkL c1 mkI) x.cWays (a + ctL c1 x.cCoins)).getD i0 []).getD i1 0))) else (fun q => if q = 0 then .lst 1 ((mkL c1 mkI x.cCoins a).length) (fun i0 _ => .int .i64 ((mkL c1 mkI x.cCoins a).getD i0 0)) else (fun p => ([.lst 1 x.cCoins.length (fun i0 _ => .int .i64 (x.cCoins.getD i0 0)), .lst 1 x.cWays.length (fun i0 _ => .lst 1 ((x.cWays.getD i0 []).length) (fun i1 _ => .int .i64 ((x.cWays.getD i0 []).getD i1 0))), .lst 1 x.cKept.length (fun i0 _ => .int .i64 (x.cKept.getD i0 0)), .lst 1 x.cHeard.length (fun i0 _ => .lst 1 ((x.cHeard.getD i0 []).length) (fun i1 _ => .bool ((x.cHeard.getD i0 []).getD i1 false))), .lst 1 x.cFound.length (fun i0 _ => .lst 1 ((x.cFound.getD i0 []).length) (fun i1 _ => .int .i64 ((x.cFound.getD i0 []).getD i1 0)))] : List AV).getD p (.con undef)) q) q) q) rfl (m_IntS x.cKept (a + ctL c1 x.cCoins + ctL (ctL c1) x.cWays) ⟨by omega, by omega⟩) vq_ca_19 trivial (.tmp rfl) rfl rfl rfl (Nat.le_of_ble_eq_true rfl) (fun p hp _ => match p, hp with | 0, _ => rfl | _ + 1, h => absurd h (by simp [SV.leaves])) rfl trivial (fun p hp _ => match p, hp with | 0, _ => if_pos rfl | _ + 1, h => absurd h (by simp [SV.leaves])) (fun q _ hne => if_neg (fun e => hne 0 (Nat.zero_lt_one) rfl e)) ⟨(.tmp rfl), trivial, trivial⟩ rfl rfl (Nat.le_of_ble_eq_true rfl) ?_
  refine ARun.pure (PureOp.assign rfl (.tmp rfl)) rfl rfl (Nat.le_of_ble_eq_true rfl) ?_
  refine ARun.nil ?_
  refine AW.seq ?_
  refine AW.region ?_
  refine ARun.pure (PureOp.fieldPtr rfl (.tmp rfl) vq_fi_49_3_3) rfl rfl (Nat.le_of_ble_eq_true rfl) ?_
  refine ARun.pure (PureOp.loadPtr rfl (.tmp rfl) vq_pl_47 rfl rfl (Nat.le_of_ble_eq_true rfl) (Nat.le_of_ble_eq_true rfl)) rfl rfl (Nat.le_of_ble_eq_true rfl) ?_
  refine ARun.pure (PureOp.move rfl (.tmp rfl)) rfl rfl (Nat.le_of_ble_eq_true rfl) ?_
  refine ARun.mark (id := 1000000) (q0 := 3) (X' := fun q => if q = 3 then .lst 1 ((mkL (ctL c1) (mkL c1 mkB) x.cHeard (a + ctL c1 x.cCoins + ctL (ctL c1) x.cWays + ctL c1 x.cKept)).length) (fun i0 _ => .lst 1 (((mkL (ctL c1) (mkL c1 mkB) x.cHeard (a + ctL c1 x.cCoins + ctL (ctL c1) x.cWays + ctL c1 x.cKept)).getD i0 []).length) (fun i1 _ => .bool (((mkL (ctL c1) (mkL c1 mkB) x.cHeard (a + ctL c1 x.cCoins + ctL (ctL c1) x.cWays + ctL c1 x.cKept)).getD i0 []).getD i1 false))) else (fun q => if q = 2 then .lst 1 ((mkL c1 mkI x.cKept (a + ctL c1 x.cCoins + ctL (ctL c1) x.cWays)).length) (fun i0 _ => .int .i64 ((mkL c1 mkI x.cKept (a + ctL c1 x.cCoins + ctL (ctL c1) x.cWays)).getD i0 0)) else (fun q => if q = 1 then .lst 1 ((mkL (ctL c1) (mkL c1 mkI) x.cWays (a + ctL c1 x.cCoins)).length) (fun i0 _ => .lst 1 (((mkL (ctL c1) (mkL c1 mkI) x.cWays (a + ctL c1 x.cCoins)).getD i0 []).length) (fun i1 _ => .int .i64 (((mkL (ctL c1) (mkL c1 mkI) x.cWays (a + ctL c1 x.cCoins)).getD i0 []).getD i1 0))) else (fun q => if q = 0 then .lst 1 ((mkL c1 mkI x.cCoins a).length) (fun i0 _ => .int .i64 ((mkL c1 mkI x.cCoins a).getD i0 0)) else (fun p => ([.lst 1 x.cCoins.length (fun i0 _ => .int .i64 (x.cCoins.getD i0 0)), .lst 1 x.cWays.length (fun i0 _ => .lst 1 ((x.cWays.getD i0 []).length) (fun i1 _ => .int .i64 ((x.cWays.getD i0 []).getD i1 0))), .lst 1 x.cKept.length (fun i0 _ => .int .i64 (x.cKept.getD i0 0)), .lst 1 x.cHeard.length (fun i0 _ => .lst 1 ((x.cHeard.getD i0 []).length) (fun i1 _ => .bool ((x.cHeard.getD i0 []).getD i1 false))), .lst 1 x.cFound.length (fun i0 _ => .lst 1 ((x.cFound.getD i0 []).length) (fun i1 _ => .int .i64 ((x.cFound.getD i0 []).getD i1 0)))] : List AV).getD p (.con undef)) q) q) q) q) rfl (m_BoolSS x.cHeard (a + ctL c1 x.cCoins + ctL (ctL c1) x.cWays + ctL c1 x.cKept) ⟨by omega, by omega⟩) vq_ca_85 trivial (.tmp rfl) rfl rfl rfl (Nat.le_of_ble_eq_true rfl) (fun p hp _ => match p, hp with | 0, _ => rfl | _ + 1, h => absurd h (by simp [SV.leaves])) rfl trivial (fun p hp _ => match p, hp with | 0, _ => if_pos rfl | _ + 1, h => absurd h (by simp [SV.leaves])) (fun q _ hne => if_neg (fun e => hne 0 (Nat.zero_lt_one) rfl e)) ⟨(.tmp rfl), trivial, trivial⟩ rfl rfl (Nat.le_of_ble_eq_true rfl) ?_
  refine ARun.pure (PureOp.assign rfl (.tmp rfl)) rfl rfl (Nat.le_of_ble_eq_true rfl) ?_
  refine ARun.nil ?_
  refine AW.seq ?_
  refine AW.region ?_
  refine ARun.pure (PureOp.fieldPtr rfl (.tmp rfl) vq_fi_49_4_4) rfl rfl (Nat.le_of_ble_eq_true rfl) ?_
  refine ARun.pure (PureOp.loadPtr rfl (.tmp rfl) vq_pl_25 rfl rfl (Nat.le_of_ble_eq_true rfl) (Nat.le_of_ble_eq_true rfl)) rfl rfl (Nat.le_of_ble_eq_true rfl) ?_
  refine ARun.pure (PureOp.move rfl (.tmp rfl)) rfl rfl (Nat.le_of_ble_eq_true rfl) ?_
  refine ARun.mark (id := 1000000) (q0 := 4) (X' := fun q => if q = 4 then .lst 1 ((mkL (ctL c1) (mkL c1 mkI) x.cFound (a + ctL c1 x.cCoins + ctL (ctL c1) x.cWays + ctL c1 x.cKept + ctL (ctL c1) x.cHeard)).length) (fun i0 _ => .lst 1 (((mkL (ctL c1) (mkL c1 mkI) x.cFound (a + ctL c1 x.cCoins + ctL (ctL c1) x.cWays + ctL c1 x.cKept + ctL (ctL c1) x.cHeard)).getD i0 []).length) (fun i1 _ => .int .i64 (((mkL (ctL c1) (mkL c1 mkI) x.cFound (a + ctL c1 x.cCoins + ctL (ctL c1) x.cWays + ctL c1 x.cKept + ctL (ctL c1) x.cHeard)).getD i0 []).getD i1 0))) else (fun q => if q = 3 then .lst 1 ((mkL (ctL c1) (mkL c1 mkB) x.cHeard (a + ctL c1 x.cCoins + ctL (ctL c1) x.cWays + ctL c1 x.cKept)).length) (fun i0 _ => .lst 1 (((mkL (ctL c1) (mkL c1 mkB) x.cHeard (a + ctL c1 x.cCoins + ctL (ctL c1) x.cWays + ctL c1 x.cKept)).getD i0 []).length) (fun i1 _ => .bool (((mkL (ctL c1) (mkL c1 mkB) x.cHeard (a + ctL c1 x.cCoins + ctL (ctL c1) x.cWays + ctL c1 x.cKept)).getD i0 []).getD i1 false))) else (fun q => if q = 2 then .lst 1 ((mkL c1 mkI x.cKept (a + ctL c1 x.cCoins + ctL (ctL c1) x.cWays)).length) (fun i0 _ => .int .i64 ((mkL c1 mkI x.cKept (a + ctL c1 x.cCoins + ctL (ctL c1) x.cWays)).getD i0 0)) else (fun q => if q = 1 then .lst 1 ((mkL (ctL c1) (mkL c1 mkI) x.cWays (a + ctL c1 x.cCoins)).length) (fun i0 _ => .lst 1 (((mkL (ctL c1) (mkL c1 mkI) x.cWays (a + ctL c1 x.cCoins)).getD i0 []).length) (fun i1 _ => .int .i64 (((mkL (ctL c1) (mkL c1 mkI) x.cWays (a + ctL c1 x.cCoins)).getD i0 []).getD i1 0))) else (fun q => if q = 0 then .lst 1 ((mkL c1 mkI x.cCoins a).length) (fun i0 _ => .int .i64 ((mkL c1 mkI x.cCoins a).getD i0 0)) else (fun p => ([.lst 1 x.cCoins.length (fun i0 _ => .int .i64 (x.cCoins.getD i0 0)), .lst 1 x.cWays.length (fun i0 _ => .lst 1 ((x.cWays.getD i0 []).length) (fun i1 _ => .int .i64 ((x.cWays.getD i0 []).getD i1 0))), .lst 1 x.cKept.length (fun i0 _ => .int .i64 (x.cKept.getD i0 0)), .lst 1 x.cHeard.length (fun i0 _ => .lst 1 ((x.cHeard.getD i0 []).length) (fun i1 _ => .bool ((x.cHeard.getD i0 []).getD i1 false))), .lst 1 x.cFound.length (fun i0 _ => .lst 1 ((x.cFound.getD i0 []).length) (fun i1 _ => .int .i64 ((x.cFound.getD i0 []).getD i1 0)))] : List AV).getD p (.con undef)) q) q) q) q) q) rfl (m_IntSS x.cFound (a + ctL c1 x.cCoins + ctL (ctL c1) x.cWays + ctL c1 x.cKept + ctL (ctL c1) x.cHeard) ⟨by omega, by omega⟩) vq_ca_69 trivial (.tmp rfl) rfl rfl rfl (Nat.le_of_ble_eq_true rfl) (fun p hp _ => match p, hp with | 0, _ => rfl | _ + 1, h => absurd h (by simp [SV.leaves])) rfl trivial (fun p hp _ => match p, hp with | 0, _ => if_pos rfl | _ + 1, h => absurd h (by simp [SV.leaves])) (fun q _ hne => if_neg (fun e => hne 0 (Nat.zero_lt_one) rfl e)) ⟨(.tmp rfl), trivial, trivial⟩ rfl rfl (Nat.le_of_ble_eq_true rfl) ?_
  refine ARun.pure (PureOp.assign rfl (.tmp rfl)) rfl rfl (Nat.le_of_ble_eq_true rfl) ?_
  refine ARun.nil ?_
  refine AW.seq ?_
  refine AW.region ?_
  refine ARun.pure (PureOp.move rfl (.tmp rfl)) rfl rfl (Nat.le_of_ble_eq_true rfl) ?_
  refine ARun.pure (PureOp.assign rfl (.tmp rfl)) rfl rfl (Nat.le_of_ble_eq_true rfl) ?_
  refine ARun.nil ?_
  refine AW.ret (show ResL _ _ [.tmp 4] _ ∧ HeapLe _ _ from ⟨resI rfl ?_, ⟨⟨_, rfl, fun q hq => match q, hq with | 0, _ => rfl | 1, _ => rfl | 2, _ => rfl | 3, _ => rfl | 4, _ => rfl | _ + 5, h => absurd h (by omega)⟩, trivial⟩⟩)
  omega

theorem m_Bank (x : GBank) (a : Nat) (ha : 0 < a ∧ a + cvBank x ≤ 900000000) : FnM Try.prog 31 (.agg [.lst 1 x.cCoins.length (fun i0 _ => .int .i64 (x.cCoins.getD i0 0)), .lst 1 x.cWays.length (fun i0 _ => .lst 1 ((x.cWays.getD i0 []).length) (fun i1 _ => .int .i64 ((x.cWays.getD i0 []).getD i1 0))), .lst 1 x.cKept.length (fun i0 _ => .int .i64 (x.cKept.getD i0 0)), .lst 1 x.cHeard.length (fun i0 _ => .lst 1 ((x.cHeard.getD i0 []).length) (fun i1 _ => .bool ((x.cHeard.getD i0 []).getD i1 false))), .lst 1 x.cFound.length (fun i0 _ => .lst 1 ((x.cFound.getD i0 []).length) (fun i1 _ => .int .i64 ((x.cFound.getD i0 []).getD i1 0)))]) [.one (.int .i64 (a : Int))] (.one (.int .i64 ((a + cvBank x : Nat) : Int))) (.agg [.lst 1 (((mvBank x a).cCoins).length) (fun i0 _ => .int .i64 (((mvBank x a).cCoins).getD i0 0)), .lst 1 (((mvBank x a).cWays).length) (fun i0 _ => .lst 1 ((((mvBank x a).cWays).getD i0 []).length) (fun i1 _ => .int .i64 ((((mvBank x a).cWays).getD i0 []).getD i1 0))), .lst 1 (((mvBank x a).cKept).length) (fun i0 _ => .int .i64 (((mvBank x a).cKept).getD i0 0)), .lst 1 (((mvBank x a).cHeard).length) (fun i0 _ => .lst 1 ((((mvBank x a).cHeard).getD i0 []).length) (fun i1 _ => .bool ((((mvBank x a).cHeard).getD i0 []).getD i1 false))), .lst 1 (((mvBank x a).cFound).length) (fun i0 _ => .lst 1 ((((mvBank x a).cFound).getD i0 []).length) (fun i1 _ => .int .i64 ((((mvBank x a).cFound).getD i0 []).getD i1 0)))]) :=
  FnM.ofAgg trivial (fun s hs => by simp only [List.mem_singleton] at hs; subst hs; trivial) rfl (fun _ _ h => h) (g_markBank x a ha)
end Go.Proofs.Ytlbnodmebehpiaa


/-
  What marks left is looked at again.
-/
namespace Go.Proofs.Ytlbnodmebehpiaa
open Go.ChangeShapes Go.WideShapes Go.ChangeAt Go.RowKit Go.BigFrame Go.Deep
set_option linter.unusedVariables false
set_option linter.unusedSimpArgs false
theorem vh_bo_4 : boolB Try.prog 4 = true := by kernel_rfl
theorem vh_ca_132 : callB Try.prog 132 = true := by kernel_rfl
theorem vh_ca_72 : callB Try.prog 72 = true := by kernel_rfl
theorem vh_ca_86 : callB Try.prog 86 = true := by kernel_rfl
theorem vh_ca_87 : callB Try.prog 87 = true := by kernel_rfl
theorem vh_el_107_1 : elemB Try.prog 107 1 = true := by kernel_rfl
theorem vh_el_22_1 : elemB Try.prog 22 1 = true := by kernel_rfl
theorem vh_el_25_1 : elemB Try.prog 25 1 = true := by kernel_rfl
theorem vh_el_47_1 : elemB Try.prog 47 1 = true := by kernel_rfl
theorem vh_fi_49_0_0 : fieldB Try.prog 49 0 0 = true := by kernel_rfl
theorem vh_fi_49_1_1 : fieldB Try.prog 49 1 1 = true := by kernel_rfl
theorem vh_fi_49_2_2 : fieldB Try.prog 49 2 2 = true := by kernel_rfl
theorem vh_fi_49_3_3 : fieldB Try.prog 49 3 3 = true := by kernel_rfl
theorem vh_fi_49_4_4 : fieldB Try.prog 49 4 4 = true := by kernel_rfl
theorem vh_pl_107 : plainB Try.prog 107 = true := by kernel_rfl
theorem vh_pl_22 : plainB Try.prog 22 = true := by kernel_rfl
theorem vh_pl_25 : plainB Try.prog 25 = true := by kernel_rfl
theorem vh_pl_3 : plainB Try.prog 3 = true := by kernel_rfl
theorem vh_pl_4 : plainB Try.prog 4 = true := by kernel_rfl
theorem vh_pl_47 : plainB Try.prog 47 = true := by kernel_rfl
theorem vh_sl_107 : sliceB Try.prog 107 = true := by kernel_rfl
theorem vh_sl_22 : sliceB Try.prog 22 = true := by kernel_rfl
theorem vh_sl_25 : sliceB Try.prog 25 = true := by kernel_rfl
theorem vh_sl_47 : sliceB Try.prog 47 = true := by kernel_rfl
theorem h_IntS (xx yy : List Int) (a : Nat) (hy : yy = mkL c1 mkI xx a) (ha : 0 < a ∧ a + ctL c1 xx ≤ 900000000) : Fn Try.prog 86 [.one (.lst 1 yy.length (fun i0 _ => .int .i64 (yy.getD i0 0))), .one (.int .i64 (a : Int))] (.one (.int .i64 ((a + ctL c1 xx : Nat) : Int))) := by
  obtain ⟨ha0, ha1⟩ := ha
  have hlen : yy.length = xx.length := by rw [hy]; exact mkL_len
  refine Fn.of_body (fn := Try.f86) Try.func86 rfl (Nat.le_of_ble_eq_true rfl) trivial ?_
  intro w0
  show AW _ 21 _ _ _ _
  refine AW.bound (t := 0) rfl fun hx => ?_
  refine AW.seq ?_
  refine AW.region ?_
  refine ARun.pure (PureOp.assign rfl .int) rfl rfl (Nat.le_of_ble_eq_true rfl) ?_
  refine ARun.nil ?_
  refine AW.seq ?_
  refine AW.seq ?_
  refine AW.region ?_
  refine ARun.pure (PureOp.assign rfl .int) rfl rfl (Nat.le_of_ble_eq_true rfl) ?_
  refine ARun.nil ?_
  refine AW.block ?_
  refine AW.loop (ι := Nat) (fun k => ⟨[(0, .one (.lst 1 yy.length (fun i0 _ => .int .i64 (yy.getD i0 0)))), (1, .one (.int .i64 ((a + ((xx.take k).map c1).sum : Nat) : Int))), (5, .one (.int .i64 (k : Int)))], []⟩) (fun k => k ≤ xx.length) (fun k => xx.length - k) 0 (Nat.zero_le _) ⟨⟨⟨_, rfl, rfl⟩, ⟨_, rfl, by simp⟩, ⟨_, rfl, rfl⟩, trivial⟩, trivial⟩ ?_
  intro k hk
  refine AW.seq ?_
  refine AW.seq ?_
  refine AW.region ?_
  refine ARun.pure (PureOp.move rfl (.tmp rfl)) rfl rfl (Nat.le_of_ble_eq_true rfl) ?_
  refine ARun.pure (PureOp.move rfl (.tmp rfl)) rfl rfl (Nat.le_of_ble_eq_true rfl) ?_
  refine ARun.pure (PureOp.lenLst rfl (.tmp rfl) vh_sl_22) rfl rfl (Nat.le_of_ble_eq_true rfl) ?_
  refine ARun.pure (PureOp.intOp rfl (.tmp rfl) (.tmp rfl) rfl) rfl rfl (Nat.le_of_ble_eq_true rfl) ?_
  refine ARun.nil ?_
  refine AW.cond (.tmp rfl) (fun hb1 => ?_) (fun hb1 => ?_)
  · have _u := True.intro
    replace hb1 := of_decide_eq_true hb1
    have hkl : k < xx.length := by omega
    obtain ⟨hst, hsm⟩ := ct_step (ct := c1) (0 : Int) hkl
    have he : yy.getD k (0 : Int) = mkI (xx.getD k (0 : Int)) (a + ((xx.take k).map c1).sum) := by rw [hy]; exact mkL_get (0 : Int) hkl
    have hce : c1 (xx.getD k (0 : Int)) = 1 := rfl
    refine AW.skip ?_
    refine AW.seq ?_
    refine AW.block ?_
    refine AW.seq ?_
    refine AW.seq ?_
    refine AW.region ?_
    refine ARun.pure (PureOp.move rfl (.tmp rfl)) rfl rfl (Nat.le_of_ble_eq_true rfl) ?_
    refine ARun.pure (PureOp.move rfl (.tmp rfl)) rfl rfl (Nat.le_of_ble_eq_true rfl) ?_
    refine ARun.pure (PureOp.indexLst (i := k) rfl (.tmp rfl) vh_el_22_1 (.tmp rfl) rfl (by omega)) rfl rfl (Nat.le_of_ble_eq_true rfl) ?_
    refine ARun.pure (PureOp.loadRef rfl (.tmp rfl) vh_pl_3 (Nat.le_of_ble_eq_true rfl)) rfl rfl (Nat.le_of_ble_eq_true rfl) ?_
    refine ARun.pure (PureOp.move rfl (.tmp rfl)) rfl rfl (Nat.le_of_ble_eq_true rfl) ?_
    refine ARun.pure (PureOp.intOp rfl (.tmp rfl) (.tmp rfl) rfl) rfl rfl (Nat.le_of_ble_eq_true rfl) ?_
    refine ARun.nil ?_
    refine AW.cond (.tmp rfl) (fun hb2 => ?_) (fun hb2 => ?_)
    · have _u := True.intro
      replace hb2 := of_decide_eq_false (of_not hb2)
      exact absurd (by rw [he]; rfl) hb2
      --end
    · have _u := True.intro
      replace hb2 := of_decide_eq_true (not_f hb2)
      refine AW.skip ?_
      refine AW.region ?_
      refine ARun.pure (PureOp.move rfl (.tmp rfl)) rfl rfl (Nat.le_of_ble_eq_true rfl) ?_
      refine ARun.pure (PureOp.add (c := ((a + ((xx.take k).map c1).sum + 1 : Nat) : Int)) rfl (.tmp rfl) .int (by rw [wrap_id (by omega) (by omega)]; omega)) rfl rfl (Nat.le_of_ble_eq_true rfl) ?_
      refine ARun.pure (PureOp.assign rfl (.tmp rfl)) rfl rfl (Nat.le_of_ble_eq_true rfl) ?_
      refine ARun.nil ?_
      refine AW.region ?_
      refine ARun.pure (PureOp.move rfl (.tmp rfl)) rfl rfl (Nat.le_of_ble_eq_true rfl) ?_
      refine ARun.pure (PureOp.add (c := ((k + 1 : Nat) : Int)) rfl (.tmp rfl) .int (by rw [wrap_id (by omega) (by omega)]; omega)) rfl rfl (Nat.le_of_ble_eq_true rfl) ?_
      refine ARun.pure (PureOp.assign rfl (.tmp rfl)) rfl rfl (Nat.le_of_ble_eq_true rfl) ?_
      refine ARun.nil ?_
      exact ⟨k + 1, by omega, by dsimp only; omega, ⟨⟨⟨_, rfl, rfl⟩, ⟨_, rfl, congrArg (fun z : Nat => SV.one (.int .i64 (z : Int))) (by omega)⟩, ⟨_, rfl, rfl⟩, trivial⟩, trivial⟩⟩
  · have _u := True.intro
    replace hb1 := of_decide_eq_false hb1
    have hkl : ¬ k < xx.length := by omega
    refine AW.exit ?_
    refine AW.seq ?_
    refine AW.region ?_
    refine ARun.pure (PureOp.move rfl (.tmp rfl)) rfl rfl (Nat.le_of_ble_eq_true rfl) ?_
    refine ARun.pure (PureOp.assign rfl (.tmp rfl)) rfl rfl (Nat.le_of_ble_eq_true rfl) ?_
    refine ARun.nil ?_
    refine AW.ret (show ResL _ _ [.tmp 4] _ from resI rfl ?_)
    have hend : ctL c1 xx = ((xx.take k).map c1).sum := (ct_end hkl).symm
    omega

theorem h_IntSS (xx yy : List (List Int)) (a : Nat) (hy : yy = mkL (ctL c1) (mkL c1 mkI) xx a) (ha : 0 < a ∧ a + ctL (ctL c1) xx ≤ 900000000) : Fn Try.prog 72 [.one (.lst 1 yy.length (fun i0 _ => .lst 1 ((yy.getD i0 []).length) (fun i1 _ => .int .i64 ((yy.getD i0 []).getD i1 0)))), .one (.int .i64 (a : Int))] (.one (.int .i64 ((a + ctL (ctL c1) xx : Nat) : Int))) := by
  obtain ⟨ha0, ha1⟩ := ha
  have hlen : yy.length = xx.length := by rw [hy]; exact mkL_len
  refine Fn.of_body (fn := Try.f72) Try.func72 rfl (Nat.le_of_ble_eq_true rfl) trivial ?_
  intro w0
  show AW _ 21 _ _ _ _
  refine AW.bound (t := 0) rfl fun hx => ?_
  refine AW.seq ?_
  refine AW.region ?_
  refine ARun.pure (PureOp.assign rfl .int) rfl rfl (Nat.le_of_ble_eq_true rfl) ?_
  refine ARun.nil ?_
  refine AW.seq ?_
  refine AW.seq ?_
  refine AW.region ?_
  refine ARun.pure (PureOp.assign rfl .int) rfl rfl (Nat.le_of_ble_eq_true rfl) ?_
  refine ARun.nil ?_
  refine AW.block ?_
  refine AW.loop (ι := Nat) (fun k => ⟨[(0, .one (.lst 1 yy.length (fun i0 _ => .lst 1 ((yy.getD i0 []).length) (fun i1 _ => .int .i64 ((yy.getD i0 []).getD i1 0))))), (1, .one (.int .i64 ((a + ((xx.take k).map (ctL c1)).sum : Nat) : Int))), (5, .one (.int .i64 (k : Int)))], []⟩) (fun k => k ≤ xx.length) (fun k => xx.length - k) 0 (Nat.zero_le _) ⟨⟨⟨_, rfl, rfl⟩, ⟨_, rfl, by simp⟩, ⟨_, rfl, rfl⟩, trivial⟩, trivial⟩ ?_
  intro k hk
  refine AW.seq ?_
  refine AW.seq ?_
  refine AW.region ?_
  refine ARun.pure (PureOp.move rfl (.tmp rfl)) rfl rfl (Nat.le_of_ble_eq_true rfl) ?_
  refine ARun.pure (PureOp.move rfl (.tmp rfl)) rfl rfl (Nat.le_of_ble_eq_true rfl) ?_
  refine ARun.pure (PureOp.lenLst rfl (.tmp rfl) vh_sl_25) rfl rfl (Nat.le_of_ble_eq_true rfl) ?_
  refine ARun.pure (PureOp.intOp rfl (.tmp rfl) (.tmp rfl) rfl) rfl rfl (Nat.le_of_ble_eq_true rfl) ?_
  refine ARun.nil ?_
  refine AW.cond (.tmp rfl) (fun hb1 => ?_) (fun hb1 => ?_)
  · have _u := True.intro
    replace hb1 := of_decide_eq_true hb1
    have hkl : k < xx.length := by omega
    obtain ⟨hst, hsm⟩ := ct_step (ct := (ctL c1)) ([] : List Int) hkl
    have he : yy.getD k ([] : List Int) = (mkL c1 mkI) (xx.getD k ([] : List Int)) (a + ((xx.take k).map (ctL c1)).sum) := by rw [hy]; exact mkL_get ([] : List Int) hkl
    refine AW.skip ?_
    refine AW.seq ?_
    refine AW.block ?_
    refine AW.seq ?_
    refine AW.region ?_
    refine ARun.pure (PureOp.move rfl (.tmp rfl)) rfl rfl (Nat.le_of_ble_eq_true rfl) ?_
    refine ARun.pure (PureOp.move rfl (.tmp rfl)) rfl rfl (Nat.le_of_ble_eq_true rfl) ?_
    refine ARun.pure (PureOp.indexLst (i := k) rfl (.tmp rfl) vh_el_25_1 (.tmp rfl) rfl (by omega)) rfl rfl (Nat.le_of_ble_eq_true rfl) ?_
    refine ARun.pure (PureOp.loadRef rfl (.tmp rfl) vh_pl_22 (Nat.le_of_ble_eq_true rfl)) rfl rfl (Nat.le_of_ble_eq_true rfl) ?_
    refine ARun.pure (PureOp.move rfl (.tmp rfl)) rfl rfl (Nat.le_of_ble_eq_true rfl) ?_
    refine ARun.pure (PureOp.call rfl (h_IntS (xx.getD k []) (yy.getD k []) (a + ((xx.take k).map (ctL c1)).sum) (by first | exact he | (rw [he]; rfl)) ⟨by omega, by omega⟩) ⟨⟨_, (.tmp rfl), .lst⟩, ⟨_, (.tmp rfl), .int⟩, trivial⟩ vh_ca_86 trivial) rfl rfl (Nat.le_of_ble_eq_true rfl) ?_
    refine ARun.pure (PureOp.assign rfl (.tmp rfl)) rfl rfl (Nat.le_of_ble_eq_true rfl) ?_
    refine ARun.nil ?_
    refine AW.seq ?_
    refine AW.region ?_
    refine ARun.pure (PureOp.move rfl (.tmp rfl)) rfl rfl (Nat.le_of_ble_eq_true rfl) ?_
    refine ARun.pure (PureOp.intOp rfl (.tmp rfl) .int rfl) rfl rfl (Nat.le_of_ble_eq_true rfl) ?_
    refine ARun.nil ?_
    refine AW.cond (.tmp rfl) (fun hb2 => ?_) (fun hb2 => ?_)
    · have _u := True.intro
      replace hb2 := of_decide_eq_true hb2
      exact absurd hb2 (by omega)
      --end
    · have _u := True.intro
      replace hb2 := of_decide_eq_false hb2
      refine AW.skip ?_
      refine AW.region ?_
      refine ARun.pure (PureOp.move rfl (.tmp rfl)) rfl rfl (Nat.le_of_ble_eq_true rfl) ?_
      refine ARun.pure (PureOp.add (c := ((k + 1 : Nat) : Int)) rfl (.tmp rfl) .int (by rw [wrap_id (by omega) (by omega)]; omega)) rfl rfl (Nat.le_of_ble_eq_true rfl) ?_
      refine ARun.pure (PureOp.assign rfl (.tmp rfl)) rfl rfl (Nat.le_of_ble_eq_true rfl) ?_
      refine ARun.nil ?_
      exact ⟨k + 1, by omega, by dsimp only; omega, ⟨⟨⟨_, rfl, rfl⟩, ⟨_, rfl, congrArg (fun z : Nat => SV.one (.int .i64 (z : Int))) (by omega)⟩, ⟨_, rfl, rfl⟩, trivial⟩, trivial⟩⟩
  · have _u := True.intro
    replace hb1 := of_decide_eq_false hb1
    have hkl : ¬ k < xx.length := by omega
    refine AW.exit ?_
    refine AW.seq ?_
    refine AW.region ?_
    refine ARun.pure (PureOp.move rfl (.tmp rfl)) rfl rfl (Nat.le_of_ble_eq_true rfl) ?_
    refine ARun.pure (PureOp.assign rfl (.tmp rfl)) rfl rfl (Nat.le_of_ble_eq_true rfl) ?_
    refine ARun.nil ?_
    refine AW.ret (show ResL _ _ [.tmp 4] _ from resI rfl ?_)
    have hend : ctL (ctL c1) xx = ((xx.take k).map (ctL c1)).sum := (ct_end hkl).symm
    omega

theorem h_BoolS (xx yy : List Bool) (a : Nat) (hy : yy = mkL c1 mkB xx a) (ha : 0 < a ∧ a + ctL c1 xx ≤ 900000000) : Fn Try.prog 132 [.one (.lst 1 yy.length (fun i0 _ => .bool (yy.getD i0 false))), .one (.int .i64 (a : Int))] (.one (.int .i64 ((a + ctL c1 xx : Nat) : Int))) := by
  obtain ⟨ha0, ha1⟩ := ha
  have hlen : yy.length = xx.length := by rw [hy]; exact mkL_len
  refine Fn.of_body (fn := Try.f132) Try.func132 rfl (Nat.le_of_ble_eq_true rfl) trivial ?_
  intro w0
  show AW _ 23 _ _ _ _
  refine AW.bound (t := 0) rfl fun hx => ?_
  refine AW.seq ?_
  refine AW.region ?_
  refine ARun.pure (PureOp.assign rfl .int) rfl rfl (Nat.le_of_ble_eq_true rfl) ?_
  refine ARun.nil ?_
  refine AW.seq ?_
  refine AW.seq ?_
  refine AW.region ?_
  refine ARun.pure (PureOp.assign rfl .int) rfl rfl (Nat.le_of_ble_eq_true rfl) ?_
  refine ARun.nil ?_
  refine AW.block ?_
  refine AW.loop (ι := Nat) (fun k => ⟨[(0, .one (.lst 1 yy.length (fun i0 _ => .bool (yy.getD i0 false)))), (1, .one (.int .i64 ((a + ((xx.take k).map c1).sum : Nat) : Int))), (5, .one (.int .i64 (k : Int)))], []⟩) (fun k => k ≤ xx.length) (fun k => xx.length - k) 0 (Nat.zero_le _) ⟨⟨⟨_, rfl, rfl⟩, ⟨_, rfl, by simp⟩, ⟨_, rfl, rfl⟩, trivial⟩, trivial⟩ ?_
  intro k hk
  refine AW.seq ?_
  refine AW.seq ?_
  refine AW.region ?_
  refine ARun.pure (PureOp.move rfl (.tmp rfl)) rfl rfl (Nat.le_of_ble_eq_true rfl) ?_
  refine ARun.pure (PureOp.move rfl (.tmp rfl)) rfl rfl (Nat.le_of_ble_eq_true rfl) ?_
  refine ARun.pure (PureOp.lenLst rfl (.tmp rfl) vh_sl_107) rfl rfl (Nat.le_of_ble_eq_true rfl) ?_
  refine ARun.pure (PureOp.intOp rfl (.tmp rfl) (.tmp rfl) rfl) rfl rfl (Nat.le_of_ble_eq_true rfl) ?_
  refine ARun.nil ?_
  refine AW.cond (.tmp rfl) (fun hb1 => ?_) (fun hb1 => ?_)
  · have _u := True.intro
    replace hb1 := of_decide_eq_true hb1
    have hkl : k < xx.length := by omega
    obtain ⟨hst, hsm⟩ := ct_step (ct := c1) (false : Bool) hkl
    have he : yy.getD k (false : Bool) = mkB (xx.getD k (false : Bool)) (a + ((xx.take k).map c1).sum) := by rw [hy]; exact mkL_get (false : Bool) hkl
    have hce : c1 (xx.getD k (false : Bool)) = 1 := rfl
    refine AW.skip ?_
    refine AW.seq ?_
    refine AW.block ?_
    refine AW.seq ?_
    refine AW.seq ?_
    refine AW.region ?_
    refine ARun.pure (PureOp.move rfl (.tmp rfl)) rfl rfl (Nat.le_of_ble_eq_true rfl) ?_
    refine ARun.pure (PureOp.move rfl (.tmp rfl)) rfl rfl (Nat.le_of_ble_eq_true rfl) ?_
    refine ARun.pure (PureOp.indexLst (i := k) rfl (.tmp rfl) vh_el_107_1 (.tmp rfl) rfl (by omega)) rfl rfl (Nat.le_of_ble_eq_true rfl) ?_
    refine ARun.pure (PureOp.loadRef rfl (.tmp rfl) vh_pl_4 (Nat.le_of_ble_eq_true rfl)) rfl rfl (Nat.le_of_ble_eq_true rfl) ?_
    refine ARun.pure (PureOp.move rfl (.tmp rfl)) rfl rfl (Nat.le_of_ble_eq_true rfl) ?_
    refine ARun.pure (PureOp.rem (a := a + ((xx.take k).map c1).sum) (b := 3) rfl (.tmp rfl) .int rfl (by decide) (by omega)) rfl rfl (Nat.le_of_ble_eq_true rfl) ?_
    refine ARun.pure (PureOp.intOp rfl (.tmp rfl) .int rfl) rfl rfl (Nat.le_of_ble_eq_true rfl) ?_
    refine ARun.pure (PureOp.boolNe rfl (.tmp rfl) (.tmp rfl) vh_bo_4) rfl rfl (Nat.le_of_ble_eq_true rfl) ?_
    refine ARun.nil ?_
    refine AW.cond (.tmp rfl) (fun hb2 => ?_) (fun hb2 => ?_)
    · have _u := True.intro
      replace hb2 := beq_f (of_not hb2)
      exact absurd (by rw [he]; rfl) hb2
      --end
    · have _u := True.intro
      replace hb2 := beq_t (not_f hb2)
      refine AW.skip ?_
      refine AW.region ?_
      refine ARun.pure (PureOp.move rfl (.tmp rfl)) rfl rfl (Nat.le_of_ble_eq_true rfl) ?_
      refine ARun.pure (PureOp.add (c := ((a + ((xx.take k).map c1).sum + 1 : Nat) : Int)) rfl (.tmp rfl) .int (by rw [wrap_id (by omega) (by omega)]; omega)) rfl rfl (Nat.le_of_ble_eq_true rfl) ?_
      refine ARun.pure (PureOp.assign rfl (.tmp rfl)) rfl rfl (Nat.le_of_ble_eq_true rfl) ?_
      refine ARun.nil ?_
      refine AW.region ?_
      refine ARun.pure (PureOp.move rfl (.tmp rfl)) rfl rfl (Nat.le_of_ble_eq_true rfl) ?_
      refine ARun.pure (PureOp.add (c := ((k + 1 : Nat) : Int)) rfl (.tmp rfl) .int (by rw [wrap_id (by omega) (by omega)]; omega)) rfl rfl (Nat.le_of_ble_eq_true rfl) ?_
      refine ARun.pure (PureOp.assign rfl (.tmp rfl)) rfl rfl (Nat.le_of_ble_eq_true rfl) ?_
      refine ARun.nil ?_
      exact ⟨k + 1, by omega, by dsimp only; omega, ⟨⟨⟨_, rfl, rfl⟩, ⟨_, rfl, congrArg (fun z : Nat => SV.one (.int .i64 (z : Int))) (by omega)⟩, ⟨_, rfl, rfl⟩, trivial⟩, trivial⟩⟩
  · have _u := True.intro
    replace hb1 := of_decide_eq_false hb1
    have hkl : ¬ k < xx.length := by omega
    refine AW.exit ?_
    refine AW.seq ?_
    refine AW.region ?_
    refine ARun.pure (PureOp.move rfl (.tmp rfl)) rfl rfl (Nat.le_of_ble_eq_true rfl) ?_
    refine ARun.pure (PureOp.assign rfl (.tmp rfl)) rfl rfl (Nat.le_of_ble_eq_true rfl) ?_
    refine ARun.nil ?_
    refine AW.ret (show ResL _ _ [.tmp 4] _ from resI rfl ?_)
    have hend : ctL c1 xx = ((xx.take k).map c1).sum := (ct_end hkl).symm
    omega

theorem h_BoolSS (xx yy : List (List Bool)) (a : Nat) (hy : yy = mkL (ctL c1) (mkL c1 mkB) xx a) (ha : 0 < a ∧ a + ctL (ctL c1) xx ≤ 900000000) : Fn Try.prog 87 [.one (.lst 1 yy.length (fun i0 _ => .lst 1 ((yy.getD i0 []).length) (fun i1 _ => .bool ((yy.getD i0 []).getD i1 false)))), .one (.int .i64 (a : Int))] (.one (.int .i64 ((a + ctL (ctL c1) xx : Nat) : Int))) := by
  obtain ⟨ha0, ha1⟩ := ha
  have hlen : yy.length = xx.length := by rw [hy]; exact mkL_len
  refine Fn.of_body (fn := Try.f87) Try.func87 rfl (Nat.le_of_ble_eq_true rfl) trivial ?_
  intro w0
  show AW _ 21 _ _ _ _
  refine AW.bound (t := 0) rfl fun hx => ?_
  refine AW.seq ?_
  refine AW.region ?_
  refine ARun.pure (PureOp.assign rfl .int) rfl rfl (Nat.le_of_ble_eq_true rfl) ?_
  refine ARun.nil ?_
  refine AW.seq ?_
  refine AW.seq ?_
  refine AW.region ?_
  refine ARun.pure (PureOp.assign rfl .int) rfl rfl (Nat.le_of_ble_eq_true rfl) ?_
  refine ARun.nil ?_
  refine AW.block ?_
  refine AW.loop (ι := Nat) (fun k => ⟨[(0, .one (.lst 1 yy.length (fun i0 _ => .lst 1 ((yy.getD i0 []).length) (fun i1 _ => .bool ((yy.getD i0 []).getD i1 false))))), (1, .one (.int .i64 ((a + ((xx.take k).map (ctL c1)).sum : Nat) : Int))), (5, .one (.int .i64 (k : Int)))], []⟩) (fun k => k ≤ xx.length) (fun k => xx.length - k) 0 (Nat.zero_le _) ⟨⟨⟨_, rfl, rfl⟩, ⟨_, rfl, by simp⟩, ⟨_, rfl, rfl⟩, trivial⟩, trivial⟩ ?_
  intro k hk
  refine AW.seq ?_
  refine AW.seq ?_
  refine AW.region ?_
  refine ARun.pure (PureOp.move rfl (.tmp rfl)) rfl rfl (Nat.le_of_ble_eq_true rfl) ?_
  refine ARun.pure (PureOp.move rfl (.tmp rfl)) rfl rfl (Nat.le_of_ble_eq_true rfl) ?_
  refine ARun.pure (PureOp.lenLst rfl (.tmp rfl) vh_sl_47) rfl rfl (Nat.le_of_ble_eq_true rfl) ?_
  refine ARun.pure (PureOp.intOp rfl (.tmp rfl) (.tmp rfl) rfl) rfl rfl (Nat.le_of_ble_eq_true rfl) ?_
  refine ARun.nil ?_
  refine AW.cond (.tmp rfl) (fun hb1 => ?_) (fun hb1 => ?_)
  · have _u := True.intro
    replace hb1 := of_decide_eq_true hb1
    have hkl : k < xx.length := by omega
    obtain ⟨hst, hsm⟩ := ct_step (ct := (ctL c1)) ([] : List Bool) hkl
    have he : yy.getD k ([] : List Bool) = (mkL c1 mkB) (xx.getD k ([] : List Bool)) (a + ((xx.take k).map (ctL c1)).sum) := by rw [hy]; exact mkL_get ([] : List Bool) hkl
    refine AW.skip ?_
    refine AW.seq ?_
    refine AW.block ?_
    refine AW.seq ?_
    refine AW.region ?_
    refine ARun.pure (PureOp.move rfl (.tmp rfl)) rfl rfl (Nat.le_of_ble_eq_true rfl) ?_
    refine ARun.pure (PureOp.move rfl (.tmp rfl)) rfl rfl (Nat.le_of_ble_eq_true rfl) ?_
    refine ARun.pure (PureOp.indexLst (i := k) rfl (.tmp rfl) vh_el_47_1 (.tmp rfl) rfl (by omega)) rfl rfl (Nat.le_of_ble_eq_true rfl) ?_
    refine ARun.pure (PureOp.loadRef rfl (.tmp rfl) vh_pl_107 (Nat.le_of_ble_eq_true rfl)) rfl rfl (Nat.le_of_ble_eq_true rfl) ?_
    refine ARun.pure (PureOp.move rfl (.tmp rfl)) rfl rfl (Nat.le_of_ble_eq_true rfl) ?_
    refine ARun.pure (PureOp.call rfl (h_BoolS (xx.getD k []) (yy.getD k []) (a + ((xx.take k).map (ctL c1)).sum) (by first | exact he | (rw [he]; rfl)) ⟨by omega, by omega⟩) ⟨⟨_, (.tmp rfl), .lst⟩, ⟨_, (.tmp rfl), .int⟩, trivial⟩ vh_ca_132 trivial) rfl rfl (Nat.le_of_ble_eq_true rfl) ?_
    refine ARun.pure (PureOp.assign rfl (.tmp rfl)) rfl rfl (Nat.le_of_ble_eq_true rfl) ?_
    refine ARun.nil ?_
    refine AW.seq ?_
    refine AW.region ?_
    refine ARun.pure (PureOp.move rfl (.tmp rfl)) rfl rfl (Nat.le_of_ble_eq_true rfl) ?_
    refine ARun.pure (PureOp.intOp rfl (.tmp rfl) .int rfl) rfl rfl (Nat.le_of_ble_eq_true rfl) ?_
    refine ARun.nil ?_
    refine AW.cond (.tmp rfl) (fun hb2 => ?_) (fun hb2 => ?_)
    · have _u := True.intro
      replace hb2 := of_decide_eq_true hb2
      exact absurd hb2 (by omega)
      --end
    · have _u := True.intro
      replace hb2 := of_decide_eq_false hb2
      refine AW.skip ?_
      refine AW.region ?_
      refine ARun.pure (PureOp.move rfl (.tmp rfl)) rfl rfl (Nat.le_of_ble_eq_true rfl) ?_
      refine ARun.pure (PureOp.add (c := ((k + 1 : Nat) : Int)) rfl (.tmp rfl) .int (by rw [wrap_id (by omega) (by omega)]; omega)) rfl rfl (Nat.le_of_ble_eq_true rfl) ?_
      refine ARun.pure (PureOp.assign rfl (.tmp rfl)) rfl rfl (Nat.le_of_ble_eq_true rfl) ?_
      refine ARun.nil ?_
      exact ⟨k + 1, by omega, by dsimp only; omega, ⟨⟨⟨_, rfl, rfl⟩, ⟨_, rfl, congrArg (fun z : Nat => SV.one (.int .i64 (z : Int))) (by omega)⟩, ⟨_, rfl, rfl⟩, trivial⟩, trivial⟩⟩
  · have _u := True.intro
    replace hb1 := of_decide_eq_false hb1
    have hkl : ¬ k < xx.length := by omega
    refine AW.exit ?_
    refine AW.seq ?_
    refine AW.region ?_
    refine ARun.pure (PureOp.move rfl (.tmp rfl)) rfl rfl (Nat.le_of_ble_eq_true rfl) ?_
    refine ARun.pure (PureOp.assign rfl (.tmp rfl)) rfl rfl (Nat.le_of_ble_eq_true rfl) ?_
    refine ARun.nil ?_
    refine AW.ret (show ResL _ _ [.tmp 4] _ from resI rfl ?_)
    have hend : ctL (ctL c1) xx = ((xx.take k).map (ctL c1)).sum := (ct_end hkl).symm
    omega

theorem h_Bank (xx yy : GBank) (a : Nat) (hy : yy = mvBank xx a) (ha : 0 < a ∧ a + cvBank xx ≤ 900000000) : Fn Try.prog 32 [.agg [.lst 1 yy.cCoins.length (fun i0 _ => .int .i64 (yy.cCoins.getD i0 0)), .lst 1 yy.cWays.length (fun i0 _ => .lst 1 ((yy.cWays.getD i0 []).length) (fun i1 _ => .int .i64 ((yy.cWays.getD i0 []).getD i1 0))), .lst 1 yy.cKept.length (fun i0 _ => .int .i64 (yy.cKept.getD i0 0)), .lst 1 yy.cHeard.length (fun i0 _ => .lst 1 ((yy.cHeard.getD i0 []).length) (fun i1 _ => .bool ((yy.cHeard.getD i0 []).getD i1 false))), .lst 1 yy.cFound.length (fun i0 _ => .lst 1 ((yy.cFound.getD i0 []).length) (fun i1 _ => .int .i64 ((yy.cFound.getD i0 []).getD i1 0)))], .one (.int .i64 (a : Int))] (.one (.int .i64 ((a + cvBank xx : Nat) : Int))) := by
  obtain ⟨ha0, ha1⟩ := ha
  have hcv : cvBank xx = 0 + ctL c1 (xx.cCoins) + ctL (ctL c1) (xx.cWays) + ctL c1 (xx.cKept) + ctL (ctL c1) (xx.cHeard) + ctL (ctL c1) (xx.cFound) := rfl
  refine Fn.of_body (fn := Try.f32) Try.func32 rfl (Nat.le_of_ble_eq_true rfl) trivial ?_
  intro w0
  show AW _ 36 _ _ _ _
  refine AW.seq ?_
  refine AW.region ?_
  refine ARun.box (id := 0) rfl (.tmp rfl) (SV.cells_of (by exact ⟨trivial, trivial, trivial, trivial, trivial, trivial⟩)) ⟨rfl, (by repeat first | exact trivial | refine ⟨by decide, by first | rfl | exact trivial | (intro i j; first | rfl | exact getD_no rfl | (dsimp only; split <;> first | rfl | exact getD_no rfl) | exact scl_no (by apply_assumption) _), ?_⟩)⟩ rfl rfl rfl (Nat.le_of_ble_eq_true rfl) ?_
  refine ARun.pure (PureOp.assign rfl .int) rfl rfl (Nat.le_of_ble_eq_true rfl) ?_
  refine ARun.nil ?_
  refine AW.seq ?_
  refine AW.region ?_
  refine ARun.pure (PureOp.fieldPtr rfl (.tmp rfl) vh_fi_49_0_0) rfl rfl (Nat.le_of_ble_eq_true rfl) ?_
  refine ARun.pure (PureOp.loadPtr rfl (.tmp rfl) vh_pl_22 rfl rfl (Nat.le_of_ble_eq_true rfl) (Nat.le_of_ble_eq_true rfl)) rfl rfl (Nat.le_of_ble_eq_true rfl) ?_
  refine ARun.pure (PureOp.move rfl (.tmp rfl)) rfl rfl (Nat.le_of_ble_eq_true rfl) ?_
  refine ARun.pure (PureOp.call rfl (h_IntS xx.cCoins yy.cCoins a (by rw [hy]; rfl) ⟨by omega, by omega⟩) ⟨⟨_, (.tmp rfl), .lst⟩, ⟨_, (.tmp rfl), .int⟩, trivial⟩ vh_ca_86 trivial) rfl rfl (Nat.le_of_ble_eq_true rfl) ?_
  refine ARun.pure (PureOp.assign rfl (.tmp rfl)) rfl rfl (Nat.le_of_ble_eq_true rfl) ?_
  refine ARun.nil ?_
  refine AW.seq ?_
  refine AW.seq ?_
  refine AW.region ?_
  refine ARun.pure (PureOp.move rfl (.tmp rfl)) rfl rfl (Nat.le_of_ble_eq_true rfl) ?_
  refine ARun.pure (PureOp.intOp rfl (.tmp rfl) .int rfl) rfl rfl (Nat.le_of_ble_eq_true rfl) ?_
  refine ARun.nil ?_
  refine AW.cond (.tmp rfl) (fun hb1 => ?_) (fun hb1 => ?_)
  · have _u := True.intro
    replace hb1 := of_decide_eq_true hb1
    exact absurd hb1 (by omega)
    --end
  · have _u := True.intro
    replace hb1 := of_decide_eq_false hb1
    refine AW.skip ?_
    refine AW.seq ?_
    refine AW.region ?_
    refine ARun.pure (PureOp.fieldPtr rfl (.tmp rfl) vh_fi_49_1_1) rfl rfl (Nat.le_of_ble_eq_true rfl) ?_
    refine ARun.pure (PureOp.loadPtr rfl (.tmp rfl) vh_pl_25 rfl rfl (Nat.le_of_ble_eq_true rfl) (Nat.le_of_ble_eq_true rfl)) rfl rfl (Nat.le_of_ble_eq_true rfl) ?_
    refine ARun.pure (PureOp.move rfl (.tmp rfl)) rfl rfl (Nat.le_of_ble_eq_true rfl) ?_
    refine ARun.pure (PureOp.call rfl (h_IntSS xx.cWays yy.cWays (a + ctL c1 xx.cCoins) (by rw [hy]; rfl) ⟨by omega, by omega⟩) ⟨⟨_, (.tmp rfl), .lst⟩, ⟨_, (.tmp rfl), .int⟩, trivial⟩ vh_ca_72 trivial) rfl rfl (Nat.le_of_ble_eq_true rfl) ?_
    refine ARun.pure (PureOp.assign rfl (.tmp rfl)) rfl rfl (Nat.le_of_ble_eq_true rfl) ?_
    refine ARun.nil ?_
    refine AW.seq ?_
    refine AW.seq ?_
    refine AW.region ?_
    refine ARun.pure (PureOp.move rfl (.tmp rfl)) rfl rfl (Nat.le_of_ble_eq_true rfl) ?_
    refine ARun.pure (PureOp.intOp rfl (.tmp rfl) .int rfl) rfl rfl (Nat.le_of_ble_eq_true rfl) ?_
    refine ARun.nil ?_
    refine AW.cond (.tmp rfl) (fun hb2 => ?_) (fun hb2 => ?_)
    · have _u := True.intro
      replace hb2 := of_decide_eq_true hb2
      exact absurd hb2 (by omega)
      --end
    · have _u := True.intro
      replace hb2 := of_decide_eq_false hb2
      refine AW.skip ?_
      refine AW.seq ?_
      refine AW.region ?_
      refine ARun.pure (PureOp.fieldPtr rfl (.tmp rfl) vh_fi_49_2_2) rfl rfl (Nat.le_of_ble_eq_true rfl) ?_
      refine ARun.pure (PureOp.loadPtr rfl (.tmp rfl) vh_pl_22 rfl rfl (Nat.le_of_ble_eq_true rfl) (Nat.le_of_ble_eq_true rfl)) rfl rfl (Nat.le_of_ble_eq_true rfl) ?_
      refine ARun.pure (PureOp.move rfl (.tmp rfl)) rfl rfl (Nat.le_of_ble_eq_true rfl) ?_
      refine ARun.pure (PureOp.call rfl (h_IntS xx.cKept yy.cKept (a + ctL c1 xx.cCoins + ctL (ctL c1) xx.cWays) (by rw [hy]; rfl) ⟨by omega, by omega⟩) ⟨⟨_, (.tmp rfl), .lst⟩, ⟨_, (.tmp rfl), .int⟩, trivial⟩ vh_ca_86 trivial) rfl rfl (Nat.le_of_ble_eq_true rfl) ?_
      refine ARun.pure (PureOp.assign rfl (.tmp rfl)) rfl rfl (Nat.le_of_ble_eq_true rfl) ?_
      refine ARun.nil ?_
      refine AW.seq ?_
      refine AW.seq ?_
      refine AW.region ?_
      refine ARun.pure (PureOp.move rfl (.tmp rfl)) rfl rfl (Nat.le_of_ble_eq_true rfl) ?_
      refine ARun.pure (PureOp.intOp rfl (.tmp rfl) .int rfl) rfl rfl (Nat.le_of_ble_eq_true rfl) ?_
      refine ARun.nil ?_
      refine AW.cond (.tmp rfl) (fun hb3 => ?_) (fun hb3 => ?_)
      · have _u := True.intro
        replace hb3 := of_decide_eq_true hb3
        exact absurd hb3 (by omega)
        --end
      · have _u := True.intro
        replace hb3 := of_decide_eq_false hb3
        refine AW.skip ?_
        refine AW.seq ?_
        refine AW.region ?_
        refine ARun.pure (PureOp.fieldPtr rfl (.tmp rfl) vh_fi_49_3_3) rfl rfl (Nat.le_of_ble_eq_true rfl) ?_
        refine ARun.pure (PureOp.loadPtr rfl (.tmp rfl) vh_pl_47 rfl rfl (Nat.le_of_ble_eq_true rfl) (Nat.le_of_ble_eq_true rfl)) rfl rfl (Nat.le_of_ble_eq_true rfl) ?_
        refine ARun.pure (PureOp.move rfl (.tmp rfl)) rfl rfl (Nat.le_of_ble_eq_true rfl) ?_
        refine ARun.pure (PureOp.call rfl (h_BoolSS xx.cHeard yy.cHeard (a + ctL c1 xx.cCoins + ctL (ctL c1) xx.cWays + ctL c1 xx.cKept) (by rw [hy]; rfl) ⟨by omega, by omega⟩) ⟨⟨_, (.tmp rfl), .lst⟩, ⟨_, (.tmp rfl), .int⟩, trivial⟩ vh_ca_87 trivial) rfl rfl (Nat.le_of_ble_eq_true rfl) ?_
        refine ARun.pure (PureOp.assign rfl (.tmp rfl)) rfl rfl (Nat.le_of_ble_eq_true rfl) ?_
        refine ARun.nil ?_
        refine AW.seq ?_
        refine AW.seq ?_
        refine AW.region ?_
        refine ARun.pure (PureOp.move rfl (.tmp rfl)) rfl rfl (Nat.le_of_ble_eq_true rfl) ?_
        refine ARun.pure (PureOp.intOp rfl (.tmp rfl) .int rfl) rfl rfl (Nat.le_of_ble_eq_true rfl) ?_
        refine ARun.nil ?_
        refine AW.cond (.tmp rfl) (fun hb4 => ?_) (fun hb4 => ?_)
        · have _u := True.intro
          replace hb4 := of_decide_eq_true hb4
          exact absurd hb4 (by omega)
          --end
        · have _u := True.intro
          replace hb4 := of_decide_eq_false hb4
          refine AW.skip ?_
          refine AW.seq ?_
          refine AW.region ?_
          refine ARun.pure (PureOp.fieldPtr rfl (.tmp rfl) vh_fi_49_4_4) rfl rfl (Nat.le_of_ble_eq_true rfl) ?_
          refine ARun.pure (PureOp.loadPtr rfl (.tmp rfl) vh_pl_25 rfl rfl (Nat.le_of_ble_eq_true rfl) (Nat.le_of_ble_eq_true rfl)) rfl rfl (Nat.le_of_ble_eq_true rfl) ?_
          refine ARun.pure (PureOp.move rfl (.tmp rfl)) rfl rfl (Nat.le_of_ble_eq_true rfl) ?_
          refine ARun.pure (PureOp.call rfl (h_IntSS xx.cFound yy.cFound (a + ctL c1 xx.cCoins + ctL (ctL c1) xx.cWays + ctL c1 xx.cKept + ctL (ctL c1) xx.cHeard) (by rw [hy]; rfl) ⟨by omega, by omega⟩) ⟨⟨_, (.tmp rfl), .lst⟩, ⟨_, (.tmp rfl), .int⟩, trivial⟩ vh_ca_72 trivial) rfl rfl (Nat.le_of_ble_eq_true rfl) ?_
          refine ARun.pure (PureOp.assign rfl (.tmp rfl)) rfl rfl (Nat.le_of_ble_eq_true rfl) ?_
          refine ARun.nil ?_
          refine AW.seq ?_
          refine AW.seq ?_
          refine AW.region ?_
          refine ARun.pure (PureOp.move rfl (.tmp rfl)) rfl rfl (Nat.le_of_ble_eq_true rfl) ?_
          refine ARun.pure (PureOp.intOp rfl (.tmp rfl) .int rfl) rfl rfl (Nat.le_of_ble_eq_true rfl) ?_
          refine ARun.nil ?_
          refine AW.cond (.tmp rfl) (fun hb5 => ?_) (fun hb5 => ?_)
          · have _u := True.intro
            replace hb5 := of_decide_eq_true hb5
            exact absurd hb5 (by omega)
            --end
          · have _u := True.intro
            replace hb5 := of_decide_eq_false hb5
            refine AW.skip ?_
            refine AW.seq ?_
            refine AW.region ?_
            refine ARun.pure (PureOp.move rfl (.tmp rfl)) rfl rfl (Nat.le_of_ble_eq_true rfl) ?_
            refine ARun.pure (PureOp.assign rfl (.tmp rfl)) rfl rfl (Nat.le_of_ble_eq_true rfl) ?_
            refine ARun.nil ?_
            refine AW.ret (show ResL _ _ [.tmp 4] _ from resI rfl ?_)
            omega
end Go.Proofs.Ytlbnodmebehpiaa


/-
  The laws' own copies (to), as trees.
-/
namespace Go.Proofs.Ytlbnodmebehpiaa
open Go.ChangeShapes Go.WideShapes Go.ChangeAt Go.RowKit Go.BigFrame Go.Deep
set_option linter.unusedVariables false
set_option linter.unusedSimpArgs false
theorem vp_el_22_1 : elemB Try.prog 22 1 = true := by kernel_rfl
theorem vp_pl_3 : plainB Try.prog 3 = true := by kernel_rfl
theorem vp_sl_22 : sliceB Try.prog 22 = true := by kernel_rfl
theorem vp_sz_3_1 : sizeB Try.prog 3 1 = true := by kernel_rfl
theorem v_toIntS (x : List Int) (hw : Small (x.length)) : FnT Try.prog 15 [.one (.lst 1 x.length (fun i0 _ => .int .i64 (x.getD i0 0)))] (.one (.lst 1 x.length (fun i0 _ => .int .i64 (x.getD i0 0)))) := by
  unfold Small at hw
  have hlen : x.length ≤ 1048576 := by omega
  refine FnT.of_body (fn := Try.f15) Try.func15 rfl (Nat.le_of_ble_eq_true rfl)  ?_
  intro w0
  show AW _ 22 _ _ _ _
  refine AW.seq ?_
  refine AW.region ?_
  refine ARun.pure (PureOp.assign rfl .con) rfl rfl (Nat.le_of_ble_eq_true rfl) ?_
  refine ARun.nil ?_
  refine AW.seq ?_
  refine AW.region ?_
  refine ARun.pure (PureOp.move rfl (.tmp rfl)) rfl rfl (Nat.le_of_ble_eq_true rfl) ?_
  refine ARun.pure (PureOp.lenLst rfl (.tmp rfl) vp_sl_22) rfl rfl (Nat.le_of_ble_eq_true rfl) ?_
  refine ARun.make (id := 0) (n := x.length) (l := [.int .i64 0]) (z := (.int .i64 0)) (by_ := 8) rfl (by kernel_rfl) (fun _ _ _ => ⟨_, _, rfl, rfl, rfl⟩) (.tmp rfl) (.tmp rfl) rfl rfl (by omega) (by omega) (by decide) ⟨rfl, (by repeat first | exact trivial | refine ⟨by decide, by first | rfl | exact trivial | (intro i j; first | rfl | exact getD_no rfl | (dsimp only; split <;> first | rfl | exact getD_no rfl) | exact scl_no (by apply_assumption) _), ?_⟩)⟩ rfl rfl rfl (Nat.le_of_ble_eq_true rfl) ?_
  refine ARun.pure (PureOp.assign rfl (.tmp rfl)) rfl rfl (Nat.le_of_ble_eq_true rfl) ?_
  refine ARun.nil ?_
  refine AW.seq ?_
  refine AW.seq ?_
  refine AW.region ?_
  refine ARun.pure (PureOp.assign rfl .int) rfl rfl (Nat.le_of_ble_eq_true rfl) ?_
  refine ARun.nil ?_
  refine AW.block ?_
  refine AW.loop (ι := Nat) (fun k => ⟨[(0, .one (.lst 1 x.length (fun i0 _ => .int .i64 (x.getD i0 0)))), (3, .one (.own 0 1 x.length)), (4, .one (.int .i64 (k : Int)))], [(0, .arr 1 x.length (fun a b => if a < k then ceInt (x.getD a (0 : Int)) b else ([.int .i64 0] : List AV).getD b (.con undef)))]⟩) (fun k => k ≤ x.length) (fun k => x.length - k) 0 (Nat.zero_le _) ⟨⟨⟨_, rfl, rfl⟩, ⟨_, rfl, rfl⟩, ⟨_, rfl, rfl⟩, trivial⟩, ⟨⟨_, rfl, rfl, Nat.le_refl _, fun a b _ _ => by simp [AObj.f]⟩, trivial⟩⟩ ?_
  intro k hk
  refine AW.seq ?_
  refine AW.seq ?_
  refine AW.region ?_
  refine ARun.pure (PureOp.move rfl (.tmp rfl)) rfl rfl (Nat.le_of_ble_eq_true rfl) ?_
  refine ARun.pure (PureOp.move rfl (.tmp rfl)) rfl rfl (Nat.le_of_ble_eq_true rfl) ?_
  refine ARun.pure (PureOp.lenLst rfl (.tmp rfl) vp_sl_22) rfl rfl (Nat.le_of_ble_eq_true rfl) ?_
  refine ARun.pure (PureOp.intOp rfl (.tmp rfl) (.tmp rfl) rfl) rfl rfl (Nat.le_of_ble_eq_true rfl) ?_
  refine ARun.nil ?_
  refine AW.cond (.tmp rfl) (fun hb1 => ?_) (fun hb1 => ?_)
  · have _u := True.intro
    replace hb1 := of_decide_eq_true hb1
    have hlt : k < x.length := by omega
    refine AW.skip ?_
    refine AW.seq ?_
    refine AW.block ?_
    refine AW.region ?_
    refine ARun.pure (PureOp.move rfl (.tmp rfl)) rfl rfl (Nat.le_of_ble_eq_true rfl) ?_
    refine ARun.pure (PureOp.move rfl (.tmp rfl)) rfl rfl (Nat.le_of_ble_eq_true rfl) ?_
    refine ARun.pure (PureOp.move rfl (.tmp rfl)) rfl rfl (Nat.le_of_ble_eq_true rfl) ?_
    refine ARun.pure (PureOp.move rfl (.tmp rfl)) rfl rfl (Nat.le_of_ble_eq_true rfl) ?_
    refine ARun.pure (PureOp.indexLst (i := k) rfl (.tmp rfl) vp_el_22_1 (.tmp rfl) rfl (by omega)) rfl rfl (Nat.le_of_ble_eq_true rfl) ?_
    refine ARun.pure (PureOp.loadRef rfl (.tmp rfl) vp_pl_3 (Nat.le_of_ble_eq_true rfl)) rfl rfl (Nat.le_of_ble_eq_true rfl) ?_
    refine ARun.pure (PureOp.indexOwn (i := k) rfl (.tmp rfl) vp_el_22_1 (.tmp rfl) rfl (by omega)) rfl rfl (Nat.le_of_ble_eq_true rfl) ?_
    refine ARun.storeElem rfl (.tmp rfl) (.tmp rfl) trivial rfl (by omega) rfl vp_sz_3_1 rfl rfl ?_
    refine ARun.nil ?_
    refine AW.region ?_
    refine ARun.pure (PureOp.move rfl (.tmp rfl)) rfl rfl (Nat.le_of_ble_eq_true rfl) ?_
    refine ARun.pure (PureOp.add (c := ((k + 1 : Nat) : Int)) rfl (.tmp rfl) .int (by rw [wrap_id (by omega) (by omega)]; omega)) rfl rfl (Nat.le_of_ble_eq_true rfl) ?_
    refine ARun.pure (PureOp.assign rfl (.tmp rfl)) rfl rfl (Nat.le_of_ble_eq_true rfl) ?_
    refine ARun.nil ?_
    exact ⟨k + 1, by omega, by dsimp only; omega, ⟨⟨⟨_, rfl, rfl⟩, ⟨_, rfl, rfl⟩, ⟨_, rfl, rfl⟩, trivial⟩, ⟨⟨_, rfl, rfl, Nat.le_refl _, fun a b _ hb => fill_next (sz := 1) (k := k) (g := fun a b => ceInt (x.getD a (0 : Int)) b) (z := fun b => ([.int .i64 0] : List AV).getD b (.con undef)) (c := fun b => ([.int .i64 (x.getD k 0)] : List AV).getD b (.con undef)) (fun b hb => match b, hb with | 0, _ => rfl | _ + 1, h => absurd h (by omega)) a b hb⟩, trivial⟩⟩⟩
  · have _u := True.intro
    replace hb1 := of_decide_eq_false hb1
    have hlt : ¬ k < x.length := by omega
    obtain rfl : k = x.length := by omega
    refine AW.exit ?_
    refine AW.seq ?_
    refine AW.region ?_
    refine ARun.pure (PureOp.move rfl (.tmp rfl)) rfl rfl (Nat.le_of_ble_eq_true rfl) ?_
    refine ARun.pure (PureOp.assign rfl (.tmp rfl)) rfl rfl (Nat.le_of_ble_eq_true rfl) ?_
    refine ARun.nil ?_
    exact AW.ret (show ∃ s t, ResL _ _ [.tmp 2] s ∧ TvS _ (ofLeaf t) 0 s _ from ⟨_, fun a b => if a = 0 then 0 else 1000, .inl ⟨_, rfl, .tmp rfl⟩, (Tv.flat rfl rfl rfl (Nat.le_refl _) (by rfl) (fun i j hi hj => if_pos hi) (fun i j hi hj => match j, hj with | 0, _ => rfl | _ + 1, h => absurd h (by omega)))⟩)

end Go.Proofs.Ytlbnodmebehpiaa


/-
  The laws' own budgets (sz) over the data of this seat.
-/
namespace Go.Proofs.Ytlbnodmebehpiaa
open Go.ChangeShapes Go.WideShapes Go.ChangeAt Go.RowKit Go.BigFrame Go.Deep
set_option linter.unusedVariables false
set_option linter.unusedSimpArgs false
end Go.Proofs.Ytlbnodmebehpiaa

