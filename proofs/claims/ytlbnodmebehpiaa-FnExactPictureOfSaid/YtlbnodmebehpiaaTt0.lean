/-
  Sums: TotalIn, PictureOf, in the reference and in the program.
-/
import Derived.Test.YtlbnodmebehpiaaIt
import Derived.Test.YtlbnodmebehpiaaVn
import Derived.Test.YtlbnodmebehpiaaSlK
namespace Go.Proofs.Ytlbnodmebehpiaa
open Go.ChangeShapes Go.WideShapes Go.ChangeAt Go.RowKit Go.BigFrame Go.Deep
set_option linter.unusedVariables false
set_option linter.unusedSimpArgs false
theorem vp_ag_49_5 : aggB Try.prog 49 5 = true := by kernel_rfl
theorem vp_ca_34 : callB Try.prog 34 = true := by kernel_rfl
theorem vp_ca_92 : callB Try.prog 92 = true := by kernel_rfl
theorem vp_ca_93 : callB Try.prog 93 = true := by kernel_rfl
theorem vp_ca_94 : callB Try.prog 94 = true := by kernel_rfl
theorem vp_ca_95 : callB Try.prog 95 = true := by kernel_rfl
theorem vp_ca_96 : callB Try.prog 96 = true := by kernel_rfl
theorem vp_el_22_1 : elemB Try.prog 22 1 = true := by kernel_rfl
theorem vp_el_25_1 : elemB Try.prog 25 1 = true := by kernel_rfl
theorem vp_fi_49_0_0 : fieldB Try.prog 49 0 0 = true := by kernel_rfl
theorem vp_fi_49_1_1 : fieldB Try.prog 49 1 1 = true := by kernel_rfl
theorem vp_fi_49_2_2 : fieldB Try.prog 49 2 2 = true := by kernel_rfl
theorem vp_fi_49_4_4 : fieldB Try.prog 49 4 4 = true := by kernel_rfl
theorem vp_pl_22 : plainB Try.prog 22 = true := by kernel_rfl
theorem vp_pl_25 : plainB Try.prog 25 = true := by kernel_rfl
theorem vp_pl_3 : plainB Try.prog 3 = true := by kernel_rfl
theorem vp_sl_22 : sliceB Try.prog 22 = true := by kernel_rfl
theorem vp_sl_25 : sliceB Try.prog 25 = true := by kernel_rfl
theorem v_Concat (ls : List (List Int)) (hok : ∀ r ∈ ls, ∀ a ∈ r, I64 a) (hsm : total ls ≤ 100000000) : FnF Try.prog 96 [.one (rowsAV ls)] (.one (intsAV ls.flatten)) := by
  intro w S vs hS hd
  obtain ⟨v, vs', rfl, h1, h2⟩ := hd
  obtain rfl : vs' = [] := h2
  obtain ⟨A, c, rfl, hr⟩ := rows_rep h1 hok
  refine (concatInt_any ls w S hS A ls.length c hr hsm).mono ?_
  rintro e w' ⟨A', c', rfl, _, hrep, hb⟩
  rw [total_flatten] at hrep ⊢
  exact ⟨_, rfl, rep_ints hrep, hb⟩
/-- The sum of numbers, as the machine adds them. -/
def wsum (a : Int) (l : List Int) : Int := l.foldl (fun s x => IntKind.i64.wrap (s + x)) a
theorem wsum_next {a : Int} {l : List Int} {k : Nat} (h : k < l.length) : IntKind.i64.wrap (wsum a (l.take k) + l.getD k 0) = wsum a (l.take (k + 1)) := by
  rw [List.take_succ_eq_append_getElem h, wsum, wsum, List.foldl_append, List.getD_eq_getElem?_getD, List.getElem?_eq_getElem h]; rfl
theorem wsum_end {a : Int} {l : List Int} {k : Nat} (h : ¬ k < l.length) : wsum a (l.take k) = wsum a l := by rw [List.take_of_length_le (by omega)]
theorem v_l12Sum (l : List Int) : Fn Try.prog 95 [.one (.lst 1 l.length (fun i0 _ => .int .i64 (l.getD i0 0)))] (.one (.int .i64 (wsum 0 l))) := by
  refine Fn.of_body (fn := Try.f95) Try.func95 rfl (Nat.le_of_ble_eq_true rfl) trivial ?_
  intro w0
  show AW _ 17 _ _ _ _
  refine AW.bound (t := 0) rfl fun hx => ?_
  refine AW.seq ?_
  refine AW.region ?_
  refine ARun.pure (PureOp.assign rfl .int) rfl rfl (Nat.le_of_ble_eq_true rfl) ?_
  refine ARun.nil ?_
  refine AW.seq ?_
  refine AW.region ?_
  refine ARun.pure (PureOp.assign rfl .int) rfl rfl (Nat.le_of_ble_eq_true rfl) ?_
  refine ARun.nil ?_
  refine AW.seq ?_
  refine AW.seq ?_
  refine AW.region ?_
  refine ARun.pure (PureOp.move rfl (.tmp rfl)) rfl rfl (Nat.le_of_ble_eq_true rfl) ?_
  refine ARun.pure (PureOp.lenLst rfl (.tmp rfl) vp_sl_22) rfl rfl (Nat.le_of_ble_eq_true rfl) ?_
  refine ARun.pure (PureOp.move rfl .int) rfl rfl (Nat.le_of_ble_eq_true rfl) ?_
  refine ARun.nil ?_
  refine AW.block ?_
  refine AW.loop (ι := Nat) (fun k => ⟨[(3, .one (.int .i64 (wsum 0 (l.take k)))), (6, .one (.lst 1 l.length (fun i0 _ => .int .i64 (l.getD i0 0)))), (7, .one (.int .i64 (l.length : Int))), (8, .one (.int .i64 (k : Int)))], []⟩) (fun k => k ≤ l.length) (fun k => l.length - k) 0 (Nat.zero_le _) ⟨⟨⟨_, rfl, rfl⟩, ⟨_, rfl, rfl⟩, ⟨_, rfl, rfl⟩, ⟨_, rfl, rfl⟩, trivial⟩, trivial⟩ ?_
  intro k hk
  refine AW.seq ?_
  refine AW.region ?_
  refine ARun.pure (PureOp.intOp rfl (.tmp rfl) (.tmp rfl) rfl) rfl rfl (Nat.le_of_ble_eq_true rfl) ?_
  refine ARun.nil ?_
  refine AW.seq ?_
  refine AW.cond (.tmp rfl) (fun hb1 => ?_) (fun hb1 => ?_)
  · have _u := True.intro
    replace hb1 := of_decide_eq_true hb1
    have hkl : k < l.length := by omega
    refine AW.skip ?_
    refine AW.seq ?_
    refine AW.block ?_
    refine AW.seq ?_
    refine AW.region ?_
    refine ARun.pure (PureOp.indexLst (i := k) rfl (.tmp rfl) vp_el_22_1 (.tmp rfl) rfl (by omega)) rfl rfl (Nat.le_of_ble_eq_true rfl) ?_
    refine ARun.pure (PureOp.loadRef rfl (.tmp rfl) vp_pl_3 (Nat.le_of_ble_eq_true rfl)) rfl rfl (Nat.le_of_ble_eq_true rfl) ?_
    refine ARun.pure (PureOp.assign rfl (.tmp rfl)) rfl rfl (Nat.le_of_ble_eq_true rfl) ?_
    refine ARun.nil ?_
    refine AW.region ?_
    refine ARun.pure (PureOp.move rfl (.tmp rfl)) rfl rfl (Nat.le_of_ble_eq_true rfl) ?_
    refine ARun.pure (PureOp.move rfl (.tmp rfl)) rfl rfl (Nat.le_of_ble_eq_true rfl) ?_
    refine ARun.pure (PureOp.intOp rfl (.tmp rfl) (.tmp rfl) rfl) rfl rfl (Nat.le_of_ble_eq_true rfl) ?_
    refine ARun.pure (PureOp.assign rfl (.tmp rfl)) rfl rfl (Nat.le_of_ble_eq_true rfl) ?_
    refine ARun.nil ?_
    refine AW.region ?_
    refine ARun.pure (PureOp.add (c := ((k + 1 : Nat) : Int)) rfl (.tmp rfl) .int (by rw [wrap_id (by omega) (by omega)]; omega)) rfl rfl (Nat.le_of_ble_eq_true rfl) ?_
    refine ARun.pure (PureOp.move rfl (.tmp rfl)) rfl rfl (Nat.le_of_ble_eq_true rfl) ?_
    refine ARun.nil ?_
    exact ⟨k + 1, by omega, by dsimp only; omega, ⟨⟨⟨_, rfl, congrArg (fun z => SV.one (.int .i64 z)) (wsum_next hkl)⟩, ⟨_, rfl, rfl⟩, ⟨_, rfl, rfl⟩, ⟨_, rfl, rfl⟩, trivial⟩, trivial⟩⟩
  · have _u := True.intro
    replace hb1 := of_decide_eq_false hb1
    have hkl : ¬ k < l.length := by omega
    refine AW.exit ?_
    refine AW.seq ?_
    refine AW.region ?_
    refine ARun.pure (PureOp.move rfl (.tmp rfl)) rfl rfl (Nat.le_of_ble_eq_true rfl) ?_
    refine ARun.pure (PureOp.assign rfl (.tmp rfl)) rfl rfl (Nat.le_of_ble_eq_true rfl) ?_
    refine ARun.nil ?_
    refine AW.ret (show ResL _ _ [.tmp 2] _ from resI rfl ?_)
    exact wsum_end hkl

def rsum (a : Int) (rs : List (List Int)) : Int := rs.foldl (fun s r => IntKind.i64.wrap (s + wsum 0 r)) a
theorem rsum_next {a : Int} {l : List (List Int)} {k : Nat} (h : k < l.length) : IntKind.i64.wrap (rsum a (l.take k) + wsum 0 (l.getD k [])) = rsum a (l.take (k + 1)) := by
  rw [List.take_succ_eq_append_getElem h, rsum, rsum, List.foldl_append, List.getD_eq_getElem?_getD, List.getElem?_eq_getElem h]; rfl
theorem rsum_end {a : Int} {l : List (List Int)} {k : Nat} (h : ¬ k < l.length) : rsum a (l.take k) = rsum a l := by rw [List.take_of_length_le (by omega)]
theorem wrap_add_wrap (a b : Int) : IntKind.i64.wrap (a + IntKind.i64.wrap b) = IntKind.i64.wrap (a + b) := by
  have hw (n : Int) : IntKind.i64.wrap n = if 9223372036854775808 ≤ n % 18446744073709551616 then n % 18446744073709551616 - 18446744073709551616 else n % 18446744073709551616 := by
    simp [IntKind.wrap, IntKind.bits, IntKind.signed]
  simp only [hw]
  split <;> split <;> split <;> omega
theorem wsum_start (l : List Int) : ∀ a, IntKind.i64.wrap (a + wsum 0 l) = IntKind.i64.wrap (wsum a l) := by
  have h (l : List Int) : ∀ a b : Int, IntKind.i64.wrap (a + wsum b l) = IntKind.i64.wrap (wsum (a + b) l) := by
    induction l with
    | nil => intro a b; rfl
    | cons x l ih =>
      intro a b
      have hc (c d : Int) (he : IntKind.i64.wrap c = IntKind.i64.wrap d) : IntKind.i64.wrap (wsum c l) = IntKind.i64.wrap (wsum d l) := by
        have h1 := ih c 0; have h2 := ih d 0
        rw [Int.add_zero] at h1 h2
        rw [← h1, ← h2]
        have e1 := wrap_add_wrap (wsum 0 l) c
        have e2 := wrap_add_wrap (wsum 0 l) d
        rw [Int.add_comm c, Int.add_comm d, ← e1, ← e2, he]
      show IntKind.i64.wrap (a + wsum (IntKind.i64.wrap (b + x)) l) = IntKind.i64.wrap (wsum (IntKind.i64.wrap (a + b + x)) l)
      rw [ih]
      exact hc _ _ (by rw [wrap_add_wrap, show a + (b + x) = a + b + x by omega]; exact (show IntKind.i64.wrap (a + b + x) = IntKind.i64.wrap (IntKind.i64.wrap (a + b + x)) by have := wrap_add_wrap 0 (a + b + x); rw [Int.zero_add, Int.zero_add] at this; exact this.symm))
  intro a
  have := h l a 0
  rw [Int.add_zero] at this; exact this
theorem wrap_wrap (b : Int) : IntKind.i64.wrap (IntKind.i64.wrap b) = IntKind.i64.wrap b := by
  have := wrap_add_wrap 0 b; rw [Int.zero_add, Int.zero_add] at this; exact this
theorem wsum_wrapped : ∀ (l : List Int) (a : Int), IntKind.i64.wrap a = a → IntKind.i64.wrap (wsum a l) = wsum a l
  | [], _, h => h
  | x :: l, a, _ => wsum_wrapped l (IntKind.i64.wrap (a + x)) (wrap_wrap _)
theorem wsum_flat : ∀ (rs : List (List Int)) (a : Int), IntKind.i64.wrap a = a → rsum a rs = wsum a rs.flatten
  | [], _, _ => rfl
  | r :: rs, a, h => by
    show rsum (IntKind.i64.wrap (a + wsum 0 r)) rs = wsum a (r ++ rs.flatten)
    rw [wsum_start, wsum_wrapped _ _ h, wsum_flat rs _ (wsum_wrapped _ _ h)]
    simp only [wsum, List.foldl_append]
theorem wsum_all (r : List Int) (rs : List (List Int)) : wsum 0 [r, rs.flatten].flatten = rsum (wsum 0 r) rs := by
  rw [wsum_flat _ _ (wsum_wrapped _ _ rfl)]
  simp only [List.flatten_cons, List.flatten_nil, List.append_nil, wsum, List.foldl_append]
theorem inB_i64 {lo hi : Int} {l : List Int} (h : l.all (fun n => decide (lo ≤ n ∧ n ≤ hi)) = true) (h1 : -1000000 ≤ lo) (h2 : hi ≤ 1000000) : ∀ a ∈ l, I64 a := by
  intro a ha
  have := of_decide_eq_true (List.all_eq_true.1 h a ha)
  unfold I64
  omega
theorem total_small (n : Nat) : ∀ {l : List (List Int)}, (∀ r ∈ l, r.length ≤ n) → total l ≤ l.length * n
  | [], _ => Nat.zero_le _
  | r :: l, h => by
    have h1 := h r List.mem_cons_self
    have h2 := total_small n (l := l) fun s hs => h s (List.mem_cons_of_mem _ hs)
    simp only [total, List.map_cons, List.sum_cons, List.length_cons] at h2 ⊢
    rw [Nat.succ_mul]
    omega
theorem mem_getD {α : Type} (d : α) {l : List α} {x : α} (h : x ∈ l) : ∃ k, k < l.length ∧ l.getD k d = x := by
  obtain ⟨k, hk, rfl⟩ := List.mem_iff_getElem.1 h
  exact ⟨k, hk, by rw [List.getD_eq_getElem?_getD, List.getElem?_eq_getElem hk]; rfl⟩
theorem good_ok {b : GBank} (h : goodBank b = true) : (∀ a ∈ b.cCoins, I64 a) ∧ (∀ r ∈ b.cWays, ∀ a ∈ r, I64 a) ∧ (∀ a ∈ b.cKept, I64 a) ∧ (∀ r ∈ b.cFound, ∀ a ∈ r, I64 a) ∧
    b.cCoins.length ≤ 5 ∧ total b.cWays ≤ 1000 ∧ b.cKept.length ≤ 5 ∧ total b.cFound ≤ 25 := by
  unfold goodBank headOk rowsOk at h
  simp only [Bool.and_eq_true, decide_eq_true_eq] at h
  obtain ⟨⟨h0, h1, h2, h3, h4, h5, h6⟩, h7⟩ := h
  have hn5 : b.cCoins.length ≤ 5 := by omega
  have hrow (i : Nat) (hi : i < b.cCoins.length) := rng_at h7 hi
  have hww : ∀ r ∈ b.cWays, wayOk r = true := by
    intro r hr
    obtain ⟨k, hk, rfl⟩ := mem_getD [] hr
    have hq : k / b.cCoins.length < b.cCoins.length := Nat.div_lt_of_lt_mul (by rw [← h2]; exact hk)
    have hpos : 0 < b.cCoins.length := by omega
    have hm := Nat.mod_lt k hpos
    have hc := hrow _ hq
    rw [Bool.and_eq_true] at hc
    have hc := rng_at hc.2 hm
    unfold cellBad at hc
    simp only [Bool.not_eq_true', Bool.or_eq_false_iff, Bool.not_eq_false'] at hc
    have hk2 : k / b.cCoins.length * b.cCoins.length + k % b.cCoins.length = k := by rw [Nat.mul_comm]; exact Nat.div_add_mod k _
    rw [hk2] at hc
    exact hc.1.1.1.1
  have hff : ∀ r ∈ b.cFound, r.length = b.cCoins.length ∧ allIn 0 1000 r = true := by
    intro r hr
    obtain ⟨k, hk, rfl⟩ := mem_getD [] hr
    have hc := hrow k (by omega)
    rw [Bool.and_eq_true] at hc
    have hc := hc.1
    unfold rowOk at hc
    simp only [Bool.and_eq_true, decide_eq_true_eq] at hc
    exact ⟨hc.2.1, hc.2.2.1⟩
  refine ⟨inB_i64 h1 (by omega) (by omega), ?_, inB_i64 h4 (by omega) (by omega), ?_, hn5, ?_, by omega, ?_⟩
  · intro r hr
    have := hww r hr
    unfold wayOk at this
    rw [Bool.and_eq_true] at this
    exact inB_i64 this.2 (by omega) (by omega)
  · intro r hr
    exact inB_i64 (hff r hr).2 (by omega) (by omega)
  · have := total_small 40 (l := b.cWays) fun r hr => by
      have := hww r hr
      unfold wayOk at this
      rw [Bool.and_eq_true] at this
      exact of_decide_eq_true this.1
    have h25 : b.cCoins.length * b.cCoins.length ≤ 5 * 5 := Nat.mul_le_mul hn5 hn5
    omega
  · have := total_small 5 (l := b.cFound) fun r hr => by rw [(hff r hr).1]; exact hn5
    omega
def sumOf (r : List Int) (rs : List (List Int)) : Int := rsum (wsum 0 r) rs
theorem okTwo {r : List Int} {rs : List (List Int)} (h1 : ∀ a ∈ r, I64 a) (h2 : ∀ r ∈ rs, ∀ a ∈ r, I64 a) : ∀ r' ∈ [r, rs.flatten], ∀ a ∈ r', I64 a := by
  intro r' hr a ha
  simp only [List.mem_cons, List.not_mem_nil, or_false] at hr
  rcases hr with rfl | rfl
  · exact h1 a ha
  · obtain ⟨q, hq, haq⟩ := List.mem_flatten.1 ha
    exact h2 q hq a haq
theorem totTwo {r : List Int} {rs : List (List Int)} (h1 : r.length ≤ 1000) (h2 : total rs ≤ 1000) : total [r, rs.flatten] ≤ 100000000 := by
  have e : total [r, rs.flatten] = r.length + rs.flatten.length := by simp [total]
  rw [e, ← total_flatten]; omega
theorem flatTwo_len (r : List Int) (rs : List (List Int)) : [r, rs.flatten].flatten.length = r.length + total rs := by rw [total_flatten]; simp
def picB (b : GBank) : Bool := goodBank b && takenB b
theorem v_specTotalIn (b : GBank) : Fn Try.prog 39 [.agg [.lst 1 b.cCoins.length (fun i0 _ => .int .i64 (b.cCoins.getD i0 0)), .lst 1 b.cWays.length (fun i0 _ => .lst 1 ((b.cWays.getD i0 []).length) (fun i1 _ => .int .i64 ((b.cWays.getD i0 []).getD i1 0))), .lst 1 b.cKept.length (fun i0 _ => .int .i64 (b.cKept.getD i0 0)), .lst 1 b.cHeard.length (fun i0 _ => .lst 1 ((b.cHeard.getD i0 []).length) (fun i1 _ => .bool ((b.cHeard.getD i0 []).getD i1 false))), .lst 1 b.cFound.length (fun i0 _ => .lst 1 ((b.cFound.getD i0 []).length) (fun i1 _ => .int .i64 ((b.cFound.getD i0 []).getD i1 0)))]] (.tup2 (.one (.int .i64 (cond (goodBank b) (sumOf b.cCoins b.cWays) 0))) (.one (.bool (goodBank b)))) := by
  refine Fn.of_body (fn := Try.f39) Try.func39 rfl (Nat.le_of_ble_eq_true rfl) ⟨trivial, trivial⟩ ?_
  intro w0
  show AW _ 26 _ _ _ _
  refine AW.seq ?_
  refine AW.region ?_
  refine ARun.box (id := 0) rfl (.tmp rfl) (SV.cells_of (by exact ⟨trivial, trivial, trivial, trivial, trivial, trivial⟩)) ⟨rfl, (by repeat first | exact trivial | refine ⟨by decide, by first | rfl | (intro i j; first | rfl | (dsimp only; split <;> rfl)), ?_⟩)⟩ rfl rfl rfl (Nat.le_of_ble_eq_true rfl) ?_
  refine ARun.pure (PureOp.assign rfl .int) rfl rfl (Nat.le_of_ble_eq_true rfl) ?_
  refine ARun.pure (PureOp.assign rfl .bool) rfl rfl (Nat.le_of_ble_eq_true rfl) ?_
  refine ARun.nil ?_
  refine AW.seq ?_
  refine AW.seq ?_
  refine AW.region ?_
  refine ARun.pure (PureOp.loadPtrAgg rfl (.tmp rfl) vp_ag_49_5 rfl rfl (Nat.le_of_ble_eq_true rfl) (Nat.le_of_ble_eq_true rfl)) rfl rfl (Nat.le_of_ble_eq_true rfl) ?_
  refine ARun.pure (PureOp.call rfl (v_specGoodBank b) ⟨⟨_, (.tmp rfl), ⟨.lst, .lst, .lst, .lst, .lst, trivial⟩⟩, trivial⟩ vp_ca_34 trivial) rfl rfl (Nat.le_of_ble_eq_true rfl) ?_
  refine ARun.pure (PureOp.not rfl (.tmp rfl)) rfl rfl (Nat.le_of_ble_eq_true rfl) ?_
  refine ARun.nil ?_
  refine AW.cond (.tmp rfl) (fun hb1 => ?_) (fun hb1 => ?_)
  · have _u := True.intro
    have hq := hb1
    refine AW.seq ?_
    refine AW.region ?_
    refine ARun.pure (PureOp.assign rfl .int) rfl rfl (Nat.le_of_ble_eq_true rfl) ?_
    refine ARun.pure (PureOp.assign rfl .bool) rfl rfl (Nat.le_of_ble_eq_true rfl) ?_
    refine ARun.nil ?_
    refine AW.ret (show ResL _ _ [.tmp 2, .tmp 3] _ from res2I rfl rfl ?_)
    have hgc : goodBank b = false := of_not hq
    rw [hgc]; exact ⟨rfl, rfl⟩
  · have _u := True.intro
    have hq := hb1
    have hgc : goodBank b = true := not_f hq
    have hgood : goodBank b = true := hgc
    obtain ⟨ok1, ok2, ok3, ok4, ln1, ln2, ln3, ln4⟩ := good_ok hgood
    have hfl := flatTwo_len b.cCoins b.cWays
    refine AW.skip ?_
    refine AW.seq ?_
    refine AW.region ?_
    refine ARun.pure (PureOp.fieldPtr rfl (.tmp rfl) vp_fi_49_0_0) rfl rfl (Nat.le_of_ble_eq_true rfl) ?_
    refine ARun.pure (PureOp.loadPtr rfl (.tmp rfl) vp_pl_22 rfl rfl (Nat.le_of_ble_eq_true rfl) (Nat.le_of_ble_eq_true rfl)) rfl rfl (Nat.le_of_ble_eq_true rfl) ?_
    refine ARun.pure (PureOp.call rfl (v_l12Sum b.cCoins) ⟨⟨_, (.tmp rfl), .lst⟩, trivial⟩ vp_ca_95 trivial) rfl rfl (Nat.le_of_ble_eq_true rfl) ?_
    refine ARun.pure (PureOp.assign rfl (.tmp rfl)) rfl rfl (Nat.le_of_ble_eq_true rfl) ?_
    refine ARun.nil ?_
    refine AW.seq ?_
    refine AW.seq ?_
    refine AW.region ?_
    refine ARun.pure (PureOp.fieldPtr rfl (.tmp rfl) vp_fi_49_1_1) rfl rfl (Nat.le_of_ble_eq_true rfl) ?_
    refine ARun.pure (PureOp.loadPtr rfl (.tmp rfl) vp_pl_25 rfl rfl (Nat.le_of_ble_eq_true rfl) (Nat.le_of_ble_eq_true rfl)) rfl rfl (Nat.le_of_ble_eq_true rfl) ?_
    refine ARun.pure (PureOp.lenLst rfl (.tmp rfl) vp_sl_25) rfl rfl (Nat.le_of_ble_eq_true rfl) ?_
    refine ARun.pure (PureOp.move rfl .int) rfl rfl (Nat.le_of_ble_eq_true rfl) ?_
    refine ARun.nil ?_
    refine AW.block ?_
    refine AW.loop (ι := Nat) (fun k => ⟨[(4, .one (.int .i64 (rsum (wsum 0 b.cCoins) (b.cWays.take k)))), (14, .one (.lst 1 b.cWays.length (fun i0 _ => .lst 1 ((b.cWays.getD i0 []).length) (fun i1 _ => .int .i64 ((b.cWays.getD i0 []).getD i1 0))))), (15, .one (.int .i64 (b.cWays.length : Int))), (16, .one (.int .i64 (k : Int)))], []⟩) (fun k => k ≤ b.cWays.length) (fun k => b.cWays.length - k) 0 (Nat.zero_le _) ⟨⟨⟨_, rfl, rfl⟩, ⟨_, rfl, rfl⟩, ⟨_, rfl, rfl⟩, ⟨_, rfl, rfl⟩, trivial⟩, trivial⟩ ?_
    intro k hk
    refine AW.bound (t := 14) rfl fun hbk => ?_
    refine AW.seq ?_
    refine AW.region ?_
    refine ARun.pure (PureOp.intOp rfl (.tmp rfl) (.tmp rfl) rfl) rfl rfl (Nat.le_of_ble_eq_true rfl) ?_
    refine ARun.nil ?_
    refine AW.seq ?_
    refine AW.cond (.tmp rfl) (fun hb2 => ?_) (fun hb2 => ?_)
    · have _u := True.intro
      replace hb2 := of_decide_eq_true hb2
      have hkl : k < b.cWays.length := by omega
      refine AW.skip ?_
      refine AW.seq ?_
      refine AW.block ?_
      refine AW.seq ?_
      refine AW.region ?_
      refine ARun.pure (PureOp.indexLst (i := k) rfl (.tmp rfl) vp_el_25_1 (.tmp rfl) rfl (by omega)) rfl rfl (Nat.le_of_ble_eq_true rfl) ?_
      refine ARun.pure (PureOp.loadRef rfl (.tmp rfl) vp_pl_22 (Nat.le_of_ble_eq_true rfl)) rfl rfl (Nat.le_of_ble_eq_true rfl) ?_
      refine ARun.pure (PureOp.assign rfl (.tmp rfl)) rfl rfl (Nat.le_of_ble_eq_true rfl) ?_
      refine ARun.nil ?_
      refine AW.region ?_
      refine ARun.pure (PureOp.move rfl (.tmp rfl)) rfl rfl (Nat.le_of_ble_eq_true rfl) ?_
      refine ARun.pure (PureOp.move rfl (.tmp rfl)) rfl rfl (Nat.le_of_ble_eq_true rfl) ?_
      refine ARun.pure (PureOp.call rfl (v_l12Sum (b.cWays.getD k [])) ⟨⟨_, (.tmp rfl), .lst⟩, trivial⟩ vp_ca_95 trivial) rfl rfl (Nat.le_of_ble_eq_true rfl) ?_
      refine ARun.pure (PureOp.intOp rfl (.tmp rfl) (.tmp rfl) rfl) rfl rfl (Nat.le_of_ble_eq_true rfl) ?_
      refine ARun.pure (PureOp.assign rfl (.tmp rfl)) rfl rfl (Nat.le_of_ble_eq_true rfl) ?_
      refine ARun.nil ?_
      refine AW.region ?_
      refine ARun.pure (PureOp.add (c := ((k + 1 : Nat) : Int)) rfl (.tmp rfl) .int (by rw [wrap_id (by omega) (by omega)]; omega)) rfl rfl (Nat.le_of_ble_eq_true rfl) ?_
      refine ARun.pure (PureOp.move rfl (.tmp rfl)) rfl rfl (Nat.le_of_ble_eq_true rfl) ?_
      refine ARun.nil ?_
      exact ⟨k + 1, by omega, by dsimp only; omega, ⟨⟨⟨_, rfl, congrArg (fun z => SV.one (.int .i64 z)) (rsum_next hkl)⟩, ⟨_, rfl, rfl⟩, ⟨_, rfl, rfl⟩, ⟨_, rfl, rfl⟩, trivial⟩, trivial⟩⟩
    · have _u := True.intro
      replace hb2 := of_decide_eq_false hb2
      have hkl : ¬ k < b.cWays.length := by omega
      refine AW.exit ?_
      refine AW.seq ?_
      refine AW.region ?_
      refine ARun.pure (PureOp.move rfl (.tmp rfl)) rfl rfl (Nat.le_of_ble_eq_true rfl) ?_
      refine ARun.pure (PureOp.assign rfl (.tmp rfl)) rfl rfl (Nat.le_of_ble_eq_true rfl) ?_
      refine ARun.pure (PureOp.assign rfl .bool) rfl rfl (Nat.le_of_ble_eq_true rfl) ?_
      refine ARun.nil ?_
      refine AW.ret (show ResL _ _ [.tmp 2, .tmp 3] _ from res2I rfl rfl ?_)
      rw [hgc]; refine ⟨?_, rfl⟩
      exact rsum_end hkl

theorem v_implTotalIn (b : GBank) : Fn Try.prog 40 [.agg [.lst 1 b.cCoins.length (fun i0 _ => .int .i64 (b.cCoins.getD i0 0)), .lst 1 b.cWays.length (fun i0 _ => .lst 1 ((b.cWays.getD i0 []).length) (fun i1 _ => .int .i64 ((b.cWays.getD i0 []).getD i1 0))), .lst 1 b.cKept.length (fun i0 _ => .int .i64 (b.cKept.getD i0 0)), .lst 1 b.cHeard.length (fun i0 _ => .lst 1 ((b.cHeard.getD i0 []).length) (fun i1 _ => .bool ((b.cHeard.getD i0 []).getD i1 false))), .lst 1 b.cFound.length (fun i0 _ => .lst 1 ((b.cFound.getD i0 []).length) (fun i1 _ => .int .i64 ((b.cFound.getD i0 []).getD i1 0)))]] (.tup2 (.one (.int .i64 (cond (goodBank b) (sumOf b.cCoins b.cWays) 0))) (.one (.bool (goodBank b)))) := by
  refine Fn.of_body (fn := Try.f40) Try.func40 rfl (Nat.le_of_ble_eq_true rfl) ⟨trivial, trivial⟩ ?_
  intro w0
  show AW _ 27 _ _ _ _
  refine AW.seq ?_
  refine AW.region ?_
  refine ARun.box (id := 0) rfl (.tmp rfl) (SV.cells_of (by exact ⟨trivial, trivial, trivial, trivial, trivial, trivial⟩)) ⟨rfl, (by repeat first | exact trivial | refine ⟨by decide, by first | rfl | (intro i j; first | rfl | (dsimp only; split <;> rfl)), ?_⟩)⟩ rfl rfl rfl (Nat.le_of_ble_eq_true rfl) ?_
  refine ARun.pure (PureOp.assign rfl .int) rfl rfl (Nat.le_of_ble_eq_true rfl) ?_
  refine ARun.pure (PureOp.assign rfl .bool) rfl rfl (Nat.le_of_ble_eq_true rfl) ?_
  refine ARun.nil ?_
  refine AW.seq ?_
  refine AW.seq ?_
  refine AW.region ?_
  refine ARun.pure (PureOp.loadPtrAgg rfl (.tmp rfl) vp_ag_49_5 rfl rfl (Nat.le_of_ble_eq_true rfl) (Nat.le_of_ble_eq_true rfl)) rfl rfl (Nat.le_of_ble_eq_true rfl) ?_
  refine ARun.pure (PureOp.call rfl (v_isBankG b) ⟨⟨_, (.tmp rfl), ⟨.lst, .lst, .lst, .lst, .lst, trivial⟩⟩, trivial⟩ vp_ca_92 trivial) rfl rfl (Nat.le_of_ble_eq_true rfl) ?_
  refine ARun.pure (PureOp.not rfl (.tmp rfl)) rfl rfl (Nat.le_of_ble_eq_true rfl) ?_
  refine ARun.nil ?_
  refine AW.cond (.tmp rfl) (fun hb1 => ?_) (fun hb1 => ?_)
  · have _u := True.intro
    have hq := hb1
    refine AW.seq ?_
    refine AW.region ?_
    refine ARun.pure (PureOp.assign rfl .int) rfl rfl (Nat.le_of_ble_eq_true rfl) ?_
    refine ARun.pure (PureOp.assign rfl .bool) rfl rfl (Nat.le_of_ble_eq_true rfl) ?_
    refine ARun.nil ?_
    refine AW.ret (show ResL _ _ [.tmp 2, .tmp 3] _ from res2I rfl rfl ?_)
    have hgc : goodBank b = false := of_not hq
    rw [hgc]; exact ⟨rfl, rfl⟩
  · have _u := True.intro
    have hq := hb1
    have hgc : goodBank b = true := not_f hq
    have hgood : goodBank b = true := hgc
    obtain ⟨ok1, ok2, ok3, ok4, ln1, ln2, ln3, ln4⟩ := good_ok hgood
    have hfl := flatTwo_len b.cCoins b.cWays
    refine AW.skip ?_
    refine AW.seq ?_
    refine AW.region ?_
    refine ARun.pure (PureOp.assign rfl .int) rfl rfl (Nat.le_of_ble_eq_true rfl) ?_
    refine ARun.nil ?_
    refine AW.seq ?_
    refine AW.seq ?_
    refine AW.any (by kernel_rfl) (by kernel_rfl) ?_
    refine AD.pure (PureOp.fieldPtr rfl (.tmp rfl) vp_fi_49_0_0) rfl rfl (Nat.le_of_ble_eq_true rfl) ?_
    refine AD.pure (PureOp.loadPtr rfl (.tmp rfl) vp_pl_22 rfl rfl (Nat.le_of_ble_eq_true rfl) (Nat.le_of_ble_eq_true rfl)) rfl rfl (Nat.le_of_ble_eq_true rfl) ?_
    refine AD.pure (PureOp.fieldPtr rfl (.tmp rfl) vp_fi_49_1_1) rfl rfl (Nat.le_of_ble_eq_true rfl) ?_
    refine AD.pure (PureOp.loadPtr rfl (.tmp rfl) vp_pl_25 rfl rfl (Nat.le_of_ble_eq_true rfl) (Nat.le_of_ble_eq_true rfl)) rfl rfl (Nat.le_of_ble_eq_true rfl) ?_
    refine AD.fresh (FreshOp.callS rfl (v_Concat b.cWays ok2 (by omega)) ⟨⟨_, (.tmp rfl), .lst⟩, trivial⟩ vp_ca_96 rfl) rfl rfl (Nat.le_of_ble_eq_true rfl) ?_
    refine AD.fresh (FreshOp.row2 (f := fun i0 _ => .lst 1 ((([b.cCoins, b.cWays.flatten]).getD i0 []).length) (fun i1 _ => .int .i64 ((([b.cCoins, b.cWays.flatten]).getD i0 []).getD i1 0))) rfl (.tmp rfl) (.tmp rfl) .lst .frs Try.underlying25 (by kernel_rfl) rfl rfl) rfl rfl (Nat.le_of_ble_eq_true rfl) ?_
    refine AD.fresh (FreshOp.callS rfl (v_Concat [b.cCoins, b.cWays.flatten] (okTwo ok1 ok2) (totTwo (by omega) (by omega))) ⟨⟨_, (.tmp rfl), .lst⟩, trivial⟩ vp_ca_96 rfl) rfl rfl (Nat.le_of_ble_eq_true rfl) ?_
    refine AD.pure (PureOp.lenLst rfl (.frs (.tmp rfl)) vp_sl_22) rfl rfl (Nat.le_of_ble_eq_true rfl) ?_
    refine AD.pure (PureOp.move rfl .int) rfl rfl (Nat.le_of_ble_eq_true rfl) ?_
    refine AD.nil ?_
    refine AW.block ?_
    refine AW.loop (ι := Nat) (fun k => ⟨[(4, .one (.int .i64 (wsum 0 (([b.cCoins, b.cWays.flatten].flatten).take k)))), (16, .one (.frs (.lst 1 (([b.cCoins, b.cWays.flatten].flatten).length) (fun i0 _ => .int .i64 (([b.cCoins, b.cWays.flatten].flatten).getD i0 0))))), (17, .one (.int .i64 ((([b.cCoins, b.cWays.flatten].flatten).length : Nat) : Int))), (18, .one (.int .i64 (k : Int)))], []⟩) (fun k => k ≤ ([b.cCoins, b.cWays.flatten].flatten).length) (fun k => ([b.cCoins, b.cWays.flatten].flatten).length - k) 0 (Nat.zero_le _) ⟨⟨⟨_, rfl, rfl⟩, ⟨_, rfl, rfl⟩, ⟨_, rfl, rfl⟩, ⟨_, rfl, rfl⟩, trivial⟩, trivial⟩ ?_
    intro k hk
    refine AW.seq ?_
    refine AW.region ?_
    refine ARun.pure (PureOp.intOp rfl (.tmp rfl) (.tmp rfl) rfl) rfl rfl (Nat.le_of_ble_eq_true rfl) ?_
    refine ARun.nil ?_
    refine AW.seq ?_
    refine AW.cond (.tmp rfl) (fun hb2 => ?_) (fun hb2 => ?_)
    · have _u := True.intro
      replace hb2 := of_decide_eq_true hb2
      have hkl : k < ([b.cCoins, b.cWays.flatten].flatten).length := by omega
      refine AW.skip ?_
      refine AW.seq ?_
      refine AW.block ?_
      refine AW.seq ?_
      refine AW.region ?_
      refine ARun.pure (PureOp.indexLst (i := k) rfl (.frs (.tmp rfl)) vp_el_22_1 (.tmp rfl) rfl (by omega)) rfl rfl (Nat.le_of_ble_eq_true rfl) ?_
      refine ARun.pure (PureOp.loadRef rfl (.tmp rfl) vp_pl_3 (Nat.le_of_ble_eq_true rfl)) rfl rfl (Nat.le_of_ble_eq_true rfl) ?_
      refine ARun.pure (PureOp.assign rfl (.tmp rfl)) rfl rfl (Nat.le_of_ble_eq_true rfl) ?_
      refine ARun.nil ?_
      refine AW.region ?_
      refine ARun.pure (PureOp.move rfl (.tmp rfl)) rfl rfl (Nat.le_of_ble_eq_true rfl) ?_
      refine ARun.pure (PureOp.move rfl (.tmp rfl)) rfl rfl (Nat.le_of_ble_eq_true rfl) ?_
      refine ARun.pure (PureOp.intOp rfl (.tmp rfl) (.tmp rfl) rfl) rfl rfl (Nat.le_of_ble_eq_true rfl) ?_
      refine ARun.pure (PureOp.assign rfl (.tmp rfl)) rfl rfl (Nat.le_of_ble_eq_true rfl) ?_
      refine ARun.nil ?_
      refine AW.region ?_
      refine ARun.pure (PureOp.add (c := ((k + 1 : Nat) : Int)) rfl (.tmp rfl) .int (by rw [wrap_id (by omega) (by omega)]; omega)) rfl rfl (Nat.le_of_ble_eq_true rfl) ?_
      refine ARun.pure (PureOp.move rfl (.tmp rfl)) rfl rfl (Nat.le_of_ble_eq_true rfl) ?_
      refine ARun.nil ?_
      exact ⟨k + 1, by omega, by dsimp only; omega, ⟨⟨⟨_, rfl, congrArg (fun z => SV.one (.int .i64 z)) (wsum_next hkl)⟩, ⟨_, rfl, rfl⟩, ⟨_, rfl, rfl⟩, ⟨_, rfl, rfl⟩, trivial⟩, trivial⟩⟩
    · have _u := True.intro
      replace hb2 := of_decide_eq_false hb2
      have hkl : ¬ k < ([b.cCoins, b.cWays.flatten].flatten).length := by omega
      refine AW.exit ?_
      refine AW.seq ?_
      refine AW.region ?_
      refine ARun.pure (PureOp.move rfl (.tmp rfl)) rfl rfl (Nat.le_of_ble_eq_true rfl) ?_
      refine ARun.pure (PureOp.assign rfl (.tmp rfl)) rfl rfl (Nat.le_of_ble_eq_true rfl) ?_
      refine ARun.pure (PureOp.assign rfl .bool) rfl rfl (Nat.le_of_ble_eq_true rfl) ?_
      refine ARun.nil ?_
      refine AW.ret (show ResL _ _ [.tmp 2, .tmp 3] _ from res2I rfl rfl ?_)
      rw [hgc]; refine ⟨?_, rfl⟩
      rw [wsum_end hkl]; exact wsum_all _ _

theorem v_specPictureOf (b : GBank) : Fn Try.prog 41 [.agg [.lst 1 b.cCoins.length (fun i0 _ => .int .i64 (b.cCoins.getD i0 0)), .lst 1 b.cWays.length (fun i0 _ => .lst 1 ((b.cWays.getD i0 []).length) (fun i1 _ => .int .i64 ((b.cWays.getD i0 []).getD i1 0))), .lst 1 b.cKept.length (fun i0 _ => .int .i64 (b.cKept.getD i0 0)), .lst 1 b.cHeard.length (fun i0 _ => .lst 1 ((b.cHeard.getD i0 []).length) (fun i1 _ => .bool ((b.cHeard.getD i0 []).getD i1 false))), .lst 1 b.cFound.length (fun i0 _ => .lst 1 ((b.cFound.getD i0 []).length) (fun i1 _ => .int .i64 ((b.cFound.getD i0 []).getD i1 0)))]] (.tup2 (.one (.int .i64 (cond (picB b) (sumOf b.cKept b.cFound) 0))) (.one (.bool (picB b)))) := by
  refine Fn.of_body (fn := Try.f41) Try.func41 rfl (Nat.le_of_ble_eq_true rfl) ⟨trivial, trivial⟩ ?_
  intro w0
  show AW _ 31 _ _ _ _
  refine AW.seq ?_
  refine AW.region ?_
  refine ARun.box (id := 0) rfl (.tmp rfl) (SV.cells_of (by exact ⟨trivial, trivial, trivial, trivial, trivial, trivial⟩)) ⟨rfl, (by repeat first | exact trivial | refine ⟨by decide, by first | rfl | (intro i j; first | rfl | (dsimp only; split <;> rfl)), ?_⟩)⟩ rfl rfl rfl (Nat.le_of_ble_eq_true rfl) ?_
  refine ARun.pure (PureOp.assign rfl .int) rfl rfl (Nat.le_of_ble_eq_true rfl) ?_
  refine ARun.pure (PureOp.assign rfl .bool) rfl rfl (Nat.le_of_ble_eq_true rfl) ?_
  refine ARun.nil ?_
  refine AW.seq ?_
  refine AW.seq ?_
  refine AW.region ?_
  refine ARun.pure (PureOp.loadPtrAgg rfl (.tmp rfl) vp_ag_49_5 rfl rfl (Nat.le_of_ble_eq_true rfl) (Nat.le_of_ble_eq_true rfl)) rfl rfl (Nat.le_of_ble_eq_true rfl) ?_
  refine ARun.pure (PureOp.call rfl (v_specGoodBank b) ⟨⟨_, (.tmp rfl), ⟨.lst, .lst, .lst, .lst, .lst, trivial⟩⟩, trivial⟩ vp_ca_34 trivial) rfl rfl (Nat.le_of_ble_eq_true rfl) ?_
  refine ARun.pure (PureOp.not rfl (.tmp rfl)) rfl rfl (Nat.le_of_ble_eq_true rfl) ?_
  refine ARun.pure (PureOp.move rfl (.tmp rfl)) rfl rfl (Nat.le_of_ble_eq_true rfl) ?_
  refine ARun.gpure (want := false) (.tf rfl) (fun hg1 => PureOp.loadPtrAgg rfl (.tmp rfl) vp_ag_49_5 rfl rfl (Nat.le_of_ble_eq_true rfl) (Nat.le_of_ble_eq_true rfl)) rfl rfl (Nat.le_of_ble_eq_true rfl) rfl (Nat.le_of_ble_eq_true rfl) ?_
  refine ARun.gpure (want := false) (.tf rfl) (fun hg2 => PureOp.call rfl (v_l12Taken b (goodBank_len (by have q := hg2; simpa using q))) ⟨⟨_, (.gtmp rfl hg2), ⟨.lst, .lst, .lst, .lst, .lst, trivial⟩⟩, trivial⟩ vp_ca_93 trivial) rfl rfl (Nat.le_of_ble_eq_true rfl) rfl (Nat.le_of_ble_eq_true rfl) ?_
  refine ARun.gpure (want := false) (.tf rfl) (fun hg3 => PureOp.not rfl (.gtmp rfl hg3)) rfl rfl (Nat.le_of_ble_eq_true rfl) rfl (Nat.le_of_ble_eq_true rfl) ?_
  refine ARun.pure (PureOp.pick rfl (.tmp rfl) (fun _ => .bool) (fun hp5 => .gtmp rfl (not_of hp5))) rfl rfl (Nat.le_of_ble_eq_true rfl) ?_
  refine ARun.nil ?_
  refine AW.cond (.tmp rfl) (fun hb6 => ?_) (fun hb6 => ?_)
  · have _u := True.intro
    have hq := hb6
    refine AW.seq ?_
    refine AW.region ?_
    refine ARun.pure (PureOp.assign rfl .int) rfl rfl (Nat.le_of_ble_eq_true rfl) ?_
    refine ARun.pure (PureOp.assign rfl .bool) rfl rfl (Nat.le_of_ble_eq_true rfl) ?_
    refine ARun.nil ?_
    refine AW.ret (show ResL _ _ [.tmp 2, .tmp 3] _ from res2I rfl rfl ?_)
    have hgc : picB b = false := by unfold picB; revert hq; cases goodBank b <;> simp
    rw [hgc]; exact ⟨rfl, rfl⟩
  · have _u := True.intro
    have hq := hb6
    have hgc : picB b = true := by unfold picB; revert hq; cases goodBank b <;> simp
    have hgood : goodBank b = true := (by unfold picB at hgc; rw [Bool.and_eq_true] at hgc; exact hgc.1)
    obtain ⟨ok1, ok2, ok3, ok4, ln1, ln2, ln3, ln4⟩ := good_ok hgood
    have hfl := flatTwo_len b.cKept b.cFound
    refine AW.skip ?_
    refine AW.seq ?_
    refine AW.region ?_
    refine ARun.pure (PureOp.fieldPtr rfl (.tmp rfl) vp_fi_49_2_2) rfl rfl (Nat.le_of_ble_eq_true rfl) ?_
    refine ARun.pure (PureOp.loadPtr rfl (.tmp rfl) vp_pl_22 rfl rfl (Nat.le_of_ble_eq_true rfl) (Nat.le_of_ble_eq_true rfl)) rfl rfl (Nat.le_of_ble_eq_true rfl) ?_
    refine ARun.pure (PureOp.call rfl (v_l12Sum b.cKept) ⟨⟨_, (.tmp rfl), .lst⟩, trivial⟩ vp_ca_95 trivial) rfl rfl (Nat.le_of_ble_eq_true rfl) ?_
    refine ARun.pure (PureOp.assign rfl (.tmp rfl)) rfl rfl (Nat.le_of_ble_eq_true rfl) ?_
    refine ARun.nil ?_
    refine AW.seq ?_
    refine AW.seq ?_
    refine AW.region ?_
    refine ARun.pure (PureOp.fieldPtr rfl (.tmp rfl) vp_fi_49_4_4) rfl rfl (Nat.le_of_ble_eq_true rfl) ?_
    refine ARun.pure (PureOp.loadPtr rfl (.tmp rfl) vp_pl_25 rfl rfl (Nat.le_of_ble_eq_true rfl) (Nat.le_of_ble_eq_true rfl)) rfl rfl (Nat.le_of_ble_eq_true rfl) ?_
    refine ARun.pure (PureOp.lenLst rfl (.tmp rfl) vp_sl_25) rfl rfl (Nat.le_of_ble_eq_true rfl) ?_
    refine ARun.pure (PureOp.move rfl .int) rfl rfl (Nat.le_of_ble_eq_true rfl) ?_
    refine ARun.nil ?_
    refine AW.block ?_
    refine AW.loop (ι := Nat) (fun k => ⟨[(4, .one (.int .i64 (rsum (wsum 0 b.cKept) (b.cFound.take k)))), (19, .one (.lst 1 b.cFound.length (fun i0 _ => .lst 1 ((b.cFound.getD i0 []).length) (fun i1 _ => .int .i64 ((b.cFound.getD i0 []).getD i1 0))))), (20, .one (.int .i64 (b.cFound.length : Int))), (21, .one (.int .i64 (k : Int)))], []⟩) (fun k => k ≤ b.cFound.length) (fun k => b.cFound.length - k) 0 (Nat.zero_le _) ⟨⟨⟨_, rfl, rfl⟩, ⟨_, rfl, rfl⟩, ⟨_, rfl, rfl⟩, ⟨_, rfl, rfl⟩, trivial⟩, trivial⟩ ?_
    intro k hk
    refine AW.bound (t := 19) rfl fun hbk => ?_
    refine AW.seq ?_
    refine AW.region ?_
    refine ARun.pure (PureOp.intOp rfl (.tmp rfl) (.tmp rfl) rfl) rfl rfl (Nat.le_of_ble_eq_true rfl) ?_
    refine ARun.nil ?_
    refine AW.seq ?_
    refine AW.cond (.tmp rfl) (fun hb7 => ?_) (fun hb7 => ?_)
    · have _u := True.intro
      replace hb7 := of_decide_eq_true hb7
      have hkl : k < b.cFound.length := by omega
      refine AW.skip ?_
      refine AW.seq ?_
      refine AW.block ?_
      refine AW.seq ?_
      refine AW.region ?_
      refine ARun.pure (PureOp.indexLst (i := k) rfl (.tmp rfl) vp_el_25_1 (.tmp rfl) rfl (by omega)) rfl rfl (Nat.le_of_ble_eq_true rfl) ?_
      refine ARun.pure (PureOp.loadRef rfl (.tmp rfl) vp_pl_22 (Nat.le_of_ble_eq_true rfl)) rfl rfl (Nat.le_of_ble_eq_true rfl) ?_
      refine ARun.pure (PureOp.assign rfl (.tmp rfl)) rfl rfl (Nat.le_of_ble_eq_true rfl) ?_
      refine ARun.nil ?_
      refine AW.region ?_
      refine ARun.pure (PureOp.move rfl (.tmp rfl)) rfl rfl (Nat.le_of_ble_eq_true rfl) ?_
      refine ARun.pure (PureOp.move rfl (.tmp rfl)) rfl rfl (Nat.le_of_ble_eq_true rfl) ?_
      refine ARun.pure (PureOp.call rfl (v_l12Sum (b.cFound.getD k [])) ⟨⟨_, (.tmp rfl), .lst⟩, trivial⟩ vp_ca_95 trivial) rfl rfl (Nat.le_of_ble_eq_true rfl) ?_
      refine ARun.pure (PureOp.intOp rfl (.tmp rfl) (.tmp rfl) rfl) rfl rfl (Nat.le_of_ble_eq_true rfl) ?_
      refine ARun.pure (PureOp.assign rfl (.tmp rfl)) rfl rfl (Nat.le_of_ble_eq_true rfl) ?_
      refine ARun.nil ?_
      refine AW.region ?_
      refine ARun.pure (PureOp.add (c := ((k + 1 : Nat) : Int)) rfl (.tmp rfl) .int (by rw [wrap_id (by omega) (by omega)]; omega)) rfl rfl (Nat.le_of_ble_eq_true rfl) ?_
      refine ARun.pure (PureOp.move rfl (.tmp rfl)) rfl rfl (Nat.le_of_ble_eq_true rfl) ?_
      refine ARun.nil ?_
      exact ⟨k + 1, by omega, by dsimp only; omega, ⟨⟨⟨_, rfl, congrArg (fun z => SV.one (.int .i64 z)) (rsum_next hkl)⟩, ⟨_, rfl, rfl⟩, ⟨_, rfl, rfl⟩, ⟨_, rfl, rfl⟩, trivial⟩, trivial⟩⟩
    · have _u := True.intro
      replace hb7 := of_decide_eq_false hb7
      have hkl : ¬ k < b.cFound.length := by omega
      refine AW.exit ?_
      refine AW.seq ?_
      refine AW.region ?_
      refine ARun.pure (PureOp.move rfl (.tmp rfl)) rfl rfl (Nat.le_of_ble_eq_true rfl) ?_
      refine ARun.pure (PureOp.assign rfl (.tmp rfl)) rfl rfl (Nat.le_of_ble_eq_true rfl) ?_
      refine ARun.pure (PureOp.assign rfl .bool) rfl rfl (Nat.le_of_ble_eq_true rfl) ?_
      refine ARun.nil ?_
      refine AW.ret (show ResL _ _ [.tmp 2, .tmp 3] _ from res2I rfl rfl ?_)
      rw [hgc]; refine ⟨?_, rfl⟩
      exact rsum_end hkl

theorem v_implPictureOf (b : GBank) : Fn Try.prog 42 [.agg [.lst 1 b.cCoins.length (fun i0 _ => .int .i64 (b.cCoins.getD i0 0)), .lst 1 b.cWays.length (fun i0 _ => .lst 1 ((b.cWays.getD i0 []).length) (fun i1 _ => .int .i64 ((b.cWays.getD i0 []).getD i1 0))), .lst 1 b.cKept.length (fun i0 _ => .int .i64 (b.cKept.getD i0 0)), .lst 1 b.cHeard.length (fun i0 _ => .lst 1 ((b.cHeard.getD i0 []).length) (fun i1 _ => .bool ((b.cHeard.getD i0 []).getD i1 false))), .lst 1 b.cFound.length (fun i0 _ => .lst 1 ((b.cFound.getD i0 []).length) (fun i1 _ => .int .i64 ((b.cFound.getD i0 []).getD i1 0)))]] (.tup2 (.one (.int .i64 (cond (picB b) (sumOf b.cKept b.cFound) 0))) (.one (.bool (picB b)))) := by
  refine Fn.of_body (fn := Try.f42) Try.func42 rfl (Nat.le_of_ble_eq_true rfl) ⟨trivial, trivial⟩ ?_
  intro w0
  show AW _ 31 _ _ _ _
  refine AW.seq ?_
  refine AW.region ?_
  refine ARun.box (id := 0) rfl (.tmp rfl) (SV.cells_of (by exact ⟨trivial, trivial, trivial, trivial, trivial, trivial⟩)) ⟨rfl, (by repeat first | exact trivial | refine ⟨by decide, by first | rfl | (intro i j; first | rfl | (dsimp only; split <;> rfl)), ?_⟩)⟩ rfl rfl rfl (Nat.le_of_ble_eq_true rfl) ?_
  refine ARun.pure (PureOp.assign rfl .int) rfl rfl (Nat.le_of_ble_eq_true rfl) ?_
  refine ARun.pure (PureOp.assign rfl .bool) rfl rfl (Nat.le_of_ble_eq_true rfl) ?_
  refine ARun.nil ?_
  refine AW.seq ?_
  refine AW.seq ?_
  refine AW.region ?_
  refine ARun.pure (PureOp.loadPtrAgg rfl (.tmp rfl) vp_ag_49_5 rfl rfl (Nat.le_of_ble_eq_true rfl) (Nat.le_of_ble_eq_true rfl)) rfl rfl (Nat.le_of_ble_eq_true rfl) ?_
  refine ARun.pure (PureOp.call rfl (v_isBankG b) ⟨⟨_, (.tmp rfl), ⟨.lst, .lst, .lst, .lst, .lst, trivial⟩⟩, trivial⟩ vp_ca_92 trivial) rfl rfl (Nat.le_of_ble_eq_true rfl) ?_
  refine ARun.pure (PureOp.not rfl (.tmp rfl)) rfl rfl (Nat.le_of_ble_eq_true rfl) ?_
  refine ARun.pure (PureOp.move rfl (.tmp rfl)) rfl rfl (Nat.le_of_ble_eq_true rfl) ?_
  refine ARun.gpure (want := false) (.tf rfl) (fun hg1 => PureOp.call rfl (v_isTaken b (goodBank_len (by have q := hg1; simpa using q))) ⟨⟨_, (.tmp rfl), (.ptr (m := 5) rfl rfl (Nat.le_of_ble_eq_true rfl) (Nat.le_of_ble_eq_true rfl) (fun | 0, _ => .lst | 1, _ => .lst | 2, _ => .lst | 3, _ => .lst | 4, _ => .lst | _ + 5, h => absurd h (by omega)))⟩, trivial⟩ vp_ca_94 trivial) rfl rfl (Nat.le_of_ble_eq_true rfl) rfl (Nat.le_of_ble_eq_true rfl) ?_
  refine ARun.gpure (want := false) (.tf rfl) (fun hg2 => PureOp.not rfl (.gtmp rfl hg2)) rfl rfl (Nat.le_of_ble_eq_true rfl) rfl (Nat.le_of_ble_eq_true rfl) ?_
  refine ARun.pure (PureOp.pick rfl (.tmp rfl) (fun _ => .bool) (fun hp4 => .gtmp rfl (not_of hp4))) rfl rfl (Nat.le_of_ble_eq_true rfl) ?_
  refine ARun.nil ?_
  refine AW.cond (.tmp rfl) (fun hb5 => ?_) (fun hb5 => ?_)
  · have _u := True.intro
    have hq := hb5
    refine AW.seq ?_
    refine AW.region ?_
    refine ARun.pure (PureOp.assign rfl .int) rfl rfl (Nat.le_of_ble_eq_true rfl) ?_
    refine ARun.pure (PureOp.assign rfl .bool) rfl rfl (Nat.le_of_ble_eq_true rfl) ?_
    refine ARun.nil ?_
    refine AW.ret (show ResL _ _ [.tmp 2, .tmp 3] _ from res2I rfl rfl ?_)
    have hgc : picB b = false := by unfold picB; revert hq; cases goodBank b <;> simp
    rw [hgc]; exact ⟨rfl, rfl⟩
  · have _u := True.intro
    have hq := hb5
    have hgc : picB b = true := by unfold picB; revert hq; cases goodBank b <;> simp
    have hgood : goodBank b = true := (by unfold picB at hgc; rw [Bool.and_eq_true] at hgc; exact hgc.1)
    obtain ⟨ok1, ok2, ok3, ok4, ln1, ln2, ln3, ln4⟩ := good_ok hgood
    have hfl := flatTwo_len b.cKept b.cFound
    refine AW.skip ?_
    refine AW.seq ?_
    refine AW.region ?_
    refine ARun.pure (PureOp.assign rfl .int) rfl rfl (Nat.le_of_ble_eq_true rfl) ?_
    refine ARun.nil ?_
    refine AW.seq ?_
    refine AW.seq ?_
    refine AW.any (by kernel_rfl) (by kernel_rfl) ?_
    refine AD.pure (PureOp.fieldPtr rfl (.tmp rfl) vp_fi_49_2_2) rfl rfl (Nat.le_of_ble_eq_true rfl) ?_
    refine AD.pure (PureOp.loadPtr rfl (.tmp rfl) vp_pl_22 rfl rfl (Nat.le_of_ble_eq_true rfl) (Nat.le_of_ble_eq_true rfl)) rfl rfl (Nat.le_of_ble_eq_true rfl) ?_
    refine AD.pure (PureOp.fieldPtr rfl (.tmp rfl) vp_fi_49_4_4) rfl rfl (Nat.le_of_ble_eq_true rfl) ?_
    refine AD.pure (PureOp.loadPtr rfl (.tmp rfl) vp_pl_25 rfl rfl (Nat.le_of_ble_eq_true rfl) (Nat.le_of_ble_eq_true rfl)) rfl rfl (Nat.le_of_ble_eq_true rfl) ?_
    refine AD.fresh (FreshOp.callS rfl (v_Concat b.cFound ok4 (by omega)) ⟨⟨_, (.tmp rfl), .lst⟩, trivial⟩ vp_ca_96 rfl) rfl rfl (Nat.le_of_ble_eq_true rfl) ?_
    refine AD.fresh (FreshOp.row2 (f := fun i0 _ => .lst 1 ((([b.cKept, b.cFound.flatten]).getD i0 []).length) (fun i1 _ => .int .i64 ((([b.cKept, b.cFound.flatten]).getD i0 []).getD i1 0))) rfl (.tmp rfl) (.tmp rfl) .lst .frs Try.underlying25 (by kernel_rfl) rfl rfl) rfl rfl (Nat.le_of_ble_eq_true rfl) ?_
    refine AD.fresh (FreshOp.callS rfl (v_Concat [b.cKept, b.cFound.flatten] (okTwo ok3 ok4) (totTwo (by omega) (by omega))) ⟨⟨_, (.tmp rfl), .lst⟩, trivial⟩ vp_ca_96 rfl) rfl rfl (Nat.le_of_ble_eq_true rfl) ?_
    refine AD.pure (PureOp.lenLst rfl (.frs (.tmp rfl)) vp_sl_22) rfl rfl (Nat.le_of_ble_eq_true rfl) ?_
    refine AD.pure (PureOp.move rfl .int) rfl rfl (Nat.le_of_ble_eq_true rfl) ?_
    refine AD.nil ?_
    refine AW.block ?_
    refine AW.loop (ι := Nat) (fun k => ⟨[(4, .one (.int .i64 (wsum 0 (([b.cKept, b.cFound.flatten].flatten).take k)))), (20, .one (.frs (.lst 1 (([b.cKept, b.cFound.flatten].flatten).length) (fun i0 _ => .int .i64 (([b.cKept, b.cFound.flatten].flatten).getD i0 0))))), (21, .one (.int .i64 ((([b.cKept, b.cFound.flatten].flatten).length : Nat) : Int))), (22, .one (.int .i64 (k : Int)))], []⟩) (fun k => k ≤ ([b.cKept, b.cFound.flatten].flatten).length) (fun k => ([b.cKept, b.cFound.flatten].flatten).length - k) 0 (Nat.zero_le _) ⟨⟨⟨_, rfl, rfl⟩, ⟨_, rfl, rfl⟩, ⟨_, rfl, rfl⟩, ⟨_, rfl, rfl⟩, trivial⟩, trivial⟩ ?_
    intro k hk
    refine AW.seq ?_
    refine AW.region ?_
    refine ARun.pure (PureOp.intOp rfl (.tmp rfl) (.tmp rfl) rfl) rfl rfl (Nat.le_of_ble_eq_true rfl) ?_
    refine ARun.nil ?_
    refine AW.seq ?_
    refine AW.cond (.tmp rfl) (fun hb6 => ?_) (fun hb6 => ?_)
    · have _u := True.intro
      replace hb6 := of_decide_eq_true hb6
      have hkl : k < ([b.cKept, b.cFound.flatten].flatten).length := by omega
      refine AW.skip ?_
      refine AW.seq ?_
      refine AW.block ?_
      refine AW.seq ?_
      refine AW.region ?_
      refine ARun.pure (PureOp.indexLst (i := k) rfl (.frs (.tmp rfl)) vp_el_22_1 (.tmp rfl) rfl (by omega)) rfl rfl (Nat.le_of_ble_eq_true rfl) ?_
      refine ARun.pure (PureOp.loadRef rfl (.tmp rfl) vp_pl_3 (Nat.le_of_ble_eq_true rfl)) rfl rfl (Nat.le_of_ble_eq_true rfl) ?_
      refine ARun.pure (PureOp.assign rfl (.tmp rfl)) rfl rfl (Nat.le_of_ble_eq_true rfl) ?_
      refine ARun.nil ?_
      refine AW.region ?_
      refine ARun.pure (PureOp.move rfl (.tmp rfl)) rfl rfl (Nat.le_of_ble_eq_true rfl) ?_
      refine ARun.pure (PureOp.move rfl (.tmp rfl)) rfl rfl (Nat.le_of_ble_eq_true rfl) ?_
      refine ARun.pure (PureOp.intOp rfl (.tmp rfl) (.tmp rfl) rfl) rfl rfl (Nat.le_of_ble_eq_true rfl) ?_
      refine ARun.pure (PureOp.assign rfl (.tmp rfl)) rfl rfl (Nat.le_of_ble_eq_true rfl) ?_
      refine ARun.nil ?_
      refine AW.region ?_
      refine ARun.pure (PureOp.add (c := ((k + 1 : Nat) : Int)) rfl (.tmp rfl) .int (by rw [wrap_id (by omega) (by omega)]; omega)) rfl rfl (Nat.le_of_ble_eq_true rfl) ?_
      refine ARun.pure (PureOp.move rfl (.tmp rfl)) rfl rfl (Nat.le_of_ble_eq_true rfl) ?_
      refine ARun.nil ?_
      exact ⟨k + 1, by omega, by dsimp only; omega, ⟨⟨⟨_, rfl, congrArg (fun z => SV.one (.int .i64 z)) (wsum_next hkl)⟩, ⟨_, rfl, rfl⟩, ⟨_, rfl, rfl⟩, ⟨_, rfl, rfl⟩, trivial⟩, trivial⟩⟩
    · have _u := True.intro
      replace hb6 := of_decide_eq_false hb6
      have hkl : ¬ k < ([b.cKept, b.cFound.flatten].flatten).length := by omega
      refine AW.exit ?_
      refine AW.seq ?_
      refine AW.region ?_
      refine ARun.pure (PureOp.move rfl (.tmp rfl)) rfl rfl (Nat.le_of_ble_eq_true rfl) ?_
      refine ARun.pure (PureOp.assign rfl (.tmp rfl)) rfl rfl (Nat.le_of_ble_eq_true rfl) ?_
      refine ARun.pure (PureOp.assign rfl .bool) rfl rfl (Nat.le_of_ble_eq_true rfl) ?_
      refine ARun.nil ?_
      refine AW.ret (show ResL _ _ [.tmp 2, .tmp 3] _ from res2I rfl rfl ?_)
      rw [hgc]; refine ⟨?_, rfl⟩
      rw [wsum_end hkl]; exact wsum_all _ _
end Go.Proofs.Ytlbnodmebehpiaa
