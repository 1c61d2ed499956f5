/-
  Part 4 of the proof: the texts of a seat's own library, joined.
-/
import Derived.Lib.SplitLaws
import Derived.Lib.AtoiTie
import Derived.Lib.ItoaLen
import Derived.Shelf.Strings.Split
import Derived.Shelf.Strconv.ErrVarAll
import Derived.Shelf.Strings.BuilderK
import Derived.Maps.AppendAt
import Derived.Lib.AppendZerosOnto
import Derived.Lib.AppendZeros
import Derived.WalkSpells
import Derived.Shelf.Abstract
import Derived.Laws.Append
import Derived.Test.YtonfeiloekofdaaGreatDoorM1
import Derived.Test.YtonfeiloekofdaaGreatDoorM2
import Derived.Test.YtonfeiloekofdaaGreatDoorM3
namespace Go.Proofs.YtonfeiloekofdaaGreatDoor
open Go.ChangeShapes Go.WideShapes Go.ChangeAt Go.RowKit Go.BigFrame Go.Deep
set_option linter.unusedVariables false
set_option linter.unusedSimpArgs false
theorem f52_ : sizeB Tryz.prog 43 1 = true := by kernel_rfl
theorem cnd_t {a b : Bool} (h : cond a b false = true) : a = true ∧ b = true := by revert a b; decide
theorem cnd_f {a b : Bool} (h : cond a b false = false) (ha : a = true) : b = false := by revert a b; decide
theorem loF_unique {h : GHead} {s : ByteArray} {k : Nat} (hk : k ≤ h.rows.length) (h1 : ∀ j, j < k → cmpS (h.rows.getD j (default : GRow)).name s < 0) (h2 : k < h.rows.length → ¬ cmpS (h.rows.getD k (default : GRow)).name s < 0) : loF h s = k := by
  have hle := loF_le h s
  rcases Nat.lt_trichotomy (loF h s) k with h3 | h3 | h3
  · have h4 := loF_at (h := h) (s := s) (by omega)
    have := h1 _ h3
    omega
  · exact h3
  · exact absurd (loF_lt h3) (h2 (by omega))
theorem isRow_c (h : GHead) (s : ByteArray) : isRow h s = cond (decide (((loF h s : Nat) : Int) < ((h.rows.length : Nat) : Int))) (decide ((h.rows.getD (loF h s) (default : GRow)).name = s)) false := by
  unfold isRow
  by_cases h1 : loF h s < h.rows.length
  · rw [decide_eq_true h1, decide_eq_true (show ((loF h s : Nat) : Int) < ((h.rows.length : Nat) : Int) by omega)]; rfl
  · rw [decide_eq_false h1, decide_eq_false (show ¬ ((loF h s : Nat) : Int) < ((h.rows.length : Nat) : Int) by omega)]; rfl
theorem addS_cell1 {h : GHead} {x : GSay} (hir : isRow h x.name = false) {i j : Nat} (hi : i < 1) (hj : j < 2) : ([.int .i64 x.at_, .int .i64 x.value] : List AV).getD j (.con undef) = ceSample ((addS h x).getD i (default : GSample)) j := by
  obtain rfl : i = 0 := by omega
  rw [addS_ins hir]
  exact (match j, hj with | 0, _ => rfl | 1, _ => rfl | _ + 2, h => absurd h (by omega))
abbrev newT (h : GHead) (x : GSay) : Nat → Nat → AV := fun _ jc => ([.str x.name, .tre 500 h.rows.length] : List AV).getD jc (.con undef)
theorem newT_no {h : GHead} {x : GSay} {id : Nat} (h1 : (500 == id) = false) (a b : Nat) : (newT h x a b).no id = true := match b with
  | 0 => rfl
  | 1 => by show (!(500 == id)) = true; rw [h1]; rfl
  | _ + 2 => rfl
theorem row_insT {h : GHead} {x : GSay} (hir : isRow h x.name = false) (hc : takeCode h x = 1) : ∀ a b, a < h.rows.length + 1 → b < 2 → rowC0 (takeH h x) 78 a b = insF (rowC0 h 500) (newT h x) (loF h x.name) a b ∨ ∃ p, p < h.rows.length + 1 ∧ insF (rowC0 h 500) (newT h x) (loF h x.name) a b = .tre 500 (pmI h.rows.length (loF h x.name) p) ∧ rowC0 (takeH h x) 78 a b = .tre 78 p := fun a b ha hb => match b, hb with
  | 0, _ => by
    refine .inl ?_
    unfold insF
    show AV.str ((takeH h x).rows.getD a (default : GRow)).name = _
    rw [tR_ins hir hc, insL_at _ (loF_le h x.name)]
    split
    · rfl
    · split <;> rfl
  | 1, _ => by
    refine .inr ⟨a, ha, ?_, rfl⟩
    unfold insF pmI
    by_cases e : a < loF h x.name
    · rw [if_pos e, if_pos e]; rfl
    · rw [if_neg e, if_neg e]
      by_cases e2 : a = loF h x.name
      · rw [if_pos e2, if_pos e2]; rfl
      · rw [if_neg e2, if_neg e2]; rfl
  | _ + 2, h => absurd h (by omega)
theorem v_l13Take0 (h : GHead) (x : GSay) (hg : goodHead ⟨h.rows, 0⟩ = true) (ho : 0 ≤ h.offset ∧ h.offset ≤ 1000000) : FnG Tryz.prog 41 [.agg [.own 1000001 2 h.rows.length, .int .i64 h.offset], .agg [.str x.name, .int .i64 x.at_, .int .i64 x.value]] [(1000001, .arr 2 h.rows.length (rowC0 h 1000002)), (1000002, .trees h.rows.length (rowX0 h))] (.tup2 (.agg [.own 77 2 (takeN h x), .int .i64 (takeH h x).offset]) (.one (.int .i64 ((takeCode h x : Nat) : Int)))) [(77, .arr 2 (takeN h x) (rowC0 (takeH h x) 78)), (78, .trees (takeN h x) (rowX0 (takeH h x)))] := by
 obtain ⟨ho0, ho1⟩ := ho
 have hr8 : h.rows.length ≤ 8 := good_len (h := ⟨h.rows, 0⟩) hg
 refine FnG.of_body (fn := Tryz.f41) Tryz.func41 rfl (nB rfl) ?_
 intro w0
 show AW _ 121 _ _ _ _
 refine AW.reindex 1000002 500 1000001 h.rows.length h.rows.length 2 h.rows.length id (rowX0 h) (rowC0 h 1000002) (rowC0 h 500) rfl rfl (fun _ hi => hi) (fun _ _ _ _ e => e) row_id ⟨rfl, (by repeat first | exact trivial | refine ⟨by decide, by first | rfl | exact trivial | (intro a_ b_; first | exact getD_no rfl | exact rowC0_no rfl _ _ | exact newT_no rfl _ _ | exact rowS_no rfl rfl _ _ | exact insF_no (rowC0_no rfl) (newT_no rfl) _ _ _ | ((try dsimp only); (repeat' split) <;> first | rfl | exact rowC0_no rfl _ _ | exact getD_no rfl | exact insF_no (rowC0_no rfl) (newT_no rfl) _ _ _)), ?_⟩)⟩ ?_
 refine AW.hle (H' := [(500, .trees h.rows.length (takeX h x)), (1000001, .arr 2 h.rows.length (rowC0 h 500))]) ⟨⟨_, rfl, fun _ hi => (takeX_lt hi).symm⟩, HeapLe.one rfl trivial⟩ ?_
 refine AW.seq ?_
 refine AW.region ?_
 refine ARun.box (id := 0) rfl (.tmp rfl) (SV.cells_of (by exact ⟨trivial, trivial, trivial⟩)) ⟨rfl, (by repeat first | exact trivial | refine ⟨by decide, by first | rfl | exact trivial | (intro a_ b_; first | exact getD_no rfl | exact rowC0_no rfl _ _ | exact newT_no rfl _ _ | exact rowS_no rfl rfl _ _ | exact insF_no (rowC0_no rfl) (newT_no rfl) _ _ _ | ((try dsimp only); (repeat' split) <;> first | rfl | exact rowC0_no rfl _ _ | exact getD_no rfl | exact insF_no (rowC0_no rfl) (newT_no rfl) _ _ _)), ?_⟩)⟩ rfl rfl rfl (nB rfl) ?_
 refine ARun.box (id := 1) rfl (.tmp rfl) (SV.cells_of (by exact ⟨trivial, trivial, trivial, trivial⟩)) ⟨rfl, (by repeat first | exact trivial | refine ⟨by decide, by first | rfl | exact trivial | (intro a_ b_; first | exact getD_no rfl | exact rowC0_no rfl _ _ | exact newT_no rfl _ _ | exact rowS_no rfl rfl _ _ | exact insF_no (rowC0_no rfl) (newT_no rfl) _ _ _ | ((try dsimp only); (repeat' split) <;> first | rfl | exact rowC0_no rfl _ _ | exact getD_no rfl | exact insF_no (rowC0_no rfl) (newT_no rfl) _ _ _)), ?_⟩)⟩ rfl rfl rfl (nB rfl) ?_
 refine ARun.alloc (id := 2) (l := [.con (.slice none 0 0), .int .i64 0]) (z := (.agg #[.slice none 0 0, .int .i64 0])) rfl (by kernel_rfl) (fun _ _ _ => ⟨_, _, rfl, rfl, ⟨_, _, rfl, rfl, rfl⟩⟩) ⟨rfl, (by repeat first | exact trivial | refine ⟨by decide, by first | rfl | exact trivial | (intro a_ b_; first | exact getD_no rfl | exact rowC0_no rfl _ _ | exact newT_no rfl _ _ | exact rowS_no rfl rfl _ _ | exact insF_no (rowC0_no rfl) (newT_no rfl) _ _ _ | ((try dsimp only); (repeat' split) <;> first | rfl | exact rowC0_no rfl _ _ | exact getD_no rfl | exact insF_no (rowC0_no rfl) (newT_no rfl) _ _ _)), ?_⟩)⟩ rfl rfl rfl (nB rfl) ?_
 refine pu (.assign rfl .int) rfl rfl rfl ?_
 refine ARun.nil ?_
 refine AW.seq ?_
 refine AW.region ?_
 refine pu (.fieldPtr rfl (.tmp rfl) f30_) rfl rfl rfl ?_
 refine pu (.loadPtr rfl (.tmp rfl) f9_ rfl rfl (nB rfl) (nB rfl)) rfl rfl rfl ?_
 refine pu (.add (c := h.offset + 1) rfl (.tmp rfl) .int (wrap_id (by omega) (by omega))) rfl rfl rfl ?_
 refine pu (.fieldPtr rfl (.tmp rfl) f30_) rfl rfl rfl ?_
 refine ARun.store rfl (.tmp rfl) (.tmp rfl) trivial rfl (nB rfl) f16_ rfl rfl ?_
 refine ARun.nil ?_
 refine AW.seq ?_
 refine AW.region ?_
 refine pu (.assign rfl .int) rfl rfl rfl ?_
 refine ARun.nil ?_
 refine AW.seq ?_
 refine AW.block ?_
 refine AW.loop (ι := Nat) (fun k => ⟨[(2, .one (.ptr 0 2 0 0)), (3, .one (.ptr 1 3 0 0)), (4, .one (.ptr 2 2 0 0)), (6, .one (.int .i64 (k : Int)))], [(0, .cells [.own 1000001 2 h.rows.length, .int .i64 (h.offset + 1)]), (1, .cells [.str x.name, .int .i64 x.at_, .int .i64 x.value]), (2, .cells [.con (.slice none 0 0), .int .i64 0]), (500, .trees h.rows.length (takeX h x)), (1000001, .arr 2 h.rows.length (rowC0 h 500))]⟩) (fun k => k ≤ h.rows.length ∧ ∀ j, j < k → cmpS (h.rows.getD j (default : GRow)).name x.name < 0) (fun k => h.rows.length - k) 0 ⟨Nat.zero_le _, fun j hj => absurd hj (by omega)⟩ ⟨⟨⟨_, rfl, rfl⟩, ⟨_, rfl, rfl⟩, ⟨_, rfl, rfl⟩, ⟨_, rfl, rfl⟩, trivial⟩, HeapLe.one rfl (HeapLe.one rfl (HeapLe.one rfl (HeapLe.one rfl (HeapLe.one rfl trivial))))⟩ ?_
 intro k hI
 obtain ⟨hk, hlt⟩ := hI
 refine AW.seq ?_
 refine AW.seq ?_
 refine AW.any (by kernel_rfl) (by kernel_rfl) ?_
 refine AD.pure (PureOp.move rfl (.tmp rfl)) rfl rfl (nB rfl) ?_
 refine AD.pure (PureOp.fieldPtr rfl (.tmp rfl) f29_) rfl rfl (nB rfl) ?_
 refine AD.pure (PureOp.loadPtr rfl (.tmp rfl) f33_ rfl rfl (nB rfl) (nB rfl)) rfl rfl (nB rfl) ?_
 refine AD.pure (PureOp.lenOwn rfl (.tmp rfl) f35_) rfl rfl (nB rfl) ?_
 refine AD.pure (PureOp.intOp rfl (.tmp rfl) (.tmp rfl) rfl) rfl rfl (nB rfl) ?_
 refine AD.pure (PureOp.move rfl (.tmp rfl)) rfl rfl (nB rfl) ?_
 refine AD.gpure (want := true) (.tt rfl) (fun hg1 => PureOp.fieldPtr rfl (.tmp rfl) f29_) rfl rfl rfl (nB rfl) ?_
 refine AD.gpure (want := true) (.tt rfl) (fun hg2 => PureOp.loadPtr rfl (.gtmp rfl hg2) f33_ rfl rfl (nB rfl) (nB rfl)) rfl rfl rfl (nB rfl) ?_
 refine AD.gpure (want := true) (.tt rfl) (fun hg3 => PureOp.move rfl (.tmp rfl)) rfl rfl rfl (nB rfl) ?_
 refine AD.gpure (want := true) (.tt rfl) (fun hg4 => PureOp.indexOwn (i := k) rfl (.gtmp rfl hg4) f28_ (.gtmp rfl hg4) rfl (by have q := hg4; simp only [Bool.cond_true_left, Bool.cond_false_right, Bool.not_eq_true', Bool.or_eq_false_iff, Bool.not_eq_false', Bool.and_eq_true, Bool.not_not, decide_eq_true_eq, decide_eq_false_iff_not, inB] at q; exact (show k < h.rows.length from by omega))) rfl rfl rfl (nB rfl) ?_
 refine AD.gpure (want := true) (.tt rfl) (fun hg5 => PureOp.fieldPtr rfl (.gtmp rfl hg5) f31_) rfl rfl rfl (nB rfl) ?_
 refine AD.gpure (want := true) (.tt rfl) (fun hg6 => PureOp.loadPtrE (y := .str ((h.rows.getD k (default : GRow)).name)) rfl (.gtmp rfl hg6) f12_ rfl rfl (by have q := hg6; simp only [Bool.cond_true_left, Bool.cond_false_right, Bool.not_eq_true', Bool.or_eq_false_iff, Bool.not_eq_false', Bool.and_eq_true, Bool.not_not, decide_eq_true_eq, decide_eq_false_iff_not, inB] at q; exact (show k < h.rows.length from by omega)) (nB rfl) rfl) rfl rfl rfl (nB rfl) ?_
 refine AD.gpure (want := true) (.tt rfl) (fun hg7 => PureOp.fieldPtr rfl (.tmp rfl) f45_) rfl rfl rfl (nB rfl) ?_
 refine AD.gpure (want := true) (.tt rfl) (fun hg8 => PureOp.loadPtr rfl (.gtmp rfl hg8) f12_ rfl rfl (nB rfl) (nB rfl)) rfl rfl rfl (nB rfl) ?_
 refine AD.gpure (want := true) (.tt rfl) (fun hg9 => PureOp.strOp rfl (.gtmp rfl hg9) (.gtmp rfl hg9) rfl) rfl rfl rfl (nB rfl) ?_
 refine AD.pure (PureOp.pick rfl (.tmp rfl) (fun hp10 => .gtmp rfl hp10) (fun _ => .bool)) rfl rfl (nB rfl) ?_
 refine AD.nil ?_
 refine AW.cond (.tmp rfl) (fun hb12 => ?_) (fun hb12 => ?_)
 ·
  obtain ⟨hb1_, hb2_⟩ := cnd_t hb12
  have hkl : k < h.rows.length := by have := of_decide_eq_true hb1_; omega
  have hls := (cmpS_lt _ _).2 hb2_
  refine AW.skip ?_
  refine AW.block ?_
  refine AW.region ?_
  refine pu (.move rfl (.tmp rfl)) rfl rfl rfl ?_
  refine pu (.add (c := ((k + 1 : Nat) : Int)) rfl (.tmp rfl) .int (by rw [wrap_id (by omega) (by omega)]; omega)) rfl rfl rfl ?_
  refine pu (.assign rfl (.tmp rfl)) rfl rfl rfl ?_
  refine ARun.nil ?_
  exact ⟨k + 1, ⟨by omega, fun j hj => (Nat.lt_succ_iff_lt_or_eq.1 hj).elim (hlt j) (fun e => e ▸ hls)⟩, by dsimp only; omega, ⟨⟨⟨_, rfl, rfl⟩, ⟨_, rfl, rfl⟩, ⟨_, rfl, rfl⟩, ⟨_, rfl, rfl⟩, trivial⟩, HeapLe.one rfl (HeapLe.one rfl (HeapLe.one rfl (HeapLe.one rfl (HeapLe.one rfl trivial))))⟩⟩
 ·
  have hlk : loF h x.name = k := loF_unique hk hlt (fun hkn hc => by have := (cmpS_lt _ _).1 hc; rw [cnd_f hb12 (decide_eq_true (by omega))] at this; cases this)
  subst hlk
  have hlo := loF_le h x.name
  refine AW.exit ?_
  refine AW.seq ?_
  refine AW.region ?_
  refine pu (.fieldPtr rfl (.tmp rfl) f46_) rfl rfl rfl ?_
  refine pu (.loadPtr rfl (.tmp rfl) f9_ rfl rfl (nB rfl) (nB rfl)) rfl rfl rfl ?_
  refine pu (.fieldPtr rfl (.tmp rfl) f47_) rfl rfl rfl ?_
  refine pu (.loadPtr rfl (.tmp rfl) f9_ rfl rfl (nB rfl) (nB rfl)) rfl rfl rfl ?_
  refine pu (.build (ys := [.int .i64 x.at_, .int .i64 x.value]) (l := [.int .i64 0, .int .i64 0]) (pl := [(0, 1), (1, 1)]) (z := (.agg #[.int .i64 0, .int .i64 0])) rfl (by kernel_rfl) (by kernel_rfl) (fun _ _ _ => ⟨_, _, rfl, rfl, ⟨_, _, rfl, rfl, rfl⟩⟩) ⟨(.tmp rfl), trivial, rfl, ⟨(.tmp rfl), trivial, rfl, trivial⟩⟩ rfl) rfl rfl rfl ?_
  refine ARun.alloc (id := 3) (l := [.int .i64 0, .int .i64 0]) (z := (.agg #[.int .i64 0, .int .i64 0])) rfl (by kernel_rfl) (fun _ _ _ => ⟨_, _, rfl, rfl, ⟨_, _, rfl, rfl, rfl⟩⟩) ⟨rfl, (by repeat first | exact trivial | refine ⟨by decide, by first | rfl | exact trivial | (intro a_ b_; first | exact getD_no rfl | exact rowC0_no rfl _ _ | exact newT_no rfl _ _ | exact rowS_no rfl rfl _ _ | exact insF_no (rowC0_no rfl) (newT_no rfl) _ _ _ | ((try dsimp only); (repeat' split) <;> first | rfl | exact rowC0_no rfl _ _ | exact getD_no rfl | exact insF_no (rowC0_no rfl) (newT_no rfl) _ _ _)), ?_⟩)⟩ rfl rfl rfl (nB rfl) ?_
  refine ARun.store rfl (.tmp rfl) (.tmp rfl) (SV.cells_of (by exact ⟨trivial, trivial, trivial⟩)) rfl (nB rfl) f25_ rfl rfl ?_
  refine ARun.nil ?_
  refine AW.seq ?_
  refine AW.seq ?_
  refine AW.any (by kernel_rfl) (by kernel_rfl) ?_
  refine AD.pure (PureOp.move rfl (.tmp rfl)) rfl rfl (nB rfl) ?_
  refine AD.pure (PureOp.fieldPtr rfl (.tmp rfl) f29_) rfl rfl (nB rfl) ?_
  refine AD.pure (PureOp.loadPtr rfl (.tmp rfl) f33_ rfl rfl (nB rfl) (nB rfl)) rfl rfl (nB rfl) ?_
  refine AD.pure (PureOp.lenOwn rfl (.tmp rfl) f35_) rfl rfl (nB rfl) ?_
  refine AD.pure (PureOp.intOp rfl (.tmp rfl) (.tmp rfl) rfl) rfl rfl (nB rfl) ?_
  refine AD.pure (PureOp.move rfl (.tmp rfl)) rfl rfl (nB rfl) ?_
  refine AD.gpure (want := true) (.tt rfl) (fun hg13 => PureOp.fieldPtr rfl (.tmp rfl) f29_) rfl rfl rfl (nB rfl) ?_
  refine AD.gpure (want := true) (.tt rfl) (fun hg14 => PureOp.loadPtr rfl (.gtmp rfl hg14) f33_ rfl rfl (nB rfl) (nB rfl)) rfl rfl rfl (nB rfl) ?_
  refine AD.gpure (want := true) (.tt rfl) (fun hg15 => PureOp.move rfl (.tmp rfl)) rfl rfl rfl (nB rfl) ?_
  refine AD.gpure (want := true) (.tt rfl) (fun hg16 => PureOp.indexOwn (i := (loF h x.name)) rfl (.gtmp rfl hg16) f28_ (.gtmp rfl hg16) rfl (by have q := hg16; simp only [Bool.cond_true_left, Bool.cond_false_right, Bool.not_eq_true', Bool.or_eq_false_iff, Bool.not_eq_false', Bool.and_eq_true, Bool.not_not, decide_eq_true_eq, decide_eq_false_iff_not, inB] at q; exact (show (loF h x.name) < h.rows.length from by omega))) rfl rfl rfl (nB rfl) ?_
  refine AD.gpure (want := true) (.tt rfl) (fun hg17 => PureOp.fieldPtr rfl (.gtmp rfl hg17) f31_) rfl rfl rfl (nB rfl) ?_
  refine AD.gpure (want := true) (.tt rfl) (fun hg18 => PureOp.loadPtrE (y := .str ((h.rows.getD (loF h x.name) (default : GRow)).name)) rfl (.gtmp rfl hg18) f12_ rfl rfl (by have q := hg18; simp only [Bool.cond_true_left, Bool.cond_false_right, Bool.not_eq_true', Bool.or_eq_false_iff, Bool.not_eq_false', Bool.and_eq_true, Bool.not_not, decide_eq_true_eq, decide_eq_false_iff_not, inB] at q; exact (show (loF h x.name) < h.rows.length from by omega)) (nB rfl) rfl) rfl rfl rfl (nB rfl) ?_
  refine AD.gpure (want := true) (.tt rfl) (fun hg19 => PureOp.fieldPtr rfl (.tmp rfl) f45_) rfl rfl rfl (nB rfl) ?_
  refine AD.gpure (want := true) (.tt rfl) (fun hg20 => PureOp.loadPtr rfl (.gtmp rfl hg20) f12_ rfl rfl (nB rfl) (nB rfl)) rfl rfl rfl (nB rfl) ?_
  refine AD.gpure (want := true) (.tt rfl) (fun hg21 => PureOp.strOp rfl (.gtmp rfl hg21) (.gtmp rfl hg21) rfl) rfl rfl rfl (nB rfl) ?_
  refine AD.pure (PureOp.pick rfl (.tmp rfl) (fun hp22 => .gtmp rfl hp22) (fun _ => .bool)) rfl rfl (nB rfl) ?_
  refine AD.nil ?_
  refine AW.cond (.tmp rfl) (fun hb24 => ?_) (fun hb24 => ?_)
  ·
   have hir : isRow h x.name = true := (isRow_c h x.name).trans hb24
   replace hlo := row_lo hir
   have hgr := good_at (h := ⟨h.rows, 0⟩) hg hlo
   have hs1 := hgr.2.1
   have hs2 := smp_40 hgr.2.2
   replace hs1 : 0 < (rowK h x).samples.length := hs1
   replace hs2 : (rowK h x).samples.length ≤ 40 := hs2
   refine AW.seq ?_
   refine AW.region ?_
   refine pu (.fieldPtr rfl (.tmp rfl) f29_) rfl rfl rfl ?_
   refine pu (.loadPtr rfl (.tmp rfl) f33_ rfl rfl (nB rfl) (nB rfl)) rfl rfl rfl ?_
   refine pu (.move rfl (.tmp rfl)) rfl rfl rfl ?_
   refine pu (.indexOwn (i := (loF h x.name)) rfl (.tmp rfl) f28_ (.tmp rfl) rfl (by exact (show (loF h x.name) < h.rows.length from by omega))) rfl rfl rfl ?_
   refine pu (.fieldPtr rfl (.tmp rfl) f32_) rfl rfl rfl ?_
   refine pu (.loadPtrE (y := .tre 500 (loF h x.name)) rfl (.tmp rfl) f34_ rfl rfl (by exact (show (loF h x.name) < h.rows.length from by omega)) (nB rfl) rfl) rfl rfl rfl ?_
   refine pu (.assign rfl (.tmp rfl)) rfl rfl rfl ?_
   refine ARun.nil ?_
   refine AW.seq ?_
   refine AW.region ?_
   refine pu (.move rfl (.tmp rfl)) rfl rfl rfl ?_
   refine pu (.move rfl (.tmp rfl)) rfl rfl rfl ?_
   refine pu (.lenTre (m := h.rows.length) (sz := 2) (n := (rowK h x).samples.length) (f := (fun a b => ceSample ((rowK h x).samples.getD a (default : GSample)) b)) rfl (.tmp rfl) rfl (by omega) ((takeX_lt (by omega)).trans rfl) f24_) rfl rfl rfl ?_
   refine pu (.sub (c := (((rowK h x).samples.length - 1 : Nat) : Int)) rfl (.tmp rfl) .int (by rw [wrap_id (by omega) (by omega)]; omega)) rfl rfl rfl ?_
   refine ARun.treeLoad (m := h.rows.length) (sz := 2) (n := (rowK h x).samples.length) (i := ((rowK h x).samples.length - 1)) (off := 0) (f := (fun a b => ceSample ((rowK h x).samples.getD a (default : GSample)) b)) (z := .int .i64 ((takeLast h x).at_)) rfl rfl rfl (.tmp rfl) rfl (by omega) ((takeX_lt (by omega)).trans rfl) f23_ (.tmp rfl) rfl (by omega) f48_ (by decide) f9_ rfl rfl rfl rfl rfl rfl rfl rfl (nB rfl) (nB rfl) (nB rfl) rfl rfl ?_
   refine pu (.assign rfl (.tmp rfl)) rfl rfl rfl ?_
   refine ARun.nil ?_
   refine AW.seq ?_
   refine AW.block ?_
   refine AW.seq ?_
   refine AW.region ?_
   refine pu (.move rfl (.tmp rfl)) rfl rfl rfl ?_
   refine pu (.fieldPtr rfl (.tmp rfl) f46_) rfl rfl rfl ?_
   refine pu (.loadPtr rfl (.tmp rfl) f9_ rfl rfl (nB rfl) (nB rfl)) rfl rfl rfl ?_
   refine pu (.intOp rfl (.tmp rfl) (.tmp rfl) rfl) rfl rfl rfl ?_
   refine pu (.assign rfl (.tmp rfl)) rfl rfl rfl ?_
   refine ARun.nil ?_
   refine AW.cond (.tmp rfl) (fun hb25 => ?_) (fun hb25 => ?_)
   ·
    replace hb25 := of_decide_eq_true hb25
    have hcode := tk_again hir hb25
    have hcn : ¬ takeCode h x = 1 := by omega
    refine AW.seq ?_
    refine AW.region ?_
    refine pu (.loadPtrAgg rfl (.tmp rfl) f26_ rfl rfl (nB rfl) (nB rfl)) rfl rfl rfl ?_
    refine ARun.store rfl (.tmp rfl) (.tmp rfl) (SV.cells_of (by exact ⟨trivial, trivial, trivial⟩)) rfl (nB rfl) f37_ rfl rfl ?_
    refine pu (.assign rfl .int) rfl rfl rfl ?_
    refine ARun.nil ?_
    rw [tN_old hcn, hcode]
    refine AW.moveCell 2 0 1000001 77 2 h.rows.length [.own 1000001 2 h.rows.length, .int .i64 (h.offset + 1)] [.own 77 2 h.rows.length, .int .i64 (h.offset + 1)] rfl rfl rfl rfl rfl (by decide) ⟨rfl, (by repeat first | exact trivial | refine ⟨by decide, by first | rfl | exact trivial | (intro a_ b_; first | exact getD_no rfl | exact rowC0_no rfl _ _ | exact newT_no rfl _ _ | exact rowS_no rfl rfl _ _ | exact insF_no (rowC0_no rfl) (newT_no rfl) _ _ _ | ((try dsimp only); (repeat' split) <;> first | rfl | exact rowC0_no rfl _ _ | exact getD_no rfl | exact insF_no (rowC0_no rfl) (newT_no rfl) _ _ _)), ?_⟩)⟩ ?_
    refine AW.reindex 500 78 77 h.rows.length h.rows.length 2 h.rows.length id (takeX h x) (rowC0 h 500) (rowC0 h 78) rfl rfl (fun _ hi => hi) (fun _ _ _ _ e => e) row_id ⟨rfl, (by repeat first | exact trivial | refine ⟨by decide, by first | rfl | exact trivial | (intro a_ b_; first | exact getD_no rfl | exact rowC0_no rfl _ _ | exact newT_no rfl _ _ | exact rowS_no rfl rfl _ _ | exact insF_no (rowC0_no rfl) (newT_no rfl) _ _ _ | ((try dsimp only); (repeat' split) <;> first | rfl | exact rowC0_no rfl _ _ | exact getD_no rfl | exact insF_no (rowC0_no rfl) (newT_no rfl) _ _ _)), ?_⟩)⟩ ?_
    exact AW.ret (show ResL _ _ [.cell 4 25, .tmp 5] _ ∧ HeapLe _ _ from ⟨.inr (.inl ⟨_, _, _, _, rfl, .cells rfl f26_ rfl rfl (nB rfl) (nB rfl), .tmp rfl, rfl⟩), ⟨⟨_, rfl, rfl, Nat.le_refl _, fun a b _ _ => rowC_old hcn 78 a b⟩, ⟨_, rfl, fun q hq => rowX_old hcn hq⟩, trivial⟩⟩)
   ·
    replace hb25 := of_decide_eq_false hb25
    have hc1 := hb25
    refine AW.seq ?_
    refine AW.region ?_
    refine pu (.move rfl (.tmp rfl)) rfl rfl rfl ?_
    refine pu (.fieldPtr rfl (.tmp rfl) f46_) rfl rfl rfl ?_
    refine pu (.loadPtr rfl (.tmp rfl) f9_ rfl rfl (nB rfl) (nB rfl)) rfl rfl rfl ?_
    refine pu (.intOp rfl (.tmp rfl) (.tmp rfl) rfl) rfl rfl rfl ?_
    refine pu (.assign rfl (.tmp rfl)) rfl rfl rfl ?_
    refine ARun.nil ?_
    refine AW.cond (.tmp rfl) (fun hb26 => ?_) (fun hb26 => ?_)
    ·
     replace hb26 := of_decide_eq_true hb26
     have hcode := tk_late hir hc1 hb26
     have hcn : ¬ takeCode h x = 1 := by omega
     refine AW.seq ?_
     refine AW.region ?_
     refine pu (.loadPtrAgg rfl (.tmp rfl) f26_ rfl rfl (nB rfl) (nB rfl)) rfl rfl rfl ?_
     refine ARun.store rfl (.tmp rfl) (.tmp rfl) (SV.cells_of (by exact ⟨trivial, trivial, trivial⟩)) rfl (nB rfl) f37_ rfl rfl ?_
     refine pu (.assign rfl .int) rfl rfl rfl ?_
     refine ARun.nil ?_
     rw [tN_old hcn, hcode]
     refine AW.moveCell 2 0 1000001 77 2 h.rows.length [.own 1000001 2 h.rows.length, .int .i64 (h.offset + 1)] [.own 77 2 h.rows.length, .int .i64 (h.offset + 1)] rfl rfl rfl rfl rfl (by decide) ⟨rfl, (by repeat first | exact trivial | refine ⟨by decide, by first | rfl | exact trivial | (intro a_ b_; first | exact getD_no rfl | exact rowC0_no rfl _ _ | exact newT_no rfl _ _ | exact rowS_no rfl rfl _ _ | exact insF_no (rowC0_no rfl) (newT_no rfl) _ _ _ | ((try dsimp only); (repeat' split) <;> first | rfl | exact rowC0_no rfl _ _ | exact getD_no rfl | exact insF_no (rowC0_no rfl) (newT_no rfl) _ _ _)), ?_⟩)⟩ ?_
     refine AW.reindex 500 78 77 h.rows.length h.rows.length 2 h.rows.length id (takeX h x) (rowC0 h 500) (rowC0 h 78) rfl rfl (fun _ hi => hi) (fun _ _ _ _ e => e) row_id ⟨rfl, (by repeat first | exact trivial | refine ⟨by decide, by first | rfl | exact trivial | (intro a_ b_; first | exact getD_no rfl | exact rowC0_no rfl _ _ | exact newT_no rfl _ _ | exact rowS_no rfl rfl _ _ | exact insF_no (rowC0_no rfl) (newT_no rfl) _ _ _ | ((try dsimp only); (repeat' split) <;> first | rfl | exact rowC0_no rfl _ _ | exact getD_no rfl | exact insF_no (rowC0_no rfl) (newT_no rfl) _ _ _)), ?_⟩)⟩ ?_
     exact AW.ret (show ResL _ _ [.cell 4 25, .tmp 5] _ ∧ HeapLe _ _ from ⟨.inr (.inl ⟨_, _, _, _, rfl, .cells rfl f26_ rfl rfl (nB rfl) (nB rfl), .tmp rfl, rfl⟩), ⟨⟨_, rfl, rfl, Nat.le_refl _, fun a b _ _ => rowC_old hcn 78 a b⟩, ⟨_, rfl, fun q hq => rowX_old hcn hq⟩, trivial⟩⟩)
    ·
     replace hb26 := of_decide_eq_false hb26
     have hc2 := hb26
     refine AW.seq ?_
     refine AW.region ?_
     refine pu (.move rfl (.tmp rfl)) rfl rfl rfl ?_
     refine pu (.lenTre (m := h.rows.length) (sz := 2) (n := (rowK h x).samples.length) (f := (fun a b => ceSample ((rowK h x).samples.getD a (default : GSample)) b)) rfl (.tmp rfl) rfl (by omega) ((takeX_lt (by omega)).trans rfl) f24_) rfl rfl rfl ?_
     refine pu (.intOp rfl (.tmp rfl) .int rfl) rfl rfl rfl ?_
     refine pu (.assign rfl (.tmp rfl)) rfl rfl rfl ?_
     refine ARun.nil ?_
     refine AW.cond (.tmp rfl) (fun hb27 => ?_) (fun hb27 => ?_)
     ·
      replace hb27 := of_decide_eq_true hb27
      have hcode := tk_full hir hc1 hc2 (show (rowK h x).samples.length = 40 from by omega)
      have hcn : ¬ takeCode h x = 1 := by omega
      refine AW.seq ?_
      refine AW.region ?_
      refine pu (.loadPtrAgg rfl (.tmp rfl) f26_ rfl rfl (nB rfl) (nB rfl)) rfl rfl rfl ?_
      refine ARun.store rfl (.tmp rfl) (.tmp rfl) (SV.cells_of (by exact ⟨trivial, trivial, trivial⟩)) rfl (nB rfl) f37_ rfl rfl ?_
      refine pu (.assign rfl .int) rfl rfl rfl ?_
      refine ARun.nil ?_
      rw [tN_old hcn, hcode]
      refine AW.moveCell 2 0 1000001 77 2 h.rows.length [.own 1000001 2 h.rows.length, .int .i64 (h.offset + 1)] [.own 77 2 h.rows.length, .int .i64 (h.offset + 1)] rfl rfl rfl rfl rfl (by decide) ⟨rfl, (by repeat first | exact trivial | refine ⟨by decide, by first | rfl | exact trivial | (intro a_ b_; first | exact getD_no rfl | exact rowC0_no rfl _ _ | exact newT_no rfl _ _ | exact rowS_no rfl rfl _ _ | exact insF_no (rowC0_no rfl) (newT_no rfl) _ _ _ | ((try dsimp only); (repeat' split) <;> first | rfl | exact rowC0_no rfl _ _ | exact getD_no rfl | exact insF_no (rowC0_no rfl) (newT_no rfl) _ _ _)), ?_⟩)⟩ ?_
      refine AW.reindex 500 78 77 h.rows.length h.rows.length 2 h.rows.length id (takeX h x) (rowC0 h 500) (rowC0 h 78) rfl rfl (fun _ hi => hi) (fun _ _ _ _ e => e) row_id ⟨rfl, (by repeat first | exact trivial | refine ⟨by decide, by first | rfl | exact trivial | (intro a_ b_; first | exact getD_no rfl | exact rowC0_no rfl _ _ | exact newT_no rfl _ _ | exact rowS_no rfl rfl _ _ | exact insF_no (rowC0_no rfl) (newT_no rfl) _ _ _ | ((try dsimp only); (repeat' split) <;> first | rfl | exact rowC0_no rfl _ _ | exact getD_no rfl | exact insF_no (rowC0_no rfl) (newT_no rfl) _ _ _)), ?_⟩)⟩ ?_
      exact AW.ret (show ResL _ _ [.cell 4 25, .tmp 5] _ ∧ HeapLe _ _ from ⟨.inr (.inl ⟨_, _, _, _, rfl, .cells rfl f26_ rfl rfl (nB rfl) (nB rfl), .tmp rfl, rfl⟩), ⟨⟨_, rfl, rfl, Nat.le_refl _, fun a b _ _ => rowC_old hcn 78 a b⟩, ⟨_, rfl, fun q hq => rowX_old hcn hq⟩, trivial⟩⟩)
     ·
      replace hb27 := of_decide_eq_false hb27
      have hcode := tk_new hir hc1 hc2 (show ¬ (rowK h x).samples.length = 40 from by omega)
      refine AW.skip ?_
      refine AW.seq ?_
      refine AW.anyX [⟨[], [], [], []⟩, ⟨[0], [], [], []⟩, ⟨[], [], [], []⟩, ⟨[], [4, 500, 501, 1000001], [4, 501], [(4, .arr 2 ((rowK h x).samples.length) (fun a b => ceSample ((rowK h x).samples.getD a (default : GSample)) b)), (501, .trees (h.rows.length - 1) (takeY h x)), (1000001, .arr 2 h.rows.length (rowS h (loF h x.name)))]⟩, ⟨[3], [], [], []⟩, ⟨[], [5], [5], [(5, .arr 2 1 (fun _ jc => ([.int .i64 x.at_, .int .i64 x.value] : List AV).getD jc (.con undef)))]⟩, ⟨[], [4, 5, 6, 78, 501, 1000001], [6, 78], [(5, .arr 2 1 (fun _ jc => ([.int .i64 x.at_, .int .i64 x.value] : List AV).getD jc (.con undef))), (78, .trees h.rows.length (rowX0 (takeH h x))), (1000001, .arr 2 h.rows.length (fun a b => if a = (loF h x.name) ∧ b = 1 then .tre 500 (loF h x.name) else rowC0 h 78 a b))]⟩, ⟨[], [], [], []⟩, ⟨[], [], [], []⟩, ⟨[], [1000001], [], [(1000001, .arr 2 h.rows.length (fun a b => if a = (loF h x.name) ∧ b = 1 then .tre 78 (loF h x.name) else (fun a b => if a = (loF h x.name) ∧ b = 1 then .tre 500 (loF h x.name) else rowC0 h 78 a b : Nat → Nat → AV) a b))]⟩] (by kernel_rfl) (by kernel_rfl) (by kernel_rfl) (by repeat' first | exact trivial | exact .inl rfl | exact .inr (.inr trivial) | exact .inr (.inl (by decide +kernel)) | exact .inr (.inr (by repeat first | exact trivial | refine And.intro ?_ ?_ | exact rfl | ((intro a_ b_; first | exact getD_no rfl | exact rowC0_no rfl _ _ | exact newT_no rfl _ _ | exact rowS_no rfl rfl _ _ | exact insF_no (rowC0_no rfl) (newT_no rfl) _ _ _ | ((try dsimp only); (repeat' split) <;> first | rfl | exact rowC0_no rfl _ _ | exact getD_no rfl | exact insF_no (rowC0_no rfl) (newT_no rfl) _ _ _))))) | refine ⟨?_, ?_⟩) ⟨trivial, trivial, trivial, ⟨(by repeat first | exact trivial | refine ⟨by decide, by first | rfl | exact trivial | (intro a_ b_; first | exact getD_no rfl | exact rowC0_no rfl _ _ | exact newT_no rfl _ _ | exact rowS_no rfl rfl _ _ | exact insF_no (rowC0_no rfl) (newT_no rfl) _ _ _ | ((try dsimp only); (repeat' split) <;> first | rfl | exact rowC0_no rfl _ _ | exact getD_no rfl | exact insF_no (rowC0_no rfl) (newT_no rfl) _ _ _)), ?_⟩), (by repeat first | exact trivial | refine ⟨by decide, by first | rfl | exact trivial | (intro a_ b_; first | exact getD_no rfl | exact rowC0_no rfl _ _ | exact newT_no rfl _ _ | exact rowS_no rfl rfl _ _ | exact insF_no (rowC0_no rfl) (newT_no rfl) _ _ _ | ((try dsimp only); (repeat' split) <;> first | rfl | exact rowC0_no rfl _ _ | exact getD_no rfl | exact insF_no (rowC0_no rfl) (newT_no rfl) _ _ _)), ?_⟩), trivial⟩, trivial, ⟨(by repeat first | exact trivial | refine ⟨by decide, by first | rfl | exact trivial | (intro a_ b_; first | exact getD_no rfl | exact rowC0_no rfl _ _ | exact newT_no rfl _ _ | exact rowS_no rfl rfl _ _ | exact insF_no (rowC0_no rfl) (newT_no rfl) _ _ _ | ((try dsimp only); (repeat' split) <;> first | rfl | exact rowC0_no rfl _ _ | exact getD_no rfl | exact insF_no (rowC0_no rfl) (newT_no rfl) _ _ _)), ?_⟩), trivial⟩, ⟨(by repeat first | exact trivial | refine ⟨by decide, by first | rfl | exact trivial | (intro a_ b_; first | exact getD_no rfl | exact rowC0_no rfl _ _ | exact newT_no rfl _ _ | exact rowS_no rfl rfl _ _ | exact insF_no (rowC0_no rfl) (newT_no rfl) _ _ _ | ((try dsimp only); (repeat' split) <;> first | rfl | exact rowC0_no rfl _ _ | exact getD_no rfl | exact insF_no (rowC0_no rfl) (newT_no rfl) _ _ _)), ?_⟩), (by repeat first | exact trivial | refine ⟨by decide, by first | rfl | exact trivial | (intro a_ b_; first | exact getD_no rfl | exact rowC0_no rfl _ _ | exact newT_no rfl _ _ | exact rowS_no rfl rfl _ _ | exact insF_no (rowC0_no rfl) (newT_no rfl) _ _ _ | ((try dsimp only); (repeat' split) <;> first | rfl | exact rowC0_no rfl _ _ | exact getD_no rfl | exact insF_no (rowC0_no rfl) (newT_no rfl) _ _ _)), ?_⟩), trivial⟩, trivial, trivial, trivial, trivial⟩ ?_
      refine ADX.pure [] (PureOp.fieldPtr rfl (.tmp rfl) f29_) rfl rfl (nB rfl) trivial rfl ?_
      refine ADX.pure [(0, .cells [.own 1000001 2 h.rows.length, .int .i64 (h.offset + 1)])] (PureOp.loadPtr rfl (.tmp rfl) f33_ rfl rfl (nB rfl) (nB rfl)) rfl rfl (nB rfl) ⟨rfl, trivial⟩ rfl ?_
      refine ADX.pure [] (PureOp.move rfl (.tmp rfl)) rfl rfl (nB rfl) trivial rfl ?_
      refine ADX.eff (tk := [4, 500, 501, 1000001]) (new := [4, 501]) (s := .one (.own 4 2 ((rowK h x).samples.length))) (F := [(87, .one (.own 4 2 ((rowK h x).samples.length))), (87, .one (.tre 500 (loF h x.name)))]) (Hin := [(500, .trees h.rows.length (takeX h x)), (1000001, .arr 2 h.rows.length (rowC0 h 500))]) (Hout := [(4, .arr 2 ((rowK h x).samples.length) (fun a b => ceSample ((rowK h x).samples.getD a (default : GSample)) b)), (501, .trees (h.rows.length - 1) (takeY h x)), (1000001, .arr 2 h.rows.length (rowS h (loF h x.name)))]) (fun E X hE hX Q rest hk => ?_) ⟨rfl, rfl, trivial⟩ ⟨rfl, rfl⟩ rfl rfl rfl rfl ⟨(by repeat first | exact trivial | refine ⟨by decide, by first | rfl | exact trivial | (intro a_ b_; first | exact getD_no rfl | exact rowC0_no rfl _ _ | exact newT_no rfl _ _ | exact rowS_no rfl rfl _ _ | exact insF_no (rowC0_no rfl) (newT_no rfl) _ _ _ | ((try dsimp only); (repeat' split) <;> first | rfl | exact rowC0_no rfl _ _ | exact getD_no rfl | exact insF_no (rowC0_no rfl) (newT_no rfl) _ _ _)), ?_⟩), (by repeat first | exact trivial | refine ⟨by decide, by first | rfl | exact trivial | (intro a_ b_; first | exact getD_no rfl | exact rowC0_no rfl _ _ | exact newT_no rfl _ _ | exact rowS_no rfl rfl _ _ | exact insF_no (rowC0_no rfl) (newT_no rfl) _ _ _ | ((try dsimp only); (repeat' split) <;> first | rfl | exact rowC0_no rfl _ _ | exact getD_no rfl | exact insF_no (rowC0_no rfl) (newT_no rfl) _ _ _)), ?_⟩), trivial⟩ rfl (fun _ e => by cases e; exact nB rfl) ?_
      ·
       refine pu (.move rfl (.tmp rfl)) rfl rfl rfl ?_
       refine ARun.takeOut 87 500 (loF h x.name) h.rows.length 2 (rowK h x).samples.length 4 (takeX h x) (fun a b => ceSample ((rowK h x).samples.getD a (default : GSample)) b) rfl rfl (by omega) ((takeX_lt (by omega)).trans rfl) rfl (fun i j hi hj => match j, hj with | 0, _ => rfl | 1, _ => rfl | _ + 2, h => absurd h (by omega)) (fun _ _ => getD_no rfl) (by repeat first | exact Fr.ext2 ⟨rfl, (by repeat first | exact trivial | refine ⟨by decide, by first | rfl | exact trivial | (intro a_ b_; first | exact getD_no rfl | exact rowC0_no rfl _ _ | exact newT_no rfl _ _ | exact rowS_no rfl rfl _ _ | exact insF_no (rowC0_no rfl) (newT_no rfl) _ _ _ | ((try dsimp only); (repeat' split) <;> first | rfl | exact rowC0_no rfl _ _ | exact getD_no rfl | exact insF_no (rowC0_no rfl) (newT_no rfl) _ _ _)), ?_⟩)⟩ hE hX rfl rfl | refine Fr.consE rfl ?_ | refine Fr.consH (by decide) (by first | rfl | exact trivial | (intro a_ b_; first | exact getD_no rfl | exact rowC0_no rfl _ _ | exact newT_no rfl _ _ | exact rowS_no rfl rfl _ _ | exact insF_no (rowC0_no rfl) (newT_no rfl) _ _ _ | ((try dsimp only); (repeat' split) <;> first | rfl | exact rowC0_no rfl _ _ | exact getD_no rfl | exact insF_no (rowC0_no rfl) (newT_no rfl) _ _ _))) ?_ | refine Fr.filt ?_) (fun vv => ?_)
       refine ARun.reindex 500 501 1000001 h.rows.length (h.rows.length - 1) 2 h.rows.length (skP (loF h x.name)) (fun i => if i = (loF h x.name) then .con vv else takeX h x i) (rowC0 h 500) (rowS h (loF h x.name)) rfl rfl (skP_lt hlo) skP_inj (row_skip hlo) (by repeat first | exact Fr.ext2 ⟨rfl, (by repeat first | exact trivial | refine ⟨by decide, by first | rfl | exact trivial | (intro a_ b_; first | exact getD_no rfl | exact rowC0_no rfl _ _ | exact newT_no rfl _ _ | exact rowS_no rfl rfl _ _ | exact insF_no (rowC0_no rfl) (newT_no rfl) _ _ _ | ((try dsimp only); (repeat' split) <;> first | rfl | exact rowC0_no rfl _ _ | exact getD_no rfl | exact insF_no (rowC0_no rfl) (newT_no rfl) _ _ _)), ?_⟩)⟩ hE hX rfl rfl | refine Fr.consE rfl ?_ | refine Fr.consH (by decide) (by first | rfl | exact trivial | (intro a_ b_; first | exact getD_no rfl | exact rowC0_no rfl _ _ | exact newT_no rfl _ _ | exact rowS_no rfl rfl _ _ | exact insF_no (rowC0_no rfl) (newT_no rfl) _ _ _ | ((try dsimp only); (repeat' split) <;> first | rfl | exact rowC0_no rfl _ _ | exact getD_no rfl | exact insF_no (rowC0_no rfl) (newT_no rfl) _ _ _))) ?_ | refine Fr.filt ?_) ?_
       refine ARun.hleX ?_ ?_ hk
       ·
        exact ⟨HLe.refl rfl, ⟨_, rfl, fun q hq => takeY_hole hq⟩, HLe.refl rfl, trivial⟩
       ·
        repeat (first | exact LkX.refl | refine LkX.cons (hX.none rfl) ?_ | refine LkX.filter (hX.none rfl) ?_)
      refine ADX.pure [(3, .cells [.int .i64 x.at_, .int .i64 x.value])] (PureOp.loadPtrAgg rfl (.tmp rfl) f21_ rfl rfl (nB rfl) (nB rfl)) rfl rfl (nB rfl) ⟨rfl, trivial⟩ rfl ?_
      refine ADX.eff (tk := [5]) (new := [5]) (s := .one (.own 5 2 1)) (F := [(89, .one (.own 5 2 1))]) (Hin := []) (Hout := [(5, .arr 2 1 (fun _ jc => ([.int .i64 x.at_, .int .i64 x.value] : List AV).getD jc (.con undef)))]) (fun E X hE hX Q rest hk => ?_) trivial ⟨rfl, rfl⟩ rfl rfl rfl rfl ⟨(by repeat first | exact trivial | refine ⟨by decide, by first | rfl | exact trivial | (intro a_ b_; first | exact getD_no rfl | exact rowC0_no rfl _ _ | exact newT_no rfl _ _ | exact rowS_no rfl rfl _ _ | exact insF_no (rowC0_no rfl) (newT_no rfl) _ _ _ | ((try dsimp only); (repeat' split) <;> first | rfl | exact rowC0_no rfl _ _ | exact getD_no rfl | exact insF_no (rowC0_no rfl) (newT_no rfl) _ _ _)), ?_⟩), trivial⟩ rfl (fun _ e => by cases e; exact nB rfl) ?_
      ·
       refine ARun.slice1 (id := 5) (z := (.agg #[.int .i64 0, .int .i64 0])) (by_ := 16) rfl (.tmp rfl) (SV.cells_of (by exact ⟨trivial, trivial, trivial⟩)) (by kernel_rfl) rfl rfl (by decide) (by decide) (Fr.ext2 ⟨rfl, (by repeat first | exact trivial | refine ⟨by decide, by first | rfl | exact trivial | (intro a_ b_; first | exact getD_no rfl | exact rowC0_no rfl _ _ | exact newT_no rfl _ _ | exact rowS_no rfl rfl _ _ | exact insF_no (rowC0_no rfl) (newT_no rfl) _ _ _ | ((try dsimp only); (repeat' split) <;> first | rfl | exact rowC0_no rfl _ _ | exact getD_no rfl | exact insF_no (rowC0_no rfl) (newT_no rfl) _ _ _)), ?_⟩)⟩ hE hX rfl rfl) rfl rfl rfl (nB rfl) ?_
       refine ARun.hleX ?_ ?_ hk
       ·
        exact HeapLe.one rfl trivial
       ·
        repeat (first | exact LkX.refl | refine LkX.cons (hX.none rfl) ?_ | refine LkX.filter (hX.none rfl) ?_)
      refine ADX.eff (tk := [4, 5, 6, 78, 501, 1000001]) (new := [6, 78]) (s := .one (.tre 78 (loF h x.name))) (F := [(90, .one (.tre 78 (loF h x.name))), (90, .one (.tre 501 (h.rows.length - 1))), (90, .one (.own 6 2 ((rowK h x).samples.length + 1)))]) (Hin := [(4, .arr 2 ((rowK h x).samples.length) (fun a b => ceSample ((rowK h x).samples.getD a (default : GSample)) b)), (5, .arr 2 1 (fun _ jc => ([.int .i64 x.at_, .int .i64 x.value] : List AV).getD jc (.con undef))), (501, .trees (h.rows.length - 1) (takeY h x)), (1000001, .arr 2 h.rows.length (rowS h (loF h x.name)))]) (Hout := [(5, .arr 2 1 (fun _ jc => ([.int .i64 x.at_, .int .i64 x.value] : List AV).getD jc (.con undef))), (78, .trees h.rows.length (rowX0 (takeH h x))), (1000001, .arr 2 h.rows.length (fun a b => if a = (loF h x.name) ∧ b = 1 then .tre 500 (loF h x.name) else rowC0 h 78 a b))]) (fun E X hE hX Q rest hk => ?_) ⟨rfl, rfl, rfl, rfl, trivial⟩ ⟨rfl, rfl⟩ rfl rfl rfl rfl ⟨(by repeat first | exact trivial | refine ⟨by decide, by first | rfl | exact trivial | (intro a_ b_; first | exact getD_no rfl | exact rowC0_no rfl _ _ | exact newT_no rfl _ _ | exact rowS_no rfl rfl _ _ | exact insF_no (rowC0_no rfl) (newT_no rfl) _ _ _ | ((try dsimp only); (repeat' split) <;> first | rfl | exact rowC0_no rfl _ _ | exact getD_no rfl | exact insF_no (rowC0_no rfl) (newT_no rfl) _ _ _)), ?_⟩), (by repeat first | exact trivial | refine ⟨by decide, by first | rfl | exact trivial | (intro a_ b_; first | exact getD_no rfl | exact rowC0_no rfl _ _ | exact newT_no rfl _ _ | exact rowS_no rfl rfl _ _ | exact insF_no (rowC0_no rfl) (newT_no rfl) _ _ _ | ((try dsimp only); (repeat' split) <;> first | rfl | exact rowC0_no rfl _ _ | exact getD_no rfl | exact insF_no (rowC0_no rfl) (newT_no rfl) _ _ _)), ?_⟩), trivial⟩ rfl (fun _ e => by cases e; exact nB rfl) ?_
      ·
       refine ARun.append (id := 6) (sz := 2) (n := (rowK h x).samples.length) (m := 1) (by_ := 16) (z := (.agg #[.int .i64 0, .int .i64 0])) (f := fun a b => ceSample ((rowK h x).samples.getD a (default : GSample)) b) (g := fun _ jc => ([.int .i64 x.at_, .int .i64 x.value] : List AV).getD jc (.con undef)) (h := fun ia ja => if ia < (rowK h x).samples.length then (fun a b => ceSample ((rowK h x).samples.getD a (default : GSample)) b : Nat → Nat → AV) ia ja else (fun _ jc => ([.int .i64 x.at_, .int .i64 x.value] : List AV).getD jc (.con undef) : Nat → Nat → AV) (ia - (rowK h x).samples.length) ja) rfl (by kernel_rfl) rfl f24_ (.own (.tmp rfl) rfl rfl rfl (Nat.le_refl _) (fun _ _ _ _ => rfl)) (.own (.tmp rfl) rfl rfl (show 1 ≤ 1 from by omega) (fun _ _ _ _ => rfl)) (by decide) (fun i j hi hj => match j, hj with | 0, _ => rfl | 1, _ => rfl | _ + 2, h => absurd h (by omega)) (fun _ _ _ _ => rfl) (by omega) (by omega) (by repeat first | exact Fr.ext2 ⟨rfl, (by repeat first | exact trivial | refine ⟨by decide, by first | rfl | exact trivial | (intro a_ b_; first | exact getD_no rfl | exact rowC0_no rfl _ _ | exact newT_no rfl _ _ | exact rowS_no rfl rfl _ _ | exact insF_no (rowC0_no rfl) (newT_no rfl) _ _ _ | ((try dsimp only); (repeat' split) <;> first | rfl | exact rowC0_no rfl _ _ | exact getD_no rfl | exact insF_no (rowC0_no rfl) (newT_no rfl) _ _ _)), ?_⟩)⟩ hE hX rfl rfl | refine Fr.consE rfl ?_ | refine Fr.consH (by decide) (by first | rfl | exact trivial | (intro a_ b_; first | exact getD_no rfl | exact rowC0_no rfl _ _ | exact newT_no rfl _ _ | exact rowS_no rfl rfl _ _ | exact insF_no (rowC0_no rfl) (newT_no rfl) _ _ _ | ((try dsimp only); (repeat' split) <;> first | rfl | exact rowC0_no rfl _ _ | exact getD_no rfl | exact insF_no (rowC0_no rfl) (newT_no rfl) _ _ _))) ?_ | refine Fr.filt ?_) (fun a_ b_ => by (try dsimp only); (repeat' split) <;> first | rfl | exact rowC0_no rfl _ _ | exact getD_no rfl) rfl rfl (nB rfl) ?_
       refine ARun.closeRow 90 6 501 (h.rows.length - 1) 2 ((rowK h x).samples.length + 1) (m' := (addS h x).length) (X := takeY h x) (g := fun a b => ceSample ((addS h x).getD a (default : GSample)) b) rfl rfl rfl rfl (Nat.le_refl _) rfl rfl (takeY_n h x) (by rw [addS_row hir, List.length_append]; rfl) (fun i j hi hj => (show (if i < (rowK h x).samples.length then _ else _) = _ from addS_cell hir hi hj)) (fun i j hi hj => match j, hj with | 0, _ => rfl | 1, _ => rfl | _ + 2, h => absurd h (by omega)) ?_
       refine ARun.reindexS 90 501 78 1000001 (h.rows.length - 1 + 1) h.rows.length 2 h.rows.length (loF h x.name) (pmI (h.rows.length - 1) (loF h x.name)) (takeY h x) (rowS h (loF h x.name)) (fun a b => if a = (loF h x.name) ∧ b = 1 then .tre 500 (loF h x.name) else rowC0 h 78 a b) (by rw [pmI_self]; rfl) (by omega) rfl rfl (pmI_lt' (by omega)) (pmI_inj' hlo) row_back (by repeat first | exact Fr.ext2 ⟨rfl, (by repeat first | exact trivial | refine ⟨by decide, by first | rfl | exact trivial | (intro a_ b_; first | exact getD_no rfl | exact rowC0_no rfl _ _ | exact newT_no rfl _ _ | exact rowS_no rfl rfl _ _ | exact insF_no (rowC0_no rfl) (newT_no rfl) _ _ _ | ((try dsimp only); (repeat' split) <;> first | rfl | exact rowC0_no rfl _ _ | exact getD_no rfl | exact insF_no (rowC0_no rfl) (newT_no rfl) _ _ _)), ?_⟩)⟩ hE hX rfl rfl | refine Fr.consE rfl ?_ | refine Fr.consH (by decide) (by first | rfl | exact trivial | (intro a_ b_; first | exact getD_no rfl | exact rowC0_no rfl _ _ | exact newT_no rfl _ _ | exact rowS_no rfl rfl _ _ | exact insF_no (rowC0_no rfl) (newT_no rfl) _ _ _ | ((try dsimp only); (repeat' split) <;> first | rfl | exact rowC0_no rfl _ _ | exact getD_no rfl | exact insF_no (rowC0_no rfl) (newT_no rfl) _ _ _))) ?_ | refine Fr.filt ?_) ?_
       refine ARun.hleX ?_ ?_ hk
       ·
        exact ⟨HLe.refl rfl, ⟨_, rfl, fun q hq => rowX_row hir hcode hq⟩, HLe.refl rfl, trivial⟩
       ·
        repeat (first | exact LkX.refl | refine LkX.cons (hX.none rfl) ?_ | refine LkX.filter (hX.none rfl) ?_)
      refine ADX.pure [] (PureOp.indexOwn (i := (loF h x.name)) rfl (.tmp rfl) f28_ (.tmp rfl) rfl (by exact (show (loF h x.name) < h.rows.length from by omega))) rfl rfl (nB rfl) trivial rfl ?_
      refine ADX.pure [] (PureOp.fieldPtr rfl (.tmp rfl) f32_) rfl rfl (nB rfl) trivial rfl ?_
      refine ADX.eff (tk := [1000001]) (new := []) (s := .one (.con undef)) (F := []) (Hin := [(1000001, .arr 2 h.rows.length (fun a b => if a = (loF h x.name) ∧ b = 1 then .tre 500 (loF h x.name) else rowC0 h 78 a b))]) (Hout := [(1000001, .arr 2 h.rows.length (fun a b => if a = (loF h x.name) ∧ b = 1 then .tre 78 (loF h x.name) else (fun a b => if a = (loF h x.name) ∧ b = 1 then .tre 500 (loF h x.name) else rowC0 h 78 a b : Nat → Nat → AV) a b))]) (fun E X hE hX Q rest hk => ?_) ⟨rfl, trivial⟩ ⟨rfl, rfl⟩ rfl rfl rfl rfl trivial rfl (fun _ e => by cases e) ?_
      ·
       refine ARun.storeArr rfl (.tmp rfl) (.tmp rfl) trivial rfl (by exact (show (loF h x.name) < h.rows.length from by omega)) (nB rfl) f52_ rfl rfl ?_
       refine ARun.hleX ?_ ?_ hk
       ·
        exact HeapLe.one rfl trivial
       ·
        repeat (first | exact LkX.refl | refine LkX.cons (hX.none rfl) ?_ | refine LkX.filter (hX.none rfl) ?_)
      refine ADX.nil (H := [(0, .cells [.own 1000001 2 h.rows.length, .int .i64 (h.offset + 1)]), (1, .cells [.str x.name, .int .i64 x.at_, .int .i64 x.value]), (2, .cells [.con (.slice none 0 0), .int .i64 0]), (3, .cells [.int .i64 x.at_, .int .i64 x.value]), (5, .arr 2 1 (fun _ jc => ([.int .i64 x.at_, .int .i64 x.value] : List AV).getD jc (.con undef))), (78, .trees h.rows.length (rowX0 (takeH h x))), (1000001, .arr 2 h.rows.length (fun a b => if a = (loF h x.name) ∧ b = 1 then .tre 78 (loF h x.name) else (fun a b => if a = (loF h x.name) ∧ b = 1 then .tre 500 (loF h x.name) else rowC0 h 78 a b : Nat → Nat → AV) a b))]) ?_ ?_
      ·
       exact HeapLe.one rfl (HeapLe.one rfl (HeapLe.one rfl (HeapLe.one rfl (HeapLe.one rfl (HeapLe.one rfl (HeapLe.one rfl trivial))))))
      refine AW.seq ?_
      refine AW.region ?_
      refine pu (.loadPtrAgg rfl (.tmp rfl) f26_ rfl rfl (nB rfl) (nB rfl)) rfl rfl rfl ?_
      refine ARun.store rfl (.tmp rfl) (.tmp rfl) (SV.cells_of (by exact ⟨trivial, trivial, trivial⟩)) rfl (nB rfl) f37_ rfl rfl ?_
      refine pu (.assign rfl .int) rfl rfl rfl ?_
      refine ARun.nil ?_
      rw [tN_row hir, hcode]
      refine AW.moveCell 2 0 1000001 77 2 h.rows.length [.own 1000001 2 h.rows.length, .int .i64 (h.offset + 1)] [.own 77 2 h.rows.length, .int .i64 (h.offset + 1)] rfl rfl rfl rfl rfl (by decide) ⟨rfl, (by repeat first | exact trivial | refine ⟨by decide, by first | rfl | exact trivial | (intro a_ b_; first | exact getD_no rfl | exact rowC0_no rfl _ _ | exact newT_no rfl _ _ | exact rowS_no rfl rfl _ _ | exact insF_no (rowC0_no rfl) (newT_no rfl) _ _ _ | ((try dsimp only); (repeat' split) <;> first | rfl | exact rowC0_no rfl _ _ | exact getD_no rfl | exact insF_no (rowC0_no rfl) (newT_no rfl) _ _ _)), ?_⟩)⟩ ?_
      exact AW.ret (show ResL _ _ [.cell 4 25, .tmp 5] _ ∧ HeapLe _ _ from ⟨.inr (.inl ⟨_, _, _, _, rfl, .cells rfl f26_ rfl rfl (nB rfl) (nB rfl), .tmp rfl, rfl⟩), ⟨⟨_, rfl, rfl, Nat.le_refl _, fun a b _ _ => rowC_row hir hcode 78 a b⟩, ⟨_, rfl, fun q hq => rfl⟩, trivial⟩⟩)
  ·
   have hir : isRow h x.name = false := (isRow_c h x.name).trans hb24
   refine AW.skip ?_
   refine AW.seq ?_
   refine AW.seq ?_
   refine AW.region ?_
   refine pu (.fieldPtr rfl (.tmp rfl) f29_) rfl rfl rfl ?_
   refine pu (.loadPtr rfl (.tmp rfl) f33_ rfl rfl (nB rfl) (nB rfl)) rfl rfl rfl ?_
   refine pu (.lenOwn rfl (.tmp rfl) f35_) rfl rfl rfl ?_
   refine pu (.intOp rfl (.tmp rfl) .int rfl) rfl rfl rfl ?_
   refine ARun.nil ?_
   refine AW.cond (.tmp rfl) (fun hb28 => ?_) (fun hb28 => ?_)
   ·
    replace hb28 := of_decide_eq_true hb28
    have hcode := tk_full8 hir (show h.rows.length = 8 from by omega)
    have hcn : ¬ takeCode h x = 1 := by omega
    refine AW.seq ?_
    refine AW.region ?_
    refine pu (.loadPtrAgg rfl (.tmp rfl) f26_ rfl rfl (nB rfl) (nB rfl)) rfl rfl rfl ?_
    refine ARun.store rfl (.tmp rfl) (.tmp rfl) (SV.cells_of (by exact ⟨trivial, trivial, trivial⟩)) rfl (nB rfl) f37_ rfl rfl ?_
    refine pu (.assign rfl .int) rfl rfl rfl ?_
    refine ARun.nil ?_
    rw [tN_old hcn, hcode]
    refine AW.moveCell 2 0 1000001 77 2 h.rows.length [.own 1000001 2 h.rows.length, .int .i64 (h.offset + 1)] [.own 77 2 h.rows.length, .int .i64 (h.offset + 1)] rfl rfl rfl rfl rfl (by decide) ⟨rfl, (by repeat first | exact trivial | refine ⟨by decide, by first | rfl | exact trivial | (intro a_ b_; first | exact getD_no rfl | exact rowC0_no rfl _ _ | exact newT_no rfl _ _ | exact rowS_no rfl rfl _ _ | exact insF_no (rowC0_no rfl) (newT_no rfl) _ _ _ | ((try dsimp only); (repeat' split) <;> first | rfl | exact rowC0_no rfl _ _ | exact getD_no rfl | exact insF_no (rowC0_no rfl) (newT_no rfl) _ _ _)), ?_⟩)⟩ ?_
    refine AW.reindex 500 78 77 h.rows.length h.rows.length 2 h.rows.length id (takeX h x) (rowC0 h 500) (rowC0 h 78) rfl rfl (fun _ hi => hi) (fun _ _ _ _ e => e) row_id ⟨rfl, (by repeat first | exact trivial | refine ⟨by decide, by first | rfl | exact trivial | (intro a_ b_; first | exact getD_no rfl | exact rowC0_no rfl _ _ | exact newT_no rfl _ _ | exact rowS_no rfl rfl _ _ | exact insF_no (rowC0_no rfl) (newT_no rfl) _ _ _ | ((try dsimp only); (repeat' split) <;> first | rfl | exact rowC0_no rfl _ _ | exact getD_no rfl | exact insF_no (rowC0_no rfl) (newT_no rfl) _ _ _)), ?_⟩)⟩ ?_
    exact AW.ret (show ResL _ _ [.cell 4 25, .tmp 5] _ ∧ HeapLe _ _ from ⟨.inr (.inl ⟨_, _, _, _, rfl, .cells rfl f26_ rfl rfl (nB rfl) (nB rfl), .tmp rfl, rfl⟩), ⟨⟨_, rfl, rfl, Nat.le_refl _, fun a b _ _ => rowC_old hcn 78 a b⟩, ⟨_, rfl, fun q hq => rowX_old hcn hq⟩, trivial⟩⟩)
   ·
    replace hb28 := of_decide_eq_false hb28
    have hcode := tk_ins hir (show ¬ h.rows.length = 8 from by omega)
    refine AW.skip ?_
    refine AW.seq ?_
    refine AW.region ?_
    refine ARun.slice0 (id := 7) (z := (.agg #[.string ByteArray.empty, .slice none 0 0])) (sz := 2) (by_ := 40) rfl (by kernel_rfl) (fun _ _ => .con undef) (fun _ _ => rfl) ⟨rfl, (by repeat first | exact trivial | refine ⟨by decide, by first | rfl | exact trivial | (intro a_ b_; first | exact getD_no rfl | exact rowC0_no rfl _ _ | exact newT_no rfl _ _ | exact rowS_no rfl rfl _ _ | exact insF_no (rowC0_no rfl) (newT_no rfl) _ _ _ | ((try dsimp only); (repeat' split) <;> first | rfl | exact rowC0_no rfl _ _ | exact getD_no rfl | exact insF_no (rowC0_no rfl) (newT_no rfl) _ _ _)), ?_⟩)⟩ rfl rfl (nB rfl) ?_
    refine pu (.fieldPtr rfl (.tmp rfl) f29_) rfl rfl rfl ?_
    refine pu (.loadPtr rfl (.tmp rfl) f33_ rfl rfl (nB rfl) (nB rfl)) rfl rfl rfl ?_
    refine pu (.move rfl (.tmp rfl)) rfl rfl rfl ?_
    refine pu (.takeOwn (k := (loF h x.name)) rfl (.tmp rfl) (.tmp rfl) rfl (by omega) f28_) rfl rfl rfl ?_
    refine ARun.append (id := 8) (sz := 2) (n := 0) (m := (loF h x.name)) (by_ := 40) (z := (.agg #[.string ByteArray.empty, .slice none 0 0])) (f := fun _ _ => .con undef) (g := rowC0 h 500) (h := fun ia ja => if ia < 0 then (fun _ _ => .con undef : Nat → Nat → AV) ia ja else (rowC0 h 500 : Nat → Nat → AV) (ia - 0) ja) rfl (by kernel_rfl) rfl f35_ (.own (.tmp rfl) rfl rfl rfl (Nat.le_refl _) (fun _ _ _ _ => rfl)) (.own (.tmp rfl) rfl rfl (show (loF h x.name) ≤ h.rows.length from by omega) (fun _ _ _ _ => rfl)) (by decide) (fun i j hi hj => match j, hj with | 0, _ => rfl | 1, _ => rfl | _ + 2, h => absurd h (by omega)) (fun _ _ _ _ => rfl) (by omega) (by omega) ⟨rfl, (by repeat first | exact trivial | refine ⟨by decide, by first | rfl | exact trivial | (intro a_ b_; first | exact getD_no rfl | exact rowC0_no rfl _ _ | exact newT_no rfl _ _ | exact rowS_no rfl rfl _ _ | exact insF_no (rowC0_no rfl) (newT_no rfl) _ _ _ | ((try dsimp only); (repeat' split) <;> first | rfl | exact rowC0_no rfl _ _ | exact getD_no rfl | exact insF_no (rowC0_no rfl) (newT_no rfl) _ _ _)), ?_⟩)⟩ (fun a_ b_ => by (try dsimp only); (repeat' split) <;> first | rfl | exact rowC0_no rfl _ _ | exact getD_no rfl) rfl rfl (nB rfl) ?_
    refine pu (.assign rfl (.tmp rfl)) rfl rfl rfl ?_
    refine ARun.nil ?_
    refine AW.seq ?_
    refine AW.region ?_
    refine pu (.move rfl (.tmp rfl)) rfl rfl rfl ?_
    refine pu (.fieldPtr rfl (.tmp rfl) f45_) rfl rfl rfl ?_
    refine pu (.loadPtr rfl (.tmp rfl) f12_ rfl rfl (nB rfl) (nB rfl)) rfl rfl rfl ?_
    refine pu (.loadPtrAgg rfl (.tmp rfl) f21_ rfl rfl (nB rfl) (nB rfl)) rfl rfl rfl ?_
    refine ARun.slice1 (id := 9) (z := (.agg #[.int .i64 0, .int .i64 0])) (by_ := 16) rfl (.tmp rfl) (SV.cells_of (by exact ⟨trivial, trivial, trivial⟩)) (by kernel_rfl) rfl rfl (by decide) (by decide) ⟨rfl, (by repeat first | exact trivial | refine ⟨by decide, by first | rfl | exact trivial | (intro a_ b_; first | exact getD_no rfl | exact rowC0_no rfl _ _ | exact newT_no rfl _ _ | exact rowS_no rfl rfl _ _ | exact insF_no (rowC0_no rfl) (newT_no rfl) _ _ _ | ((try dsimp only); (repeat' split) <;> first | rfl | exact rowC0_no rfl _ _ | exact getD_no rfl | exact insF_no (rowC0_no rfl) (newT_no rfl) _ _ _)), ?_⟩)⟩ rfl rfl rfl (nB rfl) ?_
    refine ARun.closeRow 109 9 500 h.rows.length 2 1 (m' := (addS h x).length) (X := takeX h x) (g := fun a b => ceSample ((addS h x).getD a (default : GSample)) b) rfl rfl rfl rfl (Nat.le_refl _) rfl rfl (takeX_n h x) (by rw [addS_ins hir]; rfl) (fun i j hi hj => addS_cell1 hir hi hj) (fun i j hi hj => match j, hj with | 0, _ => rfl | 1, _ => rfl | _ + 2, h => absurd h (by omega)) ?_
    refine pu (.build (ys := [.str x.name, .tre 500 h.rows.length]) (l := [.str ByteArray.empty, .con (.slice none 0 0)]) (pl := [(0, 1), (1, 1)]) (z := (.agg #[.string ByteArray.empty, .slice none 0 0])) rfl (by kernel_rfl) (by kernel_rfl) (fun _ _ _ => ⟨_, _, rfl, ⟨rfl, by decide⟩, ⟨_, _, rfl, rfl, rfl⟩⟩) ⟨(.tmp rfl), trivial, rfl, ⟨(.tmp rfl), trivial, rfl, trivial⟩⟩ rfl) rfl rfl rfl ?_
    refine ARun.slice1 (id := 10) (z := (.agg #[.string ByteArray.empty, .slice none 0 0])) (by_ := 40) rfl (.tmp rfl) (SV.cells_of (by exact ⟨trivial, trivial, trivial⟩)) (by kernel_rfl) rfl rfl (by decide) (by decide) ⟨rfl, (by repeat first | exact trivial | refine ⟨by decide, by first | rfl | exact trivial | (intro a_ b_; first | exact getD_no rfl | exact rowC0_no rfl _ _ | exact newT_no rfl _ _ | exact rowS_no rfl rfl _ _ | exact insF_no (rowC0_no rfl) (newT_no rfl) _ _ _ | ((try dsimp only); (repeat' split) <;> first | rfl | exact rowC0_no rfl _ _ | exact getD_no rfl | exact insF_no (rowC0_no rfl) (newT_no rfl) _ _ _)), ?_⟩)⟩ rfl rfl rfl (nB rfl) ?_
    refine ARun.append (id := 11) (sz := 2) (n := (0 + (loF h x.name))) (m := 1) (by_ := 40) (z := (.agg #[.string ByteArray.empty, .slice none 0 0])) (f := fun ia ja => if ia < 0 then (fun _ _ => .con undef : Nat → Nat → AV) ia ja else (rowC0 h 500 : Nat → Nat → AV) (ia - 0) ja) (g := fun _ jc => ([.str x.name, .tre 500 h.rows.length] : List AV).getD jc (.con undef)) (h := fun ia ja => if ia < (0 + (loF h x.name)) then (fun ia ja => if ia < 0 then (fun _ _ => .con undef : Nat → Nat → AV) ia ja else (rowC0 h 500 : Nat → Nat → AV) (ia - 0) ja : Nat → Nat → AV) ia ja else (fun _ jc => ([.str x.name, .tre 500 h.rows.length] : List AV).getD jc (.con undef) : Nat → Nat → AV) (ia - (0 + (loF h x.name))) ja) rfl (by kernel_rfl) rfl f35_ (.own (.tmp rfl) rfl rfl rfl (Nat.le_refl _) (fun _ _ _ _ => rfl)) (.own (.tmp rfl) rfl rfl (show 1 ≤ 1 from by omega) (fun _ _ _ _ => rfl)) (by decide) (fun i j hi hj => match j, hj with | 0, _ => rfl | 1, _ => rfl | _ + 2, h => absurd h (by omega)) (fun _ _ _ _ => rfl) (by omega) (by omega) ⟨rfl, (by repeat first | exact trivial | refine ⟨by decide, by first | rfl | exact trivial | (intro a_ b_; first | exact getD_no rfl | exact rowC0_no rfl _ _ | exact newT_no rfl _ _ | exact rowS_no rfl rfl _ _ | exact insF_no (rowC0_no rfl) (newT_no rfl) _ _ _ | ((try dsimp only); (repeat' split) <;> first | rfl | exact rowC0_no rfl _ _ | exact getD_no rfl | exact insF_no (rowC0_no rfl) (newT_no rfl) _ _ _)), ?_⟩)⟩ (fun a_ b_ => by (try dsimp only); (repeat' split) <;> first | rfl | exact rowC0_no rfl _ _ | exact getD_no rfl) rfl rfl (nB rfl) ?_
    refine pu (.assign rfl (.tmp rfl)) rfl rfl rfl ?_
    refine ARun.nil ?_
    refine AW.seq ?_
    refine AW.region ?_
    refine pu (.move rfl (.tmp rfl)) rfl rfl rfl ?_
    refine pu (.fieldPtr rfl (.tmp rfl) f29_) rfl rfl rfl ?_
    refine pu (.loadPtr rfl (.tmp rfl) f33_ rfl rfl (nB rfl) (nB rfl)) rfl rfl rfl ?_
    refine pu (.move rfl (.tmp rfl)) rfl rfl rfl ?_
    refine pu (.dropOwn (k := (loF h x.name)) rfl (.tmp rfl) (.tmp rfl) rfl (by omega) f28_) rfl rfl rfl ?_
    refine ARun.append (id := 12) (sz := 2) (n := ((0 + (loF h x.name)) + 1)) (m := (h.rows.length - (loF h x.name))) (by_ := 40) (z := (.agg #[.string ByteArray.empty, .slice none 0 0])) (f := fun ia ja => if ia < (0 + (loF h x.name)) then (fun ia ja => if ia < 0 then (fun _ _ => .con undef : Nat → Nat → AV) ia ja else (rowC0 h 500 : Nat → Nat → AV) (ia - 0) ja : Nat → Nat → AV) ia ja else (fun _ jc => ([.str x.name, .tre 500 h.rows.length] : List AV).getD jc (.con undef) : Nat → Nat → AV) (ia - (0 + (loF h x.name))) ja) (g := fun ia_ ja_ => (rowC0 h 500 : Nat → Nat → AV) ((loF h x.name) + ia_) ja_) (h := fun ia ja => if ia < ((0 + (loF h x.name)) + 1) then (fun ia ja => if ia < (0 + (loF h x.name)) then (fun ia ja => if ia < 0 then (fun _ _ => .con undef : Nat → Nat → AV) ia ja else (rowC0 h 500 : Nat → Nat → AV) (ia - 0) ja : Nat → Nat → AV) ia ja else (fun _ jc => ([.str x.name, .tre 500 h.rows.length] : List AV).getD jc (.con undef) : Nat → Nat → AV) (ia - (0 + (loF h x.name))) ja : Nat → Nat → AV) ia ja else (fun ia_ ja_ => (rowC0 h 500 : Nat → Nat → AV) ((loF h x.name) + ia_) ja_ : Nat → Nat → AV) (ia - ((0 + (loF h x.name)) + 1)) ja) rfl (by kernel_rfl) rfl f35_ (.own (.tmp rfl) rfl rfl rfl (Nat.le_refl _) (fun _ _ _ _ => rfl)) (KnR.tl (.tmp rfl) rfl rfl (Nat.le_refl _) rfl (fun _ _ _ _ => rfl)) (by decide) (fun i j hi hj => match j, hj with | 0, _ => rfl | 1, _ => rfl | _ + 2, h => absurd h (by omega)) (fun _ _ _ _ => rfl) (by omega) (by omega) ⟨rfl, (by repeat first | exact trivial | refine ⟨by decide, by first | rfl | exact trivial | (intro a_ b_; first | exact getD_no rfl | exact rowC0_no rfl _ _ | exact newT_no rfl _ _ | exact rowS_no rfl rfl _ _ | exact insF_no (rowC0_no rfl) (newT_no rfl) _ _ _ | ((try dsimp only); (repeat' split) <;> first | rfl | exact rowC0_no rfl _ _ | exact getD_no rfl | exact insF_no (rowC0_no rfl) (newT_no rfl) _ _ _)), ?_⟩)⟩ (fun a_ b_ => by (try dsimp only); (repeat' split) <;> first | rfl | exact rowC0_no rfl _ _ | exact getD_no rfl) rfl rfl (nB rfl) ?_
    refine pu (.fieldPtr rfl (.tmp rfl) f29_) rfl rfl rfl ?_
    refine ARun.store rfl (.tmp rfl) (.tmp rfl) trivial rfl (nB rfl) f36_ rfl rfl ?_
    refine ARun.nil ?_
    refine AW.seq ?_
    refine AW.region ?_
    refine pu (.loadPtrAgg rfl (.tmp rfl) f26_ rfl rfl (nB rfl) (nB rfl)) rfl rfl rfl ?_
    refine ARun.store rfl (.tmp rfl) (.tmp rfl) (SV.cells_of (by exact ⟨trivial, trivial, trivial⟩)) rfl (nB rfl) f37_ rfl rfl ?_
    refine pu (.assign rfl .int) rfl rfl rfl ?_
    refine ARun.nil ?_
    rw [tN_ins hir hcode, hcode]
    rw [show (((0 + (loF h x.name)) + 1) + (h.rows.length - (loF h x.name))) = h.rows.length + 1 from by omega]
    refine AW.hle (H' := [(2, .cells [.own 12 2 (h.rows.length + 1), .int .i64 (h.offset + 1)]), (12, .arr 2 (h.rows.length + 1) (insF (rowC0 h 500) (newT h x) (loF h x.name))), (500, .trees (h.rows.length + 1) (takeX h x))]) ⟨HLe.refl rfl, ⟨_, rfl, rfl, Nat.le_refl _, fun a b (ha : a < h.rows.length + 1) hb => by show (fun ia ja => if ia < ((0 + (loF h x.name)) + 1) then (fun ia ja => if ia < (0 + (loF h x.name)) then (fun ia ja => if ia < 0 then (fun _ _ => .con undef : Nat → Nat → AV) ia ja else (rowC0 h 500 : Nat → Nat → AV) (ia - 0) ja : Nat → Nat → AV) ia ja else (fun _ jc => ([.str x.name, .tre 500 h.rows.length] : List AV).getD jc (.con undef) : Nat → Nat → AV) (ia - (0 + (loF h x.name))) ja : Nat → Nat → AV) ia ja else (fun ia_ ja_ => (rowC0 h 500 : Nat → Nat → AV) ((loF h x.name) + ia_) ja_ : Nat → Nat → AV) (ia - ((0 + (loF h x.name)) + 1)) ja : Nat → Nat → AV) a b = insF (rowC0 h 500) (newT h x) (loF h x.name) a b; unfold insF; (try dsimp only); (repeat' split) <;> first | rfl | omega | exact congrArg (fun q => rowC0 h 500 q b) (by omega)⟩, HLe.refl rfl, trivial⟩ ?_
    refine AW.reindex 500 78 12 (h.rows.length + 1) (h.rows.length + 1) 2 (h.rows.length + 1) (pmI h.rows.length (loF h x.name)) (takeX h x) (insF (rowC0 h 500) (newT h x) (loF h x.name)) (rowC0 (takeH h x) 78) rfl rfl pmI_lt (pmI_inj hlo) (row_insT hir hcode) ⟨rfl, (by repeat first | exact trivial | refine ⟨by decide, by first | rfl | exact trivial | (intro a_ b_; first | exact getD_no rfl | exact rowC0_no rfl _ _ | exact newT_no rfl _ _ | exact rowS_no rfl rfl _ _ | exact insF_no (rowC0_no rfl) (newT_no rfl) _ _ _ | ((try dsimp only); (repeat' split) <;> first | rfl | exact rowC0_no rfl _ _ | exact getD_no rfl | exact insF_no (rowC0_no rfl) (newT_no rfl) _ _ _)), ?_⟩)⟩ ?_
    refine AW.moveCell 2 0 12 77 2 (h.rows.length + 1) [.own 12 2 (h.rows.length + 1), .int .i64 (h.offset + 1)] [.own 77 2 (h.rows.length + 1), .int .i64 (h.offset + 1)] rfl rfl rfl rfl rfl (by decide) ⟨rfl, (by repeat first | exact trivial | refine ⟨by decide, by first | rfl | exact trivial | (intro a_ b_; first | exact getD_no rfl | exact rowC0_no rfl _ _ | exact newT_no rfl _ _ | exact rowS_no rfl rfl _ _ | exact insF_no (rowC0_no rfl) (newT_no rfl) _ _ _ | ((try dsimp only); (repeat' split) <;> first | rfl | exact rowC0_no rfl _ _ | exact getD_no rfl | exact insF_no (rowC0_no rfl) (newT_no rfl) _ _ _)), ?_⟩)⟩ ?_
    exact AW.ret (show ResL _ _ [.cell 4 25, .tmp 5] _ ∧ HeapLe _ _ from ⟨.inr (.inl ⟨_, _, _, _, rfl, .cells rfl f26_ rfl rfl (nB rfl) (nB rfl), .tmp rfl, rfl⟩), ⟨⟨_, rfl, rfl, Nat.le_refl _, fun a b _ _ => rfl⟩, ⟨_, rfl, fun q hq => rowX_ins hir hcode hq⟩, trivial⟩⟩)
theorem v_l13Take (h : GHead) (x : GSay) (hg : goodHead ⟨h.rows, 0⟩ = true) (ho : 0 ≤ h.offset ∧ h.offset ≤ 1000000) : FnG Tryz.prog 41 [.agg [.own 1000001 2 h.rows.length, .int .i64 h.offset], .agg [.str x.name, .int .i64 x.at_, .int .i64 x.value]] [(1000001, .arr 2 h.rows.length (rowC0 h 1000002)), (1000002, .trees h.rows.length (rowX0 h))] (.tup2 (.agg [.own 77 2 (takeH h x).rows.length, .int .i64 (takeH h x).offset]) (.one (.int .i64 ((takeCode h x : Nat) : Int)))) [(77, .arr 2 (takeH h x).rows.length (rowC0 (takeH h x) 78)), (78, .trees (takeH h x).rows.length (rowX0 (takeH h x)))] := by
  have h1 := v_l13Take0 h x hg ho
  rw [takeN_len h x] at h1
  exact h1
end Go.Proofs.YtonfeiloekofdaaGreatDoor

namespace Go.Proofs.YtonfeiloekofdaaGreatDoor
open Go.ChangeShapes Go.WideShapes Go.ChangeAt Go.RowKit Go.BigFrame Go.Deep
set_option linter.unusedVariables false
set_option linter.unusedSimpArgs false
theorem less_total : ∀ {a b : List UInt8}, Op.bytesLess a b = false → a ≠ b → Op.bytesLess b a = true
  | [], [], _, h => absurd rfl h
  | [], _ :: _, h, _ => by simp [Op.bytesLess] at h
  | _ :: _, [], _, _ => by simp [Op.bytesLess]
  | x :: a, y :: b, h, hne => by
    simp only [Op.bytesLess, Bool.or_eq_false_iff, Bool.and_eq_false_iff, decide_eq_false_iff_not, beq_eq_false_iff_ne] at h
    simp only [Op.bytesLess, Bool.or_eq_true, Bool.and_eq_true, decide_eq_true_eq, beq_iff_eq]
    obtain ⟨h1, h2⟩ := h
    by_cases e : x = y
    · subst e
      refine .inr ⟨rfl, less_total (h2.resolve_left (fun h => h rfl)) (fun e => hne (by rw [e]))⟩
    · refine .inl ?_
      have : ¬ x.toNat < y.toNat := fun hc => h1 (by first | exact hc | exact UInt8.lt_iff_toNat_lt.2 hc)
      have h3 : x.toNat ≠ y.toNat := fun hc => e (UInt8.toNat_inj.1 hc)
      first | (exact UInt8.lt_iff_toNat_lt.2 (by omega)) | omega
theorem toList_inj' {a b : ByteArray} (h : a.toList = b.toList) : a = b := by
  rw [ByteArray.toList_eq, ByteArray.toList_eq] at h
  cases a; cases b; simp_all
structure GoodR (l : List GRow) : Prop where
  name : ∀ k, k < l.length → nameB (l.getD k (default : GRow)).name false = true
  some : ∀ k, k < l.length → 0 < (l.getD k (default : GRow)).samples.length
  smps : ∀ k, k < l.length → samplesB (l.getD k (default : GRow)).samples = true
  ord : ∀ k, 0 < k → k < l.length → Op.bytesLess (l.getD (k - 1) (default : GRow)).name.toList (l.getD k (default : GRow)).name.toList = true
  len : l.length ≤ 8
theorem GoodR.of {l : List GRow} {o : Int} (hg : goodHead ⟨l, o⟩ = true) : GoodR l :=
  ⟨fun _ hk => (good_at hg hk).1, fun _ hk => (good_at hg hk).2.1, fun _ hk => (good_at hg hk).2.2, fun _ h0 hk => good_step hg h0 hk, good_len hg⟩
theorem GoodR.good {l : List GRow} {o : Int} (h : GoodR l) (ho : inB 0 1000 o = true) : goodHead ⟨l, o⟩ = true := by
  unfold goodHead
  rw [Bool.and_eq_true]
  refine ⟨rng_yes fun k hk => ?_, ?_⟩
  · rw [Bool.not_eq_true']
    have hk : k < l.length := hk
    unfold rowBad
    show cond (cond (cond (!(nameB (l.getD k (default : GRow)).name false)) true (decide ((((l.getD k (default : GRow)).samples.length : Nat) : Int) = 0))) true (!(samplesB (l.getD k (default : GRow)).samples))) true (cond (decide (0 < (k : Int))) (!Op.bytesLess (l.getD (k - 1) (default : GRow)).name.toList (l.getD k (default : GRow)).name.toList) false) = false
    have h2 := h.some k hk
    rw [h.name k hk, h.smps k hk, decide_eq_false (show ¬ (((l.getD k (default : GRow)).samples.length : Nat) : Int) = 0 by omega)]
    by_cases h0 : 0 < k
    · rw [h.ord k h0 hk]; cases decide ((0 : Int) < (k : Int)) <;> rfl
    · rw [decide_eq_false (show ¬ (0 : Int) < (k : Int) by omega)]; rfl
  · show cond (decide ((l.length : Int) ≤ 8)) (inB 0 1000 o) false = true
    have := h.len
    rw [decide_eq_true (show (l.length : Int) ≤ 8 by omega), ho]; rfl
theorem good_re {l : List GRow} {o o' : Int} (hg : goodHead ⟨l, o⟩ = true) (ho : inB 0 1000 o' = true) : goodHead ⟨l, o'⟩ = true := (GoodR.of hg).good ho
theorem good0 {h : GHead} (hg : goodHead h = true) : goodHead ⟨h.rows, 0⟩ = true := good_re (o := h.offset) hg (by decide)
theorem good_off {h : GHead} (hg : goodHead h = true) : 0 ≤ h.offset ∧ h.offset ≤ 1000 := by
  unfold goodHead at hg
  rw [Bool.and_eq_true] at hg
  have h1 := hg.2
  by_cases h2 : (h.rows.length : Int) ≤ 8
  · rw [decide_eq_true h2] at h1; exact inB_true h1
  · rw [decide_eq_false h2] at h1; cases h1
theorem sm_at {l : List GSample} (h : samplesB l = true) {k : Nat} (hk : k < l.length) : isSampleB (l.getD k (default : GSample)) = true ∧ (0 < k → (l.getD (k - 1) (default : GSample)).at_ < (l.getD k (default : GSample)).at_) := by
  unfold samplesB at h; rw [Bool.and_eq_true] at h
  have h1 := List.all_eq_true.1 h.1 k (List.mem_range.2 hk)
  rw [Bool.not_eq_true'] at h1
  unfold saBad at h1
  unfold isSampleB
  by_cases h0 : 0 < k
  · rw [decide_eq_true (show (0 : Int) < (k : Int) by omega)] at h1
    by_cases h2 : (l.getD k (default : GSample)).at_ ≤ (l.getD (k - 1) (default : GSample)).at_
    · rw [decide_eq_true h2] at h1
      revert h1
      generalize inB 0 _ _ = a1
      generalize inB (-1000000000) _ _ = a2
      revert a1 a2; simp
    · refine ⟨?_, fun _ => by omega⟩
      rw [decide_eq_false h2] at h1
      revert h1
      generalize inB 0 _ _ = a1
      generalize inB (-1000000000) _ _ = a2
      revert a1 a2; decide
  · refine ⟨?_, fun h => absurd h h0⟩
    rw [decide_eq_false (show ¬ (0 : Int) < (k : Int) by omega)] at h1
    revert h1
    generalize inB 0 _ _ = a1
    generalize inB (-1000000000) _ _ = a2
    generalize decide (_ ≤ (l.getD (k - 1) (default : GSample)).at_) = a3
    revert a1 a2 a3; decide
theorem sm_of {l : List GSample} (h1 : ∀ k, k < l.length → isSampleB (l.getD k (default : GSample)) = true) (h2 : ∀ k, 0 < k → k < l.length → (l.getD (k - 1) (default : GSample)).at_ < (l.getD k (default : GSample)).at_) (h3 : l.length ≤ 40) : samplesB l = true := by
  unfold samplesB; rw [Bool.and_eq_true]
  refine ⟨rng_yes fun k hk => ?_, decide_eq_true (by omega)⟩
  rw [Bool.not_eq_true']
  unfold saBad
  have e1 := h1 k hk
  unfold isSampleB at e1
  by_cases h0 : 0 < k
  · have e2 := h2 k h0 hk
    rw [decide_eq_false (show ¬ (l.getD k (default : GSample)).at_ ≤ (l.getD (k - 1) (default : GSample)).at_ by omega)]
    revert e1
    generalize inB 0 _ _ = a1
    generalize inB (-1000000000) _ _ = a2
    generalize decide ((0 : Int) < (k : Int)) = a3
    revert a1 a2 a3; decide
  · rw [decide_eq_false (show ¬ (0 : Int) < (k : Int) by omega)]
    revert e1
    generalize inB 0 _ _ = a1
    generalize inB (-1000000000) _ _ = a2
    generalize decide (_ ≤ (l.getD (k - 1) (default : GSample)).at_) = a3
    revert a1 a2 a3; decide
theorem say_name {x : GSay} (hx : sayB x = true) : nameB x.name false = true ∧ isSampleB (smpX x) = true := by
  unfold sayB at hx
  unfold isSampleB
  revert hx
  show _ → _ ∧ cond (inB 0 1000000000 x.at_) (inB (-1000000000) 1000000000 x.value) false = true
  generalize nameB _ false = a1
  generalize inB 0 _ _ = a2
  generalize inB (-1000000000) _ _ = a3
  revert a1 a2 a3; decide
theorem good_take {h : GHead} {x : GSay} (hg : goodHead ⟨h.rows, 0⟩ = true) (hx : sayB x = true) : goodHead ⟨(takeH h x).rows, 0⟩ = true := by
  have G := GoodR.of hg
  obtain ⟨hn, hs⟩ := say_name hx
  refine GoodR.good ?_ (by decide)
  by_cases hc : takeCode h x = 1
  · cases hir : isRow h x.name with
    | true =>
      rw [tR_row hir hc]
      have hlo := row_lo hir
      have hA : ∀ k, (h.rows.set (loF h x.name) ⟨(rowK h x).name, addS h x⟩).getD k (default : GRow) = if k = loF h x.name then ⟨(rowK h x).name, addS h x⟩ else h.rows.getD k (default : GRow) := fun k => set_at _ hlo k
      have hN : ∀ k, ((h.rows.set (loF h x.name) ⟨(rowK h x).name, addS h x⟩).getD k (default : GRow)).name = (h.rows.getD k (default : GRow)).name := fun k => by
        rw [hA]
        by_cases e : k = loF h x.name
        · rw [if_pos e, e]
        · rw [if_neg e]
      have hL : (h.rows.set (loF h x.name) ⟨(rowK h x).name, addS h x⟩).length = h.rows.length := List.length_set
      refine ⟨fun k hk => by rw [hN]; exact G.name k (hL ▸ hk), fun k hk => ?_, fun k hk => ?_, fun k h0 hk => by rw [hN, hN]; exact G.ord k h0 (hL ▸ hk), by rw [hL]; exact G.len⟩
      · rw [hL] at hk
        rw [hA]
        by_cases e : k = loF h x.name
        · rw [if_pos e]; show 0 < (addS h x).length; rw [addS_row hir, List.length_append]; exact Nat.succ_pos _
        · rw [if_neg e]; exact G.some k hk
      · rw [hL] at hk
        rw [hA]
        by_cases e : k = loF h x.name
        · rw [if_pos e]
          show samplesB (addS h x) = true
          rw [addS_row hir]
          have h1 := G.smps (loF h x.name) hlo
          have h2 := G.some (loF h x.name) hlo
          have h3 := smp_40 h1
          have hcc : ¬ (takeLast h x).at_ = x.at_ ∧ ¬ x.at_ < (takeLast h x).at_ ∧ ¬ (rowK h x).samples.length = 40 := by
            unfold takeCode at hc
            rw [hir, if_pos rfl] at hc
            by_cases c1 : (takeLast h x).at_ = x.at_
            · rw [if_pos c1] at hc; omega
            · rw [if_neg c1] at hc
              by_cases c2 : x.at_ < (takeLast h x).at_
              · rw [if_pos c2] at hc; omega
              · rw [if_neg c2] at hc
                by_cases c3 : (rowK h x).samples.length = 40
                · rw [if_pos c3] at hc; omega
                · exact ⟨c1, c2, c3⟩
          obtain ⟨c1, c2, c3⟩ := hcc
          have h1 : samplesB (rowK h x).samples = true := h1
          have h2 : 0 < (rowK h x).samples.length := h2
          have h3 : (rowK h x).samples.length ≤ 40 := h3
          have hlen : ((rowK h x).samples ++ [smpX x]).length = (rowK h x).samples.length + 1 := by rw [List.length_append]; rfl
          have at1 : ∀ k, k < (rowK h x).samples.length → ((rowK h x).samples ++ [smpX x]).getD k (default : GSample) = (rowK h x).samples.getD k (default : GSample) := fun k hk => by rw [getD_app, if_pos hk]
          have at2 : ((rowK h x).samples ++ [smpX x]).getD (rowK h x).samples.length (default : GSample) = smpX x := by rw [getD_app, if_neg (Nat.lt_irrefl _), Nat.sub_self]; rfl
          refine sm_of (fun k hk => ?_) (fun k h0 hk => ?_) (by rw [hlen]; omega)
          · rw [hlen] at hk
            by_cases e3 : k < (rowK h x).samples.length
            · rw [at1 k e3]; exact (sm_at h1 e3).1
            · rw [show k = (rowK h x).samples.length by omega, at2]; exact hs
          · rw [hlen] at hk
            by_cases e3 : k < (rowK h x).samples.length
            · rw [at1 k e3, at1 (k - 1) (by omega)]; exact (sm_at h1 e3).2 h0
            · obtain rfl : k = (rowK h x).samples.length := by omega
              rw [at2, at1 _ (by omega)]
              show (takeLast h x).at_ < x.at_
              omega
        · rw [if_neg e]; exact G.smps k hk
    | false =>
      rw [tR_ins hir hc]
      have hlo := loF_le h x.name
      have hA : ∀ k, (insL h.rows (loF h x.name) ⟨x.name, addS h x⟩).getD k (default : GRow) = if k < loF h x.name then h.rows.getD k (default : GRow) else if k = loF h x.name then ⟨x.name, addS h x⟩ else h.rows.getD (k - 1) (default : GRow) := fun k => insL_at _ hlo k
      have hL : (insL h.rows (loF h x.name) ⟨x.name, addS h x⟩).length = h.rows.length + 1 := insL_len hlo
      have h8 : ¬ h.rows.length = 8 := fun e => by rw [tk_full8 hir e] at hc; omega
      have hl8 := G.len
      refine ⟨fun k hk => ?_, fun k hk => ?_, fun k hk => ?_, fun k h0 hk => ?_, by rw [hL]; omega⟩
      · rw [hL] at hk; rw [hA]
        split
        · exact G.name k (by omega)
        · split
          · exact hn
          · exact G.name (k - 1) (by omega)
      · rw [hL] at hk; rw [hA]
        split
        · exact G.some k (by omega)
        · split
          · show 0 < (addS h x).length; rw [addS_ins hir]; exact Nat.succ_pos _
          · exact G.some (k - 1) (by omega)
      · rw [hL] at hk; rw [hA]
        split
        · exact G.smps k (by omega)
        · split
          · show samplesB (addS h x) = true
            rw [addS_ins hir]
            refine sm_of (fun k hk => ?_) (fun k h0 hk => ?_) (show 1 ≤ 40 by decide)
            · obtain rfl : k = 0 := by have : k < 1 := hk; omega
              exact hs
            · have : k < 1 := hk; omega
          · exact G.smps (k - 1) (by omega)
      · rw [hL] at hk; rw [hA, hA]
        by_cases e1 : k < loF h x.name
        · rw [if_pos e1, if_pos (by omega)]; exact G.ord k h0 (by omega)
        · rw [if_neg e1]
          by_cases e2 : k = loF h x.name
          · rw [if_pos e2, if_pos (by omega)]
            exact (cmpS_lt _ x.name).1 (loF_lt (show k - 1 < loF h x.name by omega))
          · rw [if_neg e2]
            by_cases e3 : k = loF h x.name + 1
            · rw [if_neg (by omega), if_pos (by omega)]
              show Op.bytesLess x.name.toList (h.rows.getD (k - 1) (default : GRow)).name.toList = true
              have e4 : k - 1 = loF h x.name := by omega
              rw [e4]
              have h5 := loF_at (h := h) (s := x.name) (by omega)
              refine less_total ?_ (fun e => ?_)
              · cases h6 : Op.bytesLess (h.rows.getD (loF h x.name) (default : GRow)).name.toList x.name.toList with
                | false => rfl
                | true => have := (cmpS_lt _ _).2 h6; omega
              · have h6 := toList_inj' e
                unfold isRow at hir
                rw [h6, decide_eq_true (show loF h x.name < h.rows.length by omega), decide_eq_true rfl] at hir
                cases hir
            · rw [if_neg (by omega), if_neg (by omega)]; exact G.ord (k - 1) (by omega) (by omega)
  · rw [tR_old hc]; exact G
theorem hd_ok {h : GHead} (hg : goodHead ⟨h.rows, 0⟩ = true) : HdOk h := ⟨Nat.le_trans (good_len (h := ⟨h.rows, 0⟩) hg) (by decide), fun k hk => Nat.le_trans (smp_40 (good_at (h := ⟨h.rows, 0⟩) hg hk).2.2) (by decide)⟩
def takeV (h : GHead) (x : GSay) : GHead × Nat × Bool := if goodHead h = true ∧ sayB x = true ∧ ¬ h.offset = 1000 then (takeH h x, takeCode h x, true) else (⟨[], 0⟩, 0, false)
end Go.Proofs.YtonfeiloekofdaaGreatDoor

namespace Go.Proofs.YtonfeiloekofdaaGreatDoor
open Go.ChangeShapes Go.WideShapes Go.ChangeAt Go.RowKit Go.BigFrame Go.Deep
set_option linter.unusedVariables false
namespace Rd
def cutL (c : UInt8) : List UInt8 → List (List UInt8)
  | [] => [[]]
  | b :: l => if b = c then [] :: cutL c l else (b :: (cutL c l).headD []) :: (cutL c l).tail
theorem cutL_ne (c : UInt8) : ∀ l, cutL c l ≠ []
  | [] => by simp [cutL]
  | b :: l => by unfold cutL; split <;> simp
theorem cutL_hit {c : UInt8} (l : List UInt8) : cutL c (c :: l) = [] :: cutL c l := if_pos rfl
theorem cutL_miss {b c : UInt8} (h : b ≠ c) (l : List UInt8) : cutL c (b :: l) = (b :: (cutL c l).headD []) :: (cutL c l).tail := if_neg h
theorem splitK_cut (c : UInt8) : ∀ l, Lib.splitK [c] 0 (Lib.count l [c]) l = cutL c l
  | [] => by
    rw [Lib.count_one]
    rfl
  | b :: l => by
    have ih := splitK_cut c l
    by_cases h : b = c
    · subst h
      have hix : Lib.index (b :: l) [b] = ((0 : Nat) : Int) := by rw [Lib.index]; simp [List.isPrefixOf]
      have hm : ¬ (Lib.index (b :: l) [b] == -1) = true := fun e => by have := beq_iff_eq.1 e; omega
      rw [Lib.count_cons_eq, Nat.add_comm, Lib.splitK, if_neg hm, cutL_hit, hix]
      simp only [Int.toNat_natCast, Nat.zero_add, List.take_zero, List.length_cons, List.length_nil, List.drop_succ_cons, List.drop_zero]
      rw [ih]
    · have hp : ([c] : List UInt8).isPrefixOf (b :: l) = false := by simp [List.isPrefixOf, Ne.symm h]
      have hix : Lib.index (b :: l) [c] = if Lib.index l [c] == -1 then -1 else Lib.index l [c] + 1 := by rw [Lib.index, hp]; simp
      rw [Lib.count_cons_ne b c l h, cutL_miss h, ← ih]
      generalize Lib.count l [c] = k
      cases k with
      | zero => rfl
      | succ k =>
        by_cases hm : Lib.index l [c] = -1
        · rw [Lib.splitK, if_pos (beq_iff_eq.2 (by rw [hix, if_pos (beq_iff_eq.2 hm)])), Lib.splitK, if_pos (beq_iff_eq.2 hm)]
          rfl
        · obtain ⟨i, hi⟩ : ∃ i : Nat, Lib.index l [c] = i := ⟨(Lib.index l [c]).toNat, by have := Lib.index_ge l [c]; omega⟩
          have h1 : ¬ (Lib.index l [c] == -1) = true := fun e => hm (beq_iff_eq.1 e)
          have h2 : ¬ (Lib.index (b :: l) [c] == -1) = true := fun e => by
            rw [hix, if_neg h1, hi] at e
            have := beq_iff_eq.1 e; omega
          rw [Lib.splitK, if_neg h2, Lib.splitK, if_neg h1, hix, if_neg h1, hi]
          have e1 : ((i : Int) + 1).toNat = i + 1 := by omega
          rw [e1, Int.toNat_natCast]
          simp only [Nat.add_zero, List.take_succ_cons, List.headD_cons, List.tail_cons, List.length_cons, List.length_nil, Nat.zero_add, List.drop_succ_cons]
theorem cutL_free {c : UInt8} : ∀ {l : List UInt8}, (∀ b ∈ l, b ≠ c) → cutL c l = [l]
  | [], _ => rfl
  | b :: l, h => by
    rw [cutL_miss (h b (by simp)), cutL_free (l := l) fun x hx => h x (by simp [hx])]
    rfl
theorem cutL_app {c : UInt8} : ∀ {l : List UInt8} (r : List UInt8), (∀ b ∈ l, b ≠ c) → cutL c (l ++ c :: r) = l :: cutL c r
  | [], r, _ => cutL_hit r
  | b :: l, r, h => by
    rw [List.cons_append, cutL_miss (h b (by simp)), cutL_app (l := l) r fun x hx => h x (by simp [hx])]
    rfl
theorem cutL_mem {c : UInt8} : ∀ {l w : List UInt8}, w ∈ cutL c l → ∀ b ∈ w, b ≠ c
  | [], w, h, b, hb => by
    simp only [cutL, List.mem_singleton] at h
    subst h; cases hb
  | a :: l, w, h, b, hb => by
    by_cases e : a = c
    · subst e
      rw [cutL_hit, List.mem_cons] at h
      rcases h with rfl | h
      · cases hb
      · exact cutL_mem h b hb
    · rw [cutL_miss e, List.mem_cons] at h
      obtain ⟨x, r, hr⟩ : ∃ x r, cutL c l = x :: r := by
        cases hc : cutL c l with
        | nil => exact absurd hc (cutL_ne c l)
        | cons x r => exact ⟨x, r, rfl⟩
      rcases h with rfl | h
      · rw [List.mem_cons] at hb
        rcases hb with rfl | hb
        · exact e
        · exact cutL_mem (w := x) (by rw [hr]; simp) b (by rw [hr] at hb; exact hb)
      · exact cutL_mem (w := w) (by rw [hr] at h ⊢; exact List.mem_cons_of_mem _ h) b hb
def joinL (c : UInt8) : List (List UInt8) → List UInt8
  | [] => []
  | [w] => w
  | w :: x :: r => w ++ c :: joinL c (x :: r)
theorem joinL_cut (c : UInt8) : ∀ l, joinL c (cutL c l) = l
  | [] => rfl
  | b :: l => by
    have ih := joinL_cut c l
    obtain ⟨x, r, hr⟩ : ∃ x r, cutL c l = x :: r := by
      cases hc : cutL c l with
      | nil => exact absurd hc (cutL_ne c l)
      | cons x r => exact ⟨x, r, rfl⟩
    by_cases e : b = c
    · subst e
      rw [cutL_hit, hr]
      rw [hr] at ih
      show [] ++ b :: joinL b (x :: r) = _
      rw [ih]; rfl
    · rw [cutL_miss e, hr]
      rw [hr] at ih
      show joinL c ((b :: x) :: r) = _
      cases r with
      | nil =>
        have : x = l := ih
        rw [this]; rfl
      | cons y r =>
        have : x ++ c :: joinL c (y :: r) = l := ih
        show (b :: x) ++ c :: joinL c (y :: r) = _
        rw [List.cons_append, this]
theorem cut_three {c : UInt8} {l w0 w1 w2 : List UInt8} (h : cutL c l = [w0, w1, w2]) : l = w0 ++ c :: (w1 ++ c :: w2) ∧ (∀ b ∈ w0, b ≠ c) ∧ (∀ b ∈ w1, b ≠ c) ∧ (∀ b ∈ w2, b ≠ c) := by
  refine ⟨?_, cutL_mem (l := l) (by rw [h]; simp), cutL_mem (l := l) (by rw [h]; simp), cutL_mem (l := l) (by rw [h]; simp)⟩
  have := joinL_cut c l
  rw [h] at this
  exact this.symm
theorem three_cut {c : UInt8} {w0 w1 w2 : List UInt8} (h0 : ∀ b ∈ w0, b ≠ c) (h1 : ∀ b ∈ w1, b ≠ c) (h2 : ∀ b ∈ w2, b ≠ c) : cutL c (w0 ++ c :: (w1 ++ c :: w2)) = [w0, w1, w2] := by
  rw [cutL_app _ h0, cutL_app _ h1, cutL_free h2]
theorem decFrom_append : ∀ (l r : List UInt8) (a : Nat), Lib.decFrom a (l ++ r) = (Lib.decFrom a l).bind fun b => Lib.decFrom b r
  | [], _, _ => rfl
  | b :: l, r, a => by
    show (match Lib.digitVal b with | some d => Lib.decFrom (a * 10 + d) (l ++ r) | none => none) = (match Lib.digitVal b with | some d => Lib.decFrom (a * 10 + d) l | none => none).bind fun b => Lib.decFrom b r
    cases hd : Lib.digitVal b with
    | none => rfl
    | some d => exact decFrom_append l r _
theorem digit_byte {n : Nat} (h : n < 10) : (UInt8.ofNat (48 + n)).toNat = 48 + n := by
  rw [UInt8.toNat_ofNat']; omega
theorem digitVal_of {n : Nat} (h : n < 10) : Lib.digitVal (UInt8.ofNat (48 + n)) = some n := by
  unfold Lib.digitVal
  rw [digit_byte h, if_pos (by omega)]
  congr 1; omega
theorem decFrom_dig (u : Nat) : Lib.decFrom 0 (Lib.decDigits u) = some u := by
  induction u using Nat.strongRecOn with
  | _ u ih =>
    by_cases h : u < 10
    · rw [Lib.decDigits_one h]
      unfold Lib.decFrom
      rw [digitVal_of h]
      simp [Lib.decFrom]
    · rw [Lib.decDigits, dif_neg h, decFrom_append, ih (u / 10) (by omega)]
      show Lib.decFrom (u / 10) [UInt8.ofNat (48 + u % 10)] = _
      unfold Lib.decFrom
      rw [digitVal_of (by omega)]
      simp only [Lib.decFrom, Option.some.injEq]
      omega
theorem dig_mem (u : Nat) : ∀ b ∈ Lib.decDigits u, 48 ≤ b.toNat ∧ b.toNat ≤ 57 := fun b hb => by
  obtain ⟨k, hk⟩ := List.getElem?_of_mem hb
  obtain ⟨d, hd⟩ := Lib.digit_of_decFrom _ _ _ (decFrom_dig u) k b hk
  obtain ⟨h1, h2, _⟩ := Lib.digitVal_eq hd
  exact ⟨h1, h2⟩
theorem dig_ne (u : Nat) : Lib.decDigits u ≠ [] := by
  rw [Lib.decDigits]
  split <;> simp
theorem itoa_mem (z : Int) : ∀ b ∈ Lib.itoa z, b.toNat = 45 ∨ (48 ≤ b.toNat ∧ b.toNat ≤ 57) := fun b hb => by
  unfold Lib.itoa at hb
  split at hb
  · rw [List.mem_cons] at hb
    rcases hb with rfl | hb
    · exact .inl rfl
    · exact .inr (dig_mem _ b hb)
  · exact .inr (dig_mem _ b hb)
theorem itoa_free (z : Int) {c : UInt8} (hc : c.toNat < 45) : ∀ b ∈ Lib.itoa z, b ≠ c := fun b hb e => by
  subst e
  have := itoa_mem z b hb
  omega
theorem dig_len {u k : Nat} (h : u < 10 ^ (k + 1)) : (Lib.decDigits u).length ≤ k + 1 := by
  induction k generalizing u with
  | zero =>
    rw [Lib.decDigits_one (by simpa using h)]
    simp
  | succ k ih =>
    by_cases h1 : u < 10
    · rw [Lib.decDigits_one h1]; simp
    · rw [Lib.decDigits, dif_neg h1, List.length_append]
      have := ih (u := u / 10) (by rw [Nat.pow_succ] at h; omega)
      simp only [List.length_cons, List.length_nil]
      omega
def neg (l : List UInt8) : Bool := decide (l.head? = some 45)
def mag (l : List UInt8) : List UInt8 := if neg l = true then l.tail else l
def sg (l : List UInt8) (u : Nat) : Int := if neg l = true then -(u : Int) else u
def intL (l : List UInt8) : Int × Bool :=
  if 1 ≤ (mag l).length ∧ (mag l).length ≤ 10 then
    match Lib.decFrom 0 (mag l) with
    | none => (0, false)
    | some u => (sg l u, decide (Lib.itoa (sg l u) = l))
  else (0, false)
theorem intL_out {l : List UInt8} (h : ¬ (1 ≤ (mag l).length ∧ (mag l).length ≤ 10)) : intL l = (0, false) := if_neg h
theorem intL_none {l : List UInt8} (h : 1 ≤ (mag l).length ∧ (mag l).length ≤ 10) (hd : Lib.decFrom 0 (mag l) = none) : intL l = (0, false) := by
  unfold intL
  rw [if_pos h, hd]
theorem intL_some {l : List UInt8} {u : Nat} (h : 1 ≤ (mag l).length ∧ (mag l).length ≤ 10) (hd : Lib.decFrom 0 (mag l) = some u) : intL l = (sg l u, decide (Lib.itoa (sg l u) = l)) := by
  unfold intL
  rw [if_pos h, hd]
theorem intL_ok {l : List UInt8} (h : (intL l).2 = true) : Lib.itoa (intL l).1 = l := by
  by_cases hc : 1 ≤ (mag l).length ∧ (mag l).length ≤ 10
  · cases hd : Lib.decFrom 0 (mag l) with
    | none => rw [intL_none hc hd] at h; cases h
    | some u =>
      rw [intL_some hc hd] at h ⊢
      exact of_decide_eq_true h
  · rw [intL_out hc] at h; cases h
theorem dig_pos (u : Nat) : 1 ≤ (Lib.decDigits u).length := by
  cases hd : Lib.decDigits u with
  | nil => exact absurd hd (dig_ne u)
  | cons _ _ => simp
theorem intL_itoa {z : Int} (h0 : -1000000000 ≤ z) (h1 : z ≤ 1000000000) : intL (Lib.itoa z) = (z, true) := by
  have e10 : (10 : Nat) ^ (9 + 1) = 10000000000 := by decide
  by_cases hz : z < 0
  · obtain ⟨u, rfl⟩ : ∃ u : Nat, z = -(u : Int) := ⟨z.natAbs, by omega⟩
    have e := Lib.itoa_neg u (by omega)
    have hl := dig_len (u := u) (k := 9) (by omega)
    have hn := dig_pos u
    have hg : neg (Lib.itoa (-(u : Int))) = true := by unfold neg; rw [e]; rfl
    have hm : mag (Lib.itoa (-(u : Int))) = Lib.decDigits u := by unfold mag; rw [if_pos hg, e]; rfl
    have hs : sg (Lib.itoa (-(u : Int))) u = -(u : Int) := if_pos hg
    rw [intL_some (u := u) (by rw [hm]; exact ⟨hn, hl⟩) (by rw [hm]; exact decFrom_dig u), hs, decide_eq_true rfl]
  · obtain ⟨u, rfl⟩ : ∃ u : Nat, z = u := ⟨z.toNat, by omega⟩
    have e := Lib.itoa_nonneg u
    have hl := dig_len (u := u) (k := 9) (by omega)
    have hn := dig_pos u
    have hg : ¬ neg (Lib.itoa (u : Int)) = true := by
      unfold neg
      rw [e, decide_eq_true_eq]
      intro h
      have hm : (45 : UInt8) ∈ Lib.decDigits u := List.mem_of_mem_head? (by rw [h]; rfl)
      exact absurd (dig_mem u _ hm).1 (by decide)
    have hm : mag (Lib.itoa (u : Int)) = Lib.decDigits u := by unfold mag; rw [if_neg hg, e]
    have hs : sg (Lib.itoa (u : Int)) u = (u : Int) := if_neg hg
    rw [intL_some (u := u) (by rw [hm]; exact ⟨hn, hl⟩) (by rw [hm]; exact decFrom_dig u), hs, decide_eq_true rfl]
theorem atoi_itoa {z : Int} (h0 : -1000000000 ≤ z) (h1 : z ≤ 1000000000) : Lib.atoiAll (Lib.itoa z) = .ok z := by
  by_cases hz : z < 0
  · obtain ⟨u, rfl⟩ : ∃ u : Nat, z = -(u : Int) := ⟨z.natAbs, by omega⟩
    have hl := dig_len (u := u) (k := 9) (by have : (10 : Nat) ^ (9 + 1) = 10000000000 := by decide
                                             omega)
    have hn := dig_ne u
    rw [Lib.itoa_neg u (by omega), Lib.atoiAll_short _ (by simp only [List.length_cons]; omega)]
    have e : Lib.decNat (Lib.decDigits u) = some u := by
      unfold Lib.decNat
      rw [if_neg (by simpa using hn)]
      exact decFrom_dig u
    have e2 : Lib.atoi (45 :: Lib.decDigits u) = (Lib.decNat (Lib.decDigits u)).map fun (m : Nat) => -(m : Int) := rfl
    rw [e2, e]
    rfl
  · obtain ⟨u, rfl⟩ : ∃ u : Nat, z = u := ⟨z.toNat, by omega⟩
    have hl := dig_len (u := u) (k := 9) (by have : (10 : Nat) ^ (9 + 1) = 10000000000 := by decide
                                             omega)
    rw [Lib.itoa_nonneg, Lib.atoiAll_short _ (by omega)]
    have hd := decFrom_dig u
    have hm := dig_mem u
    revert hd hm
    cases hx : Lib.decDigits u with
    | nil => exact absurd hx (dig_ne u)
    | cons b r =>
      intro hd hm
      have hb := hm b (by simp)
      have n1 : ¬ (b == 45) = true := fun h => by
        have := beq_iff_eq.1 h
        subst this
        exact absurd hb.1 (by decide)
      have n2 : ¬ (b == 43) = true := fun h => by
        have := beq_iff_eq.1 h
        subst this
        exact absurd hb.1 (by decide)
      have e2 : Lib.atoi (b :: r) = if b == 45 then (Lib.decNat r).map fun (m : Nat) => -(m : Int) else if b == 43 then (Lib.decNat r).map fun (m : Nat) => (m : Int) else (Lib.decNat (b :: r)).map fun (m : Nat) => (m : Int) := rfl
      rw [e2, if_neg n1, if_neg n2]
      have e : Lib.decNat (b :: r) = some u := by
        unfold Lib.decNat
        rw [if_neg (by simp)]
        exact hd
      rw [e]
      rfl
end Rd
end Go.Proofs.YtonfeiloekofdaaGreatDoor

namespace Go.Proofs.YtonfeiloekofdaaGreatDoor
open Go.Proofs Go.Shelf
open Go.ChangeShapes Go.WideShapes Go.ChangeAt Go.RowKit Go.BigFrame Go.Deep
set_option linter.unusedVariables false
set_option linter.unusedSimpArgs false
def ren_n146 : Shelf.Ren where
  f := fun x => match x with | 146 => 65 | 221 => 78 | 268 => 84 | 138 => 85 | 143 => 86 | 195 => 97 | 197 => 98 | 218 => 99 | 219 => 100 | 260 => 109 | 217 => 110 | 225 => 111 | 224 => 112 | 267 => 113 | 266 => 118 | 314 => 119 | n => n
  t := fun x => match x with | 9 => 9 | 31 => 66 | 3 => 3 | 4 => 4 | 0 => 0 | 105 => 125 | 21 => 21 | 5 => 5 | 46 => 108 | 119 => 145 | 139 => 148 | 138 => 147 | 146 => 149 | 51 => 136 | n => n
  g := fun x => match x with | 1 => 0 | 3 => 4 | 4 => 5 | n => n
theorem lays_n146 : Lays.n146 Tryz.prog ren_n146 where
  mixed := by kernel_rfl
  f138 := by kernel_rfl
  f143 := by kernel_rfl
  f146 := by kernel_rfl
  f195 := by kernel_rfl
  f197 := by kernel_rfl
  f217 := by kernel_rfl
  f218 := by kernel_rfl
  f219 := by kernel_rfl
  f221 := by kernel_rfl
  f224 := by kernel_rfl
  f225 := by kernel_rfl
  f260 := by kernel_rfl
  f266 := by kernel_rfl
  f267 := by kernel_rfl
  f268 := by kernel_rfl
  f314 := by kernel_rfl
  t0 := Tryz.underlying0
  a0 := Tryz.isAgg0
  z0 := Tryz.sizeOf0
  v0 := Tryz.zeroValue0
  t3 := Tryz.underlying3
  a3 := Tryz.isAgg3
  z3 := Tryz.sizeOf3
  v3 := Tryz.zeroValue3
  t4 := Tryz.underlying4
  a4 := Tryz.isAgg4
  z4 := Tryz.sizeOf4
  v4 := Tryz.zeroValue4
  t5 := Tryz.underlying5
  a5 := Tryz.isAgg5
  z5 := Tryz.sizeOf5
  v5 := Tryz.zeroValue5
  t9 := Tryz.underlying9
  a9 := Tryz.isAgg9
  z9 := Tryz.sizeOf9
  v9 := Tryz.zeroValue9
  t21 := Tryz.underlying21
  a21 := Tryz.isAgg21
  z21 := Tryz.sizeOf21
  v21 := Tryz.zeroValue21
  t31 := Tryz.underlying66
  a31 := Tryz.isAgg66
  z31 := Tryz.sizeOf66
  v31 := Tryz.zeroValue66
  t46 := Tryz.underlying108
  a46 := Tryz.isAgg108
  z46 := Tryz.sizeOf108
  v46 := Tryz.zeroValue108
  t51 := Tryz.underlying136
  a51 := Tryz.isAgg136
  z51 := Tryz.sizeOf136
  v51 := Tryz.zeroValue136
  t105 := Tryz.underlying125
  a105 := Tryz.isAgg125
  z105 := Tryz.sizeOf125
  v105 := Tryz.zeroValue125
  t119 := Tryz.underlying145
  a119 := Tryz.isAgg145
  z119 := Tryz.sizeOf145
  t138 := Tryz.underlying147
  a138 := Tryz.isAgg147
  z138 := Tryz.sizeOf147
  v138 := Tryz.zeroValue147
  t139 := Tryz.underlying148
  a139 := Tryz.isAgg148
  z139 := Tryz.sizeOf148
  v139 := Tryz.zeroValue148
  t146 := Tryz.underlying149
  a146 := Tryz.isAgg149
  z146 := Tryz.sizeOf149
  v146 := Tryz.zeroValue149
  g1 := by kernel_rfl
  g3 := by kernel_rfl
  g4 := by kernel_rfl
def ren_n172 : Shelf.Ren where
  f := fun x => match x with | 172 => 66 | 244 => 79 | 245 => 80 | 247 => 87 | 279 => 88 | 280 => 89 | 281 => 90 | 282 => 91 | 287 => 101 | 316 => 102 | 171 => 60 | 205 => 103 | 321 => 114 | 322 => 115 | 243 => 77 | 246 => 83 | 283 => 93 | 284 => 94 | 285 => 95 | 286 => 96 | 129 => 105 | 317 => 104 | 318 => 106 | 319 => 107 | 320 => 108 | 337 => 116 | 338 => 117 | n => n
  t := fun x => match x with | 9 => 9 | 3 => 3 | 75 => 88 | 76 => 89 | 4 => 4 | 5 => 5 | 167 => 113 | 37 => 22 | 0 => 0 | 85 => 114 | 2 => 2 | 168 => 116 | 53 => 59 | 175 => 128 | 46 => 108 | 210 => 132 | 127 => 105 | 145 => 143 | 143 => 141 | 21 => 21 | 171 => 119 | 173 => 122 | 212 => 135 | 51 => 136 | 20 => 20 | 213 => 137 | 232 => 151 | 233 => 152 | 80 => 92 | n => n
  g := fun x => match x with | 15 => 1 | 16 => 2 | 17 => 3 | 18 => 6 | 19 => 7 | n => n
theorem lays_n172 : Lays.n172 Tryz.prog ren_n172 where
  mixed := by kernel_rfl
  f129 := by kernel_rfl
  f171 := by kernel_rfl
  f172 := by kernel_rfl
  f205 := by kernel_rfl
  f243 := by kernel_rfl
  f244 := by kernel_rfl
  f245 := by kernel_rfl
  f246 := by kernel_rfl
  f247 := by kernel_rfl
  f279 := by kernel_rfl
  f280 := by kernel_rfl
  f281 := by kernel_rfl
  f282 := by kernel_rfl
  f283 := by kernel_rfl
  f284 := by kernel_rfl
  f285 := by kernel_rfl
  f286 := by kernel_rfl
  f287 := by kernel_rfl
  f316 := by kernel_rfl
  f317 := by kernel_rfl
  f318 := by kernel_rfl
  f319 := by kernel_rfl
  f320 := by kernel_rfl
  f321 := by kernel_rfl
  f322 := by kernel_rfl
  f337 := by kernel_rfl
  f338 := by kernel_rfl
  t0 := Tryz.underlying0
  a0 := Tryz.isAgg0
  z0 := Tryz.sizeOf0
  v0 := Tryz.zeroValue0
  t2 := Tryz.underlying2
  a2 := Tryz.isAgg2
  z2 := Tryz.sizeOf2
  v2 := Tryz.zeroValue2
  t3 := Tryz.underlying3
  a3 := Tryz.isAgg3
  z3 := Tryz.sizeOf3
  v3 := Tryz.zeroValue3
  t4 := Tryz.underlying4
  a4 := Tryz.isAgg4
  z4 := Tryz.sizeOf4
  v4 := Tryz.zeroValue4
  t5 := Tryz.underlying5
  a5 := Tryz.isAgg5
  z5 := Tryz.sizeOf5
  v5 := Tryz.zeroValue5
  t9 := Tryz.underlying9
  a9 := Tryz.isAgg9
  z9 := Tryz.sizeOf9
  v9 := Tryz.zeroValue9
  t20 := Tryz.underlying20
  a20 := Tryz.isAgg20
  z20 := Tryz.sizeOf20
  v20 := Tryz.zeroValue20
  t21 := Tryz.underlying21
  a21 := Tryz.isAgg21
  z21 := Tryz.sizeOf21
  v21 := Tryz.zeroValue21
  t37 := Tryz.underlying22
  a37 := Tryz.isAgg22
  z37 := Tryz.sizeOf22
  v37 := Tryz.zeroValue22
  t46 := Tryz.underlying108
  a46 := Tryz.isAgg108
  z46 := Tryz.sizeOf108
  v46 := Tryz.zeroValue108
  t51 := Tryz.underlying136
  a51 := Tryz.isAgg136
  z51 := Tryz.sizeOf136
  v51 := Tryz.zeroValue136
  t53 := Tryz.underlying59
  a53 := Tryz.isAgg59
  z53 := Tryz.sizeOf59
  v53 := Tryz.zeroValue59
  t75 := Tryz.underlying88
  a75 := Tryz.isAgg88
  z75 := Tryz.sizeOf88
  v75 := Tryz.zeroValue88
  t76 := Tryz.underlying89
  a76 := Tryz.isAgg89
  z76 := Tryz.sizeOf89
  v76 := Tryz.zeroValue89
  t85 := Tryz.underlying114
  a85 := Tryz.isAgg114
  z85 := Tryz.sizeOf114
  v85 := Tryz.zeroValue114
  t127 := Tryz.underlying105
  a127 := Tryz.isAgg105
  z127 := Tryz.sizeOf105
  v127 := Tryz.zeroValue105
  t143 := Tryz.underlying141
  a143 := Tryz.isAgg141
  z143 := Tryz.sizeOf141
  v143 := Tryz.zeroValue141
  t145 := Tryz.underlying143
  a145 := Tryz.isAgg143
  z145 := Tryz.sizeOf143
  v145 := Tryz.zeroValue143
  t167 := Tryz.underlying113
  a167 := Tryz.isAgg113
  z167 := Tryz.sizeOf113
  v167 := Tryz.zeroValue113
  t168 := Tryz.underlying116
  a168 := Tryz.isAgg116
  z168 := Tryz.sizeOf116
  v168 := Tryz.zeroValue116
  t171 := Tryz.underlying119
  a171 := Tryz.isAgg119
  z171 := Tryz.sizeOf119
  v171 := Tryz.zeroValue119
  t173 := Tryz.underlying122
  a173 := Tryz.isAgg122
  z173 := Tryz.sizeOf122
  v173 := Tryz.zeroValue122
  t175 := Tryz.underlying128
  a175 := Tryz.isAgg128
  z175 := Tryz.sizeOf128
  v175 := Tryz.zeroValue128
  t210 := Tryz.underlying132
  a210 := Tryz.isAgg132
  z210 := Tryz.sizeOf132
  v210 := Tryz.zeroValue132
  t212 := Tryz.underlying135
  a212 := Tryz.isAgg135
  z212 := Tryz.sizeOf135
  v212 := Tryz.zeroValue135
  t213 := Tryz.underlying137
  a213 := Tryz.isAgg137
  z213 := Tryz.sizeOf137
  t232 := Tryz.underlying151
  a232 := Tryz.isAgg151
  z232 := Tryz.sizeOf151
  v232 := Tryz.zeroValue151
  t233 := Tryz.underlying152
  a233 := Tryz.isAgg152
  z233 := Tryz.sizeOf152
  v233 := Tryz.zeroValue152
  g15 := by kernel_rfl
  g16 := by kernel_rfl
  g17 := by kernel_rfl
  g18 := by kernel_rfl
  g19 := by kernel_rfl
theorem laysM_n172 : LaysM.n172 Tryz.prog ren_n172 := { lays_n172 with
  t80 := Tryz.underlying92,
  a80 := Tryz.isAgg92,
  z80 := Tryz.sizeOf92,
  v80 := Tryz.zeroValue92,
  i0 := by kernel_rfl,
  i2 := by kernel_rfl,
  i3 := by kernel_rfl,
  i4 := by kernel_rfl,
  i5 := by kernel_rfl,
  i9 := by kernel_rfl,
  i20 := by kernel_rfl,
  i21 := by kernel_rfl,
  i37 := by kernel_rfl,
  i46 := by kernel_rfl,
  i51 := by kernel_rfl,
  i53 := by kernel_rfl,
  i75 := by kernel_rfl,
  i76 := by kernel_rfl,
  i80 := by kernel_rfl,
  i85 := by kernel_rfl,
  i127 := by kernel_rfl,
  i143 := by kernel_rfl,
  i145 := by kernel_rfl,
  i167 := by kernel_rfl,
  i168 := by kernel_rfl,
  i171 := by kernel_rfl,
  i173 := by kernel_rfl,
  i175 := by kernel_rfl,
  i210 := by kernel_rfl,
  i212 := by kernel_rfl,
  i232 := by kernel_rfl,
  i233 := by kernel_rfl,
  m15 := by kernel_rfl,
  m16 := by kernel_rfl,
  m17 := by kernel_rfl,
  m18 := by kernel_rfl,
  m19 := by kernel_rfl }
theorem laysC_n172 : LaysC.n172 Tryz.prog ren_n172 := { laysM_n172 with
  c0 := by kernel_rfl,
  c2 := by kernel_rfl,
  c3 := by kernel_rfl,
  c4 := by kernel_rfl,
  c5 := by kernel_rfl,
  c9 := by kernel_rfl,
  c20 := by kernel_rfl,
  c21 := by kernel_rfl,
  c37 := by kernel_rfl,
  c46 := by kernel_rfl,
  c51 := by kernel_rfl,
  c53 := by kernel_rfl,
  c75 := by kernel_rfl,
  c76 := by kernel_rfl,
  c80 := by kernel_rfl,
  c85 := by kernel_rfl,
  c127 := by kernel_rfl,
  c143 := by kernel_rfl,
  c145 := by kernel_rfl,
  c167 := by kernel_rfl,
  c168 := by kernel_rfl,
  c171 := by kernel_rfl,
  c173 := by kernel_rfl,
  c175 := by kernel_rfl,
  c210 := by kernel_rfl,
  c212 := by kernel_rfl,
  c213 := by kernel_rfl,
  c232 := by kernel_rfl,
  c233 := by kernel_rfl }
def bs (l : List UInt8) : ByteArray := ⟨l.toArray⟩
theorem bs_data (s : ByteArray) : bs s.data.toList = s := Lib.mk_data s
theorem data_bs (l : List UInt8) : (bs l).data.toList = l := rfl
theorem split_words (c : UInt8) (s : ByteArray) : Lib.splitB ⟨#[c]⟩ 0 (Lib.countB s ⟨#[c]⟩) s = (Rd.cutL c s.data.toList).map bs := by
  have h := Lib.splitB_data ⟨#[c]⟩ 0 (Lib.countB s ⟨#[c]⟩) s
  have h2 : Lib.splitK [c] 0 (Lib.count s.data.toList [c]) s.data.toList = Rd.cutL c s.data.toList := Rd.splitK_cut c _
  have h3 : (Lib.splitB ⟨#[c]⟩ 0 (Lib.countB s ⟨#[c]⟩) s).map (·.data.toList) = Rd.cutL c s.data.toList := h.trans h2
  rw [← h3, List.map_map]
  conv => lhs; rw [← List.map_id (Lib.splitB ⟨#[c]⟩ 0 (Lib.countB s ⟨#[c]⟩) s)]
  exact List.map_congr_left fun x _ => (bs_data x).symm
theorem callSplit (c : UInt8) (s : ByteArray) (hs : s.size ≤ 1048576) {L : List (List UInt8)} (hL : Rd.cutL c s.data.toList = L) {w W : World} (hp : Pre w.heap.size w) (hb : Below w.heap.size w W) :
    Calls Tryz.prog 65 #[.string s, .string ⟨#[c]⟩] W fun e W' => e = .returned (.slice (some ⟨W.heap.size, 0, none⟩) L.length L.length) ∧ W' = W.alloc (.cells (L.map fun l => Value.string (bs l)).toArray 9) := by
  obtain ⟨m, hm⟩ := (hp.below hb).mx
  have hw := split_words c s
  have hn := Lib.splitB_all ⟨#[c]⟩ (Nat.le_refl 1) 0 _ s rfl
  rw [hw, hL, List.length_map] at hn
  refine (Any.strings_Split lays_n146 (by kernel_rfl) s ⟨#[c]⟩ m W (by omega) hm (Nat.le_refl 1)).mono ?_
  rintro e W' ⟨rfl, rfl⟩
  rw [hw, hL, ← hn, List.map_map]
  exact ⟨rfl, rfl⟩
theorem callAtoi (s : ByteArray) (hs : s.size ≤ 1048576) {w W : World} (hp : Pre w.heap.size w) (hb : Below w.heap.size w W) :
    Calls Tryz.prog 66 #[.string s] W fun e W' => ((∃ a, Lib.atoiAll s.data.toList = .ok a ∧ e = .returned (.tuple #[.int .i64 a, .nilIface])) ∨ ((∀ a, Lib.atoiAll s.data.toList ≠ .ok a) ∧ ∃ z t p, e = .returned (.tuple #[.int .i64 z, .iface t p]))) ∧ Below W.heap.size W W' := by
  have hp' := hp.below hb
  cases h : Lib.atoiAll s.data.toList
  · rename_i v
    refine (Any.strconv_Atoi_ok laysC_n172 s (by omega) v h W).mono ?_
    rintro e W' ⟨rfl, h2⟩
    refine ⟨.inl ⟨v, rfl, rfl⟩, ?_⟩
    rcases h2 with rfl | ⟨t, rfl⟩
    · exact Below.refl _ _
    · exact Lib.bytesWorld_below _ _ _
  · obtain ⟨tp, p, hv⟩ := hp'.syn
    refine (Any.strconv_Atoi_syntax_var laysC_n172 s (by omega) h tp p W hv).mono ?_
    rintro e W' ⟨N, rfl, _, _, h2⟩
    exact ⟨.inr ⟨(fun a e => by cases e), _, _, _, rfl⟩, h2⟩
  · obtain ⟨tp, p, hv⟩ := hp'.ran
    refine (Any.strconv_Atoi_range_var laysC_n172 s (by omega) h tp p W hv).mono ?_
    rintro e W' ⟨N, rfl, _, _, h2⟩
    exact ⟨.inr ⟨(fun a e => by cases e), _, _, _, rfl⟩, h2⟩
theorem callSay {x : GSay} (hx : SayOk x) {w W : World} (hp : Pre w.heap.size w) (hb : Below w.heap.size w W) :
    Calls Tryz.prog 45 #[.agg #[.string x.name, .int .i64 x.at_, .int .i64 x.value]] W fun e W' => e = .returned (.string (sayT x)) ∧ Below W.heap.size W W' :=
  v_sayText x hx W (fun _ => False) [.agg #[.string x.name, .int .i64 x.at_, .int .i64 x.value]] ⟨fun _ h => h.elim, (hp.below hb).mono hb.size⟩ ⟨_, _, rfl, ⟨_, rfl, _, _, rfl, ⟨rfl, Nat.le_trans hx.name (by decide)⟩, _, _, rfl, rfl, _, _, rfl, rfl, rfl⟩, rfl⟩
theorem callIsSay (x : GSay) (hn : x.name.size ≤ 1048576) {w W : World} (hp : Pre w.heap.size w) (hb : Below w.heap.size w W) :
    Calls Tryz.prog 44 #[.agg #[.string x.name, .int .i64 x.at_, .int .i64 x.value]] W fun e W' => e = .returned (.bool (sayB x)) ∧ Below W.heap.size W W' :=
  v_isSay x W (fun _ => False) [.agg #[.string x.name, .int .i64 x.at_, .int .i64 x.value]] ⟨fun _ h => h.elim, (hp.below hb).mono hb.size⟩ ⟨_, _, rfl, ⟨_, rfl, _, _, rfl, ⟨rfl, Nat.le_trans hn (by decide)⟩, _, _, rfl, rfl, _, _, rfl, rfl, rfl⟩, rfl⟩
def zeroSay : GSay := ⟨⟨#[]⟩, 0, 0⟩
def rdSay (w0 w1 w2 : List UInt8) : GSay := ⟨bs w0, (Rd.intL w1).1, (Rd.intL w2).1⟩
def rdOk (w0 w1 w2 : List UInt8) : Bool := ((Rd.intL w1).2 && (Rd.intL w2).2) && sayB (rdSay w0 w1 w2)
def readV (s : ByteArray) : GSay × Bool :=
  match Rd.cutL 32 s.data.toList with
  | [w0, w1, w2] => if rdOk w0 w1 w2 = true then (rdSay w0 w1 w2, true) else (zeroSay, false)
  | _ => (zeroSay, false)
theorem sayT_data (x : GSay) : (sayT x).data.toList = x.name.data.toList ++ 32 :: (Lib.itoa x.at_ ++ 32 :: Lib.itoa x.value) := by
  unfold sayT itoaB
  simp
theorem sayB_num {x : GSay} (h : sayB x = true) : (-1000000000 ≤ x.at_ ∧ x.at_ ≤ 1000000000) ∧ (-1000000000 ≤ x.value ∧ x.value ≤ 1000000000) := by
  unfold sayB at h
  simp only [Bool.cond_false_right, Bool.and_eq_true] at h
  obtain ⟨⟨h1, h2⟩, h3⟩ := h
  obtain ⟨a1, a2⟩ := inB_true h2
  obtain ⟨b1, b2⟩ := inB_true h3
  omega
theorem rd_true {s : ByteArray} {w0 w1 w2 : List UInt8} (hL : Rd.cutL 32 s.data.toList = [w0, w1, w2]) (h : rdOk w0 w1 w2 = true) :
    Lib.atoiAll w1 = .ok (rdSay w0 w1 w2).at_ ∧ Lib.atoiAll w2 = .ok (rdSay w0 w1 w2).value ∧ sayB (rdSay w0 w1 w2) = true ∧ sayT (rdSay w0 w1 w2) = s := by
  unfold rdOk at h
  rw [Bool.and_eq_true, Bool.and_eq_true] at h
  obtain ⟨⟨h1, h2⟩, h3⟩ := h
  obtain ⟨⟨a1, a2⟩, b1, b2⟩ := sayB_num h3
  have e1 : Lib.itoa (rdSay w0 w1 w2).at_ = w1 := Rd.intL_ok h1
  have e2 : Lib.itoa (rdSay w0 w1 w2).value = w2 := Rd.intL_ok h2
  have t1 := Rd.atoi_itoa a1 a2
  have t2 := Rd.atoi_itoa b1 b2
  rw [e1] at t1
  rw [e2] at t2
  refine ⟨t1, t2, h3, ?_⟩
  have hd := sayT_data (rdSay w0 w1 w2)
  rw [e1, e2] at hd
  have hj := (Rd.cut_three hL).1
  apply ByteArray.ext
  apply Array.ext'
  rw [hd, hj]
  rfl
theorem rd_back {s : ByteArray} {w0 w1 w2 : List UInt8} (hL : Rd.cutL 32 s.data.toList = [w0, w1, w2]) {a v : Int} (hb : sayB ⟨bs w0, a, v⟩ = true) (ht : sayT ⟨bs w0, a, v⟩ = s) :
    rdOk w0 w1 w2 = true ∧ rdSay w0 w1 w2 = ⟨bs w0, a, v⟩ := by
  obtain ⟨⟨a1, a2⟩, b1, b2⟩ := sayB_num hb
  have hd := sayT_data ⟨bs w0, a, v⟩
  rw [ht] at hd
  have hf := Rd.cut_three hL
  have h3 := Rd.three_cut (c := 32) hf.2.1 (Rd.itoa_free a (by decide)) (Rd.itoa_free v (by decide))
  have h4 : Rd.cutL 32 s.data.toList = [w0, Lib.itoa a, Lib.itoa v] := by rw [hd]; exact h3
  rw [hL] at h4
  simp only [List.cons.injEq, and_true, true_and] at h4
  obtain ⟨e1, e2⟩ := h4
  have i1 : Rd.intL w1 = (a, true) := by rw [e1]; exact Rd.intL_itoa a1 a2
  have i2 : Rd.intL w2 = (v, true) := by rw [e2]; exact Rd.intL_itoa b1 b2
  have e3 : rdSay w0 w1 w2 = ⟨bs w0, a, v⟩ := by unfold rdSay; rw [i1, i2]
  refine ⟨?_, e3⟩
  unfold rdOk
  rw [e3, i1, i2, hb]
  rfl
theorem readV_len {s : ByteArray} (h : (Rd.cutL 32 s.data.toList).length ≠ 3) : readV s = (zeroSay, false) := by
  unfold readV
  split
  · rename_i hL
    rw [hL] at h
    exact absurd rfl h
  · rfl
theorem readV_three {s : ByteArray} {w0 w1 w2 : List UInt8} (hL : Rd.cutL 32 s.data.toList = [w0, w1, w2]) : readV s = if rdOk w0 w1 w2 = true then (rdSay w0 w1 w2, true) else (zeroSay, false) := by
  unfold readV
  rw [hL]
theorem readV_no {s : ByteArray} {w0 w1 w2 : List UInt8} (hL : Rd.cutL 32 s.data.toList = [w0, w1, w2]) (h : rdOk w0 w1 w2 = false) : readV s = (zeroSay, false) := by
  rw [readV_three hL, if_neg (by rw [h]; decide)]
theorem readV_yes {s : ByteArray} {w0 w1 w2 : List UInt8} (hL : Rd.cutL 32 s.data.toList = [w0, w1, w2]) {a v : Int} (hb : sayB ⟨bs w0, a, v⟩ = true) (ht : sayT ⟨bs w0, a, v⟩ = s) : readV s = (⟨bs w0, a, v⟩, true) := by
  obtain ⟨h1, h2⟩ := rd_back hL hb ht
  rw [readV_three hL, if_pos h1, h2]
theorem rd_no {s : ByteArray} {w0 w1 w2 : List UInt8} (hL : Rd.cutL 32 s.data.toList = [w0, w1, w2]) (h : ¬ (∃ a v, Lib.atoiAll w1 = .ok a ∧ Lib.atoiAll w2 = .ok v ∧ sayB ⟨bs w0, a, v⟩ = true ∧ sayT ⟨bs w0, a, v⟩ = s)) : readV s = (zeroSay, false) := by
  refine readV_no hL ?_
  cases hr : rdOk w0 w1 w2 with
  | false => rfl
  | true => exact absurd ⟨_, _, rd_true hL hr⟩ h
end Go.Proofs.YtonfeiloekofdaaGreatDoor

namespace Go.Proofs.YtonfeiloekofdaaGreatDoor
open Go.Proofs Go.Shelf
open Go.ChangeShapes Go.WideShapes Go.ChangeAt Go.RowKit Go.BigFrame Go.Deep
set_option linter.unusedVariables false
set_option linter.unusedSimpArgs false
def ren_n166 : Shelf.Ren where
  f := fun x => match x with | 166 => 59 | 240 => 76 | 276 => 82 | n => n
  t := fun x => match x with | 0 => 0 | 3 => 3 | 4 => 4 | 5 => 5 | 9 => 9 | 20 => 20 | 37 => 22 | 70 => 84 | 72 => 86 | 75 => 88 | 80 => 92 | 164 => 109 | 127 => 105 | n => n
  g := fun x => x
theorem lays_n166 : Lays.n166 Tryz.prog ren_n166 where
  mixed := by kernel_rfl
  f166 := by kernel_rfl
  f240 := by kernel_rfl
  f276 := by kernel_rfl
  t0 := Tryz.underlying0
  a0 := Tryz.isAgg0
  z0 := Tryz.sizeOf0
  v0 := Tryz.zeroValue0
  t3 := Tryz.underlying3
  a3 := Tryz.isAgg3
  z3 := Tryz.sizeOf3
  v3 := Tryz.zeroValue3
  t4 := Tryz.underlying4
  a4 := Tryz.isAgg4
  z4 := Tryz.sizeOf4
  v4 := Tryz.zeroValue4
  t9 := Tryz.underlying9
  a9 := Tryz.isAgg9
  z9 := Tryz.sizeOf9
  v9 := Tryz.zeroValue9
  t20 := Tryz.underlying20
  a20 := Tryz.isAgg20
  z20 := Tryz.sizeOf20
  v20 := Tryz.zeroValue20
  t37 := Tryz.underlying22
  a37 := Tryz.isAgg22
  z37 := Tryz.sizeOf22
  v37 := Tryz.zeroValue22
  t70 := Tryz.underlying84
  a70 := Tryz.isAgg84
  z70 := Tryz.sizeOf84
  v70 := Tryz.zeroValue84
  t72 := Tryz.underlying86
  a72 := Tryz.isAgg86
  z72 := Tryz.sizeOf86
  v72 := Tryz.zeroValue86
  t75 := Tryz.underlying88
  a75 := Tryz.isAgg88
  z75 := Tryz.sizeOf88
  v75 := Tryz.zeroValue88
  t164 := Tryz.underlying109
  a164 := Tryz.isAgg109
  z164 := Tryz.sizeOf109
  v164 := Tryz.zeroValue109
def ren_n169 : Shelf.Ren where
  f := fun x => match x with | 169 => 61 | n => n
  t := fun x => match x with | 0 => 0 | 3 => 3 | 4 => 4 | 5 => 5 | 9 => 9 | 20 => 20 | 37 => 22 | 70 => 84 | 72 => 86 | 75 => 88 | 80 => 92 | 164 => 109 | 127 => 105 | n => n
  g := fun x => x
theorem lays_n169 : Lays.n169 Tryz.prog ren_n169 where
  mixed := by kernel_rfl
  f169 := by kernel_rfl
  t0 := Tryz.underlying0
  a0 := Tryz.isAgg0
  z0 := Tryz.sizeOf0
  v0 := Tryz.zeroValue0
  t3 := Tryz.underlying3
  a3 := Tryz.isAgg3
  z3 := Tryz.sizeOf3
  v3 := Tryz.zeroValue3
  t9 := Tryz.underlying9
  a9 := Tryz.isAgg9
  z9 := Tryz.sizeOf9
  v9 := Tryz.zeroValue9
  t37 := Tryz.underlying22
  a37 := Tryz.isAgg22
  z37 := Tryz.sizeOf22
  v37 := Tryz.zeroValue22
  t70 := Tryz.underlying84
  a70 := Tryz.isAgg84
  z70 := Tryz.sizeOf84
  v70 := Tryz.zeroValue84
  t72 := Tryz.underlying86
  a72 := Tryz.isAgg86
  z72 := Tryz.sizeOf86
  v72 := Tryz.zeroValue86
  t127 := Tryz.underlying105
  a127 := Tryz.isAgg105
  z127 := Tryz.sizeOf105
  v127 := Tryz.zeroValue105
theorem extra_n166 : Builder.Extra Tryz.prog ren_n166 where
  sizeBuilder := by kernel_rfl
  liesBuilder := by kernel_rfl
  t5 := Tryz.underlying5
  a5 := Tryz.isAgg5
  z5 := Tryz.sizeOf5
  v5 := Tryz.zeroValue5
  infoByte := by kernel_rfl
  cellsByte := by kernel_rfl
  sizeByte := by kernel_rfl
  neB5 := by decide
theorem extra_n169 : Builder.Extra Tryz.prog ren_n169 where
  sizeBuilder := by kernel_rfl
  liesBuilder := by kernel_rfl
  t5 := Tryz.underlying5
  a5 := Tryz.isAgg5
  z5 := Tryz.sizeOf5
  v5 := Tryz.zeroValue5
  infoByte := by kernel_rfl
  cellsByte := by kernel_rfl
  sizeByte := by kernel_rfl
  neB5 := by decide
def Bld (b : Nat) (t : ByteArray) (w : World) : Prop := Lib.IsBuilderF 86 5 b b (Lib.byteCells t.data.toList) w
theorem bldAt_lt {p : Value} {b : Nat} {bs : List Value} {w : World} (h : Lib.BuilderAtF 86 5 b b p bs w) : b < w.heap.size := h.lt
theorem Bld.lt {b : Nat} {t : ByteArray} {w : World} (h : Bld b t w) : b < w.heap.size := h.elim bldAt_lt bldAt_lt
theorem bldAt_below {p : Value} {b : Nat} {bs : List Value} {w w' : World} (h : Lib.BuilderAtF 86 5 b b p bs w) (hb : Below w.heap.size w w') : Lib.BuilderAtF 86 5 b b p bs w' := by
  have hlt := h.lt
  obtain ⟨hB, v, hv, hown, hne⟩ := h
  exact ⟨hB, v, (hb.block b hlt).trans hv, hown.kept (row := none) ⟨hb.os, hb.tape, hb.output, hb.size, fun k hk _ => hb.block k hk⟩ (Classical.em _), hne⟩
theorem Bld.below {b : Nat} {t : ByteArray} {w w' : World} (h : Bld b t w) (hb : Below w.heap.size w w') : Bld b t w' := h.elim (fun x => .inl (bldAt_below x hb)) (fun x => .inr (bldAt_below x hb))
theorem Bld.fresh (w : World) : Bld w.heap.size ⟨#[]⟩ (w.alloc (.cells #[.pointer none, .slice none 0 0] 86)) := Lib.IsBuilderF.of (Lib.fresh_isBuilder 86 5 w)
theorem Bld.write {b : Nat} {t : ByteArray} {w : World} (h : Bld b t w) (s : ByteArray) (hl : t.size + s.size ≤ 140737488355328) :
    Calls Tryz.prog 59 #[.pointer (some ⟨b, 0, none⟩), .string s] w fun e w' => e = .returned (.tuple #[.int .i64 s.size, .nilIface]) ∧ Bld b (t ++ s) w' ∧ Below b w w' ∧ Lib.OthersKept 5 (some b) w w' := by
  refine (Any.Builder_WriteString_k lays_n166 extra_n166 b b _ s w h (by rw [Lib.byteCells_length, ← Lib.size_eq]; exact hl) (Nat.le_of_lt h.lt)).mono ?_
  rintro e w' ⟨rfl, h1, h2, h3⟩
  refine ⟨rfl, ?_, h2, h3⟩
  rw [Lib.strCells_eq, ← Lib.byteCells_append] at h1
  have e1 : (t ++ s).data.toList = t.data.toList ++ s.data.toList := by simp
  unfold Bld
  rw [e1]
  exact .inr h1
theorem Bld.string {b : Nat} {t : ByteArray} {w : World} (h : Bld b t w) :
    Calls Tryz.prog 61 #[.pointer (some ⟨b, 0, none⟩)] w fun e w' => e = .returned (.string t) ∧ Below b w w' := by
  refine (Any.Builder_String_any_k lays_n169 extra_n169 b b _ w h (Nat.le_of_lt h.lt)).mono ?_
  rintro e w' ⟨rfl, _, h2, _⟩
  exact ⟨by rw [Lib.mk_data], h2⟩
def accS (t : ByteArray) (nm : ByteArray) (l : List GSample) : Nat → ByteArray
  | 0 => t
  | j + 1 => accS t nm l j ++ (sayT ⟨nm, (l.getD j default).at_, (l.getD j default).value⟩ ++ ⟨#[10]⟩)
def accH (h : GHead) : Nat → ByteArray
  | 0 => itoaB h.offset ++ ⟨#[10]⟩
  | i + 1 => accS (accH h i) (h.rows.getD i default).name (h.rows.getD i default).samples (h.rows.getD i default).samples.length
def headT (h : GHead) : ByteArray := accH h h.rows.length
structure HeadOk (h : GHead) : Prop where
  n : h.rows.length ≤ 8
  o0 : 0 ≤ h.offset
  o1 : h.offset ≤ 1000
  m : ∀ i, i < h.rows.length → (h.rows.getD i default).samples.length ≤ 40
  say : ∀ i j, i < h.rows.length → j < (h.rows.getD i default).samples.length → SayOk ⟨(h.rows.getD i default).name, ((h.rows.getD i default).samples.getD j default).at_, ((h.rows.getD i default).samples.getD j default).value⟩
theorem accS_size {t nm : ByteArray} {l : List GSample} (hs : ∀ j, j < l.length → SayOk ⟨nm, (l.getD j default).at_, (l.getD j default).value⟩) : ∀ j, j ≤ l.length → (accS t nm l j).size ≤ t.size + j * 1048622
  | 0, _ => by simp [accS]
  | j + 1, hj => by
    have ih := accS_size (t := t) hs j (by omega)
    have h1 := sayT_size (hs j (by omega))
    have h2 := (hs j (by omega)).name
    have h3 : (⟨#[10]⟩ : ByteArray).size = 1 := rfl
    unfold accS
    simp only [ByteArray.size_append]
    simp only at h1 h2
    omega
theorem accH_size {h : GHead} (hok : HeadOk h) : ∀ i, i ≤ h.rows.length → (accH h i).size ≤ 22 + i * 41944880
  | 0, _ => by
    have h1 := itoaB_size (z := h.offset) (by have := hok.o0; omega) (by have := hok.o1; omega)
    have h3 : (⟨#[10]⟩ : ByteArray).size = 1 := rfl
    unfold accH
    simp only [ByteArray.size_append]
    omega
  | i + 1, hi => by
    have ih := accH_size hok i (by omega)
    have h1 := accS_size (t := accH h i) (fun j hj => hok.say i j (by omega) hj) _ (Nat.le_refl _)
    have h2 := hok.m i (by omega)
    unfold accH
    have h4 : (h.rows.getD i default).samples.length * 1048622 ≤ 40 * 1048622 := Nat.mul_le_mul_right _ h2
    omega
theorem headT_size {h : GHead} (hok : HeadOk h) : (headT h).size ≤ 335559062 := by
  have := accH_size hok _ (Nat.le_refl _)
  have := hok.n
  unfold headT; omega
theorem headT_plain {h : GHead} (hok : HeadOk h) : (headT h).size ≤ maxLen := by
  have := headT_size hok
  unfold maxLen; omega
theorem callItoa {z : Int} (h0 : -9223372036854775808 ≤ z) (h1 : z ≤ 9223372036854775807) {w W : World} (hp : Pre w.heap.size w) (hb : Below w.heap.size w W) :
    Calls Tryz.prog 60 #[.int .i64 z] W fun e W' => e = .returned (.string (itoaB z)) ∧ Below W.heap.size W W' :=
  v_Itoa z h0 h1 W (fun _ => False) [.int .i64 z] ⟨fun _ h => h.elim, (hp.below hb).mono hb.size⟩ ⟨_, _, rfl, rfl, rfl⟩
end Go.Proofs.YtonfeiloekofdaaGreatDoor

namespace Go.Proofs.YtonfeiloekofdaaGreatDoor
open Go.ChangeShapes Go.WideShapes Go.ChangeAt Go.RowKit Go.BigFrame Go.Deep
set_option linter.unusedVariables false
set_option linter.unusedSimpArgs false
theorem cells_at {w : World} {b : Nat} {cs : Array Value} {T : TypeId} {fr : Nat × Nat} (h : w.heap[b]? = some (.cells cs T fr)) (j : Nat) : w.cell? ⟨b, j, none⟩ = cs[j]? := Lib.cell_of_heap h j
theorem alloc_new (w : World) (o : Obj) : (w.alloc o).heap[w.heap.size]? = some o := by
  show (w.heap.push o)[w.heap.size]? = some o
  simp
theorem empty_app (t : ByteArray) : (⟨#[]⟩ : ByteArray) ++ t = t := by
  apply ByteArray.ext
  simp
set_option maxHeartbeats 4000000 in
set_option maxRecDepth 100000 in
theorem v_headText (h : GHead) (hok : HeadOk h) : Fn Tryz.prog 30 [.agg [.lst 2 h.rows.length (fun i0 j0 => ([.str ((h.rows.getD i0 (default : GRow)).name), .lst 2 (((h.rows.getD i0 (default : GRow)).samples).length) (fun i1 j1 => ([.int .i64 ((((h.rows.getD i0 (default : GRow)).samples).getD i1 (default : GSample)).at_), .int .i64 ((((h.rows.getD i0 (default : GRow)).samples).getD i1 (default : GSample)).value)] : List AV).getD j1 (.con undef))] : List AV).getD j0 (.con undef)), .int .i64 h.offset]] (.one (.str (headT h))) := by
  intro w S vs hS hd
  obtain ⟨v, vs1, rfl, h1, h2⟩ := hd
  obtain rfl : vs1 = [] := h2
  obtain ⟨us, rfl, u0, us0, e0, hA, u1, us1, e1, hO, e2⟩ := h1
  obtain rfl : us1 = [] := e2
  obtain rfl : u1 = .int .i64 h.offset := hO
  subst e1
  obtain ⟨A, c, rfl, hn, hc, hz, hrow⟩ := hA
  obtain rfl : us = #[.slice A h.rows.length c, .int .i64 h.offset] := by
    apply Array.ext'
    exact e0
  clear e0
  have hb0 : Bld (w.heap.size + 1) ⟨#[]⟩ ((w.alloc (.cells #[.slice A h.rows.length c, .int .i64 h.offset] 25)).alloc (.cells #[.pointer none, .slice none 0 0] 86)) := by
    have h0 := Bld.fresh (w.alloc (.cells #[.slice A h.rows.length c, .int .i64 h.offset] 25))
    have e1 : (w.alloc (.cells #[.slice A h.rows.length c, .int .i64 h.offset] 25)).heap.size = w.heap.size + 1 := by simp
    rwa [e1] at h0
  have hbw0 : Below w.heap.size w ((w.alloc (.cells #[.slice A h.rows.length c, .int .i64 h.offset] 25)).alloc (.cells #[.pointer none, .slice none 0 0] 86)) := ((Below.refl _ w).alloc (Nat.le_refl _) _).alloc (by simp) _
  have hbx : ((w.alloc (.cells #[.slice A h.rows.length c, .int .i64 h.offset] 25)).alloc (.cells #[.pointer none, .slice none 0 0] 86)).heap[w.heap.size]? = some (.cells #[.slice A h.rows.length c, .int .i64 h.offset] 25) :=
    (Lib.alloc_old _ _ _ (by simp)).trans (alloc_new w _)
  have o0 := hok.o0
  have o1 := hok.o1
  have hN := hok.n
  have hl0 : (⟨#[]⟩ : ByteArray).size + (itoaB h.offset ++ ⟨#[10]⟩).size ≤ 140737488355328 := by
    have h1 := accH_size hok 0 (Nat.zero_le _)
    have h2 : (⟨#[]⟩ : ByteArray).size = 0 := rfl
    unfold accH at h1
    omega
  have hadd0 : ∀ W, (Op.stringOp .add (itoaB h.offset) ⟨#[10]⟩).run Tryz.prog W = .ok (.string (itoaB h.offset ++ ⟨#[10]⟩)) W := fun W => run_string_add_sum W _ _ (by
    have h2 : (⟨#[]⟩ : ByteArray).size = 0 := rfl
    rw [ByteArray.size_append] at hl0
    omega)
  go_enter Tryz.func30, Tryz.ntmps30
  go_wp2_with (go_at_call 60; refine (callItoa (z := h.offset) (by omega) (by omega) hS.pre hbw0).mono ?_; rintro e w1 ⟨rfl, g1⟩)
  go_wp2_with (go_at_call 59; refine (Bld.write (hb0.below g1) _ hl0).mono ?_; rintro e w2 ⟨rfl, b2, k2, -⟩; (rw [empty_app] at b2); (have hcb : w2.cell? ⟨w.heap.size, 0, none⟩ = some (.slice A h.rows.length c) := (k2.cell (Nat.lt_succ_self _)).trans ((g1.cell (by simp; omega)).trans (cells_at hbx 0))))
  have hbw2 : Below w.heap.size w w2 := hbw0.trans ((g1.mono hbw0.size).trans (k2.mono (Nat.le_succ _)))
  clear hb0 hbw0 hbx g1 k2
  go_loopw [16] (fun i wr => ∃ k : Nat, k ≤ h.rows.length ∧ i = .int .i64 k ∧ Bld (w.heap.size + 1) (accH h k) wr ∧ Below w.heap.size w wr) (fun i _ => h.rows.length - (intOf i).toNat)
  case atStart => exact ⟨0, Nat.zero_le _, rfl, b2, hbw2⟩
  case round =>
    rename World => wo
    obtain ⟨k, hk, rfl, hbld, hbel⟩ := hrel
    clear hcb hbw2 b2
    have hblt := hbld.lt
    by_cases hlt : k < h.rows.length
    · obtain ⟨b1, off1, rfl, hSb, hcells⟩ := hrow k hlt
      obtain ⟨u0, hu0, hd0⟩ := hcells 0 (by omega)
      obtain ⟨u1, hu1, hd1⟩ := hcells 1 (by omega)
      obtain ⟨rfl, hnm⟩ : u0 = .string (h.rows.getD k default).name ∧ _ := hd0
      obtain ⟨A', c', rfl, hn', hc', hz', hsam⟩ := hd1
      have hcc0 : wo.cell? ⟨b1, off1 + k * 2, none⟩ = some (.string (h.rows.getD k default).name) := (hbel.cell (hS _ hSb)).trans hu0
      have hcc1 : wo.cell? ⟨b1, off1 + k * 2 + 1, none⟩ = some (.slice A' (h.rows.getD k default).samples.length c') := (hbel.cell (hS _ hSb)).trans hu1
      clear hcells hu0 hu1 hrow
      have hM := hok.m k hlt
      have hsay := hok.say k
      have hsz1 := fun j hj => accS_size (t := accH h k) (fun j hj => hok.say k j hlt hj) j hj
      have hsz2 := accH_size hok k hk
      generalize hnmE : (h.rows.getD k default).name = nm at *
      generalize hlE : (h.rows.getD k default).samples = l at *
      have HnmE := Lib.hid hnmE
      have HlE := Lib.hid hlE
      clear hnmE hlE
      have hbel' : Below w.heap.size w (wo.alloc (.cells #[.string nm, .slice A' l.length c'] 45)) := hbel.alloc hbel.size _
      have hbld' : Bld (w.heap.size + 1) (accS (accH h k) nm l 0) (wo.alloc (.cells #[.string nm, .slice A' l.length c'] 45)) := hbld.below ((Below.refl _ wo).alloc (Nat.le_refl _) _)
      have hbox' : (wo.alloc (.cells #[.string nm, .slice A' l.length c'] 45)).heap[wo.heap.size]? = some (.cells #[.string nm, .slice A' l.length c'] 45) := alloc_new wo _
      go_wp2_with fail
      go_loopw [23] (fun i wq => ∃ j : Nat, j ≤ l.length ∧ i = .int .i64 j ∧ Bld (w.heap.size + 1) (accS (accH h k) nm l j) wq ∧ Below w.heap.size w wq ∧ wq.heap[wo.heap.size]? = some (.cells #[.string nm, .slice A' l.length c'] 45)) (fun i _ => l.length - (intOf i).toNat)
      case atStart => exact ⟨0, Nat.zero_le _, rfl, hbld', hbel', hbox'⟩
      case round =>
        clear hbel' hbld' hbox'
        obtain ⟨j, hj, rfl, hbd, hbe, hbox⟩ := hrel
        have hr0 : wr.cell? ⟨wo.heap.size, 0, none⟩ = some (.string nm) := cells_at hbox 0
        have hrlt : wo.heap.size < wr.heap.size := by
          rcases Nat.lt_or_ge wo.heap.size wr.heap.size with h' | h'
          · exact h'
          · simp [Array.getElem?_eq_none h'] at hbox
        by_cases hlt2 : j < l.length
        · obtain ⟨b2, off2, rfl, hSb2, hcells2⟩ := hsam j hlt2
          obtain ⟨u0, hu0, hd0⟩ := hcells2 0 (by omega)
          obtain ⟨u1, hu1, hd1⟩ := hcells2 1 (by omega)
          obtain rfl : u0 = .int .i64 (l.getD j default).at_ := hd0
          obtain rfl : u1 = .int .i64 (l.getD j default).value := hd1
          have hss0 : wr.cell? ⟨b2, off2 + j * 2, none⟩ = some (.int .i64 (l.getD j default).at_) := (hbe.cell (hS _ hSb2)).trans hu0
          have hss1 : wr.cell? ⟨b2, off2 + j * 2 + 1, none⟩ = some (.int .i64 (l.getD j default).value) := (hbe.cell (hS _ hSb2)).trans hu1
          clear hcells2 hu0 hu1 hsam
          have hx := hsay j hlt hlt2
          have hsx := sayT_size hx
          have hxn := hx.name
          have hsz3 := hsz1 j hj
          have hone : (⟨#[10]⟩ : ByteArray).size = 1 := rfl
          have hl2 : (accS (accH h k) nm l j).size + (sayT ⟨nm, (l.getD j default).at_, (l.getD j default).value⟩ ++ ⟨#[10]⟩).size ≤ 140737488355328 := by
            rw [ByteArray.size_append]
            simp only at hsx hxn
            omega
          have hadd1 : ∀ W, (Op.stringOp .add (sayT ⟨nm, (l.getD j default).at_, (l.getD j default).value⟩) ⟨#[10]⟩).run Tryz.prog W = .ok (.string (sayT ⟨nm, (l.getD j default).at_, (l.getD j default).value⟩ ++ ⟨#[10]⟩)) W := fun W => run_string_add_sum W _ _ (by
            simp only at hsx hxn
            omega)
          generalize haE : (l.getD j default).at_ = xa at *
          generalize hvE : (l.getD j default).value = xv at *
          have HaE := Lib.hid haE
          have HvE := Lib.hid hvE
          clear haE hvE
          have hbe2 : Below w.heap.size w (wr.alloc (.cells #[.int .i64 xa, .int .i64 xv] 47)) := hbe.alloc hbe.size _
          have hbd2 : Bld (w.heap.size + 1) (accS (accH h k) nm l j) (wr.alloc (.cells #[.int .i64 xa, .int .i64 xv] 47)) := hbd.below ((Below.refl _ wr).alloc (Nat.le_refl _) _)
          go_wp2_with (go_at_call 45; refine (callSay hx hS.pre hbe2).mono ?_; rintro e w3 ⟨rfl, g3⟩)
          go_wp2_with (go_at_call 59; refine (Bld.write (hbd2.below g3) _ hl2).mono ?_; rintro e w4 ⟨rfl, b4, k4, o4⟩)
          go_roundw
          case rel =>
            refine ⟨j + 1, by omega, by go_num, ?_, hbe2.trans ((g3.mono hbe2.size).trans (k4.mono (Nat.le_succ _))), ?_⟩
            · show Bld _ (accS (accH h k) nm l j ++ (sayT ⟨nm, (l.getD j default).at_, (l.getD j default).value⟩ ++ ⟨#[10]⟩)) _
              rw [HaE.out, HvE.out]
              exact b4
            · refine o4 _ _ ((g3.block _ (by simp; omega)).trans ((Lib.alloc_old _ _ _ hrlt).trans hbox)) (fun e => ?_) (fun c fz e => ?_)
              · have := Option.some.inj e
                omega
              · simp only [Obj.cells.injEq] at e
                exact absurd e.2.1 (by decide)
          case measure => simp [intOf]; omega
        · go_wp2_with fail
          go_roundw
          case rel =>
            refine ⟨k + 1, by omega, by go_num, ?_, hbe⟩
            show Bld _ (accS (accH h k) (h.rows.getD k default).name (h.rows.getD k default).samples (h.rows.getD k default).samples.length) _
            rw [HnmE.out, HlE.out]
            obtain rfl : j = l.length := by omega
            exact hbd
          case measure => simp [intOf]; omega
    · go_wp2_with (go_at_call 61; refine (Bld.string hbld).mono ?_; rintro e w3 ⟨rfl, k3⟩)
      go_ret
      obtain rfl : k = h.rows.length := by omega
      exact ⟨rfl, hbel.trans (k3.mono (Nat.le_succ _))⟩
end Go.Proofs.YtonfeiloekofdaaGreatDoor

namespace Go.Proofs.YtonfeiloekofdaaGreatDoor
open Go.ChangeShapes Go.WideShapes Go.ChangeAt Go.RowKit Go.BigFrame Go.Deep
set_option linter.unusedVariables false
set_option linter.unusedSimpArgs false
theorem f53_ : callB Tryz.prog 29 = true := by kernel_rfl
theorem f54_ : callB Tryz.prog 30 = true := by kernel_rfl
theorem f55_ : callB Tryz.prog 31 = true := by kernel_rfl
theorem f56_ : callB Tryz.prog 32 = true := by kernel_rfl
theorem f57_ : callB Tryz.prog 47 = true := by kernel_rfl
def headV (h : GHead) : ByteArray × Bool := if goodHead h = true then (headT h, true) else (⟨#[]⟩, false)
theorem samples_ok {l : List GSample} (hg : samplesB l = true) : l.length ≤ 40 ∧ ∀ j, j < l.length → inB 0 1000000000 (l.getD j default).at_ = true ∧ inB (-1000000000) 1000000000 (l.getD j default).value = true := by
  unfold samplesB at hg
  rw [Bool.and_eq_true] at hg
  have h0 := of_decide_eq_true hg.2
  refine ⟨by omega, fun j hj => ?_⟩
  have h4 := List.all_eq_true.1 hg.1 j (List.mem_range.2 hj)
  rw [Bool.not_eq_true'] at h4
  unfold saBad at h4
  revert h4
  generalize inB 0 _ _ = a1
  generalize inB (-1000000000) _ _ = a2
  generalize cond (decide ((0 : Int) < (j : Int))) _ false = a3
  revert a1 a2 a3; decide
theorem good_rows {h : GHead} (hg : goodHead h = true) (i : Nat) (hi : i < h.rows.length) : nameB (h.rows.getD i default).name false = true ∧ samplesB (h.rows.getD i default).samples = true := by
  unfold goodHead at hg
  rw [Bool.and_eq_true] at hg
  have h4 := List.all_eq_true.1 hg.1 i (List.mem_range.2 hi)
  rw [Bool.not_eq_true'] at h4
  unfold rowBad at h4
  revert h4
  generalize nameB _ false = a1
  generalize samplesB _ = a2
  generalize decide ((_ : Int) = 0) = a3
  generalize cond (decide ((0 : Int) < (i : Int))) _ false = a4
  revert a1 a2 a3 a4; decide
theorem good_ok {h : GHead} (hg : goodHead h = true) : HeadOk h := by
  have hr := good_rows hg
  unfold goodHead at hg
  simp only [Bool.cond_false_right, Bool.and_eq_true] at hg
  obtain ⟨h1, h2, h3⟩ := hg
  obtain ⟨c1, c2⟩ := inB_true h3
  have h2' := of_decide_eq_true h2
  refine ⟨by omega, by omega, by omega, fun i hi => (samples_ok (hr i hi).2).1, fun i j hi hj => ?_⟩
  obtain ⟨n1, n2⟩ := hr i hi
  have n3 : (h.rows.getD i default).name.size ≤ 8 := by
    unfold nameB at n1
    rw [Bool.and_eq_true] at n1
    have := (inB_true n1.2).2
    omega
  obtain ⟨m1, m2⟩ := (samples_ok n2).2 j hj
  have e1 := inB_true m1
  have e2 := inB_true m2
  exact ⟨by dsimp only; omega, e1.1, by dsimp only; omega, by dsimp only; omega, by dsimp only; omega⟩
theorem headV_plain (h : GHead) : (headV h).1.size ≤ maxLen := by
  unfold headV
  by_cases hg : goodHead h = true
  · rw [if_pos hg]; exact headT_plain (good_ok hg)
  · rw [if_neg hg]; exact Nat.zero_le _
theorem v_l13HeadText (h : GHead) (hok : HeadOk h) : Fn Tryz.prog 32 [.agg [.lst 2 h.rows.length (fun i0 j0 => ([.str ((h.rows.getD i0 (default : GRow)).name), .lst 2 (((h.rows.getD i0 (default : GRow)).samples).length) (fun i1 j1 => ([.int .i64 ((((h.rows.getD i0 (default : GRow)).samples).getD i1 (default : GSample)).at_), .int .i64 ((((h.rows.getD i0 (default : GRow)).samples).getD i1 (default : GSample)).value)] : List AV).getD j1 (.con undef))] : List AV).getD j0 (.con undef)), .int .i64 h.offset]] (.one (.str (headT h))) := by
 have hN := hok.n
 have o0 := hok.o0
 have o1 := hok.o1
 have hnl : (⟨#[10]⟩ : ByteArray).size = 1 := rfl
 have hso : (itoaB h.offset).size ≤ 21 := itoaB_size (by omega) (by omega)
 refine Fn.of_body (fn := Tryz.f32) Tryz.func32 rfl (nB rfl) (headT_plain hok) ?_
 intro w0
 show AW _ 40 _ _ _ _
 refine AW.boundAL (t := 0) (j := 0) rfl rfl fun hx => ?_
 refine AW.seq ?_
 refine AW.region ?_
 refine ARun.box (id := 0) rfl (.tmp rfl) (SV.cells_of (by exact ⟨trivial, trivial, trivial⟩)) ⟨rfl, (by repeat first | exact trivial | refine ⟨by decide, by first | rfl | exact trivial | (intro i j; first | rfl | exact getD_no rfl | (dsimp only; split <;> first | rfl | exact getD_no rfl) | exact scl_no (by apply_assumption) _), ?_⟩)⟩ rfl rfl rfl (nB rfl) ?_
 refine pu (.assign rfl (.str (by decide))) rfl rfl rfl ?_
 refine ARun.nil ?_
 refine AW.seq ?_
 refine AW.region ?_
 refine pu (.fieldPtr rfl (.tmp rfl) f30_) rfl rfl rfl ?_
 refine pu (.loadPtr rfl (.tmp rfl) f9_ rfl rfl (nB rfl) (nB rfl)) rfl rfl rfl ?_
 refine pu (.call rfl (v_NumI h.offset (by omega) (by omega)) ⟨⟨_, (.tmp rfl), .int⟩, trivial⟩ f39_ (itoaB_plain (by omega) (by omega))) rfl rfl rfl ?_
 refine pu (.strAdd rfl (.tmp rfl) (.str (by decide)) (by skip; (try simp only [ByteArray.size_append]); omega)) rfl rfl rfl ?_
 refine pu (.assign rfl (.tmp rfl)) rfl rfl rfl ?_
 refine ARun.nil ?_
 refine AW.seq ?_
 refine AW.seq ?_
 refine AW.region ?_
 refine pu (.fieldPtr rfl (.tmp rfl) f29_) rfl rfl rfl ?_
 refine pu (.loadPtr rfl (.tmp rfl) f33_ rfl rfl (nB rfl) (nB rfl)) rfl rfl rfl ?_
 refine pu (.lenLst rfl (.tmp rfl) f35_) rfl rfl rfl ?_
 refine pu (.move rfl .int) rfl rfl rfl ?_
 refine ARun.nil ?_
 refine AW.block ?_
 refine AW.loop (ι := Nat) (fun k => ⟨[(3, .one (.str (accH h k))), (13, .one (.lst 2 h.rows.length (fun i0 j0 => ([.str ((h.rows.getD i0 (default : GRow)).name), .lst 2 (((h.rows.getD i0 (default : GRow)).samples).length) (fun i1 j1 => ([.int .i64 ((((h.rows.getD i0 (default : GRow)).samples).getD i1 (default : GSample)).at_), .int .i64 ((((h.rows.getD i0 (default : GRow)).samples).getD i1 (default : GSample)).value)] : List AV).getD j1 (.con undef))] : List AV).getD j0 (.con undef)))), (14, .one (.int .i64 (h.rows.length : Int))), (15, .one (.int .i64 (k : Int)))], []⟩) (fun k => k ≤ h.rows.length) (fun k => h.rows.length - k) 0 (Nat.zero_le _) ⟨⟨⟨_, rfl, rfl⟩, ⟨_, rfl, rfl⟩, ⟨_, rfl, rfl⟩, ⟨_, rfl, rfl⟩, trivial⟩, trivial⟩ ?_
 intro k hk
 have hTk := accH_size hok k hk
 refine AW.seq ?_
 refine AW.region ?_
 refine pu (.intOp rfl (.tmp rfl) (.tmp rfl) rfl) rfl rfl rfl ?_
 refine ARun.nil ?_
 refine AW.seq ?_
 refine AW.cond (.tmp rfl) (fun hb1 => ?_) (fun hb1 => ?_)
 ·
  replace hb1 := of_decide_eq_true hb1
  have hkl : k < h.rows.length := by omega
  have hM := hok.m k hkl
  refine AW.skip ?_
  refine AW.seq ?_
  refine AW.block ?_
  refine AW.seq ?_
  refine AW.region ?_
  refine pu (.indexLst (i := k) rfl (.tmp rfl) f28_ (.tmp rfl) rfl (by omega)) rfl rfl rfl ?_
  refine pu (.loadRefAgg rfl (.tmp rfl) f27_ (nB rfl)) rfl rfl rfl ?_
  refine ARun.alloc (id := 1) (l := [.str ByteArray.empty, .lst 2 0 (fun _ _ => .con undef)]) (z := (.agg #[.string ByteArray.empty, .slice none 0 0])) rfl (by kernel_rfl) (fun _ _ _ => ⟨_, _, rfl, ⟨rfl, by decide⟩, ⟨_, _, rfl, ⟨none, 0, rfl, Nat.le_refl _, by decide, fun _ => rfl, fun i hi => absurd hi (by omega)⟩, rfl⟩⟩) ⟨rfl, (by repeat first | exact trivial | refine ⟨by decide, by first | rfl | exact trivial | (intro i j; first | rfl | exact getD_no rfl | (dsimp only; split <;> first | rfl | exact getD_no rfl) | exact scl_no (by apply_assumption) _), ?_⟩)⟩ rfl rfl rfl (nB rfl) ?_
  refine ARun.store rfl (.tmp rfl) (.tmp rfl) (SV.cells_of (by exact ⟨trivial, trivial, trivial⟩)) rfl (nB rfl) f38_ rfl rfl ?_
  refine ARun.nil ?_
  refine AW.seq ?_
  refine AW.region ?_
  refine pu (.fieldPtr rfl (.tmp rfl) f32_) rfl rfl rfl ?_
  refine pu (.loadPtr rfl (.tmp rfl) f34_ rfl rfl (nB rfl) (nB rfl)) rfl rfl rfl ?_
  refine pu (.lenLst rfl (.tmp rfl) f24_) rfl rfl rfl ?_
  refine pu (.move rfl .int) rfl rfl rfl ?_
  refine ARun.nil ?_
  refine AW.block ?_
  refine AW.loop (ι := Nat) (fun j => ⟨[(3, .one (.str (accS (accH h k) (h.rows.getD k (default : GRow)).name (h.rows.getD k (default : GRow)).samples j))), (5, .one (.ptr 1 2 0 0)), (13, .one (.lst 2 h.rows.length (fun i0 j0 => ([.str ((h.rows.getD i0 (default : GRow)).name), .lst 2 (((h.rows.getD i0 (default : GRow)).samples).length) (fun i1 j1 => ([.int .i64 ((((h.rows.getD i0 (default : GRow)).samples).getD i1 (default : GSample)).at_), .int .i64 ((((h.rows.getD i0 (default : GRow)).samples).getD i1 (default : GSample)).value)] : List AV).getD j1 (.con undef))] : List AV).getD j0 (.con undef)))), (14, .one (.int .i64 (h.rows.length : Int))), (15, .one (.int .i64 (k : Int))), (20, .one (.lst 2 (((h.rows.getD k (default : GRow)).samples).length) (fun i0 j0 => ([.int .i64 ((((h.rows.getD k (default : GRow)).samples).getD i0 (default : GSample)).at_), .int .i64 ((((h.rows.getD k (default : GRow)).samples).getD i0 (default : GSample)).value)] : List AV).getD j0 (.con undef)))), (21, .one (.int .i64 ((((h.rows.getD k (default : GRow)).samples).length : Nat) : Int))), (22, .one (.int .i64 (j : Int)))], [(1, .cells [.str ((h.rows.getD k (default : GRow)).name), .lst 2 (((h.rows.getD k (default : GRow)).samples).length) (fun i0 j0 => ([.int .i64 ((((h.rows.getD k (default : GRow)).samples).getD i0 (default : GSample)).at_), .int .i64 ((((h.rows.getD k (default : GRow)).samples).getD i0 (default : GSample)).value)] : List AV).getD j0 (.con undef))])]⟩) (fun j => j ≤ (h.rows.getD k (default : GRow)).samples.length) (fun j => (h.rows.getD k (default : GRow)).samples.length - j) 0 (Nat.zero_le _) ⟨⟨⟨_, rfl, rfl⟩, ⟨_, rfl, rfl⟩, ⟨_, rfl, rfl⟩, ⟨_, rfl, rfl⟩, ⟨_, rfl, rfl⟩, ⟨_, rfl, rfl⟩, ⟨_, rfl, rfl⟩, ⟨_, rfl, rfl⟩, trivial⟩, HeapLe.one rfl trivial⟩ ?_
  intro j hj
  have hTj := accS_size (t := accH h k) (fun j hj => hok.say k j hkl hj) j hj
  refine AW.seq ?_
  refine AW.region ?_
  refine pu (.intOp rfl (.tmp rfl) (.tmp rfl) rfl) rfl rfl rfl ?_
  refine ARun.nil ?_
  refine AW.seq ?_
  refine AW.cond (.tmp rfl) (fun hb2 => ?_) (fun hb2 => ?_)
  ·
   replace hb2 := of_decide_eq_true hb2
   have hjl : j < (h.rows.getD k (default : GRow)).samples.length := by omega
   have hSy := hok.say k j hkl hjl
   have hs1 := sayT_size hSy
   have hs2 := hSy.name
   dsimp only at hs1 hs2
   refine AW.skip ?_
   refine AW.seq ?_
   refine AW.block ?_
   refine AW.seq ?_
   refine AW.region ?_
   refine pu (.indexLst (i := j) rfl (.tmp rfl) f23_ (.tmp rfl) rfl (by omega)) rfl rfl rfl ?_
   refine pu (.loadRefAgg rfl (.tmp rfl) f21_ (nB rfl)) rfl rfl rfl ?_
   refine ARun.alloc (id := 2) (l := [.int .i64 0, .int .i64 0]) (z := (.agg #[.int .i64 0, .int .i64 0])) rfl (by kernel_rfl) (fun _ _ _ => ⟨_, _, rfl, rfl, ⟨_, _, rfl, rfl, rfl⟩⟩) ⟨rfl, (by repeat first | exact trivial | refine ⟨by decide, by first | rfl | exact trivial | (intro i j; first | rfl | exact getD_no rfl | (dsimp only; split <;> first | rfl | exact getD_no rfl) | exact scl_no (by apply_assumption) _), ?_⟩)⟩ rfl rfl rfl (nB rfl) ?_
   refine ARun.store rfl (.tmp rfl) (.tmp rfl) (SV.cells_of (by exact ⟨trivial, trivial, trivial⟩)) rfl (nB rfl) f25_ rfl rfl ?_
   refine ARun.nil ?_
   refine AW.region ?_
   refine pu (.move rfl (.tmp rfl)) rfl rfl rfl ?_
   refine pu (.fieldPtr rfl (.tmp rfl) f31_) rfl rfl rfl ?_
   refine pu (.loadPtr rfl (.tmp rfl) f12_ rfl rfl (nB rfl) (nB rfl)) rfl rfl rfl ?_
   refine pu (.fieldPtr rfl (.tmp rfl) f48_) rfl rfl rfl ?_
   refine pu (.loadPtr rfl (.tmp rfl) f9_ rfl rfl (nB rfl) (nB rfl)) rfl rfl rfl ?_
   refine pu (.fieldPtr rfl (.tmp rfl) f49_) rfl rfl rfl ?_
   refine pu (.loadPtr rfl (.tmp rfl) f9_ rfl rfl (nB rfl) (nB rfl)) rfl rfl rfl ?_
   refine pu (.build (ys := [.str ((h.rows.getD k (default : GRow)).name), .int .i64 ((((h.rows.getD k (default : GRow)).samples).getD j (default : GSample)).at_), .int .i64 ((((h.rows.getD k (default : GRow)).samples).getD j (default : GSample)).value)]) (l := [.str ByteArray.empty, .int .i64 0, .int .i64 0]) (pl := [(0, 1), (1, 1), (2, 1)]) (z := (.agg #[.string ByteArray.empty, .int .i64 0, .int .i64 0])) rfl (by kernel_rfl) (by kernel_rfl) (fun _ _ _ => ⟨_, _, rfl, ⟨rfl, by decide⟩, ⟨_, _, rfl, rfl, ⟨_, _, rfl, rfl, rfl⟩⟩⟩) ⟨(.tmp rfl), trivial, rfl, ⟨(.tmp rfl), trivial, rfl, ⟨(.tmp rfl), trivial, rfl, trivial⟩⟩⟩ rfl) rfl rfl rfl ?_
   refine pu (.call rfl (v_l13Text (⟨(h.rows.getD k (default : GRow)).name, (((h.rows.getD k (default : GRow)).samples).getD j (default : GSample)).at_, (((h.rows.getD k (default : GRow)).samples).getD j (default : GSample)).value⟩ : GSay) (hok.say k j hkl hjl)) ⟨⟨_, (.tmp rfl), ⟨.str, .int, .int, trivial⟩⟩, trivial⟩ f57_ (sayT_plain (hok.say k j hkl hjl))) rfl rfl rfl ?_
   refine pu (.strAdd rfl (.tmp rfl) (.str (by decide)) (by skip; (try simp only [ByteArray.size_append]); omega)) rfl rfl rfl ?_
   refine pu (.strAdd rfl (.tmp rfl) (.tmp rfl) (by skip; (try simp only [ByteArray.size_append]); omega)) rfl rfl rfl ?_
   refine pu (.assign rfl (.tmp rfl)) rfl rfl rfl ?_
   refine ARun.nil ?_
   refine AW.region ?_
   refine pu (.add (c := ((j + 1 : Nat) : Int)) rfl (.tmp rfl) .int (by rw [wrap_id (by omega) (by omega)]; omega)) rfl rfl rfl ?_
   refine pu (.move rfl (.tmp rfl)) rfl rfl rfl ?_
   refine ARun.nil ?_
   exact ⟨j + 1, by omega, by dsimp only; omega, ⟨⟨⟨_, rfl, rfl⟩, ⟨_, rfl, rfl⟩, ⟨_, rfl, rfl⟩, ⟨_, rfl, rfl⟩, ⟨_, rfl, rfl⟩, ⟨_, rfl, rfl⟩, ⟨_, rfl, rfl⟩, ⟨_, rfl, rfl⟩, trivial⟩, HeapLe.one rfl trivial⟩⟩
  ·
   replace hb2 := of_decide_eq_false hb2
   have hjn : j = (h.rows.getD k (default : GRow)).samples.length := by omega
   refine AW.exit ?_
   refine AW.region ?_
   refine pu (.add (c := ((k + 1 : Nat) : Int)) rfl (.tmp rfl) .int (by rw [wrap_id (by omega) (by omega)]; omega)) rfl rfl rfl ?_
   refine pu (.move rfl (.tmp rfl)) rfl rfl rfl ?_
   refine ARun.nil ?_
   exact ⟨k + 1, by omega, by dsimp only; omega, ⟨⟨⟨_, rfl, (congrArg (fun z => SV.one (.str (accS (accH h k) (h.rows.getD k (default : GRow)).name (h.rows.getD k (default : GRow)).samples z))) hjn)⟩, ⟨_, rfl, rfl⟩, ⟨_, rfl, rfl⟩, ⟨_, rfl, rfl⟩, trivial⟩, trivial⟩⟩
 ·
  replace hb1 := of_decide_eq_false hb1
  have hkn : k = h.rows.length := by omega
  refine AW.exit ?_
  refine AW.seq ?_
  refine AW.region ?_
  refine pu (.move rfl (.tmp rfl)) rfl rfl rfl ?_
  refine pu (.assign rfl (.tmp rfl)) rfl rfl rfl ?_
  refine ARun.nil ?_
  refine AW.ret (show ResL _ _ [.tmp 2] _ from resS rfl ?_)
  exact congrArg (accH h) hkn
theorem v_sHeadText (h : GHead) : Fn Tryz.prog 6 [.agg [.lst 2 h.rows.length (fun i0 j0 => ([.str ((h.rows.getD i0 (default : GRow)).name), .lst 2 (((h.rows.getD i0 (default : GRow)).samples).length) (fun i1 j1 => ([.int .i64 ((((h.rows.getD i0 (default : GRow)).samples).getD i1 (default : GSample)).at_), .int .i64 ((((h.rows.getD i0 (default : GRow)).samples).getD i1 (default : GSample)).value)] : List AV).getD j1 (.con undef))] : List AV).getD j0 (.con undef)), .int .i64 h.offset]] (.tup2 (.one (.str ((headV h).1))) (.one (.bool ((headV h).2)))) := by
 refine Fn.of_body (fn := Tryz.f6) Tryz.func6 rfl (nB rfl) ⟨headV_plain h, trivial⟩ ?_
 intro w0
 show AW _ 9 _ _ _ _
 refine AW.seq ?_
 refine AW.region ?_
 refine ARun.box (id := 0) rfl (.tmp rfl) (SV.cells_of (by exact ⟨trivial, trivial, trivial⟩)) ⟨rfl, (by repeat first | exact trivial | refine ⟨by decide, by first | rfl | exact trivial | (intro i j; first | rfl | exact getD_no rfl | (dsimp only; split <;> first | rfl | exact getD_no rfl) | exact scl_no (by apply_assumption) _), ?_⟩)⟩ rfl rfl rfl (nB rfl) ?_
 refine pu (.assign rfl (.str (by decide))) rfl rfl rfl ?_
 refine pu (.assign rfl .bool) rfl rfl rfl ?_
 refine ARun.nil ?_
 refine AW.seq ?_
 refine AW.seq ?_
 refine AW.region ?_
 refine pu (.loadPtrAgg rfl (.tmp rfl) f26_ rfl rfl (nB rfl) (nB rfl)) rfl rfl rfl ?_
 refine pu (.call rfl (v_specGoodHead h) ⟨⟨_, (.tmp rfl), ⟨.lst, .int, trivial⟩⟩, trivial⟩ f55_ trivial) rfl rfl rfl ?_
 refine pu (.not rfl (.tmp rfl)) rfl rfl rfl ?_
 refine ARun.nil ?_
 refine AW.cond (.tmp rfl) (fun hb1 => ?_) (fun hb1 => ?_)
 ·
  have hsb : goodHead h = false := by revert hb1; cases goodHead h <;> decide
  refine AW.seq ?_
  refine AW.region ?_
  refine pu (.assign rfl (.str (by decide))) rfl rfl rfl ?_
  refine pu (.assign rfl .bool) rfl rfl rfl ?_
  refine ARun.nil ?_
  refine AW.ret (show ResL _ _ [.tmp 2, .tmp 3] _ from res2S rfl rfl ?_)
  unfold headV; rw [if_neg (by rw [hsb]; decide)]; exact ⟨rfl, rfl⟩
 ·
  have hsb : goodHead h = true := by revert hb1; cases goodHead h <;> decide
  refine AW.skip ?_
  refine AW.seq ?_
  refine AW.region ?_
  refine pu (.loadPtrAgg rfl (.tmp rfl) f26_ rfl rfl (nB rfl) (nB rfl)) rfl rfl rfl ?_
  refine pu (.call rfl (v_l13HeadText h (good_ok (by assumption))) ⟨⟨_, (.tmp rfl), ⟨.lst, .int, trivial⟩⟩, trivial⟩ f56_ (headT_plain (good_ok (by assumption)))) rfl rfl rfl ?_
  refine pu (.assign rfl (.tmp rfl)) rfl rfl rfl ?_
  refine pu (.assign rfl .bool) rfl rfl rfl ?_
  refine ARun.nil ?_
  refine AW.ret (show ResL _ _ [.tmp 2, .tmp 3] _ from res2S rfl rfl ?_)
  unfold headV; rw [if_pos hsb]; exact ⟨rfl, rfl⟩
theorem v_iHeadText (h : GHead) : Fn Tryz.prog 5 [.agg [.lst 2 h.rows.length (fun i0 j0 => ([.str ((h.rows.getD i0 (default : GRow)).name), .lst 2 (((h.rows.getD i0 (default : GRow)).samples).length) (fun i1 j1 => ([.int .i64 ((((h.rows.getD i0 (default : GRow)).samples).getD i1 (default : GSample)).at_), .int .i64 ((((h.rows.getD i0 (default : GRow)).samples).getD i1 (default : GSample)).value)] : List AV).getD j1 (.con undef))] : List AV).getD j0 (.con undef)), .int .i64 h.offset]] (.tup2 (.one (.str ((headV h).1))) (.one (.bool ((headV h).2)))) := by
 refine Fn.of_body (fn := Tryz.f5) Tryz.func5 rfl (nB rfl) ⟨headV_plain h, trivial⟩ ?_
 intro w0
 show AW _ 9 _ _ _ _
 refine AW.seq ?_
 refine AW.region ?_
 refine ARun.box (id := 0) rfl (.tmp rfl) (SV.cells_of (by exact ⟨trivial, trivial, trivial⟩)) ⟨rfl, (by repeat first | exact trivial | refine ⟨by decide, by first | rfl | exact trivial | (intro i j; first | rfl | exact getD_no rfl | (dsimp only; split <;> first | rfl | exact getD_no rfl) | exact scl_no (by apply_assumption) _), ?_⟩)⟩ rfl rfl rfl (nB rfl) ?_
 refine pu (.assign rfl (.str (by decide))) rfl rfl rfl ?_
 refine pu (.assign rfl .bool) rfl rfl rfl ?_
 refine ARun.nil ?_
 refine AW.seq ?_
 refine AW.seq ?_
 refine AW.region ?_
 refine pu (.loadPtrAgg rfl (.tmp rfl) f26_ rfl rfl (nB rfl) (nB rfl)) rfl rfl rfl ?_
 refine pu (.call rfl (v_isHead h) ⟨⟨_, (.tmp rfl), ⟨.lst, .int, trivial⟩⟩, trivial⟩ f53_ trivial) rfl rfl rfl ?_
 refine pu (.not rfl (.tmp rfl)) rfl rfl rfl ?_
 refine ARun.nil ?_
 refine AW.cond (.tmp rfl) (fun hb1 => ?_) (fun hb1 => ?_)
 ·
  have hsb : goodHead h = false := by revert hb1; cases goodHead h <;> decide
  refine AW.seq ?_
  refine AW.region ?_
  refine pu (.assign rfl (.str (by decide))) rfl rfl rfl ?_
  refine pu (.assign rfl .bool) rfl rfl rfl ?_
  refine ARun.nil ?_
  refine AW.ret (show ResL _ _ [.tmp 2, .tmp 3] _ from res2S rfl rfl ?_)
  unfold headV; rw [if_neg (by rw [hsb]; decide)]; exact ⟨rfl, rfl⟩
 ·
  have hsb : goodHead h = true := by revert hb1; cases goodHead h <;> decide
  refine AW.skip ?_
  refine AW.seq ?_
  refine AW.region ?_
  refine pu (.loadPtrAgg rfl (.tmp rfl) f26_ rfl rfl (nB rfl) (nB rfl)) rfl rfl rfl ?_
  refine pu (.call rfl (v_headText h (good_ok (by assumption))) ⟨⟨_, (.tmp rfl), ⟨.lst, .int, trivial⟩⟩, trivial⟩ f54_ (headT_plain (good_ok (by assumption)))) rfl rfl rfl ?_
  refine pu (.assign rfl (.tmp rfl)) rfl rfl rfl ?_
  refine pu (.assign rfl .bool) rfl rfl rfl ?_
  refine ARun.nil ?_
  refine AW.ret (show ResL _ _ [.tmp 2, .tmp 3] _ from res2S rfl rfl ?_)
  unfold headV; rw [if_pos hsb]; exact ⟨rfl, rfl⟩
end Go.Proofs.YtonfeiloekofdaaGreatDoor

namespace Go.Proofs.YtonfeiloekofdaaGreatDoor
open Go.Proofs Go.Shelf
open Go.ChangeShapes Go.WideShapes Go.ChangeAt Go.RowKit Go.BigFrame Go.Deep
set_option linter.unusedVariables false
set_option linter.unusedSimpArgs false
theorem callAtoiOk {s : ByteArray} (hs : s.size ≤ 1048576) {a : Int} (h : Lib.atoiAll s.data.toList = .ok a) {w W : World} (hp : Pre w.heap.size w) (hb : Below w.heap.size w W) :
    Calls Tryz.prog 66 #[.string s] W fun e W' => e = .returned (.tuple #[.int .i64 a, .nilIface]) ∧ Below W.heap.size W W' := by
  refine (callAtoi s hs hp hb).mono ?_
  rintro e W' ⟨⟨b, hb, rfl⟩ | ⟨hn, _⟩, h2⟩
  · rw [h] at hb
    cases hb
    exact ⟨rfl, h2⟩
  · exact absurd h (hn a)
theorem callAtoiNo {s : ByteArray} (hs : s.size ≤ 1048576) (h : ∀ a, Lib.atoiAll s.data.toList ≠ .ok a) {w W : World} (hp : Pre w.heap.size w) (hb : Below w.heap.size w W) :
    Calls Tryz.prog 66 #[.string s] W fun e W' => (∃ z t p, e = .returned (.tuple #[.int .i64 z, .iface t p])) ∧ Below W.heap.size W W' := by
  refine (callAtoi s hs hp hb).mono ?_
  rintro e W' ⟨⟨b, hb, rfl⟩ | ⟨_, h1⟩, h2⟩
  · exact absurd hb (h b)
  · exact ⟨h1, h2⟩
theorem ba_beq_t {a b : ByteArray} (h : a = b) : (a.toList == b.toList) = true := by rw [h]; simp
theorem ba_beq_f {a b : ByteArray} (h : a ≠ b) : (a.toList == b.toList) = false := by
  rw [beq_eq_false_iff_ne]
  intro e
  exact h (ba_inj.1 e)
set_option maxHeartbeats 2000000 in
set_option maxRecDepth 100000 in
theorem v_readSay (s : ByteArray) (hs : s.size ≤ 1048576) : Fn Tryz.prog 48 [.one (.str s)] (.tup2 (.agg [.str (readV s).1.name, .int .i64 (readV s).1.at_, .int .i64 (readV s).1.value]) (.one (.bool (readV s).2))) := by
  intro w S vs hS hd
  obtain ⟨v, vs1, rfl, h1, h2⟩ := hd
  obtain rfl : vs1 = [] := h2
  obtain ⟨rfl, _⟩ := h1
  have hb0 : Below w.heap.size w (w.alloc (.cells #[.string ⟨#[]⟩, .int .i64 0, .int .i64 0] 34)) := (Below.refl _ w).alloc (Nat.le_refl _) _
  by_cases h3 : (Rd.cutL 32 s.data.toList).length = 3
  · obtain ⟨w0, w1, w2, hL⟩ : ∃ w0 w1 w2, Rd.cutL 32 s.data.toList = [w0, w1, w2] := by
      match hc : Rd.cutL 32 s.data.toList, h3 with
      | [w0, w1, w2], _ => exact ⟨w0, w1, w2, rfl⟩
    clear h3
    have hsz : s.size = w0.length + (1 + (w1.length + (1 + w2.length))) := by
      rw [Lib.size_eq, (Rd.cut_three hL).1]
      simp
      omega
    have hz0 : (bs w0).size ≤ 1048576 := by show w0.toArray.size ≤ _; simp; omega
    have hz1 : (bs w1).size ≤ 1048576 := by show w1.toArray.size ≤ _; simp; omega
    have hz2 : (bs w2).size ≤ 1048576 := by show w2.toArray.size ≤ _; simp; omega
    clear hsz
    have hbW1 : Below w.heap.size w ((w.alloc (.cells #[.string ⟨#[]⟩, .int .i64 0, .int .i64 0] 34)).alloc (.cells #[.string (bs w0), .string (bs w1), .string (bs w2)] 9)) := hb0.alloc hb0.size _
    have hR1 : ((w.alloc (.cells #[.string ⟨#[]⟩, .int .i64 0, .int .i64 0] 34)).alloc (.cells #[.string (bs w0), .string (bs w1), .string (bs w2)] 9)).heap[w.heap.size]? = some (.cells #[.string ⟨#[]⟩, .int .i64 0, .int .i64 0] 34) :=
      (Lib.alloc_old _ _ _ (by simp)).trans (by show (w.heap.push _)[w.heap.size]? = _; simp)
    have hC1 : ((w.alloc (.cells #[.string ⟨#[]⟩, .int .i64 0, .int .i64 0] 34)).alloc (.cells #[.string (bs w0), .string (bs w1), .string (bs w2)] 9)).heap[w.heap.size + 1]? = some (.cells #[.string (bs w0), .string (bs w1), .string (bs w2)] 9) := by
      show ((w.heap.push _).push _)[w.heap.size + 1]? = _
      rw [Array.getElem?_push, if_pos (by simp)]
    have hc10 := Lib.cell_of_heap hC1 0
    have hc12 := Lib.cell_of_heap hC1 2
    have hl1 : w.heap.size < ((w.alloc (.cells #[.string ⟨#[]⟩, .int .i64 0, .int .i64 0] 34)).alloc (.cells #[.string (bs w0), .string (bs w1), .string (bs w2)] 9)).heap.size := by simp; omega
    have hl1b : w.heap.size + 1 < ((w.alloc (.cells #[.string ⟨#[]⟩, .int .i64 0, .int .i64 0] 34)).alloc (.cells #[.string (bs w0), .string (bs w1), .string (bs w2)] 9)).heap.size := by simp
    clear hC1
    by_cases hA1 : ∃ a, Lib.atoiAll w1 = .ok a
    · obtain ⟨a, hA1⟩ := hA1
      by_cases hA2 : ∃ v, Lib.atoiAll w2 = .ok v
      · obtain ⟨v, hA2⟩ := hA2
        have hA1' : Lib.atoiAll (bs w1).data.toList = .ok a := (congrArg Lib.atoiAll (data_bs w1)).trans hA1
        have hA2' : Lib.atoiAll (bs w2).data.toList = .ok v := (congrArg Lib.atoiAll (data_bs w2)).trans hA2
        have hcall1 := callAtoiOk hz1 hA1' hS.pre hbW1
        go_enter Tryz.func48, Tryz.ntmps48
        go_wp2_with (go_at_call 65; refine (callSplit 32 s hs hL hS.pre hb0).mono ?_; rintro e w1 ⟨rfl, rfl⟩)
        go_wp2_with fail
        refine hcall1.mono ?_
        rintro e w3 ⟨rfl, g3⟩
        have c30 := (g3.cell (p := ⟨w.heap.size + 1, 0, none⟩) hl1b).trans hc10
        have c32 := (g3.cell (p := ⟨w.heap.size + 1, 2, none⟩) hl1b).trans hc12
        have hR3 := (g3.block _ hl1).trans hR1
        have hl3 := Nat.lt_of_lt_of_le hl1 g3.size
        have hl3b := Nat.lt_of_lt_of_le hl1b g3.size
        have hbw3 := hbW1.trans (g3.mono hbW1.size)
        go_wp2_with fail
        have hcall2 := callAtoiOk hz2 hA2' hS.pre hbw3
        refine hcall2.mono ?_
        rintro e w4 ⟨rfl, g4⟩
        have c0 : w4.cell? ⟨w.heap.size + 1, 0, none⟩ = some (.string (bs w0)) := (g4.cell hl3b).trans c30
        have hR4 := (g4.block _ hl3).trans hR3
        have hlt4 := Nat.lt_of_lt_of_le hl3 g4.size
        have hbw4 := hbw3.trans (g4.mono hbw3.size)
        have hbw5 : Below w.heap.size w (w4.alloc (.cells #[.string (bs w0), .int .i64 a, .int .i64 v] 34)) := hbw4.alloc hbw4.size _
        have hcall3 := callIsSay ⟨bs w0, a, v⟩ hz0 hS.pre hbw5
        go_wp2_with fail
        refine hcall3.mono ?_
        rintro e w5 ⟨rfl, g5⟩
        have hbw6 := hbw5.trans (g5.mono hbw5.size)
        have hR5 := (g5.block w.heap.size (by simp; omega)).trans ((Lib.alloc_old _ _ _ hlt4).trans hR4)
        have hX5 : w5.heap[w4.heap.size]? = some (.cells #[.string (bs w0), .int .i64 a, .int .i64 v] 34) := (g5.block _ (by simp)).trans (by show (w4.heap.push _)[w4.heap.size]? = _; simp)
        have hlt5 : w.heap.size < w5.heap.size := Nat.lt_of_lt_of_le (by simp; omega) g5.size
        have hlx5 : w4.heap.size < w5.heap.size := Nat.lt_of_lt_of_le (by simp) g5.size
        have x0 := Lib.cell_of_heap hX5 0
        have x1 := Lib.cell_of_heap hX5 1
        have x2 := Lib.cell_of_heap hX5 2
        cases hB : sayB ⟨bs w0, a, v⟩ with
        | false =>
          have hV := rd_no hL (fun ⟨a', v', e1, e2, e3, e4⟩ => by rw [hA1] at e1; rw [hA2] at e2; cases e1; cases e2; rw [hB] at e3; cases e3)
          have r0_5 := Lib.cell_of_heap hR5 0
          have f0_5 := Lib.frozen_of_heap hR5 0
          have r1_5 := Lib.cell_of_heap hR5 1
          have f1_5 := Lib.frozen_of_heap hR5 1
          have r2_5 := Lib.cell_of_heap hR5 2
          have f2_5 := Lib.frozen_of_heap hR5 2
          go_wp2_with fail
          refine bodyPost_ret (v := .tuple #[.agg #[.string ⟨#[]⟩, .int .i64 0, .int .i64 0], .bool false]) (by simp [results, Tryz.results48, go_sem, *]) rfl ⟨by rw [hV]; rfl, ?_⟩
          repeat first | exact hbw6 | apply Below.drew | refine Below.alloc ?_ (by simp <;> omega) _ | refine Below.setCell ?_ (by simp <;> omega) _
        | true =>
          have hcall4 := callSay (sayB_ok hB) hS.pre hbw6
          go_wp2_with fail
          refine hcall4.mono ?_
          rintro e w6 ⟨rfl, g6⟩
          have hbw7 := hbw6.trans (g6.mono hbw6.size)
          have hR6 := (g6.block _ hlt5).trans hR5
          have hX6 := (g6.block _ hlx5).trans hX5
          have y0 := Lib.cell_of_heap hX6 0
          have y1 := Lib.cell_of_heap hX6 1
          have y2 := Lib.cell_of_heap hX6 2
          clear x0 x1 x2
          have r0_6 := Lib.cell_of_heap hR6 0
          have f0_6 := Lib.frozen_of_heap hR6 0
          have r1_6 := Lib.cell_of_heap hR6 1
          have f1_6 := Lib.frozen_of_heap hR6 1
          have r2_6 := Lib.cell_of_heap hR6 2
          have f2_6 := Lib.frozen_of_heap hR6 2
          by_cases hT : sayT ⟨bs w0, a, v⟩ = s
          · have hV := readV_yes hL hB hT
            have hT1 := ba_beq_t hT
            go_wp2_with fail
            refine bodyPost_ret (v := .tuple #[.agg #[.string (bs w0), .int .i64 a, .int .i64 v], .bool true]) (by simp [results, Tryz.results48, go_sem, *]) rfl ⟨by rw [hV]; rfl, ?_⟩
            repeat first | exact hbw7 | apply Below.drew | refine Below.alloc ?_ (by simp <;> omega) _ | refine Below.setCell ?_ (by simp <;> omega) _
          · have hV := rd_no hL (fun ⟨a', v', e1, e2, e3, e4⟩ => by rw [hA1] at e1; rw [hA2] at e2; cases e1; cases e2; exact hT e4)
            have hT1 := ba_beq_f hT
            go_wp2_with fail
            refine bodyPost_ret (v := .tuple #[.agg #[.string ⟨#[]⟩, .int .i64 0, .int .i64 0], .bool false]) (by simp [results, Tryz.results48, go_sem, *]) rfl ⟨by rw [hV]; rfl, ?_⟩
            repeat first | exact hbw7 | apply Below.drew | refine Below.alloc ?_ (by simp <;> omega) _ | refine Below.setCell ?_ (by simp <;> omega) _
      · have hA2 : ∀ v, Lib.atoiAll w2 ≠ .ok v := fun v e => hA2 ⟨v, e⟩
        have hA1' : Lib.atoiAll (bs w1).data.toList = .ok a := (congrArg Lib.atoiAll (data_bs w1)).trans hA1
        have hA2' : ∀ v, Lib.atoiAll (bs w2).data.toList ≠ .ok v := hA2
        have hV := rd_no hL (fun ⟨a, v, e1, e2, _⟩ => hA2 v e2)
        have hcall1 := callAtoiOk hz1 hA1' hS.pre hbW1
        go_enter Tryz.func48, Tryz.ntmps48
        go_wp2_with (go_at_call 65; refine (callSplit 32 s hs hL hS.pre hb0).mono ?_; rintro e w1 ⟨rfl, rfl⟩)
        go_wp2_with fail
        refine hcall1.mono ?_
        rintro e w3 ⟨rfl, g3⟩
        have c30 := (g3.cell (p := ⟨w.heap.size + 1, 0, none⟩) hl1b).trans hc10
        have c32 := (g3.cell (p := ⟨w.heap.size + 1, 2, none⟩) hl1b).trans hc12
        have hR3 := (g3.block _ hl1).trans hR1
        have hl3 := Nat.lt_of_lt_of_le hl1 g3.size
        have hl3b := Nat.lt_of_lt_of_le hl1b g3.size
        have hbw3 := hbW1.trans (g3.mono hbW1.size)
        go_wp2_with fail
        have hcall2 := callAtoiNo hz2 hA2' hS.pre hbw3
        refine hcall2.mono ?_
        rintro e w4 ⟨⟨z2, t2, p2, rfl⟩, g4⟩
        have c0 : w4.cell? ⟨w.heap.size + 1, 0, none⟩ = some (.string (bs w0)) := (g4.cell hl3b).trans c30
        have hR4 := (g4.block _ hl3).trans hR3
        have hlt4 := Nat.lt_of_lt_of_le hl3 g4.size
        have hbw4 := hbw3.trans (g4.mono hbw3.size)
        have r0_4 := Lib.cell_of_heap hR4 0
        have f0_4 := Lib.frozen_of_heap hR4 0
        have r1_4 := Lib.cell_of_heap hR4 1
        have f1_4 := Lib.frozen_of_heap hR4 1
        have r2_4 := Lib.cell_of_heap hR4 2
        have f2_4 := Lib.frozen_of_heap hR4 2
        go_wp2_with fail
        refine bodyPost_ret (v := .tuple #[.agg #[.string ⟨#[]⟩, .int .i64 0, .int .i64 0], .bool false]) (by simp [results, Tryz.results48, go_sem, *]) rfl ⟨by rw [hV]; rfl, ?_⟩
        repeat first | exact hbw4 | apply Below.drew | refine Below.alloc ?_ (by simp <;> omega) _ | refine Below.setCell ?_ (by simp <;> omega) _
    · have hA1 : ∀ a, Lib.atoiAll w1 ≠ .ok a := fun a e => hA1 ⟨a, e⟩
      have hA1' : ∀ a, Lib.atoiAll (bs w1).data.toList ≠ .ok a := hA1
      by_cases hA2 : ∃ v, Lib.atoiAll w2 = .ok v
      · obtain ⟨v, hA2⟩ := hA2
        have hA2' : Lib.atoiAll (bs w2).data.toList = .ok v := (congrArg Lib.atoiAll (data_bs w2)).trans hA2
        have hV := rd_no hL (fun ⟨a, v, e1, e2, _⟩ => hA1 a e1)
        have hcall1 := callAtoiNo hz1 hA1' hS.pre hbW1
        go_enter Tryz.func48, Tryz.ntmps48
        go_wp2_with (go_at_call 65; refine (callSplit 32 s hs hL hS.pre hb0).mono ?_; rintro e w1 ⟨rfl, rfl⟩)
        go_wp2_with fail
        refine hcall1.mono ?_
        rintro e w3 ⟨⟨z1, t1, p1, rfl⟩, g3⟩
        have c30 := (g3.cell (p := ⟨w.heap.size + 1, 0, none⟩) hl1b).trans hc10
        have c32 := (g3.cell (p := ⟨w.heap.size + 1, 2, none⟩) hl1b).trans hc12
        have hR3 := (g3.block _ hl1).trans hR1
        have hl3 := Nat.lt_of_lt_of_le hl1 g3.size
        have hl3b := Nat.lt_of_lt_of_le hl1b g3.size
        have hbw3 := hbW1.trans (g3.mono hbW1.size)
        go_wp2_with fail
        have hcall2 := callAtoiOk hz2 hA2' hS.pre hbw3
        refine hcall2.mono ?_
        rintro e w4 ⟨rfl, g4⟩
        have c0 : w4.cell? ⟨w.heap.size + 1, 0, none⟩ = some (.string (bs w0)) := (g4.cell hl3b).trans c30
        have hR4 := (g4.block _ hl3).trans hR3
        have hlt4 := Nat.lt_of_lt_of_le hl3 g4.size
        have hbw4 := hbw3.trans (g4.mono hbw3.size)
        have r0_4 := Lib.cell_of_heap hR4 0
        have f0_4 := Lib.frozen_of_heap hR4 0
        have r1_4 := Lib.cell_of_heap hR4 1
        have f1_4 := Lib.frozen_of_heap hR4 1
        have r2_4 := Lib.cell_of_heap hR4 2
        have f2_4 := Lib.frozen_of_heap hR4 2
        go_wp2_with fail
        refine bodyPost_ret (v := .tuple #[.agg #[.string ⟨#[]⟩, .int .i64 0, .int .i64 0], .bool false]) (by simp [results, Tryz.results48, go_sem, *]) rfl ⟨by rw [hV]; rfl, ?_⟩
        repeat first | exact hbw4 | apply Below.drew | refine Below.alloc ?_ (by simp <;> omega) _ | refine Below.setCell ?_ (by simp <;> omega) _
      · have hA2 : ∀ v, Lib.atoiAll w2 ≠ .ok v := fun v e => hA2 ⟨v, e⟩
        have hA2' : ∀ v, Lib.atoiAll (bs w2).data.toList ≠ .ok v := hA2
        have hV := rd_no hL (fun ⟨a, v, e1, e2, _⟩ => hA1 a e1)
        have hcall1 := callAtoiNo hz1 hA1' hS.pre hbW1
        go_enter Tryz.func48, Tryz.ntmps48
        go_wp2_with (go_at_call 65; refine (callSplit 32 s hs hL hS.pre hb0).mono ?_; rintro e w1 ⟨rfl, rfl⟩)
        go_wp2_with fail
        refine hcall1.mono ?_
        rintro e w3 ⟨⟨z1, t1, p1, rfl⟩, g3⟩
        have c30 := (g3.cell (p := ⟨w.heap.size + 1, 0, none⟩) hl1b).trans hc10
        have c32 := (g3.cell (p := ⟨w.heap.size + 1, 2, none⟩) hl1b).trans hc12
        have hR3 := (g3.block _ hl1).trans hR1
        have hl3 := Nat.lt_of_lt_of_le hl1 g3.size
        have hl3b := Nat.lt_of_lt_of_le hl1b g3.size
        have hbw3 := hbW1.trans (g3.mono hbW1.size)
        go_wp2_with fail
        have hcall2 := callAtoiNo hz2 hA2' hS.pre hbw3
        refine hcall2.mono ?_
        rintro e w4 ⟨⟨z2, t2, p2, rfl⟩, g4⟩
        have c0 : w4.cell? ⟨w.heap.size + 1, 0, none⟩ = some (.string (bs w0)) := (g4.cell hl3b).trans c30
        have hR4 := (g4.block _ hl3).trans hR3
        have hlt4 := Nat.lt_of_lt_of_le hl3 g4.size
        have hbw4 := hbw3.trans (g4.mono hbw3.size)
        have r0_4 := Lib.cell_of_heap hR4 0
        have f0_4 := Lib.frozen_of_heap hR4 0
        have r1_4 := Lib.cell_of_heap hR4 1
        have f1_4 := Lib.frozen_of_heap hR4 1
        have r2_4 := Lib.cell_of_heap hR4 2
        have f2_4 := Lib.frozen_of_heap hR4 2
        go_wp2_with fail
        refine bodyPost_ret (v := .tuple #[.agg #[.string ⟨#[]⟩, .int .i64 0, .int .i64 0], .bool false]) (by simp [results, Tryz.results48, go_sem, *]) rfl ⟨by rw [hV]; rfl, ?_⟩
        repeat first | exact hbw4 | apply Below.drew | refine Below.alloc ?_ (by simp <;> omega) _ | refine Below.setCell ?_ (by simp <;> omega) _
  · have hne : (((Rd.cutL 32 s.data.toList).length : Int) != 3) = true := by
      rw [bne_iff_ne]; omega
    have hV := readV_len h3
    go_enter Tryz.func48, Tryz.ntmps48
    go_wp2_with (go_at_call 65; refine (callSplit 32 s hs rfl hS.pre hb0).mono ?_; rintro e w1 ⟨rfl, rfl⟩)
    go_wp2_with fail
    refine bodyPost_ret (v := .tuple #[.agg #[.string ⟨#[]⟩, .int .i64 0, .int .i64 0], .bool false]) (by simp [results, Tryz.results48, go_sem]) rfl ⟨by rw [hV]; rfl, ?_⟩
    repeat first | exact hb0 | apply Below.drew | refine Below.alloc ?_ (by simp <;> omega) _ | refine Below.setCell ?_ (by simp <;> omega) _
end Go.Proofs.YtonfeiloekofdaaGreatDoor

namespace Go.Proofs.YtonfeiloekofdaaGreatDoor
open Go.ChangeShapes Go.WideShapes Go.ChangeAt Go.RowKit Go.BigFrame
set_option linter.unusedVariables false
section
variable {P : Program} (w : World)
end
theorem own_base {w w' : World} {base : Nat} {e : TypeId} {s n : Nat} {v : Value} {xs : List Value} {B : Nat} {a : World} (h : w.ownsRow base e s v n xs) (hb : Below B a w) (hB : B ≤ base) (hg : w.grownBy w' v.ownBlock) (hsz : B ≤ w.heap.size) : Below B a w' :=
  hb.grown hg hsz (fun k hk => Nat.le_trans hB (h.lt k hk).1)
end Go.Proofs.YtonfeiloekofdaaGreatDoor

namespace Go.Proofs.YtonfeiloekofdaaGreatDoor
open Go.Proofs Go.Shelf
open Go.ChangeShapes Go.WideShapes Go.ChangeAt Go.RowKit Go.BigFrame Go.Deep
set_option linter.unusedVariables false
set_option linter.unusedSimpArgs false
theorem cut_at {c : UInt8} {l : List UInt8} {fr k : Nat} (hk : l[k]? = some c) (hle : fr ≤ k) (hno : ∀ q, fr ≤ q → q < k → l[q]? ≠ some c) :
    Rd.cutL c (l.drop fr) = (l.drop fr).take (k - fr) :: Rd.cutL c (l.drop (k + 1)) := by
  have hlt : k < l.length := (List.getElem?_eq_some_iff.1 hk).1
  have e1 : (l.drop fr).drop (k - fr) = c :: l.drop (k + 1) := by
    rw [List.drop_drop, show fr + (k - fr) = k by omega, List.drop_eq_getElem_cons hlt, (List.getElem?_eq_some_iff.1 hk).2]
  have e : l.drop fr = (l.drop fr).take (k - fr) ++ c :: l.drop (k + 1) := by
    rw [← e1, List.take_append_drop]
  conv => lhs; rw [e]
  refine Rd.cutL_app _ fun b hb eb => ?_
  obtain ⟨i, hi⟩ := List.getElem?_of_mem hb
  have hil : i < k - fr := by
    have := (List.getElem?_eq_some_iff.1 hi).1
    rw [List.length_take] at this
    omega
  rw [List.getElem?_take_of_lt hil, List.getElem?_drop] at hi
  exact hno (fr + i) (by omega) (by omega) (by rw [hi, eb])
theorem cut_end {c : UInt8} {l : List UInt8} {fr : Nat} (hno : ∀ q, fr ≤ q → q < l.length → l[q]? ≠ some c) : Rd.cutL c (l.drop fr) = [l.drop fr] := by
  refine Rd.cutL_free fun b hb eb => ?_
  obtain ⟨i, hi⟩ := List.getElem?_of_mem hb
  rw [List.getElem?_drop] at hi
  exact hno (fr + i) (by omega) ((List.getElem?_eq_some_iff.1 hi).1) (by rw [hi, eb])
theorem news_str {w : World} {v : Value} {e : TypeId} {g : Nat} (hg : g = w.heap.size) : ∀ j u, [v][j]? = some u → (w.alloc (.cells #[v] e)).cell? ((⟨g, 0, none⟩ : Addr).add j) = some u := by
  subst hg
  intro j u hj
  match j, hj with
  | 0, hj => simp at hj; subst hj; simp [Addr.add]
def strs (L : List (List UInt8)) : List Value := L.map fun l => Value.string (bs l)
theorem strs_app (L : List (List UInt8)) (x : List UInt8) : strs (L ++ [x]) = strs L ++ [.string (bs x)] := by unfold strs; simp
theorem infoStr : (Tryz.prog.info? 9).map (fun i => (i.zero, i.size, i.bytes)) = some (some (.string ByteArray.empty), 1, 16) := by kernel_rfl
set_option maxHeartbeats 1000000 in
set_option maxRecDepth 100000 in
theorem callCut (c : UInt8) (s : ByteArray) (hs : s.size ≤ 1048576) (w : World) :
    Calls Tryz.prog 38 #[.string s, .int .u8 (c.toNat : Int)] w fun e w' => ∃ v, e = .returned v ∧ w'.ownsRow w.heap.size 9 1 v (Rd.cutL c s.data.toList).length (strs (Rd.cutL c s.data.toList)) ∧ Below w.heap.size w w' := by
  obtain ⟨i0, hi, hz0, hz1, hz2⟩ := info_parts infoStr
  have hsl := Lib.size_eq s
  go_enter Tryz.func38, Tryz.ntmps38
  go_wp2_with fail
  go_loopw [5, 6, 7] (fun o f i wr => ∃ (k fr : Nat) (L : List (List UInt8)), k ≤ s.size ∧ i = .int .i64 k ∧ f = .int .i64 fr ∧ fr ≤ k ∧ wr.ownsRow w.heap.size 9 1 o L.length (strs L) ∧ Below w.heap.size w wr ∧ L.length ≤ k ∧ (∀ q, fr ≤ q → q < k → s.data.toList[q]? ≠ some c) ∧ Rd.cutL c s.data.toList = L ++ Rd.cutL c (s.data.toList.drop fr)) (fun _ _ i _ => s.size - (intOf i).toNat)
  case atStart => exact ⟨0, 0, [], Nat.zero_le _, rfl, rfl, Nat.le_refl _, World.ownsRow_nil _ _ _ _, Below.refl _ _, Nat.zero_le _, fun q h1 h2 => absurd h2 (by omega), rfl⟩
  case round =>
    obtain ⟨k, fr, L, hk, rfl, rfl, hfk, hout, hbel, hLk, hno, hcut⟩ := hrel
    obtain ⟨A2, c2, rfl⟩ := own_slice hout
    have Hcut := Lib.hid hcut
    have Hsl := Lib.hid hsl
    clear hcut hsl
    have hsw := hbel.size
    by_cases hlt : k < s.size
    · have hk0 : (0 : Int) ≤ (k : Int) := by omega
      have hg : s.data.toList[k]? = some (s[k]'hlt) := by
        rw [List.getElem?_eq_getElem (by rw [← Hsl.out]; exact hlt)]; rfl
      by_cases hb : s.data.toList[k]? = some c
      · have hB : (((s[k]'hlt).toNat : Int) == (c.toNat : Int)) = true := by
          rw [hg] at hb
          rw [Option.some.inj hb]; exact beq_self_eq_true _
        have HG := Lib.hid hg
        have HB := Lib.hid hb
        clear hg hb
        go_wp2_with (at_builtin; refine wpList_append_own _ rfl (.tmp 19) (.tmp 24) _ rfl w.heap.size 9 i0 (.string ByteArray.empty) 1 16 Tryz.underlying66 hi hz0 hz1 hz2 rfl (by decide) _ _ _ rfl (hout.alloc _) ⟨wr.heap.size, 0, none⟩ 1 1 [.string (s.extract fr k)] rfl rfl (news_str rfl) (by intro u' hu'; simp at hu'; subst hu'; rfl) (by unfold maxLen; omega) (by omega) (by simp; omega) ?_; intro v1 w3 hown1 hg1 hat1)
        go_roundw
        case rel =>
          refine ⟨k + 1, k + 1, L ++ [(s.data.toList.drop fr).take (k - fr)], by omega, by go_num, by go_num, Nat.le_refl _, ?_, own_base (hout.alloc _) (hbel.alloc hbel.size _) (Nat.le_refl _) hg1 (by simp; omega), by simp; omega, fun q h1 h2 => absurd h2 (by omega), ?_⟩
          · have e1 : bs ((s.data.toList.drop fr).take (k - fr)) = s.extract fr k := (Lib.extract_eq s fr k).symm
            rw [strs_app, e1, List.length_append]
            exact hown1
          · rw [Hcut.out, cut_at HB.out hfk hno]
            simp
        case measure => simp [intOf]; omega
      · have hB : (((s[k]'hlt).toNat : Int) == (c.toNat : Int)) = false := by
          rw [beq_eq_false_iff_ne]
          intro e
          refine hb ?_
          rw [hg]
          congr 1
          apply UInt8.toNat_inj.1
          show _ = c.toNat
          omega
        have HG := Lib.hid hg
        have HB := Lib.hid hb
        clear hg hb
        go_wp2_with fail
        go_roundw
        case rel =>
          refine ⟨k + 1, fr, L, by omega, by go_num, rfl, by omega, hout, hbel, by omega, fun q h1 h2 => ?_, Hcut.out⟩
          by_cases hq : q = k
          · rw [hq]; exact HB.out
          · exact hno q h1 (by omega)
        case measure => simp [intOf]; omega
    · go_wp2_with (at_builtin; refine wpList_append_own _ rfl (.tmp 28) (.tmp 32) _ rfl w.heap.size 9 i0 (.string ByteArray.empty) 1 16 Tryz.underlying66 hi hz0 hz1 hz2 rfl (by decide) _ _ _ rfl (hout.alloc _) ⟨wr.heap.size, 0, none⟩ 1 1 [.string (s.extract fr s.size)] rfl rfl (news_str rfl) (by intro u' hu'; simp at hu'; subst hu'; rfl) (by unfold maxLen; omega) (by omega) (by simp; omega) ?_; intro v1 w3 hown1 hg1 hat1)
      go_ret
      have hend := cut_end (c := c) (l := s.data.toList) (fr := fr) fun q h1 h2 => hno q h1 (by have := Hsl.out; omega)
      have hcc := Hcut.out
      rw [hend] at hcc
      have e1 : bs (s.data.toList.drop fr) = s.extract fr s.size := by
        rw [Lib.extract_eq, List.take_of_length_le (by rw [List.length_drop, ← Hsl.out]; exact Nat.le_refl _)]
        rfl
      refine ⟨_, rfl, ?_, own_base (hout.alloc _) (hbel.alloc hbel.size _) (Nat.le_refl _) hg1 (by simp; omega)⟩
      rw [hcc, strs_app, e1, List.length_append]
      exact hown1
end Go.Proofs.YtonfeiloekofdaaGreatDoor

namespace Go.Proofs.YtonfeiloekofdaaGreatDoor
open Go.Proofs Go.Shelf
open Go.ChangeShapes Go.WideShapes Go.ChangeAt Go.RowKit Go.BigFrame Go.Deep
set_option linter.unusedVariables false
set_option linter.unusedSimpArgs false
theorem callIn (n : Int) {w W : World} (hp : Pre w.heap.size w) (hb : Below w.heap.size w W) :
    Calls Tryz.prog 37 #[.int .i64 n, .int .i64 1, .int .i64 10] W fun e W' => e = .returned (.bool (inB 1 10 n)) ∧ Below W.heap.size W W' :=
  v_l1In n 1 10 W (fun _ => False) [.int .i64 n, .int .i64 1, .int .i64 10] ⟨fun _ h => h.elim, (hp.below hb).mono hb.size⟩ ⟨_, _, rfl, rfl, _, _, rfl, rfl, _, _, rfl, rfl, rfl⟩
theorem callText {z : Int} (h0 : -9223372036854775807 ≤ z) (h1 : z ≤ 9223372036854775807) {w W : World} (hp : Pre w.heap.size w) (hb : Below w.heap.size w W) :
    Calls Tryz.prog 69 #[.int .i64 z] W fun e W' => e = .returned (.string (itoaB z)) ∧ Below W.heap.size W W' :=
  v_Text z ⟨h0, h1⟩ W (fun _ => False) [.int .i64 z] ⟨fun _ h => h.elim, (hp.below hb).mono hb.size⟩ ⟨_, _, rfl, rfl, rfl⟩
theorem itoa_dec (z : Int) (s : ByteArray) : decide (Lib.itoa z = s.data.toList) = ((itoaB z).toList == s.toList) := by
  by_cases h : itoaB z = s
  · rw [ba_beq_t h, decide_eq_true (show Lib.itoa z = s.data.toList from congrArg (fun t : ByteArray => t.data.toList) h)]
  · rw [ba_beq_f h, decide_eq_false (fun e => h ((congrArg (fun l : List UInt8 => (⟨l.toArray⟩ : ByteArray)) e).trans (Lib.mk_data s)))]
theorem inB_of {lo hi n : Int} (h0 : lo ≤ n) (h1 : n ≤ hi) : inB lo hi n = true := decide_eq_true ⟨h0, h1⟩
set_option maxHeartbeats 1000000 in
set_option maxRecDepth 100000 in
theorem callInt (s : ByteArray) (hs : s.size ≤ 1048576) {w : World} (hS : Pre w.heap.size w) :
    Calls Tryz.prog 39 #[.string s] w fun e w' => e = .returned (.tuple #[.int .i64 (Rd.intL s.data.toList).1, .bool (Rd.intL s.data.toList).2]) ∧ Below w.heap.size w w' := by
  have hbw := Below.refl w.heap.size w
  by_cases hg : Rd.neg s.data.toList = true
  · have h0 : 0 < s.size := by
      rcases Nat.eq_zero_or_pos s.size with h | h
      · exfalso
        have hh := of_decide_eq_true hg
        rw [Lib.size_eq] at h
        rw [List.eq_nil_of_length_eq_zero h] at hh
        cases hh
      · exact h
    have h0i : (0 : Int) < (s.size : Int) := by omega
    have hB : (((s[0]'h0).toNat : Int) == 45) = true := by
      have h1 : s.data.toList[0]? = some (s[0]'h0) := by rw [List.getElem?_eq_getElem (by rw [← Lib.size_eq]; exact h0)]; rfl
      have hh := of_decide_eq_true hg
      rw [List.head?_eq_getElem?, h1] at hh
      rw [Option.some.inj hh]; rfl
    have hmg : Rd.mag s.data.toList = (s.extract 1 s.size).data.toList := by
      rw [Lib.extract_to_end]
      unfold Rd.mag
      rw [if_pos hg, List.drop_one]
    by_cases hin : inB 1 10 ((s.size - 1 : Nat) : Int) = true
    · have hin2 := inB_true hin
      have hmag : 1 ≤ (Rd.mag s.data.toList).length ∧ (Rd.mag s.data.toList).length ≤ 10 := by
        rw [hmg, ← Lib.size_eq]; simp; omega
      go_enter Tryz.func39, Tryz.ntmps39
      go_wp2_with (go_at_call 37; refine (callIn _ hS hbw).mono ?_; rintro e w1 ⟨rfl, g1⟩; (rw [hin]))
      have hbw1 := hbw.trans (g1.mono hbw.size)
      go_wp2_with fail
      go_loopw [6, 7] (fun n i wr => ∃ k u : Nat, k ≤ (s.size - 1) ∧ i = .int .i64 k ∧ n = .int .i64 u ∧ Lib.decFrom 0 ((s.extract 1 s.size).data.toList.take k) = some u ∧ Below w.heap.size w wr) (fun _ i _ => (s.size - 1) - (intOf i).toNat)
      case atStart => exact ⟨0, 0, Nat.zero_le _, rfl, rfl, rfl, hbw1⟩
      case round =>
        obtain ⟨k, u, hk, rfl, rfl, hdec, hbel⟩ := hrel
        have hub : u < 10000000000 := by
          have h1 := Lib.decFrom_lt _ _ _ hdec
          have h2 : ((s.extract 1 s.size).data.toList.take k).length ≤ 10 := by rw [List.length_take, ← Lib.size_eq]; (try simp); omega
          have h3 : 10 ^ ((s.extract 1 s.size).data.toList.take k).length ≤ 10 ^ 10 := Nat.pow_le_pow_right (by decide) h2
          have h4 : (10 : Nat) ^ 10 = 10000000000 := by decide
          omega
        have Hdec := Lib.hid hdec
        clear hdec
        by_cases hlt : k < (s.size - 1)
        · have hltT : k < (s.extract 1 s.size).size := by (try simp); omega
          have hk0 : (0 : Int) ≤ (k : Int) := by omega
          have Hg := Lib.hid (show (s.extract 1 s.size).data.toList[k]? = some ((s.extract 1 s.size)[k]'hltT) by rw [List.getElem?_eq_getElem (by rw [← Lib.size_eq]; exact hltT)]; rfl)
          by_cases hd : 48 ≤ ((s.extract 1 s.size)[k]'hltT).toNat ∧ ((s.extract 1 s.size)[k]'hltT).toNat ≤ 57
          · obtain ⟨hd1, hd2⟩ := hd
            have d1 : decide ((((s.extract 1 s.size)[k]'hltT).toNat : Int) < 48) = false := decide_eq_false (by omega)
            have d2 : decide (57 < (((s.extract 1 s.size)[k]'hltT).toNat : Int)) = false := decide_eq_false (by omega)
            go_wp2_with fail
            go_roundw
            case rel =>
              refine ⟨k + 1, u * 10 + (((s.extract 1 s.size)[k]'hltT).toNat - 48), by omega, by go_num, ?_, Lib.decFrom_take _ k 0 u _ _ Hdec.out Hg.out (if_pos ⟨hd1, hd2⟩), hbel⟩
              congr 1
              omega
            case measure => simp [intOf]; omega
          · have hV : Rd.intL s.data.toList = (0, false) := by
              refine Rd.intL_none hmag ?_
              cases hx : Lib.decFrom 0 (Rd.mag s.data.toList) with
              | none => rfl
              | some m =>
                rw [hmg] at hx
                obtain ⟨d, hdd⟩ := Lib.digit_of_decFrom _ _ _ hx k _ Hg.out
                obtain ⟨q1, q2, _⟩ := Lib.digitVal_eq hdd
                exact absurd ⟨q1, q2⟩ hd
            by_cases hc : ((s.extract 1 s.size)[k]'hltT).toNat < 48
            · have d1 : decide ((((s.extract 1 s.size)[k]'hltT).toNat : Int) < 48) = true := decide_eq_true (by omega)
              go_wp2_with fail
              go_ret2
              exact ⟨by rw [hV]; rfl, hbel⟩
            · have d1 : decide ((((s.extract 1 s.size)[k]'hltT).toNat : Int) < 48) = false := decide_eq_false (by omega)
              have d2 : decide (57 < (((s.extract 1 s.size)[k]'hltT).toNat : Int)) = true := decide_eq_true (by omega)
              go_wp2_with fail
              go_ret2
              exact ⟨by rw [hV]; rfl, hbel⟩
        · have hfull : Lib.decFrom 0 (Rd.mag s.data.toList) = some u := by
            rw [hmg, ← Hdec.out, List.take_of_length_le (by rw [← Lib.size_eq]; (try simp); omega)]
          have Hs := Lib.hid (Rd.intL_some hmag hfull)
          have Hf := Lib.hid hfull
          have hsg : Rd.sg s.data.toList u = -(u : Int) := if_pos hg
          clear hfull
          have hcallT := callText (z := -(u : Int)) (by omega) (by omega) hS hbel
          go_wp2_with fail
          refine hcallT.mono ?_
          rintro e w5 ⟨rfl, g5⟩
          go_wp2_with fail
          go_ret2
          exact ⟨by rw [Hs.out, hsg, itoa_dec]; rfl, hbel.trans (g5.mono hbel.size)⟩
    · have hin : inB 1 10 ((s.size - 1 : Nat) : Int) = false := by simpa using hin
      have hV : Rd.intL s.data.toList = (0, false) := Rd.intL_out fun ⟨a, b⟩ => by
        rw [hmg, ← Lib.size_eq] at a b
        simp at a b
        rw [inB_of (by omega) (by omega)] at hin
        cases hin
      go_enter Tryz.func39, Tryz.ntmps39
      go_wp2_with (go_at_call 37; refine (callIn _ hS hbw).mono ?_; rintro e w1 ⟨rfl, g1⟩; (rw [hin]))
      go_ret2
      exact ⟨by rw [hV]; rfl, hbw.trans (g1.mono hbw.size)⟩
  · by_cases h0 : 0 < s.size
    · have h0i : (0 : Int) < (s.size : Int) := by omega
      have hmg : Rd.mag s.data.toList = s.data.toList := if_neg hg
      have hB : (((s[0]'h0).toNat : Int) == 45) = false := by
        rw [beq_eq_false_iff_ne]
        intro e
        refine hg (decide_eq_true ?_)
        have h1 : s.data.toList[0]? = some (s[0]'h0) := by rw [List.getElem?_eq_getElem (by rw [← Lib.size_eq]; exact h0)]; rfl
        rw [List.head?_eq_getElem?, h1]
        congr 1
        apply UInt8.toNat_inj.1
        show _ = 45
        omega
      by_cases hin : inB 1 10 (s.size : Int) = true
      · have hin2 := inB_true hin
        have hmag : 1 ≤ (Rd.mag s.data.toList).length ∧ (Rd.mag s.data.toList).length ≤ 10 := by
          rw [hmg, ← Lib.size_eq]; omega
        go_enter Tryz.func39, Tryz.ntmps39
        go_wp2_with (go_at_call 37; refine (callIn _ hS hbw).mono ?_; rintro e w1 ⟨rfl, g1⟩; (rw [hin]))
        have hbw1 := hbw.trans (g1.mono hbw.size)
        go_wp2_with fail
        go_loopw [6, 7] (fun n i wr => ∃ k u : Nat, k ≤ (s.size) ∧ i = .int .i64 k ∧ n = .int .i64 u ∧ Lib.decFrom 0 ((s).data.toList.take k) = some u ∧ Below w.heap.size w wr) (fun _ i _ => (s.size) - (intOf i).toNat)
        case atStart => exact ⟨0, 0, Nat.zero_le _, rfl, rfl, rfl, hbw1⟩
        case round =>
          obtain ⟨k, u, hk, rfl, rfl, hdec, hbel⟩ := hrel
          have hub : u < 10000000000 := by
            have h1 := Lib.decFrom_lt _ _ _ hdec
            have h2 : ((s).data.toList.take k).length ≤ 10 := by rw [List.length_take, ← Lib.size_eq]; (try simp); omega
            have h3 : 10 ^ ((s).data.toList.take k).length ≤ 10 ^ 10 := Nat.pow_le_pow_right (by decide) h2
            have h4 : (10 : Nat) ^ 10 = 10000000000 := by decide
            omega
          have Hdec := Lib.hid hdec
          clear hdec
          by_cases hlt : k < (s.size)
          · have hltT : k < (s).size := by (try simp); omega
            have hk0 : (0 : Int) ≤ (k : Int) := by omega
            have Hg := Lib.hid (show (s).data.toList[k]? = some ((s)[k]'hltT) by rw [List.getElem?_eq_getElem (by rw [← Lib.size_eq]; exact hltT)]; rfl)
            by_cases hd : 48 ≤ ((s)[k]'hltT).toNat ∧ ((s)[k]'hltT).toNat ≤ 57
            · obtain ⟨hd1, hd2⟩ := hd
              have d1 : decide ((((s)[k]'hltT).toNat : Int) < 48) = false := decide_eq_false (by omega)
              have d2 : decide (57 < (((s)[k]'hltT).toNat : Int)) = false := decide_eq_false (by omega)
              go_wp2_with fail
              go_roundw
              case rel =>
                refine ⟨k + 1, u * 10 + (((s)[k]'hltT).toNat - 48), by omega, by go_num, ?_, Lib.decFrom_take _ k 0 u _ _ Hdec.out Hg.out (if_pos ⟨hd1, hd2⟩), hbel⟩
                congr 1
                omega
              case measure => simp [intOf]; omega
            · have hV : Rd.intL s.data.toList = (0, false) := by
                refine Rd.intL_none hmag ?_
                cases hx : Lib.decFrom 0 (Rd.mag s.data.toList) with
                | none => rfl
                | some m =>
                  rw [hmg] at hx
                  obtain ⟨d, hdd⟩ := Lib.digit_of_decFrom _ _ _ hx k _ Hg.out
                  obtain ⟨q1, q2, _⟩ := Lib.digitVal_eq hdd
                  exact absurd ⟨q1, q2⟩ hd
              by_cases hc : ((s)[k]'hltT).toNat < 48
              · have d1 : decide ((((s)[k]'hltT).toNat : Int) < 48) = true := decide_eq_true (by omega)
                go_wp2_with fail
                go_ret2
                exact ⟨by rw [hV]; rfl, hbel⟩
              · have d1 : decide ((((s)[k]'hltT).toNat : Int) < 48) = false := decide_eq_false (by omega)
                have d2 : decide (57 < (((s)[k]'hltT).toNat : Int)) = true := decide_eq_true (by omega)
                go_wp2_with fail
                go_ret2
                exact ⟨by rw [hV]; rfl, hbel⟩
          · have hfull : Lib.decFrom 0 (Rd.mag s.data.toList) = some u := by
              rw [hmg, ← Hdec.out, List.take_of_length_le (by rw [← Lib.size_eq]; (try simp); omega)]
            have Hs := Lib.hid (Rd.intL_some hmag hfull)
            have Hf := Lib.hid hfull
            have hsg : Rd.sg s.data.toList u = (u : Int) := if_neg hg
            clear hfull
            have hcallT := callText (z := (u : Int)) (by omega) (by omega) hS hbel
            go_wp2_with fail
            refine hcallT.mono ?_
            rintro e w5 ⟨rfl, g5⟩
            go_wp2_with fail
            go_ret2
            exact ⟨by rw [Hs.out, hsg, itoa_dec]; rfl, hbel.trans (g5.mono hbel.size)⟩
      · have hin : inB 1 10 (s.size : Int) = false := by simpa using hin
        have hV : Rd.intL s.data.toList = (0, false) := Rd.intL_out fun ⟨a, b⟩ => by
          rw [hmg, ← Lib.size_eq] at a b
          rw [inB_of (by omega) (by omega)] at hin
          cases hin
        go_enter Tryz.func39, Tryz.ntmps39
        go_wp2_with (go_at_call 37; refine (callIn _ hS hbw).mono ?_; rintro e w1 ⟨rfl, g1⟩; (rw [hin]))
        go_ret2
        exact ⟨by rw [hV]; rfl, hbw.trans (g1.mono hbw.size)⟩
    · have hz : s = ⟨#[]⟩ := by
        obtain ⟨⟨l⟩⟩ := s
        have : l.length = 0 := by
          have h1 : (⟨⟨l⟩⟩ : ByteArray).size = l.length := rfl
          omega
        rw [List.eq_nil_of_length_eq_zero this]
      subst hz
      have hV : Rd.intL (⟨#[]⟩ : ByteArray).data.toList = (0, false) := rfl
      have hin : inB 1 10 0 = false := rfl
      go_enter Tryz.func39, Tryz.ntmps39
      go_wp2_with (go_at_call 37; refine (callIn _ hS hbw).mono ?_; rintro e w1 ⟨rfl, g1⟩; (rw [hin]))
      go_ret2
      exact ⟨by rw [hV]; rfl, hbw.trans (g1.mono hbw.size)⟩
end Go.Proofs.YtonfeiloekofdaaGreatDoor

namespace Go.Proofs.YtonfeiloekofdaaGreatDoor
open Go.Proofs Go.Shelf
open Go.ChangeShapes Go.WideShapes Go.ChangeAt Go.RowKit Go.BigFrame Go.Deep
set_option linter.unusedVariables false
set_option linter.unusedSimpArgs false
theorem f58_ : aggB Tryz.prog 34 3 = true := by kernel_rfl
theorem f59_ : callB Tryz.prog 38 = true := by kernel_rfl
theorem f60_ : callB Tryz.prog 39 = true := by kernel_rfl
theorem f61_ : callB Tryz.prog 46 = true := by kernel_rfl
theorem f62_ : sizeB Tryz.prog 34 3 = true := by kernel_rfl
theorem strs_get (L : List (List UInt8)) {i : Nat} (hi : i < L.length) : (strs L)[i]? = some (.string (bs (L.getD i []))) := by
  unfold strs
  rw [List.getElem?_map, List.getElem?_eq_getElem hi, List.getD_eq_getElem?_getD, List.getElem?_eq_getElem hi]
  rfl
theorem own_strs {w w' : World} {L : List (List UInt8)} {v : Value} (h : w'.ownsRow w.heap.size 9 1 v L.length (strs L)) (hb : ∀ i, i < L.length → (L.getD i []).length ≤ maxLen) : D w' (newS w w') (.lst 1 L.length fun i _ => .str (bs (L.getD i []))) v := by
  obtain ⟨A, c, rfl⟩ := own_slice h
  rcases h.2 with ⟨e, hn⟩ | ⟨g, cap, cur, e, hg, hblk, hle, hcap, _⟩
  · injection e with e1 e2 e3
    subst e1 e3
    have h0 : L = [] := List.eq_nil_of_length_eq_zero hn
    subst h0
    exact ⟨none, 0, rfl, Nat.le_refl _, by decide, fun _ => rfl, fun i hi => absurd hi (by simp)⟩
  · injection e with e1 e2 e3
    subst e1 e3
    refine ⟨_, _, rfl, hle, hcap, (fun e => by cases e), (fun i hi => ⟨g, 0, rfl, ⟨hg, (Array.getElem?_eq_some_iff.1 hblk).1⟩, fun j hj => ?_⟩)⟩
    obtain rfl : j = 0 := by omega
    have hc := h.cells (g := g) rfl i _ (strs_get L hi)
    have e : (⟨g, 0, none⟩ : Addr).add i = ⟨g, 0 + (i * 1 + 0), none⟩ := by unfold Addr.add; split <;> simp_all
    rw [e] at hc
    exact ⟨_, hc, rfl, hb i hi⟩
theorem cutL_len {c : UInt8} : ∀ {l w : List UInt8}, w ∈ Rd.cutL c l → w.length ≤ l.length
  | [], w, h => by
    have : w ∈ ([[]] : List (List UInt8)) := h
    simp at this
    rw [this]; exact Nat.le_refl _
  | b :: l, w, h => by
    by_cases hb : b = c
    · subst hb
      rw [Rd.cutL_hit] at h
      rcases List.mem_cons.1 h with rfl | h
      · exact Nat.zero_le _
      · exact Nat.le_trans (cutL_len h) (Nat.le_succ _)
    · rw [Rd.cutL_miss hb] at h
      have hne := Rd.cutL_ne c l
      rcases List.mem_cons.1 h with rfl | h
      · cases hc : Rd.cutL c l with
        | nil => exact absurd hc hne
        | cons x r =>
          have := cutL_len (c := c) (l := l) (w := x) (by rw [hc]; exact List.mem_cons_self ..)
          simp only [List.headD_cons, List.length_cons]
          omega
      · exact Nat.le_trans (cutL_len (List.mem_of_mem_tail h)) (Nat.le_succ _)
theorem cut_le {c : UInt8} {l : List UInt8} {i : Nat} (hi : i < (Rd.cutL c l).length) : ((Rd.cutL c l).getD i []).length ≤ l.length := by
  refine cutL_len (c := c) ?_
  rw [List.getD_eq_getElem?_getD, List.getElem?_eq_getElem hi]
  exact List.getElem_mem hi
theorem v_l3Split (c : UInt8) (s : ByteArray) (hs : s.size ≤ 1048576) : FnF Tryz.prog 38 [.one (.str s), .one (.int .u8 (c.toNat : Int))] (.one (.lst 1 (Rd.cutL c s.data.toList).length fun i _ => .str (bs ((Rd.cutL c s.data.toList).getD i [])))) := by
  intro w S vs hS hd
  obtain ⟨v, vs1, rfl, ⟨rfl, _⟩, v2, vs2, rfl, h2, h3⟩ := hd
  obtain rfl : vs2 = [] := h3
  obtain rfl : v2 = .int .u8 (c.toNat : Int) := h2
  refine (callCut c s hs w).mono ?_
  rintro e w' ⟨v, rfl, h4, h5⟩
  refine ⟨v, rfl, own_strs h4 (fun i hi => ?_), h5⟩
  have h6 := cut_le hi
  rw [← Lib.size_eq] at h6
  exact Nat.le_trans h6 (Nat.le_trans hs (by decide))
theorem v_l3Split32 (s : ByteArray) (hs : s.size ≤ 1048576) : FnF Tryz.prog 38 [.one (.str s), .one (.int .u8 32)] (.one (.lst 1 (Rd.cutL 32 s.data.toList).length fun i _ => .str (bs ((Rd.cutL 32 s.data.toList).getD i [])))) := v_l3Split 32 s hs
theorem v_l13Int (s : ByteArray) (hs : s.size ≤ 1048576) : Fn Tryz.prog 39 [.one (.str s)] (.tup2 (.one (.int .i64 (Rd.intL s.data.toList).1)) (.one (.bool (Rd.intL s.data.toList).2))) := by
  intro w S vs hS hd
  obtain ⟨v, vs1, rfl, ⟨rfl, _⟩, h3⟩ := hd
  obtain rfl : vs1 = [] := h3
  exact callInt s hs hS.pre
def rdX (s : ByteArray) : GSay × Bool :=
  if (Rd.cutL 32 s.data.toList).length = 3 then
    (rdSay ((Rd.cutL 32 s.data.toList).getD 0 []) ((Rd.cutL 32 s.data.toList).getD 1 []) ((Rd.cutL 32 s.data.toList).getD 2 []),
      cond (cond (Rd.intL ((Rd.cutL 32 s.data.toList).getD 1 [])).2 (Rd.intL ((Rd.cutL 32 s.data.toList).getD 2 [])).2 false) (sayB (rdSay ((Rd.cutL 32 s.data.toList).getD 0 []) ((Rd.cutL 32 s.data.toList).getD 1 []) ((Rd.cutL 32 s.data.toList).getD 2 []))) false)
  else (zeroSay, false)
theorem rdX_read (s : ByteArray) : readV s = if (rdX s).2 = true then ((rdX s).1, true) else (zeroSay, false) := by
  unfold rdX
  by_cases h : (Rd.cutL 32 s.data.toList).length = 3
  · rw [if_pos h]
    obtain ⟨w0, w1, w2, hL⟩ : ∃ w0 w1 w2, Rd.cutL 32 s.data.toList = [w0, w1, w2] := by
      match hc : Rd.cutL 32 s.data.toList, h with
      | [w0, w1, w2], _ => exact ⟨w0, w1, w2, rfl⟩
    rw [readV_three hL, hL]
    show (if rdOk w0 w1 w2 = true then _ else _) = if (cond (cond (Rd.intL w1).2 (Rd.intL w2).2 false) (sayB (rdSay w0 w1 w2)) false) = true then (rdSay w0 w1 w2, true) else (zeroSay, false)
    have e : rdOk w0 w1 w2 = cond (cond (Rd.intL w1).2 (Rd.intL w2).2 false) (sayB (rdSay w0 w1 w2)) false := by
      unfold rdOk
      generalize (Rd.intL w1).2 = a
      generalize (Rd.intL w2).2 = b
      generalize sayB _ = c
      revert a b c; decide
    rw [e]
  · rw [if_neg h, readV_len h]; rfl
theorem rdX_name (s : ByteArray) (hs : s.size ≤ 1048576) : (rdX s).1.name.size ≤ 1048576 := by
  unfold rdX
  by_cases h : (Rd.cutL 32 s.data.toList).length = 3
  · rw [if_pos h]
    have h6 := cut_le (c := 32) (l := s.data.toList) (i := 0) (by omega)
    rw [← Lib.size_eq] at h6
    exact Nat.le_trans h6 hs
  · rw [if_neg h]; exact Nat.zero_le _
theorem readV_name (s : ByteArray) (hs : s.size ≤ 1048576) : (readV s).1.name.size ≤ 1048576 := by
  rw [rdX_read]
  by_cases h : (rdX s).2 = true
  · rw [if_pos h]; exact rdX_name s hs
  · rw [if_neg h]; exact Nat.zero_le _
set_option maxRecDepth 20000 in
theorem v_l13Read (s : ByteArray) (hs : s.size ≤ 1048576) : FnF Tryz.prog 40 [.one (.str s)] (.tup2 (.agg [.str ((rdX s).1.name), .int .i64 ((rdX s).1.at_), .int .i64 ((rdX s).1.value)]) (.one (.bool ((rdX s).2)))) := by
 refine FnF.of_body (fn := Tryz.f40) Tryz.func40 rfl (nB rfl)  ?_
 intro w0
 show AW _ 45 _ _ _ _
 refine AW.seq ?_
 refine AW.region ?_
 refine ARun.alloc (id := 0) (l := [.str ByteArray.empty, .int .i64 0, .int .i64 0]) (z := (.agg #[.string ByteArray.empty, .int .i64 0, .int .i64 0])) rfl (by kernel_rfl) (fun _ _ _ => ⟨_, _, rfl, ⟨rfl, by decide⟩, ⟨_, _, rfl, rfl, ⟨_, _, rfl, rfl, rfl⟩⟩⟩) ⟨rfl, (by repeat first | exact trivial | refine ⟨by decide, by first | rfl | exact trivial | (intro i j; first | rfl | exact getD_no rfl | (dsimp only; split <;> first | rfl | exact getD_no rfl) | exact scl_no (by apply_assumption) _), ?_⟩)⟩ rfl rfl rfl (nB rfl) ?_
 refine pu (.assign rfl .bool) rfl rfl rfl ?_
 refine ARun.nil ?_
 refine AW.seq ?_
 refine AW.region ?_
 refine pu (.move rfl (.tmp rfl)) rfl rfl rfl ?_
 refine ARun.fresh (FreshOp.callS rfl (v_l3Split32 s (by omega)) ⟨⟨_, (.tmp rfl), .str⟩, ⟨_, .int, .int⟩, trivial⟩ f59_ rfl) rfl rfl (nB rfl) ?_
 refine pu (.assign rfl (.tmp rfl)) rfl rfl rfl ?_
 refine ARun.nil ?_
 refine AW.seq ?_
 refine AW.seq ?_
 refine AW.region ?_
 refine pu (.move rfl (.tmp rfl)) rfl rfl rfl ?_
 refine pu (.lenLst rfl (.frs (.tmp rfl)) f14_) rfl rfl rfl ?_
 refine pu (.intOp rfl (.tmp rfl) .int rfl) rfl rfl rfl ?_
 refine ARun.nil ?_
 refine AW.cond (.tmp rfl) (fun hb1 => ?_) (fun hb1 => ?_)
 ·
  replace hb1 := of_decide_eq_false (of_not hb1)
  rw [show rdX s = (zeroSay, false) from if_neg (by omega)]
  refine AW.seq ?_
  refine AW.region ?_
  refine pu (.build (ys := []) (l := [.str ByteArray.empty, .int .i64 0, .int .i64 0]) (pl := [(0, 1), (1, 1), (2, 1)]) (z := (.agg #[.string ByteArray.empty, .int .i64 0, .int .i64 0])) rfl (by kernel_rfl) (by kernel_rfl) (fun _ _ _ => ⟨_, _, rfl, ⟨rfl, by decide⟩, ⟨_, _, rfl, rfl, ⟨_, _, rfl, rfl, rfl⟩⟩⟩) trivial rfl) rfl rfl rfl ?_
  refine ARun.store rfl (.tmp rfl) (.tmp rfl) (SV.cells_of (by exact ⟨trivial, trivial, trivial, trivial⟩)) rfl (nB rfl) f62_ rfl rfl ?_
  refine pu (.assign rfl .bool) rfl rfl rfl ?_
  refine ARun.nil ?_
  exact AW.ret (show ∃ s, ResL _ _ [.cell 2 34, .tmp 3] s ∧ FvS _ s _ from ⟨_, .inr (.inl ⟨_, _, _, _, rfl, .cells rfl f58_ rfl rfl (nB rfl) (nB rfl), .tmp rfl, rfl⟩), ⟨.str, .int, .int, trivial⟩, .bool⟩)
 ·
  replace hb1 := of_decide_eq_true (not_f hb1)
  have h3 : (Rd.cutL 32 s.data.toList).length = 3 := by omega
  have hw1 : (bs ((Rd.cutL 32 s.data.toList).getD 1 [])).size ≤ 1048576 := Nat.le_trans (cut_le (c := 32) (l := s.data.toList) (i := 1) (by omega)) (by rw [← Lib.size_eq]; exact hs)
  have hw2 : (bs ((Rd.cutL 32 s.data.toList).getD 2 [])).size ≤ 1048576 := Nat.le_trans (cut_le (c := 32) (l := s.data.toList) (i := 2) (by omega)) (by rw [← Lib.size_eq]; exact hs)
  unfold rdX
  rw [if_pos h3]
  refine AW.skip ?_
  refine AW.seq ?_
  refine AW.region ?_
  refine pu (.move rfl (.tmp rfl)) rfl rfl rfl ?_
  refine pu (.indexLst (i := 1) rfl (.frs (.tmp rfl)) f3_ .int rfl (by omega)) rfl rfl rfl ?_
  refine pu (.loadRef rfl (.tmp rfl) f12_ (nB rfl)) rfl rfl rfl ?_
  refine pu (.call rfl (v_l13Int (bs ((Rd.cutL 32 s.data.toList).getD 1 [])) (by assumption)) ⟨⟨_, (.tmp rfl), .str⟩, trivial⟩ f60_ ⟨trivial, trivial⟩) rfl rfl rfl ?_
  refine pu (.move rfl (.tmp rfl)) rfl rfl rfl ?_
  refine pu (.ext2a rfl (.tmp rfl)) rfl rfl rfl ?_
  refine pu (.ext2b rfl (.tmp rfl)) rfl rfl rfl ?_
  refine pu (.assign rfl (.tmp rfl)) rfl rfl rfl ?_
  refine pu (.assign rfl (.tmp rfl)) rfl rfl rfl ?_
  refine ARun.nil ?_
  refine AW.seq ?_
  refine AW.region ?_
  refine pu (.move rfl (.tmp rfl)) rfl rfl rfl ?_
  refine pu (.indexLst (i := 2) rfl (.frs (.tmp rfl)) f3_ .int rfl (by omega)) rfl rfl rfl ?_
  refine pu (.loadRef rfl (.tmp rfl) f12_ (nB rfl)) rfl rfl rfl ?_
  refine pu (.call rfl (v_l13Int (bs ((Rd.cutL 32 s.data.toList).getD 2 [])) (by assumption)) ⟨⟨_, (.tmp rfl), .str⟩, trivial⟩ f60_ ⟨trivial, trivial⟩) rfl rfl rfl ?_
  refine pu (.move rfl (.tmp rfl)) rfl rfl rfl ?_
  refine pu (.ext2a rfl (.tmp rfl)) rfl rfl rfl ?_
  refine pu (.ext2b rfl (.tmp rfl)) rfl rfl rfl ?_
  refine pu (.assign rfl (.tmp rfl)) rfl rfl rfl ?_
  refine pu (.assign rfl (.tmp rfl)) rfl rfl rfl ?_
  refine ARun.nil ?_
  refine AW.seq ?_
  refine AW.region ?_
  refine pu (.move rfl (.tmp rfl)) rfl rfl rfl ?_
  refine pu (.indexLst (i := 0) rfl (.frs (.tmp rfl)) f3_ .int rfl (by omega)) rfl rfl rfl ?_
  refine pu (.loadRef rfl (.tmp rfl) f12_ (nB rfl)) rfl rfl rfl ?_
  refine pu (.move rfl (.tmp rfl)) rfl rfl rfl ?_
  refine pu (.move rfl (.tmp rfl)) rfl rfl rfl ?_
  refine pu (.build (ys := [.str (bs ((Rd.cutL 32 s.data.toList).getD 0 [])), .int .i64 ((Rd.intL (bs ((Rd.cutL 32 s.data.toList).getD 1 [])).data.toList).1), .int .i64 ((Rd.intL (bs ((Rd.cutL 32 s.data.toList).getD 2 [])).data.toList).1)]) (l := [.str ByteArray.empty, .int .i64 0, .int .i64 0]) (pl := [(0, 1), (1, 1), (2, 1)]) (z := (.agg #[.string ByteArray.empty, .int .i64 0, .int .i64 0])) rfl (by kernel_rfl) (by kernel_rfl) (fun _ _ _ => ⟨_, _, rfl, ⟨rfl, by decide⟩, ⟨_, _, rfl, rfl, ⟨_, _, rfl, rfl, rfl⟩⟩⟩) ⟨(.tmp rfl), trivial, rfl, ⟨(.tmp rfl), trivial, rfl, ⟨(.tmp rfl), trivial, rfl, trivial⟩⟩⟩ rfl) rfl rfl rfl ?_
  refine ARun.alloc (id := 1) (l := [.str ByteArray.empty, .int .i64 0, .int .i64 0]) (z := (.agg #[.string ByteArray.empty, .int .i64 0, .int .i64 0])) rfl (by kernel_rfl) (fun _ _ _ => ⟨_, _, rfl, ⟨rfl, by decide⟩, ⟨_, _, rfl, rfl, ⟨_, _, rfl, rfl, rfl⟩⟩⟩) ⟨rfl, (by repeat first | exact trivial | refine ⟨by decide, by first | rfl | exact trivial | (intro i j; first | rfl | exact getD_no rfl | (dsimp only; split <;> first | rfl | exact getD_no rfl) | exact scl_no (by apply_assumption) _), ?_⟩)⟩ rfl rfl rfl (nB rfl) ?_
  refine ARun.store rfl (.tmp rfl) (.tmp rfl) (SV.cells_of (by exact ⟨trivial, trivial, trivial, trivial⟩)) rfl (nB rfl) f62_ rfl rfl ?_
  refine ARun.nil ?_
  refine AW.seq ?_
  refine AW.anyX [⟨[1], [], [], []⟩, ⟨[], [], [], []⟩, ⟨[], [], [], []⟩, ⟨[], [], [], []⟩, ⟨[], [], [], []⟩, ⟨[], [], [], []⟩, ⟨[1], [], [], []⟩, ⟨[], [], [], []⟩, ⟨[], [], [], []⟩, ⟨[], [0], [], [(0, .cells [.str (bs ((Rd.cutL 32 s.data.toList).getD 0 [])), .int .i64 ((Rd.intL (bs ((Rd.cutL 32 s.data.toList).getD 1 [])).data.toList).1), .int .i64 ((Rd.intL (bs ((Rd.cutL 32 s.data.toList).getD 2 [])).data.toList).1)])]⟩, ⟨[], [], [], []⟩] (by kernel_rfl) (by kernel_rfl) (by kernel_rfl) (by repeat' first | exact trivial | exact .inl rfl | exact .inr (.inr trivial) | exact .inr (.inl (by decide +kernel)) | exact .inr (.inr (by repeat first | exact trivial | refine And.intro ?_ ?_ | exact rfl | (intro i j; first | rfl | exact getD_no rfl | (dsimp only; split <;> first | rfl | exact getD_no rfl) | exact scl_no (by apply_assumption) _))) | refine ⟨?_, ?_⟩) ⟨trivial, trivial, trivial, trivial, trivial, trivial, trivial, trivial, trivial, trivial, trivial, trivial⟩ ?_
  refine ADX.pure [(1, .cells [.str (bs ((Rd.cutL 32 s.data.toList).getD 0 [])), .int .i64 ((Rd.intL (bs ((Rd.cutL 32 s.data.toList).getD 1 [])).data.toList).1), .int .i64 ((Rd.intL (bs ((Rd.cutL 32 s.data.toList).getD 2 [])).data.toList).1)])] (PureOp.loadPtrAgg rfl (.tmp rfl) f58_ rfl rfl (nB rfl) (nB rfl)) rfl rfl (nB rfl) ⟨rfl, trivial⟩ rfl ?_
  refine ADX.pure [] (PureOp.move rfl (.tmp rfl)) rfl rfl (nB rfl) trivial rfl ?_
  refine ADX.pure [] (PureOp.move rfl (.tmp rfl)) rfl rfl (nB rfl) trivial rfl ?_
  refine ADX.gpure (want := true) [] (.tt rfl) (fun hg2 => PureOp.move rfl (.tmp rfl)) rfl rfl rfl (nB rfl) trivial rfl ?_
  refine ADX.pure [] (PureOp.pick rfl (.tmp rfl) (fun hp3 => .gtmp rfl hp3) (fun _ => .bool)) rfl rfl (nB rfl) trivial rfl ?_
  refine ADX.pure [] (PureOp.move rfl (.tmp rfl)) rfl rfl (nB rfl) trivial rfl ?_
  refine ADX.gpure (want := true) [(1, .cells [.str (bs ((Rd.cutL 32 s.data.toList).getD 0 [])), .int .i64 ((Rd.intL (bs ((Rd.cutL 32 s.data.toList).getD 1 [])).data.toList).1), .int .i64 ((Rd.intL (bs ((Rd.cutL 32 s.data.toList).getD 2 [])).data.toList).1)])] (.tt rfl) (fun hg5 => PureOp.loadPtrAgg rfl (.tmp rfl) f58_ rfl rfl (nB rfl) (nB rfl)) rfl rfl rfl (nB rfl) ⟨rfl, trivial⟩ rfl ?_
  refine ADX.gpure (want := true) [] (.tt rfl) (fun hg6 => PureOp.call rfl (v_l13Say (⟨bs ((Rd.cutL 32 s.data.toList).getD 0 []), (Rd.intL (bs ((Rd.cutL 32 s.data.toList).getD 1 [])).data.toList).1, (Rd.intL (bs ((Rd.cutL 32 s.data.toList).getD 2 [])).data.toList).1⟩ : GSay)) ⟨⟨_, (.gtmp rfl hg6), ⟨.str, .int, .int, trivial⟩⟩, trivial⟩ f61_ trivial) rfl rfl rfl (nB rfl) trivial rfl ?_
  refine ADX.pure [] (PureOp.pick rfl (.tmp rfl) (fun hp7 => .gtmp rfl hp7) (fun _ => .bool)) rfl rfl (nB rfl) trivial rfl ?_
  refine ADX.eff (tk := [0]) (new := []) (s := .one (.con undef)) (F := []) (Hin := [(0, .cells [.str ByteArray.empty, .int .i64 0, .int .i64 0])]) (Hout := [(0, .cells [.str (bs ((Rd.cutL 32 s.data.toList).getD 0 [])), .int .i64 ((Rd.intL (bs ((Rd.cutL 32 s.data.toList).getD 1 [])).data.toList).1), .int .i64 ((Rd.intL (bs ((Rd.cutL 32 s.data.toList).getD 2 [])).data.toList).1)])]) (fun E X hE hX Q rest hk => ?_) ⟨rfl, trivial⟩ ⟨rfl, rfl⟩ rfl rfl rfl rfl trivial rfl (fun _ e => by cases e) ?_
  ·
   refine ARun.store rfl (.tmp rfl) (.tmp rfl) (SV.cells_of (by exact ⟨trivial, trivial, trivial, trivial⟩)) rfl (nB rfl) f62_ rfl rfl ?_
   refine ARun.hleX ?_ ?_ hk
   ·
    exact HeapLe.one rfl trivial
   ·
    repeat (first | exact LkX.refl | refine LkX.cons (hX.none rfl) ?_ | refine LkX.filter (hX.none rfl) ?_)
  refine ADX.pure [] (PureOp.assign rfl (.tmp rfl)) rfl rfl (nB rfl) trivial rfl ?_
  refine ADX.nil (H := [(0, .cells [.str (bs ((Rd.cutL 32 s.data.toList).getD 0 [])), .int .i64 ((Rd.intL (bs ((Rd.cutL 32 s.data.toList).getD 1 [])).data.toList).1), .int .i64 ((Rd.intL (bs ((Rd.cutL 32 s.data.toList).getD 2 [])).data.toList).1)]), (1, .cells [.str (bs ((Rd.cutL 32 s.data.toList).getD 0 [])), .int .i64 ((Rd.intL (bs ((Rd.cutL 32 s.data.toList).getD 1 [])).data.toList).1), .int .i64 ((Rd.intL (bs ((Rd.cutL 32 s.data.toList).getD 2 [])).data.toList).1)])]) ?_ ?_
  ·
   exact HeapLe.one rfl (HeapLe.one rfl trivial)
  exact AW.ret (show ∃ s, ResL _ _ [.cell 2 34, .tmp 3] s ∧ FvS _ s _ from ⟨_, .inr (.inl ⟨_, _, _, _, rfl, .cells rfl f58_ rfl rfl (nB rfl) (nB rfl), .tmp rfl, rfl⟩), ⟨.str, .int, .int, trivial⟩, .bool⟩)
theorem gsay_plain {n : ByteArray} {a v : Int} {b : Bool} (h : n.size ≤ maxLen) : (SV.tup2 (.agg [.str n, .int .i64 a, .int .i64 v]) (.one (.bool b))).Plain := by
  refine ⟨fun x hx => ?_, trivial⟩
  simp only [List.mem_cons, List.not_mem_nil, or_false] at hx
  rcases hx with rfl | rfl | rfl
  · exact h
  · trivial
  · trivial
end Go.Proofs.YtonfeiloekofdaaGreatDoor

namespace Go.Proofs.YtonfeiloekofdaaGreatDoor
open Go.ChangeShapes Go.WideShapes Go.ChangeAt Go.RowKit Go.BigFrame Go.Deep
set_option linter.unusedVariables false
set_option linter.unusedSimpArgs false
theorem rowC0_hx {h : GHead} {K : Nat} {L : List Nat} (hK : L.contains K = true) (a b : Nat) : (rowC0 h K a b).hx L = true := match b with
  | 0 => rfl
  | 1 => hK
  | _ + 2 => rfl
theorem name_free {s : ByteArray} (h : nameB s false = true) {c : UInt8} (hc : c.toNat < 97) : ∀ b ∈ s.data.toList, b ≠ c := by
  intro b hb e
  subst e
  obtain ⟨i, hi⟩ := List.getElem?_of_mem hb
  have hil : i < s.data.toList.length := (List.getElem?_eq_some_iff.1 hi).1
  have his : i < s.size := by rw [Lib.size_eq]; exact hil
  unfold nameB at h
  rw [Bool.and_eq_true] at h
  have h1 := List.all_eq_true.1 h.1 i (List.mem_range.2 his)
  have h2 : byteAt s i = (b.toNat : Int) := by
    have h3 : s.data.toList[i]? = some (s.get i his) := by rw [List.getElem?_eq_getElem hil]; rfl
    unfold byteAt
    rw [dif_pos his]
    rw [h3] at hi
    rw [Option.some.inj hi]
  unfold chBad at h1
  rw [h2, decide_eq_false (show ¬ (97 : Int) ≤ (b.toNat : Int) by omega)] at h1
  simp at h1
theorem sayB_name {x : GSay} (h : sayB x = true) : nameB x.name false = true := by
  unfold sayB at h
  simp only [Bool.cond_false_right, Bool.and_eq_true] at h
  exact h.1.1
theorem sayT_free {x : GSay} (h : sayB x = true) : ∀ b ∈ (sayT x).data.toList, b ≠ 10 := by
  intro b hb
  rw [sayT_data] at hb
  rcases List.mem_append.1 hb with h1 | h1
  · exact name_free (sayB_name h) (by decide) b h1
  · rcases List.mem_cons.1 h1 with rfl | h1
    · decide
    · rcases List.mem_append.1 h1 with h1 | h1
      · exact Rd.itoa_free _ (by decide) b h1
      · rcases List.mem_cons.1 h1 with rfl | h1
        · decide
        · exact Rd.itoa_free _ (by decide) b h1
theorem read_say {x : GSay} (h : sayB x = true) : readV (sayT x) = (x, true) := by
  have hL : Rd.cutL 32 (sayT x).data.toList = [x.name.data.toList, Lib.itoa x.at_, Lib.itoa x.value] := by
    rw [sayT_data]
    exact Rd.three_cut (name_free (sayB_name h) (by decide)) (Rd.itoa_free _ (by decide)) (Rd.itoa_free _ (by decide))
  have e : (⟨bs x.name.data.toList, x.at_, x.value⟩ : GSay) = x := by rw [bs_data]
  have h1 := readV_yes (s := sayT x) (a := x.at_) (v := x.value) hL (by rw [e]; exact h) (by rw [e])
  rw [e] at h1
  exact h1
theorem read_sayX {x : GSay} (h : sayB x = true) : rdX (sayT x) = (x, true) := by
  have h1 := rdX_read (sayT x)
  rw [read_say h] at h1
  by_cases h2 : (rdX (sayT x)).2 = true
  · rw [if_pos h2] at h1
    exact (Prod.ext (Prod.mk.inj h1).1 h2.symm).symm
  · rw [if_neg h2] at h1
    cases h1
theorem read_bs {x : GSay} (h : sayB x = true) : readV (bs (sayT x).data.toList) = (x, true) := by rw [bs_data]; exact read_say h
theorem read_bsX {x : GSay} (h : sayB x = true) : rdX (bs (sayT x).data.toList) = (x, true) := by rw [bs_data]; exact read_sayX h
def saysR (r : GRow) : List GSay := r.samples.map fun x => ⟨r.name, x.at_, x.value⟩
def saysH (l : List GRow) : List GSay := l.flatMap saysR
def linesT : List GSay → List UInt8
  | [] => []
  | x :: l => (sayT x).data.toList ++ 10 :: linesT l
theorem linesT_app : ∀ l m : List GSay, linesT (l ++ m) = linesT l ++ linesT m
  | [], _ => rfl
  | x :: l, m => by simp [linesT, linesT_app l m]
theorem take_one {α : Type} (d : α) {l : List α} {k : Nat} (hk : k < l.length) : l.take (k + 1) = l.take k ++ [l.getD k d] := by
  rw [List.take_add_one, List.getD_eq_getElem?_getD, List.getElem?_eq_getElem hk]; rfl
theorem accS_data (t nm : ByteArray) (l : List GSample) : ∀ j, j ≤ l.length → (accS t nm l j).data.toList = t.data.toList ++ linesT ((l.take j).map fun x => ⟨nm, x.at_, x.value⟩)
  | 0, _ => by simp [accS, linesT]
  | j + 1, hj => by
    rw [take_one default (by omega), List.map_append, linesT_app]
    show ((accS t nm l j ++ (sayT ⟨nm, (l.getD j default).at_, (l.getD j default).value⟩ ++ ⟨#[10]⟩)) : ByteArray).data.toList = _
    rw [ByteArray.data_append, ByteArray.data_append, Array.toList_append, Array.toList_append, accS_data t nm l j (by omega)]
    simp [linesT]
theorem accH_data (h : GHead) : ∀ i, i ≤ h.rows.length → (accH h i).data.toList = Lib.itoa h.offset ++ 10 :: linesT (saysH (h.rows.take i))
  | 0, _ => by
    show ((itoaB h.offset ++ ⟨#[10]⟩ : ByteArray)).data.toList = _
    rw [ByteArray.data_append, Array.toList_append]
    simp [itoaB, saysH, linesT]
  | i + 1, hi => by
    show (accS (accH h i) (h.rows.getD i default).name (h.rows.getD i default).samples (h.rows.getD i default).samples.length).data.toList = _
    rw [accS_data _ _ _ _ (Nat.le_refl _), accH_data h i (by omega), take_one default (by omega), List.take_length]
    unfold saysH
    rw [List.flatMap_append, linesT_app]
    simp [saysR]
theorem headT_data (h : GHead) : (headT h).data.toList = Lib.itoa h.offset ++ 10 :: linesT (saysH h.rows) := by
  have := accH_data h h.rows.length (Nat.le_refl _)
  rwa [List.take_length] at this
theorem cut_lines : ∀ l : List GSay, (∀ x ∈ l, sayB x = true) → Rd.cutL 10 (linesT l) = l.map (fun x => (sayT x).data.toList) ++ [[]]
  | [], _ => rfl
  | x :: l, h => by
    show Rd.cutL 10 ((sayT x).data.toList ++ 10 :: linesT l) = _
    rw [Rd.cutL_app _ (sayT_free (h x (List.mem_cons_self ..))), cut_lines l fun y hy => h y (List.mem_cons_of_mem _ hy)]
    rfl
theorem cut_head (h : GHead) (hs : ∀ x ∈ saysH h.rows, sayB x = true) : Rd.cutL 10 (headT h).data.toList = Lib.itoa h.offset :: ((saysH h.rows).map (fun x => (sayT x).data.toList) ++ [[]]) := by
  rw [headT_data, Rd.cutL_app _ (Rd.itoa_free _ (by decide)), cut_lines _ hs]
theorem says_good {h : GHead} (hg : goodHead h = true) : ∀ x ∈ saysH h.rows, sayB x = true := by
  intro x hx
  obtain ⟨r, hr, hx⟩ := List.mem_flatMap.1 hx
  obtain ⟨y, hy, rfl⟩ := List.mem_map.1 hx
  obtain ⟨i, hi, rfl⟩ := List.mem_iff_getElem.1 hr
  obtain ⟨j, hj, rfl⟩ := List.mem_iff_getElem.1 hy
  have e : h.rows.getD i (default : GRow) = h.rows[i] := by rw [List.getD_eq_getElem?_getD, List.getElem?_eq_getElem hi]; rfl
  have h1 := good_rows hg i hi
  rw [show h.rows.getD i default = h.rows[i] from e] at h1
  obtain ⟨m1, m2⟩ := (samples_ok h1.2).2 j hj
  have e2 : (h.rows[i].samples).getD j (default : GSample) = (h.rows[i].samples)[j] := by rw [List.getD_eq_getElem?_getD, List.getElem?_eq_getElem hj]; rfl
  rw [show (h.rows[i].samples).getD j default = (h.rows[i].samples)[j] from e2] at m1 m2
  unfold sayB
  show cond (cond (nameB (h.rows[i]).name false) (inB 0 1000000000 ((h.rows[i].samples)[j]).at_) false) (inB (-1000000000) 1000000000 ((h.rows[i].samples)[j]).value) false = true
  rw [h1.1, m1, m2]; rfl
def addRow (l : List GRow) (x : GSay) : List GRow := if l.length = 0 ∨ (l.getD (l.length - 1) (default : GRow)).name ≠ x.name then l ++ [⟨x.name, []⟩] else l
def addSm (l : List GRow) (x : GSay) : List GRow := l.set (l.length - 1) ⟨(l.getD (l.length - 1) (default : GRow)).name, (l.getD (l.length - 1) (default : GRow)).samples ++ [⟨x.at_, x.value⟩]⟩
def addI (l : List GRow) (x : GSay) : List GRow := addSm (addRow l x) x
theorem last_app {α : Type} (d : α) (l : List α) (a : α) : (l ++ [a]).getD ((l ++ [a]).length - 1) d = a := by
  rw [List.length_append, List.length_singleton, Nat.add_sub_cancel, List.getD_eq_getElem?_getD, List.getElem?_append_right (Nat.le_refl _), Nat.sub_self]; rfl
theorem set_last {α : Type} (l : List α) (a b : α) : (l ++ [a]).set ((l ++ [a]).length - 1) b = l ++ [b] := by
  rw [List.length_append, List.length_singleton, Nat.add_sub_cancel, List.set_append_right _ _ (Nat.le_refl _), Nat.sub_self]; rfl
theorem addSm_last (l : List GRow) (r : GRow) (x : GSay) : addSm (l ++ [r]) x = l ++ [⟨r.name, r.samples ++ [⟨x.at_, x.value⟩]⟩] := by
  unfold addSm; rw [last_app, set_last]
theorem addI_new {l : List GRow} {x : GSay} (h : l.length = 0 ∨ (l.getD (l.length - 1) (default : GRow)).name ≠ x.name) : addI l x = l ++ [⟨x.name, [⟨x.at_, x.value⟩]⟩] := by
  unfold addI addRow; rw [if_pos h, addSm_last]; rfl
theorem addI_more {l : List GRow} {r : GRow} {x : GSay} (h : r.name = x.name) : addI (l ++ [r]) x = l ++ [⟨r.name, r.samples ++ [⟨x.at_, x.value⟩]⟩] := by
  unfold addI addRow
  rw [if_neg, addSm_last]
  rw [last_app]
  rintro (h1 | h1)
  · simp at h1
  · exact h1 h
theorem imp_more (l : List GRow) (nm : ByteArray) : ∀ (t m : List GSample), (t.map fun x => (⟨nm, x.at_, x.value⟩ : GSay)).foldl addI (l ++ [⟨nm, m⟩]) = l ++ [⟨nm, m ++ t⟩]
  | [], m => by simp
  | a :: t, m => by
    rw [List.map_cons, List.foldl_cons, addI_more rfl]
    have := imp_more l nm t (m ++ [a])
    rw [List.append_assoc] at this
    exact this
theorem names_ne {l : List GRow} (hg : GoodR l) {k : Nat} (h0 : 0 < k) (hk : k < l.length) : (l.getD (k - 1) (default : GRow)).name ≠ (l.getD k (default : GRow)).name := by
  intro e
  have h1 := hg.ord k h0 hk
  rw [e, less_irrefl] at h1
  cases h1
theorem getD_left {α : Type} (d : α) {l m : List α} {k : Nat} (hk : k < l.length) : (l ++ m).getD k d = l.getD k d := by
  rw [List.getD_eq_getElem?_getD, List.getD_eq_getElem?_getD, List.getElem?_append_left hk]
theorem getD_mid {α : Type} (d a : α) (l m : List α) : (l ++ a :: m).getD l.length d = a := by
  rw [List.getD_eq_getElem?_getD, List.getElem?_append_right (Nat.le_refl _), Nat.sub_self]; rfl
theorem imp_rows : ∀ (rs acc : List GRow), GoodR (acc ++ rs) → (saysH rs).foldl addI acc = acc ++ rs
  | [], acc, _ => by simp [saysH]
  | ⟨nm, sm⟩ :: rs, acc, hg => by
    have hl : acc.length < (acc ++ (⟨nm, sm⟩ :: rs : List GRow)).length := by simp
    have e0 : (acc ++ (⟨nm, sm⟩ :: rs : List GRow)).getD acc.length (default : GRow) = ⟨nm, sm⟩ := getD_mid _ _ _ _
    have h1 := hg.some acc.length hl
    rw [e0] at h1
    have hnew : acc.length = 0 ∨ (acc.getD (acc.length - 1) (default : GRow)).name ≠ nm := by
      rcases Nat.eq_zero_or_pos acc.length with h | h
      · exact .inl h
      · have h2 := names_ne hg h hl
        rw [e0, getD_left _ (by omega)] at h2
        exact .inr h2
    match sm, h1 with
    | a :: t, _ =>
      show (saysR ⟨nm, a :: t⟩ ++ saysH rs).foldl addI acc = _
      rw [List.foldl_append]
      show (saysH rs).foldl addI ((t.map fun x => (⟨nm, x.at_, x.value⟩ : GSay)).foldl addI (addI acc ⟨nm, a.at_, a.value⟩)) = _
      rw [addI_new hnew]
      have h3 := imp_more acc nm t [⟨a.at_, a.value⟩]
      rw [h3]
      have h4 := imp_rows rs (acc ++ [⟨nm, a :: t⟩]) (by rw [List.append_assoc]; exact hg)
      rw [List.append_assoc] at h4
      exact h4
theorem GoodR.left {l m : List GRow} (h : GoodR (l ++ m)) : GoodR l := by
  have hl : ∀ k, k < l.length → k < (l ++ m).length := fun k hk => by rw [List.length_append]; omega
  refine ⟨fun k hk => ?_, fun k hk => ?_, fun k hk => ?_, fun k h0 hk => ?_, Nat.le_trans (by rw [List.length_append]; omega) h.len⟩
  · have := h.name k (hl k hk); rwa [getD_left _ hk] at this
  · have := h.some k (hl k hk); rwa [getD_left _ hk] at this
  · have := h.smps k (hl k hk); rwa [getD_left _ hk] at this
  · have := h.ord k h0 (hl k hk); rwa [getD_left _ hk, getD_left _ (by omega)] at this
theorem samples_left {l m : List GSample} (h : samplesB (l ++ m) = true) : samplesB l = true := by
  have h40 := smp_40 h
  rw [List.length_append] at h40
  refine sm_of (fun k hk => ?_) (fun k h0 hk => ?_) (by omega)
  · have := (sm_at h (k := k) (by rw [List.length_append]; omega)).1
    rwa [getD_left _ hk] at this
  · have := (sm_at h (k := k) (by rw [List.length_append]; omega)).2 h0
    rwa [getD_left _ hk, getD_left _ (by omega)] at this
theorem GoodR.cutS {l : List GRow} {nm : ByteArray} {m t : List GSample} (h : GoodR (l ++ [⟨nm, m ++ t⟩])) (hm : 0 < m.length) : GoodR (l ++ [⟨nm, m⟩]) := by
  have hln : (l ++ [(⟨nm, m⟩ : GRow)]).length = l.length + 1 := by simp
  have hln2 : (l ++ [(⟨nm, m ++ t⟩ : GRow)]).length = l.length + 1 := by simp
  have hcase : ∀ k, k < l.length + 1 → k < l.length ∨ k = l.length := fun k hk => by omega
  have hname : ∀ k, k < l.length + 1 → ((l ++ [(⟨nm, m⟩ : GRow)]).getD k (default : GRow)).name = ((l ++ [(⟨nm, m ++ t⟩ : GRow)]).getD k (default : GRow)).name := fun k hk => by
    rcases hcase k hk with h1 | rfl
    · rw [getD_left _ h1, getD_left _ h1]
    · rw [getD_mid, getD_mid]
  refine ⟨fun k hk => ?_, fun k hk => ?_, fun k hk => ?_, fun k h0 hk => ?_, ?_⟩
  · rw [hln] at hk; rw [hname k hk]; exact h.name k (by omega)
  · rw [hln] at hk
    rcases hcase k hk with h1 | rfl
    · have := h.some k (by omega); rw [getD_left _ h1] at this ⊢; exact this
    · rw [getD_mid]; exact hm
  · rw [hln] at hk
    rcases hcase k hk with h1 | rfl
    · have := h.smps k (by omega); rw [getD_left _ h1] at this ⊢; exact this
    · have := h.smps l.length (by omega); rw [getD_mid] at this ⊢; exact samples_left this
  · rw [hln] at hk; rw [hname k hk, hname (k - 1) (by omega)]; exact h.ord k h0 (by omega)
  · have := h.len; omega
theorem GoodR.hd {l : List GRow} (h : GoodR l) : goodHead ⟨l, 0⟩ = true := h.good (by decide)
theorem step_new {l : List GRow} {nm : ByteArray} {a : GSample} (h : GoodR (l ++ [⟨nm, [a]⟩])) (o : Int) :
    takeCode ⟨l, o⟩ ⟨nm, a.at_, a.value⟩ = 1 ∧ (takeH ⟨l, o⟩ ⟨nm, a.at_, a.value⟩).rows = l ++ [⟨nm, [a]⟩] := by
  have h8 := h.len
  rw [List.length_append, List.length_singleton] at h8
  have hlt : ∀ j, j < l.length → cmpS (l.getD j (default : GRow)).name nm < 0 := fun j hj => by
    obtain ⟨d, hd⟩ : ∃ d, l.length = j + (d + 1) := ⟨l.length - j - 1, by omega⟩
    have h1 := good_lt h.hd d j (by show j + (d + 1) < (l ++ [(⟨nm, [a]⟩ : GRow)]).length; simp; omega)
    rw [← hd] at h1
    have h2 : Op.bytesLess ((l ++ [(⟨nm, [a]⟩ : GRow)]).getD j (default : GRow)).name.toList ((l ++ [(⟨nm, [a]⟩ : GRow)]).getD l.length (default : GRow)).name.toList = true := h1
    rw [getD_left _ hj, getD_mid] at h2
    exact (cmpS_lt _ _).2 h2
  have hlo : loF ⟨l, o⟩ nm = l.length := loF_unique (h := ⟨l, o⟩) (s := nm) (Nat.le_refl _) hlt (fun hc => absurd hc (Nat.lt_irrefl _))
  have hir : isRow ⟨l, o⟩ nm = false := by
    unfold isRow
    rw [hlo, decide_eq_false (show ¬ l.length < l.length from Nat.lt_irrefl _), Bool.false_and]
  have hc := tk_ins (h := ⟨l, o⟩) (x := ⟨nm, a.at_, a.value⟩) hir (show ¬ l.length = 8 by omega)
  refine ⟨hc, ?_⟩
  rw [tR_ins hir hc, addS_ins hir]
  show insL l (loF ⟨l, o⟩ nm) ⟨nm, [a]⟩ = _
  rw [hlo]
  unfold insL
  rw [List.take_length, List.drop_length]
theorem step_more {l : List GRow} {nm : ByteArray} {m : List GSample} {a : GSample} (h : GoodR (l ++ [⟨nm, m ++ [a]⟩])) (hm : 0 < m.length) (o : Int) :
    takeCode ⟨l ++ [⟨nm, m⟩], o⟩ ⟨nm, a.at_, a.value⟩ = 1 ∧ (takeH ⟨l ++ [⟨nm, m⟩], o⟩ ⟨nm, a.at_, a.value⟩).rows = l ++ [⟨nm, m ++ [a]⟩] := by
  have hg := h.cutS hm
  have hln : (l ++ [(⟨nm, m⟩ : GRow)]).length = l.length + 1 := by simp
  have hk : l.length < (⟨l ++ [⟨nm, m⟩], 0⟩ : GHead).rows.length := by show l.length < (l ++ [(⟨nm, m⟩ : GRow)]).length; omega
  have hlo : loF ⟨l ++ [⟨nm, m⟩], o⟩ nm = l.length := loF_eq (h := ⟨l ++ [⟨nm, m⟩], 0⟩) hg.hd hk (by show ((l ++ [(⟨nm, m⟩ : GRow)]).getD l.length (default : GRow)).name = nm; rw [getD_mid])
  have hir : isRow ⟨l ++ [⟨nm, m⟩], o⟩ nm = true := by
    unfold isRow
    show (decide (loF ⟨l ++ [⟨nm, m⟩], o⟩ nm < (l ++ [(⟨nm, m⟩ : GRow)]).length) && decide (((l ++ [(⟨nm, m⟩ : GRow)]).getD (loF ⟨l ++ [⟨nm, m⟩], o⟩ nm) (default : GRow)).name = nm)) = true
    rw [hlo, getD_mid, decide_eq_true (show l.length < (l ++ [(⟨nm, m⟩ : GRow)]).length by omega), decide_eq_true rfl]; rfl
  have hrow : rowK ⟨l ++ [⟨nm, m⟩], o⟩ ⟨nm, a.at_, a.value⟩ = ⟨nm, m⟩ := by
    show (l ++ [(⟨nm, m⟩ : GRow)]).getD (loF ⟨l ++ [⟨nm, m⟩], o⟩ nm) (default : GRow) = _
    rw [hlo, getD_mid]
  have hsm : samplesB (m ++ [a]) = true := by
    have := h.smps l.length (by simp)
    rwa [getD_mid] at this
  have h40 := smp_40 hsm
  rw [List.length_append, List.length_singleton] at h40
  have hord := (sm_at hsm (k := m.length) (by rw [List.length_append, List.length_singleton]; omega)).2 hm
  rw [getD_mid, getD_left _ (show m.length - 1 < m.length by omega)] at hord
  have hlast : takeLast ⟨l ++ [⟨nm, m⟩], o⟩ ⟨nm, a.at_, a.value⟩ = m.getD (m.length - 1) (default : GSample) := by
    show (rowK ⟨l ++ [⟨nm, m⟩], o⟩ ⟨nm, a.at_, a.value⟩).samples.getD ((rowK ⟨l ++ [⟨nm, m⟩], o⟩ ⟨nm, a.at_, a.value⟩).samples.length - 1) (default : GSample) = _
    rw [hrow]
  have hc := tk_new (h := ⟨l ++ [⟨nm, m⟩], o⟩) (x := ⟨nm, a.at_, a.value⟩) hir (by rw [hlast]; show ¬ (m.getD (m.length - 1) (default : GSample)).at_ = a.at_; omega) (by rw [hlast]; show ¬ a.at_ < (m.getD (m.length - 1) (default : GSample)).at_; omega) (by rw [hrow]; show ¬ m.length = 40; omega)
  refine ⟨hc, ?_⟩
  rw [tR_row hir hc, addS_row hir, hrow]
  show (l ++ [(⟨nm, m⟩ : GRow)]).set (loF ⟨l ++ [⟨nm, m⟩], o⟩ nm) ⟨nm, m ++ [a]⟩ = _
  rw [hlo, List.set_append_right _ _ (Nat.le_refl _), Nat.sub_self]
  rfl
def TakesAll (h : GHead) (l : List GSay) (r : List GRow) : Prop := (∀ k, k < l.length → takeCode ((l.take k).foldl takeH h) (l.getD k (default : GSay)) = 1) ∧ (l.foldl takeH h).rows = r
theorem TakesAll.nil (h : GHead) : TakesAll h [] h.rows := ⟨fun k hk => absurd hk (by simp), rfl⟩
theorem TakesAll.cons {h : GHead} {x : GSay} {l : List GSay} {r : List GRow} (h1 : takeCode h x = 1) (h2 : TakesAll (takeH h x) l r) : TakesAll h (x :: l) r := by
  refine ⟨fun k hk => ?_, h2.2⟩
  match k, hk with
  | 0, _ => exact h1
  | k + 1, hk => exact h2.1 k (by simp at hk; omega)
theorem TakesAll.app {r1 r2 : List GRow} : ∀ {l1 l2 : List GSay} {h : GHead}, TakesAll h l1 r1 → (∀ o, TakesAll ⟨r1, o⟩ l2 r2) → TakesAll h (l1 ++ l2) r2
  | [], l2, h, h1, h2 => by
    have e : h = ⟨r1, h.offset⟩ := by rw [← h1.2]; rfl
    rw [e]; exact h2 _
  | x :: l1, l2, h, h1, h2 => by
    refine TakesAll.cons (h1.1 0 (by simp)) (TakesAll.app ⟨fun k hk => ?_, h1.2⟩ h2)
    exact h1.1 (k + 1) (by simp; omega)
theorem takes_more {l : List GRow} {nm : ByteArray} : ∀ (t m : List GSample), 0 < m.length → GoodR (l ++ [⟨nm, m ++ t⟩]) → ∀ o, TakesAll ⟨l ++ [⟨nm, m⟩], o⟩ (t.map fun x => (⟨nm, x.at_, x.value⟩ : GSay)) (l ++ [⟨nm, m ++ t⟩])
  | [], m, _, _, o => by
    have h1 := TakesAll.nil ⟨l ++ [⟨nm, m⟩], o⟩
    rw [List.append_nil]; exact h1
  | a :: t, m, hm, hg, o => by
    have e : m ++ a :: t = (m ++ [a]) ++ t := by simp
    rw [e] at hg ⊢
    obtain ⟨h1, h2⟩ := step_more (hg.cutS (by simp)) hm o
    refine TakesAll.cons h1 ?_
    have h3 : takeH ⟨l ++ [⟨nm, m⟩], o⟩ ⟨nm, a.at_, a.value⟩ = ⟨l ++ [⟨nm, m ++ [a]⟩], (takeH ⟨l ++ [⟨nm, m⟩], o⟩ ⟨nm, a.at_, a.value⟩).offset⟩ := by rw [← h2]
    rw [h3]
    exact takes_more t (m ++ [a]) (by simp) hg _
theorem takes_rows : ∀ (rs acc : List GRow), GoodR (acc ++ rs) → ∀ o, TakesAll ⟨acc, o⟩ (saysH rs) (acc ++ rs)
  | [], acc, _, o => by
    have h1 := TakesAll.nil ⟨acc, o⟩
    rw [List.append_nil]; exact h1
  | ⟨nm, sm⟩ :: rs, acc, hg, o => by
    have hl : acc.length < (acc ++ (⟨nm, sm⟩ :: rs : List GRow)).length := by simp
    have h1 := hg.some acc.length hl
    rw [getD_mid] at h1
    have hg1 : GoodR (acc ++ [⟨nm, sm⟩]) := GoodR.left (m := rs) (by rw [List.append_assoc]; exact hg)
    match sm, h1, hg1, hg with
    | a :: t, _, hg1, hg =>
      refine TakesAll.app (l1 := saysR ⟨nm, a :: t⟩) (r1 := acc ++ [⟨nm, a :: t⟩]) ?_ fun o => ?_
      · obtain ⟨h2, h3⟩ := step_new (l := acc) (nm := nm) (a := a) (GoodR.cutS (m := [a]) (t := t) hg1 (by simp)) o
        refine TakesAll.cons h2 ?_
        have h4 : takeH ⟨acc, o⟩ ⟨nm, a.at_, a.value⟩ = ⟨acc ++ [⟨nm, [a]⟩], (takeH ⟨acc, o⟩ ⟨nm, a.at_, a.value⟩).offset⟩ := by rw [← h3]
        rw [h4]
        exact takes_more t [a] (by simp) hg1 _
      · have h5 := takes_rows rs (acc ++ [⟨nm, a :: t⟩]) (by rw [List.append_assoc]; exact hg) o
        rw [List.append_assoc] at h5
        exact h5
structure HeadOf (s : ByteArray) (h : GHead) : Prop where
  len : s.size ≤ 20000
  good : goodHead h = true
  text : headT h = s
structure Parts (s : ByteArray) (h : GHead) (n : Nat) : Prop where
  cut : (Rd.cutL 10 s.data.toList).length = n + 2
  num : (Rd.cutL 10 s.data.toList).getD 0 [] = Lib.itoa h.offset
  last : (Rd.cutL 10 s.data.toList).getD (n + 1) [] = []
  len : (saysH h.rows).length = n
  say : ∀ k, k < n → sayB ((saysH h.rows).getD k (default : GSay)) = true ∧ (Rd.cutL 10 s.data.toList).getD (k + 1) [] = (sayT ((saysH h.rows).getD k (default : GSay))).data.toList
theorem HeadOf.parts {s : ByteArray} {h : GHead} (H : HeadOf s h) : Parts s h (saysH h.rows).length := by
  have hs := says_good H.good
  have hc := cut_head h hs
  rw [H.text] at hc
  refine ⟨by rw [hc]; simp, by rw [hc]; rfl, ?_, rfl, fun k hk => ⟨?_, ?_⟩⟩
  · rw [hc, List.getD_cons_succ]
    have := getD_mid ([] : List UInt8) [] ((saysH h.rows).map fun x => (sayT x).data.toList) []
    rw [List.length_map] at this
    exact this
  · refine hs _ ?_
    rw [List.getD_eq_getElem?_getD, List.getElem?_eq_getElem hk]
    exact List.getElem_mem hk
  · rw [hc, List.getD_cons_succ, getD_left _ (by rw [List.length_map]; exact hk), List.getD_eq_getElem?_getD, List.getElem?_map, List.getElem?_eq_getElem hk, List.getD_eq_getElem?_getD, List.getElem?_eq_getElem hk]
    rfl
theorem HeadOf.off {s : ByteArray} {h : GHead} (H : HeadOf s h) : 0 ≤ h.offset ∧ h.offset ≤ 1000 := ⟨(good_ok H.good).o0, (good_ok H.good).o1⟩
def imRows (s : ByteArray) : Nat → List GRow
  | 0 => []
  | k + 1 => addI (imRows s k) (readV (bs ((Rd.cutL 10 s.data.toList).getD (k + 1) []))).1
def spHead (s : ByteArray) : Nat → GHead
  | 0 => ⟨[], 0⟩
  | k + 1 => takeH (spHead s k) (rdX (bs ((Rd.cutL 10 s.data.toList).getD (k + 1) []))).1
theorem Parts.read {s : ByteArray} {h : GHead} {n k : Nat} (P : Parts s h n) (hk : k < n) : readV (bs ((Rd.cutL 10 s.data.toList).getD (k + 1) [])) = ((saysH h.rows).getD k (default : GSay), true) := by
  rw [(P.say k hk).2]; exact read_bs (P.say k hk).1
theorem Parts.readX {s : ByteArray} {h : GHead} {n k : Nat} (P : Parts s h n) (hk : k < n) : rdX (bs ((Rd.cutL 10 s.data.toList).getD (k + 1) [])) = ((saysH h.rows).getD k (default : GSay), true) := by
  rw [(P.say k hk).2]; exact read_bsX (P.say k hk).1
theorem Parts.im {s : ByteArray} {h : GHead} {n : Nat} (P : Parts s h n) : ∀ k, k ≤ n → imRows s k = ((saysH h.rows).take k).foldl addI []
  | 0, _ => rfl
  | k + 1, hk => by
    show addI (imRows s k) (readV (bs ((Rd.cutL 10 s.data.toList).getD (k + 1) []))).1 = _
    rw [P.read (by omega), P.im k (by omega), take_one default (by rw [P.len]; omega), List.foldl_append]
    rfl
theorem Parts.sp {s : ByteArray} {h : GHead} {n : Nat} (P : Parts s h n) : ∀ k, k ≤ n → spHead s k = ((saysH h.rows).take k).foldl takeH ⟨[], 0⟩
  | 0, _ => rfl
  | k + 1, hk => by
    show takeH (spHead s k) (rdX (bs ((Rd.cutL 10 s.data.toList).getD (k + 1) []))).1 = _
    rw [P.readX (by omega), P.sp k (by omega), take_one default (by rw [P.len]; omega), List.foldl_append]
    rfl
theorem HeadOf.im {s : ByteArray} {h : GHead} (H : HeadOf s h) : imRows s (saysH h.rows).length = h.rows := by
  rw [H.parts.im _ (Nat.le_refl _), List.take_length]
  exact imp_rows h.rows [] (GoodR.of (o := h.offset) H.good)
theorem HeadOf.takes {s : ByteArray} {h : GHead} (H : HeadOf s h) : TakesAll ⟨[], 0⟩ (saysH h.rows) h.rows := takes_rows h.rows [] (GoodR.of (o := h.offset) H.good) 0
theorem HeadOf.code {s : ByteArray} {h : GHead} (H : HeadOf s h) {k : Nat} (hk : k < (saysH h.rows).length) : takeCode (spHead s k) (rdX (bs ((Rd.cutL 10 s.data.toList).getD (k + 1) []))).1 = 1 := by
  rw [H.parts.sp k (by omega), H.parts.readX hk]
  exact H.takes.1 k hk
theorem HeadOf.sp {s : ByteArray} {h : GHead} (H : HeadOf s h) : (spHead s (saysH h.rows).length).rows = h.rows := by
  rw [H.parts.sp _ (Nat.le_refl _), List.take_length]
  exact H.takes.2
theorem itoa_inj {a b : Int} (ha : -1000000000 ≤ a ∧ a ≤ 1000000000) (hb : -1000000000 ≤ b ∧ b ≤ 1000000000) (h : Lib.itoa a = Lib.itoa b) : a = b := by
  have h1 := Rd.atoi_itoa ha.1 ha.2
  rw [h, Rd.atoi_itoa hb.1 hb.2] at h1
  injection h1 with h1
  exact h1.symm
theorem HeadOf.uniq {s : ByteArray} {h g : GHead} (H : HeadOf s h) (G : HeadOf s g) : h = g := by
  have p1 := H.parts
  have p2 := G.parts
  have e1 : (saysH h.rows).length = (saysH g.rows).length := by have := p1.cut; have := p2.cut; omega
  have e2 : h.rows = g.rows := by rw [← H.im, ← G.im, e1]
  have o1 := H.off
  have o2 := G.off
  have e3 : h.offset = g.offset := itoa_inj (by omega) (by omega) (p1.num.symm.trans p2.num)
  obtain ⟨r, o⟩ := h
  obtain ⟨r', o'⟩ := g
  simp only at e2 e3
  rw [e2, e3]
open Classical in
noncomputable def headRV (s : ByteArray) : GHead × Bool := if h : ∃ h, HeadOf s h then (h.choose, true) else (⟨[], 0⟩, false)
theorem headRV_yes {s : ByteArray} {h : GHead} (H : HeadOf s h) : headRV s = (h, true) := by
  have he : ∃ h, HeadOf s h := ⟨h, H⟩
  unfold headRV
  rw [dif_pos he, he.choose_spec.uniq H]
theorem headRV_no {s : ByteArray} (H : ∀ h, ¬ HeadOf s h) : headRV s = (⟨[], 0⟩, false) := by
  unfold headRV
  rw [dif_neg fun ⟨h, hh⟩ => H h hh]
end Go.Proofs.YtonfeiloekofdaaGreatDoor

namespace Go.Proofs.YtonfeiloekofdaaGreatDoor
open Go.ChangeShapes Go.WideShapes Go.ChangeAt Go.RowKit Go.BigFrame Go.Deep
set_option linter.unusedVariables false
set_option linter.unusedSimpArgs false
theorem f63_ : callB Tryz.prog 41 = true := by kernel_rfl
theorem f64_ : callB Tryz.prog 42 = true := by kernel_rfl
theorem f65_ : elemB Tryz.prog 97 3 = true := by kernel_rfl
theorem f66_ : sliceB Tryz.prog 97 = true := by kernel_rfl
def foldH (h : GHead) (l : List GSay) : Nat → GHead
  | 0 => h
  | k + 1 => takeH (foldH h l k) (l.getD k (default : GSay))
def codeAt (h : GHead) (l : List GSay) (k : Nat) : Nat := takeCode (foldH h l k) (l.getD k (default : GSay))
def codesL (h : GHead) (l : List GSay) (n : Nat) : List Int := (List.range n).map fun k => ((codeAt h l k : Nat) : Int)
def allSay (l : List GSay) : Bool := (List.range l.length).all fun k => sayB (l.getD k (default : GSay))
structure FoldOk (h : GHead) (l : List GSay) : Prop where
  good : goodHead h = true
  len : l.length ≤ 60
  off : h.offset + (l.length : Int) ≤ 1000
  says : ∀ k, k < l.length → sayB (l.getD k (default : GSay)) = true
open Classical in
noncomputable def foldV (h : GHead) (l : List GSay) : GHead × List Int × Bool := if FoldOk h l then (foldH h l l.length, codesL h l l.length, true) else (⟨[], 0⟩, [], false)
theorem foldV_no {h : GHead} {l : List GSay} (hn : ¬ FoldOk h l) : foldV h l = (⟨[], 0⟩, [], false) := if_neg hn
theorem foldV_yes {h : GHead} {l : List GSay} (hn : FoldOk h l) : foldV h l = (foldH h l l.length, codesL h l l.length, true) := if_pos hn
theorem codes_len (h : GHead) (l : List GSay) (n : Nat) : (codesL h l n).length = n := by simp [codesL]
theorem codes_at (h : GHead) (l : List GSay) {n k : Nat} (hk : k < n) : (codesL h l n).getD k 0 = ((codeAt h l k : Nat) : Int) := by
  rw [List.getD_eq_getElem?_getD]; simp [codesL, hk]
theorem fold_off (h : GHead) (l : List GSay) : ∀ k, (foldH h l k).offset = h.offset + (k : Int)
  | 0 => by show h.offset = h.offset + ((0 : Nat) : Int); omega
  | k + 1 => by
    show (foldH h l k).offset + 1 = _
    rw [fold_off h l k]; omega
theorem fold_good {h : GHead} {l : List GSay} (hg : goodHead ⟨h.rows, 0⟩ = true) : ∀ k, (∀ j, j < k → sayB (l.getD j (default : GSay)) = true) → goodHead ⟨(foldH h l k).rows, 0⟩ = true
  | 0, _ => hg
  | k + 1, hs => good_take (fold_good hg k fun j hj => hs j (by omega)) (hs k (by omega))
theorem no_fold {h : GHead} {l : List GSay} {a b : Bool} (e : cond (cond (!goodHead h) true (decide ((60 : Int) < (l.length : Int)))) true b = true) (hb : b = true → 1000 < h.offset + (l.length : Int)) : ¬ FoldOk h l := fun F => by
  rw [F.good, decide_eq_false (by have := F.len; omega)] at e
  have := hb e
  have := F.off
  omega
theorem fold_yes {h : GHead} {l : List GSay} {b : Bool} (e : cond (cond (!goodHead h) true (decide ((60 : Int) < (l.length : Int)))) true b = false) : goodHead h = true ∧ l.length ≤ 60 ∧ b = false := by
  by_cases hc : (60 : Int) < (l.length : Int)
  · rw [decide_eq_true hc] at e; revert e; cases goodHead h <;> simp
  · rw [decide_eq_false hc] at e
    have h1 : l.length ≤ 60 := by omega
    revert e; cases goodHead h <;> simp [h1]
theorem v_sFold (h : GHead) (l : List GSay) : FnT Tryz.prog 67 [.agg [.lst 2 h.rows.length (fun i0 j0 => ([.str ((h.rows.getD i0 (default : GRow)).name), .lst 2 (((h.rows.getD i0 (default : GRow)).samples).length) (fun i1 j1 => ([.int .i64 ((((h.rows.getD i0 (default : GRow)).samples).getD i1 (default : GSample)).at_), .int .i64 ((((h.rows.getD i0 (default : GRow)).samples).getD i1 (default : GSample)).value)] : List AV).getD j1 (.con undef))] : List AV).getD j0 (.con undef)), .int .i64 h.offset], .one (.lst 3 l.length (fun i0 j0 => ([.str ((l.getD i0 (default : GSay)).name), .int .i64 ((l.getD i0 (default : GSay)).at_), .int .i64 ((l.getD i0 (default : GSay)).value)] : List AV).getD j0 (.con undef)))] (.tup3 (.agg [.lst 2 ((((foldV h l).1).rows).length) (fun i0 j0 => ([.str (((((foldV h l).1).rows).getD i0 (default : GRow)).name), .lst 2 ((((((foldV h l).1).rows).getD i0 (default : GRow)).samples).length) (fun i1 j1 => ([.int .i64 (((((((foldV h l).1).rows).getD i0 (default : GRow)).samples).getD i1 (default : GSample)).at_), .int .i64 (((((((foldV h l).1).rows).getD i0 (default : GRow)).samples).getD i1 (default : GSample)).value)] : List AV).getD j1 (.con undef))] : List AV).getD j0 (.con undef)), .int .i64 (((foldV h l).1).offset)]) (.one (.lst 1 (((foldV h l).2.1).length) (fun i0 _ => .int .i64 (((foldV h l).2.1).getD i0 0)))) (.one (.bool ((foldV h l).2.2)))) := by
 refine FnT.of_body (fn := Tryz.f67) Tryz.func67 rfl (nB rfl)  ?_
 intro w0
 show AW _ 57 _ _ _ _
 refine AW.seq ?_
 refine AW.region ?_
 refine ARun.box (id := 0) rfl (.tmp rfl) (SV.cells_of (by exact ⟨trivial, trivial, trivial⟩)) ⟨rfl, (by repeat first | exact trivial | refine ⟨by decide, by first | rfl | exact trivial | (intro a_ b_; first | exact getD_no rfl | exact rowC0_no rfl _ _ | ((try dsimp only); (repeat' split) <;> first | rfl | exact rowC0_no rfl _ _ | exact getD_no rfl)), ?_⟩)⟩ rfl rfl rfl (nB rfl) ?_
 refine ARun.alloc (id := 1) (l := [.con (.slice none 0 0), .int .i64 0]) (z := (.agg #[.slice none 0 0, .int .i64 0])) rfl (by kernel_rfl) (fun _ _ _ => ⟨_, _, rfl, rfl, ⟨_, _, rfl, rfl, rfl⟩⟩) ⟨rfl, (by repeat first | exact trivial | refine ⟨by decide, by first | rfl | exact trivial | (intro a_ b_; first | exact getD_no rfl | exact rowC0_no rfl _ _ | ((try dsimp only); (repeat' split) <;> first | rfl | exact rowC0_no rfl _ _ | exact getD_no rfl)), ?_⟩)⟩ rfl rfl rfl (nB rfl) ?_
 refine pu (.assign rfl .con) rfl rfl rfl ?_
 refine pu (.assign rfl .bool) rfl rfl rfl ?_
 refine ARun.nil ?_
 refine AW.seq ?_
 refine AW.seq ?_
 refine AW.region ?_
 refine pu (.loadPtrAgg rfl (.tmp rfl) f26_ rfl rfl (nB rfl) (nB rfl)) rfl rfl rfl ?_
 refine pu (.call rfl (v_specGoodHead h) ⟨⟨_, (.tmp rfl), ⟨.lst, .int, trivial⟩⟩, trivial⟩ f55_ trivial) rfl rfl rfl ?_
 refine pu (.not rfl (.tmp rfl)) rfl rfl rfl ?_
 refine pu (.move rfl (.tmp rfl)) rfl rfl rfl ?_
 refine ARun.gpure (want := false) (.tf rfl) (fun hg1 => PureOp.move rfl (.tmp rfl)) rfl rfl (nB rfl) rfl (nB rfl) ?_
 refine ARun.gpure (want := false) (.tf rfl) (fun hg2 => PureOp.lenLst rfl (.gtmp rfl hg2) f66_) rfl rfl (nB rfl) rfl (nB rfl) ?_
 refine ARun.gpure (want := false) (.tf rfl) (fun hg3 => PureOp.intOp rfl (.gtmp rfl hg3) .int rfl) rfl rfl (nB rfl) rfl (nB rfl) ?_
 refine pu (.pick rfl (.tmp rfl) (fun _ => .bool) (fun hp5 => .gtmp rfl (not_of hp5))) rfl rfl rfl ?_
 refine pu (.move rfl (.tmp rfl)) rfl rfl rfl ?_
 refine ARun.gpure (want := false) (.tf rfl) (fun hg6 => PureOp.move rfl (.tmp rfl)) rfl rfl (nB rfl) rfl (nB rfl) ?_
 refine ARun.gpure (want := false) (.tf rfl) (fun hg7 => PureOp.lenLst rfl (.gtmp rfl hg7) f66_) rfl rfl (nB rfl) rfl (nB rfl) ?_
 refine ARun.gpure (want := false) (.tf rfl) (fun hg8 => PureOp.fieldPtr rfl (.tmp rfl) f30_) rfl rfl (nB rfl) rfl (nB rfl) ?_
 refine ARun.gpure (want := false) (.tf rfl) (fun hg9 => PureOp.loadPtr rfl (.gtmp rfl hg9) f9_ rfl rfl (nB rfl) (nB rfl)) rfl rfl (nB rfl) rfl (nB rfl) ?_
 refine ARun.gpure (want := false) (.tf rfl) (fun hg10 => PureOp.sub (c := 1000 - h.offset) rfl .int (.gtmp rfl hg10) (wrap_id (by have hgq := good_off (h := h) (by have q := hg10; revert q; cases goodHead h <;> simp); omega) (by have hgq := good_off (h := h) (by have q := hg10; revert q; cases goodHead h <;> simp); omega))) rfl rfl (nB rfl) rfl (nB rfl) ?_
 refine ARun.gpure (want := false) (.tf rfl) (fun hg11 => PureOp.intOp rfl (.gtmp rfl hg11) (.gtmp rfl hg11) rfl) rfl rfl (nB rfl) rfl (nB rfl) ?_
 refine pu (.pick rfl (.tmp rfl) (fun _ => .bool) (fun hp13 => .gtmp rfl (not_of hp13))) rfl rfl rfl ?_
 refine ARun.nil ?_
 refine AW.cond (.tmp rfl) (fun hb14 => ?_) (fun hb14 => ?_)
 ·
  have hno : ¬ FoldOk h l := no_fold (a := true) hb14 (fun e => by have := of_decide_eq_true e; omega)
  refine AW.seq ?_
  refine AW.region ?_
  refine pu (.build (ys := []) (l := [.con (.slice none 0 0), .int .i64 0]) (pl := [(0, 1), (1, 1)]) (z := (.agg #[.slice none 0 0, .int .i64 0])) rfl (by kernel_rfl) (by kernel_rfl) (fun _ _ _ => ⟨_, _, rfl, rfl, ⟨_, _, rfl, rfl, rfl⟩⟩) trivial rfl) rfl rfl rfl ?_
  refine ARun.store rfl (.tmp rfl) (.tmp rfl) (SV.cells_of (by exact ⟨⟨rfl, (fun _ e => by cases e), (fun _ e => by cases e)⟩, trivial, trivial⟩)) rfl (nB rfl) f37_ rfl rfl ?_
  refine pu (.assign rfl .con) rfl rfl rfl ?_
  refine pu (.assign rfl .bool) rfl rfl rfl ?_
  refine ARun.nil ?_
  rw [foldV_no hno]
  exact AW.ret (show ∃ s t, ResL _ _ [.cell 4 25, .tmp 5, .tmp 6] s ∧ TvS _ (ofLeaf t) 0 s _ from ⟨_, fun a b => 1000, .inr (.inr (.inl ⟨_, _, _, _, _, _, rfl, .cells rfl f26_ rfl rfl (nB rfl) (nB rfl), .tmp rfl, .tmp rfl, rfl⟩)), ⟨⟨.nil, .int, trivial⟩, .nil, .bool⟩⟩)
 ·
  obtain ⟨hgd, hln, hbb⟩ := fold_yes hb14
  have hof := good_off hgd
  have hg0 := good0 hgd
  have hol : h.offset + (l.length : Int) ≤ 1000 := by have := of_decide_eq_false hbb; omega
  refine AW.skip ?_
  refine AW.seq ?_
  refine AW.region ?_
  refine pu (.loadPtrAgg rfl (.tmp rfl) f26_ rfl rfl (nB rfl) (nB rfl)) rfl rfl rfl ?_
  refine ARun.prod (K := 2) rfl (v_l13Own h (hd_ok hg0)) ⟨rfl, (by repeat first | exact trivial | refine ⟨by decide, by first | rfl | exact trivial | (intro a_ b_; first | exact getD_no rfl | exact rowC0_no rfl _ _ | ((try dsimp only); (repeat' split) <;> first | rfl | exact rowC0_no rfl _ _ | exact getD_no rfl)), ?_⟩)⟩ ⟨⟨_, (.tmp rfl), ⟨.lst, .int, trivial⟩⟩, trivial⟩ f64_ rfl rfl rfl rfl rfl (nB rfl) ?_
  refine ARun.openAgg 31 0 2 0 2 2 1 h.rows.length 3 4 [.tre 2 0, .int .i64 h.offset] [.own 3 2 h.rows.length, .int .i64 h.offset] (fun p => ([.lst 2 h.rows.length (fun i0 j0 => ([.str ((h.rows.getD i0 (default : GRow)).name), .lst 2 (((h.rows.getD i0 (default : GRow)).samples).length) (fun i1 j1 => ([.int .i64 ((((h.rows.getD i0 (default : GRow)).samples).getD i1 (default : GSample)).at_), .int .i64 ((((h.rows.getD i0 (default : GRow)).samples).getD i1 (default : GSample)).value)] : List AV).getD j1 (.con undef))] : List AV).getD j0 (.con undef)), .int .i64 h.offset] : List AV).getD p (.con undef)) (fun i0 j0 => ([.str ((h.rows.getD i0 (default : GRow)).name), .lst 2 (((h.rows.getD i0 (default : GRow)).samples).length) (fun i1 j1 => ([.int .i64 ((((h.rows.getD i0 (default : GRow)).samples).getD i1 (default : GSample)).at_), .int .i64 ((((h.rows.getD i0 (default : GRow)).samples).getD i1 (default : GSample)).value)] : List AV).getD j1 (.con undef))] : List AV).getD j0 (.con undef)) (rowC0 h 4) rfl rfl rfl rfl (by decide) rfl (by decide) (fun _ _ => ⟨_, _, _, rfl⟩) (fun i j _ hj hne => match j, hj, hne with | 0, _, _ => rfl | 1, _, h => absurd rfl h | _ + 2, h, _ => absurd h (by omega)) ⟨rfl, (by repeat first | exact trivial | refine ⟨by decide, by first | rfl | exact trivial | (intro a_ b_; first | exact getD_no rfl | exact rowC0_no rfl _ _ | ((try dsimp only); (repeat' split) <;> first | rfl | exact rowC0_no rfl _ _ | exact getD_no rfl)), ?_⟩)⟩ ⟨rfl, (by repeat first | exact trivial | refine ⟨by decide, by first | rfl | exact trivial | (intro a_ b_; first | exact getD_no rfl | exact rowC0_no rfl _ _ | ((try dsimp only); (repeat' split) <;> first | rfl | exact rowC0_no rfl _ _ | exact getD_no rfl)), ?_⟩)⟩ (by decide) (fun i j _ hj => match j, hj with | 0, _ => rfl | 1, _ => rfl | _ + 2, h => absurd h (by omega)) ?_
  refine ARun.alloc (id := 5) (l := [.con (.slice none 0 0), .int .i64 0]) (z := (.agg #[.slice none 0 0, .int .i64 0])) rfl (by kernel_rfl) (fun _ _ _ => ⟨_, _, rfl, rfl, ⟨_, _, rfl, rfl, rfl⟩⟩) ⟨rfl, (by repeat first | exact trivial | refine ⟨by decide, by first | rfl | exact trivial | (intro a_ b_; first | exact getD_no rfl | exact rowC0_no rfl _ _ | ((try dsimp only); (repeat' split) <;> first | rfl | exact rowC0_no rfl _ _ | exact getD_no rfl)), ?_⟩)⟩ rfl rfl rfl (nB rfl) ?_
  refine ARun.store rfl (.tmp rfl) (.tmp rfl) (SV.cells_of (by exact ⟨trivial, trivial, trivial⟩)) rfl (nB rfl) f37_ rfl rfl ?_
  refine ARun.nil ?_
  refine AW.seq ?_
  refine AW.region ?_
  refine pu (.assign rfl .con) rfl rfl rfl ?_
  refine ARun.nil ?_
  refine AW.seq ?_
  refine AW.seq ?_
  refine AW.region ?_
  refine pu (.move rfl (.tmp rfl)) rfl rfl rfl ?_
  refine pu (.lenLst rfl (.tmp rfl) f66_) rfl rfl rfl ?_
  refine pu (.move rfl .int) rfl rfl rfl ?_
  refine ARun.nil ?_
  refine AW.block ?_
  refine AW.nilSlot 8 6 1 (fun i _ => .int .i64 ((codeAt h l i : Nat) : Int)) rfl ⟨rfl, (by repeat first | exact trivial | refine ⟨by decide, by first | rfl | exact trivial | (intro a_ b_; first | exact getD_no rfl | exact rowC0_no rfl _ _ | ((try dsimp only); (repeat' split) <;> first | rfl | exact rowC0_no rfl _ _ | exact getD_no rfl)), ?_⟩)⟩ ?_
  -- objects are renamed
  refine AW.loopR (ι := Nat) (fun k => ⟨[(4, .one (.ptr 1 2 0 0)), (7, .one (.ptr 5 2 0 0)), (8, .one (.own 6 1 k)), (32, .one (.lst 3 l.length (fun i0 j0 => ([.str ((l.getD i0 (default : GSay)).name), .int .i64 ((l.getD i0 (default : GSay)).at_), .int .i64 ((l.getD i0 (default : GSay)).value)] : List AV).getD j0 (.con undef)))), (33, .one (.int .i64 (l.length : Int))), (34, .one (.int .i64 (k : Int)))], [(1, .cells [.con (.slice none 0 0), .int .i64 0]), (3, .arr 2 ((foldH h l k).rows.length) (rowC0 (foldH h l k) 4)), (4, .trees ((foldH h l k).rows.length) (rowX0 (foldH h l k))), (5, .cells [.own 3 2 ((foldH h l k).rows.length), .int .i64 ((foldH h l k).offset)]), (6, .arr 1 k (fun i _ => .int .i64 ((codeAt h l i : Nat) : Int)))]⟩) (fun k => k ≤ l.length ∧ ∀ j, j < k → sayB (l.getD j (default : GSay)) = true) (fun k => l.length - k) 0 ⟨Nat.zero_le _, fun j hj => absurd hj (by omega)⟩ ⟨⟨⟨_, rfl, rfl⟩, ⟨_, rfl, rfl⟩, ⟨_, rfl, rfl⟩, ⟨_, rfl, rfl⟩, ⟨_, rfl, rfl⟩, ⟨_, rfl, rfl⟩, trivial⟩, ⟨⟨_, rfl, rfl, Nat.le_refl _, fun _ _ _ _ => rfl⟩, ⟨_, rfl, rfl, Nat.le_refl _, fun _ _ _ _ => rfl⟩, ⟨_, rfl, fun _ _ => rfl⟩, ⟨_, rfl, rfl, Nat.le_refl _, fun _ _ _ _ => rfl⟩, ⟨_, rfl, rfl, Nat.le_refl _, fun _ _ _ _ => rfl⟩, trivial⟩⟩ ?_
  intro k hI
  obtain ⟨hk, hsy⟩ := hI
  refine AW.seq ?_
  refine AW.region ?_
  refine pu (.intOp rfl (.tmp rfl) (.tmp rfl) rfl) rfl rfl rfl ?_
  refine ARun.nil ?_
  refine AW.seq ?_
  refine AW.cond (.tmp rfl) (fun hb15 => ?_) (fun hb15 => ?_)
  ·
   replace hb15 := of_decide_eq_true hb15
   have hkl : k < l.length := by omega
   have hgk := fold_good hg0 k hsy
   have hfk := fold_off h l k
   refine AW.skip ?_
   refine AW.seq ?_
   refine AW.block ?_
   refine AW.seq ?_
   refine AW.region ?_
   refine pu (.indexLst (i := k) rfl (.tmp rfl) f65_ (.tmp rfl) rfl (by exact (show k < l.length from by omega))) rfl rfl rfl ?_
   refine pu (.loadRefAgg rfl (.tmp rfl) f58_ (nB rfl)) rfl rfl rfl ?_
   refine ARun.alloc (id := 7) (l := [.str ByteArray.empty, .int .i64 0, .int .i64 0]) (z := (.agg #[.string ByteArray.empty, .int .i64 0, .int .i64 0])) rfl (by kernel_rfl) (fun _ _ _ => ⟨_, _, rfl, ⟨rfl, by decide⟩, ⟨_, _, rfl, rfl, ⟨_, _, rfl, rfl, rfl⟩⟩⟩) ⟨rfl, (by repeat first | exact trivial | refine ⟨by decide, by first | rfl | exact trivial | (intro a_ b_; first | exact getD_no rfl | exact rowC0_no rfl _ _ | ((try dsimp only); (repeat' split) <;> first | rfl | exact rowC0_no rfl _ _ | exact getD_no rfl)), ?_⟩)⟩ rfl rfl rfl (nB rfl) ?_
   refine ARun.store rfl (.tmp rfl) (.tmp rfl) (SV.cells_of (by exact ⟨trivial, trivial, trivial, trivial⟩)) rfl (nB rfl) f62_ rfl rfl ?_
   refine ARun.nil ?_
   refine AW.seq ?_
   refine AW.seq ?_
   refine AW.region ?_
   refine pu (.loadPtrAgg rfl (.tmp rfl) f58_ rfl rfl (nB rfl) (nB rfl)) rfl rfl rfl ?_
   refine pu (.call rfl (v_l13Say (⟨(l.getD k (default : GSay)).name, (l.getD k (default : GSay)).at_, (l.getD k (default : GSay)).value⟩ : GSay)) ⟨⟨_, (.tmp rfl), ⟨.str, .int, .int, trivial⟩⟩, trivial⟩ f61_ trivial) rfl rfl rfl ?_
   refine pu (.not rfl (.tmp rfl)) rfl rfl rfl ?_
   refine ARun.nil ?_
   refine AW.cond (.tmp rfl) (fun hb16 => ?_) (fun hb16 => ?_)
   ·
    have hno : ¬ FoldOk h l := fun F => by rw [F.says k hkl] at hb16; cases hb16
    refine AW.seq ?_
    refine AW.region ?_
    refine pu (.build (ys := []) (l := [.con (.slice none 0 0), .int .i64 0]) (pl := [(0, 1), (1, 1)]) (z := (.agg #[.slice none 0 0, .int .i64 0])) rfl (by kernel_rfl) (by kernel_rfl) (fun _ _ _ => ⟨_, _, rfl, rfl, ⟨_, _, rfl, rfl, rfl⟩⟩) trivial rfl) rfl rfl rfl ?_
    refine ARun.store rfl (.tmp rfl) (.tmp rfl) (SV.cells_of (by exact ⟨⟨rfl, (fun _ e => by cases e), (fun _ e => by cases e)⟩, trivial, trivial⟩)) rfl (nB rfl) f37_ rfl rfl ?_
    refine pu (.assign rfl .con) rfl rfl rfl ?_
    refine pu (.assign rfl .bool) rfl rfl rfl ?_
    refine ARun.nil ?_
    rw [foldV_no hno]
    exact AW.ret (show ∃ s t, ResL _ _ [.cell 4 25, .tmp 5, .tmp 6] s ∧ TvS _ (ofLeaf t) 0 s _ from ⟨_, fun a b => 1000, .inr (.inr (.inl ⟨_, _, _, _, _, _, rfl, .cells rfl f26_ rfl rfl (nB rfl) (nB rfl), .tmp rfl, .tmp rfl, rfl⟩)), ⟨⟨.nil, .int, trivial⟩, .nil, .bool⟩⟩)
   ·
    have hsk : sayB (l.getD k (default : GSay)) = true := not_f hb16
    refine AW.skip ?_
    refine AW.seq ?_
    refine AW.region ?_
    refine pu (.loadPtrAgg rfl (.tmp rfl) f26_ rfl rfl (nB rfl) (nB rfl)) rfl rfl rfl ?_
    refine pu (.loadPtrAgg rfl (.tmp rfl) f58_ rfl rfl (nB rfl) (nB rfl)) rfl rfl rfl ?_
    refine ARun.mutx (Hr := [(1, .cells [.con (.slice none 0 0), .int .i64 0]), (5, .cells [.own 3 2 ((foldH h l k).rows.length), .int .i64 ((foldH h l k).offset)]), (6, .arr 1 k (fun i _ => .int .i64 ((codeAt h l i : Nat) : Int))), (7, .cells [.str ((l.getD k (default : GSay)).name), .int .i64 ((l.getD k (default : GSay)).at_), .int .i64 ((l.getD k (default : GSay)).value)])]) (Hn := [(1, .cells [.con (.slice none 0 0), .int .i64 0]), (5, .cells [.own 3 2 ((foldH h l k).rows.length), .int .i64 ((foldH h l k).offset)]), (6, .arr 1 k (fun i _ => .int .i64 ((codeAt h l i : Nat) : Int))), (7, .cells [.str ((l.getD k (default : GSay)).name), .int .i64 ((l.getD k (default : GSay)).at_), .int .i64 ((l.getD k (default : GSay)).value)]), (8, .arr 2 ((takeH (foldH h l k) (l.getD k (default : GSay))).rows.length) (rowC0 (takeH (foldH h l k) (l.getD k (default : GSay))) 9)), (9, .trees ((takeH (foldH h l k) (l.getD k (default : GSay))).rows.length) (rowX0 (takeH (foldH h l k) (l.getD k (default : GSay)))))]) (g := fun zz => if zz = 1000001 then 3 else if zz = 1000002 then 4 else zz) (g' := fun zz => if zz = 1000001 then 3 else if zz = 1000002 then 4 else if zz = 77 then 8 else if zz = 78 then 9 else zz) (K := [77, 78]) (T := [(8, 77), (9, 78)]) rfl (v_l13Take (foldH h l k) (l.getD k (default : GSay)) hgk ⟨by rw [hfk]; omega, by rw [hfk]; omega⟩) f63_ ⟨.inr (.tmp rfl), ⟨.inl ⟨_, (.tmp rfl), ⟨.str, .int, .int, trivial⟩⟩, trivial⟩⟩ ⟨⟨_, rfl, ⟨rfl, rfl, fun a b _ _ => rowC0_ren (h := (foldH h l k)) (K := 1000002) (K' := 4) rfl a b⟩⟩, ⟨_, rfl, ⟨rfl, fun _ _ => rfl⟩⟩, trivial⟩ ⟨⟨rfl, rfl⟩, ⟨rfl, rfl⟩, ⟨rfl, rfl⟩, ⟨rfl, rfl⟩, trivial⟩ rfl ⟨⟨rfl, (by repeat first | exact trivial | refine ⟨by decide, by first | rfl | exact trivial | (intro a_ b_; first | exact getD_no rfl | exact rowC0_no rfl _ _ | ((try dsimp only); (repeat' split) <;> first | rfl | exact rowC0_no rfl _ _ | exact getD_no rfl)), ?_⟩)⟩, ⟨rfl, (by repeat first | exact trivial | refine ⟨by decide, by first | rfl | exact trivial | (intro a_ b_; first | exact getD_no rfl | exact rowC0_no rfl _ _ | ((try dsimp only); (repeat' split) <;> first | rfl | exact rowC0_no rfl _ _ | exact getD_no rfl)), ?_⟩)⟩, trivial⟩ (by kernel_rfl) (by kernel_rfl) (by kernel_rfl) ⟨.inl rfl, .inl rfl, .inl rfl, .inl rfl, .inr ⟨77, _, rfl, rfl, rfl, ⟨rfl, rfl, fun a b _ _ => rowC0_ren (h := (takeH (foldH h l k) (l.getD k (default : GSay)))) (K := 78) (K' := 9) rfl a b⟩, (fun a b _ _ => rowC0_hx rfl a b)⟩, .inr ⟨78, _, rfl, rfl, rfl, ⟨rfl, fun _ _ => rfl⟩, trivial⟩, trivial⟩ rfl rfl (nB rfl) (r' := .tup2 (.agg [.own 8 2 ((takeH (foldH h l k) (l.getD k (default : GSay))).rows.length), .int .i64 ((takeH (foldH h l k) (l.getD k (default : GSay))).offset)]) (.one (.int .i64 ((takeCode (foldH h l k) (l.getD k (default : GSay)) : Nat) : Int)))) rfl ?_
    refine pu (.move rfl (.tmp rfl)) rfl rfl rfl ?_
    refine pu (.ext2a rfl (.tmp rfl)) rfl rfl rfl ?_
    refine pu (.ext2b rfl (.tmp rfl)) rfl rfl rfl ?_
    refine ARun.alloc (id := 10) (l := [.con (.slice none 0 0), .int .i64 0]) (z := (.agg #[.slice none 0 0, .int .i64 0])) rfl (by kernel_rfl) (fun _ _ _ => ⟨_, _, rfl, rfl, ⟨_, _, rfl, rfl, rfl⟩⟩) ⟨rfl, (by repeat first | exact trivial | refine ⟨by decide, by first | rfl | exact trivial | (intro a_ b_; first | exact getD_no rfl | exact rowC0_no rfl _ _ | ((try dsimp only); (repeat' split) <;> first | rfl | exact rowC0_no rfl _ _ | exact getD_no rfl)), ?_⟩)⟩ rfl rfl rfl (nB rfl) ?_
    refine ARun.store rfl (.tmp rfl) (.tmp rfl) (SV.cells_of (by exact ⟨trivial, trivial, trivial⟩)) rfl (nB rfl) f37_ rfl rfl ?_
    refine pu (.assign rfl (.tmp rfl)) rfl rfl rfl ?_
    refine ARun.nil ?_
    refine AW.seq ?_
    refine AW.region ?_
    refine pu (.loadPtrAgg rfl (.tmp rfl) f26_ rfl rfl (nB rfl) (nB rfl)) rfl rfl rfl ?_
    refine ARun.store rfl (.tmp rfl) (.tmp rfl) (SV.cells_of (by exact ⟨trivial, trivial, trivial⟩)) rfl (nB rfl) f37_ rfl rfl ?_
    refine ARun.nil ?_
    refine AW.region ?_
    refine pu (.move rfl (.tmp rfl)) rfl rfl rfl ?_
    refine pu (.move rfl (.tmp rfl)) rfl rfl rfl ?_
    refine ARun.slice1 (id := 11) (z := (.int .i64 0)) (by_ := 8) rfl (.tmp rfl) trivial (by kernel_rfl) rfl rfl (by decide) (by decide) ⟨rfl, (by repeat first | exact trivial | refine ⟨by decide, by first | rfl | exact trivial | (intro a_ b_; first | exact getD_no rfl | exact rowC0_no rfl _ _ | ((try dsimp only); (repeat' split) <;> first | rfl | exact rowC0_no rfl _ _ | exact getD_no rfl)), ?_⟩)⟩ rfl rfl rfl (nB rfl) ?_
    refine ARun.append (id := 12) (sz := 1) (n := k) (m := 1) (by_ := 8) (z := (.int .i64 0)) (f := fun i _ => .int .i64 ((codeAt h l i : Nat) : Int)) (g := fun _ jc => ([.int .i64 ((takeCode (foldH h l k) (l.getD k (default : GSay)) : Nat) : Int)] : List AV).getD jc (.con undef)) (h := fun ia ja => if ia < k then (fun i _ => .int .i64 ((codeAt h l i : Nat) : Int) : Nat → Nat → AV) ia ja else (fun _ jc => ([.int .i64 ((takeCode (foldH h l k) (l.getD k (default : GSay)) : Nat) : Int)] : List AV).getD jc (.con undef) : Nat → Nat → AV) (ia - k) ja) rfl (by kernel_rfl) rfl f15_ (.own (.tmp rfl) rfl rfl rfl (Nat.le_refl _) (fun _ _ _ _ => rfl)) (.own (.tmp rfl) rfl rfl (Nat.le_refl _) (fun _ _ _ _ => rfl)) (by decide) (fun i j hi hj => match j, hj with | 0, _ => rfl | _ + 1, h => absurd h (by omega)) (fun _ _ _ _ => rfl) (by omega) (by omega) ⟨rfl, (by repeat first | exact trivial | refine ⟨by decide, by first | rfl | exact trivial | (intro a_ b_; first | exact getD_no rfl | exact rowC0_no rfl _ _ | ((try dsimp only); (repeat' split) <;> first | rfl | exact rowC0_no rfl _ _ | exact getD_no rfl)), ?_⟩)⟩ (fun i j => by dsimp only; (repeat' split) <;> first | rfl | exact getD_no rfl) rfl rfl (nB rfl) ?_
    refine pu (.assign rfl (.tmp rfl)) rfl rfl rfl ?_
    refine ARun.nil ?_
    refine AW.region ?_
    refine pu (.add (c := ((k + 1 : Nat) : Int)) rfl (.tmp rfl) .int (by rw [wrap_id (by omega) (by omega)]; omega)) rfl rfl rfl ?_
    refine pu (.move rfl (.tmp rfl)) rfl rfl rfl ?_
    refine ARun.nil ?_
    exact ⟨k + 1, (fun z => (fun z => (swp 3 8) ((swp 4 9) z)) ((swp 6 12) z)), ⟨by omega, fun j hj => (Nat.lt_succ_iff_lt_or_eq.1 hj).elim (hsy j) (fun e => e ▸ hsk)⟩, by dsimp only; omega, (comp_inj (comp_inj swp_inj swp_inj) swp_inj), (comp_fix (comp_fix (swp_fix rfl rfl) (swp_fix rfl rfl)) (swp_fix rfl rfl)), ⟨⟨⟨_, rfl, rfl⟩, ⟨_, rfl, rfl⟩, ⟨_, rfl, rfl⟩, ⟨_, rfl, rfl⟩, ⟨_, rfl, rfl⟩, ⟨_, rfl, rfl⟩, trivial⟩, ⟨⟨_, rfl, rfl, Nat.le_refl _, fun _ _ _ _ => rfl⟩, ⟨_, rfl, rfl, Nat.le_refl _, fun i j _ _ => rowC0_ren (h := foldH h l (k + 1)) (K := 4) (K' := 9) rfl i j⟩, ⟨_, rfl, fun _ _ => rfl⟩, ⟨_, rfl, rfl, Nat.le_refl _, fun _ _ _ _ => rfl⟩, ⟨_, rfl, rfl, Nat.le_refl _, fun i j hi (hj : j < 1) => match j, hj with | 0, _ => app_at (show i < k + 1 from hi) (fun _ => rfl) (fun hik => by subst hik; rfl) | _ + 1, h => absurd h (by omega)⟩, trivial⟩⟩⟩
  ·
   replace hb15 := of_decide_eq_false hb15
   have hkl : ¬ k < l.length := by omega
   have hke : k = l.length := by omega
   refine AW.exit ?_
   refine AW.seq ?_
   refine AW.region ?_
   refine pu (.loadPtrAgg rfl (.tmp rfl) f26_ rfl rfl (nB rfl) (nB rfl)) rfl rfl rfl ?_
   refine ARun.prod (K := 13) rfl (v_l13Own (foldH h l k) (hd_ok (fold_good hg0 k hsy))) ⟨rfl, (by repeat first | exact trivial | refine ⟨by decide, by first | rfl | exact trivial | (intro a_ b_; first | exact getD_no rfl | exact rowC0_no rfl _ _ | ((try dsimp only); (repeat' split) <;> first | rfl | exact rowC0_no rfl _ _ | exact getD_no rfl)), ?_⟩)⟩ ⟨⟨_, (.tmp rfl), ⟨(.own rfl rfl (Nat.le_refl _) (fun i j hi hj => (match j, hj with | 0, _ => .str | 1, _ => (Vw.cast (Vw.tre rfl hi) rfl) | _ + 2, h => absurd h (by omega)))), .int, trivial⟩⟩, trivial⟩ f64_ rfl rfl rfl rfl rfl (nB rfl) ?_
   refine pu (.move rfl (.tmp rfl)) rfl rfl rfl ?_
   refine ARun.store rfl (.tmp rfl) (.tmp rfl) (SV.cells_of (by exact ⟨trivial, trivial, trivial⟩)) rfl (nB rfl) f37_ rfl rfl ?_
   refine pu (.assign rfl (.tmp rfl)) rfl rfl rfl ?_
   refine pu (.assign rfl .bool) rfl rfl rfl ?_
   refine ARun.nil ?_
   rw [show foldV h l = (foldH h l k, codesL h l k, true) from by rw [foldV_yes ⟨hgd, hln, hol, fun j hj => hsy j (by omega)⟩, hke]]
   exact AW.ret (show ∃ s t, ResL _ _ [.cell 4 25, .tmp 5, .tmp 6] s ∧ TvS _ (ofLeaf t) 0 s _ from ⟨_, fun a b => if a = 13 then 0 else if a = 6 then 2 else 1000, .inr (.inr (.inl ⟨_, _, _, _, _, _, rfl, .cells rfl f26_ rfl rfl (nB rfl) (nB rfl), .tmp rfl, .tmp rfl, rfl⟩)), ⟨⟨(Tv.cast (Tv.tre rfl (nB rfl) (by rfl)) rfl), .int, trivial⟩, (Tv.flatN (codes_len h l k) rfl rfl rfl (Nat.le_refl _) (by rfl) (fun i j hi hj => by show _ = AV.int .i64 ((codesL h l k).getD i 0); rw [codes_at h l hi]; rfl) (fun _ _ _ _ => rfl)), .bool⟩⟩)
end Go.Proofs.YtonfeiloekofdaaGreatDoor
