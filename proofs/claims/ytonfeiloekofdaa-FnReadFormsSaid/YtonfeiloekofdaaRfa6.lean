/-
  Proved: the law FnReadForms returns true for every input: a form comes back from its text, what is read is written the same, and the program answers as the reference does, for drawn forms and texts. Conditions: none.
-/
import Derived.Test.YtonfeiloekofdaaRfa2
import Derived.Test.YtonfeiloekofdaaRfa3
import Derived.Test.YtonfeiloekofdaaRfa4
import Derived.Test.YtonfeiloekofdaaRfa5
namespace Go.Proofs.Ytonfeiloekofdaa
open Go.ChangeShapes Go.WideShapes Go.ChangeAt Go.RowKit Go.BigFrame Go.Deep
set_option linter.unusedVariables false
set_option linter.unusedSimpArgs false
theorem f64_ : callB Try.prog 43 = true := by kernel_rfl
theorem f65_ : callB Try.prog 46 = true := by kernel_rfl
theorem f66_ : callB Try.prog 50 = true := by kernel_rfl
theorem f67_ : callB Try.prog 56 = true := by kernel_rfl
theorem last_nat {f : List GPart} (h : 1 ≤ f.length) : ((f.length : Int) - 1).toNat = f.length - 1 := by omega
theorem formText_yes {f : List GPart} (h : goodP f = true) : formTextV f = (textF (treeP f f.length ((f.length : Int) - 1).toNat), true) := by
  have hg := (goodP_iff.1 h).pos
  unfold formTextV
  rw [if_pos h, last_nat hg]
theorem formText_no {f : List GPart} (h : goodP f = false) : formTextV f = (ByteArray.empty, false) := by
  unfold formTextV
  rw [if_neg (by rw [h]; decide)]
theorem size_text {t : Fo} (hw : Wf t) : t.size ≤ (textF t).size := by
  induction hw with
  | @leaf k s h => exact (text_size (.leaf h)).1
  | @one k a h hwa ih =>
    show a.size + 0 + 1 ≤ _
    rcases isOne_or h with rfl | rfl
    · show _ ≤ (textF a ++ litB 42).size
      rw [ByteArray.size_append, litB_size]; omega
    · show _ ≤ (textF a ++ litB 94).size
      rw [ByteArray.size_append, litB_size]; omega
  | @two k a b h hwa hwb iha ihb =>
    show a.size + b.size + 1 ≤ _
    rcases isTwo_or h with rfl | rfl
    · show _ ≤ (litB 40 ++ textF a ++ textF b ++ litB 41).size
      simp only [ByteArray.size_append, litB_size]; omega
    · show _ ≤ (litB 91 ++ textF a ++ litB 124 ++ textF b ++ litB 93).size
      simp only [ByteArray.size_append, litB_size]; omega
theorem readR_wf {s : ByteArray} (hn : (readR s).1.isNil = false) : Wf (readR s).1 ∧ (readR s).1.size ≤ s.size := by
  have h : Rd2 s 0 (readR s).1 (readR s).2.1 := rForm_rd s (s.size + 1) 0 0 (Nat.zero_le _) hn
  have h1 := size_text h.wf
  have h2 := h.le
  have h3 := h.eq
  exact ⟨h.wf, by omega⟩
theorem readV_long {s : ByteArray} (h : 120 < s.size) : readV s = ⟨[], 120, false⟩ := by unfold readV; rw [if_pos h]
theorem readV_short {s : ByteArray} (h0 : ¬ 120 < s.size) (h : (readR s).1.isNil = true ∨ (readR s).2.1 < s.size) : readV s = ⟨[], ((readR s).2.1 : Int), false⟩ := by unfold readV; rw [if_neg h0, if_pos h]
theorem readV_many {s : ByteArray} (h0 : ¬ 120 < s.size) (h1 : (readR s).1.isNil = false) (h2 : ¬ (readR s).2.1 < s.size) (h : 24 < (readR s).1.size) : readV s = ⟨[], (s.size : Int), false⟩ := by
  unfold readV; rw [if_neg h0, if_neg (fun h => h.elim (fun h => by rw [h1] at h; cases h) h2), if_pos h]
theorem readV_ok {s : ByteArray} (h0 : ¬ 120 < s.size) (h1 : (readR s).1.isNil = false) (h2 : ¬ (readR s).2.1 < s.size) (h : ¬ 24 < (readR s).1.size) : readV s = ⟨flatAt (readR s).1 0, 0, true⟩ := by
  unfold readV; rw [if_neg h0, if_neg (fun h => h.elim (fun h => by rw [h1] at h; cases h) h2), if_neg h]
theorem partsL_ok {t : Fo} (h : ¬ 24 < t.size) : partsL t = flatAt t 0 := by unfold partsL; rw [if_neg h]
theorem not_no {f : List GPart} (h : cond (!goodP f) true (decide (((f.length : Nat) : Int) = 24)) = true) : notV f = ([], false) := by
  unfold notV
  rw [if_neg]
  rintro ⟨h1, h2⟩
  rw [h1] at h
  have h : decide (((f.length : Nat) : Int) = 24) = true := h
  exact h2 (by have := of_decide_eq_true h; omega)
theorem not_yes {f : List GPart} (h : cond (!goodP f) true (decide (((f.length : Nat) : Int) = 24)) = false) : notV f = (f ++ [⟨8, ByteArray.empty, (f.length : Int) - 1, 0⟩], true) ∧ goodP f = true := by
  cases hg : goodP f with
  | false => rw [hg] at h; cases h
  | true =>
    rw [hg] at h
    have h : decide (((f.length : Nat) : Int) = 24) = false := h
    unfold notV
    rw [if_pos ⟨hg, by have := of_decide_eq_false h; omega⟩]
    exact ⟨rfl, rfl⟩
theorem v_iFormText (f : List GPart) (hl : f.length ≤ 1000) : Fn Try.prog 16 [.one (.lst 4 f.length (fun i0 j0 => ([.int .i64 ((f.getD i0 (default : GPart)).kind), .str ((f.getD i0 (default : GPart)).text), .int .i64 ((f.getD i0 (default : GPart)).a), .int .i64 ((f.getD i0 (default : GPart)).b)] : List AV).getD j0 (.con undef)))] (.tup2 (.one (.str (formTextV f).1)) (.one (.bool (formTextV f).2))) := by
 refine Fn.of_body (fn := Try.f16) Try.func16 rfl (nB rfl) ⟨Nat.le_trans (formText_size f) (by decide), trivial⟩ ?_
 intro w0
 show AW _ 13 _ _ _ _
 refine AW.seq ?_
 refine AW.region ?_
 refine pu (.assign rfl (.str (by decide))) rfl rfl rfl ?_
 refine pu (.assign rfl .bool) rfl rfl rfl ?_
 refine ARun.nil ?_
 refine AW.seq ?_
 refine AW.seq ?_
 refine AW.region ?_
 refine pu (.move rfl (.tmp rfl)) rfl rfl rfl ?_
 refine pu (.call rfl (v_isForm f (by omega)) ⟨⟨_, (.tmp rfl), .lst⟩, trivial⟩ f64_ trivial) rfl rfl rfl ?_
 refine pu (.not rfl (.tmp rfl)) rfl rfl rfl ?_
 refine ARun.nil ?_
 refine AW.cond (.tmp rfl) (fun hb1 => ?_) (fun hb1 => ?_)
 ·
  replace hb1 := of_not hb1
  have he := formText_no hb1
  refine AW.seq ?_
  refine AW.region ?_
  refine pu (.assign rfl (.str (by decide))) rfl rfl rfl ?_
  refine pu (.assign rfl .bool) rfl rfl rfl ?_
  refine ARun.nil ?_
  refine AW.ret (show ResL _ _ [.tmp 2, .tmp 3] _ from res2S rfl rfl ?_)
  rw [he]; exact ⟨rfl, rfl⟩
 ·
  replace hb1 := not_f hb1
  have he := formText_yes hb1
  have hg := goodP_iff.1 hb1
  have hp1 := hg.pos
  have hwf : Wf (treeP f f.length ((f.length : Int) - 1).toNat) := treeP_wf hg.part (by omega) (by omega)
  have hsz : (treeP f f.length ((f.length : Int) - 1).toNat).size = f.length := by rw [last_nat hp1]; exact tree_size hg
  refine AW.skip ?_
  refine AW.seq ?_
  refine AW.region ?_
  refine pu (.move rfl (.tmp rfl)) rfl rfl rfl ?_
  refine pu (.move rfl (.tmp rfl)) rfl rfl rfl ?_
  refine pu (.lenLst rfl (.tmp rfl) f34_) rfl rfl rfl ?_
  refine pu (.sub (c := (f.length : Int) - 1) rfl (.tmp rfl) .int (wrap_id (by omega) (by omega))) rfl rfl rfl ?_
  refine ARun.fresh (FreshOp.callS rfl (v_Tree f (by omega) hg.part f.length ((f.length : Int) - 1) (by omega) (by omega) (by omega)) ⟨⟨_, (.tmp rfl), .lst⟩, ⟨_, (.tmp rfl), .int⟩, trivial⟩ f54_ (congrArg SV.one (Fo.fr _))) rfl rfl (nB rfl) ?_
  refine pu (.call rfl (v_Text (treeP f f.length ((f.length : Int) - 1).toNat) hwf (by omega)) ⟨⟨_, (.tmp rfl), (Fo.vw _ _)⟩, trivial⟩ f16_ (text_plain hwf (by omega))) rfl rfl rfl ?_
  refine pu (.assign rfl (.tmp rfl)) rfl rfl rfl ?_
  refine pu (.assign rfl .bool) rfl rfl rfl ?_
  refine ARun.nil ?_
  refine AW.ret (show ResL _ _ [.tmp 2, .tmp 3] _ from res2S rfl rfl ?_)
  rw [he]; exact ⟨rfl, rfl⟩
theorem v_sFormText (f : List GPart) (hl : f.length ≤ 1000) : Fn Try.prog 17 [.one (.lst 4 f.length (fun i0 j0 => ([.int .i64 ((f.getD i0 (default : GPart)).kind), .str ((f.getD i0 (default : GPart)).text), .int .i64 ((f.getD i0 (default : GPart)).a), .int .i64 ((f.getD i0 (default : GPart)).b)] : List AV).getD j0 (.con undef)))] (.tup2 (.one (.str (formTextV f).1)) (.one (.bool (formTextV f).2))) := by
 refine Fn.of_body (fn := Try.f17) Try.func17 rfl (nB rfl) ⟨Nat.le_trans (formText_size f) (by decide), trivial⟩ ?_
 intro w0
 show AW _ 13 _ _ _ _
 refine AW.seq ?_
 refine AW.region ?_
 refine pu (.assign rfl (.str (by decide))) rfl rfl rfl ?_
 refine pu (.assign rfl .bool) rfl rfl rfl ?_
 refine ARun.nil ?_
 refine AW.seq ?_
 refine AW.seq ?_
 refine AW.region ?_
 refine pu (.move rfl (.tmp rfl)) rfl rfl rfl ?_
 refine pu (.call rfl (v_sGoodForm f (by omega)) ⟨⟨_, (.tmp rfl), .lst⟩, trivial⟩ f65_ trivial) rfl rfl rfl ?_
 refine pu (.not rfl (.tmp rfl)) rfl rfl rfl ?_
 refine ARun.nil ?_
 refine AW.cond (.tmp rfl) (fun hb1 => ?_) (fun hb1 => ?_)
 ·
  replace hb1 := of_not hb1
  have he := formText_no hb1
  refine AW.seq ?_
  refine AW.region ?_
  refine pu (.assign rfl (.str (by decide))) rfl rfl rfl ?_
  refine pu (.assign rfl .bool) rfl rfl rfl ?_
  refine ARun.nil ?_
  refine AW.ret (show ResL _ _ [.tmp 2, .tmp 3] _ from res2S rfl rfl ?_)
  rw [he]; exact ⟨rfl, rfl⟩
 ·
  replace hb1 := not_f hb1
  have he := formText_yes hb1
  have hg := goodP_iff.1 hb1
  have hp1 := hg.pos
  have hwf : Wf (treeP f f.length ((f.length : Int) - 1).toNat) := treeP_wf hg.part (by omega) (by omega)
  have hsz : (treeP f f.length ((f.length : Int) - 1).toNat).size = f.length := by rw [last_nat hp1]; exact tree_size hg
  refine AW.skip ?_
  refine AW.seq ?_
  refine AW.region ?_
  refine pu (.move rfl (.tmp rfl)) rfl rfl rfl ?_
  refine pu (.move rfl (.tmp rfl)) rfl rfl rfl ?_
  refine pu (.lenLst rfl (.tmp rfl) f34_) rfl rfl rfl ?_
  refine pu (.sub (c := (f.length : Int) - 1) rfl (.tmp rfl) .int (wrap_id (by omega) (by omega))) rfl rfl rfl ?_
  refine ARun.fresh (FreshOp.callS rfl (v_l5Tree f (by omega) hg.part f.length ((f.length : Int) - 1) (by omega) (by omega) (by omega)) ⟨⟨_, (.tmp rfl), .lst⟩, ⟨_, (.tmp rfl), .int⟩, trivial⟩ f55_ (congrArg SV.one (Fo.fr _))) rfl rfl (nB rfl) ?_
  refine pu (.call rfl (v_l5Text (treeP f f.length ((f.length : Int) - 1).toNat) hwf (by omega)) ⟨⟨_, (.tmp rfl), (Fo.vw _ _)⟩, trivial⟩ f17_ (text_plain hwf (by omega))) rfl rfl rfl ?_
  refine pu (.assign rfl (.tmp rfl)) rfl rfl rfl ?_
  refine pu (.assign rfl .bool) rfl rfl rfl ?_
  refine ARun.nil ?_
  refine AW.ret (show ResL _ _ [.tmp 2, .tmp 3] _ from res2S rfl rfl ?_)
  rw [he]; exact ⟨rfl, rfl⟩
theorem v_iGoodForm (f : List GPart) (hl : f.length ≤ 1000) : Fn Try.prog 22 [.one (.lst 4 f.length (fun i0 j0 => ([.int .i64 ((f.getD i0 (default : GPart)).kind), .str ((f.getD i0 (default : GPart)).text), .int .i64 ((f.getD i0 (default : GPart)).a), .int .i64 ((f.getD i0 (default : GPart)).b)] : List AV).getD j0 (.con undef)))] (.one (.bool (goodP f))) := by
 refine Fn.of_body (fn := Try.f22) Try.func22 rfl (nB rfl) trivial ?_
 intro w0
 show AW _ 5 _ _ _ _
 refine AW.seq ?_
 refine AW.region ?_
 refine pu (.assign rfl .bool) rfl rfl rfl ?_
 refine ARun.nil ?_
 refine AW.seq ?_
 refine AW.region ?_
 refine pu (.move rfl (.tmp rfl)) rfl rfl rfl ?_
 refine pu (.call rfl (v_isForm f (by omega)) ⟨⟨_, (.tmp rfl), .lst⟩, trivial⟩ f64_ trivial) rfl rfl rfl ?_
 refine pu (.assign rfl (.tmp rfl)) rfl rfl rfl ?_
 refine ARun.nil ?_
 exact AW.ret (show ResL _ _ [.tmp 2] _ from resB rfl rfl)
theorem v_sameForm (f : List GPart) : Fn Try.prog 21 [.one (.lst 4 f.length (fun i0 j0 => ([.int .i64 ((f.getD i0 (default : GPart)).kind), .str ((f.getD i0 (default : GPart)).text), .int .i64 ((f.getD i0 (default : GPart)).a), .int .i64 ((f.getD i0 (default : GPart)).b)] : List AV).getD j0 (.con undef))), .one (.lst 4 f.length (fun i0 j0 => ([.int .i64 ((f.getD i0 (default : GPart)).kind), .str ((f.getD i0 (default : GPart)).text), .int .i64 ((f.getD i0 (default : GPart)).a), .int .i64 ((f.getD i0 (default : GPart)).b)] : List AV).getD j0 (.con undef)))] (.one (.bool true)) := by
 refine Fn.of_body (fn := Try.f21) Try.func21 rfl (nB rfl) trivial ?_
 intro w0
 show AW _ 26 _ _ _ _
 refine AW.bound (t := 0) rfl fun hx => ?_
 refine AW.seq ?_
 refine AW.region ?_
 refine pu (.assign rfl .bool) rfl rfl rfl ?_
 refine ARun.nil ?_
 refine AW.seq ?_
 refine AW.seq ?_
 refine AW.region ?_
 refine pu (.move rfl (.tmp rfl)) rfl rfl rfl ?_
 refine pu (.lenLst rfl (.tmp rfl) f34_) rfl rfl rfl ?_
 refine pu (.move rfl (.tmp rfl)) rfl rfl rfl ?_
 refine pu (.lenLst rfl (.tmp rfl) f34_) rfl rfl rfl ?_
 refine pu (.intOp rfl (.tmp rfl) (.tmp rfl) rfl) rfl rfl rfl ?_
 refine ARun.nil ?_
 refine AW.cond (.tmp rfl) (fun hb1 => ?_) (fun hb1 => ?_)
 ·
  exact absurd hb1 (by simp)
  --end
 ·
  have _h := hb1
  refine AW.skip ?_
  refine AW.seq ?_
  refine AW.seq ?_
  refine AW.region ?_
  refine pu (.move rfl (.tmp rfl)) rfl rfl rfl ?_
  refine pu (.lenLst rfl (.tmp rfl) f34_) rfl rfl rfl ?_
  refine pu (.move rfl .int) rfl rfl rfl ?_
  refine ARun.nil ?_
  refine AW.block ?_
  refine AW.loop (ι := Nat) (fun k => ⟨[(0, .one (.lst 4 f.length (fun i0 j0 => ([.int .i64 ((f.getD i0 (default : GPart)).kind), .str ((f.getD i0 (default : GPart)).text), .int .i64 ((f.getD i0 (default : GPart)).a), .int .i64 ((f.getD i0 (default : GPart)).b)] : List AV).getD j0 (.con undef)))), (1, .one (.lst 4 f.length (fun i0 j0 => ([.int .i64 ((f.getD i0 (default : GPart)).kind), .str ((f.getD i0 (default : GPart)).text), .int .i64 ((f.getD i0 (default : GPart)).a), .int .i64 ((f.getD i0 (default : GPart)).b)] : List AV).getD j0 (.con undef)))), (12, .one (.int .i64 (f.length : Int))), (13, .one (.int .i64 (k : Int)))], []⟩) (fun k => k ≤ f.length) (fun k => f.length - k) 0 (Nat.zero_le _) ⟨⟨⟨_, rfl, rfl⟩, ⟨_, rfl, rfl⟩, ⟨_, rfl, rfl⟩, ⟨_, rfl, rfl⟩, trivial⟩, trivial⟩ ?_
  intro k hk
  refine AW.seq ?_
  refine AW.region ?_
  refine pu (.intOp rfl (.tmp rfl) (.tmp rfl) rfl) rfl rfl rfl ?_
  refine ARun.nil ?_
  refine AW.seq ?_
  refine AW.cond (.tmp rfl) (fun hb2 => ?_) (fun hb2 => ?_)
  ·
   replace hb2 := of_decide_eq_true hb2
   have hkl : k < f.length := by omega
   refine AW.skip ?_
   refine AW.seq ?_
   refine AW.block ?_
   refine AW.seq ?_
   refine AW.region ?_
   refine pu (.move rfl (.tmp rfl)) rfl rfl rfl ?_
   refine pu (.assign rfl (.tmp rfl)) rfl rfl rfl ?_
   refine ARun.nil ?_
   refine AW.seq ?_
   refine AW.any (by kernel_rfl) (by kernel_rfl) ?_
   refine AD.pure (PureOp.move rfl (.tmp rfl)) rfl rfl (nB rfl) ?_
   refine AD.pure (PureOp.move rfl (.tmp rfl)) rfl rfl (nB rfl) ?_
   refine AD.pure (PureOp.indexLst (i := k) rfl (.tmp rfl) f45_ (.tmp rfl) rfl (by omega)) rfl rfl (nB rfl) ?_
   refine AD.pure (PureOp.loadRefAgg rfl (.tmp rfl) f28_ (nB rfl)) rfl rfl (nB rfl) ?_
   refine AD.pure (PureOp.move rfl (.tmp rfl)) rfl rfl (nB rfl) ?_
   refine AD.pure (PureOp.move rfl (.tmp rfl)) rfl rfl (nB rfl) ?_
   refine AD.pure (PureOp.indexLst (i := k) rfl (.tmp rfl) f45_ (.tmp rfl) rfl (by omega)) rfl rfl (nB rfl) ?_
   refine AD.pure (PureOp.loadRefAgg rfl (.tmp rfl) f28_ (nB rfl)) rfl rfl (nB rfl) ?_
   refine AD.pure (PureOp.neAgg rfl (.tmp rfl) (.tmp rfl) rfl rfl eqGuardPart (fun w_ => equalPart (f.getD k (default : GPart)) (f.getD k (default : GPart)) _ rfl w_)) rfl rfl (nB rfl) ?_
   refine AD.nil ?_
   refine AW.cond (.tmp rfl) (fun hb3 => ?_) (fun hb3 => ?_)
   ·
    exact absurd hb3 (by simp)
    --end
   ·
    have _h := hb3
    refine AW.skip ?_
    refine AW.region ?_
    refine pu (.add (c := ((k + 1 : Nat) : Int)) rfl (.tmp rfl) .int (by rw [wrap_id (by omega) (by omega)]; omega)) rfl rfl rfl ?_
    refine pu (.move rfl (.tmp rfl)) rfl rfl rfl ?_
    refine ARun.nil ?_
    exact ⟨k + 1, by omega, by dsimp only; omega, ⟨⟨⟨_, rfl, rfl⟩, ⟨_, rfl, rfl⟩, ⟨_, rfl, rfl⟩, ⟨_, rfl, rfl⟩, trivial⟩, trivial⟩⟩
  ·
   replace hb2 := of_decide_eq_false hb2
   have hkl : ¬ k < f.length := by omega
   refine AW.exit ?_
   refine AW.seq ?_
   refine AW.region ?_
   refine pu (.assign rfl .bool) rfl rfl rfl ?_
   refine ARun.nil ?_
   refine AW.ret (show ResL _ _ [.tmp 4] _ from resB rfl ?_)
   rfl
theorem v_GForm (s : ByteArray) (hs : s.size ≤ 1048576) : ∀ (n p d : Nat), p ≤ s.size → s.size - p < n → d ≤ 61 → FnN Try.prog 54 [.one (.ptr 1000000 3 0 0), .one (.int .i64 (d : Int))] [.str s, .int .i64 (p : Int), .bool false] (fun x => x = gForm s n p d) (fun (x : Fo × Nat × Bool) => .one x.1.av) (fun x => [.str s, .int .i64 (x.2.1 : Int), .bool x.2.2])
  | 0 => fun p d hp hm hd => absurd hm (Nat.not_lt_zero _)
  | n + 1 => fun p d hp hm hd => v_GFormS s hs n (v_GForm s hs n) p d hp (by omega) hd
theorem v_iReadForm (s : ByteArray) (hs : s.size ≤ 1048576) : FnF Try.prog 18 [.one (.str s)] (.tup3 (.one (.lst 4 ((readV s).l.length) (rowP (readV s).l))) (.one (.int .i64 ((readV s).at_))) (.one (.bool ((readV s).ok)))) := by
 refine FnF.of_body (fn := Try.f18) Try.func18 rfl (nB rfl)  ?_
 intro w0
 show AW _ 44 _ _ _ _
 refine AW.seq ?_
 refine AW.region ?_
 refine pu (.assign rfl .con) rfl rfl rfl ?_
 refine pu (.assign rfl .int) rfl rfl rfl ?_
 refine pu (.assign rfl .bool) rfl rfl rfl ?_
 refine ARun.nil ?_
 refine AW.seq ?_
 refine AW.seq ?_
 refine AW.region ?_
 refine pu (.move rfl (.tmp rfl)) rfl rfl rfl ?_
 refine pu (.lenStr rfl (.tmp rfl) f4_) rfl rfl rfl ?_
 refine pu (.intOp rfl (.tmp rfl) .int rfl) rfl rfl rfl ?_
 refine ARun.nil ?_
 refine AW.cond (.tmp rfl) (fun hb1 => ?_) (fun hb1 => ?_)
 ·
  replace hb1 := of_decide_eq_true hb1
  have he := readV_long (s := s) (by omega)
  rw [he]
  refine AW.seq ?_
  refine AW.region ?_
  refine pu (.assign rfl .con) rfl rfl rfl ?_
  refine pu (.assign rfl .int) rfl rfl rfl ?_
  refine pu (.assign rfl .bool) rfl rfl rfl ?_
  refine ARun.nil ?_
  exact AW.ret (show ∃ s, ResL _ _ [.tmp 2, .tmp 3, .tmp 4] s ∧ FvS _ s _ from ⟨_, .inr (.inr (.inl ⟨_, _, _, _, _, _, rfl, .tmp rfl, .tmp rfl, .tmp rfl, rfl⟩)), .cnil, .int, .bool⟩)
 ·
  replace hb1 := of_decide_eq_false hb1
  have h0 : ¬ 120 < s.size := by omega
  refine AW.skip ?_
  refine AW.seq ?_
  refine AW.region ?_
  refine pu (.move rfl (.tmp rfl)) rfl rfl rfl ?_
  refine pu (.build (ys := [.str s]) (l := [.str ByteArray.empty, .int .i64 0, .int .i64 0]) (pl := [(0, 1), (1, 1), (2, 1)]) (z := (.agg #[.string ByteArray.empty, .int .i64 0, .int .i64 0])) rfl (by kernel_rfl) (by kernel_rfl) (fun _ _ _ => ⟨_, _, rfl, ⟨rfl, by decide⟩, ⟨_, _, rfl, rfl, ⟨_, _, rfl, rfl, rfl⟩⟩⟩) ⟨(.tmp rfl), trivial, rfl, trivial⟩ rfl) rfl rfl rfl ?_
  refine ARun.box (id := 0) rfl (.tmp rfl) (SV.cells_of (by exact ⟨trivial, trivial, trivial, trivial⟩)) ⟨(by refine fr_env rfl ?_; (repeat refine env_cons (by first | with_reducible exact Fo.noS _ _ | with_reducible exact Fo.noS' _ _ | exact rfl | exact Fo.noS _ _ | exact Fo.noS' _ _ | exact agg_no (by repeat' first | with_reducible exact Fo.no _ _ | with_reducible exact Fo.no' _ _ | exact rfl | exact Fo.no _ _ | exact Fo.no' _ _ | refine no_cons ?_ ?_)) ?_); exact rfl), (by repeat first | exact trivial | refine ⟨by decide, by first | rfl | exact trivial | (intro i j; first | rfl | exact getD_no rfl | (dsimp only; split <;> first | rfl | exact getD_no rfl) | exact scl_no (by apply_assumption) _), ?_⟩)⟩ rfl rfl rfl (nB rfl) ?_
  refine pu (.assign rfl (.tmp rfl)) rfl rfl rfl ?_
  refine ARun.nil ?_
  refine AW.seq ?_
  refine AW.region ?_
  refine pu (.move rfl (.tmp rfl)) rfl rfl rfl ?_
  refine ARun.nn 0 rfl (v_Form s hs (s.size + 1) 0 0 (by omega) (by omega) (by omega)) f6_ ⟨.inr (.tmp rfl), trivial⟩ rfl rfl rfl (fun _ _ => rfl) (by repeat first | exact trivial | refine ⟨.inr rfl, ?_⟩ | refine ⟨.inl rfl, ?_⟩) rfl rfl (nB rfl) (r' := fun x => .one x.1.fv) (fun _ => congrArg SV.one (Fo.fr _)) (fun x2 hc3 => ?_)
  have hX : x2 = readR s := hc3
  have hXw := fun h => readR_wf (s := s) (by rw [← hX]; exact h)
  rw [← hX] at hXw
  have hXl : x2.2.1 ≤ s.size := by rw [hX]; exact readR_le s
  refine pu (.assign rfl (.tmp rfl)) rfl rfl rfl ?_
  refine ARun.nil ?_
  refine AW.seq ?_
  refine AW.seq ?_
  refine AW.region ?_
  refine pu (.move rfl (.tmp rfl)) rfl rfl rfl ?_
  refine pu (.eqNil (b := x2.1.isNil) rfl (.tmp rfl) (Fo.pn _) (by kernel_rfl)) rfl rfl rfl ?_
  refine ARun.nil ?_
  refine AW.cond (.tmp rfl) (fun hb4 => ?_) (fun hb4 => ?_)
  ·
   have he := readV_short h0 (.inl (by rw [← hX]; exact hb4))
   rw [he, ← hX]
   refine AW.seq ?_
   refine AW.any (by kernel_rfl) (by kernel_rfl) ?_
   refine AD.pure (PureOp.move rfl (.tmp rfl)) rfl rfl (nB rfl) ?_
   refine AD.pure (PureOp.nilPtr rfl (.tmp rfl)) rfl rfl (nB rfl) ?_
   refine AD.pure (PureOp.fieldPtr rfl (.tmp rfl) f1_) rfl rfl (nB rfl) ?_
   refine AD.pure (PureOp.loadPtr rfl (.tmp rfl) f2_ rfl rfl (nB rfl) (nB rfl)) rfl rfl (nB rfl) ?_
   refine AD.pure (PureOp.assign rfl .con) rfl rfl (nB rfl) ?_
   refine AD.pure (PureOp.assign rfl (.tmp rfl)) rfl rfl (nB rfl) ?_
   refine AD.pure (PureOp.assign rfl .bool) rfl rfl (nB rfl) ?_
   refine AD.nil ?_
   exact AW.ret (show ∃ s, ResL _ _ [.tmp 2, .tmp 3, .tmp 4] s ∧ FvS _ s _ from ⟨_, .inr (.inr (.inl ⟨_, _, _, _, _, _, rfl, .tmp rfl, .tmp rfl, .tmp rfl, rfl⟩)), .cnil, .int, .bool⟩)
  ·
   have hnn := hb4
   refine AW.skip ?_
   refine AW.seq ?_
   refine AW.seq ?_
   refine AW.region ?_
   refine pu (.move rfl (.tmp rfl)) rfl rfl rfl ?_
   refine pu (.nilPtr rfl (.tmp rfl)) rfl rfl rfl ?_
   refine pu (.fieldPtr rfl (.tmp rfl) f1_) rfl rfl rfl ?_
   refine pu (.loadPtr rfl (.tmp rfl) f2_ rfl rfl (nB rfl) (nB rfl)) rfl rfl rfl ?_
   refine pu (.move rfl (.tmp rfl)) rfl rfl rfl ?_
   refine pu (.lenStr rfl (.tmp rfl) f4_) rfl rfl rfl ?_
   refine pu (.intOp rfl (.tmp rfl) (.tmp rfl) rfl) rfl rfl rfl ?_
   refine ARun.nil ?_
   refine AW.cond (.tmp rfl) (fun hb5 => ?_) (fun hb5 => ?_)
   ·
    replace hb5 := of_decide_eq_true hb5
    have hlt : x2.2.1 < s.size := by omega
    have he := readV_short h0 (.inr (by rw [← hX]; exact hlt))
    rw [he, ← hX]
    refine AW.seq ?_
    refine AW.any (by kernel_rfl) (by kernel_rfl) ?_
    refine AD.pure (PureOp.move rfl (.tmp rfl)) rfl rfl (nB rfl) ?_
    refine AD.pure (PureOp.nilPtr rfl (.tmp rfl)) rfl rfl (nB rfl) ?_
    refine AD.pure (PureOp.fieldPtr rfl (.tmp rfl) f1_) rfl rfl (nB rfl) ?_
    refine AD.pure (PureOp.loadPtr rfl (.tmp rfl) f2_ rfl rfl (nB rfl) (nB rfl)) rfl rfl (nB rfl) ?_
    refine AD.pure (PureOp.assign rfl .con) rfl rfl (nB rfl) ?_
    refine AD.pure (PureOp.assign rfl (.tmp rfl)) rfl rfl (nB rfl) ?_
    refine AD.pure (PureOp.assign rfl .bool) rfl rfl (nB rfl) ?_
    refine AD.nil ?_
    exact AW.ret (show ∃ s, ResL _ _ [.tmp 2, .tmp 3, .tmp 4] s ∧ FvS _ s _ from ⟨_, .inr (.inr (.inl ⟨_, _, _, _, _, _, rfl, .tmp rfl, .tmp rfl, .tmp rfl, rfl⟩)), .cnil, .int, .bool⟩)
   ·
    replace hb5 := of_decide_eq_false hb5
    have hlt : ¬ x2.2.1 < s.size := by omega
    refine AW.skip ?_
    refine AW.seq ?_
    refine AW.region ?_
    refine pu (.move rfl (.tmp rfl)) rfl rfl rfl ?_
    refine ARun.fresh (FreshOp.callS rfl (v_Parts x2.1 hnn (by have := (hXw hnn).2; omega)) ⟨⟨_, (.tmp rfl), (Fo.vw _ _)⟩, trivial⟩ f66_ rfl) rfl rfl (nB rfl) ?_
    refine pu (.move rfl (.tmp rfl)) rfl rfl rfl ?_
    refine pu (.ext2a rfl (.tmp rfl)) rfl rfl rfl ?_
    refine pu (.ext2b rfl (.tmp rfl)) rfl rfl rfl ?_
    refine pu (.assign rfl (.tmp rfl)) rfl rfl rfl ?_
    refine pu (.assign rfl (.tmp rfl)) rfl rfl rfl ?_
    refine ARun.nil ?_
    refine AW.seq ?_
    refine AW.seq ?_
    refine AW.region ?_
    refine pu (.move rfl (.tmp rfl)) rfl rfl rfl ?_
    refine pu (.not rfl (.tmp rfl)) rfl rfl rfl ?_
    refine ARun.nil ?_
    refine AW.cond (.tmp rfl) (fun hb6 => ?_) (fun hb6 => ?_)
    ·
     have h2 := of_decide_eq_false (of_not hb6)
     have he := readV_many h0 (by rw [← hX]; exact hnn) (by rw [← hX]; exact hlt) (by rw [← hX]; omega)
     rw [he]
     refine AW.seq ?_
     refine AW.region ?_
     refine pu (.move rfl (.tmp rfl)) rfl rfl rfl ?_
     refine pu (.lenStr rfl (.tmp rfl) f4_) rfl rfl rfl ?_
     refine pu (.assign rfl .con) rfl rfl rfl ?_
     refine pu (.assign rfl (.tmp rfl)) rfl rfl rfl ?_
     refine pu (.assign rfl .bool) rfl rfl rfl ?_
     refine ARun.nil ?_
     exact AW.ret (show ∃ s, ResL _ _ [.tmp 2, .tmp 3, .tmp 4] s ∧ FvS _ s _ from ⟨_, .inr (.inr (.inl ⟨_, _, _, _, _, _, rfl, .tmp rfl, .tmp rfl, .tmp rfl, rfl⟩)), .cnil, .int, .bool⟩)
    ·
     have h2 := of_decide_eq_true (not_f hb6)
     have he := readV_ok h0 (by rw [← hX]; exact hnn) (by rw [← hX]; exact hlt) (by rw [← hX]; omega)
     rw [he, ← hX, ← partsL_ok (t := x2.1) (by omega)]
     refine AW.skip ?_
     refine AW.seq ?_
     refine AW.region ?_
     refine pu (.move rfl (.tmp rfl)) rfl rfl rfl ?_
     refine pu (.assign rfl (.tmp rfl)) rfl rfl rfl ?_
     refine pu (.assign rfl .int) rfl rfl rfl ?_
     refine pu (.assign rfl .bool) rfl rfl rfl ?_
     refine ARun.nil ?_
     exact AW.ret (show ∃ s, ResL _ _ [.tmp 2, .tmp 3, .tmp 4] s ∧ FvS _ s _ from ⟨_, .inr (.inr (.inl ⟨_, _, _, _, _, _, rfl, .tmp rfl, .tmp rfl, .tmp rfl, rfl⟩)), .frs, .int, .bool⟩)
theorem g_short {x : Fo × Nat × Bool} {y : Fo × Nat × Nat} {z : Nat} (h1 : x.2.1 = y.2.1) (h2 : x.2.2 = y.1.isNil) (h : cond x.2.2 true (decide ((x.2.1 : Int) < (z : Int))) = true) : y.1.isNil = true ∨ y.2.1 < z := by
  rw [← h2, ← h1]
  cases e : x.2.2 with
  | true => exact .inl rfl
  | false =>
    rw [e] at h
    have h : decide ((x.2.1 : Int) < (z : Int)) = true := h
    exact .inr (by have := of_decide_eq_true h; omega)
theorem g_ok {x : Fo × Nat × Bool} {y : Fo × Nat × Nat} {z : Nat} (h1 : x.2.1 = y.2.1) (h2 : x.2.2 = y.1.isNil) (h : cond x.2.2 true (decide ((x.2.1 : Int) < (z : Int))) = false) : y.1.isNil = false ∧ ¬ y.2.1 < z := by
  rw [← h2, ← h1]
  cases e : x.2.2 with
  | true => rw [e] at h; cases h
  | false =>
    rw [e] at h
    have h : decide ((x.2.1 : Int) < (z : Int)) = false := h
    exact ⟨rfl, by have := of_decide_eq_false h; omega⟩
theorem v_sReadForm (s : ByteArray) (hs : s.size ≤ 1048576) : FnF Try.prog 20 [.one (.str s)] (.tup3 (.one (.lst 4 ((readV s).l.length) (rowP (readV s).l))) (.one (.int .i64 ((readV s).at_))) (.one (.bool ((readV s).ok)))) := by
 refine FnF.of_body (fn := Try.f20) Try.func20 rfl (nB rfl)  ?_
 intro w0
 show AW _ 41 _ _ _ _
 refine AW.seq ?_
 refine AW.region ?_
 refine pu (.assign rfl .con) rfl rfl rfl ?_
 refine pu (.assign rfl .int) rfl rfl rfl ?_
 refine pu (.assign rfl .bool) rfl rfl rfl ?_
 refine ARun.nil ?_
 refine AW.seq ?_
 refine AW.seq ?_
 refine AW.region ?_
 refine pu (.move rfl (.tmp rfl)) rfl rfl rfl ?_
 refine pu (.lenStr rfl (.tmp rfl) f4_) rfl rfl rfl ?_
 refine pu (.intOp rfl (.tmp rfl) .int rfl) rfl rfl rfl ?_
 refine ARun.nil ?_
 refine AW.cond (.tmp rfl) (fun hb1 => ?_) (fun hb1 => ?_)
 ·
  replace hb1 := of_decide_eq_true hb1
  have he := readV_long (s := s) (by omega)
  rw [he]
  refine AW.seq ?_
  refine AW.region ?_
  refine pu (.assign rfl .con) rfl rfl rfl ?_
  refine pu (.assign rfl .int) rfl rfl rfl ?_
  refine pu (.assign rfl .bool) rfl rfl rfl ?_
  refine ARun.nil ?_
  exact AW.ret (show ∃ s, ResL _ _ [.tmp 2, .tmp 3, .tmp 4] s ∧ FvS _ s _ from ⟨_, .inr (.inr (.inl ⟨_, _, _, _, _, _, rfl, .tmp rfl, .tmp rfl, .tmp rfl, rfl⟩)), .cnil, .int, .bool⟩)
 ·
  replace hb1 := of_decide_eq_false hb1
  have h0 : ¬ 120 < s.size := by omega
  refine AW.skip ?_
  refine AW.seq ?_
  refine AW.region ?_
  refine pu (.move rfl (.tmp rfl)) rfl rfl rfl ?_
  refine pu (.build (ys := [.str s]) (l := [.str ByteArray.empty, .int .i64 0, .bool false]) (pl := [(0, 1), (1, 1), (2, 1)]) (z := (.agg #[.string ByteArray.empty, .int .i64 0, .bool false])) rfl (by kernel_rfl) (by kernel_rfl) (fun _ _ _ => ⟨_, _, rfl, ⟨rfl, by decide⟩, ⟨_, _, rfl, rfl, ⟨_, _, rfl, rfl, rfl⟩⟩⟩) ⟨(.tmp rfl), trivial, rfl, trivial⟩ rfl) rfl rfl rfl ?_
  refine ARun.box (id := 0) rfl (.tmp rfl) (SV.cells_of (by exact ⟨trivial, trivial, trivial, trivial⟩)) ⟨(by refine fr_env rfl ?_; (repeat refine env_cons (by first | with_reducible exact Fo.noS _ _ | with_reducible exact Fo.noS' _ _ | exact rfl | exact Fo.noS _ _ | exact Fo.noS' _ _ | exact agg_no (by repeat' first | with_reducible exact Fo.no _ _ | with_reducible exact Fo.no' _ _ | exact rfl | exact Fo.no _ _ | exact Fo.no' _ _ | refine no_cons ?_ ?_)) ?_); exact rfl), (by repeat first | exact trivial | refine ⟨by decide, by first | rfl | exact trivial | (intro i j; first | rfl | exact getD_no rfl | (dsimp only; split <;> first | rfl | exact getD_no rfl) | exact scl_no (by apply_assumption) _), ?_⟩)⟩ rfl rfl rfl (nB rfl) ?_
  refine pu (.assign rfl (.tmp rfl)) rfl rfl rfl ?_
  refine ARun.nil ?_
  refine AW.seq ?_
  refine AW.region ?_
  refine pu (.move rfl (.tmp rfl)) rfl rfl rfl ?_
  refine ARun.nn 0 rfl (v_GForm s hs (s.size + 1) 0 0 (by omega) (by omega) (by omega)) f58_ ⟨.inr (.tmp rfl), .inl ⟨_, .int, .int⟩, trivial⟩ rfl rfl rfl (fun _ _ => rfl) (by repeat first | exact trivial | refine ⟨.inr rfl, ?_⟩ | refine ⟨.inl rfl, ?_⟩) rfl rfl (nB rfl) (r' := fun x => .one x.1.fv) (fun _ => congrArg SV.one (Fo.fr _)) (fun x2 hc3 => ?_)
  have hX : x2 = readG s := hc3
  have hR := readG_r s
  rw [← hX] at hR
  obtain ⟨hR1, hR2, hR3⟩ := hR
  have hXl : x2.2.1 ≤ s.size := by rw [hR1]; exact readR_le s
  refine pu (.assign rfl (.tmp rfl)) rfl rfl rfl ?_
  refine ARun.nil ?_
  refine AW.seq ?_
  refine AW.seq ?_
  refine AW.region ?_
  refine pu (.move rfl (.tmp rfl)) rfl rfl rfl ?_
  refine pu (.nilPtr rfl (.tmp rfl)) rfl rfl rfl ?_
  refine pu (.fieldPtr rfl (.tmp rfl) f14_) rfl rfl rfl ?_
  refine pu (.loadPtr rfl (.tmp rfl) f62_ rfl rfl (nB rfl) (nB rfl)) rfl rfl rfl ?_
  refine pu (.move rfl (.tmp rfl)) rfl rfl rfl ?_
  refine ARun.gpure (want := false) (.tf rfl) (fun hg4 => PureOp.move rfl (.tmp rfl)) rfl rfl (nB rfl) rfl (nB rfl) ?_
  refine ARun.gpure (want := false) (.tf rfl) (fun hg5 => PureOp.nilPtr rfl (.gtmp rfl hg5)) rfl rfl (nB rfl) rfl (nB rfl) ?_
  refine ARun.gpure (want := false) (.tf rfl) (fun hg6 => PureOp.fieldPtr rfl (.gtmp rfl hg6) f13_) rfl rfl (nB rfl) rfl (nB rfl) ?_
  refine ARun.gpure (want := false) (.tf rfl) (fun hg7 => PureOp.loadPtr rfl (.gtmp rfl hg7) f2_ rfl rfl (nB rfl) (nB rfl)) rfl rfl (nB rfl) rfl (nB rfl) ?_
  refine ARun.gpure (want := false) (.tf rfl) (fun hg8 => PureOp.move rfl (.tmp rfl)) rfl rfl (nB rfl) rfl (nB rfl) ?_
  refine ARun.gpure (want := false) (.tf rfl) (fun hg9 => PureOp.lenStr rfl (.gtmp rfl hg9) f4_) rfl rfl (nB rfl) rfl (nB rfl) ?_
  refine ARun.gpure (want := false) (.tf rfl) (fun hg10 => PureOp.intOp rfl (.gtmp rfl hg10) (.gtmp rfl hg10) rfl) rfl rfl (nB rfl) rfl (nB rfl) ?_
  refine pu (.pick rfl (.tmp rfl) (fun _ => .bool) (fun hp12 => .gtmp rfl (not_of hp12))) rfl rfl rfl ?_
  refine ARun.nil ?_
  refine AW.cond (.tmp rfl) (fun hb13 => ?_) (fun hb13 => ?_)
  ·
   have he := readV_short h0 (g_short hR1 hR2 hb13)
   rw [he, ← hR1]
   refine AW.seq ?_
   refine AW.any (by kernel_rfl) (by kernel_rfl) ?_
   refine AD.pure (PureOp.move rfl (.tmp rfl)) rfl rfl (nB rfl) ?_
   refine AD.pure (PureOp.nilPtr rfl (.tmp rfl)) rfl rfl (nB rfl) ?_
   refine AD.pure (PureOp.fieldPtr rfl (.tmp rfl) f13_) rfl rfl (nB rfl) ?_
   refine AD.pure (PureOp.loadPtr rfl (.tmp rfl) f2_ rfl rfl (nB rfl) (nB rfl)) rfl rfl (nB rfl) ?_
   refine AD.pure (PureOp.assign rfl .con) rfl rfl (nB rfl) ?_
   refine AD.pure (PureOp.assign rfl (.tmp rfl)) rfl rfl (nB rfl) ?_
   refine AD.pure (PureOp.assign rfl .bool) rfl rfl (nB rfl) ?_
   refine AD.nil ?_
   exact AW.ret (show ∃ s, ResL _ _ [.tmp 2, .tmp 3, .tmp 4] s ∧ FvS _ s _ from ⟨_, .inr (.inr (.inl ⟨_, _, _, _, _, _, rfl, .tmp rfl, .tmp rfl, .tmp rfl, rfl⟩)), .cnil, .int, .bool⟩)
  ·
   obtain ⟨hnn, hlt⟩ := g_ok hR1 hR2 hb13
   have hE := hR3 hnn
   have hwf := (readR_wf hnn).1
   have hws := (readR_wf hnn).2
   rw [← hE] at hwf hws
   refine AW.skip ?_
   refine AW.seq ?_
   refine AW.region ?_
   refine pu (.move rfl (.tmp rfl)) rfl rfl rfl ?_
   refine ARun.mutx (Hr := [(0, .cells [.str s, .int .i64 (x2.2.1 : Int), .bool x2.2.2])]) (Hn := [(0, .cells [.str s, .int .i64 (x2.2.1 : Int), .bool x2.2.2]), (51, .arr 4 x2.1.size (rowP (flatAt x2.1 0)))]) (g := fun zz => zz) (g' := fun zz => if zz = 900 then 51 else zz) (K := [900]) (T := [(51, 900)]) rfl (v_l5FlatNil x2.1 hwf (by omega)) f29_ ⟨.inl ⟨_, (.tmp rfl), (Fo.vw _ _)⟩, ⟨.inl ⟨_, .con, .con⟩, trivial⟩⟩ trivial ⟨⟨rfl, rfl⟩, trivial⟩ rfl ⟨⟨(by refine fr_env rfl ?_; (repeat refine env_cons (by first | with_reducible exact Fo.noS _ _ | with_reducible exact Fo.noS' _ _ | exact rfl | exact Fo.noS _ _ | exact Fo.noS' _ _ | exact agg_no (by repeat' first | with_reducible exact Fo.no _ _ | with_reducible exact Fo.no' _ _ | exact rfl | exact Fo.no _ _ | exact Fo.no' _ _ | refine no_cons ?_ ?_)) ?_); exact rfl), (by repeat first | exact trivial | refine ⟨by decide, by first | rfl | exact trivial | (intro i j; first | rfl | exact getD_no rfl | (dsimp only; split <;> first | rfl | exact getD_no rfl) | exact scl_no (by apply_assumption) _), ?_⟩)⟩, trivial⟩ (by kernel_rfl) (by kernel_rfl) (by kernel_rfl) ⟨.inl rfl, .inr ⟨900, _, rfl, rfl, rfl, ⟨rfl, rfl, fun i j hi hj => rowP_ren hj⟩, (fun i j hi hj => rowP_hx hj)⟩, trivial⟩ rfl rfl (nB rfl) (r' := .one (.own 51 4 x2.1.size)) rfl ?_
   refine pu (.assign rfl (.tmp rfl)) rfl rfl rfl ?_
   refine ARun.nil ?_
   refine AW.seq ?_
   refine AW.seq ?_
   refine AW.region ?_
   refine pu (.move rfl (.tmp rfl)) rfl rfl rfl ?_
   refine pu (.lenOwn rfl (.tmp rfl) f34_) rfl rfl rfl ?_
   refine pu (.intOp rfl (.tmp rfl) .int rfl) rfl rfl rfl ?_
   refine ARun.nil ?_
   refine AW.cond (.tmp rfl) (fun hb14 => ?_) (fun hb14 => ?_)
   ·
    replace hb14 := of_decide_eq_true hb14
    have he := readV_many h0 hnn hlt (by rw [← hE]; omega)
    rw [he]
    refine AW.seq ?_
    refine AW.region ?_
    refine pu (.move rfl (.tmp rfl)) rfl rfl rfl ?_
    refine pu (.lenStr rfl (.tmp rfl) f4_) rfl rfl rfl ?_
    refine pu (.assign rfl .con) rfl rfl rfl ?_
    refine pu (.assign rfl (.tmp rfl)) rfl rfl rfl ?_
    refine pu (.assign rfl .bool) rfl rfl rfl ?_
    refine ARun.nil ?_
    exact AW.ret (show ∃ s, ResL _ _ [.tmp 2, .tmp 3, .tmp 4] s ∧ FvS _ s _ from ⟨_, .inr (.inr (.inl ⟨_, _, _, _, _, _, rfl, .tmp rfl, .tmp rfl, .tmp rfl, rfl⟩)), .cnil, .int, .bool⟩)
   ·
    replace hb14 := of_decide_eq_false hb14
    have he := readV_ok h0 hnn hlt (by rw [← hE]; omega)
    rw [he, ← hE]
    dsimp only
    rw [flatAt_len]
    refine AW.skip ?_
    refine AW.seq ?_
    refine AW.region ?_
    refine pu (.move rfl (.tmp rfl)) rfl rfl rfl ?_
    refine pu (.assign rfl (.tmp rfl)) rfl rfl rfl ?_
    refine pu (.assign rfl .int) rfl rfl rfl ?_
    refine pu (.assign rfl .bool) rfl rfl rfl ?_
    refine ARun.nil ?_
    exact AW.ret (show ∃ s, ResL _ _ [.tmp 2, .tmp 3, .tmp 4] s ∧ FvS _ s _ from ⟨_, .inr (.inr (.inl ⟨_, _, _, _, _, _, rfl, .tmp rfl, .tmp rfl, .tmp rfl, rfl⟩)), (.own rfl rfl (Nat.le_refl _) (fun i j hi hj => match j, hj with | 0, _ => .int | 1, _ => .str | 2, _ => .int | 3, _ => .int | _ + 4, h => absurd h (by omega))), .int, .bool⟩)
theorem v_Clone_Part (l : List GPart) (hl : l.length ≤ 1048576) : FnT Try.prog 56 [.one (.lst 4 l.length (fun i0 j0 => ([.int .i64 ((l.getD i0 (default : GPart)).kind), .str ((l.getD i0 (default : GPart)).text), .int .i64 ((l.getD i0 (default : GPart)).a), .int .i64 ((l.getD i0 (default : GPart)).b)] : List AV).getD j0 (.con undef)))] (.one (.lst 4 l.length (fun i0 j0 => ([.int .i64 ((l.getD i0 (default : GPart)).kind), .str ((l.getD i0 (default : GPart)).text), .int .i64 ((l.getD i0 (default : GPart)).a), .int .i64 ((l.getD i0 (default : GPart)).b)] : List AV).getD j0 (.con undef)))) := by
 refine FnT.of_body (fn := Try.f56) Try.func56 rfl (nB rfl)  ?_
 intro w0
 show AW _ 8 _ _ _ _
 refine AW.bound (t := 0) rfl fun hx => ?_
 refine AW.seq ?_
 refine AW.region ?_
 refine pu (.assign rfl .con) rfl rfl rfl ?_
 refine ARun.nil ?_
 refine AW.seq ?_
 refine AW.seq ?_
 refine AW.region ?_
 refine pu (.move rfl (.tmp rfl)) rfl rfl rfl ?_
 refine ARun.nilEq rfl (.tmp rfl) f34_ rfl rfl (nB rfl) (fun bn1 hbn1 => ?_)
 refine ARun.nil ?_
 refine AW.cond (.tmp rfl) (fun hb2 => ?_) (fun hb2 => ?_)
 ·
  obtain rfl : l = [] := List.eq_nil_of_length_eq_zero (hbn1 hb2)
  refine AW.seq ?_
  refine AW.region ?_
  refine pu (.assign rfl .con) rfl rfl rfl ?_
  refine ARun.nil ?_
  exact AW.ret (show ∃ s t, ResL _ _ [.tmp 2] s ∧ TvS _ (ofLeaf t) 0 s _ from ⟨_, fun a b => 1000, .inl ⟨_, rfl, .tmp rfl⟩, .nil⟩)
 ·
  refine AW.skip ?_
  refine AW.seq ?_
  refine AW.region ?_
  refine ARun.slice0 (id := 0) (z := (.agg #[.int .i64 0, .string ByteArray.empty, .int .i64 0, .int .i64 0])) (sz := 4) (by_ := 40) rfl (by kernel_rfl) (fun _ _ => .con undef) (fun _ _ => rfl) ⟨rfl, (by repeat first | exact trivial | refine ⟨by decide, by first | rfl | exact trivial | (intro i j; first | rfl | exact getD_no rfl | (dsimp only; split <;> first | rfl | exact getD_no rfl) | exact scl_no (by apply_assumption) _), ?_⟩)⟩ rfl rfl (nB rfl) ?_
  refine pu (.move rfl (.tmp rfl)) rfl rfl rfl ?_
  refine ARun.append (id := 1) (sz := 4) (n := 0) (m := l.length) (by_ := 40) (z := (.agg #[.int .i64 0, .string ByteArray.empty, .int .i64 0, .int .i64 0])) (f := fun _ _ => .con undef) (g := fun i0 j0 => ([.int .i64 ((l.getD i0 (default : GPart)).kind), .str ((l.getD i0 (default : GPart)).text), .int .i64 ((l.getD i0 (default : GPart)).a), .int .i64 ((l.getD i0 (default : GPart)).b)] : List AV).getD j0 (.con undef)) (h := fun ia ja => if ia < 0 then (fun _ _ => .con undef : Nat → Nat → AV) ia ja else (fun i0 j0 => ([.int .i64 ((l.getD i0 (default : GPart)).kind), .str ((l.getD i0 (default : GPart)).text), .int .i64 ((l.getD i0 (default : GPart)).a), .int .i64 ((l.getD i0 (default : GPart)).b)] : List AV).getD j0 (.con undef) : Nat → Nat → AV) (ia - 0) ja) rfl (by kernel_rfl) rfl f34_ (.own (.tmp rfl) rfl rfl rfl (Nat.le_refl _) (fun _ _ _ _ => rfl)) (.lst (.tmp rfl)) (by decide) (fun i j hi hj => match j, hj with | 0, _ => rfl | 1, _ => rfl | 2, _ => rfl | 3, _ => rfl | _ + 4, h => absurd h (by omega)) (fun _ _ _ _ => rfl) (by omega) (by omega) ⟨rfl, (by repeat first | exact trivial | refine ⟨by decide, by first | rfl | exact trivial | (intro i j; first | rfl | exact getD_no rfl | (dsimp only; split <;> first | rfl | exact getD_no rfl) | exact scl_no (by apply_assumption) _), ?_⟩)⟩ (fun i j => by dsimp only; (repeat' split) <;> first | rfl | exact getD_no rfl) rfl rfl (nB rfl) ?_
  refine pu (.assign rfl (.tmp rfl)) rfl rfl rfl ?_
  refine ARun.nil ?_
  exact AW.ret (show ∃ s t, ResL _ _ [.tmp 2] s ∧ TvS _ (ofLeaf t) 0 s _ from ⟨_, fun a b => if a = 1 then 0 else 1000, .inl ⟨_, rfl, .tmp rfl⟩, (Tv.flatN (Nat.zero_add _).symm rfl rfl rfl (Nat.le_refl _) (by rfl) (fun i j hi hj => by show (if i < 0 then AV.con undef else (fun i0 j0 => ([.int .i64 ((l.getD i0 (default : GPart)).kind), .str ((l.getD i0 (default : GPart)).text), .int .i64 ((l.getD i0 (default : GPart)).a), .int .i64 ((l.getD i0 (default : GPart)).b)] : List AV).getD j0 (.con undef)) i j) = _; exact app0) (fun i j hi hj => match j, hj with | 0, _ => rfl | 1, _ => rfl | 2, _ => rfl | 3, _ => rfl | _ + 4, h => absurd h (by omega)))⟩)
theorem rowP_fv {H : Heap} {l : List GPart} {i j : Nat} (hj : j < 4) : Fv H (rowP l i j) (rowP l i j) := match j, hj with
  | 0, _ => .int
  | 1, _ => .str
  | 2, _ => .int
  | 3, _ => .int
theorem Fv.of_eq {H : Heap} {x y z : AV} (e : x = y) (h : Fv H y z) : Fv H x z := e ▸ h
theorem v_iNotForm (f : List GPart) (hl : f.length ≤ 1000) : FnF Try.prog 24 [.one (.lst 4 f.length (fun i0 j0 => ([.int .i64 ((f.getD i0 (default : GPart)).kind), .str ((f.getD i0 (default : GPart)).text), .int .i64 ((f.getD i0 (default : GPart)).a), .int .i64 ((f.getD i0 (default : GPart)).b)] : List AV).getD j0 (.con undef)))] (.tup2 (.one (.lst 4 ((notV f).1.length) (rowP (notV f).1))) (.one (.bool ((notV f).2)))) := by
 refine FnF.of_body (fn := Try.f24) Try.func24 rfl (nB rfl)  ?_
 intro w0
 show AW _ 20 _ _ _ _
 refine AW.seq ?_
 refine AW.region ?_
 refine pu (.assign rfl .con) rfl rfl rfl ?_
 refine pu (.assign rfl .bool) rfl rfl rfl ?_
 refine ARun.nil ?_
 refine AW.seq ?_
 refine AW.seq ?_
 refine AW.region ?_
 refine pu (.move rfl (.tmp rfl)) rfl rfl rfl ?_
 refine pu (.call rfl (v_isForm f (by omega)) ⟨⟨_, (.tmp rfl), .lst⟩, trivial⟩ f64_ trivial) rfl rfl rfl ?_
 refine pu (.not rfl (.tmp rfl)) rfl rfl rfl ?_
 refine pu (.move rfl (.tmp rfl)) rfl rfl rfl ?_
 refine ARun.gpure (want := false) (.tf rfl) (fun hg1 => PureOp.move rfl (.tmp rfl)) rfl rfl (nB rfl) rfl (nB rfl) ?_
 refine ARun.gpure (want := false) (.tf rfl) (fun hg2 => PureOp.lenLst rfl (.gtmp rfl hg2) f34_) rfl rfl (nB rfl) rfl (nB rfl) ?_
 refine ARun.gpure (want := false) (.tf rfl) (fun hg3 => PureOp.intOp rfl (.gtmp rfl hg3) .int rfl) rfl rfl (nB rfl) rfl (nB rfl) ?_
 refine pu (.pick rfl (.tmp rfl) (fun _ => .bool) (fun hp5 => .gtmp rfl (not_of hp5))) rfl rfl rfl ?_
 refine ARun.nil ?_
 refine AW.cond (.tmp rfl) (fun hb6 => ?_) (fun hb6 => ?_)
 ·
  have he := not_no hb6
  rw [he]
  refine AW.seq ?_
  refine AW.region ?_
  refine pu (.assign rfl .con) rfl rfl rfl ?_
  refine pu (.assign rfl .bool) rfl rfl rfl ?_
  refine ARun.nil ?_
  exact AW.ret (show ∃ s, ResL _ _ [.tmp 2, .tmp 3] s ∧ FvS _ s _ from ⟨_, .inr (.inl ⟨_, _, _, _, rfl, .tmp rfl, .tmp rfl, rfl⟩), .cnil, .bool⟩)
 ·
  obtain ⟨he, hg⟩ := not_yes hb6
  rw [he]
  dsimp only
  have hle := (goodP_iff.1 hg).le
  have hll : (f ++ [(⟨8, ByteArray.empty, (f.length : Int) - 1, 0⟩ : GPart)]).length = f.length + 1 := by rw [List.length_append]; rfl
  rw [hll]
  refine AW.skip ?_
  refine AW.seq ?_
  refine AW.region ?_
  refine pu (.move rfl (.tmp rfl)) rfl rfl rfl ?_
  refine ARun.prod (K := 0) rfl (v_Clone_Part f (by omega)) ⟨(by refine fr_env rfl ?_; (repeat refine env_cons (by first | with_reducible exact Fo.noS _ _ | with_reducible exact Fo.noS' _ _ | exact rfl | exact Fo.noS _ _ | exact Fo.noS' _ _ | exact agg_no (by repeat' first | with_reducible exact Fo.no _ _ | with_reducible exact Fo.no' _ _ | exact rfl | exact Fo.no _ _ | exact Fo.no' _ _ | refine no_cons ?_ ?_)) ?_); exact rfl), (by repeat first | exact trivial | refine ⟨by decide, by first | rfl | exact trivial | (intro i j; first | rfl | exact getD_no rfl | (dsimp only; split <;> first | rfl | exact getD_no rfl) | exact scl_no (by apply_assumption) _), ?_⟩)⟩ ⟨⟨_, (.tmp rfl), .lst⟩, trivial⟩ f67_ rfl rfl rfl rfl rfl (nB rfl) ?_
  refine ARun.openRow 13 0 0 1 4 f.length 1 _ (rowP f) rfl rfl (by decide) rfl (fun i j hi hj => match j, hj with | 0, _ => rfl | 1, _ => rfl | 2, _ => rfl | 3, _ => rfl | _ + 4, h => absurd h (by omega)) (fun i j => by first | rfl | exact getD_no rfl) ⟨(by refine fr_env rfl ?_; (repeat refine env_cons (by first | with_reducible exact Fo.noS _ _ | with_reducible exact Fo.noS' _ _ | exact rfl | exact Fo.noS _ _ | exact Fo.noS' _ _ | exact agg_no (by repeat' first | with_reducible exact Fo.no _ _ | with_reducible exact Fo.no' _ _ | exact rfl | exact Fo.no _ _ | exact Fo.no' _ _ | refine no_cons ?_ ?_)) ?_); exact rfl), (by repeat first | exact trivial | refine ⟨by decide, by first | rfl | exact trivial | (intro i j; first | rfl | exact getD_no rfl | (dsimp only; split <;> first | rfl | exact getD_no rfl) | exact scl_no (by apply_assumption) _), ?_⟩)⟩ ?_
  refine pu (.move rfl (.tmp rfl)) rfl rfl rfl ?_
  refine pu (.lenLst rfl (.tmp rfl) f34_) rfl rfl rfl ?_
  refine pu (.sub (c := (f.length : Int) - 1) rfl (.tmp rfl) .int (wrap_id (by omega) (by omega))) rfl rfl rfl ?_
  refine pu (.build (ys := [.int .i64 8, .int .i64 ((f.length : Int) - 1)]) (l := [.int .i64 0, .str ByteArray.empty, .int .i64 0, .int .i64 0]) (pl := [(0, 1), (1, 1), (2, 1), (3, 1)]) (z := (.agg #[.int .i64 0, .string ByteArray.empty, .int .i64 0, .int .i64 0])) rfl (by kernel_rfl) (by kernel_rfl) (fun _ _ _ => ⟨_, _, rfl, rfl, ⟨_, _, rfl, ⟨rfl, by decide⟩, ⟨_, _, rfl, rfl, ⟨_, _, rfl, rfl, rfl⟩⟩⟩⟩) ⟨.int, trivial, rfl, ⟨(.tmp rfl), trivial, rfl, trivial⟩⟩ rfl) rfl rfl rfl ?_
  refine ARun.slice1 (id := 2) (z := (.agg #[.int .i64 0, .string ByteArray.empty, .int .i64 0, .int .i64 0])) (by_ := 40) rfl (.tmp rfl) (SV.cells_of (by exact ⟨trivial, trivial, trivial, trivial, trivial⟩)) (by kernel_rfl) rfl rfl (by decide) (by decide) ⟨(by refine fr_env rfl ?_; (repeat refine env_cons (by first | with_reducible exact Fo.noS _ _ | with_reducible exact Fo.noS' _ _ | exact rfl | exact Fo.noS _ _ | exact Fo.noS' _ _ | exact agg_no (by repeat' first | with_reducible exact Fo.no _ _ | with_reducible exact Fo.no' _ _ | exact rfl | exact Fo.no _ _ | exact Fo.no' _ _ | refine no_cons ?_ ?_)) ?_); exact rfl), (by repeat first | exact trivial | refine ⟨by decide, by first | rfl | exact trivial | (intro i j; first | rfl | exact getD_no rfl | (dsimp only; split <;> first | rfl | exact getD_no rfl) | exact scl_no (by apply_assumption) _), ?_⟩)⟩ rfl rfl rfl (nB rfl) ?_
  refine ARun.append (id := 3) (sz := 4) (n := f.length) (m := 1) (by_ := 40) (z := (.agg #[.int .i64 0, .string ByteArray.empty, .int .i64 0, .int .i64 0])) (f := rowP f) (g := fun _ jc => ([.int .i64 8, .str ByteArray.empty, .int .i64 ((f.length : Int) - 1), .int .i64 0] : List AV).getD jc (.con undef)) (h := fun ia ja => if ia < f.length then (rowP f : Nat → Nat → AV) ia ja else (fun _ jc => ([.int .i64 8, .str ByteArray.empty, .int .i64 ((f.length : Int) - 1), .int .i64 0] : List AV).getD jc (.con undef) : Nat → Nat → AV) (ia - f.length) ja) rfl (by kernel_rfl) rfl f34_ (.own (.tmp rfl) rfl rfl rfl (Nat.le_refl _) (fun _ _ _ _ => rfl)) (.own (.tmp rfl) rfl rfl (Nat.le_refl _) (fun _ _ _ _ => rfl)) (by decide) (fun i j hi hj => match j, hj with | 0, _ => rfl | 1, _ => rfl | 2, _ => rfl | 3, _ => rfl | _ + 4, h => absurd h (by omega)) (fun _ _ _ _ => rfl) (by omega) (by omega) ⟨(by refine fr_env rfl ?_; (repeat refine env_cons (by first | with_reducible exact Fo.noS _ _ | with_reducible exact Fo.noS' _ _ | exact rfl | exact Fo.noS _ _ | exact Fo.noS' _ _ | exact agg_no (by repeat' first | with_reducible exact Fo.no _ _ | with_reducible exact Fo.no' _ _ | exact rfl | exact Fo.no _ _ | exact Fo.no' _ _ | refine no_cons ?_ ?_)) ?_); exact rfl), (by repeat first | exact trivial | refine ⟨by decide, by first | rfl | exact trivial | (intro i j; first | rfl | exact getD_no rfl | (dsimp only; split <;> first | rfl | exact getD_no rfl) | exact scl_no (by apply_assumption) _), ?_⟩)⟩ (fun i j => by dsimp only; (repeat' split) <;> first | rfl | exact getD_no rfl) rfl rfl (nB rfl) ?_
  refine pu (.assign rfl (.tmp rfl)) rfl rfl rfl ?_
  refine pu (.assign rfl .bool) rfl rfl rfl ?_
  refine ARun.nil ?_
  exact AW.ret (show ∃ s, ResL _ _ [.tmp 2, .tmp 3] s ∧ FvS _ s _ from ⟨_, .inr (.inl ⟨_, _, _, _, rfl, .tmp rfl, .tmp rfl, rfl⟩), (.own rfl rfl (Nat.le_refl _) (fun i j hi hj => Fv.of_eq (by exact rowP_snoc (p := ⟨8, ByteArray.empty, (f.length : Int) - 1, 0⟩) rfl rfl hi) (rowP_fv hj))), .bool⟩)
theorem v_sNotForm (f : List GPart) (hl : f.length ≤ 1000) : FnF Try.prog 25 [.one (.lst 4 f.length (fun i0 j0 => ([.int .i64 ((f.getD i0 (default : GPart)).kind), .str ((f.getD i0 (default : GPart)).text), .int .i64 ((f.getD i0 (default : GPart)).a), .int .i64 ((f.getD i0 (default : GPart)).b)] : List AV).getD j0 (.con undef)))] (.tup2 (.one (.lst 4 ((notV f).1.length) (rowP (notV f).1))) (.one (.bool ((notV f).2)))) := by
 refine FnF.of_body (fn := Try.f25) Try.func25 rfl (nB rfl)  ?_
 intro w0
 show AW _ 21 _ _ _ _
 refine AW.seq ?_
 refine AW.region ?_
 refine pu (.assign rfl .con) rfl rfl rfl ?_
 refine pu (.assign rfl .bool) rfl rfl rfl ?_
 refine ARun.nil ?_
 refine AW.seq ?_
 refine AW.seq ?_
 refine AW.region ?_
 refine pu (.move rfl (.tmp rfl)) rfl rfl rfl ?_
 refine pu (.call rfl (v_sGoodForm f (by omega)) ⟨⟨_, (.tmp rfl), .lst⟩, trivial⟩ f65_ trivial) rfl rfl rfl ?_
 refine pu (.not rfl (.tmp rfl)) rfl rfl rfl ?_
 refine pu (.move rfl (.tmp rfl)) rfl rfl rfl ?_
 refine ARun.gpure (want := false) (.tf rfl) (fun hg1 => PureOp.move rfl (.tmp rfl)) rfl rfl (nB rfl) rfl (nB rfl) ?_
 refine ARun.gpure (want := false) (.tf rfl) (fun hg2 => PureOp.lenLst rfl (.gtmp rfl hg2) f34_) rfl rfl (nB rfl) rfl (nB rfl) ?_
 refine ARun.gpure (want := false) (.tf rfl) (fun hg3 => PureOp.intOp rfl (.gtmp rfl hg3) .int rfl) rfl rfl (nB rfl) rfl (nB rfl) ?_
 refine pu (.pick rfl (.tmp rfl) (fun _ => .bool) (fun hp5 => .gtmp rfl (not_of hp5))) rfl rfl rfl ?_
 refine ARun.nil ?_
 refine AW.cond (.tmp rfl) (fun hb6 => ?_) (fun hb6 => ?_)
 ·
  have he := not_no hb6
  rw [he]
  refine AW.seq ?_
  refine AW.region ?_
  refine pu (.assign rfl .con) rfl rfl rfl ?_
  refine pu (.assign rfl .bool) rfl rfl rfl ?_
  refine ARun.nil ?_
  exact AW.ret (show ∃ s, ResL _ _ [.tmp 2, .tmp 3] s ∧ FvS _ s _ from ⟨_, .inr (.inl ⟨_, _, _, _, rfl, .tmp rfl, .tmp rfl, rfl⟩), .cnil, .bool⟩)
 ·
  obtain ⟨he, hg⟩ := not_yes hb6
  rw [he]
  dsimp only
  have hle := (goodP_iff.1 hg).le
  have hll : (f ++ [(⟨8, ByteArray.empty, (f.length : Int) - 1, 0⟩ : GPart)]).length = 0 + f.length + 1 := by rw [Nat.zero_add]; rw [List.length_append]; rfl
  rw [hll]
  refine AW.skip ?_
  refine AW.seq ?_
  refine AW.region ?_
  refine ARun.slice0 (id := 0) (z := (.agg #[.int .i64 0, .string ByteArray.empty, .int .i64 0, .int .i64 0])) (sz := 4) (by_ := 40) rfl (by kernel_rfl) (fun _ _ => .con undef) (fun _ _ => rfl) ⟨(by refine fr_env rfl ?_; (repeat refine env_cons (by first | with_reducible exact Fo.noS _ _ | with_reducible exact Fo.noS' _ _ | exact rfl | exact Fo.noS _ _ | exact Fo.noS' _ _ | exact agg_no (by repeat' first | with_reducible exact Fo.no _ _ | with_reducible exact Fo.no' _ _ | exact rfl | exact Fo.no _ _ | exact Fo.no' _ _ | refine no_cons ?_ ?_)) ?_); exact rfl), (by repeat first | exact trivial | refine ⟨by decide, by first | rfl | exact trivial | (intro i j; first | rfl | exact getD_no rfl | (dsimp only; split <;> first | rfl | exact getD_no rfl) | exact scl_no (by apply_assumption) _), ?_⟩)⟩ rfl rfl (nB rfl) ?_
  refine pu (.move rfl (.tmp rfl)) rfl rfl rfl ?_
  refine ARun.append (id := 1) (sz := 4) (n := 0) (m := f.length) (by_ := 40) (z := (.agg #[.int .i64 0, .string ByteArray.empty, .int .i64 0, .int .i64 0])) (f := fun _ _ => .con undef) (g := fun i0 j0 => ([.int .i64 ((f.getD i0 (default : GPart)).kind), .str ((f.getD i0 (default : GPart)).text), .int .i64 ((f.getD i0 (default : GPart)).a), .int .i64 ((f.getD i0 (default : GPart)).b)] : List AV).getD j0 (.con undef)) (h := fun ia ja => if ia < 0 then (fun _ _ => .con undef : Nat → Nat → AV) ia ja else (fun i0 j0 => ([.int .i64 ((f.getD i0 (default : GPart)).kind), .str ((f.getD i0 (default : GPart)).text), .int .i64 ((f.getD i0 (default : GPart)).a), .int .i64 ((f.getD i0 (default : GPart)).b)] : List AV).getD j0 (.con undef) : Nat → Nat → AV) (ia - 0) ja) rfl (by kernel_rfl) rfl f34_ (.own (.tmp rfl) rfl rfl rfl (Nat.le_refl _) (fun _ _ _ _ => rfl)) (.lst (.tmp rfl)) (by decide) (fun i j hi hj => match j, hj with | 0, _ => rfl | 1, _ => rfl | 2, _ => rfl | 3, _ => rfl | _ + 4, h => absurd h (by omega)) (fun _ _ _ _ => rfl) (by omega) (by omega) ⟨(by refine fr_env rfl ?_; (repeat refine env_cons (by first | with_reducible exact Fo.noS _ _ | with_reducible exact Fo.noS' _ _ | exact rfl | exact Fo.noS _ _ | exact Fo.noS' _ _ | exact agg_no (by repeat' first | with_reducible exact Fo.no _ _ | with_reducible exact Fo.no' _ _ | exact rfl | exact Fo.no _ _ | exact Fo.no' _ _ | refine no_cons ?_ ?_)) ?_); exact rfl), (by repeat first | exact trivial | refine ⟨by decide, by first | rfl | exact trivial | (intro i j; first | rfl | exact getD_no rfl | (dsimp only; split <;> first | rfl | exact getD_no rfl) | exact scl_no (by apply_assumption) _), ?_⟩)⟩ (fun i j => by dsimp only; (repeat' split) <;> first | rfl | exact getD_no rfl) rfl rfl (nB rfl) ?_
  refine pu (.move rfl (.tmp rfl)) rfl rfl rfl ?_
  refine pu (.lenLst rfl (.tmp rfl) f34_) rfl rfl rfl ?_
  refine pu (.sub (c := (f.length : Int) - 1) rfl (.tmp rfl) .int (wrap_id (by omega) (by omega))) rfl rfl rfl ?_
  refine pu (.build (ys := [.int .i64 8, .int .i64 ((f.length : Int) - 1)]) (l := [.int .i64 0, .str ByteArray.empty, .int .i64 0, .int .i64 0]) (pl := [(0, 1), (1, 1), (2, 1), (3, 1)]) (z := (.agg #[.int .i64 0, .string ByteArray.empty, .int .i64 0, .int .i64 0])) rfl (by kernel_rfl) (by kernel_rfl) (fun _ _ _ => ⟨_, _, rfl, rfl, ⟨_, _, rfl, ⟨rfl, by decide⟩, ⟨_, _, rfl, rfl, ⟨_, _, rfl, rfl, rfl⟩⟩⟩⟩) ⟨.int, trivial, rfl, ⟨(.tmp rfl), trivial, rfl, trivial⟩⟩ rfl) rfl rfl rfl ?_
  refine ARun.slice1 (id := 2) (z := (.agg #[.int .i64 0, .string ByteArray.empty, .int .i64 0, .int .i64 0])) (by_ := 40) rfl (.tmp rfl) (SV.cells_of (by exact ⟨trivial, trivial, trivial, trivial, trivial⟩)) (by kernel_rfl) rfl rfl (by decide) (by decide) ⟨(by refine fr_env rfl ?_; (repeat refine env_cons (by first | with_reducible exact Fo.noS _ _ | with_reducible exact Fo.noS' _ _ | exact rfl | exact Fo.noS _ _ | exact Fo.noS' _ _ | exact agg_no (by repeat' first | with_reducible exact Fo.no _ _ | with_reducible exact Fo.no' _ _ | exact rfl | exact Fo.no _ _ | exact Fo.no' _ _ | refine no_cons ?_ ?_)) ?_); exact rfl), (by repeat first | exact trivial | refine ⟨by decide, by first | rfl | exact trivial | (intro i j; first | rfl | exact getD_no rfl | (dsimp only; split <;> first | rfl | exact getD_no rfl) | exact scl_no (by apply_assumption) _), ?_⟩)⟩ rfl rfl rfl (nB rfl) ?_
  refine ARun.append (id := 3) (sz := 4) (n := (0 + f.length)) (m := 1) (by_ := 40) (z := (.agg #[.int .i64 0, .string ByteArray.empty, .int .i64 0, .int .i64 0])) (f := fun ia ja => if ia < 0 then (fun _ _ => .con undef : Nat → Nat → AV) ia ja else (fun i0 j0 => ([.int .i64 ((f.getD i0 (default : GPart)).kind), .str ((f.getD i0 (default : GPart)).text), .int .i64 ((f.getD i0 (default : GPart)).a), .int .i64 ((f.getD i0 (default : GPart)).b)] : List AV).getD j0 (.con undef) : Nat → Nat → AV) (ia - 0) ja) (g := fun _ jc => ([.int .i64 8, .str ByteArray.empty, .int .i64 ((f.length : Int) - 1), .int .i64 0] : List AV).getD jc (.con undef)) (h := fun ia ja => if ia < (0 + f.length) then (fun ia ja => if ia < 0 then (fun _ _ => .con undef : Nat → Nat → AV) ia ja else (fun i0 j0 => ([.int .i64 ((f.getD i0 (default : GPart)).kind), .str ((f.getD i0 (default : GPart)).text), .int .i64 ((f.getD i0 (default : GPart)).a), .int .i64 ((f.getD i0 (default : GPart)).b)] : List AV).getD j0 (.con undef) : Nat → Nat → AV) (ia - 0) ja : Nat → Nat → AV) ia ja else (fun _ jc => ([.int .i64 8, .str ByteArray.empty, .int .i64 ((f.length : Int) - 1), .int .i64 0] : List AV).getD jc (.con undef) : Nat → Nat → AV) (ia - (0 + f.length)) ja) rfl (by kernel_rfl) rfl f34_ (.own (.tmp rfl) rfl rfl rfl (Nat.le_refl _) (fun _ _ _ _ => rfl)) (.own (.tmp rfl) rfl rfl (Nat.le_refl _) (fun _ _ _ _ => rfl)) (by decide) (fun i j hi hj => match j, hj with | 0, _ => rfl | 1, _ => rfl | 2, _ => rfl | 3, _ => rfl | _ + 4, h => absurd h (by omega)) (fun _ _ _ _ => rfl) (by omega) (by omega) ⟨(by refine fr_env rfl ?_; (repeat refine env_cons (by first | with_reducible exact Fo.noS _ _ | with_reducible exact Fo.noS' _ _ | exact rfl | exact Fo.noS _ _ | exact Fo.noS' _ _ | exact agg_no (by repeat' first | with_reducible exact Fo.no _ _ | with_reducible exact Fo.no' _ _ | exact rfl | exact Fo.no _ _ | exact Fo.no' _ _ | refine no_cons ?_ ?_)) ?_); exact rfl), (by repeat first | exact trivial | refine ⟨by decide, by first | rfl | exact trivial | (intro i j; first | rfl | exact getD_no rfl | (dsimp only; split <;> first | rfl | exact getD_no rfl) | exact scl_no (by apply_assumption) _), ?_⟩)⟩ (fun i j => by dsimp only; (repeat' split) <;> first | rfl | exact getD_no rfl) rfl rfl (nB rfl) ?_
  refine pu (.assign rfl (.tmp rfl)) rfl rfl rfl ?_
  refine pu (.assign rfl .bool) rfl rfl rfl ?_
  refine ARun.nil ?_
  exact AW.ret (show ∃ s, ResL _ _ [.tmp 2, .tmp 3] s ∧ FvS _ s _ from ⟨_, .inr (.inl ⟨_, _, _, _, rfl, .tmp rfl, .tmp rfl, rfl⟩), (.own rfl rfl (Nat.le_refl _) (fun i j hi hj => Fv.of_eq (by show (if i < 0 + f.length then (if i < 0 then _ else rowP f (i - 0) j) else _) = _; rw [app0, Nat.zero_add]; exact rowP_snoc (p := ⟨8, ByteArray.empty, (f.length : Int) - 1, 0⟩) rfl rfl (by omega)) (rowP_fv hj))), .bool⟩)
end Go.Proofs.Ytonfeiloekofdaa

namespace Go.Proofs.Ytonfeiloekofdaa
open Go.ChangeShapes Go.WideShapes Go.ChangeAt Go.RowKit Go.BigFrame Go.Deep
set_option linter.unusedVariables false
set_option linter.unusedSimpArgs false
theorem f68_ : callB Try.prog 81 = true := by kernel_rfl
theorem f69_ : callB Try.prog 99 = true := by kernel_rfl
theorem vd1_cv_3_79_.u64 : convB Try.prog 3 79 .u64 = true := by kernel_rfl
theorem vd1_cv_5_3_.i64 : convB Try.prog 5 3 .i64 = true := by kernel_rfl
theorem vd1_cv_79_3_.i64 : convB Try.prog 79 3 .i64 = true := by kernel_rfl
theorem f70_ : elemB Try.prog 62 1 = true := by kernel_rfl
theorem f71_ : fieldB Try.prog 81 0 0 = true := by kernel_rfl
theorem f72_ : fieldB Try.prog 81 1 1 = true := by kernel_rfl
theorem f73_ : fieldB Try.prog 81 2 2 = true := by kernel_rfl
theorem f74_ : plainB Try.prog 35 = true := by kernel_rfl
theorem f75_ : plainB Try.prog 79 = true := by kernel_rfl
theorem f76_ : sliceB Try.prog 35 = true := by kernel_rfl
theorem f77_ : sliceB Try.prog 62 = true := by kernel_rfl
theorem f78_ : sizeB Try.prog 79 1 = true := by kernel_rfl
theorem vc_Next (n : Nat) (F : Nat → Nat) (hF : ∀ i, F i < 256) (p s : Nat) (hp : p ≤ 2000000000) (hs : s < 18446744073709551616) : FnC Try.prog 99 n F [] p s (fun (x : Nat) p' s' => x < 256 ∧ CurOk p 1 p' s') (fun (x : Nat) => .one (.int .i64 (x : Int))) := by
 have hF' := hF p
 refine FnC.of_body (fn := Try.f99) Try.func99 rfl (nB rfl) ?_
 intro w0 c
 show AW _ 62 _ _ _ _
 refine AW.seq ?_
 refine AW.region ?_
 refine pu (.assign rfl .int) rfl rfl rfl ?_
 refine ARun.nil ?_
 refine AW.seq ?_
 refine AW.region ?_
 refine pu (.assign rfl .int) rfl rfl rfl ?_
 refine ARun.nil ?_
 refine AW.seq ?_
 refine AW.seq ?_
 refine AW.any (by kernel_rfl) (by kernel_rfl) ?_
 refine AD.pure (PureOp.move rfl (.tmp rfl)) rfl rfl (nB rfl) ?_
 refine AD.pure (PureOp.nilPtr rfl (.tmp rfl)) rfl rfl (nB rfl) ?_
 refine AD.pure (PureOp.fieldPtr rfl (.tmp rfl) f72_) rfl rfl (nB rfl) ?_
 refine AD.pure (PureOp.loadPtr rfl (.tmp rfl) f2_ rfl rfl (nB rfl) (nB rfl)) rfl rfl (nB rfl) ?_
 refine AD.pure (PureOp.move rfl (.tmp rfl)) rfl rfl (nB rfl) ?_
 refine AD.pure (PureOp.nilPtr rfl (.tmp rfl)) rfl rfl (nB rfl) ?_
 refine AD.pure (PureOp.fieldPtr rfl (.tmp rfl) f71_) rfl rfl (nB rfl) ?_
 refine AD.pure (PureOp.loadPtr rfl (.tmp rfl) f74_ rfl rfl (nB rfl) (nB rfl)) rfl rfl (nB rfl) ?_
 refine AD.pure (PureOp.lenLst rfl (.cv (.tmp rfl)) f76_) rfl rfl (nB rfl) ?_
 refine AD.pure (PureOp.intOp rfl (.tmp rfl) (.tmp rfl) rfl) rfl rfl (nB rfl) ?_
 refine AD.nil ?_
 refine AW.cond (.tmp rfl) (fun hb1 => ?_) (fun hb1 => ?_)
 ·
  replace hb1 := of_decide_eq_true hb1
  refine AW.any (by kernel_rfl) (by kernel_rfl) ?_
  refine AD.pure (PureOp.move rfl (.tmp rfl)) rfl rfl (nB rfl) ?_
  refine AD.pure (PureOp.nilPtr rfl (.tmp rfl)) rfl rfl (nB rfl) ?_
  refine AD.pure (PureOp.fieldPtr rfl (.tmp rfl) f71_) rfl rfl (nB rfl) ?_
  refine AD.pure (PureOp.loadPtr rfl (.tmp rfl) f74_ rfl rfl (nB rfl) (nB rfl)) rfl rfl (nB rfl) ?_
  refine AD.pure (PureOp.move rfl (.tmp rfl)) rfl rfl (nB rfl) ?_
  refine AD.pure (PureOp.nilPtr rfl (.tmp rfl)) rfl rfl (nB rfl) ?_
  refine AD.pure (PureOp.fieldPtr rfl (.tmp rfl) f72_) rfl rfl (nB rfl) ?_
  refine AD.pure (PureOp.loadPtr rfl (.tmp rfl) f2_ rfl rfl (nB rfl) (nB rfl)) rfl rfl (nB rfl) ?_
  refine AD.pure (PureOp.indexLst (i := p) rfl (.cv (.tmp rfl)) f61_ (.tmp rfl) rfl (by omega)) rfl rfl (nB rfl) ?_
  refine AD.pure (PureOp.loadRef rfl (.tmp rfl) f63_ (nB rfl)) rfl rfl (nB rfl) ?_
  refine AD.pure (PureOp.conv (b := ((F p : Nat) : Int)) rfl (.tmp rfl) vd1_cv_5_3_.i64 (wrap_id (by omega) (by omega))) rfl rfl (nB rfl) ?_
  refine AD.pure (PureOp.assign rfl (.tmp rfl)) rfl rfl (nB rfl) ?_
  refine AD.nil ?_
  refine AW.seq ?_
  refine AW.region ?_
  refine pu (.move rfl (.tmp rfl)) rfl rfl rfl ?_
  refine pu (.nilPtr rfl (.tmp rfl)) rfl rfl rfl ?_
  refine pu (.fieldPtr rfl (.tmp rfl) f72_) rfl rfl rfl ?_
  refine pu (.loadPtr rfl (.tmp rfl) f2_ rfl rfl (nB rfl) (nB rfl)) rfl rfl rfl ?_
  refine pu (.add (c := ((p + 1 : Nat) : Int)) rfl (.tmp rfl) .int (by rw [wrap_id (by omega) (by omega)]; omega)) rfl rfl rfl ?_
  refine pu (.nilPtr rfl (.tmp rfl)) rfl rfl rfl ?_
  refine pu (.fieldPtr rfl (.tmp rfl) f72_) rfl rfl rfl ?_
  refine ARun.store rfl (.tmp rfl) (.tmp rfl) trivial rfl (nB rfl) f5_ rfl rfl ?_
  refine ARun.nil ?_
  refine AW.seq ?_
  refine AW.region ?_
  refine pu (.move rfl (.tmp rfl)) rfl rfl rfl ?_
  refine pu (.move rfl (.tmp rfl)) rfl rfl rfl ?_
  refine pu (.nilPtr rfl (.tmp rfl)) rfl rfl rfl ?_
  refine pu (.fieldPtr rfl (.tmp rfl) f73_) rfl rfl rfl ?_
  refine pu (.loadPtr rfl (.tmp rfl) f75_ rfl rfl (nB rfl) (nB rfl)) rfl rfl rfl ?_
  refine pu (.mulU (c := (((s * 6364136223846793005) % 18446744073709551616 : Nat) : Int)) rfl (.tmp rfl) .int (by rw [IntKind.wrap_u64]; omega)) rfl rfl rfl ?_
  refine pu (.move rfl (.tmp rfl)) rfl rfl rfl ?_
  refine pu (.conv (b := ((F p : Nat) : Int)) rfl (.tmp rfl) vd1_cv_3_79_.u64 (by rw [IntKind.wrap_u64]; omega)) rfl rfl rfl ?_
  refine pu (.addU (c := (((((s * 6364136223846793005) % 18446744073709551616) + (F p)) % 18446744073709551616 : Nat) : Int)) rfl (.tmp rfl) (.tmp rfl) (by rw [IntKind.wrap_u64]; omega)) rfl rfl rfl ?_
  refine pu (.addU (c := (((((((s * 6364136223846793005) % 18446744073709551616) + (F p)) % 18446744073709551616) + 1442695040888963407) % 18446744073709551616 : Nat) : Int)) rfl (.tmp rfl) .int (by rw [IntKind.wrap_u64]; omega)) rfl rfl rfl ?_
  refine pu (.nilPtr rfl (.tmp rfl)) rfl rfl rfl ?_
  refine pu (.fieldPtr rfl (.tmp rfl) f73_) rfl rfl rfl ?_
  refine ARun.store rfl (.tmp rfl) (.tmp rfl) trivial rfl (nB rfl) f78_ rfl rfl ?_
  refine ARun.nil ?_
  refine AW.seq ?_
  refine AW.seq ?_
  refine AW.any (by kernel_rfl) (by kernel_rfl) ?_
  refine AD.pure (PureOp.move rfl (.tmp rfl)) rfl rfl (nB rfl) ?_
  refine AD.pure (PureOp.nilPtr rfl (.tmp rfl)) rfl rfl (nB rfl) ?_
  refine AD.pure (PureOp.fieldPtr rfl (.tmp rfl) f72_) rfl rfl (nB rfl) ?_
  refine AD.pure (PureOp.loadPtr rfl (.tmp rfl) f2_ rfl rfl (nB rfl) (nB rfl)) rfl rfl (nB rfl) ?_
  refine AD.pure (PureOp.move rfl (.tmp rfl)) rfl rfl (nB rfl) ?_
  refine AD.pure (PureOp.nilPtr rfl (.tmp rfl)) rfl rfl (nB rfl) ?_
  refine AD.pure (PureOp.fieldPtr rfl (.tmp rfl) f71_) rfl rfl (nB rfl) ?_
  refine AD.pure (PureOp.loadPtr rfl (.tmp rfl) f74_ rfl rfl (nB rfl) (nB rfl)) rfl rfl (nB rfl) ?_
  refine AD.pure (PureOp.lenLst rfl (.cv (.tmp rfl)) f76_) rfl rfl (nB rfl) ?_
  refine AD.pure (PureOp.intOp rfl (.tmp rfl) (.tmp rfl) rfl) rfl rfl (nB rfl) ?_
  refine AD.nil ?_
  refine AW.cond (.tmp rfl) (fun hb2 => ?_) (fun hb2 => ?_)
  ·
   replace hb2 := of_decide_eq_true hb2
   refine AW.seq ?_
   refine AW.region ?_
   refine pu (.move rfl (.tmp rfl)) rfl rfl rfl ?_
   refine pu (.assign rfl (.tmp rfl)) rfl rfl rfl ?_
   refine ARun.nil ?_
   exact AW.ret (show ∃ x p' s' t, _ ∧ ResL _ _ [.tmp 2] t ∧ _ ∧ _ from ⟨(F p), (p + 1), ((((((s * 6364136223846793005) % 18446744073709551616) + (F p)) % 18446744073709551616) + 1442695040888963407) % 18446744073709551616), _, ⟨by first | omega | exact Nat.mod_lt _ (by decide), ⟨by omega, by omega, Nat.mod_lt _ (by decide)⟩⟩, .inl ⟨_, rfl, .tmp rfl⟩, .int, rfl⟩)
  ·
   replace hb2 := of_decide_eq_false hb2
   refine AW.skip ?_
   refine AW.seq ?_
   refine AW.region ?_
   refine pu (.move rfl (.tmp rfl)) rfl rfl rfl ?_
   refine pu (.nilPtr rfl (.tmp rfl)) rfl rfl rfl ?_
   refine pu (.fieldPtr rfl (.tmp rfl) f73_) rfl rfl rfl ?_
   refine pu (.loadPtr rfl (.tmp rfl) f75_ rfl rfl (nB rfl) (nB rfl)) rfl rfl rfl ?_
   refine pu (.shr40 (a := (((((s * 6364136223846793005) % 18446744073709551616) + (F p)) % 18446744073709551616) + 1442695040888963407) % 18446744073709551616) rfl (.tmp rfl) .int) rfl rfl rfl ?_
   refine pu (.and255 (a := ((((((s * 6364136223846793005) % 18446744073709551616) + (F p)) % 18446744073709551616) + 1442695040888963407) % 18446744073709551616) / 1099511627776) rfl (.tmp rfl) .int (by omega)) rfl rfl rfl ?_
   refine pu (.conv (b := (((((((((s * 6364136223846793005) % 18446744073709551616) + (F p)) % 18446744073709551616) + 1442695040888963407) % 18446744073709551616) / 1099511627776) % 256 : Nat) : Int)) rfl (.tmp rfl) vd1_cv_79_3_.i64 (wrap_id (by omega) (by omega))) rfl rfl rfl ?_
   refine pu (.assign rfl (.tmp rfl)) rfl rfl rfl ?_
   refine ARun.nil ?_
   exact AW.ret (show ∃ x p' s' t, _ ∧ ResL _ _ [.tmp 2] t ∧ _ ∧ _ from ⟨((((((((s * 6364136223846793005) % 18446744073709551616) + (F p)) % 18446744073709551616) + 1442695040888963407) % 18446744073709551616) / 1099511627776) % 256), (p + 1), ((((((s * 6364136223846793005) % 18446744073709551616) + (F p)) % 18446744073709551616) + 1442695040888963407) % 18446744073709551616), _, ⟨by first | omega | exact Nat.mod_lt _ (by decide), ⟨by omega, by omega, Nat.mod_lt _ (by decide)⟩⟩, .inl ⟨_, rfl, .tmp rfl⟩, .int, rfl⟩)
 ·
  replace hb1 := of_decide_eq_false hb1
  refine AW.skip ?_
  refine AW.seq ?_
  refine AW.region ?_
  refine pu (.move rfl (.tmp rfl)) rfl rfl rfl ?_
  refine pu (.nilPtr rfl (.tmp rfl)) rfl rfl rfl ?_
  refine pu (.fieldPtr rfl (.tmp rfl) f72_) rfl rfl rfl ?_
  refine pu (.loadPtr rfl (.tmp rfl) f2_ rfl rfl (nB rfl) (nB rfl)) rfl rfl rfl ?_
  refine pu (.add (c := ((p + 1 : Nat) : Int)) rfl (.tmp rfl) .int (by rw [wrap_id (by omega) (by omega)]; omega)) rfl rfl rfl ?_
  refine pu (.nilPtr rfl (.tmp rfl)) rfl rfl rfl ?_
  refine pu (.fieldPtr rfl (.tmp rfl) f72_) rfl rfl rfl ?_
  refine ARun.store rfl (.tmp rfl) (.tmp rfl) trivial rfl (nB rfl) f5_ rfl rfl ?_
  refine ARun.nil ?_
  refine AW.seq ?_
  refine AW.region ?_
  refine pu (.move rfl (.tmp rfl)) rfl rfl rfl ?_
  refine pu (.move rfl (.tmp rfl)) rfl rfl rfl ?_
  refine pu (.nilPtr rfl (.tmp rfl)) rfl rfl rfl ?_
  refine pu (.fieldPtr rfl (.tmp rfl) f73_) rfl rfl rfl ?_
  refine pu (.loadPtr rfl (.tmp rfl) f75_ rfl rfl (nB rfl) (nB rfl)) rfl rfl rfl ?_
  refine pu (.mulU (c := (((s * 6364136223846793005) % 18446744073709551616 : Nat) : Int)) rfl (.tmp rfl) .int (by rw [IntKind.wrap_u64]; omega)) rfl rfl rfl ?_
  refine pu (.move rfl (.tmp rfl)) rfl rfl rfl ?_
  refine pu (.conv (b := 0) rfl (.tmp rfl) vd1_cv_3_79_.u64 (by rw [IntKind.wrap_u64]; omega)) rfl rfl rfl ?_
  refine pu (.addU (c := (((((s * 6364136223846793005) % 18446744073709551616) + 0) % 18446744073709551616 : Nat) : Int)) rfl (.tmp rfl) (.tmp rfl) (by rw [IntKind.wrap_u64]; omega)) rfl rfl rfl ?_
  refine pu (.addU (c := (((((((s * 6364136223846793005) % 18446744073709551616) + 0) % 18446744073709551616) + 1442695040888963407) % 18446744073709551616 : Nat) : Int)) rfl (.tmp rfl) .int (by rw [IntKind.wrap_u64]; omega)) rfl rfl rfl ?_
  refine pu (.nilPtr rfl (.tmp rfl)) rfl rfl rfl ?_
  refine pu (.fieldPtr rfl (.tmp rfl) f73_) rfl rfl rfl ?_
  refine ARun.store rfl (.tmp rfl) (.tmp rfl) trivial rfl (nB rfl) f78_ rfl rfl ?_
  refine ARun.nil ?_
  refine AW.seq ?_
  refine AW.seq ?_
  refine AW.any (by kernel_rfl) (by kernel_rfl) ?_
  refine AD.pure (PureOp.move rfl (.tmp rfl)) rfl rfl (nB rfl) ?_
  refine AD.pure (PureOp.nilPtr rfl (.tmp rfl)) rfl rfl (nB rfl) ?_
  refine AD.pure (PureOp.fieldPtr rfl (.tmp rfl) f72_) rfl rfl (nB rfl) ?_
  refine AD.pure (PureOp.loadPtr rfl (.tmp rfl) f2_ rfl rfl (nB rfl) (nB rfl)) rfl rfl (nB rfl) ?_
  refine AD.pure (PureOp.move rfl (.tmp rfl)) rfl rfl (nB rfl) ?_
  refine AD.pure (PureOp.nilPtr rfl (.tmp rfl)) rfl rfl (nB rfl) ?_
  refine AD.pure (PureOp.fieldPtr rfl (.tmp rfl) f71_) rfl rfl (nB rfl) ?_
  refine AD.pure (PureOp.loadPtr rfl (.tmp rfl) f74_ rfl rfl (nB rfl) (nB rfl)) rfl rfl (nB rfl) ?_
  refine AD.pure (PureOp.lenLst rfl (.cv (.tmp rfl)) f76_) rfl rfl (nB rfl) ?_
  refine AD.pure (PureOp.intOp rfl (.tmp rfl) (.tmp rfl) rfl) rfl rfl (nB rfl) ?_
  refine AD.nil ?_
  refine AW.cond (.tmp rfl) (fun hb3 => ?_) (fun hb3 => ?_)
  ·
   replace hb3 := of_decide_eq_true hb3
   refine AW.seq ?_
   refine AW.region ?_
   refine pu (.move rfl (.tmp rfl)) rfl rfl rfl ?_
   refine pu (.assign rfl (.tmp rfl)) rfl rfl rfl ?_
   refine ARun.nil ?_
   exact AW.ret (show ∃ x p' s' t, _ ∧ ResL _ _ [.tmp 2] t ∧ _ ∧ _ from ⟨0, (p + 1), ((((((s * 6364136223846793005) % 18446744073709551616) + 0) % 18446744073709551616) + 1442695040888963407) % 18446744073709551616), _, ⟨by first | omega | exact Nat.mod_lt _ (by decide), ⟨by omega, by omega, Nat.mod_lt _ (by decide)⟩⟩, .inl ⟨_, rfl, .tmp rfl⟩, .int, rfl⟩)
  ·
   replace hb3 := of_decide_eq_false hb3
   refine AW.skip ?_
   refine AW.seq ?_
   refine AW.region ?_
   refine pu (.move rfl (.tmp rfl)) rfl rfl rfl ?_
   refine pu (.nilPtr rfl (.tmp rfl)) rfl rfl rfl ?_
   refine pu (.fieldPtr rfl (.tmp rfl) f73_) rfl rfl rfl ?_
   refine pu (.loadPtr rfl (.tmp rfl) f75_ rfl rfl (nB rfl) (nB rfl)) rfl rfl rfl ?_
   refine pu (.shr40 (a := (((((s * 6364136223846793005) % 18446744073709551616) + 0) % 18446744073709551616) + 1442695040888963407) % 18446744073709551616) rfl (.tmp rfl) .int) rfl rfl rfl ?_
   refine pu (.and255 (a := ((((((s * 6364136223846793005) % 18446744073709551616) + 0) % 18446744073709551616) + 1442695040888963407) % 18446744073709551616) / 1099511627776) rfl (.tmp rfl) .int (by omega)) rfl rfl rfl ?_
   refine pu (.conv (b := (((((((((s * 6364136223846793005) % 18446744073709551616) + 0) % 18446744073709551616) + 1442695040888963407) % 18446744073709551616) / 1099511627776) % 256 : Nat) : Int)) rfl (.tmp rfl) vd1_cv_79_3_.i64 (wrap_id (by omega) (by omega))) rfl rfl rfl ?_
   refine pu (.assign rfl (.tmp rfl)) rfl rfl rfl ?_
   refine ARun.nil ?_
   exact AW.ret (show ∃ x p' s' t, _ ∧ ResL _ _ [.tmp 2] t ∧ _ ∧ _ from ⟨((((((((s * 6364136223846793005) % 18446744073709551616) + 0) % 18446744073709551616) + 1442695040888963407) % 18446744073709551616) / 1099511627776) % 256), (p + 1), ((((((s * 6364136223846793005) % 18446744073709551616) + 0) % 18446744073709551616) + 1442695040888963407) % 18446744073709551616), _, ⟨by first | omega | exact Nat.mod_lt _ (by decide), ⟨by omega, by omega, Nat.mod_lt _ (by decide)⟩⟩, .inl ⟨_, rfl, .tmp rfl⟩, .int, rfl⟩)
theorem vc_Pick (n : Nat) (F : Nat → Nat) (hF : ∀ i, F i < 256) (p s : Nat) (hp : p ≤ 1900000000) (hs : s < 18446744073709551616) (m : Nat) (hm : m ≤ 1000000) : FnC Try.prog 81 n F [.one (.int .i64 (m : Int))] p s (fun (x : Nat) p' s' => (x < m ∨ x = 0) ∧ CurOk p 2 p' s') (fun (x : Nat) => .one (.int .i64 (x : Int))) := by
 refine FnC.of_body (fn := Try.f81) Try.func81 rfl (nB rfl) ?_
 intro w0 c
 show AW _ 20 _ _ _ _
 refine AW.seq ?_
 refine AW.region ?_
 refine pu (.assign rfl .int) rfl rfl rfl ?_
 refine ARun.nil ?_
 refine AW.seq ?_
 refine AW.seq ?_
 refine AW.region ?_
 refine pu (.move rfl (.tmp rfl)) rfl rfl rfl ?_
 refine pu (.intOp rfl (.tmp rfl) .int rfl) rfl rfl rfl ?_
 refine ARun.nil ?_
 refine AW.cond (.tmp rfl) (fun hb1 => ?_) (fun hb1 => ?_)
 ·
  replace hb1 := of_decide_eq_true hb1
  refine AW.seq ?_
  refine AW.region ?_
  refine pu (.assign rfl .int) rfl rfl rfl ?_
  refine ARun.nil ?_
  have _hm : 0 < m → ∀ y : Nat, y % m < m := fun h y => Nat.mod_lt _ h
  exact AW.ret (show ∃ x p' s' t, _ ∧ ResL _ _ [.tmp 4] t ∧ _ ∧ _ from ⟨0, p, s, _, ⟨by first | exact .inr rfl | exact .inl (Nat.mod_lt _ (by omega)), ⟨by omega, by omega, by omega⟩⟩, .inl ⟨_, rfl, .tmp rfl⟩, .int, rfl⟩)
 ·
  replace hb1 := of_decide_eq_false hb1
  refine AW.skip ?_
  refine AW.seq ?_
  refine AW.region ?_
  refine pu (.move rfl (.tmp rfl)) rfl rfl rfl ?_
  refine ARun.cur (id := 1000000) rfl (vc_Next n F hF p s (by omega) (by omega)) f69_ ⟨.inr (.tmp rfl), trivial⟩ rfl rfl rfl (nB rfl) (fun x2 p3 sd4 hc5 => ?_)
  obtain ⟨hc5x, hc5c⟩ := hc5
  obtain ⟨hc51, hc52, hc53⟩ := hc5c
  refine pu (.assign rfl (.tmp rfl)) rfl rfl rfl ?_
  refine ARun.nil ?_
  refine AW.seq ?_
  refine AW.seq ?_
  refine AW.region ?_
  refine pu (.move rfl (.tmp rfl)) rfl rfl rfl ?_
  refine pu (.intOp rfl (.tmp rfl) .int rfl) rfl rfl rfl ?_
  refine ARun.nil ?_
  refine AW.cond (.tmp rfl) (fun hb6 => ?_) (fun hb6 => ?_)
  ·
   replace hb6 := of_decide_eq_true hb6
   refine AW.region ?_
   refine pu (.move rfl (.tmp rfl)) rfl rfl rfl ?_
   refine pu (.mul (c := ((x2 * 256 : Nat) : Int)) rfl (.tmp rfl) .int (by rw [wrap_id (by omega) (by omega)]; omega)) rfl rfl rfl ?_
   refine pu (.move rfl (.tmp rfl)) rfl rfl rfl ?_
   refine ARun.cur (id := 1000000) rfl (vc_Next n F hF p3 sd4 (by omega) (by omega)) f69_ ⟨.inr (.tmp rfl), trivial⟩ rfl rfl rfl (nB rfl) (fun x7 p8 sd9 hc10 => ?_)
   obtain ⟨hc10x, hc10c⟩ := hc10
   obtain ⟨hc101, hc102, hc103⟩ := hc10c
   refine pu (.add (c := ((x2 * 256 + x7 : Nat) : Int)) rfl (.tmp rfl) (.tmp rfl) (by rw [wrap_id (by omega) (by omega)]; omega)) rfl rfl rfl ?_
   refine pu (.assign rfl (.tmp rfl)) rfl rfl rfl ?_
   refine ARun.nil ?_
   refine AW.seq ?_
   refine AW.region ?_
   refine pu (.move rfl (.tmp rfl)) rfl rfl rfl ?_
   refine pu (.move rfl (.tmp rfl)) rfl rfl rfl ?_
   refine pu (.rem (a := x2 * 256 + x7) (b := m) rfl (.tmp rfl) (.tmp rfl) rfl (by omega) (by omega)) rfl rfl rfl ?_
   refine pu (.assign rfl (.tmp rfl)) rfl rfl rfl ?_
   refine ARun.nil ?_
   have _hm : 0 < m → ∀ y : Nat, y % m < m := fun h y => Nat.mod_lt _ h
   exact AW.ret (show ∃ x p' s' t, _ ∧ ResL _ _ [.tmp 4] t ∧ _ ∧ _ from ⟨((x2 * 256 + x7) % m), p8, sd9, _, ⟨by first | exact .inr rfl | exact .inl (Nat.mod_lt _ (by omega)), ⟨by omega, by omega, by omega⟩⟩, .inl ⟨_, rfl, .tmp rfl⟩, .int, rfl⟩)
  ·
   replace hb6 := of_decide_eq_false hb6
   refine AW.skip ?_
   refine AW.seq ?_
   refine AW.region ?_
   refine pu (.move rfl (.tmp rfl)) rfl rfl rfl ?_
   refine pu (.move rfl (.tmp rfl)) rfl rfl rfl ?_
   refine pu (.rem (a := x2) (b := m) rfl (.tmp rfl) (.tmp rfl) rfl (by omega) (by omega)) rfl rfl rfl ?_
   refine pu (.assign rfl (.tmp rfl)) rfl rfl rfl ?_
   refine ARun.nil ?_
   have _hm : 0 < m → ∀ y : Nat, y % m < m := fun h y => Nat.mod_lt _ h
   exact AW.ret (show ∃ x p' s' t, _ ∧ ResL _ _ [.tmp 4] t ∧ _ ∧ _ from ⟨(x2 % m), p3, sd4, _, ⟨by first | exact .inr rfl | exact .inl (Nat.mod_lt _ (by omega)), ⟨by omega, by omega, by omega⟩⟩, .inl ⟨_, rfl, .tmp rfl⟩, .int, rfl⟩)
theorem vc_One (n : Nat) (F : Nat → Nat) (hF : ∀ i, F i < 256) (p s : Nat) (hp : p ≤ 1800000000) (hs : s < 18446744073709551616) (m : Nat) (hm : m ≤ 1000000) : FnC Try.prog 52 n F [.one (.int .i64 (m : Int))] p s (fun (x : Bool) p' s' => CurOk p 2 p' s') (fun (x : Bool) => .one (.bool x)) := by
 refine FnC.of_body (fn := Try.f52) Try.func52 rfl (nB rfl) ?_
 intro w0 c
 show AW _ 9 _ _ _ _
 refine AW.seq ?_
 refine AW.region ?_
 refine pu (.assign rfl .bool) rfl rfl rfl ?_
 refine ARun.nil ?_
 refine AW.seq ?_
 refine AW.region ?_
 refine pu (.move rfl (.tmp rfl)) rfl rfl rfl ?_
 refine pu (.move rfl (.tmp rfl)) rfl rfl rfl ?_
 refine ARun.cur (id := 1000000) rfl (vc_Pick n F hF p s (by omega) (by omega) m (by omega)) f68_ ⟨.inr (.tmp rfl), .inl ⟨_, (.tmp rfl), .int⟩, trivial⟩ rfl rfl rfl (nB rfl) (fun x1 p2 sd3 hc4 => ?_)
 obtain ⟨hc4x, hc4c⟩ := hc4
 obtain ⟨hc41, hc42, hc43⟩ := hc4c
 refine pu (.intOp rfl (.tmp rfl) .int rfl) rfl rfl rfl ?_
 refine pu (.assign rfl (.tmp rfl)) rfl rfl rfl ?_
 refine ARun.nil ?_
 exact AW.ret (show ∃ x p' s' t, _ ∧ ResL _ _ [.tmp 4] t ∧ _ ∧ _ from ⟨(decide ((x1 : Int) = 0)), p2, sd3, _, ⟨by omega, by omega, by omega⟩, .inl ⟨_, rfl, .tmp rfl⟩, .bool, rfl⟩)
theorem vc_Of (n : Nat) (F : Nat → Nat) (hF : ∀ i, F i < 256) (p s : Nat) (hp : p ≤ 1800000000) (hs : s < 18446744073709551616) (l : List ByteArray) (hl : 1 ≤ l.length ∧ l.length ≤ 1000) : FnC Try.prog 98 n F [.one (.lst 1 l.length (fun i0 _ => .str (l.getD i0 ByteArray.empty)))] p s (fun (x : ByteArray) p' s' => x ∈ l ∧ CurOk p 2 p' s') (fun (x : ByteArray) => .one (.str x)) := by
 refine FnC.of_body (fn := Try.f98) Try.func98 rfl (nB rfl) ?_
 intro w0 c
 show AW _ 12 _ _ _ _
 refine AW.seq ?_
 refine AW.region ?_
 refine pu (.assign rfl (.str (by decide))) rfl rfl rfl ?_
 refine ARun.nil ?_
 refine AW.seq ?_
 refine AW.region ?_
 refine pu (.move rfl (.tmp rfl)) rfl rfl rfl ?_
 refine pu (.move rfl (.tmp rfl)) rfl rfl rfl ?_
 refine pu (.move rfl (.tmp rfl)) rfl rfl rfl ?_
 refine pu (.lenLst rfl (.tmp rfl) f77_) rfl rfl rfl ?_
 refine ARun.cur (id := 1000000) rfl (vc_Pick n F hF p s (by omega) (by omega) l.length (by omega)) f68_ ⟨.inr (.tmp rfl), .inl ⟨_, (.tmp rfl), .int⟩, trivial⟩ rfl rfl rfl (nB rfl) (fun x1 p2 sd3 hc4 => ?_)
 obtain ⟨hc4x, hc4c⟩ := hc4
 obtain ⟨hc41, hc42, hc43⟩ := hc4c
 refine pu (.indexLst (i := x1) rfl (.tmp rfl) f70_ (.tmp rfl) rfl (by rcases hc4x with hx | hx <;> omega)) rfl rfl rfl ?_
 refine pu (.loadRef rfl (.tmp rfl) f3_ (nB rfl)) rfl rfl rfl ?_
 refine pu (.assign rfl (.tmp rfl)) rfl rfl rfl ?_
 refine ARun.nil ?_
 have hlt : x1 < l.length := by rcases hc4x with hx | hx <;> omega
 exact AW.ret (show ∃ x p' s' t, _ ∧ ResL _ _ [.tmp 4] t ∧ _ ∧ _ from ⟨(l.getD x1 ByteArray.empty), p2, sd3, _, ⟨by rw [List.getD_eq_getElem?_getD, List.getElem?_eq_getElem hlt]; exact List.getElem_mem _, ⟨by omega, by omega, by omega⟩⟩, .inl ⟨_, rfl, .tmp rfl⟩, .str, rfl⟩)
theorem vc_Among (n : Nat) (F : Nat → Nat) (hF : ∀ i, F i < 256) (p s : Nat) (hp : p ≤ 1800000000) (hs : s < 18446744073709551616) (l : List Int) (hl : 1 ≤ l.length ∧ l.length ≤ 1000) : FnC Try.prog 97 n F [.one (.lst 1 l.length (fun i0 _ => .int .i64 (l.getD i0 0)))] p s (fun (x : Int) p' s' => x ∈ l ∧ CurOk p 2 p' s') (fun (x : Int) => .one (.int .i64 x)) := by
 refine FnC.of_body (fn := Try.f97) Try.func97 rfl (nB rfl) ?_
 intro w0 c
 show AW _ 12 _ _ _ _
 refine AW.seq ?_
 refine AW.region ?_
 refine pu (.assign rfl .int) rfl rfl rfl ?_
 refine ARun.nil ?_
 refine AW.seq ?_
 refine AW.region ?_
 refine pu (.move rfl (.tmp rfl)) rfl rfl rfl ?_
 refine pu (.move rfl (.tmp rfl)) rfl rfl rfl ?_
 refine pu (.move rfl (.tmp rfl)) rfl rfl rfl ?_
 refine pu (.lenLst rfl (.tmp rfl) f49_) rfl rfl rfl ?_
 refine ARun.cur (id := 1000000) rfl (vc_Pick n F hF p s (by omega) (by omega) l.length (by omega)) f68_ ⟨.inr (.tmp rfl), .inl ⟨_, (.tmp rfl), .int⟩, trivial⟩ rfl rfl rfl (nB rfl) (fun x1 p2 sd3 hc4 => ?_)
 obtain ⟨hc4x, hc4c⟩ := hc4
 obtain ⟨hc41, hc42, hc43⟩ := hc4c
 refine pu (.indexLst (i := x1) rfl (.tmp rfl) f46_ (.tmp rfl) rfl (by rcases hc4x with hx | hx <;> omega)) rfl rfl rfl ?_
 refine pu (.loadRef rfl (.tmp rfl) f2_ (nB rfl)) rfl rfl rfl ?_
 refine pu (.assign rfl (.tmp rfl)) rfl rfl rfl ?_
 refine ARun.nil ?_
 have hlt : x1 < l.length := by rcases hc4x with hx | hx <;> omega
 exact AW.ret (show ∃ x p' s' t, _ ∧ ResL _ _ [.tmp 4] t ∧ _ ∧ _ from ⟨(l.getD x1 0), p2, sd3, _, ⟨by rw [List.getD_eq_getElem?_getD, List.getElem?_eq_getElem hlt]; exact List.getElem_mem _, ⟨by omega, by omega, by omega⟩⟩, .inl ⟨_, rfl, .tmp rfl⟩, .int, rfl⟩)
end Go.Proofs.Ytonfeiloekofdaa

namespace Go.Proofs.Ytonfeiloekofdaa
open Go.ChangeShapes Go.WideShapes Go.ChangeAt Go.RowKit Go.BigFrame Go.Deep
set_option linter.unusedVariables false
set_option linter.unusedSimpArgs false
theorem f79_ : callB Try.prog 80 = true := by kernel_rfl
theorem f80_ : callB Try.prog 97 = true := by kernel_rfl
theorem f81_ : callB Try.prog 98 = true := by kernel_rfl
theorem FreshOp.penta {P : Program} {σ : Sig} {o : Oper} {t e : Nat} {x y z u x5 : Operand} {a1 a2 a3 a4 a5 : Int} (ho : o.op = .buildSlice t 5 #[(0, x), (1, y), (2, z), (3, u), (4, x5)]) (kx : Kn σ x (.one (.int .i64 a1))) (ky : Kn σ y (.one (.int .i64 a2))) (kz : Kn σ z (.one (.int .i64 a3))) (ku : Kn σ u (.one (.int .i64 a4))) (k5 : Kn σ x5 (.one (.int .i64 a5)))
    (ht : P.underlying t = some (.slice e)) (hz : (P.info? e).map (fun i => (i.size, i.zero)) = some (1, some (.int .i64 0))) : FreshOp P o σ (.one (.frs (.lst 1 5 fun i _ => .int .i64 (([a1, a2, a3, a4, a5] : List Int).getD i 0)))) := by
  constructor
  intro N w0 ρ S a w K Q' hs hK
  have e1 : a.eval x = .int .i64 a1 := kx.sound hs
  have e2 : a.eval y = .int .i64 a2 := ky.sound hs
  have e3 : a.eval z = .int .i64 a3 := kz.sound hs
  have e4 : a.eval u = .int .i64 a4 := ku.sound hs
  have e5 : a.eval x5 = .int .i64 a5 := k5.sound hs
  obtain ⟨i, hi, hi2⟩ := Option.map_eq_some_iff.1 hz
  simp only [Prod.mk.injEq] at hi2
  obtain ⟨z1, z2⟩ := hi2
  have er : (execOp a.eval o).run P w = .ok (.value (.slice (some ⟨w.heap.size, 0, none⟩) 5 5)) (w.alloc (.cells #[.int .i64 a1, .int .i64 a2, .int .i64 a3, .int .i64 a4, .int .i64 a5] e)) := by
    generalize a.eval = ev at e1 e2 e3 e4 e5 ⊢
    simp [execOp, ho, Instr.buildSlice, run_underlying ht, sizeOf, typeInfo, hi, z1, z2, zeroValue, e1, e2, e3, e4, e5, go_sem]
  unfold Oper.wp
  rw [er]
  have hb : Below w.heap.size w (w.alloc (.cells #[.int .i64 a1, .int .i64 a2, .int .i64 a3, .int .i64 a4, .int .i64 a5] e)) := (Below.refl _ _).alloc (Nat.le_refl _) _
  obtain ⟨g1, g2⟩ := hs.grow hb
  have hlt : ρ.base ≤ w.heap.size := by rw [hs.mem.base]; exact hs.mem.low
  refine hK _ _ _ g1 hb (fun b h => h.imp (fun h => h) (fun h => h.1)) g2 ⟨_, _, rfl, Nat.le_refl _, by decide, (fun h => by cases h), fun j hj => ⟨w.heap.size, 0, rfl, ⟨.inr ⟨Nat.le_refl _, by rw [World.heap_alloc, Array.size_push]; omega⟩, hlt⟩, fun q hq => ?_⟩⟩
  obtain rfl : q = 0 := by omega
  have hcell : ∀ p, (w.alloc (.cells #[.int .i64 a1, .int .i64 a2, .int .i64 a3, .int .i64 a4, .int .i64 a5] e)).cell? ⟨w.heap.size, p, none⟩ = (#[Value.int .i64 a1, .int .i64 a2, .int .i64 a3, .int .i64 a4, .int .i64 a5])[p]? := fun p => by simp [World.cell?, World.heap_alloc]
  match j, hj with
  | 0, _ => exact ⟨.int .i64 a1, by rw [hcell]; rfl, rfl⟩
  | 1, _ => exact ⟨.int .i64 a2, by rw [hcell]; rfl, rfl⟩
  | 2, _ => exact ⟨.int .i64 a3, by rw [hcell]; rfl, rfl⟩
  | 3, _ => exact ⟨.int .i64 a4, by rw [hcell]; rfl, rfl⟩
  | 4, _ => exact ⟨.int .i64 a5, by rw [hcell]; rfl, rfl⟩
theorem PureOp.dropStr {P : Program} {σ : Sig} {o : Oper} {t : TypeId} {x y : Operand} {s : ByteArray} {k : Nat} {m : Int} {kd : IntKind} (ho : o.op = .slice t x (some y) none none) (hx : Kn σ x (.one (.str s))) (hy : Kn σ y (.one (.int kd m))) (hm : m = (k : Int)) (hk : k ≤ s.size) (ht : stringB P t = true) : PureOp P o σ (.one (.str (s.extract k s.size))) := by
  subst hm
  refine PureOp.val fun N w0 ρ S ac w hs => ?_
  obtain ⟨e1, hl⟩ : ac.eval x = .string s ∧ _ := hx.sound hs
  have e2 : ac.eval y = .int kd (k : Int) := hy.sound hs
  have hu := stringB_spec ht
  refine ⟨.string (s.extract k s.size), ⟨rfl, ?_⟩, fun w' _ => ?_⟩
  · rw [ByteArray.size_extract]; omega
  generalize ac.eval = ev at e1 e2 ⊢
  have hk2 : (k : Int) ≤ (s.size : Int) := by omega
  have hr : (Instr.sliceAt t (.string s) (some (.int kd (k : Int))) none none).run P w' = .ok (.string (s.extract k s.size)) w' := by
    simp [Instr.sliceAt, Instr.slice, run_underlying hu, Instr.sliceBounds, Instr.sliceBound, asIntOf, hk2, go_sem]
    try (intro hlt; omega)
  simp only [execOp, ho, e1, e2, Option.map_some, Option.map_none]
  rw [Sem.run_bind, hr]
  rfl
theorem byte_of (s : ByteArray) (k : Nat) : ∃ c : UInt8, (c.toNat : Int) = byteAt s k := by
  unfold byteAt
  by_cases h : k < s.size
  · exact ⟨s.get k h, by rw [dif_pos h]⟩
  · exact ⟨0, by rw [dif_neg h]; rfl⟩
theorem cond_both {a b : Prop} [Decidable a] [Decidable b] (e : cond (decide a) (decide b) false = true) : a ∧ b := by
  by_cases h1 : a
  · rw [decide_eq_true h1] at e
    exact ⟨h1, of_decide_eq_true e⟩
  · rw [decide_eq_false h1] at e; cases e
structure SpS where
  t : ByteArray
  m : Nat
  p : Nat
  s : Nat
theorem v_Spoilt (n : Nat) (F : Nat → Nat) (hF : ∀ i, F i < 256) (p s : Nat) (hp : p ≤ 1700000000) (hs : s < 18446744073709551616) (t0 q : ByteArray) (ht : t0.size ≤ 500000) (hq : 1 ≤ q.size ∧ q.size ≤ 1000) : FnC Try.prog 53 n F [.one (.str t0), .one (.str q)] p s (fun (x : ByteArray) p' s' => x.size ≤ t0.size + 3 ∧ CurOk p 30 p' s') (fun (x : ByteArray) => .one (.str x)) := by
 refine FnC.of_body (fn := Try.f53) Try.func53 rfl (nB rfl) ?_
 intro w0 c
 show AW _ 67 _ _ _ _
 refine AW.seq ?_
 refine AW.region ?_
 refine pu (.assign rfl (.str (by decide))) rfl rfl rfl ?_
 refine ARun.nil ?_
 refine AW.seq ?_
 refine AW.seq ?_
 refine AW.region ?_
 refine pu (.move rfl (.tmp rfl)) rfl rfl rfl ?_
 refine ARun.cur (id := 1000000) rfl (vc_Pick n F hF p s (by omega) (by omega) 3 (by omega)) f68_ ⟨.inr (.tmp rfl), .inl ⟨_, .int, .int⟩, trivial⟩ rfl rfl rfl (nB rfl) (fun x1 p2 sd3 hc4 => ?_)
 obtain ⟨hc4x, hc4c⟩ := hc4
 obtain ⟨hc41, hc42, hc43⟩ := hc4c
 refine pu (.assign rfl (.tmp rfl)) rfl rfl rfl ?_
 refine ARun.nil ?_
 refine AW.block ?_
 have hX3 : x1 ≤ 2 := by rcases hc4x with hx | hx <;> omega
 refine AW.loop (ι := SpS) (fun v => ⟨[(0, .one (.ptr 1000000 3 0 0)), (1, .one (.str v.t)), (2, .one (.str q)), (7, .one (.int .i64 (v.m : Int)))], [(1000000, .cells [.cv c (.lst 1 n (fun i _ => .int .u8 ((F i : Nat) : Int))), .int .i64 (v.p : Int), .int .u64 ((v.s : Nat) : Int)])]⟩) (fun v => v.t.size + v.m ≤ t0.size + x1 ∧ v.m ≤ x1 ∧ v.p + 8 * v.m ≤ p2 + 8 * x1 ∧ v.s < 18446744073709551616 ∧ p2 ≤ v.p) (fun v => v.m) ⟨t0, x1, p2, sd3⟩ ⟨Nat.le_refl _, Nat.le_refl _, Nat.le_refl _, by show sd3 < 18446744073709551616; omega, Nat.le_refl _⟩ ⟨⟨⟨_, rfl, rfl⟩, ⟨_, rfl, rfl⟩, ⟨_, rfl, rfl⟩, ⟨_, rfl, rfl⟩, trivial⟩, HeapLe.one rfl trivial⟩ ?_
 intro v hv
 obtain ⟨hv1, hv2, hv3, hv4, hv5⟩ := hv
 refine AW.seq ?_
 refine AW.seq ?_
 refine AW.region ?_
 refine pu (.move rfl (.tmp rfl)) rfl rfl rfl ?_
 refine pu (.intOp rfl (.tmp rfl) .int rfl) rfl rfl rfl ?_
 refine pu (.move rfl (.tmp rfl)) rfl rfl rfl ?_
 refine ARun.gpure (want := true) (.tt rfl) (fun hg5 => PureOp.move rfl (.tmp rfl)) rfl rfl (nB rfl) rfl (nB rfl) ?_
 refine ARun.gpure (want := true) (.tt rfl) (fun hg6 => PureOp.lenStr rfl (.gtmp rfl hg6) f4_) rfl rfl (nB rfl) rfl (nB rfl) ?_
 refine ARun.gpure (want := true) (.tt rfl) (fun hg7 => PureOp.intOp rfl (.gtmp rfl hg7) .int rfl) rfl rfl (nB rfl) rfl (nB rfl) ?_
 refine pu (.pick rfl (.tmp rfl) (fun hp8 => .gtmp rfl hp8) (fun _ => .bool)) rfl rfl rfl ?_
 refine ARun.nil ?_
 refine AW.cond (.tmp rfl) (fun hb10 => ?_) (fun hb10 => ?_)
 ·
  obtain ⟨hm0, hm1⟩ := cond_both hb10
  have hm2 : 0 < v.m := by omega
  have hm3 : 0 < v.t.size := by omega
  refine AW.skip ?_
  refine AW.seq ?_
  refine AW.block ?_
  refine AW.seq ?_
  refine AW.region ?_
  refine pu (.move rfl (.tmp rfl)) rfl rfl rfl ?_
  refine pu (.move rfl (.tmp rfl)) rfl rfl rfl ?_
  refine pu (.lenStr rfl (.tmp rfl) f4_) rfl rfl rfl ?_
  refine ARun.cur (id := 1000000) rfl (vc_Pick n F hF v.p v.s (by omega) (by omega) v.t.size (by omega)) f68_ ⟨.inr (.tmp rfl), .inl ⟨_, (.tmp rfl), .int⟩, trivial⟩ rfl rfl rfl (nB rfl) (fun x11 p12 sd13 hc14 => ?_)
  obtain ⟨hc14x, hc14c⟩ := hc14
  obtain ⟨hc141, hc142, hc143⟩ := hc14c
  refine pu (.assign rfl (.tmp rfl)) rfl rfl rfl ?_
  refine ARun.nil ?_
  refine AW.seq ?_
  refine AW.region ?_
  refine pu (.move rfl (.tmp rfl)) rfl rfl rfl ?_
  refine pu (.move rfl (.tmp rfl)) rfl rfl rfl ?_
  refine pu (.move rfl (.tmp rfl)) rfl rfl rfl ?_
  refine pu (.lenStr rfl (.tmp rfl) f4_) rfl rfl rfl ?_
  refine ARun.cur (id := 1000000) rfl (vc_Pick n F hF p12 sd13 (by omega) (by omega) q.size (by omega)) f68_ ⟨.inr (.tmp rfl), .inl ⟨_, (.tmp rfl), .int⟩, trivial⟩ rfl rfl rfl (nB rfl) (fun x15 p16 sd17 hc18 => ?_)
  obtain ⟨hc18x, hc18c⟩ := hc18
  obtain ⟨hc181, hc182, hc183⟩ := hc18c
  refine pu (.indexStrAt (i := x15) rfl (.tmp rfl) f4_ (.tmp rfl) rfl (by rcases hc18x with hx | hx <;> omega)) rfl rfl rfl ?_
  obtain ⟨bc, hbc⟩ := byte_of q x15
  refine ARun.fresh (FreshOp.byte1 (a1 := byteAt q x15) rfl (.tmp rfl) Try.underlying35 (by kernel_rfl)) rfl rfl (nB rfl) ?_
  refine pu (.byteStr (c := bc) rfl (.frs (.tmp rfl)) (congrArg (fun z : Int => AV.int .u8 z) hbc.symm) Try.underlying35 Try.underlying5 Try.underlying9) rfl rfl rfl ?_
  refine pu (.assign rfl (.tmp rfl)) rfl rfl rfl ?_
  refine ARun.nil ?_
  refine AW.seq ?_
  refine AW.region ?_
  refine pu (.move rfl (.tmp rfl)) rfl rfl rfl ?_
  refine ARun.cur (id := 1000000) rfl (vc_Pick n F hF p16 sd17 (by omega) (by omega) 3 (by omega)) f68_ ⟨.inr (.tmp rfl), .inl ⟨_, .int, .int⟩, trivial⟩ rfl rfl rfl (nB rfl) (fun x19 p20 sd21 hc22 => ?_)
  obtain ⟨hc22x, hc22c⟩ := hc22
  obtain ⟨hc221, hc222, hc223⟩ := hc22c
  refine ARun.nil ?_
  refine AW.block ?_
  refine AW.seq ?_
  refine AW.region ?_
  refine pu (.intOp rfl (.tmp rfl) .int rfl) rfl rfl rfl ?_
  refine pu (.assign rfl (.tmp rfl)) rfl rfl rfl ?_
  refine ARun.nil ?_
  refine AW.cond (.tmp rfl) (fun hb23 => ?_) (fun hb23 => ?_)
  ·
   replace hb23 := of_decide_eq_true hb23
   have hpl : x11 < v.t.size := by rcases hc18x with hx | hx <;> omega
   refine AW.any (by kernel_rfl) (by kernel_rfl) ?_
   refine AD.pure (PureOp.move rfl (.tmp rfl)) rfl rfl (nB rfl) ?_
   refine AD.pure (PureOp.move rfl (.tmp rfl)) rfl rfl (nB rfl) ?_
   refine AD.pure (PureOp.takeStr (k := x11) rfl (.tmp rfl) (.tmp rfl) rfl (show x11 ≤ v.t.size from by omega) f4_) rfl rfl (nB rfl) ?_
   refine AD.pure (PureOp.move rfl (.tmp rfl)) rfl rfl (nB rfl) ?_
   refine AD.pure (PureOp.strAdd rfl (.tmp rfl) (.tmp rfl) (by simp only [ByteArray.size_append, ByteArray.size_extract]; have h1_ : (⟨#[bc]⟩ : ByteArray).size = 1 := rfl; omega)) rfl rfl (nB rfl) ?_
   refine AD.pure (PureOp.move rfl (.tmp rfl)) rfl rfl (nB rfl) ?_
   refine AD.pure (PureOp.move rfl (.tmp rfl)) rfl rfl (nB rfl) ?_
   refine AD.pure (PureOp.dropStr (k := x11) rfl (.tmp rfl) (.tmp rfl) rfl (show x11 ≤ v.t.size from by omega) f4_) rfl rfl (nB rfl) ?_
   refine AD.pure (PureOp.strAdd rfl (.tmp rfl) (.tmp rfl) (by simp only [ByteArray.size_append, ByteArray.size_extract]; have h1_ : (⟨#[bc]⟩ : ByteArray).size = 1 := rfl; omega)) rfl rfl (nB rfl) ?_
   refine AD.pure (PureOp.assign rfl (.tmp rfl)) rfl rfl (nB rfl) ?_
   refine AD.nil ?_
   refine AW.region ?_
   refine pu (.move rfl (.tmp rfl)) rfl rfl rfl ?_
   refine pu (.sub (c := (((v.m - 1) : Nat) : Int)) rfl (.tmp rfl) .int (by rw [wrap_id (by omega) (by omega)]; omega)) rfl rfl rfl ?_
   refine pu (.assign rfl (.tmp rfl)) rfl rfl rfl ?_
   refine ARun.nil ?_
   exact ⟨⟨((v.t.extract 0 x11) ++ (⟨#[bc]⟩)) ++ (v.t.extract x11 v.t.size), v.m - 1, p20, sd21⟩, ⟨by show (((v.t.extract 0 x11) ++ (⟨#[bc]⟩)) ++ (v.t.extract x11 v.t.size)).size + (v.m - 1) ≤ _; simp only [ByteArray.size_append, ByteArray.size_extract]; have h1_ : (⟨#[bc]⟩ : ByteArray).size = 1 := rfl; omega, by show v.m - 1 ≤ _; omega, by show p20 + 8 * (v.m - 1) ≤ _; omega, by show sd21 < _; omega, by show _ ≤ p20; omega⟩, by show v.m - 1 < v.m; omega, ⟨⟨⟨_, rfl, rfl⟩, ⟨_, rfl, rfl⟩, ⟨_, rfl, rfl⟩, ⟨_, rfl, rfl⟩, trivial⟩, HeapLe.one rfl trivial⟩⟩
  ·
   replace hb23 := of_decide_eq_false hb23
   have hpl : x11 < v.t.size := by rcases hc18x with hx | hx <;> omega
   refine AW.seq ?_
   refine AW.region ?_
   refine pu (.intOp rfl (.tmp rfl) .int rfl) rfl rfl rfl ?_
   refine pu (.assign rfl (.tmp rfl)) rfl rfl rfl ?_
   refine ARun.nil ?_
   refine AW.cond (.tmp rfl) (fun hb24 => ?_) (fun hb24 => ?_)
   ·
    replace hb24 := of_decide_eq_true hb24
    have hpl : x11 < v.t.size := by rcases hc22x with hx | hx <;> omega
    refine AW.any (by kernel_rfl) (by kernel_rfl) ?_
    refine AD.pure (PureOp.move rfl (.tmp rfl)) rfl rfl (nB rfl) ?_
    refine AD.pure (PureOp.move rfl (.tmp rfl)) rfl rfl (nB rfl) ?_
    refine AD.pure (PureOp.takeStr (k := x11) rfl (.tmp rfl) (.tmp rfl) rfl (show x11 ≤ v.t.size from by omega) f4_) rfl rfl (nB rfl) ?_
    refine AD.pure (PureOp.move rfl (.tmp rfl)) rfl rfl (nB rfl) ?_
    refine AD.pure (PureOp.strAdd rfl (.tmp rfl) (.tmp rfl) (by simp only [ByteArray.size_append, ByteArray.size_extract]; have h1_ : (⟨#[bc]⟩ : ByteArray).size = 1 := rfl; omega)) rfl rfl (nB rfl) ?_
    refine AD.pure (PureOp.move rfl (.tmp rfl)) rfl rfl (nB rfl) ?_
    refine AD.pure (PureOp.move rfl (.tmp rfl)) rfl rfl (nB rfl) ?_
    refine AD.pure (PureOp.add (c := ((x11 + 1 : Nat) : Int)) rfl (.tmp rfl) .int (by rw [wrap_id (by omega) (by omega)]; omega)) rfl rfl (nB rfl) ?_
    refine AD.pure (PureOp.dropStr (k := x11 + 1) rfl (.tmp rfl) (.tmp rfl) rfl (show x11 + 1 ≤ v.t.size from by omega) f4_) rfl rfl (nB rfl) ?_
    refine AD.pure (PureOp.strAdd rfl (.tmp rfl) (.tmp rfl) (by simp only [ByteArray.size_append, ByteArray.size_extract]; have h1_ : (⟨#[bc]⟩ : ByteArray).size = 1 := rfl; omega)) rfl rfl (nB rfl) ?_
    refine AD.pure (PureOp.assign rfl (.tmp rfl)) rfl rfl (nB rfl) ?_
    refine AD.nil ?_
    refine AW.region ?_
    refine pu (.move rfl (.tmp rfl)) rfl rfl rfl ?_
    refine pu (.sub (c := (((v.m - 1) : Nat) : Int)) rfl (.tmp rfl) .int (by rw [wrap_id (by omega) (by omega)]; omega)) rfl rfl rfl ?_
    refine pu (.assign rfl (.tmp rfl)) rfl rfl rfl ?_
    refine ARun.nil ?_
    exact ⟨⟨((v.t.extract 0 x11) ++ (⟨#[bc]⟩)) ++ (v.t.extract (x11 + 1) v.t.size), v.m - 1, p20, sd21⟩, ⟨by show (((v.t.extract 0 x11) ++ (⟨#[bc]⟩)) ++ (v.t.extract (x11 + 1) v.t.size)).size + (v.m - 1) ≤ _; simp only [ByteArray.size_append, ByteArray.size_extract]; have h1_ : (⟨#[bc]⟩ : ByteArray).size = 1 := rfl; omega, by show v.m - 1 ≤ _; omega, by show p20 + 8 * (v.m - 1) ≤ _; omega, by show sd21 < _; omega, by show _ ≤ p20; omega⟩, by show v.m - 1 < v.m; omega, ⟨⟨⟨_, rfl, rfl⟩, ⟨_, rfl, rfl⟩, ⟨_, rfl, rfl⟩, ⟨_, rfl, rfl⟩, trivial⟩, HeapLe.one rfl trivial⟩⟩
   ·
    replace hb24 := of_decide_eq_false hb24
    have hpl : x11 < v.t.size := by rcases hc18x with hx | hx <;> omega
    refine AW.any (by kernel_rfl) (by kernel_rfl) ?_
    refine AD.pure (PureOp.move rfl (.tmp rfl)) rfl rfl (nB rfl) ?_
    refine AD.pure (PureOp.move rfl (.tmp rfl)) rfl rfl (nB rfl) ?_
    refine AD.pure (PureOp.takeStr (k := x11) rfl (.tmp rfl) (.tmp rfl) rfl (show x11 ≤ v.t.size from by omega) f4_) rfl rfl (nB rfl) ?_
    refine AD.pure (PureOp.move rfl (.tmp rfl)) rfl rfl (nB rfl) ?_
    refine AD.pure (PureOp.move rfl (.tmp rfl)) rfl rfl (nB rfl) ?_
    refine AD.pure (PureOp.add (c := ((x11 + 1 : Nat) : Int)) rfl (.tmp rfl) .int (by rw [wrap_id (by omega) (by omega)]; omega)) rfl rfl (nB rfl) ?_
    refine AD.pure (PureOp.dropStr (k := x11 + 1) rfl (.tmp rfl) (.tmp rfl) rfl (show x11 + 1 ≤ v.t.size from by omega) f4_) rfl rfl (nB rfl) ?_
    refine AD.pure (PureOp.strAdd rfl (.tmp rfl) (.tmp rfl) (by simp only [ByteArray.size_append, ByteArray.size_extract]; have h1_ : (⟨#[bc]⟩ : ByteArray).size = 1 := rfl; omega)) rfl rfl (nB rfl) ?_
    refine AD.pure (PureOp.assign rfl (.tmp rfl)) rfl rfl (nB rfl) ?_
    refine AD.nil ?_
    refine AW.region ?_
    refine pu (.move rfl (.tmp rfl)) rfl rfl rfl ?_
    refine pu (.sub (c := (((v.m - 1) : Nat) : Int)) rfl (.tmp rfl) .int (by rw [wrap_id (by omega) (by omega)]; omega)) rfl rfl rfl ?_
    refine pu (.assign rfl (.tmp rfl)) rfl rfl rfl ?_
    refine ARun.nil ?_
    exact ⟨⟨(v.t.extract 0 x11) ++ (v.t.extract (x11 + 1) v.t.size), v.m - 1, p20, sd21⟩, ⟨by show ((v.t.extract 0 x11) ++ (v.t.extract (x11 + 1) v.t.size)).size + (v.m - 1) ≤ _; simp only [ByteArray.size_append, ByteArray.size_extract]; have h1_ : (⟨#[bc]⟩ : ByteArray).size = 1 := rfl; omega, by show v.m - 1 ≤ _; omega, by show p20 + 8 * (v.m - 1) ≤ _; omega, by show sd21 < _; omega, by show _ ≤ p20; omega⟩, by show v.m - 1 < v.m; omega, ⟨⟨⟨_, rfl, rfl⟩, ⟨_, rfl, rfl⟩, ⟨_, rfl, rfl⟩, ⟨_, rfl, rfl⟩, trivial⟩, HeapLe.one rfl trivial⟩⟩
 ·
  have _h := hb10
  refine AW.exit ?_
  refine AW.seq ?_
  refine AW.region ?_
  refine pu (.move rfl (.tmp rfl)) rfl rfl rfl ?_
  refine pu (.assign rfl (.tmp rfl)) rfl rfl rfl ?_
  refine ARun.nil ?_
  exact AW.ret (show ∃ x p' s' t, _ ∧ ResL _ _ [.tmp 6] t ∧ _ ∧ _ from ⟨v.t, v.p, v.s, _, ⟨by show v.t.size ≤ _; omega, ⟨by omega, by omega, by omega⟩⟩, .inl ⟨_, rfl, .tmp rfl⟩, .str, rfl⟩)
def szD : Nat → Nat
  | 0 => 1
  | d + 1 => 2 * szD d + 1
def kD : Nat → Nat
  | 0 => 6
  | d + 1 => 2 * kD d + 6
theorem szD_le {d a : Nat} (h : a ≤ szD (d - 1)) (h0 : 0 < d) {b : Nat} (hb : b ≤ szD (d - 1)) : a + b + 1 ≤ szD d := by
  obtain ⟨e, rfl⟩ : ∃ e, d = e + 1 := ⟨d - 1, by omega⟩
  have h : a ≤ szD e := h
  have hb : b ≤ szD e := hb
  show a + b + 1 ≤ 2 * szD e + 1
  omega
theorem szD_pos (d : Nat) : 1 ≤ szD d := by cases d <;> (show 1 ≤ _ ; first | exact Nat.le_refl _ | exact Nat.succ_le_succ (Nat.zero_le _))
theorem kD_6 (d : Nat) : 6 ≤ kD d := by cases d <;> first | exact Nat.le_refl _ | exact Nat.le_add_left _ _
theorem kD_s {d : Nat} (h : 0 < d) : kD d = 2 * kD (d - 1) + 6 := by obtain ⟨e, rfl⟩ : ∃ e, d = e + 1 := ⟨d - 1, by omega⟩; rfl
theorem kind_small {x : Int} (h : x ∈ ([3, 3, 4, 2, 1] : List Int)) : 1 ≤ x ∧ x ≤ 4 := by
  simp only [List.mem_cons, List.not_mem_nil, or_false] at h
  omega
theorem small_no {x : Int} (h : x ≤ 4) : isTwo x = false ∧ isOne x = false := by
  unfold isTwo isOne
  rw [decide_eq_false (by omega), decide_eq_false (by omega), decide_eq_false (by omega), decide_eq_false (by omega)]
  exact ⟨rfl, rfl⟩
theorem letter_ok {x : ByteArray} (h : x ∈ ([(⟨#[97]⟩ : ByteArray), (⟨#[98]⟩ : ByteArray), (⟨#[97]⟩ : ByteArray), (⟨#[122]⟩ : ByteArray)] : List ByteArray)) {k : Int} (hk : k = 3) : Wf (.mk k x .nil .nil) := by
  subst hk
  refine .leaf ?_
  simp only [List.mem_cons, List.not_mem_nil, or_false] at h
  rcases h with h | h | h | h <;> (subst h; rfl)
theorem leaf_ok {k : Int} (h1 : 1 ≤ k) (h8 : k ≤ 8) (h3 : ¬ k = 3) (h2 : isTwo k = false) (hO : isOne k = false) : Wf (.mk k ByteArray.empty .nil .nil) := by
  refine .leaf ?_
  have h4 : k ≤ 4 := by
    unfold isTwo at h2
    unfold isOne at hO
    rw [Bool.or_eq_false_iff, decide_eq_false_iff_not, decide_eq_false_iff_not] at h2 hO
    omega
  unfold leafOk
  rw [if_neg h3, decide_eq_true h1, decide_eq_true h4]
  rfl
theorem v_FormOfS (n : Nat) (F : Nat → Nat) (hF : ∀ i, F i < 256) (c : Value) (d : Nat) (hd : d ≤ 3) (ih : 0 < d → ∀ p s : Nat, p + kD (d - 1) ≤ 1000000000 → s < 18446744073709551616 → FnN Try.prog 80 [.one (.ptr 1000000 3 0 0), .one (.int .i64 ((d - 1 : Nat) : Int))] [.cv c (.lst 1 n (fun i _ => .int .u8 ((F i : Nat) : Int))), .int .i64 (p : Int), .int .u64 ((s : Nat) : Int)] (fun (x : Fo × Nat × Nat) => Wf x.1 ∧ x.1.size ≤ szD (d - 1) ∧ CurOk p (kD (d - 1)) x.2.1 x.2.2) (fun (x : Fo × Nat × Nat) => .one x.1.av) (fun x => [.cv c (.lst 1 n (fun i _ => .int .u8 ((F i : Nat) : Int))), .int .i64 (x.2.1 : Int), .int .u64 (x.2.2 : Int)])) (p s : Nat) (hp : p + kD d ≤ 1000000000) (hs : s < 18446744073709551616) : FnN Try.prog 80 [.one (.ptr 1000000 3 0 0), .one (.int .i64 ((d : Nat) : Int))] [.cv c (.lst 1 n (fun i _ => .int .u8 ((F i : Nat) : Int))), .int .i64 (p : Int), .int .u64 ((s : Nat) : Int)] (fun (x : Fo × Nat × Nat) => Wf x.1 ∧ x.1.size ≤ szD d ∧ CurOk p (kD d) x.2.1 x.2.2) (fun (x : Fo × Nat × Nat) => .one x.1.av) (fun x => [.cv c (.lst 1 n (fun i _ => .int .u8 ((F i : Nat) : Int))), .int .i64 (x.2.1 : Int), .int .u64 (x.2.2 : Int)]) := by
 refine FnN.of_body (fn := Try.f80) Try.func80 rfl (nB rfl) ?_
 intro kk YY w0
 show AW _ 55 _ _ _ _
 refine AW.seq ?_
 refine AW.region ?_
 refine pu (.assign rfl .con) rfl rfl rfl ?_
 refine ARun.nil ?_
 refine AW.seq ?_
 refine AW.region ?_
 refine pu (.move rfl (.tmp rfl)) rfl rfl rfl ?_
 refine ARun.cur (id := 1000000) rfl (vc_Pick n F hF p s (by omega) (by omega) 8 (by omega)) f68_ ⟨.inr (.tmp rfl), .inl ⟨_, .int, .int⟩, trivial⟩ rfl rfl rfl (nB rfl) (fun x1 p2 sd3 hc4 => ?_)
 obtain ⟨hc4x, hc4c⟩ := hc4
 obtain ⟨hc41, hc42, hc43⟩ := hc4c
 refine pu (.add (c := ((1 + x1 : Nat) : Int)) rfl .int (.tmp rfl) (by rw [wrap_id (by omega) (by omega)]; omega)) rfl rfl rfl ?_
 refine pu (.assign rfl (.tmp rfl)) rfl rfl rfl ?_
 refine ARun.nil ?_
 refine AW.seq ?_
 refine AW.seq ?_
 refine AW.region ?_
 refine pu (.move rfl (.tmp rfl)) rfl rfl rfl ?_
 refine pu (.intOp rfl (.tmp rfl) .int rfl) rfl rfl rfl ?_
 refine ARun.nil ?_
 refine AW.cond (.tmp rfl) (fun hb5 => ?_) (fun hb5 => ?_)
 ·
  replace hb5 := of_decide_eq_true hb5
  have hd0' : d = 0 := by omega
  have hK6 := kD_6 d
  refine AW.region ?_
  refine pu (.move rfl (.tmp rfl)) rfl rfl rfl ?_
  refine ARun.fresh (FreshOp.penta (a1 := 3) (a2 := 3) (a3 := 4) (a4 := 2) (a5 := 1) rfl .int .int .int .int .int Try.underlying52 (by kernel_rfl)) rfl rfl (nB rfl) ?_
  refine ARun.cur (id := 1000000) rfl (vc_Among n F hF p2 sd3 (by omega) (by omega) ([3, 3, 4, 2, 1] : List Int) ⟨by decide, by decide⟩) f80_ ⟨.inr (.tmp rfl), .inl ⟨_, (.tmp rfl), .frs⟩, trivial⟩ rfl rfl rfl (nB rfl) (fun x6 p7 sd8 hc9 => ?_)
  obtain ⟨hc9x, hc9c⟩ := hc9
  obtain ⟨hc91, hc92, hc93⟩ := hc9c
  refine pu (.assign rfl (.tmp rfl)) rfl rfl rfl ?_
  refine ARun.nil ?_
  refine AW.seq ?_
  refine AW.region ?_
  obtain ⟨hk1, hk4⟩ := kind_small hc9x
  have hk8 : x6 ≤ 8 := by omega
  refine pu (.move rfl (.tmp rfl)) rfl rfl rfl ?_
  refine pu (.build (ys := [.int .i64 x6]) (l := [.int .i64 0, .str ByteArray.empty, Fo.fv Fo.nil, Fo.fv Fo.nil]) (pl := [(0, 1), (1, 1), (2, 1), (3, 1)]) (z := (.agg #[.int .i64 0, .string ByteArray.empty, .pointer none, .pointer none])) rfl (by kernel_rfl) (by kernel_rfl) (fun _ _ _ => ⟨_, _, rfl, rfl, ⟨_, _, rfl, ⟨rfl, by decide⟩, ⟨_, _, rfl, rfl, ⟨_, _, rfl, rfl, rfl⟩⟩⟩⟩) ⟨(.tmp rfl), trivial, rfl, trivial⟩ rfl) rfl rfl rfl ?_
  refine ARun.box (id := 0) rfl (.tmp rfl) (SV.cells_of (by exact ⟨trivial, trivial, ⟨rfl, (fun _ e => by cases e), (fun _ e => by cases e)⟩, ⟨rfl, (fun _ e => by cases e), (fun _ e => by cases e)⟩, trivial⟩)) ⟨(by refine fr_env rfl ?_; (repeat refine env_cons (by first | with_reducible exact Fo.noS _ _ | with_reducible exact Fo.noS' _ _ | exact rfl | exact Fo.noS _ _ | exact Fo.noS' _ _ | exact agg_no (by repeat' first | with_reducible exact Fo.no _ _ | with_reducible exact Fo.no' _ _ | exact rfl | exact Fo.no _ _ | exact Fo.no' _ _ | refine no_cons ?_ ?_)) ?_); exact rfl), (by repeat first | exact trivial | refine ⟨by decide, by first | rfl | exact trivial | (intro i j; first | rfl | exact getD_no rfl | (dsimp only; split <;> first | rfl | exact getD_no rfl) | exact scl_no (by apply_assumption) _), ?_⟩)⟩ (by repeat' first | exact rfl | exact Fo.no _ _ | exact Fo.no' _ _ | refine no_cons ?_ ?_) rfl rfl (nB rfl) ?_
  refine pu (.assign rfl (.tmp rfl)) rfl rfl rfl ?_
  refine ARun.nil ?_
  refine AW.seq ?_
  refine AW.block ?_
  refine AW.seq ?_
  refine AW.region ?_
  refine pu (.move rfl (.tmp rfl)) rfl rfl rfl ?_
  refine pu (.intOp rfl (.tmp rfl) .int rfl) rfl rfl rfl ?_
  refine pu (.assign rfl (.tmp rfl)) rfl rfl rfl ?_
  refine ARun.nil ?_
  refine AW.cond (.tmp rfl) (fun hb10 => ?_) (fun hb10 => ?_)
  ·
   replace hb10 := of_decide_eq_true hb10
   have h3 := hb10
   refine AW.region ?_
   refine pu (.move rfl (.tmp rfl)) rfl rfl rfl ?_
   refine pu (.move rfl (.tmp rfl)) rfl rfl rfl ?_
   refine ARun.fresh (FreshOp.strs4 (a1 := (⟨#[97]⟩ : ByteArray)) (a2 := (⟨#[98]⟩ : ByteArray)) (a3 := (⟨#[97]⟩ : ByteArray)) (a4 := (⟨#[122]⟩ : ByteArray)) rfl (.str (by decide)) (.str (by decide)) (.str (by decide)) (.str (by decide)) Try.underlying62 (by kernel_rfl)) rfl rfl (nB rfl) ?_
   refine ARun.cur (id := 1000000) rfl (vc_Of n F hF p7 sd8 (by omega) (by omega) ([(⟨#[97]⟩ : ByteArray), (⟨#[98]⟩ : ByteArray), (⟨#[97]⟩ : ByteArray), (⟨#[122]⟩ : ByteArray)] : List ByteArray) ⟨by decide, by decide⟩) f81_ ⟨.inr (.tmp rfl), .inl ⟨_, (.tmp rfl), .frs⟩, trivial⟩ rfl rfl rfl (nB rfl) (fun x11 p12 sd13 hc14 => ?_)
   obtain ⟨hc14x, hc14c⟩ := hc14
   obtain ⟨hc141, hc142, hc143⟩ := hc14c
   refine pu (.nilPtr rfl (.tmp rfl)) rfl rfl rfl ?_
   refine pu (.fieldPtr rfl (.tmp rfl) f23_) rfl rfl rfl ?_
   refine ARun.store rfl (.tmp rfl) (.tmp rfl) trivial rfl (nB rfl) f50_ rfl rfl ?_
   refine ARun.nil ?_
   refine AW.seq ?_
   refine AW.region ?_
   refine pu (.move rfl (.tmp rfl)) rfl rfl rfl ?_
   refine pu (.assign rfl (.tmp rfl)) rfl rfl rfl ?_
   refine ARun.nil ?_
   exact AW.ret (show ∃ x t, _ ∧ ResN _ _ [.tmp 4] t ∧ _ ∧ _ ∧ _ from ⟨(Fo.mk x6 x11 Fo.nil Fo.nil, p12, sd13), _, ⟨letter_ok hc14x h3, szD_pos d, ⟨(by show p ≤ p12; omega), (by show p12 ≤ p + kD d; omega), (by show sd13 < 18446744073709551616; omega)⟩⟩, (.inl (.inl ⟨_, rfl, .tmp rfl⟩)), (Fp.ptr rfl rfl rfl (nB rfl) (fun j hj => match j, hj with | 0, _ => .int | 1, _ => .str | 2, _ => .con | 3, _ => .con | _ + 4, h => absurd (show _ < 4 from h) (by omega))), rfl, rfl⟩)
  ·
   replace hb10 := of_decide_eq_false hb10
   have h3 := hb10
   refine AW.seq ?_
   refine AW.region ?_
   refine pu (.move rfl (.tmp rfl)) rfl rfl rfl ?_
   refine pu (.call rfl (v_l5Two x6) ⟨⟨_, (.tmp rfl), .int⟩, trivial⟩ f30_ trivial) rfl rfl rfl ?_
   refine pu (.assign rfl (.tmp rfl)) rfl rfl rfl ?_
   refine ARun.nil ?_
   refine AW.cond (.tmp rfl) (fun hb15 => ?_) (fun hb15 => ?_)
   ·
    rw [(small_no hk4).1] at hb15; cases hb15
    --end
   ·
    have h2 := hb15
    refine AW.seq ?_
    refine AW.region ?_
    refine pu (.move rfl (.tmp rfl)) rfl rfl rfl ?_
    refine pu (.call rfl (v_l5One x6) ⟨⟨_, (.tmp rfl), .int⟩, trivial⟩ f31_ trivial) rfl rfl rfl ?_
    refine pu (.assign rfl (.tmp rfl)) rfl rfl rfl ?_
    refine ARun.nil ?_
    refine AW.cond (.tmp rfl) (fun hb16 => ?_) (fun hb16 => ?_)
    ·
     rw [(small_no hk4).2] at hb16; cases hb16
     --end
    ·
     have h1 := hb16
     refine AW.skip ?_
     refine AW.seq ?_
     refine AW.region ?_
     refine pu (.move rfl (.tmp rfl)) rfl rfl rfl ?_
     refine pu (.assign rfl (.tmp rfl)) rfl rfl rfl ?_
     refine ARun.nil ?_
     exact AW.ret (show ∃ x t, _ ∧ ResN _ _ [.tmp 4] t ∧ _ ∧ _ ∧ _ from ⟨(Fo.mk x6 ByteArray.empty Fo.nil Fo.nil, p7, sd8), _, ⟨leaf_ok hk1 hk8 h3 h2 h1, szD_pos d, ⟨(by show p ≤ p7; omega), (by show p7 ≤ p + kD d; omega), (by show sd8 < 18446744073709551616; omega)⟩⟩, (.inl (.inl ⟨_, rfl, .tmp rfl⟩)), (Fp.ptr rfl rfl rfl (nB rfl) (fun j hj => match j, hj with | 0, _ => .int | 1, _ => .str | 2, _ => .con | 3, _ => .con | _ + 4, h => absurd (show _ < 4 from h) (by omega))), rfl, rfl⟩)
 ·
  replace hb5 := of_decide_eq_false hb5
  have hd0 : 0 < d := by omega
  have hK := kD_s hd0
  have hK6 := kD_6 (d - 1)
  have hk1 : (1 : Int) ≤ ((1 + x1 : Nat) : Int) := by omega
  have hk8 : ((1 + x1 : Nat) : Int) ≤ 8 := by rcases hc4x with hx | hx <;> omega
  refine AW.skip ?_
  refine AW.seq ?_
  refine AW.region ?_
  refine pu (.move rfl (.tmp rfl)) rfl rfl rfl ?_
  refine pu (.build (ys := [.int .i64 ((1 + x1 : Nat) : Int)]) (l := [.int .i64 0, .str ByteArray.empty, Fo.fv Fo.nil, Fo.fv Fo.nil]) (pl := [(0, 1), (1, 1), (2, 1), (3, 1)]) (z := (.agg #[.int .i64 0, .string ByteArray.empty, .pointer none, .pointer none])) rfl (by kernel_rfl) (by kernel_rfl) (fun _ _ _ => ⟨_, _, rfl, rfl, ⟨_, _, rfl, ⟨rfl, by decide⟩, ⟨_, _, rfl, rfl, ⟨_, _, rfl, rfl, rfl⟩⟩⟩⟩) ⟨(.tmp rfl), trivial, rfl, trivial⟩ rfl) rfl rfl rfl ?_
  refine ARun.box (id := 1) rfl (.tmp rfl) (SV.cells_of (by exact ⟨trivial, trivial, ⟨rfl, (fun _ e => by cases e), (fun _ e => by cases e)⟩, ⟨rfl, (fun _ e => by cases e), (fun _ e => by cases e)⟩, trivial⟩)) ⟨(by refine fr_env rfl ?_; (repeat refine env_cons (by first | with_reducible exact Fo.noS _ _ | with_reducible exact Fo.noS' _ _ | exact rfl | exact Fo.noS _ _ | exact Fo.noS' _ _ | exact agg_no (by repeat' first | with_reducible exact Fo.no _ _ | with_reducible exact Fo.no' _ _ | exact rfl | exact Fo.no _ _ | exact Fo.no' _ _ | refine no_cons ?_ ?_)) ?_); exact rfl), (by repeat first | exact trivial | refine ⟨by decide, by first | rfl | exact trivial | (intro i j; first | rfl | exact getD_no rfl | (dsimp only; split <;> first | rfl | exact getD_no rfl) | exact scl_no (by apply_assumption) _), ?_⟩)⟩ (by repeat' first | exact rfl | exact Fo.no _ _ | exact Fo.no' _ _ | refine no_cons ?_ ?_) rfl rfl (nB rfl) ?_
  refine pu (.assign rfl (.tmp rfl)) rfl rfl rfl ?_
  refine ARun.nil ?_
  refine AW.seq ?_
  refine AW.block ?_
  refine AW.seq ?_
  refine AW.region ?_
  refine pu (.move rfl (.tmp rfl)) rfl rfl rfl ?_
  refine pu (.intOp rfl (.tmp rfl) .int rfl) rfl rfl rfl ?_
  refine pu (.assign rfl (.tmp rfl)) rfl rfl rfl ?_
  refine ARun.nil ?_
  refine AW.cond (.tmp rfl) (fun hb17 => ?_) (fun hb17 => ?_)
  ·
   replace hb17 := of_decide_eq_true hb17
   have h3 := hb17
   refine AW.region ?_
   refine pu (.move rfl (.tmp rfl)) rfl rfl rfl ?_
   refine pu (.move rfl (.tmp rfl)) rfl rfl rfl ?_
   refine ARun.fresh (FreshOp.strs4 (a1 := (⟨#[97]⟩ : ByteArray)) (a2 := (⟨#[98]⟩ : ByteArray)) (a3 := (⟨#[97]⟩ : ByteArray)) (a4 := (⟨#[122]⟩ : ByteArray)) rfl (.str (by decide)) (.str (by decide)) (.str (by decide)) (.str (by decide)) Try.underlying62 (by kernel_rfl)) rfl rfl (nB rfl) ?_
   refine ARun.cur (id := 1000000) rfl (vc_Of n F hF p2 sd3 (by omega) (by omega) ([(⟨#[97]⟩ : ByteArray), (⟨#[98]⟩ : ByteArray), (⟨#[97]⟩ : ByteArray), (⟨#[122]⟩ : ByteArray)] : List ByteArray) ⟨by decide, by decide⟩) f81_ ⟨.inr (.tmp rfl), .inl ⟨_, (.tmp rfl), .frs⟩, trivial⟩ rfl rfl rfl (nB rfl) (fun x18 p19 sd20 hc21 => ?_)
   obtain ⟨hc21x, hc21c⟩ := hc21
   obtain ⟨hc211, hc212, hc213⟩ := hc21c
   refine pu (.nilPtr rfl (.tmp rfl)) rfl rfl rfl ?_
   refine pu (.fieldPtr rfl (.tmp rfl) f23_) rfl rfl rfl ?_
   refine ARun.store rfl (.tmp rfl) (.tmp rfl) trivial rfl (nB rfl) f50_ rfl rfl ?_
   refine ARun.nil ?_
   refine AW.seq ?_
   refine AW.region ?_
   refine pu (.move rfl (.tmp rfl)) rfl rfl rfl ?_
   refine pu (.assign rfl (.tmp rfl)) rfl rfl rfl ?_
   refine ARun.nil ?_
   exact AW.ret (show ∃ x t, _ ∧ ResN _ _ [.tmp 4] t ∧ _ ∧ _ ∧ _ from ⟨(Fo.mk ((1 + x1 : Nat) : Int) x18 Fo.nil Fo.nil, p19, sd20), _, ⟨letter_ok hc21x h3, szD_pos d, ⟨(by show p ≤ p19; omega), (by show p19 ≤ p + kD d; omega), (by show sd20 < 18446744073709551616; omega)⟩⟩, (.inl (.inl ⟨_, rfl, .tmp rfl⟩)), (Fp.ptr rfl rfl rfl (nB rfl) (fun j hj => match j, hj with | 0, _ => .int | 1, _ => .str | 2, _ => .con | 3, _ => .con | _ + 4, h => absurd (show _ < 4 from h) (by omega))), rfl, rfl⟩)
  ·
   replace hb17 := of_decide_eq_false hb17
   have h3 := hb17
   refine AW.seq ?_
   refine AW.region ?_
   refine pu (.move rfl (.tmp rfl)) rfl rfl rfl ?_
   refine pu (.call rfl (v_l5Two ((1 + x1 : Nat) : Int)) ⟨⟨_, (.tmp rfl), .int⟩, trivial⟩ f30_ trivial) rfl rfl rfl ?_
   refine pu (.assign rfl (.tmp rfl)) rfl rfl rfl ?_
   refine ARun.nil ?_
   refine AW.cond (.tmp rfl) (fun hb22 => ?_) (fun hb22 => ?_)
   ·
    have h2 := hb22
    refine AW.seq ?_
    refine AW.region ?_
    refine pu (.move rfl (.tmp rfl)) rfl rfl rfl ?_
    refine pu (.move rfl (.tmp rfl)) rfl rfl rfl ?_
    refine pu (.move rfl (.tmp rfl)) rfl rfl rfl ?_
    refine pu (.sub (c := ((d - 1 : Nat) : Int)) rfl (.tmp rfl) .int (by rw [wrap_id (by omega) (by omega)]; omega)) rfl rfl rfl ?_
    refine ARun.nn 1000000 rfl (ih hd0 p2 sd3 (by omega) (by omega)) f79_ ⟨.inr (.tmp rfl), .inl ⟨_, (.tmp rfl), .int⟩, trivial⟩ rfl rfl rfl (fun _ _ => rfl) (by repeat first | exact trivial | refine ⟨.inr rfl, ?_⟩ | refine ⟨.inl rfl, ?_⟩) rfl rfl (nB rfl) (r' := fun x => .one x.1.fv) (fun _ => congrArg SV.one (Fo.fr _)) (fun x23 hc24 => ?_)
    obtain ⟨hc24w, hc24z, hc24k⟩ := hc24
    obtain ⟨hc241, hc242, hc243⟩ := hc24k
    refine pu (.nilPtr rfl (.tmp rfl)) rfl rfl rfl ?_
    refine pu (.fieldPtr rfl (.tmp rfl) f24_) rfl rfl rfl ?_
    refine ARun.store rfl (.tmp rfl) (.tmp rfl) (Fo.cell _) rfl (nB rfl) f57_ rfl rfl ?_
    refine ARun.nil ?_
    refine AW.region ?_
    refine pu (.move rfl (.tmp rfl)) rfl rfl rfl ?_
    refine pu (.move rfl (.tmp rfl)) rfl rfl rfl ?_
    refine pu (.move rfl (.tmp rfl)) rfl rfl rfl ?_
    refine pu (.sub (c := ((d - 1 : Nat) : Int)) rfl (.tmp rfl) .int (by rw [wrap_id (by omega) (by omega)]; omega)) rfl rfl rfl ?_
    refine ARun.nn 1000000 rfl (ih hd0 x23.2.1 x23.2.2 (by omega) (by omega)) f79_ ⟨.inr (.tmp rfl), .inl ⟨_, (.tmp rfl), .int⟩, trivial⟩ rfl rfl rfl (fun _ _ => rfl) (by repeat first | exact trivial | refine ⟨.inr rfl, ?_⟩ | refine ⟨.inl rfl, ?_⟩) rfl rfl (nB rfl) (r' := fun x => .one x.1.fv) (fun _ => congrArg SV.one (Fo.fr _)) (fun x25 hc26 => ?_)
    obtain ⟨hc26w, hc26z, hc26k⟩ := hc26
    obtain ⟨hc261, hc262, hc263⟩ := hc26k
    refine pu (.nilPtr rfl (.tmp rfl)) rfl rfl rfl ?_
    refine pu (.fieldPtr rfl (.tmp rfl) f25_) rfl rfl rfl ?_
    refine ARun.store rfl (.tmp rfl) (.tmp rfl) (Fo.cell _) rfl (nB rfl) f57_ rfl rfl ?_
    refine ARun.nil ?_
    refine AW.seq ?_
    refine AW.region ?_
    refine pu (.move rfl (.tmp rfl)) rfl rfl rfl ?_
    refine pu (.assign rfl (.tmp rfl)) rfl rfl rfl ?_
    refine ARun.nil ?_
    exact AW.ret (show ∃ x t, _ ∧ ResN _ _ [.tmp 4] t ∧ _ ∧ _ ∧ _ from ⟨(Fo.mk ((1 + x1 : Nat) : Int) ByteArray.empty x23.1 x25.1, x25.2.1, x25.2.2), _, ⟨.two h2 hc24w hc26w, szD_le hc24z hd0 hc26z, ⟨(by show p ≤ x25.2.1; omega), (by show x25.2.1 ≤ p + kD d; omega), (by show x25.2.2 < 18446744073709551616; omega)⟩⟩, (.inl (.inl ⟨_, rfl, .tmp rfl⟩)), (Fp.ptr rfl rfl rfl (nB rfl) (fun j hj => match j, hj with | 0, _ => .int | 1, _ => .str | 2, _ => (Fo.fp _ _) | 3, _ => (Fo.fp _ _) | _ + 4, h => absurd (show _ < 4 from h) (by omega))), rfl, rfl⟩)
   ·
    have h2 := hb22
    refine AW.seq ?_
    refine AW.region ?_
    refine pu (.move rfl (.tmp rfl)) rfl rfl rfl ?_
    refine pu (.call rfl (v_l5One ((1 + x1 : Nat) : Int)) ⟨⟨_, (.tmp rfl), .int⟩, trivial⟩ f31_ trivial) rfl rfl rfl ?_
    refine pu (.assign rfl (.tmp rfl)) rfl rfl rfl ?_
    refine ARun.nil ?_
    refine AW.cond (.tmp rfl) (fun hb27 => ?_) (fun hb27 => ?_)
    ·
     have h1 := hb27
     refine AW.region ?_
     refine pu (.move rfl (.tmp rfl)) rfl rfl rfl ?_
     refine pu (.move rfl (.tmp rfl)) rfl rfl rfl ?_
     refine pu (.move rfl (.tmp rfl)) rfl rfl rfl ?_
     refine pu (.sub (c := ((d - 1 : Nat) : Int)) rfl (.tmp rfl) .int (by rw [wrap_id (by omega) (by omega)]; omega)) rfl rfl rfl ?_
     refine ARun.nn 1000000 rfl (ih hd0 p2 sd3 (by omega) (by omega)) f79_ ⟨.inr (.tmp rfl), .inl ⟨_, (.tmp rfl), .int⟩, trivial⟩ rfl rfl rfl (fun _ _ => rfl) (by repeat first | exact trivial | refine ⟨.inr rfl, ?_⟩ | refine ⟨.inl rfl, ?_⟩) rfl rfl (nB rfl) (r' := fun x => .one x.1.fv) (fun _ => congrArg SV.one (Fo.fr _)) (fun x28 hc29 => ?_)
     obtain ⟨hc29w, hc29z, hc29k⟩ := hc29
     obtain ⟨hc291, hc292, hc293⟩ := hc29k
     refine pu (.nilPtr rfl (.tmp rfl)) rfl rfl rfl ?_
     refine pu (.fieldPtr rfl (.tmp rfl) f24_) rfl rfl rfl ?_
     refine ARun.store rfl (.tmp rfl) (.tmp rfl) (Fo.cell _) rfl (nB rfl) f57_ rfl rfl ?_
     refine ARun.nil ?_
     refine AW.seq ?_
     refine AW.region ?_
     refine pu (.move rfl (.tmp rfl)) rfl rfl rfl ?_
     refine pu (.assign rfl (.tmp rfl)) rfl rfl rfl ?_
     refine ARun.nil ?_
     exact AW.ret (show ∃ x t, _ ∧ ResN _ _ [.tmp 4] t ∧ _ ∧ _ ∧ _ from ⟨(Fo.mk ((1 + x1 : Nat) : Int) ByteArray.empty x28.1 Fo.nil, x28.2.1, x28.2.2), _, ⟨.one h1 hc29w, szD_le hc29z hd0 (Nat.zero_le _), ⟨(by show p ≤ x28.2.1; omega), (by show x28.2.1 ≤ p + kD d; omega), (by show x28.2.2 < 18446744073709551616; omega)⟩⟩, (.inl (.inl ⟨_, rfl, .tmp rfl⟩)), (Fp.ptr rfl rfl rfl (nB rfl) (fun j hj => match j, hj with | 0, _ => .int | 1, _ => .str | 2, _ => (Fo.fp _ _) | 3, _ => .con | _ + 4, h => absurd (show _ < 4 from h) (by omega))), rfl, rfl⟩)
    ·
     have h1 := hb27
     refine AW.skip ?_
     refine AW.seq ?_
     refine AW.region ?_
     refine pu (.move rfl (.tmp rfl)) rfl rfl rfl ?_
     refine pu (.assign rfl (.tmp rfl)) rfl rfl rfl ?_
     refine ARun.nil ?_
     exact AW.ret (show ∃ x t, _ ∧ ResN _ _ [.tmp 4] t ∧ _ ∧ _ ∧ _ from ⟨(Fo.mk ((1 + x1 : Nat) : Int) ByteArray.empty Fo.nil Fo.nil, p2, sd3), _, ⟨leaf_ok hk1 hk8 h3 h2 h1, szD_pos d, ⟨(by show p ≤ p2; omega), (by show p2 ≤ p + kD d; omega), (by show sd3 < 18446744073709551616; omega)⟩⟩, (.inl (.inl ⟨_, rfl, .tmp rfl⟩)), (Fp.ptr rfl rfl rfl (nB rfl) (fun j hj => match j, hj with | 0, _ => .int | 1, _ => .str | 2, _ => .con | 3, _ => .con | _ + 4, h => absurd (show _ < 4 from h) (by omega))), rfl, rfl⟩)
theorem v_FormOf (n : Nat) (F : Nat → Nat) (hF : ∀ i, F i < 256) (c : Value) : ∀ (d : Nat), d ≤ 3 → ∀ p s : Nat, p + kD d ≤ 1000000000 → s < 18446744073709551616 → FnN Try.prog 80 [.one (.ptr 1000000 3 0 0), .one (.int .i64 ((d : Nat) : Int))] [.cv c (.lst 1 n (fun i _ => .int .u8 ((F i : Nat) : Int))), .int .i64 (p : Int), .int .u64 ((s : Nat) : Int)] (fun (x : Fo × Nat × Nat) => Wf x.1 ∧ x.1.size ≤ szD d ∧ CurOk p (kD d) x.2.1 x.2.2) (fun (x : Fo × Nat × Nat) => .one x.1.av) (fun x => [.cv c (.lst 1 n (fun i _ => .int .u8 ((F i : Nat) : Int))), .int .i64 (x.2.1 : Int), .int .u64 (x.2.2 : Int)])
  | 0 => fun hd p s hp hs => v_FormOfS n F hF c 0 hd (fun h => absurd h (Nat.not_lt_zero _)) p s hp hs
  | d + 1 => fun hd p s hp hs => v_FormOfS n F hF c (d + 1) hd (fun _ => v_FormOf n F hF c d (by omega)) p s hp hs
end Go.Proofs.Ytonfeiloekofdaa

namespace Go.Proofs.Ytonfeiloekofdaa
open Go.ChangeShapes Go.WideShapes Go.ChangeAt Go.RowKit Go.BigFrame Go.Deep
set_option linter.unusedVariables false
set_option linter.unusedSimpArgs false
theorem f82_ : callB Try.prog 17 = true := by kernel_rfl
theorem f83_ : callB Try.prog 42 = true := by kernel_rfl
theorem f84_ : callB Try.prog 51 = true := by kernel_rfl
theorem f85_ : callB Try.prog 52 = true := by kernel_rfl
theorem f86_ : callB Try.prog 53 = true := by kernel_rfl
def setA (l : List GPart) (k : Nat) (v : Int) : List GPart := l.set k ⟨(l.getD k default).kind, (l.getD k default).text, v, (l.getD k default).b⟩
theorem setA_len (l : List GPart) (k : Nat) (v : Int) : (setA l k v).length = l.length := List.length_set
theorem setA_row {l : List GPart} {k i j : Nat} {v : Int} (hk : k < l.length) (hj : j < 4) : (if i = k ∧ j = 2 then .int .i64 v else rowP l i j) = rowP (setA l k v) i j := by
  have e : (setA l k v).getD i default = if i = k then ⟨(l.getD k default).kind, (l.getD k default).text, v, (l.getD k default).b⟩ else l.getD i default := by
    unfold setA
    rw [List.getD_eq_getElem?_getD, List.getElem?_set]
    by_cases h : k = i
    · rw [if_pos h, if_pos h.symm, if_pos (by omega)]; rfl
    · rw [if_neg h, if_neg (fun h' => h h'.symm), List.getD_eq_getElem?_getD]
  unfold rowP
  rw [e]
  by_cases h : i = k
  · subst h
    rw [if_pos rfl]
    match j, hj with
    | 0, _ => rw [if_neg (fun h => by cases h.2)]; rfl
    | 1, _ => rw [if_neg (fun h => by cases h.2)]; rfl
    | 2, _ => rw [if_pos ⟨rfl, rfl⟩]; rfl
    | 3, _ => rw [if_neg (fun h => by cases h.2)]; rfl
  · rw [if_neg h, if_neg (fun h' => h h'.1)]
theorem Fp.castR {H : Heap} {x y z : AV} (h : Fp H x y) (e : y = z) : Fp H x z := e ▸ h
theorem rowP_fp {H : Heap} {l : List GPart} {i j : Nat} (hj : j < 4) : Fp H (rowP l i j) (rowP l i j) := match j, hj with
  | 0, _ => .int
  | 1, _ => .str
  | 2, _ => .int
  | 3, _ => .int
theorem Fp.of_eq {H : Heap} {x y z : AV} (e : x = y) (h : Fp H y z) : Fp H x z := e ▸ h
theorem vc_Form (n : Nat) (F : Nat → Nat) (hF : ∀ i, F i < 256) (c : Value) (p s : Nat) (hp : p ≤ 100000000) (hs : s < 18446744073709551616) : FnN Try.prog 51 [.one (.ptr 1000000 3 0 0)] [.cv c (.lst 1 n (fun i _ => .int .u8 ((F i : Nat) : Int))), .int .i64 (p : Int), .int .u64 ((s : Nat) : Int)] (fun (x : List GPart × Nat × Nat) => 1 ≤ x.1.length ∧ x.1.length ≤ 15 ∧ CurOk p 100 x.2.1 x.2.2) (fun (x : List GPart × Nat × Nat) => .one (.lst 4 x.1.length (rowP x.1))) (fun x => [.cv c (.lst 1 n (fun i _ => .int .u8 ((F i : Nat) : Int))), .int .i64 (x.2.1 : Int), .int .u64 (x.2.2 : Int)]) := by
 refine FnN.of_body (fn := Try.f51) Try.func51 rfl (nB rfl) ?_
 intro kk YY w0
 show AW _ 20 _ _ _ _
 refine AW.seq ?_
 refine AW.region ?_
 refine pu (.assign rfl .con) rfl rfl rfl ?_
 refine ARun.nil ?_
 refine AW.seq ?_
 refine AW.region ?_
 refine pu (.move rfl (.tmp rfl)) rfl rfl rfl ?_
 refine ARun.nn 1000000 rfl (v_FormOf n F hF c 3 (Nat.le_refl _) p s (show p + 90 ≤ 1000000000 from by omega) (by omega)) f79_ ⟨.inr (.tmp rfl), .inl ⟨_, .int, .int⟩, trivial⟩ rfl rfl rfl (fun _ _ => rfl) (by repeat first | exact trivial | refine ⟨.inr rfl, ?_⟩ | refine ⟨.inl rfl, ?_⟩) rfl rfl (nB rfl) (r' := fun x => .one x.1.fv) (fun _ => congrArg SV.one (Fo.fr _)) (fun x1 hc2 => ?_)
 have h90 : kD 3 = 90 := rfl
 obtain ⟨hc2w, hc2z, hc2k⟩ := hc2
 have hpos := hc2w.pos
 have hz15 : x1.1.size ≤ 15 := hc2z
 obtain ⟨hc21, hc22, hc23⟩ := hc2k
 have hwf := hc2w
 refine ARun.mutx (Hr := [(1000000, .cells [.cv c (.lst 1 n (fun i _ => .int .u8 ((F i : Nat) : Int))), .int .i64 (x1.2.1 : Int), .int .u64 ((x1.2.2 : Nat) : Int)]), (1000001, .trees kk YY)]) (Hn := [(50, .arr 4 x1.1.size (rowP (flatAt x1.1 0))), (1000000, .cells [.cv c (.lst 1 n (fun i _ => .int .u8 ((F i : Nat) : Int))), .int .i64 (x1.2.1 : Int), .int .u64 ((x1.2.2 : Nat) : Int)]), (1000001, .trees kk YY)]) (g := fun zz => zz) (g' := fun zz => if zz = 900 then 50 else zz) (K := [900]) (T := [(50, 900)]) rfl (v_l5FlatNil x1.1 hwf (by omega)) f29_ ⟨.inl ⟨_, (.tmp rfl), (Fo.vw _ _)⟩, ⟨.inl ⟨_, .con, .con⟩, trivial⟩⟩ trivial ⟨⟨rfl, rfl⟩, ⟨rfl, rfl⟩, trivial⟩ rfl ⟨⟨(by refine fr_env rfl ?_; (repeat refine env_cons (by first | with_reducible exact Fo.noS _ _ | with_reducible exact Fo.noS' _ _ | exact rfl | exact Fo.noS _ _ | exact Fo.noS' _ _ | exact agg_no (by repeat' first | with_reducible exact Fo.no _ _ | with_reducible exact Fo.no' _ _ | exact rfl | exact Fo.no _ _ | exact Fo.no' _ _ | refine no_cons ?_ ?_)) ?_); exact rfl), (by repeat first | exact trivial | refine ⟨by decide, by first | rfl | exact trivial | (intro i j; first | rfl | exact getD_no rfl | (dsimp only; split <;> first | rfl | exact getD_no rfl) | exact scl_no (by apply_assumption) _), ?_⟩)⟩, trivial⟩ (by kernel_rfl) (by kernel_rfl) (by kernel_rfl) ⟨.inr ⟨900, _, rfl, rfl, rfl, ⟨rfl, rfl, fun i j hi hj => rowP_ren hj⟩, (fun i j hi hj => rowP_hx hj)⟩, .inl rfl, .inl rfl, trivial⟩ rfl rfl (nB rfl) (r' := .one (.own 50 4 x1.1.size)) rfl ?_
 refine pu (.assign rfl (.tmp rfl)) rfl rfl rfl ?_
 refine ARun.nil ?_
 refine AW.seq ?_
 refine AW.seq ?_
 refine AW.region ?_
 refine pu (.move rfl (.tmp rfl)) rfl rfl rfl ?_
 refine ARun.cur (id := 1000000) rfl (vc_One n F hF x1.2.1 x1.2.2 (by omega) (by omega) 20 (by omega)) f85_ ⟨.inr (.tmp rfl), .inl ⟨_, .int, .int⟩, trivial⟩ rfl rfl rfl (nB rfl) (fun x3 p4 sd5 hc6 => ?_)
 have hc6c := hc6
 obtain ⟨hc61, hc62, hc63⟩ := hc6c
 refine ARun.nil ?_
 refine AW.cond (.tmp rfl) (fun hb7 => ?_) (fun hb7 => ?_)
 ·
  refine AW.region ?_
  refine pu (.move rfl (.tmp rfl)) rfl rfl rfl ?_
  refine pu (.move rfl (.tmp rfl)) rfl rfl rfl ?_
  refine pu (.move rfl (.tmp rfl)) rfl rfl rfl ?_
  refine pu (.lenOwn rfl (.tmp rfl) f34_) rfl rfl rfl ?_
  refine ARun.cur (id := 1000000) rfl (vc_Pick n F hF p4 sd5 (by omega) (by omega) x1.1.size (by omega)) f68_ ⟨.inr (.tmp rfl), .inl ⟨_, (.tmp rfl), .int⟩, trivial⟩ rfl rfl rfl (nB rfl) (fun x8 p9 sd10 hc11 => ?_)
  obtain ⟨hc11x, hc11c⟩ := hc11
  obtain ⟨hc111, hc112, hc113⟩ := hc11c
  refine pu (.move rfl (.tmp rfl)) rfl rfl rfl ?_
  refine ARun.cur (id := 1000000) rfl (vc_Pick n F hF p9 sd10 (by omega) (by omega) 9 (by omega)) f68_ ⟨.inr (.tmp rfl), .inl ⟨_, .int, .int⟩, trivial⟩ rfl rfl rfl (nB rfl) (fun x12 p13 sd14 hc15 => ?_)
  obtain ⟨hc15x, hc15c⟩ := hc15
  obtain ⟨hc151, hc152, hc153⟩ := hc15c
  refine pu (.sub (c := (x12 : Int) - 1) rfl (.tmp rfl) .int (wrap_id (by rcases hc15x with hx | hx <;> omega) (by rcases hc15x with hx | hx <;> omega))) rfl rfl rfl ?_
  refine pu (.indexOwn (i := x8) rfl (.tmp rfl) f45_ (.tmp rfl) rfl (by rcases hc11x with hx | hx <;> omega)) rfl rfl rfl ?_
  refine pu (.fieldPtr rfl (.tmp rfl) f32_) rfl rfl rfl ?_
  refine ARun.storeArr rfl (.tmp rfl) (.tmp rfl) trivial rfl (show x8 < x1.1.size from by rcases hc11x with hx | hx <;> omega) (nB rfl) f5_ rfl rfl ?_
  refine ARun.nil ?_
  refine AW.seq ?_
  refine AW.region ?_
  refine pu (.move rfl (.tmp rfl)) rfl rfl rfl ?_
  refine pu (.assign rfl (.tmp rfl)) rfl rfl rfl ?_
  refine ARun.nil ?_
  exact AW.ret (show ∃ x t, _ ∧ ResN _ _ [.tmp 2] t ∧ _ ∧ _ ∧ _ from ⟨((setA (flatAt x1.1 0) x8 ((x12 : Int) - 1)), p13, sd14), _, ⟨by rw [setA_len, flatAt_len]; omega, by rw [setA_len, flatAt_len]; omega, ⟨(by show p ≤ p13; omega), (by show p13 ≤ p + 100; omega), (by show sd14 < 18446744073709551616; omega)⟩⟩, (.inl (.inl ⟨_, rfl, .tmp rfl⟩)), (Fp.castR (Fp.own (g := rowP (setA (flatAt x1.1 0) x8 ((x12 : Int) - 1))) rfl rfl rfl (Nat.le_refl _) (fun i j hi hj => Fp.of_eq (setA_row (by rw [flatAt_len]; rcases hc11x with hx | hx <;> omega) hj) (rowP_fp hj))) (congrArg (fun q => AV.lst 4 q (rowP (setA (flatAt x1.1 0) x8 ((x12 : Int) - 1)))) ((setA_len _ _ _).trans (flatAt_len x1.1 0)).symm)), rfl, rfl⟩)
 ·
  refine AW.skip ?_
  refine AW.seq ?_
  refine AW.region ?_
  refine pu (.move rfl (.tmp rfl)) rfl rfl rfl ?_
  refine pu (.assign rfl (.tmp rfl)) rfl rfl rfl ?_
  refine ARun.nil ?_
  exact AW.ret (show ∃ x t, _ ∧ ResN _ _ [.tmp 2] t ∧ _ ∧ _ ∧ _ from ⟨((flatAt x1.1 0), p4, sd5), _, ⟨by rw [flatAt_len]; omega, by rw [flatAt_len]; omega, ⟨(by show p ≤ p4; omega), (by show p4 ≤ p + 100; omega), (by show sd5 < 18446744073709551616; omega)⟩⟩, (.inl (.inl ⟨_, rfl, .tmp rfl⟩)), (Fp.castR (Fp.own (g := rowP (flatAt x1.1 0)) rfl rfl rfl (Nat.le_refl _) (fun i j hi hj => rowP_fp hj)) (congrArg (fun q => AV.lst 4 q (rowP (flatAt x1.1 0))) (flatAt_len x1.1 0).symm)), rfl, rfl⟩)
theorem v_DrawGoodForm (n : Nat) (F : Nat → Nat) (hF : ∀ i, F i < 256) : FnE Try.prog 42 [.one (.lst 1 n (fun i _ => .int .u8 ((F i : Nat) : Int)))] (fun (x : List GPart) => 1 ≤ x.length ∧ x.length ≤ 15) (fun (x : List GPart) => .one (.lst 4 x.length (rowP x))) := by
 refine FnE.of_body (fn := Try.f42) Try.func42 rfl (nB rfl) ?_
 intro w0
 show AW _ 9 _ _ _ _
 refine AW.cv (t := 0) rfl (fun c0 => ?_)
 refine AW.seq ?_
 refine AW.region ?_
 refine pu (.assign rfl .con) rfl rfl rfl ?_
 refine ARun.nil ?_
 refine AW.seq ?_
 refine AW.region ?_
 refine pu (.move rfl (.tmp rfl)) rfl rfl rfl ?_
 refine pu (.build (ys := [.cv c0 (.lst 1 n (fun i _ => .int .u8 ((F i : Nat) : Int)))]) (l := [.con (.slice none 0 0), .int .i64 0, .int .u64 0]) (pl := [(0, 1), (1, 1), (2, 1)]) (z := (.agg #[.slice none 0 0, .int .i64 0, .int .u64 0])) rfl (by kernel_rfl) (by kernel_rfl) (fun _ _ _ => ⟨_, _, rfl, rfl, ⟨_, _, rfl, rfl, ⟨_, _, rfl, rfl, rfl⟩⟩⟩) ⟨(.tmp rfl), trivial, rfl, trivial⟩ rfl) rfl rfl rfl ?_
 refine ARun.box (id := 0) rfl (.tmp rfl) (SV.cells_of (by exact ⟨trivial, trivial, trivial, trivial⟩)) ⟨(by refine fr_env rfl ?_; (repeat refine env_cons (by first | with_reducible exact Fo.noS _ _ | with_reducible exact Fo.noS' _ _ | exact rfl | exact Fo.noS _ _ | exact Fo.noS' _ _ | exact agg_no (by repeat' first | with_reducible exact Fo.no _ _ | with_reducible exact Fo.no' _ _ | exact rfl | exact Fo.no _ _ | exact Fo.no' _ _ | refine no_cons ?_ ?_)) ?_); exact rfl), (by repeat first | exact trivial | refine ⟨by decide, by first | rfl | exact trivial | (intro i j; first | rfl | exact getD_no rfl | (dsimp only; split <;> first | rfl | exact getD_no rfl) | exact scl_no (by apply_assumption) _), ?_⟩)⟩ rfl rfl rfl (nB rfl) ?_
 refine pu (.assign rfl (.tmp rfl)) rfl rfl rfl ?_
 refine ARun.nil ?_
 refine AW.seq ?_
 refine AW.region ?_
 refine pu (.move rfl (.tmp rfl)) rfl rfl rfl ?_
 refine ARun.nn 0 rfl (vc_Form n F hF c0 0 0 (by omega) (by omega)) f84_ ⟨.inr (.tmp rfl), trivial⟩ rfl rfl rfl (fun _ _ => rfl) (by repeat first | exact trivial | refine ⟨.inr rfl, ?_⟩ | refine ⟨.inl rfl, ?_⟩) rfl rfl (nB rfl) (fun _ => rfl) (fun x1 hc2 => ?_)
 obtain ⟨hc2a, hc2b, hc2k⟩ := hc2
 obtain ⟨hc21, hc22, hc23⟩ := hc2k
 have hlf : 1 ≤ x1.1.length ∧ x1.1.length ≤ 15 := ⟨hc2a, hc2b⟩
 refine pu (.assign rfl (.tmp rfl)) rfl rfl rfl ?_
 refine ARun.nil ?_
 exact AW.ret (show ∃ x s, _ ∧ ResL _ _ [.tmp 2] s ∧ FvS _ s _ from ⟨x1.1, _, hlf, .inl ⟨_, rfl, .tmp rfl⟩, Fv.frs⟩)
theorem v_DrawFormText (n : Nat) (F : Nat → Nat) (hF : ∀ i, F i < 256) : FnE Try.prog 15 [.one (.lst 1 n (fun i _ => .int .u8 ((F i : Nat) : Int)))] (fun (x : List GPart) => 1 ≤ x.length ∧ x.length ≤ 15) (fun (x : List GPart) => .one (.lst 4 x.length (rowP x))) := by
 refine FnE.of_body (fn := Try.f15) Try.func15 rfl (nB rfl) ?_
 intro w0
 show AW _ 5 _ _ _ _
 refine AW.seq ?_
 refine AW.region ?_
 refine pu (.assign rfl .con) rfl rfl rfl ?_
 refine ARun.nil ?_
 refine AW.seq ?_
 refine AW.region ?_
 refine pu (.move rfl (.tmp rfl)) rfl rfl rfl ?_
 refine ARun.draw rfl (v_DrawGoodForm n F hF) f83_ ⟨⟨_, (.tmp rfl), .lst⟩, trivial⟩ rfl rfl (nB rfl) (fun x1 hd2 => ?_)
 have hdr := hd2
 refine pu (.assign rfl (.tmp rfl)) rfl rfl rfl ?_
 refine ARun.nil ?_
 exact AW.ret (show ∃ x s, _ ∧ ResL _ _ [.tmp 2] s ∧ FvS _ s _ from ⟨x1, _, hdr, .inl ⟨_, rfl, .tmp rfl⟩, Fv.frs⟩)
theorem v_DrawNotForm (n : Nat) (F : Nat → Nat) (hF : ∀ i, F i < 256) : FnE Try.prog 23 [.one (.lst 1 n (fun i _ => .int .u8 ((F i : Nat) : Int)))] (fun (x : List GPart) => 1 ≤ x.length ∧ x.length ≤ 15) (fun (x : List GPart) => .one (.lst 4 x.length (rowP x))) := by
 refine FnE.of_body (fn := Try.f23) Try.func23 rfl (nB rfl) ?_
 intro w0
 show AW _ 5 _ _ _ _
 refine AW.seq ?_
 refine AW.region ?_
 refine pu (.assign rfl .con) rfl rfl rfl ?_
 refine ARun.nil ?_
 refine AW.seq ?_
 refine AW.region ?_
 refine pu (.move rfl (.tmp rfl)) rfl rfl rfl ?_
 refine ARun.draw rfl (v_DrawGoodForm n F hF) f83_ ⟨⟨_, (.tmp rfl), .lst⟩, trivial⟩ rfl rfl (nB rfl) (fun x1 hd2 => ?_)
 have hdr := hd2
 refine pu (.assign rfl (.tmp rfl)) rfl rfl rfl ?_
 refine ARun.nil ?_
 exact AW.ret (show ∃ x s, _ ∧ ResL _ _ [.tmp 2] s ∧ FvS _ s _ from ⟨x1, _, hdr, .inl ⟨_, rfl, .tmp rfl⟩, Fv.frs⟩)
theorem v_DrawReadForm (n : Nat) (F : Nat → Nat) (hF : ∀ i, F i < 256) : FnE Try.prog 19 [.one (.lst 1 n (fun i _ => .int .u8 ((F i : Nat) : Int)))] (fun (x : ByteArray) => x.size ≤ 1000) (fun (x : ByteArray) => .one (.str x)) := by
 refine FnE.of_body (fn := Try.f19) Try.func19 rfl (nB rfl) ?_
 intro w0
 show AW _ 21 _ _ _ _
 refine AW.cv (t := 0) rfl (fun c0 => ?_)
 refine AW.seq ?_
 refine AW.region ?_
 refine pu (.assign rfl (.str (by decide))) rfl rfl rfl ?_
 refine ARun.nil ?_
 refine AW.seq ?_
 refine AW.region ?_
 refine pu (.move rfl (.tmp rfl)) rfl rfl rfl ?_
 refine pu (.build (ys := [.cv c0 (.lst 1 n (fun i _ => .int .u8 ((F i : Nat) : Int)))]) (l := [.con (.slice none 0 0), .int .i64 0, .int .u64 0]) (pl := [(0, 1), (1, 1), (2, 1)]) (z := (.agg #[.slice none 0 0, .int .i64 0, .int .u64 0])) rfl (by kernel_rfl) (by kernel_rfl) (fun _ _ _ => ⟨_, _, rfl, rfl, ⟨_, _, rfl, rfl, ⟨_, _, rfl, rfl, rfl⟩⟩⟩) ⟨(.tmp rfl), trivial, rfl, trivial⟩ rfl) rfl rfl rfl ?_
 refine ARun.box (id := 0) rfl (.tmp rfl) (SV.cells_of (by exact ⟨trivial, trivial, trivial, trivial⟩)) ⟨(by refine fr_env rfl ?_; (repeat refine env_cons (by first | with_reducible exact Fo.noS _ _ | with_reducible exact Fo.noS' _ _ | exact rfl | exact Fo.noS _ _ | exact Fo.noS' _ _ | exact agg_no (by repeat' first | with_reducible exact Fo.no _ _ | with_reducible exact Fo.no' _ _ | exact rfl | exact Fo.no _ _ | exact Fo.no' _ _ | refine no_cons ?_ ?_)) ?_); exact rfl), (by repeat first | exact trivial | refine ⟨by decide, by first | rfl | exact trivial | (intro i j; first | rfl | exact getD_no rfl | (dsimp only; split <;> first | rfl | exact getD_no rfl) | exact scl_no (by apply_assumption) _), ?_⟩)⟩ rfl rfl rfl (nB rfl) ?_
 refine pu (.assign rfl (.tmp rfl)) rfl rfl rfl ?_
 refine ARun.nil ?_
 refine AW.seq ?_
 refine AW.region ?_
 refine pu (.move rfl (.tmp rfl)) rfl rfl rfl ?_
 refine ARun.nn 0 rfl (vc_Form n F hF c0 0 0 (by omega) (by omega)) f84_ ⟨.inr (.tmp rfl), trivial⟩ rfl rfl rfl (fun _ _ => rfl) (by repeat first | exact trivial | refine ⟨.inr rfl, ?_⟩ | refine ⟨.inl rfl, ?_⟩) rfl rfl (nB rfl) (fun _ => rfl) (fun x1 hc2 => ?_)
 obtain ⟨hc2a, hc2b, hc2k⟩ := hc2
 obtain ⟨hc21, hc22, hc23⟩ := hc2k
 have hlf : 1 ≤ x1.1.length ∧ x1.1.length ≤ 15 := ⟨hc2a, hc2b⟩
 have hvs := formText_size x1.1
 refine pu (.call rfl (v_sFormText x1.1 (by omega)) ⟨⟨_, (.tmp rfl), .frs⟩, trivial⟩ f82_ ⟨Nat.le_trans (formText_size x1.1) (by decide), trivial⟩) rfl rfl rfl ?_
 refine pu (.move rfl (.tmp rfl)) rfl rfl rfl ?_
 refine pu (.ext2a rfl (.tmp rfl)) rfl rfl rfl ?_
 refine pu (.ext2b rfl (.tmp rfl)) rfl rfl rfl ?_
 refine pu (.assign rfl (.tmp rfl)) rfl rfl rfl ?_
 refine pu (.assign rfl (.tmp rfl)) rfl rfl rfl ?_
 refine ARun.nil ?_
 refine AW.seq ?_
 refine AW.seq ?_
 refine AW.region ?_
 refine pu (.move rfl (.tmp rfl)) rfl rfl rfl ?_
 refine ARun.cur (id := 0) rfl (vc_One n F hF x1.2.1 x1.2.2 (by omega) (by omega) 3 (by omega)) f85_ ⟨.inr (.tmp rfl), .inl ⟨_, .int, .int⟩, trivial⟩ rfl rfl rfl (nB rfl) (fun x3 p4 sd5 hc6 => ?_)
 have hc6c := hc6
 obtain ⟨hc61, hc62, hc63⟩ := hc6c
 refine ARun.nil ?_
 refine AW.cond (.tmp rfl) (fun hb7 => ?_) (fun hb7 => ?_)
 ·
  refine AW.region ?_
  refine pu (.move rfl (.tmp rfl)) rfl rfl rfl ?_
  refine pu (.move rfl (.tmp rfl)) rfl rfl rfl ?_
  refine ARun.cur (id := 0) rfl (v_Spoilt n F hF p4 sd5 (by omega) (by omega) ((formTextV x1.1).1) (⟨#[40, 41, 91, 93, 124, 42, 94, 46, 97, 37, 33]⟩ : ByteArray) (by omega) ⟨by decide, by decide⟩) f86_ ⟨.inr (.tmp rfl), .inl ⟨_, (.tmp rfl), .str⟩, .inl ⟨_, (.str (by decide)), .str⟩, trivial⟩ rfl rfl rfl (nB rfl) (fun x8 p9 sd10 hc11 => ?_)
  obtain ⟨hc11x, hc11c⟩ := hc11
  obtain ⟨hc111, hc112, hc113⟩ := hc11c
  refine pu (.assign rfl (.tmp rfl)) rfl rfl rfl ?_
  refine ARun.nil ?_
  refine AW.seq ?_
  refine AW.region ?_
  refine pu (.move rfl (.tmp rfl)) rfl rfl rfl ?_
  refine pu (.assign rfl (.tmp rfl)) rfl rfl rfl ?_
  refine ARun.nil ?_
  exact AW.ret (show ∃ x s, _ ∧ ResL _ _ [.tmp 2] s ∧ FvS _ s _ from ⟨x8, _, (by show (x8).size ≤ 1000; omega), .inl ⟨_, rfl, .tmp rfl⟩, Fv.str⟩)
 ·
  refine AW.skip ?_
  refine AW.seq ?_
  refine AW.region ?_
  refine pu (.move rfl (.tmp rfl)) rfl rfl rfl ?_
  refine pu (.assign rfl (.tmp rfl)) rfl rfl rfl ?_
  refine ARun.nil ?_
  exact AW.ret (show ∃ x s, _ ∧ ResL _ _ [.tmp 2] s ∧ FvS _ s _ from ⟨(formTextV x1.1).1, _, (by show ((formTextV x1.1).1).size ≤ 1000; omega), .inl ⟨_, rfl, .tmp rfl⟩, Fv.str⟩)
end Go.Proofs.Ytonfeiloekofdaa

namespace Go.Proofs.Ytonfeiloekofdaa
open Go.ChangeShapes Go.WideShapes Go.ChangeAt Go.RowKit Go.BigFrame Go.Deep
set_option linter.unusedVariables false
set_option linter.unusedSimpArgs false
theorem f87_ : boolB Try.prog 4 = true := by kernel_rfl
theorem f88_ : callB Try.prog 15 = true := by kernel_rfl
theorem f89_ : callB Try.prog 16 = true := by kernel_rfl
theorem f90_ : callB Try.prog 18 = true := by kernel_rfl
theorem f91_ : callB Try.prog 19 = true := by kernel_rfl
theorem f92_ : callB Try.prog 20 = true := by kernel_rfl
theorem f93_ : callB Try.prog 21 = true := by kernel_rfl
theorem f94_ : callB Try.prog 22 = true := by kernel_rfl
theorem f95_ : callB Try.prog 23 = true := by kernel_rfl
theorem f96_ : callB Try.prog 24 = true := by kernel_rfl
theorem f97_ : callB Try.prog 25 = true := by kernel_rfl
theorem opensC_5 : OpensC Try.prog 5 (fun x : UInt8 => [.int .u8 ((x.toNat : Nat) : Int)]) := OpensC.byte Try.underlying5
theorem opensC_35 : OpensC Try.prog 35 (fun x : List UInt8 => [.lst 1 x.length (fun i0 _ => .int .u8 (((x.getD i0 0).toNat : Nat) : Int))]) := OpensC.slice (0 : UInt8) Try.underlying35 (by kernel_rfl) (by decide) opensC_5 (fun _ => rfl) (fun l i j _ hj => match j, hj with | 0, _ => rfl | _ + 1, h => absurd h (by omega))
theorem AW.join {P : Program} {N : Nat} {w0 : Start} {σ : Sig} {x y : Code} {Q : Exit → Sig → Prop} (τ : Sig) (h2 : AW P N w0 y Q τ) (h1 : AW P N w0 y Q τ → AW P N w0 x (ThenA P N w0 y Q) σ) : AW P N w0 x (ThenA P N w0 y Q) σ := h1 h2
theorem place_ok {b : Bool} {z m : Int} (h : m ≤ 120 → z ≤ m) : cond (cond (cond (!(b == b)) true (!decide (z = z))) true (!true)) true (cond (cond (!b) (decide (m < z)) false) (decide (m ≤ 120)) false) = false := by
  by_cases h1 : m ≤ 120
  · rw [decide_eq_false (show ¬ m < z by have := h h1; omega)]
    cases b <;> simp
  · rw [decide_eq_false h1]
    cases b <;> simp
theorem back_ok {f : List GPart} (h : (formTextV f).2 = true) : cond (cond (cond (cond (!(readV (formTextV f).1).ok) true (!decide ((readV (formTextV f).1).at_ = 0))) true (!(formTextV (readV (formTextV f).1).l).2)) true (!decide ((formTextV (readV (formTextV f).1).l).1 = (formTextV f).1))) true (!decide ((((readV (formTextV f).1).l.length : Nat) : Int) = ((f.length : Nat) : Int))) = false := by
  obtain ⟨t, hw, hs, hle, he, hr⟩ := read_formText h
  have h2 := formText_flat hw hle
  have e1 : (readV (formTextV f).1).ok = true := by rw [hr]
  have e2 : (readV (formTextV f).1).at_ = 0 := by rw [hr]
  have e3 : (readV (formTextV f).1).l = flatAt t 0 := by rw [hr]
  rw [e1, e2, e3, h2, he, decide_eq_true (show (((flatAt t 0).length : Nat) : Int) = ((f.length : Nat) : Int) by rw [flatAt_len, hs])]
  simp
theorem again_ok {u : ByteArray} (h : (readV u).ok = true) : cond (cond (!goodP (readV u).l) true (!(formTextV (readV u).l).2)) true (!decide ((formTextV (readV u).l).1 = u)) = false := by
  obtain ⟨t, hw, hle, he, hr⟩ := read_back h
  have h2 := formText_flat hw hle
  have e3 : (readV u).l = flatAt t 0 := by rw [hr]
  rw [e3, h2, goodP_iff.2 (flat_good hw hle), he]
  simp
theorem law_ReadForms (x0 x1 : List UInt8) : Fn Try.prog 5 [.one (.lst 1 x0.length (fun i0 _ => .int .u8 (((x0.getD i0 0).toNat : Nat) : Int))), .one (.lst 1 x1.length (fun i0 _ => .int .u8 (((x1.getD i0 0).toNat : Nat) : Int)))] (.one (.bool true)) := by
 refine Fn.of_body (fn := Try.f5) Try.func5 rfl (nB rfl) trivial ?_
 intro w0
 show AW _ 170 _ _ _ _
 refine AW.seq ?_
 refine AW.region ?_
 refine pu (.assign rfl .bool) rfl rfl rfl ?_
 refine ARun.nil ?_
 refine AW.seq ?_
 refine AW.seq ?_
 refine AW.region ?_
 refine pu (.move rfl (.tmp rfl)) rfl rfl rfl ?_
 refine pu (.lenLst rfl (.tmp rfl) f76_) rfl rfl rfl ?_
 refine pu (.move rfl (.tmp rfl)) rfl rfl rfl ?_
 refine pu (.lenLst rfl (.tmp rfl) f76_) rfl rfl rfl ?_
 refine pu (.intOp rfl (.tmp rfl) (.tmp rfl) rfl) rfl rfl rfl ?_
 refine pu (.intOp rfl (.tmp rfl) .int rfl) rfl rfl rfl ?_
 refine ARun.nil ?_
 refine AW.cond (.tmp rfl) (fun hb1 => ?_) (fun hb1 => ?_)
 ·
  have _h := hb1
  refine AW.seq ?_
  refine AW.region ?_
  refine pu (.assign rfl .bool) rfl rfl rfl ?_
  refine ARun.nil ?_
  refine AW.ret (show ResL _ _ [.tmp 4] _ from resB rfl ?_)
  first | rfl | simp
 ·
  have _h := hb1
  refine AW.skip ?_
  refine AW.seq ?_
  refine AW.region ?_
  refine pu (.move rfl (.tmp rfl)) rfl rfl rfl ?_
  refine ARun.draw rfl (v_DrawFormText x0.length (fun i => (x0.getD i 0).toNat) (fun i => UInt8.toNat_lt _)) f88_ ⟨⟨_, (.tmp rfl), .lst⟩, trivial⟩ rfl rfl (nB rfl) (fun x2 hd3 => ?_)
  have hFx := hd3
  refine pu (.assign rfl (.tmp rfl)) rfl rfl rfl ?_
  refine ARun.nil ?_
  refine AW.seq ?_
  refine AW.region ?_
  refine pu (.move rfl (.tmp rfl)) rfl rfl rfl ?_
  refine pu (.call rfl (v_iFormText x2 (by omega)) ⟨⟨_, (.tmp rfl), .frs⟩, trivial⟩ f89_ ⟨Nat.le_trans (formText_size x2) (by decide), trivial⟩) rfl rfl rfl ?_
  refine pu (.move rfl (.tmp rfl)) rfl rfl rfl ?_
  refine pu (.ext2a rfl (.tmp rfl)) rfl rfl rfl ?_
  refine pu (.ext2b rfl (.tmp rfl)) rfl rfl rfl ?_
  refine pu (.assign rfl (.tmp rfl)) rfl rfl rfl ?_
  refine pu (.assign rfl (.tmp rfl)) rfl rfl rfl ?_
  refine ARun.nil ?_
  refine AW.seq ?_
  refine AW.region ?_
  refine pu (.move rfl (.tmp rfl)) rfl rfl rfl ?_
  refine pu (.call rfl (v_sFormText x2 (by omega)) ⟨⟨_, (.tmp rfl), .frs⟩, trivial⟩ f82_ ⟨Nat.le_trans (formText_size x2) (by decide), trivial⟩) rfl rfl rfl ?_
  refine pu (.move rfl (.tmp rfl)) rfl rfl rfl ?_
  refine pu (.ext2a rfl (.tmp rfl)) rfl rfl rfl ?_
  refine pu (.ext2b rfl (.tmp rfl)) rfl rfl rfl ?_
  refine pu (.assign rfl (.tmp rfl)) rfl rfl rfl ?_
  refine pu (.assign rfl (.tmp rfl)) rfl rfl rfl ?_
  refine ARun.nil ?_
  refine AW.seq ?_
  refine AW.seq ?_
  refine AW.region ?_
  refine pu (.move rfl (.tmp rfl)) rfl rfl rfl ?_
  refine pu (.move rfl (.tmp rfl)) rfl rfl rfl ?_
  refine pu (.boolNe rfl (.tmp rfl) (.tmp rfl) f87_) rfl rfl rfl ?_
  refine pu (.move rfl (.tmp rfl)) rfl rfl rfl ?_
  refine ARun.gpure (want := false) (.tf rfl) (fun hg4 => PureOp.move rfl (.tmp rfl)) rfl rfl (nB rfl) rfl (nB rfl) ?_
  refine ARun.gpure (want := false) (.tf rfl) (fun hg5 => PureOp.move rfl (.tmp rfl)) rfl rfl (nB rfl) rfl (nB rfl) ?_
  refine ARun.gpure (want := false) (.tf rfl) (fun hg6 => PureOp.strOp rfl (.gtmp rfl hg6) (.gtmp rfl hg6) rfl) rfl rfl (nB rfl) rfl (nB rfl) ?_
  refine pu (.pick rfl (.tmp rfl) (fun _ => .bool) (fun hp8 => .gtmp rfl (not_of hp8))) rfl rfl rfl ?_
  refine ARun.nil ?_
  refine AW.cond (.tmp rfl) (fun hb9 => ?_) (fun hb9 => ?_)
  ·
   exact absurd hb9 (by simp)
   --end
  ·
   have _h := hb9
   refine AW.skip ?_
   refine AW.seq ?_
   refine AW.seq ?_
   refine AW.region ?_
   refine pu (.move rfl (.tmp rfl)) rfl rfl rfl ?_
   refine ARun.nil ?_
   refine AW.join ⟨[(1, .one (.lst 1 x1.length (fun i0 _ => .int .u8 (((x1.getD i0 0).toNat : Nat) : Int))))], []⟩ ?_ (fun hj11 => ?_)
   ·
    refine AW.seq ?_
    refine AW.region ?_
    refine pu (.move rfl (.tmp rfl)) rfl rfl rfl ?_
    refine ARun.draw rfl (v_DrawReadForm x1.length (fun i => (x1.getD i 0).toNat) (fun i => UInt8.toNat_lt _)) f91_ ⟨⟨_, (.tmp rfl), .lst⟩, trivial⟩ rfl rfl (nB rfl) (fun x12 hd13 => ?_)
    have hUx := hd13
    refine pu (.assign rfl (.tmp rfl)) rfl rfl rfl ?_
    refine ARun.nil ?_
    refine AW.seq ?_
    refine AW.region ?_
    refine pu (.move rfl (.tmp rfl)) rfl rfl rfl ?_
    refine ARun.fresh (FreshOp.callS rfl (v_iReadForm x12 (by omega)) ⟨⟨_, (.tmp rfl), .str⟩, trivial⟩ f90_ rfl) rfl rfl (nB rfl) ?_
    refine pu (.move rfl (.tmp rfl)) rfl rfl rfl ?_
    refine pu (.ext3a rfl (.tmp rfl)) rfl rfl rfl ?_
    refine pu (.ext3b rfl (.tmp rfl)) rfl rfl rfl ?_
    refine pu (.ext3c rfl (.tmp rfl)) rfl rfl rfl ?_
    refine pu (.assign rfl (.tmp rfl)) rfl rfl rfl ?_
    refine pu (.assign rfl (.tmp rfl)) rfl rfl rfl ?_
    refine pu (.assign rfl (.tmp rfl)) rfl rfl rfl ?_
    refine ARun.nil ?_
    refine AW.seq ?_
    refine AW.region ?_
    refine pu (.move rfl (.tmp rfl)) rfl rfl rfl ?_
    refine ARun.fresh (FreshOp.callS rfl (v_sReadForm x12 (by omega)) ⟨⟨_, (.tmp rfl), .str⟩, trivial⟩ f92_ rfl) rfl rfl (nB rfl) ?_
    refine pu (.move rfl (.tmp rfl)) rfl rfl rfl ?_
    refine pu (.ext3a rfl (.tmp rfl)) rfl rfl rfl ?_
    refine pu (.ext3b rfl (.tmp rfl)) rfl rfl rfl ?_
    refine pu (.ext3c rfl (.tmp rfl)) rfl rfl rfl ?_
    refine pu (.assign rfl (.tmp rfl)) rfl rfl rfl ?_
    refine pu (.assign rfl (.tmp rfl)) rfl rfl rfl ?_
    refine pu (.assign rfl (.tmp rfl)) rfl rfl rfl ?_
    refine ARun.nil ?_
    refine AW.seq ?_
    refine AW.seq ?_
    refine AW.region ?_
    refine pu (.move rfl (.tmp rfl)) rfl rfl rfl ?_
    refine pu (.move rfl (.tmp rfl)) rfl rfl rfl ?_
    refine pu (.boolNe rfl (.tmp rfl) (.tmp rfl) f87_) rfl rfl rfl ?_
    refine pu (.move rfl (.tmp rfl)) rfl rfl rfl ?_
    refine ARun.gpure (want := false) (.tf rfl) (fun hg14 => PureOp.move rfl (.tmp rfl)) rfl rfl (nB rfl) rfl (nB rfl) ?_
    refine ARun.gpure (want := false) (.tf rfl) (fun hg15 => PureOp.move rfl (.tmp rfl)) rfl rfl (nB rfl) rfl (nB rfl) ?_
    refine ARun.gpure (want := false) (.tf rfl) (fun hg16 => PureOp.intOp rfl (.gtmp rfl hg16) (.gtmp rfl hg16) rfl) rfl rfl (nB rfl) rfl (nB rfl) ?_
    refine pu (.pick rfl (.tmp rfl) (fun _ => .bool) (fun hp18 => .gtmp rfl (not_of hp18))) rfl rfl rfl ?_
    refine pu (.move rfl (.tmp rfl)) rfl rfl rfl ?_
    refine ARun.gpure (want := false) (.tf rfl) (fun hg19 => PureOp.move rfl (.tmp rfl)) rfl rfl (nB rfl) rfl (nB rfl) ?_
    refine ARun.gpure (want := false) (.tf rfl) (fun hg20 => PureOp.move rfl (.tmp rfl)) rfl rfl (nB rfl) rfl (nB rfl) ?_
    refine ARun.gpure (want := false) (.tf rfl) (fun hg21 => PureOp.call rfl (v_sameForm ((readV x12).l)) ⟨⟨_, (.gtmp rfl hg21), .frs⟩, ⟨_, (.gtmp rfl hg21), .frs⟩, trivial⟩ f93_ trivial) rfl rfl (nB rfl) rfl (nB rfl) ?_
    refine ARun.gpure (want := false) (.tf rfl) (fun hg22 => PureOp.not rfl (.gtmp rfl hg22)) rfl rfl (nB rfl) rfl (nB rfl) ?_
    refine pu (.pick rfl (.tmp rfl) (fun _ => .bool) (fun hp24 => .gtmp rfl (not_of hp24))) rfl rfl rfl ?_
    refine pu (.move rfl (.tmp rfl)) rfl rfl rfl ?_
    refine ARun.gpure (want := false) (.tf rfl) (fun hg25 => PureOp.move rfl (.tmp rfl)) rfl rfl (nB rfl) rfl (nB rfl) ?_
    refine ARun.gpure (want := false) (.tf rfl) (fun hg26 => PureOp.not rfl (.gtmp rfl hg26)) rfl rfl (nB rfl) rfl (nB rfl) ?_
    refine ARun.gpure (want := false) (.tf rfl) (fun hg27 => PureOp.move rfl (.gtmp rfl hg27)) rfl rfl (nB rfl) rfl (nB rfl) ?_
    refine ARun.gpure (want := true) (.gt rfl) (fun hg28 => PureOp.move rfl (.tmp rfl)) rfl rfl (nB rfl) rfl (nB rfl) ?_
    refine ARun.gpure (want := true) (.gt rfl) (fun hg29 => PureOp.move rfl (.tmp rfl)) rfl rfl (nB rfl) rfl (nB rfl) ?_
    refine ARun.gpure (want := true) (.gt rfl) (fun hg30 => PureOp.lenStr rfl (.gtmp rfl hg30) f4_) rfl rfl (nB rfl) rfl (nB rfl) ?_
    refine ARun.gpure (want := true) (.gt rfl) (fun hg31 => PureOp.intOp rfl (.gtmp rfl hg31) (.gtmp rfl hg31) rfl) rfl rfl (nB rfl) rfl (nB rfl) ?_
    refine ARun.gpure (want := false) (.tf rfl) (fun hg32 => PureOp.pick rfl (.gtmp rfl hg32) (fun hp33 => .gtmp rfl (and_mk hg32 hp33)) (fun _ => .bool)) rfl rfl (nB rfl) rfl (nB rfl) ?_
    refine ARun.gpure (want := false) (.tf rfl) (fun hg35 => PureOp.move rfl (.gtmp rfl hg35)) rfl rfl (nB rfl) rfl (nB rfl) ?_
    refine ARun.gpure (want := true) (.gt rfl) (fun hg36 => PureOp.move rfl (.tmp rfl)) rfl rfl (nB rfl) rfl (nB rfl) ?_
    refine ARun.gpure (want := true) (.gt rfl) (fun hg37 => PureOp.lenStr rfl (.gtmp rfl hg37) f4_) rfl rfl (nB rfl) rfl (nB rfl) ?_
    refine ARun.gpure (want := true) (.gt rfl) (fun hg38 => PureOp.intOp rfl (.gtmp rfl hg38) .int rfl) rfl rfl (nB rfl) rfl (nB rfl) ?_
    refine ARun.gpure (want := false) (.tf rfl) (fun hg39 => PureOp.pick rfl (.gtmp rfl hg39) (fun hp40 => .gtmp rfl (and_mk hg39 hp40)) (fun _ => .bool)) rfl rfl (nB rfl) rfl (nB rfl) ?_
    refine pu (.pick rfl (.tmp rfl) (fun _ => .bool) (fun hp43 => .gtmp rfl (not_of hp43))) rfl rfl rfl ?_
    refine ARun.nil ?_
    refine AW.cond (.tmp rfl) (fun hb44 => ?_) (fun hb44 => ?_)
    ·
     exact absurd (place_ok (fun h1 => (read_at _ (by omega)).2)) (by rw [hb44]; decide)
     --end
    ·
     have _h := hb44
     refine AW.skip ?_
     refine AW.seq ?_
     refine AW.seq ?_
     refine AW.region ?_
     refine pu (.move rfl (.tmp rfl)) rfl rfl rfl ?_
     refine ARun.nil ?_
     refine AW.join ⟨[(1, .one (.lst 1 x1.length (fun i0 _ => .int .u8 (((x1.getD i0 0).toNat : Nat) : Int))))], []⟩ ?_ (fun hj46 => ?_)
     ·
      refine AW.seq ?_
      refine AW.region ?_
      refine pu (.move rfl (.tmp rfl)) rfl rfl rfl ?_
      refine ARun.draw rfl (v_DrawNotForm x1.length (fun i => (x1.getD i 0).toNat) (fun i => UInt8.toNat_lt _)) f95_ ⟨⟨_, (.tmp rfl), .lst⟩, trivial⟩ rfl rfl (nB rfl) (fun x47 hd48 => ?_)
      have hNx := hd48
      refine pu (.assign rfl (.tmp rfl)) rfl rfl rfl ?_
      refine ARun.nil ?_
      refine AW.seq ?_
      refine AW.region ?_
      refine pu (.move rfl (.tmp rfl)) rfl rfl rfl ?_
      refine ARun.fresh (FreshOp.callS rfl (v_iNotForm x47 (by omega)) ⟨⟨_, (.tmp rfl), .frs⟩, trivial⟩ f96_ rfl) rfl rfl (nB rfl) ?_
      refine pu (.move rfl (.tmp rfl)) rfl rfl rfl ?_
      refine pu (.ext2a rfl (.tmp rfl)) rfl rfl rfl ?_
      refine pu (.ext2b rfl (.tmp rfl)) rfl rfl rfl ?_
      refine pu (.assign rfl (.tmp rfl)) rfl rfl rfl ?_
      refine pu (.assign rfl (.tmp rfl)) rfl rfl rfl ?_
      refine ARun.nil ?_
      refine AW.seq ?_
      refine AW.region ?_
      refine pu (.move rfl (.tmp rfl)) rfl rfl rfl ?_
      refine ARun.fresh (FreshOp.callS rfl (v_sNotForm x47 (by omega)) ⟨⟨_, (.tmp rfl), .frs⟩, trivial⟩ f97_ rfl) rfl rfl (nB rfl) ?_
      refine pu (.move rfl (.tmp rfl)) rfl rfl rfl ?_
      refine pu (.ext2a rfl (.tmp rfl)) rfl rfl rfl ?_
      refine pu (.ext2b rfl (.tmp rfl)) rfl rfl rfl ?_
      refine pu (.assign rfl (.tmp rfl)) rfl rfl rfl ?_
      refine pu (.assign rfl (.tmp rfl)) rfl rfl rfl ?_
      refine ARun.nil ?_
      refine AW.seq ?_
      refine AW.region ?_
      refine pu (.move rfl (.tmp rfl)) rfl rfl rfl ?_
      refine pu (.move rfl (.tmp rfl)) rfl rfl rfl ?_
      refine pu (.boolEq rfl (.tmp rfl) (.tmp rfl) f87_) rfl rfl rfl ?_
      refine pu (.move rfl (.tmp rfl)) rfl rfl rfl ?_
      refine ARun.gpure (want := true) (.tt rfl) (fun hg49 => PureOp.move rfl (.tmp rfl)) rfl rfl (nB rfl) rfl (nB rfl) ?_
      refine ARun.gpure (want := true) (.tt rfl) (fun hg50 => PureOp.move rfl (.tmp rfl)) rfl rfl (nB rfl) rfl (nB rfl) ?_
      refine ARun.gpure (want := true) (.tt rfl) (fun hg51 => PureOp.call rfl (v_sameForm ((notV x47).1)) ⟨⟨_, (.gtmp rfl hg51), .frs⟩, ⟨_, (.gtmp rfl hg51), .frs⟩, trivial⟩ f93_ trivial) rfl rfl (nB rfl) rfl (nB rfl) ?_
      refine pu (.pick rfl (.tmp rfl) (fun hp52 => .gtmp rfl hp52) (fun _ => .bool)) rfl rfl rfl ?_
      refine pu (.assign rfl (.tmp rfl)) rfl rfl rfl ?_
      refine ARun.nil ?_
      refine AW.ret (show ResL _ _ [.tmp 4] _ from resB rfl ?_)
      first | rfl | simp
     refine AW.cond (.tmp rfl) (fun hb45 => ?_) (fun hb45 => ?_)
     ·
      have hok2 := hb45
      refine AW.seq ?_
      refine AW.region ?_
      refine pu (.move rfl (.tmp rfl)) rfl rfl rfl ?_
      have hrl := read_len x12
      refine pu (.call rfl (v_iFormText ((readV x12).l) (by omega)) ⟨⟨_, (.tmp rfl), .frs⟩, trivial⟩ f89_ ⟨Nat.le_trans (formText_size ((readV x12).l)) (by decide), trivial⟩) rfl rfl rfl ?_
      refine pu (.move rfl (.tmp rfl)) rfl rfl rfl ?_
      refine pu (.ext2a rfl (.tmp rfl)) rfl rfl rfl ?_
      refine pu (.ext2b rfl (.tmp rfl)) rfl rfl rfl ?_
      refine pu (.assign rfl (.tmp rfl)) rfl rfl rfl ?_
      refine pu (.assign rfl (.tmp rfl)) rfl rfl rfl ?_
      refine ARun.nil ?_
      refine AW.seq ?_
      refine AW.region ?_
      refine pu (.move rfl (.tmp rfl)) rfl rfl rfl ?_
      refine pu (.call rfl (v_iGoodForm ((readV x12).l) (by omega)) ⟨⟨_, (.tmp rfl), .frs⟩, trivial⟩ f94_ trivial) rfl rfl rfl ?_
      refine pu (.not rfl (.tmp rfl)) rfl rfl rfl ?_
      refine pu (.move rfl (.tmp rfl)) rfl rfl rfl ?_
      refine ARun.gpure (want := false) (.tf rfl) (fun hg54 => PureOp.move rfl (.tmp rfl)) rfl rfl (nB rfl) rfl (nB rfl) ?_
      refine ARun.gpure (want := false) (.tf rfl) (fun hg55 => PureOp.not rfl (.gtmp rfl hg55)) rfl rfl (nB rfl) rfl (nB rfl) ?_
      refine pu (.pick rfl (.tmp rfl) (fun _ => .bool) (fun hp57 => .gtmp rfl (not_of hp57))) rfl rfl rfl ?_
      refine pu (.move rfl (.tmp rfl)) rfl rfl rfl ?_
      refine ARun.gpure (want := false) (.tf rfl) (fun hg58 => PureOp.move rfl (.tmp rfl)) rfl rfl (nB rfl) rfl (nB rfl) ?_
      refine ARun.gpure (want := false) (.tf rfl) (fun hg59 => PureOp.move rfl (.tmp rfl)) rfl rfl (nB rfl) rfl (nB rfl) ?_
      refine ARun.gpure (want := false) (.tf rfl) (fun hg60 => PureOp.strOp rfl (.gtmp rfl hg60) (.gtmp rfl hg60) rfl) rfl rfl (nB rfl) rfl (nB rfl) ?_
      refine pu (.pick rfl (.tmp rfl) (fun _ => .bool) (fun hp62 => .gtmp rfl (not_of hp62))) rfl rfl rfl ?_
      refine ARun.nil ?_
      refine AW.cond (.tmp rfl) (fun hb63 => ?_) (fun hb63 => ?_)
      ·
       exact absurd (again_ok hok2) (by rw [hb63]; decide)
       --end
      ·
       have _h := hb63
       refine AW.skip ?_
       refine AW.le ?_ hj46
       exact ⟨⟨⟨_, rfl, rfl⟩, trivial⟩, trivial⟩
     ·
      have _h := hb45
      refine AW.skip ?_
      refine AW.le ?_ hj46
      exact ⟨⟨⟨_, rfl, rfl⟩, trivial⟩, trivial⟩
   refine AW.cond (.tmp rfl) (fun hb10 => ?_) (fun hb10 => ?_)
   ·
    have hok1 := hb10
    refine AW.seq ?_
    refine AW.region ?_
    refine pu (.move rfl (.tmp rfl)) rfl rfl rfl ?_
    have hsz := formText_size x2
    refine ARun.fresh (FreshOp.callS rfl (v_iReadForm ((formTextV x2).1) (by omega)) ⟨⟨_, (.tmp rfl), .str⟩, trivial⟩ f90_ rfl) rfl rfl (nB rfl) ?_
    refine pu (.move rfl (.tmp rfl)) rfl rfl rfl ?_
    refine pu (.ext3a rfl (.tmp rfl)) rfl rfl rfl ?_
    refine pu (.ext3b rfl (.tmp rfl)) rfl rfl rfl ?_
    refine pu (.ext3c rfl (.tmp rfl)) rfl rfl rfl ?_
    refine pu (.assign rfl (.tmp rfl)) rfl rfl rfl ?_
    refine pu (.assign rfl (.tmp rfl)) rfl rfl rfl ?_
    refine pu (.assign rfl (.tmp rfl)) rfl rfl rfl ?_
    refine ARun.nil ?_
    refine AW.seq ?_
    refine AW.region ?_
    refine pu (.move rfl (.tmp rfl)) rfl rfl rfl ?_
    have hrl := read_len ((formTextV x2).1)
    refine pu (.call rfl (v_iFormText ((readV ((formTextV x2).1)).l) (by omega)) ⟨⟨_, (.tmp rfl), .frs⟩, trivial⟩ f89_ ⟨Nat.le_trans (formText_size ((readV ((formTextV x2).1)).l)) (by decide), trivial⟩) rfl rfl rfl ?_
    refine pu (.move rfl (.tmp rfl)) rfl rfl rfl ?_
    refine pu (.ext2a rfl (.tmp rfl)) rfl rfl rfl ?_
    refine pu (.ext2b rfl (.tmp rfl)) rfl rfl rfl ?_
    refine pu (.assign rfl (.tmp rfl)) rfl rfl rfl ?_
    refine pu (.assign rfl (.tmp rfl)) rfl rfl rfl ?_
    refine ARun.nil ?_
    refine AW.seq ?_
    refine AW.region ?_
    refine pu (.move rfl (.tmp rfl)) rfl rfl rfl ?_
    refine pu (.not rfl (.tmp rfl)) rfl rfl rfl ?_
    refine pu (.move rfl (.tmp rfl)) rfl rfl rfl ?_
    refine ARun.gpure (want := false) (.tf rfl) (fun hg64 => PureOp.move rfl (.tmp rfl)) rfl rfl (nB rfl) rfl (nB rfl) ?_
    refine ARun.gpure (want := false) (.tf rfl) (fun hg65 => PureOp.intOp rfl (.gtmp rfl hg65) .int rfl) rfl rfl (nB rfl) rfl (nB rfl) ?_
    refine pu (.pick rfl (.tmp rfl) (fun _ => .bool) (fun hp67 => .gtmp rfl (not_of hp67))) rfl rfl rfl ?_
    refine pu (.move rfl (.tmp rfl)) rfl rfl rfl ?_
    refine ARun.gpure (want := false) (.tf rfl) (fun hg68 => PureOp.move rfl (.tmp rfl)) rfl rfl (nB rfl) rfl (nB rfl) ?_
    refine ARun.gpure (want := false) (.tf rfl) (fun hg69 => PureOp.not rfl (.gtmp rfl hg69)) rfl rfl (nB rfl) rfl (nB rfl) ?_
    refine pu (.pick rfl (.tmp rfl) (fun _ => .bool) (fun hp71 => .gtmp rfl (not_of hp71))) rfl rfl rfl ?_
    refine pu (.move rfl (.tmp rfl)) rfl rfl rfl ?_
    refine ARun.gpure (want := false) (.tf rfl) (fun hg72 => PureOp.move rfl (.tmp rfl)) rfl rfl (nB rfl) rfl (nB rfl) ?_
    refine ARun.gpure (want := false) (.tf rfl) (fun hg73 => PureOp.move rfl (.tmp rfl)) rfl rfl (nB rfl) rfl (nB rfl) ?_
    refine ARun.gpure (want := false) (.tf rfl) (fun hg74 => PureOp.strOp rfl (.gtmp rfl hg74) (.gtmp rfl hg74) rfl) rfl rfl (nB rfl) rfl (nB rfl) ?_
    refine pu (.pick rfl (.tmp rfl) (fun _ => .bool) (fun hp76 => .gtmp rfl (not_of hp76))) rfl rfl rfl ?_
    refine pu (.move rfl (.tmp rfl)) rfl rfl rfl ?_
    refine ARun.gpure (want := false) (.tf rfl) (fun hg77 => PureOp.move rfl (.tmp rfl)) rfl rfl (nB rfl) rfl (nB rfl) ?_
    refine ARun.gpure (want := false) (.tf rfl) (fun hg78 => PureOp.lenLst rfl (.frs (.gtmp rfl hg78)) f34_) rfl rfl (nB rfl) rfl (nB rfl) ?_
    refine ARun.gpure (want := false) (.tf rfl) (fun hg79 => PureOp.move rfl (.tmp rfl)) rfl rfl (nB rfl) rfl (nB rfl) ?_
    refine ARun.gpure (want := false) (.tf rfl) (fun hg80 => PureOp.lenLst rfl (.frs (.gtmp rfl hg80)) f34_) rfl rfl (nB rfl) rfl (nB rfl) ?_
    refine ARun.gpure (want := false) (.tf rfl) (fun hg81 => PureOp.intOp rfl (.gtmp rfl hg81) (.gtmp rfl hg81) rfl) rfl rfl (nB rfl) rfl (nB rfl) ?_
    refine pu (.pick rfl (.tmp rfl) (fun _ => .bool) (fun hp83 => .gtmp rfl (not_of hp83))) rfl rfl rfl ?_
    refine ARun.nil ?_
    refine AW.cond (.tmp rfl) (fun hb84 => ?_) (fun hb84 => ?_)
    ·
     exact absurd (back_ok hok1) (by rw [hb84]; decide)
     --end
    ·
     have _h := hb84
     refine AW.skip ?_
     refine AW.le ?_ hj11
     exact ⟨⟨⟨_, rfl, rfl⟩, trivial⟩, trivial⟩
   ·
    have _h := hb10
    refine AW.skip ?_
    refine AW.le ?_ hj11
    exact ⟨⟨⟨_, rfl, rfl⟩, trivial⟩, trivial⟩
set_option maxRecDepth 100000 in
theorem lifted_ReadForms (os : Os) (started : os.Started) (H : Type) (enc : TypeId × Value → H) :
    ReturnsInHanded {} Try.checked os 5 .any (Rows.fnReadFormsSpec.pre6 enc Try.prog Try.f5 Rows.fnReadFormsRow.domain false) (Rows.fnReadFormsSpec.post enc Try.prog Try.f5 false true false false) := by
  refine returnsInHanded_of_change (C := Try.checked) own started (by kernel_rfl) Try.func5
    (ChangeSpec.witness6 (enc := enc) (C := Try.checked) false ⟨#[], #[.slice none 0 0, .slice none 0 0], []⟩ 8 (by kernel_rfl) (by kernel_rfl) (by kernel_rfl) (by kernel_rfl)) ?_
  intro W base args ds gs before hval0 hW hcnd _
  have hval : ∀ (j : Nat) t v, Try.f5.params[j]? = some t → args[j]? = some v → Value.okWide Try.prog W .any base t v := hval0
  have hW' := hW
  obtain ⟨p, q, hA0, hV, rfl, hfz, hnd⟩ := hW
  have hA : DataW.TrodAll enc Try.prog W 0 (fun _ => true) true Try.f5.params.toList args.toList ds p := hA0
  rw [Try.params5] at hA hval
  obtain ⟨v0, vs0, d0, ds0, p0, q0, hargs, rfl, rfl, h0, r0⟩ := trodAll_cons hA
  obtain ⟨v1, vs1, d1, ds1, p1, q1, rfl, rfl, rfl, h1, r1⟩ := trodAll_cons r0
  obtain ⟨rfl, rfl, rfl⟩ := trodAll_nil r1
  obtain rfl : args = #[v0, v1] := by cases args; simp_all
  obtain ⟨rfl, rfl⟩ := trodVars_none hV
  obtain ⟨x0, R0⟩ := OpensC.arg opensC_35 h0
  have E0 : DS W (· < W.heap.size) (.one (.lst 1 x0.length (fun i0 _ => .int .u8 (((x0.getD i0 0).toNat : Nat) : Int)))) v0 := DS.one_of (by obtain ⟨a, n, c, rfl⟩ := okWide_slice Try.underlying35 (hval 0 35 v0 rfl rfl); rfl) R0
  obtain ⟨x1, R1⟩ := OpensC.arg opensC_35 h1
  have E1 : DS W (· < W.heap.size) (.one (.lst 1 x1.length (fun i0 _ => .int .u8 (((x1.getD i0 0).toNat : Nat) : Int)))) v1 := DS.one_of (by obtain ⟨a, n, c, rfl⟩ := okWide_slice Try.underlying35 (hval 1 35 v1 rfl rfl); rfl) R1
  clear hA0 hval0
  refine (law_ReadForms x0 x1 W (· < W.heap.size) _ ⟨fun _ h => h, trivial⟩ ⟨_, _, rfl, E0, ⟨_, _, rfl, E1, rfl⟩⟩).mono fun e W' ⟨he, hg⟩ => ?_
  subst he
  exact ⟨_, rfl, law_post hW' rfl laidOut (by kernel_rfl) hg rfl rfl Try.underlying4⟩
theorem proved_ReadForms : Rows.FnReadFormsSaid :=
  OpenClaim.holds_of_wide 5 Try.f5 rfl rfl rfl rfl rfl rfl rfl ⟨rfl, rfl, rfl, rfl, rfl⟩ rfl rfl rfl rfl rfl (by kernel_rfl) Try.func5 (by kernel_rfl)
    (of_decide_eq_true (by kernel_rfl)) (by unfold Func.isWrapper; first | (rw [if_pos (by decide +kernel)]; kernel_rfl) | (rw [if_neg (by decide +kernel)]; exact ⟨rfl, rfl⟩))
    (fun os started H enc _ => lifted_ReadForms os started H enc)
#print axioms proved_ReadForms
end Go.Proofs.Ytonfeiloekofdaa
