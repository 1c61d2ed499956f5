/-
  Part 5 of the proof: the texts of a seat's own library, joined.
-/
import Derived.Test.YtonfeiloekofdaaRfa3
import Derived.Test.YtonfeiloekofdaaRfa4
namespace Go.Proofs.Ytonfeiloekofdaa
open Go.ChangeShapes Go.WideShapes Go.ChangeAt Go.RowKit Go.BigFrame Go.Deep
set_option linter.unusedVariables false
set_option linter.unusedSimpArgs false
theorem f54_ : callB Try.prog 44 = true := by kernel_rfl
theorem f55_ : callB Try.prog 48 = true := by kernel_rfl
theorem f56_ : sizeB Try.prog 67 1 = true := by kernel_rfl
theorem f57_ : sizeB Try.prog 71 1 = true := by kernel_rfl
theorem treeP_two {f : List GPart} {n i : Nat} (h2 : isTwo (f.getD i default).kind = true) : treeP f (n + 1) i = .mk (f.getD i default).kind (f.getD i default).text (treeP f n (f.getD i default).a.toNat) (treeP f n (f.getD i default).b.toNat) := by
  conv => lhs; unfold treeP
  rw [h2, Bool.true_or, if_pos rfl, if_pos rfl]
theorem treeP_one {f : List GPart} {n i : Nat} (h2 : isTwo (f.getD i default).kind = false) (h1 : isOne (f.getD i default).kind = true) : treeP f (n + 1) i = .mk (f.getD i default).kind (f.getD i default).text (treeP f n (f.getD i default).a.toNat) .nil := by
  conv => lhs; unfold treeP
  rw [h2, h1, Bool.false_or, if_pos rfl, if_neg (by decide)]
theorem treeP_leaf {f : List GPart} {n i : Nat} (h2 : isTwo (f.getD i default).kind = false) (h1 : isOne (f.getD i default).kind = false) : treeP f (n + 1) i = .mk (f.getD i default).kind (f.getD i default).text .nil .nil := by
  conv => lhs; unfold treeP
  rw [h2, h1, Bool.false_or, if_neg (by decide), if_neg (by decide)]
theorem v_TreeS (f : List GPart) (hl : f.length ≤ 1000) (hp : ∀ i, i < f.length → partOk (f.getD i default) i = true) (n : Nat) (ih : ∀ z : Int, 0 ≤ z → z < n → z < f.length → FnF Try.prog 44 [.one (.lst 4 f.length (fun i0 j0 => ([.int .i64 ((f.getD i0 (default : GPart)).kind), .str ((f.getD i0 (default : GPart)).text), .int .i64 ((f.getD i0 (default : GPart)).a), .int .i64 ((f.getD i0 (default : GPart)).b)] : List AV).getD j0 (.con undef))), .one (.int .i64 z)] (.one (Fo.av (treeP f n z.toNat)))) (z : Int) (hz : 0 ≤ z) (hzn : z < (n : Int) + 1) (hzl : z < f.length) : FnF Try.prog 44 [.one (.lst 4 f.length (fun i0 j0 => ([.int .i64 ((f.getD i0 (default : GPart)).kind), .str ((f.getD i0 (default : GPart)).text), .int .i64 ((f.getD i0 (default : GPart)).a), .int .i64 ((f.getD i0 (default : GPart)).b)] : List AV).getD j0 (.con undef))), .one (.int .i64 z)] (.one (Fo.av (treeP f (n + 1) z.toNat))) := by
 have hpk := hp z.toNat (by omega)
 have hzt : ((z.toNat : Nat) : Int) = z := by omega
 have _u0 := True.intro
 refine FnF.of_body (fn := Try.f44) Try.func44 rfl (nB rfl)  ?_
 intro w0
 show AW _ 47 _ _ _ _
 refine AW.seq ?_
 refine AW.region ?_
 refine pu (.assign rfl .con) rfl rfl rfl ?_
 refine ARun.nil ?_
 refine AW.seq ?_
 refine AW.region ?_
 refine pu (.move rfl (.tmp rfl)) rfl rfl rfl ?_
 refine pu (.move rfl (.tmp rfl)) rfl rfl rfl ?_
 refine pu (.indexLst (i := z.toNat) rfl (.tmp rfl) f45_ (.tmp rfl) (by omega) (by omega)) rfl rfl rfl ?_
 refine pu (.loadRefAgg rfl (.tmp rfl) f28_ (nB rfl)) rfl rfl rfl ?_
 refine ARun.alloc (id := 0) (l := [.int .i64 0, .str ByteArray.empty, .int .i64 0, .int .i64 0]) (z := (.agg #[.int .i64 0, .string ByteArray.empty, .int .i64 0, .int .i64 0])) rfl (by kernel_rfl) (fun _ _ _ => ⟨_, _, rfl, rfl, ⟨_, _, rfl, ⟨rfl, by decide⟩, ⟨_, _, rfl, rfl, ⟨_, _, rfl, rfl, rfl⟩⟩⟩⟩) ⟨(by refine fr_env rfl ?_; (repeat refine env_cons (by first | with_reducible exact Fo.noS _ _ | with_reducible exact Fo.noS' _ _ | exact rfl | exact Fo.noS _ _ | exact Fo.noS' _ _ | exact agg_no (by repeat' first | with_reducible exact Fo.no _ _ | with_reducible exact Fo.no' _ _ | exact rfl | exact Fo.no _ _ | exact Fo.no' _ _ | refine no_cons ?_ ?_)) ?_); exact rfl), (by repeat first | exact trivial | refine ⟨by decide, by first | rfl | exact trivial | (intro i j; first | rfl | exact getD_no rfl | (dsimp only; split <;> first | rfl | exact getD_no rfl) | exact scl_no (by apply_assumption) _), ?_⟩)⟩ rfl rfl rfl (nB rfl) ?_
 refine ARun.store rfl (.tmp rfl) (.tmp rfl) (SV.cells_of (by exact ⟨trivial, trivial, trivial, trivial, trivial⟩)) rfl (nB rfl) f35_ rfl rfl ?_
 refine ARun.nil ?_
 refine AW.seq ?_
 refine AW.region ?_
 refine pu (.fieldPtr rfl (.tmp rfl) f47_) rfl rfl rfl ?_
 refine pu (.loadPtr rfl (.tmp rfl) f2_ rfl rfl (nB rfl) (nB rfl)) rfl rfl rfl ?_
 refine pu (.fieldPtr rfl (.tmp rfl) f48_) rfl rfl rfl ?_
 refine pu (.loadPtr rfl (.tmp rfl) f3_ rfl rfl (nB rfl) (nB rfl)) rfl rfl rfl ?_
 refine pu (.build (ys := [.int .i64 ((f.getD z.toNat (default : GPart)).kind), .str ((f.getD z.toNat (default : GPart)).text)]) (l := [.int .i64 0, .str ByteArray.empty, Fo.fv Fo.nil, Fo.fv Fo.nil]) (pl := [(0, 1), (1, 1), (2, 1), (3, 1)]) (z := (.agg #[.int .i64 0, .string ByteArray.empty, .pointer none, .pointer none])) rfl (by kernel_rfl) (by kernel_rfl) (fun _ _ _ => ⟨_, _, rfl, rfl, ⟨_, _, rfl, ⟨rfl, by decide⟩, ⟨_, _, rfl, rfl, ⟨_, _, rfl, rfl, rfl⟩⟩⟩⟩) ⟨(.tmp rfl), trivial, rfl, ⟨(.tmp rfl), trivial, rfl, trivial⟩⟩ rfl) rfl rfl rfl ?_
 refine ARun.box (id := 1) rfl (.tmp rfl) (SV.cells_of (by exact ⟨trivial, trivial, ⟨rfl, (fun _ e => by cases e), (fun _ e => by cases e)⟩, ⟨rfl, (fun _ e => by cases e), (fun _ e => by cases e)⟩, trivial⟩)) ⟨(by refine fr_env rfl ?_; (repeat refine env_cons (by first | with_reducible exact Fo.noS _ _ | with_reducible exact Fo.noS' _ _ | exact rfl | exact Fo.noS _ _ | exact Fo.noS' _ _ | exact agg_no (by repeat' first | with_reducible exact Fo.no _ _ | with_reducible exact Fo.no' _ _ | exact rfl | exact Fo.no _ _ | exact Fo.no' _ _ | refine no_cons ?_ ?_)) ?_); exact rfl), (by repeat first | exact trivial | refine ⟨by decide, by first | rfl | exact trivial | (intro i j; first | rfl | exact getD_no rfl | (dsimp only; split <;> first | rfl | exact getD_no rfl) | exact scl_no (by apply_assumption) _), ?_⟩)⟩ (by repeat' first | exact rfl | exact Fo.no _ _ | exact Fo.no' _ _ | refine no_cons ?_ ?_) rfl rfl (nB rfl) ?_
 refine pu (.assign rfl (.tmp rfl)) rfl rfl rfl ?_
 refine ARun.nil ?_
 refine AW.seq ?_
 refine AW.seq ?_
 refine AW.region ?_
 refine pu (.fieldPtr rfl (.tmp rfl) f47_) rfl rfl rfl ?_
 refine pu (.loadPtr rfl (.tmp rfl) f2_ rfl rfl (nB rfl) (nB rfl)) rfl rfl rfl ?_
 refine ARun.nil ?_
 refine AW.block ?_
 refine AW.seq ?_
 refine AW.seq ?_
 refine AW.region ?_
 refine pu (.intOp rfl (.tmp rfl) .int rfl) rfl rfl rfl ?_
 refine pu (.assign rfl (.tmp rfl)) rfl rfl rfl ?_
 refine ARun.nil ?_
 refine AW.cond (.tmp rfl) (fun hb1 => ?_) (fun hb1 => ?_)
 ·
  replace hb1 := of_decide_eq_true hb1
  have h2 := isTwo5 hb1
  obtain ⟨pt, pa1, pa2, pb1, pb2⟩ := partOk_two hpk h2
  refine AW.skip ?_
  refine AW.cond (.tmp rfl) (fun hb2 => ?_) (fun hb2 => ?_)
  ·
   clear hb2
   refine AW.anyX [⟨[], [], [], []⟩, ⟨[], [], [], []⟩, ⟨[], [], [], []⟩, ⟨[], [], [], []⟩, ⟨[0], [], [], []⟩, ⟨[], [], [], []⟩, ⟨[], [], [], []⟩, ⟨[], [], [], []⟩, ⟨[0], [], [], []⟩, ⟨[], [], [], []⟩, ⟨[], [], [], []⟩, ⟨[], [], [], []⟩, ⟨[], [1], [], [(1, .cells [.int .i64 ((f.getD z.toNat (default : GPart)).kind), .str ((f.getD z.toNat (default : GPart)).text), Fo.fv (treeP f n ((f.getD z.toNat (default : GPart)).a).toNat), Fo.fv Fo.nil])]⟩, ⟨[], [], [], []⟩, ⟨[], [], [], []⟩, ⟨[], [1], [], [(1, .cells [.int .i64 ((f.getD z.toNat (default : GPart)).kind), .str ((f.getD z.toNat (default : GPart)).text), Fo.fv (treeP f n ((f.getD z.toNat (default : GPart)).a).toNat), Fo.fv (treeP f n ((f.getD z.toNat (default : GPart)).b).toNat)])]⟩] (by kernel_rfl) (by kernel_rfl) (by kernel_rfl) ⟨⟨.inl rfl, .inr (.inr trivial), .inr (.inr trivial), .inr (.inr trivial), .inr (.inr trivial), .inr (.inr trivial), .inr (.inr trivial), .inr (.inr trivial), .inr (.inr trivial), .inr (.inr trivial), .inr (.inr trivial), .inr (.inr trivial), .inr (.inr trivial), .inr (.inr trivial), .inr (.inr trivial), .inr (.inr trivial), trivial⟩, ⟨.inr (.inr trivial), .inl rfl, .inr (.inr trivial), .inr (.inr trivial), .inr (.inr trivial), .inr (.inr trivial), .inr (.inr trivial), .inr (.inr trivial), .inr (.inr trivial), .inr (.inr trivial), .inr (.inr trivial), .inr (.inr trivial), .inr (.inr trivial), .inr (.inr trivial), .inr (.inr trivial), .inr (.inr trivial), trivial⟩, ⟨.inr (.inr trivial), .inr (.inr trivial), .inl rfl, .inr (.inr trivial), .inr (.inr trivial), .inr (.inr trivial), .inr (.inr trivial), .inr (.inr trivial), .inr (.inr trivial), .inr (.inr trivial), .inr (.inr trivial), .inr (.inr trivial), .inr (.inr trivial), .inr (.inr trivial), .inr (.inr trivial), .inr (.inr trivial), trivial⟩, ⟨.inr (.inr trivial), .inr (.inr trivial), .inr (.inr trivial), .inl rfl, .inr (.inr trivial), .inr (.inr trivial), .inr (.inr trivial), .inr (.inr trivial), .inr (.inr trivial), .inr (.inr trivial), .inr (.inr trivial), .inr (.inr trivial), .inr (.inr trivial), .inr (.inr trivial), .inr (.inr trivial), .inr (.inr trivial), trivial⟩, ⟨.inr (.inr trivial), .inr (.inr trivial), .inr (.inr trivial), .inr (.inr trivial), .inl rfl, .inr (.inr trivial), .inr (.inr trivial), .inr (.inr trivial), .inr (.inr trivial), .inr (.inr trivial), .inr (.inr trivial), .inr (.inr trivial), .inr (.inr trivial), .inr (.inr trivial), .inr (.inr trivial), .inr (.inr trivial), trivial⟩, ⟨.inr (.inr trivial), .inr (.inr trivial), .inr (.inr trivial), .inr (.inr trivial), .inr (.inr trivial), .inl rfl, .inr (.inr trivial), .inr (.inr trivial), .inr (.inr trivial), .inr (.inr trivial), .inr (.inr trivial), .inr (.inr trivial), .inr (.inr trivial), .inr (.inr trivial), .inr (.inr trivial), .inr (.inr trivial), trivial⟩, ⟨.inr (.inr trivial), .inr (.inr trivial), .inr (.inr trivial), .inr (.inr trivial), .inr (.inr trivial), .inr (.inr trivial), .inl rfl, .inr (.inr trivial), .inr (.inr trivial), .inr (.inr trivial), .inr (.inr trivial), .inr (.inr trivial), .inr (.inr trivial), .inr (.inr trivial), .inr (.inr trivial), .inr (.inr trivial), trivial⟩, ⟨.inr (.inr trivial), .inr (.inr trivial), .inr (.inr trivial), .inr (.inr trivial), .inr (.inr trivial), .inr (.inr trivial), .inr (.inr trivial), .inl rfl, .inr (.inr trivial), .inr (.inr trivial), .inr (.inr trivial), .inr (.inr trivial), .inr (.inr trivial), .inr (.inr trivial), .inr (.inr trivial), .inr (.inr trivial), trivial⟩, ⟨.inr (.inr trivial), .inr (.inr trivial), .inr (.inr trivial), .inr (.inr trivial), .inr (.inr trivial), .inr (.inr trivial), .inr (.inr trivial), .inr (.inr trivial), .inl rfl, .inr (.inr trivial), .inr (.inr trivial), .inr (.inr trivial), .inr (.inr trivial), .inr (.inr trivial), .inr (.inr trivial), .inr (.inr trivial), trivial⟩, ⟨.inr (.inr trivial), .inr (.inr trivial), .inr (.inr trivial), .inr (.inr trivial), .inr (.inr trivial), .inr (.inr trivial), .inr (.inr trivial), .inr (.inr trivial), .inr (.inr trivial), .inl rfl, .inr (.inr trivial), .inr (.inr trivial), .inr (.inr trivial), .inr (.inr trivial), .inr (.inr trivial), .inr (.inr trivial), trivial⟩, ⟨.inr (.inr trivial), .inr (.inr trivial), .inr (.inr trivial), .inr (.inr trivial), .inr (.inr trivial), .inr (.inr trivial), .inr (.inr trivial), .inr (.inr trivial), .inr (.inr trivial), .inr (.inr trivial), .inl rfl, .inr (.inr trivial), .inr (.inr trivial), .inr (.inr trivial), .inr (.inr trivial), .inr (.inr trivial), trivial⟩, ⟨.inr (.inr trivial), .inr (.inr trivial), .inr (.inr trivial), .inr (.inr trivial), .inr (.inr trivial), .inr (.inr trivial), .inr (.inr trivial), .inr (.inr trivial), .inr (.inr trivial), .inr (.inr trivial), .inr (.inr trivial), .inl rfl, .inr (.inr trivial), .inr (.inr trivial), .inr (.inr trivial), .inr (.inr trivial), trivial⟩, ⟨.inr (.inr trivial), .inr (.inr trivial), .inr (.inr trivial), .inr (.inr trivial), .inr (.inr trivial), .inr (.inr trivial), .inr (.inr trivial), .inr (.inr trivial), .inr (.inr trivial), .inr (.inr trivial), .inr (.inr trivial), .inr (.inr trivial), .inl rfl, .inr (.inr trivial), .inr (.inr trivial), .inr (.inr trivial), trivial⟩, ⟨.inr (.inr trivial), .inr (.inr trivial), .inr (.inr trivial), .inr (.inr trivial), .inr (.inr trivial), .inr (.inr trivial), .inr (.inr trivial), .inr (.inr trivial), .inr (.inr trivial), .inr (.inr trivial), .inr (.inr trivial), .inr (.inr trivial), .inr (.inr trivial), .inl rfl, .inr (.inr trivial), .inr (.inr trivial), trivial⟩, ⟨.inr (.inr trivial), .inr (.inr trivial), .inr (.inr trivial), .inr (.inr trivial), .inr (.inr trivial), .inr (.inr trivial), .inr (.inr trivial), .inr (.inr trivial), .inr (.inr trivial), .inr (.inr trivial), .inr (.inr trivial), .inr (.inr trivial), .inr (.inr trivial), .inr (.inr trivial), .inl rfl, .inr (.inr trivial), trivial⟩, ⟨.inr (.inr trivial), .inr (.inr trivial), .inr (.inr trivial), .inr (.inr trivial), .inr (.inr trivial), .inr (.inr trivial), .inr (.inr trivial), .inr (.inr trivial), .inr (.inr trivial), .inr (.inr trivial), .inr (.inr trivial), .inr (.inr trivial), .inr (.inr trivial), .inr (.inr trivial), .inr (.inr trivial), .inl rfl, trivial⟩, trivial⟩ ⟨trivial, trivial, trivial, trivial, trivial, trivial, trivial, trivial, trivial, trivial, trivial, trivial, trivial, trivial, trivial, trivial, trivial⟩ ?_
   refine ADX.pure [] (PureOp.move rfl (.tmp rfl)) rfl rfl (nB rfl) trivial rfl ?_
   refine ADX.pure [] (PureOp.move rfl (.tmp rfl)) rfl rfl (nB rfl) trivial rfl ?_
   refine ADX.pure [] (PureOp.move rfl (.tmp rfl)) rfl rfl (nB rfl) trivial rfl ?_
   refine ADX.pure [] (PureOp.fieldPtr rfl (.tmp rfl) f32_) rfl rfl (nB rfl) trivial rfl ?_
   refine ADX.pure [(0, .cells [.int .i64 ((f.getD z.toNat (default : GPart)).kind), .str ((f.getD z.toNat (default : GPart)).text), .int .i64 ((f.getD z.toNat (default : GPart)).a), .int .i64 ((f.getD z.toNat (default : GPart)).b)])] (PureOp.loadPtr rfl (.tmp rfl) f2_ rfl rfl (nB rfl) (nB rfl)) rfl rfl (nB rfl) ⟨rfl, trivial⟩ rfl ?_
   refine ADX.fresh [] (FreshOp.callS rfl (ih ((f.getD z.toNat (default : GPart)).a) (by omega) (by omega) (by omega)) ⟨⟨_, (.tmp rfl), .lst⟩, ⟨_, (.tmp rfl), .int⟩, trivial⟩ f54_ (congrArg SV.one (Fo.fr _))) rfl rfl (nB rfl) trivial rfl ?_
   refine ADX.pure [] (PureOp.move rfl (.tmp rfl)) rfl rfl (nB rfl) trivial rfl ?_
   refine ADX.pure [] (PureOp.fieldPtr rfl (.tmp rfl) f33_) rfl rfl (nB rfl) trivial rfl ?_
   refine ADX.pure [(0, .cells [.int .i64 ((f.getD z.toNat (default : GPart)).kind), .str ((f.getD z.toNat (default : GPart)).text), .int .i64 ((f.getD z.toNat (default : GPart)).a), .int .i64 ((f.getD z.toNat (default : GPart)).b)])] (PureOp.loadPtr rfl (.tmp rfl) f2_ rfl rfl (nB rfl) (nB rfl)) rfl rfl (nB rfl) ⟨rfl, trivial⟩ rfl ?_
   refine ADX.fresh [] (FreshOp.callS rfl (ih ((f.getD z.toNat (default : GPart)).b) (by omega) (by omega) (by omega)) ⟨⟨_, (.tmp rfl), .lst⟩, ⟨_, (.tmp rfl), .int⟩, trivial⟩ f54_ (congrArg SV.one (Fo.fr _))) rfl rfl (nB rfl) trivial rfl ?_
   refine ADX.pure [] (PureOp.nilPtr rfl (.tmp rfl)) rfl rfl (nB rfl) trivial rfl ?_
   refine ADX.pure [] (PureOp.fieldPtr rfl (.tmp rfl) f20_) rfl rfl (nB rfl) trivial rfl ?_
   refine ADX.eff (tk := [1]) (new := []) (s := .one (.con undef)) (F := []) (Hin := [(1, .cells [.int .i64 ((f.getD z.toNat (default : GPart)).kind), .str ((f.getD z.toNat (default : GPart)).text), Fo.fv Fo.nil, Fo.fv Fo.nil])]) (Hout := [(1, .cells [.int .i64 ((f.getD z.toNat (default : GPart)).kind), .str ((f.getD z.toNat (default : GPart)).text), Fo.fv (treeP f n ((f.getD z.toNat (default : GPart)).a).toNat), Fo.fv Fo.nil])]) (fun E X hE hX Q rest hk => ?_) ⟨rfl, trivial⟩ ⟨rfl, rfl⟩ rfl rfl rfl rfl trivial rfl (fun _ e => by cases e) ?_
   ·
    refine ARun.store rfl (.tmp rfl) (.tmp rfl) (Fo.cell _) rfl (nB rfl) f56_ rfl rfl ?_
    refine ARun.hleX ?_ ?_ hk
    ·
     exact HeapLe.one rfl trivial
    ·
     repeat (first | exact LkX.refl | refine LkX.cons (hX.none rfl) ?_ | refine LkX.filter (hX.none rfl) ?_)
   refine ADX.pure [] (PureOp.nilPtr rfl (.tmp rfl)) rfl rfl (nB rfl) trivial rfl ?_
   refine ADX.pure [] (PureOp.fieldPtr rfl (.tmp rfl) f21_) rfl rfl (nB rfl) trivial rfl ?_
   refine ADX.eff (tk := [1]) (new := []) (s := .one (.con undef)) (F := []) (Hin := [(1, .cells [.int .i64 ((f.getD z.toNat (default : GPart)).kind), .str ((f.getD z.toNat (default : GPart)).text), Fo.fv (treeP f n ((f.getD z.toNat (default : GPart)).a).toNat), Fo.fv Fo.nil])]) (Hout := [(1, .cells [.int .i64 ((f.getD z.toNat (default : GPart)).kind), .str ((f.getD z.toNat (default : GPart)).text), Fo.fv (treeP f n ((f.getD z.toNat (default : GPart)).a).toNat), Fo.fv (treeP f n ((f.getD z.toNat (default : GPart)).b).toNat)])]) (fun E X hE hX Q rest hk => ?_) ⟨rfl, trivial⟩ ⟨rfl, rfl⟩ rfl rfl rfl rfl trivial rfl (fun _ e => by cases e) ?_
   ·
    refine ARun.store rfl (.tmp rfl) (.tmp rfl) (Fo.cell _) rfl (nB rfl) f56_ rfl rfl ?_
    refine ARun.hleX ?_ ?_ hk
    ·
     exact HeapLe.one rfl trivial
    ·
     repeat (first | exact LkX.refl | refine LkX.cons (hX.none rfl) ?_ | refine LkX.filter (hX.none rfl) ?_)
   refine ADX.nil (H := [(0, .cells [.int .i64 ((f.getD z.toNat (default : GPart)).kind), .str ((f.getD z.toNat (default : GPart)).text), .int .i64 ((f.getD z.toNat (default : GPart)).a), .int .i64 ((f.getD z.toNat (default : GPart)).b)]), (1, .cells [.int .i64 ((f.getD z.toNat (default : GPart)).kind), .str ((f.getD z.toNat (default : GPart)).text), Fo.fv (treeP f n ((f.getD z.toNat (default : GPart)).a).toNat), Fo.fv (treeP f n ((f.getD z.toNat (default : GPart)).b).toNat)])]) ?_ ?_
   ·
    exact HeapLe.one rfl (HeapLe.one rfl trivial)
   refine AW.seq ?_
   refine AW.region ?_
   refine pu (.move rfl (.tmp rfl)) rfl rfl rfl ?_
   refine pu (.assign rfl (.tmp rfl)) rfl rfl rfl ?_
   refine ARun.nil ?_
   have he : treeP f (n + 1) z.toNat = .mk ((f.getD z.toNat (default : GPart)).kind) ((f.getD z.toNat (default : GPart)).text) (treeP f n ((f.getD z.toNat (default : GPart)).a).toNat) (treeP f n ((f.getD z.toNat (default : GPart)).b).toNat) := by
    have h1 : isOne (f.getD z.toNat (default : GPart)).kind = false := by rw [hb1]; rfl
    exact treeP_two h2
   rw [he]
   refine AW.freeze 4 1 4 _ [.int .i64 ((f.getD z.toNat (default : GPart)).kind), .str ((f.getD z.toNat (default : GPart)).text), Fo.av (treeP f n ((f.getD z.toNat (default : GPart)).a).toNat), Fo.av (treeP f n ((f.getD z.toNat (default : GPart)).b).toNat)] rfl rfl ⟨.int, .str, (Fo.fd _), (Fo.fd _), trivial⟩ rfl (nB rfl) ?_
   exact AW.ret (show ∃ s, ResL _ _ [.tmp 4] s ∧ FvS _ s _ from ⟨_, .inl ⟨_, rfl, .tmp rfl⟩, Fv.frs⟩)
  ·
   exact absurd hb1 (of_decide_eq_false hb2)
   --end
 ·
  replace hb1 := of_decide_eq_false hb1
  refine AW.region ?_
  refine pu (.intOp rfl (.tmp rfl) .int rfl) rfl rfl rfl ?_
  refine pu (.assign rfl (.tmp rfl)) rfl rfl rfl ?_
  refine ARun.nil ?_
  refine AW.cond (.tmp rfl) (fun hb3 => ?_) (fun hb3 => ?_)
  ·
   replace hb3 := of_decide_eq_true hb3
   have h2 := isTwo6 hb3
   obtain ⟨pt, pa1, pa2, pb1, pb2⟩ := partOk_two hpk h2
   refine AW.anyX [⟨[], [], [], []⟩, ⟨[], [], [], []⟩, ⟨[], [], [], []⟩, ⟨[], [], [], []⟩, ⟨[0], [], [], []⟩, ⟨[], [], [], []⟩, ⟨[], [], [], []⟩, ⟨[], [], [], []⟩, ⟨[0], [], [], []⟩, ⟨[], [], [], []⟩, ⟨[], [], [], []⟩, ⟨[], [], [], []⟩, ⟨[], [1], [], [(1, .cells [.int .i64 ((f.getD z.toNat (default : GPart)).kind), .str ((f.getD z.toNat (default : GPart)).text), Fo.fv (treeP f n ((f.getD z.toNat (default : GPart)).a).toNat), Fo.fv Fo.nil])]⟩, ⟨[], [], [], []⟩, ⟨[], [], [], []⟩, ⟨[], [1], [], [(1, .cells [.int .i64 ((f.getD z.toNat (default : GPart)).kind), .str ((f.getD z.toNat (default : GPart)).text), Fo.fv (treeP f n ((f.getD z.toNat (default : GPart)).a).toNat), Fo.fv (treeP f n ((f.getD z.toNat (default : GPart)).b).toNat)])]⟩] (by kernel_rfl) (by kernel_rfl) (by kernel_rfl) ⟨⟨.inl rfl, .inr (.inr trivial), .inr (.inr trivial), .inr (.inr trivial), .inr (.inr trivial), .inr (.inr trivial), .inr (.inr trivial), .inr (.inr trivial), .inr (.inr trivial), .inr (.inr trivial), .inr (.inr trivial), .inr (.inr trivial), .inr (.inr trivial), .inr (.inr trivial), .inr (.inr trivial), .inr (.inr trivial), trivial⟩, ⟨.inr (.inr trivial), .inl rfl, .inr (.inr trivial), .inr (.inr trivial), .inr (.inr trivial), .inr (.inr trivial), .inr (.inr trivial), .inr (.inr trivial), .inr (.inr trivial), .inr (.inr trivial), .inr (.inr trivial), .inr (.inr trivial), .inr (.inr trivial), .inr (.inr trivial), .inr (.inr trivial), .inr (.inr trivial), trivial⟩, ⟨.inr (.inr trivial), .inr (.inr trivial), .inl rfl, .inr (.inr trivial), .inr (.inr trivial), .inr (.inr trivial), .inr (.inr trivial), .inr (.inr trivial), .inr (.inr trivial), .inr (.inr trivial), .inr (.inr trivial), .inr (.inr trivial), .inr (.inr trivial), .inr (.inr trivial), .inr (.inr trivial), .inr (.inr trivial), trivial⟩, ⟨.inr (.inr trivial), .inr (.inr trivial), .inr (.inr trivial), .inl rfl, .inr (.inr trivial), .inr (.inr trivial), .inr (.inr trivial), .inr (.inr trivial), .inr (.inr trivial), .inr (.inr trivial), .inr (.inr trivial), .inr (.inr trivial), .inr (.inr trivial), .inr (.inr trivial), .inr (.inr trivial), .inr (.inr trivial), trivial⟩, ⟨.inr (.inr trivial), .inr (.inr trivial), .inr (.inr trivial), .inr (.inr trivial), .inl rfl, .inr (.inr trivial), .inr (.inr trivial), .inr (.inr trivial), .inr (.inr trivial), .inr (.inr trivial), .inr (.inr trivial), .inr (.inr trivial), .inr (.inr trivial), .inr (.inr trivial), .inr (.inr trivial), .inr (.inr trivial), trivial⟩, ⟨.inr (.inr trivial), .inr (.inr trivial), .inr (.inr trivial), .inr (.inr trivial), .inr (.inr trivial), .inl rfl, .inr (.inr trivial), .inr (.inr trivial), .inr (.inr trivial), .inr (.inr trivial), .inr (.inr trivial), .inr (.inr trivial), .inr (.inr trivial), .inr (.inr trivial), .inr (.inr trivial), .inr (.inr trivial), trivial⟩, ⟨.inr (.inr trivial), .inr (.inr trivial), .inr (.inr trivial), .inr (.inr trivial), .inr (.inr trivial), .inr (.inr trivial), .inl rfl, .inr (.inr trivial), .inr (.inr trivial), .inr (.inr trivial), .inr (.inr trivial), .inr (.inr trivial), .inr (.inr trivial), .inr (.inr trivial), .inr (.inr trivial), .inr (.inr trivial), trivial⟩, ⟨.inr (.inr trivial), .inr (.inr trivial), .inr (.inr trivial), .inr (.inr trivial), .inr (.inr trivial), .inr (.inr trivial), .inr (.inr trivial), .inl rfl, .inr (.inr trivial), .inr (.inr trivial), .inr (.inr trivial), .inr (.inr trivial), .inr (.inr trivial), .inr (.inr trivial), .inr (.inr trivial), .inr (.inr trivial), trivial⟩, ⟨.inr (.inr trivial), .inr (.inr trivial), .inr (.inr trivial), .inr (.inr trivial), .inr (.inr trivial), .inr (.inr trivial), .inr (.inr trivial), .inr (.inr trivial), .inl rfl, .inr (.inr trivial), .inr (.inr trivial), .inr (.inr trivial), .inr (.inr trivial), .inr (.inr trivial), .inr (.inr trivial), .inr (.inr trivial), trivial⟩, ⟨.inr (.inr trivial), .inr (.inr trivial), .inr (.inr trivial), .inr (.inr trivial), .inr (.inr trivial), .inr (.inr trivial), .inr (.inr trivial), .inr (.inr trivial), .inr (.inr trivial), .inl rfl, .inr (.inr trivial), .inr (.inr trivial), .inr (.inr trivial), .inr (.inr trivial), .inr (.inr trivial), .inr (.inr trivial), trivial⟩, ⟨.inr (.inr trivial), .inr (.inr trivial), .inr (.inr trivial), .inr (.inr trivial), .inr (.inr trivial), .inr (.inr trivial), .inr (.inr trivial), .inr (.inr trivial), .inr (.inr trivial), .inr (.inr trivial), .inl rfl, .inr (.inr trivial), .inr (.inr trivial), .inr (.inr trivial), .inr (.inr trivial), .inr (.inr trivial), trivial⟩, ⟨.inr (.inr trivial), .inr (.inr trivial), .inr (.inr trivial), .inr (.inr trivial), .inr (.inr trivial), .inr (.inr trivial), .inr (.inr trivial), .inr (.inr trivial), .inr (.inr trivial), .inr (.inr trivial), .inr (.inr trivial), .inl rfl, .inr (.inr trivial), .inr (.inr trivial), .inr (.inr trivial), .inr (.inr trivial), trivial⟩, ⟨.inr (.inr trivial), .inr (.inr trivial), .inr (.inr trivial), .inr (.inr trivial), .inr (.inr trivial), .inr (.inr trivial), .inr (.inr trivial), .inr (.inr trivial), .inr (.inr trivial), .inr (.inr trivial), .inr (.inr trivial), .inr (.inr trivial), .inl rfl, .inr (.inr trivial), .inr (.inr trivial), .inr (.inr trivial), trivial⟩, ⟨.inr (.inr trivial), .inr (.inr trivial), .inr (.inr trivial), .inr (.inr trivial), .inr (.inr trivial), .inr (.inr trivial), .inr (.inr trivial), .inr (.inr trivial), .inr (.inr trivial), .inr (.inr trivial), .inr (.inr trivial), .inr (.inr trivial), .inr (.inr trivial), .inl rfl, .inr (.inr trivial), .inr (.inr trivial), trivial⟩, ⟨.inr (.inr trivial), .inr (.inr trivial), .inr (.inr trivial), .inr (.inr trivial), .inr (.inr trivial), .inr (.inr trivial), .inr (.inr trivial), .inr (.inr trivial), .inr (.inr trivial), .inr (.inr trivial), .inr (.inr trivial), .inr (.inr trivial), .inr (.inr trivial), .inr (.inr trivial), .inl rfl, .inr (.inr trivial), trivial⟩, ⟨.inr (.inr trivial), .inr (.inr trivial), .inr (.inr trivial), .inr (.inr trivial), .inr (.inr trivial), .inr (.inr trivial), .inr (.inr trivial), .inr (.inr trivial), .inr (.inr trivial), .inr (.inr trivial), .inr (.inr trivial), .inr (.inr trivial), .inr (.inr trivial), .inr (.inr trivial), .inr (.inr trivial), .inl rfl, trivial⟩, trivial⟩ ⟨trivial, trivial, trivial, trivial, trivial, trivial, trivial, trivial, trivial, trivial, trivial, trivial, trivial, trivial, trivial, trivial, trivial⟩ ?_
   refine ADX.pure [] (PureOp.move rfl (.tmp rfl)) rfl rfl (nB rfl) trivial rfl ?_
   refine ADX.pure [] (PureOp.move rfl (.tmp rfl)) rfl rfl (nB rfl) trivial rfl ?_
   refine ADX.pure [] (PureOp.move rfl (.tmp rfl)) rfl rfl (nB rfl) trivial rfl ?_
   refine ADX.pure [] (PureOp.fieldPtr rfl (.tmp rfl) f32_) rfl rfl (nB rfl) trivial rfl ?_
   refine ADX.pure [(0, .cells [.int .i64 ((f.getD z.toNat (default : GPart)).kind), .str ((f.getD z.toNat (default : GPart)).text), .int .i64 ((f.getD z.toNat (default : GPart)).a), .int .i64 ((f.getD z.toNat (default : GPart)).b)])] (PureOp.loadPtr rfl (.tmp rfl) f2_ rfl rfl (nB rfl) (nB rfl)) rfl rfl (nB rfl) ⟨rfl, trivial⟩ rfl ?_
   refine ADX.fresh [] (FreshOp.callS rfl (ih ((f.getD z.toNat (default : GPart)).a) (by omega) (by omega) (by omega)) ⟨⟨_, (.tmp rfl), .lst⟩, ⟨_, (.tmp rfl), .int⟩, trivial⟩ f54_ (congrArg SV.one (Fo.fr _))) rfl rfl (nB rfl) trivial rfl ?_
   refine ADX.pure [] (PureOp.move rfl (.tmp rfl)) rfl rfl (nB rfl) trivial rfl ?_
   refine ADX.pure [] (PureOp.fieldPtr rfl (.tmp rfl) f33_) rfl rfl (nB rfl) trivial rfl ?_
   refine ADX.pure [(0, .cells [.int .i64 ((f.getD z.toNat (default : GPart)).kind), .str ((f.getD z.toNat (default : GPart)).text), .int .i64 ((f.getD z.toNat (default : GPart)).a), .int .i64 ((f.getD z.toNat (default : GPart)).b)])] (PureOp.loadPtr rfl (.tmp rfl) f2_ rfl rfl (nB rfl) (nB rfl)) rfl rfl (nB rfl) ⟨rfl, trivial⟩ rfl ?_
   refine ADX.fresh [] (FreshOp.callS rfl (ih ((f.getD z.toNat (default : GPart)).b) (by omega) (by omega) (by omega)) ⟨⟨_, (.tmp rfl), .lst⟩, ⟨_, (.tmp rfl), .int⟩, trivial⟩ f54_ (congrArg SV.one (Fo.fr _))) rfl rfl (nB rfl) trivial rfl ?_
   refine ADX.pure [] (PureOp.nilPtr rfl (.tmp rfl)) rfl rfl (nB rfl) trivial rfl ?_
   refine ADX.pure [] (PureOp.fieldPtr rfl (.tmp rfl) f20_) rfl rfl (nB rfl) trivial rfl ?_
   refine ADX.eff (tk := [1]) (new := []) (s := .one (.con undef)) (F := []) (Hin := [(1, .cells [.int .i64 ((f.getD z.toNat (default : GPart)).kind), .str ((f.getD z.toNat (default : GPart)).text), Fo.fv Fo.nil, Fo.fv Fo.nil])]) (Hout := [(1, .cells [.int .i64 ((f.getD z.toNat (default : GPart)).kind), .str ((f.getD z.toNat (default : GPart)).text), Fo.fv (treeP f n ((f.getD z.toNat (default : GPart)).a).toNat), Fo.fv Fo.nil])]) (fun E X hE hX Q rest hk => ?_) ⟨rfl, trivial⟩ ⟨rfl, rfl⟩ rfl rfl rfl rfl trivial rfl (fun _ e => by cases e) ?_
   ·
    refine ARun.store rfl (.tmp rfl) (.tmp rfl) (Fo.cell _) rfl (nB rfl) f56_ rfl rfl ?_
    refine ARun.hleX ?_ ?_ hk
    ·
     exact HeapLe.one rfl trivial
    ·
     repeat (first | exact LkX.refl | refine LkX.cons (hX.none rfl) ?_ | refine LkX.filter (hX.none rfl) ?_)
   refine ADX.pure [] (PureOp.nilPtr rfl (.tmp rfl)) rfl rfl (nB rfl) trivial rfl ?_
   refine ADX.pure [] (PureOp.fieldPtr rfl (.tmp rfl) f21_) rfl rfl (nB rfl) trivial rfl ?_
   refine ADX.eff (tk := [1]) (new := []) (s := .one (.con undef)) (F := []) (Hin := [(1, .cells [.int .i64 ((f.getD z.toNat (default : GPart)).kind), .str ((f.getD z.toNat (default : GPart)).text), Fo.fv (treeP f n ((f.getD z.toNat (default : GPart)).a).toNat), Fo.fv Fo.nil])]) (Hout := [(1, .cells [.int .i64 ((f.getD z.toNat (default : GPart)).kind), .str ((f.getD z.toNat (default : GPart)).text), Fo.fv (treeP f n ((f.getD z.toNat (default : GPart)).a).toNat), Fo.fv (treeP f n ((f.getD z.toNat (default : GPart)).b).toNat)])]) (fun E X hE hX Q rest hk => ?_) ⟨rfl, trivial⟩ ⟨rfl, rfl⟩ rfl rfl rfl rfl trivial rfl (fun _ e => by cases e) ?_
   ·
    refine ARun.store rfl (.tmp rfl) (.tmp rfl) (Fo.cell _) rfl (nB rfl) f56_ rfl rfl ?_
    refine ARun.hleX ?_ ?_ hk
    ·
     exact HeapLe.one rfl trivial
    ·
     repeat (first | exact LkX.refl | refine LkX.cons (hX.none rfl) ?_ | refine LkX.filter (hX.none rfl) ?_)
   refine ADX.nil (H := [(0, .cells [.int .i64 ((f.getD z.toNat (default : GPart)).kind), .str ((f.getD z.toNat (default : GPart)).text), .int .i64 ((f.getD z.toNat (default : GPart)).a), .int .i64 ((f.getD z.toNat (default : GPart)).b)]), (1, .cells [.int .i64 ((f.getD z.toNat (default : GPart)).kind), .str ((f.getD z.toNat (default : GPart)).text), Fo.fv (treeP f n ((f.getD z.toNat (default : GPart)).a).toNat), Fo.fv (treeP f n ((f.getD z.toNat (default : GPart)).b).toNat)])]) ?_ ?_
   ·
    exact HeapLe.one rfl (HeapLe.one rfl trivial)
   refine AW.seq ?_
   refine AW.region ?_
   refine pu (.move rfl (.tmp rfl)) rfl rfl rfl ?_
   refine pu (.assign rfl (.tmp rfl)) rfl rfl rfl ?_
   refine ARun.nil ?_
   have he : treeP f (n + 1) z.toNat = .mk ((f.getD z.toNat (default : GPart)).kind) ((f.getD z.toNat (default : GPart)).text) (treeP f n ((f.getD z.toNat (default : GPart)).a).toNat) (treeP f n ((f.getD z.toNat (default : GPart)).b).toNat) := by
    have h1 : isOne (f.getD z.toNat (default : GPart)).kind = false := by rw [hb3]; rfl
    exact treeP_two h2
   rw [he]
   refine AW.freeze 4 1 4 _ [.int .i64 ((f.getD z.toNat (default : GPart)).kind), .str ((f.getD z.toNat (default : GPart)).text), Fo.av (treeP f n ((f.getD z.toNat (default : GPart)).a).toNat), Fo.av (treeP f n ((f.getD z.toNat (default : GPart)).b).toNat)] rfl rfl ⟨.int, .str, (Fo.fd _), (Fo.fd _), trivial⟩ rfl (nB rfl) ?_
   exact AW.ret (show ∃ s, ResL _ _ [.tmp 4] s ∧ FvS _ s _ from ⟨_, .inl ⟨_, rfl, .tmp rfl⟩, Fv.frs⟩)
  ·
   replace hb3 := of_decide_eq_false hb3
   refine AW.seq ?_
   refine AW.seq ?_
   refine AW.region ?_
   refine pu (.intOp rfl (.tmp rfl) .int rfl) rfl rfl rfl ?_
   refine pu (.assign rfl (.tmp rfl)) rfl rfl rfl ?_
   refine ARun.nil ?_
   refine AW.cond (.tmp rfl) (fun hb4 => ?_) (fun hb4 => ?_)
   ·
    replace hb4 := of_decide_eq_true hb4
    have h1 : isOne (f.getD z.toNat (default : GPart)).kind = true := by rw [hb4]; rfl
    obtain ⟨pt, pa1, pa2, pb1⟩ := partOk_one hpk h1
    refine AW.skip ?_
    refine AW.cond (.tmp rfl) (fun hb5 => ?_) (fun hb5 => ?_)
    ·
     clear hb5
     refine AW.region ?_
     refine pu (.move rfl (.tmp rfl)) rfl rfl rfl ?_
     refine pu (.move rfl (.tmp rfl)) rfl rfl rfl ?_
     refine pu (.fieldPtr rfl (.tmp rfl) f32_) rfl rfl rfl ?_
     refine pu (.loadPtr rfl (.tmp rfl) f2_ rfl rfl (nB rfl) (nB rfl)) rfl rfl rfl ?_
     refine ARun.fresh (FreshOp.callS rfl (ih ((f.getD z.toNat (default : GPart)).a) (by omega) (by omega) (by omega)) ⟨⟨_, (.tmp rfl), .lst⟩, ⟨_, (.tmp rfl), .int⟩, trivial⟩ f54_ (congrArg SV.one (Fo.fr _))) rfl rfl (nB rfl) ?_
     refine pu (.nilPtr rfl (.tmp rfl)) rfl rfl rfl ?_
     refine pu (.fieldPtr rfl (.tmp rfl) f20_) rfl rfl rfl ?_
     refine ARun.store rfl (.tmp rfl) (.tmp rfl) (Fo.cell _) rfl (nB rfl) f56_ rfl rfl ?_
     refine ARun.nil ?_
     refine AW.seq ?_
     refine AW.region ?_
     refine pu (.move rfl (.tmp rfl)) rfl rfl rfl ?_
     refine pu (.assign rfl (.tmp rfl)) rfl rfl rfl ?_
     refine ARun.nil ?_
     have he : treeP f (n + 1) z.toNat = .mk ((f.getD z.toNat (default : GPart)).kind) ((f.getD z.toNat (default : GPart)).text) (treeP f n ((f.getD z.toNat (default : GPart)).a).toNat) Fo.nil := by
      have h2 : isTwo (f.getD z.toNat (default : GPart)).kind = false := by rw [hb4]; rfl
      exact treeP_one h2 h1
     rw [he]
     refine AW.freeze 4 1 4 _ [.int .i64 ((f.getD z.toNat (default : GPart)).kind), .str ((f.getD z.toNat (default : GPart)).text), Fo.av (treeP f n ((f.getD z.toNat (default : GPart)).a).toNat), Fo.av Fo.nil] rfl rfl ⟨.int, .str, (Fo.fd _), .con, trivial⟩ rfl (nB rfl) ?_
     exact AW.ret (show ∃ s, ResL _ _ [.tmp 4] s ∧ FvS _ s _ from ⟨_, .inl ⟨_, rfl, .tmp rfl⟩, Fv.frs⟩)
    ·
     exact absurd hb4 (of_decide_eq_false hb5)
     --end
   ·
    replace hb4 := of_decide_eq_false hb4
    refine AW.region ?_
    refine pu (.intOp rfl (.tmp rfl) .int rfl) rfl rfl rfl ?_
    refine pu (.assign rfl (.tmp rfl)) rfl rfl rfl ?_
    refine ARun.nil ?_
    refine AW.cond (.tmp rfl) (fun hb6 => ?_) (fun hb6 => ?_)
    ·
     replace hb6 := of_decide_eq_true hb6
     have h1 : isOne (f.getD z.toNat (default : GPart)).kind = true := by rw [hb6]; rfl
     obtain ⟨pt, pa1, pa2, pb1⟩ := partOk_one hpk h1
     refine AW.region ?_
     refine pu (.move rfl (.tmp rfl)) rfl rfl rfl ?_
     refine pu (.move rfl (.tmp rfl)) rfl rfl rfl ?_
     refine pu (.fieldPtr rfl (.tmp rfl) f32_) rfl rfl rfl ?_
     refine pu (.loadPtr rfl (.tmp rfl) f2_ rfl rfl (nB rfl) (nB rfl)) rfl rfl rfl ?_
     refine ARun.fresh (FreshOp.callS rfl (ih ((f.getD z.toNat (default : GPart)).a) (by omega) (by omega) (by omega)) ⟨⟨_, (.tmp rfl), .lst⟩, ⟨_, (.tmp rfl), .int⟩, trivial⟩ f54_ (congrArg SV.one (Fo.fr _))) rfl rfl (nB rfl) ?_
     refine pu (.nilPtr rfl (.tmp rfl)) rfl rfl rfl ?_
     refine pu (.fieldPtr rfl (.tmp rfl) f20_) rfl rfl rfl ?_
     refine ARun.store rfl (.tmp rfl) (.tmp rfl) (Fo.cell _) rfl (nB rfl) f56_ rfl rfl ?_
     refine ARun.nil ?_
     refine AW.seq ?_
     refine AW.region ?_
     refine pu (.move rfl (.tmp rfl)) rfl rfl rfl ?_
     refine pu (.assign rfl (.tmp rfl)) rfl rfl rfl ?_
     refine ARun.nil ?_
     have he : treeP f (n + 1) z.toNat = .mk ((f.getD z.toNat (default : GPart)).kind) ((f.getD z.toNat (default : GPart)).text) (treeP f n ((f.getD z.toNat (default : GPart)).a).toNat) Fo.nil := by
      have h2 : isTwo (f.getD z.toNat (default : GPart)).kind = false := by rw [hb6]; rfl
      exact treeP_one h2 h1
     rw [he]
     refine AW.freeze 4 1 4 _ [.int .i64 ((f.getD z.toNat (default : GPart)).kind), .str ((f.getD z.toNat (default : GPart)).text), Fo.av (treeP f n ((f.getD z.toNat (default : GPart)).a).toNat), Fo.av Fo.nil] rfl rfl ⟨.int, .str, (Fo.fd _), .con, trivial⟩ rfl (nB rfl) ?_
     exact AW.ret (show ∃ s, ResL _ _ [.tmp 4] s ∧ FvS _ s _ from ⟨_, .inl ⟨_, rfl, .tmp rfl⟩, Fv.frs⟩)
    ·
     replace hb6 := of_decide_eq_false hb6
     refine AW.skip ?_
     refine AW.seq ?_
     refine AW.region ?_
     refine pu (.move rfl (.tmp rfl)) rfl rfl rfl ?_
     refine pu (.assign rfl (.tmp rfl)) rfl rfl rfl ?_
     refine ARun.nil ?_
     have he : treeP f (n + 1) z.toNat = .mk ((f.getD z.toNat (default : GPart)).kind) ((f.getD z.toNat (default : GPart)).text) Fo.nil Fo.nil := by
      have h2 : isTwo (f.getD z.toNat (default : GPart)).kind = false := by unfold isTwo; rw [decide_eq_false hb1, decide_eq_false hb3]; rfl
      have h1 : isOne (f.getD z.toNat (default : GPart)).kind = false := by unfold isOne; rw [decide_eq_false hb4, decide_eq_false hb6]; rfl
      exact treeP_leaf h2 h1
     rw [he]
     refine AW.freeze 4 1 4 _ [.int .i64 ((f.getD z.toNat (default : GPart)).kind), .str ((f.getD z.toNat (default : GPart)).text), Fo.av Fo.nil, Fo.av Fo.nil] rfl rfl ⟨.int, .str, .con, .con, trivial⟩ rfl (nB rfl) ?_
     exact AW.ret (show ∃ s, ResL _ _ [.tmp 4] s ∧ FvS _ s _ from ⟨_, .inl ⟨_, rfl, .tmp rfl⟩, Fv.frs⟩)
theorem v_Tree (f : List GPart) (hl : f.length ≤ 1000) (hp : ∀ i, i < f.length → partOk (f.getD i default) i = true) : ∀ (n : Nat) (z : Int), 0 ≤ z → z < n → z < f.length → FnF Try.prog 44 [.one (.lst 4 f.length (fun i0 j0 => ([.int .i64 ((f.getD i0 (default : GPart)).kind), .str ((f.getD i0 (default : GPart)).text), .int .i64 ((f.getD i0 (default : GPart)).a), .int .i64 ((f.getD i0 (default : GPart)).b)] : List AV).getD j0 (.con undef))), .one (.int .i64 z)] (.one (Fo.av (treeP f n z.toNat)))
  | 0 => fun z h1 h2 _ => by omega
  | n + 1 => fun z h1 h2 h3 => v_TreeS f hl hp n (v_Tree f hl hp n) z h1 (by omega) h3
theorem v_l5TreeS (f : List GPart) (hl : f.length ≤ 1000) (hp : ∀ i, i < f.length → partOk (f.getD i default) i = true) (n : Nat) (ih : ∀ z : Int, 0 ≤ z → z < n → z < f.length → FnF Try.prog 48 [.one (.lst 4 f.length (fun i0 j0 => ([.int .i64 ((f.getD i0 (default : GPart)).kind), .str ((f.getD i0 (default : GPart)).text), .int .i64 ((f.getD i0 (default : GPart)).a), .int .i64 ((f.getD i0 (default : GPart)).b)] : List AV).getD j0 (.con undef))), .one (.int .i64 z)] (.one (Fo.av (treeP f n z.toNat)))) (z : Int) (hz : 0 ≤ z) (hzn : z < (n : Int) + 1) (hzl : z < f.length) : FnF Try.prog 48 [.one (.lst 4 f.length (fun i0 j0 => ([.int .i64 ((f.getD i0 (default : GPart)).kind), .str ((f.getD i0 (default : GPart)).text), .int .i64 ((f.getD i0 (default : GPart)).a), .int .i64 ((f.getD i0 (default : GPart)).b)] : List AV).getD j0 (.con undef))), .one (.int .i64 z)] (.one (Fo.av (treeP f (n + 1) z.toNat))) := by
 have hpk := hp z.toNat (by omega)
 have hzt : ((z.toNat : Nat) : Int) = z := by omega
 have _u0 := True.intro
 refine FnF.of_body (fn := Try.f48) Try.func48 rfl (nB rfl)  ?_
 intro w0
 show AW _ 43 _ _ _ _
 refine AW.seq ?_
 refine AW.region ?_
 refine pu (.assign rfl .con) rfl rfl rfl ?_
 refine ARun.nil ?_
 refine AW.seq ?_
 refine AW.region ?_
 refine pu (.move rfl (.tmp rfl)) rfl rfl rfl ?_
 refine pu (.move rfl (.tmp rfl)) rfl rfl rfl ?_
 refine pu (.indexLst (i := z.toNat) rfl (.tmp rfl) f45_ (.tmp rfl) (by omega) (by omega)) rfl rfl rfl ?_
 refine pu (.loadRefAgg rfl (.tmp rfl) f28_ (nB rfl)) rfl rfl rfl ?_
 refine ARun.alloc (id := 0) (l := [.int .i64 0, .str ByteArray.empty, .int .i64 0, .int .i64 0]) (z := (.agg #[.int .i64 0, .string ByteArray.empty, .int .i64 0, .int .i64 0])) rfl (by kernel_rfl) (fun _ _ _ => ⟨_, _, rfl, rfl, ⟨_, _, rfl, ⟨rfl, by decide⟩, ⟨_, _, rfl, rfl, ⟨_, _, rfl, rfl, rfl⟩⟩⟩⟩) ⟨(by refine fr_env rfl ?_; (repeat refine env_cons (by first | with_reducible exact Fo.noS _ _ | with_reducible exact Fo.noS' _ _ | exact rfl | exact Fo.noS _ _ | exact Fo.noS' _ _ | exact agg_no (by repeat' first | with_reducible exact Fo.no _ _ | with_reducible exact Fo.no' _ _ | exact rfl | exact Fo.no _ _ | exact Fo.no' _ _ | refine no_cons ?_ ?_)) ?_); exact rfl), (by repeat first | exact trivial | refine ⟨by decide, by first | rfl | exact trivial | (intro i j; first | rfl | exact getD_no rfl | (dsimp only; split <;> first | rfl | exact getD_no rfl) | exact scl_no (by apply_assumption) _), ?_⟩)⟩ rfl rfl rfl (nB rfl) ?_
 refine ARun.store rfl (.tmp rfl) (.tmp rfl) (SV.cells_of (by exact ⟨trivial, trivial, trivial, trivial, trivial⟩)) rfl (nB rfl) f35_ rfl rfl ?_
 refine ARun.nil ?_
 refine AW.seq ?_
 refine AW.region ?_
 refine pu (.fieldPtr rfl (.tmp rfl) f47_) rfl rfl rfl ?_
 refine pu (.loadPtr rfl (.tmp rfl) f2_ rfl rfl (nB rfl) (nB rfl)) rfl rfl rfl ?_
 refine pu (.fieldPtr rfl (.tmp rfl) f48_) rfl rfl rfl ?_
 refine pu (.loadPtr rfl (.tmp rfl) f3_ rfl rfl (nB rfl) (nB rfl)) rfl rfl rfl ?_
 refine pu (.build (ys := [.int .i64 ((f.getD z.toNat (default : GPart)).kind), .str ((f.getD z.toNat (default : GPart)).text)]) (l := [.int .i64 0, .str ByteArray.empty, Fo.fv Fo.nil, Fo.fv Fo.nil]) (pl := [(0, 1), (1, 1), (2, 1), (3, 1)]) (z := (.agg #[.int .i64 0, .string ByteArray.empty, .pointer none, .pointer none])) rfl (by kernel_rfl) (by kernel_rfl) (fun _ _ _ => ⟨_, _, rfl, rfl, ⟨_, _, rfl, ⟨rfl, by decide⟩, ⟨_, _, rfl, rfl, ⟨_, _, rfl, rfl, rfl⟩⟩⟩⟩) ⟨(.tmp rfl), trivial, rfl, ⟨(.tmp rfl), trivial, rfl, trivial⟩⟩ rfl) rfl rfl rfl ?_
 refine ARun.box (id := 1) rfl (.tmp rfl) (SV.cells_of (by exact ⟨trivial, trivial, ⟨rfl, (fun _ e => by cases e), (fun _ e => by cases e)⟩, ⟨rfl, (fun _ e => by cases e), (fun _ e => by cases e)⟩, trivial⟩)) ⟨(by refine fr_env rfl ?_; (repeat refine env_cons (by first | with_reducible exact Fo.noS _ _ | with_reducible exact Fo.noS' _ _ | exact rfl | exact Fo.noS _ _ | exact Fo.noS' _ _ | exact agg_no (by repeat' first | with_reducible exact Fo.no _ _ | with_reducible exact Fo.no' _ _ | exact rfl | exact Fo.no _ _ | exact Fo.no' _ _ | refine no_cons ?_ ?_)) ?_); exact rfl), (by repeat first | exact trivial | refine ⟨by decide, by first | rfl | exact trivial | (intro i j; first | rfl | exact getD_no rfl | (dsimp only; split <;> first | rfl | exact getD_no rfl) | exact scl_no (by apply_assumption) _), ?_⟩)⟩ (by repeat' first | exact rfl | exact Fo.no _ _ | exact Fo.no' _ _ | refine no_cons ?_ ?_) rfl rfl (nB rfl) ?_
 refine pu (.assign rfl (.tmp rfl)) rfl rfl rfl ?_
 refine ARun.nil ?_
 refine AW.seq ?_
 refine AW.seq ?_
 refine AW.region ?_
 refine pu (.fieldPtr rfl (.tmp rfl) f47_) rfl rfl rfl ?_
 refine pu (.loadPtr rfl (.tmp rfl) f2_ rfl rfl (nB rfl) (nB rfl)) rfl rfl rfl ?_
 refine pu (.call rfl (v_l5Two ((f.getD z.toNat (default : GPart)).kind)) ⟨⟨_, (.tmp rfl), .int⟩, trivial⟩ f30_ trivial) rfl rfl rfl ?_
 refine ARun.nil ?_
 refine AW.cond (.tmp rfl) (fun hb1 => ?_) (fun hb1 => ?_)
 ·
  have h2 := hb1
  obtain ⟨pt, pa1, pa2, pb1, pb2⟩ := partOk_two hpk h2
  refine AW.region ?_
  refine pu (.move rfl (.tmp rfl)) rfl rfl rfl ?_
  refine pu (.move rfl (.tmp rfl)) rfl rfl rfl ?_
  refine pu (.fieldPtr rfl (.tmp rfl) f33_) rfl rfl rfl ?_
  refine pu (.loadPtr rfl (.tmp rfl) f2_ rfl rfl (nB rfl) (nB rfl)) rfl rfl rfl ?_
  refine ARun.fresh (FreshOp.callS rfl (ih ((f.getD z.toNat (default : GPart)).b) (by omega) (by omega) (by omega)) ⟨⟨_, (.tmp rfl), .lst⟩, ⟨_, (.tmp rfl), .int⟩, trivial⟩ f55_ (congrArg SV.one (Fo.fr _))) rfl rfl (nB rfl) ?_
  refine pu (.nilPtr rfl (.tmp rfl)) rfl rfl rfl ?_
  refine pu (.fieldPtr rfl (.tmp rfl) f25_) rfl rfl rfl ?_
  refine ARun.store rfl (.tmp rfl) (.tmp rfl) (Fo.cell _) rfl (nB rfl) f57_ rfl rfl ?_
  refine ARun.nil ?_
  refine AW.seq ?_
  refine AW.seq ?_
  refine AW.region ?_
  refine pu (.fieldPtr rfl (.tmp rfl) f47_) rfl rfl rfl ?_
  refine pu (.loadPtr rfl (.tmp rfl) f2_ rfl rfl (nB rfl) (nB rfl)) rfl rfl rfl ?_
  refine pu (.call rfl (v_l5Two ((f.getD z.toNat (default : GPart)).kind)) ⟨⟨_, (.tmp rfl), .int⟩, trivial⟩ f30_ trivial) rfl rfl rfl ?_
  refine pu (.move rfl (.tmp rfl)) rfl rfl rfl ?_
  refine ARun.gpure (want := false) (.tf rfl) (fun hg2 => PureOp.fieldPtr rfl (.tmp rfl) f47_) rfl rfl (nB rfl) rfl (nB rfl) ?_
  refine ARun.gpure (want := false) (.tf rfl) (fun hg3 => PureOp.loadPtr rfl (.gtmp rfl hg3) f2_ rfl rfl (nB rfl) (nB rfl)) rfl rfl (nB rfl) rfl (nB rfl) ?_
  refine ARun.gpure (want := false) (.tf rfl) (fun hg4 => PureOp.call rfl (v_l5One ((f.getD z.toNat (default : GPart)).kind)) ⟨⟨_, (.gtmp rfl hg4), .int⟩, trivial⟩ f31_ trivial) rfl rfl (nB rfl) rfl (nB rfl) ?_
  refine pu (.pick rfl (.tmp rfl) (fun _ => .bool) (fun hp6 => .gtmp rfl (not_of hp6))) rfl rfl rfl ?_
  refine ARun.nil ?_
  refine AW.cond (.tmp rfl) (fun hb7 => ?_) (fun hb7 => ?_)
  ·
   have h12 := cond_two hb7
   refine AW.region ?_
   refine pu (.move rfl (.tmp rfl)) rfl rfl rfl ?_
   refine pu (.move rfl (.tmp rfl)) rfl rfl rfl ?_
   refine pu (.fieldPtr rfl (.tmp rfl) f32_) rfl rfl rfl ?_
   refine pu (.loadPtr rfl (.tmp rfl) f2_ rfl rfl (nB rfl) (nB rfl)) rfl rfl rfl ?_
   refine ARun.fresh (FreshOp.callS rfl (ih ((f.getD z.toNat (default : GPart)).a) (by omega) (by omega) (by omega)) ⟨⟨_, (.tmp rfl), .lst⟩, ⟨_, (.tmp rfl), .int⟩, trivial⟩ f55_ (congrArg SV.one (Fo.fr _))) rfl rfl (nB rfl) ?_
   refine pu (.nilPtr rfl (.tmp rfl)) rfl rfl rfl ?_
   refine pu (.fieldPtr rfl (.tmp rfl) f24_) rfl rfl rfl ?_
   refine ARun.store rfl (.tmp rfl) (.tmp rfl) (Fo.cell _) rfl (nB rfl) f57_ rfl rfl ?_
   refine ARun.nil ?_
   refine AW.seq ?_
   refine AW.region ?_
   refine pu (.move rfl (.tmp rfl)) rfl rfl rfl ?_
   refine pu (.assign rfl (.tmp rfl)) rfl rfl rfl ?_
   refine ARun.nil ?_
   have he : treeP f (n + 1) z.toNat = .mk ((f.getD z.toNat (default : GPart)).kind) ((f.getD z.toNat (default : GPart)).text) (treeP f n ((f.getD z.toNat (default : GPart)).a).toNat) (treeP f n ((f.getD z.toNat (default : GPart)).b).toNat) := by
    exact treeP_two h2
   rw [he]
   refine AW.freeze 4 1 4 _ [.int .i64 ((f.getD z.toNat (default : GPart)).kind), .str ((f.getD z.toNat (default : GPart)).text), Fo.av (treeP f n ((f.getD z.toNat (default : GPart)).a).toNat), Fo.av (treeP f n ((f.getD z.toNat (default : GPart)).b).toNat)] rfl rfl ⟨.int, .str, (Fo.fd _), (Fo.fd _), trivial⟩ rfl (nB rfl) ?_
   exact AW.ret (show ∃ s, ResL _ _ [.tmp 4] s ∧ FvS _ s _ from ⟨_, .inl ⟨_, rfl, .tmp rfl⟩, Fv.frs⟩)
  ·
   rw [h2] at hb7; cases hb7
   --end
 ·
  have h2 := hb1
  refine AW.skip ?_
  refine AW.seq ?_
  refine AW.seq ?_
  refine AW.region ?_
  refine pu (.fieldPtr rfl (.tmp rfl) f47_) rfl rfl rfl ?_
  refine pu (.loadPtr rfl (.tmp rfl) f2_ rfl rfl (nB rfl) (nB rfl)) rfl rfl rfl ?_
  refine pu (.call rfl (v_l5Two ((f.getD z.toNat (default : GPart)).kind)) ⟨⟨_, (.tmp rfl), .int⟩, trivial⟩ f30_ trivial) rfl rfl rfl ?_
  refine pu (.move rfl (.tmp rfl)) rfl rfl rfl ?_
  refine ARun.gpure (want := false) (.tf rfl) (fun hg8 => PureOp.fieldPtr rfl (.tmp rfl) f47_) rfl rfl (nB rfl) rfl (nB rfl) ?_
  refine ARun.gpure (want := false) (.tf rfl) (fun hg9 => PureOp.loadPtr rfl (.gtmp rfl hg9) f2_ rfl rfl (nB rfl) (nB rfl)) rfl rfl (nB rfl) rfl (nB rfl) ?_
  refine ARun.gpure (want := false) (.tf rfl) (fun hg10 => PureOp.call rfl (v_l5One ((f.getD z.toNat (default : GPart)).kind)) ⟨⟨_, (.gtmp rfl hg10), .int⟩, trivial⟩ f31_ trivial) rfl rfl (nB rfl) rfl (nB rfl) ?_
  refine pu (.pick rfl (.tmp rfl) (fun _ => .bool) (fun hp12 => .gtmp rfl (not_of hp12))) rfl rfl rfl ?_
  refine ARun.nil ?_
  refine AW.cond (.tmp rfl) (fun hb13 => ?_) (fun hb13 => ?_)
  ·
   have h12 := cond_two hb13
   have h1 : isOne (f.getD z.toNat (default : GPart)).kind = true := by rw [h2] at h12; exact h12
   obtain ⟨pt, pa1, pa2, pb1⟩ := partOk_one hpk h1
   refine AW.region ?_
   refine pu (.move rfl (.tmp rfl)) rfl rfl rfl ?_
   refine pu (.move rfl (.tmp rfl)) rfl rfl rfl ?_
   refine pu (.fieldPtr rfl (.tmp rfl) f32_) rfl rfl rfl ?_
   refine pu (.loadPtr rfl (.tmp rfl) f2_ rfl rfl (nB rfl) (nB rfl)) rfl rfl rfl ?_
   refine ARun.fresh (FreshOp.callS rfl (ih ((f.getD z.toNat (default : GPart)).a) (by omega) (by omega) (by omega)) ⟨⟨_, (.tmp rfl), .lst⟩, ⟨_, (.tmp rfl), .int⟩, trivial⟩ f55_ (congrArg SV.one (Fo.fr _))) rfl rfl (nB rfl) ?_
   refine pu (.nilPtr rfl (.tmp rfl)) rfl rfl rfl ?_
   refine pu (.fieldPtr rfl (.tmp rfl) f24_) rfl rfl rfl ?_
   refine ARun.store rfl (.tmp rfl) (.tmp rfl) (Fo.cell _) rfl (nB rfl) f57_ rfl rfl ?_
   refine ARun.nil ?_
   refine AW.seq ?_
   refine AW.region ?_
   refine pu (.move rfl (.tmp rfl)) rfl rfl rfl ?_
   refine pu (.assign rfl (.tmp rfl)) rfl rfl rfl ?_
   refine ARun.nil ?_
   have he : treeP f (n + 1) z.toNat = .mk ((f.getD z.toNat (default : GPart)).kind) ((f.getD z.toNat (default : GPart)).text) (treeP f n ((f.getD z.toNat (default : GPart)).a).toNat) Fo.nil := by
    exact treeP_one h2 h1
   rw [he]
   refine AW.freeze 4 1 4 _ [.int .i64 ((f.getD z.toNat (default : GPart)).kind), .str ((f.getD z.toNat (default : GPart)).text), Fo.av (treeP f n ((f.getD z.toNat (default : GPart)).a).toNat), Fo.av Fo.nil] rfl rfl ⟨.int, .str, (Fo.fd _), .con, trivial⟩ rfl (nB rfl) ?_
   exact AW.ret (show ∃ s, ResL _ _ [.tmp 4] s ∧ FvS _ s _ from ⟨_, .inl ⟨_, rfl, .tmp rfl⟩, Fv.frs⟩)
  ·
   have h12 := cond_two hb13
   refine AW.skip ?_
   refine AW.seq ?_
   refine AW.region ?_
   refine pu (.move rfl (.tmp rfl)) rfl rfl rfl ?_
   refine pu (.assign rfl (.tmp rfl)) rfl rfl rfl ?_
   refine ARun.nil ?_
   have he : treeP f (n + 1) z.toNat = .mk ((f.getD z.toNat (default : GPart)).kind) ((f.getD z.toNat (default : GPart)).text) Fo.nil Fo.nil := by
    exact treeP_leaf h2 (by rw [h2] at h12; exact h12)
   rw [he]
   refine AW.freeze 4 1 4 _ [.int .i64 ((f.getD z.toNat (default : GPart)).kind), .str ((f.getD z.toNat (default : GPart)).text), Fo.av Fo.nil, Fo.av Fo.nil] rfl rfl ⟨.int, .str, .con, .con, trivial⟩ rfl (nB rfl) ?_
   exact AW.ret (show ∃ s, ResL _ _ [.tmp 4] s ∧ FvS _ s _ from ⟨_, .inl ⟨_, rfl, .tmp rfl⟩, Fv.frs⟩)
theorem v_l5Tree (f : List GPart) (hl : f.length ≤ 1000) (hp : ∀ i, i < f.length → partOk (f.getD i default) i = true) : ∀ (n : Nat) (z : Int), 0 ≤ z → z < n → z < f.length → FnF Try.prog 48 [.one (.lst 4 f.length (fun i0 j0 => ([.int .i64 ((f.getD i0 (default : GPart)).kind), .str ((f.getD i0 (default : GPart)).text), .int .i64 ((f.getD i0 (default : GPart)).a), .int .i64 ((f.getD i0 (default : GPart)).b)] : List AV).getD j0 (.con undef))), .one (.int .i64 z)] (.one (Fo.av (treeP f n z.toNat)))
  | 0 => fun z h1 h2 _ => by omega
  | n + 1 => fun z h1 h2 h3 => v_l5TreeS f hl hp n (v_l5Tree f hl hp n) z h1 (by omega) h3
end Go.Proofs.Ytonfeiloekofdaa

namespace Go.Proofs.Ytonfeiloekofdaa
open Go.ChangeShapes Go.WideShapes Go.ChangeAt Go.RowKit Go.BigFrame Go.Deep
set_option linter.unusedVariables false
set_option linter.unusedSimpArgs false
theorem f58_ : callB Try.prog 54 = true := by kernel_rfl
theorem f59_ : callB Try.prog 82 = true := by kernel_rfl
theorem f60_ : callB Try.prog 83 = true := by kernel_rfl
theorem f61_ : elemB Try.prog 35 1 = true := by kernel_rfl
theorem f62_ : plainB Try.prog 4 = true := by kernel_rfl
theorem f63_ : plainB Try.prog 5 = true := by kernel_rfl
theorem FnN.flag {P : Program} {f : FuncId} {args : List SV} {s : ByteArray} {p : Int} {b : Bool} {X : Type} {φ : X → Prop} {r : X → SV} {l' : X → List AV} (h : b = false) (H : FnN P f args [.str s, .int .i64 p, .bool false] φ r l') : FnN P f args [.str s, .int .i64 p, .bool b] φ r l' := by subst h; exact H
theorem stopB {s : ByteArray} {p d : Nat} {b : Bool} (h : cond (decide ((p : Int) = (s.size : Int))) true (decide (60 < (d : Int))) = b) : if b then (p = s.size ∨ 60 < d) else ¬ (p = s.size ∨ 60 < d) := by
  subst h
  by_cases h1 : p = s.size
  · rw [decide_eq_true (show (p : Int) = (s.size : Int) by omega)]; exact .inl h1
  · rw [decide_eq_false (show ¬ (p : Int) = (s.size : Int) by omega)]
    by_cases h2 : 60 < d
    · rw [decide_eq_true (show 60 < (d : Int) by omega)]; exact .inr h2
    · rw [decide_eq_false (show ¬ 60 < (d : Int) by omega)]; exact fun h => h.elim h1 h2
theorem loopB {fl : Bool} {q z : Nat} {c : Int} {b : Bool} (h : cond (cond (!fl) (decide ((q : Int) < (z : Int))) false) (cond (decide (c = 42)) true (decide (c = 94))) false = b) : if b then (fl = false ∧ q < z ∧ (c = 42 ∨ c = 94)) else ¬ (fl = false ∧ q < z ∧ (c = 42 ∨ c = 94)) := by
  subst h
  cases fl
  · by_cases h1 : q < z
    · rw [decide_eq_true (show (q : Int) < (z : Int) by omega)]
      by_cases h2 : c = 42
      · rw [decide_eq_true h2]; exact ⟨rfl, h1, .inl h2⟩
      · rw [decide_eq_false h2]
        by_cases h3 : c = 94
        · rw [decide_eq_true h3]; exact ⟨rfl, h1, .inr h3⟩
        · rw [decide_eq_false h3]; exact fun h => h.2.2.elim h2 h3
    · rw [decide_eq_false (show ¬ (q : Int) < (z : Int) by omega)]; exact fun h => h1 h.2.1
  · exact fun h => by cases h.1
theorem bracB {c : Int} {b : Bool} (h : cond (decide (c = 40)) true (decide (c = 91)) = b) : if b then (c = 40 ∨ c = 91) else ¬ (c = 40 ∨ c = 91) := by
  subst h
  by_cases h1 : c = 40
  · rw [decide_eq_true h1]; exact .inl h1
  · rw [decide_eq_false h1]
    by_cases h2 : c = 91
    · rw [decide_eq_true h2]; exact .inr h2
    · rw [decide_eq_false h2]; exact fun h => h.elim h1 h2
set_option maxHeartbeats 4000000 in
theorem v_GFormS (s : ByteArray) (hs : s.size ≤ 1048576) (n : Nat) (ih : ∀ p d : Nat, p ≤ s.size → s.size - p < n → d ≤ 61 → FnN Try.prog 54 [.one (.ptr 1000000 3 0 0), .one (.int .i64 (d : Int))] [.str s, .int .i64 (p : Int), .bool false] (fun x => x = gForm s n p d) (fun (x : Fo × Nat × Bool) => .one x.1.av) (fun x => [.str s, .int .i64 (x.2.1 : Int), .bool x.2.2])) (p d : Nat) (hp : p ≤ s.size) (hm : s.size - p ≤ n) (hd : d ≤ 61) : FnN Try.prog 54 [.one (.ptr 1000000 3 0 0), .one (.int .i64 (d : Int))] [.str s, .int .i64 (p : Int), .bool false] (fun x => x = gForm s (n + 1) p d) (fun (x : Fo × Nat × Bool) => .one x.1.av) (fun x => [.str s, .int .i64 (x.2.1 : Int), .bool x.2.2]) := by
 refine FnN.of_body (fn := Try.f54) Try.func54 rfl (nB rfl) ?_
 intro kk YY w0
 show AW _ 220 _ _ _ _
 refine AW.seq ?_
 refine AW.region ?_
 refine pu (.assign rfl .con) rfl rfl rfl ?_
 refine ARun.nil ?_
 refine AW.seq ?_
 refine AW.region ?_
 refine pu (.build (ys := [.int .i64 1]) (l := [.int .i64 0, .str ByteArray.empty, Fo.fv Fo.nil, Fo.fv Fo.nil]) (pl := [(0, 1), (1, 1), (2, 1), (3, 1)]) (z := (.agg #[.int .i64 0, .string ByteArray.empty, .pointer none, .pointer none])) rfl (by kernel_rfl) (by kernel_rfl) (fun _ _ _ => ⟨_, _, rfl, rfl, ⟨_, _, rfl, ⟨rfl, by decide⟩, ⟨_, _, rfl, rfl, ⟨_, _, rfl, rfl, rfl⟩⟩⟩⟩) ⟨.int, trivial, rfl, trivial⟩ rfl) rfl rfl rfl ?_
 refine ARun.fresh (FreshOp.boxD (m := [.int .i64 1, .str ByteArray.empty, Fo.av Fo.nil, Fo.av Fo.nil]) rfl (.tmp rfl) (SV.cells_of (by exact ⟨trivial, trivial, ⟨rfl, (fun _ e => by cases e), (fun _ e => by cases e)⟩, ⟨rfl, (fun _ e => by cases e), (fun _ e => by cases e)⟩, trivial⟩)) ⟨.int, .str, .con, .con, trivial⟩ (nB rfl)) rfl rfl (nB rfl) ?_
 refine pu (.assign rfl (.tmp rfl)) rfl rfl rfl ?_
 refine ARun.nil ?_
 refine AW.seq ?_
 refine AW.seq ?_
 refine AW.any (by kernel_rfl) (by kernel_rfl) ?_
 refine AD.pure (PureOp.move rfl (.tmp rfl)) rfl rfl (nB rfl) ?_
 refine AD.pure (PureOp.nilPtr rfl (.tmp rfl)) rfl rfl (nB rfl) ?_
 refine AD.pure (PureOp.fieldPtr rfl (.tmp rfl) f13_) rfl rfl (nB rfl) ?_
 refine AD.pure (PureOp.loadPtr rfl (.tmp rfl) f2_ rfl rfl (nB rfl) (nB rfl)) rfl rfl (nB rfl) ?_
 refine AD.pure (PureOp.move rfl (.tmp rfl)) rfl rfl (nB rfl) ?_
 refine AD.pure (PureOp.nilPtr rfl (.tmp rfl)) rfl rfl (nB rfl) ?_
 refine AD.pure (PureOp.fieldPtr rfl (.tmp rfl) f12_) rfl rfl (nB rfl) ?_
 refine AD.pure (PureOp.loadPtr rfl (.tmp rfl) f3_ rfl rfl (nB rfl) (nB rfl)) rfl rfl (nB rfl) ?_
 refine AD.pure (PureOp.lenStr rfl (.tmp rfl) f4_) rfl rfl (nB rfl) ?_
 refine AD.pure (PureOp.intOp rfl (.tmp rfl) (.tmp rfl) rfl) rfl rfl (nB rfl) ?_
 refine AD.pure (PureOp.move rfl (.tmp rfl)) rfl rfl (nB rfl) ?_
 refine AD.gpure (want := false) (.tf rfl) (fun hg1 => PureOp.move rfl (.tmp rfl)) rfl rfl rfl (nB rfl) ?_
 refine AD.gpure (want := false) (.tf rfl) (fun hg2 => PureOp.intOp rfl (.gtmp rfl hg2) .int rfl) rfl rfl rfl (nB rfl) ?_
 refine AD.pure (PureOp.pick rfl (.tmp rfl) (fun _ => .bool) (fun hp4 => .gtmp rfl (not_of hp4))) rfl rfl (nB rfl) ?_
 refine AD.nil ?_
 refine AW.cond (.tmp rfl) (fun hb5 => ?_) (fun hb5 => ?_)
 ·
  have h0 := stopB hb5
  simp only [if_true, if_false, Bool.false_eq_true] at h0
  refine AW.seq ?_
  refine AW.region ?_
  refine pu (.move rfl (.tmp rfl)) rfl rfl rfl ?_
  refine pu (.nilPtr rfl (.tmp rfl)) rfl rfl rfl ?_
  refine pu (.fieldPtr rfl (.tmp rfl) f14_) rfl rfl rfl ?_
  refine ARun.store rfl (.tmp rfl) .bool trivial rfl (nB rfl) f15_ rfl rfl ?_
  refine ARun.nil ?_
  refine AW.seq ?_
  refine AW.region ?_
  refine pu (.move rfl (.tmp rfl)) rfl rfl rfl ?_
  refine pu (.assign rfl (.tmp rfl)) rfl rfl rfl ?_
  refine ARun.nil ?_
  exact AW.ret (show ∃ x t, _ ∧ ResN _ _ [.tmp 4] t ∧ _ ∧ _ ∧ _ from ⟨((Fo.mk 1 ByteArray.empty Fo.nil Fo.nil), p, true), _, (by unfold gForm; rw [if_pos h0]; rfl), (.inl (.inl ⟨_, rfl, .tmp rfl⟩)), .frs, rfl, rfl⟩)
 ·
  have h0 := stopB hb5
  simp only [if_true, if_false, Bool.false_eq_true] at h0
  have hlt : p < s.size := by omega
  refine AW.skip ?_
  refine AW.seq ?_
  refine AW.any (by kernel_rfl) (by kernel_rfl) ?_
  refine AD.pure (PureOp.move rfl (.tmp rfl)) rfl rfl (nB rfl) ?_
  refine AD.pure (PureOp.nilPtr rfl (.tmp rfl)) rfl rfl (nB rfl) ?_
  refine AD.pure (PureOp.fieldPtr rfl (.tmp rfl) f12_) rfl rfl (nB rfl) ?_
  refine AD.pure (PureOp.loadPtr rfl (.tmp rfl) f3_ rfl rfl (nB rfl) (nB rfl)) rfl rfl (nB rfl) ?_
  refine AD.pure (PureOp.move rfl (.tmp rfl)) rfl rfl (nB rfl) ?_
  refine AD.pure (PureOp.nilPtr rfl (.tmp rfl)) rfl rfl (nB rfl) ?_
  refine AD.pure (PureOp.fieldPtr rfl (.tmp rfl) f13_) rfl rfl (nB rfl) ?_
  refine AD.pure (PureOp.loadPtr rfl (.tmp rfl) f2_ rfl rfl (nB rfl) (nB rfl)) rfl rfl (nB rfl) ?_
  refine AD.pure (PureOp.indexStrAt (i := p) rfl (.tmp rfl) f4_ (.tmp rfl) rfl (by omega)) rfl rfl (nB rfl) ?_
  refine AD.pure (PureOp.assign rfl (.tmp rfl)) rfl rfl (nB rfl) ?_
  refine AD.nil ?_
  refine AW.seq ?_
  refine AW.region ?_
  refine pu (.move rfl (.tmp rfl)) rfl rfl rfl ?_
  refine pu (.assign rfl (.tmp rfl)) rfl rfl rfl ?_
  refine ARun.nil ?_
  refine AW.seq ?_
  refine AW.block ?_
  refine AW.seq ?_
  refine AW.region ?_
  refine pu (.move rfl (.tmp rfl)) rfl rfl rfl ?_
  refine pu (.intOp rfl (.tmp rfl) .int rfl) rfl rfl rfl ?_
  refine pu (.assign rfl (.tmp rfl)) rfl rfl rfl ?_
  refine ARun.nil ?_
  refine AW.cond (.tmp rfl) (fun hb6 => ?_) (fun hb6 => ?_)
  ·
   replace hb6 := of_decide_eq_true hb6
   refine AW.region ?_
   refine pu (.move rfl (.tmp rfl)) rfl rfl rfl ?_
   refine pu (.nilPtr rfl (.tmp rfl)) rfl rfl rfl ?_
   refine pu (.fieldPtr rfl (.tmp rfl) f13_) rfl rfl rfl ?_
   refine pu (.loadPtr rfl (.tmp rfl) f2_ rfl rfl (nB rfl) (nB rfl)) rfl rfl rfl ?_
   refine pu (.add (c := ((p + 1 : Nat) : Int)) rfl (.tmp rfl) .int (by rw [wrap_id (by omega) (by omega)]; omega)) rfl rfl rfl ?_
   refine pu (.nilPtr rfl (.tmp rfl)) rfl rfl rfl ?_
   refine pu (.fieldPtr rfl (.tmp rfl) f13_) rfl rfl rfl ?_
   refine ARun.store rfl (.tmp rfl) (.tmp rfl) trivial rfl (nB rfl) f5_ rfl rfl ?_
   refine ARun.nil ?_
   refine AW.seq ?_
   refine AW.block ?_
   have hy : ((Fo.mk 1 ByteArray.empty Fo.nil Fo.nil), p + 1, false) = gAtom (gForm s n) s p d := by unfold gAtom; rw [if_pos hb6]; try rfl
   refine AW.loop (ι := Fo × Nat) (fun v => ⟨[(0, .one (.ptr 1000000 3 0 0)), (7, .one (Fo.fv v.1))], [(1000000, .cells [.str s, .int .i64 (v.2 : Int), .bool false]), (1000001, .trees kk YY)]⟩) (fun v => GI s false (gStars s ((Fo.mk 1 ByteArray.empty Fo.nil Fo.nil), p + 1, false)) v) (fun v => s.size - v.2) ((Fo.mk 1 ByteArray.empty Fo.nil Fo.nil), p + 1) (GI.start (by omega)) ⟨⟨⟨_, rfl, rfl⟩, ⟨_, rfl, rfl⟩, trivial⟩, HeapLe.one rfl (HeapLe.one rfl trivial)⟩ ?_
   intro v hv
   have hvle := hv.le
   refine AW.seq ?_
   refine AW.seq ?_
   refine AW.any (by kernel_rfl) (by kernel_rfl) ?_
   refine AD.pure (PureOp.move rfl (.tmp rfl)) rfl rfl (nB rfl) ?_
   refine AD.pure (PureOp.nilPtr rfl (.tmp rfl)) rfl rfl (nB rfl) ?_
   refine AD.pure (PureOp.fieldPtr rfl (.tmp rfl) f14_) rfl rfl (nB rfl) ?_
   refine AD.pure (PureOp.loadPtr rfl (.tmp rfl) f62_ rfl rfl (nB rfl) (nB rfl)) rfl rfl (nB rfl) ?_
   refine AD.pure (PureOp.not rfl (.tmp rfl)) rfl rfl (nB rfl) ?_
   refine AD.pure (PureOp.move rfl (.tmp rfl)) rfl rfl (nB rfl) ?_
   refine AD.gpure (want := true) (.tt rfl) (fun hg7 => PureOp.move rfl (.tmp rfl)) rfl rfl rfl (nB rfl) ?_
   refine AD.gpure (want := true) (.tt rfl) (fun hg8 => PureOp.nilPtr rfl (.gtmp rfl hg8)) rfl rfl rfl (nB rfl) ?_
   refine AD.gpure (want := true) (.tt rfl) (fun hg9 => PureOp.fieldPtr rfl (.gtmp rfl hg9) f13_) rfl rfl rfl (nB rfl) ?_
   refine AD.gpure (want := true) (.tt rfl) (fun hg10 => PureOp.loadPtr rfl (.gtmp rfl hg10) f2_ rfl rfl (nB rfl) (nB rfl)) rfl rfl rfl (nB rfl) ?_
   refine AD.gpure (want := true) (.tt rfl) (fun hg11 => PureOp.move rfl (.tmp rfl)) rfl rfl rfl (nB rfl) ?_
   refine AD.gpure (want := true) (.tt rfl) (fun hg12 => PureOp.nilPtr rfl (.gtmp rfl hg12)) rfl rfl rfl (nB rfl) ?_
   refine AD.gpure (want := true) (.tt rfl) (fun hg13 => PureOp.fieldPtr rfl (.gtmp rfl hg13) f12_) rfl rfl rfl (nB rfl) ?_
   refine AD.gpure (want := true) (.tt rfl) (fun hg14 => PureOp.loadPtr rfl (.gtmp rfl hg14) f3_ rfl rfl (nB rfl) (nB rfl)) rfl rfl rfl (nB rfl) ?_
   refine AD.gpure (want := true) (.tt rfl) (fun hg15 => PureOp.lenStr rfl (.gtmp rfl hg15) f4_) rfl rfl rfl (nB rfl) ?_
   refine AD.gpure (want := true) (.tt rfl) (fun hg16 => PureOp.intOp rfl (.gtmp rfl hg16) (.gtmp rfl hg16) rfl) rfl rfl rfl (nB rfl) ?_
   refine AD.pure (PureOp.pick rfl (.tmp rfl) (fun hp17 => .gtmp rfl hp17) (fun _ => .bool)) rfl rfl (nB rfl) ?_
   refine AD.pure (PureOp.move rfl (.tmp rfl)) rfl rfl (nB rfl) ?_
   refine AD.gpure (want := true) (.tt rfl) (fun hg19 => PureOp.move rfl (.tmp rfl)) rfl rfl rfl (nB rfl) ?_
   refine AD.gpure (want := true) (.tt rfl) (fun hg20 => PureOp.nilPtr rfl (.gtmp rfl hg20)) rfl rfl rfl (nB rfl) ?_
   refine AD.gpure (want := true) (.tt rfl) (fun hg21 => PureOp.fieldPtr rfl (.gtmp rfl hg21) f12_) rfl rfl rfl (nB rfl) ?_
   refine AD.gpure (want := true) (.tt rfl) (fun hg22 => PureOp.loadPtr rfl (.gtmp rfl hg22) f3_ rfl rfl (nB rfl) (nB rfl)) rfl rfl rfl (nB rfl) ?_
   refine AD.gpure (want := true) (.tt rfl) (fun hg23 => PureOp.move rfl (.tmp rfl)) rfl rfl rfl (nB rfl) ?_
   refine AD.gpure (want := true) (.tt rfl) (fun hg24 => PureOp.nilPtr rfl (.gtmp rfl hg24)) rfl rfl rfl (nB rfl) ?_
   refine AD.gpure (want := true) (.tt rfl) (fun hg25 => PureOp.fieldPtr rfl (.gtmp rfl hg25) f13_) rfl rfl rfl (nB rfl) ?_
   refine AD.gpure (want := true) (.tt rfl) (fun hg26 => PureOp.loadPtr rfl (.gtmp rfl hg26) f2_ rfl rfl (nB rfl) (nB rfl)) rfl rfl rfl (nB rfl) ?_
   refine AD.gpure (want := true) (.tt rfl) (fun hg27 => PureOp.indexStrAt (i := v.2) rfl (.gtmp rfl hg27) f4_ (.gtmp rfl hg27) rfl (by have q := hg27; simp only [Bool.cond_true_left, Bool.cond_false_right, Bool.not_eq_true', Bool.or_eq_false_iff, Bool.not_eq_false', Bool.and_eq_true, Bool.not_not, decide_eq_true_eq, decide_eq_false_iff_not, inB] at q; omega)) rfl rfl rfl (nB rfl) ?_
   refine AD.gpure (want := true) (.tt rfl) (fun hg28 => PureOp.intOp rfl (.gtmp rfl hg28) .int rfl) rfl rfl rfl (nB rfl) ?_
   refine AD.gpure (want := true) (.tt rfl) (fun hg29 => PureOp.move rfl (.gtmp rfl hg29)) rfl rfl rfl (nB rfl) ?_
   refine AD.gpure (want := false) (.gf rfl) (fun hg30 => PureOp.move rfl (.tmp rfl)) rfl rfl rfl (nB rfl) ?_
   refine AD.gpure (want := false) (.gf rfl) (fun hg31 => PureOp.nilPtr rfl (.gtmp rfl hg31)) rfl rfl rfl (nB rfl) ?_
   refine AD.gpure (want := false) (.gf rfl) (fun hg32 => PureOp.fieldPtr rfl (.gtmp rfl hg32) f12_) rfl rfl rfl (nB rfl) ?_
   refine AD.gpure (want := false) (.gf rfl) (fun hg33 => PureOp.loadPtr rfl (.gtmp rfl hg33) f3_ rfl rfl (nB rfl) (nB rfl)) rfl rfl rfl (nB rfl) ?_
   refine AD.gpure (want := false) (.gf rfl) (fun hg34 => PureOp.move rfl (.tmp rfl)) rfl rfl rfl (nB rfl) ?_
   refine AD.gpure (want := false) (.gf rfl) (fun hg35 => PureOp.nilPtr rfl (.gtmp rfl hg35)) rfl rfl rfl (nB rfl) ?_
   refine AD.gpure (want := false) (.gf rfl) (fun hg36 => PureOp.fieldPtr rfl (.gtmp rfl hg36) f13_) rfl rfl rfl (nB rfl) ?_
   refine AD.gpure (want := false) (.gf rfl) (fun hg37 => PureOp.loadPtr rfl (.gtmp rfl hg37) f2_ rfl rfl (nB rfl) (nB rfl)) rfl rfl rfl (nB rfl) ?_
   refine AD.gpure (want := false) (.gf rfl) (fun hg38 => PureOp.indexStrAt (i := v.2) rfl (.gtmp rfl hg38) f4_ (.gtmp rfl hg38) rfl (by have q := hg38; simp only [Bool.cond_true_left, Bool.cond_false_right, Bool.not_eq_true', Bool.or_eq_false_iff, Bool.not_eq_false', Bool.and_eq_true, Bool.not_not, decide_eq_true_eq, decide_eq_false_iff_not, inB] at q; omega)) rfl rfl rfl (nB rfl) ?_
   refine AD.gpure (want := false) (.gf rfl) (fun hg39 => PureOp.intOp rfl (.gtmp rfl hg39) .int rfl) rfl rfl rfl (nB rfl) ?_
   refine AD.gpure (want := true) (.tt rfl) (fun hg40 => PureOp.pick rfl (.gtmp rfl hg40) (fun _ => .bool) (fun hp42 => .gtmp rfl (and_mk hg40 (not_of hp42)))) rfl rfl rfl (nB rfl) ?_
   refine AD.pure (PureOp.pick rfl (.tmp rfl) (fun hp43 => .gtmp rfl hp43) (fun _ => .bool)) rfl rfl (nB rfl) ?_
   refine AD.nil ?_
   refine AW.cond (.tmp rfl) (fun hb45 => ?_) (fun hb45 => ?_)
   ·
    have hnl : (false = false ∧ v.2 < s.size ∧ (byteAt s v.2 = 42 ∨ byteAt s v.2 = 94)) := loopB hb45
    have hlt2 := hnl.2.1
    refine AW.skip ?_
    refine AW.block ?_
    refine AW.seq ?_
    refine AW.region ?_
    refine pu (.assign rfl .int) rfl rfl rfl ?_
    refine ARun.nil ?_
    refine AW.seq ?_
    refine AW.seq ?_
    refine AW.any (by kernel_rfl) (by kernel_rfl) ?_
    refine AD.pure (PureOp.move rfl (.tmp rfl)) rfl rfl (nB rfl) ?_
    refine AD.pure (PureOp.nilPtr rfl (.tmp rfl)) rfl rfl (nB rfl) ?_
    refine AD.pure (PureOp.fieldPtr rfl (.tmp rfl) f12_) rfl rfl (nB rfl) ?_
    refine AD.pure (PureOp.loadPtr rfl (.tmp rfl) f3_ rfl rfl (nB rfl) (nB rfl)) rfl rfl (nB rfl) ?_
    refine AD.pure (PureOp.move rfl (.tmp rfl)) rfl rfl (nB rfl) ?_
    refine AD.pure (PureOp.nilPtr rfl (.tmp rfl)) rfl rfl (nB rfl) ?_
    refine AD.pure (PureOp.fieldPtr rfl (.tmp rfl) f13_) rfl rfl (nB rfl) ?_
    refine AD.pure (PureOp.loadPtr rfl (.tmp rfl) f2_ rfl rfl (nB rfl) (nB rfl)) rfl rfl (nB rfl) ?_
    refine AD.pure (PureOp.indexStrAt (i := v.2) rfl (.tmp rfl) f4_ (.tmp rfl) rfl (by omega)) rfl rfl (nB rfl) ?_
    refine AD.pure (PureOp.intOp rfl (.tmp rfl) .int rfl) rfl rfl (nB rfl) ?_
    refine AD.nil ?_
    refine AW.cond (.tmp rfl) (fun hb46 => ?_) (fun hb46 => ?_)
    ·
     replace hb46 := of_decide_eq_true hb46
     have h94 := hb46
     refine AW.region ?_
     refine pu (.assign rfl .int) rfl rfl rfl ?_
     refine ARun.nil ?_
     refine AW.seq ?_
     refine AW.region ?_
     refine pu (.move rfl (.tmp rfl)) rfl rfl rfl ?_
     refine pu (.move rfl (.tmp rfl)) rfl rfl rfl ?_
     refine pu (.build (ys := [.int .i64 8, Fo.fv v.1]) (l := [.int .i64 0, .str ByteArray.empty, Fo.fv Fo.nil, Fo.fv Fo.nil]) (pl := [(0, 1), (1, 1), (2, 1), (3, 1)]) (z := (.agg #[.int .i64 0, .string ByteArray.empty, .pointer none, .pointer none])) rfl (by kernel_rfl) (by kernel_rfl) (fun _ _ _ => ⟨_, _, rfl, rfl, ⟨_, _, rfl, ⟨rfl, by decide⟩, ⟨_, _, rfl, rfl, ⟨_, _, rfl, rfl, rfl⟩⟩⟩⟩) ⟨(.tmp rfl), trivial, rfl, ⟨(.tmp rfl), (Fo.cell _), rfl, trivial⟩⟩ rfl) rfl rfl rfl ?_
     refine ARun.fresh (FreshOp.boxD (m := [.int .i64 8, .str ByteArray.empty, Fo.av v.1, Fo.av Fo.nil]) rfl (.tmp rfl) (SV.cells_of (by exact ⟨trivial, trivial, Fo.cell _, ⟨rfl, (fun _ e => by cases e), (fun _ e => by cases e)⟩, trivial⟩)) ⟨.int, .str, (Fo.fd _), .con, trivial⟩ (nB rfl)) rfl rfl (nB rfl) ?_
     refine pu (.assign rfl (.tmp rfl)) rfl rfl rfl ?_
     refine ARun.nil ?_
     refine AW.region ?_
     refine pu (.move rfl (.tmp rfl)) rfl rfl rfl ?_
     refine pu (.nilPtr rfl (.tmp rfl)) rfl rfl rfl ?_
     refine pu (.fieldPtr rfl (.tmp rfl) f13_) rfl rfl rfl ?_
     refine pu (.loadPtr rfl (.tmp rfl) f2_ rfl rfl (nB rfl) (nB rfl)) rfl rfl rfl ?_
     refine pu (.add (c := ((v.2 + 1 : Nat) : Int)) rfl (.tmp rfl) .int (by rw [wrap_id (by omega) (by omega)]; omega)) rfl rfl rfl ?_
     refine pu (.nilPtr rfl (.tmp rfl)) rfl rfl rfl ?_
     refine pu (.fieldPtr rfl (.tmp rfl) f13_) rfl rfl rfl ?_
     refine ARun.store rfl (.tmp rfl) (.tmp rfl) trivial rfl (nB rfl) f5_ rfl rfl ?_
     refine ARun.nil ?_
     exact ⟨((Fo.mk 8 ByteArray.empty v.1 Fo.nil), v.2 + 1), hv.s8 hnl.1 hnl.2.1 h94, by dsimp only; omega, ⟨⟨⟨_, rfl, rfl⟩, ⟨_, rfl, rfl⟩, trivial⟩, HeapLe.one rfl (HeapLe.one rfl trivial)⟩⟩
    ·
     replace hb46 := of_decide_eq_false hb46
     have h94 := hb46
     refine AW.skip ?_
     refine AW.seq ?_
     refine AW.region ?_
     refine pu (.move rfl (.tmp rfl)) rfl rfl rfl ?_
     refine pu (.move rfl (.tmp rfl)) rfl rfl rfl ?_
     refine pu (.build (ys := [.int .i64 7, Fo.fv v.1]) (l := [.int .i64 0, .str ByteArray.empty, Fo.fv Fo.nil, Fo.fv Fo.nil]) (pl := [(0, 1), (1, 1), (2, 1), (3, 1)]) (z := (.agg #[.int .i64 0, .string ByteArray.empty, .pointer none, .pointer none])) rfl (by kernel_rfl) (by kernel_rfl) (fun _ _ _ => ⟨_, _, rfl, rfl, ⟨_, _, rfl, ⟨rfl, by decide⟩, ⟨_, _, rfl, rfl, ⟨_, _, rfl, rfl, rfl⟩⟩⟩⟩) ⟨(.tmp rfl), trivial, rfl, ⟨(.tmp rfl), (Fo.cell _), rfl, trivial⟩⟩ rfl) rfl rfl rfl ?_
     refine ARun.fresh (FreshOp.boxD (m := [.int .i64 7, .str ByteArray.empty, Fo.av v.1, Fo.av Fo.nil]) rfl (.tmp rfl) (SV.cells_of (by exact ⟨trivial, trivial, Fo.cell _, ⟨rfl, (fun _ e => by cases e), (fun _ e => by cases e)⟩, trivial⟩)) ⟨.int, .str, (Fo.fd _), .con, trivial⟩ (nB rfl)) rfl rfl (nB rfl) ?_
     refine pu (.assign rfl (.tmp rfl)) rfl rfl rfl ?_
     refine ARun.nil ?_
     refine AW.region ?_
     refine pu (.move rfl (.tmp rfl)) rfl rfl rfl ?_
     refine pu (.nilPtr rfl (.tmp rfl)) rfl rfl rfl ?_
     refine pu (.fieldPtr rfl (.tmp rfl) f13_) rfl rfl rfl ?_
     refine pu (.loadPtr rfl (.tmp rfl) f2_ rfl rfl (nB rfl) (nB rfl)) rfl rfl rfl ?_
     refine pu (.add (c := ((v.2 + 1 : Nat) : Int)) rfl (.tmp rfl) .int (by rw [wrap_id (by omega) (by omega)]; omega)) rfl rfl rfl ?_
     refine pu (.nilPtr rfl (.tmp rfl)) rfl rfl rfl ?_
     refine pu (.fieldPtr rfl (.tmp rfl) f13_) rfl rfl rfl ?_
     refine ARun.store rfl (.tmp rfl) (.tmp rfl) trivial rfl (nB rfl) f5_ rfl rfl ?_
     refine ARun.nil ?_
     exact ⟨((Fo.mk 7 ByteArray.empty v.1 Fo.nil), v.2 + 1), hv.s7 hnl.1 hnl.2.1 (hnl.2.2.resolve_right h94), by dsimp only; omega, ⟨⟨⟨_, rfl, rfl⟩, ⟨_, rfl, rfl⟩, trivial⟩, HeapLe.one rfl (HeapLe.one rfl trivial)⟩⟩
   ·
    have hnl : ¬ (false = false ∧ v.2 < s.size ∧ (byteAt s v.2 = 42 ∨ byteAt s v.2 = 94)) := loopB hb45
    refine AW.exit ?_
    refine AW.seq ?_
    refine AW.region ?_
    refine pu (.move rfl (.tmp rfl)) rfl rfl rfl ?_
    refine pu (.assign rfl (.tmp rfl)) rfl rfl rfl ?_
    refine ARun.nil ?_
    exact AW.ret (show ∃ x t, _ ∧ ResN _ _ [.tmp 4] t ∧ _ ∧ _ ∧ _ from ⟨(v.1, v.2, false), _, (gForm_step h0 hy (hv.ret hnl)), (.inl (.inl ⟨_, rfl, .tmp rfl⟩)), (Fo.fp _ _), rfl, rfl⟩)
  ·
   replace hb6 := of_decide_eq_false hb6
   refine AW.seq ?_
   refine AW.region ?_
   refine pu (.move rfl (.tmp rfl)) rfl rfl rfl ?_
   refine pu (.intOp rfl (.tmp rfl) .int rfl) rfl rfl rfl ?_
   refine pu (.assign rfl (.tmp rfl)) rfl rfl rfl ?_
   refine ARun.nil ?_
   refine AW.cond (.tmp rfl) (fun hb47 => ?_) (fun hb47 => ?_)
   ·
    replace hb47 := of_decide_eq_true hb47
    refine AW.seq ?_
    refine AW.region ?_
    refine pu (.build (ys := [.int .i64 2]) (l := [.int .i64 0, .str ByteArray.empty, Fo.fv Fo.nil, Fo.fv Fo.nil]) (pl := [(0, 1), (1, 1), (2, 1), (3, 1)]) (z := (.agg #[.int .i64 0, .string ByteArray.empty, .pointer none, .pointer none])) rfl (by kernel_rfl) (by kernel_rfl) (fun _ _ _ => ⟨_, _, rfl, rfl, ⟨_, _, rfl, ⟨rfl, by decide⟩, ⟨_, _, rfl, rfl, ⟨_, _, rfl, rfl, rfl⟩⟩⟩⟩) ⟨.int, trivial, rfl, trivial⟩ rfl) rfl rfl rfl ?_
    refine ARun.fresh (FreshOp.boxD (m := [.int .i64 2, .str ByteArray.empty, Fo.av Fo.nil, Fo.av Fo.nil]) rfl (.tmp rfl) (SV.cells_of (by exact ⟨trivial, trivial, ⟨rfl, (fun _ e => by cases e), (fun _ e => by cases e)⟩, ⟨rfl, (fun _ e => by cases e), (fun _ e => by cases e)⟩, trivial⟩)) ⟨.int, .str, .con, .con, trivial⟩ (nB rfl)) rfl rfl (nB rfl) ?_
    refine pu (.assign rfl (.tmp rfl)) rfl rfl rfl ?_
    refine ARun.nil ?_
    refine AW.region ?_
    refine pu (.move rfl (.tmp rfl)) rfl rfl rfl ?_
    refine pu (.nilPtr rfl (.tmp rfl)) rfl rfl rfl ?_
    refine pu (.fieldPtr rfl (.tmp rfl) f13_) rfl rfl rfl ?_
    refine pu (.loadPtr rfl (.tmp rfl) f2_ rfl rfl (nB rfl) (nB rfl)) rfl rfl rfl ?_
    refine pu (.add (c := ((p + 1 : Nat) : Int)) rfl (.tmp rfl) .int (by rw [wrap_id (by omega) (by omega)]; omega)) rfl rfl rfl ?_
    refine pu (.nilPtr rfl (.tmp rfl)) rfl rfl rfl ?_
    refine pu (.fieldPtr rfl (.tmp rfl) f13_) rfl rfl rfl ?_
    refine ARun.store rfl (.tmp rfl) (.tmp rfl) trivial rfl (nB rfl) f5_ rfl rfl ?_
    refine ARun.nil ?_
    refine AW.seq ?_
    refine AW.block ?_
    have hy : ((Fo.mk 2 ByteArray.empty Fo.nil Fo.nil), p + 1, false) = gAtom (gForm s n) s p d := by unfold gAtom; rw [if_neg hb6, if_pos hb47]; try rfl
    refine AW.loop (ι := Fo × Nat) (fun v => ⟨[(0, .one (.ptr 1000000 3 0 0)), (7, .one (Fo.fv v.1))], [(1000000, .cells [.str s, .int .i64 (v.2 : Int), .bool false]), (1000001, .trees kk YY)]⟩) (fun v => GI s false (gStars s ((Fo.mk 2 ByteArray.empty Fo.nil Fo.nil), p + 1, false)) v) (fun v => s.size - v.2) ((Fo.mk 2 ByteArray.empty Fo.nil Fo.nil), p + 1) (GI.start (by omega)) ⟨⟨⟨_, rfl, rfl⟩, ⟨_, rfl, rfl⟩, trivial⟩, HeapLe.one rfl (HeapLe.one rfl trivial)⟩ ?_
    intro v hv
    have hvle := hv.le
    refine AW.seq ?_
    refine AW.seq ?_
    refine AW.any (by kernel_rfl) (by kernel_rfl) ?_
    refine AD.pure (PureOp.move rfl (.tmp rfl)) rfl rfl (nB rfl) ?_
    refine AD.pure (PureOp.nilPtr rfl (.tmp rfl)) rfl rfl (nB rfl) ?_
    refine AD.pure (PureOp.fieldPtr rfl (.tmp rfl) f14_) rfl rfl (nB rfl) ?_
    refine AD.pure (PureOp.loadPtr rfl (.tmp rfl) f62_ rfl rfl (nB rfl) (nB rfl)) rfl rfl (nB rfl) ?_
    refine AD.pure (PureOp.not rfl (.tmp rfl)) rfl rfl (nB rfl) ?_
    refine AD.pure (PureOp.move rfl (.tmp rfl)) rfl rfl (nB rfl) ?_
    refine AD.gpure (want := true) (.tt rfl) (fun hg48 => PureOp.move rfl (.tmp rfl)) rfl rfl rfl (nB rfl) ?_
    refine AD.gpure (want := true) (.tt rfl) (fun hg49 => PureOp.nilPtr rfl (.gtmp rfl hg49)) rfl rfl rfl (nB rfl) ?_
    refine AD.gpure (want := true) (.tt rfl) (fun hg50 => PureOp.fieldPtr rfl (.gtmp rfl hg50) f13_) rfl rfl rfl (nB rfl) ?_
    refine AD.gpure (want := true) (.tt rfl) (fun hg51 => PureOp.loadPtr rfl (.gtmp rfl hg51) f2_ rfl rfl (nB rfl) (nB rfl)) rfl rfl rfl (nB rfl) ?_
    refine AD.gpure (want := true) (.tt rfl) (fun hg52 => PureOp.move rfl (.tmp rfl)) rfl rfl rfl (nB rfl) ?_
    refine AD.gpure (want := true) (.tt rfl) (fun hg53 => PureOp.nilPtr rfl (.gtmp rfl hg53)) rfl rfl rfl (nB rfl) ?_
    refine AD.gpure (want := true) (.tt rfl) (fun hg54 => PureOp.fieldPtr rfl (.gtmp rfl hg54) f12_) rfl rfl rfl (nB rfl) ?_
    refine AD.gpure (want := true) (.tt rfl) (fun hg55 => PureOp.loadPtr rfl (.gtmp rfl hg55) f3_ rfl rfl (nB rfl) (nB rfl)) rfl rfl rfl (nB rfl) ?_
    refine AD.gpure (want := true) (.tt rfl) (fun hg56 => PureOp.lenStr rfl (.gtmp rfl hg56) f4_) rfl rfl rfl (nB rfl) ?_
    refine AD.gpure (want := true) (.tt rfl) (fun hg57 => PureOp.intOp rfl (.gtmp rfl hg57) (.gtmp rfl hg57) rfl) rfl rfl rfl (nB rfl) ?_
    refine AD.pure (PureOp.pick rfl (.tmp rfl) (fun hp58 => .gtmp rfl hp58) (fun _ => .bool)) rfl rfl (nB rfl) ?_
    refine AD.pure (PureOp.move rfl (.tmp rfl)) rfl rfl (nB rfl) ?_
    refine AD.gpure (want := true) (.tt rfl) (fun hg60 => PureOp.move rfl (.tmp rfl)) rfl rfl rfl (nB rfl) ?_
    refine AD.gpure (want := true) (.tt rfl) (fun hg61 => PureOp.nilPtr rfl (.gtmp rfl hg61)) rfl rfl rfl (nB rfl) ?_
    refine AD.gpure (want := true) (.tt rfl) (fun hg62 => PureOp.fieldPtr rfl (.gtmp rfl hg62) f12_) rfl rfl rfl (nB rfl) ?_
    refine AD.gpure (want := true) (.tt rfl) (fun hg63 => PureOp.loadPtr rfl (.gtmp rfl hg63) f3_ rfl rfl (nB rfl) (nB rfl)) rfl rfl rfl (nB rfl) ?_
    refine AD.gpure (want := true) (.tt rfl) (fun hg64 => PureOp.move rfl (.tmp rfl)) rfl rfl rfl (nB rfl) ?_
    refine AD.gpure (want := true) (.tt rfl) (fun hg65 => PureOp.nilPtr rfl (.gtmp rfl hg65)) rfl rfl rfl (nB rfl) ?_
    refine AD.gpure (want := true) (.tt rfl) (fun hg66 => PureOp.fieldPtr rfl (.gtmp rfl hg66) f13_) rfl rfl rfl (nB rfl) ?_
    refine AD.gpure (want := true) (.tt rfl) (fun hg67 => PureOp.loadPtr rfl (.gtmp rfl hg67) f2_ rfl rfl (nB rfl) (nB rfl)) rfl rfl rfl (nB rfl) ?_
    refine AD.gpure (want := true) (.tt rfl) (fun hg68 => PureOp.indexStrAt (i := v.2) rfl (.gtmp rfl hg68) f4_ (.gtmp rfl hg68) rfl (by have q := hg68; simp only [Bool.cond_true_left, Bool.cond_false_right, Bool.not_eq_true', Bool.or_eq_false_iff, Bool.not_eq_false', Bool.and_eq_true, Bool.not_not, decide_eq_true_eq, decide_eq_false_iff_not, inB] at q; omega)) rfl rfl rfl (nB rfl) ?_
    refine AD.gpure (want := true) (.tt rfl) (fun hg69 => PureOp.intOp rfl (.gtmp rfl hg69) .int rfl) rfl rfl rfl (nB rfl) ?_
    refine AD.gpure (want := true) (.tt rfl) (fun hg70 => PureOp.move rfl (.gtmp rfl hg70)) rfl rfl rfl (nB rfl) ?_
    refine AD.gpure (want := false) (.gf rfl) (fun hg71 => PureOp.move rfl (.tmp rfl)) rfl rfl rfl (nB rfl) ?_
    refine AD.gpure (want := false) (.gf rfl) (fun hg72 => PureOp.nilPtr rfl (.gtmp rfl hg72)) rfl rfl rfl (nB rfl) ?_
    refine AD.gpure (want := false) (.gf rfl) (fun hg73 => PureOp.fieldPtr rfl (.gtmp rfl hg73) f12_) rfl rfl rfl (nB rfl) ?_
    refine AD.gpure (want := false) (.gf rfl) (fun hg74 => PureOp.loadPtr rfl (.gtmp rfl hg74) f3_ rfl rfl (nB rfl) (nB rfl)) rfl rfl rfl (nB rfl) ?_
    refine AD.gpure (want := false) (.gf rfl) (fun hg75 => PureOp.move rfl (.tmp rfl)) rfl rfl rfl (nB rfl) ?_
    refine AD.gpure (want := false) (.gf rfl) (fun hg76 => PureOp.nilPtr rfl (.gtmp rfl hg76)) rfl rfl rfl (nB rfl) ?_
    refine AD.gpure (want := false) (.gf rfl) (fun hg77 => PureOp.fieldPtr rfl (.gtmp rfl hg77) f13_) rfl rfl rfl (nB rfl) ?_
    refine AD.gpure (want := false) (.gf rfl) (fun hg78 => PureOp.loadPtr rfl (.gtmp rfl hg78) f2_ rfl rfl (nB rfl) (nB rfl)) rfl rfl rfl (nB rfl) ?_
    refine AD.gpure (want := false) (.gf rfl) (fun hg79 => PureOp.indexStrAt (i := v.2) rfl (.gtmp rfl hg79) f4_ (.gtmp rfl hg79) rfl (by have q := hg79; simp only [Bool.cond_true_left, Bool.cond_false_right, Bool.not_eq_true', Bool.or_eq_false_iff, Bool.not_eq_false', Bool.and_eq_true, Bool.not_not, decide_eq_true_eq, decide_eq_false_iff_not, inB] at q; omega)) rfl rfl rfl (nB rfl) ?_
    refine AD.gpure (want := false) (.gf rfl) (fun hg80 => PureOp.intOp rfl (.gtmp rfl hg80) .int rfl) rfl rfl rfl (nB rfl) ?_
    refine AD.gpure (want := true) (.tt rfl) (fun hg81 => PureOp.pick rfl (.gtmp rfl hg81) (fun _ => .bool) (fun hp83 => .gtmp rfl (and_mk hg81 (not_of hp83)))) rfl rfl rfl (nB rfl) ?_
    refine AD.pure (PureOp.pick rfl (.tmp rfl) (fun hp84 => .gtmp rfl hp84) (fun _ => .bool)) rfl rfl (nB rfl) ?_
    refine AD.nil ?_
    refine AW.cond (.tmp rfl) (fun hb86 => ?_) (fun hb86 => ?_)
    ·
     have hnl : (false = false ∧ v.2 < s.size ∧ (byteAt s v.2 = 42 ∨ byteAt s v.2 = 94)) := loopB hb86
     have hlt2 := hnl.2.1
     refine AW.skip ?_
     refine AW.block ?_
     refine AW.seq ?_
     refine AW.region ?_
     refine pu (.assign rfl .int) rfl rfl rfl ?_
     refine ARun.nil ?_
     refine AW.seq ?_
     refine AW.seq ?_
     refine AW.any (by kernel_rfl) (by kernel_rfl) ?_
     refine AD.pure (PureOp.move rfl (.tmp rfl)) rfl rfl (nB rfl) ?_
     refine AD.pure (PureOp.nilPtr rfl (.tmp rfl)) rfl rfl (nB rfl) ?_
     refine AD.pure (PureOp.fieldPtr rfl (.tmp rfl) f12_) rfl rfl (nB rfl) ?_
     refine AD.pure (PureOp.loadPtr rfl (.tmp rfl) f3_ rfl rfl (nB rfl) (nB rfl)) rfl rfl (nB rfl) ?_
     refine AD.pure (PureOp.move rfl (.tmp rfl)) rfl rfl (nB rfl) ?_
     refine AD.pure (PureOp.nilPtr rfl (.tmp rfl)) rfl rfl (nB rfl) ?_
     refine AD.pure (PureOp.fieldPtr rfl (.tmp rfl) f13_) rfl rfl (nB rfl) ?_
     refine AD.pure (PureOp.loadPtr rfl (.tmp rfl) f2_ rfl rfl (nB rfl) (nB rfl)) rfl rfl (nB rfl) ?_
     refine AD.pure (PureOp.indexStrAt (i := v.2) rfl (.tmp rfl) f4_ (.tmp rfl) rfl (by omega)) rfl rfl (nB rfl) ?_
     refine AD.pure (PureOp.intOp rfl (.tmp rfl) .int rfl) rfl rfl (nB rfl) ?_
     refine AD.nil ?_
     refine AW.cond (.tmp rfl) (fun hb87 => ?_) (fun hb87 => ?_)
     ·
      replace hb87 := of_decide_eq_true hb87
      have h94 := hb87
      refine AW.region ?_
      refine pu (.assign rfl .int) rfl rfl rfl ?_
      refine ARun.nil ?_
      refine AW.seq ?_
      refine AW.region ?_
      refine pu (.move rfl (.tmp rfl)) rfl rfl rfl ?_
      refine pu (.move rfl (.tmp rfl)) rfl rfl rfl ?_
      refine pu (.build (ys := [.int .i64 8, Fo.fv v.1]) (l := [.int .i64 0, .str ByteArray.empty, Fo.fv Fo.nil, Fo.fv Fo.nil]) (pl := [(0, 1), (1, 1), (2, 1), (3, 1)]) (z := (.agg #[.int .i64 0, .string ByteArray.empty, .pointer none, .pointer none])) rfl (by kernel_rfl) (by kernel_rfl) (fun _ _ _ => ⟨_, _, rfl, rfl, ⟨_, _, rfl, ⟨rfl, by decide⟩, ⟨_, _, rfl, rfl, ⟨_, _, rfl, rfl, rfl⟩⟩⟩⟩) ⟨(.tmp rfl), trivial, rfl, ⟨(.tmp rfl), (Fo.cell _), rfl, trivial⟩⟩ rfl) rfl rfl rfl ?_
      refine ARun.fresh (FreshOp.boxD (m := [.int .i64 8, .str ByteArray.empty, Fo.av v.1, Fo.av Fo.nil]) rfl (.tmp rfl) (SV.cells_of (by exact ⟨trivial, trivial, Fo.cell _, ⟨rfl, (fun _ e => by cases e), (fun _ e => by cases e)⟩, trivial⟩)) ⟨.int, .str, (Fo.fd _), .con, trivial⟩ (nB rfl)) rfl rfl (nB rfl) ?_
      refine pu (.assign rfl (.tmp rfl)) rfl rfl rfl ?_
      refine ARun.nil ?_
      refine AW.region ?_
      refine pu (.move rfl (.tmp rfl)) rfl rfl rfl ?_
      refine pu (.nilPtr rfl (.tmp rfl)) rfl rfl rfl ?_
      refine pu (.fieldPtr rfl (.tmp rfl) f13_) rfl rfl rfl ?_
      refine pu (.loadPtr rfl (.tmp rfl) f2_ rfl rfl (nB rfl) (nB rfl)) rfl rfl rfl ?_
      refine pu (.add (c := ((v.2 + 1 : Nat) : Int)) rfl (.tmp rfl) .int (by rw [wrap_id (by omega) (by omega)]; omega)) rfl rfl rfl ?_
      refine pu (.nilPtr rfl (.tmp rfl)) rfl rfl rfl ?_
      refine pu (.fieldPtr rfl (.tmp rfl) f13_) rfl rfl rfl ?_
      refine ARun.store rfl (.tmp rfl) (.tmp rfl) trivial rfl (nB rfl) f5_ rfl rfl ?_
      refine ARun.nil ?_
      exact ⟨((Fo.mk 8 ByteArray.empty v.1 Fo.nil), v.2 + 1), hv.s8 hnl.1 hnl.2.1 h94, by dsimp only; omega, ⟨⟨⟨_, rfl, rfl⟩, ⟨_, rfl, rfl⟩, trivial⟩, HeapLe.one rfl (HeapLe.one rfl trivial)⟩⟩
     ·
      replace hb87 := of_decide_eq_false hb87
      have h94 := hb87
      refine AW.skip ?_
      refine AW.seq ?_
      refine AW.region ?_
      refine pu (.move rfl (.tmp rfl)) rfl rfl rfl ?_
      refine pu (.move rfl (.tmp rfl)) rfl rfl rfl ?_
      refine pu (.build (ys := [.int .i64 7, Fo.fv v.1]) (l := [.int .i64 0, .str ByteArray.empty, Fo.fv Fo.nil, Fo.fv Fo.nil]) (pl := [(0, 1), (1, 1), (2, 1), (3, 1)]) (z := (.agg #[.int .i64 0, .string ByteArray.empty, .pointer none, .pointer none])) rfl (by kernel_rfl) (by kernel_rfl) (fun _ _ _ => ⟨_, _, rfl, rfl, ⟨_, _, rfl, ⟨rfl, by decide⟩, ⟨_, _, rfl, rfl, ⟨_, _, rfl, rfl, rfl⟩⟩⟩⟩) ⟨(.tmp rfl), trivial, rfl, ⟨(.tmp rfl), (Fo.cell _), rfl, trivial⟩⟩ rfl) rfl rfl rfl ?_
      refine ARun.fresh (FreshOp.boxD (m := [.int .i64 7, .str ByteArray.empty, Fo.av v.1, Fo.av Fo.nil]) rfl (.tmp rfl) (SV.cells_of (by exact ⟨trivial, trivial, Fo.cell _, ⟨rfl, (fun _ e => by cases e), (fun _ e => by cases e)⟩, trivial⟩)) ⟨.int, .str, (Fo.fd _), .con, trivial⟩ (nB rfl)) rfl rfl (nB rfl) ?_
      refine pu (.assign rfl (.tmp rfl)) rfl rfl rfl ?_
      refine ARun.nil ?_
      refine AW.region ?_
      refine pu (.move rfl (.tmp rfl)) rfl rfl rfl ?_
      refine pu (.nilPtr rfl (.tmp rfl)) rfl rfl rfl ?_
      refine pu (.fieldPtr rfl (.tmp rfl) f13_) rfl rfl rfl ?_
      refine pu (.loadPtr rfl (.tmp rfl) f2_ rfl rfl (nB rfl) (nB rfl)) rfl rfl rfl ?_
      refine pu (.add (c := ((v.2 + 1 : Nat) : Int)) rfl (.tmp rfl) .int (by rw [wrap_id (by omega) (by omega)]; omega)) rfl rfl rfl ?_
      refine pu (.nilPtr rfl (.tmp rfl)) rfl rfl rfl ?_
      refine pu (.fieldPtr rfl (.tmp rfl) f13_) rfl rfl rfl ?_
      refine ARun.store rfl (.tmp rfl) (.tmp rfl) trivial rfl (nB rfl) f5_ rfl rfl ?_
      refine ARun.nil ?_
      exact ⟨((Fo.mk 7 ByteArray.empty v.1 Fo.nil), v.2 + 1), hv.s7 hnl.1 hnl.2.1 (hnl.2.2.resolve_right h94), by dsimp only; omega, ⟨⟨⟨_, rfl, rfl⟩, ⟨_, rfl, rfl⟩, trivial⟩, HeapLe.one rfl (HeapLe.one rfl trivial)⟩⟩
    ·
     have hnl : ¬ (false = false ∧ v.2 < s.size ∧ (byteAt s v.2 = 42 ∨ byteAt s v.2 = 94)) := loopB hb86
     refine AW.exit ?_
     refine AW.seq ?_
     refine AW.region ?_
     refine pu (.move rfl (.tmp rfl)) rfl rfl rfl ?_
     refine pu (.assign rfl (.tmp rfl)) rfl rfl rfl ?_
     refine ARun.nil ?_
     exact AW.ret (show ∃ x t, _ ∧ ResN _ _ [.tmp 4] t ∧ _ ∧ _ ∧ _ from ⟨(v.1, v.2, false), _, (gForm_step h0 hy (hv.ret hnl)), (.inl (.inl ⟨_, rfl, .tmp rfl⟩)), (Fo.fp _ _), rfl, rfl⟩)
   ·
    replace hb47 := of_decide_eq_false hb47
    refine AW.seq ?_
    refine AW.region ?_
    refine pu (.move rfl (.tmp rfl)) rfl rfl rfl ?_
    refine pu (.intOp rfl (.tmp rfl) .int rfl) rfl rfl rfl ?_
    refine pu (.assign rfl (.tmp rfl)) rfl rfl rfl ?_
    refine ARun.nil ?_
    refine AW.cond (.tmp rfl) (fun hb88 => ?_) (fun hb88 => ?_)
    ·
     replace hb88 := of_decide_eq_true hb88
     refine AW.seq ?_
     refine AW.region ?_
     refine pu (.build (ys := [.int .i64 4]) (l := [.int .i64 0, .str ByteArray.empty, Fo.fv Fo.nil, Fo.fv Fo.nil]) (pl := [(0, 1), (1, 1), (2, 1), (3, 1)]) (z := (.agg #[.int .i64 0, .string ByteArray.empty, .pointer none, .pointer none])) rfl (by kernel_rfl) (by kernel_rfl) (fun _ _ _ => ⟨_, _, rfl, rfl, ⟨_, _, rfl, ⟨rfl, by decide⟩, ⟨_, _, rfl, rfl, ⟨_, _, rfl, rfl, rfl⟩⟩⟩⟩) ⟨.int, trivial, rfl, trivial⟩ rfl) rfl rfl rfl ?_
     refine ARun.fresh (FreshOp.boxD (m := [.int .i64 4, .str ByteArray.empty, Fo.av Fo.nil, Fo.av Fo.nil]) rfl (.tmp rfl) (SV.cells_of (by exact ⟨trivial, trivial, ⟨rfl, (fun _ e => by cases e), (fun _ e => by cases e)⟩, ⟨rfl, (fun _ e => by cases e), (fun _ e => by cases e)⟩, trivial⟩)) ⟨.int, .str, .con, .con, trivial⟩ (nB rfl)) rfl rfl (nB rfl) ?_
     refine pu (.assign rfl (.tmp rfl)) rfl rfl rfl ?_
     refine ARun.nil ?_
     refine AW.region ?_
     refine pu (.move rfl (.tmp rfl)) rfl rfl rfl ?_
     refine pu (.nilPtr rfl (.tmp rfl)) rfl rfl rfl ?_
     refine pu (.fieldPtr rfl (.tmp rfl) f13_) rfl rfl rfl ?_
     refine pu (.loadPtr rfl (.tmp rfl) f2_ rfl rfl (nB rfl) (nB rfl)) rfl rfl rfl ?_
     refine pu (.add (c := ((p + 1 : Nat) : Int)) rfl (.tmp rfl) .int (by rw [wrap_id (by omega) (by omega)]; omega)) rfl rfl rfl ?_
     refine pu (.nilPtr rfl (.tmp rfl)) rfl rfl rfl ?_
     refine pu (.fieldPtr rfl (.tmp rfl) f13_) rfl rfl rfl ?_
     refine ARun.store rfl (.tmp rfl) (.tmp rfl) trivial rfl (nB rfl) f5_ rfl rfl ?_
     refine ARun.nil ?_
     refine AW.seq ?_
     refine AW.block ?_
     have hy : ((Fo.mk 4 ByteArray.empty Fo.nil Fo.nil), p + 1, false) = gAtom (gForm s n) s p d := by unfold gAtom; rw [if_neg hb6, if_neg hb47, if_pos hb88]; try rfl
     refine AW.loop (ι := Fo × Nat) (fun v => ⟨[(0, .one (.ptr 1000000 3 0 0)), (7, .one (Fo.fv v.1))], [(1000000, .cells [.str s, .int .i64 (v.2 : Int), .bool false]), (1000001, .trees kk YY)]⟩) (fun v => GI s false (gStars s ((Fo.mk 4 ByteArray.empty Fo.nil Fo.nil), p + 1, false)) v) (fun v => s.size - v.2) ((Fo.mk 4 ByteArray.empty Fo.nil Fo.nil), p + 1) (GI.start (by omega)) ⟨⟨⟨_, rfl, rfl⟩, ⟨_, rfl, rfl⟩, trivial⟩, HeapLe.one rfl (HeapLe.one rfl trivial)⟩ ?_
     intro v hv
     have hvle := hv.le
     refine AW.seq ?_
     refine AW.seq ?_
     refine AW.any (by kernel_rfl) (by kernel_rfl) ?_
     refine AD.pure (PureOp.move rfl (.tmp rfl)) rfl rfl (nB rfl) ?_
     refine AD.pure (PureOp.nilPtr rfl (.tmp rfl)) rfl rfl (nB rfl) ?_
     refine AD.pure (PureOp.fieldPtr rfl (.tmp rfl) f14_) rfl rfl (nB rfl) ?_
     refine AD.pure (PureOp.loadPtr rfl (.tmp rfl) f62_ rfl rfl (nB rfl) (nB rfl)) rfl rfl (nB rfl) ?_
     refine AD.pure (PureOp.not rfl (.tmp rfl)) rfl rfl (nB rfl) ?_
     refine AD.pure (PureOp.move rfl (.tmp rfl)) rfl rfl (nB rfl) ?_
     refine AD.gpure (want := true) (.tt rfl) (fun hg89 => PureOp.move rfl (.tmp rfl)) rfl rfl rfl (nB rfl) ?_
     refine AD.gpure (want := true) (.tt rfl) (fun hg90 => PureOp.nilPtr rfl (.gtmp rfl hg90)) rfl rfl rfl (nB rfl) ?_
     refine AD.gpure (want := true) (.tt rfl) (fun hg91 => PureOp.fieldPtr rfl (.gtmp rfl hg91) f13_) rfl rfl rfl (nB rfl) ?_
     refine AD.gpure (want := true) (.tt rfl) (fun hg92 => PureOp.loadPtr rfl (.gtmp rfl hg92) f2_ rfl rfl (nB rfl) (nB rfl)) rfl rfl rfl (nB rfl) ?_
     refine AD.gpure (want := true) (.tt rfl) (fun hg93 => PureOp.move rfl (.tmp rfl)) rfl rfl rfl (nB rfl) ?_
     refine AD.gpure (want := true) (.tt rfl) (fun hg94 => PureOp.nilPtr rfl (.gtmp rfl hg94)) rfl rfl rfl (nB rfl) ?_
     refine AD.gpure (want := true) (.tt rfl) (fun hg95 => PureOp.fieldPtr rfl (.gtmp rfl hg95) f12_) rfl rfl rfl (nB rfl) ?_
     refine AD.gpure (want := true) (.tt rfl) (fun hg96 => PureOp.loadPtr rfl (.gtmp rfl hg96) f3_ rfl rfl (nB rfl) (nB rfl)) rfl rfl rfl (nB rfl) ?_
     refine AD.gpure (want := true) (.tt rfl) (fun hg97 => PureOp.lenStr rfl (.gtmp rfl hg97) f4_) rfl rfl rfl (nB rfl) ?_
     refine AD.gpure (want := true) (.tt rfl) (fun hg98 => PureOp.intOp rfl (.gtmp rfl hg98) (.gtmp rfl hg98) rfl) rfl rfl rfl (nB rfl) ?_
     refine AD.pure (PureOp.pick rfl (.tmp rfl) (fun hp99 => .gtmp rfl hp99) (fun _ => .bool)) rfl rfl (nB rfl) ?_
     refine AD.pure (PureOp.move rfl (.tmp rfl)) rfl rfl (nB rfl) ?_
     refine AD.gpure (want := true) (.tt rfl) (fun hg101 => PureOp.move rfl (.tmp rfl)) rfl rfl rfl (nB rfl) ?_
     refine AD.gpure (want := true) (.tt rfl) (fun hg102 => PureOp.nilPtr rfl (.gtmp rfl hg102)) rfl rfl rfl (nB rfl) ?_
     refine AD.gpure (want := true) (.tt rfl) (fun hg103 => PureOp.fieldPtr rfl (.gtmp rfl hg103) f12_) rfl rfl rfl (nB rfl) ?_
     refine AD.gpure (want := true) (.tt rfl) (fun hg104 => PureOp.loadPtr rfl (.gtmp rfl hg104) f3_ rfl rfl (nB rfl) (nB rfl)) rfl rfl rfl (nB rfl) ?_
     refine AD.gpure (want := true) (.tt rfl) (fun hg105 => PureOp.move rfl (.tmp rfl)) rfl rfl rfl (nB rfl) ?_
     refine AD.gpure (want := true) (.tt rfl) (fun hg106 => PureOp.nilPtr rfl (.gtmp rfl hg106)) rfl rfl rfl (nB rfl) ?_
     refine AD.gpure (want := true) (.tt rfl) (fun hg107 => PureOp.fieldPtr rfl (.gtmp rfl hg107) f13_) rfl rfl rfl (nB rfl) ?_
     refine AD.gpure (want := true) (.tt rfl) (fun hg108 => PureOp.loadPtr rfl (.gtmp rfl hg108) f2_ rfl rfl (nB rfl) (nB rfl)) rfl rfl rfl (nB rfl) ?_
     refine AD.gpure (want := true) (.tt rfl) (fun hg109 => PureOp.indexStrAt (i := v.2) rfl (.gtmp rfl hg109) f4_ (.gtmp rfl hg109) rfl (by have q := hg109; simp only [Bool.cond_true_left, Bool.cond_false_right, Bool.not_eq_true', Bool.or_eq_false_iff, Bool.not_eq_false', Bool.and_eq_true, Bool.not_not, decide_eq_true_eq, decide_eq_false_iff_not, inB] at q; omega)) rfl rfl rfl (nB rfl) ?_
     refine AD.gpure (want := true) (.tt rfl) (fun hg110 => PureOp.intOp rfl (.gtmp rfl hg110) .int rfl) rfl rfl rfl (nB rfl) ?_
     refine AD.gpure (want := true) (.tt rfl) (fun hg111 => PureOp.move rfl (.gtmp rfl hg111)) rfl rfl rfl (nB rfl) ?_
     refine AD.gpure (want := false) (.gf rfl) (fun hg112 => PureOp.move rfl (.tmp rfl)) rfl rfl rfl (nB rfl) ?_
     refine AD.gpure (want := false) (.gf rfl) (fun hg113 => PureOp.nilPtr rfl (.gtmp rfl hg113)) rfl rfl rfl (nB rfl) ?_
     refine AD.gpure (want := false) (.gf rfl) (fun hg114 => PureOp.fieldPtr rfl (.gtmp rfl hg114) f12_) rfl rfl rfl (nB rfl) ?_
     refine AD.gpure (want := false) (.gf rfl) (fun hg115 => PureOp.loadPtr rfl (.gtmp rfl hg115) f3_ rfl rfl (nB rfl) (nB rfl)) rfl rfl rfl (nB rfl) ?_
     refine AD.gpure (want := false) (.gf rfl) (fun hg116 => PureOp.move rfl (.tmp rfl)) rfl rfl rfl (nB rfl) ?_
     refine AD.gpure (want := false) (.gf rfl) (fun hg117 => PureOp.nilPtr rfl (.gtmp rfl hg117)) rfl rfl rfl (nB rfl) ?_
     refine AD.gpure (want := false) (.gf rfl) (fun hg118 => PureOp.fieldPtr rfl (.gtmp rfl hg118) f13_) rfl rfl rfl (nB rfl) ?_
     refine AD.gpure (want := false) (.gf rfl) (fun hg119 => PureOp.loadPtr rfl (.gtmp rfl hg119) f2_ rfl rfl (nB rfl) (nB rfl)) rfl rfl rfl (nB rfl) ?_
     refine AD.gpure (want := false) (.gf rfl) (fun hg120 => PureOp.indexStrAt (i := v.2) rfl (.gtmp rfl hg120) f4_ (.gtmp rfl hg120) rfl (by have q := hg120; simp only [Bool.cond_true_left, Bool.cond_false_right, Bool.not_eq_true', Bool.or_eq_false_iff, Bool.not_eq_false', Bool.and_eq_true, Bool.not_not, decide_eq_true_eq, decide_eq_false_iff_not, inB] at q; omega)) rfl rfl rfl (nB rfl) ?_
     refine AD.gpure (want := false) (.gf rfl) (fun hg121 => PureOp.intOp rfl (.gtmp rfl hg121) .int rfl) rfl rfl rfl (nB rfl) ?_
     refine AD.gpure (want := true) (.tt rfl) (fun hg122 => PureOp.pick rfl (.gtmp rfl hg122) (fun _ => .bool) (fun hp124 => .gtmp rfl (and_mk hg122 (not_of hp124)))) rfl rfl rfl (nB rfl) ?_
     refine AD.pure (PureOp.pick rfl (.tmp rfl) (fun hp125 => .gtmp rfl hp125) (fun _ => .bool)) rfl rfl (nB rfl) ?_
     refine AD.nil ?_
     refine AW.cond (.tmp rfl) (fun hb127 => ?_) (fun hb127 => ?_)
     ·
      have hnl : (false = false ∧ v.2 < s.size ∧ (byteAt s v.2 = 42 ∨ byteAt s v.2 = 94)) := loopB hb127
      have hlt2 := hnl.2.1
      refine AW.skip ?_
      refine AW.block ?_
      refine AW.seq ?_
      refine AW.region ?_
      refine pu (.assign rfl .int) rfl rfl rfl ?_
      refine ARun.nil ?_
      refine AW.seq ?_
      refine AW.seq ?_
      refine AW.any (by kernel_rfl) (by kernel_rfl) ?_
      refine AD.pure (PureOp.move rfl (.tmp rfl)) rfl rfl (nB rfl) ?_
      refine AD.pure (PureOp.nilPtr rfl (.tmp rfl)) rfl rfl (nB rfl) ?_
      refine AD.pure (PureOp.fieldPtr rfl (.tmp rfl) f12_) rfl rfl (nB rfl) ?_
      refine AD.pure (PureOp.loadPtr rfl (.tmp rfl) f3_ rfl rfl (nB rfl) (nB rfl)) rfl rfl (nB rfl) ?_
      refine AD.pure (PureOp.move rfl (.tmp rfl)) rfl rfl (nB rfl) ?_
      refine AD.pure (PureOp.nilPtr rfl (.tmp rfl)) rfl rfl (nB rfl) ?_
      refine AD.pure (PureOp.fieldPtr rfl (.tmp rfl) f13_) rfl rfl (nB rfl) ?_
      refine AD.pure (PureOp.loadPtr rfl (.tmp rfl) f2_ rfl rfl (nB rfl) (nB rfl)) rfl rfl (nB rfl) ?_
      refine AD.pure (PureOp.indexStrAt (i := v.2) rfl (.tmp rfl) f4_ (.tmp rfl) rfl (by omega)) rfl rfl (nB rfl) ?_
      refine AD.pure (PureOp.intOp rfl (.tmp rfl) .int rfl) rfl rfl (nB rfl) ?_
      refine AD.nil ?_
      refine AW.cond (.tmp rfl) (fun hb128 => ?_) (fun hb128 => ?_)
      ·
       replace hb128 := of_decide_eq_true hb128
       have h94 := hb128
       refine AW.region ?_
       refine pu (.assign rfl .int) rfl rfl rfl ?_
       refine ARun.nil ?_
       refine AW.seq ?_
       refine AW.region ?_
       refine pu (.move rfl (.tmp rfl)) rfl rfl rfl ?_
       refine pu (.move rfl (.tmp rfl)) rfl rfl rfl ?_
       refine pu (.build (ys := [.int .i64 8, Fo.fv v.1]) (l := [.int .i64 0, .str ByteArray.empty, Fo.fv Fo.nil, Fo.fv Fo.nil]) (pl := [(0, 1), (1, 1), (2, 1), (3, 1)]) (z := (.agg #[.int .i64 0, .string ByteArray.empty, .pointer none, .pointer none])) rfl (by kernel_rfl) (by kernel_rfl) (fun _ _ _ => ⟨_, _, rfl, rfl, ⟨_, _, rfl, ⟨rfl, by decide⟩, ⟨_, _, rfl, rfl, ⟨_, _, rfl, rfl, rfl⟩⟩⟩⟩) ⟨(.tmp rfl), trivial, rfl, ⟨(.tmp rfl), (Fo.cell _), rfl, trivial⟩⟩ rfl) rfl rfl rfl ?_
       refine ARun.fresh (FreshOp.boxD (m := [.int .i64 8, .str ByteArray.empty, Fo.av v.1, Fo.av Fo.nil]) rfl (.tmp rfl) (SV.cells_of (by exact ⟨trivial, trivial, Fo.cell _, ⟨rfl, (fun _ e => by cases e), (fun _ e => by cases e)⟩, trivial⟩)) ⟨.int, .str, (Fo.fd _), .con, trivial⟩ (nB rfl)) rfl rfl (nB rfl) ?_
       refine pu (.assign rfl (.tmp rfl)) rfl rfl rfl ?_
       refine ARun.nil ?_
       refine AW.region ?_
       refine pu (.move rfl (.tmp rfl)) rfl rfl rfl ?_
       refine pu (.nilPtr rfl (.tmp rfl)) rfl rfl rfl ?_
       refine pu (.fieldPtr rfl (.tmp rfl) f13_) rfl rfl rfl ?_
       refine pu (.loadPtr rfl (.tmp rfl) f2_ rfl rfl (nB rfl) (nB rfl)) rfl rfl rfl ?_
       refine pu (.add (c := ((v.2 + 1 : Nat) : Int)) rfl (.tmp rfl) .int (by rw [wrap_id (by omega) (by omega)]; omega)) rfl rfl rfl ?_
       refine pu (.nilPtr rfl (.tmp rfl)) rfl rfl rfl ?_
       refine pu (.fieldPtr rfl (.tmp rfl) f13_) rfl rfl rfl ?_
       refine ARun.store rfl (.tmp rfl) (.tmp rfl) trivial rfl (nB rfl) f5_ rfl rfl ?_
       refine ARun.nil ?_
       exact ⟨((Fo.mk 8 ByteArray.empty v.1 Fo.nil), v.2 + 1), hv.s8 hnl.1 hnl.2.1 h94, by dsimp only; omega, ⟨⟨⟨_, rfl, rfl⟩, ⟨_, rfl, rfl⟩, trivial⟩, HeapLe.one rfl (HeapLe.one rfl trivial)⟩⟩
      ·
       replace hb128 := of_decide_eq_false hb128
       have h94 := hb128
       refine AW.skip ?_
       refine AW.seq ?_
       refine AW.region ?_
       refine pu (.move rfl (.tmp rfl)) rfl rfl rfl ?_
       refine pu (.move rfl (.tmp rfl)) rfl rfl rfl ?_
       refine pu (.build (ys := [.int .i64 7, Fo.fv v.1]) (l := [.int .i64 0, .str ByteArray.empty, Fo.fv Fo.nil, Fo.fv Fo.nil]) (pl := [(0, 1), (1, 1), (2, 1), (3, 1)]) (z := (.agg #[.int .i64 0, .string ByteArray.empty, .pointer none, .pointer none])) rfl (by kernel_rfl) (by kernel_rfl) (fun _ _ _ => ⟨_, _, rfl, rfl, ⟨_, _, rfl, ⟨rfl, by decide⟩, ⟨_, _, rfl, rfl, ⟨_, _, rfl, rfl, rfl⟩⟩⟩⟩) ⟨(.tmp rfl), trivial, rfl, ⟨(.tmp rfl), (Fo.cell _), rfl, trivial⟩⟩ rfl) rfl rfl rfl ?_
       refine ARun.fresh (FreshOp.boxD (m := [.int .i64 7, .str ByteArray.empty, Fo.av v.1, Fo.av Fo.nil]) rfl (.tmp rfl) (SV.cells_of (by exact ⟨trivial, trivial, Fo.cell _, ⟨rfl, (fun _ e => by cases e), (fun _ e => by cases e)⟩, trivial⟩)) ⟨.int, .str, (Fo.fd _), .con, trivial⟩ (nB rfl)) rfl rfl (nB rfl) ?_
       refine pu (.assign rfl (.tmp rfl)) rfl rfl rfl ?_
       refine ARun.nil ?_
       refine AW.region ?_
       refine pu (.move rfl (.tmp rfl)) rfl rfl rfl ?_
       refine pu (.nilPtr rfl (.tmp rfl)) rfl rfl rfl ?_
       refine pu (.fieldPtr rfl (.tmp rfl) f13_) rfl rfl rfl ?_
       refine pu (.loadPtr rfl (.tmp rfl) f2_ rfl rfl (nB rfl) (nB rfl)) rfl rfl rfl ?_
       refine pu (.add (c := ((v.2 + 1 : Nat) : Int)) rfl (.tmp rfl) .int (by rw [wrap_id (by omega) (by omega)]; omega)) rfl rfl rfl ?_
       refine pu (.nilPtr rfl (.tmp rfl)) rfl rfl rfl ?_
       refine pu (.fieldPtr rfl (.tmp rfl) f13_) rfl rfl rfl ?_
       refine ARun.store rfl (.tmp rfl) (.tmp rfl) trivial rfl (nB rfl) f5_ rfl rfl ?_
       refine ARun.nil ?_
       exact ⟨((Fo.mk 7 ByteArray.empty v.1 Fo.nil), v.2 + 1), hv.s7 hnl.1 hnl.2.1 (hnl.2.2.resolve_right h94), by dsimp only; omega, ⟨⟨⟨_, rfl, rfl⟩, ⟨_, rfl, rfl⟩, trivial⟩, HeapLe.one rfl (HeapLe.one rfl trivial)⟩⟩
     ·
      have hnl : ¬ (false = false ∧ v.2 < s.size ∧ (byteAt s v.2 = 42 ∨ byteAt s v.2 = 94)) := loopB hb127
      refine AW.exit ?_
      refine AW.seq ?_
      refine AW.region ?_
      refine pu (.move rfl (.tmp rfl)) rfl rfl rfl ?_
      refine pu (.assign rfl (.tmp rfl)) rfl rfl rfl ?_
      refine ARun.nil ?_
      exact AW.ret (show ∃ x t, _ ∧ ResN _ _ [.tmp 4] t ∧ _ ∧ _ ∧ _ from ⟨(v.1, v.2, false), _, (gForm_step h0 hy (hv.ret hnl)), (.inl (.inl ⟨_, rfl, .tmp rfl⟩)), (Fo.fp _ _), rfl, rfl⟩)
    ·
     replace hb88 := of_decide_eq_false hb88
     refine AW.seq ?_
     refine AW.region ?_
     refine pu (.move rfl (.tmp rfl)) rfl rfl rfl ?_
     refine pu (.intOp rfl (.tmp rfl) .int rfl) rfl rfl rfl ?_
     refine pu (.move rfl (.tmp rfl)) rfl rfl rfl ?_
     refine ARun.gpure (want := true) (.tt rfl) (fun hg129 => PureOp.move rfl (.tmp rfl)) rfl rfl (nB rfl) rfl (nB rfl) ?_
     refine ARun.gpure (want := true) (.tt rfl) (fun hg130 => PureOp.intOp rfl (.gtmp rfl hg130) .int rfl) rfl rfl (nB rfl) rfl (nB rfl) ?_
     refine pu (.pick rfl (.tmp rfl) (fun hp131 => .gtmp rfl hp131) (fun _ => .bool)) rfl rfl rfl ?_
     refine pu (.assign rfl (.tmp rfl)) rfl rfl rfl ?_
     refine ARun.nil ?_
     refine AW.cond (.tmp rfl) (fun hb133 => ?_) (fun hb133 => ?_)
     ·
      have hl := letB hb133
      simp only [if_true, if_false, Bool.false_eq_true] at hl
      have hl1 := hl.1
      have hl2 := hl.2
      refine AW.seq ?_
      refine AW.region ?_
      refine pu (.move rfl (.tmp rfl)) rfl rfl rfl ?_
      refine ARun.fresh (FreshOp.byte1 (a1 := byteAt s p) rfl (.tmp rfl) Try.underlying35 (by kernel_rfl)) rfl rfl (nB rfl) ?_
      refine pu (.byteStr (c := (UInt8.ofNat (byteAt s p).toNat)) rfl (.frs (.tmp rfl)) (congrArg (AV.int .u8) (byteAt_u8 s p)) Try.underlying35 Try.underlying5 Try.underlying9) rfl rfl rfl ?_
      refine pu (.build (ys := [.int .i64 3, .str (⟨#[(UInt8.ofNat (byteAt s p).toNat)]⟩)]) (l := [.int .i64 0, .str ByteArray.empty, Fo.fv Fo.nil, Fo.fv Fo.nil]) (pl := [(0, 1), (1, 1), (2, 1), (3, 1)]) (z := (.agg #[.int .i64 0, .string ByteArray.empty, .pointer none, .pointer none])) rfl (by kernel_rfl) (by kernel_rfl) (fun _ _ _ => ⟨_, _, rfl, rfl, ⟨_, _, rfl, ⟨rfl, by decide⟩, ⟨_, _, rfl, rfl, ⟨_, _, rfl, rfl, rfl⟩⟩⟩⟩) ⟨.int, trivial, rfl, ⟨(.tmp rfl), trivial, rfl, trivial⟩⟩ rfl) rfl rfl rfl ?_
      refine ARun.fresh (FreshOp.boxD (m := [.int .i64 3, .str (⟨#[(UInt8.ofNat (byteAt s p).toNat)]⟩), Fo.av Fo.nil, Fo.av Fo.nil]) rfl (.tmp rfl) (SV.cells_of (by exact ⟨trivial, trivial, ⟨rfl, (fun _ e => by cases e), (fun _ e => by cases e)⟩, ⟨rfl, (fun _ e => by cases e), (fun _ e => by cases e)⟩, trivial⟩)) ⟨.int, .str, .con, .con, trivial⟩ (nB rfl)) rfl rfl (nB rfl) ?_
      refine pu (.assign rfl (.tmp rfl)) rfl rfl rfl ?_
      refine ARun.nil ?_
      refine AW.region ?_
      refine pu (.move rfl (.tmp rfl)) rfl rfl rfl ?_
      refine pu (.nilPtr rfl (.tmp rfl)) rfl rfl rfl ?_
      refine pu (.fieldPtr rfl (.tmp rfl) f13_) rfl rfl rfl ?_
      refine pu (.loadPtr rfl (.tmp rfl) f2_ rfl rfl (nB rfl) (nB rfl)) rfl rfl rfl ?_
      refine pu (.add (c := ((p + 1 : Nat) : Int)) rfl (.tmp rfl) .int (by rw [wrap_id (by omega) (by omega)]; omega)) rfl rfl rfl ?_
      refine pu (.nilPtr rfl (.tmp rfl)) rfl rfl rfl ?_
      refine pu (.fieldPtr rfl (.tmp rfl) f13_) rfl rfl rfl ?_
      refine ARun.store rfl (.tmp rfl) (.tmp rfl) trivial rfl (nB rfl) f5_ rfl rfl ?_
      refine ARun.nil ?_
      refine AW.seq ?_
      refine AW.block ?_
      have hy : ((Fo.mk 3 (⟨#[(UInt8.ofNat (byteAt s p).toNat)]⟩) Fo.nil Fo.nil), p + 1, false) = gAtom (gForm s n) s p d := by unfold gAtom; rw [if_neg hb6, if_neg hb47, if_neg hb88, if_pos hl]; try rfl
      refine AW.loop (ι := Fo × Nat) (fun v => ⟨[(0, .one (.ptr 1000000 3 0 0)), (7, .one (Fo.fv v.1))], [(1000000, .cells [.str s, .int .i64 (v.2 : Int), .bool false]), (1000001, .trees kk YY)]⟩) (fun v => GI s false (gStars s ((Fo.mk 3 (⟨#[(UInt8.ofNat (byteAt s p).toNat)]⟩) Fo.nil Fo.nil), p + 1, false)) v) (fun v => s.size - v.2) ((Fo.mk 3 (⟨#[(UInt8.ofNat (byteAt s p).toNat)]⟩) Fo.nil Fo.nil), p + 1) (GI.start (by omega)) ⟨⟨⟨_, rfl, rfl⟩, ⟨_, rfl, rfl⟩, trivial⟩, HeapLe.one rfl (HeapLe.one rfl trivial)⟩ ?_
      intro v hv
      have hvle := hv.le
      refine AW.seq ?_
      refine AW.seq ?_
      refine AW.any (by kernel_rfl) (by kernel_rfl) ?_
      refine AD.pure (PureOp.move rfl (.tmp rfl)) rfl rfl (nB rfl) ?_
      refine AD.pure (PureOp.nilPtr rfl (.tmp rfl)) rfl rfl (nB rfl) ?_
      refine AD.pure (PureOp.fieldPtr rfl (.tmp rfl) f14_) rfl rfl (nB rfl) ?_
      refine AD.pure (PureOp.loadPtr rfl (.tmp rfl) f62_ rfl rfl (nB rfl) (nB rfl)) rfl rfl (nB rfl) ?_
      refine AD.pure (PureOp.not rfl (.tmp rfl)) rfl rfl (nB rfl) ?_
      refine AD.pure (PureOp.move rfl (.tmp rfl)) rfl rfl (nB rfl) ?_
      refine AD.gpure (want := true) (.tt rfl) (fun hg134 => PureOp.move rfl (.tmp rfl)) rfl rfl rfl (nB rfl) ?_
      refine AD.gpure (want := true) (.tt rfl) (fun hg135 => PureOp.nilPtr rfl (.gtmp rfl hg135)) rfl rfl rfl (nB rfl) ?_
      refine AD.gpure (want := true) (.tt rfl) (fun hg136 => PureOp.fieldPtr rfl (.gtmp rfl hg136) f13_) rfl rfl rfl (nB rfl) ?_
      refine AD.gpure (want := true) (.tt rfl) (fun hg137 => PureOp.loadPtr rfl (.gtmp rfl hg137) f2_ rfl rfl (nB rfl) (nB rfl)) rfl rfl rfl (nB rfl) ?_
      refine AD.gpure (want := true) (.tt rfl) (fun hg138 => PureOp.move rfl (.tmp rfl)) rfl rfl rfl (nB rfl) ?_
      refine AD.gpure (want := true) (.tt rfl) (fun hg139 => PureOp.nilPtr rfl (.gtmp rfl hg139)) rfl rfl rfl (nB rfl) ?_
      refine AD.gpure (want := true) (.tt rfl) (fun hg140 => PureOp.fieldPtr rfl (.gtmp rfl hg140) f12_) rfl rfl rfl (nB rfl) ?_
      refine AD.gpure (want := true) (.tt rfl) (fun hg141 => PureOp.loadPtr rfl (.gtmp rfl hg141) f3_ rfl rfl (nB rfl) (nB rfl)) rfl rfl rfl (nB rfl) ?_
      refine AD.gpure (want := true) (.tt rfl) (fun hg142 => PureOp.lenStr rfl (.gtmp rfl hg142) f4_) rfl rfl rfl (nB rfl) ?_
      refine AD.gpure (want := true) (.tt rfl) (fun hg143 => PureOp.intOp rfl (.gtmp rfl hg143) (.gtmp rfl hg143) rfl) rfl rfl rfl (nB rfl) ?_
      refine AD.pure (PureOp.pick rfl (.tmp rfl) (fun hp144 => .gtmp rfl hp144) (fun _ => .bool)) rfl rfl (nB rfl) ?_
      refine AD.pure (PureOp.move rfl (.tmp rfl)) rfl rfl (nB rfl) ?_
      refine AD.gpure (want := true) (.tt rfl) (fun hg146 => PureOp.move rfl (.tmp rfl)) rfl rfl rfl (nB rfl) ?_
      refine AD.gpure (want := true) (.tt rfl) (fun hg147 => PureOp.nilPtr rfl (.gtmp rfl hg147)) rfl rfl rfl (nB rfl) ?_
      refine AD.gpure (want := true) (.tt rfl) (fun hg148 => PureOp.fieldPtr rfl (.gtmp rfl hg148) f12_) rfl rfl rfl (nB rfl) ?_
      refine AD.gpure (want := true) (.tt rfl) (fun hg149 => PureOp.loadPtr rfl (.gtmp rfl hg149) f3_ rfl rfl (nB rfl) (nB rfl)) rfl rfl rfl (nB rfl) ?_
      refine AD.gpure (want := true) (.tt rfl) (fun hg150 => PureOp.move rfl (.tmp rfl)) rfl rfl rfl (nB rfl) ?_
      refine AD.gpure (want := true) (.tt rfl) (fun hg151 => PureOp.nilPtr rfl (.gtmp rfl hg151)) rfl rfl rfl (nB rfl) ?_
      refine AD.gpure (want := true) (.tt rfl) (fun hg152 => PureOp.fieldPtr rfl (.gtmp rfl hg152) f13_) rfl rfl rfl (nB rfl) ?_
      refine AD.gpure (want := true) (.tt rfl) (fun hg153 => PureOp.loadPtr rfl (.gtmp rfl hg153) f2_ rfl rfl (nB rfl) (nB rfl)) rfl rfl rfl (nB rfl) ?_
      refine AD.gpure (want := true) (.tt rfl) (fun hg154 => PureOp.indexStrAt (i := v.2) rfl (.gtmp rfl hg154) f4_ (.gtmp rfl hg154) rfl (by have q := hg154; simp only [Bool.cond_true_left, Bool.cond_false_right, Bool.not_eq_true', Bool.or_eq_false_iff, Bool.not_eq_false', Bool.and_eq_true, Bool.not_not, decide_eq_true_eq, decide_eq_false_iff_not, inB] at q; omega)) rfl rfl rfl (nB rfl) ?_
      refine AD.gpure (want := true) (.tt rfl) (fun hg155 => PureOp.intOp rfl (.gtmp rfl hg155) .int rfl) rfl rfl rfl (nB rfl) ?_
      refine AD.gpure (want := true) (.tt rfl) (fun hg156 => PureOp.move rfl (.gtmp rfl hg156)) rfl rfl rfl (nB rfl) ?_
      refine AD.gpure (want := false) (.gf rfl) (fun hg157 => PureOp.move rfl (.tmp rfl)) rfl rfl rfl (nB rfl) ?_
      refine AD.gpure (want := false) (.gf rfl) (fun hg158 => PureOp.nilPtr rfl (.gtmp rfl hg158)) rfl rfl rfl (nB rfl) ?_
      refine AD.gpure (want := false) (.gf rfl) (fun hg159 => PureOp.fieldPtr rfl (.gtmp rfl hg159) f12_) rfl rfl rfl (nB rfl) ?_
      refine AD.gpure (want := false) (.gf rfl) (fun hg160 => PureOp.loadPtr rfl (.gtmp rfl hg160) f3_ rfl rfl (nB rfl) (nB rfl)) rfl rfl rfl (nB rfl) ?_
      refine AD.gpure (want := false) (.gf rfl) (fun hg161 => PureOp.move rfl (.tmp rfl)) rfl rfl rfl (nB rfl) ?_
      refine AD.gpure (want := false) (.gf rfl) (fun hg162 => PureOp.nilPtr rfl (.gtmp rfl hg162)) rfl rfl rfl (nB rfl) ?_
      refine AD.gpure (want := false) (.gf rfl) (fun hg163 => PureOp.fieldPtr rfl (.gtmp rfl hg163) f13_) rfl rfl rfl (nB rfl) ?_
      refine AD.gpure (want := false) (.gf rfl) (fun hg164 => PureOp.loadPtr rfl (.gtmp rfl hg164) f2_ rfl rfl (nB rfl) (nB rfl)) rfl rfl rfl (nB rfl) ?_
      refine AD.gpure (want := false) (.gf rfl) (fun hg165 => PureOp.indexStrAt (i := v.2) rfl (.gtmp rfl hg165) f4_ (.gtmp rfl hg165) rfl (by have q := hg165; simp only [Bool.cond_true_left, Bool.cond_false_right, Bool.not_eq_true', Bool.or_eq_false_iff, Bool.not_eq_false', Bool.and_eq_true, Bool.not_not, decide_eq_true_eq, decide_eq_false_iff_not, inB] at q; omega)) rfl rfl rfl (nB rfl) ?_
      refine AD.gpure (want := false) (.gf rfl) (fun hg166 => PureOp.intOp rfl (.gtmp rfl hg166) .int rfl) rfl rfl rfl (nB rfl) ?_
      refine AD.gpure (want := true) (.tt rfl) (fun hg167 => PureOp.pick rfl (.gtmp rfl hg167) (fun _ => .bool) (fun hp169 => .gtmp rfl (and_mk hg167 (not_of hp169)))) rfl rfl rfl (nB rfl) ?_
      refine AD.pure (PureOp.pick rfl (.tmp rfl) (fun hp170 => .gtmp rfl hp170) (fun _ => .bool)) rfl rfl (nB rfl) ?_
      refine AD.nil ?_
      refine AW.cond (.tmp rfl) (fun hb172 => ?_) (fun hb172 => ?_)
      ·
       have hnl : (false = false ∧ v.2 < s.size ∧ (byteAt s v.2 = 42 ∨ byteAt s v.2 = 94)) := loopB hb172
       have hlt2 := hnl.2.1
       refine AW.skip ?_
       refine AW.block ?_
       refine AW.seq ?_
       refine AW.region ?_
       refine pu (.assign rfl .int) rfl rfl rfl ?_
       refine ARun.nil ?_
       refine AW.seq ?_
       refine AW.seq ?_
       refine AW.any (by kernel_rfl) (by kernel_rfl) ?_
       refine AD.pure (PureOp.move rfl (.tmp rfl)) rfl rfl (nB rfl) ?_
       refine AD.pure (PureOp.nilPtr rfl (.tmp rfl)) rfl rfl (nB rfl) ?_
       refine AD.pure (PureOp.fieldPtr rfl (.tmp rfl) f12_) rfl rfl (nB rfl) ?_
       refine AD.pure (PureOp.loadPtr rfl (.tmp rfl) f3_ rfl rfl (nB rfl) (nB rfl)) rfl rfl (nB rfl) ?_
       refine AD.pure (PureOp.move rfl (.tmp rfl)) rfl rfl (nB rfl) ?_
       refine AD.pure (PureOp.nilPtr rfl (.tmp rfl)) rfl rfl (nB rfl) ?_
       refine AD.pure (PureOp.fieldPtr rfl (.tmp rfl) f13_) rfl rfl (nB rfl) ?_
       refine AD.pure (PureOp.loadPtr rfl (.tmp rfl) f2_ rfl rfl (nB rfl) (nB rfl)) rfl rfl (nB rfl) ?_
       refine AD.pure (PureOp.indexStrAt (i := v.2) rfl (.tmp rfl) f4_ (.tmp rfl) rfl (by omega)) rfl rfl (nB rfl) ?_
       refine AD.pure (PureOp.intOp rfl (.tmp rfl) .int rfl) rfl rfl (nB rfl) ?_
       refine AD.nil ?_
       refine AW.cond (.tmp rfl) (fun hb173 => ?_) (fun hb173 => ?_)
       ·
        replace hb173 := of_decide_eq_true hb173
        have h94 := hb173
        refine AW.region ?_
        refine pu (.assign rfl .int) rfl rfl rfl ?_
        refine ARun.nil ?_
        refine AW.seq ?_
        refine AW.region ?_
        refine pu (.move rfl (.tmp rfl)) rfl rfl rfl ?_
        refine pu (.move rfl (.tmp rfl)) rfl rfl rfl ?_
        refine pu (.build (ys := [.int .i64 8, Fo.fv v.1]) (l := [.int .i64 0, .str ByteArray.empty, Fo.fv Fo.nil, Fo.fv Fo.nil]) (pl := [(0, 1), (1, 1), (2, 1), (3, 1)]) (z := (.agg #[.int .i64 0, .string ByteArray.empty, .pointer none, .pointer none])) rfl (by kernel_rfl) (by kernel_rfl) (fun _ _ _ => ⟨_, _, rfl, rfl, ⟨_, _, rfl, ⟨rfl, by decide⟩, ⟨_, _, rfl, rfl, ⟨_, _, rfl, rfl, rfl⟩⟩⟩⟩) ⟨(.tmp rfl), trivial, rfl, ⟨(.tmp rfl), (Fo.cell _), rfl, trivial⟩⟩ rfl) rfl rfl rfl ?_
        refine ARun.fresh (FreshOp.boxD (m := [.int .i64 8, .str ByteArray.empty, Fo.av v.1, Fo.av Fo.nil]) rfl (.tmp rfl) (SV.cells_of (by exact ⟨trivial, trivial, Fo.cell _, ⟨rfl, (fun _ e => by cases e), (fun _ e => by cases e)⟩, trivial⟩)) ⟨.int, .str, (Fo.fd _), .con, trivial⟩ (nB rfl)) rfl rfl (nB rfl) ?_
        refine pu (.assign rfl (.tmp rfl)) rfl rfl rfl ?_
        refine ARun.nil ?_
        refine AW.region ?_
        refine pu (.move rfl (.tmp rfl)) rfl rfl rfl ?_
        refine pu (.nilPtr rfl (.tmp rfl)) rfl rfl rfl ?_
        refine pu (.fieldPtr rfl (.tmp rfl) f13_) rfl rfl rfl ?_
        refine pu (.loadPtr rfl (.tmp rfl) f2_ rfl rfl (nB rfl) (nB rfl)) rfl rfl rfl ?_
        refine pu (.add (c := ((v.2 + 1 : Nat) : Int)) rfl (.tmp rfl) .int (by rw [wrap_id (by omega) (by omega)]; omega)) rfl rfl rfl ?_
        refine pu (.nilPtr rfl (.tmp rfl)) rfl rfl rfl ?_
        refine pu (.fieldPtr rfl (.tmp rfl) f13_) rfl rfl rfl ?_
        refine ARun.store rfl (.tmp rfl) (.tmp rfl) trivial rfl (nB rfl) f5_ rfl rfl ?_
        refine ARun.nil ?_
        exact ⟨((Fo.mk 8 ByteArray.empty v.1 Fo.nil), v.2 + 1), hv.s8 hnl.1 hnl.2.1 h94, by dsimp only; omega, ⟨⟨⟨_, rfl, rfl⟩, ⟨_, rfl, rfl⟩, trivial⟩, HeapLe.one rfl (HeapLe.one rfl trivial)⟩⟩
       ·
        replace hb173 := of_decide_eq_false hb173
        have h94 := hb173
        refine AW.skip ?_
        refine AW.seq ?_
        refine AW.region ?_
        refine pu (.move rfl (.tmp rfl)) rfl rfl rfl ?_
        refine pu (.move rfl (.tmp rfl)) rfl rfl rfl ?_
        refine pu (.build (ys := [.int .i64 7, Fo.fv v.1]) (l := [.int .i64 0, .str ByteArray.empty, Fo.fv Fo.nil, Fo.fv Fo.nil]) (pl := [(0, 1), (1, 1), (2, 1), (3, 1)]) (z := (.agg #[.int .i64 0, .string ByteArray.empty, .pointer none, .pointer none])) rfl (by kernel_rfl) (by kernel_rfl) (fun _ _ _ => ⟨_, _, rfl, rfl, ⟨_, _, rfl, ⟨rfl, by decide⟩, ⟨_, _, rfl, rfl, ⟨_, _, rfl, rfl, rfl⟩⟩⟩⟩) ⟨(.tmp rfl), trivial, rfl, ⟨(.tmp rfl), (Fo.cell _), rfl, trivial⟩⟩ rfl) rfl rfl rfl ?_
        refine ARun.fresh (FreshOp.boxD (m := [.int .i64 7, .str ByteArray.empty, Fo.av v.1, Fo.av Fo.nil]) rfl (.tmp rfl) (SV.cells_of (by exact ⟨trivial, trivial, Fo.cell _, ⟨rfl, (fun _ e => by cases e), (fun _ e => by cases e)⟩, trivial⟩)) ⟨.int, .str, (Fo.fd _), .con, trivial⟩ (nB rfl)) rfl rfl (nB rfl) ?_
        refine pu (.assign rfl (.tmp rfl)) rfl rfl rfl ?_
        refine ARun.nil ?_
        refine AW.region ?_
        refine pu (.move rfl (.tmp rfl)) rfl rfl rfl ?_
        refine pu (.nilPtr rfl (.tmp rfl)) rfl rfl rfl ?_
        refine pu (.fieldPtr rfl (.tmp rfl) f13_) rfl rfl rfl ?_
        refine pu (.loadPtr rfl (.tmp rfl) f2_ rfl rfl (nB rfl) (nB rfl)) rfl rfl rfl ?_
        refine pu (.add (c := ((v.2 + 1 : Nat) : Int)) rfl (.tmp rfl) .int (by rw [wrap_id (by omega) (by omega)]; omega)) rfl rfl rfl ?_
        refine pu (.nilPtr rfl (.tmp rfl)) rfl rfl rfl ?_
        refine pu (.fieldPtr rfl (.tmp rfl) f13_) rfl rfl rfl ?_
        refine ARun.store rfl (.tmp rfl) (.tmp rfl) trivial rfl (nB rfl) f5_ rfl rfl ?_
        refine ARun.nil ?_
        exact ⟨((Fo.mk 7 ByteArray.empty v.1 Fo.nil), v.2 + 1), hv.s7 hnl.1 hnl.2.1 (hnl.2.2.resolve_right h94), by dsimp only; omega, ⟨⟨⟨_, rfl, rfl⟩, ⟨_, rfl, rfl⟩, trivial⟩, HeapLe.one rfl (HeapLe.one rfl trivial)⟩⟩
      ·
       have hnl : ¬ (false = false ∧ v.2 < s.size ∧ (byteAt s v.2 = 42 ∨ byteAt s v.2 = 94)) := loopB hb172
       refine AW.exit ?_
       refine AW.seq ?_
       refine AW.region ?_
       refine pu (.move rfl (.tmp rfl)) rfl rfl rfl ?_
       refine pu (.assign rfl (.tmp rfl)) rfl rfl rfl ?_
       refine ARun.nil ?_
       exact AW.ret (show ∃ x t, _ ∧ ResN _ _ [.tmp 4] t ∧ _ ∧ _ ∧ _ from ⟨(v.1, v.2, false), _, (gForm_step h0 hy (hv.ret hnl)), (.inl (.inl ⟨_, rfl, .tmp rfl⟩)), (Fo.fp _ _), rfl, rfl⟩)
     ·
      have hl := letB hb133
      simp only [if_true, if_false, Bool.false_eq_true] at hl
      refine AW.seq ?_
      refine AW.region ?_
      refine pu (.move rfl (.tmp rfl)) rfl rfl rfl ?_
      refine pu (.intOp rfl (.tmp rfl) .int rfl) rfl rfl rfl ?_
      refine pu (.move rfl (.tmp rfl)) rfl rfl rfl ?_
      refine ARun.gpure (want := false) (.tf rfl) (fun hg174 => PureOp.move rfl (.tmp rfl)) rfl rfl (nB rfl) rfl (nB rfl) ?_
      refine ARun.gpure (want := false) (.tf rfl) (fun hg175 => PureOp.intOp rfl (.gtmp rfl hg175) .int rfl) rfl rfl (nB rfl) rfl (nB rfl) ?_
      refine pu (.pick rfl (.tmp rfl) (fun _ => .bool) (fun hp177 => .gtmp rfl (not_of hp177))) rfl rfl rfl ?_
      refine pu (.assign rfl (.tmp rfl)) rfl rfl rfl ?_
      refine ARun.nil ?_
      refine AW.cond (.tmp rfl) (fun hb178 => ?_) (fun hb178 => ?_)
      ·
       have hbr := bracB hb178
       simp only [if_true, if_false, Bool.false_eq_true] at hbr
       refine AW.seq ?_
       refine AW.region ?_
       refine pu (.move rfl (.tmp rfl)) rfl rfl rfl ?_
       refine pu (.nilPtr rfl (.tmp rfl)) rfl rfl rfl ?_
       refine pu (.fieldPtr rfl (.tmp rfl) f13_) rfl rfl rfl ?_
       refine pu (.loadPtr rfl (.tmp rfl) f2_ rfl rfl (nB rfl) (nB rfl)) rfl rfl rfl ?_
       refine pu (.add (c := ((p + 1 : Nat) : Int)) rfl (.tmp rfl) .int (by rw [wrap_id (by omega) (by omega)]; omega)) rfl rfl rfl ?_
       refine pu (.nilPtr rfl (.tmp rfl)) rfl rfl rfl ?_
       refine pu (.fieldPtr rfl (.tmp rfl) f13_) rfl rfl rfl ?_
       refine ARun.store rfl (.tmp rfl) (.tmp rfl) trivial rfl (nB rfl) f5_ rfl rfl ?_
       refine ARun.nil ?_
       refine AW.seq ?_
       refine AW.region ?_
       refine pu (.move rfl (.tmp rfl)) rfl rfl rfl ?_
       refine pu (.move rfl (.tmp rfl)) rfl rfl rfl ?_
       refine pu (.add (c := ((d + 1 : Nat) : Int)) rfl (.tmp rfl) .int (by rw [wrap_id (by omega) (by omega)]; omega)) rfl rfl rfl ?_
       refine ARun.nn 1000000 rfl (ih (p + 1) (d + 1) (by omega) (by omega) (by omega)) f58_ ⟨.inr (.tmp rfl), .inl ⟨_, (.tmp rfl), .int⟩, trivial⟩ rfl rfl rfl (fun _ _ => rfl) (by repeat first | exact trivial | refine ⟨.inr rfl, ?_⟩ | refine ⟨.inl rfl, ?_⟩) rfl rfl (nB rfl) (r' := fun x => .one x.1.fv) (fun _ => congrArg SV.one (Fo.fr _)) (fun x179 hc180 => ?_)
       obtain ⟨hc180a, hc180b⟩ := gForm_bd s n (p + 1) (d + 1) (by omega)
       rw [← hc180] at hc180a hc180b
       refine pu (.build (ys := [.int .i64 5, Fo.fv x179.1]) (l := [.int .i64 0, .str ByteArray.empty, Fo.fv Fo.nil, Fo.fv Fo.nil]) (pl := [(0, 1), (1, 1), (2, 1), (3, 1)]) (z := (.agg #[.int .i64 0, .string ByteArray.empty, .pointer none, .pointer none])) rfl (by kernel_rfl) (by kernel_rfl) (fun _ _ _ => ⟨_, _, rfl, rfl, ⟨_, _, rfl, ⟨rfl, by decide⟩, ⟨_, _, rfl, rfl, ⟨_, _, rfl, rfl, rfl⟩⟩⟩⟩) ⟨.int, trivial, rfl, ⟨(.tmp rfl), (Fo.cell _), rfl, trivial⟩⟩ rfl) rfl rfl rfl ?_
       refine ARun.box (id := 0) rfl (.tmp rfl) (SV.cells_of (by exact ⟨trivial, trivial, Fo.cell _, ⟨rfl, (fun _ e => by cases e), (fun _ e => by cases e)⟩, trivial⟩)) ⟨(by refine fr_env rfl ?_; (repeat refine env_cons (by first | with_reducible exact Fo.noS _ _ | with_reducible exact Fo.noS' _ _ | exact rfl | exact Fo.noS _ _ | exact Fo.noS' _ _ | exact agg_no (by repeat' first | with_reducible exact Fo.no _ _ | with_reducible exact Fo.no' _ _ | exact rfl | exact Fo.no _ _ | exact Fo.no' _ _ | refine no_cons ?_ ?_)) ?_); exact rfl), (by repeat first | exact trivial | refine ⟨by decide, by first | rfl | exact trivial | (intro i j; first | rfl | exact getD_no rfl | (dsimp only; split <;> first | rfl | exact getD_no rfl) | exact scl_no (by apply_assumption) _), ?_⟩)⟩ (by repeat' first | exact rfl | exact Fo.no _ _ | exact Fo.no' _ _ | refine no_cons ?_ ?_) rfl rfl (nB rfl) ?_
       refine pu (.assign rfl (.tmp rfl)) rfl rfl rfl ?_
       refine ARun.nil ?_
       refine AW.seq ?_
       refine AW.seq ?_
       refine AW.region ?_
       refine pu (.move rfl (.tmp rfl)) rfl rfl rfl ?_
       refine pu (.intOp rfl (.tmp rfl) .int rfl) rfl rfl rfl ?_
       refine ARun.nil ?_
       refine AW.cond (.tmp rfl) (fun hb181 => ?_) (fun hb181 => ?_)
       ·
        replace hb181 := of_decide_eq_true hb181
        refine AW.seq ?_
        refine AW.region ?_
        refine pu (.move rfl (.tmp rfl)) rfl rfl rfl ?_
        refine pu (.nilPtr rfl (.tmp rfl)) rfl rfl rfl ?_
        refine pu (.fieldPtr rfl (.tmp rfl) f22_) rfl rfl rfl ?_
        refine ARun.store rfl (.tmp rfl) .int trivial rfl (nB rfl) f5_ rfl rfl ?_
        refine ARun.nil ?_
        refine AW.seq ?_
        refine AW.region ?_
        refine pu (.move rfl (.tmp rfl)) rfl rfl rfl ?_
        refine pu (.nilPtr rfl (.tmp rfl)) rfl rfl rfl ?_
        refine pu (.fieldPtr rfl (.tmp rfl) f14_) rfl rfl rfl ?_
        refine pu (.loadPtr rfl (.tmp rfl) f62_ rfl rfl (nB rfl) (nB rfl)) rfl rfl rfl ?_
        refine pu (.not rfl (.tmp rfl)) rfl rfl rfl ?_
        refine ARun.nil ?_
        refine AW.cond (.tmp rfl) (fun hb182 => ?_) (fun hb182 => ?_)
        ·
         replace hb182 := of_not hb182
         refine AW.region ?_
         refine pu (.move rfl (.tmp rfl)) rfl rfl rfl ?_
         refine ARun.nn 1000000 rfl (FnN.flag hb182 (v_GTake s hs x179.2.1 false (by omega) 124)) f59_ ⟨.inr (.tmp rfl), .inl ⟨_, .int, .int⟩, trivial⟩ rfl rfl rfl (fun _ _ => rfl) (by repeat first | exact trivial | refine ⟨.inr rfl, ?_⟩ | refine ⟨.inl rfl, ?_⟩) rfl rfl (nB rfl) (fun _ => rfl) (fun x183 hc184 => ?_)
         have hc184b := gTake_bd (s := s) (p := x179.2.1) (fl := false) (c := 124) (by omega)
         rw [← hc184] at hc184b
         obtain ⟨hc184c, hc184e⟩ := hc184b
         refine ARun.nil ?_
         refine AW.seq ?_
         refine AW.region ?_
         refine pu (.move rfl (.tmp rfl)) rfl rfl rfl ?_
         refine pu (.move rfl (.tmp rfl)) rfl rfl rfl ?_
         refine pu (.nilPtr rfl (.tmp rfl)) rfl rfl rfl ?_
         refine pu (.fieldPtr rfl (.tmp rfl) f25_) rfl rfl rfl ?_
         refine ARun.store rfl (.tmp rfl) (.tmp rfl) trivial rfl (nB rfl) f57_ rfl rfl ?_
         refine ARun.nil ?_
         refine AW.seq ?_
         refine AW.seq ?_
         refine AW.region ?_
         refine pu (.move rfl (.tmp rfl)) rfl rfl rfl ?_
         refine pu (.nilPtr rfl (.tmp rfl)) rfl rfl rfl ?_
         refine pu (.fieldPtr rfl (.tmp rfl) f14_) rfl rfl rfl ?_
         refine pu (.loadPtr rfl (.tmp rfl) f62_ rfl rfl (nB rfl) (nB rfl)) rfl rfl rfl ?_
         refine pu (.not rfl (.tmp rfl)) rfl rfl rfl ?_
         refine ARun.nil ?_
         refine AW.cond (.tmp rfl) (fun hb185 => ?_) (fun hb185 => ?_)
         ·
          replace hb185 := of_not hb185
          refine AW.region ?_
          refine pu (.move rfl (.tmp rfl)) rfl rfl rfl ?_
          refine pu (.move rfl (.tmp rfl)) rfl rfl rfl ?_
          refine pu (.move rfl (.tmp rfl)) rfl rfl rfl ?_
          refine pu (.add (c := ((d + 1 : Nat) : Int)) rfl (.tmp rfl) .int (by rw [wrap_id (by omega) (by omega)]; omega)) rfl rfl rfl ?_
          refine ARun.nn 1000000 rfl (FnN.flag hb185 (ih x183.1 (d + 1) (by omega) (by omega) (by omega))) f58_ ⟨.inr (.tmp rfl), .inl ⟨_, (.tmp rfl), .int⟩, trivial⟩ rfl rfl rfl (fun _ _ => rfl) (by repeat first | exact trivial | refine ⟨.inr rfl, ?_⟩ | refine ⟨.inl rfl, ?_⟩) rfl rfl (nB rfl) (r' := fun x => .one x.1.fv) (fun _ => congrArg SV.one (Fo.fr _)) (fun x186 hc187 => ?_)
          obtain ⟨hc187a, hc187b⟩ := gForm_bd s n x183.1 (d + 1) (by omega)
          rw [← hc187] at hc187a hc187b
          refine pu (.nilPtr rfl (.tmp rfl)) rfl rfl rfl ?_
          refine pu (.fieldPtr rfl (.tmp rfl) f25_) rfl rfl rfl ?_
          refine ARun.store rfl (.tmp rfl) (.tmp rfl) (Fo.cell _) rfl (nB rfl) f57_ rfl rfl ?_
          refine ARun.nil ?_
          refine AW.seq ?_
          refine AW.region ?_
          refine pu (.move rfl (.tmp rfl)) rfl rfl rfl ?_
          refine pu (.nilPtr rfl (.tmp rfl)) rfl rfl rfl ?_
          refine pu (.fieldPtr rfl (.tmp rfl) f14_) rfl rfl rfl ?_
          refine pu (.loadPtr rfl (.tmp rfl) f62_ rfl rfl (nB rfl) (nB rfl)) rfl rfl rfl ?_
          refine pu (.not rfl (.tmp rfl)) rfl rfl rfl ?_
          refine ARun.nil ?_
          refine AW.cond (.tmp rfl) (fun hb188 => ?_) (fun hb188 => ?_)
          ·
           replace hb188 := of_not hb188
           refine AW.region ?_
           refine pu (.move rfl (.tmp rfl)) rfl rfl rfl ?_
           refine ARun.bytes2 (a1 := 41) (a2 := 93) rfl .int .int Try.underlying35 Try.underlying5 (by kernel_rfl) rfl rfl rfl (nB rfl) rfl rfl (nB rfl) ?_
           refine pu (.move rfl (.tmp rfl)) rfl rfl rfl ?_
           refine pu (.intOp rfl (.tmp rfl) .int rfl) rfl rfl rfl ?_
           refine pu (.call rfl (v_l5Bit (decide (byteAt s p = 91))) ⟨⟨_, (.tmp rfl), .bool⟩, trivial⟩ f60_ trivial) rfl rfl rfl ?_
           refine pu (.indexLst (i := (if decide (byteAt s p = 91) then (1 : Int) else 0).toNat) rfl (.frs (.tmp rfl)) f61_ (.tmp rfl) (by omega) (by omega)) rfl rfl rfl ?_
           refine pu (.loadRef rfl (.tmp rfl) f63_ (nB rfl)) rfl rfl rfl ?_
           refine ARun.nn 1000000 rfl (FnN.flag hb188 (v_GTake s hs x186.2.1 false (by omega) (([41, 93] : List Int).getD ((if decide (byteAt s p = 91) then (1 : Int) else 0).toNat) 0))) f59_ ⟨.inr (.tmp rfl), .inl ⟨_, (.tmp rfl), .int⟩, trivial⟩ rfl rfl rfl (fun _ _ => rfl) (by repeat first | exact trivial | refine ⟨.inr rfl, ?_⟩ | refine ⟨.inl rfl, ?_⟩) rfl rfl (nB rfl) (fun _ => rfl) (fun x189 hc190 => ?_)
           have hc190b := gTake_bd (s := s) (p := x186.2.1) (fl := false) (c := (([41, 93] : List Int).getD ((if decide (byteAt s p = 91) then (1 : Int) else 0).toNat) 0)) (by omega)
           rw [← hc190] at hc190b
           obtain ⟨hc190c, hc190e⟩ := hc190b
           refine ARun.nil ?_
           refine AW.seq ?_
           refine AW.block ?_
           have hy : ((Fo.mk 6 ByteArray.empty x179.1 x186.1), x189.1, x189.2) = gAtom (gForm s n) s p d := by unfold gAtom; rw [if_neg hb6, if_neg hb47, if_neg hb88, if_neg hl, if_pos hbr]; exact (gP3_t (by rw [if_pos hb181])  hb188 (hc190.trans (by rw [if_pos hb181, decide_eq_true hb181]; rfl))).trans ((gP2_b hb185 hc187).trans (gPair_t hc180 hb181 hb182 hc184))
           refine AW.freeze 7 0 4 _ [.int .i64 6, .str ByteArray.empty, Fo.av x179.1, Fo.av x186.1] rfl rfl ⟨.int, .str, (Fo.fd _), (Fo.fd _), trivial⟩ rfl (nB rfl) ?_
           refine AW.loop (ι := Fo × Nat) (fun v => ⟨[(0, .one (.ptr 1000000 3 0 0)), (7, .one (Fo.fv v.1))], [(1000000, .cells [.str s, .int .i64 (v.2 : Int), .bool x189.2]), (1000001, .trees kk YY)]⟩) (fun v => GI s x189.2 (gStars s ((Fo.mk 6 ByteArray.empty x179.1 x186.1), x189.1, x189.2)) v) (fun v => s.size - v.2) ((Fo.mk 6 ByteArray.empty x179.1 x186.1), x189.1) (GI.start (by omega)) ⟨⟨⟨_, rfl, rfl⟩, ⟨_, rfl, rfl⟩, trivial⟩, HeapLe.one rfl (HeapLe.one rfl trivial)⟩ ?_
           intro v hv
           have hvle := hv.le
           refine AW.seq ?_
           refine AW.seq ?_
           refine AW.any (by kernel_rfl) (by kernel_rfl) ?_
           refine AD.pure (PureOp.move rfl (.tmp rfl)) rfl rfl (nB rfl) ?_
           refine AD.pure (PureOp.nilPtr rfl (.tmp rfl)) rfl rfl (nB rfl) ?_
           refine AD.pure (PureOp.fieldPtr rfl (.tmp rfl) f14_) rfl rfl (nB rfl) ?_
           refine AD.pure (PureOp.loadPtr rfl (.tmp rfl) f62_ rfl rfl (nB rfl) (nB rfl)) rfl rfl (nB rfl) ?_
           refine AD.pure (PureOp.not rfl (.tmp rfl)) rfl rfl (nB rfl) ?_
           refine AD.pure (PureOp.move rfl (.tmp rfl)) rfl rfl (nB rfl) ?_
           refine AD.gpure (want := true) (.tt rfl) (fun hg191 => PureOp.move rfl (.tmp rfl)) rfl rfl rfl (nB rfl) ?_
           refine AD.gpure (want := true) (.tt rfl) (fun hg192 => PureOp.nilPtr rfl (.gtmp rfl hg192)) rfl rfl rfl (nB rfl) ?_
           refine AD.gpure (want := true) (.tt rfl) (fun hg193 => PureOp.fieldPtr rfl (.gtmp rfl hg193) f13_) rfl rfl rfl (nB rfl) ?_
           refine AD.gpure (want := true) (.tt rfl) (fun hg194 => PureOp.loadPtr rfl (.gtmp rfl hg194) f2_ rfl rfl (nB rfl) (nB rfl)) rfl rfl rfl (nB rfl) ?_
           refine AD.gpure (want := true) (.tt rfl) (fun hg195 => PureOp.move rfl (.tmp rfl)) rfl rfl rfl (nB rfl) ?_
           refine AD.gpure (want := true) (.tt rfl) (fun hg196 => PureOp.nilPtr rfl (.gtmp rfl hg196)) rfl rfl rfl (nB rfl) ?_
           refine AD.gpure (want := true) (.tt rfl) (fun hg197 => PureOp.fieldPtr rfl (.gtmp rfl hg197) f12_) rfl rfl rfl (nB rfl) ?_
           refine AD.gpure (want := true) (.tt rfl) (fun hg198 => PureOp.loadPtr rfl (.gtmp rfl hg198) f3_ rfl rfl (nB rfl) (nB rfl)) rfl rfl rfl (nB rfl) ?_
           refine AD.gpure (want := true) (.tt rfl) (fun hg199 => PureOp.lenStr rfl (.gtmp rfl hg199) f4_) rfl rfl rfl (nB rfl) ?_
           refine AD.gpure (want := true) (.tt rfl) (fun hg200 => PureOp.intOp rfl (.gtmp rfl hg200) (.gtmp rfl hg200) rfl) rfl rfl rfl (nB rfl) ?_
           refine AD.pure (PureOp.pick rfl (.tmp rfl) (fun hp201 => .gtmp rfl hp201) (fun _ => .bool)) rfl rfl (nB rfl) ?_
           refine AD.pure (PureOp.move rfl (.tmp rfl)) rfl rfl (nB rfl) ?_
           refine AD.gpure (want := true) (.tt rfl) (fun hg203 => PureOp.move rfl (.tmp rfl)) rfl rfl rfl (nB rfl) ?_
           refine AD.gpure (want := true) (.tt rfl) (fun hg204 => PureOp.nilPtr rfl (.gtmp rfl hg204)) rfl rfl rfl (nB rfl) ?_
           refine AD.gpure (want := true) (.tt rfl) (fun hg205 => PureOp.fieldPtr rfl (.gtmp rfl hg205) f12_) rfl rfl rfl (nB rfl) ?_
           refine AD.gpure (want := true) (.tt rfl) (fun hg206 => PureOp.loadPtr rfl (.gtmp rfl hg206) f3_ rfl rfl (nB rfl) (nB rfl)) rfl rfl rfl (nB rfl) ?_
           refine AD.gpure (want := true) (.tt rfl) (fun hg207 => PureOp.move rfl (.tmp rfl)) rfl rfl rfl (nB rfl) ?_
           refine AD.gpure (want := true) (.tt rfl) (fun hg208 => PureOp.nilPtr rfl (.gtmp rfl hg208)) rfl rfl rfl (nB rfl) ?_
           refine AD.gpure (want := true) (.tt rfl) (fun hg209 => PureOp.fieldPtr rfl (.gtmp rfl hg209) f13_) rfl rfl rfl (nB rfl) ?_
           refine AD.gpure (want := true) (.tt rfl) (fun hg210 => PureOp.loadPtr rfl (.gtmp rfl hg210) f2_ rfl rfl (nB rfl) (nB rfl)) rfl rfl rfl (nB rfl) ?_
           refine AD.gpure (want := true) (.tt rfl) (fun hg211 => PureOp.indexStrAt (i := v.2) rfl (.gtmp rfl hg211) f4_ (.gtmp rfl hg211) rfl (by have q := hg211; simp only [Bool.cond_true_left, Bool.cond_false_right, Bool.not_eq_true', Bool.or_eq_false_iff, Bool.not_eq_false', Bool.and_eq_true, Bool.not_not, decide_eq_true_eq, decide_eq_false_iff_not, inB] at q; omega)) rfl rfl rfl (nB rfl) ?_
           refine AD.gpure (want := true) (.tt rfl) (fun hg212 => PureOp.intOp rfl (.gtmp rfl hg212) .int rfl) rfl rfl rfl (nB rfl) ?_
           refine AD.gpure (want := true) (.tt rfl) (fun hg213 => PureOp.move rfl (.gtmp rfl hg213)) rfl rfl rfl (nB rfl) ?_
           refine AD.gpure (want := false) (.gf rfl) (fun hg214 => PureOp.move rfl (.tmp rfl)) rfl rfl rfl (nB rfl) ?_
           refine AD.gpure (want := false) (.gf rfl) (fun hg215 => PureOp.nilPtr rfl (.gtmp rfl hg215)) rfl rfl rfl (nB rfl) ?_
           refine AD.gpure (want := false) (.gf rfl) (fun hg216 => PureOp.fieldPtr rfl (.gtmp rfl hg216) f12_) rfl rfl rfl (nB rfl) ?_
           refine AD.gpure (want := false) (.gf rfl) (fun hg217 => PureOp.loadPtr rfl (.gtmp rfl hg217) f3_ rfl rfl (nB rfl) (nB rfl)) rfl rfl rfl (nB rfl) ?_
           refine AD.gpure (want := false) (.gf rfl) (fun hg218 => PureOp.move rfl (.tmp rfl)) rfl rfl rfl (nB rfl) ?_
           refine AD.gpure (want := false) (.gf rfl) (fun hg219 => PureOp.nilPtr rfl (.gtmp rfl hg219)) rfl rfl rfl (nB rfl) ?_
           refine AD.gpure (want := false) (.gf rfl) (fun hg220 => PureOp.fieldPtr rfl (.gtmp rfl hg220) f13_) rfl rfl rfl (nB rfl) ?_
           refine AD.gpure (want := false) (.gf rfl) (fun hg221 => PureOp.loadPtr rfl (.gtmp rfl hg221) f2_ rfl rfl (nB rfl) (nB rfl)) rfl rfl rfl (nB rfl) ?_
           refine AD.gpure (want := false) (.gf rfl) (fun hg222 => PureOp.indexStrAt (i := v.2) rfl (.gtmp rfl hg222) f4_ (.gtmp rfl hg222) rfl (by have q := hg222; simp only [Bool.cond_true_left, Bool.cond_false_right, Bool.not_eq_true', Bool.or_eq_false_iff, Bool.not_eq_false', Bool.and_eq_true, Bool.not_not, decide_eq_true_eq, decide_eq_false_iff_not, inB] at q; omega)) rfl rfl rfl (nB rfl) ?_
           refine AD.gpure (want := false) (.gf rfl) (fun hg223 => PureOp.intOp rfl (.gtmp rfl hg223) .int rfl) rfl rfl rfl (nB rfl) ?_
           refine AD.gpure (want := true) (.tt rfl) (fun hg224 => PureOp.pick rfl (.gtmp rfl hg224) (fun _ => .bool) (fun hp226 => .gtmp rfl (and_mk hg224 (not_of hp226)))) rfl rfl rfl (nB rfl) ?_
           refine AD.pure (PureOp.pick rfl (.tmp rfl) (fun hp227 => .gtmp rfl hp227) (fun _ => .bool)) rfl rfl (nB rfl) ?_
           refine AD.nil ?_
           refine AW.cond (.tmp rfl) (fun hb229 => ?_) (fun hb229 => ?_)
           ·
            have hnl : (x189.2 = false ∧ v.2 < s.size ∧ (byteAt s v.2 = 42 ∨ byteAt s v.2 = 94)) := loopB hb229
            have hlt2 := hnl.2.1
            refine AW.skip ?_
            refine AW.block ?_
            refine AW.seq ?_
            refine AW.region ?_
            refine pu (.assign rfl .int) rfl rfl rfl ?_
            refine ARun.nil ?_
            refine AW.seq ?_
            refine AW.seq ?_
            refine AW.any (by kernel_rfl) (by kernel_rfl) ?_
            refine AD.pure (PureOp.move rfl (.tmp rfl)) rfl rfl (nB rfl) ?_
            refine AD.pure (PureOp.nilPtr rfl (.tmp rfl)) rfl rfl (nB rfl) ?_
            refine AD.pure (PureOp.fieldPtr rfl (.tmp rfl) f12_) rfl rfl (nB rfl) ?_
            refine AD.pure (PureOp.loadPtr rfl (.tmp rfl) f3_ rfl rfl (nB rfl) (nB rfl)) rfl rfl (nB rfl) ?_
            refine AD.pure (PureOp.move rfl (.tmp rfl)) rfl rfl (nB rfl) ?_
            refine AD.pure (PureOp.nilPtr rfl (.tmp rfl)) rfl rfl (nB rfl) ?_
            refine AD.pure (PureOp.fieldPtr rfl (.tmp rfl) f13_) rfl rfl (nB rfl) ?_
            refine AD.pure (PureOp.loadPtr rfl (.tmp rfl) f2_ rfl rfl (nB rfl) (nB rfl)) rfl rfl (nB rfl) ?_
            refine AD.pure (PureOp.indexStrAt (i := v.2) rfl (.tmp rfl) f4_ (.tmp rfl) rfl (by omega)) rfl rfl (nB rfl) ?_
            refine AD.pure (PureOp.intOp rfl (.tmp rfl) .int rfl) rfl rfl (nB rfl) ?_
            refine AD.nil ?_
            refine AW.cond (.tmp rfl) (fun hb230 => ?_) (fun hb230 => ?_)
            ·
             replace hb230 := of_decide_eq_true hb230
             have h94 := hb230
             refine AW.region ?_
             refine pu (.assign rfl .int) rfl rfl rfl ?_
             refine ARun.nil ?_
             refine AW.seq ?_
             refine AW.region ?_
             refine pu (.move rfl (.tmp rfl)) rfl rfl rfl ?_
             refine pu (.move rfl (.tmp rfl)) rfl rfl rfl ?_
             refine pu (.build (ys := [.int .i64 8, Fo.fv v.1]) (l := [.int .i64 0, .str ByteArray.empty, Fo.fv Fo.nil, Fo.fv Fo.nil]) (pl := [(0, 1), (1, 1), (2, 1), (3, 1)]) (z := (.agg #[.int .i64 0, .string ByteArray.empty, .pointer none, .pointer none])) rfl (by kernel_rfl) (by kernel_rfl) (fun _ _ _ => ⟨_, _, rfl, rfl, ⟨_, _, rfl, ⟨rfl, by decide⟩, ⟨_, _, rfl, rfl, ⟨_, _, rfl, rfl, rfl⟩⟩⟩⟩) ⟨(.tmp rfl), trivial, rfl, ⟨(.tmp rfl), (Fo.cell _), rfl, trivial⟩⟩ rfl) rfl rfl rfl ?_
             refine ARun.fresh (FreshOp.boxD (m := [.int .i64 8, .str ByteArray.empty, Fo.av v.1, Fo.av Fo.nil]) rfl (.tmp rfl) (SV.cells_of (by exact ⟨trivial, trivial, Fo.cell _, ⟨rfl, (fun _ e => by cases e), (fun _ e => by cases e)⟩, trivial⟩)) ⟨.int, .str, (Fo.fd _), .con, trivial⟩ (nB rfl)) rfl rfl (nB rfl) ?_
             refine pu (.assign rfl (.tmp rfl)) rfl rfl rfl ?_
             refine ARun.nil ?_
             refine AW.region ?_
             refine pu (.move rfl (.tmp rfl)) rfl rfl rfl ?_
             refine pu (.nilPtr rfl (.tmp rfl)) rfl rfl rfl ?_
             refine pu (.fieldPtr rfl (.tmp rfl) f13_) rfl rfl rfl ?_
             refine pu (.loadPtr rfl (.tmp rfl) f2_ rfl rfl (nB rfl) (nB rfl)) rfl rfl rfl ?_
             refine pu (.add (c := ((v.2 + 1 : Nat) : Int)) rfl (.tmp rfl) .int (by rw [wrap_id (by omega) (by omega)]; omega)) rfl rfl rfl ?_
             refine pu (.nilPtr rfl (.tmp rfl)) rfl rfl rfl ?_
             refine pu (.fieldPtr rfl (.tmp rfl) f13_) rfl rfl rfl ?_
             refine ARun.store rfl (.tmp rfl) (.tmp rfl) trivial rfl (nB rfl) f5_ rfl rfl ?_
             refine ARun.nil ?_
             exact ⟨((Fo.mk 8 ByteArray.empty v.1 Fo.nil), v.2 + 1), hv.s8 hnl.1 hnl.2.1 h94, by dsimp only; omega, ⟨⟨⟨_, rfl, rfl⟩, ⟨_, rfl, rfl⟩, trivial⟩, HeapLe.one rfl (HeapLe.one rfl trivial)⟩⟩
            ·
             replace hb230 := of_decide_eq_false hb230
             have h94 := hb230
             refine AW.skip ?_
             refine AW.seq ?_
             refine AW.region ?_
             refine pu (.move rfl (.tmp rfl)) rfl rfl rfl ?_
             refine pu (.move rfl (.tmp rfl)) rfl rfl rfl ?_
             refine pu (.build (ys := [.int .i64 7, Fo.fv v.1]) (l := [.int .i64 0, .str ByteArray.empty, Fo.fv Fo.nil, Fo.fv Fo.nil]) (pl := [(0, 1), (1, 1), (2, 1), (3, 1)]) (z := (.agg #[.int .i64 0, .string ByteArray.empty, .pointer none, .pointer none])) rfl (by kernel_rfl) (by kernel_rfl) (fun _ _ _ => ⟨_, _, rfl, rfl, ⟨_, _, rfl, ⟨rfl, by decide⟩, ⟨_, _, rfl, rfl, ⟨_, _, rfl, rfl, rfl⟩⟩⟩⟩) ⟨(.tmp rfl), trivial, rfl, ⟨(.tmp rfl), (Fo.cell _), rfl, trivial⟩⟩ rfl) rfl rfl rfl ?_
             refine ARun.fresh (FreshOp.boxD (m := [.int .i64 7, .str ByteArray.empty, Fo.av v.1, Fo.av Fo.nil]) rfl (.tmp rfl) (SV.cells_of (by exact ⟨trivial, trivial, Fo.cell _, ⟨rfl, (fun _ e => by cases e), (fun _ e => by cases e)⟩, trivial⟩)) ⟨.int, .str, (Fo.fd _), .con, trivial⟩ (nB rfl)) rfl rfl (nB rfl) ?_
             refine pu (.assign rfl (.tmp rfl)) rfl rfl rfl ?_
             refine ARun.nil ?_
             refine AW.region ?_
             refine pu (.move rfl (.tmp rfl)) rfl rfl rfl ?_
             refine pu (.nilPtr rfl (.tmp rfl)) rfl rfl rfl ?_
             refine pu (.fieldPtr rfl (.tmp rfl) f13_) rfl rfl rfl ?_
             refine pu (.loadPtr rfl (.tmp rfl) f2_ rfl rfl (nB rfl) (nB rfl)) rfl rfl rfl ?_
             refine pu (.add (c := ((v.2 + 1 : Nat) : Int)) rfl (.tmp rfl) .int (by rw [wrap_id (by omega) (by omega)]; omega)) rfl rfl rfl ?_
             refine pu (.nilPtr rfl (.tmp rfl)) rfl rfl rfl ?_
             refine pu (.fieldPtr rfl (.tmp rfl) f13_) rfl rfl rfl ?_
             refine ARun.store rfl (.tmp rfl) (.tmp rfl) trivial rfl (nB rfl) f5_ rfl rfl ?_
             refine ARun.nil ?_
             exact ⟨((Fo.mk 7 ByteArray.empty v.1 Fo.nil), v.2 + 1), hv.s7 hnl.1 hnl.2.1 (hnl.2.2.resolve_right h94), by dsimp only; omega, ⟨⟨⟨_, rfl, rfl⟩, ⟨_, rfl, rfl⟩, trivial⟩, HeapLe.one rfl (HeapLe.one rfl trivial)⟩⟩
           ·
            have hnl : ¬ (x189.2 = false ∧ v.2 < s.size ∧ (byteAt s v.2 = 42 ∨ byteAt s v.2 = 94)) := loopB hb229
            refine AW.exit ?_
            refine AW.seq ?_
            refine AW.region ?_
            refine pu (.move rfl (.tmp rfl)) rfl rfl rfl ?_
            refine pu (.assign rfl (.tmp rfl)) rfl rfl rfl ?_
            refine ARun.nil ?_
            exact AW.ret (show ∃ x t, _ ∧ ResN _ _ [.tmp 4] t ∧ _ ∧ _ ∧ _ from ⟨(v.1, v.2, x189.2), _, (gForm_step h0 hy (hv.ret hnl)), (.inl (.inl ⟨_, rfl, .tmp rfl⟩)), (Fo.fp _ _), rfl, rfl⟩)
          ·
           replace hb188 := not_f hb188
           refine AW.skip ?_
           refine AW.seq ?_
           refine AW.block ?_
           have hy : ((Fo.mk 6 ByteArray.empty x179.1 x186.1), x186.2.1, x186.2.2) = gAtom (gForm s n) s p d := by unfold gAtom; rw [if_neg hb6, if_neg hb47, if_neg hb88, if_neg hl, if_pos hbr]; exact (gP3_f (by rw [if_pos hb181])  hb188).trans ((gP2_b hb185 hc187).trans (gPair_t hc180 hb181 hb182 hc184))
           refine AW.freeze 7 0 4 _ [.int .i64 6, .str ByteArray.empty, Fo.av x179.1, Fo.av x186.1] rfl rfl ⟨.int, .str, (Fo.fd _), (Fo.fd _), trivial⟩ rfl (nB rfl) ?_
           refine AW.loop (ι := Fo × Nat) (fun v => ⟨[(0, .one (.ptr 1000000 3 0 0)), (7, .one (Fo.fv v.1))], [(1000000, .cells [.str s, .int .i64 (v.2 : Int), .bool x186.2.2]), (1000001, .trees kk YY)]⟩) (fun v => GI s x186.2.2 (gStars s ((Fo.mk 6 ByteArray.empty x179.1 x186.1), x186.2.1, x186.2.2)) v) (fun v => s.size - v.2) ((Fo.mk 6 ByteArray.empty x179.1 x186.1), x186.2.1) (GI.start (by omega)) ⟨⟨⟨_, rfl, rfl⟩, ⟨_, rfl, rfl⟩, trivial⟩, HeapLe.one rfl (HeapLe.one rfl trivial)⟩ ?_
           intro v hv
           have hvle := hv.le
           refine AW.seq ?_
           refine AW.seq ?_
           refine AW.any (by kernel_rfl) (by kernel_rfl) ?_
           refine AD.pure (PureOp.move rfl (.tmp rfl)) rfl rfl (nB rfl) ?_
           refine AD.pure (PureOp.nilPtr rfl (.tmp rfl)) rfl rfl (nB rfl) ?_
           refine AD.pure (PureOp.fieldPtr rfl (.tmp rfl) f14_) rfl rfl (nB rfl) ?_
           refine AD.pure (PureOp.loadPtr rfl (.tmp rfl) f62_ rfl rfl (nB rfl) (nB rfl)) rfl rfl (nB rfl) ?_
           refine AD.pure (PureOp.not rfl (.tmp rfl)) rfl rfl (nB rfl) ?_
           refine AD.pure (PureOp.move rfl (.tmp rfl)) rfl rfl (nB rfl) ?_
           refine AD.gpure (want := true) (.tt rfl) (fun hg231 => PureOp.move rfl (.tmp rfl)) rfl rfl rfl (nB rfl) ?_
           refine AD.gpure (want := true) (.tt rfl) (fun hg232 => PureOp.nilPtr rfl (.gtmp rfl hg232)) rfl rfl rfl (nB rfl) ?_
           refine AD.gpure (want := true) (.tt rfl) (fun hg233 => PureOp.fieldPtr rfl (.gtmp rfl hg233) f13_) rfl rfl rfl (nB rfl) ?_
           refine AD.gpure (want := true) (.tt rfl) (fun hg234 => PureOp.loadPtr rfl (.gtmp rfl hg234) f2_ rfl rfl (nB rfl) (nB rfl)) rfl rfl rfl (nB rfl) ?_
           refine AD.gpure (want := true) (.tt rfl) (fun hg235 => PureOp.move rfl (.tmp rfl)) rfl rfl rfl (nB rfl) ?_
           refine AD.gpure (want := true) (.tt rfl) (fun hg236 => PureOp.nilPtr rfl (.gtmp rfl hg236)) rfl rfl rfl (nB rfl) ?_
           refine AD.gpure (want := true) (.tt rfl) (fun hg237 => PureOp.fieldPtr rfl (.gtmp rfl hg237) f12_) rfl rfl rfl (nB rfl) ?_
           refine AD.gpure (want := true) (.tt rfl) (fun hg238 => PureOp.loadPtr rfl (.gtmp rfl hg238) f3_ rfl rfl (nB rfl) (nB rfl)) rfl rfl rfl (nB rfl) ?_
           refine AD.gpure (want := true) (.tt rfl) (fun hg239 => PureOp.lenStr rfl (.gtmp rfl hg239) f4_) rfl rfl rfl (nB rfl) ?_
           refine AD.gpure (want := true) (.tt rfl) (fun hg240 => PureOp.intOp rfl (.gtmp rfl hg240) (.gtmp rfl hg240) rfl) rfl rfl rfl (nB rfl) ?_
           refine AD.pure (PureOp.pick rfl (.tmp rfl) (fun hp241 => .gtmp rfl hp241) (fun _ => .bool)) rfl rfl (nB rfl) ?_
           refine AD.pure (PureOp.move rfl (.tmp rfl)) rfl rfl (nB rfl) ?_
           refine AD.gpure (want := true) (.tt rfl) (fun hg243 => PureOp.move rfl (.tmp rfl)) rfl rfl rfl (nB rfl) ?_
           refine AD.gpure (want := true) (.tt rfl) (fun hg244 => PureOp.nilPtr rfl (.gtmp rfl hg244)) rfl rfl rfl (nB rfl) ?_
           refine AD.gpure (want := true) (.tt rfl) (fun hg245 => PureOp.fieldPtr rfl (.gtmp rfl hg245) f12_) rfl rfl rfl (nB rfl) ?_
           refine AD.gpure (want := true) (.tt rfl) (fun hg246 => PureOp.loadPtr rfl (.gtmp rfl hg246) f3_ rfl rfl (nB rfl) (nB rfl)) rfl rfl rfl (nB rfl) ?_
           refine AD.gpure (want := true) (.tt rfl) (fun hg247 => PureOp.move rfl (.tmp rfl)) rfl rfl rfl (nB rfl) ?_
           refine AD.gpure (want := true) (.tt rfl) (fun hg248 => PureOp.nilPtr rfl (.gtmp rfl hg248)) rfl rfl rfl (nB rfl) ?_
           refine AD.gpure (want := true) (.tt rfl) (fun hg249 => PureOp.fieldPtr rfl (.gtmp rfl hg249) f13_) rfl rfl rfl (nB rfl) ?_
           refine AD.gpure (want := true) (.tt rfl) (fun hg250 => PureOp.loadPtr rfl (.gtmp rfl hg250) f2_ rfl rfl (nB rfl) (nB rfl)) rfl rfl rfl (nB rfl) ?_
           refine AD.gpure (want := true) (.tt rfl) (fun hg251 => PureOp.indexStrAt (i := v.2) rfl (.gtmp rfl hg251) f4_ (.gtmp rfl hg251) rfl (by have q := hg251; simp only [Bool.cond_true_left, Bool.cond_false_right, Bool.not_eq_true', Bool.or_eq_false_iff, Bool.not_eq_false', Bool.and_eq_true, Bool.not_not, decide_eq_true_eq, decide_eq_false_iff_not, inB] at q; omega)) rfl rfl rfl (nB rfl) ?_
           refine AD.gpure (want := true) (.tt rfl) (fun hg252 => PureOp.intOp rfl (.gtmp rfl hg252) .int rfl) rfl rfl rfl (nB rfl) ?_
           refine AD.gpure (want := true) (.tt rfl) (fun hg253 => PureOp.move rfl (.gtmp rfl hg253)) rfl rfl rfl (nB rfl) ?_
           refine AD.gpure (want := false) (.gf rfl) (fun hg254 => PureOp.move rfl (.tmp rfl)) rfl rfl rfl (nB rfl) ?_
           refine AD.gpure (want := false) (.gf rfl) (fun hg255 => PureOp.nilPtr rfl (.gtmp rfl hg255)) rfl rfl rfl (nB rfl) ?_
           refine AD.gpure (want := false) (.gf rfl) (fun hg256 => PureOp.fieldPtr rfl (.gtmp rfl hg256) f12_) rfl rfl rfl (nB rfl) ?_
           refine AD.gpure (want := false) (.gf rfl) (fun hg257 => PureOp.loadPtr rfl (.gtmp rfl hg257) f3_ rfl rfl (nB rfl) (nB rfl)) rfl rfl rfl (nB rfl) ?_
           refine AD.gpure (want := false) (.gf rfl) (fun hg258 => PureOp.move rfl (.tmp rfl)) rfl rfl rfl (nB rfl) ?_
           refine AD.gpure (want := false) (.gf rfl) (fun hg259 => PureOp.nilPtr rfl (.gtmp rfl hg259)) rfl rfl rfl (nB rfl) ?_
           refine AD.gpure (want := false) (.gf rfl) (fun hg260 => PureOp.fieldPtr rfl (.gtmp rfl hg260) f13_) rfl rfl rfl (nB rfl) ?_
           refine AD.gpure (want := false) (.gf rfl) (fun hg261 => PureOp.loadPtr rfl (.gtmp rfl hg261) f2_ rfl rfl (nB rfl) (nB rfl)) rfl rfl rfl (nB rfl) ?_
           refine AD.gpure (want := false) (.gf rfl) (fun hg262 => PureOp.indexStrAt (i := v.2) rfl (.gtmp rfl hg262) f4_ (.gtmp rfl hg262) rfl (by have q := hg262; simp only [Bool.cond_true_left, Bool.cond_false_right, Bool.not_eq_true', Bool.or_eq_false_iff, Bool.not_eq_false', Bool.and_eq_true, Bool.not_not, decide_eq_true_eq, decide_eq_false_iff_not, inB] at q; omega)) rfl rfl rfl (nB rfl) ?_
           refine AD.gpure (want := false) (.gf rfl) (fun hg263 => PureOp.intOp rfl (.gtmp rfl hg263) .int rfl) rfl rfl rfl (nB rfl) ?_
           refine AD.gpure (want := true) (.tt rfl) (fun hg264 => PureOp.pick rfl (.gtmp rfl hg264) (fun _ => .bool) (fun hp266 => .gtmp rfl (and_mk hg264 (not_of hp266)))) rfl rfl rfl (nB rfl) ?_
           refine AD.pure (PureOp.pick rfl (.tmp rfl) (fun hp267 => .gtmp rfl hp267) (fun _ => .bool)) rfl rfl (nB rfl) ?_
           refine AD.nil ?_
           refine AW.cond (.tmp rfl) (fun hb269 => ?_) (fun hb269 => ?_)
           ·
            have hnl : (x186.2.2 = false ∧ v.2 < s.size ∧ (byteAt s v.2 = 42 ∨ byteAt s v.2 = 94)) := loopB hb269
            have hlt2 := hnl.2.1
            refine AW.skip ?_
            refine AW.block ?_
            refine AW.seq ?_
            refine AW.region ?_
            refine pu (.assign rfl .int) rfl rfl rfl ?_
            refine ARun.nil ?_
            refine AW.seq ?_
            refine AW.seq ?_
            refine AW.any (by kernel_rfl) (by kernel_rfl) ?_
            refine AD.pure (PureOp.move rfl (.tmp rfl)) rfl rfl (nB rfl) ?_
            refine AD.pure (PureOp.nilPtr rfl (.tmp rfl)) rfl rfl (nB rfl) ?_
            refine AD.pure (PureOp.fieldPtr rfl (.tmp rfl) f12_) rfl rfl (nB rfl) ?_
            refine AD.pure (PureOp.loadPtr rfl (.tmp rfl) f3_ rfl rfl (nB rfl) (nB rfl)) rfl rfl (nB rfl) ?_
            refine AD.pure (PureOp.move rfl (.tmp rfl)) rfl rfl (nB rfl) ?_
            refine AD.pure (PureOp.nilPtr rfl (.tmp rfl)) rfl rfl (nB rfl) ?_
            refine AD.pure (PureOp.fieldPtr rfl (.tmp rfl) f13_) rfl rfl (nB rfl) ?_
            refine AD.pure (PureOp.loadPtr rfl (.tmp rfl) f2_ rfl rfl (nB rfl) (nB rfl)) rfl rfl (nB rfl) ?_
            refine AD.pure (PureOp.indexStrAt (i := v.2) rfl (.tmp rfl) f4_ (.tmp rfl) rfl (by omega)) rfl rfl (nB rfl) ?_
            refine AD.pure (PureOp.intOp rfl (.tmp rfl) .int rfl) rfl rfl (nB rfl) ?_
            refine AD.nil ?_
            refine AW.cond (.tmp rfl) (fun hb270 => ?_) (fun hb270 => ?_)
            ·
             replace hb270 := of_decide_eq_true hb270
             have h94 := hb270
             refine AW.region ?_
             refine pu (.assign rfl .int) rfl rfl rfl ?_
             refine ARun.nil ?_
             refine AW.seq ?_
             refine AW.region ?_
             refine pu (.move rfl (.tmp rfl)) rfl rfl rfl ?_
             refine pu (.move rfl (.tmp rfl)) rfl rfl rfl ?_
             refine pu (.build (ys := [.int .i64 8, Fo.fv v.1]) (l := [.int .i64 0, .str ByteArray.empty, Fo.fv Fo.nil, Fo.fv Fo.nil]) (pl := [(0, 1), (1, 1), (2, 1), (3, 1)]) (z := (.agg #[.int .i64 0, .string ByteArray.empty, .pointer none, .pointer none])) rfl (by kernel_rfl) (by kernel_rfl) (fun _ _ _ => ⟨_, _, rfl, rfl, ⟨_, _, rfl, ⟨rfl, by decide⟩, ⟨_, _, rfl, rfl, ⟨_, _, rfl, rfl, rfl⟩⟩⟩⟩) ⟨(.tmp rfl), trivial, rfl, ⟨(.tmp rfl), (Fo.cell _), rfl, trivial⟩⟩ rfl) rfl rfl rfl ?_
             refine ARun.fresh (FreshOp.boxD (m := [.int .i64 8, .str ByteArray.empty, Fo.av v.1, Fo.av Fo.nil]) rfl (.tmp rfl) (SV.cells_of (by exact ⟨trivial, trivial, Fo.cell _, ⟨rfl, (fun _ e => by cases e), (fun _ e => by cases e)⟩, trivial⟩)) ⟨.int, .str, (Fo.fd _), .con, trivial⟩ (nB rfl)) rfl rfl (nB rfl) ?_
             refine pu (.assign rfl (.tmp rfl)) rfl rfl rfl ?_
             refine ARun.nil ?_
             refine AW.region ?_
             refine pu (.move rfl (.tmp rfl)) rfl rfl rfl ?_
             refine pu (.nilPtr rfl (.tmp rfl)) rfl rfl rfl ?_
             refine pu (.fieldPtr rfl (.tmp rfl) f13_) rfl rfl rfl ?_
             refine pu (.loadPtr rfl (.tmp rfl) f2_ rfl rfl (nB rfl) (nB rfl)) rfl rfl rfl ?_
             refine pu (.add (c := ((v.2 + 1 : Nat) : Int)) rfl (.tmp rfl) .int (by rw [wrap_id (by omega) (by omega)]; omega)) rfl rfl rfl ?_
             refine pu (.nilPtr rfl (.tmp rfl)) rfl rfl rfl ?_
             refine pu (.fieldPtr rfl (.tmp rfl) f13_) rfl rfl rfl ?_
             refine ARun.store rfl (.tmp rfl) (.tmp rfl) trivial rfl (nB rfl) f5_ rfl rfl ?_
             refine ARun.nil ?_
             exact ⟨((Fo.mk 8 ByteArray.empty v.1 Fo.nil), v.2 + 1), hv.s8 hnl.1 hnl.2.1 h94, by dsimp only; omega, ⟨⟨⟨_, rfl, rfl⟩, ⟨_, rfl, rfl⟩, trivial⟩, HeapLe.one rfl (HeapLe.one rfl trivial)⟩⟩
            ·
             replace hb270 := of_decide_eq_false hb270
             have h94 := hb270
             refine AW.skip ?_
             refine AW.seq ?_
             refine AW.region ?_
             refine pu (.move rfl (.tmp rfl)) rfl rfl rfl ?_
             refine pu (.move rfl (.tmp rfl)) rfl rfl rfl ?_
             refine pu (.build (ys := [.int .i64 7, Fo.fv v.1]) (l := [.int .i64 0, .str ByteArray.empty, Fo.fv Fo.nil, Fo.fv Fo.nil]) (pl := [(0, 1), (1, 1), (2, 1), (3, 1)]) (z := (.agg #[.int .i64 0, .string ByteArray.empty, .pointer none, .pointer none])) rfl (by kernel_rfl) (by kernel_rfl) (fun _ _ _ => ⟨_, _, rfl, rfl, ⟨_, _, rfl, ⟨rfl, by decide⟩, ⟨_, _, rfl, rfl, ⟨_, _, rfl, rfl, rfl⟩⟩⟩⟩) ⟨(.tmp rfl), trivial, rfl, ⟨(.tmp rfl), (Fo.cell _), rfl, trivial⟩⟩ rfl) rfl rfl rfl ?_
             refine ARun.fresh (FreshOp.boxD (m := [.int .i64 7, .str ByteArray.empty, Fo.av v.1, Fo.av Fo.nil]) rfl (.tmp rfl) (SV.cells_of (by exact ⟨trivial, trivial, Fo.cell _, ⟨rfl, (fun _ e => by cases e), (fun _ e => by cases e)⟩, trivial⟩)) ⟨.int, .str, (Fo.fd _), .con, trivial⟩ (nB rfl)) rfl rfl (nB rfl) ?_
             refine pu (.assign rfl (.tmp rfl)) rfl rfl rfl ?_
             refine ARun.nil ?_
             refine AW.region ?_
             refine pu (.move rfl (.tmp rfl)) rfl rfl rfl ?_
             refine pu (.nilPtr rfl (.tmp rfl)) rfl rfl rfl ?_
             refine pu (.fieldPtr rfl (.tmp rfl) f13_) rfl rfl rfl ?_
             refine pu (.loadPtr rfl (.tmp rfl) f2_ rfl rfl (nB rfl) (nB rfl)) rfl rfl rfl ?_
             refine pu (.add (c := ((v.2 + 1 : Nat) : Int)) rfl (.tmp rfl) .int (by rw [wrap_id (by omega) (by omega)]; omega)) rfl rfl rfl ?_
             refine pu (.nilPtr rfl (.tmp rfl)) rfl rfl rfl ?_
             refine pu (.fieldPtr rfl (.tmp rfl) f13_) rfl rfl rfl ?_
             refine ARun.store rfl (.tmp rfl) (.tmp rfl) trivial rfl (nB rfl) f5_ rfl rfl ?_
             refine ARun.nil ?_
             exact ⟨((Fo.mk 7 ByteArray.empty v.1 Fo.nil), v.2 + 1), hv.s7 hnl.1 hnl.2.1 (hnl.2.2.resolve_right h94), by dsimp only; omega, ⟨⟨⟨_, rfl, rfl⟩, ⟨_, rfl, rfl⟩, trivial⟩, HeapLe.one rfl (HeapLe.one rfl trivial)⟩⟩
           ·
            have hnl : ¬ (x186.2.2 = false ∧ v.2 < s.size ∧ (byteAt s v.2 = 42 ∨ byteAt s v.2 = 94)) := loopB hb269
            refine AW.exit ?_
            refine AW.seq ?_
            refine AW.region ?_
            refine pu (.move rfl (.tmp rfl)) rfl rfl rfl ?_
            refine pu (.assign rfl (.tmp rfl)) rfl rfl rfl ?_
            refine ARun.nil ?_
            exact AW.ret (show ∃ x t, _ ∧ ResN _ _ [.tmp 4] t ∧ _ ∧ _ ∧ _ from ⟨(v.1, v.2, x186.2.2), _, (gForm_step h0 hy (hv.ret hnl)), (.inl (.inl ⟨_, rfl, .tmp rfl⟩)), (Fo.fp _ _), rfl, rfl⟩)
         ·
          replace hb185 := not_f hb185
          refine AW.skip ?_
          refine AW.seq ?_
          refine AW.region ?_
          refine pu (.move rfl (.tmp rfl)) rfl rfl rfl ?_
          refine pu (.nilPtr rfl (.tmp rfl)) rfl rfl rfl ?_
          refine pu (.fieldPtr rfl (.tmp rfl) f14_) rfl rfl rfl ?_
          refine pu (.loadPtr rfl (.tmp rfl) f62_ rfl rfl (nB rfl) (nB rfl)) rfl rfl rfl ?_
          refine pu (.not rfl (.tmp rfl)) rfl rfl rfl ?_
          refine ARun.nil ?_
          refine AW.cond (.tmp rfl) (fun hb271 => ?_) (fun hb271 => ?_)
          ·
           exact absurd (hb271) (by rw [hb185]; decide)
           --end
          ·
           clear hb271
           refine AW.skip ?_
           refine AW.seq ?_
           refine AW.block ?_
           have hy : ((Fo.mk 6 ByteArray.empty x179.1 (Fo.mk 1 ByteArray.empty Fo.nil Fo.nil)), x183.1, x183.2) = gAtom (gForm s n) s p d := by unfold gAtom; rw [if_neg hb6, if_neg hb47, if_neg hb88, if_neg hl, if_pos hbr]; exact (gP3_f (b := (gBad, x183)) (by rw [if_pos hb181])  hb185).trans ((gP2_f hb185).trans (gPair_t hc180 hb181 hb182 hc184))
           refine AW.freeze 7 0 4 _ [.int .i64 6, .str ByteArray.empty, Fo.av x179.1, Fo.av (Fo.mk 1 ByteArray.empty Fo.nil Fo.nil)] rfl rfl ⟨.int, .str, (Fo.fd _), .frs, trivial⟩ rfl (nB rfl) ?_
           refine AW.loop (ι := Fo × Nat) (fun v => ⟨[(0, .one (.ptr 1000000 3 0 0)), (7, .one (Fo.fv v.1))], [(1000000, .cells [.str s, .int .i64 (v.2 : Int), .bool x183.2]), (1000001, .trees kk YY)]⟩) (fun v => GI s x183.2 (gStars s ((Fo.mk 6 ByteArray.empty x179.1 (Fo.mk 1 ByteArray.empty Fo.nil Fo.nil)), x183.1, x183.2)) v) (fun v => s.size - v.2) ((Fo.mk 6 ByteArray.empty x179.1 (Fo.mk 1 ByteArray.empty Fo.nil Fo.nil)), x183.1) (GI.start (by omega)) ⟨⟨⟨_, rfl, rfl⟩, ⟨_, rfl, rfl⟩, trivial⟩, HeapLe.one rfl (HeapLe.one rfl trivial)⟩ ?_
           intro v hv
           have hvle := hv.le
           refine AW.seq ?_
           refine AW.seq ?_
           refine AW.any (by kernel_rfl) (by kernel_rfl) ?_
           refine AD.pure (PureOp.move rfl (.tmp rfl)) rfl rfl (nB rfl) ?_
           refine AD.pure (PureOp.nilPtr rfl (.tmp rfl)) rfl rfl (nB rfl) ?_
           refine AD.pure (PureOp.fieldPtr rfl (.tmp rfl) f14_) rfl rfl (nB rfl) ?_
           refine AD.pure (PureOp.loadPtr rfl (.tmp rfl) f62_ rfl rfl (nB rfl) (nB rfl)) rfl rfl (nB rfl) ?_
           refine AD.pure (PureOp.not rfl (.tmp rfl)) rfl rfl (nB rfl) ?_
           refine AD.pure (PureOp.move rfl (.tmp rfl)) rfl rfl (nB rfl) ?_
           refine AD.gpure (want := true) (.tt rfl) (fun hg272 => PureOp.move rfl (.tmp rfl)) rfl rfl rfl (nB rfl) ?_
           refine AD.gpure (want := true) (.tt rfl) (fun hg273 => PureOp.nilPtr rfl (.gtmp rfl hg273)) rfl rfl rfl (nB rfl) ?_
           refine AD.gpure (want := true) (.tt rfl) (fun hg274 => PureOp.fieldPtr rfl (.gtmp rfl hg274) f13_) rfl rfl rfl (nB rfl) ?_
           refine AD.gpure (want := true) (.tt rfl) (fun hg275 => PureOp.loadPtr rfl (.gtmp rfl hg275) f2_ rfl rfl (nB rfl) (nB rfl)) rfl rfl rfl (nB rfl) ?_
           refine AD.gpure (want := true) (.tt rfl) (fun hg276 => PureOp.move rfl (.tmp rfl)) rfl rfl rfl (nB rfl) ?_
           refine AD.gpure (want := true) (.tt rfl) (fun hg277 => PureOp.nilPtr rfl (.gtmp rfl hg277)) rfl rfl rfl (nB rfl) ?_
           refine AD.gpure (want := true) (.tt rfl) (fun hg278 => PureOp.fieldPtr rfl (.gtmp rfl hg278) f12_) rfl rfl rfl (nB rfl) ?_
           refine AD.gpure (want := true) (.tt rfl) (fun hg279 => PureOp.loadPtr rfl (.gtmp rfl hg279) f3_ rfl rfl (nB rfl) (nB rfl)) rfl rfl rfl (nB rfl) ?_
           refine AD.gpure (want := true) (.tt rfl) (fun hg280 => PureOp.lenStr rfl (.gtmp rfl hg280) f4_) rfl rfl rfl (nB rfl) ?_
           refine AD.gpure (want := true) (.tt rfl) (fun hg281 => PureOp.intOp rfl (.gtmp rfl hg281) (.gtmp rfl hg281) rfl) rfl rfl rfl (nB rfl) ?_
           refine AD.pure (PureOp.pick rfl (.tmp rfl) (fun hp282 => .gtmp rfl hp282) (fun _ => .bool)) rfl rfl (nB rfl) ?_
           refine AD.pure (PureOp.move rfl (.tmp rfl)) rfl rfl (nB rfl) ?_
           refine AD.gpure (want := true) (.tt rfl) (fun hg284 => PureOp.move rfl (.tmp rfl)) rfl rfl rfl (nB rfl) ?_
           refine AD.gpure (want := true) (.tt rfl) (fun hg285 => PureOp.nilPtr rfl (.gtmp rfl hg285)) rfl rfl rfl (nB rfl) ?_
           refine AD.gpure (want := true) (.tt rfl) (fun hg286 => PureOp.fieldPtr rfl (.gtmp rfl hg286) f12_) rfl rfl rfl (nB rfl) ?_
           refine AD.gpure (want := true) (.tt rfl) (fun hg287 => PureOp.loadPtr rfl (.gtmp rfl hg287) f3_ rfl rfl (nB rfl) (nB rfl)) rfl rfl rfl (nB rfl) ?_
           refine AD.gpure (want := true) (.tt rfl) (fun hg288 => PureOp.move rfl (.tmp rfl)) rfl rfl rfl (nB rfl) ?_
           refine AD.gpure (want := true) (.tt rfl) (fun hg289 => PureOp.nilPtr rfl (.gtmp rfl hg289)) rfl rfl rfl (nB rfl) ?_
           refine AD.gpure (want := true) (.tt rfl) (fun hg290 => PureOp.fieldPtr rfl (.gtmp rfl hg290) f13_) rfl rfl rfl (nB rfl) ?_
           refine AD.gpure (want := true) (.tt rfl) (fun hg291 => PureOp.loadPtr rfl (.gtmp rfl hg291) f2_ rfl rfl (nB rfl) (nB rfl)) rfl rfl rfl (nB rfl) ?_
           refine AD.gpure (want := true) (.tt rfl) (fun hg292 => PureOp.indexStrAt (i := v.2) rfl (.gtmp rfl hg292) f4_ (.gtmp rfl hg292) rfl (by have q := hg292; simp only [Bool.cond_true_left, Bool.cond_false_right, Bool.not_eq_true', Bool.or_eq_false_iff, Bool.not_eq_false', Bool.and_eq_true, Bool.not_not, decide_eq_true_eq, decide_eq_false_iff_not, inB] at q; omega)) rfl rfl rfl (nB rfl) ?_
           refine AD.gpure (want := true) (.tt rfl) (fun hg293 => PureOp.intOp rfl (.gtmp rfl hg293) .int rfl) rfl rfl rfl (nB rfl) ?_
           refine AD.gpure (want := true) (.tt rfl) (fun hg294 => PureOp.move rfl (.gtmp rfl hg294)) rfl rfl rfl (nB rfl) ?_
           refine AD.gpure (want := false) (.gf rfl) (fun hg295 => PureOp.move rfl (.tmp rfl)) rfl rfl rfl (nB rfl) ?_
           refine AD.gpure (want := false) (.gf rfl) (fun hg296 => PureOp.nilPtr rfl (.gtmp rfl hg296)) rfl rfl rfl (nB rfl) ?_
           refine AD.gpure (want := false) (.gf rfl) (fun hg297 => PureOp.fieldPtr rfl (.gtmp rfl hg297) f12_) rfl rfl rfl (nB rfl) ?_
           refine AD.gpure (want := false) (.gf rfl) (fun hg298 => PureOp.loadPtr rfl (.gtmp rfl hg298) f3_ rfl rfl (nB rfl) (nB rfl)) rfl rfl rfl (nB rfl) ?_
           refine AD.gpure (want := false) (.gf rfl) (fun hg299 => PureOp.move rfl (.tmp rfl)) rfl rfl rfl (nB rfl) ?_
           refine AD.gpure (want := false) (.gf rfl) (fun hg300 => PureOp.nilPtr rfl (.gtmp rfl hg300)) rfl rfl rfl (nB rfl) ?_
           refine AD.gpure (want := false) (.gf rfl) (fun hg301 => PureOp.fieldPtr rfl (.gtmp rfl hg301) f13_) rfl rfl rfl (nB rfl) ?_
           refine AD.gpure (want := false) (.gf rfl) (fun hg302 => PureOp.loadPtr rfl (.gtmp rfl hg302) f2_ rfl rfl (nB rfl) (nB rfl)) rfl rfl rfl (nB rfl) ?_
           refine AD.gpure (want := false) (.gf rfl) (fun hg303 => PureOp.indexStrAt (i := v.2) rfl (.gtmp rfl hg303) f4_ (.gtmp rfl hg303) rfl (by have q := hg303; simp only [Bool.cond_true_left, Bool.cond_false_right, Bool.not_eq_true', Bool.or_eq_false_iff, Bool.not_eq_false', Bool.and_eq_true, Bool.not_not, decide_eq_true_eq, decide_eq_false_iff_not, inB] at q; omega)) rfl rfl rfl (nB rfl) ?_
           refine AD.gpure (want := false) (.gf rfl) (fun hg304 => PureOp.intOp rfl (.gtmp rfl hg304) .int rfl) rfl rfl rfl (nB rfl) ?_
           refine AD.gpure (want := true) (.tt rfl) (fun hg305 => PureOp.pick rfl (.gtmp rfl hg305) (fun _ => .bool) (fun hp307 => .gtmp rfl (and_mk hg305 (not_of hp307)))) rfl rfl rfl (nB rfl) ?_
           refine AD.pure (PureOp.pick rfl (.tmp rfl) (fun hp308 => .gtmp rfl hp308) (fun _ => .bool)) rfl rfl (nB rfl) ?_
           refine AD.nil ?_
           refine AW.cond (.tmp rfl) (fun hb310 => ?_) (fun hb310 => ?_)
           ·
            have hnl : (x183.2 = false ∧ v.2 < s.size ∧ (byteAt s v.2 = 42 ∨ byteAt s v.2 = 94)) := loopB hb310
            have hlt2 := hnl.2.1
            refine AW.skip ?_
            refine AW.block ?_
            refine AW.seq ?_
            refine AW.region ?_
            refine pu (.assign rfl .int) rfl rfl rfl ?_
            refine ARun.nil ?_
            refine AW.seq ?_
            refine AW.seq ?_
            refine AW.any (by kernel_rfl) (by kernel_rfl) ?_
            refine AD.pure (PureOp.move rfl (.tmp rfl)) rfl rfl (nB rfl) ?_
            refine AD.pure (PureOp.nilPtr rfl (.tmp rfl)) rfl rfl (nB rfl) ?_
            refine AD.pure (PureOp.fieldPtr rfl (.tmp rfl) f12_) rfl rfl (nB rfl) ?_
            refine AD.pure (PureOp.loadPtr rfl (.tmp rfl) f3_ rfl rfl (nB rfl) (nB rfl)) rfl rfl (nB rfl) ?_
            refine AD.pure (PureOp.move rfl (.tmp rfl)) rfl rfl (nB rfl) ?_
            refine AD.pure (PureOp.nilPtr rfl (.tmp rfl)) rfl rfl (nB rfl) ?_
            refine AD.pure (PureOp.fieldPtr rfl (.tmp rfl) f13_) rfl rfl (nB rfl) ?_
            refine AD.pure (PureOp.loadPtr rfl (.tmp rfl) f2_ rfl rfl (nB rfl) (nB rfl)) rfl rfl (nB rfl) ?_
            refine AD.pure (PureOp.indexStrAt (i := v.2) rfl (.tmp rfl) f4_ (.tmp rfl) rfl (by omega)) rfl rfl (nB rfl) ?_
            refine AD.pure (PureOp.intOp rfl (.tmp rfl) .int rfl) rfl rfl (nB rfl) ?_
            refine AD.nil ?_
            refine AW.cond (.tmp rfl) (fun hb311 => ?_) (fun hb311 => ?_)
            ·
             replace hb311 := of_decide_eq_true hb311
             have h94 := hb311
             refine AW.region ?_
             refine pu (.assign rfl .int) rfl rfl rfl ?_
             refine ARun.nil ?_
             refine AW.seq ?_
             refine AW.region ?_
             refine pu (.move rfl (.tmp rfl)) rfl rfl rfl ?_
             refine pu (.move rfl (.tmp rfl)) rfl rfl rfl ?_
             refine pu (.build (ys := [.int .i64 8, Fo.fv v.1]) (l := [.int .i64 0, .str ByteArray.empty, Fo.fv Fo.nil, Fo.fv Fo.nil]) (pl := [(0, 1), (1, 1), (2, 1), (3, 1)]) (z := (.agg #[.int .i64 0, .string ByteArray.empty, .pointer none, .pointer none])) rfl (by kernel_rfl) (by kernel_rfl) (fun _ _ _ => ⟨_, _, rfl, rfl, ⟨_, _, rfl, ⟨rfl, by decide⟩, ⟨_, _, rfl, rfl, ⟨_, _, rfl, rfl, rfl⟩⟩⟩⟩) ⟨(.tmp rfl), trivial, rfl, ⟨(.tmp rfl), (Fo.cell _), rfl, trivial⟩⟩ rfl) rfl rfl rfl ?_
             refine ARun.fresh (FreshOp.boxD (m := [.int .i64 8, .str ByteArray.empty, Fo.av v.1, Fo.av Fo.nil]) rfl (.tmp rfl) (SV.cells_of (by exact ⟨trivial, trivial, Fo.cell _, ⟨rfl, (fun _ e => by cases e), (fun _ e => by cases e)⟩, trivial⟩)) ⟨.int, .str, (Fo.fd _), .con, trivial⟩ (nB rfl)) rfl rfl (nB rfl) ?_
             refine pu (.assign rfl (.tmp rfl)) rfl rfl rfl ?_
             refine ARun.nil ?_
             refine AW.region ?_
             refine pu (.move rfl (.tmp rfl)) rfl rfl rfl ?_
             refine pu (.nilPtr rfl (.tmp rfl)) rfl rfl rfl ?_
             refine pu (.fieldPtr rfl (.tmp rfl) f13_) rfl rfl rfl ?_
             refine pu (.loadPtr rfl (.tmp rfl) f2_ rfl rfl (nB rfl) (nB rfl)) rfl rfl rfl ?_
             refine pu (.add (c := ((v.2 + 1 : Nat) : Int)) rfl (.tmp rfl) .int (by rw [wrap_id (by omega) (by omega)]; omega)) rfl rfl rfl ?_
             refine pu (.nilPtr rfl (.tmp rfl)) rfl rfl rfl ?_
             refine pu (.fieldPtr rfl (.tmp rfl) f13_) rfl rfl rfl ?_
             refine ARun.store rfl (.tmp rfl) (.tmp rfl) trivial rfl (nB rfl) f5_ rfl rfl ?_
             refine ARun.nil ?_
             exact ⟨((Fo.mk 8 ByteArray.empty v.1 Fo.nil), v.2 + 1), hv.s8 hnl.1 hnl.2.1 h94, by dsimp only; omega, ⟨⟨⟨_, rfl, rfl⟩, ⟨_, rfl, rfl⟩, trivial⟩, HeapLe.one rfl (HeapLe.one rfl trivial)⟩⟩
            ·
             replace hb311 := of_decide_eq_false hb311
             have h94 := hb311
             refine AW.skip ?_
             refine AW.seq ?_
             refine AW.region ?_
             refine pu (.move rfl (.tmp rfl)) rfl rfl rfl ?_
             refine pu (.move rfl (.tmp rfl)) rfl rfl rfl ?_
             refine pu (.build (ys := [.int .i64 7, Fo.fv v.1]) (l := [.int .i64 0, .str ByteArray.empty, Fo.fv Fo.nil, Fo.fv Fo.nil]) (pl := [(0, 1), (1, 1), (2, 1), (3, 1)]) (z := (.agg #[.int .i64 0, .string ByteArray.empty, .pointer none, .pointer none])) rfl (by kernel_rfl) (by kernel_rfl) (fun _ _ _ => ⟨_, _, rfl, rfl, ⟨_, _, rfl, ⟨rfl, by decide⟩, ⟨_, _, rfl, rfl, ⟨_, _, rfl, rfl, rfl⟩⟩⟩⟩) ⟨(.tmp rfl), trivial, rfl, ⟨(.tmp rfl), (Fo.cell _), rfl, trivial⟩⟩ rfl) rfl rfl rfl ?_
             refine ARun.fresh (FreshOp.boxD (m := [.int .i64 7, .str ByteArray.empty, Fo.av v.1, Fo.av Fo.nil]) rfl (.tmp rfl) (SV.cells_of (by exact ⟨trivial, trivial, Fo.cell _, ⟨rfl, (fun _ e => by cases e), (fun _ e => by cases e)⟩, trivial⟩)) ⟨.int, .str, (Fo.fd _), .con, trivial⟩ (nB rfl)) rfl rfl (nB rfl) ?_
             refine pu (.assign rfl (.tmp rfl)) rfl rfl rfl ?_
             refine ARun.nil ?_
             refine AW.region ?_
             refine pu (.move rfl (.tmp rfl)) rfl rfl rfl ?_
             refine pu (.nilPtr rfl (.tmp rfl)) rfl rfl rfl ?_
             refine pu (.fieldPtr rfl (.tmp rfl) f13_) rfl rfl rfl ?_
             refine pu (.loadPtr rfl (.tmp rfl) f2_ rfl rfl (nB rfl) (nB rfl)) rfl rfl rfl ?_
             refine pu (.add (c := ((v.2 + 1 : Nat) : Int)) rfl (.tmp rfl) .int (by rw [wrap_id (by omega) (by omega)]; omega)) rfl rfl rfl ?_
             refine pu (.nilPtr rfl (.tmp rfl)) rfl rfl rfl ?_
             refine pu (.fieldPtr rfl (.tmp rfl) f13_) rfl rfl rfl ?_
             refine ARun.store rfl (.tmp rfl) (.tmp rfl) trivial rfl (nB rfl) f5_ rfl rfl ?_
             refine ARun.nil ?_
             exact ⟨((Fo.mk 7 ByteArray.empty v.1 Fo.nil), v.2 + 1), hv.s7 hnl.1 hnl.2.1 (hnl.2.2.resolve_right h94), by dsimp only; omega, ⟨⟨⟨_, rfl, rfl⟩, ⟨_, rfl, rfl⟩, trivial⟩, HeapLe.one rfl (HeapLe.one rfl trivial)⟩⟩
           ·
            have hnl : ¬ (x183.2 = false ∧ v.2 < s.size ∧ (byteAt s v.2 = 42 ∨ byteAt s v.2 = 94)) := loopB hb310
            refine AW.exit ?_
            refine AW.seq ?_
            refine AW.region ?_
            refine pu (.move rfl (.tmp rfl)) rfl rfl rfl ?_
            refine pu (.assign rfl (.tmp rfl)) rfl rfl rfl ?_
            refine ARun.nil ?_
            exact AW.ret (show ∃ x t, _ ∧ ResN _ _ [.tmp 4] t ∧ _ ∧ _ ∧ _ from ⟨(v.1, v.2, x183.2), _, (gForm_step h0 hy (hv.ret hnl)), (.inl (.inl ⟨_, rfl, .tmp rfl⟩)), (Fo.fp _ _), rfl, rfl⟩)
        ·
         replace hb182 := not_f hb182
         refine AW.skip ?_
         refine AW.seq ?_
         refine AW.region ?_
         refine pu (.move rfl (.tmp rfl)) rfl rfl rfl ?_
         refine pu (.move rfl (.tmp rfl)) rfl rfl rfl ?_
         refine pu (.nilPtr rfl (.tmp rfl)) rfl rfl rfl ?_
         refine pu (.fieldPtr rfl (.tmp rfl) f25_) rfl rfl rfl ?_
         refine ARun.store rfl (.tmp rfl) (.tmp rfl) trivial rfl (nB rfl) f57_ rfl rfl ?_
         refine ARun.nil ?_
         refine AW.seq ?_
         refine AW.seq ?_
         refine AW.region ?_
         refine pu (.move rfl (.tmp rfl)) rfl rfl rfl ?_
         refine pu (.nilPtr rfl (.tmp rfl)) rfl rfl rfl ?_
         refine pu (.fieldPtr rfl (.tmp rfl) f14_) rfl rfl rfl ?_
         refine pu (.loadPtr rfl (.tmp rfl) f62_ rfl rfl (nB rfl) (nB rfl)) rfl rfl rfl ?_
         refine pu (.not rfl (.tmp rfl)) rfl rfl rfl ?_
         refine ARun.nil ?_
         refine AW.cond (.tmp rfl) (fun hb312 => ?_) (fun hb312 => ?_)
         ·
          exact absurd (hb312) (by rw [hb182]; decide)
          --end
         ·
          clear hb312
          refine AW.skip ?_
          refine AW.seq ?_
          refine AW.region ?_
          refine pu (.move rfl (.tmp rfl)) rfl rfl rfl ?_
          refine pu (.nilPtr rfl (.tmp rfl)) rfl rfl rfl ?_
          refine pu (.fieldPtr rfl (.tmp rfl) f14_) rfl rfl rfl ?_
          refine pu (.loadPtr rfl (.tmp rfl) f62_ rfl rfl (nB rfl) (nB rfl)) rfl rfl rfl ?_
          refine pu (.not rfl (.tmp rfl)) rfl rfl rfl ?_
          refine ARun.nil ?_
          refine AW.cond (.tmp rfl) (fun hb313 => ?_) (fun hb313 => ?_)
          ·
           exact absurd (hb313) (by rw [hb182]; decide)
           --end
          ·
           clear hb313
           refine AW.skip ?_
           refine AW.seq ?_
           refine AW.block ?_
           have hy : ((Fo.mk 6 ByteArray.empty x179.1 (Fo.mk 1 ByteArray.empty Fo.nil Fo.nil)), x179.2.1, x179.2.2) = gAtom (gForm s n) s p d := by unfold gAtom; rw [if_neg hb6, if_neg hb47, if_neg hb88, if_neg hl, if_pos hbr]; exact (gP3_f (b := (gBad, x179.2)) (by rw [if_pos hb181])  hb182).trans ((gP2_f hb182).trans (gPair_a hc180 (fun e => by have q := e.2; rw [hb182] at q; cases q)))
           refine AW.freeze 7 0 4 _ [.int .i64 6, .str ByteArray.empty, Fo.av x179.1, Fo.av (Fo.mk 1 ByteArray.empty Fo.nil Fo.nil)] rfl rfl ⟨.int, .str, (Fo.fd _), .frs, trivial⟩ rfl (nB rfl) ?_
           refine AW.loop (ι := Fo × Nat) (fun v => ⟨[(0, .one (.ptr 1000000 3 0 0)), (7, .one (Fo.fv v.1))], [(1000000, .cells [.str s, .int .i64 (v.2 : Int), .bool x179.2.2]), (1000001, .trees kk YY)]⟩) (fun v => GI s x179.2.2 (gStars s ((Fo.mk 6 ByteArray.empty x179.1 (Fo.mk 1 ByteArray.empty Fo.nil Fo.nil)), x179.2.1, x179.2.2)) v) (fun v => s.size - v.2) ((Fo.mk 6 ByteArray.empty x179.1 (Fo.mk 1 ByteArray.empty Fo.nil Fo.nil)), x179.2.1) (GI.start (by omega)) ⟨⟨⟨_, rfl, rfl⟩, ⟨_, rfl, rfl⟩, trivial⟩, HeapLe.one rfl (HeapLe.one rfl trivial)⟩ ?_
           intro v hv
           have hvle := hv.le
           refine AW.seq ?_
           refine AW.seq ?_
           refine AW.any (by kernel_rfl) (by kernel_rfl) ?_
           refine AD.pure (PureOp.move rfl (.tmp rfl)) rfl rfl (nB rfl) ?_
           refine AD.pure (PureOp.nilPtr rfl (.tmp rfl)) rfl rfl (nB rfl) ?_
           refine AD.pure (PureOp.fieldPtr rfl (.tmp rfl) f14_) rfl rfl (nB rfl) ?_
           refine AD.pure (PureOp.loadPtr rfl (.tmp rfl) f62_ rfl rfl (nB rfl) (nB rfl)) rfl rfl (nB rfl) ?_
           refine AD.pure (PureOp.not rfl (.tmp rfl)) rfl rfl (nB rfl) ?_
           refine AD.pure (PureOp.move rfl (.tmp rfl)) rfl rfl (nB rfl) ?_
           refine AD.gpure (want := true) (.tt rfl) (fun hg314 => PureOp.move rfl (.tmp rfl)) rfl rfl rfl (nB rfl) ?_
           refine AD.gpure (want := true) (.tt rfl) (fun hg315 => PureOp.nilPtr rfl (.gtmp rfl hg315)) rfl rfl rfl (nB rfl) ?_
           refine AD.gpure (want := true) (.tt rfl) (fun hg316 => PureOp.fieldPtr rfl (.gtmp rfl hg316) f13_) rfl rfl rfl (nB rfl) ?_
           refine AD.gpure (want := true) (.tt rfl) (fun hg317 => PureOp.loadPtr rfl (.gtmp rfl hg317) f2_ rfl rfl (nB rfl) (nB rfl)) rfl rfl rfl (nB rfl) ?_
           refine AD.gpure (want := true) (.tt rfl) (fun hg318 => PureOp.move rfl (.tmp rfl)) rfl rfl rfl (nB rfl) ?_
           refine AD.gpure (want := true) (.tt rfl) (fun hg319 => PureOp.nilPtr rfl (.gtmp rfl hg319)) rfl rfl rfl (nB rfl) ?_
           refine AD.gpure (want := true) (.tt rfl) (fun hg320 => PureOp.fieldPtr rfl (.gtmp rfl hg320) f12_) rfl rfl rfl (nB rfl) ?_
           refine AD.gpure (want := true) (.tt rfl) (fun hg321 => PureOp.loadPtr rfl (.gtmp rfl hg321) f3_ rfl rfl (nB rfl) (nB rfl)) rfl rfl rfl (nB rfl) ?_
           refine AD.gpure (want := true) (.tt rfl) (fun hg322 => PureOp.lenStr rfl (.gtmp rfl hg322) f4_) rfl rfl rfl (nB rfl) ?_
           refine AD.gpure (want := true) (.tt rfl) (fun hg323 => PureOp.intOp rfl (.gtmp rfl hg323) (.gtmp rfl hg323) rfl) rfl rfl rfl (nB rfl) ?_
           refine AD.pure (PureOp.pick rfl (.tmp rfl) (fun hp324 => .gtmp rfl hp324) (fun _ => .bool)) rfl rfl (nB rfl) ?_
           refine AD.pure (PureOp.move rfl (.tmp rfl)) rfl rfl (nB rfl) ?_
           refine AD.gpure (want := true) (.tt rfl) (fun hg326 => PureOp.move rfl (.tmp rfl)) rfl rfl rfl (nB rfl) ?_
           refine AD.gpure (want := true) (.tt rfl) (fun hg327 => PureOp.nilPtr rfl (.gtmp rfl hg327)) rfl rfl rfl (nB rfl) ?_
           refine AD.gpure (want := true) (.tt rfl) (fun hg328 => PureOp.fieldPtr rfl (.gtmp rfl hg328) f12_) rfl rfl rfl (nB rfl) ?_
           refine AD.gpure (want := true) (.tt rfl) (fun hg329 => PureOp.loadPtr rfl (.gtmp rfl hg329) f3_ rfl rfl (nB rfl) (nB rfl)) rfl rfl rfl (nB rfl) ?_
           refine AD.gpure (want := true) (.tt rfl) (fun hg330 => PureOp.move rfl (.tmp rfl)) rfl rfl rfl (nB rfl) ?_
           refine AD.gpure (want := true) (.tt rfl) (fun hg331 => PureOp.nilPtr rfl (.gtmp rfl hg331)) rfl rfl rfl (nB rfl) ?_
           refine AD.gpure (want := true) (.tt rfl) (fun hg332 => PureOp.fieldPtr rfl (.gtmp rfl hg332) f13_) rfl rfl rfl (nB rfl) ?_
           refine AD.gpure (want := true) (.tt rfl) (fun hg333 => PureOp.loadPtr rfl (.gtmp rfl hg333) f2_ rfl rfl (nB rfl) (nB rfl)) rfl rfl rfl (nB rfl) ?_
           refine AD.gpure (want := true) (.tt rfl) (fun hg334 => PureOp.indexStrAt (i := v.2) rfl (.gtmp rfl hg334) f4_ (.gtmp rfl hg334) rfl (by have q := hg334; simp only [Bool.cond_true_left, Bool.cond_false_right, Bool.not_eq_true', Bool.or_eq_false_iff, Bool.not_eq_false', Bool.and_eq_true, Bool.not_not, decide_eq_true_eq, decide_eq_false_iff_not, inB] at q; omega)) rfl rfl rfl (nB rfl) ?_
           refine AD.gpure (want := true) (.tt rfl) (fun hg335 => PureOp.intOp rfl (.gtmp rfl hg335) .int rfl) rfl rfl rfl (nB rfl) ?_
           refine AD.gpure (want := true) (.tt rfl) (fun hg336 => PureOp.move rfl (.gtmp rfl hg336)) rfl rfl rfl (nB rfl) ?_
           refine AD.gpure (want := false) (.gf rfl) (fun hg337 => PureOp.move rfl (.tmp rfl)) rfl rfl rfl (nB rfl) ?_
           refine AD.gpure (want := false) (.gf rfl) (fun hg338 => PureOp.nilPtr rfl (.gtmp rfl hg338)) rfl rfl rfl (nB rfl) ?_
           refine AD.gpure (want := false) (.gf rfl) (fun hg339 => PureOp.fieldPtr rfl (.gtmp rfl hg339) f12_) rfl rfl rfl (nB rfl) ?_
           refine AD.gpure (want := false) (.gf rfl) (fun hg340 => PureOp.loadPtr rfl (.gtmp rfl hg340) f3_ rfl rfl (nB rfl) (nB rfl)) rfl rfl rfl (nB rfl) ?_
           refine AD.gpure (want := false) (.gf rfl) (fun hg341 => PureOp.move rfl (.tmp rfl)) rfl rfl rfl (nB rfl) ?_
           refine AD.gpure (want := false) (.gf rfl) (fun hg342 => PureOp.nilPtr rfl (.gtmp rfl hg342)) rfl rfl rfl (nB rfl) ?_
           refine AD.gpure (want := false) (.gf rfl) (fun hg343 => PureOp.fieldPtr rfl (.gtmp rfl hg343) f13_) rfl rfl rfl (nB rfl) ?_
           refine AD.gpure (want := false) (.gf rfl) (fun hg344 => PureOp.loadPtr rfl (.gtmp rfl hg344) f2_ rfl rfl (nB rfl) (nB rfl)) rfl rfl rfl (nB rfl) ?_
           refine AD.gpure (want := false) (.gf rfl) (fun hg345 => PureOp.indexStrAt (i := v.2) rfl (.gtmp rfl hg345) f4_ (.gtmp rfl hg345) rfl (by have q := hg345; simp only [Bool.cond_true_left, Bool.cond_false_right, Bool.not_eq_true', Bool.or_eq_false_iff, Bool.not_eq_false', Bool.and_eq_true, Bool.not_not, decide_eq_true_eq, decide_eq_false_iff_not, inB] at q; omega)) rfl rfl rfl (nB rfl) ?_
           refine AD.gpure (want := false) (.gf rfl) (fun hg346 => PureOp.intOp rfl (.gtmp rfl hg346) .int rfl) rfl rfl rfl (nB rfl) ?_
           refine AD.gpure (want := true) (.tt rfl) (fun hg347 => PureOp.pick rfl (.gtmp rfl hg347) (fun _ => .bool) (fun hp349 => .gtmp rfl (and_mk hg347 (not_of hp349)))) rfl rfl rfl (nB rfl) ?_
           refine AD.pure (PureOp.pick rfl (.tmp rfl) (fun hp350 => .gtmp rfl hp350) (fun _ => .bool)) rfl rfl (nB rfl) ?_
           refine AD.nil ?_
           refine AW.cond (.tmp rfl) (fun hb352 => ?_) (fun hb352 => ?_)
           ·
            have hnl : (x179.2.2 = false ∧ v.2 < s.size ∧ (byteAt s v.2 = 42 ∨ byteAt s v.2 = 94)) := loopB hb352
            have hlt2 := hnl.2.1
            refine AW.skip ?_
            refine AW.block ?_
            refine AW.seq ?_
            refine AW.region ?_
            refine pu (.assign rfl .int) rfl rfl rfl ?_
            refine ARun.nil ?_
            refine AW.seq ?_
            refine AW.seq ?_
            refine AW.any (by kernel_rfl) (by kernel_rfl) ?_
            refine AD.pure (PureOp.move rfl (.tmp rfl)) rfl rfl (nB rfl) ?_
            refine AD.pure (PureOp.nilPtr rfl (.tmp rfl)) rfl rfl (nB rfl) ?_
            refine AD.pure (PureOp.fieldPtr rfl (.tmp rfl) f12_) rfl rfl (nB rfl) ?_
            refine AD.pure (PureOp.loadPtr rfl (.tmp rfl) f3_ rfl rfl (nB rfl) (nB rfl)) rfl rfl (nB rfl) ?_
            refine AD.pure (PureOp.move rfl (.tmp rfl)) rfl rfl (nB rfl) ?_
            refine AD.pure (PureOp.nilPtr rfl (.tmp rfl)) rfl rfl (nB rfl) ?_
            refine AD.pure (PureOp.fieldPtr rfl (.tmp rfl) f13_) rfl rfl (nB rfl) ?_
            refine AD.pure (PureOp.loadPtr rfl (.tmp rfl) f2_ rfl rfl (nB rfl) (nB rfl)) rfl rfl (nB rfl) ?_
            refine AD.pure (PureOp.indexStrAt (i := v.2) rfl (.tmp rfl) f4_ (.tmp rfl) rfl (by omega)) rfl rfl (nB rfl) ?_
            refine AD.pure (PureOp.intOp rfl (.tmp rfl) .int rfl) rfl rfl (nB rfl) ?_
            refine AD.nil ?_
            refine AW.cond (.tmp rfl) (fun hb353 => ?_) (fun hb353 => ?_)
            ·
             replace hb353 := of_decide_eq_true hb353
             have h94 := hb353
             refine AW.region ?_
             refine pu (.assign rfl .int) rfl rfl rfl ?_
             refine ARun.nil ?_
             refine AW.seq ?_
             refine AW.region ?_
             refine pu (.move rfl (.tmp rfl)) rfl rfl rfl ?_
             refine pu (.move rfl (.tmp rfl)) rfl rfl rfl ?_
             refine pu (.build (ys := [.int .i64 8, Fo.fv v.1]) (l := [.int .i64 0, .str ByteArray.empty, Fo.fv Fo.nil, Fo.fv Fo.nil]) (pl := [(0, 1), (1, 1), (2, 1), (3, 1)]) (z := (.agg #[.int .i64 0, .string ByteArray.empty, .pointer none, .pointer none])) rfl (by kernel_rfl) (by kernel_rfl) (fun _ _ _ => ⟨_, _, rfl, rfl, ⟨_, _, rfl, ⟨rfl, by decide⟩, ⟨_, _, rfl, rfl, ⟨_, _, rfl, rfl, rfl⟩⟩⟩⟩) ⟨(.tmp rfl), trivial, rfl, ⟨(.tmp rfl), (Fo.cell _), rfl, trivial⟩⟩ rfl) rfl rfl rfl ?_
             refine ARun.fresh (FreshOp.boxD (m := [.int .i64 8, .str ByteArray.empty, Fo.av v.1, Fo.av Fo.nil]) rfl (.tmp rfl) (SV.cells_of (by exact ⟨trivial, trivial, Fo.cell _, ⟨rfl, (fun _ e => by cases e), (fun _ e => by cases e)⟩, trivial⟩)) ⟨.int, .str, (Fo.fd _), .con, trivial⟩ (nB rfl)) rfl rfl (nB rfl) ?_
             refine pu (.assign rfl (.tmp rfl)) rfl rfl rfl ?_
             refine ARun.nil ?_
             refine AW.region ?_
             refine pu (.move rfl (.tmp rfl)) rfl rfl rfl ?_
             refine pu (.nilPtr rfl (.tmp rfl)) rfl rfl rfl ?_
             refine pu (.fieldPtr rfl (.tmp rfl) f13_) rfl rfl rfl ?_
             refine pu (.loadPtr rfl (.tmp rfl) f2_ rfl rfl (nB rfl) (nB rfl)) rfl rfl rfl ?_
             refine pu (.add (c := ((v.2 + 1 : Nat) : Int)) rfl (.tmp rfl) .int (by rw [wrap_id (by omega) (by omega)]; omega)) rfl rfl rfl ?_
             refine pu (.nilPtr rfl (.tmp rfl)) rfl rfl rfl ?_
             refine pu (.fieldPtr rfl (.tmp rfl) f13_) rfl rfl rfl ?_
             refine ARun.store rfl (.tmp rfl) (.tmp rfl) trivial rfl (nB rfl) f5_ rfl rfl ?_
             refine ARun.nil ?_
             exact ⟨((Fo.mk 8 ByteArray.empty v.1 Fo.nil), v.2 + 1), hv.s8 hnl.1 hnl.2.1 h94, by dsimp only; omega, ⟨⟨⟨_, rfl, rfl⟩, ⟨_, rfl, rfl⟩, trivial⟩, HeapLe.one rfl (HeapLe.one rfl trivial)⟩⟩
            ·
             replace hb353 := of_decide_eq_false hb353
             have h94 := hb353
             refine AW.skip ?_
             refine AW.seq ?_
             refine AW.region ?_
             refine pu (.move rfl (.tmp rfl)) rfl rfl rfl ?_
             refine pu (.move rfl (.tmp rfl)) rfl rfl rfl ?_
             refine pu (.build (ys := [.int .i64 7, Fo.fv v.1]) (l := [.int .i64 0, .str ByteArray.empty, Fo.fv Fo.nil, Fo.fv Fo.nil]) (pl := [(0, 1), (1, 1), (2, 1), (3, 1)]) (z := (.agg #[.int .i64 0, .string ByteArray.empty, .pointer none, .pointer none])) rfl (by kernel_rfl) (by kernel_rfl) (fun _ _ _ => ⟨_, _, rfl, rfl, ⟨_, _, rfl, ⟨rfl, by decide⟩, ⟨_, _, rfl, rfl, ⟨_, _, rfl, rfl, rfl⟩⟩⟩⟩) ⟨(.tmp rfl), trivial, rfl, ⟨(.tmp rfl), (Fo.cell _), rfl, trivial⟩⟩ rfl) rfl rfl rfl ?_
             refine ARun.fresh (FreshOp.boxD (m := [.int .i64 7, .str ByteArray.empty, Fo.av v.1, Fo.av Fo.nil]) rfl (.tmp rfl) (SV.cells_of (by exact ⟨trivial, trivial, Fo.cell _, ⟨rfl, (fun _ e => by cases e), (fun _ e => by cases e)⟩, trivial⟩)) ⟨.int, .str, (Fo.fd _), .con, trivial⟩ (nB rfl)) rfl rfl (nB rfl) ?_
             refine pu (.assign rfl (.tmp rfl)) rfl rfl rfl ?_
             refine ARun.nil ?_
             refine AW.region ?_
             refine pu (.move rfl (.tmp rfl)) rfl rfl rfl ?_
             refine pu (.nilPtr rfl (.tmp rfl)) rfl rfl rfl ?_
             refine pu (.fieldPtr rfl (.tmp rfl) f13_) rfl rfl rfl ?_
             refine pu (.loadPtr rfl (.tmp rfl) f2_ rfl rfl (nB rfl) (nB rfl)) rfl rfl rfl ?_
             refine pu (.add (c := ((v.2 + 1 : Nat) : Int)) rfl (.tmp rfl) .int (by rw [wrap_id (by omega) (by omega)]; omega)) rfl rfl rfl ?_
             refine pu (.nilPtr rfl (.tmp rfl)) rfl rfl rfl ?_
             refine pu (.fieldPtr rfl (.tmp rfl) f13_) rfl rfl rfl ?_
             refine ARun.store rfl (.tmp rfl) (.tmp rfl) trivial rfl (nB rfl) f5_ rfl rfl ?_
             refine ARun.nil ?_
             exact ⟨((Fo.mk 7 ByteArray.empty v.1 Fo.nil), v.2 + 1), hv.s7 hnl.1 hnl.2.1 (hnl.2.2.resolve_right h94), by dsimp only; omega, ⟨⟨⟨_, rfl, rfl⟩, ⟨_, rfl, rfl⟩, trivial⟩, HeapLe.one rfl (HeapLe.one rfl trivial)⟩⟩
           ·
            have hnl : ¬ (x179.2.2 = false ∧ v.2 < s.size ∧ (byteAt s v.2 = 42 ∨ byteAt s v.2 = 94)) := loopB hb352
            refine AW.exit ?_
            refine AW.seq ?_
            refine AW.region ?_
            refine pu (.move rfl (.tmp rfl)) rfl rfl rfl ?_
            refine pu (.assign rfl (.tmp rfl)) rfl rfl rfl ?_
            refine ARun.nil ?_
            exact AW.ret (show ∃ x t, _ ∧ ResN _ _ [.tmp 4] t ∧ _ ∧ _ ∧ _ from ⟨(v.1, v.2, x179.2.2), _, (gForm_step h0 hy (hv.ret hnl)), (.inl (.inl ⟨_, rfl, .tmp rfl⟩)), (Fo.fp _ _), rfl, rfl⟩)
       ·
        replace hb181 := of_decide_eq_false hb181
        refine AW.skip ?_
        refine AW.seq ?_
        refine AW.region ?_
        refine pu (.move rfl (.tmp rfl)) rfl rfl rfl ?_
        refine pu (.move rfl (.tmp rfl)) rfl rfl rfl ?_
        refine pu (.nilPtr rfl (.tmp rfl)) rfl rfl rfl ?_
        refine pu (.fieldPtr rfl (.tmp rfl) f25_) rfl rfl rfl ?_
        refine ARun.store rfl (.tmp rfl) (.tmp rfl) trivial rfl (nB rfl) f57_ rfl rfl ?_
        refine ARun.nil ?_
        refine AW.seq ?_
        refine AW.seq ?_
        refine AW.region ?_
        refine pu (.move rfl (.tmp rfl)) rfl rfl rfl ?_
        refine pu (.nilPtr rfl (.tmp rfl)) rfl rfl rfl ?_
        refine pu (.fieldPtr rfl (.tmp rfl) f14_) rfl rfl rfl ?_
        refine pu (.loadPtr rfl (.tmp rfl) f62_ rfl rfl (nB rfl) (nB rfl)) rfl rfl rfl ?_
        refine pu (.not rfl (.tmp rfl)) rfl rfl rfl ?_
        refine ARun.nil ?_
        refine AW.cond (.tmp rfl) (fun hb354 => ?_) (fun hb354 => ?_)
        ·
         replace hb354 := of_not hb354
         refine AW.region ?_
         refine pu (.move rfl (.tmp rfl)) rfl rfl rfl ?_
         refine pu (.move rfl (.tmp rfl)) rfl rfl rfl ?_
         refine pu (.move rfl (.tmp rfl)) rfl rfl rfl ?_
         refine pu (.add (c := ((d + 1 : Nat) : Int)) rfl (.tmp rfl) .int (by rw [wrap_id (by omega) (by omega)]; omega)) rfl rfl rfl ?_
         refine ARun.nn 1000000 rfl (FnN.flag hb354 (ih x179.2.1 (d + 1) (by omega) (by omega) (by omega))) f58_ ⟨.inr (.tmp rfl), .inl ⟨_, (.tmp rfl), .int⟩, trivial⟩ rfl rfl rfl (fun _ _ => rfl) (by repeat first | exact trivial | refine ⟨.inr rfl, ?_⟩ | refine ⟨.inl rfl, ?_⟩) rfl rfl (nB rfl) (r' := fun x => .one x.1.fv) (fun _ => congrArg SV.one (Fo.fr _)) (fun x355 hc356 => ?_)
         obtain ⟨hc356a, hc356b⟩ := gForm_bd s n x179.2.1 (d + 1) (by omega)
         rw [← hc356] at hc356a hc356b
         refine pu (.nilPtr rfl (.tmp rfl)) rfl rfl rfl ?_
         refine pu (.fieldPtr rfl (.tmp rfl) f25_) rfl rfl rfl ?_
         refine ARun.store rfl (.tmp rfl) (.tmp rfl) (Fo.cell _) rfl (nB rfl) f57_ rfl rfl ?_
         refine ARun.nil ?_
         refine AW.seq ?_
         refine AW.region ?_
         refine pu (.move rfl (.tmp rfl)) rfl rfl rfl ?_
         refine pu (.nilPtr rfl (.tmp rfl)) rfl rfl rfl ?_
         refine pu (.fieldPtr rfl (.tmp rfl) f14_) rfl rfl rfl ?_
         refine pu (.loadPtr rfl (.tmp rfl) f62_ rfl rfl (nB rfl) (nB rfl)) rfl rfl rfl ?_
         refine pu (.not rfl (.tmp rfl)) rfl rfl rfl ?_
         refine ARun.nil ?_
         refine AW.cond (.tmp rfl) (fun hb357 => ?_) (fun hb357 => ?_)
         ·
          replace hb357 := of_not hb357
          refine AW.region ?_
          refine pu (.move rfl (.tmp rfl)) rfl rfl rfl ?_
          refine ARun.bytes2 (a1 := 41) (a2 := 93) rfl .int .int Try.underlying35 Try.underlying5 (by kernel_rfl) rfl rfl rfl (nB rfl) rfl rfl (nB rfl) ?_
          refine pu (.move rfl (.tmp rfl)) rfl rfl rfl ?_
          refine pu (.intOp rfl (.tmp rfl) .int rfl) rfl rfl rfl ?_
          refine pu (.call rfl (v_l5Bit (decide (byteAt s p = 91))) ⟨⟨_, (.tmp rfl), .bool⟩, trivial⟩ f60_ trivial) rfl rfl rfl ?_
          refine pu (.indexLst (i := (if decide (byteAt s p = 91) then (1 : Int) else 0).toNat) rfl (.frs (.tmp rfl)) f61_ (.tmp rfl) (by omega) (by omega)) rfl rfl rfl ?_
          refine pu (.loadRef rfl (.tmp rfl) f63_ (nB rfl)) rfl rfl rfl ?_
          refine ARun.nn 1000000 rfl (FnN.flag hb357 (v_GTake s hs x355.2.1 false (by omega) (([41, 93] : List Int).getD ((if decide (byteAt s p = 91) then (1 : Int) else 0).toNat) 0))) f59_ ⟨.inr (.tmp rfl), .inl ⟨_, (.tmp rfl), .int⟩, trivial⟩ rfl rfl rfl (fun _ _ => rfl) (by repeat first | exact trivial | refine ⟨.inr rfl, ?_⟩ | refine ⟨.inl rfl, ?_⟩) rfl rfl (nB rfl) (fun _ => rfl) (fun x358 hc359 => ?_)
          have hc359b := gTake_bd (s := s) (p := x355.2.1) (fl := false) (c := (([41, 93] : List Int).getD ((if decide (byteAt s p = 91) then (1 : Int) else 0).toNat) 0)) (by omega)
          rw [← hc359] at hc359b
          obtain ⟨hc359c, hc359e⟩ := hc359b
          refine ARun.nil ?_
          refine AW.seq ?_
          refine AW.block ?_
          have hy : ((Fo.mk 5 ByteArray.empty x179.1 x355.1), x358.1, x358.2) = gAtom (gForm s n) s p d := by unfold gAtom; rw [if_neg hb6, if_neg hb47, if_neg hb88, if_neg hl, if_pos hbr]; exact (gP3_t (by rw [if_neg hb181])  hb357 (hc359.trans (by rw [if_neg hb181, decide_eq_false hb181]; rfl))).trans ((gP2_b hb354 hc356).trans (gPair_a hc180 (fun e => hb181 e.1)))
          refine AW.freeze 7 0 4 _ [.int .i64 5, .str ByteArray.empty, Fo.av x179.1, Fo.av x355.1] rfl rfl ⟨.int, .str, (Fo.fd _), (Fo.fd _), trivial⟩ rfl (nB rfl) ?_
          refine AW.loop (ι := Fo × Nat) (fun v => ⟨[(0, .one (.ptr 1000000 3 0 0)), (7, .one (Fo.fv v.1))], [(1000000, .cells [.str s, .int .i64 (v.2 : Int), .bool x358.2]), (1000001, .trees kk YY)]⟩) (fun v => GI s x358.2 (gStars s ((Fo.mk 5 ByteArray.empty x179.1 x355.1), x358.1, x358.2)) v) (fun v => s.size - v.2) ((Fo.mk 5 ByteArray.empty x179.1 x355.1), x358.1) (GI.start (by omega)) ⟨⟨⟨_, rfl, rfl⟩, ⟨_, rfl, rfl⟩, trivial⟩, HeapLe.one rfl (HeapLe.one rfl trivial)⟩ ?_
          intro v hv
          have hvle := hv.le
          refine AW.seq ?_
          refine AW.seq ?_
          refine AW.any (by kernel_rfl) (by kernel_rfl) ?_
          refine AD.pure (PureOp.move rfl (.tmp rfl)) rfl rfl (nB rfl) ?_
          refine AD.pure (PureOp.nilPtr rfl (.tmp rfl)) rfl rfl (nB rfl) ?_
          refine AD.pure (PureOp.fieldPtr rfl (.tmp rfl) f14_) rfl rfl (nB rfl) ?_
          refine AD.pure (PureOp.loadPtr rfl (.tmp rfl) f62_ rfl rfl (nB rfl) (nB rfl)) rfl rfl (nB rfl) ?_
          refine AD.pure (PureOp.not rfl (.tmp rfl)) rfl rfl (nB rfl) ?_
          refine AD.pure (PureOp.move rfl (.tmp rfl)) rfl rfl (nB rfl) ?_
          refine AD.gpure (want := true) (.tt rfl) (fun hg360 => PureOp.move rfl (.tmp rfl)) rfl rfl rfl (nB rfl) ?_
          refine AD.gpure (want := true) (.tt rfl) (fun hg361 => PureOp.nilPtr rfl (.gtmp rfl hg361)) rfl rfl rfl (nB rfl) ?_
          refine AD.gpure (want := true) (.tt rfl) (fun hg362 => PureOp.fieldPtr rfl (.gtmp rfl hg362) f13_) rfl rfl rfl (nB rfl) ?_
          refine AD.gpure (want := true) (.tt rfl) (fun hg363 => PureOp.loadPtr rfl (.gtmp rfl hg363) f2_ rfl rfl (nB rfl) (nB rfl)) rfl rfl rfl (nB rfl) ?_
          refine AD.gpure (want := true) (.tt rfl) (fun hg364 => PureOp.move rfl (.tmp rfl)) rfl rfl rfl (nB rfl) ?_
          refine AD.gpure (want := true) (.tt rfl) (fun hg365 => PureOp.nilPtr rfl (.gtmp rfl hg365)) rfl rfl rfl (nB rfl) ?_
          refine AD.gpure (want := true) (.tt rfl) (fun hg366 => PureOp.fieldPtr rfl (.gtmp rfl hg366) f12_) rfl rfl rfl (nB rfl) ?_
          refine AD.gpure (want := true) (.tt rfl) (fun hg367 => PureOp.loadPtr rfl (.gtmp rfl hg367) f3_ rfl rfl (nB rfl) (nB rfl)) rfl rfl rfl (nB rfl) ?_
          refine AD.gpure (want := true) (.tt rfl) (fun hg368 => PureOp.lenStr rfl (.gtmp rfl hg368) f4_) rfl rfl rfl (nB rfl) ?_
          refine AD.gpure (want := true) (.tt rfl) (fun hg369 => PureOp.intOp rfl (.gtmp rfl hg369) (.gtmp rfl hg369) rfl) rfl rfl rfl (nB rfl) ?_
          refine AD.pure (PureOp.pick rfl (.tmp rfl) (fun hp370 => .gtmp rfl hp370) (fun _ => .bool)) rfl rfl (nB rfl) ?_
          refine AD.pure (PureOp.move rfl (.tmp rfl)) rfl rfl (nB rfl) ?_
          refine AD.gpure (want := true) (.tt rfl) (fun hg372 => PureOp.move rfl (.tmp rfl)) rfl rfl rfl (nB rfl) ?_
          refine AD.gpure (want := true) (.tt rfl) (fun hg373 => PureOp.nilPtr rfl (.gtmp rfl hg373)) rfl rfl rfl (nB rfl) ?_
          refine AD.gpure (want := true) (.tt rfl) (fun hg374 => PureOp.fieldPtr rfl (.gtmp rfl hg374) f12_) rfl rfl rfl (nB rfl) ?_
          refine AD.gpure (want := true) (.tt rfl) (fun hg375 => PureOp.loadPtr rfl (.gtmp rfl hg375) f3_ rfl rfl (nB rfl) (nB rfl)) rfl rfl rfl (nB rfl) ?_
          refine AD.gpure (want := true) (.tt rfl) (fun hg376 => PureOp.move rfl (.tmp rfl)) rfl rfl rfl (nB rfl) ?_
          refine AD.gpure (want := true) (.tt rfl) (fun hg377 => PureOp.nilPtr rfl (.gtmp rfl hg377)) rfl rfl rfl (nB rfl) ?_
          refine AD.gpure (want := true) (.tt rfl) (fun hg378 => PureOp.fieldPtr rfl (.gtmp rfl hg378) f13_) rfl rfl rfl (nB rfl) ?_
          refine AD.gpure (want := true) (.tt rfl) (fun hg379 => PureOp.loadPtr rfl (.gtmp rfl hg379) f2_ rfl rfl (nB rfl) (nB rfl)) rfl rfl rfl (nB rfl) ?_
          refine AD.gpure (want := true) (.tt rfl) (fun hg380 => PureOp.indexStrAt (i := v.2) rfl (.gtmp rfl hg380) f4_ (.gtmp rfl hg380) rfl (by have q := hg380; simp only [Bool.cond_true_left, Bool.cond_false_right, Bool.not_eq_true', Bool.or_eq_false_iff, Bool.not_eq_false', Bool.and_eq_true, Bool.not_not, decide_eq_true_eq, decide_eq_false_iff_not, inB] at q; omega)) rfl rfl rfl (nB rfl) ?_
          refine AD.gpure (want := true) (.tt rfl) (fun hg381 => PureOp.intOp rfl (.gtmp rfl hg381) .int rfl) rfl rfl rfl (nB rfl) ?_
          refine AD.gpure (want := true) (.tt rfl) (fun hg382 => PureOp.move rfl (.gtmp rfl hg382)) rfl rfl rfl (nB rfl) ?_
          refine AD.gpure (want := false) (.gf rfl) (fun hg383 => PureOp.move rfl (.tmp rfl)) rfl rfl rfl (nB rfl) ?_
          refine AD.gpure (want := false) (.gf rfl) (fun hg384 => PureOp.nilPtr rfl (.gtmp rfl hg384)) rfl rfl rfl (nB rfl) ?_
          refine AD.gpure (want := false) (.gf rfl) (fun hg385 => PureOp.fieldPtr rfl (.gtmp rfl hg385) f12_) rfl rfl rfl (nB rfl) ?_
          refine AD.gpure (want := false) (.gf rfl) (fun hg386 => PureOp.loadPtr rfl (.gtmp rfl hg386) f3_ rfl rfl (nB rfl) (nB rfl)) rfl rfl rfl (nB rfl) ?_
          refine AD.gpure (want := false) (.gf rfl) (fun hg387 => PureOp.move rfl (.tmp rfl)) rfl rfl rfl (nB rfl) ?_
          refine AD.gpure (want := false) (.gf rfl) (fun hg388 => PureOp.nilPtr rfl (.gtmp rfl hg388)) rfl rfl rfl (nB rfl) ?_
          refine AD.gpure (want := false) (.gf rfl) (fun hg389 => PureOp.fieldPtr rfl (.gtmp rfl hg389) f13_) rfl rfl rfl (nB rfl) ?_
          refine AD.gpure (want := false) (.gf rfl) (fun hg390 => PureOp.loadPtr rfl (.gtmp rfl hg390) f2_ rfl rfl (nB rfl) (nB rfl)) rfl rfl rfl (nB rfl) ?_
          refine AD.gpure (want := false) (.gf rfl) (fun hg391 => PureOp.indexStrAt (i := v.2) rfl (.gtmp rfl hg391) f4_ (.gtmp rfl hg391) rfl (by have q := hg391; simp only [Bool.cond_true_left, Bool.cond_false_right, Bool.not_eq_true', Bool.or_eq_false_iff, Bool.not_eq_false', Bool.and_eq_true, Bool.not_not, decide_eq_true_eq, decide_eq_false_iff_not, inB] at q; omega)) rfl rfl rfl (nB rfl) ?_
          refine AD.gpure (want := false) (.gf rfl) (fun hg392 => PureOp.intOp rfl (.gtmp rfl hg392) .int rfl) rfl rfl rfl (nB rfl) ?_
          refine AD.gpure (want := true) (.tt rfl) (fun hg393 => PureOp.pick rfl (.gtmp rfl hg393) (fun _ => .bool) (fun hp395 => .gtmp rfl (and_mk hg393 (not_of hp395)))) rfl rfl rfl (nB rfl) ?_
          refine AD.pure (PureOp.pick rfl (.tmp rfl) (fun hp396 => .gtmp rfl hp396) (fun _ => .bool)) rfl rfl (nB rfl) ?_
          refine AD.nil ?_
          refine AW.cond (.tmp rfl) (fun hb398 => ?_) (fun hb398 => ?_)
          ·
           have hnl : (x358.2 = false ∧ v.2 < s.size ∧ (byteAt s v.2 = 42 ∨ byteAt s v.2 = 94)) := loopB hb398
           have hlt2 := hnl.2.1
           refine AW.skip ?_
           refine AW.block ?_
           refine AW.seq ?_
           refine AW.region ?_
           refine pu (.assign rfl .int) rfl rfl rfl ?_
           refine ARun.nil ?_
           refine AW.seq ?_
           refine AW.seq ?_
           refine AW.any (by kernel_rfl) (by kernel_rfl) ?_
           refine AD.pure (PureOp.move rfl (.tmp rfl)) rfl rfl (nB rfl) ?_
           refine AD.pure (PureOp.nilPtr rfl (.tmp rfl)) rfl rfl (nB rfl) ?_
           refine AD.pure (PureOp.fieldPtr rfl (.tmp rfl) f12_) rfl rfl (nB rfl) ?_
           refine AD.pure (PureOp.loadPtr rfl (.tmp rfl) f3_ rfl rfl (nB rfl) (nB rfl)) rfl rfl (nB rfl) ?_
           refine AD.pure (PureOp.move rfl (.tmp rfl)) rfl rfl (nB rfl) ?_
           refine AD.pure (PureOp.nilPtr rfl (.tmp rfl)) rfl rfl (nB rfl) ?_
           refine AD.pure (PureOp.fieldPtr rfl (.tmp rfl) f13_) rfl rfl (nB rfl) ?_
           refine AD.pure (PureOp.loadPtr rfl (.tmp rfl) f2_ rfl rfl (nB rfl) (nB rfl)) rfl rfl (nB rfl) ?_
           refine AD.pure (PureOp.indexStrAt (i := v.2) rfl (.tmp rfl) f4_ (.tmp rfl) rfl (by omega)) rfl rfl (nB rfl) ?_
           refine AD.pure (PureOp.intOp rfl (.tmp rfl) .int rfl) rfl rfl (nB rfl) ?_
           refine AD.nil ?_
           refine AW.cond (.tmp rfl) (fun hb399 => ?_) (fun hb399 => ?_)
           ·
            replace hb399 := of_decide_eq_true hb399
            have h94 := hb399
            refine AW.region ?_
            refine pu (.assign rfl .int) rfl rfl rfl ?_
            refine ARun.nil ?_
            refine AW.seq ?_
            refine AW.region ?_
            refine pu (.move rfl (.tmp rfl)) rfl rfl rfl ?_
            refine pu (.move rfl (.tmp rfl)) rfl rfl rfl ?_
            refine pu (.build (ys := [.int .i64 8, Fo.fv v.1]) (l := [.int .i64 0, .str ByteArray.empty, Fo.fv Fo.nil, Fo.fv Fo.nil]) (pl := [(0, 1), (1, 1), (2, 1), (3, 1)]) (z := (.agg #[.int .i64 0, .string ByteArray.empty, .pointer none, .pointer none])) rfl (by kernel_rfl) (by kernel_rfl) (fun _ _ _ => ⟨_, _, rfl, rfl, ⟨_, _, rfl, ⟨rfl, by decide⟩, ⟨_, _, rfl, rfl, ⟨_, _, rfl, rfl, rfl⟩⟩⟩⟩) ⟨(.tmp rfl), trivial, rfl, ⟨(.tmp rfl), (Fo.cell _), rfl, trivial⟩⟩ rfl) rfl rfl rfl ?_
            refine ARun.fresh (FreshOp.boxD (m := [.int .i64 8, .str ByteArray.empty, Fo.av v.1, Fo.av Fo.nil]) rfl (.tmp rfl) (SV.cells_of (by exact ⟨trivial, trivial, Fo.cell _, ⟨rfl, (fun _ e => by cases e), (fun _ e => by cases e)⟩, trivial⟩)) ⟨.int, .str, (Fo.fd _), .con, trivial⟩ (nB rfl)) rfl rfl (nB rfl) ?_
            refine pu (.assign rfl (.tmp rfl)) rfl rfl rfl ?_
            refine ARun.nil ?_
            refine AW.region ?_
            refine pu (.move rfl (.tmp rfl)) rfl rfl rfl ?_
            refine pu (.nilPtr rfl (.tmp rfl)) rfl rfl rfl ?_
            refine pu (.fieldPtr rfl (.tmp rfl) f13_) rfl rfl rfl ?_
            refine pu (.loadPtr rfl (.tmp rfl) f2_ rfl rfl (nB rfl) (nB rfl)) rfl rfl rfl ?_
            refine pu (.add (c := ((v.2 + 1 : Nat) : Int)) rfl (.tmp rfl) .int (by rw [wrap_id (by omega) (by omega)]; omega)) rfl rfl rfl ?_
            refine pu (.nilPtr rfl (.tmp rfl)) rfl rfl rfl ?_
            refine pu (.fieldPtr rfl (.tmp rfl) f13_) rfl rfl rfl ?_
            refine ARun.store rfl (.tmp rfl) (.tmp rfl) trivial rfl (nB rfl) f5_ rfl rfl ?_
            refine ARun.nil ?_
            exact ⟨((Fo.mk 8 ByteArray.empty v.1 Fo.nil), v.2 + 1), hv.s8 hnl.1 hnl.2.1 h94, by dsimp only; omega, ⟨⟨⟨_, rfl, rfl⟩, ⟨_, rfl, rfl⟩, trivial⟩, HeapLe.one rfl (HeapLe.one rfl trivial)⟩⟩
           ·
            replace hb399 := of_decide_eq_false hb399
            have h94 := hb399
            refine AW.skip ?_
            refine AW.seq ?_
            refine AW.region ?_
            refine pu (.move rfl (.tmp rfl)) rfl rfl rfl ?_
            refine pu (.move rfl (.tmp rfl)) rfl rfl rfl ?_
            refine pu (.build (ys := [.int .i64 7, Fo.fv v.1]) (l := [.int .i64 0, .str ByteArray.empty, Fo.fv Fo.nil, Fo.fv Fo.nil]) (pl := [(0, 1), (1, 1), (2, 1), (3, 1)]) (z := (.agg #[.int .i64 0, .string ByteArray.empty, .pointer none, .pointer none])) rfl (by kernel_rfl) (by kernel_rfl) (fun _ _ _ => ⟨_, _, rfl, rfl, ⟨_, _, rfl, ⟨rfl, by decide⟩, ⟨_, _, rfl, rfl, ⟨_, _, rfl, rfl, rfl⟩⟩⟩⟩) ⟨(.tmp rfl), trivial, rfl, ⟨(.tmp rfl), (Fo.cell _), rfl, trivial⟩⟩ rfl) rfl rfl rfl ?_
            refine ARun.fresh (FreshOp.boxD (m := [.int .i64 7, .str ByteArray.empty, Fo.av v.1, Fo.av Fo.nil]) rfl (.tmp rfl) (SV.cells_of (by exact ⟨trivial, trivial, Fo.cell _, ⟨rfl, (fun _ e => by cases e), (fun _ e => by cases e)⟩, trivial⟩)) ⟨.int, .str, (Fo.fd _), .con, trivial⟩ (nB rfl)) rfl rfl (nB rfl) ?_
            refine pu (.assign rfl (.tmp rfl)) rfl rfl rfl ?_
            refine ARun.nil ?_
            refine AW.region ?_
            refine pu (.move rfl (.tmp rfl)) rfl rfl rfl ?_
            refine pu (.nilPtr rfl (.tmp rfl)) rfl rfl rfl ?_
            refine pu (.fieldPtr rfl (.tmp rfl) f13_) rfl rfl rfl ?_
            refine pu (.loadPtr rfl (.tmp rfl) f2_ rfl rfl (nB rfl) (nB rfl)) rfl rfl rfl ?_
            refine pu (.add (c := ((v.2 + 1 : Nat) : Int)) rfl (.tmp rfl) .int (by rw [wrap_id (by omega) (by omega)]; omega)) rfl rfl rfl ?_
            refine pu (.nilPtr rfl (.tmp rfl)) rfl rfl rfl ?_
            refine pu (.fieldPtr rfl (.tmp rfl) f13_) rfl rfl rfl ?_
            refine ARun.store rfl (.tmp rfl) (.tmp rfl) trivial rfl (nB rfl) f5_ rfl rfl ?_
            refine ARun.nil ?_
            exact ⟨((Fo.mk 7 ByteArray.empty v.1 Fo.nil), v.2 + 1), hv.s7 hnl.1 hnl.2.1 (hnl.2.2.resolve_right h94), by dsimp only; omega, ⟨⟨⟨_, rfl, rfl⟩, ⟨_, rfl, rfl⟩, trivial⟩, HeapLe.one rfl (HeapLe.one rfl trivial)⟩⟩
          ·
           have hnl : ¬ (x358.2 = false ∧ v.2 < s.size ∧ (byteAt s v.2 = 42 ∨ byteAt s v.2 = 94)) := loopB hb398
           refine AW.exit ?_
           refine AW.seq ?_
           refine AW.region ?_
           refine pu (.move rfl (.tmp rfl)) rfl rfl rfl ?_
           refine pu (.assign rfl (.tmp rfl)) rfl rfl rfl ?_
           refine ARun.nil ?_
           exact AW.ret (show ∃ x t, _ ∧ ResN _ _ [.tmp 4] t ∧ _ ∧ _ ∧ _ from ⟨(v.1, v.2, x358.2), _, (gForm_step h0 hy (hv.ret hnl)), (.inl (.inl ⟨_, rfl, .tmp rfl⟩)), (Fo.fp _ _), rfl, rfl⟩)
         ·
          replace hb357 := not_f hb357
          refine AW.skip ?_
          refine AW.seq ?_
          refine AW.block ?_
          have hy : ((Fo.mk 5 ByteArray.empty x179.1 x355.1), x355.2.1, x355.2.2) = gAtom (gForm s n) s p d := by unfold gAtom; rw [if_neg hb6, if_neg hb47, if_neg hb88, if_neg hl, if_pos hbr]; exact (gP3_f (by rw [if_neg hb181])  hb357).trans ((gP2_b hb354 hc356).trans (gPair_a hc180 (fun e => hb181 e.1)))
          refine AW.freeze 7 0 4 _ [.int .i64 5, .str ByteArray.empty, Fo.av x179.1, Fo.av x355.1] rfl rfl ⟨.int, .str, (Fo.fd _), (Fo.fd _), trivial⟩ rfl (nB rfl) ?_
          refine AW.loop (ι := Fo × Nat) (fun v => ⟨[(0, .one (.ptr 1000000 3 0 0)), (7, .one (Fo.fv v.1))], [(1000000, .cells [.str s, .int .i64 (v.2 : Int), .bool x355.2.2]), (1000001, .trees kk YY)]⟩) (fun v => GI s x355.2.2 (gStars s ((Fo.mk 5 ByteArray.empty x179.1 x355.1), x355.2.1, x355.2.2)) v) (fun v => s.size - v.2) ((Fo.mk 5 ByteArray.empty x179.1 x355.1), x355.2.1) (GI.start (by omega)) ⟨⟨⟨_, rfl, rfl⟩, ⟨_, rfl, rfl⟩, trivial⟩, HeapLe.one rfl (HeapLe.one rfl trivial)⟩ ?_
          intro v hv
          have hvle := hv.le
          refine AW.seq ?_
          refine AW.seq ?_
          refine AW.any (by kernel_rfl) (by kernel_rfl) ?_
          refine AD.pure (PureOp.move rfl (.tmp rfl)) rfl rfl (nB rfl) ?_
          refine AD.pure (PureOp.nilPtr rfl (.tmp rfl)) rfl rfl (nB rfl) ?_
          refine AD.pure (PureOp.fieldPtr rfl (.tmp rfl) f14_) rfl rfl (nB rfl) ?_
          refine AD.pure (PureOp.loadPtr rfl (.tmp rfl) f62_ rfl rfl (nB rfl) (nB rfl)) rfl rfl (nB rfl) ?_
          refine AD.pure (PureOp.not rfl (.tmp rfl)) rfl rfl (nB rfl) ?_
          refine AD.pure (PureOp.move rfl (.tmp rfl)) rfl rfl (nB rfl) ?_
          refine AD.gpure (want := true) (.tt rfl) (fun hg400 => PureOp.move rfl (.tmp rfl)) rfl rfl rfl (nB rfl) ?_
          refine AD.gpure (want := true) (.tt rfl) (fun hg401 => PureOp.nilPtr rfl (.gtmp rfl hg401)) rfl rfl rfl (nB rfl) ?_
          refine AD.gpure (want := true) (.tt rfl) (fun hg402 => PureOp.fieldPtr rfl (.gtmp rfl hg402) f13_) rfl rfl rfl (nB rfl) ?_
          refine AD.gpure (want := true) (.tt rfl) (fun hg403 => PureOp.loadPtr rfl (.gtmp rfl hg403) f2_ rfl rfl (nB rfl) (nB rfl)) rfl rfl rfl (nB rfl) ?_
          refine AD.gpure (want := true) (.tt rfl) (fun hg404 => PureOp.move rfl (.tmp rfl)) rfl rfl rfl (nB rfl) ?_
          refine AD.gpure (want := true) (.tt rfl) (fun hg405 => PureOp.nilPtr rfl (.gtmp rfl hg405)) rfl rfl rfl (nB rfl) ?_
          refine AD.gpure (want := true) (.tt rfl) (fun hg406 => PureOp.fieldPtr rfl (.gtmp rfl hg406) f12_) rfl rfl rfl (nB rfl) ?_
          refine AD.gpure (want := true) (.tt rfl) (fun hg407 => PureOp.loadPtr rfl (.gtmp rfl hg407) f3_ rfl rfl (nB rfl) (nB rfl)) rfl rfl rfl (nB rfl) ?_
          refine AD.gpure (want := true) (.tt rfl) (fun hg408 => PureOp.lenStr rfl (.gtmp rfl hg408) f4_) rfl rfl rfl (nB rfl) ?_
          refine AD.gpure (want := true) (.tt rfl) (fun hg409 => PureOp.intOp rfl (.gtmp rfl hg409) (.gtmp rfl hg409) rfl) rfl rfl rfl (nB rfl) ?_
          refine AD.pure (PureOp.pick rfl (.tmp rfl) (fun hp410 => .gtmp rfl hp410) (fun _ => .bool)) rfl rfl (nB rfl) ?_
          refine AD.pure (PureOp.move rfl (.tmp rfl)) rfl rfl (nB rfl) ?_
          refine AD.gpure (want := true) (.tt rfl) (fun hg412 => PureOp.move rfl (.tmp rfl)) rfl rfl rfl (nB rfl) ?_
          refine AD.gpure (want := true) (.tt rfl) (fun hg413 => PureOp.nilPtr rfl (.gtmp rfl hg413)) rfl rfl rfl (nB rfl) ?_
          refine AD.gpure (want := true) (.tt rfl) (fun hg414 => PureOp.fieldPtr rfl (.gtmp rfl hg414) f12_) rfl rfl rfl (nB rfl) ?_
          refine AD.gpure (want := true) (.tt rfl) (fun hg415 => PureOp.loadPtr rfl (.gtmp rfl hg415) f3_ rfl rfl (nB rfl) (nB rfl)) rfl rfl rfl (nB rfl) ?_
          refine AD.gpure (want := true) (.tt rfl) (fun hg416 => PureOp.move rfl (.tmp rfl)) rfl rfl rfl (nB rfl) ?_
          refine AD.gpure (want := true) (.tt rfl) (fun hg417 => PureOp.nilPtr rfl (.gtmp rfl hg417)) rfl rfl rfl (nB rfl) ?_
          refine AD.gpure (want := true) (.tt rfl) (fun hg418 => PureOp.fieldPtr rfl (.gtmp rfl hg418) f13_) rfl rfl rfl (nB rfl) ?_
          refine AD.gpure (want := true) (.tt rfl) (fun hg419 => PureOp.loadPtr rfl (.gtmp rfl hg419) f2_ rfl rfl (nB rfl) (nB rfl)) rfl rfl rfl (nB rfl) ?_
          refine AD.gpure (want := true) (.tt rfl) (fun hg420 => PureOp.indexStrAt (i := v.2) rfl (.gtmp rfl hg420) f4_ (.gtmp rfl hg420) rfl (by have q := hg420; simp only [Bool.cond_true_left, Bool.cond_false_right, Bool.not_eq_true', Bool.or_eq_false_iff, Bool.not_eq_false', Bool.and_eq_true, Bool.not_not, decide_eq_true_eq, decide_eq_false_iff_not, inB] at q; omega)) rfl rfl rfl (nB rfl) ?_
          refine AD.gpure (want := true) (.tt rfl) (fun hg421 => PureOp.intOp rfl (.gtmp rfl hg421) .int rfl) rfl rfl rfl (nB rfl) ?_
          refine AD.gpure (want := true) (.tt rfl) (fun hg422 => PureOp.move rfl (.gtmp rfl hg422)) rfl rfl rfl (nB rfl) ?_
          refine AD.gpure (want := false) (.gf rfl) (fun hg423 => PureOp.move rfl (.tmp rfl)) rfl rfl rfl (nB rfl) ?_
          refine AD.gpure (want := false) (.gf rfl) (fun hg424 => PureOp.nilPtr rfl (.gtmp rfl hg424)) rfl rfl rfl (nB rfl) ?_
          refine AD.gpure (want := false) (.gf rfl) (fun hg425 => PureOp.fieldPtr rfl (.gtmp rfl hg425) f12_) rfl rfl rfl (nB rfl) ?_
          refine AD.gpure (want := false) (.gf rfl) (fun hg426 => PureOp.loadPtr rfl (.gtmp rfl hg426) f3_ rfl rfl (nB rfl) (nB rfl)) rfl rfl rfl (nB rfl) ?_
          refine AD.gpure (want := false) (.gf rfl) (fun hg427 => PureOp.move rfl (.tmp rfl)) rfl rfl rfl (nB rfl) ?_
          refine AD.gpure (want := false) (.gf rfl) (fun hg428 => PureOp.nilPtr rfl (.gtmp rfl hg428)) rfl rfl rfl (nB rfl) ?_
          refine AD.gpure (want := false) (.gf rfl) (fun hg429 => PureOp.fieldPtr rfl (.gtmp rfl hg429) f13_) rfl rfl rfl (nB rfl) ?_
          refine AD.gpure (want := false) (.gf rfl) (fun hg430 => PureOp.loadPtr rfl (.gtmp rfl hg430) f2_ rfl rfl (nB rfl) (nB rfl)) rfl rfl rfl (nB rfl) ?_
          refine AD.gpure (want := false) (.gf rfl) (fun hg431 => PureOp.indexStrAt (i := v.2) rfl (.gtmp rfl hg431) f4_ (.gtmp rfl hg431) rfl (by have q := hg431; simp only [Bool.cond_true_left, Bool.cond_false_right, Bool.not_eq_true', Bool.or_eq_false_iff, Bool.not_eq_false', Bool.and_eq_true, Bool.not_not, decide_eq_true_eq, decide_eq_false_iff_not, inB] at q; omega)) rfl rfl rfl (nB rfl) ?_
          refine AD.gpure (want := false) (.gf rfl) (fun hg432 => PureOp.intOp rfl (.gtmp rfl hg432) .int rfl) rfl rfl rfl (nB rfl) ?_
          refine AD.gpure (want := true) (.tt rfl) (fun hg433 => PureOp.pick rfl (.gtmp rfl hg433) (fun _ => .bool) (fun hp435 => .gtmp rfl (and_mk hg433 (not_of hp435)))) rfl rfl rfl (nB rfl) ?_
          refine AD.pure (PureOp.pick rfl (.tmp rfl) (fun hp436 => .gtmp rfl hp436) (fun _ => .bool)) rfl rfl (nB rfl) ?_
          refine AD.nil ?_
          refine AW.cond (.tmp rfl) (fun hb438 => ?_) (fun hb438 => ?_)
          ·
           have hnl : (x355.2.2 = false ∧ v.2 < s.size ∧ (byteAt s v.2 = 42 ∨ byteAt s v.2 = 94)) := loopB hb438
           have hlt2 := hnl.2.1
           refine AW.skip ?_
           refine AW.block ?_
           refine AW.seq ?_
           refine AW.region ?_
           refine pu (.assign rfl .int) rfl rfl rfl ?_
           refine ARun.nil ?_
           refine AW.seq ?_
           refine AW.seq ?_
           refine AW.any (by kernel_rfl) (by kernel_rfl) ?_
           refine AD.pure (PureOp.move rfl (.tmp rfl)) rfl rfl (nB rfl) ?_
           refine AD.pure (PureOp.nilPtr rfl (.tmp rfl)) rfl rfl (nB rfl) ?_
           refine AD.pure (PureOp.fieldPtr rfl (.tmp rfl) f12_) rfl rfl (nB rfl) ?_
           refine AD.pure (PureOp.loadPtr rfl (.tmp rfl) f3_ rfl rfl (nB rfl) (nB rfl)) rfl rfl (nB rfl) ?_
           refine AD.pure (PureOp.move rfl (.tmp rfl)) rfl rfl (nB rfl) ?_
           refine AD.pure (PureOp.nilPtr rfl (.tmp rfl)) rfl rfl (nB rfl) ?_
           refine AD.pure (PureOp.fieldPtr rfl (.tmp rfl) f13_) rfl rfl (nB rfl) ?_
           refine AD.pure (PureOp.loadPtr rfl (.tmp rfl) f2_ rfl rfl (nB rfl) (nB rfl)) rfl rfl (nB rfl) ?_
           refine AD.pure (PureOp.indexStrAt (i := v.2) rfl (.tmp rfl) f4_ (.tmp rfl) rfl (by omega)) rfl rfl (nB rfl) ?_
           refine AD.pure (PureOp.intOp rfl (.tmp rfl) .int rfl) rfl rfl (nB rfl) ?_
           refine AD.nil ?_
           refine AW.cond (.tmp rfl) (fun hb439 => ?_) (fun hb439 => ?_)
           ·
            replace hb439 := of_decide_eq_true hb439
            have h94 := hb439
            refine AW.region ?_
            refine pu (.assign rfl .int) rfl rfl rfl ?_
            refine ARun.nil ?_
            refine AW.seq ?_
            refine AW.region ?_
            refine pu (.move rfl (.tmp rfl)) rfl rfl rfl ?_
            refine pu (.move rfl (.tmp rfl)) rfl rfl rfl ?_
            refine pu (.build (ys := [.int .i64 8, Fo.fv v.1]) (l := [.int .i64 0, .str ByteArray.empty, Fo.fv Fo.nil, Fo.fv Fo.nil]) (pl := [(0, 1), (1, 1), (2, 1), (3, 1)]) (z := (.agg #[.int .i64 0, .string ByteArray.empty, .pointer none, .pointer none])) rfl (by kernel_rfl) (by kernel_rfl) (fun _ _ _ => ⟨_, _, rfl, rfl, ⟨_, _, rfl, ⟨rfl, by decide⟩, ⟨_, _, rfl, rfl, ⟨_, _, rfl, rfl, rfl⟩⟩⟩⟩) ⟨(.tmp rfl), trivial, rfl, ⟨(.tmp rfl), (Fo.cell _), rfl, trivial⟩⟩ rfl) rfl rfl rfl ?_
            refine ARun.fresh (FreshOp.boxD (m := [.int .i64 8, .str ByteArray.empty, Fo.av v.1, Fo.av Fo.nil]) rfl (.tmp rfl) (SV.cells_of (by exact ⟨trivial, trivial, Fo.cell _, ⟨rfl, (fun _ e => by cases e), (fun _ e => by cases e)⟩, trivial⟩)) ⟨.int, .str, (Fo.fd _), .con, trivial⟩ (nB rfl)) rfl rfl (nB rfl) ?_
            refine pu (.assign rfl (.tmp rfl)) rfl rfl rfl ?_
            refine ARun.nil ?_
            refine AW.region ?_
            refine pu (.move rfl (.tmp rfl)) rfl rfl rfl ?_
            refine pu (.nilPtr rfl (.tmp rfl)) rfl rfl rfl ?_
            refine pu (.fieldPtr rfl (.tmp rfl) f13_) rfl rfl rfl ?_
            refine pu (.loadPtr rfl (.tmp rfl) f2_ rfl rfl (nB rfl) (nB rfl)) rfl rfl rfl ?_
            refine pu (.add (c := ((v.2 + 1 : Nat) : Int)) rfl (.tmp rfl) .int (by rw [wrap_id (by omega) (by omega)]; omega)) rfl rfl rfl ?_
            refine pu (.nilPtr rfl (.tmp rfl)) rfl rfl rfl ?_
            refine pu (.fieldPtr rfl (.tmp rfl) f13_) rfl rfl rfl ?_
            refine ARun.store rfl (.tmp rfl) (.tmp rfl) trivial rfl (nB rfl) f5_ rfl rfl ?_
            refine ARun.nil ?_
            exact ⟨((Fo.mk 8 ByteArray.empty v.1 Fo.nil), v.2 + 1), hv.s8 hnl.1 hnl.2.1 h94, by dsimp only; omega, ⟨⟨⟨_, rfl, rfl⟩, ⟨_, rfl, rfl⟩, trivial⟩, HeapLe.one rfl (HeapLe.one rfl trivial)⟩⟩
           ·
            replace hb439 := of_decide_eq_false hb439
            have h94 := hb439
            refine AW.skip ?_
            refine AW.seq ?_
            refine AW.region ?_
            refine pu (.move rfl (.tmp rfl)) rfl rfl rfl ?_
            refine pu (.move rfl (.tmp rfl)) rfl rfl rfl ?_
            refine pu (.build (ys := [.int .i64 7, Fo.fv v.1]) (l := [.int .i64 0, .str ByteArray.empty, Fo.fv Fo.nil, Fo.fv Fo.nil]) (pl := [(0, 1), (1, 1), (2, 1), (3, 1)]) (z := (.agg #[.int .i64 0, .string ByteArray.empty, .pointer none, .pointer none])) rfl (by kernel_rfl) (by kernel_rfl) (fun _ _ _ => ⟨_, _, rfl, rfl, ⟨_, _, rfl, ⟨rfl, by decide⟩, ⟨_, _, rfl, rfl, ⟨_, _, rfl, rfl, rfl⟩⟩⟩⟩) ⟨(.tmp rfl), trivial, rfl, ⟨(.tmp rfl), (Fo.cell _), rfl, trivial⟩⟩ rfl) rfl rfl rfl ?_
            refine ARun.fresh (FreshOp.boxD (m := [.int .i64 7, .str ByteArray.empty, Fo.av v.1, Fo.av Fo.nil]) rfl (.tmp rfl) (SV.cells_of (by exact ⟨trivial, trivial, Fo.cell _, ⟨rfl, (fun _ e => by cases e), (fun _ e => by cases e)⟩, trivial⟩)) ⟨.int, .str, (Fo.fd _), .con, trivial⟩ (nB rfl)) rfl rfl (nB rfl) ?_
            refine pu (.assign rfl (.tmp rfl)) rfl rfl rfl ?_
            refine ARun.nil ?_
            refine AW.region ?_
            refine pu (.move rfl (.tmp rfl)) rfl rfl rfl ?_
            refine pu (.nilPtr rfl (.tmp rfl)) rfl rfl rfl ?_
            refine pu (.fieldPtr rfl (.tmp rfl) f13_) rfl rfl rfl ?_
            refine pu (.loadPtr rfl (.tmp rfl) f2_ rfl rfl (nB rfl) (nB rfl)) rfl rfl rfl ?_
            refine pu (.add (c := ((v.2 + 1 : Nat) : Int)) rfl (.tmp rfl) .int (by rw [wrap_id (by omega) (by omega)]; omega)) rfl rfl rfl ?_
            refine pu (.nilPtr rfl (.tmp rfl)) rfl rfl rfl ?_
            refine pu (.fieldPtr rfl (.tmp rfl) f13_) rfl rfl rfl ?_
            refine ARun.store rfl (.tmp rfl) (.tmp rfl) trivial rfl (nB rfl) f5_ rfl rfl ?_
            refine ARun.nil ?_
            exact ⟨((Fo.mk 7 ByteArray.empty v.1 Fo.nil), v.2 + 1), hv.s7 hnl.1 hnl.2.1 (hnl.2.2.resolve_right h94), by dsimp only; omega, ⟨⟨⟨_, rfl, rfl⟩, ⟨_, rfl, rfl⟩, trivial⟩, HeapLe.one rfl (HeapLe.one rfl trivial)⟩⟩
          ·
           have hnl : ¬ (x355.2.2 = false ∧ v.2 < s.size ∧ (byteAt s v.2 = 42 ∨ byteAt s v.2 = 94)) := loopB hb438
           refine AW.exit ?_
           refine AW.seq ?_
           refine AW.region ?_
           refine pu (.move rfl (.tmp rfl)) rfl rfl rfl ?_
           refine pu (.assign rfl (.tmp rfl)) rfl rfl rfl ?_
           refine ARun.nil ?_
           exact AW.ret (show ∃ x t, _ ∧ ResN _ _ [.tmp 4] t ∧ _ ∧ _ ∧ _ from ⟨(v.1, v.2, x355.2.2), _, (gForm_step h0 hy (hv.ret hnl)), (.inl (.inl ⟨_, rfl, .tmp rfl⟩)), (Fo.fp _ _), rfl, rfl⟩)
        ·
         replace hb354 := not_f hb354
         refine AW.skip ?_
         refine AW.seq ?_
         refine AW.region ?_
         refine pu (.move rfl (.tmp rfl)) rfl rfl rfl ?_
         refine pu (.nilPtr rfl (.tmp rfl)) rfl rfl rfl ?_
         refine pu (.fieldPtr rfl (.tmp rfl) f14_) rfl rfl rfl ?_
         refine pu (.loadPtr rfl (.tmp rfl) f62_ rfl rfl (nB rfl) (nB rfl)) rfl rfl rfl ?_
         refine pu (.not rfl (.tmp rfl)) rfl rfl rfl ?_
         refine ARun.nil ?_
         refine AW.cond (.tmp rfl) (fun hb440 => ?_) (fun hb440 => ?_)
         ·
          exact absurd (hb440) (by rw [hb354]; decide)
          --end
         ·
          clear hb440
          refine AW.skip ?_
          refine AW.seq ?_
          refine AW.block ?_
          have hy : ((Fo.mk 5 ByteArray.empty x179.1 (Fo.mk 1 ByteArray.empty Fo.nil Fo.nil)), x179.2.1, x179.2.2) = gAtom (gForm s n) s p d := by unfold gAtom; rw [if_neg hb6, if_neg hb47, if_neg hb88, if_neg hl, if_pos hbr]; exact (gP3_f (b := (gBad, x179.2)) (by rw [if_neg hb181])  hb354).trans ((gP2_f hb354).trans (gPair_a hc180 (fun e => hb181 e.1)))
          refine AW.freeze 7 0 4 _ [.int .i64 5, .str ByteArray.empty, Fo.av x179.1, Fo.av (Fo.mk 1 ByteArray.empty Fo.nil Fo.nil)] rfl rfl ⟨.int, .str, (Fo.fd _), .frs, trivial⟩ rfl (nB rfl) ?_
          refine AW.loop (ι := Fo × Nat) (fun v => ⟨[(0, .one (.ptr 1000000 3 0 0)), (7, .one (Fo.fv v.1))], [(1000000, .cells [.str s, .int .i64 (v.2 : Int), .bool x179.2.2]), (1000001, .trees kk YY)]⟩) (fun v => GI s x179.2.2 (gStars s ((Fo.mk 5 ByteArray.empty x179.1 (Fo.mk 1 ByteArray.empty Fo.nil Fo.nil)), x179.2.1, x179.2.2)) v) (fun v => s.size - v.2) ((Fo.mk 5 ByteArray.empty x179.1 (Fo.mk 1 ByteArray.empty Fo.nil Fo.nil)), x179.2.1) (GI.start (by omega)) ⟨⟨⟨_, rfl, rfl⟩, ⟨_, rfl, rfl⟩, trivial⟩, HeapLe.one rfl (HeapLe.one rfl trivial)⟩ ?_
          intro v hv
          have hvle := hv.le
          refine AW.seq ?_
          refine AW.seq ?_
          refine AW.any (by kernel_rfl) (by kernel_rfl) ?_
          refine AD.pure (PureOp.move rfl (.tmp rfl)) rfl rfl (nB rfl) ?_
          refine AD.pure (PureOp.nilPtr rfl (.tmp rfl)) rfl rfl (nB rfl) ?_
          refine AD.pure (PureOp.fieldPtr rfl (.tmp rfl) f14_) rfl rfl (nB rfl) ?_
          refine AD.pure (PureOp.loadPtr rfl (.tmp rfl) f62_ rfl rfl (nB rfl) (nB rfl)) rfl rfl (nB rfl) ?_
          refine AD.pure (PureOp.not rfl (.tmp rfl)) rfl rfl (nB rfl) ?_
          refine AD.pure (PureOp.move rfl (.tmp rfl)) rfl rfl (nB rfl) ?_
          refine AD.gpure (want := true) (.tt rfl) (fun hg441 => PureOp.move rfl (.tmp rfl)) rfl rfl rfl (nB rfl) ?_
          refine AD.gpure (want := true) (.tt rfl) (fun hg442 => PureOp.nilPtr rfl (.gtmp rfl hg442)) rfl rfl rfl (nB rfl) ?_
          refine AD.gpure (want := true) (.tt rfl) (fun hg443 => PureOp.fieldPtr rfl (.gtmp rfl hg443) f13_) rfl rfl rfl (nB rfl) ?_
          refine AD.gpure (want := true) (.tt rfl) (fun hg444 => PureOp.loadPtr rfl (.gtmp rfl hg444) f2_ rfl rfl (nB rfl) (nB rfl)) rfl rfl rfl (nB rfl) ?_
          refine AD.gpure (want := true) (.tt rfl) (fun hg445 => PureOp.move rfl (.tmp rfl)) rfl rfl rfl (nB rfl) ?_
          refine AD.gpure (want := true) (.tt rfl) (fun hg446 => PureOp.nilPtr rfl (.gtmp rfl hg446)) rfl rfl rfl (nB rfl) ?_
          refine AD.gpure (want := true) (.tt rfl) (fun hg447 => PureOp.fieldPtr rfl (.gtmp rfl hg447) f12_) rfl rfl rfl (nB rfl) ?_
          refine AD.gpure (want := true) (.tt rfl) (fun hg448 => PureOp.loadPtr rfl (.gtmp rfl hg448) f3_ rfl rfl (nB rfl) (nB rfl)) rfl rfl rfl (nB rfl) ?_
          refine AD.gpure (want := true) (.tt rfl) (fun hg449 => PureOp.lenStr rfl (.gtmp rfl hg449) f4_) rfl rfl rfl (nB rfl) ?_
          refine AD.gpure (want := true) (.tt rfl) (fun hg450 => PureOp.intOp rfl (.gtmp rfl hg450) (.gtmp rfl hg450) rfl) rfl rfl rfl (nB rfl) ?_
          refine AD.pure (PureOp.pick rfl (.tmp rfl) (fun hp451 => .gtmp rfl hp451) (fun _ => .bool)) rfl rfl (nB rfl) ?_
          refine AD.pure (PureOp.move rfl (.tmp rfl)) rfl rfl (nB rfl) ?_
          refine AD.gpure (want := true) (.tt rfl) (fun hg453 => PureOp.move rfl (.tmp rfl)) rfl rfl rfl (nB rfl) ?_
          refine AD.gpure (want := true) (.tt rfl) (fun hg454 => PureOp.nilPtr rfl (.gtmp rfl hg454)) rfl rfl rfl (nB rfl) ?_
          refine AD.gpure (want := true) (.tt rfl) (fun hg455 => PureOp.fieldPtr rfl (.gtmp rfl hg455) f12_) rfl rfl rfl (nB rfl) ?_
          refine AD.gpure (want := true) (.tt rfl) (fun hg456 => PureOp.loadPtr rfl (.gtmp rfl hg456) f3_ rfl rfl (nB rfl) (nB rfl)) rfl rfl rfl (nB rfl) ?_
          refine AD.gpure (want := true) (.tt rfl) (fun hg457 => PureOp.move rfl (.tmp rfl)) rfl rfl rfl (nB rfl) ?_
          refine AD.gpure (want := true) (.tt rfl) (fun hg458 => PureOp.nilPtr rfl (.gtmp rfl hg458)) rfl rfl rfl (nB rfl) ?_
          refine AD.gpure (want := true) (.tt rfl) (fun hg459 => PureOp.fieldPtr rfl (.gtmp rfl hg459) f13_) rfl rfl rfl (nB rfl) ?_
          refine AD.gpure (want := true) (.tt rfl) (fun hg460 => PureOp.loadPtr rfl (.gtmp rfl hg460) f2_ rfl rfl (nB rfl) (nB rfl)) rfl rfl rfl (nB rfl) ?_
          refine AD.gpure (want := true) (.tt rfl) (fun hg461 => PureOp.indexStrAt (i := v.2) rfl (.gtmp rfl hg461) f4_ (.gtmp rfl hg461) rfl (by have q := hg461; simp only [Bool.cond_true_left, Bool.cond_false_right, Bool.not_eq_true', Bool.or_eq_false_iff, Bool.not_eq_false', Bool.and_eq_true, Bool.not_not, decide_eq_true_eq, decide_eq_false_iff_not, inB] at q; omega)) rfl rfl rfl (nB rfl) ?_
          refine AD.gpure (want := true) (.tt rfl) (fun hg462 => PureOp.intOp rfl (.gtmp rfl hg462) .int rfl) rfl rfl rfl (nB rfl) ?_
          refine AD.gpure (want := true) (.tt rfl) (fun hg463 => PureOp.move rfl (.gtmp rfl hg463)) rfl rfl rfl (nB rfl) ?_
          refine AD.gpure (want := false) (.gf rfl) (fun hg464 => PureOp.move rfl (.tmp rfl)) rfl rfl rfl (nB rfl) ?_
          refine AD.gpure (want := false) (.gf rfl) (fun hg465 => PureOp.nilPtr rfl (.gtmp rfl hg465)) rfl rfl rfl (nB rfl) ?_
          refine AD.gpure (want := false) (.gf rfl) (fun hg466 => PureOp.fieldPtr rfl (.gtmp rfl hg466) f12_) rfl rfl rfl (nB rfl) ?_
          refine AD.gpure (want := false) (.gf rfl) (fun hg467 => PureOp.loadPtr rfl (.gtmp rfl hg467) f3_ rfl rfl (nB rfl) (nB rfl)) rfl rfl rfl (nB rfl) ?_
          refine AD.gpure (want := false) (.gf rfl) (fun hg468 => PureOp.move rfl (.tmp rfl)) rfl rfl rfl (nB rfl) ?_
          refine AD.gpure (want := false) (.gf rfl) (fun hg469 => PureOp.nilPtr rfl (.gtmp rfl hg469)) rfl rfl rfl (nB rfl) ?_
          refine AD.gpure (want := false) (.gf rfl) (fun hg470 => PureOp.fieldPtr rfl (.gtmp rfl hg470) f13_) rfl rfl rfl (nB rfl) ?_
          refine AD.gpure (want := false) (.gf rfl) (fun hg471 => PureOp.loadPtr rfl (.gtmp rfl hg471) f2_ rfl rfl (nB rfl) (nB rfl)) rfl rfl rfl (nB rfl) ?_
          refine AD.gpure (want := false) (.gf rfl) (fun hg472 => PureOp.indexStrAt (i := v.2) rfl (.gtmp rfl hg472) f4_ (.gtmp rfl hg472) rfl (by have q := hg472; simp only [Bool.cond_true_left, Bool.cond_false_right, Bool.not_eq_true', Bool.or_eq_false_iff, Bool.not_eq_false', Bool.and_eq_true, Bool.not_not, decide_eq_true_eq, decide_eq_false_iff_not, inB] at q; omega)) rfl rfl rfl (nB rfl) ?_
          refine AD.gpure (want := false) (.gf rfl) (fun hg473 => PureOp.intOp rfl (.gtmp rfl hg473) .int rfl) rfl rfl rfl (nB rfl) ?_
          refine AD.gpure (want := true) (.tt rfl) (fun hg474 => PureOp.pick rfl (.gtmp rfl hg474) (fun _ => .bool) (fun hp476 => .gtmp rfl (and_mk hg474 (not_of hp476)))) rfl rfl rfl (nB rfl) ?_
          refine AD.pure (PureOp.pick rfl (.tmp rfl) (fun hp477 => .gtmp rfl hp477) (fun _ => .bool)) rfl rfl (nB rfl) ?_
          refine AD.nil ?_
          refine AW.cond (.tmp rfl) (fun hb479 => ?_) (fun hb479 => ?_)
          ·
           have hnl : (x179.2.2 = false ∧ v.2 < s.size ∧ (byteAt s v.2 = 42 ∨ byteAt s v.2 = 94)) := loopB hb479
           have hlt2 := hnl.2.1
           refine AW.skip ?_
           refine AW.block ?_
           refine AW.seq ?_
           refine AW.region ?_
           refine pu (.assign rfl .int) rfl rfl rfl ?_
           refine ARun.nil ?_
           refine AW.seq ?_
           refine AW.seq ?_
           refine AW.any (by kernel_rfl) (by kernel_rfl) ?_
           refine AD.pure (PureOp.move rfl (.tmp rfl)) rfl rfl (nB rfl) ?_
           refine AD.pure (PureOp.nilPtr rfl (.tmp rfl)) rfl rfl (nB rfl) ?_
           refine AD.pure (PureOp.fieldPtr rfl (.tmp rfl) f12_) rfl rfl (nB rfl) ?_
           refine AD.pure (PureOp.loadPtr rfl (.tmp rfl) f3_ rfl rfl (nB rfl) (nB rfl)) rfl rfl (nB rfl) ?_
           refine AD.pure (PureOp.move rfl (.tmp rfl)) rfl rfl (nB rfl) ?_
           refine AD.pure (PureOp.nilPtr rfl (.tmp rfl)) rfl rfl (nB rfl) ?_
           refine AD.pure (PureOp.fieldPtr rfl (.tmp rfl) f13_) rfl rfl (nB rfl) ?_
           refine AD.pure (PureOp.loadPtr rfl (.tmp rfl) f2_ rfl rfl (nB rfl) (nB rfl)) rfl rfl (nB rfl) ?_
           refine AD.pure (PureOp.indexStrAt (i := v.2) rfl (.tmp rfl) f4_ (.tmp rfl) rfl (by omega)) rfl rfl (nB rfl) ?_
           refine AD.pure (PureOp.intOp rfl (.tmp rfl) .int rfl) rfl rfl (nB rfl) ?_
           refine AD.nil ?_
           refine AW.cond (.tmp rfl) (fun hb480 => ?_) (fun hb480 => ?_)
           ·
            replace hb480 := of_decide_eq_true hb480
            have h94 := hb480
            refine AW.region ?_
            refine pu (.assign rfl .int) rfl rfl rfl ?_
            refine ARun.nil ?_
            refine AW.seq ?_
            refine AW.region ?_
            refine pu (.move rfl (.tmp rfl)) rfl rfl rfl ?_
            refine pu (.move rfl (.tmp rfl)) rfl rfl rfl ?_
            refine pu (.build (ys := [.int .i64 8, Fo.fv v.1]) (l := [.int .i64 0, .str ByteArray.empty, Fo.fv Fo.nil, Fo.fv Fo.nil]) (pl := [(0, 1), (1, 1), (2, 1), (3, 1)]) (z := (.agg #[.int .i64 0, .string ByteArray.empty, .pointer none, .pointer none])) rfl (by kernel_rfl) (by kernel_rfl) (fun _ _ _ => ⟨_, _, rfl, rfl, ⟨_, _, rfl, ⟨rfl, by decide⟩, ⟨_, _, rfl, rfl, ⟨_, _, rfl, rfl, rfl⟩⟩⟩⟩) ⟨(.tmp rfl), trivial, rfl, ⟨(.tmp rfl), (Fo.cell _), rfl, trivial⟩⟩ rfl) rfl rfl rfl ?_
            refine ARun.fresh (FreshOp.boxD (m := [.int .i64 8, .str ByteArray.empty, Fo.av v.1, Fo.av Fo.nil]) rfl (.tmp rfl) (SV.cells_of (by exact ⟨trivial, trivial, Fo.cell _, ⟨rfl, (fun _ e => by cases e), (fun _ e => by cases e)⟩, trivial⟩)) ⟨.int, .str, (Fo.fd _), .con, trivial⟩ (nB rfl)) rfl rfl (nB rfl) ?_
            refine pu (.assign rfl (.tmp rfl)) rfl rfl rfl ?_
            refine ARun.nil ?_
            refine AW.region ?_
            refine pu (.move rfl (.tmp rfl)) rfl rfl rfl ?_
            refine pu (.nilPtr rfl (.tmp rfl)) rfl rfl rfl ?_
            refine pu (.fieldPtr rfl (.tmp rfl) f13_) rfl rfl rfl ?_
            refine pu (.loadPtr rfl (.tmp rfl) f2_ rfl rfl (nB rfl) (nB rfl)) rfl rfl rfl ?_
            refine pu (.add (c := ((v.2 + 1 : Nat) : Int)) rfl (.tmp rfl) .int (by rw [wrap_id (by omega) (by omega)]; omega)) rfl rfl rfl ?_
            refine pu (.nilPtr rfl (.tmp rfl)) rfl rfl rfl ?_
            refine pu (.fieldPtr rfl (.tmp rfl) f13_) rfl rfl rfl ?_
            refine ARun.store rfl (.tmp rfl) (.tmp rfl) trivial rfl (nB rfl) f5_ rfl rfl ?_
            refine ARun.nil ?_
            exact ⟨((Fo.mk 8 ByteArray.empty v.1 Fo.nil), v.2 + 1), hv.s8 hnl.1 hnl.2.1 h94, by dsimp only; omega, ⟨⟨⟨_, rfl, rfl⟩, ⟨_, rfl, rfl⟩, trivial⟩, HeapLe.one rfl (HeapLe.one rfl trivial)⟩⟩
           ·
            replace hb480 := of_decide_eq_false hb480
            have h94 := hb480
            refine AW.skip ?_
            refine AW.seq ?_
            refine AW.region ?_
            refine pu (.move rfl (.tmp rfl)) rfl rfl rfl ?_
            refine pu (.move rfl (.tmp rfl)) rfl rfl rfl ?_
            refine pu (.build (ys := [.int .i64 7, Fo.fv v.1]) (l := [.int .i64 0, .str ByteArray.empty, Fo.fv Fo.nil, Fo.fv Fo.nil]) (pl := [(0, 1), (1, 1), (2, 1), (3, 1)]) (z := (.agg #[.int .i64 0, .string ByteArray.empty, .pointer none, .pointer none])) rfl (by kernel_rfl) (by kernel_rfl) (fun _ _ _ => ⟨_, _, rfl, rfl, ⟨_, _, rfl, ⟨rfl, by decide⟩, ⟨_, _, rfl, rfl, ⟨_, _, rfl, rfl, rfl⟩⟩⟩⟩) ⟨(.tmp rfl), trivial, rfl, ⟨(.tmp rfl), (Fo.cell _), rfl, trivial⟩⟩ rfl) rfl rfl rfl ?_
            refine ARun.fresh (FreshOp.boxD (m := [.int .i64 7, .str ByteArray.empty, Fo.av v.1, Fo.av Fo.nil]) rfl (.tmp rfl) (SV.cells_of (by exact ⟨trivial, trivial, Fo.cell _, ⟨rfl, (fun _ e => by cases e), (fun _ e => by cases e)⟩, trivial⟩)) ⟨.int, .str, (Fo.fd _), .con, trivial⟩ (nB rfl)) rfl rfl (nB rfl) ?_
            refine pu (.assign rfl (.tmp rfl)) rfl rfl rfl ?_
            refine ARun.nil ?_
            refine AW.region ?_
            refine pu (.move rfl (.tmp rfl)) rfl rfl rfl ?_
            refine pu (.nilPtr rfl (.tmp rfl)) rfl rfl rfl ?_
            refine pu (.fieldPtr rfl (.tmp rfl) f13_) rfl rfl rfl ?_
            refine pu (.loadPtr rfl (.tmp rfl) f2_ rfl rfl (nB rfl) (nB rfl)) rfl rfl rfl ?_
            refine pu (.add (c := ((v.2 + 1 : Nat) : Int)) rfl (.tmp rfl) .int (by rw [wrap_id (by omega) (by omega)]; omega)) rfl rfl rfl ?_
            refine pu (.nilPtr rfl (.tmp rfl)) rfl rfl rfl ?_
            refine pu (.fieldPtr rfl (.tmp rfl) f13_) rfl rfl rfl ?_
            refine ARun.store rfl (.tmp rfl) (.tmp rfl) trivial rfl (nB rfl) f5_ rfl rfl ?_
            refine ARun.nil ?_
            exact ⟨((Fo.mk 7 ByteArray.empty v.1 Fo.nil), v.2 + 1), hv.s7 hnl.1 hnl.2.1 (hnl.2.2.resolve_right h94), by dsimp only; omega, ⟨⟨⟨_, rfl, rfl⟩, ⟨_, rfl, rfl⟩, trivial⟩, HeapLe.one rfl (HeapLe.one rfl trivial)⟩⟩
          ·
           have hnl : ¬ (x179.2.2 = false ∧ v.2 < s.size ∧ (byteAt s v.2 = 42 ∨ byteAt s v.2 = 94)) := loopB hb479
           refine AW.exit ?_
           refine AW.seq ?_
           refine AW.region ?_
           refine pu (.move rfl (.tmp rfl)) rfl rfl rfl ?_
           refine pu (.assign rfl (.tmp rfl)) rfl rfl rfl ?_
           refine ARun.nil ?_
           exact AW.ret (show ∃ x t, _ ∧ ResN _ _ [.tmp 4] t ∧ _ ∧ _ ∧ _ from ⟨(v.1, v.2, x179.2.2), _, (gForm_step h0 hy (hv.ret hnl)), (.inl (.inl ⟨_, rfl, .tmp rfl⟩)), (Fo.fp _ _), rfl, rfl⟩)
      ·
       have hbr := bracB hb178
       simp only [if_true, if_false, Bool.false_eq_true] at hbr
       refine AW.region ?_
       refine pu (.move rfl (.tmp rfl)) rfl rfl rfl ?_
       refine pu (.nilPtr rfl (.tmp rfl)) rfl rfl rfl ?_
       refine pu (.fieldPtr rfl (.tmp rfl) f14_) rfl rfl rfl ?_
       refine ARun.store rfl (.tmp rfl) .bool trivial rfl (nB rfl) f15_ rfl rfl ?_
       refine ARun.nil ?_
       refine AW.seq ?_
       refine AW.block ?_
       have hy : ((Fo.mk 1 ByteArray.empty Fo.nil Fo.nil), p, true) = gAtom (gForm s n) s p d := by unfold gAtom; rw [if_neg hb6, if_neg hb47, if_neg hb88, if_neg hl, if_neg hbr]; try rfl
       refine AW.loop (ι := Fo × Nat) (fun v => ⟨[(0, .one (.ptr 1000000 3 0 0)), (7, .one (Fo.fv v.1))], [(1000000, .cells [.str s, .int .i64 (v.2 : Int), .bool true]), (1000001, .trees kk YY)]⟩) (fun v => GI s true (gStars s ((Fo.mk 1 ByteArray.empty Fo.nil Fo.nil), p, true)) v) (fun v => s.size - v.2) ((Fo.mk 1 ByteArray.empty Fo.nil Fo.nil), p) (GI.start (by omega)) ⟨⟨⟨_, rfl, rfl⟩, ⟨_, rfl, rfl⟩, trivial⟩, HeapLe.one rfl (HeapLe.one rfl trivial)⟩ ?_
       intro v hv
       have hvle := hv.le
       refine AW.seq ?_
       refine AW.seq ?_
       refine AW.any (by kernel_rfl) (by kernel_rfl) ?_
       refine AD.pure (PureOp.move rfl (.tmp rfl)) rfl rfl (nB rfl) ?_
       refine AD.pure (PureOp.nilPtr rfl (.tmp rfl)) rfl rfl (nB rfl) ?_
       refine AD.pure (PureOp.fieldPtr rfl (.tmp rfl) f14_) rfl rfl (nB rfl) ?_
       refine AD.pure (PureOp.loadPtr rfl (.tmp rfl) f62_ rfl rfl (nB rfl) (nB rfl)) rfl rfl (nB rfl) ?_
       refine AD.pure (PureOp.not rfl (.tmp rfl)) rfl rfl (nB rfl) ?_
       refine AD.pure (PureOp.move rfl (.tmp rfl)) rfl rfl (nB rfl) ?_
       refine AD.gpure (want := true) (.tt rfl) (fun hg481 => PureOp.move rfl (.tmp rfl)) rfl rfl rfl (nB rfl) ?_
       refine AD.gpure (want := true) (.tt rfl) (fun hg482 => PureOp.nilPtr rfl (.gtmp rfl hg482)) rfl rfl rfl (nB rfl) ?_
       refine AD.gpure (want := true) (.tt rfl) (fun hg483 => PureOp.fieldPtr rfl (.gtmp rfl hg483) f13_) rfl rfl rfl (nB rfl) ?_
       refine AD.gpure (want := true) (.tt rfl) (fun hg484 => PureOp.loadPtr rfl (.gtmp rfl hg484) f2_ rfl rfl (nB rfl) (nB rfl)) rfl rfl rfl (nB rfl) ?_
       refine AD.gpure (want := true) (.tt rfl) (fun hg485 => PureOp.move rfl (.tmp rfl)) rfl rfl rfl (nB rfl) ?_
       refine AD.gpure (want := true) (.tt rfl) (fun hg486 => PureOp.nilPtr rfl (.gtmp rfl hg486)) rfl rfl rfl (nB rfl) ?_
       refine AD.gpure (want := true) (.tt rfl) (fun hg487 => PureOp.fieldPtr rfl (.gtmp rfl hg487) f12_) rfl rfl rfl (nB rfl) ?_
       refine AD.gpure (want := true) (.tt rfl) (fun hg488 => PureOp.loadPtr rfl (.gtmp rfl hg488) f3_ rfl rfl (nB rfl) (nB rfl)) rfl rfl rfl (nB rfl) ?_
       refine AD.gpure (want := true) (.tt rfl) (fun hg489 => PureOp.lenStr rfl (.gtmp rfl hg489) f4_) rfl rfl rfl (nB rfl) ?_
       refine AD.gpure (want := true) (.tt rfl) (fun hg490 => PureOp.intOp rfl (.gtmp rfl hg490) (.gtmp rfl hg490) rfl) rfl rfl rfl (nB rfl) ?_
       refine AD.pure (PureOp.pick rfl (.tmp rfl) (fun hp491 => .gtmp rfl hp491) (fun _ => .bool)) rfl rfl (nB rfl) ?_
       refine AD.pure (PureOp.move rfl (.tmp rfl)) rfl rfl (nB rfl) ?_
       refine AD.gpure (want := true) (.tt rfl) (fun hg493 => PureOp.move rfl (.tmp rfl)) rfl rfl rfl (nB rfl) ?_
       refine AD.gpure (want := true) (.tt rfl) (fun hg494 => PureOp.nilPtr rfl (.gtmp rfl hg494)) rfl rfl rfl (nB rfl) ?_
       refine AD.gpure (want := true) (.tt rfl) (fun hg495 => PureOp.fieldPtr rfl (.gtmp rfl hg495) f12_) rfl rfl rfl (nB rfl) ?_
       refine AD.gpure (want := true) (.tt rfl) (fun hg496 => PureOp.loadPtr rfl (.gtmp rfl hg496) f3_ rfl rfl (nB rfl) (nB rfl)) rfl rfl rfl (nB rfl) ?_
       refine AD.gpure (want := true) (.tt rfl) (fun hg497 => PureOp.move rfl (.tmp rfl)) rfl rfl rfl (nB rfl) ?_
       refine AD.gpure (want := true) (.tt rfl) (fun hg498 => PureOp.nilPtr rfl (.gtmp rfl hg498)) rfl rfl rfl (nB rfl) ?_
       refine AD.gpure (want := true) (.tt rfl) (fun hg499 => PureOp.fieldPtr rfl (.gtmp rfl hg499) f13_) rfl rfl rfl (nB rfl) ?_
       refine AD.gpure (want := true) (.tt rfl) (fun hg500 => PureOp.loadPtr rfl (.gtmp rfl hg500) f2_ rfl rfl (nB rfl) (nB rfl)) rfl rfl rfl (nB rfl) ?_
       refine AD.gpure (want := true) (.tt rfl) (fun hg501 => PureOp.indexStrAt (i := v.2) rfl (.gtmp rfl hg501) f4_ (.gtmp rfl hg501) rfl (by have q := hg501; simp only [Bool.cond_true_left, Bool.cond_false_right, Bool.not_eq_true', Bool.or_eq_false_iff, Bool.not_eq_false', Bool.and_eq_true, Bool.not_not, decide_eq_true_eq, decide_eq_false_iff_not, inB] at q; omega)) rfl rfl rfl (nB rfl) ?_
       refine AD.gpure (want := true) (.tt rfl) (fun hg502 => PureOp.intOp rfl (.gtmp rfl hg502) .int rfl) rfl rfl rfl (nB rfl) ?_
       refine AD.gpure (want := true) (.tt rfl) (fun hg503 => PureOp.move rfl (.gtmp rfl hg503)) rfl rfl rfl (nB rfl) ?_
       refine AD.gpure (want := false) (.gf rfl) (fun hg504 => PureOp.move rfl (.tmp rfl)) rfl rfl rfl (nB rfl) ?_
       refine AD.gpure (want := false) (.gf rfl) (fun hg505 => PureOp.nilPtr rfl (.gtmp rfl hg505)) rfl rfl rfl (nB rfl) ?_
       refine AD.gpure (want := false) (.gf rfl) (fun hg506 => PureOp.fieldPtr rfl (.gtmp rfl hg506) f12_) rfl rfl rfl (nB rfl) ?_
       refine AD.gpure (want := false) (.gf rfl) (fun hg507 => PureOp.loadPtr rfl (.gtmp rfl hg507) f3_ rfl rfl (nB rfl) (nB rfl)) rfl rfl rfl (nB rfl) ?_
       refine AD.gpure (want := false) (.gf rfl) (fun hg508 => PureOp.move rfl (.tmp rfl)) rfl rfl rfl (nB rfl) ?_
       refine AD.gpure (want := false) (.gf rfl) (fun hg509 => PureOp.nilPtr rfl (.gtmp rfl hg509)) rfl rfl rfl (nB rfl) ?_
       refine AD.gpure (want := false) (.gf rfl) (fun hg510 => PureOp.fieldPtr rfl (.gtmp rfl hg510) f13_) rfl rfl rfl (nB rfl) ?_
       refine AD.gpure (want := false) (.gf rfl) (fun hg511 => PureOp.loadPtr rfl (.gtmp rfl hg511) f2_ rfl rfl (nB rfl) (nB rfl)) rfl rfl rfl (nB rfl) ?_
       refine AD.gpure (want := false) (.gf rfl) (fun hg512 => PureOp.indexStrAt (i := v.2) rfl (.gtmp rfl hg512) f4_ (.gtmp rfl hg512) rfl (by have q := hg512; simp only [Bool.cond_true_left, Bool.cond_false_right, Bool.not_eq_true', Bool.or_eq_false_iff, Bool.not_eq_false', Bool.and_eq_true, Bool.not_not, decide_eq_true_eq, decide_eq_false_iff_not, inB] at q; omega)) rfl rfl rfl (nB rfl) ?_
       refine AD.gpure (want := false) (.gf rfl) (fun hg513 => PureOp.intOp rfl (.gtmp rfl hg513) .int rfl) rfl rfl rfl (nB rfl) ?_
       refine AD.gpure (want := true) (.tt rfl) (fun hg514 => PureOp.pick rfl (.gtmp rfl hg514) (fun _ => .bool) (fun hp516 => .gtmp rfl (and_mk hg514 (not_of hp516)))) rfl rfl rfl (nB rfl) ?_
       refine AD.pure (PureOp.pick rfl (.tmp rfl) (fun hp517 => .gtmp rfl hp517) (fun _ => .bool)) rfl rfl (nB rfl) ?_
       refine AD.nil ?_
       refine AW.cond (.tmp rfl) (fun hb519 => ?_) (fun hb519 => ?_)
       ·
        have hnl : (true = false ∧ v.2 < s.size ∧ (byteAt s v.2 = 42 ∨ byteAt s v.2 = 94)) := loopB hb519
        have hlt2 := hnl.2.1
        refine AW.skip ?_
        refine AW.block ?_
        refine AW.seq ?_
        refine AW.region ?_
        refine pu (.assign rfl .int) rfl rfl rfl ?_
        refine ARun.nil ?_
        refine AW.seq ?_
        refine AW.seq ?_
        refine AW.any (by kernel_rfl) (by kernel_rfl) ?_
        refine AD.pure (PureOp.move rfl (.tmp rfl)) rfl rfl (nB rfl) ?_
        refine AD.pure (PureOp.nilPtr rfl (.tmp rfl)) rfl rfl (nB rfl) ?_
        refine AD.pure (PureOp.fieldPtr rfl (.tmp rfl) f12_) rfl rfl (nB rfl) ?_
        refine AD.pure (PureOp.loadPtr rfl (.tmp rfl) f3_ rfl rfl (nB rfl) (nB rfl)) rfl rfl (nB rfl) ?_
        refine AD.pure (PureOp.move rfl (.tmp rfl)) rfl rfl (nB rfl) ?_
        refine AD.pure (PureOp.nilPtr rfl (.tmp rfl)) rfl rfl (nB rfl) ?_
        refine AD.pure (PureOp.fieldPtr rfl (.tmp rfl) f13_) rfl rfl (nB rfl) ?_
        refine AD.pure (PureOp.loadPtr rfl (.tmp rfl) f2_ rfl rfl (nB rfl) (nB rfl)) rfl rfl (nB rfl) ?_
        refine AD.pure (PureOp.indexStrAt (i := v.2) rfl (.tmp rfl) f4_ (.tmp rfl) rfl (by omega)) rfl rfl (nB rfl) ?_
        refine AD.pure (PureOp.intOp rfl (.tmp rfl) .int rfl) rfl rfl (nB rfl) ?_
        refine AD.nil ?_
        refine AW.cond (.tmp rfl) (fun hb520 => ?_) (fun hb520 => ?_)
        ·
         replace hb520 := of_decide_eq_true hb520
         have h94 := hb520
         refine AW.region ?_
         refine pu (.assign rfl .int) rfl rfl rfl ?_
         refine ARun.nil ?_
         refine AW.seq ?_
         refine AW.region ?_
         refine pu (.move rfl (.tmp rfl)) rfl rfl rfl ?_
         refine pu (.move rfl (.tmp rfl)) rfl rfl rfl ?_
         refine pu (.build (ys := [.int .i64 8, Fo.fv v.1]) (l := [.int .i64 0, .str ByteArray.empty, Fo.fv Fo.nil, Fo.fv Fo.nil]) (pl := [(0, 1), (1, 1), (2, 1), (3, 1)]) (z := (.agg #[.int .i64 0, .string ByteArray.empty, .pointer none, .pointer none])) rfl (by kernel_rfl) (by kernel_rfl) (fun _ _ _ => ⟨_, _, rfl, rfl, ⟨_, _, rfl, ⟨rfl, by decide⟩, ⟨_, _, rfl, rfl, ⟨_, _, rfl, rfl, rfl⟩⟩⟩⟩) ⟨(.tmp rfl), trivial, rfl, ⟨(.tmp rfl), (Fo.cell _), rfl, trivial⟩⟩ rfl) rfl rfl rfl ?_
         refine ARun.fresh (FreshOp.boxD (m := [.int .i64 8, .str ByteArray.empty, Fo.av v.1, Fo.av Fo.nil]) rfl (.tmp rfl) (SV.cells_of (by exact ⟨trivial, trivial, Fo.cell _, ⟨rfl, (fun _ e => by cases e), (fun _ e => by cases e)⟩, trivial⟩)) ⟨.int, .str, (Fo.fd _), .con, trivial⟩ (nB rfl)) rfl rfl (nB rfl) ?_
         refine pu (.assign rfl (.tmp rfl)) rfl rfl rfl ?_
         refine ARun.nil ?_
         refine AW.region ?_
         refine pu (.move rfl (.tmp rfl)) rfl rfl rfl ?_
         refine pu (.nilPtr rfl (.tmp rfl)) rfl rfl rfl ?_
         refine pu (.fieldPtr rfl (.tmp rfl) f13_) rfl rfl rfl ?_
         refine pu (.loadPtr rfl (.tmp rfl) f2_ rfl rfl (nB rfl) (nB rfl)) rfl rfl rfl ?_
         refine pu (.add (c := ((v.2 + 1 : Nat) : Int)) rfl (.tmp rfl) .int (by rw [wrap_id (by omega) (by omega)]; omega)) rfl rfl rfl ?_
         refine pu (.nilPtr rfl (.tmp rfl)) rfl rfl rfl ?_
         refine pu (.fieldPtr rfl (.tmp rfl) f13_) rfl rfl rfl ?_
         refine ARun.store rfl (.tmp rfl) (.tmp rfl) trivial rfl (nB rfl) f5_ rfl rfl ?_
         refine ARun.nil ?_
         exact ⟨((Fo.mk 8 ByteArray.empty v.1 Fo.nil), v.2 + 1), hv.s8 hnl.1 hnl.2.1 h94, by dsimp only; omega, ⟨⟨⟨_, rfl, rfl⟩, ⟨_, rfl, rfl⟩, trivial⟩, HeapLe.one rfl (HeapLe.one rfl trivial)⟩⟩
        ·
         replace hb520 := of_decide_eq_false hb520
         have h94 := hb520
         refine AW.skip ?_
         refine AW.seq ?_
         refine AW.region ?_
         refine pu (.move rfl (.tmp rfl)) rfl rfl rfl ?_
         refine pu (.move rfl (.tmp rfl)) rfl rfl rfl ?_
         refine pu (.build (ys := [.int .i64 7, Fo.fv v.1]) (l := [.int .i64 0, .str ByteArray.empty, Fo.fv Fo.nil, Fo.fv Fo.nil]) (pl := [(0, 1), (1, 1), (2, 1), (3, 1)]) (z := (.agg #[.int .i64 0, .string ByteArray.empty, .pointer none, .pointer none])) rfl (by kernel_rfl) (by kernel_rfl) (fun _ _ _ => ⟨_, _, rfl, rfl, ⟨_, _, rfl, ⟨rfl, by decide⟩, ⟨_, _, rfl, rfl, ⟨_, _, rfl, rfl, rfl⟩⟩⟩⟩) ⟨(.tmp rfl), trivial, rfl, ⟨(.tmp rfl), (Fo.cell _), rfl, trivial⟩⟩ rfl) rfl rfl rfl ?_
         refine ARun.fresh (FreshOp.boxD (m := [.int .i64 7, .str ByteArray.empty, Fo.av v.1, Fo.av Fo.nil]) rfl (.tmp rfl) (SV.cells_of (by exact ⟨trivial, trivial, Fo.cell _, ⟨rfl, (fun _ e => by cases e), (fun _ e => by cases e)⟩, trivial⟩)) ⟨.int, .str, (Fo.fd _), .con, trivial⟩ (nB rfl)) rfl rfl (nB rfl) ?_
         refine pu (.assign rfl (.tmp rfl)) rfl rfl rfl ?_
         refine ARun.nil ?_
         refine AW.region ?_
         refine pu (.move rfl (.tmp rfl)) rfl rfl rfl ?_
         refine pu (.nilPtr rfl (.tmp rfl)) rfl rfl rfl ?_
         refine pu (.fieldPtr rfl (.tmp rfl) f13_) rfl rfl rfl ?_
         refine pu (.loadPtr rfl (.tmp rfl) f2_ rfl rfl (nB rfl) (nB rfl)) rfl rfl rfl ?_
         refine pu (.add (c := ((v.2 + 1 : Nat) : Int)) rfl (.tmp rfl) .int (by rw [wrap_id (by omega) (by omega)]; omega)) rfl rfl rfl ?_
         refine pu (.nilPtr rfl (.tmp rfl)) rfl rfl rfl ?_
         refine pu (.fieldPtr rfl (.tmp rfl) f13_) rfl rfl rfl ?_
         refine ARun.store rfl (.tmp rfl) (.tmp rfl) trivial rfl (nB rfl) f5_ rfl rfl ?_
         refine ARun.nil ?_
         exact ⟨((Fo.mk 7 ByteArray.empty v.1 Fo.nil), v.2 + 1), hv.s7 hnl.1 hnl.2.1 (hnl.2.2.resolve_right h94), by dsimp only; omega, ⟨⟨⟨_, rfl, rfl⟩, ⟨_, rfl, rfl⟩, trivial⟩, HeapLe.one rfl (HeapLe.one rfl trivial)⟩⟩
       ·
        have hnl : ¬ (true = false ∧ v.2 < s.size ∧ (byteAt s v.2 = 42 ∨ byteAt s v.2 = 94)) := loopB hb519
        refine AW.exit ?_
        refine AW.seq ?_
        refine AW.region ?_
        refine pu (.move rfl (.tmp rfl)) rfl rfl rfl ?_
        refine pu (.assign rfl (.tmp rfl)) rfl rfl rfl ?_
        refine ARun.nil ?_
        exact AW.ret (show ∃ x t, _ ∧ ResN _ _ [.tmp 4] t ∧ _ ∧ _ ∧ _ from ⟨(v.1, v.2, true), _, (gForm_step h0 hy (hv.ret hnl)), (.inl (.inl ⟨_, rfl, .tmp rfl⟩)), (Fo.fp _ _), rfl, rfl⟩)
end Go.Proofs.Ytonfeiloekofdaa
