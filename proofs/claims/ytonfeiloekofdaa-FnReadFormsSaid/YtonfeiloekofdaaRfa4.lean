/-
  Part 4 of the proof: the texts of a seat's own library, joined.
-/
import Derived.Test.YtonfeiloekofdaaRfa1
import Derived.Test.YtonfeiloekofdaaRfa3
namespace Go.Proofs.Ytonfeiloekofdaa
open Go.ChangeShapes Go.WideShapes Go.ChangeAt Go.RowKit Go.BigFrame Go.Deep
set_option linter.unusedVariables false
set_option linter.unusedSimpArgs false
theorem f28_ : aggB Try.prog 91 4 = true := by kernel_rfl
theorem f29_ : callB Try.prog 55 = true := by kernel_rfl
theorem f30_ : callB Try.prog 75 = true := by kernel_rfl
theorem f31_ : callB Try.prog 76 = true := by kernel_rfl
theorem f32_ : fieldB Try.prog 91 2 2 = true := by kernel_rfl
theorem f33_ : fieldB Try.prog 91 3 3 = true := by kernel_rfl
theorem f34_ : sliceB Try.prog 36 = true := by kernel_rfl
theorem f35_ : sizeB Try.prog 91 4 = true := by kernel_rfl
def rowP (l : List GPart) : Nat → Nat → AV := fun i0 j0 => ([.int .i64 ((l.getD i0 (default : GPart)).kind), .str ((l.getD i0 (default : GPart)).text), .int .i64 ((l.getD i0 (default : GPart)).a), .int .i64 ((l.getD i0 (default : GPart)).b)] : List AV).getD j0 (.con undef)
theorem rowP_ren {l : List GPart} {i j : Nat} {g : Nat → Nat} (hj : j < 4) : rowP l i j = (rowP l i j).ren g := match j, hj with
  | 0, _ => rfl
  | 1, _ => rfl
  | 2, _ => rfl
  | 3, _ => rfl
theorem rowP_hx {l : List GPart} {i j : Nat} {K : List Nat} (hj : j < 4) : (rowP l i j).hx K = true := match j, hj with
  | 0, _ => rfl
  | 1, _ => rfl
  | 2, _ => rfl
  | 3, _ => rfl
theorem rowP_snoc {l m : List GPart} {n : Nat} (hn : l.length = n) {p : GPart} (hm : m = l ++ [p]) {i j : Nat} (hi : i < n + 1) : (if i < n then rowP l i j else ([.int .i64 p.kind, .str p.text, .int .i64 p.a, .int .i64 p.b] : List AV).getD j (.con undef)) = rowP m i j := by
  subst hm
  by_cases h : i < n
  · rw [if_pos h]
    unfold rowP
    rw [getD_left (by omega)]
  · rw [if_neg h]
    obtain rfl : i = l.length + 0 := by omega
    unfold rowP
    rw [getD_right]
    rfl
theorem rowP_snoc0 {m : List GPart} {f : Nat → Nat → AV} {p : GPart} (hm : m = [p]) {i j : Nat} (hi : i < 0 + 1) : (if i < 0 then f i j else ([.int .i64 p.kind, .str p.text, .int .i64 p.a, .int .i64 p.b] : List AV).getD j (.con undef)) = rowP m i j := by
  subst hm
  obtain rfl : i = 0 := by omega
  rfl
theorem flat_l0 {k : Int} {s : ByteArray} {l : List GPart} {n : Nat} : l ++ flatAt (.mk k s .nil .nil) n = l ++ [⟨k, s, 0, 0⟩] := rfl
theorem flat_n1 {k : Int} {s : ByteArray} {a : Fo} (h : a.isNil = false) : flatAt (.mk k s a .nil) 0 = flatAt a 0 ++ [⟨k, s, ((a.size : Nat) : Int) - 1, 0⟩] := by rw [flat_one h, Nat.zero_add]
theorem flat_n2 {k : Int} {s : ByteArray} {a b : Fo} (h : a.isNil = false) (h2 : b.isNil = false) : flatAt (.mk k s a b) 0 = (flatAt a 0 ++ flatAt b a.size) ++ [⟨k, s, ((a.size : Nat) : Int) - 1, ((a.size + b.size : Nat) : Int) - 1⟩] := by rw [flat_two h h2, Nat.zero_add]
theorem flat_l1 {k : Int} {s : ByteArray} {a : Fo} {l : List GPart} {n : Nat} (h : a.isNil = false) : l ++ flatAt (.mk k s a .nil) n = (l ++ flatAt a n) ++ [⟨k, s, ((n + a.size : Nat) : Int) - 1, 0⟩] := by rw [flat_one h, List.append_assoc]
theorem flat_l2 {k : Int} {s : ByteArray} {a b : Fo} {l : List GPart} {n : Nat} (h : a.isNil = false) (h2 : b.isNil = false) : l ++ flatAt (.mk k s a b) n = (l ++ flatAt a n ++ flatAt b (n + a.size)) ++ [⟨k, s, ((n + a.size : Nat) : Int) - 1, ((n + a.size + b.size : Nat) : Int) - 1⟩] := by rw [flat_two h h2]; simp only [List.append_assoc]
theorem len_flat {l : List GPart} {t : Fo} {n : Nat} (hn : l.length = n) : (l ++ flatAt t n).length = n + t.size := by rw [List.length_append, flatAt_len, hn]
theorem v_l5FlatS (k : Int) (s : ByteArray) (a b : Fo) (hw : Wf (.mk k s a b)) (l : List GPart) (n : Nat) (hn : l.length = n) (hz : n + (a.size + b.size + 1) ≤ 100000) (ia : Wf a → ∀ (l : List GPart) (n : Nat), l.length = n → n + a.size ≤ 100000 → FnG Try.prog 55 [.one (Fo.av a), .one (.own 1000000 4 n)] [(1000000, .arr 4 n (rowP l))] (.one (.own 900 4 (n + a.size))) [(900, .arr 4 (n + a.size) (rowP (l ++ flatAt a n)))]) (ib : Wf b → ∀ (l : List GPart) (n : Nat), l.length = n → n + b.size ≤ 100000 → FnG Try.prog 55 [.one (Fo.av b), .one (.own 1000000 4 n)] [(1000000, .arr 4 n (rowP l))] (.one (.own 900 4 (n + b.size))) [(900, .arr 4 (n + b.size) (rowP (l ++ flatAt b n)))]) : FnG Try.prog 55 [.one (.ref 4 (fun j => ([.int .i64 k, .str s, a.av, b.av] : List AV).getD j (.con undef))), .one (.own 1000000 4 n)] [(1000000, .arr 4 n (rowP l))] ((.one (.own 900 4 (n + (Fo.mk k s a b).size)))) [(900, .arr 4 (n + (Fo.mk k s a b).size) (rowP (l ++ flatAt (Fo.mk k s a b) n)))] := by
 refine FnG.of_body (fn := Try.f55) Try.func55 rfl (nB rfl) ?_
 intro w0
 show AW _ 56 _ _ _ _
 refine AW.seq ?_
 refine AW.region ?_
 refine pu (.assign rfl .con) rfl rfl rfl ?_
 refine ARun.nil ?_
 refine AW.seq ?_
 refine AW.anyX [⟨[], [], [], []⟩, ⟨[], [], [], []⟩, ⟨[], [], [], []⟩, ⟨[], [], [], []⟩, ⟨[], [], [], []⟩, ⟨[], [], [], []⟩, ⟨[], [], [], []⟩, ⟨[], [], [], []⟩, ⟨[], [], [], []⟩, ⟨[], [0], [0], [(0, .cells [.int .i64 0, .str ByteArray.empty, .int .i64 0, .int .i64 0])]⟩, ⟨[], [0], [], [(0, .cells [.int .i64 k, .str s, .int .i64 0, .int .i64 0])]⟩] (by kernel_rfl) (by kernel_rfl) (by kernel_rfl) ⟨⟨.inl rfl, .inr (.inr trivial), .inr (.inr trivial), .inr (.inr trivial), .inr (.inr trivial), .inr (.inr trivial), .inr (.inr trivial), .inr (.inr trivial), .inr (.inr trivial), .inr (.inr (by repeat first | exact trivial | refine And.intro ?_ ?_ | exact rfl | (intro i j; first | rfl | exact getD_no rfl | (dsimp only; split <;> first | rfl | exact getD_no rfl) | exact scl_no (by apply_assumption) _))), .inr (.inr trivial), trivial⟩, ⟨.inr (.inr trivial), .inl rfl, .inr (.inr trivial), .inr (.inr trivial), .inr (.inr trivial), .inr (.inr trivial), .inr (.inr trivial), .inr (.inr trivial), .inr (.inr trivial), .inr (.inr (by repeat first | exact trivial | refine And.intro ?_ ?_ | exact rfl | (intro i j; first | rfl | exact getD_no rfl | (dsimp only; split <;> first | rfl | exact getD_no rfl) | exact scl_no (by apply_assumption) _))), .inr (.inr trivial), trivial⟩, ⟨.inr (.inr trivial), .inr (.inr trivial), .inl rfl, .inr (.inr trivial), .inr (.inr trivial), .inr (.inr trivial), .inr (.inr trivial), .inr (.inr trivial), .inr (.inr trivial), .inr (.inr (by repeat first | exact trivial | refine And.intro ?_ ?_ | exact rfl | (intro i j; first | rfl | exact getD_no rfl | (dsimp only; split <;> first | rfl | exact getD_no rfl) | exact scl_no (by apply_assumption) _))), .inr (.inr trivial), trivial⟩, ⟨.inr (.inr trivial), .inr (.inr trivial), .inr (.inr trivial), .inl rfl, .inr (.inr trivial), .inr (.inr trivial), .inr (.inr trivial), .inr (.inr trivial), .inr (.inr trivial), .inr (.inr (by repeat first | exact trivial | refine And.intro ?_ ?_ | exact rfl | (intro i j; first | rfl | exact getD_no rfl | (dsimp only; split <;> first | rfl | exact getD_no rfl) | exact scl_no (by apply_assumption) _))), .inr (.inr trivial), trivial⟩, ⟨.inr (.inr trivial), .inr (.inr trivial), .inr (.inr trivial), .inr (.inr trivial), .inl rfl, .inr (.inr trivial), .inr (.inr trivial), .inr (.inr trivial), .inr (.inr trivial), .inr (.inr (by repeat first | exact trivial | refine And.intro ?_ ?_ | exact rfl | (intro i j; first | rfl | exact getD_no rfl | (dsimp only; split <;> first | rfl | exact getD_no rfl) | exact scl_no (by apply_assumption) _))), .inr (.inr trivial), trivial⟩, ⟨.inr (.inr trivial), .inr (.inr trivial), .inr (.inr trivial), .inr (.inr trivial), .inr (.inr trivial), .inl rfl, .inr (.inr trivial), .inr (.inr trivial), .inr (.inr trivial), .inr (.inr (by repeat first | exact trivial | refine And.intro ?_ ?_ | exact rfl | (intro i j; first | rfl | exact getD_no rfl | (dsimp only; split <;> first | rfl | exact getD_no rfl) | exact scl_no (by apply_assumption) _))), .inr (.inr trivial), trivial⟩, ⟨.inr (.inr trivial), .inr (.inr trivial), .inr (.inr trivial), .inr (.inr trivial), .inr (.inr trivial), .inr (.inr trivial), .inl rfl, .inr (.inr trivial), .inr (.inr trivial), .inr (.inr (by repeat first | exact trivial | refine And.intro ?_ ?_ | exact rfl | (intro i j; first | rfl | exact getD_no rfl | (dsimp only; split <;> first | rfl | exact getD_no rfl) | exact scl_no (by apply_assumption) _))), .inr (.inr trivial), trivial⟩, ⟨.inr (.inr trivial), .inr (.inr trivial), .inr (.inr trivial), .inr (.inr trivial), .inr (.inr trivial), .inr (.inr trivial), .inr (.inr trivial), .inl rfl, .inr (.inr trivial), .inr (.inr (by repeat first | exact trivial | refine And.intro ?_ ?_ | exact rfl | (intro i j; first | rfl | exact getD_no rfl | (dsimp only; split <;> first | rfl | exact getD_no rfl) | exact scl_no (by apply_assumption) _))), .inr (.inr trivial), trivial⟩, ⟨.inr (.inr trivial), .inr (.inr trivial), .inr (.inr trivial), .inr (.inr trivial), .inr (.inr trivial), .inr (.inr trivial), .inr (.inr trivial), .inr (.inr trivial), .inl rfl, .inr (.inr (by repeat first | exact trivial | refine And.intro ?_ ?_ | exact rfl | (intro i j; first | rfl | exact getD_no rfl | (dsimp only; split <;> first | rfl | exact getD_no rfl) | exact scl_no (by apply_assumption) _))), .inr (.inr trivial), trivial⟩, ⟨.inr (.inr trivial), .inr (.inr trivial), .inr (.inr trivial), .inr (.inr trivial), .inr (.inr trivial), .inr (.inr trivial), .inr (.inr trivial), .inr (.inr trivial), .inr (.inr trivial), .inl rfl, .inr (.inr trivial), trivial⟩, ⟨.inr (.inr trivial), .inr (.inr trivial), .inr (.inr trivial), .inr (.inr trivial), .inr (.inr trivial), .inr (.inr trivial), .inr (.inr trivial), .inr (.inr trivial), .inr (.inr trivial), .inr (.inl (by kernel_rfl)), .inl rfl, trivial⟩, trivial⟩ ⟨trivial, trivial, trivial, trivial, trivial, trivial, trivial, trivial, trivial, ⟨(by repeat first | exact trivial | refine ⟨by decide, by first | rfl | exact trivial | (intro i j; first | rfl | exact getD_no rfl | (dsimp only; split <;> first | rfl | exact getD_no rfl) | exact scl_no (by apply_assumption) _), ?_⟩), trivial⟩, trivial, trivial⟩ ?_
 refine ADX.pure [] (PureOp.move rfl (.tmp rfl)) rfl rfl (nB rfl) trivial rfl ?_
 refine ADX.pure [] (PureOp.nilRef rfl (.tmp rfl)) rfl rfl (nB rfl) trivial rfl ?_
 refine ADX.pure [] (PureOp.fieldRef rfl (.tmp rfl) f22_ (nB rfl)) rfl rfl (nB rfl) trivial rfl ?_
 refine ADX.pure [] (PureOp.loadRef rfl (.tmp rfl) f2_ (nB rfl)) rfl rfl (nB rfl) trivial rfl ?_
 refine ADX.pure [] (PureOp.move rfl (.tmp rfl)) rfl rfl (nB rfl) trivial rfl ?_
 refine ADX.pure [] (PureOp.nilRef rfl (.tmp rfl)) rfl rfl (nB rfl) trivial rfl ?_
 refine ADX.pure [] (PureOp.fieldRef rfl (.tmp rfl) f23_ (nB rfl)) rfl rfl (nB rfl) trivial rfl ?_
 refine ADX.pure [] (PureOp.loadRef rfl (.tmp rfl) f3_ (nB rfl)) rfl rfl (nB rfl) trivial rfl ?_
 refine ADX.pure [] (PureOp.build (ys := [.int .i64 k, .str s]) (l := [.int .i64 0, .str ByteArray.empty, .int .i64 0, .int .i64 0]) (pl := [(0, 1), (1, 1), (2, 1), (3, 1)]) (z := (.agg #[.int .i64 0, .string ByteArray.empty, .int .i64 0, .int .i64 0])) rfl (by kernel_rfl) (by kernel_rfl) (fun _ _ _ => ⟨_, _, rfl, rfl, ⟨_, _, rfl, ⟨rfl, by decide⟩, ⟨_, _, rfl, rfl, ⟨_, _, rfl, rfl, rfl⟩⟩⟩⟩) ⟨(.tmp rfl), trivial, rfl, ⟨(.tmp rfl), trivial, rfl, trivial⟩⟩ rfl) rfl rfl (nB rfl) trivial rfl ?_
 refine ADX.eff (tk := [0]) (new := [0]) (s := .one (.ptr 0 4 0 0)) (F := [(5, .one (.ptr 0 4 0 0))]) (Hin := []) (Hout := [(0, .cells [.int .i64 0, .str ByteArray.empty, .int .i64 0, .int .i64 0])]) (fun E X hE hX Q rest hk => ?_) trivial ⟨rfl, rfl⟩ rfl rfl rfl rfl ⟨(by repeat first | exact trivial | refine ⟨by decide, by first | rfl | exact trivial | (intro i j; first | rfl | exact getD_no rfl | (dsimp only; split <;> first | rfl | exact getD_no rfl) | exact scl_no (by apply_assumption) _), ?_⟩), trivial⟩ rfl (fun _ e => by cases e; exact nB rfl) ?_
 ·
  refine ARun.alloc (id := 0) (l := [.int .i64 0, .str ByteArray.empty, .int .i64 0, .int .i64 0]) (z := (.agg #[.int .i64 0, .string ByteArray.empty, .int .i64 0, .int .i64 0])) rfl (by kernel_rfl) (fun _ _ _ => ⟨_, _, rfl, rfl, ⟨_, _, rfl, ⟨rfl, by decide⟩, ⟨_, _, rfl, rfl, ⟨_, _, rfl, rfl, rfl⟩⟩⟩⟩) (Fr.ext2 ⟨(by refine fr_env rfl ?_; (repeat refine env_cons (by first | with_reducible exact Fo.noS _ _ | with_reducible exact Fo.noS' _ _ | exact rfl | exact Fo.noS _ _ | exact Fo.noS' _ _ | exact agg_no (by repeat' first | with_reducible exact Fo.no _ _ | with_reducible exact Fo.no' _ _ | exact rfl | exact Fo.no _ _ | exact Fo.no' _ _ | refine no_cons ?_ ?_)) ?_); exact rfl), (by repeat first | exact trivial | refine ⟨by decide, by first | rfl | exact trivial | (intro i j; first | rfl | exact getD_no rfl | (dsimp only; split <;> first | rfl | exact getD_no rfl) | exact scl_no (by apply_assumption) _), ?_⟩)⟩ hE hX rfl rfl) rfl rfl rfl (nB rfl) ?_
  refine ARun.hleX ?_ ?_ hk
  ·
   exact HeapLe.one rfl trivial
  ·
   repeat (first | exact LkX.refl | refine LkX.cons (hX.none rfl) ?_ | refine LkX.filter (hX.none rfl) ?_)
 refine ADX.eff (tk := [0]) (new := []) (s := .one (.con undef)) (F := []) (Hin := [(0, .cells [.int .i64 0, .str ByteArray.empty, .int .i64 0, .int .i64 0])]) (Hout := [(0, .cells [.int .i64 k, .str s, .int .i64 0, .int .i64 0])]) (fun E X hE hX Q rest hk => ?_) ⟨rfl, trivial⟩ ⟨rfl, rfl⟩ rfl rfl rfl rfl trivial rfl (fun _ e => by cases e) ?_
 ·
  refine ARun.store rfl (.tmp rfl) (.tmp rfl) (SV.cells_of (by exact ⟨trivial, trivial, trivial, trivial, trivial⟩)) rfl (nB rfl) f35_ rfl rfl ?_
  refine ARun.hleX ?_ ?_ hk
  ·
   exact HeapLe.one rfl trivial
  ·
   repeat (first | exact LkX.refl | refine LkX.cons (hX.none rfl) ?_ | refine LkX.filter (hX.none rfl) ?_)
 refine ADX.nil (H := [(0, .cells [.int .i64 k, .str s, .int .i64 0, .int .i64 0]), (1000000, .arr 4 n (rowP l))]) ?_ ?_
 ·
  exact HeapLe.one rfl (HeapLe.one rfl trivial)
 refine AW.seq ?_
 refine AW.seq ?_
 refine AW.region ?_
 refine pu (.move rfl (.tmp rfl)) rfl rfl rfl ?_
 refine pu (.nilRef rfl (.tmp rfl)) rfl rfl rfl ?_
 refine pu (.fieldRef rfl (.tmp rfl) f22_ (nB rfl)) rfl rfl rfl ?_
 refine pu (.loadRef rfl (.tmp rfl) f2_ (nB rfl)) rfl rfl rfl ?_
 refine pu (.call rfl (v_l5Two k) ⟨⟨_, (.tmp rfl), .int⟩, trivial⟩ f30_ trivial) rfl rfl rfl ?_
 refine pu (.move rfl (.tmp rfl)) rfl rfl rfl ?_
 refine ARun.gpure (want := false) (.tf rfl) (fun hg1 => PureOp.move rfl (.tmp rfl)) rfl rfl (nB rfl) rfl (nB rfl) ?_
 refine ARun.gpure (want := false) (.tf rfl) (fun hg2 => PureOp.nilRef rfl (.gtmp rfl hg2)) rfl rfl (nB rfl) rfl (nB rfl) ?_
 refine ARun.gpure (want := false) (.tf rfl) (fun hg3 => PureOp.fieldRef rfl (.gtmp rfl hg3) f22_ (nB rfl)) rfl rfl (nB rfl) rfl (nB rfl) ?_
 refine ARun.gpure (want := false) (.tf rfl) (fun hg4 => PureOp.loadRef rfl (.gtmp rfl hg4) f2_ (nB rfl)) rfl rfl (nB rfl) rfl (nB rfl) ?_
 refine ARun.gpure (want := false) (.tf rfl) (fun hg5 => PureOp.call rfl (v_l5One k) ⟨⟨_, (.gtmp rfl hg5), .int⟩, trivial⟩ f31_ trivial) rfl rfl (nB rfl) rfl (nB rfl) ?_
 refine pu (.pick rfl (.tmp rfl) (fun _ => .bool) (fun hp7 => .gtmp rfl (not_of hp7))) rfl rfl rfl ?_
 refine ARun.nil ?_
 refine AW.cond (.tmp rfl) (fun hb8 => ?_) (fun hb8 => ?_)
 ·
  have h12 := cond_two hb8
  have hwa := hw.a_of h12
  have hna := hwa.isNil
  refine AW.seq ?_
  refine AW.region ?_
  refine pu (.move rfl (.tmp rfl)) rfl rfl rfl ?_
  refine pu (.nilRef rfl (.tmp rfl)) rfl rfl rfl ?_
  refine pu (.fieldRef rfl (.tmp rfl) f24_ (nB rfl)) rfl rfl rfl ?_
  refine pu (.loadRef rfl (.tmp rfl) f27_ (nB rfl)) rfl rfl rfl ?_
  refine pu (.move rfl (.tmp rfl)) rfl rfl rfl ?_
  refine ARun.mutx (Hr := [(0, .cells [.int .i64 k, .str s, .int .i64 0, .int .i64 0])]) (Hn := [(0, .cells [.int .i64 k, .str s, .int .i64 0, .int .i64 0]), (51, .arr 4 (n + a.size) (rowP (l ++ flatAt a n)))]) (g := fun zz => if zz = 1000000 then 1000000 else zz) (g' := fun zz => if zz = 1000000 then 1000000 else if zz = 900 then 51 else zz) (K := [900]) (T := [(51, 900)]) rfl (ia hwa l n hn (by omega)) f29_ ⟨.inl ⟨_, (.tmp rfl), (Fo.vw' _ _)⟩, ⟨.inr (.tmp rfl), trivial⟩⟩ ⟨⟨_, rfl, ⟨rfl, rfl, fun i j hi hj => rowP_ren hj⟩⟩, trivial⟩ ⟨⟨rfl, rfl⟩, trivial⟩ rfl ⟨⟨(by refine fr_env rfl ?_; (repeat refine env_cons (by first | with_reducible exact Fo.noS _ _ | with_reducible exact Fo.noS' _ _ | exact rfl | exact Fo.noS _ _ | exact Fo.noS' _ _ | exact agg_no (by repeat' first | with_reducible exact Fo.no _ _ | with_reducible exact Fo.no' _ _ | exact rfl | exact Fo.no _ _ | exact Fo.no' _ _ | refine no_cons ?_ ?_)) ?_); exact rfl), (by repeat first | exact trivial | refine ⟨by decide, by first | rfl | exact trivial | (intro i j; first | rfl | exact getD_no rfl | (dsimp only; split <;> first | rfl | exact getD_no rfl) | exact scl_no (by apply_assumption) _), ?_⟩)⟩, trivial⟩ (by kernel_rfl) (by kernel_rfl) (by kernel_rfl) ⟨.inl rfl, .inr ⟨900, _, rfl, rfl, rfl, ⟨rfl, rfl, fun i j hi hj => rowP_ren hj⟩, (fun i j hi hj => rowP_hx hj)⟩, trivial⟩ rfl rfl (nB rfl) (r' := .one (.own 51 4 (n + a.size))) rfl ?_
  refine pu (.assign rfl (.tmp rfl)) rfl rfl rfl ?_
  refine ARun.nil ?_
  refine AW.region ?_
  refine pu (.move rfl (.tmp rfl)) rfl rfl rfl ?_
  refine pu (.lenOwn rfl (.tmp rfl) f34_) rfl rfl rfl ?_
  refine pu (.sub (c := (((n + a.size) : Nat) : Int) - 1) rfl (.tmp rfl) .int (wrap_id (by omega) (by omega))) rfl rfl rfl ?_
  refine pu (.fieldPtr rfl (.tmp rfl) f32_) rfl rfl rfl ?_
  refine ARun.store rfl (.tmp rfl) (.tmp rfl) trivial rfl (nB rfl) f5_ rfl rfl ?_
  refine ARun.nil ?_
  refine AW.seq ?_
  refine AW.seq ?_
  refine AW.region ?_
  refine pu (.move rfl (.tmp rfl)) rfl rfl rfl ?_
  refine pu (.nilRef rfl (.tmp rfl)) rfl rfl rfl ?_
  refine pu (.fieldRef rfl (.tmp rfl) f22_ (nB rfl)) rfl rfl rfl ?_
  refine pu (.loadRef rfl (.tmp rfl) f2_ (nB rfl)) rfl rfl rfl ?_
  refine pu (.call rfl (v_l5Two k) ⟨⟨_, (.tmp rfl), .int⟩, trivial⟩ f30_ trivial) rfl rfl rfl ?_
  refine ARun.nil ?_
  refine AW.cond (.tmp rfl) (fun hb9 => ?_) (fun hb9 => ?_)
  ·
   have hwb := hw.b_of hb9
   have hnb := hwb.isNil
   refine AW.seq ?_
   refine AW.region ?_
   refine pu (.move rfl (.tmp rfl)) rfl rfl rfl ?_
   refine pu (.nilRef rfl (.tmp rfl)) rfl rfl rfl ?_
   refine pu (.fieldRef rfl (.tmp rfl) f25_ (nB rfl)) rfl rfl rfl ?_
   refine pu (.loadRef rfl (.tmp rfl) f27_ (nB rfl)) rfl rfl rfl ?_
   refine pu (.move rfl (.tmp rfl)) rfl rfl rfl ?_
   refine ARun.mutx (Hr := [(0, .cells [.int .i64 k, .str s, .int .i64 ((((n + a.size) : Nat) : Int) - 1), .int .i64 0])]) (Hn := [(0, .cells [.int .i64 k, .str s, .int .i64 ((((n + a.size) : Nat) : Int) - 1), .int .i64 0]), (102, .arr 4 ((n + a.size) + b.size) (rowP ((l ++ flatAt a n) ++ flatAt b (n + a.size))))]) (g := fun zz => if zz = 1000000 then 51 else zz) (g' := fun zz => if zz = 1000000 then 51 else if zz = 900 then 102 else zz) (K := [900]) (T := [(102, 900)]) rfl (ib hwb (l ++ flatAt a n) (n + a.size) (len_flat hn) (by omega)) f29_ ⟨.inl ⟨_, (.tmp rfl), (Fo.vw' _ _)⟩, ⟨.inr (.tmp rfl), trivial⟩⟩ ⟨⟨_, rfl, ⟨rfl, rfl, fun i j hi hj => rowP_ren hj⟩⟩, trivial⟩ ⟨⟨rfl, rfl⟩, trivial⟩ rfl ⟨⟨(by refine fr_env rfl ?_; (repeat refine env_cons (by first | with_reducible exact Fo.noS _ _ | with_reducible exact Fo.noS' _ _ | exact rfl | exact Fo.noS _ _ | exact Fo.noS' _ _ | exact agg_no (by repeat' first | with_reducible exact Fo.no _ _ | with_reducible exact Fo.no' _ _ | exact rfl | exact Fo.no _ _ | exact Fo.no' _ _ | refine no_cons ?_ ?_)) ?_); exact rfl), (by repeat first | exact trivial | refine ⟨by decide, by first | rfl | exact trivial | (intro i j; first | rfl | exact getD_no rfl | (dsimp only; split <;> first | rfl | exact getD_no rfl) | exact scl_no (by apply_assumption) _), ?_⟩)⟩, trivial⟩ (by kernel_rfl) (by kernel_rfl) (by kernel_rfl) ⟨.inl rfl, .inr ⟨900, _, rfl, rfl, rfl, ⟨rfl, rfl, fun i j hi hj => rowP_ren hj⟩, (fun i j hi hj => rowP_hx hj)⟩, trivial⟩ rfl rfl (nB rfl) (r' := .one (.own 102 4 ((n + a.size) + b.size))) rfl ?_
   refine pu (.assign rfl (.tmp rfl)) rfl rfl rfl ?_
   refine ARun.nil ?_
   refine AW.region ?_
   refine pu (.move rfl (.tmp rfl)) rfl rfl rfl ?_
   refine pu (.lenOwn rfl (.tmp rfl) f34_) rfl rfl rfl ?_
   refine pu (.sub (c := ((((n + a.size) + b.size) : Nat) : Int) - 1) rfl (.tmp rfl) .int (wrap_id (by omega) (by omega))) rfl rfl rfl ?_
   refine pu (.fieldPtr rfl (.tmp rfl) f33_) rfl rfl rfl ?_
   refine ARun.store rfl (.tmp rfl) (.tmp rfl) trivial rfl (nB rfl) f5_ rfl rfl ?_
   refine ARun.nil ?_
   refine AW.seq ?_
   refine AW.region ?_
   refine pu (.move rfl (.tmp rfl)) rfl rfl rfl ?_
   refine pu (.loadPtrAgg rfl (.tmp rfl) f28_ rfl rfl (nB rfl) (nB rfl)) rfl rfl rfl ?_
   refine ARun.slice1 (id := 899) (z := (.agg #[.int .i64 0, .string ByteArray.empty, .int .i64 0, .int .i64 0])) (by_ := 40) rfl (.tmp rfl) (SV.cells_of (by exact ⟨trivial, trivial, trivial, trivial, trivial⟩)) (by kernel_rfl) rfl rfl (by decide) (by decide) ⟨(by refine fr_env rfl ?_; (repeat refine env_cons (by first | with_reducible exact Fo.noS _ _ | with_reducible exact Fo.noS' _ _ | exact rfl | exact Fo.noS _ _ | exact Fo.noS' _ _ | exact agg_no (by repeat' first | with_reducible exact Fo.no _ _ | with_reducible exact Fo.no' _ _ | exact rfl | exact Fo.no _ _ | exact Fo.no' _ _ | refine no_cons ?_ ?_)) ?_); exact rfl), (by repeat first | exact trivial | refine ⟨by decide, by first | rfl | exact trivial | (intro i j; first | rfl | exact getD_no rfl | (dsimp only; split <;> first | rfl | exact getD_no rfl) | exact scl_no (by apply_assumption) _), ?_⟩)⟩ rfl rfl rfl (nB rfl) ?_
   refine ARun.append (id := 900) (sz := 4) (n := ((n + a.size) + b.size)) (m := 1) (by_ := 40) (z := (.agg #[.int .i64 0, .string ByteArray.empty, .int .i64 0, .int .i64 0])) (f := rowP ((l ++ flatAt a n) ++ flatAt b (n + a.size))) (g := fun _ jc => ([.int .i64 k, .str s, .int .i64 ((((n + a.size) : Nat) : Int) - 1), .int .i64 (((((n + a.size) + b.size) : Nat) : Int) - 1)] : List AV).getD jc (.con undef)) (h := fun ia ja => if ia < ((n + a.size) + b.size) then (rowP ((l ++ flatAt a n) ++ flatAt b (n + a.size)) : Nat → Nat → AV) ia ja else (fun _ jc => ([.int .i64 k, .str s, .int .i64 ((((n + a.size) : Nat) : Int) - 1), .int .i64 (((((n + a.size) + b.size) : Nat) : Int) - 1)] : List AV).getD jc (.con undef) : Nat → Nat → AV) (ia - ((n + a.size) + b.size)) ja) rfl (by kernel_rfl) rfl f34_ (.own (.tmp rfl) rfl rfl rfl (Nat.le_refl _) (fun _ _ _ _ => rfl)) (.own (.tmp rfl) rfl rfl (Nat.le_refl _) (fun _ _ _ _ => rfl)) (by decide) (fun i j hi hj => match j, hj with | 0, _ => rfl | 1, _ => rfl | 2, _ => rfl | 3, _ => rfl | _ + 4, h => absurd h (by omega)) (fun _ _ _ _ => rfl) (by omega) (by omega) ⟨(by refine fr_env rfl ?_; (repeat refine env_cons (by first | with_reducible exact Fo.noS _ _ | with_reducible exact Fo.noS' _ _ | exact rfl | exact Fo.noS _ _ | exact Fo.noS' _ _ | exact agg_no (by repeat' first | with_reducible exact Fo.no _ _ | with_reducible exact Fo.no' _ _ | exact rfl | exact Fo.no _ _ | exact Fo.no' _ _ | refine no_cons ?_ ?_)) ?_); exact rfl), (by repeat first | exact trivial | refine ⟨by decide, by first | rfl | exact trivial | (intro i j; first | rfl | exact getD_no rfl | (dsimp only; split <;> first | rfl | exact getD_no rfl) | exact scl_no (by apply_assumption) _), ?_⟩)⟩ (fun i j => by dsimp only; (repeat' split) <;> first | rfl | exact getD_no rfl) rfl rfl (nB rfl) ?_
   refine pu (.assign rfl (.tmp rfl)) rfl rfl rfl ?_
   refine ARun.nil ?_
   refine AW.ret (show ResL _ _ [.tmp 4] _ ∧ HeapLe _ _ from ⟨resO rfl ?_, ⟨⟨_, rfl, rfl, Nat.le_of_eq (by first | rfl | (show _ = _; simp only [AObj.n, Fo.size]; omega)), fun i j hi hj => rowP_snoc (len_flat (len_flat hn)) (flat_l2 hna hnb) (by have hq := hi; simp only [AObj.n, Fo.size] at hq; omega)⟩, trivial⟩⟩)
   first | rfl | (show _ = _; simp only [Fo.size]; omega)
  ·
   have hb0 := hw.nils hb9
   subst hb0
   refine AW.skip ?_
   refine AW.seq ?_
   refine AW.region ?_
   refine pu (.move rfl (.tmp rfl)) rfl rfl rfl ?_
   refine pu (.loadPtrAgg rfl (.tmp rfl) f28_ rfl rfl (nB rfl) (nB rfl)) rfl rfl rfl ?_
   refine ARun.slice1 (id := 899) (z := (.agg #[.int .i64 0, .string ByteArray.empty, .int .i64 0, .int .i64 0])) (by_ := 40) rfl (.tmp rfl) (SV.cells_of (by exact ⟨trivial, trivial, trivial, trivial, trivial⟩)) (by kernel_rfl) rfl rfl (by decide) (by decide) ⟨(by refine fr_env rfl ?_; (repeat refine env_cons (by first | with_reducible exact Fo.noS _ _ | with_reducible exact Fo.noS' _ _ | exact rfl | exact Fo.noS _ _ | exact Fo.noS' _ _ | exact agg_no (by repeat' first | with_reducible exact Fo.no _ _ | with_reducible exact Fo.no' _ _ | exact rfl | exact Fo.no _ _ | exact Fo.no' _ _ | refine no_cons ?_ ?_)) ?_); exact rfl), (by repeat first | exact trivial | refine ⟨by decide, by first | rfl | exact trivial | (intro i j; first | rfl | exact getD_no rfl | (dsimp only; split <;> first | rfl | exact getD_no rfl) | exact scl_no (by apply_assumption) _), ?_⟩)⟩ rfl rfl rfl (nB rfl) ?_
   refine ARun.append (id := 900) (sz := 4) (n := (n + a.size)) (m := 1) (by_ := 40) (z := (.agg #[.int .i64 0, .string ByteArray.empty, .int .i64 0, .int .i64 0])) (f := rowP (l ++ flatAt a n)) (g := fun _ jc => ([.int .i64 k, .str s, .int .i64 ((((n + a.size) : Nat) : Int) - 1), .int .i64 0] : List AV).getD jc (.con undef)) (h := fun ia ja => if ia < (n + a.size) then (rowP (l ++ flatAt a n) : Nat → Nat → AV) ia ja else (fun _ jc => ([.int .i64 k, .str s, .int .i64 ((((n + a.size) : Nat) : Int) - 1), .int .i64 0] : List AV).getD jc (.con undef) : Nat → Nat → AV) (ia - (n + a.size)) ja) rfl (by kernel_rfl) rfl f34_ (.own (.tmp rfl) rfl rfl rfl (Nat.le_refl _) (fun _ _ _ _ => rfl)) (.own (.tmp rfl) rfl rfl (Nat.le_refl _) (fun _ _ _ _ => rfl)) (by decide) (fun i j hi hj => match j, hj with | 0, _ => rfl | 1, _ => rfl | 2, _ => rfl | 3, _ => rfl | _ + 4, h => absurd h (by omega)) (fun _ _ _ _ => rfl) (by omega) (by omega) ⟨(by refine fr_env rfl ?_; (repeat refine env_cons (by first | with_reducible exact Fo.noS _ _ | with_reducible exact Fo.noS' _ _ | exact rfl | exact Fo.noS _ _ | exact Fo.noS' _ _ | exact agg_no (by repeat' first | with_reducible exact Fo.no _ _ | with_reducible exact Fo.no' _ _ | exact rfl | exact Fo.no _ _ | exact Fo.no' _ _ | refine no_cons ?_ ?_)) ?_); exact rfl), (by repeat first | exact trivial | refine ⟨by decide, by first | rfl | exact trivial | (intro i j; first | rfl | exact getD_no rfl | (dsimp only; split <;> first | rfl | exact getD_no rfl) | exact scl_no (by apply_assumption) _), ?_⟩)⟩ (fun i j => by dsimp only; (repeat' split) <;> first | rfl | exact getD_no rfl) rfl rfl (nB rfl) ?_
   refine pu (.assign rfl (.tmp rfl)) rfl rfl rfl ?_
   refine ARun.nil ?_
   refine AW.ret (show ResL _ _ [.tmp 4] _ ∧ HeapLe _ _ from ⟨resO rfl ?_, ⟨⟨_, rfl, rfl, Nat.le_of_eq (by first | rfl | (show _ = _; simp only [AObj.n, Fo.size]; omega)), fun i j hi hj => rowP_snoc (len_flat hn) (flat_l1 hna) (by have hq := hi; simp only [AObj.n, Fo.size] at hq; omega)⟩, trivial⟩⟩)
   first | rfl | (show _ = _; simp only [Fo.size]; omega)
 ·
  have h12 := cond_two hb8
  refine AW.skip ?_
  refine AW.seq ?_
  refine AW.seq ?_
  refine AW.region ?_
  refine pu (.move rfl (.tmp rfl)) rfl rfl rfl ?_
  refine pu (.nilRef rfl (.tmp rfl)) rfl rfl rfl ?_
  refine pu (.fieldRef rfl (.tmp rfl) f22_ (nB rfl)) rfl rfl rfl ?_
  refine pu (.loadRef rfl (.tmp rfl) f2_ (nB rfl)) rfl rfl rfl ?_
  refine pu (.call rfl (v_l5Two k) ⟨⟨_, (.tmp rfl), .int⟩, trivial⟩ f30_ trivial) rfl rfl rfl ?_
  refine ARun.nil ?_
  refine AW.cond (.tmp rfl) (fun hb10 => ?_) (fun hb10 => ?_)
  ·
   rw [hb10] at h12; cases h12
   --end
  ·
   have hb0 := hw.nils hb10
   subst hb0
   have h1 : isOne k = false := by rw [hb10] at h12; exact h12
   have ha0 := hw.nila hb10 h1
   subst ha0
   refine AW.skip ?_
   refine AW.seq ?_
   refine AW.region ?_
   refine pu (.move rfl (.tmp rfl)) rfl rfl rfl ?_
   refine pu (.loadPtrAgg rfl (.tmp rfl) f28_ rfl rfl (nB rfl) (nB rfl)) rfl rfl rfl ?_
   refine ARun.slice1 (id := 899) (z := (.agg #[.int .i64 0, .string ByteArray.empty, .int .i64 0, .int .i64 0])) (by_ := 40) rfl (.tmp rfl) (SV.cells_of (by exact ⟨trivial, trivial, trivial, trivial, trivial⟩)) (by kernel_rfl) rfl rfl (by decide) (by decide) ⟨(by refine fr_env rfl ?_; (repeat refine env_cons (by first | with_reducible exact Fo.noS _ _ | with_reducible exact Fo.noS' _ _ | exact rfl | exact Fo.noS _ _ | exact Fo.noS' _ _ | exact agg_no (by repeat' first | with_reducible exact Fo.no _ _ | with_reducible exact Fo.no' _ _ | exact rfl | exact Fo.no _ _ | exact Fo.no' _ _ | refine no_cons ?_ ?_)) ?_); exact rfl), (by repeat first | exact trivial | refine ⟨by decide, by first | rfl | exact trivial | (intro i j; first | rfl | exact getD_no rfl | (dsimp only; split <;> first | rfl | exact getD_no rfl) | exact scl_no (by apply_assumption) _), ?_⟩)⟩ rfl rfl rfl (nB rfl) ?_
   refine ARun.append (id := 900) (sz := 4) (n := n) (m := 1) (by_ := 40) (z := (.agg #[.int .i64 0, .string ByteArray.empty, .int .i64 0, .int .i64 0])) (f := rowP l) (g := fun _ jc => ([.int .i64 k, .str s, .int .i64 0, .int .i64 0] : List AV).getD jc (.con undef)) (h := fun ia ja => if ia < n then (rowP l : Nat → Nat → AV) ia ja else (fun _ jc => ([.int .i64 k, .str s, .int .i64 0, .int .i64 0] : List AV).getD jc (.con undef) : Nat → Nat → AV) (ia - n) ja) rfl (by kernel_rfl) rfl f34_ (.own (.tmp rfl) rfl rfl rfl (Nat.le_refl _) (fun _ _ _ _ => rfl)) (.own (.tmp rfl) rfl rfl (Nat.le_refl _) (fun _ _ _ _ => rfl)) (by decide) (fun i j hi hj => match j, hj with | 0, _ => rfl | 1, _ => rfl | 2, _ => rfl | 3, _ => rfl | _ + 4, h => absurd h (by omega)) (fun _ _ _ _ => rfl) (by omega) (by omega) ⟨(by refine fr_env rfl ?_; (repeat refine env_cons (by first | with_reducible exact Fo.noS _ _ | with_reducible exact Fo.noS' _ _ | exact rfl | exact Fo.noS _ _ | exact Fo.noS' _ _ | exact agg_no (by repeat' first | with_reducible exact Fo.no _ _ | with_reducible exact Fo.no' _ _ | exact rfl | exact Fo.no _ _ | exact Fo.no' _ _ | refine no_cons ?_ ?_)) ?_); exact rfl), (by repeat first | exact trivial | refine ⟨by decide, by first | rfl | exact trivial | (intro i j; first | rfl | exact getD_no rfl | (dsimp only; split <;> first | rfl | exact getD_no rfl) | exact scl_no (by apply_assumption) _), ?_⟩)⟩ (fun i j => by dsimp only; (repeat' split) <;> first | rfl | exact getD_no rfl) rfl rfl (nB rfl) ?_
   refine pu (.assign rfl (.tmp rfl)) rfl rfl rfl ?_
   refine ARun.nil ?_
   refine AW.ret (show ResL _ _ [.tmp 4] _ ∧ HeapLe _ _ from ⟨resO rfl ?_, ⟨⟨_, rfl, rfl, Nat.le_of_eq (by first | rfl | (show _ = _; simp only [AObj.n, Fo.size]; omega)), fun i j hi hj => rowP_snoc hn flat_l0 hi⟩, trivial⟩⟩)
   first | rfl | (show _ = _; simp only [Fo.size]; omega)
theorem v_l5Flat : ∀ (t : Fo), Wf t → ∀ (l : List GPart) (n : Nat), l.length = n → n + t.size ≤ 100000 → FnG Try.prog 55 [.one (Fo.av t), .one (.own 1000000 4 n)] [(1000000, .arr 4 n (rowP l))] (.one (.own 900 4 (n + t.size))) [(900, .arr 4 (n + t.size) (rowP (l ++ flatAt t n)))]
  | .nil => fun h _ _ _ _ => by cases h
  | .mk k s a b => fun hw l n hn hz => by
    have hz : n + (a.size + b.size + 1) ≤ 100000 := hz
    exact v_l5FlatS k s a b hw l n hn hz (v_l5Flat a) (v_l5Flat b)
theorem v_l5FlatNilS (k : Int) (s : ByteArray) (a b : Fo) (hw : Wf (.mk k s a b)) (hz : a.size + b.size + 1 ≤ 100000) (ia0 : Wf a → a.size ≤ 100000 → FnG Try.prog 55 [.one (Fo.av a), .one (.con (.slice none 0 0))] [] (.one (.own 900 4 a.size)) [(900, .arr 4 a.size (rowP (flatAt a 0)))]) (ib : Wf b → ∀ (l : List GPart) (n : Nat), l.length = n → n + b.size ≤ 100000 → FnG Try.prog 55 [.one (Fo.av b), .one (.own 1000000 4 n)] [(1000000, .arr 4 n (rowP l))] (.one (.own 900 4 (n + b.size))) [(900, .arr 4 (n + b.size) (rowP (l ++ flatAt b n)))]) : FnG Try.prog 55 [.one (.ref 4 (fun j => ([.int .i64 k, .str s, a.av, b.av] : List AV).getD j (.con undef))), .one (.con (.slice none 0 0))] [] ((.one (.own 900 4 (Fo.mk k s a b).size))) [(900, .arr 4 ((Fo.mk k s a b).size) (rowP (flatAt (Fo.mk k s a b) 0)))] := by
 refine FnG.of_body (fn := Try.f55) Try.func55 rfl (nB rfl) ?_
 intro w0
 show AW _ 56 _ _ _ _
 refine AW.seq ?_
 refine AW.region ?_
 refine pu (.assign rfl .con) rfl rfl rfl ?_
 refine ARun.nil ?_
 refine AW.seq ?_
 refine AW.anyX [⟨[], [], [], []⟩, ⟨[], [], [], []⟩, ⟨[], [], [], []⟩, ⟨[], [], [], []⟩, ⟨[], [], [], []⟩, ⟨[], [], [], []⟩, ⟨[], [], [], []⟩, ⟨[], [], [], []⟩, ⟨[], [], [], []⟩, ⟨[], [0], [0], [(0, .cells [.int .i64 0, .str ByteArray.empty, .int .i64 0, .int .i64 0])]⟩, ⟨[], [0], [], [(0, .cells [.int .i64 k, .str s, .int .i64 0, .int .i64 0])]⟩] (by kernel_rfl) (by kernel_rfl) (by kernel_rfl) ⟨⟨.inl rfl, .inr (.inr trivial), .inr (.inr trivial), .inr (.inr trivial), .inr (.inr trivial), .inr (.inr trivial), .inr (.inr trivial), .inr (.inr trivial), .inr (.inr trivial), .inr (.inr (by repeat first | exact trivial | refine And.intro ?_ ?_ | exact rfl | (intro i j; first | rfl | exact getD_no rfl | (dsimp only; split <;> first | rfl | exact getD_no rfl) | exact scl_no (by apply_assumption) _))), .inr (.inr trivial), trivial⟩, ⟨.inr (.inr trivial), .inl rfl, .inr (.inr trivial), .inr (.inr trivial), .inr (.inr trivial), .inr (.inr trivial), .inr (.inr trivial), .inr (.inr trivial), .inr (.inr trivial), .inr (.inr (by repeat first | exact trivial | refine And.intro ?_ ?_ | exact rfl | (intro i j; first | rfl | exact getD_no rfl | (dsimp only; split <;> first | rfl | exact getD_no rfl) | exact scl_no (by apply_assumption) _))), .inr (.inr trivial), trivial⟩, ⟨.inr (.inr trivial), .inr (.inr trivial), .inl rfl, .inr (.inr trivial), .inr (.inr trivial), .inr (.inr trivial), .inr (.inr trivial), .inr (.inr trivial), .inr (.inr trivial), .inr (.inr (by repeat first | exact trivial | refine And.intro ?_ ?_ | exact rfl | (intro i j; first | rfl | exact getD_no rfl | (dsimp only; split <;> first | rfl | exact getD_no rfl) | exact scl_no (by apply_assumption) _))), .inr (.inr trivial), trivial⟩, ⟨.inr (.inr trivial), .inr (.inr trivial), .inr (.inr trivial), .inl rfl, .inr (.inr trivial), .inr (.inr trivial), .inr (.inr trivial), .inr (.inr trivial), .inr (.inr trivial), .inr (.inr (by repeat first | exact trivial | refine And.intro ?_ ?_ | exact rfl | (intro i j; first | rfl | exact getD_no rfl | (dsimp only; split <;> first | rfl | exact getD_no rfl) | exact scl_no (by apply_assumption) _))), .inr (.inr trivial), trivial⟩, ⟨.inr (.inr trivial), .inr (.inr trivial), .inr (.inr trivial), .inr (.inr trivial), .inl rfl, .inr (.inr trivial), .inr (.inr trivial), .inr (.inr trivial), .inr (.inr trivial), .inr (.inr (by repeat first | exact trivial | refine And.intro ?_ ?_ | exact rfl | (intro i j; first | rfl | exact getD_no rfl | (dsimp only; split <;> first | rfl | exact getD_no rfl) | exact scl_no (by apply_assumption) _))), .inr (.inr trivial), trivial⟩, ⟨.inr (.inr trivial), .inr (.inr trivial), .inr (.inr trivial), .inr (.inr trivial), .inr (.inr trivial), .inl rfl, .inr (.inr trivial), .inr (.inr trivial), .inr (.inr trivial), .inr (.inr (by repeat first | exact trivial | refine And.intro ?_ ?_ | exact rfl | (intro i j; first | rfl | exact getD_no rfl | (dsimp only; split <;> first | rfl | exact getD_no rfl) | exact scl_no (by apply_assumption) _))), .inr (.inr trivial), trivial⟩, ⟨.inr (.inr trivial), .inr (.inr trivial), .inr (.inr trivial), .inr (.inr trivial), .inr (.inr trivial), .inr (.inr trivial), .inl rfl, .inr (.inr trivial), .inr (.inr trivial), .inr (.inr (by repeat first | exact trivial | refine And.intro ?_ ?_ | exact rfl | (intro i j; first | rfl | exact getD_no rfl | (dsimp only; split <;> first | rfl | exact getD_no rfl) | exact scl_no (by apply_assumption) _))), .inr (.inr trivial), trivial⟩, ⟨.inr (.inr trivial), .inr (.inr trivial), .inr (.inr trivial), .inr (.inr trivial), .inr (.inr trivial), .inr (.inr trivial), .inr (.inr trivial), .inl rfl, .inr (.inr trivial), .inr (.inr (by repeat first | exact trivial | refine And.intro ?_ ?_ | exact rfl | (intro i j; first | rfl | exact getD_no rfl | (dsimp only; split <;> first | rfl | exact getD_no rfl) | exact scl_no (by apply_assumption) _))), .inr (.inr trivial), trivial⟩, ⟨.inr (.inr trivial), .inr (.inr trivial), .inr (.inr trivial), .inr (.inr trivial), .inr (.inr trivial), .inr (.inr trivial), .inr (.inr trivial), .inr (.inr trivial), .inl rfl, .inr (.inr (by repeat first | exact trivial | refine And.intro ?_ ?_ | exact rfl | (intro i j; first | rfl | exact getD_no rfl | (dsimp only; split <;> first | rfl | exact getD_no rfl) | exact scl_no (by apply_assumption) _))), .inr (.inr trivial), trivial⟩, ⟨.inr (.inr trivial), .inr (.inr trivial), .inr (.inr trivial), .inr (.inr trivial), .inr (.inr trivial), .inr (.inr trivial), .inr (.inr trivial), .inr (.inr trivial), .inr (.inr trivial), .inl rfl, .inr (.inr trivial), trivial⟩, ⟨.inr (.inr trivial), .inr (.inr trivial), .inr (.inr trivial), .inr (.inr trivial), .inr (.inr trivial), .inr (.inr trivial), .inr (.inr trivial), .inr (.inr trivial), .inr (.inr trivial), .inr (.inl (by kernel_rfl)), .inl rfl, trivial⟩, trivial⟩ ⟨trivial, trivial, trivial, trivial, trivial, trivial, trivial, trivial, trivial, ⟨(by repeat first | exact trivial | refine ⟨by decide, by first | rfl | exact trivial | (intro i j; first | rfl | exact getD_no rfl | (dsimp only; split <;> first | rfl | exact getD_no rfl) | exact scl_no (by apply_assumption) _), ?_⟩), trivial⟩, trivial, trivial⟩ ?_
 refine ADX.pure [] (PureOp.move rfl (.tmp rfl)) rfl rfl (nB rfl) trivial rfl ?_
 refine ADX.pure [] (PureOp.nilRef rfl (.tmp rfl)) rfl rfl (nB rfl) trivial rfl ?_
 refine ADX.pure [] (PureOp.fieldRef rfl (.tmp rfl) f22_ (nB rfl)) rfl rfl (nB rfl) trivial rfl ?_
 refine ADX.pure [] (PureOp.loadRef rfl (.tmp rfl) f2_ (nB rfl)) rfl rfl (nB rfl) trivial rfl ?_
 refine ADX.pure [] (PureOp.move rfl (.tmp rfl)) rfl rfl (nB rfl) trivial rfl ?_
 refine ADX.pure [] (PureOp.nilRef rfl (.tmp rfl)) rfl rfl (nB rfl) trivial rfl ?_
 refine ADX.pure [] (PureOp.fieldRef rfl (.tmp rfl) f23_ (nB rfl)) rfl rfl (nB rfl) trivial rfl ?_
 refine ADX.pure [] (PureOp.loadRef rfl (.tmp rfl) f3_ (nB rfl)) rfl rfl (nB rfl) trivial rfl ?_
 refine ADX.pure [] (PureOp.build (ys := [.int .i64 k, .str s]) (l := [.int .i64 0, .str ByteArray.empty, .int .i64 0, .int .i64 0]) (pl := [(0, 1), (1, 1), (2, 1), (3, 1)]) (z := (.agg #[.int .i64 0, .string ByteArray.empty, .int .i64 0, .int .i64 0])) rfl (by kernel_rfl) (by kernel_rfl) (fun _ _ _ => ⟨_, _, rfl, rfl, ⟨_, _, rfl, ⟨rfl, by decide⟩, ⟨_, _, rfl, rfl, ⟨_, _, rfl, rfl, rfl⟩⟩⟩⟩) ⟨(.tmp rfl), trivial, rfl, ⟨(.tmp rfl), trivial, rfl, trivial⟩⟩ rfl) rfl rfl (nB rfl) trivial rfl ?_
 refine ADX.eff (tk := [0]) (new := [0]) (s := .one (.ptr 0 4 0 0)) (F := [(5, .one (.ptr 0 4 0 0))]) (Hin := []) (Hout := [(0, .cells [.int .i64 0, .str ByteArray.empty, .int .i64 0, .int .i64 0])]) (fun E X hE hX Q rest hk => ?_) trivial ⟨rfl, rfl⟩ rfl rfl rfl rfl ⟨(by repeat first | exact trivial | refine ⟨by decide, by first | rfl | exact trivial | (intro i j; first | rfl | exact getD_no rfl | (dsimp only; split <;> first | rfl | exact getD_no rfl) | exact scl_no (by apply_assumption) _), ?_⟩), trivial⟩ rfl (fun _ e => by cases e; exact nB rfl) ?_
 ·
  refine ARun.alloc (id := 0) (l := [.int .i64 0, .str ByteArray.empty, .int .i64 0, .int .i64 0]) (z := (.agg #[.int .i64 0, .string ByteArray.empty, .int .i64 0, .int .i64 0])) rfl (by kernel_rfl) (fun _ _ _ => ⟨_, _, rfl, rfl, ⟨_, _, rfl, ⟨rfl, by decide⟩, ⟨_, _, rfl, rfl, ⟨_, _, rfl, rfl, rfl⟩⟩⟩⟩) (Fr.ext2 ⟨(by refine fr_env rfl ?_; (repeat refine env_cons (by first | with_reducible exact Fo.noS _ _ | with_reducible exact Fo.noS' _ _ | exact rfl | exact Fo.noS _ _ | exact Fo.noS' _ _ | exact agg_no (by repeat' first | with_reducible exact Fo.no _ _ | with_reducible exact Fo.no' _ _ | exact rfl | exact Fo.no _ _ | exact Fo.no' _ _ | refine no_cons ?_ ?_)) ?_); exact rfl), (by repeat first | exact trivial | refine ⟨by decide, by first | rfl | exact trivial | (intro i j; first | rfl | exact getD_no rfl | (dsimp only; split <;> first | rfl | exact getD_no rfl) | exact scl_no (by apply_assumption) _), ?_⟩)⟩ hE hX rfl rfl) rfl rfl rfl (nB rfl) ?_
  refine ARun.hleX ?_ ?_ hk
  ·
   exact HeapLe.one rfl trivial
  ·
   repeat (first | exact LkX.refl | refine LkX.cons (hX.none rfl) ?_ | refine LkX.filter (hX.none rfl) ?_)
 refine ADX.eff (tk := [0]) (new := []) (s := .one (.con undef)) (F := []) (Hin := [(0, .cells [.int .i64 0, .str ByteArray.empty, .int .i64 0, .int .i64 0])]) (Hout := [(0, .cells [.int .i64 k, .str s, .int .i64 0, .int .i64 0])]) (fun E X hE hX Q rest hk => ?_) ⟨rfl, trivial⟩ ⟨rfl, rfl⟩ rfl rfl rfl rfl trivial rfl (fun _ e => by cases e) ?_
 ·
  refine ARun.store rfl (.tmp rfl) (.tmp rfl) (SV.cells_of (by exact ⟨trivial, trivial, trivial, trivial, trivial⟩)) rfl (nB rfl) f35_ rfl rfl ?_
  refine ARun.hleX ?_ ?_ hk
  ·
   exact HeapLe.one rfl trivial
  ·
   repeat (first | exact LkX.refl | refine LkX.cons (hX.none rfl) ?_ | refine LkX.filter (hX.none rfl) ?_)
 refine ADX.nil (H := [(0, .cells [.int .i64 k, .str s, .int .i64 0, .int .i64 0])]) ?_ ?_
 ·
  exact HeapLe.one rfl trivial
 refine AW.seq ?_
 refine AW.seq ?_
 refine AW.region ?_
 refine pu (.move rfl (.tmp rfl)) rfl rfl rfl ?_
 refine pu (.nilRef rfl (.tmp rfl)) rfl rfl rfl ?_
 refine pu (.fieldRef rfl (.tmp rfl) f22_ (nB rfl)) rfl rfl rfl ?_
 refine pu (.loadRef rfl (.tmp rfl) f2_ (nB rfl)) rfl rfl rfl ?_
 refine pu (.call rfl (v_l5Two k) ⟨⟨_, (.tmp rfl), .int⟩, trivial⟩ f30_ trivial) rfl rfl rfl ?_
 refine pu (.move rfl (.tmp rfl)) rfl rfl rfl ?_
 refine ARun.gpure (want := false) (.tf rfl) (fun hg1 => PureOp.move rfl (.tmp rfl)) rfl rfl (nB rfl) rfl (nB rfl) ?_
 refine ARun.gpure (want := false) (.tf rfl) (fun hg2 => PureOp.nilRef rfl (.gtmp rfl hg2)) rfl rfl (nB rfl) rfl (nB rfl) ?_
 refine ARun.gpure (want := false) (.tf rfl) (fun hg3 => PureOp.fieldRef rfl (.gtmp rfl hg3) f22_ (nB rfl)) rfl rfl (nB rfl) rfl (nB rfl) ?_
 refine ARun.gpure (want := false) (.tf rfl) (fun hg4 => PureOp.loadRef rfl (.gtmp rfl hg4) f2_ (nB rfl)) rfl rfl (nB rfl) rfl (nB rfl) ?_
 refine ARun.gpure (want := false) (.tf rfl) (fun hg5 => PureOp.call rfl (v_l5One k) ⟨⟨_, (.gtmp rfl hg5), .int⟩, trivial⟩ f31_ trivial) rfl rfl (nB rfl) rfl (nB rfl) ?_
 refine pu (.pick rfl (.tmp rfl) (fun _ => .bool) (fun hp7 => .gtmp rfl (not_of hp7))) rfl rfl rfl ?_
 refine ARun.nil ?_
 refine AW.cond (.tmp rfl) (fun hb8 => ?_) (fun hb8 => ?_)
 ·
  have h12 := cond_two hb8
  have hwa := hw.a_of h12
  have hna := hwa.isNil
  refine AW.seq ?_
  refine AW.region ?_
  refine pu (.move rfl (.tmp rfl)) rfl rfl rfl ?_
  refine pu (.nilRef rfl (.tmp rfl)) rfl rfl rfl ?_
  refine pu (.fieldRef rfl (.tmp rfl) f24_ (nB rfl)) rfl rfl rfl ?_
  refine pu (.loadRef rfl (.tmp rfl) f27_ (nB rfl)) rfl rfl rfl ?_
  refine pu (.move rfl (.tmp rfl)) rfl rfl rfl ?_
  have hlena : (flatAt a 0).length = a.size := flatAt_len _ _
  refine ARun.mutx (Hr := [(0, .cells [.int .i64 k, .str s, .int .i64 0, .int .i64 0])]) (Hn := [(0, .cells [.int .i64 k, .str s, .int .i64 0, .int .i64 0]), (51, .arr 4 a.size (rowP (flatAt a 0)))]) (g := fun zz => zz) (g' := fun zz => if zz = 900 then 51 else zz) (K := [900]) (T := [(51, 900)]) rfl (ia0 hwa (by omega)) f29_ ⟨.inl ⟨_, (.tmp rfl), (Fo.vw' _ _)⟩, ⟨.inl ⟨_, (.tmp rfl), .con⟩, trivial⟩⟩ trivial ⟨⟨rfl, rfl⟩, trivial⟩ rfl ⟨⟨(by refine fr_env rfl ?_; (repeat refine env_cons (by first | with_reducible exact Fo.noS _ _ | with_reducible exact Fo.noS' _ _ | exact rfl | exact Fo.noS _ _ | exact Fo.noS' _ _ | exact agg_no (by repeat' first | with_reducible exact Fo.no _ _ | with_reducible exact Fo.no' _ _ | exact rfl | exact Fo.no _ _ | exact Fo.no' _ _ | refine no_cons ?_ ?_)) ?_); exact rfl), (by repeat first | exact trivial | refine ⟨by decide, by first | rfl | exact trivial | (intro i j; first | rfl | exact getD_no rfl | (dsimp only; split <;> first | rfl | exact getD_no rfl) | exact scl_no (by apply_assumption) _), ?_⟩)⟩, trivial⟩ (by kernel_rfl) (by kernel_rfl) (by kernel_rfl) ⟨.inl rfl, .inr ⟨900, _, rfl, rfl, rfl, ⟨rfl, rfl, fun i j hi hj => rowP_ren hj⟩, (fun i j hi hj => rowP_hx hj)⟩, trivial⟩ rfl rfl (nB rfl) (r' := .one (.own 51 4 a.size)) rfl ?_
  refine pu (.assign rfl (.tmp rfl)) rfl rfl rfl ?_
  refine ARun.nil ?_
  refine AW.region ?_
  refine pu (.move rfl (.tmp rfl)) rfl rfl rfl ?_
  refine pu (.lenOwn rfl (.tmp rfl) f34_) rfl rfl rfl ?_
  refine pu (.sub (c := (a.size : Int) - 1) rfl (.tmp rfl) .int (wrap_id (by omega) (by omega))) rfl rfl rfl ?_
  refine pu (.fieldPtr rfl (.tmp rfl) f32_) rfl rfl rfl ?_
  refine ARun.store rfl (.tmp rfl) (.tmp rfl) trivial rfl (nB rfl) f5_ rfl rfl ?_
  refine ARun.nil ?_
  refine AW.seq ?_
  refine AW.seq ?_
  refine AW.region ?_
  refine pu (.move rfl (.tmp rfl)) rfl rfl rfl ?_
  refine pu (.nilRef rfl (.tmp rfl)) rfl rfl rfl ?_
  refine pu (.fieldRef rfl (.tmp rfl) f22_ (nB rfl)) rfl rfl rfl ?_
  refine pu (.loadRef rfl (.tmp rfl) f2_ (nB rfl)) rfl rfl rfl ?_
  refine pu (.call rfl (v_l5Two k) ⟨⟨_, (.tmp rfl), .int⟩, trivial⟩ f30_ trivial) rfl rfl rfl ?_
  refine ARun.nil ?_
  refine AW.cond (.tmp rfl) (fun hb9 => ?_) (fun hb9 => ?_)
  ·
   have hwb := hw.b_of hb9
   have hnb := hwb.isNil
   refine AW.seq ?_
   refine AW.region ?_
   refine pu (.move rfl (.tmp rfl)) rfl rfl rfl ?_
   refine pu (.nilRef rfl (.tmp rfl)) rfl rfl rfl ?_
   refine pu (.fieldRef rfl (.tmp rfl) f25_ (nB rfl)) rfl rfl rfl ?_
   refine pu (.loadRef rfl (.tmp rfl) f27_ (nB rfl)) rfl rfl rfl ?_
   refine pu (.move rfl (.tmp rfl)) rfl rfl rfl ?_
   refine ARun.mutx (Hr := [(0, .cells [.int .i64 k, .str s, .int .i64 ((a.size : Int) - 1), .int .i64 0])]) (Hn := [(0, .cells [.int .i64 k, .str s, .int .i64 ((a.size : Int) - 1), .int .i64 0]), (102, .arr 4 (a.size + b.size) (rowP ((flatAt a 0) ++ flatAt b a.size)))]) (g := fun zz => if zz = 1000000 then 51 else zz) (g' := fun zz => if zz = 1000000 then 51 else if zz = 900 then 102 else zz) (K := [900]) (T := [(102, 900)]) rfl (ib hwb (flatAt a 0) a.size (flatAt_len a 0) (by omega)) f29_ ⟨.inl ⟨_, (.tmp rfl), (Fo.vw' _ _)⟩, ⟨.inr (.tmp rfl), trivial⟩⟩ ⟨⟨_, rfl, ⟨rfl, rfl, fun i j hi hj => rowP_ren hj⟩⟩, trivial⟩ ⟨⟨rfl, rfl⟩, trivial⟩ rfl ⟨⟨(by refine fr_env rfl ?_; (repeat refine env_cons (by first | with_reducible exact Fo.noS _ _ | with_reducible exact Fo.noS' _ _ | exact rfl | exact Fo.noS _ _ | exact Fo.noS' _ _ | exact agg_no (by repeat' first | with_reducible exact Fo.no _ _ | with_reducible exact Fo.no' _ _ | exact rfl | exact Fo.no _ _ | exact Fo.no' _ _ | refine no_cons ?_ ?_)) ?_); exact rfl), (by repeat first | exact trivial | refine ⟨by decide, by first | rfl | exact trivial | (intro i j; first | rfl | exact getD_no rfl | (dsimp only; split <;> first | rfl | exact getD_no rfl) | exact scl_no (by apply_assumption) _), ?_⟩)⟩, trivial⟩ (by kernel_rfl) (by kernel_rfl) (by kernel_rfl) ⟨.inl rfl, .inr ⟨900, _, rfl, rfl, rfl, ⟨rfl, rfl, fun i j hi hj => rowP_ren hj⟩, (fun i j hi hj => rowP_hx hj)⟩, trivial⟩ rfl rfl (nB rfl) (r' := .one (.own 102 4 (a.size + b.size))) rfl ?_
   refine pu (.assign rfl (.tmp rfl)) rfl rfl rfl ?_
   refine ARun.nil ?_
   refine AW.region ?_
   refine pu (.move rfl (.tmp rfl)) rfl rfl rfl ?_
   refine pu (.lenOwn rfl (.tmp rfl) f34_) rfl rfl rfl ?_
   refine pu (.sub (c := (((a.size + b.size) : Nat) : Int) - 1) rfl (.tmp rfl) .int (wrap_id (by omega) (by omega))) rfl rfl rfl ?_
   refine pu (.fieldPtr rfl (.tmp rfl) f33_) rfl rfl rfl ?_
   refine ARun.store rfl (.tmp rfl) (.tmp rfl) trivial rfl (nB rfl) f5_ rfl rfl ?_
   refine ARun.nil ?_
   refine AW.seq ?_
   refine AW.region ?_
   refine pu (.move rfl (.tmp rfl)) rfl rfl rfl ?_
   refine pu (.loadPtrAgg rfl (.tmp rfl) f28_ rfl rfl (nB rfl) (nB rfl)) rfl rfl rfl ?_
   refine ARun.slice1 (id := 899) (z := (.agg #[.int .i64 0, .string ByteArray.empty, .int .i64 0, .int .i64 0])) (by_ := 40) rfl (.tmp rfl) (SV.cells_of (by exact ⟨trivial, trivial, trivial, trivial, trivial⟩)) (by kernel_rfl) rfl rfl (by decide) (by decide) ⟨(by refine fr_env rfl ?_; (repeat refine env_cons (by first | with_reducible exact Fo.noS _ _ | with_reducible exact Fo.noS' _ _ | exact rfl | exact Fo.noS _ _ | exact Fo.noS' _ _ | exact agg_no (by repeat' first | with_reducible exact Fo.no _ _ | with_reducible exact Fo.no' _ _ | exact rfl | exact Fo.no _ _ | exact Fo.no' _ _ | refine no_cons ?_ ?_)) ?_); exact rfl), (by repeat first | exact trivial | refine ⟨by decide, by first | rfl | exact trivial | (intro i j; first | rfl | exact getD_no rfl | (dsimp only; split <;> first | rfl | exact getD_no rfl) | exact scl_no (by apply_assumption) _), ?_⟩)⟩ rfl rfl rfl (nB rfl) ?_
   refine ARun.append (id := 900) (sz := 4) (n := (a.size + b.size)) (m := 1) (by_ := 40) (z := (.agg #[.int .i64 0, .string ByteArray.empty, .int .i64 0, .int .i64 0])) (f := rowP ((flatAt a 0) ++ flatAt b a.size)) (g := fun _ jc => ([.int .i64 k, .str s, .int .i64 ((a.size : Int) - 1), .int .i64 ((((a.size + b.size) : Nat) : Int) - 1)] : List AV).getD jc (.con undef)) (h := fun ia ja => if ia < (a.size + b.size) then (rowP ((flatAt a 0) ++ flatAt b a.size) : Nat → Nat → AV) ia ja else (fun _ jc => ([.int .i64 k, .str s, .int .i64 ((a.size : Int) - 1), .int .i64 ((((a.size + b.size) : Nat) : Int) - 1)] : List AV).getD jc (.con undef) : Nat → Nat → AV) (ia - (a.size + b.size)) ja) rfl (by kernel_rfl) rfl f34_ (.own (.tmp rfl) rfl rfl rfl (Nat.le_refl _) (fun _ _ _ _ => rfl)) (.own (.tmp rfl) rfl rfl (Nat.le_refl _) (fun _ _ _ _ => rfl)) (by decide) (fun i j hi hj => match j, hj with | 0, _ => rfl | 1, _ => rfl | 2, _ => rfl | 3, _ => rfl | _ + 4, h => absurd h (by omega)) (fun _ _ _ _ => rfl) (by omega) (by omega) ⟨(by refine fr_env rfl ?_; (repeat refine env_cons (by first | with_reducible exact Fo.noS _ _ | with_reducible exact Fo.noS' _ _ | exact rfl | exact Fo.noS _ _ | exact Fo.noS' _ _ | exact agg_no (by repeat' first | with_reducible exact Fo.no _ _ | with_reducible exact Fo.no' _ _ | exact rfl | exact Fo.no _ _ | exact Fo.no' _ _ | refine no_cons ?_ ?_)) ?_); exact rfl), (by repeat first | exact trivial | refine ⟨by decide, by first | rfl | exact trivial | (intro i j; first | rfl | exact getD_no rfl | (dsimp only; split <;> first | rfl | exact getD_no rfl) | exact scl_no (by apply_assumption) _), ?_⟩)⟩ (fun i j => by dsimp only; (repeat' split) <;> first | rfl | exact getD_no rfl) rfl rfl (nB rfl) ?_
   refine pu (.assign rfl (.tmp rfl)) rfl rfl rfl ?_
   refine ARun.nil ?_
   refine AW.ret (show ResL _ _ [.tmp 4] _ ∧ HeapLe _ _ from ⟨resO rfl ?_, ⟨⟨_, rfl, rfl, Nat.le_of_eq (by first | rfl | (show _ = _; simp only [AObj.n, Fo.size]; omega)), fun i j hi hj => rowP_snoc (len_flat (flatAt_len a 0)) (flat_n2 hna hnb) (by have hq := hi; simp only [AObj.n, Fo.size] at hq; omega)⟩, trivial⟩⟩)
   first | rfl | (show _ = _; simp only [Fo.size]; omega)
  ·
   have hb0 := hw.nils hb9
   subst hb0
   refine AW.skip ?_
   refine AW.seq ?_
   refine AW.region ?_
   refine pu (.move rfl (.tmp rfl)) rfl rfl rfl ?_
   refine pu (.loadPtrAgg rfl (.tmp rfl) f28_ rfl rfl (nB rfl) (nB rfl)) rfl rfl rfl ?_
   refine ARun.slice1 (id := 899) (z := (.agg #[.int .i64 0, .string ByteArray.empty, .int .i64 0, .int .i64 0])) (by_ := 40) rfl (.tmp rfl) (SV.cells_of (by exact ⟨trivial, trivial, trivial, trivial, trivial⟩)) (by kernel_rfl) rfl rfl (by decide) (by decide) ⟨(by refine fr_env rfl ?_; (repeat refine env_cons (by first | with_reducible exact Fo.noS _ _ | with_reducible exact Fo.noS' _ _ | exact rfl | exact Fo.noS _ _ | exact Fo.noS' _ _ | exact agg_no (by repeat' first | with_reducible exact Fo.no _ _ | with_reducible exact Fo.no' _ _ | exact rfl | exact Fo.no _ _ | exact Fo.no' _ _ | refine no_cons ?_ ?_)) ?_); exact rfl), (by repeat first | exact trivial | refine ⟨by decide, by first | rfl | exact trivial | (intro i j; first | rfl | exact getD_no rfl | (dsimp only; split <;> first | rfl | exact getD_no rfl) | exact scl_no (by apply_assumption) _), ?_⟩)⟩ rfl rfl rfl (nB rfl) ?_
   refine ARun.append (id := 900) (sz := 4) (n := a.size) (m := 1) (by_ := 40) (z := (.agg #[.int .i64 0, .string ByteArray.empty, .int .i64 0, .int .i64 0])) (f := rowP (flatAt a 0)) (g := fun _ jc => ([.int .i64 k, .str s, .int .i64 ((a.size : Int) - 1), .int .i64 0] : List AV).getD jc (.con undef)) (h := fun ia ja => if ia < a.size then (rowP (flatAt a 0) : Nat → Nat → AV) ia ja else (fun _ jc => ([.int .i64 k, .str s, .int .i64 ((a.size : Int) - 1), .int .i64 0] : List AV).getD jc (.con undef) : Nat → Nat → AV) (ia - a.size) ja) rfl (by kernel_rfl) rfl f34_ (.own (.tmp rfl) rfl rfl rfl (Nat.le_refl _) (fun _ _ _ _ => rfl)) (.own (.tmp rfl) rfl rfl (Nat.le_refl _) (fun _ _ _ _ => rfl)) (by decide) (fun i j hi hj => match j, hj with | 0, _ => rfl | 1, _ => rfl | 2, _ => rfl | 3, _ => rfl | _ + 4, h => absurd h (by omega)) (fun _ _ _ _ => rfl) (by omega) (by omega) ⟨(by refine fr_env rfl ?_; (repeat refine env_cons (by first | with_reducible exact Fo.noS _ _ | with_reducible exact Fo.noS' _ _ | exact rfl | exact Fo.noS _ _ | exact Fo.noS' _ _ | exact agg_no (by repeat' first | with_reducible exact Fo.no _ _ | with_reducible exact Fo.no' _ _ | exact rfl | exact Fo.no _ _ | exact Fo.no' _ _ | refine no_cons ?_ ?_)) ?_); exact rfl), (by repeat first | exact trivial | refine ⟨by decide, by first | rfl | exact trivial | (intro i j; first | rfl | exact getD_no rfl | (dsimp only; split <;> first | rfl | exact getD_no rfl) | exact scl_no (by apply_assumption) _), ?_⟩)⟩ (fun i j => by dsimp only; (repeat' split) <;> first | rfl | exact getD_no rfl) rfl rfl (nB rfl) ?_
   refine pu (.assign rfl (.tmp rfl)) rfl rfl rfl ?_
   refine ARun.nil ?_
   refine AW.ret (show ResL _ _ [.tmp 4] _ ∧ HeapLe _ _ from ⟨resO rfl ?_, ⟨⟨_, rfl, rfl, Nat.le_of_eq (by first | rfl | (show _ = _; simp only [AObj.n, Fo.size]; omega)), fun i j hi hj => rowP_snoc (flatAt_len a 0) (flat_n1 hna) (by have hq := hi; simp only [AObj.n, Fo.size] at hq; omega)⟩, trivial⟩⟩)
   first | rfl | (show _ = _; simp only [Fo.size]; omega)
 ·
  have h12 := cond_two hb8
  refine AW.skip ?_
  refine AW.seq ?_
  refine AW.seq ?_
  refine AW.region ?_
  refine pu (.move rfl (.tmp rfl)) rfl rfl rfl ?_
  refine pu (.nilRef rfl (.tmp rfl)) rfl rfl rfl ?_
  refine pu (.fieldRef rfl (.tmp rfl) f22_ (nB rfl)) rfl rfl rfl ?_
  refine pu (.loadRef rfl (.tmp rfl) f2_ (nB rfl)) rfl rfl rfl ?_
  refine pu (.call rfl (v_l5Two k) ⟨⟨_, (.tmp rfl), .int⟩, trivial⟩ f30_ trivial) rfl rfl rfl ?_
  refine ARun.nil ?_
  refine AW.cond (.tmp rfl) (fun hb10 => ?_) (fun hb10 => ?_)
  ·
   rw [hb10] at h12; cases h12
   --end
  ·
   have hb0 := hw.nils hb10
   subst hb0
   have h1 : isOne k = false := by rw [hb10] at h12; exact h12
   have ha0 := hw.nila hb10 h1
   subst ha0
   refine AW.skip ?_
   refine AW.seq ?_
   refine AW.region ?_
   refine pu (.move rfl (.tmp rfl)) rfl rfl rfl ?_
   refine pu (.loadPtrAgg rfl (.tmp rfl) f28_ rfl rfl (nB rfl) (nB rfl)) rfl rfl rfl ?_
   refine ARun.slice1 (id := 899) (z := (.agg #[.int .i64 0, .string ByteArray.empty, .int .i64 0, .int .i64 0])) (by_ := 40) rfl (.tmp rfl) (SV.cells_of (by exact ⟨trivial, trivial, trivial, trivial, trivial⟩)) (by kernel_rfl) rfl rfl (by decide) (by decide) ⟨(by refine fr_env rfl ?_; (repeat refine env_cons (by first | with_reducible exact Fo.noS _ _ | with_reducible exact Fo.noS' _ _ | exact rfl | exact Fo.noS _ _ | exact Fo.noS' _ _ | exact agg_no (by repeat' first | with_reducible exact Fo.no _ _ | with_reducible exact Fo.no' _ _ | exact rfl | exact Fo.no _ _ | exact Fo.no' _ _ | refine no_cons ?_ ?_)) ?_); exact rfl), (by repeat first | exact trivial | refine ⟨by decide, by first | rfl | exact trivial | (intro i j; first | rfl | exact getD_no rfl | (dsimp only; split <;> first | rfl | exact getD_no rfl) | exact scl_no (by apply_assumption) _), ?_⟩)⟩ rfl rfl rfl (nB rfl) ?_
   refine ARun.append (id := 900) (sz := 4) (n := 0) (m := 1) (by_ := 40) (z := (.agg #[.int .i64 0, .string ByteArray.empty, .int .i64 0, .int .i64 0])) (f := fun _ _ => .con undef) (g := fun _ jc => ([.int .i64 k, .str s, .int .i64 0, .int .i64 0] : List AV).getD jc (.con undef)) (h := fun ia ja => if ia < 0 then (fun _ _ => .con undef : Nat → Nat → AV) ia ja else (fun _ jc => ([.int .i64 k, .str s, .int .i64 0, .int .i64 0] : List AV).getD jc (.con undef) : Nat → Nat → AV) (ia - 0) ja) rfl (by kernel_rfl) rfl f34_ (.nil (.tmp rfl) rfl) (.own (.tmp rfl) rfl rfl (Nat.le_refl _) (fun _ _ _ _ => rfl)) (by decide) (fun i j hi hj => match j, hj with | 0, _ => rfl | 1, _ => rfl | 2, _ => rfl | 3, _ => rfl | _ + 4, h => absurd h (by omega)) (fun _ _ _ _ => rfl) (by omega) (by omega) ⟨(by refine fr_env rfl ?_; (repeat refine env_cons (by first | with_reducible exact Fo.noS _ _ | with_reducible exact Fo.noS' _ _ | exact rfl | exact Fo.noS _ _ | exact Fo.noS' _ _ | exact agg_no (by repeat' first | with_reducible exact Fo.no _ _ | with_reducible exact Fo.no' _ _ | exact rfl | exact Fo.no _ _ | exact Fo.no' _ _ | refine no_cons ?_ ?_)) ?_); exact rfl), (by repeat first | exact trivial | refine ⟨by decide, by first | rfl | exact trivial | (intro i j; first | rfl | exact getD_no rfl | (dsimp only; split <;> first | rfl | exact getD_no rfl) | exact scl_no (by apply_assumption) _), ?_⟩)⟩ (fun i j => by dsimp only; (repeat' split) <;> first | rfl | exact getD_no rfl) rfl rfl (nB rfl) ?_
   refine pu (.assign rfl (.tmp rfl)) rfl rfl rfl ?_
   refine ARun.nil ?_
   refine AW.ret (show ResL _ _ [.tmp 4] _ ∧ HeapLe _ _ from ⟨resO rfl ?_, ⟨⟨_, rfl, rfl, Nat.le_of_eq (by first | rfl | (show _ = _; simp only [AObj.n, Fo.size]; omega)), fun i j hi hj => rowP_snoc0 (f := fun _ _ => .con undef) (flat_leaf (n := 0)) hi⟩, trivial⟩⟩)
   first | rfl | (show _ = _; simp only [Fo.size]; omega)
theorem v_l5FlatNil : ∀ (t : Fo), Wf t → t.size ≤ 100000 → FnG Try.prog 55 [.one (Fo.av t), .one (.con (.slice none 0 0))] [] (.one (.own 900 4 t.size)) [(900, .arr 4 t.size (rowP (flatAt t 0)))]
  | .nil => fun h _ => by cases h
  | .mk k s a b => fun hw hz => by
    have hz : a.size + b.size + 1 ≤ 100000 := hz
    exact v_l5FlatNilS k s a b hw hz (v_l5FlatNil a) (v_l5Flat b)
end Go.Proofs.Ytonfeiloekofdaa

namespace Go.Proofs.Ytonfeiloekofdaa
open Go.ChangeShapes Go.WideShapes Go.ChangeAt Go.RowKit Go.BigFrame Go.Deep
set_option linter.unusedVariables false
set_option linter.unusedSimpArgs false
theorem f36_ : callB Try.prog 79 = true := by kernel_rfl
theorem f37_ : plainB Try.prog 113 = true := by kernel_rfl
theorem f38_ : plainB Try.prog 36 = true := by kernel_rfl
theorem f39_ : sizeB Try.prog 113 1 = true := by kernel_rfl
theorem f40_ : sizeB Try.prog 36 1 = true := by kernel_rfl
theorem new1 {id : Nat} {env : Env} (h : env.all (fun p => p.2.no id) = true) : ([id].all fun id => env.all fun p => p.2.no id) = true := by rw [List.all_cons, h]; rfl
theorem add_end {k : Int} {s : ByteArray} {a b : Fo} {l L M : List GPart} {m : Nat} {A B : Int} (h0 : ¬ 24 < l.length) (hA : addP a l = (M, A)) (hB : addP b M = (L, B)) (hL : L.length = m) :
    (addP (.mk k s a b) l).1.length = m + 1 ∧ (addP (.mk k s a b) l).1 = L ++ [⟨k, s, A, B⟩] ∧ (addP (.mk k s a b) l).2 = (m : Int) := by
  have e : addP (.mk k s a b) l = (L ++ [⟨k, s, A, B⟩], (m : Int)) := by
    conv => lhs; unfold addP
    rw [if_neg h0, hA]
    dsimp only
    rw [hB]
    dsimp only
    rw [hL]
  rw [e]
  refine ⟨?_, rfl, rfl⟩
  show (L ++ [_]).length = m + 1
  rw [List.length_append, hL]; rfl
theorem add_stop {k : Int} {s : ByteArray} {a b : Fo} {l : List GPart} {n : Nat} (h0 : 24 < l.length) (hn : l.length = n) : (addP (.mk k s a b) l).1.length = n ∧ (addP (.mk k s a b) l).1 = l ∧ (addP (.mk k s a b) l).2 = 0 := by
  have e : addP (.mk k s a b) l = (l, 0) := by
    conv => lhs; unfold addP
    rw [if_pos h0]
  rw [e]; exact ⟨hn, rfl, rfl⟩
theorem add_nil {t : Fo} (h : t.isNil = true) (l : List GPart) : addP t l = (l, 0) := by rw [size_nil h]; rfl
theorem add_len {t : Fo} {l : List GPart} {n : Nat} (hn : l.length = n) : (addP t l).1.length ≤ n + t.size := by have := addP_le t l; omega
theorem v_AddS (k : Int) (s : ByteArray) (a b : Fo) (l : List GPart) (n : Nat) (hn : l.length = n) (hz : n + (a.size + b.size + 1) ≤ 100000) (ia : a.isNil = false → ∀ (l : List GPart) (n : Nat), l.length = n → n + a.size ≤ 100000 → FnG Try.prog 79 [.one (Fo.av a), .one (.ptr 1000000 1 0 0), .one (.ptr 1000002 1 0 0)] [(1000000, .cells [.own 1000001 4 n]), (1000001, .arr 4 n (rowP l)), (1000002, .cells [.fn 79 2 (fun j => ([.ptr 1000000 1 0 0, .ptr 1000002 1 0 0] : List AV).getD j (.con undef))])] (.one (.int .i64 (addP a l).2)) [(900, .arr 4 (addP a l).1.length (rowP (addP a l).1)), (1000000, .cells [.own 900 4 (addP a l).1.length]), (1000002, .cells [.fn 79 2 (fun j => ([.ptr 1000000 1 0 0, .ptr 1000002 1 0 0] : List AV).getD j (.con undef))])]) (ib : b.isNil = false → ∀ (l : List GPart) (n : Nat), l.length = n → n + b.size ≤ 100000 → FnG Try.prog 79 [.one (Fo.av b), .one (.ptr 1000000 1 0 0), .one (.ptr 1000002 1 0 0)] [(1000000, .cells [.own 1000001 4 n]), (1000001, .arr 4 n (rowP l)), (1000002, .cells [.fn 79 2 (fun j => ([.ptr 1000000 1 0 0, .ptr 1000002 1 0 0] : List AV).getD j (.con undef))])] (.one (.int .i64 (addP b l).2)) [(900, .arr 4 (addP b l).1.length (rowP (addP b l).1)), (1000000, .cells [.own 900 4 (addP b l).1.length]), (1000002, .cells [.fn 79 2 (fun j => ([.ptr 1000000 1 0 0, .ptr 1000002 1 0 0] : List AV).getD j (.con undef))])]) : FnG Try.prog 79 [.one (.ref 4 (fun j => ([.int .i64 k, .str s, a.av, b.av] : List AV).getD j (.con undef))), .one (.ptr 1000000 1 0 0), .one (.ptr 1000002 1 0 0)] [(1000000, .cells [.own 1000001 4 n]), (1000001, .arr 4 n (rowP l)), (1000002, .cells [.fn 79 2 (fun j => ([.ptr 1000000 1 0 0, .ptr 1000002 1 0 0] : List AV).getD j (.con undef))])] ((.one (.int .i64 (addP (Fo.mk k s a b) l).2))) [(900, .arr 4 ((addP (Fo.mk k s a b) l).1.length) (rowP (addP (Fo.mk k s a b) l).1)), (1000000, .cells [.own 900 4 ((addP (Fo.mk k s a b) l).1.length)]), (1000002, .cells [.fn 79 2 (fun j => ([.ptr 1000000 1 0 0, .ptr 1000002 1 0 0] : List AV).getD j (.con undef))])] := by
 refine FnG.of_body (fn := Try.f79) Try.func79 rfl (nB rfl) ?_
 intro w0
 show AW _ 49 _ _ _ _
 refine AW.seq ?_
 refine AW.region ?_
 refine pu (.assign rfl .int) rfl rfl rfl ?_
 refine ARun.nil ?_
 refine AW.seq ?_
 refine AW.seq ?_
 refine AW.region ?_
 refine pu (.loadPtr rfl (.tmp rfl) f38_ rfl rfl (nB rfl) (nB rfl)) rfl rfl rfl ?_
 refine pu (.lenOwn rfl (.tmp rfl) f34_) rfl rfl rfl ?_
 refine pu (.intOp rfl (.tmp rfl) .int rfl) rfl rfl rfl ?_
 refine ARun.nil ?_
 refine AW.cond (.tmp rfl) (fun hb1 => ?_) (fun hb1 => ?_)
 ·
  replace hb1 := of_decide_eq_true hb1
  have h0 : 24 < l.length := by omega
  refine AW.seq ?_
  refine AW.region ?_
  refine pu (.assign rfl .int) rfl rfl rfl ?_
  refine ARun.nil ?_
  obtain ⟨he1, he2, he3⟩ := add_stop (k := k) (s := s) (a := a) (b := b) h0 hn
  rw [he1, he2, he3]
  refine AW.moveCell 1000000 0 1000001 900 4 n [.own 1000001 4 n] [.own 900 4 n] rfl rfl rfl rfl rfl (by decide) ⟨(by refine fr_env rfl ?_; (repeat refine env_cons (by first | with_reducible exact Fo.noS _ _ | with_reducible exact Fo.noS' _ _ | exact rfl | exact Fo.noS _ _ | exact Fo.noS' _ _ | exact agg_no (by repeat' first | with_reducible exact Fo.no _ _ | with_reducible exact Fo.no' _ _ | exact rfl | exact Fo.no _ _ | exact Fo.no' _ _ | refine no_cons ?_ ?_)) ?_); exact rfl), (by repeat first | exact trivial | refine ⟨by decide, by first | rfl | exact trivial | (intro i j; first | rfl | exact getD_no rfl | (dsimp only; split <;> first | rfl | exact getD_no rfl) | exact scl_no (by apply_assumption) _), ?_⟩)⟩ ?_
  refine AW.ret (show ResL _ _ [.tmp 4] _ ∧ HeapLe _ _ from ⟨resI rfl ?_, HeapLe.one rfl (HeapLe.one rfl (HeapLe.one rfl trivial))⟩)
  first | rfl | omega
 ·
  replace hb1 := of_decide_eq_false hb1
  have h0 : ¬ 24 < l.length := by omega
  refine AW.skip ?_
  refine AW.seq ?_
  refine AW.anyX [⟨[], [], [], []⟩, ⟨[], [], [], []⟩, ⟨[], [], [], []⟩, ⟨[], [], [], []⟩, ⟨[], [], [], []⟩, ⟨[], [], [], []⟩, ⟨[], [], [], []⟩, ⟨[], [], [], []⟩, ⟨[], [], [], []⟩, ⟨[], [0], [0], [(0, .cells [.int .i64 0, .str ByteArray.empty, .int .i64 0, .int .i64 0])]⟩, ⟨[], [0], [], [(0, .cells [.int .i64 k, .str s, .int .i64 0, .int .i64 0])]⟩] (by kernel_rfl) (by kernel_rfl) (by kernel_rfl) ⟨⟨.inl rfl, .inr (.inr trivial), .inr (.inr trivial), .inr (.inr trivial), .inr (.inr trivial), .inr (.inr trivial), .inr (.inr trivial), .inr (.inr trivial), .inr (.inr trivial), .inr (.inr (by repeat first | exact trivial | refine And.intro ?_ ?_ | exact rfl | (intro i j; first | rfl | exact getD_no rfl | (dsimp only; split <;> first | rfl | exact getD_no rfl) | exact scl_no (by apply_assumption) _))), .inr (.inr trivial), trivial⟩, ⟨.inr (.inr trivial), .inl rfl, .inr (.inr trivial), .inr (.inr trivial), .inr (.inr trivial), .inr (.inr trivial), .inr (.inr trivial), .inr (.inr trivial), .inr (.inr trivial), .inr (.inr (by repeat first | exact trivial | refine And.intro ?_ ?_ | exact rfl | (intro i j; first | rfl | exact getD_no rfl | (dsimp only; split <;> first | rfl | exact getD_no rfl) | exact scl_no (by apply_assumption) _))), .inr (.inr trivial), trivial⟩, ⟨.inr (.inr trivial), .inr (.inr trivial), .inl rfl, .inr (.inr trivial), .inr (.inr trivial), .inr (.inr trivial), .inr (.inr trivial), .inr (.inr trivial), .inr (.inr trivial), .inr (.inr (by repeat first | exact trivial | refine And.intro ?_ ?_ | exact rfl | (intro i j; first | rfl | exact getD_no rfl | (dsimp only; split <;> first | rfl | exact getD_no rfl) | exact scl_no (by apply_assumption) _))), .inr (.inr trivial), trivial⟩, ⟨.inr (.inr trivial), .inr (.inr trivial), .inr (.inr trivial), .inl rfl, .inr (.inr trivial), .inr (.inr trivial), .inr (.inr trivial), .inr (.inr trivial), .inr (.inr trivial), .inr (.inr (by repeat first | exact trivial | refine And.intro ?_ ?_ | exact rfl | (intro i j; first | rfl | exact getD_no rfl | (dsimp only; split <;> first | rfl | exact getD_no rfl) | exact scl_no (by apply_assumption) _))), .inr (.inr trivial), trivial⟩, ⟨.inr (.inr trivial), .inr (.inr trivial), .inr (.inr trivial), .inr (.inr trivial), .inl rfl, .inr (.inr trivial), .inr (.inr trivial), .inr (.inr trivial), .inr (.inr trivial), .inr (.inr (by repeat first | exact trivial | refine And.intro ?_ ?_ | exact rfl | (intro i j; first | rfl | exact getD_no rfl | (dsimp only; split <;> first | rfl | exact getD_no rfl) | exact scl_no (by apply_assumption) _))), .inr (.inr trivial), trivial⟩, ⟨.inr (.inr trivial), .inr (.inr trivial), .inr (.inr trivial), .inr (.inr trivial), .inr (.inr trivial), .inl rfl, .inr (.inr trivial), .inr (.inr trivial), .inr (.inr trivial), .inr (.inr (by repeat first | exact trivial | refine And.intro ?_ ?_ | exact rfl | (intro i j; first | rfl | exact getD_no rfl | (dsimp only; split <;> first | rfl | exact getD_no rfl) | exact scl_no (by apply_assumption) _))), .inr (.inr trivial), trivial⟩, ⟨.inr (.inr trivial), .inr (.inr trivial), .inr (.inr trivial), .inr (.inr trivial), .inr (.inr trivial), .inr (.inr trivial), .inl rfl, .inr (.inr trivial), .inr (.inr trivial), .inr (.inr (by repeat first | exact trivial | refine And.intro ?_ ?_ | exact rfl | (intro i j; first | rfl | exact getD_no rfl | (dsimp only; split <;> first | rfl | exact getD_no rfl) | exact scl_no (by apply_assumption) _))), .inr (.inr trivial), trivial⟩, ⟨.inr (.inr trivial), .inr (.inr trivial), .inr (.inr trivial), .inr (.inr trivial), .inr (.inr trivial), .inr (.inr trivial), .inr (.inr trivial), .inl rfl, .inr (.inr trivial), .inr (.inr (by repeat first | exact trivial | refine And.intro ?_ ?_ | exact rfl | (intro i j; first | rfl | exact getD_no rfl | (dsimp only; split <;> first | rfl | exact getD_no rfl) | exact scl_no (by apply_assumption) _))), .inr (.inr trivial), trivial⟩, ⟨.inr (.inr trivial), .inr (.inr trivial), .inr (.inr trivial), .inr (.inr trivial), .inr (.inr trivial), .inr (.inr trivial), .inr (.inr trivial), .inr (.inr trivial), .inl rfl, .inr (.inr (by repeat first | exact trivial | refine And.intro ?_ ?_ | exact rfl | (intro i j; first | rfl | exact getD_no rfl | (dsimp only; split <;> first | rfl | exact getD_no rfl) | exact scl_no (by apply_assumption) _))), .inr (.inr trivial), trivial⟩, ⟨.inr (.inr trivial), .inr (.inr trivial), .inr (.inr trivial), .inr (.inr trivial), .inr (.inr trivial), .inr (.inr trivial), .inr (.inr trivial), .inr (.inr trivial), .inr (.inr trivial), .inl rfl, .inr (.inr trivial), trivial⟩, ⟨.inr (.inr trivial), .inr (.inr trivial), .inr (.inr trivial), .inr (.inr trivial), .inr (.inr trivial), .inr (.inr trivial), .inr (.inr trivial), .inr (.inr trivial), .inr (.inr trivial), .inr (.inl (by kernel_rfl)), .inl rfl, trivial⟩, trivial⟩ ⟨trivial, trivial, trivial, trivial, trivial, trivial, trivial, trivial, trivial, ⟨(by repeat first | exact trivial | refine ⟨by decide, by first | rfl | exact trivial | (intro i j; first | rfl | exact getD_no rfl | (dsimp only; split <;> first | rfl | exact getD_no rfl) | exact scl_no (by apply_assumption) _), ?_⟩), trivial⟩, trivial, trivial⟩ ?_
  refine ADX.pure [] (PureOp.move rfl (.tmp rfl)) rfl rfl (nB rfl) trivial rfl ?_
  refine ADX.pure [] (PureOp.nilRef rfl (.tmp rfl)) rfl rfl (nB rfl) trivial rfl ?_
  refine ADX.pure [] (PureOp.fieldRef rfl (.tmp rfl) f18_ (nB rfl)) rfl rfl (nB rfl) trivial rfl ?_
  refine ADX.pure [] (PureOp.loadRef rfl (.tmp rfl) f2_ (nB rfl)) rfl rfl (nB rfl) trivial rfl ?_
  refine ADX.pure [] (PureOp.move rfl (.tmp rfl)) rfl rfl (nB rfl) trivial rfl ?_
  refine ADX.pure [] (PureOp.nilRef rfl (.tmp rfl)) rfl rfl (nB rfl) trivial rfl ?_
  refine ADX.pure [] (PureOp.fieldRef rfl (.tmp rfl) f19_ (nB rfl)) rfl rfl (nB rfl) trivial rfl ?_
  refine ADX.pure [] (PureOp.loadRef rfl (.tmp rfl) f3_ (nB rfl)) rfl rfl (nB rfl) trivial rfl ?_
  refine ADX.pure [] (PureOp.build (ys := [.int .i64 k, .str s]) (l := [.int .i64 0, .str ByteArray.empty, .int .i64 0, .int .i64 0]) (pl := [(0, 1), (1, 1), (2, 1), (3, 1)]) (z := (.agg #[.int .i64 0, .string ByteArray.empty, .int .i64 0, .int .i64 0])) rfl (by kernel_rfl) (by kernel_rfl) (fun _ _ _ => ⟨_, _, rfl, rfl, ⟨_, _, rfl, ⟨rfl, by decide⟩, ⟨_, _, rfl, rfl, ⟨_, _, rfl, rfl, rfl⟩⟩⟩⟩) ⟨(.tmp rfl), trivial, rfl, ⟨(.tmp rfl), trivial, rfl, trivial⟩⟩ rfl) rfl rfl (nB rfl) trivial rfl ?_
  refine ADX.eff (tk := [0]) (new := [0]) (s := .one (.ptr 0 4 0 0)) (F := [(5, .one (.ptr 0 4 0 0))]) (Hin := []) (Hout := [(0, .cells [.int .i64 0, .str ByteArray.empty, .int .i64 0, .int .i64 0])]) (fun E X hE hX Q rest hk => ?_) trivial ⟨rfl, rfl⟩ rfl rfl rfl rfl ⟨(by repeat first | exact trivial | refine ⟨by decide, by first | rfl | exact trivial | (intro i j; first | rfl | exact getD_no rfl | (dsimp only; split <;> first | rfl | exact getD_no rfl) | exact scl_no (by apply_assumption) _), ?_⟩), trivial⟩ rfl (fun _ e => by cases e; exact nB rfl) ?_
  ·
   refine ARun.alloc (id := 0) (l := [.int .i64 0, .str ByteArray.empty, .int .i64 0, .int .i64 0]) (z := (.agg #[.int .i64 0, .string ByteArray.empty, .int .i64 0, .int .i64 0])) rfl (by kernel_rfl) (fun _ _ _ => ⟨_, _, rfl, rfl, ⟨_, _, rfl, ⟨rfl, by decide⟩, ⟨_, _, rfl, rfl, ⟨_, _, rfl, rfl, rfl⟩⟩⟩⟩) (Fr.ext2 ⟨(by refine fr_env rfl ?_; (repeat refine env_cons (by first | with_reducible exact Fo.noS _ _ | with_reducible exact Fo.noS' _ _ | exact rfl | exact Fo.noS _ _ | exact Fo.noS' _ _ | exact agg_no (by repeat' first | with_reducible exact Fo.no _ _ | with_reducible exact Fo.no' _ _ | exact rfl | exact Fo.no _ _ | exact Fo.no' _ _ | refine no_cons ?_ ?_)) ?_); exact rfl), (by repeat first | exact trivial | refine ⟨by decide, by first | rfl | exact trivial | (intro i j; first | rfl | exact getD_no rfl | (dsimp only; split <;> first | rfl | exact getD_no rfl) | exact scl_no (by apply_assumption) _), ?_⟩)⟩ hE hX rfl rfl) rfl rfl rfl (nB rfl) ?_
   refine ARun.hleX ?_ ?_ hk
   ·
    exact HeapLe.one rfl trivial
   ·
    repeat (first | exact LkX.refl | refine LkX.cons (hX.none rfl) ?_ | refine LkX.filter (hX.none rfl) ?_)
  refine ADX.eff (tk := [0]) (new := []) (s := .one (.con undef)) (F := []) (Hin := [(0, .cells [.int .i64 0, .str ByteArray.empty, .int .i64 0, .int .i64 0])]) (Hout := [(0, .cells [.int .i64 k, .str s, .int .i64 0, .int .i64 0])]) (fun E X hE hX Q rest hk => ?_) ⟨rfl, trivial⟩ ⟨rfl, rfl⟩ rfl rfl rfl rfl trivial rfl (fun _ e => by cases e) ?_
  ·
   refine ARun.store rfl (.tmp rfl) (.tmp rfl) (SV.cells_of (by exact ⟨trivial, trivial, trivial, trivial, trivial⟩)) rfl (nB rfl) f35_ rfl rfl ?_
   refine ARun.hleX ?_ ?_ hk
   ·
    exact HeapLe.one rfl trivial
   ·
    repeat (first | exact LkX.refl | refine LkX.cons (hX.none rfl) ?_ | refine LkX.filter (hX.none rfl) ?_)
  refine ADX.nil (H := [(0, .cells [.int .i64 k, .str s, .int .i64 0, .int .i64 0]), (1000000, .cells [.own 1000001 4 n]), (1000001, .arr 4 n (rowP l)), (1000002, .cells [.fn 79 2 (fun j => ([.ptr 1000000 1 0 0, .ptr 1000002 1 0 0] : List AV).getD j (.con undef))])]) ?_ ?_
  ·
   exact HeapLe.one rfl (HeapLe.one rfl (HeapLe.one rfl (HeapLe.one rfl trivial)))
  refine AW.seq ?_
  refine AW.seq ?_
  refine AW.region ?_
  refine pu (.move rfl (.tmp rfl)) rfl rfl rfl ?_
  refine pu (.nilRef rfl (.tmp rfl)) rfl rfl rfl ?_
  refine pu (.fieldRef rfl (.tmp rfl) f20_ (nB rfl)) rfl rfl rfl ?_
  refine pu (.loadRef rfl (.tmp rfl) f26_ (nB rfl)) rfl rfl rfl ?_
  refine pu (.neNilP (b := a.isNil) rfl (.tmp rfl) (Fo.pn' _) (by kernel_rfl)) rfl rfl rfl ?_
  refine ARun.nil ?_
  refine AW.cond (.tmp rfl) (fun hb2 => ?_) (fun hb2 => ?_)
  ·
   have hna : a.isNil = false := by simpa using hb2
   have hla := add_len (t := a) hn
   refine AW.anyE [5, 7] [7, 5] [(1000002, .cells [.fn 79 2 (fun j => ([.ptr 1000000 1 0 0, .ptr 1000002 1 0 0] : List AV).getD j (.con undef))])] [(0, .cells [.int .i64 k, .str s, .int .i64 0, .int .i64 0]), (1000002, .cells [.fn 79 2 (fun j => ([.ptr 1000000 1 0 0, .ptr 1000002 1 0 0] : List AV).getD j (.con undef))])] 7 (by kernel_rfl) (by kernel_rfl) (by kernel_rfl) rfl rfl ⟨rfl, trivial⟩ ⟨rfl, rfl, trivial⟩ ?_
   refine ADE.early (PureOp.loadPtr rfl (.tmp rfl) f37_ rfl rfl (nB rfl) (nB rfl)) rfl rfl (nB rfl) (by kernel_rfl) rfl rfl ?_
   refine ADE.early (PureOp.move rfl (.tmp rfl)) rfl rfl (nB rfl) (by kernel_rfl) rfl rfl ?_
   refine ADE.early (PureOp.nilRef rfl (.tmp rfl)) rfl rfl (nB rfl) (by kernel_rfl) rfl rfl ?_
   refine ADE.early (PureOp.fieldRef rfl (.tmp rfl) f20_ (nB rfl)) rfl rfl (nB rfl) (by kernel_rfl) rfl rfl ?_
   refine ADE.early (PureOp.loadRef rfl (.tmp rfl) f26_ (nB rfl)) rfl rfl (nB rfl) (by kernel_rfl) rfl rfl ?_
   refine ADE.eff (new := [51]) (s := .one (.int .i64 ((addP a l).2))) (F := [(28, .one (.int .i64 ((addP a l).2)))]) (H' := [(0, .cells [.int .i64 k, .str s, .int .i64 0, .int .i64 0]), (51, .arr 4 ((addP a l).1.length) (rowP ((addP a l).1))), (1000000, .cells [.own 51 4 ((addP a l).1.length)]), (1000002, .cells [.fn 79 2 (fun j => ([.ptr 1000000 1 0 0, .ptr 1000002 1 0 0] : List AV).getD j (.con undef))])]) (fun E hE Q rest hk => ?_) ⟨rfl, rfl⟩ rfl (fun _ e => by cases e; exact nB rfl) (by refine new1 ?_; (repeat refine env_cons (by first | with_reducible exact Fo.noS _ _ | with_reducible exact Fo.noS' _ _ | exact rfl | exact Fo.noS _ _ | exact Fo.noS' _ _ | exact agg_no (by repeat' first | with_reducible exact Fo.no _ _ | with_reducible exact Fo.no' _ _ | exact rfl | exact Fo.no _ _ | exact Fo.no' _ _ | refine no_cons ?_ ?_)) ?_); exact rfl) rfl ⟨rfl, trivial⟩ (fun _ => ⟨rfl, rfl, trivial⟩) ?_
   ·
    refine ARun.mutxV (args := [.one (Fo.av a)]) (m := 2) (cv := (fun j => ([.ptr 1000000 1 0 0, .ptr 1000002 1 0 0] : List AV).getD j (.con undef))) (Hr := [(0, .cells [.int .i64 k, .str s, .int .i64 0, .int .i64 0])]) (Hn := [(0, .cells [.int .i64 k, .str s, .int .i64 0, .int .i64 0]), (51, .arr 4 ((addP a l).1.length) (rowP ((addP a l).1))), (1000000, .cells [.own 51 4 ((addP a l).1.length)]), (1000002, .cells [.fn 79 2 (fun j => ([.ptr 1000000 1 0 0, .ptr 1000002 1 0 0] : List AV).getD j (.con undef))])]) (g := fun zz => if zz = 1000000 then 1000000 else if zz = 1000001 then 1000001 else if zz = 1000002 then 1000002 else zz) (g' := fun zz => if zz = 1000000 then 1000000 else if zz = 1000001 then 1000001 else if zz = 1000002 then 1000002 else if zz = 900 then 51 else zz) (K := [900, 1000000, 1000002]) (T := [(51, 900)]) rfl (.tmp rfl) (ia hna l n hn (by omega)) (fun j hj => match j, hj with | 0, _ => rfl | 1, _ => rfl | _ + 2, h => absurd h (by omega)) f36_ ⟨.inl ⟨_, (.tmp rfl), (Fo.vw' _ _)⟩, trivial⟩ ⟨⟨_, rfl, rfl⟩, ⟨_, rfl, ⟨rfl, rfl, fun i j hi hj => rowP_ren hj⟩⟩, ⟨_, rfl, (congrArg (fun z => [AV.fn 79 2 z]) (funext fun j => match j with | 0 => rfl | 1 => rfl | _ + 2 => rfl))⟩, trivial⟩ ⟨⟨rfl, rfl⟩, trivial⟩ rfl ⟨(Fr.ext ⟨(by refine fr_env rfl ?_; (repeat refine env_cons (by first | with_reducible exact Fo.noS _ _ | with_reducible exact Fo.noS' _ _ | exact rfl | exact Fo.noS _ _ | exact Fo.noS' _ _ | exact agg_no (by repeat' first | with_reducible exact Fo.no _ _ | with_reducible exact Fo.no' _ _ | exact rfl | exact Fo.no _ _ | exact Fo.no' _ _ | refine no_cons ?_ ?_)) ?_); exact rfl), (by repeat first | exact trivial | refine ⟨by decide, by first | rfl | exact trivial | (intro i j; first | rfl | exact getD_no rfl | (dsimp only; split <;> first | rfl | exact getD_no rfl) | exact scl_no (by apply_assumption) _), ?_⟩)⟩ (List.all_eq_true.1 hE _ (by decide))), trivial⟩ (by kernel_rfl) (by kernel_rfl) (by kernel_rfl) ⟨.inl rfl, .inr ⟨900, _, rfl, rfl, rfl, ⟨rfl, rfl, fun i j hi hj => rowP_ren hj⟩, (fun i j hi hj => rowP_hx hj)⟩, .inr ⟨1000000, _, rfl, rfl, rfl, rfl, rfl⟩, .inr ⟨1000002, _, rfl, rfl, rfl, (congrArg (fun z => [AV.fn 79 2 z]) (funext fun j => match j with | 0 => rfl | 1 => rfl | _ + 2 => rfl)), rfl⟩, trivial⟩ rfl rfl (nB rfl) (r' := .one (.int .i64 ((addP a l).2))) rfl ?_
    refine ARun.hle ?_ hk
    exact HeapLe.one rfl (HeapLe.one rfl (HeapLe.one rfl (HeapLe.one rfl trivial)))
   refine ADE.early (PureOp.fieldPtr rfl (.tmp rfl) f32_) rfl rfl (nB rfl) (by kernel_rfl) rfl rfl ?_
   refine ADE.eff (new := []) (s := .one (.con undef)) (F := []) (H' := [(0, .cells [.int .i64 k, .str s, .int .i64 ((addP a l).2), .int .i64 0]), (51, .arr 4 ((addP a l).1.length) (rowP ((addP a l).1))), (1000000, .cells [.own 51 4 ((addP a l).1.length)]), (1000002, .cells [.fn 79 2 (fun j => ([.ptr 1000000 1 0 0, .ptr 1000002 1 0 0] : List AV).getD j (.con undef))])]) (fun E hE Q rest hk => ?_) ⟨rfl, rfl⟩ rfl (fun _ e => by cases e) rfl rfl ⟨rfl, trivial⟩ (fun h => absurd h (by decide)) ?_
   ·
    refine ARun.store rfl (.tmp rfl) (.tmp rfl) trivial rfl (nB rfl) f5_ rfl rfl ?_
    refine ARun.hle ?_ hk
    exact HeapLe.one rfl (HeapLe.one rfl (HeapLe.one rfl (HeapLe.one rfl trivial)))
   refine ADE.nil ?_
   refine AW.seq ?_
   refine AW.seq ?_
   refine AW.region ?_
   refine pu (.move rfl (.tmp rfl)) rfl rfl rfl ?_
   refine pu (.nilRef rfl (.tmp rfl)) rfl rfl rfl ?_
   refine pu (.fieldRef rfl (.tmp rfl) f21_ (nB rfl)) rfl rfl rfl ?_
   refine pu (.loadRef rfl (.tmp rfl) f26_ (nB rfl)) rfl rfl rfl ?_
   refine pu (.neNilP (b := b.isNil) rfl (.tmp rfl) (Fo.pn' _) (by kernel_rfl)) rfl rfl rfl ?_
   refine ARun.nil ?_
   refine AW.cond (.tmp rfl) (fun hb3 => ?_) (fun hb3 => ?_)
   ·
    have hnb : b.isNil = false := by simpa using hb3
    have hlb := add_len (t := b) (rfl : (addP a l).1.length = _)
    refine AW.anyE [5, 7] [7, 5] [(1000002, .cells [.fn 79 2 (fun j => ([.ptr 1000000 1 0 0, .ptr 1000002 1 0 0] : List AV).getD j (.con undef))])] [(0, .cells [.int .i64 k, .str s, .int .i64 ((addP a l).2), .int .i64 0]), (1000002, .cells [.fn 79 2 (fun j => ([.ptr 1000000 1 0 0, .ptr 1000002 1 0 0] : List AV).getD j (.con undef))])] 7 (by kernel_rfl) (by kernel_rfl) (by kernel_rfl) rfl rfl ⟨rfl, trivial⟩ ⟨rfl, rfl, trivial⟩ ?_
    refine ADE.early (PureOp.loadPtr rfl (.tmp rfl) f37_ rfl rfl (nB rfl) (nB rfl)) rfl rfl (nB rfl) (by kernel_rfl) rfl rfl ?_
    refine ADE.early (PureOp.move rfl (.tmp rfl)) rfl rfl (nB rfl) (by kernel_rfl) rfl rfl ?_
    refine ADE.early (PureOp.nilRef rfl (.tmp rfl)) rfl rfl (nB rfl) (by kernel_rfl) rfl rfl ?_
    refine ADE.early (PureOp.fieldRef rfl (.tmp rfl) f21_ (nB rfl)) rfl rfl (nB rfl) (by kernel_rfl) rfl rfl ?_
    refine ADE.early (PureOp.loadRef rfl (.tmp rfl) f26_ (nB rfl)) rfl rfl (nB rfl) (by kernel_rfl) rfl rfl ?_
    refine ADE.eff (new := [102]) (s := .one (.int .i64 ((addP b ((addP a l).1)).2))) (F := [(40, .one (.int .i64 ((addP b ((addP a l).1)).2)))]) (H' := [(0, .cells [.int .i64 k, .str s, .int .i64 ((addP a l).2), .int .i64 0]), (102, .arr 4 ((addP b ((addP a l).1)).1.length) (rowP ((addP b ((addP a l).1)).1))), (1000000, .cells [.own 102 4 ((addP b ((addP a l).1)).1.length)]), (1000002, .cells [.fn 79 2 (fun j => ([.ptr 1000000 1 0 0, .ptr 1000002 1 0 0] : List AV).getD j (.con undef))])]) (fun E hE Q rest hk => ?_) ⟨rfl, rfl⟩ rfl (fun _ e => by cases e; exact nB rfl) (by refine new1 ?_; (repeat refine env_cons (by first | with_reducible exact Fo.noS _ _ | with_reducible exact Fo.noS' _ _ | exact rfl | exact Fo.noS _ _ | exact Fo.noS' _ _ | exact agg_no (by repeat' first | with_reducible exact Fo.no _ _ | with_reducible exact Fo.no' _ _ | exact rfl | exact Fo.no _ _ | exact Fo.no' _ _ | refine no_cons ?_ ?_)) ?_); exact rfl) rfl ⟨rfl, trivial⟩ (fun _ => ⟨rfl, rfl, trivial⟩) ?_
    ·
     refine ARun.mutxV (args := [.one (Fo.av b)]) (m := 2) (cv := (fun j => ([.ptr 1000000 1 0 0, .ptr 1000002 1 0 0] : List AV).getD j (.con undef))) (Hr := [(0, .cells [.int .i64 k, .str s, .int .i64 ((addP a l).2), .int .i64 0])]) (Hn := [(0, .cells [.int .i64 k, .str s, .int .i64 ((addP a l).2), .int .i64 0]), (102, .arr 4 ((addP b ((addP a l).1)).1.length) (rowP ((addP b ((addP a l).1)).1))), (1000000, .cells [.own 102 4 ((addP b ((addP a l).1)).1.length)]), (1000002, .cells [.fn 79 2 (fun j => ([.ptr 1000000 1 0 0, .ptr 1000002 1 0 0] : List AV).getD j (.con undef))])]) (g := fun zz => if zz = 1000000 then 1000000 else if zz = 1000001 then 51 else if zz = 1000002 then 1000002 else zz) (g' := fun zz => if zz = 1000000 then 1000000 else if zz = 1000001 then 51 else if zz = 1000002 then 1000002 else if zz = 900 then 102 else zz) (K := [900, 1000000, 1000002]) (T := [(102, 900)]) rfl (.tmp rfl) (ib hnb ((addP a l).1) ((addP a l).1.length) rfl (by omega)) (fun j hj => match j, hj with | 0, _ => rfl | 1, _ => rfl | _ + 2, h => absurd h (by omega)) f36_ ⟨.inl ⟨_, (.tmp rfl), (Fo.vw' _ _)⟩, trivial⟩ ⟨⟨_, rfl, rfl⟩, ⟨_, rfl, ⟨rfl, rfl, fun i j hi hj => rowP_ren hj⟩⟩, ⟨_, rfl, (congrArg (fun z => [AV.fn 79 2 z]) (funext fun j => match j with | 0 => rfl | 1 => rfl | _ + 2 => rfl))⟩, trivial⟩ ⟨⟨rfl, rfl⟩, trivial⟩ rfl ⟨(Fr.ext ⟨(by refine fr_env rfl ?_; (repeat refine env_cons (by first | with_reducible exact Fo.noS _ _ | with_reducible exact Fo.noS' _ _ | exact rfl | exact Fo.noS _ _ | exact Fo.noS' _ _ | exact agg_no (by repeat' first | with_reducible exact Fo.no _ _ | with_reducible exact Fo.no' _ _ | exact rfl | exact Fo.no _ _ | exact Fo.no' _ _ | refine no_cons ?_ ?_)) ?_); exact rfl), (by repeat first | exact trivial | refine ⟨by decide, by first | rfl | exact trivial | (intro i j; first | rfl | exact getD_no rfl | (dsimp only; split <;> first | rfl | exact getD_no rfl) | exact scl_no (by apply_assumption) _), ?_⟩)⟩ (List.all_eq_true.1 hE _ (by decide))), trivial⟩ (by kernel_rfl) (by kernel_rfl) (by kernel_rfl) ⟨.inl rfl, .inr ⟨900, _, rfl, rfl, rfl, ⟨rfl, rfl, fun i j hi hj => rowP_ren hj⟩, (fun i j hi hj => rowP_hx hj)⟩, .inr ⟨1000000, _, rfl, rfl, rfl, rfl, rfl⟩, .inr ⟨1000002, _, rfl, rfl, rfl, (congrArg (fun z => [AV.fn 79 2 z]) (funext fun j => match j with | 0 => rfl | 1 => rfl | _ + 2 => rfl)), rfl⟩, trivial⟩ rfl rfl (nB rfl) (r' := .one (.int .i64 ((addP b ((addP a l).1)).2))) rfl ?_
     refine ARun.hle ?_ hk
     exact HeapLe.one rfl (HeapLe.one rfl (HeapLe.one rfl (HeapLe.one rfl trivial)))
    refine ADE.early (PureOp.fieldPtr rfl (.tmp rfl) f33_) rfl rfl (nB rfl) (by kernel_rfl) rfl rfl ?_
    refine ADE.eff (new := []) (s := .one (.con undef)) (F := []) (H' := [(0, .cells [.int .i64 k, .str s, .int .i64 ((addP a l).2), .int .i64 ((addP b ((addP a l).1)).2)]), (102, .arr 4 ((addP b ((addP a l).1)).1.length) (rowP ((addP b ((addP a l).1)).1))), (1000000, .cells [.own 102 4 ((addP b ((addP a l).1)).1.length)]), (1000002, .cells [.fn 79 2 (fun j => ([.ptr 1000000 1 0 0, .ptr 1000002 1 0 0] : List AV).getD j (.con undef))])]) (fun E hE Q rest hk => ?_) ⟨rfl, rfl⟩ rfl (fun _ e => by cases e) rfl rfl ⟨rfl, trivial⟩ (fun h => absurd h (by decide)) ?_
    ·
     refine ARun.store rfl (.tmp rfl) (.tmp rfl) trivial rfl (nB rfl) f5_ rfl rfl ?_
     refine ARun.hle ?_ hk
     exact HeapLe.one rfl (HeapLe.one rfl (HeapLe.one rfl (HeapLe.one rfl trivial)))
    refine ADE.nil ?_
    refine AW.seq ?_
    refine AW.region ?_
    refine pu (.loadPtr rfl (.tmp rfl) f38_ rfl rfl (nB rfl) (nB rfl)) rfl rfl rfl ?_
    refine pu (.loadPtrAgg rfl (.tmp rfl) f28_ rfl rfl (nB rfl) (nB rfl)) rfl rfl rfl ?_
    refine ARun.slice1 (id := 899) (z := (.agg #[.int .i64 0, .string ByteArray.empty, .int .i64 0, .int .i64 0])) (by_ := 40) rfl (.tmp rfl) (SV.cells_of (by exact ⟨trivial, trivial, trivial, trivial, trivial⟩)) (by kernel_rfl) rfl rfl (by decide) (by decide) ⟨(by refine fr_env rfl ?_; (repeat refine env_cons (by first | with_reducible exact Fo.noS _ _ | with_reducible exact Fo.noS' _ _ | exact rfl | exact Fo.noS _ _ | exact Fo.noS' _ _ | exact agg_no (by repeat' first | with_reducible exact Fo.no _ _ | with_reducible exact Fo.no' _ _ | exact rfl | exact Fo.no _ _ | exact Fo.no' _ _ | refine no_cons ?_ ?_)) ?_); exact rfl), (by repeat first | exact trivial | refine ⟨by decide, by first | rfl | exact trivial | (intro i j; first | rfl | exact getD_no rfl | (dsimp only; split <;> first | rfl | exact getD_no rfl) | exact scl_no (by apply_assumption) _), ?_⟩)⟩ rfl rfl rfl (nB rfl) ?_
    refine ARun.append (id := 900) (sz := 4) (n := (addP b ((addP a l).1)).1.length) (m := 1) (by_ := 40) (z := (.agg #[.int .i64 0, .string ByteArray.empty, .int .i64 0, .int .i64 0])) (f := rowP ((addP b ((addP a l).1)).1)) (g := fun _ jc => ([.int .i64 k, .str s, .int .i64 ((addP a l).2), .int .i64 ((addP b ((addP a l).1)).2)] : List AV).getD jc (.con undef)) (h := fun ia ja => if ia < (addP b ((addP a l).1)).1.length then (rowP ((addP b ((addP a l).1)).1) : Nat → Nat → AV) ia ja else (fun _ jc => ([.int .i64 k, .str s, .int .i64 ((addP a l).2), .int .i64 ((addP b ((addP a l).1)).2)] : List AV).getD jc (.con undef) : Nat → Nat → AV) (ia - (addP b ((addP a l).1)).1.length) ja) rfl (by kernel_rfl) rfl f34_ (.own (.tmp rfl) rfl rfl rfl (Nat.le_refl _) (fun _ _ _ _ => rfl)) (.own (.tmp rfl) rfl rfl (Nat.le_refl _) (fun _ _ _ _ => rfl)) (by decide) (fun i j hi hj => match j, hj with | 0, _ => rfl | 1, _ => rfl | 2, _ => rfl | 3, _ => rfl | _ + 4, h => absurd h (by omega)) (fun _ _ _ _ => rfl) (by omega) (by omega) ⟨(by refine fr_env rfl ?_; (repeat refine env_cons (by first | with_reducible exact Fo.noS _ _ | with_reducible exact Fo.noS' _ _ | exact rfl | exact Fo.noS _ _ | exact Fo.noS' _ _ | exact agg_no (by repeat' first | with_reducible exact Fo.no _ _ | with_reducible exact Fo.no' _ _ | exact rfl | exact Fo.no _ _ | exact Fo.no' _ _ | refine no_cons ?_ ?_)) ?_); exact rfl), (by repeat first | exact trivial | refine ⟨by decide, by first | rfl | exact trivial | (intro i j; first | rfl | exact getD_no rfl | (dsimp only; split <;> first | rfl | exact getD_no rfl) | exact scl_no (by apply_assumption) _), ?_⟩)⟩ (fun i j => by dsimp only; (repeat' split) <;> first | rfl | exact getD_no rfl) rfl rfl (nB rfl) ?_
    refine ARun.store rfl (.tmp rfl) (.tmp rfl) trivial rfl (nB rfl) f40_ rfl rfl ?_
    refine ARun.nil ?_
    refine AW.seq ?_
    refine AW.region ?_
    refine pu (.loadPtr rfl (.tmp rfl) f38_ rfl rfl (nB rfl) (nB rfl)) rfl rfl rfl ?_
    refine pu (.lenOwn rfl (.tmp rfl) f34_) rfl rfl rfl ?_
    refine pu (.sub (c := ((((addP b ((addP a l).1)).1.length + 1) : Nat) : Int) - 1) rfl (.tmp rfl) .int (wrap_id (by omega) (by omega))) rfl rfl rfl ?_
    refine pu (.assign rfl (.tmp rfl)) rfl rfl rfl ?_
    refine ARun.nil ?_
    obtain ⟨he1, he2, he3⟩ := add_end (k := k) (s := s) h0 (a := a) (b := b) (rfl : addP a l = ((addP a l).1, (addP a l).2)) (rfl : addP b (addP a l).1 = ((addP b (addP a l).1).1, (addP b (addP a l).1).2)) rfl
    rw [he1, he2, he3]
    refine AW.ret (show ResL _ _ [.tmp 4] _ ∧ HeapLe _ _ from ⟨resI rfl ?_, ⟨⟨_, rfl, rfl, Nat.le_refl _, fun i j hi hj => rowP_snoc (p := ⟨k, s, (addP a l).2, (addP b ((addP a l).1)).2⟩) rfl rfl hi⟩, HeapLe.one rfl (HeapLe.one rfl trivial)⟩⟩)
    first | rfl | omega
   ·
    have htb : b.isNil = true := by simpa using hb3
    refine AW.skip ?_
    refine AW.seq ?_
    refine AW.region ?_
    refine pu (.loadPtr rfl (.tmp rfl) f38_ rfl rfl (nB rfl) (nB rfl)) rfl rfl rfl ?_
    refine pu (.loadPtrAgg rfl (.tmp rfl) f28_ rfl rfl (nB rfl) (nB rfl)) rfl rfl rfl ?_
    refine ARun.slice1 (id := 899) (z := (.agg #[.int .i64 0, .string ByteArray.empty, .int .i64 0, .int .i64 0])) (by_ := 40) rfl (.tmp rfl) (SV.cells_of (by exact ⟨trivial, trivial, trivial, trivial, trivial⟩)) (by kernel_rfl) rfl rfl (by decide) (by decide) ⟨(by refine fr_env rfl ?_; (repeat refine env_cons (by first | with_reducible exact Fo.noS _ _ | with_reducible exact Fo.noS' _ _ | exact rfl | exact Fo.noS _ _ | exact Fo.noS' _ _ | exact agg_no (by repeat' first | with_reducible exact Fo.no _ _ | with_reducible exact Fo.no' _ _ | exact rfl | exact Fo.no _ _ | exact Fo.no' _ _ | refine no_cons ?_ ?_)) ?_); exact rfl), (by repeat first | exact trivial | refine ⟨by decide, by first | rfl | exact trivial | (intro i j; first | rfl | exact getD_no rfl | (dsimp only; split <;> first | rfl | exact getD_no rfl) | exact scl_no (by apply_assumption) _), ?_⟩)⟩ rfl rfl rfl (nB rfl) ?_
    refine ARun.append (id := 900) (sz := 4) (n := (addP a l).1.length) (m := 1) (by_ := 40) (z := (.agg #[.int .i64 0, .string ByteArray.empty, .int .i64 0, .int .i64 0])) (f := rowP ((addP a l).1)) (g := fun _ jc => ([.int .i64 k, .str s, .int .i64 ((addP a l).2), .int .i64 0] : List AV).getD jc (.con undef)) (h := fun ia ja => if ia < (addP a l).1.length then (rowP ((addP a l).1) : Nat → Nat → AV) ia ja else (fun _ jc => ([.int .i64 k, .str s, .int .i64 ((addP a l).2), .int .i64 0] : List AV).getD jc (.con undef) : Nat → Nat → AV) (ia - (addP a l).1.length) ja) rfl (by kernel_rfl) rfl f34_ (.own (.tmp rfl) rfl rfl rfl (Nat.le_refl _) (fun _ _ _ _ => rfl)) (.own (.tmp rfl) rfl rfl (Nat.le_refl _) (fun _ _ _ _ => rfl)) (by decide) (fun i j hi hj => match j, hj with | 0, _ => rfl | 1, _ => rfl | 2, _ => rfl | 3, _ => rfl | _ + 4, h => absurd h (by omega)) (fun _ _ _ _ => rfl) (by omega) (by omega) ⟨(by refine fr_env rfl ?_; (repeat refine env_cons (by first | with_reducible exact Fo.noS _ _ | with_reducible exact Fo.noS' _ _ | exact rfl | exact Fo.noS _ _ | exact Fo.noS' _ _ | exact agg_no (by repeat' first | with_reducible exact Fo.no _ _ | with_reducible exact Fo.no' _ _ | exact rfl | exact Fo.no _ _ | exact Fo.no' _ _ | refine no_cons ?_ ?_)) ?_); exact rfl), (by repeat first | exact trivial | refine ⟨by decide, by first | rfl | exact trivial | (intro i j; first | rfl | exact getD_no rfl | (dsimp only; split <;> first | rfl | exact getD_no rfl) | exact scl_no (by apply_assumption) _), ?_⟩)⟩ (fun i j => by dsimp only; (repeat' split) <;> first | rfl | exact getD_no rfl) rfl rfl (nB rfl) ?_
    refine ARun.store rfl (.tmp rfl) (.tmp rfl) trivial rfl (nB rfl) f40_ rfl rfl ?_
    refine ARun.nil ?_
    refine AW.seq ?_
    refine AW.region ?_
    refine pu (.loadPtr rfl (.tmp rfl) f38_ rfl rfl (nB rfl) (nB rfl)) rfl rfl rfl ?_
    refine pu (.lenOwn rfl (.tmp rfl) f34_) rfl rfl rfl ?_
    refine pu (.sub (c := ((((addP a l).1.length + 1) : Nat) : Int) - 1) rfl (.tmp rfl) .int (wrap_id (by omega) (by omega))) rfl rfl rfl ?_
    refine pu (.assign rfl (.tmp rfl)) rfl rfl rfl ?_
    refine ARun.nil ?_
    obtain ⟨he1, he2, he3⟩ := add_end (k := k) (s := s) h0 (a := a) (b := b) (rfl : addP a l = ((addP a l).1, (addP a l).2)) (add_nil htb (addP a l).1) rfl
    rw [he1, he2, he3]
    refine AW.ret (show ResL _ _ [.tmp 4] _ ∧ HeapLe _ _ from ⟨resI rfl ?_, ⟨⟨_, rfl, rfl, Nat.le_refl _, fun i j hi hj => rowP_snoc (p := ⟨k, s, (addP a l).2, 0⟩) rfl rfl hi⟩, HeapLe.one rfl (HeapLe.one rfl trivial)⟩⟩)
    first | rfl | omega
  ·
   have hta : a.isNil = true := by simpa using hb2
   refine AW.skip ?_
   refine AW.seq ?_
   refine AW.seq ?_
   refine AW.region ?_
   refine pu (.move rfl (.tmp rfl)) rfl rfl rfl ?_
   refine pu (.nilRef rfl (.tmp rfl)) rfl rfl rfl ?_
   refine pu (.fieldRef rfl (.tmp rfl) f21_ (nB rfl)) rfl rfl rfl ?_
   refine pu (.loadRef rfl (.tmp rfl) f26_ (nB rfl)) rfl rfl rfl ?_
   refine pu (.neNilP (b := b.isNil) rfl (.tmp rfl) (Fo.pn' _) (by kernel_rfl)) rfl rfl rfl ?_
   refine ARun.nil ?_
   refine AW.cond (.tmp rfl) (fun hb4 => ?_) (fun hb4 => ?_)
   ·
    have hnb : b.isNil = false := by simpa using hb4
    have hlb := add_len (t := b) (hn : l.length = _)
    refine AW.anyE [5, 7] [7, 5] [(1000002, .cells [.fn 79 2 (fun j => ([.ptr 1000000 1 0 0, .ptr 1000002 1 0 0] : List AV).getD j (.con undef))])] [(0, .cells [.int .i64 k, .str s, .int .i64 0, .int .i64 0]), (1000002, .cells [.fn 79 2 (fun j => ([.ptr 1000000 1 0 0, .ptr 1000002 1 0 0] : List AV).getD j (.con undef))])] 7 (by kernel_rfl) (by kernel_rfl) (by kernel_rfl) rfl rfl ⟨rfl, trivial⟩ ⟨rfl, rfl, trivial⟩ ?_
    refine ADE.early (PureOp.loadPtr rfl (.tmp rfl) f37_ rfl rfl (nB rfl) (nB rfl)) rfl rfl (nB rfl) (by kernel_rfl) rfl rfl ?_
    refine ADE.early (PureOp.move rfl (.tmp rfl)) rfl rfl (nB rfl) (by kernel_rfl) rfl rfl ?_
    refine ADE.early (PureOp.nilRef rfl (.tmp rfl)) rfl rfl (nB rfl) (by kernel_rfl) rfl rfl ?_
    refine ADE.early (PureOp.fieldRef rfl (.tmp rfl) f21_ (nB rfl)) rfl rfl (nB rfl) (by kernel_rfl) rfl rfl ?_
    refine ADE.early (PureOp.loadRef rfl (.tmp rfl) f26_ (nB rfl)) rfl rfl (nB rfl) (by kernel_rfl) rfl rfl ?_
    refine ADE.eff (new := [951]) (s := .one (.int .i64 ((addP b l).2))) (F := [(40, .one (.int .i64 ((addP b l).2)))]) (H' := [(0, .cells [.int .i64 k, .str s, .int .i64 0, .int .i64 0]), (951, .arr 4 ((addP b l).1.length) (rowP ((addP b l).1))), (1000000, .cells [.own 951 4 ((addP b l).1.length)]), (1000002, .cells [.fn 79 2 (fun j => ([.ptr 1000000 1 0 0, .ptr 1000002 1 0 0] : List AV).getD j (.con undef))])]) (fun E hE Q rest hk => ?_) ⟨rfl, rfl⟩ rfl (fun _ e => by cases e; exact nB rfl) (by refine new1 ?_; (repeat refine env_cons (by first | with_reducible exact Fo.noS _ _ | with_reducible exact Fo.noS' _ _ | exact rfl | exact Fo.noS _ _ | exact Fo.noS' _ _ | exact agg_no (by repeat' first | with_reducible exact Fo.no _ _ | with_reducible exact Fo.no' _ _ | exact rfl | exact Fo.no _ _ | exact Fo.no' _ _ | refine no_cons ?_ ?_)) ?_); exact rfl) rfl ⟨rfl, trivial⟩ (fun _ => ⟨rfl, rfl, trivial⟩) ?_
    ·
     refine ARun.mutxV (args := [.one (Fo.av b)]) (m := 2) (cv := (fun j => ([.ptr 1000000 1 0 0, .ptr 1000002 1 0 0] : List AV).getD j (.con undef))) (Hr := [(0, .cells [.int .i64 k, .str s, .int .i64 0, .int .i64 0])]) (Hn := [(0, .cells [.int .i64 k, .str s, .int .i64 0, .int .i64 0]), (951, .arr 4 ((addP b l).1.length) (rowP ((addP b l).1))), (1000000, .cells [.own 951 4 ((addP b l).1.length)]), (1000002, .cells [.fn 79 2 (fun j => ([.ptr 1000000 1 0 0, .ptr 1000002 1 0 0] : List AV).getD j (.con undef))])]) (g := fun zz => if zz = 1000000 then 1000000 else if zz = 1000001 then 1000001 else if zz = 1000002 then 1000002 else zz) (g' := fun zz => if zz = 1000000 then 1000000 else if zz = 1000001 then 1000001 else if zz = 1000002 then 1000002 else if zz = 900 then 951 else zz) (K := [900, 1000000, 1000002]) (T := [(951, 900)]) rfl (.tmp rfl) (ib hnb l n hn (by omega)) (fun j hj => match j, hj with | 0, _ => rfl | 1, _ => rfl | _ + 2, h => absurd h (by omega)) f36_ ⟨.inl ⟨_, (.tmp rfl), (Fo.vw' _ _)⟩, trivial⟩ ⟨⟨_, rfl, rfl⟩, ⟨_, rfl, ⟨rfl, rfl, fun i j hi hj => rowP_ren hj⟩⟩, ⟨_, rfl, (congrArg (fun z => [AV.fn 79 2 z]) (funext fun j => match j with | 0 => rfl | 1 => rfl | _ + 2 => rfl))⟩, trivial⟩ ⟨⟨rfl, rfl⟩, trivial⟩ rfl ⟨(Fr.ext ⟨(by refine fr_env rfl ?_; (repeat refine env_cons (by first | with_reducible exact Fo.noS _ _ | with_reducible exact Fo.noS' _ _ | exact rfl | exact Fo.noS _ _ | exact Fo.noS' _ _ | exact agg_no (by repeat' first | with_reducible exact Fo.no _ _ | with_reducible exact Fo.no' _ _ | exact rfl | exact Fo.no _ _ | exact Fo.no' _ _ | refine no_cons ?_ ?_)) ?_); exact rfl), (by repeat first | exact trivial | refine ⟨by decide, by first | rfl | exact trivial | (intro i j; first | rfl | exact getD_no rfl | (dsimp only; split <;> first | rfl | exact getD_no rfl) | exact scl_no (by apply_assumption) _), ?_⟩)⟩ (List.all_eq_true.1 hE _ (by decide))), trivial⟩ (by kernel_rfl) (by kernel_rfl) (by kernel_rfl) ⟨.inl rfl, .inr ⟨900, _, rfl, rfl, rfl, ⟨rfl, rfl, fun i j hi hj => rowP_ren hj⟩, (fun i j hi hj => rowP_hx hj)⟩, .inr ⟨1000000, _, rfl, rfl, rfl, rfl, rfl⟩, .inr ⟨1000002, _, rfl, rfl, rfl, (congrArg (fun z => [AV.fn 79 2 z]) (funext fun j => match j with | 0 => rfl | 1 => rfl | _ + 2 => rfl)), rfl⟩, trivial⟩ rfl rfl (nB rfl) (r' := .one (.int .i64 ((addP b l).2))) rfl ?_
     refine ARun.hle ?_ hk
     exact HeapLe.one rfl (HeapLe.one rfl (HeapLe.one rfl (HeapLe.one rfl trivial)))
    refine ADE.early (PureOp.fieldPtr rfl (.tmp rfl) f33_) rfl rfl (nB rfl) (by kernel_rfl) rfl rfl ?_
    refine ADE.eff (new := []) (s := .one (.con undef)) (F := []) (H' := [(0, .cells [.int .i64 k, .str s, .int .i64 0, .int .i64 ((addP b l).2)]), (951, .arr 4 ((addP b l).1.length) (rowP ((addP b l).1))), (1000000, .cells [.own 951 4 ((addP b l).1.length)]), (1000002, .cells [.fn 79 2 (fun j => ([.ptr 1000000 1 0 0, .ptr 1000002 1 0 0] : List AV).getD j (.con undef))])]) (fun E hE Q rest hk => ?_) ⟨rfl, rfl⟩ rfl (fun _ e => by cases e) rfl rfl ⟨rfl, trivial⟩ (fun h => absurd h (by decide)) ?_
    ·
     refine ARun.store rfl (.tmp rfl) (.tmp rfl) trivial rfl (nB rfl) f5_ rfl rfl ?_
     refine ARun.hle ?_ hk
     exact HeapLe.one rfl (HeapLe.one rfl (HeapLe.one rfl (HeapLe.one rfl trivial)))
    refine ADE.nil ?_
    refine AW.seq ?_
    refine AW.region ?_
    refine pu (.loadPtr rfl (.tmp rfl) f38_ rfl rfl (nB rfl) (nB rfl)) rfl rfl rfl ?_
    refine pu (.loadPtrAgg rfl (.tmp rfl) f28_ rfl rfl (nB rfl) (nB rfl)) rfl rfl rfl ?_
    refine ARun.slice1 (id := 899) (z := (.agg #[.int .i64 0, .string ByteArray.empty, .int .i64 0, .int .i64 0])) (by_ := 40) rfl (.tmp rfl) (SV.cells_of (by exact ⟨trivial, trivial, trivial, trivial, trivial⟩)) (by kernel_rfl) rfl rfl (by decide) (by decide) ⟨(by refine fr_env rfl ?_; (repeat refine env_cons (by first | with_reducible exact Fo.noS _ _ | with_reducible exact Fo.noS' _ _ | exact rfl | exact Fo.noS _ _ | exact Fo.noS' _ _ | exact agg_no (by repeat' first | with_reducible exact Fo.no _ _ | with_reducible exact Fo.no' _ _ | exact rfl | exact Fo.no _ _ | exact Fo.no' _ _ | refine no_cons ?_ ?_)) ?_); exact rfl), (by repeat first | exact trivial | refine ⟨by decide, by first | rfl | exact trivial | (intro i j; first | rfl | exact getD_no rfl | (dsimp only; split <;> first | rfl | exact getD_no rfl) | exact scl_no (by apply_assumption) _), ?_⟩)⟩ rfl rfl rfl (nB rfl) ?_
    refine ARun.append (id := 900) (sz := 4) (n := (addP b l).1.length) (m := 1) (by_ := 40) (z := (.agg #[.int .i64 0, .string ByteArray.empty, .int .i64 0, .int .i64 0])) (f := rowP ((addP b l).1)) (g := fun _ jc => ([.int .i64 k, .str s, .int .i64 0, .int .i64 ((addP b l).2)] : List AV).getD jc (.con undef)) (h := fun ia ja => if ia < (addP b l).1.length then (rowP ((addP b l).1) : Nat → Nat → AV) ia ja else (fun _ jc => ([.int .i64 k, .str s, .int .i64 0, .int .i64 ((addP b l).2)] : List AV).getD jc (.con undef) : Nat → Nat → AV) (ia - (addP b l).1.length) ja) rfl (by kernel_rfl) rfl f34_ (.own (.tmp rfl) rfl rfl rfl (Nat.le_refl _) (fun _ _ _ _ => rfl)) (.own (.tmp rfl) rfl rfl (Nat.le_refl _) (fun _ _ _ _ => rfl)) (by decide) (fun i j hi hj => match j, hj with | 0, _ => rfl | 1, _ => rfl | 2, _ => rfl | 3, _ => rfl | _ + 4, h => absurd h (by omega)) (fun _ _ _ _ => rfl) (by omega) (by omega) ⟨(by refine fr_env rfl ?_; (repeat refine env_cons (by first | with_reducible exact Fo.noS _ _ | with_reducible exact Fo.noS' _ _ | exact rfl | exact Fo.noS _ _ | exact Fo.noS' _ _ | exact agg_no (by repeat' first | with_reducible exact Fo.no _ _ | with_reducible exact Fo.no' _ _ | exact rfl | exact Fo.no _ _ | exact Fo.no' _ _ | refine no_cons ?_ ?_)) ?_); exact rfl), (by repeat first | exact trivial | refine ⟨by decide, by first | rfl | exact trivial | (intro i j; first | rfl | exact getD_no rfl | (dsimp only; split <;> first | rfl | exact getD_no rfl) | exact scl_no (by apply_assumption) _), ?_⟩)⟩ (fun i j => by dsimp only; (repeat' split) <;> first | rfl | exact getD_no rfl) rfl rfl (nB rfl) ?_
    refine ARun.store rfl (.tmp rfl) (.tmp rfl) trivial rfl (nB rfl) f40_ rfl rfl ?_
    refine ARun.nil ?_
    refine AW.seq ?_
    refine AW.region ?_
    refine pu (.loadPtr rfl (.tmp rfl) f38_ rfl rfl (nB rfl) (nB rfl)) rfl rfl rfl ?_
    refine pu (.lenOwn rfl (.tmp rfl) f34_) rfl rfl rfl ?_
    refine pu (.sub (c := ((((addP b l).1.length + 1) : Nat) : Int) - 1) rfl (.tmp rfl) .int (wrap_id (by omega) (by omega))) rfl rfl rfl ?_
    refine pu (.assign rfl (.tmp rfl)) rfl rfl rfl ?_
    refine ARun.nil ?_
    obtain ⟨he1, he2, he3⟩ := add_end (k := k) (s := s) h0 (a := a) (b := b) (add_nil hta l) (rfl : addP b l = ((addP b l).1, (addP b l).2)) rfl
    rw [he1, he2, he3]
    refine AW.ret (show ResL _ _ [.tmp 4] _ ∧ HeapLe _ _ from ⟨resI rfl ?_, ⟨⟨_, rfl, rfl, Nat.le_refl _, fun i j hi hj => rowP_snoc (p := ⟨k, s, 0, (addP b l).2⟩) rfl rfl hi⟩, HeapLe.one rfl (HeapLe.one rfl trivial)⟩⟩)
    first | rfl | omega
   ·
    have htb : b.isNil = true := by simpa using hb4
    refine AW.skip ?_
    refine AW.seq ?_
    refine AW.region ?_
    refine pu (.loadPtr rfl (.tmp rfl) f38_ rfl rfl (nB rfl) (nB rfl)) rfl rfl rfl ?_
    refine pu (.loadPtrAgg rfl (.tmp rfl) f28_ rfl rfl (nB rfl) (nB rfl)) rfl rfl rfl ?_
    refine ARun.slice1 (id := 899) (z := (.agg #[.int .i64 0, .string ByteArray.empty, .int .i64 0, .int .i64 0])) (by_ := 40) rfl (.tmp rfl) (SV.cells_of (by exact ⟨trivial, trivial, trivial, trivial, trivial⟩)) (by kernel_rfl) rfl rfl (by decide) (by decide) ⟨(by refine fr_env rfl ?_; (repeat refine env_cons (by first | with_reducible exact Fo.noS _ _ | with_reducible exact Fo.noS' _ _ | exact rfl | exact Fo.noS _ _ | exact Fo.noS' _ _ | exact agg_no (by repeat' first | with_reducible exact Fo.no _ _ | with_reducible exact Fo.no' _ _ | exact rfl | exact Fo.no _ _ | exact Fo.no' _ _ | refine no_cons ?_ ?_)) ?_); exact rfl), (by repeat first | exact trivial | refine ⟨by decide, by first | rfl | exact trivial | (intro i j; first | rfl | exact getD_no rfl | (dsimp only; split <;> first | rfl | exact getD_no rfl) | exact scl_no (by apply_assumption) _), ?_⟩)⟩ rfl rfl rfl (nB rfl) ?_
    refine ARun.append (id := 900) (sz := 4) (n := n) (m := 1) (by_ := 40) (z := (.agg #[.int .i64 0, .string ByteArray.empty, .int .i64 0, .int .i64 0])) (f := rowP l) (g := fun _ jc => ([.int .i64 k, .str s, .int .i64 0, .int .i64 0] : List AV).getD jc (.con undef)) (h := fun ia ja => if ia < n then (rowP l : Nat → Nat → AV) ia ja else (fun _ jc => ([.int .i64 k, .str s, .int .i64 0, .int .i64 0] : List AV).getD jc (.con undef) : Nat → Nat → AV) (ia - n) ja) rfl (by kernel_rfl) rfl f34_ (.own (.tmp rfl) rfl rfl rfl (Nat.le_refl _) (fun _ _ _ _ => rfl)) (.own (.tmp rfl) rfl rfl (Nat.le_refl _) (fun _ _ _ _ => rfl)) (by decide) (fun i j hi hj => match j, hj with | 0, _ => rfl | 1, _ => rfl | 2, _ => rfl | 3, _ => rfl | _ + 4, h => absurd h (by omega)) (fun _ _ _ _ => rfl) (by omega) (by omega) ⟨(by refine fr_env rfl ?_; (repeat refine env_cons (by first | with_reducible exact Fo.noS _ _ | with_reducible exact Fo.noS' _ _ | exact rfl | exact Fo.noS _ _ | exact Fo.noS' _ _ | exact agg_no (by repeat' first | with_reducible exact Fo.no _ _ | with_reducible exact Fo.no' _ _ | exact rfl | exact Fo.no _ _ | exact Fo.no' _ _ | refine no_cons ?_ ?_)) ?_); exact rfl), (by repeat first | exact trivial | refine ⟨by decide, by first | rfl | exact trivial | (intro i j; first | rfl | exact getD_no rfl | (dsimp only; split <;> first | rfl | exact getD_no rfl) | exact scl_no (by apply_assumption) _), ?_⟩)⟩ (fun i j => by dsimp only; (repeat' split) <;> first | rfl | exact getD_no rfl) rfl rfl (nB rfl) ?_
    refine ARun.store rfl (.tmp rfl) (.tmp rfl) trivial rfl (nB rfl) f40_ rfl rfl ?_
    refine ARun.nil ?_
    refine AW.seq ?_
    refine AW.region ?_
    refine pu (.loadPtr rfl (.tmp rfl) f38_ rfl rfl (nB rfl) (nB rfl)) rfl rfl rfl ?_
    refine pu (.lenOwn rfl (.tmp rfl) f34_) rfl rfl rfl ?_
    refine pu (.sub (c := (((n + 1) : Nat) : Int) - 1) rfl (.tmp rfl) .int (wrap_id (by omega) (by omega))) rfl rfl rfl ?_
    refine pu (.assign rfl (.tmp rfl)) rfl rfl rfl ?_
    refine ARun.nil ?_
    obtain ⟨he1, he2, he3⟩ := add_end (k := k) (s := s) h0 (a := a) (b := b) (add_nil hta l) (add_nil htb l) hn
    rw [he1, he2, he3]
    refine AW.ret (show ResL _ _ [.tmp 4] _ ∧ HeapLe _ _ from ⟨resI rfl ?_, ⟨⟨_, rfl, rfl, Nat.le_refl _, fun i j hi hj => rowP_snoc (p := ⟨k, s, 0, 0⟩) hn rfl hi⟩, HeapLe.one rfl (HeapLe.one rfl trivial)⟩⟩)
    first | rfl | omega
theorem v_Add : ∀ (t : Fo), t.isNil = false → ∀ (l : List GPart) (n : Nat), l.length = n → n + t.size ≤ 100000 → FnG Try.prog 79 [.one (Fo.av t), .one (.ptr 1000000 1 0 0), .one (.ptr 1000002 1 0 0)] [(1000000, .cells [.own 1000001 4 n]), (1000001, .arr 4 n (rowP l)), (1000002, .cells [.fn 79 2 (fun j => ([.ptr 1000000 1 0 0, .ptr 1000002 1 0 0] : List AV).getD j (.con undef))])] (.one (.int .i64 (addP t l).2)) [(900, .arr 4 (addP t l).1.length (rowP (addP t l).1)), (1000000, .cells [.own 900 4 (addP t l).1.length]), (1000002, .cells [.fn 79 2 (fun j => ([.ptr 1000000 1 0 0, .ptr 1000002 1 0 0] : List AV).getD j (.con undef))])]
  | .nil => fun h _ _ _ _ => by cases h
  | .mk k s a b => fun _ l n hn hz => by
    have hz : n + (a.size + b.size + 1) ≤ 100000 := hz
    exact v_AddS k s a b l n hn hz (v_Add a) (v_Add b)
def partsL (t : Fo) : List GPart := if 24 < t.size then [] else flatAt t 0
theorem parts_no {t : Fo} (h : 24 < (addP t []).1.length) : partsL t = [] ∧ decide (t.size ≤ 24) = false := by
  have h1 := addP_le t []
  have h1 : (addP t []).1.length ≤ 0 + t.size := h1
  unfold partsL
  rw [if_pos (by omega), decide_eq_false (by omega)]
  exact ⟨rfl, rfl⟩
theorem parts_ok {t : Fo} (h : ¬ 24 < (addP t []).1.length) : partsL t = (addP t []).1 ∧ decide (t.size ≤ 24) = true := by
  have h1 : ¬ 24 < t.size := fun h2 => h (addP_gt t [] (by show 24 < 0 + t.size; omega))
  have h2 := addP_eq t [] (by show 0 + t.size ≤ 25; omega)
  unfold partsL
  rw [if_neg h1, decide_eq_true (by omega), h2]
  exact ⟨rfl, rfl⟩
theorem v_Parts (t : Fo) (hnt : t.isNil = false) (hz : t.size ≤ 100000) : FnF Try.prog 50 [.one (Fo.av t)] (.tup2 (.one (.lst 4 (partsL t).length (rowP (partsL t)))) (.one (.bool (decide (t.size ≤ 24))))) := by
 refine FnF.of_body (fn := Try.f50) Try.func50 rfl (nB rfl)  ?_
 intro w0
 show AW _ 14 _ _ _ _
 refine AW.seq ?_
 refine AW.region ?_
 refine pu (.assign rfl .con) rfl rfl rfl ?_
 refine pu (.assign rfl .bool) rfl rfl rfl ?_
 refine ARun.nil ?_
 refine AW.seq ?_
 refine AW.region ?_
 refine ARun.alloc (id := 0) (l := [.con (.slice none 0 0)]) (z := (.slice none 0 0)) rfl (by kernel_rfl) (fun _ _ _ => ⟨_, _, rfl, rfl, rfl⟩) ⟨(by refine fr_env rfl ?_; (repeat refine env_cons (by first | with_reducible exact Fo.noS _ _ | with_reducible exact Fo.noS' _ _ | exact rfl | exact Fo.noS _ _ | exact Fo.noS' _ _ | exact agg_no (by repeat' first | with_reducible exact Fo.no _ _ | with_reducible exact Fo.no' _ _ | exact rfl | exact Fo.no _ _ | exact Fo.no' _ _ | refine no_cons ?_ ?_)) ?_); exact rfl), (by repeat first | exact trivial | refine ⟨by decide, by first | rfl | exact trivial | (intro i j; first | rfl | exact getD_no rfl | (dsimp only; split <;> first | rfl | exact getD_no rfl) | exact scl_no (by apply_assumption) _), ?_⟩)⟩ rfl rfl rfl (nB rfl) ?_
 refine ARun.nil ?_
 refine AW.seq ?_
 refine AW.region ?_
 refine ARun.alloc (id := 1) (l := [.con .nilFunc]) (z := (.nilFunc)) rfl (by kernel_rfl) (fun _ _ _ => ⟨_, _, rfl, rfl, rfl⟩) ⟨(by refine fr_env rfl ?_; (repeat refine env_cons (by first | with_reducible exact Fo.noS _ _ | with_reducible exact Fo.noS' _ _ | exact rfl | exact Fo.noS _ _ | exact Fo.noS' _ _ | exact agg_no (by repeat' first | with_reducible exact Fo.no _ _ | with_reducible exact Fo.no' _ _ | exact rfl | exact Fo.no _ _ | exact Fo.no' _ _ | refine no_cons ?_ ?_)) ?_); exact rfl), (by repeat first | exact trivial | refine ⟨by decide, by first | rfl | exact trivial | (intro i j; first | rfl | exact getD_no rfl | (dsimp only; split <;> first | rfl | exact getD_no rfl) | exact scl_no (by apply_assumption) _), ?_⟩)⟩ rfl rfl rfl (nB rfl) ?_
 refine ARun.nil ?_
 refine AW.seq ?_
 refine AW.region ?_
 refine pu (.makeFn (caps := [.ptr 0 1 0 0, .ptr 1 1 0 0]) rfl ⟨(.tmp rfl), ⟨(.tmp rfl), trivial⟩⟩ rfl) rfl rfl rfl ?_
 refine ARun.store rfl (.tmp rfl) (.tmp rfl) trivial rfl (nB rfl) f39_ rfl rfl ?_
 refine ARun.nil ?_
 refine AW.seq ?_
 refine AW.nilCell 0 0 600 4 _ (rowP []) rfl rfl ⟨(by refine fr_env rfl ?_; (repeat refine env_cons (by first | with_reducible exact Fo.noS _ _ | with_reducible exact Fo.noS' _ _ | exact rfl | exact Fo.noS _ _ | exact Fo.noS' _ _ | exact agg_no (by repeat' first | with_reducible exact Fo.no _ _ | with_reducible exact Fo.no' _ _ | exact rfl | exact Fo.no _ _ | exact Fo.no' _ _ | refine no_cons ?_ ?_)) ?_); exact rfl), (by repeat first | exact trivial | refine ⟨by decide, by first | rfl | exact trivial | (intro i j; first | rfl | exact getD_no rfl | (dsimp only; split <;> first | rfl | exact getD_no rfl) | exact scl_no (by apply_assumption) _), ?_⟩)⟩ ?_
 refine AW.region ?_
 refine pu (.loadPtr rfl (.tmp rfl) f37_ rfl rfl (nB rfl) (nB rfl)) rfl rfl rfl ?_
 refine pu (.move rfl (.tmp rfl)) rfl rfl rfl ?_
 refine ARun.mutxV (args := [.one (Fo.av t)]) (m := 2) (cv := (fun j => ([.ptr 1000000 1 0 0, .ptr 1000002 1 0 0] : List AV).getD j (.con undef))) (Hr := []) (Hn := [(0, .cells [.own 52 4 ((addP t ([])).1.length)]), (1, .cells [.fn 79 2 (fun j => ([.ptr 0 1 0 0, .ptr 1 1 0 0] : List AV).getD j (.con undef))]), (52, .arr 4 ((addP t ([])).1.length) (rowP ((addP t ([])).1)))]) (g := fun zz => if zz = 1000000 then 0 else if zz = 1000001 then 600 else if zz = 1000002 then 1 else zz) (g' := fun zz => if zz = 1000000 then 0 else if zz = 1000001 then 600 else if zz = 1000002 then 1 else if zz = 900 then 52 else zz) (K := [900, 1000000, 1000002]) (T := [(52, 900)]) rfl (.tmp rfl) (v_Add t hnt [] 0 rfl (by omega)) (fun j hj => match j, hj with | 0, _ => rfl | 1, _ => rfl | _ + 2, h => absurd h (by omega)) f36_ ⟨.inl ⟨_, (.tmp rfl), (Fo.vw' _ _)⟩, trivial⟩ ⟨⟨_, rfl, rfl⟩, ⟨_, rfl, ⟨rfl, rfl, fun i j hi hj => rowP_ren hj⟩⟩, ⟨_, rfl, (congrArg (fun z => [AV.fn 79 2 z]) (funext fun j => match j with | 0 => rfl | 1 => rfl | _ + 2 => rfl))⟩, trivial⟩ trivial rfl ⟨⟨(by refine fr_env rfl ?_; (repeat refine env_cons (by first | with_reducible exact Fo.noS _ _ | with_reducible exact Fo.noS' _ _ | exact rfl | exact Fo.noS _ _ | exact Fo.noS' _ _ | exact agg_no (by repeat' first | with_reducible exact Fo.no _ _ | with_reducible exact Fo.no' _ _ | exact rfl | exact Fo.no _ _ | exact Fo.no' _ _ | refine no_cons ?_ ?_)) ?_); exact rfl), (by repeat first | exact trivial | refine ⟨by decide, by first | rfl | exact trivial | (intro i j; first | rfl | exact getD_no rfl | (dsimp only; split <;> first | rfl | exact getD_no rfl) | exact scl_no (by apply_assumption) _), ?_⟩)⟩, trivial⟩ (by kernel_rfl) (by kernel_rfl) (by kernel_rfl) ⟨.inr ⟨1000000, _, rfl, rfl, rfl, rfl, rfl⟩, .inr ⟨1000002, _, rfl, rfl, rfl, (congrArg (fun z => [AV.fn 79 2 z]) (funext fun j => match j with | 0 => rfl | 1 => rfl | _ + 2 => rfl)), rfl⟩, .inr ⟨900, _, rfl, rfl, rfl, ⟨rfl, rfl, fun i j hi hj => rowP_ren hj⟩, (fun i j hi hj => rowP_hx hj)⟩, trivial⟩ rfl rfl (nB rfl) (r' := .one (.int .i64 ((addP t ([])).2))) rfl ?_
 refine ARun.nil ?_
 refine AW.seq ?_
 refine AW.seq ?_
 refine AW.region ?_
 refine pu (.loadPtr rfl (.tmp rfl) f38_ rfl rfl (nB rfl) (nB rfl)) rfl rfl rfl ?_
 refine pu (.lenOwn rfl (.tmp rfl) f34_) rfl rfl rfl ?_
 refine pu (.intOp rfl (.tmp rfl) .int rfl) rfl rfl rfl ?_
 refine ARun.nil ?_
 refine AW.cond (.tmp rfl) (fun hb1 => ?_) (fun hb1 => ?_)
 ·
  replace hb1 := of_decide_eq_true hb1
  obtain ⟨he1, he2⟩ := parts_no (t := t) (by have := hb1; omega)
  rw [he1, he2]
  refine AW.seq ?_
  refine AW.region ?_
  refine pu (.assign rfl .con) rfl rfl rfl ?_
  refine pu (.assign rfl .bool) rfl rfl rfl ?_
  refine ARun.nil ?_
  exact AW.ret (show ∃ s, ResL _ _ [.tmp 2, .tmp 3] s ∧ FvS _ s _ from ⟨_, .inr (.inl ⟨_, _, _, _, rfl, .tmp rfl, .tmp rfl, rfl⟩), .cnil, .bool⟩)
 ·
  replace hb1 := of_decide_eq_false hb1
  obtain ⟨he1, he2⟩ := parts_ok (t := t) (by have := hb1; omega)
  rw [he1, he2]
  refine AW.skip ?_
  refine AW.seq ?_
  refine AW.region ?_
  refine pu (.loadPtr rfl (.tmp rfl) f38_ rfl rfl (nB rfl) (nB rfl)) rfl rfl rfl ?_
  refine pu (.assign rfl (.tmp rfl)) rfl rfl rfl ?_
  refine pu (.assign rfl .bool) rfl rfl rfl ?_
  refine ARun.nil ?_
  exact AW.ret (show ∃ s, ResL _ _ [.tmp 2, .tmp 3] s ∧ FvS _ s _ from ⟨_, .inr (.inl ⟨_, _, _, _, rfl, .tmp rfl, .tmp rfl, rfl⟩), (.own rfl rfl (Nat.le_refl _) (fun i j hi hj => match j, hj with | 0, _ => .int | 1, _ => .str | 2, _ => .int | 3, _ => .int | _ + 4, h => absurd h (by omega))), .bool⟩)
end Go.Proofs.Ytonfeiloekofdaa

namespace Go.Proofs.Ytonfeiloekofdaa
open Go.ChangeShapes Go.WideShapes Go.ChangeAt Go.RowKit Go.BigFrame Go.Deep
set_option linter.unusedVariables false
set_option linter.unusedSimpArgs false
theorem f41_ : callB Try.prog 32 = true := by kernel_rfl
theorem f42_ : callB Try.prog 72 = true := by kernel_rfl
theorem f43_ : callB Try.prog 73 = true := by kernel_rfl
theorem f44_ : callB Try.prog 93 = true := by kernel_rfl
theorem f45_ : elemB Try.prog 36 4 = true := by kernel_rfl
theorem f46_ : elemB Try.prog 52 1 = true := by kernel_rfl
theorem f47_ : fieldB Try.prog 91 0 0 = true := by kernel_rfl
theorem f48_ : fieldB Try.prog 91 1 1 = true := by kernel_rfl
theorem f49_ : sliceB Try.prog 52 = true := by kernel_rfl
theorem f50_ : sizeB Try.prog 9 1 = true := by kernel_rfl
def rowU (f : List GPart) (k : Nat) : Nat → Nat → AV := fun i _ => .int .i64 ((usesP (f.take k) i : Nat) : Int)
theorem inB_lt {i : Nat} {a : Int} : inB 0 ((i : Int) - 1) a = (decide (0 ≤ a) && decide (a < (i : Int))) := by
  unfold inB
  rw [Bool.eq_iff_iff, Bool.and_eq_true, decide_eq_true_eq, decide_eq_true_eq, decide_eq_true_eq]
  omega
theorem GPart.ext_iff' {p q : GPart} : p = q ↔ p.kind = q.kind ∧ p.text = q.text ∧ p.a = q.a ∧ p.b = q.b := by
  constructor
  · intro h; subst h; exact ⟨rfl, rfl, rfl, rfl⟩
  · obtain ⟨a, b, c, d⟩ := p
    obtain ⟨a', b', c', d'⟩ := q
    rintro ⟨h1, h2, h3, h4⟩
    simp only at h1 h2 h3 h4
    rw [h1, h2, h3, h4]
theorem leaf_and {p : GPart} : decide (p = ⟨p.kind, ByteArray.empty, 0, 0⟩) = (decide (p.text = ByteArray.empty) && decide (p.a = 0) && decide (p.b = 0)) := by
  rw [Bool.eq_iff_iff, Bool.and_eq_true, Bool.and_eq_true, decide_eq_true_eq, decide_eq_true_eq, decide_eq_true_eq, decide_eq_true_eq, GPart.ext_iff']
  exact ⟨fun h => ⟨⟨h.2.1, h.2.2.1⟩, h.2.2.2⟩, fun h => ⟨rfl, h.1.1, h.1.2, h.2⟩⟩
theorem partOk_A {p : GPart} {i : Nat} (hk : p.kind = 1 ∨ p.kind = 2 ∨ p.kind = 4) : partOk p i = decide (p = ⟨p.kind, ByteArray.empty, 0, 0⟩) := by
  have h2 : isTwo p.kind = false := by rcases hk with h | h | h <;> (rw [h]; rfl)
  have h1 : isOne p.kind = false := by rcases hk with h | h | h <;> (rw [h]; rfl)
  have h3 : ¬ p.kind = 3 := by omega
  unfold partOk leafOk
  rw [h2, h1, if_neg (by decide), if_neg (by decide), if_neg h3, leaf_and, decide_eq_true (show 1 ≤ p.kind by omega), decide_eq_true (show p.kind ≤ 4 by omega)]
  rfl
theorem partOk_L {p : GPart} {i : Nat} (hk : p.kind = 3) : partOk p i = (decide (p.text.size = 1) && decide (97 ≤ byteAt p.text 0) && decide (byteAt p.text 0 ≤ 122) && decide (p = ⟨p.kind, p.text, 0, 0⟩)) := by
  have h2 : isTwo p.kind = false := by rw [hk]; rfl
  have h1 : isOne p.kind = false := by rw [hk]; rfl
  unfold partOk leafOk
  rw [h2, h1, if_neg (by decide), if_neg (by decide), if_pos hk]
  have e : decide (p = ⟨p.kind, p.text, 0, 0⟩) = (decide (p.a = 0) && decide (p.b = 0)) := by
    rw [Bool.eq_iff_iff, Bool.and_eq_true, decide_eq_true_eq, decide_eq_true_eq, decide_eq_true_eq, GPart.ext_iff']
    exact ⟨fun h => h.2.2, fun h => ⟨rfl, rfl, h.1, h.2⟩⟩
  rw [e, Bool.and_assoc]
theorem partOk_O {p : GPart} {i : Nat} (hk : isOne p.kind = true) : partOk p i = (inB 0 ((i : Int) - 1) p.a && decide (p = ⟨p.kind, ByteArray.empty, p.a, 0⟩)) := by
  have h2 := one_not_two hk
  unfold partOk
  rw [h2, hk, if_neg (by decide), if_pos rfl, inB_lt]
  have e : decide (p = ⟨p.kind, ByteArray.empty, p.a, 0⟩) = (decide (p.text = ByteArray.empty) && decide (p.b = 0)) := by
    rw [Bool.eq_iff_iff, Bool.and_eq_true, decide_eq_true_eq, decide_eq_true_eq, decide_eq_true_eq, GPart.ext_iff']
    exact ⟨fun h => ⟨h.2.1, h.2.2.2⟩, fun h => ⟨rfl, h.1, rfl, h.2⟩⟩
  rw [e]
  cases decide (p.text = ByteArray.empty) <;> cases decide (0 ≤ p.a) <;> cases decide (p.a < (i : Int)) <;> cases decide (p.b = 0) <;> rfl
theorem partOk_T {p : GPart} {i : Nat} (hk : isTwo p.kind = true) : partOk p i = (inB 0 ((i : Int) - 1) p.a && inB 0 ((i : Int) - 1) p.b && decide (p = ⟨p.kind, ByteArray.empty, p.a, p.b⟩)) := by
  unfold partOk
  rw [hk, if_pos rfl, inB_lt, inB_lt]
  have e : decide (p = ⟨p.kind, ByteArray.empty, p.a, p.b⟩) = decide (p.text = ByteArray.empty) := by
    rw [Bool.eq_iff_iff, decide_eq_true_eq, decide_eq_true_eq, GPart.ext_iff']
    exact ⟨fun h => h.2.1, fun h => ⟨rfl, h, rfl, rfl⟩⟩
  rw [e, Bool.and_comm _ (decide (p.text = ByteArray.empty)), Bool.and_assoc]
theorem partOk_N {p : GPart} {i : Nat} (h1 : ¬ p.kind = 1) (h2 : ¬ p.kind = 2) (h4 : ¬ p.kind = 4) (h3 : ¬ p.kind = 3) (h7 : ¬ p.kind = 7) (h8 : ¬ p.kind = 8) (h5 : ¬ p.kind = 5) (h6 : ¬ p.kind = 6) : partOk p i = false := by
  have e2 : isTwo p.kind = false := by unfold isTwo; rw [decide_eq_false h5, decide_eq_false h6]; rfl
  have e1 : isOne p.kind = false := by unfold isOne; rw [decide_eq_false h7, decide_eq_false h8]; rfl
  unfold partOk leafOk
  rw [e2, e1, if_neg (by decide), if_neg (by decide), if_neg h3]
  have : (decide (1 ≤ p.kind) && decide (p.kind ≤ 4)) = false := by
    rw [Bool.and_eq_false_iff, decide_eq_false_iff_not, decide_eq_false_iff_not]; omega
  rw [this]; rfl
theorem letter_of {n : Nat} {c : Int} {b : Bool} (h : cond (cond (!decide ((n : Int) = 1)) true (decide (c < 97))) true (decide (122 < c)) = b) : (decide (n = 1) && decide (97 ≤ c) && decide (c ≤ 122)) = !b := by
  subst h
  have u (a b : Int) : decide (a < b) = !decide (b ≤ a) := by rw [← decide_not]; exact decide_eq_decide.2 (by omega)
  rw [u, u, show decide ((n : Int) = 1) = decide (n = 1) from decide_eq_decide.2 (by omega)]
  cases decide (n = 1) <;> cases decide (97 ≤ c) <;> cases decide (c ≤ 122) <;> rfl
theorem good_no {f : List GPart} {k : Nat} (hk : k < f.length) (h : partOk (f.getD k default) k = false) : goodP f = false := by
  rw [← Bool.not_eq_true]
  intro hg
  rw [(goodP_iff.1 hg).part k hk] at h
  cases h
theorem good_len {f : List GPart} (h : inB 1 24 (f.length : Int) = false) : goodP f = false := by
  rw [← Bool.not_eq_true]
  intro hg
  have := inB_false h
  have h1 := (goodP_iff.1 hg).pos
  have h2 := (goodP_iff.1 hg).le
  omega
theorem good_once {f : List GPart} {i : Nat} (hi : i + 1 < f.length) (h : ¬ usesP f i = 1) : goodP f = false := by
  rw [← Bool.not_eq_true]
  intro hg
  exact h ((goodP_iff.1 hg).once i hi)
def usesL (f : List GPart) : List Int := (List.range (f.length - 1)).map fun i => ((usesP f i : Nat) : Int)
theorem usesL_len (f : List GPart) : (usesL f).length = f.length - 1 := by unfold usesL; rw [List.length_map, List.length_range]
theorem usesL_at {f : List GPart} {i : Nat} (hi : i < f.length - 1) : (usesL f).getD i 0 = ((usesP f i : Nat) : Int) := by
  unfold usesL
  rw [List.getD_eq_getElem?_getD, List.getElem?_map, List.getElem?_range hi]
  rfl
theorem good_any {f : List GPart} (hl : inB 1 24 (f.length : Int) = true) (hp : ∀ j, j < f.length → partOk (f.getD j default) j = true) : (!(usesL f).any fun n => !decide (n = 1)) = goodP f := by
  have h1 := inB_true hl
  rw [Bool.eq_iff_iff, goodP_iff, Bool.not_eq_true', ← Bool.not_eq_true, List.any_eq_true]
  constructor
  · intro h
    refine ⟨by omega, by omega, hp, fun i hi => ?_⟩
    rcases Nat.decEq (usesP f i) 1 with e | e
    · exact absurd ⟨((usesP f i : Nat) : Int), List.mem_map.2 ⟨i, List.mem_range.2 (by omega), rfl⟩, by rw [decide_eq_false (by omega)]; rfl⟩ h
    · exact e
  · rintro hg ⟨x, hx, hne⟩
    obtain ⟨i, hi, rfl⟩ := List.mem_map.1 hx
    rw [hg.once i (by have := List.mem_range.1 hi; omega)] at hne
    cases hne
theorem good_all {f : List GPart} (hp : ∀ j, j < f.length → partOk (f.getD j default) j = true) (hu : ∀ i, i < f.length → i + 1 < f.length → usesP f i = 1) : inB 1 24 (f.length : Int) = goodP f := by
  rw [Bool.eq_iff_iff, goodP_iff]
  constructor
  · intro h
    have := inB_true h
    exact ⟨by omega, by omega, hp, fun i hi => hu i (by omega) hi⟩
  · intro hg
    have h1 := hg.pos
    have h2 := hg.le
    unfold inB
    exact decide_eq_true ⟨by omega, by omega⟩
theorem uses_succ {f : List GPart} {k : Nat} (hk : k < f.length) (i : Nat) : usesP (f.take (k + 1)) i = usesP (f.take k) i + usesOf (f.getD k default) i := by
  rw [usesP_take _ _ _ (by omega), usesP_take _ _ _ (by omega)]; rfl
theorem uses_le : ∀ (l : List GPart) (i : Nat), usesP l i ≤ 2 * l.length
  | [], _ => Nat.le_refl _
  | p :: l, i => by
    have := uses_le l i
    have h : usesOf p i ≤ 2 := by unfold usesOf; repeat' split
                                  all_goals omega
    show usesOf p i + usesP l i ≤ 2 * (l.length + 1)
    omega
theorem uses_tk {f : List GPart} (hl : f.length ≤ 1000) (k i : Nat) : usesP (f.take k) i ≤ 2000 := by
  have h1 := uses_le (f.take k) i
  have h2 : (f.take k).length ≤ f.length := by rw [List.length_take]; omega
  omega
theorem rowU_0 {f : List GPart} {i j : Nat} (hj : j < 1) : ([.int .i64 0] : List AV).getD j (.con undef) = rowU f 0 i j := by
  obtain rfl : j = 0 := by omega
  rfl
section
variable {f : List GPart} {k i j : Nat}
theorem rowU_leaf (hk : k < f.length) (h2 : isTwo (f.getD k default).kind = false) (h1 : isOne (f.getD k default).kind = false) : rowU f k i j = rowU f (k + 1) i j := by
  unfold rowU
  rw [uses_succ hk]
  unfold usesOf
  rw [h2, h1, if_neg (fun h => by cases h.1), if_neg (fun h => by cases h.1)]
  rfl
theorem rowU_one (hk : k < f.length) (h1 : isOne (f.getD k default).kind = true) (h0 : 0 ≤ (f.getD k default).a) (hj : j < 1) : (if i = (f.getD k default).a.toNat then ([.int .i64 ((usesP (f.take k) (f.getD k default).a.toNat + 1 : Nat) : Int)] : List AV).getD j (.con undef) else rowU f k i j) = rowU f (k + 1) i j := by
  obtain rfl : j = 0 := by omega
  have h2 := one_not_two h1
  unfold rowU
  rw [uses_succ hk]
  unfold usesOf
  rw [h2, h1]
  by_cases e : i = (f.getD k default).a.toNat
  · rw [if_pos e, ← e, if_pos ⟨rfl, by omega⟩, if_neg (fun h => by cases h.1)]; rfl
  · rw [if_neg e, if_neg (fun h => e (by have := h.2; omega)), if_neg (fun h => by cases h.1)]; rfl
theorem rowU_two {v w : Nat} (hk : k < f.length) (h2 : isTwo (f.getD k default).kind = true) (ha : 0 ≤ (f.getD k default).a) (hb : 0 ≤ (f.getD k default).b) (hj : j < 1)
    (hv : v = usesP (f.take k) (f.getD k default).a.toNat + 1) (hw : w = (if (f.getD k default).b.toNat = (f.getD k default).a.toNat then v else usesP (f.take k) (f.getD k default).b.toNat) + 1) :
    (if i = (f.getD k default).b.toNat then ([.int .i64 (w : Int)] : List AV).getD j (.con undef) else if i = (f.getD k default).a.toNat then ([.int .i64 (v : Int)] : List AV).getD j (.con undef) else rowU f k i j) = rowU f (k + 1) i j := by
  obtain rfl : j = 0 := by omega
  subst hw
  subst hv
  unfold rowU
  rw [uses_succ hk]
  unfold usesOf
  rw [h2]
  simp only [Bool.true_or, true_and]
  by_cases eb : i = (f.getD k default).b.toNat
  · rw [if_pos eb, ← eb, if_pos (show (f.getD k default).b = (i : Int) by omega)]
    by_cases ea : i = (f.getD k default).a.toNat
    · rw [if_pos ea, ← ea, if_pos (show (f.getD k default).a = (i : Int) by omega)]; rfl
    · rw [if_neg ea, if_neg (show ¬ (f.getD k default).a = (i : Int) by omega)]; rfl
  · rw [if_neg eb, if_neg (show ¬ (f.getD k default).b = (i : Int) by omega)]
    by_cases ea : i = (f.getD k default).a.toNat
    · rw [if_pos ea, ← ea, if_pos (show (f.getD k default).a = (i : Int) by omega)]; rfl
    · rw [if_neg ea, if_neg (show ¬ (f.getD k default).a = (i : Int) by omega)]; rfl
theorem rowU_two' {v w : Nat} (hk : k < f.length) (h2 : isTwo (f.getD k default).kind = true) (ha : 0 ≤ (f.getD k default).a) (hb : 0 ≤ (f.getD k default).b) (hj : j < 1)
    (hv : v = usesP (f.take k) (f.getD k default).b.toNat + 1) (hw : w = (if (f.getD k default).a.toNat = (f.getD k default).b.toNat then v else usesP (f.take k) (f.getD k default).a.toNat) + 1) :
    (if i = (f.getD k default).a.toNat then ([.int .i64 (w : Int)] : List AV).getD j (.con undef) else if i = (f.getD k default).b.toNat then ([.int .i64 (v : Int)] : List AV).getD j (.con undef) else rowU f k i j) = rowU f (k + 1) i j := by
  refine Eq.trans ?_ (rowU_two hk h2 ha hb hj rfl rfl)
  obtain rfl : j = 0 := by omega
  subst hw
  subst hv
  by_cases ea : i = (f.getD k default).a.toNat
  · subst ea
    rw [if_pos rfl]
    by_cases eb : (f.getD k default).a.toNat = (f.getD k default).b.toNat
    · rw [if_pos eb, if_pos eb, if_pos eb.symm, eb]
    · rw [if_neg eb, if_neg eb, if_pos rfl]
  · rw [if_neg ea]
    by_cases eb : i = (f.getD k default).b.toNat
    · subst eb
      rw [if_pos rfl, if_pos rfl, if_neg ea]
    · rw [if_neg eb, if_neg eb, if_neg ea]
end
theorem toList_inj' {a b : ByteArray} (h : a.toList = b.toList) : a = b := by
  rw [ByteArray.toList_eq, ByteArray.toList_eq] at h
  cases a; cases b; simp_all
theorem eqGuardPart : Try.prog.eqGuardType Try.prog.depth 91 = false := by kernel_rfl
theorem equalPart (e f : GPart) (r : Bool) (hr : decide (e = f) = r) (w : World) :
    (Op.equalIn 10000 91 (.agg #[.int .i64 e.kind, .string e.text, .int .i64 e.a, .int .i64 e.b]) (.agg #[.int .i64 f.kind, .string f.text, .int .i64 f.a, .int .i64 f.b])).run Try.prog w = .ok r w := by
  subst hr
  have u3 := Try.underlying3
  have a3 := Try.isAgg3
  have z3 := Try.sizeOf3
  have u9 := Try.underlying9
  have a9 := Try.isAgg9
  have z9 := Try.sizeOf9
  have hS : Try.prog.underlying 91 = some (.struct (Try.prog.fieldsOf 91)) := by kernel_rfl
  have hp : Try.prog.stoodInHeld 91 = false := by kernel_rfl
  rw [show (10000 : Nat) = 9999 + 1 from rfl, run_equalIn_agg w 9999 91 _ _ hS hp]
  simp only [Program.fieldsOf, Try.underlying91]
  obtain ⟨n, s, v, q⟩ := e
  obtain ⟨m, t, u, x⟩ := f
  go_simp
  have hnm : (s.toList = t.toList) ↔ (s = t) := ⟨toList_inj', fun h => by rw [h]⟩
  by_cases h1 : n = m <;> by_cases h2 : s = t <;> by_cases h3 : v = u <;> by_cases h4 : q = x <;> simp [hnm, h1, h2, h3, h4]
theorem v_within (n lo hi : Int) : Fn Try.prog 32 [.one (.int .i64 n), .one (.int .i64 lo), .one (.int .i64 hi)] (.one (.bool (inB lo hi n))) := by
 refine Fn.of_body (fn := Try.f32) Try.func32 rfl (nB rfl) trivial ?_
 intro w0
 show AW _ 15 _ _ _ _
 refine AW.seq ?_
 refine AW.region ?_
 refine pu (.assign rfl .bool) rfl rfl rfl ?_
 refine ARun.nil ?_
 refine AW.seq ?_
 refine AW.region ?_
 refine pu (.move rfl (.tmp rfl)) rfl rfl rfl ?_
 refine pu (.move rfl (.tmp rfl)) rfl rfl rfl ?_
 refine pu (.intOp rfl (.tmp rfl) (.tmp rfl) rfl) rfl rfl rfl ?_
 refine pu (.move rfl (.tmp rfl)) rfl rfl rfl ?_
 refine ARun.gpure (want := true) (.tt rfl) (fun hg1 => PureOp.move rfl (.tmp rfl)) rfl rfl (nB rfl) rfl (nB rfl) ?_
 refine ARun.gpure (want := true) (.tt rfl) (fun hg2 => PureOp.move rfl (.tmp rfl)) rfl rfl (nB rfl) rfl (nB rfl) ?_
 refine ARun.gpure (want := true) (.tt rfl) (fun hg3 => PureOp.intOp rfl (.gtmp rfl hg3) (.gtmp rfl hg3) rfl) rfl rfl (nB rfl) rfl (nB rfl) ?_
 refine pu (.pick rfl (.tmp rfl) (fun hp4 => .gtmp rfl hp4) (fun _ => .bool)) rfl rfl rfl ?_
 refine pu (.assign rfl (.tmp rfl)) rfl rfl rfl ?_
 refine ARun.nil ?_
 refine AW.ret (show ResL _ _ [.tmp 6] _ from resB rfl ?_)
 exact inB_cond _ _ _
theorem v_l1In (n lo hi : Int) : Fn Try.prog 58 [.one (.int .i64 n), .one (.int .i64 lo), .one (.int .i64 hi)] (.one (.bool (inB lo hi n))) := by
 refine Fn.of_body (fn := Try.f58) Try.func58 rfl (nB rfl) trivial ?_
 intro w0
 show AW _ 15 _ _ _ _
 refine AW.seq ?_
 refine AW.region ?_
 refine pu (.assign rfl .bool) rfl rfl rfl ?_
 refine ARun.nil ?_
 refine AW.seq ?_
 refine AW.region ?_
 refine pu (.move rfl (.tmp rfl)) rfl rfl rfl ?_
 refine pu (.move rfl (.tmp rfl)) rfl rfl rfl ?_
 refine pu (.intOp rfl (.tmp rfl) (.tmp rfl) rfl) rfl rfl rfl ?_
 refine pu (.move rfl (.tmp rfl)) rfl rfl rfl ?_
 refine ARun.gpure (want := true) (.tt rfl) (fun hg1 => PureOp.move rfl (.tmp rfl)) rfl rfl (nB rfl) rfl (nB rfl) ?_
 refine ARun.gpure (want := true) (.tt rfl) (fun hg2 => PureOp.move rfl (.tmp rfl)) rfl rfl (nB rfl) rfl (nB rfl) ?_
 refine ARun.gpure (want := true) (.tt rfl) (fun hg3 => PureOp.intOp rfl (.gtmp rfl hg3) (.gtmp rfl hg3) rfl) rfl rfl (nB rfl) rfl (nB rfl) ?_
 refine pu (.pick rfl (.tmp rfl) (fun hp4 => .gtmp rfl hp4) (fun _ => .bool)) rfl rfl rfl ?_
 refine pu (.assign rfl (.tmp rfl)) rfl rfl rfl ?_
 refine ARun.nil ?_
 refine AW.ret (show ResL _ _ [.tmp 6] _ from resB rfl ?_)
 exact inB_cond _ _ _
theorem v_IndexFunc_Int (l : List Int) (g : FuncId) (m : Nat) (caps : Nat → AV) (p : Int → Bool) (hd : ∀ j, j < m → (caps j).Deep) (hB : callB Try.prog g = true) (hp : ∀ k, k < l.length → Fn Try.prog g ([.one (.int .i64 (l.getD k 0))] ++ capL m caps) (.one (.bool (p (l.getD k 0))))) : Fn Try.prog 93 [.one (.lst 1 l.length (fun i0 _ => .int .i64 (l.getD i0 0))), .one (.fn g m caps)] (.one (.int .i64 (idxF p l))) := by
 refine Fn.of_body (fn := Try.f93) Try.func93 rfl (nB rfl) trivial ?_
 intro w0
 show AW _ 19 _ _ _ _
 refine AW.bound (t := 0) rfl fun hx => ?_
 refine AW.seq ?_
 refine AW.region ?_
 refine pu (.assign rfl .int) rfl rfl rfl ?_
 refine ARun.nil ?_
 refine AW.seq ?_
 refine AW.seq ?_
 refine AW.region ?_
 refine pu (.move rfl (.tmp rfl)) rfl rfl rfl ?_
 refine pu (.lenLst rfl (.tmp rfl) f49_) rfl rfl rfl ?_
 refine pu (.move rfl .int) rfl rfl rfl ?_
 refine ARun.nil ?_
 refine AW.block ?_
 refine AW.loop (ι := Nat) (fun k => ⟨[(0, .one (.lst 1 l.length (fun i0 _ => .int .i64 (l.getD i0 0)))), (1, .one (.fn g m caps)), (7, .one (.int .i64 (l.length : Int))), (8, .one (.int .i64 (k : Int)))], []⟩) (fun k => k ≤ l.length ∧ (l.take k).any p = false) (fun k => l.length - k) 0 ⟨Nat.zero_le _, rfl⟩ ⟨⟨⟨_, rfl, rfl⟩, ⟨_, rfl, rfl⟩, ⟨_, rfl, rfl⟩, ⟨_, rfl, rfl⟩, trivial⟩, trivial⟩ ?_
 intro k hI
 obtain ⟨hk, hq⟩ := hI
 refine AW.seq ?_
 refine AW.region ?_
 refine pu (.intOp rfl (.tmp rfl) (.tmp rfl) rfl) rfl rfl rfl ?_
 refine ARun.nil ?_
 refine AW.seq ?_
 refine AW.cond (.tmp rfl) (fun hb1 => ?_) (fun hb1 => ?_)
 ·
  replace hb1 := of_decide_eq_true hb1
  have hlt : k < l.length := by omega
  refine AW.skip ?_
  refine AW.seq ?_
  refine AW.block ?_
  refine AW.seq ?_
  refine AW.region ?_
  refine pu (.move rfl (.tmp rfl)) rfl rfl rfl ?_
  refine pu (.assign rfl (.tmp rfl)) rfl rfl rfl ?_
  refine ARun.nil ?_
  refine AW.seq ?_
  refine AW.region ?_
  refine pu (.move rfl (.tmp rfl)) rfl rfl rfl ?_
  refine pu (.move rfl (.tmp rfl)) rfl rfl rfl ?_
  refine pu (.move rfl (.tmp rfl)) rfl rfl rfl ?_
  refine pu (.indexLst (i := k) rfl (.tmp rfl) f46_ (.tmp rfl) rfl (by omega)) rfl rfl rfl ?_
  refine pu (.loadRef rfl (.tmp rfl) f2_ (nB rfl)) rfl rfl rfl ?_
  refine pu (.callv rfl (.tmp rfl) (hp k hlt) (fun j hj => Vw.of_deep (hd j hj)) ⟨⟨_, (.tmp rfl), .int⟩, trivial⟩ hB trivial) rfl rfl rfl ?_
  refine ARun.nil ?_
  refine AW.cond (.tmp rfl) (fun hb2 => ?_) (fun hb2 => ?_)
  ·
   refine AW.seq ?_
   refine AW.region ?_
   refine pu (.move rfl (.tmp rfl)) rfl rfl rfl ?_
   refine pu (.assign rfl (.tmp rfl)) rfl rfl rfl ?_
   refine ARun.nil ?_
   refine AW.ret (show ResL _ _ [.tmp 4] _ from resI rfl ?_)
   exact idxF_hit (0 : Int) hlt hq hb2
  ·
   refine AW.skip ?_
   refine AW.region ?_
   refine pu (.add (c := ((k + 1 : Nat) : Int)) rfl (.tmp rfl) .int (by rw [wrap_id (by omega) (by omega)]; omega)) rfl rfl rfl ?_
   refine pu (.move rfl (.tmp rfl)) rfl rfl rfl ?_
   refine ARun.nil ?_
   exact ⟨k + 1, ⟨by omega, any_take (0 : Int) hlt hq hb2⟩, by dsimp only; omega, ⟨⟨⟨_, rfl, rfl⟩, ⟨_, rfl, rfl⟩, ⟨_, rfl, rfl⟩, ⟨_, rfl, rfl⟩, trivial⟩, trivial⟩⟩
 ·
  replace hb1 := of_decide_eq_false hb1
  have hlt : ¬ k < l.length := by omega
  refine AW.exit ?_
  refine AW.seq ?_
  refine AW.region ?_
  refine pu (.assign rfl .int) rfl rfl rfl ?_
  refine ARun.nil ?_
  refine AW.ret (show ResL _ _ [.tmp 4] _ from resI rfl ?_)
  exact idxF_none hlt hq
theorem v_ContainsFunc_Int (l : List Int) (g : FuncId) (m : Nat) (caps : Nat → AV) (p : Int → Bool) (hd : ∀ j, j < m → (caps j).Deep) (hB : callB Try.prog g = true) (hp : ∀ k, k < l.length → Fn Try.prog g ([.one (.int .i64 (l.getD k 0))] ++ capL m caps) (.one (.bool (p (l.getD k 0))))) : Fn Try.prog 72 [.one (.lst 1 l.length (fun i0 _ => .int .i64 (l.getD i0 0))), .one (.fn g m caps)] (.one (.bool (l.any p))) := by
 refine Fn.of_body (fn := Try.f72) Try.func72 rfl (nB rfl) trivial ?_
 intro w0
 show AW _ 9 _ _ _ _
 refine AW.seq ?_
 refine AW.region ?_
 refine pu (.assign rfl .bool) rfl rfl rfl ?_
 refine ARun.nil ?_
 refine AW.seq ?_
 refine AW.region ?_
 refine pu (.move rfl (.tmp rfl)) rfl rfl rfl ?_
 refine pu (.move rfl (.tmp rfl)) rfl rfl rfl ?_
 refine pu (.call rfl (v_IndexFunc_Int l g m caps p hd hB hp) ⟨⟨_, (.tmp rfl), .lst⟩, ⟨_, (.tmp rfl), (.fn (fun j hj => Vw.of_deep (hd j hj)))⟩, trivial⟩ f44_ trivial) rfl rfl rfl ?_
 refine pu (.intOp rfl (.tmp rfl) .int rfl) rfl rfl rfl ?_
 refine pu (.assign rfl (.tmp rfl)) rfl rfl rfl ?_
 refine ARun.nil ?_
 refine AW.ret (show ResL _ _ [.tmp 4] _ from resB rfl ?_)
 exact idxF_any p l
theorem v_ne1 (n : Int) : Fn Try.prog 73 [.one (.int .i64 n)] (.one (.bool (!decide (n = 1)))) := by
 refine Fn.of_body (fn := Try.f73) Try.func73 rfl (nB rfl) trivial ?_
 intro w0
 show AW _ 5 _ _ _ _
 refine AW.seq ?_
 refine AW.region ?_
 refine pu (.assign rfl .bool) rfl rfl rfl ?_
 refine ARun.nil ?_
 refine AW.seq ?_
 refine AW.region ?_
 refine pu (.move rfl (.tmp rfl)) rfl rfl rfl ?_
 refine pu (.intOp rfl (.tmp rfl) .int rfl) rfl rfl rfl ?_
 refine pu (.assign rfl (.tmp rfl)) rfl rfl rfl ?_
 refine ARun.nil ?_
 exact AW.ret (show ResL _ _ [.tmp 2] _ from resB rfl rfl)
set_option maxHeartbeats 4000000 in
theorem v_isForm (f : List GPart) (hl : f.length ≤ 1000) : Fn Try.prog 43 [.one (.lst 4 f.length (fun i0 j0 => ([.int .i64 ((f.getD i0 (default : GPart)).kind), .str ((f.getD i0 (default : GPart)).text), .int .i64 ((f.getD i0 (default : GPart)).a), .int .i64 ((f.getD i0 (default : GPart)).b)] : List AV).getD j0 (.con undef)))] (.one (.bool (goodP f))) := by
 refine Fn.of_body (fn := Try.f43) Try.func43 rfl (nB rfl) trivial ?_
 intro w0
 show AW _ 107 _ _ _ _
 refine AW.seq ?_
 refine AW.region ?_
 refine pu (.assign rfl .bool) rfl rfl rfl ?_
 refine ARun.nil ?_
 refine AW.seq ?_
 refine AW.seq ?_
 refine AW.region ?_
 refine pu (.move rfl (.tmp rfl)) rfl rfl rfl ?_
 refine pu (.lenLst rfl (.tmp rfl) f34_) rfl rfl rfl ?_
 refine pu (.call rfl (v_within (f.length : Int) 1 24) ⟨⟨_, (.tmp rfl), .int⟩, ⟨_, .int, .int⟩, ⟨_, .int, .int⟩, trivial⟩ f41_ trivial) rfl rfl rfl ?_
 refine pu (.not rfl (.tmp rfl)) rfl rfl rfl ?_
 refine ARun.nil ?_
 refine AW.cond (.tmp rfl) (fun hb1 => ?_) (fun hb1 => ?_)
 ·
  replace hb1 := of_not hb1
  have hln := hb1
  refine AW.seq ?_
  refine AW.region ?_
  refine pu (.assign rfl .bool) rfl rfl rfl ?_
  refine ARun.nil ?_
  refine AW.ret (show ResL _ _ [.tmp 2] _ from resB rfl ?_)
  exact (good_len hln).symm
 ·
  replace hb1 := not_f hb1
  have hlen := inB_true hb1
  have hln := hb1
  refine AW.skip ?_
  refine AW.seq ?_
  refine AW.region ?_
  refine pu (.move rfl (.tmp rfl)) rfl rfl rfl ?_
  refine pu (.lenLst rfl (.tmp rfl) f34_) rfl rfl rfl ?_
  refine ARun.make (id := 0) (n := f.length) (l := [.int .i64 0]) (z := (.int .i64 0)) (by_ := 8) rfl (by kernel_rfl) (fun _ _ _ => ⟨_, _, rfl, rfl, rfl⟩) (.tmp rfl) (.tmp rfl) rfl rfl (by omega) (by omega) (by decide) ⟨rfl, (by repeat first | exact trivial | refine ⟨by decide, by first | rfl | exact trivial | (intro i j; first | rfl | exact getD_no rfl | (dsimp only; split <;> first | rfl | exact getD_no rfl) | exact scl_no (by apply_assumption) _), ?_⟩)⟩ rfl rfl rfl (nB rfl) ?_
  refine pu (.assign rfl (.tmp rfl)) rfl rfl rfl ?_
  refine ARun.nil ?_
  refine AW.seq ?_
  refine AW.seq ?_
  refine AW.region ?_
  refine pu (.move rfl (.tmp rfl)) rfl rfl rfl ?_
  refine pu (.lenLst rfl (.tmp rfl) f34_) rfl rfl rfl ?_
  refine pu (.move rfl .int) rfl rfl rfl ?_
  refine ARun.nil ?_
  refine AW.block ?_
  refine AW.loop (ι := Nat) (fun k => ⟨[(0, .one (.lst 4 f.length (fun i0 j0 => ([.int .i64 ((f.getD i0 (default : GPart)).kind), .str ((f.getD i0 (default : GPart)).text), .int .i64 ((f.getD i0 (default : GPart)).a), .int .i64 ((f.getD i0 (default : GPart)).b)] : List AV).getD j0 (.con undef)))), (3, .one (.own 0 1 f.length)), (14, .one (.lst 4 f.length (fun i0 j0 => ([.int .i64 ((f.getD i0 (default : GPart)).kind), .str ((f.getD i0 (default : GPart)).text), .int .i64 ((f.getD i0 (default : GPart)).a), .int .i64 ((f.getD i0 (default : GPart)).b)] : List AV).getD j0 (.con undef)))), (15, .one (.int .i64 (f.length : Int))), (16, .one (.int .i64 (k : Int)))], [(0, .arr 1 f.length (rowU f k))]⟩) (fun k => k ≤ f.length ∧ ∀ j, j < k → partOk (f.getD j default) j = true) (fun k => f.length - k) 0 ⟨Nat.zero_le _, fun j hj => absurd hj (by omega)⟩ ⟨⟨⟨_, rfl, rfl⟩, ⟨_, rfl, rfl⟩, ⟨_, rfl, rfl⟩, ⟨_, rfl, rfl⟩, ⟨_, rfl, rfl⟩, trivial⟩, ⟨⟨_, rfl, rfl, Nat.le_refl _, fun i j hi hj => rowU_0 hj⟩, trivial⟩⟩ ?_
  intro k hI
  obtain ⟨hk, hks⟩ := hI
  refine AW.seq ?_
  refine AW.region ?_
  refine pu (.intOp rfl (.tmp rfl) (.tmp rfl) rfl) rfl rfl rfl ?_
  refine ARun.nil ?_
  refine AW.seq ?_
  refine AW.cond (.tmp rfl) (fun hb2 => ?_) (fun hb2 => ?_)
  ·
   replace hb2 := of_decide_eq_true hb2
   have hkl : k < f.length := by omega
   refine AW.skip ?_
   refine AW.seq ?_
   refine AW.block ?_
   refine AW.seq ?_
   refine AW.region ?_
   refine pu (.move rfl (.tmp rfl)) rfl rfl rfl ?_
   refine pu (.indexLst (i := k) rfl (.tmp rfl) f45_ (.tmp rfl) rfl (by omega)) rfl rfl rfl ?_
   refine pu (.loadRefAgg rfl (.tmp rfl) f28_ (nB rfl)) rfl rfl rfl ?_
   refine ARun.alloc (id := 1) (l := [.int .i64 0, .str ByteArray.empty, .int .i64 0, .int .i64 0]) (z := (.agg #[.int .i64 0, .string ByteArray.empty, .int .i64 0, .int .i64 0])) rfl (by kernel_rfl) (fun _ _ _ => ⟨_, _, rfl, rfl, ⟨_, _, rfl, ⟨rfl, by decide⟩, ⟨_, _, rfl, rfl, ⟨_, _, rfl, rfl, rfl⟩⟩⟩⟩) ⟨rfl, (by repeat first | exact trivial | refine ⟨by decide, by first | rfl | exact trivial | (intro i j; first | rfl | exact getD_no rfl | (dsimp only; split <;> first | rfl | exact getD_no rfl) | exact scl_no (by apply_assumption) _), ?_⟩)⟩ rfl rfl rfl (nB rfl) ?_
   refine pu (.assign rfl (.tmp rfl)) rfl rfl rfl ?_
   refine ARun.store rfl (.tmp rfl) (.tmp rfl) (SV.cells_of (by exact ⟨trivial, trivial, trivial, trivial, trivial⟩)) rfl (nB rfl) f35_ rfl rfl ?_
   refine ARun.nil ?_
   refine AW.seq ?_
   refine AW.region ?_
   refine pu (.fieldPtr rfl (.tmp rfl) f47_) rfl rfl rfl ?_
   refine pu (.loadPtr rfl (.tmp rfl) f2_ rfl rfl (nB rfl) (nB rfl)) rfl rfl rfl ?_
   refine pu (.build (ys := [.int .i64 ((f.getD k (default : GPart)).kind)]) (l := [.int .i64 0, .str ByteArray.empty, .int .i64 0, .int .i64 0]) (pl := [(0, 1), (1, 1), (2, 1), (3, 1)]) (z := (.agg #[.int .i64 0, .string ByteArray.empty, .int .i64 0, .int .i64 0])) rfl (by kernel_rfl) (by kernel_rfl) (fun _ _ _ => ⟨_, _, rfl, rfl, ⟨_, _, rfl, ⟨rfl, by decide⟩, ⟨_, _, rfl, rfl, ⟨_, _, rfl, rfl, rfl⟩⟩⟩⟩) ⟨(.tmp rfl), trivial, rfl, trivial⟩ rfl) rfl rfl rfl ?_
   refine ARun.alloc (id := 2) (l := [.int .i64 0, .str ByteArray.empty, .int .i64 0, .int .i64 0]) (z := (.agg #[.int .i64 0, .string ByteArray.empty, .int .i64 0, .int .i64 0])) rfl (by kernel_rfl) (fun _ _ _ => ⟨_, _, rfl, rfl, ⟨_, _, rfl, ⟨rfl, by decide⟩, ⟨_, _, rfl, rfl, ⟨_, _, rfl, rfl, rfl⟩⟩⟩⟩) ⟨rfl, (by repeat first | exact trivial | refine ⟨by decide, by first | rfl | exact trivial | (intro i j; first | rfl | exact getD_no rfl | (dsimp only; split <;> first | rfl | exact getD_no rfl) | exact scl_no (by apply_assumption) _), ?_⟩)⟩ rfl rfl rfl (nB rfl) ?_
   refine ARun.store rfl (.tmp rfl) (.tmp rfl) (SV.cells_of (by exact ⟨trivial, trivial, trivial, trivial, trivial⟩)) rfl (nB rfl) f35_ rfl rfl ?_
   refine ARun.nil ?_
   refine AW.seq ?_
   refine AW.seq ?_
   refine AW.region ?_
   refine pu (.fieldPtr rfl (.tmp rfl) f47_) rfl rfl rfl ?_
   refine pu (.loadPtr rfl (.tmp rfl) f2_ rfl rfl (nB rfl) (nB rfl)) rfl rfl rfl ?_
   refine ARun.nil ?_
   refine AW.block ?_
   refine AW.seq ?_
   refine AW.seq ?_
   refine AW.region ?_
   refine pu (.intOp rfl (.tmp rfl) .int rfl) rfl rfl rfl ?_
   refine pu (.assign rfl (.tmp rfl)) rfl rfl rfl ?_
   refine ARun.nil ?_
   refine AW.cond (.tmp rfl) (fun hb3 => ?_) (fun hb3 => ?_)
   ·
    replace hb3 := of_decide_eq_true hb3
    have hpa := partOk_A (i := k) (show _ from .inl hb3)
    refine AW.skip ?_
    refine AW.cond (.tmp rfl) (fun hb4 => ?_) (fun hb4 => ?_)
    ·
     clear hb4
     refine AW.skip ?_
     refine AW.seq ?_
     refine AW.seq ?_
     refine AW.region ?_
     refine pu (.fieldPtr rfl (.tmp rfl) f47_) rfl rfl rfl ?_
     refine pu (.loadPtr rfl (.tmp rfl) f2_ rfl rfl (nB rfl) (nB rfl)) rfl rfl rfl ?_
     refine pu (.intOp rfl (.tmp rfl) .int rfl) rfl rfl rfl ?_
     refine pu (.move rfl (.tmp rfl)) rfl rfl rfl ?_
     refine ARun.gpure (want := false) (.tf rfl) (fun hg5 => PureOp.fieldPtr rfl (.tmp rfl) f47_) rfl rfl (nB rfl) rfl (nB rfl) ?_
     refine ARun.gpure (want := false) (.tf rfl) (fun hg6 => PureOp.loadPtr rfl (.gtmp rfl hg6) f2_ rfl rfl (nB rfl) (nB rfl)) rfl rfl (nB rfl) rfl (nB rfl) ?_
     refine ARun.gpure (want := false) (.tf rfl) (fun hg7 => PureOp.intOp rfl (.gtmp rfl hg7) .int rfl) rfl rfl (nB rfl) rfl (nB rfl) ?_
     refine pu (.pick rfl (.tmp rfl) (fun _ => .bool) (fun hp9 => .gtmp rfl (not_of hp9))) rfl rfl rfl ?_
     refine ARun.nil ?_
     refine AW.cond (.tmp rfl) (fun hb10 => ?_) (fun hb10 => ?_)
     ·
      rw [hb3] at hb10; exact absurd hb10 (by decide)
      --end
     ·
      clear hb10
      refine AW.skip ?_
      refine AW.seq ?_
      refine AW.region ?_
      refine pu (.loadPtrAgg rfl (.tmp rfl) f28_ rfl rfl (nB rfl) (nB rfl)) rfl rfl rfl ?_
      refine pu (.loadPtrAgg rfl (.tmp rfl) f28_ rfl rfl (nB rfl) (nB rfl)) rfl rfl rfl ?_
      refine pu (.neAgg rfl (.tmp rfl) (.tmp rfl) rfl rfl eqGuardPart (fun w_ => equalPart (f.getD k (default : GPart)) ⟨(f.getD k (default : GPart)).kind, ByteArray.empty, 0, 0⟩ _ rfl w_)) rfl rfl rfl ?_
      refine ARun.nil ?_
      refine AW.cond (.tmp rfl) (fun hb11 => ?_) (fun hb11 => ?_)
      ·
       replace hb11 := of_decide_eq_false (of_not hb11)
       refine AW.seq ?_
       refine AW.region ?_
       refine pu (.assign rfl .bool) rfl rfl rfl ?_
       refine ARun.nil ?_
       refine AW.ret (show ResL _ _ [.tmp 2] _ from resB rfl ?_)
       exact (good_no hkl (hpa.trans (decide_eq_false hb11))).symm
      ·
       replace hb11 := of_decide_eq_true (not_f hb11)
       have hpk : partOk (f.getD k (default : GPart)) k = true := hpa.trans (decide_eq_true hb11)
       refine AW.skip ?_
       refine AW.region ?_
       refine pu (.add (c := ((k + 1 : Nat) : Int)) rfl (.tmp rfl) .int (by rw [wrap_id (by omega) (by omega)]; omega)) rfl rfl rfl ?_
       refine pu (.move rfl (.tmp rfl)) rfl rfl rfl ?_
       refine ARun.nil ?_
       exact ⟨k + 1, ⟨by omega, rng_succ (p := fun j => partOk (f.getD j default) j = true) hks hpk⟩, by dsimp only; omega, ⟨⟨⟨_, rfl, rfl⟩, ⟨_, rfl, rfl⟩, ⟨_, rfl, rfl⟩, ⟨_, rfl, rfl⟩, ⟨_, rfl, rfl⟩, trivial⟩, ⟨⟨_, rfl, rfl, Nat.le_refl _, fun i j hi hj => rowU_leaf (i := i) (j := j) hkl (by rw [hb3]; rfl) (by rw [hb3]; rfl)⟩, trivial⟩⟩⟩
    ·
     exact absurd hb3 (of_decide_eq_false hb4)
     --end
   ·
    replace hb3 := of_decide_eq_false hb3
    refine AW.seq ?_
    refine AW.region ?_
    refine pu (.intOp rfl (.tmp rfl) .int rfl) rfl rfl rfl ?_
    refine pu (.assign rfl (.tmp rfl)) rfl rfl rfl ?_
    refine ARun.nil ?_
    refine AW.cond (.tmp rfl) (fun hb12 => ?_) (fun hb12 => ?_)
    ·
     replace hb12 := of_decide_eq_true hb12
     have hpa := partOk_A (i := k) (show _ from .inr (.inl hb12))
     refine AW.skip ?_
     refine AW.cond (.tmp rfl) (fun hb13 => ?_) (fun hb13 => ?_)
     ·
      clear hb13
      refine AW.skip ?_
      refine AW.seq ?_
      refine AW.seq ?_
      refine AW.region ?_
      refine pu (.fieldPtr rfl (.tmp rfl) f47_) rfl rfl rfl ?_
      refine pu (.loadPtr rfl (.tmp rfl) f2_ rfl rfl (nB rfl) (nB rfl)) rfl rfl rfl ?_
      refine pu (.intOp rfl (.tmp rfl) .int rfl) rfl rfl rfl ?_
      refine pu (.move rfl (.tmp rfl)) rfl rfl rfl ?_
      refine ARun.gpure (want := false) (.tf rfl) (fun hg14 => PureOp.fieldPtr rfl (.tmp rfl) f47_) rfl rfl (nB rfl) rfl (nB rfl) ?_
      refine ARun.gpure (want := false) (.tf rfl) (fun hg15 => PureOp.loadPtr rfl (.gtmp rfl hg15) f2_ rfl rfl (nB rfl) (nB rfl)) rfl rfl (nB rfl) rfl (nB rfl) ?_
      refine ARun.gpure (want := false) (.tf rfl) (fun hg16 => PureOp.intOp rfl (.gtmp rfl hg16) .int rfl) rfl rfl (nB rfl) rfl (nB rfl) ?_
      refine pu (.pick rfl (.tmp rfl) (fun _ => .bool) (fun hp18 => .gtmp rfl (not_of hp18))) rfl rfl rfl ?_
      refine ARun.nil ?_
      refine AW.cond (.tmp rfl) (fun hb19 => ?_) (fun hb19 => ?_)
      ·
       rw [hb12] at hb19; exact absurd hb19 (by decide)
       --end
      ·
       clear hb19
       refine AW.skip ?_
       refine AW.seq ?_
       refine AW.region ?_
       refine pu (.loadPtrAgg rfl (.tmp rfl) f28_ rfl rfl (nB rfl) (nB rfl)) rfl rfl rfl ?_
       refine pu (.loadPtrAgg rfl (.tmp rfl) f28_ rfl rfl (nB rfl) (nB rfl)) rfl rfl rfl ?_
       refine pu (.neAgg rfl (.tmp rfl) (.tmp rfl) rfl rfl eqGuardPart (fun w_ => equalPart (f.getD k (default : GPart)) ⟨(f.getD k (default : GPart)).kind, ByteArray.empty, 0, 0⟩ _ rfl w_)) rfl rfl rfl ?_
       refine ARun.nil ?_
       refine AW.cond (.tmp rfl) (fun hb20 => ?_) (fun hb20 => ?_)
       ·
        replace hb20 := of_decide_eq_false (of_not hb20)
        refine AW.seq ?_
        refine AW.region ?_
        refine pu (.assign rfl .bool) rfl rfl rfl ?_
        refine ARun.nil ?_
        refine AW.ret (show ResL _ _ [.tmp 2] _ from resB rfl ?_)
        exact (good_no hkl (hpa.trans (decide_eq_false hb20))).symm
       ·
        replace hb20 := of_decide_eq_true (not_f hb20)
        have hpk : partOk (f.getD k (default : GPart)) k = true := hpa.trans (decide_eq_true hb20)
        refine AW.skip ?_
        refine AW.region ?_
        refine pu (.add (c := ((k + 1 : Nat) : Int)) rfl (.tmp rfl) .int (by rw [wrap_id (by omega) (by omega)]; omega)) rfl rfl rfl ?_
        refine pu (.move rfl (.tmp rfl)) rfl rfl rfl ?_
        refine ARun.nil ?_
        exact ⟨k + 1, ⟨by omega, rng_succ (p := fun j => partOk (f.getD j default) j = true) hks hpk⟩, by dsimp only; omega, ⟨⟨⟨_, rfl, rfl⟩, ⟨_, rfl, rfl⟩, ⟨_, rfl, rfl⟩, ⟨_, rfl, rfl⟩, ⟨_, rfl, rfl⟩, trivial⟩, ⟨⟨_, rfl, rfl, Nat.le_refl _, fun i j hi hj => rowU_leaf (i := i) (j := j) hkl (by rw [hb12]; rfl) (by rw [hb12]; rfl)⟩, trivial⟩⟩⟩
     ·
      exact absurd hb12 (of_decide_eq_false hb13)
      --end
    ·
     replace hb12 := of_decide_eq_false hb12
     refine AW.region ?_
     refine pu (.intOp rfl (.tmp rfl) .int rfl) rfl rfl rfl ?_
     refine pu (.assign rfl (.tmp rfl)) rfl rfl rfl ?_
     refine ARun.nil ?_
     refine AW.cond (.tmp rfl) (fun hb21 => ?_) (fun hb21 => ?_)
     ·
      replace hb21 := of_decide_eq_true hb21
      have hpa := partOk_A (i := k) (show _ from .inr (.inr hb21))
      refine AW.skip ?_
      refine AW.seq ?_
      refine AW.seq ?_
      refine AW.region ?_
      refine pu (.fieldPtr rfl (.tmp rfl) f47_) rfl rfl rfl ?_
      refine pu (.loadPtr rfl (.tmp rfl) f2_ rfl rfl (nB rfl) (nB rfl)) rfl rfl rfl ?_
      refine pu (.intOp rfl (.tmp rfl) .int rfl) rfl rfl rfl ?_
      refine pu (.move rfl (.tmp rfl)) rfl rfl rfl ?_
      refine ARun.gpure (want := false) (.tf rfl) (fun hg22 => PureOp.fieldPtr rfl (.tmp rfl) f47_) rfl rfl (nB rfl) rfl (nB rfl) ?_
      refine ARun.gpure (want := false) (.tf rfl) (fun hg23 => PureOp.loadPtr rfl (.gtmp rfl hg23) f2_ rfl rfl (nB rfl) (nB rfl)) rfl rfl (nB rfl) rfl (nB rfl) ?_
      refine ARun.gpure (want := false) (.tf rfl) (fun hg24 => PureOp.intOp rfl (.gtmp rfl hg24) .int rfl) rfl rfl (nB rfl) rfl (nB rfl) ?_
      refine pu (.pick rfl (.tmp rfl) (fun _ => .bool) (fun hp26 => .gtmp rfl (not_of hp26))) rfl rfl rfl ?_
      refine ARun.nil ?_
      refine AW.cond (.tmp rfl) (fun hb27 => ?_) (fun hb27 => ?_)
      ·
       rw [hb21] at hb27; exact absurd hb27 (by decide)
       --end
      ·
       clear hb27
       refine AW.skip ?_
       refine AW.seq ?_
       refine AW.region ?_
       refine pu (.loadPtrAgg rfl (.tmp rfl) f28_ rfl rfl (nB rfl) (nB rfl)) rfl rfl rfl ?_
       refine pu (.loadPtrAgg rfl (.tmp rfl) f28_ rfl rfl (nB rfl) (nB rfl)) rfl rfl rfl ?_
       refine pu (.neAgg rfl (.tmp rfl) (.tmp rfl) rfl rfl eqGuardPart (fun w_ => equalPart (f.getD k (default : GPart)) ⟨(f.getD k (default : GPart)).kind, ByteArray.empty, 0, 0⟩ _ rfl w_)) rfl rfl rfl ?_
       refine ARun.nil ?_
       refine AW.cond (.tmp rfl) (fun hb28 => ?_) (fun hb28 => ?_)
       ·
        replace hb28 := of_decide_eq_false (of_not hb28)
        refine AW.seq ?_
        refine AW.region ?_
        refine pu (.assign rfl .bool) rfl rfl rfl ?_
        refine ARun.nil ?_
        refine AW.ret (show ResL _ _ [.tmp 2] _ from resB rfl ?_)
        exact (good_no hkl (hpa.trans (decide_eq_false hb28))).symm
       ·
        replace hb28 := of_decide_eq_true (not_f hb28)
        have hpk : partOk (f.getD k (default : GPart)) k = true := hpa.trans (decide_eq_true hb28)
        refine AW.skip ?_
        refine AW.region ?_
        refine pu (.add (c := ((k + 1 : Nat) : Int)) rfl (.tmp rfl) .int (by rw [wrap_id (by omega) (by omega)]; omega)) rfl rfl rfl ?_
        refine pu (.move rfl (.tmp rfl)) rfl rfl rfl ?_
        refine ARun.nil ?_
        exact ⟨k + 1, ⟨by omega, rng_succ (p := fun j => partOk (f.getD j default) j = true) hks hpk⟩, by dsimp only; omega, ⟨⟨⟨_, rfl, rfl⟩, ⟨_, rfl, rfl⟩, ⟨_, rfl, rfl⟩, ⟨_, rfl, rfl⟩, ⟨_, rfl, rfl⟩, trivial⟩, ⟨⟨_, rfl, rfl, Nat.le_refl _, fun i j hi hj => rowU_leaf (i := i) (j := j) hkl (by rw [hb21]; rfl) (by rw [hb21]; rfl)⟩, trivial⟩⟩⟩
     ·
      replace hb21 := of_decide_eq_false hb21
      refine AW.seq ?_
      refine AW.region ?_
      refine pu (.intOp rfl (.tmp rfl) .int rfl) rfl rfl rfl ?_
      refine pu (.assign rfl (.tmp rfl)) rfl rfl rfl ?_
      refine ARun.nil ?_
      refine AW.cond (.tmp rfl) (fun hb29 => ?_) (fun hb29 => ?_)
      ·
       replace hb29 := of_decide_eq_true hb29
       have hpa := partOk_L (i := k) hb29
       refine AW.seq ?_
       refine AW.region ?_
       refine pu (.fieldPtr rfl (.tmp rfl) f48_) rfl rfl rfl ?_
       refine pu (.loadPtr rfl (.tmp rfl) f3_ rfl rfl (nB rfl) (nB rfl)) rfl rfl rfl ?_
       refine pu (.fieldPtr rfl (.tmp rfl) f48_) rfl rfl rfl ?_
       refine ARun.store rfl (.tmp rfl) (.tmp rfl) trivial rfl (nB rfl) f50_ rfl rfl ?_
       refine ARun.nil ?_
       refine AW.seq ?_
       refine AW.region ?_
       refine pu (.fieldPtr rfl (.tmp rfl) f48_) rfl rfl rfl ?_
       refine pu (.loadPtr rfl (.tmp rfl) f3_ rfl rfl (nB rfl) (nB rfl)) rfl rfl rfl ?_
       refine pu (.lenStr rfl (.tmp rfl) f4_) rfl rfl rfl ?_
       refine pu (.intOp rfl (.tmp rfl) .int rfl) rfl rfl rfl ?_
       refine pu (.move rfl (.tmp rfl)) rfl rfl rfl ?_
       refine ARun.gpure (want := false) (.tf rfl) (fun hg30 => PureOp.fieldPtr rfl (.tmp rfl) f48_) rfl rfl (nB rfl) rfl (nB rfl) ?_
       refine ARun.gpure (want := false) (.tf rfl) (fun hg31 => PureOp.loadPtr rfl (.gtmp rfl hg31) f3_ rfl rfl (nB rfl) (nB rfl)) rfl rfl (nB rfl) rfl (nB rfl) ?_
       refine ARun.gpure (want := false) (.tf rfl) (fun hg32 => PureOp.indexStrAt (i := 0) rfl (.gtmp rfl hg32) f4_ .int rfl (by have q := hg32; simp only [Bool.cond_true_left, Bool.cond_false_right, Bool.not_eq_true', Bool.or_eq_false_iff, Bool.not_eq_false', Bool.and_eq_true, Bool.not_not, decide_eq_true_eq, decide_eq_false_iff_not, inB] at q; omega)) rfl rfl (nB rfl) rfl (nB rfl) ?_
       refine ARun.gpure (want := false) (.tf rfl) (fun hg33 => PureOp.intOp rfl (.gtmp rfl hg33) .int rfl) rfl rfl (nB rfl) rfl (nB rfl) ?_
       refine pu (.pick rfl (.tmp rfl) (fun _ => .bool) (fun hp35 => .gtmp rfl (not_of hp35))) rfl rfl rfl ?_
       refine pu (.move rfl (.tmp rfl)) rfl rfl rfl ?_
       refine ARun.gpure (want := false) (.tf rfl) (fun hg36 => PureOp.fieldPtr rfl (.tmp rfl) f48_) rfl rfl (nB rfl) rfl (nB rfl) ?_
       refine ARun.gpure (want := false) (.tf rfl) (fun hg37 => PureOp.loadPtr rfl (.gtmp rfl hg37) f3_ rfl rfl (nB rfl) (nB rfl)) rfl rfl (nB rfl) rfl (nB rfl) ?_
       refine ARun.gpure (want := false) (.tf rfl) (fun hg38 => PureOp.indexStrAt (i := 0) rfl (.gtmp rfl hg38) f4_ .int rfl (by have q := hg38; simp only [Bool.cond_true_left, Bool.cond_false_right, Bool.not_eq_true', Bool.or_eq_false_iff, Bool.not_eq_false', Bool.and_eq_true, Bool.not_not, decide_eq_true_eq, decide_eq_false_iff_not, inB] at q; omega)) rfl rfl (nB rfl) rfl (nB rfl) ?_
       refine ARun.gpure (want := false) (.tf rfl) (fun hg39 => PureOp.intOp rfl (.gtmp rfl hg39) .int rfl) rfl rfl (nB rfl) rfl (nB rfl) ?_
       refine pu (.pick rfl (.tmp rfl) (fun _ => .bool) (fun hp41 => .gtmp rfl (not_of hp41))) rfl rfl rfl ?_
       refine ARun.nil ?_
       refine AW.cond (.tmp rfl) (fun hb42 => ?_) (fun hb42 => ?_)
       ·
        have hlt := letter_of hb42
        refine AW.seq ?_
        refine AW.region ?_
        refine pu (.assign rfl .bool) rfl rfl rfl ?_
        refine ARun.nil ?_
        refine AW.ret (show ResL _ _ [.tmp 2] _ from resB rfl ?_)
        exact (good_no hkl (hpa.trans (by rw [letter_of hb42]; rfl))).symm
       ·
        have hlt := letter_of hb42
        refine AW.skip ?_
        refine AW.seq ?_
        refine AW.seq ?_
        refine AW.region ?_
        refine pu (.fieldPtr rfl (.tmp rfl) f47_) rfl rfl rfl ?_
        refine pu (.loadPtr rfl (.tmp rfl) f2_ rfl rfl (nB rfl) (nB rfl)) rfl rfl rfl ?_
        refine pu (.intOp rfl (.tmp rfl) .int rfl) rfl rfl rfl ?_
        refine pu (.move rfl (.tmp rfl)) rfl rfl rfl ?_
        refine ARun.gpure (want := false) (.tf rfl) (fun hg43 => PureOp.fieldPtr rfl (.tmp rfl) f47_) rfl rfl (nB rfl) rfl (nB rfl) ?_
        refine ARun.gpure (want := false) (.tf rfl) (fun hg44 => PureOp.loadPtr rfl (.gtmp rfl hg44) f2_ rfl rfl (nB rfl) (nB rfl)) rfl rfl (nB rfl) rfl (nB rfl) ?_
        refine ARun.gpure (want := false) (.tf rfl) (fun hg45 => PureOp.intOp rfl (.gtmp rfl hg45) .int rfl) rfl rfl (nB rfl) rfl (nB rfl) ?_
        refine pu (.pick rfl (.tmp rfl) (fun _ => .bool) (fun hp47 => .gtmp rfl (not_of hp47))) rfl rfl rfl ?_
        refine ARun.nil ?_
        refine AW.cond (.tmp rfl) (fun hb48 => ?_) (fun hb48 => ?_)
        ·
         rw [hb29] at hb48; exact absurd hb48 (by decide)
         --end
        ·
         clear hb48
         refine AW.skip ?_
         refine AW.seq ?_
         refine AW.region ?_
         refine pu (.loadPtrAgg rfl (.tmp rfl) f28_ rfl rfl (nB rfl) (nB rfl)) rfl rfl rfl ?_
         refine pu (.loadPtrAgg rfl (.tmp rfl) f28_ rfl rfl (nB rfl) (nB rfl)) rfl rfl rfl ?_
         refine pu (.neAgg rfl (.tmp rfl) (.tmp rfl) rfl rfl eqGuardPart (fun w_ => equalPart (f.getD k (default : GPart)) ⟨(f.getD k (default : GPart)).kind, (f.getD k (default : GPart)).text, 0, 0⟩ _ rfl w_)) rfl rfl rfl ?_
         refine ARun.nil ?_
         refine AW.cond (.tmp rfl) (fun hb49 => ?_) (fun hb49 => ?_)
         ·
          replace hb49 := of_decide_eq_false (of_not hb49)
          refine AW.seq ?_
          refine AW.region ?_
          refine pu (.assign rfl .bool) rfl rfl rfl ?_
          refine ARun.nil ?_
          refine AW.ret (show ResL _ _ [.tmp 2] _ from resB rfl ?_)
          exact (good_no hkl (hpa.trans (by rw [decide_eq_false hb49, Bool.and_false]))).symm
         ·
          replace hb49 := of_decide_eq_true (not_f hb49)
          have hpk : partOk (f.getD k (default : GPart)) k = true := hpa.trans (by rw [hlt, decide_eq_true hb49]; rfl)
          refine AW.skip ?_
          refine AW.region ?_
          refine pu (.add (c := ((k + 1 : Nat) : Int)) rfl (.tmp rfl) .int (by rw [wrap_id (by omega) (by omega)]; omega)) rfl rfl rfl ?_
          refine pu (.move rfl (.tmp rfl)) rfl rfl rfl ?_
          refine ARun.nil ?_
          exact ⟨k + 1, ⟨by omega, rng_succ (p := fun j => partOk (f.getD j default) j = true) hks hpk⟩, by dsimp only; omega, ⟨⟨⟨_, rfl, rfl⟩, ⟨_, rfl, rfl⟩, ⟨_, rfl, rfl⟩, ⟨_, rfl, rfl⟩, ⟨_, rfl, rfl⟩, trivial⟩, ⟨⟨_, rfl, rfl, Nat.le_refl _, fun i j hi hj => rowU_leaf (i := i) (j := j) hkl (by rw [hb29]; rfl) (by rw [hb29]; rfl)⟩, trivial⟩⟩⟩
      ·
       replace hb29 := of_decide_eq_false hb29
       refine AW.seq ?_
       refine AW.seq ?_
       refine AW.region ?_
       refine pu (.intOp rfl (.tmp rfl) .int rfl) rfl rfl rfl ?_
       refine pu (.assign rfl (.tmp rfl)) rfl rfl rfl ?_
       refine ARun.nil ?_
       refine AW.cond (.tmp rfl) (fun hb50 => ?_) (fun hb50 => ?_)
       ·
        replace hb50 := of_decide_eq_true hb50
        have h1 : isOne (f.getD k (default : GPart)).kind = true := by rw [hb50]; rfl
        have hpa := partOk_O (i := k) h1
        refine AW.skip ?_
        refine AW.cond (.tmp rfl) (fun hb51 => ?_) (fun hb51 => ?_)
        ·
         clear hb51
         refine AW.seq ?_
         refine AW.region ?_
         refine pu (.fieldPtr rfl (.tmp rfl) f32_) rfl rfl rfl ?_
         refine pu (.loadPtr rfl (.tmp rfl) f2_ rfl rfl (nB rfl) (nB rfl)) rfl rfl rfl ?_
         refine pu (.fieldPtr rfl (.tmp rfl) f32_) rfl rfl rfl ?_
         refine ARun.store rfl (.tmp rfl) (.tmp rfl) trivial rfl (nB rfl) f5_ rfl rfl ?_
         refine ARun.nil ?_
         refine AW.seq ?_
         refine AW.seq ?_
         refine AW.region ?_
         refine pu (.fieldPtr rfl (.tmp rfl) f32_) rfl rfl rfl ?_
         refine pu (.loadPtr rfl (.tmp rfl) f2_ rfl rfl (nB rfl) (nB rfl)) rfl rfl rfl ?_
         refine pu (.move rfl (.tmp rfl)) rfl rfl rfl ?_
         refine pu (.sub (c := (k : Int) - 1) rfl (.tmp rfl) .int (wrap_id (by omega) (by omega))) rfl rfl rfl ?_
         refine pu (.call rfl (v_within ((f.getD k (default : GPart)).a) 0 ((k : Int) - 1)) ⟨⟨_, (.tmp rfl), .int⟩, ⟨_, .int, .int⟩, ⟨_, (.tmp rfl), .int⟩, trivial⟩ f41_ trivial) rfl rfl rfl ?_
         refine pu (.not rfl (.tmp rfl)) rfl rfl rfl ?_
         refine ARun.nil ?_
         refine AW.cond (.tmp rfl) (fun hb52 => ?_) (fun hb52 => ?_)
         ·
          replace hb52 := of_not hb52
          refine AW.seq ?_
          refine AW.region ?_
          refine pu (.assign rfl .bool) rfl rfl rfl ?_
          refine ARun.nil ?_
          refine AW.ret (show ResL _ _ [.tmp 2] _ from resB rfl ?_)
          exact (good_no hkl (hpa.trans (by rw [hb52]; rfl))).symm
         ·
          replace hb52 := not_f hb52
          have hIa := hb52
          have hIa2 := inB_true hb52
          refine AW.skip ?_
          refine AW.region ?_
          refine pu (.move rfl (.tmp rfl)) rfl rfl rfl ?_
          refine pu (.fieldPtr rfl (.tmp rfl) f32_) rfl rfl rfl ?_
          refine pu (.loadPtr rfl (.tmp rfl) f2_ rfl rfl (nB rfl) (nB rfl)) rfl rfl rfl ?_
          refine pu (.indexOwn (i := ((f.getD k (default : GPart)).a).toNat) rfl (.tmp rfl) f46_ (.tmp rfl) (by omega) (by omega)) rfl rfl rfl ?_
          refine pu (.loadPtr rfl (.tmp rfl) f2_ rfl rfl (show ((f.getD k (default : GPart)).a).toNat < f.length from by omega) (nB rfl)) rfl rfl rfl ?_
          refine pu (.add (c := ((usesP (f.take k) (((f.getD k (default : GPart)).a).toNat) + 1 : Nat) : Int)) rfl (.tmp rfl) .int (by have q1 := uses_tk hl k ((f.getD k (default : GPart)).a.toNat); have q2 := uses_tk hl k ((f.getD k (default : GPart)).b.toNat); rw [wrap_id (by (try split) <;> omega) (by (try split) <;> omega)]; (try split) <;> omega)) rfl rfl rfl ?_
          refine pu (.indexOwn (i := ((f.getD k (default : GPart)).a).toNat) rfl (.tmp rfl) f46_ (.tmp rfl) (by omega) (by omega)) rfl rfl rfl ?_
          refine ARun.storeElem rfl (.tmp rfl) (.tmp rfl) trivial rfl (show ((f.getD k (default : GPart)).a).toNat < f.length from by omega) rfl f5_ rfl rfl ?_
          refine ARun.nil ?_
          refine AW.seq ?_
          refine AW.seq ?_
          refine AW.region ?_
          refine pu (.fieldPtr rfl (.tmp rfl) f47_) rfl rfl rfl ?_
          refine pu (.loadPtr rfl (.tmp rfl) f2_ rfl rfl (nB rfl) (nB rfl)) rfl rfl rfl ?_
          refine pu (.intOp rfl (.tmp rfl) .int rfl) rfl rfl rfl ?_
          refine pu (.move rfl (.tmp rfl)) rfl rfl rfl ?_
          refine ARun.gpure (want := false) (.tf rfl) (fun hg53 => PureOp.fieldPtr rfl (.tmp rfl) f47_) rfl rfl (nB rfl) rfl (nB rfl) ?_
          refine ARun.gpure (want := false) (.tf rfl) (fun hg54 => PureOp.loadPtr rfl (.gtmp rfl hg54) f2_ rfl rfl (nB rfl) (nB rfl)) rfl rfl (nB rfl) rfl (nB rfl) ?_
          refine ARun.gpure (want := false) (.tf rfl) (fun hg55 => PureOp.intOp rfl (.gtmp rfl hg55) .int rfl) rfl rfl (nB rfl) rfl (nB rfl) ?_
          refine pu (.pick rfl (.tmp rfl) (fun _ => .bool) (fun hp57 => .gtmp rfl (not_of hp57))) rfl rfl rfl ?_
          refine ARun.nil ?_
          refine AW.cond (.tmp rfl) (fun hb58 => ?_) (fun hb58 => ?_)
          ·
           rw [hb50] at hb58; exact absurd hb58 (by decide)
           --end
          ·
           clear hb58
           refine AW.skip ?_
           refine AW.seq ?_
           refine AW.region ?_
           refine pu (.loadPtrAgg rfl (.tmp rfl) f28_ rfl rfl (nB rfl) (nB rfl)) rfl rfl rfl ?_
           refine pu (.loadPtrAgg rfl (.tmp rfl) f28_ rfl rfl (nB rfl) (nB rfl)) rfl rfl rfl ?_
           refine pu (.neAgg rfl (.tmp rfl) (.tmp rfl) rfl rfl eqGuardPart (fun w_ => equalPart (f.getD k (default : GPart)) ⟨(f.getD k (default : GPart)).kind, ByteArray.empty, (f.getD k (default : GPart)).a, 0⟩ _ rfl w_)) rfl rfl rfl ?_
           refine ARun.nil ?_
           refine AW.cond (.tmp rfl) (fun hb59 => ?_) (fun hb59 => ?_)
           ·
            replace hb59 := of_decide_eq_false (of_not hb59)
            refine AW.seq ?_
            refine AW.region ?_
            refine pu (.assign rfl .bool) rfl rfl rfl ?_
            refine ARun.nil ?_
            refine AW.ret (show ResL _ _ [.tmp 2] _ from resB rfl ?_)
            exact (good_no hkl (hpa.trans (by rw [decide_eq_false hb59, Bool.and_false]))).symm
           ·
            replace hb59 := of_decide_eq_true (not_f hb59)
            have hpk : partOk (f.getD k (default : GPart)) k = true := hpa.trans (by rw [hIa, decide_eq_true hb59]; rfl)
            refine AW.skip ?_
            refine AW.region ?_
            refine pu (.add (c := ((k + 1 : Nat) : Int)) rfl (.tmp rfl) .int (by rw [wrap_id (by omega) (by omega)]; omega)) rfl rfl rfl ?_
            refine pu (.move rfl (.tmp rfl)) rfl rfl rfl ?_
            refine ARun.nil ?_
            exact ⟨k + 1, ⟨by omega, rng_succ (p := fun j => partOk (f.getD j default) j = true) hks hpk⟩, by dsimp only; omega, ⟨⟨⟨_, rfl, rfl⟩, ⟨_, rfl, rfl⟩, ⟨_, rfl, rfl⟩, ⟨_, rfl, rfl⟩, ⟨_, rfl, rfl⟩, trivial⟩, ⟨⟨_, rfl, rfl, Nat.le_refl _, fun i j hi hj => rowU_one hkl h1 hIa2.1 hj⟩, trivial⟩⟩⟩
        ·
         exact absurd hb50 (of_decide_eq_false hb51)
         --end
       ·
        replace hb50 := of_decide_eq_false hb50
        refine AW.seq ?_
        refine AW.region ?_
        refine pu (.intOp rfl (.tmp rfl) .int rfl) rfl rfl rfl ?_
        refine pu (.assign rfl (.tmp rfl)) rfl rfl rfl ?_
        refine ARun.nil ?_
        refine AW.cond (.tmp rfl) (fun hb60 => ?_) (fun hb60 => ?_)
        ·
         replace hb60 := of_decide_eq_true hb60
         have h1 : isOne (f.getD k (default : GPart)).kind = true := by rw [hb60]; rfl
         have hpa := partOk_O (i := k) h1
         refine AW.skip ?_
         refine AW.cond (.tmp rfl) (fun hb61 => ?_) (fun hb61 => ?_)
         ·
          clear hb61
          refine AW.seq ?_
          refine AW.region ?_
          refine pu (.fieldPtr rfl (.tmp rfl) f32_) rfl rfl rfl ?_
          refine pu (.loadPtr rfl (.tmp rfl) f2_ rfl rfl (nB rfl) (nB rfl)) rfl rfl rfl ?_
          refine pu (.fieldPtr rfl (.tmp rfl) f32_) rfl rfl rfl ?_
          refine ARun.store rfl (.tmp rfl) (.tmp rfl) trivial rfl (nB rfl) f5_ rfl rfl ?_
          refine ARun.nil ?_
          refine AW.seq ?_
          refine AW.seq ?_
          refine AW.region ?_
          refine pu (.fieldPtr rfl (.tmp rfl) f32_) rfl rfl rfl ?_
          refine pu (.loadPtr rfl (.tmp rfl) f2_ rfl rfl (nB rfl) (nB rfl)) rfl rfl rfl ?_
          refine pu (.move rfl (.tmp rfl)) rfl rfl rfl ?_
          refine pu (.sub (c := (k : Int) - 1) rfl (.tmp rfl) .int (wrap_id (by omega) (by omega))) rfl rfl rfl ?_
          refine pu (.call rfl (v_within ((f.getD k (default : GPart)).a) 0 ((k : Int) - 1)) ⟨⟨_, (.tmp rfl), .int⟩, ⟨_, .int, .int⟩, ⟨_, (.tmp rfl), .int⟩, trivial⟩ f41_ trivial) rfl rfl rfl ?_
          refine pu (.not rfl (.tmp rfl)) rfl rfl rfl ?_
          refine ARun.nil ?_
          refine AW.cond (.tmp rfl) (fun hb62 => ?_) (fun hb62 => ?_)
          ·
           replace hb62 := of_not hb62
           refine AW.seq ?_
           refine AW.region ?_
           refine pu (.assign rfl .bool) rfl rfl rfl ?_
           refine ARun.nil ?_
           refine AW.ret (show ResL _ _ [.tmp 2] _ from resB rfl ?_)
           exact (good_no hkl (hpa.trans (by rw [hb62]; rfl))).symm
          ·
           replace hb62 := not_f hb62
           have hIa := hb62
           have hIa2 := inB_true hb62
           refine AW.skip ?_
           refine AW.region ?_
           refine pu (.move rfl (.tmp rfl)) rfl rfl rfl ?_
           refine pu (.fieldPtr rfl (.tmp rfl) f32_) rfl rfl rfl ?_
           refine pu (.loadPtr rfl (.tmp rfl) f2_ rfl rfl (nB rfl) (nB rfl)) rfl rfl rfl ?_
           refine pu (.indexOwn (i := ((f.getD k (default : GPart)).a).toNat) rfl (.tmp rfl) f46_ (.tmp rfl) (by omega) (by omega)) rfl rfl rfl ?_
           refine pu (.loadPtr rfl (.tmp rfl) f2_ rfl rfl (show ((f.getD k (default : GPart)).a).toNat < f.length from by omega) (nB rfl)) rfl rfl rfl ?_
           refine pu (.add (c := ((usesP (f.take k) (((f.getD k (default : GPart)).a).toNat) + 1 : Nat) : Int)) rfl (.tmp rfl) .int (by have q1 := uses_tk hl k ((f.getD k (default : GPart)).a.toNat); have q2 := uses_tk hl k ((f.getD k (default : GPart)).b.toNat); rw [wrap_id (by (try split) <;> omega) (by (try split) <;> omega)]; (try split) <;> omega)) rfl rfl rfl ?_
           refine pu (.indexOwn (i := ((f.getD k (default : GPart)).a).toNat) rfl (.tmp rfl) f46_ (.tmp rfl) (by omega) (by omega)) rfl rfl rfl ?_
           refine ARun.storeElem rfl (.tmp rfl) (.tmp rfl) trivial rfl (show ((f.getD k (default : GPart)).a).toNat < f.length from by omega) rfl f5_ rfl rfl ?_
           refine ARun.nil ?_
           refine AW.seq ?_
           refine AW.seq ?_
           refine AW.region ?_
           refine pu (.fieldPtr rfl (.tmp rfl) f47_) rfl rfl rfl ?_
           refine pu (.loadPtr rfl (.tmp rfl) f2_ rfl rfl (nB rfl) (nB rfl)) rfl rfl rfl ?_
           refine pu (.intOp rfl (.tmp rfl) .int rfl) rfl rfl rfl ?_
           refine pu (.move rfl (.tmp rfl)) rfl rfl rfl ?_
           refine ARun.gpure (want := false) (.tf rfl) (fun hg63 => PureOp.fieldPtr rfl (.tmp rfl) f47_) rfl rfl (nB rfl) rfl (nB rfl) ?_
           refine ARun.gpure (want := false) (.tf rfl) (fun hg64 => PureOp.loadPtr rfl (.gtmp rfl hg64) f2_ rfl rfl (nB rfl) (nB rfl)) rfl rfl (nB rfl) rfl (nB rfl) ?_
           refine ARun.gpure (want := false) (.tf rfl) (fun hg65 => PureOp.intOp rfl (.gtmp rfl hg65) .int rfl) rfl rfl (nB rfl) rfl (nB rfl) ?_
           refine pu (.pick rfl (.tmp rfl) (fun _ => .bool) (fun hp67 => .gtmp rfl (not_of hp67))) rfl rfl rfl ?_
           refine ARun.nil ?_
           refine AW.cond (.tmp rfl) (fun hb68 => ?_) (fun hb68 => ?_)
           ·
            rw [hb60] at hb68; exact absurd hb68 (by decide)
            --end
           ·
            clear hb68
            refine AW.skip ?_
            refine AW.seq ?_
            refine AW.region ?_
            refine pu (.loadPtrAgg rfl (.tmp rfl) f28_ rfl rfl (nB rfl) (nB rfl)) rfl rfl rfl ?_
            refine pu (.loadPtrAgg rfl (.tmp rfl) f28_ rfl rfl (nB rfl) (nB rfl)) rfl rfl rfl ?_
            refine pu (.neAgg rfl (.tmp rfl) (.tmp rfl) rfl rfl eqGuardPart (fun w_ => equalPart (f.getD k (default : GPart)) ⟨(f.getD k (default : GPart)).kind, ByteArray.empty, (f.getD k (default : GPart)).a, 0⟩ _ rfl w_)) rfl rfl rfl ?_
            refine ARun.nil ?_
            refine AW.cond (.tmp rfl) (fun hb69 => ?_) (fun hb69 => ?_)
            ·
             replace hb69 := of_decide_eq_false (of_not hb69)
             refine AW.seq ?_
             refine AW.region ?_
             refine pu (.assign rfl .bool) rfl rfl rfl ?_
             refine ARun.nil ?_
             refine AW.ret (show ResL _ _ [.tmp 2] _ from resB rfl ?_)
             exact (good_no hkl (hpa.trans (by rw [decide_eq_false hb69, Bool.and_false]))).symm
            ·
             replace hb69 := of_decide_eq_true (not_f hb69)
             have hpk : partOk (f.getD k (default : GPart)) k = true := hpa.trans (by rw [hIa, decide_eq_true hb69]; rfl)
             refine AW.skip ?_
             refine AW.region ?_
             refine pu (.add (c := ((k + 1 : Nat) : Int)) rfl (.tmp rfl) .int (by rw [wrap_id (by omega) (by omega)]; omega)) rfl rfl rfl ?_
             refine pu (.move rfl (.tmp rfl)) rfl rfl rfl ?_
             refine ARun.nil ?_
             exact ⟨k + 1, ⟨by omega, rng_succ (p := fun j => partOk (f.getD j default) j = true) hks hpk⟩, by dsimp only; omega, ⟨⟨⟨_, rfl, rfl⟩, ⟨_, rfl, rfl⟩, ⟨_, rfl, rfl⟩, ⟨_, rfl, rfl⟩, ⟨_, rfl, rfl⟩, trivial⟩, ⟨⟨_, rfl, rfl, Nat.le_refl _, fun i j hi hj => rowU_one hkl h1 hIa2.1 hj⟩, trivial⟩⟩⟩
         ·
          exact absurd hb60 (of_decide_eq_false hb61)
          --end
        ·
         replace hb60 := of_decide_eq_false hb60
         refine AW.seq ?_
         refine AW.region ?_
         refine pu (.intOp rfl (.tmp rfl) .int rfl) rfl rfl rfl ?_
         refine pu (.assign rfl (.tmp rfl)) rfl rfl rfl ?_
         refine ARun.nil ?_
         refine AW.cond (.tmp rfl) (fun hb70 => ?_) (fun hb70 => ?_)
         ·
          replace hb70 := of_decide_eq_true hb70
          have h2 : isTwo (f.getD k (default : GPart)).kind = true := by rw [hb70]; rfl
          have hpa := partOk_T (i := k) h2
          refine AW.skip ?_
          refine AW.cond (.tmp rfl) (fun hb71 => ?_) (fun hb71 => ?_)
          ·
           clear hb71
           refine AW.seq ?_
           refine AW.region ?_
           refine pu (.fieldPtr rfl (.tmp rfl) f32_) rfl rfl rfl ?_
           refine pu (.loadPtr rfl (.tmp rfl) f2_ rfl rfl (nB rfl) (nB rfl)) rfl rfl rfl ?_
           refine pu (.fieldPtr rfl (.tmp rfl) f32_) rfl rfl rfl ?_
           refine ARun.store rfl (.tmp rfl) (.tmp rfl) trivial rfl (nB rfl) f5_ rfl rfl ?_
           refine ARun.nil ?_
           refine AW.seq ?_
           refine AW.seq ?_
           refine AW.region ?_
           refine pu (.fieldPtr rfl (.tmp rfl) f32_) rfl rfl rfl ?_
           refine pu (.loadPtr rfl (.tmp rfl) f2_ rfl rfl (nB rfl) (nB rfl)) rfl rfl rfl ?_
           refine pu (.move rfl (.tmp rfl)) rfl rfl rfl ?_
           refine pu (.sub (c := (k : Int) - 1) rfl (.tmp rfl) .int (wrap_id (by omega) (by omega))) rfl rfl rfl ?_
           refine pu (.call rfl (v_within ((f.getD k (default : GPart)).a) 0 ((k : Int) - 1)) ⟨⟨_, (.tmp rfl), .int⟩, ⟨_, .int, .int⟩, ⟨_, (.tmp rfl), .int⟩, trivial⟩ f41_ trivial) rfl rfl rfl ?_
           refine pu (.not rfl (.tmp rfl)) rfl rfl rfl ?_
           refine ARun.nil ?_
           refine AW.cond (.tmp rfl) (fun hb72 => ?_) (fun hb72 => ?_)
           ·
            replace hb72 := of_not hb72
            refine AW.seq ?_
            refine AW.region ?_
            refine pu (.assign rfl .bool) rfl rfl rfl ?_
            refine ARun.nil ?_
            refine AW.ret (show ResL _ _ [.tmp 2] _ from resB rfl ?_)
            exact (good_no hkl (hpa.trans (by rw [hb72]; rfl))).symm
           ·
            replace hb72 := not_f hb72
            have hIa := hb72
            have hIa2 := inB_true hb72
            refine AW.skip ?_
            refine AW.region ?_
            refine pu (.move rfl (.tmp rfl)) rfl rfl rfl ?_
            refine pu (.fieldPtr rfl (.tmp rfl) f32_) rfl rfl rfl ?_
            refine pu (.loadPtr rfl (.tmp rfl) f2_ rfl rfl (nB rfl) (nB rfl)) rfl rfl rfl ?_
            refine pu (.indexOwn (i := ((f.getD k (default : GPart)).a).toNat) rfl (.tmp rfl) f46_ (.tmp rfl) (by omega) (by omega)) rfl rfl rfl ?_
            refine pu (.loadPtr rfl (.tmp rfl) f2_ rfl rfl (show ((f.getD k (default : GPart)).a).toNat < f.length from by omega) (nB rfl)) rfl rfl rfl ?_
            refine pu (.add (c := ((usesP (f.take k) (((f.getD k (default : GPart)).a).toNat) + 1 : Nat) : Int)) rfl (.tmp rfl) .int (by have q1 := uses_tk hl k ((f.getD k (default : GPart)).a.toNat); have q2 := uses_tk hl k ((f.getD k (default : GPart)).b.toNat); rw [wrap_id (by (try split) <;> omega) (by (try split) <;> omega)]; (try split) <;> omega)) rfl rfl rfl ?_
            refine pu (.indexOwn (i := ((f.getD k (default : GPart)).a).toNat) rfl (.tmp rfl) f46_ (.tmp rfl) (by omega) (by omega)) rfl rfl rfl ?_
            refine ARun.storeElem rfl (.tmp rfl) (.tmp rfl) trivial rfl (show ((f.getD k (default : GPart)).a).toNat < f.length from by omega) rfl f5_ rfl rfl ?_
            refine ARun.nil ?_
            refine AW.seq ?_
            refine AW.seq ?_
            refine AW.region ?_
            refine pu (.fieldPtr rfl (.tmp rfl) f47_) rfl rfl rfl ?_
            refine pu (.loadPtr rfl (.tmp rfl) f2_ rfl rfl (nB rfl) (nB rfl)) rfl rfl rfl ?_
            refine pu (.intOp rfl (.tmp rfl) .int rfl) rfl rfl rfl ?_
            refine pu (.move rfl (.tmp rfl)) rfl rfl rfl ?_
            refine ARun.gpure (want := false) (.tf rfl) (fun hg73 => PureOp.fieldPtr rfl (.tmp rfl) f47_) rfl rfl (nB rfl) rfl (nB rfl) ?_
            refine ARun.gpure (want := false) (.tf rfl) (fun hg74 => PureOp.loadPtr rfl (.gtmp rfl hg74) f2_ rfl rfl (nB rfl) (nB rfl)) rfl rfl (nB rfl) rfl (nB rfl) ?_
            refine ARun.gpure (want := false) (.tf rfl) (fun hg75 => PureOp.intOp rfl (.gtmp rfl hg75) .int rfl) rfl rfl (nB rfl) rfl (nB rfl) ?_
            refine pu (.pick rfl (.tmp rfl) (fun _ => .bool) (fun hp77 => .gtmp rfl (not_of hp77))) rfl rfl rfl ?_
            refine ARun.nil ?_
            refine AW.cond (.tmp rfl) (fun hb78 => ?_) (fun hb78 => ?_)
            ·
             clear hb78
             refine AW.seq ?_
             refine AW.region ?_
             refine pu (.fieldPtr rfl (.tmp rfl) f33_) rfl rfl rfl ?_
             refine pu (.loadPtr rfl (.tmp rfl) f2_ rfl rfl (nB rfl) (nB rfl)) rfl rfl rfl ?_
             refine pu (.fieldPtr rfl (.tmp rfl) f33_) rfl rfl rfl ?_
             refine ARun.store rfl (.tmp rfl) (.tmp rfl) trivial rfl (nB rfl) f5_ rfl rfl ?_
             refine ARun.nil ?_
             refine AW.seq ?_
             refine AW.seq ?_
             refine AW.region ?_
             refine pu (.fieldPtr rfl (.tmp rfl) f33_) rfl rfl rfl ?_
             refine pu (.loadPtr rfl (.tmp rfl) f2_ rfl rfl (nB rfl) (nB rfl)) rfl rfl rfl ?_
             refine pu (.move rfl (.tmp rfl)) rfl rfl rfl ?_
             refine pu (.sub (c := (k : Int) - 1) rfl (.tmp rfl) .int (wrap_id (by omega) (by omega))) rfl rfl rfl ?_
             refine pu (.call rfl (v_within ((f.getD k (default : GPart)).b) 0 ((k : Int) - 1)) ⟨⟨_, (.tmp rfl), .int⟩, ⟨_, .int, .int⟩, ⟨_, (.tmp rfl), .int⟩, trivial⟩ f41_ trivial) rfl rfl rfl ?_
             refine pu (.not rfl (.tmp rfl)) rfl rfl rfl ?_
             refine ARun.nil ?_
             refine AW.cond (.tmp rfl) (fun hb79 => ?_) (fun hb79 => ?_)
             ·
              replace hb79 := of_not hb79
              refine AW.seq ?_
              refine AW.region ?_
              refine pu (.assign rfl .bool) rfl rfl rfl ?_
              refine ARun.nil ?_
              refine AW.ret (show ResL _ _ [.tmp 2] _ from resB rfl ?_)
              exact (good_no hkl (hpa.trans (by rw [hIa, hb79]; rfl))).symm
             ·
              replace hb79 := not_f hb79
              have hIb := hb79
              have hIb2 := inB_true hb79
              refine AW.skip ?_
              refine AW.region ?_
              refine pu (.move rfl (.tmp rfl)) rfl rfl rfl ?_
              refine pu (.fieldPtr rfl (.tmp rfl) f33_) rfl rfl rfl ?_
              refine pu (.loadPtr rfl (.tmp rfl) f2_ rfl rfl (nB rfl) (nB rfl)) rfl rfl rfl ?_
              refine pu (.indexOwn (i := ((f.getD k (default : GPart)).b).toNat) rfl (.tmp rfl) f46_ (.tmp rfl) (by omega) (by omega)) rfl rfl rfl ?_
              refine pu (.loadPtrE (y := .int .i64 (((if ((f.getD k (default : GPart)).b).toNat = ((f.getD k (default : GPart)).a).toNat then usesP (f.take k) (((f.getD k (default : GPart)).a).toNat) + 1 else usesP (f.take k) (((f.getD k (default : GPart)).b).toNat)) : Nat) : Int)) rfl (.tmp rfl) f2_ rfl rfl (show ((f.getD k (default : GPart)).b).toNat < f.length from by omega) (nB rfl) (by show (if ((f.getD k (default : GPart)).b).toNat = ((f.getD k (default : GPart)).a).toNat then (AV.int .i64 ((usesP (f.take k) (((f.getD k (default : GPart)).a).toNat) + 1 : Nat) : Int)) else _) = _; split <;> rfl)) rfl rfl rfl ?_
              refine pu (.add (c := (((if ((f.getD k (default : GPart)).b).toNat = ((f.getD k (default : GPart)).a).toNat then usesP (f.take k) (((f.getD k (default : GPart)).a).toNat) + 1 else usesP (f.take k) (((f.getD k (default : GPart)).b).toNat)) + 1 : Nat) : Int)) rfl (.tmp rfl) .int (by have q1 := uses_tk hl k ((f.getD k (default : GPart)).a.toNat); have q2 := uses_tk hl k ((f.getD k (default : GPart)).b.toNat); have q3 : (if ((f.getD k (default : GPart)).b).toNat = ((f.getD k (default : GPart)).a).toNat then usesP (f.take k) (((f.getD k (default : GPart)).a).toNat) + 1 else usesP (f.take k) (((f.getD k (default : GPart)).b).toNat)) ≤ 2001 := (by split <;> omega); rw [wrap_id (by omega) (by omega)]; omega)) rfl rfl rfl ?_
              refine pu (.indexOwn (i := ((f.getD k (default : GPart)).b).toNat) rfl (.tmp rfl) f46_ (.tmp rfl) (by omega) (by omega)) rfl rfl rfl ?_
              refine ARun.storeElem rfl (.tmp rfl) (.tmp rfl) trivial rfl (show ((f.getD k (default : GPart)).b).toNat < f.length from by omega) rfl f5_ rfl rfl ?_
              refine ARun.nil ?_
              refine AW.seq ?_
              refine AW.region ?_
              refine pu (.loadPtrAgg rfl (.tmp rfl) f28_ rfl rfl (nB rfl) (nB rfl)) rfl rfl rfl ?_
              refine pu (.loadPtrAgg rfl (.tmp rfl) f28_ rfl rfl (nB rfl) (nB rfl)) rfl rfl rfl ?_
              refine pu (.neAgg rfl (.tmp rfl) (.tmp rfl) rfl rfl eqGuardPart (fun w_ => equalPart (f.getD k (default : GPart)) ⟨(f.getD k (default : GPart)).kind, ByteArray.empty, (f.getD k (default : GPart)).a, (f.getD k (default : GPart)).b⟩ _ rfl w_)) rfl rfl rfl ?_
              refine ARun.nil ?_
              refine AW.cond (.tmp rfl) (fun hb80 => ?_) (fun hb80 => ?_)
              ·
               replace hb80 := of_decide_eq_false (of_not hb80)
               refine AW.seq ?_
               refine AW.region ?_
               refine pu (.assign rfl .bool) rfl rfl rfl ?_
               refine ARun.nil ?_
               refine AW.ret (show ResL _ _ [.tmp 2] _ from resB rfl ?_)
               exact (good_no hkl (hpa.trans (by rw [decide_eq_false hb80, Bool.and_false]))).symm
              ·
               replace hb80 := of_decide_eq_true (not_f hb80)
               have hpk : partOk (f.getD k (default : GPart)) k = true := hpa.trans (by rw [hIa, hIb, decide_eq_true hb80]; rfl)
               refine AW.skip ?_
               refine AW.region ?_
               refine pu (.add (c := ((k + 1 : Nat) : Int)) rfl (.tmp rfl) .int (by rw [wrap_id (by omega) (by omega)]; omega)) rfl rfl rfl ?_
               refine pu (.move rfl (.tmp rfl)) rfl rfl rfl ?_
               refine ARun.nil ?_
               exact ⟨k + 1, ⟨by omega, rng_succ (p := fun j => partOk (f.getD j default) j = true) hks hpk⟩, by dsimp only; omega, ⟨⟨⟨_, rfl, rfl⟩, ⟨_, rfl, rfl⟩, ⟨_, rfl, rfl⟩, ⟨_, rfl, rfl⟩, ⟨_, rfl, rfl⟩, trivial⟩, ⟨⟨_, rfl, rfl, Nat.le_refl _, fun i j hi hj => rowU_two hkl h2 hIa2.1 hIb2.1 hj rfl rfl⟩, trivial⟩⟩⟩
            ·
             rw [hb70] at hb78; exact absurd hb78 (by decide)
             --end
          ·
           exact absurd hb70 (of_decide_eq_false hb71)
           --end
         ·
          replace hb70 := of_decide_eq_false hb70
          refine AW.region ?_
          refine pu (.intOp rfl (.tmp rfl) .int rfl) rfl rfl rfl ?_
          refine pu (.assign rfl (.tmp rfl)) rfl rfl rfl ?_
          refine ARun.nil ?_
          refine AW.cond (.tmp rfl) (fun hb81 => ?_) (fun hb81 => ?_)
          ·
           replace hb81 := of_decide_eq_true hb81
           have h2 : isTwo (f.getD k (default : GPart)).kind = true := by rw [hb81]; rfl
           have hpa := partOk_T (i := k) h2
           refine AW.seq ?_
           refine AW.region ?_
           refine pu (.fieldPtr rfl (.tmp rfl) f32_) rfl rfl rfl ?_
           refine pu (.loadPtr rfl (.tmp rfl) f2_ rfl rfl (nB rfl) (nB rfl)) rfl rfl rfl ?_
           refine pu (.fieldPtr rfl (.tmp rfl) f32_) rfl rfl rfl ?_
           refine ARun.store rfl (.tmp rfl) (.tmp rfl) trivial rfl (nB rfl) f5_ rfl rfl ?_
           refine ARun.nil ?_
           refine AW.seq ?_
           refine AW.seq ?_
           refine AW.region ?_
           refine pu (.fieldPtr rfl (.tmp rfl) f32_) rfl rfl rfl ?_
           refine pu (.loadPtr rfl (.tmp rfl) f2_ rfl rfl (nB rfl) (nB rfl)) rfl rfl rfl ?_
           refine pu (.move rfl (.tmp rfl)) rfl rfl rfl ?_
           refine pu (.sub (c := (k : Int) - 1) rfl (.tmp rfl) .int (wrap_id (by omega) (by omega))) rfl rfl rfl ?_
           refine pu (.call rfl (v_within ((f.getD k (default : GPart)).a) 0 ((k : Int) - 1)) ⟨⟨_, (.tmp rfl), .int⟩, ⟨_, .int, .int⟩, ⟨_, (.tmp rfl), .int⟩, trivial⟩ f41_ trivial) rfl rfl rfl ?_
           refine pu (.not rfl (.tmp rfl)) rfl rfl rfl ?_
           refine ARun.nil ?_
           refine AW.cond (.tmp rfl) (fun hb82 => ?_) (fun hb82 => ?_)
           ·
            replace hb82 := of_not hb82
            refine AW.seq ?_
            refine AW.region ?_
            refine pu (.assign rfl .bool) rfl rfl rfl ?_
            refine ARun.nil ?_
            refine AW.ret (show ResL _ _ [.tmp 2] _ from resB rfl ?_)
            exact (good_no hkl (hpa.trans (by rw [hb82]; rfl))).symm
           ·
            replace hb82 := not_f hb82
            have hIa := hb82
            have hIa2 := inB_true hb82
            refine AW.skip ?_
            refine AW.region ?_
            refine pu (.move rfl (.tmp rfl)) rfl rfl rfl ?_
            refine pu (.fieldPtr rfl (.tmp rfl) f32_) rfl rfl rfl ?_
            refine pu (.loadPtr rfl (.tmp rfl) f2_ rfl rfl (nB rfl) (nB rfl)) rfl rfl rfl ?_
            refine pu (.indexOwn (i := ((f.getD k (default : GPart)).a).toNat) rfl (.tmp rfl) f46_ (.tmp rfl) (by omega) (by omega)) rfl rfl rfl ?_
            refine pu (.loadPtr rfl (.tmp rfl) f2_ rfl rfl (show ((f.getD k (default : GPart)).a).toNat < f.length from by omega) (nB rfl)) rfl rfl rfl ?_
            refine pu (.add (c := ((usesP (f.take k) (((f.getD k (default : GPart)).a).toNat) + 1 : Nat) : Int)) rfl (.tmp rfl) .int (by have q1 := uses_tk hl k ((f.getD k (default : GPart)).a.toNat); have q2 := uses_tk hl k ((f.getD k (default : GPart)).b.toNat); rw [wrap_id (by (try split) <;> omega) (by (try split) <;> omega)]; (try split) <;> omega)) rfl rfl rfl ?_
            refine pu (.indexOwn (i := ((f.getD k (default : GPart)).a).toNat) rfl (.tmp rfl) f46_ (.tmp rfl) (by omega) (by omega)) rfl rfl rfl ?_
            refine ARun.storeElem rfl (.tmp rfl) (.tmp rfl) trivial rfl (show ((f.getD k (default : GPart)).a).toNat < f.length from by omega) rfl f5_ rfl rfl ?_
            refine ARun.nil ?_
            refine AW.seq ?_
            refine AW.seq ?_
            refine AW.region ?_
            refine pu (.fieldPtr rfl (.tmp rfl) f47_) rfl rfl rfl ?_
            refine pu (.loadPtr rfl (.tmp rfl) f2_ rfl rfl (nB rfl) (nB rfl)) rfl rfl rfl ?_
            refine pu (.intOp rfl (.tmp rfl) .int rfl) rfl rfl rfl ?_
            refine pu (.move rfl (.tmp rfl)) rfl rfl rfl ?_
            refine ARun.gpure (want := false) (.tf rfl) (fun hg83 => PureOp.fieldPtr rfl (.tmp rfl) f47_) rfl rfl (nB rfl) rfl (nB rfl) ?_
            refine ARun.gpure (want := false) (.tf rfl) (fun hg84 => PureOp.loadPtr rfl (.gtmp rfl hg84) f2_ rfl rfl (nB rfl) (nB rfl)) rfl rfl (nB rfl) rfl (nB rfl) ?_
            refine ARun.gpure (want := false) (.tf rfl) (fun hg85 => PureOp.intOp rfl (.gtmp rfl hg85) .int rfl) rfl rfl (nB rfl) rfl (nB rfl) ?_
            refine pu (.pick rfl (.tmp rfl) (fun _ => .bool) (fun hp87 => .gtmp rfl (not_of hp87))) rfl rfl rfl ?_
            refine ARun.nil ?_
            refine AW.cond (.tmp rfl) (fun hb88 => ?_) (fun hb88 => ?_)
            ·
             clear hb88
             refine AW.seq ?_
             refine AW.region ?_
             refine pu (.fieldPtr rfl (.tmp rfl) f33_) rfl rfl rfl ?_
             refine pu (.loadPtr rfl (.tmp rfl) f2_ rfl rfl (nB rfl) (nB rfl)) rfl rfl rfl ?_
             refine pu (.fieldPtr rfl (.tmp rfl) f33_) rfl rfl rfl ?_
             refine ARun.store rfl (.tmp rfl) (.tmp rfl) trivial rfl (nB rfl) f5_ rfl rfl ?_
             refine ARun.nil ?_
             refine AW.seq ?_
             refine AW.seq ?_
             refine AW.region ?_
             refine pu (.fieldPtr rfl (.tmp rfl) f33_) rfl rfl rfl ?_
             refine pu (.loadPtr rfl (.tmp rfl) f2_ rfl rfl (nB rfl) (nB rfl)) rfl rfl rfl ?_
             refine pu (.move rfl (.tmp rfl)) rfl rfl rfl ?_
             refine pu (.sub (c := (k : Int) - 1) rfl (.tmp rfl) .int (wrap_id (by omega) (by omega))) rfl rfl rfl ?_
             refine pu (.call rfl (v_within ((f.getD k (default : GPart)).b) 0 ((k : Int) - 1)) ⟨⟨_, (.tmp rfl), .int⟩, ⟨_, .int, .int⟩, ⟨_, (.tmp rfl), .int⟩, trivial⟩ f41_ trivial) rfl rfl rfl ?_
             refine pu (.not rfl (.tmp rfl)) rfl rfl rfl ?_
             refine ARun.nil ?_
             refine AW.cond (.tmp rfl) (fun hb89 => ?_) (fun hb89 => ?_)
             ·
              replace hb89 := of_not hb89
              refine AW.seq ?_
              refine AW.region ?_
              refine pu (.assign rfl .bool) rfl rfl rfl ?_
              refine ARun.nil ?_
              refine AW.ret (show ResL _ _ [.tmp 2] _ from resB rfl ?_)
              exact (good_no hkl (hpa.trans (by rw [hIa, hb89]; rfl))).symm
             ·
              replace hb89 := not_f hb89
              have hIb := hb89
              have hIb2 := inB_true hb89
              refine AW.skip ?_
              refine AW.region ?_
              refine pu (.move rfl (.tmp rfl)) rfl rfl rfl ?_
              refine pu (.fieldPtr rfl (.tmp rfl) f33_) rfl rfl rfl ?_
              refine pu (.loadPtr rfl (.tmp rfl) f2_ rfl rfl (nB rfl) (nB rfl)) rfl rfl rfl ?_
              refine pu (.indexOwn (i := ((f.getD k (default : GPart)).b).toNat) rfl (.tmp rfl) f46_ (.tmp rfl) (by omega) (by omega)) rfl rfl rfl ?_
              refine pu (.loadPtrE (y := .int .i64 (((if ((f.getD k (default : GPart)).b).toNat = ((f.getD k (default : GPart)).a).toNat then usesP (f.take k) (((f.getD k (default : GPart)).a).toNat) + 1 else usesP (f.take k) (((f.getD k (default : GPart)).b).toNat)) : Nat) : Int)) rfl (.tmp rfl) f2_ rfl rfl (show ((f.getD k (default : GPart)).b).toNat < f.length from by omega) (nB rfl) (by show (if ((f.getD k (default : GPart)).b).toNat = ((f.getD k (default : GPart)).a).toNat then (AV.int .i64 ((usesP (f.take k) (((f.getD k (default : GPart)).a).toNat) + 1 : Nat) : Int)) else _) = _; split <;> rfl)) rfl rfl rfl ?_
              refine pu (.add (c := (((if ((f.getD k (default : GPart)).b).toNat = ((f.getD k (default : GPart)).a).toNat then usesP (f.take k) (((f.getD k (default : GPart)).a).toNat) + 1 else usesP (f.take k) (((f.getD k (default : GPart)).b).toNat)) + 1 : Nat) : Int)) rfl (.tmp rfl) .int (by have q1 := uses_tk hl k ((f.getD k (default : GPart)).a.toNat); have q2 := uses_tk hl k ((f.getD k (default : GPart)).b.toNat); have q3 : (if ((f.getD k (default : GPart)).b).toNat = ((f.getD k (default : GPart)).a).toNat then usesP (f.take k) (((f.getD k (default : GPart)).a).toNat) + 1 else usesP (f.take k) (((f.getD k (default : GPart)).b).toNat)) ≤ 2001 := (by split <;> omega); rw [wrap_id (by omega) (by omega)]; omega)) rfl rfl rfl ?_
              refine pu (.indexOwn (i := ((f.getD k (default : GPart)).b).toNat) rfl (.tmp rfl) f46_ (.tmp rfl) (by omega) (by omega)) rfl rfl rfl ?_
              refine ARun.storeElem rfl (.tmp rfl) (.tmp rfl) trivial rfl (show ((f.getD k (default : GPart)).b).toNat < f.length from by omega) rfl f5_ rfl rfl ?_
              refine ARun.nil ?_
              refine AW.seq ?_
              refine AW.region ?_
              refine pu (.loadPtrAgg rfl (.tmp rfl) f28_ rfl rfl (nB rfl) (nB rfl)) rfl rfl rfl ?_
              refine pu (.loadPtrAgg rfl (.tmp rfl) f28_ rfl rfl (nB rfl) (nB rfl)) rfl rfl rfl ?_
              refine pu (.neAgg rfl (.tmp rfl) (.tmp rfl) rfl rfl eqGuardPart (fun w_ => equalPart (f.getD k (default : GPart)) ⟨(f.getD k (default : GPart)).kind, ByteArray.empty, (f.getD k (default : GPart)).a, (f.getD k (default : GPart)).b⟩ _ rfl w_)) rfl rfl rfl ?_
              refine ARun.nil ?_
              refine AW.cond (.tmp rfl) (fun hb90 => ?_) (fun hb90 => ?_)
              ·
               replace hb90 := of_decide_eq_false (of_not hb90)
               refine AW.seq ?_
               refine AW.region ?_
               refine pu (.assign rfl .bool) rfl rfl rfl ?_
               refine ARun.nil ?_
               refine AW.ret (show ResL _ _ [.tmp 2] _ from resB rfl ?_)
               exact (good_no hkl (hpa.trans (by rw [decide_eq_false hb90, Bool.and_false]))).symm
              ·
               replace hb90 := of_decide_eq_true (not_f hb90)
               have hpk : partOk (f.getD k (default : GPart)) k = true := hpa.trans (by rw [hIa, hIb, decide_eq_true hb90]; rfl)
               refine AW.skip ?_
               refine AW.region ?_
               refine pu (.add (c := ((k + 1 : Nat) : Int)) rfl (.tmp rfl) .int (by rw [wrap_id (by omega) (by omega)]; omega)) rfl rfl rfl ?_
               refine pu (.move rfl (.tmp rfl)) rfl rfl rfl ?_
               refine ARun.nil ?_
               exact ⟨k + 1, ⟨by omega, rng_succ (p := fun j => partOk (f.getD j default) j = true) hks hpk⟩, by dsimp only; omega, ⟨⟨⟨_, rfl, rfl⟩, ⟨_, rfl, rfl⟩, ⟨_, rfl, rfl⟩, ⟨_, rfl, rfl⟩, ⟨_, rfl, rfl⟩, trivial⟩, ⟨⟨_, rfl, rfl, Nat.le_refl _, fun i j hi hj => rowU_two hkl h2 hIa2.1 hIb2.1 hj rfl rfl⟩, trivial⟩⟩⟩
            ·
             rw [hb81] at hb88; exact absurd hb88 (by decide)
             --end
          ·
           replace hb81 := of_decide_eq_false hb81
           refine AW.seq ?_
           refine AW.region ?_
           refine pu (.assign rfl .bool) rfl rfl rfl ?_
           refine ARun.nil ?_
           refine AW.ret (show ResL _ _ [.tmp 2] _ from resB rfl ?_)
           exact (good_no hkl (partOk_N hb3 hb12 hb21 hb29 hb50 hb60 hb70 hb81)).symm
  ·
   replace hb2 := of_decide_eq_false hb2
   have hke : k = f.length := by omega
   refine AW.exit ?_
   refine AW.seq ?_
   refine AW.region ?_
   refine pu (.move rfl (.tmp rfl)) rfl rfl rfl ?_
   refine pu (.move rfl (.tmp rfl)) rfl rfl rfl ?_
   refine pu (.lenLst rfl (.tmp rfl) f34_) rfl rfl rfl ?_
   refine pu (.sub (c := (f.length : Int) - 1) rfl (.tmp rfl) .int (wrap_id (by omega) (by omega))) rfl rfl rfl ?_
   refine pu (.takeOwn (k := (usesL f).length) rfl (.tmp rfl) (.tmp rfl) (by rw [usesL_len]; omega) (show (usesL f).length ≤ f.length from by rw [usesL_len]; omega) f46_) rfl rfl rfl ?_
   refine pu (.call rfl (v_ContainsFunc_Int (usesL f) 73 0 (fun _ => .con undef) (fun n => !decide (n = 1)) (fun j h => absurd h (by omega)) f43_ (fun k hk => v_ne1 _)) ⟨⟨_, (.tmp rfl), (.own rfl rfl (show (usesL f).length ≤ f.length from by rw [usesL_len]; omega) (fun i j hi hj => match j, hj with | 0, _ => Vw.cast Vw.int (by show AV.int .i64 ((usesP (f.take k) i : Nat) : Int) = _; rw [hke, List.take_length, usesL_at (by have q := hi; rw [usesL_len] at q; exact q)]) | _ + 1, h => absurd h (by omega)))⟩, ⟨_, .func, (.fn (fun j h => absurd h (by omega)))⟩, trivial⟩ f42_ trivial) rfl rfl rfl ?_
   refine pu (.not rfl (.tmp rfl)) rfl rfl rfl ?_
   refine pu (.assign rfl (.tmp rfl)) rfl rfl rfl ?_
   refine ARun.nil ?_
   refine AW.ret (show ResL _ _ [.tmp 2] _ from resB rfl ?_)
   exact good_any hln (fun j hj => hks j (by omega))
end Go.Proofs.Ytonfeiloekofdaa

namespace Go.Proofs.Ytonfeiloekofdaa
open Go.ChangeShapes Go.WideShapes Go.ChangeAt Go.RowKit Go.BigFrame Go.Deep
set_option linter.unusedVariables false
set_option linter.unusedSimpArgs false
theorem f51_ : callB Try.prog 58 = true := by kernel_rfl
theorem f52_ : callB Try.prog 74 = true := by kernel_rfl
theorem f53_ : callB Try.prog 94 = true := by kernel_rfl
def ltBad (s : ByteArray) (k : Nat) : Bool :=
  cond (decide (byteAt s k < 97)) true (decide (122 < byteAt s k))
def lettersB (s : ByteArray) : Bool := (List.range s.size).all (fun j => !ltBad s j)
theorem v_l5Letters (s : ByteArray) : Fn Try.prog 94 [.one (.str s)] (.one (.bool (lettersB s))) := by
 refine Fn.of_body (fn := Try.f94) Try.func94 rfl (nB rfl) trivial ?_
 intro w0
 show AW _ 20 _ _ _ _
 refine AW.boundS (t := 0) rfl fun hx => ?_
 refine AW.seq ?_
 refine AW.region ?_
 refine pu (.assign rfl .bool) rfl rfl rfl ?_
 refine ARun.nil ?_
 refine AW.seq ?_
 refine AW.seq ?_
 refine AW.region ?_
 refine pu (.assign rfl .int) rfl rfl rfl ?_
 refine ARun.nil ?_
 refine AW.block ?_
 refine AW.loop (ι := Nat) (fun k => ⟨[(0, .one (.str s)), (3, .one (.int .i64 (k : Int)))], []⟩) (fun k => k ≤ s.size ∧ ∀ j, j < k → ltBad s j = false) (fun k => s.size - k) 0 ⟨Nat.zero_le _, fun j hj => absurd hj (by omega)⟩ ⟨⟨⟨_, rfl, rfl⟩, ⟨_, rfl, rfl⟩, trivial⟩, trivial⟩ ?_
 intro k hI
 obtain ⟨hk, hks⟩ := hI
 refine AW.seq ?_
 refine AW.seq ?_
 refine AW.region ?_
 refine pu (.move rfl (.tmp rfl)) rfl rfl rfl ?_
 refine pu (.move rfl (.tmp rfl)) rfl rfl rfl ?_
 refine pu (.lenStr rfl (.tmp rfl) f4_) rfl rfl rfl ?_
 refine pu (.intOp rfl (.tmp rfl) (.tmp rfl) rfl) rfl rfl rfl ?_
 refine ARun.nil ?_
 refine AW.cond (.tmp rfl) (fun hb1 => ?_) (fun hb1 => ?_)
 ·
  replace hb1 := of_decide_eq_true hb1
  have hkl : k < s.size := by omega
  refine AW.skip ?_
  refine AW.seq ?_
  refine AW.block ?_
  refine AW.seq ?_
  refine AW.region ?_
  refine pu (.move rfl (.tmp rfl)) rfl rfl rfl ?_
  refine pu (.move rfl (.tmp rfl)) rfl rfl rfl ?_
  refine pu (.indexStrAt (i := k) rfl (.tmp rfl) f4_ (.tmp rfl) rfl (by omega)) rfl rfl rfl ?_
  refine pu (.intOp rfl (.tmp rfl) .int rfl) rfl rfl rfl ?_
  refine pu (.move rfl (.tmp rfl)) rfl rfl rfl ?_
  refine ARun.gpure (want := false) (.tf rfl) (fun hg2 => PureOp.move rfl (.tmp rfl)) rfl rfl (nB rfl) rfl (nB rfl) ?_
  refine ARun.gpure (want := false) (.tf rfl) (fun hg3 => PureOp.move rfl (.tmp rfl)) rfl rfl (nB rfl) rfl (nB rfl) ?_
  refine ARun.gpure (want := false) (.tf rfl) (fun hg4 => PureOp.indexStrAt (i := k) rfl (.gtmp rfl hg4) f4_ (.gtmp rfl hg4) rfl (by have q := hg4; simp only [Bool.cond_true_left, Bool.cond_false_right, Bool.not_eq_true', Bool.or_eq_false_iff, Bool.not_eq_false', Bool.and_eq_true, Bool.not_not, decide_eq_true_eq, decide_eq_false_iff_not, inB] at q; omega)) rfl rfl (nB rfl) rfl (nB rfl) ?_
  refine ARun.gpure (want := false) (.tf rfl) (fun hg5 => PureOp.intOp rfl (.gtmp rfl hg5) .int rfl) rfl rfl (nB rfl) rfl (nB rfl) ?_
  refine pu (.pick rfl (.tmp rfl) (fun _ => .bool) (fun hp7 => .gtmp rfl (not_of hp7))) rfl rfl rfl ?_
  refine ARun.nil ?_
  refine AW.cond (.tmp rfl) (fun hb8 => ?_) (fun hb8 => ?_)
  ·
   have hbd : ltBad s k = true := hb8
   refine AW.seq ?_
   refine AW.region ?_
   refine pu (.assign rfl .bool) rfl rfl rfl ?_
   refine ARun.nil ?_
   refine AW.ret (show ResL _ _ [.tmp 2] _ from resB rfl ?_)
   have hno : (List.range s.size).all (fun j => !ltBad s j) = false := rng_no hkl (by rw [hbd]; rfl)
   unfold lettersB; rw [hno]
  ·
   have hbd : ltBad s k = false := hb8
   refine AW.skip ?_
   refine AW.region ?_
   refine pu (.move rfl (.tmp rfl)) rfl rfl rfl ?_
   refine pu (.add (c := ((k + 1 : Nat) : Int)) rfl (.tmp rfl) .int (by rw [wrap_id (by omega) (by omega)]; omega)) rfl rfl rfl ?_
   refine pu (.assign rfl (.tmp rfl)) rfl rfl rfl ?_
   refine ARun.nil ?_
   exact ⟨k + 1, ⟨by omega, rng_succ (p := fun j => ltBad s j = false) hks hbd⟩, by dsimp only; omega, ⟨⟨⟨_, rfl, rfl⟩, ⟨_, rfl, rfl⟩, trivial⟩, trivial⟩⟩
 ·
  replace hb1 := of_decide_eq_false hb1
  have hkl : ¬ k < s.size := by omega
  have hall : (List.range s.size).all (fun j => !ltBad s j) = true := rng_yes (fun j hj => by rw [hks j (by omega)]; rfl)
  refine AW.exit ?_
  refine AW.seq ?_
  refine AW.region ?_
  refine pu (.assign rfl .bool) rfl rfl rfl ?_
  refine ARun.nil ?_
  refine AW.ret (show ResL _ _ [.tmp 2] _ from resB rfl ?_)
  unfold lettersB; rw [hall]
theorem letters1 {s : ByteArray} : (decide ((s.size : Int) = 1) && lettersB s) = (decide (s.size = 1) && decide (97 ≤ byteAt s 0) && decide (byteAt s 0 ≤ 122)) := by
  rw [show decide ((s.size : Int) = 1) = decide (s.size = 1) from decide_eq_decide.2 (by omega)]
  by_cases h : s.size = 1
  · rw [decide_eq_true h]
    unfold lettersB
    rw [h]
    have u (a b : Int) : decide (a < b) = !decide (b ≤ a) := by rw [← decide_not]; exact decide_eq_decide.2 (by omega)
    show (!ltBad s 0 && true) = _
    unfold ltBad
    rw [u, u]
    cases decide (97 ≤ byteAt s 0) <;> cases decide (byteAt s 0 ≤ 122) <;> rfl
  · rw [decide_eq_false h]; rfl
theorem part_two {p : GPart} {i : Nat} (hk : isTwo p.kind = true) : cond (cond (decide (p.text = ByteArray.empty)) (inB 0 ((i : Int) - 1) p.a) false) (inB 0 ((i : Int) - 1) p.b) false = partOk p i := by
  unfold partOk
  rw [hk, if_pos rfl, inB_lt, inB_lt]
  simp only [Bool.cond_false_right]
theorem part_one {p : GPart} {i : Nat} (h2 : isTwo p.kind = false) (hk : isOne p.kind = true) : cond (cond (decide (p.text = ByteArray.empty)) (inB 0 ((i : Int) - 1) p.a) false) (decide (p.b = 0)) false = partOk p i := by
  unfold partOk
  rw [h2, hk, if_neg (by decide), if_pos rfl, inB_lt]
  simp only [Bool.cond_false_right]
theorem part_let {p : GPart} {i : Nat} (hk : p.kind = 3) : cond (cond (cond (decide ((p.text.size : Int) = 1)) (lettersB p.text) false) (decide (p.a = 0)) false) (decide (p.b = 0)) false = partOk p i := by
  have h2 : isTwo p.kind = false := by rw [hk]; rfl
  have h1 : isOne p.kind = false := by rw [hk]; rfl
  unfold partOk leafOk
  rw [h2, h1, if_neg (by decide), if_neg (by decide), if_pos hk]
  simp only [Bool.cond_false_right]
  rw [letters1]
theorem part_leaf {p : GPart} {i : Nat} (h2 : isTwo p.kind = false) (h1 : isOne p.kind = false) (hk : ¬ p.kind = 3) : cond (cond (cond (inB 1 4 p.kind) (decide (p.text = ByteArray.empty)) false) (decide (p.a = 0)) false) (decide (p.b = 0)) false = partOk p i := by
  unfold partOk leafOk
  rw [h2, h1, if_neg (by decide), if_neg (by decide), if_neg hk]
  simp only [Bool.cond_false_right]
  rw [show inB 1 4 p.kind = (decide (1 ≤ p.kind) && decide (p.kind ≤ 4)) from by unfold inB; rw [Bool.eq_iff_iff, Bool.and_eq_true, decide_eq_true_eq, decide_eq_true_eq, decide_eq_true_eq]]
theorem v_l5Part (p : GPart) (i : Nat) (hi : i ≤ 1000000) : Fn Try.prog 74 [.agg [.int .i64 p.kind, .str p.text, .int .i64 p.a, .int .i64 p.b], .one (.int .i64 (i : Int))] (.one (.bool (partOk p i))) := by
 refine Fn.of_body (fn := Try.f74) Try.func74 rfl (nB rfl) trivial ?_
 intro w0
 show AW _ 86 _ _ _ _
 refine AW.seq ?_
 refine AW.region ?_
 refine ARun.box (id := 0) rfl (.tmp rfl) (SV.cells_of (by exact ⟨trivial, trivial, trivial, trivial, trivial⟩)) ⟨rfl, (by repeat first | exact trivial | refine ⟨by decide, by first | rfl | exact trivial | (intro i j; first | rfl | exact getD_no rfl | (dsimp only; split <;> first | rfl | exact getD_no rfl) | exact scl_no (by apply_assumption) _), ?_⟩)⟩ rfl rfl rfl (nB rfl) ?_
 refine pu (.assign rfl .bool) rfl rfl rfl ?_
 refine ARun.nil ?_
 refine AW.seq ?_
 refine AW.block ?_
 refine AW.seq ?_
 refine AW.region ?_
 refine pu (.fieldPtr rfl (.tmp rfl) f47_) rfl rfl rfl ?_
 refine pu (.loadPtr rfl (.tmp rfl) f2_ rfl rfl (nB rfl) (nB rfl)) rfl rfl rfl ?_
 refine pu (.call rfl (v_l5Two p.kind) ⟨⟨_, (.tmp rfl), .int⟩, trivial⟩ f30_ trivial) rfl rfl rfl ?_
 refine pu (.assign rfl (.tmp rfl)) rfl rfl rfl ?_
 refine ARun.nil ?_
 refine AW.cond (.tmp rfl) (fun hb1 => ?_) (fun hb1 => ?_)
 ·
  have h2 := hb1
  refine AW.seq ?_
  refine AW.region ?_
  refine pu (.fieldPtr rfl (.tmp rfl) f48_) rfl rfl rfl ?_
  refine pu (.loadPtr rfl (.tmp rfl) f3_ rfl rfl (nB rfl) (nB rfl)) rfl rfl rfl ?_
  refine pu (.strOp rfl (.tmp rfl) (.str (by decide)) rfl) rfl rfl rfl ?_
  refine pu (.move rfl (.tmp rfl)) rfl rfl rfl ?_
  refine ARun.gpure (want := true) (.tt rfl) (fun hg2 => PureOp.fieldPtr rfl (.tmp rfl) f32_) rfl rfl (nB rfl) rfl (nB rfl) ?_
  refine ARun.gpure (want := true) (.tt rfl) (fun hg3 => PureOp.loadPtr rfl (.gtmp rfl hg3) f2_ rfl rfl (nB rfl) (nB rfl)) rfl rfl (nB rfl) rfl (nB rfl) ?_
  refine ARun.gpure (want := true) (.tt rfl) (fun hg4 => PureOp.move rfl (.tmp rfl)) rfl rfl (nB rfl) rfl (nB rfl) ?_
  refine ARun.gpure (want := true) (.tt rfl) (fun hg5 => PureOp.sub (c := (i : Int) - 1) rfl (.gtmp rfl hg5) .int (wrap_id (by omega) (by omega))) rfl rfl (nB rfl) rfl (nB rfl) ?_
  refine ARun.gpure (want := true) (.tt rfl) (fun hg6 => PureOp.call rfl (v_l1In p.a 0 ((i : Int) - 1)) ⟨⟨_, (.gtmp rfl hg6), .int⟩, ⟨_, .int, .int⟩, ⟨_, (.gtmp rfl hg6), .int⟩, trivial⟩ f51_ trivial) rfl rfl (nB rfl) rfl (nB rfl) ?_
  refine pu (.pick rfl (.tmp rfl) (fun hp7 => .gtmp rfl hp7) (fun _ => .bool)) rfl rfl rfl ?_
  refine pu (.move rfl (.tmp rfl)) rfl rfl rfl ?_
  refine ARun.gpure (want := true) (.tt rfl) (fun hg9 => PureOp.fieldPtr rfl (.tmp rfl) f33_) rfl rfl (nB rfl) rfl (nB rfl) ?_
  refine ARun.gpure (want := true) (.tt rfl) (fun hg10 => PureOp.loadPtr rfl (.gtmp rfl hg10) f2_ rfl rfl (nB rfl) (nB rfl)) rfl rfl (nB rfl) rfl (nB rfl) ?_
  refine ARun.gpure (want := true) (.tt rfl) (fun hg11 => PureOp.move rfl (.tmp rfl)) rfl rfl (nB rfl) rfl (nB rfl) ?_
  refine ARun.gpure (want := true) (.tt rfl) (fun hg12 => PureOp.sub (c := (i : Int) - 1) rfl (.gtmp rfl hg12) .int (wrap_id (by omega) (by omega))) rfl rfl (nB rfl) rfl (nB rfl) ?_
  refine ARun.gpure (want := true) (.tt rfl) (fun hg13 => PureOp.call rfl (v_l1In p.b 0 ((i : Int) - 1)) ⟨⟨_, (.gtmp rfl hg13), .int⟩, ⟨_, .int, .int⟩, ⟨_, (.gtmp rfl hg13), .int⟩, trivial⟩ f51_ trivial) rfl rfl (nB rfl) rfl (nB rfl) ?_
  refine pu (.pick rfl (.tmp rfl) (fun hp14 => .gtmp rfl hp14) (fun _ => .bool)) rfl rfl rfl ?_
  refine pu (.assign rfl (.tmp rfl)) rfl rfl rfl ?_
  refine ARun.nil ?_
  refine AW.ret (show ResL _ _ [.tmp 4] _ from resB rfl ?_)
  exact part_two h2
 ·
  have h2 := hb1
  refine AW.seq ?_
  refine AW.region ?_
  refine pu (.fieldPtr rfl (.tmp rfl) f47_) rfl rfl rfl ?_
  refine pu (.loadPtr rfl (.tmp rfl) f2_ rfl rfl (nB rfl) (nB rfl)) rfl rfl rfl ?_
  refine pu (.call rfl (v_l5One p.kind) ⟨⟨_, (.tmp rfl), .int⟩, trivial⟩ f31_ trivial) rfl rfl rfl ?_
  refine pu (.assign rfl (.tmp rfl)) rfl rfl rfl ?_
  refine ARun.nil ?_
  refine AW.cond (.tmp rfl) (fun hb16 => ?_) (fun hb16 => ?_)
  ·
   have h1 := hb16
   refine AW.seq ?_
   refine AW.region ?_
   refine pu (.fieldPtr rfl (.tmp rfl) f48_) rfl rfl rfl ?_
   refine pu (.loadPtr rfl (.tmp rfl) f3_ rfl rfl (nB rfl) (nB rfl)) rfl rfl rfl ?_
   refine pu (.strOp rfl (.tmp rfl) (.str (by decide)) rfl) rfl rfl rfl ?_
   refine pu (.move rfl (.tmp rfl)) rfl rfl rfl ?_
   refine ARun.gpure (want := true) (.tt rfl) (fun hg17 => PureOp.fieldPtr rfl (.tmp rfl) f32_) rfl rfl (nB rfl) rfl (nB rfl) ?_
   refine ARun.gpure (want := true) (.tt rfl) (fun hg18 => PureOp.loadPtr rfl (.gtmp rfl hg18) f2_ rfl rfl (nB rfl) (nB rfl)) rfl rfl (nB rfl) rfl (nB rfl) ?_
   refine ARun.gpure (want := true) (.tt rfl) (fun hg19 => PureOp.move rfl (.tmp rfl)) rfl rfl (nB rfl) rfl (nB rfl) ?_
   refine ARun.gpure (want := true) (.tt rfl) (fun hg20 => PureOp.sub (c := (i : Int) - 1) rfl (.gtmp rfl hg20) .int (wrap_id (by omega) (by omega))) rfl rfl (nB rfl) rfl (nB rfl) ?_
   refine ARun.gpure (want := true) (.tt rfl) (fun hg21 => PureOp.call rfl (v_l1In p.a 0 ((i : Int) - 1)) ⟨⟨_, (.gtmp rfl hg21), .int⟩, ⟨_, .int, .int⟩, ⟨_, (.gtmp rfl hg21), .int⟩, trivial⟩ f51_ trivial) rfl rfl (nB rfl) rfl (nB rfl) ?_
   refine pu (.pick rfl (.tmp rfl) (fun hp22 => .gtmp rfl hp22) (fun _ => .bool)) rfl rfl rfl ?_
   refine pu (.move rfl (.tmp rfl)) rfl rfl rfl ?_
   refine ARun.gpure (want := true) (.tt rfl) (fun hg24 => PureOp.fieldPtr rfl (.tmp rfl) f33_) rfl rfl (nB rfl) rfl (nB rfl) ?_
   refine ARun.gpure (want := true) (.tt rfl) (fun hg25 => PureOp.loadPtr rfl (.gtmp rfl hg25) f2_ rfl rfl (nB rfl) (nB rfl)) rfl rfl (nB rfl) rfl (nB rfl) ?_
   refine ARun.gpure (want := true) (.tt rfl) (fun hg26 => PureOp.intOp rfl (.gtmp rfl hg26) .int rfl) rfl rfl (nB rfl) rfl (nB rfl) ?_
   refine pu (.pick rfl (.tmp rfl) (fun hp27 => .gtmp rfl hp27) (fun _ => .bool)) rfl rfl rfl ?_
   refine pu (.assign rfl (.tmp rfl)) rfl rfl rfl ?_
   refine ARun.nil ?_
   refine AW.ret (show ResL _ _ [.tmp 4] _ from resB rfl ?_)
   exact part_one h2 h1
  ·
   have h1 := hb16
   refine AW.seq ?_
   refine AW.region ?_
   refine pu (.fieldPtr rfl (.tmp rfl) f47_) rfl rfl rfl ?_
   refine pu (.loadPtr rfl (.tmp rfl) f2_ rfl rfl (nB rfl) (nB rfl)) rfl rfl rfl ?_
   refine pu (.intOp rfl (.tmp rfl) .int rfl) rfl rfl rfl ?_
   refine pu (.assign rfl (.tmp rfl)) rfl rfl rfl ?_
   refine ARun.nil ?_
   refine AW.cond (.tmp rfl) (fun hb29 => ?_) (fun hb29 => ?_)
   ·
    replace hb29 := of_decide_eq_true hb29
    have h3 := hb29
    refine AW.seq ?_
    refine AW.region ?_
    refine pu (.fieldPtr rfl (.tmp rfl) f48_) rfl rfl rfl ?_
    refine pu (.loadPtr rfl (.tmp rfl) f3_ rfl rfl (nB rfl) (nB rfl)) rfl rfl rfl ?_
    refine pu (.lenStr rfl (.tmp rfl) f4_) rfl rfl rfl ?_
    refine pu (.intOp rfl (.tmp rfl) .int rfl) rfl rfl rfl ?_
    refine pu (.move rfl (.tmp rfl)) rfl rfl rfl ?_
    refine ARun.gpure (want := true) (.tt rfl) (fun hg30 => PureOp.fieldPtr rfl (.tmp rfl) f48_) rfl rfl (nB rfl) rfl (nB rfl) ?_
    refine ARun.gpure (want := true) (.tt rfl) (fun hg31 => PureOp.loadPtr rfl (.gtmp rfl hg31) f3_ rfl rfl (nB rfl) (nB rfl)) rfl rfl (nB rfl) rfl (nB rfl) ?_
    refine ARun.gpure (want := true) (.tt rfl) (fun hg32 => PureOp.call rfl (v_l5Letters p.text) ⟨⟨_, (.gtmp rfl hg32), .str⟩, trivial⟩ f53_ trivial) rfl rfl (nB rfl) rfl (nB rfl) ?_
    refine pu (.pick rfl (.tmp rfl) (fun hp33 => .gtmp rfl hp33) (fun _ => .bool)) rfl rfl rfl ?_
    refine pu (.move rfl (.tmp rfl)) rfl rfl rfl ?_
    refine ARun.gpure (want := true) (.tt rfl) (fun hg35 => PureOp.fieldPtr rfl (.tmp rfl) f32_) rfl rfl (nB rfl) rfl (nB rfl) ?_
    refine ARun.gpure (want := true) (.tt rfl) (fun hg36 => PureOp.loadPtr rfl (.gtmp rfl hg36) f2_ rfl rfl (nB rfl) (nB rfl)) rfl rfl (nB rfl) rfl (nB rfl) ?_
    refine ARun.gpure (want := true) (.tt rfl) (fun hg37 => PureOp.intOp rfl (.gtmp rfl hg37) .int rfl) rfl rfl (nB rfl) rfl (nB rfl) ?_
    refine pu (.pick rfl (.tmp rfl) (fun hp38 => .gtmp rfl hp38) (fun _ => .bool)) rfl rfl rfl ?_
    refine pu (.move rfl (.tmp rfl)) rfl rfl rfl ?_
    refine ARun.gpure (want := true) (.tt rfl) (fun hg40 => PureOp.fieldPtr rfl (.tmp rfl) f33_) rfl rfl (nB rfl) rfl (nB rfl) ?_
    refine ARun.gpure (want := true) (.tt rfl) (fun hg41 => PureOp.loadPtr rfl (.gtmp rfl hg41) f2_ rfl rfl (nB rfl) (nB rfl)) rfl rfl (nB rfl) rfl (nB rfl) ?_
    refine ARun.gpure (want := true) (.tt rfl) (fun hg42 => PureOp.intOp rfl (.gtmp rfl hg42) .int rfl) rfl rfl (nB rfl) rfl (nB rfl) ?_
    refine pu (.pick rfl (.tmp rfl) (fun hp43 => .gtmp rfl hp43) (fun _ => .bool)) rfl rfl rfl ?_
    refine pu (.assign rfl (.tmp rfl)) rfl rfl rfl ?_
    refine ARun.nil ?_
    refine AW.ret (show ResL _ _ [.tmp 4] _ from resB rfl ?_)
    exact part_let h3
   ·
    replace hb29 := of_decide_eq_false hb29
    have h3 := hb29
    refine AW.skip ?_
    refine AW.seq ?_
    refine AW.region ?_
    refine pu (.fieldPtr rfl (.tmp rfl) f47_) rfl rfl rfl ?_
    refine pu (.loadPtr rfl (.tmp rfl) f2_ rfl rfl (nB rfl) (nB rfl)) rfl rfl rfl ?_
    refine pu (.call rfl (v_l1In p.kind 1 4) ⟨⟨_, (.tmp rfl), .int⟩, ⟨_, .int, .int⟩, ⟨_, .int, .int⟩, trivial⟩ f51_ trivial) rfl rfl rfl ?_
    refine pu (.move rfl (.tmp rfl)) rfl rfl rfl ?_
    refine ARun.gpure (want := true) (.tt rfl) (fun hg45 => PureOp.fieldPtr rfl (.tmp rfl) f48_) rfl rfl (nB rfl) rfl (nB rfl) ?_
    refine ARun.gpure (want := true) (.tt rfl) (fun hg46 => PureOp.loadPtr rfl (.gtmp rfl hg46) f3_ rfl rfl (nB rfl) (nB rfl)) rfl rfl (nB rfl) rfl (nB rfl) ?_
    refine ARun.gpure (want := true) (.tt rfl) (fun hg47 => PureOp.strOp rfl (.gtmp rfl hg47) (.str (by decide)) rfl) rfl rfl (nB rfl) rfl (nB rfl) ?_
    refine pu (.pick rfl (.tmp rfl) (fun hp48 => .gtmp rfl hp48) (fun _ => .bool)) rfl rfl rfl ?_
    refine pu (.move rfl (.tmp rfl)) rfl rfl rfl ?_
    refine ARun.gpure (want := true) (.tt rfl) (fun hg50 => PureOp.fieldPtr rfl (.tmp rfl) f32_) rfl rfl (nB rfl) rfl (nB rfl) ?_
    refine ARun.gpure (want := true) (.tt rfl) (fun hg51 => PureOp.loadPtr rfl (.gtmp rfl hg51) f2_ rfl rfl (nB rfl) (nB rfl)) rfl rfl (nB rfl) rfl (nB rfl) ?_
    refine ARun.gpure (want := true) (.tt rfl) (fun hg52 => PureOp.intOp rfl (.gtmp rfl hg52) .int rfl) rfl rfl (nB rfl) rfl (nB rfl) ?_
    refine pu (.pick rfl (.tmp rfl) (fun hp53 => .gtmp rfl hp53) (fun _ => .bool)) rfl rfl rfl ?_
    refine pu (.move rfl (.tmp rfl)) rfl rfl rfl ?_
    refine ARun.gpure (want := true) (.tt rfl) (fun hg55 => PureOp.fieldPtr rfl (.tmp rfl) f33_) rfl rfl (nB rfl) rfl (nB rfl) ?_
    refine ARun.gpure (want := true) (.tt rfl) (fun hg56 => PureOp.loadPtr rfl (.gtmp rfl hg56) f2_ rfl rfl (nB rfl) (nB rfl)) rfl rfl (nB rfl) rfl (nB rfl) ?_
    refine ARun.gpure (want := true) (.tt rfl) (fun hg57 => PureOp.intOp rfl (.gtmp rfl hg57) .int rfl) rfl rfl (nB rfl) rfl (nB rfl) ?_
    refine pu (.pick rfl (.tmp rfl) (fun hp58 => .gtmp rfl hp58) (fun _ => .bool)) rfl rfl rfl ?_
    refine pu (.assign rfl (.tmp rfl)) rfl rfl rfl ?_
    refine ARun.nil ?_
    refine AW.ret (show ResL _ _ [.tmp 4] _ from resB rfl ?_)
    exact part_leaf h2 h1 h3
theorem once_of {f : List GPart} {k m : Nat} (h : cond (decide ((m : Int) < ((f.length : Nat) : Int) - 1)) (!decide (((usesP (f.take k) m : Nat) : Int) = 1)) false = false) (hke : k = f.length) : m + 1 < f.length → usesP f m = 1 := by
  intro hm
  subst hke
  rw [decide_eq_true (show (m : Int) < ((f.length : Nat) : Int) - 1 by omega), List.take_length] at h
  have h := of_decide_eq_true (show decide (((usesP f m : Nat) : Int) = 1) = true by simpa using h)
  omega
theorem once_no {f : List GPart} {k m : Nat} (h : cond (decide ((m : Int) < ((f.length : Nat) : Int) - 1)) (!decide (((usesP (f.take k) m : Nat) : Int) = 1)) false = true) (hke : k = f.length) : goodP f = false := by
  subst hke
  rw [List.take_length] at h
  by_cases hm : (m : Int) < ((f.length : Nat) : Int) - 1
  · rw [decide_eq_true hm] at h
    have h := of_decide_eq_false (show decide (((usesP f m : Nat) : Int) = 1) = false by simpa using h)
    exact good_once (i := m) (by omega) (by omega)
  · rw [decide_eq_false hm] at h; cases h
set_option maxHeartbeats 4000000 in
theorem v_sGoodForm (f : List GPart) (hl : f.length ≤ 1000) : Fn Try.prog 46 [.one (.lst 4 f.length (fun i0 j0 => ([.int .i64 ((f.getD i0 (default : GPart)).kind), .str ((f.getD i0 (default : GPart)).text), .int .i64 ((f.getD i0 (default : GPart)).a), .int .i64 ((f.getD i0 (default : GPart)).b)] : List AV).getD j0 (.con undef)))] (.one (.bool (goodP f))) := by
 refine Fn.of_body (fn := Try.f46) Try.func46 rfl (nB rfl) trivial ?_
 intro w0
 show AW _ 68 _ _ _ _
 refine AW.seq ?_
 refine AW.region ?_
 refine pu (.assign rfl .bool) rfl rfl rfl ?_
 refine ARun.nil ?_
 refine AW.seq ?_
 refine AW.region ?_
 refine pu (.move rfl (.tmp rfl)) rfl rfl rfl ?_
 refine pu (.lenLst rfl (.tmp rfl) f34_) rfl rfl rfl ?_
 refine ARun.make (id := 0) (n := f.length) (l := [.int .i64 0]) (z := (.int .i64 0)) (by_ := 8) rfl (by kernel_rfl) (fun _ _ _ => ⟨_, _, rfl, rfl, rfl⟩) (.tmp rfl) (.tmp rfl) rfl rfl (by omega) (by omega) (by decide) ⟨rfl, (by repeat first | exact trivial | refine ⟨by decide, by first | rfl | exact trivial | (intro i j; first | rfl | exact getD_no rfl | (dsimp only; split <;> first | rfl | exact getD_no rfl) | exact scl_no (by apply_assumption) _), ?_⟩)⟩ rfl rfl rfl (nB rfl) ?_
 refine pu (.assign rfl (.tmp rfl)) rfl rfl rfl ?_
 refine ARun.nil ?_
 refine AW.seq ?_
 refine AW.seq ?_
 refine AW.region ?_
 refine pu (.move rfl (.tmp rfl)) rfl rfl rfl ?_
 refine pu (.lenLst rfl (.tmp rfl) f34_) rfl rfl rfl ?_
 refine pu (.move rfl .int) rfl rfl rfl ?_
 refine ARun.nil ?_
 refine AW.block ?_
 refine AW.loop (ι := Nat) (fun k => ⟨[(0, .one (.lst 4 f.length (fun i0 j0 => ([.int .i64 ((f.getD i0 (default : GPart)).kind), .str ((f.getD i0 (default : GPart)).text), .int .i64 ((f.getD i0 (default : GPart)).a), .int .i64 ((f.getD i0 (default : GPart)).b)] : List AV).getD j0 (.con undef)))), (3, .one (.own 0 1 f.length)), (11, .one (.lst 4 f.length (fun i0 j0 => ([.int .i64 ((f.getD i0 (default : GPart)).kind), .str ((f.getD i0 (default : GPart)).text), .int .i64 ((f.getD i0 (default : GPart)).a), .int .i64 ((f.getD i0 (default : GPart)).b)] : List AV).getD j0 (.con undef)))), (12, .one (.int .i64 (f.length : Int))), (13, .one (.int .i64 (k : Int)))], [(0, .arr 1 f.length (rowU f k))]⟩) (fun k => k ≤ f.length ∧ ∀ j, j < k → partOk (f.getD j default) j = true) (fun k => f.length - k) 0 ⟨Nat.zero_le _, fun j hj => absurd hj (by omega)⟩ ⟨⟨⟨_, rfl, rfl⟩, ⟨_, rfl, rfl⟩, ⟨_, rfl, rfl⟩, ⟨_, rfl, rfl⟩, ⟨_, rfl, rfl⟩, trivial⟩, ⟨⟨_, rfl, rfl, Nat.le_refl _, fun i j hi hj => rowU_0 hj⟩, trivial⟩⟩ ?_
 intro k hI
 obtain ⟨hk, hks⟩ := hI
 refine AW.seq ?_
 refine AW.region ?_
 refine pu (.intOp rfl (.tmp rfl) (.tmp rfl) rfl) rfl rfl rfl ?_
 refine ARun.nil ?_
 refine AW.seq ?_
 refine AW.cond (.tmp rfl) (fun hb1 => ?_) (fun hb1 => ?_)
 ·
  replace hb1 := of_decide_eq_true hb1
  have hkl : k < f.length := by omega
  refine AW.skip ?_
  refine AW.seq ?_
  refine AW.block ?_
  refine AW.seq ?_
  refine AW.region ?_
  refine pu (.move rfl (.tmp rfl)) rfl rfl rfl ?_
  refine pu (.indexLst (i := k) rfl (.tmp rfl) f45_ (.tmp rfl) rfl (by omega)) rfl rfl rfl ?_
  refine pu (.loadRefAgg rfl (.tmp rfl) f28_ (nB rfl)) rfl rfl rfl ?_
  refine ARun.alloc (id := 1) (l := [.int .i64 0, .str ByteArray.empty, .int .i64 0, .int .i64 0]) (z := (.agg #[.int .i64 0, .string ByteArray.empty, .int .i64 0, .int .i64 0])) rfl (by kernel_rfl) (fun _ _ _ => ⟨_, _, rfl, rfl, ⟨_, _, rfl, ⟨rfl, by decide⟩, ⟨_, _, rfl, rfl, ⟨_, _, rfl, rfl, rfl⟩⟩⟩⟩) ⟨rfl, (by repeat first | exact trivial | refine ⟨by decide, by first | rfl | exact trivial | (intro i j; first | rfl | exact getD_no rfl | (dsimp only; split <;> first | rfl | exact getD_no rfl) | exact scl_no (by apply_assumption) _), ?_⟩)⟩ rfl rfl rfl (nB rfl) ?_
  refine pu (.assign rfl (.tmp rfl)) rfl rfl rfl ?_
  refine ARun.store rfl (.tmp rfl) (.tmp rfl) (SV.cells_of (by exact ⟨trivial, trivial, trivial, trivial, trivial⟩)) rfl (nB rfl) f35_ rfl rfl ?_
  refine ARun.nil ?_
  refine AW.seq ?_
  refine AW.seq ?_
  refine AW.region ?_
  refine pu (.loadPtrAgg rfl (.tmp rfl) f28_ rfl rfl (nB rfl) (nB rfl)) rfl rfl rfl ?_
  refine pu (.move rfl (.tmp rfl)) rfl rfl rfl ?_
  refine pu (.call rfl (v_l5Part (f.getD k (default : GPart)) k (by omega)) ⟨⟨_, (.tmp rfl), ⟨.int, .str, .int, .int, trivial⟩⟩, ⟨_, (.tmp rfl), .int⟩, trivial⟩ f52_ trivial) rfl rfl rfl ?_
  refine pu (.not rfl (.tmp rfl)) rfl rfl rfl ?_
  refine ARun.nil ?_
  refine AW.cond (.tmp rfl) (fun hb2 => ?_) (fun hb2 => ?_)
  ·
   replace hb2 := of_not hb2
   have hpk : partOk (f.getD k (default : GPart)) k = false := hb2
   refine AW.seq ?_
   refine AW.region ?_
   refine pu (.assign rfl .bool) rfl rfl rfl ?_
   refine ARun.nil ?_
   refine AW.ret (show ResL _ _ [.tmp 2] _ from resB rfl ?_)
   exact (good_no hkl hpk).symm
  ·
   replace hb2 := not_f hb2
   have hpk : partOk (f.getD k (default : GPart)) k = true := hb2
   refine AW.skip ?_
   refine AW.seq ?_
   refine AW.seq ?_
   refine AW.region ?_
   refine pu (.fieldPtr rfl (.tmp rfl) f47_) rfl rfl rfl ?_
   refine pu (.loadPtr rfl (.tmp rfl) f2_ rfl rfl (nB rfl) (nB rfl)) rfl rfl rfl ?_
   refine pu (.call rfl (v_l5Two ((f.getD k (default : GPart)).kind)) ⟨⟨_, (.tmp rfl), .int⟩, trivial⟩ f30_ trivial) rfl rfl rfl ?_
   refine ARun.nil ?_
   refine AW.cond (.tmp rfl) (fun hb3 => ?_) (fun hb3 => ?_)
   ·
    have h2 := hb3
    obtain ⟨pt, pa1, pa2, pb1, pb2⟩ := partOk_two hpk h2
    refine AW.region ?_
    refine pu (.move rfl (.tmp rfl)) rfl rfl rfl ?_
    refine pu (.fieldPtr rfl (.tmp rfl) f33_) rfl rfl rfl ?_
    refine pu (.loadPtr rfl (.tmp rfl) f2_ rfl rfl (nB rfl) (nB rfl)) rfl rfl rfl ?_
    refine pu (.indexOwn (i := ((f.getD k (default : GPart)).b).toNat) rfl (.tmp rfl) f46_ (.tmp rfl) (by omega) (by omega)) rfl rfl rfl ?_
    refine pu (.loadPtr rfl (.tmp rfl) f2_ rfl rfl (show ((f.getD k (default : GPart)).b).toNat < f.length from by omega) (nB rfl)) rfl rfl rfl ?_
    refine pu (.add (c := ((usesP (f.take k) (((f.getD k (default : GPart)).b).toNat) + 1 : Nat) : Int)) rfl (.tmp rfl) .int (by have q1 := uses_tk hl k ((f.getD k (default : GPart)).a.toNat); have q2 := uses_tk hl k ((f.getD k (default : GPart)).b.toNat); rw [wrap_id (by (try split) <;> omega) (by (try split) <;> omega)]; (try split) <;> omega)) rfl rfl rfl ?_
    refine pu (.indexOwn (i := ((f.getD k (default : GPart)).b).toNat) rfl (.tmp rfl) f46_ (.tmp rfl) (by omega) (by omega)) rfl rfl rfl ?_
    refine ARun.storeElem rfl (.tmp rfl) (.tmp rfl) trivial rfl (show ((f.getD k (default : GPart)).b).toNat < f.length from by omega) rfl f5_ rfl rfl ?_
    refine ARun.nil ?_
    refine AW.seq ?_
    refine AW.region ?_
    refine pu (.fieldPtr rfl (.tmp rfl) f47_) rfl rfl rfl ?_
    refine pu (.loadPtr rfl (.tmp rfl) f2_ rfl rfl (nB rfl) (nB rfl)) rfl rfl rfl ?_
    refine pu (.call rfl (v_l5Two ((f.getD k (default : GPart)).kind)) ⟨⟨_, (.tmp rfl), .int⟩, trivial⟩ f30_ trivial) rfl rfl rfl ?_
    refine pu (.move rfl (.tmp rfl)) rfl rfl rfl ?_
    refine ARun.gpure (want := false) (.tf rfl) (fun hg4 => PureOp.fieldPtr rfl (.tmp rfl) f47_) rfl rfl (nB rfl) rfl (nB rfl) ?_
    refine ARun.gpure (want := false) (.tf rfl) (fun hg5 => PureOp.loadPtr rfl (.gtmp rfl hg5) f2_ rfl rfl (nB rfl) (nB rfl)) rfl rfl (nB rfl) rfl (nB rfl) ?_
    refine ARun.gpure (want := false) (.tf rfl) (fun hg6 => PureOp.call rfl (v_l5One ((f.getD k (default : GPart)).kind)) ⟨⟨_, (.gtmp rfl hg6), .int⟩, trivial⟩ f31_ trivial) rfl rfl (nB rfl) rfl (nB rfl) ?_
    refine pu (.pick rfl (.tmp rfl) (fun _ => .bool) (fun hp8 => .gtmp rfl (not_of hp8))) rfl rfl rfl ?_
    refine ARun.nil ?_
    refine AW.cond (.tmp rfl) (fun hb9 => ?_) (fun hb9 => ?_)
    ·
     have h12 := cond_two hb9
     refine AW.region ?_
     refine pu (.move rfl (.tmp rfl)) rfl rfl rfl ?_
     refine pu (.fieldPtr rfl (.tmp rfl) f32_) rfl rfl rfl ?_
     refine pu (.loadPtr rfl (.tmp rfl) f2_ rfl rfl (nB rfl) (nB rfl)) rfl rfl rfl ?_
     refine pu (.indexOwn (i := ((f.getD k (default : GPart)).a).toNat) rfl (.tmp rfl) f46_ (.tmp rfl) (by omega) (by omega)) rfl rfl rfl ?_
     refine pu (.loadPtrE (y := .int .i64 (((if ((f.getD k (default : GPart)).a).toNat = ((f.getD k (default : GPart)).b).toNat then usesP (f.take k) (((f.getD k (default : GPart)).b).toNat) + 1 else usesP (f.take k) (((f.getD k (default : GPart)).a).toNat)) : Nat) : Int)) rfl (.tmp rfl) f2_ rfl rfl (show ((f.getD k (default : GPart)).a).toNat < f.length from by omega) (nB rfl) (by show (if ((f.getD k (default : GPart)).a).toNat = ((f.getD k (default : GPart)).b).toNat then (AV.int .i64 ((usesP (f.take k) (((f.getD k (default : GPart)).b).toNat) + 1 : Nat) : Int)) else _) = _; split <;> rfl)) rfl rfl rfl ?_
     refine pu (.add (c := (((if ((f.getD k (default : GPart)).a).toNat = ((f.getD k (default : GPart)).b).toNat then usesP (f.take k) (((f.getD k (default : GPart)).b).toNat) + 1 else usesP (f.take k) (((f.getD k (default : GPart)).a).toNat)) + 1 : Nat) : Int)) rfl (.tmp rfl) .int (by have q1 := uses_tk hl k ((f.getD k (default : GPart)).a.toNat); have q2 := uses_tk hl k ((f.getD k (default : GPart)).b.toNat); have q3 : (if ((f.getD k (default : GPart)).a).toNat = ((f.getD k (default : GPart)).b).toNat then usesP (f.take k) (((f.getD k (default : GPart)).b).toNat) + 1 else usesP (f.take k) (((f.getD k (default : GPart)).a).toNat)) ≤ 2001 := (by split <;> omega); rw [wrap_id (by omega) (by omega)]; omega)) rfl rfl rfl ?_
     refine pu (.indexOwn (i := ((f.getD k (default : GPart)).a).toNat) rfl (.tmp rfl) f46_ (.tmp rfl) (by omega) (by omega)) rfl rfl rfl ?_
     refine ARun.storeElem rfl (.tmp rfl) (.tmp rfl) trivial rfl (show ((f.getD k (default : GPart)).a).toNat < f.length from by omega) rfl f5_ rfl rfl ?_
     refine ARun.nil ?_
     refine AW.region ?_
     refine pu (.add (c := ((k + 1 : Nat) : Int)) rfl (.tmp rfl) .int (by rw [wrap_id (by omega) (by omega)]; omega)) rfl rfl rfl ?_
     refine pu (.move rfl (.tmp rfl)) rfl rfl rfl ?_
     refine ARun.nil ?_
     exact ⟨k + 1, ⟨by omega, rng_succ (p := fun j => partOk (f.getD j default) j = true) hks hpk⟩, by dsimp only; omega, ⟨⟨⟨_, rfl, rfl⟩, ⟨_, rfl, rfl⟩, ⟨_, rfl, rfl⟩, ⟨_, rfl, rfl⟩, ⟨_, rfl, rfl⟩, trivial⟩, ⟨⟨_, rfl, rfl, Nat.le_refl _, fun i j hi hj => rowU_two' hkl h2 pa1 pb1 hj rfl rfl⟩, trivial⟩⟩⟩
    ·
     rw [h2] at hb9; cases hb9
     --end
   ·
    have h2 := hb3
    refine AW.skip ?_
    refine AW.seq ?_
    refine AW.region ?_
    refine pu (.fieldPtr rfl (.tmp rfl) f47_) rfl rfl rfl ?_
    refine pu (.loadPtr rfl (.tmp rfl) f2_ rfl rfl (nB rfl) (nB rfl)) rfl rfl rfl ?_
    refine pu (.call rfl (v_l5Two ((f.getD k (default : GPart)).kind)) ⟨⟨_, (.tmp rfl), .int⟩, trivial⟩ f30_ trivial) rfl rfl rfl ?_
    refine pu (.move rfl (.tmp rfl)) rfl rfl rfl ?_
    refine ARun.gpure (want := false) (.tf rfl) (fun hg10 => PureOp.fieldPtr rfl (.tmp rfl) f47_) rfl rfl (nB rfl) rfl (nB rfl) ?_
    refine ARun.gpure (want := false) (.tf rfl) (fun hg11 => PureOp.loadPtr rfl (.gtmp rfl hg11) f2_ rfl rfl (nB rfl) (nB rfl)) rfl rfl (nB rfl) rfl (nB rfl) ?_
    refine ARun.gpure (want := false) (.tf rfl) (fun hg12 => PureOp.call rfl (v_l5One ((f.getD k (default : GPart)).kind)) ⟨⟨_, (.gtmp rfl hg12), .int⟩, trivial⟩ f31_ trivial) rfl rfl (nB rfl) rfl (nB rfl) ?_
    refine pu (.pick rfl (.tmp rfl) (fun _ => .bool) (fun hp14 => .gtmp rfl (not_of hp14))) rfl rfl rfl ?_
    refine ARun.nil ?_
    refine AW.cond (.tmp rfl) (fun hb15 => ?_) (fun hb15 => ?_)
    ·
     have h12 := cond_two hb15
     have h1 : isOne (f.getD k (default : GPart)).kind = true := by rw [h2] at h12; exact h12
     obtain ⟨pt, pa1, pa2, pb1⟩ := partOk_one hpk h1
     refine AW.region ?_
     refine pu (.move rfl (.tmp rfl)) rfl rfl rfl ?_
     refine pu (.fieldPtr rfl (.tmp rfl) f32_) rfl rfl rfl ?_
     refine pu (.loadPtr rfl (.tmp rfl) f2_ rfl rfl (nB rfl) (nB rfl)) rfl rfl rfl ?_
     refine pu (.indexOwn (i := ((f.getD k (default : GPart)).a).toNat) rfl (.tmp rfl) f46_ (.tmp rfl) (by omega) (by omega)) rfl rfl rfl ?_
     refine pu (.loadPtr rfl (.tmp rfl) f2_ rfl rfl (show ((f.getD k (default : GPart)).a).toNat < f.length from by omega) (nB rfl)) rfl rfl rfl ?_
     refine pu (.add (c := ((usesP (f.take k) (((f.getD k (default : GPart)).a).toNat) + 1 : Nat) : Int)) rfl (.tmp rfl) .int (by have q1 := uses_tk hl k ((f.getD k (default : GPart)).a.toNat); have q2 := uses_tk hl k ((f.getD k (default : GPart)).b.toNat); rw [wrap_id (by (try split) <;> omega) (by (try split) <;> omega)]; (try split) <;> omega)) rfl rfl rfl ?_
     refine pu (.indexOwn (i := ((f.getD k (default : GPart)).a).toNat) rfl (.tmp rfl) f46_ (.tmp rfl) (by omega) (by omega)) rfl rfl rfl ?_
     refine ARun.storeElem rfl (.tmp rfl) (.tmp rfl) trivial rfl (show ((f.getD k (default : GPart)).a).toNat < f.length from by omega) rfl f5_ rfl rfl ?_
     refine ARun.nil ?_
     refine AW.region ?_
     refine pu (.add (c := ((k + 1 : Nat) : Int)) rfl (.tmp rfl) .int (by rw [wrap_id (by omega) (by omega)]; omega)) rfl rfl rfl ?_
     refine pu (.move rfl (.tmp rfl)) rfl rfl rfl ?_
     refine ARun.nil ?_
     exact ⟨k + 1, ⟨by omega, rng_succ (p := fun j => partOk (f.getD j default) j = true) hks hpk⟩, by dsimp only; omega, ⟨⟨⟨_, rfl, rfl⟩, ⟨_, rfl, rfl⟩, ⟨_, rfl, rfl⟩, ⟨_, rfl, rfl⟩, ⟨_, rfl, rfl⟩, trivial⟩, ⟨⟨_, rfl, rfl, Nat.le_refl _, fun i j hi hj => rowU_one hkl h1 pa1 hj⟩, trivial⟩⟩⟩
    ·
     have h12 := cond_two hb15
     have h1 : isOne (f.getD k (default : GPart)).kind = false := by rw [h2] at h12; exact h12
     refine AW.skip ?_
     refine AW.region ?_
     refine pu (.add (c := ((k + 1 : Nat) : Int)) rfl (.tmp rfl) .int (by rw [wrap_id (by omega) (by omega)]; omega)) rfl rfl rfl ?_
     refine pu (.move rfl (.tmp rfl)) rfl rfl rfl ?_
     refine ARun.nil ?_
     exact ⟨k + 1, ⟨by omega, rng_succ (p := fun j => partOk (f.getD j default) j = true) hks hpk⟩, by dsimp only; omega, ⟨⟨⟨_, rfl, rfl⟩, ⟨_, rfl, rfl⟩, ⟨_, rfl, rfl⟩, ⟨_, rfl, rfl⟩, ⟨_, rfl, rfl⟩, trivial⟩, ⟨⟨_, rfl, rfl, Nat.le_refl _, fun i j hi hj => rowU_leaf (i := i) (j := j) hkl h2 h1⟩, trivial⟩⟩⟩
 ·
  replace hb1 := of_decide_eq_false hb1
  have hke : k = f.length := by omega
  refine AW.exit ?_
  refine AW.seq ?_
  refine AW.seq ?_
  refine AW.region ?_
  refine pu (.move rfl (.tmp rfl)) rfl rfl rfl ?_
  refine pu (.lenOwn rfl (.tmp rfl) f49_) rfl rfl rfl ?_
  refine pu (.move rfl .int) rfl rfl rfl ?_
  refine ARun.nil ?_
  refine AW.block ?_
  refine AW.loop (ι := Nat) (fun m => ⟨[(0, .one (.lst 4 f.length (fun i0 j0 => ([.int .i64 ((f.getD i0 (default : GPart)).kind), .str ((f.getD i0 (default : GPart)).text), .int .i64 ((f.getD i0 (default : GPart)).a), .int .i64 ((f.getD i0 (default : GPart)).b)] : List AV).getD j0 (.con undef)))), (48, .one (.own 0 1 f.length)), (49, .one (.int .i64 (f.length : Int))), (50, .one (.int .i64 (m : Int)))], [(0, .arr 1 f.length (rowU f k))]⟩) (fun m => m ≤ f.length ∧ ∀ i, i < m → i + 1 < f.length → usesP f i = 1) (fun m => f.length - m) 0 ⟨Nat.zero_le _, fun j hj => absurd hj (by omega)⟩ ⟨⟨⟨_, rfl, rfl⟩, ⟨_, rfl, rfl⟩, ⟨_, rfl, rfl⟩, ⟨_, rfl, rfl⟩, trivial⟩, HeapLe.one rfl trivial⟩ ?_
  intro m hI2
  obtain ⟨hm, hms⟩ := hI2
  refine AW.seq ?_
  refine AW.region ?_
  refine pu (.intOp rfl (.tmp rfl) (.tmp rfl) rfl) rfl rfl rfl ?_
  refine ARun.nil ?_
  refine AW.seq ?_
  refine AW.cond (.tmp rfl) (fun hb16 => ?_) (fun hb16 => ?_)
  ·
   replace hb16 := of_decide_eq_true hb16
   have hml : m < f.length := by omega
   refine AW.skip ?_
   refine AW.seq ?_
   refine AW.block ?_
   refine AW.seq ?_
   refine AW.region ?_
   refine pu (.move rfl (.tmp rfl)) rfl rfl rfl ?_
   refine pu (.indexOwn (i := m) rfl (.tmp rfl) f46_ (.tmp rfl) rfl (by omega)) rfl rfl rfl ?_
   refine pu (.loadPtr rfl (.tmp rfl) f2_ rfl rfl (show m < f.length from by omega) (nB rfl)) rfl rfl rfl ?_
   refine pu (.assign rfl (.tmp rfl)) rfl rfl rfl ?_
   refine pu (.assign rfl (.tmp rfl)) rfl rfl rfl ?_
   refine ARun.nil ?_
   refine AW.seq ?_
   refine AW.region ?_
   refine pu (.move rfl (.tmp rfl)) rfl rfl rfl ?_
   refine pu (.move rfl (.tmp rfl)) rfl rfl rfl ?_
   refine pu (.lenLst rfl (.tmp rfl) f34_) rfl rfl rfl ?_
   refine pu (.sub (c := (f.length : Int) - 1) rfl (.tmp rfl) .int (wrap_id (by omega) (by omega))) rfl rfl rfl ?_
   refine pu (.intOp rfl (.tmp rfl) (.tmp rfl) rfl) rfl rfl rfl ?_
   refine pu (.move rfl (.tmp rfl)) rfl rfl rfl ?_
   refine ARun.gpure (want := true) (.tt rfl) (fun hg17 => PureOp.move rfl (.tmp rfl)) rfl rfl (nB rfl) rfl (nB rfl) ?_
   refine ARun.gpure (want := true) (.tt rfl) (fun hg18 => PureOp.intOp rfl (.gtmp rfl hg18) .int rfl) rfl rfl (nB rfl) rfl (nB rfl) ?_
   refine pu (.pick rfl (.tmp rfl) (fun hp19 => .gtmp rfl hp19) (fun _ => .bool)) rfl rfl rfl ?_
   refine ARun.nil ?_
   refine AW.cond (.tmp rfl) (fun hb21 => ?_) (fun hb21 => ?_)
   ·
    have hmm := once_no (k := k) (f := f) (m := m) hb21
    refine AW.seq ?_
    refine AW.region ?_
    refine pu (.assign rfl .bool) rfl rfl rfl ?_
    refine ARun.nil ?_
    refine AW.ret (show ResL _ _ [.tmp 2] _ from resB rfl ?_)
    exact (hmm hke).symm
   ·
    have hmm := once_of (k := k) (f := f) (m := m) hb21
    refine AW.skip ?_
    refine AW.region ?_
    refine pu (.add (c := ((m + 1 : Nat) : Int)) rfl (.tmp rfl) .int (by rw [wrap_id (by omega) (by omega)]; omega)) rfl rfl rfl ?_
    refine pu (.move rfl (.tmp rfl)) rfl rfl rfl ?_
    refine ARun.nil ?_
    exact ⟨m + 1, ⟨by omega, rng_succ (p := fun i => i + 1 < f.length → usesP f i = 1) hms (hmm hke)⟩, by dsimp only; omega, ⟨⟨⟨_, rfl, rfl⟩, ⟨_, rfl, rfl⟩, ⟨_, rfl, rfl⟩, ⟨_, rfl, rfl⟩, trivial⟩, HeapLe.one rfl trivial⟩⟩
  ·
   replace hb16 := of_decide_eq_false hb16
   have hme : m = f.length := by omega
   refine AW.exit ?_
   refine AW.seq ?_
   refine AW.region ?_
   refine pu (.move rfl (.tmp rfl)) rfl rfl rfl ?_
   refine pu (.lenLst rfl (.tmp rfl) f34_) rfl rfl rfl ?_
   refine pu (.call rfl (v_l1In (f.length : Int) 1 24) ⟨⟨_, (.tmp rfl), .int⟩, ⟨_, .int, .int⟩, ⟨_, .int, .int⟩, trivial⟩ f51_ trivial) rfl rfl rfl ?_
   refine pu (.assign rfl (.tmp rfl)) rfl rfl rfl ?_
   refine ARun.nil ?_
   refine AW.ret (show ResL _ _ [.tmp 2] _ from resB rfl ?_)
   exact good_all (fun j hj => hks j (by omega)) (fun i hi => hms i (by omega))
end Go.Proofs.Ytonfeiloekofdaa
