/-
  Part 5 of the proof: the texts of a seat's own library, joined.
-/
import Derived.Test.YtonfeiloekofdaaGreatDoorM3
import Derived.Test.YtonfeiloekofdaaGreatDoorM4
namespace Go.Proofs.YtonfeiloekofdaaGreatDoor
open Go.ChangeShapes Go.WideShapes Go.ChangeAt Go.RowKit Go.BigFrame Go.Deep
set_option linter.unusedVariables false
set_option linter.unusedSimpArgs false
theorem f67_ : callB Tryz.prog 35 = true := by kernel_rfl
theorem f68_ : callB Tryz.prog 43 = true := by kernel_rfl
theorem f69_ : callB Tryz.prog 54 = true := by kernel_rfl
theorem f70_ : callB Tryz.prog 55 = true := by kernel_rfl
theorem f71_ : sizeB Tryz.prog 9 1 = true := by kernel_rfl
def syC (l : List GSay) (i j : Nat) : AV := ([.str (l.getD i (default : GSay)).name, .int .i64 (l.getD i (default : GSay)).at_, .int .i64 (l.getD i (default : GSay)).value] : List AV).getD j (.con undef)
abbrev sysD (l : List GSay) : AV := .lst 3 l.length (syC l)
theorem sy_ren {g : Nat → Nat} {L : List GSay} {i j : Nat} (hj : j < 3) : AV.ren g (syC L i j) = syC L i j := by
  match j, hj with
  | 0, _ => rfl
  | 1, _ => rfl
  | 2, _ => rfl
  | _ + 3, h => exact absurd h (by omega)
theorem sy_app {L : List GSay} {s : ByteArray} {a b : Int} {i j : Nat} (hi : i < L.length + 1) : (if i < L.length then syC L i j else (fun _ jc => ([.str s, .int .i64 a, .int .i64 b] : List AV).getD jc (.con undef)) (i - L.length) j) = syC (L ++ [⟨s, a, b⟩]) i j := by
  unfold syC
  by_cases h : i < L.length
  · rw [if_pos h, getD_app, if_pos h]
  · obtain rfl : i = L.length := by omega
    rw [if_neg h, getD_app, if_neg h, Nat.sub_self]; rfl
theorem fw_sy {H : Heap} {id m : Nat} {o : AObj} {L : List GSay} (hid : (id == 1000000) = false) (ho : H.lookup id = some o) (hsz : o.sz = 3) (hn : L.length ≤ o.n) (hm : m = L.length) (hf : ∀ i j, i < L.length → j < 3 → o.f i j = syC L i j) : Fw H (.own id 3 m) (sysD L) := by
  subst hm
  refine .own hid ho hsz hn fun i j hi hj => ?_
  rw [hf i j hi hj]
  match j, hj with
  | 0, _ => exact .str
  | 1, _ => exact .int
  | 2, _ => exact .int
  | _ + 3, h => exact absurd h (by omega)
structure SyS where
  l : List GSay
  p : Nat
  s : Nat
  e : Nat
theorem v_Say (n : Nat) (F : Nat → Nat) (hF : ∀ i, F i < 256) (p s : Nat) (hp : p ≤ 1700000000) (hs : s < 18446744073709551616) : FnC Tryz.prog 43 n F [] p s (fun (x : GSay) p' s' => CurOk p 20 p' s') (fun (x : GSay) => .agg [.str x.name, .int .i64 x.at_, .int .i64 x.value]) := by
 refine FnC.of_body (fn := Tryz.f43) Tryz.func43 rfl (nB rfl) ?_
 intro w0 c
 show AW _ 24 _ _ _ _
 refine AW.seq ?_
 refine AW.region ?_
 refine ARun.alloc (id := 0) (l := [.str ByteArray.empty, .int .i64 0, .int .i64 0]) (z := (.agg #[.string ByteArray.empty, .int .i64 0, .int .i64 0])) rfl (by kernel_rfl) (fun _ _ _ => ⟨_, _, rfl, ⟨rfl, by decide⟩, ⟨_, _, rfl, rfl, ⟨_, _, rfl, rfl, rfl⟩⟩⟩) ⟨rfl, (by repeat first | exact trivial | refine ⟨by decide, by first | rfl | exact trivial | (intro i j; first | rfl | exact getD_no rfl | (dsimp only; split <;> first | rfl | exact getD_no rfl) | exact scl_no (by apply_assumption) _), ?_⟩)⟩ rfl rfl rfl (nB rfl) ?_
 refine ARun.nil ?_
 refine AW.seq ?_
 refine AW.seq ?_
 refine AW.region ?_
 refine pu (.move rfl (.tmp rfl)) rfl rfl rfl ?_
 refine ARun.cur (id := 1000000) rfl (v_One n F hF p s (by omega) (by omega) 40 (by omega)) f67_ ⟨.inr (.tmp rfl), .inl ⟨_, .int, .int⟩, trivial⟩ rfl rfl rfl (nB rfl) (fun x1 p2 sd3 hc4 => ?_)
 have hc4c := hc4
 obtain ⟨hc41, hc42, hc43⟩ := hc4c
 refine ARun.nil ?_
 refine AW.cond (.tmp rfl) (fun hb5 => ?_) (fun hb5 => ?_)
 ·
  refine AW.seq ?_
  refine AW.region ?_
  refine pu (.move rfl (.tmp rfl)) rfl rfl rfl ?_
  refine ARun.fresh (FreshOp.strs4 (a1 := ByteArray.empty) (a2 := (⟨#[65]⟩ : ByteArray)) (a3 := (⟨#[116, 111, 111, 108, 111, 110, 103, 110, 97, 109, 101]⟩ : ByteArray)) (a4 := (⟨#[120]⟩ : ByteArray)) rfl (.str (by decide)) (.str (by decide)) (.str (by decide)) (.str (by decide)) Tryz.underlying66 (by kernel_rfl)) rfl rfl (nB rfl) ?_
  refine ARun.cur (id := 1000000) rfl (v_Of n F hF p2 sd3 (by omega) (by omega) ([ByteArray.empty, (⟨#[65]⟩ : ByteArray), (⟨#[116, 111, 111, 108, 111, 110, 103, 110, 97, 109, 101]⟩ : ByteArray), (⟨#[120]⟩ : ByteArray)] : List ByteArray) ⟨by decide, by decide⟩) f69_ ⟨.inr (.tmp rfl), .inl ⟨_, (.tmp rfl), .frs⟩, trivial⟩ rfl rfl rfl (nB rfl) (fun x6 p7 sd8 hc9 => ?_)
  obtain ⟨hc9x, hc9c⟩ := hc9
  obtain ⟨hc91, hc92, hc93⟩ := hc9c
  refine pu (.move rfl (.tmp rfl)) rfl rfl rfl ?_
  refine ARun.fresh (FreshOp.trip (a1 := (-1)) (a2 := 1000000000) (a3 := 1000000001) rfl .int .int .int Tryz.underlying81 (by kernel_rfl)) rfl rfl (nB rfl) ?_
  refine ARun.cur (id := 1000000) rfl (v_Among n F hF p7 sd8 (by omega) (by omega) ([(-1), 1000000000, 1000000001] : List Int) ⟨by decide, by decide⟩) f70_ ⟨.inr (.tmp rfl), .inl ⟨_, (.tmp rfl), .frs⟩, trivial⟩ rfl rfl rfl (nB rfl) (fun x10 p11 sd12 hc13 => ?_)
  obtain ⟨hc13x, hc13c⟩ := hc13
  obtain ⟨hc131, hc132, hc133⟩ := hc13c
  refine pu (.move rfl (.tmp rfl)) rfl rfl rfl ?_
  refine ARun.fresh (FreshOp.pairL (a1 := (-1000000000)) (a2 := 1000000001) rfl .int .int Tryz.underlying81 (by kernel_rfl)) rfl rfl (nB rfl) ?_
  refine ARun.cur (id := 1000000) rfl (v_Among n F hF p11 sd12 (by omega) (by omega) ([(-1000000000), 1000000001] : List Int) ⟨by decide, by decide⟩) f70_ ⟨.inr (.tmp rfl), .inl ⟨_, (.tmp rfl), .frs⟩, trivial⟩ rfl rfl rfl (nB rfl) (fun x14 p15 sd16 hc17 => ?_)
  obtain ⟨hc17x, hc17c⟩ := hc17
  obtain ⟨hc171, hc172, hc173⟩ := hc17c
  refine pu (.build (ys := [.str x6, .int .i64 x10, .int .i64 x14]) (l := [.str ByteArray.empty, .int .i64 0, .int .i64 0]) (pl := [(0, 1), (1, 1), (2, 1)]) (z := (.agg #[.string ByteArray.empty, .int .i64 0, .int .i64 0])) rfl (by kernel_rfl) (by kernel_rfl) (fun _ _ _ => ⟨_, _, rfl, ⟨rfl, by decide⟩, ⟨_, _, rfl, rfl, ⟨_, _, rfl, rfl, rfl⟩⟩⟩) ⟨(.tmp rfl), trivial, rfl, ⟨(.tmp rfl), trivial, rfl, ⟨(.tmp rfl), trivial, rfl, trivial⟩⟩⟩ rfl) rfl rfl rfl ?_
  refine ARun.store rfl (.tmp rfl) (.tmp rfl) (SV.cells_of (by exact ⟨trivial, trivial, trivial, trivial⟩)) rfl (nB rfl) f62_ rfl rfl ?_
  refine ARun.nil ?_
  exact AW.ret (show ∃ x p' s' t, _ ∧ ResL _ _ [.cell 2 34] t ∧ _ ∧ _ from ⟨⟨x6, x10, x14⟩, p15, sd16, _, ⟨by omega, by omega, by omega⟩, .inl ⟨_, rfl, .cells rfl f58_ rfl rfl (nB rfl) (nB rfl)⟩, ⟨.str, .int, .int, trivial⟩, rfl⟩)
 ·
  refine AW.skip ?_
  refine AW.seq ?_
  refine AW.region ?_
  refine pu (.move rfl (.tmp rfl)) rfl rfl rfl ?_
  refine ARun.fresh (FreshOp.strs4 (a1 := (⟨#[99, 112, 117]⟩ : ByteArray)) (a2 := (⟨#[109, 101, 109]⟩ : ByteArray)) (a3 := (⟨#[100, 105, 115, 107]⟩ : ByteArray)) (a4 := (⟨#[110, 101, 116]⟩ : ByteArray)) rfl (.str (by decide)) (.str (by decide)) (.str (by decide)) (.str (by decide)) Tryz.underlying66 (by kernel_rfl)) rfl rfl (nB rfl) ?_
  refine ARun.cur (id := 1000000) rfl (v_Of n F hF p2 sd3 (by omega) (by omega) ([(⟨#[99, 112, 117]⟩ : ByteArray), (⟨#[109, 101, 109]⟩ : ByteArray), (⟨#[100, 105, 115, 107]⟩ : ByteArray), (⟨#[110, 101, 116]⟩ : ByteArray)] : List ByteArray) ⟨by decide, by decide⟩) f69_ ⟨.inr (.tmp rfl), .inl ⟨_, (.tmp rfl), .frs⟩, trivial⟩ rfl rfl rfl (nB rfl) (fun x18 p19 sd20 hc21 => ?_)
  obtain ⟨hc21x, hc21c⟩ := hc21
  obtain ⟨hc211, hc212, hc213⟩ := hc21c
  refine pu (.move rfl (.tmp rfl)) rfl rfl rfl ?_
  refine ARun.cur (id := 1000000) rfl (v_Pick n F hF p19 sd20 (by omega) (by omega) 60 (by omega)) f0_ ⟨.inr (.tmp rfl), .inl ⟨_, .int, .int⟩, trivial⟩ rfl rfl rfl (nB rfl) (fun x22 p23 sd24 hc25 => ?_)
  obtain ⟨hc25x, hc25c⟩ := hc25
  obtain ⟨hc251, hc252, hc253⟩ := hc25c
  refine pu (.move rfl (.tmp rfl)) rfl rfl rfl ?_
  refine ARun.cur (id := 1000000) rfl (v_Pick n F hF p23 sd24 (by omega) (by omega) 100 (by omega)) f0_ ⟨.inr (.tmp rfl), .inl ⟨_, .int, .int⟩, trivial⟩ rfl rfl rfl (nB rfl) (fun x26 p27 sd28 hc29 => ?_)
  obtain ⟨hc29x, hc29c⟩ := hc29
  obtain ⟨hc291, hc292, hc293⟩ := hc29c
  refine pu (.sub (c := (x26 : Int) - 20) rfl (.tmp rfl) .int (wrap_id (by have hx_ := hc29x; omega) (by have hx_ := hc29x; omega))) rfl rfl rfl ?_
  refine pu (.build (ys := [.str x18, .int .i64 (x22 : Int), .int .i64 ((x26 : Int) - 20)]) (l := [.str ByteArray.empty, .int .i64 0, .int .i64 0]) (pl := [(0, 1), (1, 1), (2, 1)]) (z := (.agg #[.string ByteArray.empty, .int .i64 0, .int .i64 0])) rfl (by kernel_rfl) (by kernel_rfl) (fun _ _ _ => ⟨_, _, rfl, ⟨rfl, by decide⟩, ⟨_, _, rfl, rfl, ⟨_, _, rfl, rfl, rfl⟩⟩⟩) ⟨(.tmp rfl), trivial, rfl, ⟨(.tmp rfl), trivial, rfl, ⟨(.tmp rfl), trivial, rfl, trivial⟩⟩⟩ rfl) rfl rfl rfl ?_
  refine ARun.store rfl (.tmp rfl) (.tmp rfl) (SV.cells_of (by exact ⟨trivial, trivial, trivial, trivial⟩)) rfl (nB rfl) f62_ rfl rfl ?_
  refine ARun.nil ?_
  exact AW.ret (show ∃ x p' s' t, _ ∧ ResL _ _ [.cell 2 34] t ∧ _ ∧ _ from ⟨⟨x18, (x22 : Int), (x26 : Int) - 20⟩, p27, sd28, _, ⟨by omega, by omega, by omega⟩, .inl ⟨_, rfl, .cells rfl f58_ rfl rfl (nB rfl) (nB rfl)⟩, ⟨.str, .int, .int, trivial⟩, rfl⟩)
theorem v_Says (n : Nat) (F : Nat → Nat) (hF : ∀ i, F i < 256) (p s : Nat) (hp : p ≤ 1600000000) (hs : s < 18446744073709551616) : FnC Tryz.prog 68 n F [] p s (fun (x : List GSay) p' s' => x.length ≤ 61 ∧ CurOk p 2000 p' s') (fun (x : List GSay) => .one (sysD x)) := by
 refine FnC.of_body (fn := Tryz.f68) Tryz.func68 rfl (nB rfl) ?_
 intro w0 c
 show AW _ 43 _ _ _ _
 refine AW.seq ?_
 refine AW.region ?_
 refine pu (.assign rfl .con) rfl rfl rfl ?_
 refine ARun.nil ?_
 refine AW.seq ?_
 refine AW.region ?_
 refine pu (.assign rfl .con) rfl rfl rfl ?_
 refine ARun.nil ?_
 refine AW.seq ?_
 refine AW.region ?_
 refine pu (.move rfl (.tmp rfl)) rfl rfl rfl ?_
 refine ARun.cur (id := 1000000) rfl (v_Pick n F hF p s (by omega) (by omega) 14 (by omega)) f0_ ⟨.inr (.tmp rfl), .inl ⟨_, .int, .int⟩, trivial⟩ rfl rfl rfl (nB rfl) (fun x1 p2 sd3 hc4 => ?_)
 obtain ⟨hc4x, hc4c⟩ := hc4
 obtain ⟨hc41, hc42, hc43⟩ := hc4c
 refine pu (.assign rfl (.tmp rfl)) rfl rfl rfl ?_
 refine ARun.nil ?_
 refine AW.seq ?_
 refine AW.seq ?_
 refine AW.region ?_
 refine pu (.move rfl (.tmp rfl)) rfl rfl rfl ?_
 refine ARun.cur (id := 1000000) rfl (v_One n F hF p2 sd3 (by omega) (by omega) 20 (by omega)) f67_ ⟨.inr (.tmp rfl), .inl ⟨_, .int, .int⟩, trivial⟩ rfl rfl rfl (nB rfl) (fun x5 p6 sd7 hc8 => ?_)
 have hc8c := hc8
 obtain ⟨hc81, hc82, hc83⟩ := hc8c
 refine ARun.nil ?_
 refine AW.cond (.tmp rfl) (fun hb9 => ?_) (fun hb9 => ?_)
 ·
  refine AW.region ?_
  refine pu (.move rfl (.tmp rfl)) rfl rfl rfl ?_
  refine ARun.cur (id := 1000000) rfl (v_Pick n F hF p6 sd7 (by omega) (by omega) 3 (by omega)) f0_ ⟨.inr (.tmp rfl), .inl ⟨_, .int, .int⟩, trivial⟩ rfl rfl rfl (nB rfl) (fun x10 p11 sd12 hc13 => ?_)
  obtain ⟨hc13x, hc13c⟩ := hc13
  obtain ⟨hc131, hc132, hc133⟩ := hc13c
  refine pu (.add (c := ((59 + x10 : Nat) : Int)) rfl .int (.tmp rfl) (by rw [wrap_id (by omega) (by omega)]; omega)) rfl rfl rfl ?_
  refine pu (.assign rfl (.tmp rfl)) rfl rfl rfl ?_
  refine ARun.nil ?_
  refine AW.seq ?_
  refine AW.region ?_
  refine pu (.assign rfl .int) rfl rfl rfl ?_
  refine ARun.nil ?_
  refine AW.seq ?_
  refine AW.block ?_
  have hT : (59 + x10) ≤ 61 := by omega
  refine AW.nilSlot 3 900 3 (syC []) rfl ⟨rfl, (by repeat first | exact trivial | refine ⟨by decide, by first | rfl | exact trivial | (intro i j; first | rfl | exact getD_no rfl | (dsimp only; split <;> first | rfl | exact getD_no rfl) | exact scl_no (by apply_assumption) _), ?_⟩)⟩ ?_
  -- objects are renamed
  refine AW.loopR (ι := SyS) (fun v => ⟨[(0, .one (.ptr 1000000 3 0 0)), (3, .one (.own 900 3 v.l.length)), (4, .one (.int .i64 ((((59 + x10) - v.l.length) : Nat) : Int))), (5, .one (.int .i64 (v.e : Int)))], [(900, .arr 3 v.l.length (syC v.l)), (1000000, .cells [.cv c (.lst 1 n (fun i _ => .int .u8 ((F i : Nat) : Int))), .int .i64 (v.p : Int), .int .u64 ((v.s : Nat) : Int)])]⟩) (fun v => v.l.length ≤ (59 + x10) ∧ v.p ≤ p11 + 28 * v.l.length ∧ v.s < 18446744073709551616 ∧ p11 ≤ v.p ∧ v.e ≤ 4 * v.l.length) (fun v => (59 + x10) - v.l.length) ⟨[], p11, sd12, 0⟩ ⟨Nat.zero_le _, by show p11 ≤ p11 + 28 * 0; omega, by show sd12 < 18446744073709551616; omega, Nat.le_refl _, Nat.zero_le _⟩ ⟨⟨⟨_, rfl, rfl⟩, ⟨_, rfl, rfl⟩, ⟨_, rfl, rfl⟩, ⟨_, rfl, rfl⟩, trivial⟩, ⟨⟨_, rfl, rfl, Nat.le_refl _, fun _ _ _ _ => rfl⟩, ⟨_, rfl, rfl, Nat.le_refl _, fun _ _ _ _ => rfl⟩, trivial⟩⟩ ?_
  intro v hv
  obtain ⟨hv1, hv2, hv3, hv4, hv5⟩ := hv
  refine AW.seq ?_
  refine AW.seq ?_
  refine AW.region ?_
  refine pu (.move rfl (.tmp rfl)) rfl rfl rfl ?_
  refine pu (.intOp rfl (.tmp rfl) .int rfl) rfl rfl rfl ?_
  refine ARun.nil ?_
  refine AW.cond (.tmp rfl) (fun hb14 => ?_) (fun hb14 => ?_)
  ·
   replace hb14 := of_decide_eq_true hb14
   have hkl : v.l.length < (59 + x10) := by omega
   refine AW.skip ?_
   refine AW.seq ?_
   refine AW.block ?_
   refine AW.seq ?_
   refine AW.region ?_
   refine pu (.move rfl (.tmp rfl)) rfl rfl rfl ?_
   refine ARun.cur (id := 1000000) rfl (v_Say n F hF v.p v.s (by omega) (by omega)) f68_ ⟨.inr (.tmp rfl), trivial⟩ rfl rfl rfl (nB rfl) (fun x15 p16 sd17 hc18 => ?_)
   have hc18c := hc18
   obtain ⟨hc181, hc182, hc183⟩ := hc18c
   refine ARun.alloc (id := 0) (l := [.str ByteArray.empty, .int .i64 0, .int .i64 0]) (z := (.agg #[.string ByteArray.empty, .int .i64 0, .int .i64 0])) rfl (by kernel_rfl) (fun _ _ _ => ⟨_, _, rfl, ⟨rfl, by decide⟩, ⟨_, _, rfl, rfl, ⟨_, _, rfl, rfl, rfl⟩⟩⟩) ⟨rfl, (by repeat first | exact trivial | refine ⟨by decide, by first | rfl | exact trivial | (intro i j; first | rfl | exact getD_no rfl | (dsimp only; split <;> first | rfl | exact getD_no rfl) | exact scl_no (by apply_assumption) _), ?_⟩)⟩ rfl rfl rfl (nB rfl) ?_
   refine ARun.store rfl (.tmp rfl) (.tmp rfl) (SV.cells_of (by exact ⟨trivial, trivial, trivial, trivial⟩)) rfl (nB rfl) f62_ rfl rfl ?_
   refine ARun.nil ?_
   refine AW.seq ?_
   refine AW.seq ?_
   refine AW.region ?_
   refine pu (.move rfl (.tmp rfl)) rfl rfl rfl ?_
   refine ARun.cur (id := 1000000) rfl (v_One n F hF p16 sd17 (by omega) (by omega) 4 (by omega)) f67_ ⟨.inr (.tmp rfl), .inl ⟨_, .int, .int⟩, trivial⟩ rfl rfl rfl (nB rfl) (fun x19 p20 sd21 hc22 => ?_)
   have hc22c := hc22
   obtain ⟨hc221, hc222, hc223⟩ := hc22c
   refine pu (.not rfl (.tmp rfl)) rfl rfl rfl ?_
   refine ARun.nil ?_
   refine AW.cond (.tmp rfl) (fun hb23 => ?_) (fun hb23 => ?_)
   ·
    replace hb23 := of_not hb23
    refine AW.seq ?_
    refine AW.region ?_
    refine pu (.move rfl (.tmp rfl)) rfl rfl rfl ?_
    refine pu (.move rfl (.tmp rfl)) rfl rfl rfl ?_
    refine ARun.cur (id := 1000000) rfl (v_Pick n F hF p20 sd21 (by omega) (by omega) 4 (by omega)) f0_ ⟨.inr (.tmp rfl), .inl ⟨_, .int, .int⟩, trivial⟩ rfl rfl rfl (nB rfl) (fun x24 p25 sd26 hc27 => ?_)
    obtain ⟨hc27x, hc27c⟩ := hc27
    obtain ⟨hc271, hc272, hc273⟩ := hc27c
    refine pu (.add (c := ((v.e + x24 : Nat) : Int)) rfl (.tmp rfl) (.tmp rfl) (by rw [wrap_id (by omega) (by omega)]; omega)) rfl rfl rfl ?_
    refine pu (.assign rfl (.tmp rfl)) rfl rfl rfl ?_
    refine ARun.nil ?_
    refine AW.seq ?_
    refine AW.region ?_
    refine pu (.fieldPtr rfl (.tmp rfl) f46_) rfl rfl rfl ?_
    refine pu (.loadPtr rfl (.tmp rfl) f9_ rfl rfl (nB rfl) (nB rfl)) rfl rfl rfl ?_
    refine pu (.call rfl (v_l1In x15.at_ 0 60) ⟨⟨_, (.tmp rfl), .int⟩, ⟨_, .int, .int⟩, ⟨_, .int, .int⟩, trivial⟩ f18_ trivial) rfl rfl rfl ?_
    refine ARun.nil ?_
    refine AW.cond (.tmp rfl) (fun hb28 => ?_) (fun hb28 => ?_)
    ·
     refine AW.region ?_
     refine pu (.move rfl (.tmp rfl)) rfl rfl rfl ?_
     refine pu (.fieldPtr rfl (.tmp rfl) f46_) rfl rfl rfl ?_
     refine ARun.store rfl (.tmp rfl) (.tmp rfl) trivial rfl (nB rfl) f16_ rfl rfl ?_
     refine ARun.nil ?_
     refine AW.seq ?_
     refine AW.seq ?_
     refine AW.region ?_
     refine pu (.move rfl (.tmp rfl)) rfl rfl rfl ?_
     refine ARun.cur (id := 1000000) rfl (v_One n F hF p25 sd26 (by omega) (by omega) 12 (by omega)) f67_ ⟨.inr (.tmp rfl), .inl ⟨_, .int, .int⟩, trivial⟩ rfl rfl rfl (nB rfl) (fun x29 p30 sd31 hc32 => ?_)
     have hc32c := hc32
     obtain ⟨hc321, hc322, hc323⟩ := hc32c
     refine ARun.nil ?_
     refine AW.cond (.tmp rfl) (fun hb33 => ?_) (fun hb33 => ?_)
     ·
      refine AW.region ?_
      refine pu (.move rfl (.tmp rfl)) rfl rfl rfl ?_
      refine ARun.fresh (FreshOp.strs6 (a1 := (⟨#[97]⟩ : ByteArray)) (a2 := (⟨#[98]⟩ : ByteArray)) (a3 := (⟨#[99]⟩ : ByteArray)) (a4 := (⟨#[100]⟩ : ByteArray)) (a5 := (⟨#[101]⟩ : ByteArray)) (a6 := (⟨#[102]⟩ : ByteArray)) rfl (.str (by decide)) (.str (by decide)) (.str (by decide)) (.str (by decide)) (.str (by decide)) (.str (by decide)) Tryz.underlying66 (by kernel_rfl)) rfl rfl (nB rfl) ?_
      refine ARun.cur (id := 1000000) rfl (v_Of n F hF p30 sd31 (by omega) (by omega) ([(⟨#[97]⟩ : ByteArray), (⟨#[98]⟩ : ByteArray), (⟨#[99]⟩ : ByteArray), (⟨#[100]⟩ : ByteArray), (⟨#[101]⟩ : ByteArray), (⟨#[102]⟩ : ByteArray)] : List ByteArray) ⟨by decide, by decide⟩) f69_ ⟨.inr (.tmp rfl), .inl ⟨_, (.tmp rfl), .frs⟩, trivial⟩ rfl rfl rfl (nB rfl) (fun x34 p35 sd36 hc37 => ?_)
      obtain ⟨hc37x, hc37c⟩ := hc37
      obtain ⟨hc371, hc372, hc373⟩ := hc37c
      refine pu (.fieldPtr rfl (.tmp rfl) f45_) rfl rfl rfl ?_
      refine ARun.store rfl (.tmp rfl) (.tmp rfl) trivial rfl (nB rfl) f71_ rfl rfl ?_
      refine ARun.nil ?_
      refine AW.region ?_
      refine pu (.move rfl (.tmp rfl)) rfl rfl rfl ?_
      refine pu (.loadPtrAgg rfl (.tmp rfl) f58_ rfl rfl (nB rfl) (nB rfl)) rfl rfl rfl ?_
      refine ARun.slice1 (id := 1) (z := (.agg #[.string ByteArray.empty, .int .i64 0, .int .i64 0])) (by_ := 32) rfl (.tmp rfl) (SV.cells_of (by exact ⟨trivial, trivial, trivial, trivial⟩)) (by kernel_rfl) rfl rfl (by decide) (by decide) ⟨rfl, (by repeat first | exact trivial | refine ⟨by decide, by first | rfl | exact trivial | (intro i j; first | rfl | exact getD_no rfl | (dsimp only; split <;> first | rfl | exact getD_no rfl) | exact scl_no (by apply_assumption) _), ?_⟩)⟩ rfl rfl rfl (nB rfl) ?_
      refine ARun.append (id := 2) (sz := 3) (n := v.l.length) (m := 1) (by_ := 32) (z := (.agg #[.string ByteArray.empty, .int .i64 0, .int .i64 0])) (f := syC v.l) (g := fun _ jc => ([.str x34, .int .i64 ((v.e + x24 : Nat) : Int), .int .i64 x15.value] : List AV).getD jc (.con undef)) (h := fun ia ja => if ia < v.l.length then (syC v.l : Nat → Nat → AV) ia ja else (fun _ jc => ([.str x34, .int .i64 ((v.e + x24 : Nat) : Int), .int .i64 x15.value] : List AV).getD jc (.con undef) : Nat → Nat → AV) (ia - v.l.length) ja) rfl (by kernel_rfl) rfl f66_ (.own (.tmp rfl) rfl rfl rfl (Nat.le_refl _) (fun _ _ _ _ => rfl)) (.own (.tmp rfl) rfl rfl (Nat.le_refl _) (fun _ _ _ _ => rfl)) (by decide) (fun i j hi hj => match j, hj with | 0, _ => rfl | 1, _ => rfl | 2, _ => rfl | _ + 3, h => absurd h (by omega)) (fun _ _ _ _ => rfl) (by omega) (by omega) ⟨rfl, (by repeat first | exact trivial | refine ⟨by decide, by first | rfl | exact trivial | (intro i j; first | rfl | exact getD_no rfl | (dsimp only; split <;> first | rfl | exact getD_no rfl) | exact scl_no (by apply_assumption) _), ?_⟩)⟩ (fun i j => by dsimp only; (repeat' split) <;> first | rfl | exact getD_no rfl) rfl rfl (nB rfl) ?_
      refine pu (.assign rfl (.tmp rfl)) rfl rfl rfl ?_
      refine ARun.nil ?_
      refine AW.region ?_
      refine pu (.move rfl (.tmp rfl)) rfl rfl rfl ?_
      refine pu (.sub (c := ((((59 + x10) - (v.l.length + 1)) : Nat) : Int)) rfl (.tmp rfl) .int (by rw [wrap_id (by omega) (by omega)]; omega)) rfl rfl rfl ?_
      refine pu (.assign rfl (.tmp rfl)) rfl rfl rfl ?_
      refine ARun.nil ?_
      have hln : (v.l ++ [(⟨x34, ((v.e + x24 : Nat) : Int), x15.value⟩ : GSay)]).length = v.l.length + 1 := by rw [List.length_append]; rfl
      exact ⟨⟨(v.l ++ [(⟨x34, ((v.e + x24 : Nat) : Int), x15.value⟩ : GSay)]), p35, sd36, v.e + x24⟩, (swp 900 2), ⟨by show (v.l ++ [(⟨x34, ((v.e + x24 : Nat) : Int), x15.value⟩ : GSay)]).length ≤ (59 + x10); omega, by show p35 ≤ _ + 28 * (v.l ++ [(⟨x34, ((v.e + x24 : Nat) : Int), x15.value⟩ : GSay)]).length; omega, by show sd36 < _; omega, by show _ ≤ p35; omega, by show v.e + x24 ≤ 4 * (v.l ++ [(⟨x34, ((v.e + x24 : Nat) : Int), x15.value⟩ : GSay)]).length; omega⟩, by show (59 + x10) - (v.l ++ [(⟨x34, ((v.e + x24 : Nat) : Int), x15.value⟩ : GSay)]).length < (59 + x10) - v.l.length; omega, swp_inj, (swp_fix rfl rfl), ⟨⟨⟨_, rfl, rfl⟩, ⟨_, rfl, congrArg (fun z : Nat => SV.one (.own 2 3 z)) hln.symm⟩, ⟨_, rfl, congrArg (fun z : Nat => SV.one (.int .i64 (((59 + x10) - z : Nat) : Int))) hln.symm⟩, ⟨_, rfl, rfl⟩, trivial⟩, ⟨⟨_, rfl, rfl, Nat.le_of_eq hln, fun ia ja hi hj => (sy_app (hln ▸ hi)).trans (sy_ren hj).symm⟩, ⟨_, rfl, rfl, Nat.le_refl _, fun _ _ _ _ => rfl⟩, trivial⟩⟩⟩
     ·
      refine AW.skip ?_
      refine AW.region ?_
      refine pu (.move rfl (.tmp rfl)) rfl rfl rfl ?_
      refine pu (.loadPtrAgg rfl (.tmp rfl) f58_ rfl rfl (nB rfl) (nB rfl)) rfl rfl rfl ?_
      refine ARun.slice1 (id := 3) (z := (.agg #[.string ByteArray.empty, .int .i64 0, .int .i64 0])) (by_ := 32) rfl (.tmp rfl) (SV.cells_of (by exact ⟨trivial, trivial, trivial, trivial⟩)) (by kernel_rfl) rfl rfl (by decide) (by decide) ⟨rfl, (by repeat first | exact trivial | refine ⟨by decide, by first | rfl | exact trivial | (intro i j; first | rfl | exact getD_no rfl | (dsimp only; split <;> first | rfl | exact getD_no rfl) | exact scl_no (by apply_assumption) _), ?_⟩)⟩ rfl rfl rfl (nB rfl) ?_
      refine ARun.append (id := 4) (sz := 3) (n := v.l.length) (m := 1) (by_ := 32) (z := (.agg #[.string ByteArray.empty, .int .i64 0, .int .i64 0])) (f := syC v.l) (g := fun _ jc => ([.str x15.name, .int .i64 ((v.e + x24 : Nat) : Int), .int .i64 x15.value] : List AV).getD jc (.con undef)) (h := fun ia ja => if ia < v.l.length then (syC v.l : Nat → Nat → AV) ia ja else (fun _ jc => ([.str x15.name, .int .i64 ((v.e + x24 : Nat) : Int), .int .i64 x15.value] : List AV).getD jc (.con undef) : Nat → Nat → AV) (ia - v.l.length) ja) rfl (by kernel_rfl) rfl f66_ (.own (.tmp rfl) rfl rfl rfl (Nat.le_refl _) (fun _ _ _ _ => rfl)) (.own (.tmp rfl) rfl rfl (Nat.le_refl _) (fun _ _ _ _ => rfl)) (by decide) (fun i j hi hj => match j, hj with | 0, _ => rfl | 1, _ => rfl | 2, _ => rfl | _ + 3, h => absurd h (by omega)) (fun _ _ _ _ => rfl) (by omega) (by omega) ⟨rfl, (by repeat first | exact trivial | refine ⟨by decide, by first | rfl | exact trivial | (intro i j; first | rfl | exact getD_no rfl | (dsimp only; split <;> first | rfl | exact getD_no rfl) | exact scl_no (by apply_assumption) _), ?_⟩)⟩ (fun i j => by dsimp only; (repeat' split) <;> first | rfl | exact getD_no rfl) rfl rfl (nB rfl) ?_
      refine pu (.assign rfl (.tmp rfl)) rfl rfl rfl ?_
      refine ARun.nil ?_
      refine AW.region ?_
      refine pu (.move rfl (.tmp rfl)) rfl rfl rfl ?_
      refine pu (.sub (c := ((((59 + x10) - (v.l.length + 1)) : Nat) : Int)) rfl (.tmp rfl) .int (by rw [wrap_id (by omega) (by omega)]; omega)) rfl rfl rfl ?_
      refine pu (.assign rfl (.tmp rfl)) rfl rfl rfl ?_
      refine ARun.nil ?_
      have hln : (v.l ++ [(⟨x15.name, ((v.e + x24 : Nat) : Int), x15.value⟩ : GSay)]).length = v.l.length + 1 := by rw [List.length_append]; rfl
      exact ⟨⟨(v.l ++ [(⟨x15.name, ((v.e + x24 : Nat) : Int), x15.value⟩ : GSay)]), p30, sd31, v.e + x24⟩, (swp 900 4), ⟨by show (v.l ++ [(⟨x15.name, ((v.e + x24 : Nat) : Int), x15.value⟩ : GSay)]).length ≤ (59 + x10); omega, by show p30 ≤ _ + 28 * (v.l ++ [(⟨x15.name, ((v.e + x24 : Nat) : Int), x15.value⟩ : GSay)]).length; omega, by show sd31 < _; omega, by show _ ≤ p30; omega, by show v.e + x24 ≤ 4 * (v.l ++ [(⟨x15.name, ((v.e + x24 : Nat) : Int), x15.value⟩ : GSay)]).length; omega⟩, by show (59 + x10) - (v.l ++ [(⟨x15.name, ((v.e + x24 : Nat) : Int), x15.value⟩ : GSay)]).length < (59 + x10) - v.l.length; omega, swp_inj, (swp_fix rfl rfl), ⟨⟨⟨_, rfl, rfl⟩, ⟨_, rfl, congrArg (fun z : Nat => SV.one (.own 4 3 z)) hln.symm⟩, ⟨_, rfl, congrArg (fun z : Nat => SV.one (.int .i64 (((59 + x10) - z : Nat) : Int))) hln.symm⟩, ⟨_, rfl, rfl⟩, trivial⟩, ⟨⟨_, rfl, rfl, Nat.le_of_eq hln, fun ia ja hi hj => (sy_app (hln ▸ hi)).trans (sy_ren hj).symm⟩, ⟨_, rfl, rfl, Nat.le_refl _, fun _ _ _ _ => rfl⟩, trivial⟩⟩⟩
    ·
     refine AW.skip ?_
     refine AW.seq ?_
     refine AW.seq ?_
     refine AW.region ?_
     refine pu (.move rfl (.tmp rfl)) rfl rfl rfl ?_
     refine ARun.cur (id := 1000000) rfl (v_One n F hF p25 sd26 (by omega) (by omega) 12 (by omega)) f67_ ⟨.inr (.tmp rfl), .inl ⟨_, .int, .int⟩, trivial⟩ rfl rfl rfl (nB rfl) (fun x38 p39 sd40 hc41 => ?_)
     have hc41c := hc41
     obtain ⟨hc411, hc412, hc413⟩ := hc41c
     refine ARun.nil ?_
     refine AW.cond (.tmp rfl) (fun hb42 => ?_) (fun hb42 => ?_)
     ·
      refine AW.region ?_
      refine pu (.move rfl (.tmp rfl)) rfl rfl rfl ?_
      refine ARun.fresh (FreshOp.strs6 (a1 := (⟨#[97]⟩ : ByteArray)) (a2 := (⟨#[98]⟩ : ByteArray)) (a3 := (⟨#[99]⟩ : ByteArray)) (a4 := (⟨#[100]⟩ : ByteArray)) (a5 := (⟨#[101]⟩ : ByteArray)) (a6 := (⟨#[102]⟩ : ByteArray)) rfl (.str (by decide)) (.str (by decide)) (.str (by decide)) (.str (by decide)) (.str (by decide)) (.str (by decide)) Tryz.underlying66 (by kernel_rfl)) rfl rfl (nB rfl) ?_
      refine ARun.cur (id := 1000000) rfl (v_Of n F hF p39 sd40 (by omega) (by omega) ([(⟨#[97]⟩ : ByteArray), (⟨#[98]⟩ : ByteArray), (⟨#[99]⟩ : ByteArray), (⟨#[100]⟩ : ByteArray), (⟨#[101]⟩ : ByteArray), (⟨#[102]⟩ : ByteArray)] : List ByteArray) ⟨by decide, by decide⟩) f69_ ⟨.inr (.tmp rfl), .inl ⟨_, (.tmp rfl), .frs⟩, trivial⟩ rfl rfl rfl (nB rfl) (fun x43 p44 sd45 hc46 => ?_)
      obtain ⟨hc46x, hc46c⟩ := hc46
      obtain ⟨hc461, hc462, hc463⟩ := hc46c
      refine pu (.fieldPtr rfl (.tmp rfl) f45_) rfl rfl rfl ?_
      refine ARun.store rfl (.tmp rfl) (.tmp rfl) trivial rfl (nB rfl) f71_ rfl rfl ?_
      refine ARun.nil ?_
      refine AW.region ?_
      refine pu (.move rfl (.tmp rfl)) rfl rfl rfl ?_
      refine pu (.loadPtrAgg rfl (.tmp rfl) f58_ rfl rfl (nB rfl) (nB rfl)) rfl rfl rfl ?_
      refine ARun.slice1 (id := 5) (z := (.agg #[.string ByteArray.empty, .int .i64 0, .int .i64 0])) (by_ := 32) rfl (.tmp rfl) (SV.cells_of (by exact ⟨trivial, trivial, trivial, trivial⟩)) (by kernel_rfl) rfl rfl (by decide) (by decide) ⟨rfl, (by repeat first | exact trivial | refine ⟨by decide, by first | rfl | exact trivial | (intro i j; first | rfl | exact getD_no rfl | (dsimp only; split <;> first | rfl | exact getD_no rfl) | exact scl_no (by apply_assumption) _), ?_⟩)⟩ rfl rfl rfl (nB rfl) ?_
      refine ARun.append (id := 6) (sz := 3) (n := v.l.length) (m := 1) (by_ := 32) (z := (.agg #[.string ByteArray.empty, .int .i64 0, .int .i64 0])) (f := syC v.l) (g := fun _ jc => ([.str x43, .int .i64 x15.at_, .int .i64 x15.value] : List AV).getD jc (.con undef)) (h := fun ia ja => if ia < v.l.length then (syC v.l : Nat → Nat → AV) ia ja else (fun _ jc => ([.str x43, .int .i64 x15.at_, .int .i64 x15.value] : List AV).getD jc (.con undef) : Nat → Nat → AV) (ia - v.l.length) ja) rfl (by kernel_rfl) rfl f66_ (.own (.tmp rfl) rfl rfl rfl (Nat.le_refl _) (fun _ _ _ _ => rfl)) (.own (.tmp rfl) rfl rfl (Nat.le_refl _) (fun _ _ _ _ => rfl)) (by decide) (fun i j hi hj => match j, hj with | 0, _ => rfl | 1, _ => rfl | 2, _ => rfl | _ + 3, h => absurd h (by omega)) (fun _ _ _ _ => rfl) (by omega) (by omega) ⟨rfl, (by repeat first | exact trivial | refine ⟨by decide, by first | rfl | exact trivial | (intro i j; first | rfl | exact getD_no rfl | (dsimp only; split <;> first | rfl | exact getD_no rfl) | exact scl_no (by apply_assumption) _), ?_⟩)⟩ (fun i j => by dsimp only; (repeat' split) <;> first | rfl | exact getD_no rfl) rfl rfl (nB rfl) ?_
      refine pu (.assign rfl (.tmp rfl)) rfl rfl rfl ?_
      refine ARun.nil ?_
      refine AW.region ?_
      refine pu (.move rfl (.tmp rfl)) rfl rfl rfl ?_
      refine pu (.sub (c := ((((59 + x10) - (v.l.length + 1)) : Nat) : Int)) rfl (.tmp rfl) .int (by rw [wrap_id (by omega) (by omega)]; omega)) rfl rfl rfl ?_
      refine pu (.assign rfl (.tmp rfl)) rfl rfl rfl ?_
      refine ARun.nil ?_
      have hln : (v.l ++ [(⟨x43, x15.at_, x15.value⟩ : GSay)]).length = v.l.length + 1 := by rw [List.length_append]; rfl
      exact ⟨⟨(v.l ++ [(⟨x43, x15.at_, x15.value⟩ : GSay)]), p44, sd45, v.e + x24⟩, (swp 900 6), ⟨by show (v.l ++ [(⟨x43, x15.at_, x15.value⟩ : GSay)]).length ≤ (59 + x10); omega, by show p44 ≤ _ + 28 * (v.l ++ [(⟨x43, x15.at_, x15.value⟩ : GSay)]).length; omega, by show sd45 < _; omega, by show _ ≤ p44; omega, by show v.e + x24 ≤ 4 * (v.l ++ [(⟨x43, x15.at_, x15.value⟩ : GSay)]).length; omega⟩, by show (59 + x10) - (v.l ++ [(⟨x43, x15.at_, x15.value⟩ : GSay)]).length < (59 + x10) - v.l.length; omega, swp_inj, (swp_fix rfl rfl), ⟨⟨⟨_, rfl, rfl⟩, ⟨_, rfl, congrArg (fun z : Nat => SV.one (.own 6 3 z)) hln.symm⟩, ⟨_, rfl, congrArg (fun z : Nat => SV.one (.int .i64 (((59 + x10) - z : Nat) : Int))) hln.symm⟩, ⟨_, rfl, rfl⟩, trivial⟩, ⟨⟨_, rfl, rfl, Nat.le_of_eq hln, fun ia ja hi hj => (sy_app (hln ▸ hi)).trans (sy_ren hj).symm⟩, ⟨_, rfl, rfl, Nat.le_refl _, fun _ _ _ _ => rfl⟩, trivial⟩⟩⟩
     ·
      refine AW.skip ?_
      refine AW.region ?_
      refine pu (.move rfl (.tmp rfl)) rfl rfl rfl ?_
      refine pu (.loadPtrAgg rfl (.tmp rfl) f58_ rfl rfl (nB rfl) (nB rfl)) rfl rfl rfl ?_
      refine ARun.slice1 (id := 7) (z := (.agg #[.string ByteArray.empty, .int .i64 0, .int .i64 0])) (by_ := 32) rfl (.tmp rfl) (SV.cells_of (by exact ⟨trivial, trivial, trivial, trivial⟩)) (by kernel_rfl) rfl rfl (by decide) (by decide) ⟨rfl, (by repeat first | exact trivial | refine ⟨by decide, by first | rfl | exact trivial | (intro i j; first | rfl | exact getD_no rfl | (dsimp only; split <;> first | rfl | exact getD_no rfl) | exact scl_no (by apply_assumption) _), ?_⟩)⟩ rfl rfl rfl (nB rfl) ?_
      refine ARun.append (id := 8) (sz := 3) (n := v.l.length) (m := 1) (by_ := 32) (z := (.agg #[.string ByteArray.empty, .int .i64 0, .int .i64 0])) (f := syC v.l) (g := fun _ jc => ([.str x15.name, .int .i64 x15.at_, .int .i64 x15.value] : List AV).getD jc (.con undef)) (h := fun ia ja => if ia < v.l.length then (syC v.l : Nat → Nat → AV) ia ja else (fun _ jc => ([.str x15.name, .int .i64 x15.at_, .int .i64 x15.value] : List AV).getD jc (.con undef) : Nat → Nat → AV) (ia - v.l.length) ja) rfl (by kernel_rfl) rfl f66_ (.own (.tmp rfl) rfl rfl rfl (Nat.le_refl _) (fun _ _ _ _ => rfl)) (.own (.tmp rfl) rfl rfl (Nat.le_refl _) (fun _ _ _ _ => rfl)) (by decide) (fun i j hi hj => match j, hj with | 0, _ => rfl | 1, _ => rfl | 2, _ => rfl | _ + 3, h => absurd h (by omega)) (fun _ _ _ _ => rfl) (by omega) (by omega) ⟨rfl, (by repeat first | exact trivial | refine ⟨by decide, by first | rfl | exact trivial | (intro i j; first | rfl | exact getD_no rfl | (dsimp only; split <;> first | rfl | exact getD_no rfl) | exact scl_no (by apply_assumption) _), ?_⟩)⟩ (fun i j => by dsimp only; (repeat' split) <;> first | rfl | exact getD_no rfl) rfl rfl (nB rfl) ?_
      refine pu (.assign rfl (.tmp rfl)) rfl rfl rfl ?_
      refine ARun.nil ?_
      refine AW.region ?_
      refine pu (.move rfl (.tmp rfl)) rfl rfl rfl ?_
      refine pu (.sub (c := ((((59 + x10) - (v.l.length + 1)) : Nat) : Int)) rfl (.tmp rfl) .int (by rw [wrap_id (by omega) (by omega)]; omega)) rfl rfl rfl ?_
      refine pu (.assign rfl (.tmp rfl)) rfl rfl rfl ?_
      refine ARun.nil ?_
      have hln : (v.l ++ [(⟨x15.name, x15.at_, x15.value⟩ : GSay)]).length = v.l.length + 1 := by rw [List.length_append]; rfl
      exact ⟨⟨(v.l ++ [(⟨x15.name, x15.at_, x15.value⟩ : GSay)]), p39, sd40, v.e + x24⟩, (swp 900 8), ⟨by show (v.l ++ [(⟨x15.name, x15.at_, x15.value⟩ : GSay)]).length ≤ (59 + x10); omega, by show p39 ≤ _ + 28 * (v.l ++ [(⟨x15.name, x15.at_, x15.value⟩ : GSay)]).length; omega, by show sd40 < _; omega, by show _ ≤ p39; omega, by show v.e + x24 ≤ 4 * (v.l ++ [(⟨x15.name, x15.at_, x15.value⟩ : GSay)]).length; omega⟩, by show (59 + x10) - (v.l ++ [(⟨x15.name, x15.at_, x15.value⟩ : GSay)]).length < (59 + x10) - v.l.length; omega, swp_inj, (swp_fix rfl rfl), ⟨⟨⟨_, rfl, rfl⟩, ⟨_, rfl, congrArg (fun z : Nat => SV.one (.own 8 3 z)) hln.symm⟩, ⟨_, rfl, congrArg (fun z : Nat => SV.one (.int .i64 (((59 + x10) - z : Nat) : Int))) hln.symm⟩, ⟨_, rfl, rfl⟩, trivial⟩, ⟨⟨_, rfl, rfl, Nat.le_of_eq hln, fun ia ja hi hj => (sy_app (hln ▸ hi)).trans (sy_ren hj).symm⟩, ⟨_, rfl, rfl, Nat.le_refl _, fun _ _ _ _ => rfl⟩, trivial⟩⟩⟩
   ·
    replace hb23 := not_f hb23
    refine AW.skip ?_
    refine AW.seq ?_
    refine AW.seq ?_
    refine AW.region ?_
    refine pu (.move rfl (.tmp rfl)) rfl rfl rfl ?_
    refine ARun.cur (id := 1000000) rfl (v_One n F hF p20 sd21 (by omega) (by omega) 12 (by omega)) f67_ ⟨.inr (.tmp rfl), .inl ⟨_, .int, .int⟩, trivial⟩ rfl rfl rfl (nB rfl) (fun x47 p48 sd49 hc50 => ?_)
    have hc50c := hc50
    obtain ⟨hc501, hc502, hc503⟩ := hc50c
    refine ARun.nil ?_
    refine AW.cond (.tmp rfl) (fun hb51 => ?_) (fun hb51 => ?_)
    ·
     refine AW.region ?_
     refine pu (.move rfl (.tmp rfl)) rfl rfl rfl ?_
     refine ARun.fresh (FreshOp.strs6 (a1 := (⟨#[97]⟩ : ByteArray)) (a2 := (⟨#[98]⟩ : ByteArray)) (a3 := (⟨#[99]⟩ : ByteArray)) (a4 := (⟨#[100]⟩ : ByteArray)) (a5 := (⟨#[101]⟩ : ByteArray)) (a6 := (⟨#[102]⟩ : ByteArray)) rfl (.str (by decide)) (.str (by decide)) (.str (by decide)) (.str (by decide)) (.str (by decide)) (.str (by decide)) Tryz.underlying66 (by kernel_rfl)) rfl rfl (nB rfl) ?_
     refine ARun.cur (id := 1000000) rfl (v_Of n F hF p48 sd49 (by omega) (by omega) ([(⟨#[97]⟩ : ByteArray), (⟨#[98]⟩ : ByteArray), (⟨#[99]⟩ : ByteArray), (⟨#[100]⟩ : ByteArray), (⟨#[101]⟩ : ByteArray), (⟨#[102]⟩ : ByteArray)] : List ByteArray) ⟨by decide, by decide⟩) f69_ ⟨.inr (.tmp rfl), .inl ⟨_, (.tmp rfl), .frs⟩, trivial⟩ rfl rfl rfl (nB rfl) (fun x52 p53 sd54 hc55 => ?_)
     obtain ⟨hc55x, hc55c⟩ := hc55
     obtain ⟨hc551, hc552, hc553⟩ := hc55c
     refine pu (.fieldPtr rfl (.tmp rfl) f45_) rfl rfl rfl ?_
     refine ARun.store rfl (.tmp rfl) (.tmp rfl) trivial rfl (nB rfl) f71_ rfl rfl ?_
     refine ARun.nil ?_
     refine AW.region ?_
     refine pu (.move rfl (.tmp rfl)) rfl rfl rfl ?_
     refine pu (.loadPtrAgg rfl (.tmp rfl) f58_ rfl rfl (nB rfl) (nB rfl)) rfl rfl rfl ?_
     refine ARun.slice1 (id := 9) (z := (.agg #[.string ByteArray.empty, .int .i64 0, .int .i64 0])) (by_ := 32) rfl (.tmp rfl) (SV.cells_of (by exact ⟨trivial, trivial, trivial, trivial⟩)) (by kernel_rfl) rfl rfl (by decide) (by decide) ⟨rfl, (by repeat first | exact trivial | refine ⟨by decide, by first | rfl | exact trivial | (intro i j; first | rfl | exact getD_no rfl | (dsimp only; split <;> first | rfl | exact getD_no rfl) | exact scl_no (by apply_assumption) _), ?_⟩)⟩ rfl rfl rfl (nB rfl) ?_
     refine ARun.append (id := 10) (sz := 3) (n := v.l.length) (m := 1) (by_ := 32) (z := (.agg #[.string ByteArray.empty, .int .i64 0, .int .i64 0])) (f := syC v.l) (g := fun _ jc => ([.str x52, .int .i64 x15.at_, .int .i64 x15.value] : List AV).getD jc (.con undef)) (h := fun ia ja => if ia < v.l.length then (syC v.l : Nat → Nat → AV) ia ja else (fun _ jc => ([.str x52, .int .i64 x15.at_, .int .i64 x15.value] : List AV).getD jc (.con undef) : Nat → Nat → AV) (ia - v.l.length) ja) rfl (by kernel_rfl) rfl f66_ (.own (.tmp rfl) rfl rfl rfl (Nat.le_refl _) (fun _ _ _ _ => rfl)) (.own (.tmp rfl) rfl rfl (Nat.le_refl _) (fun _ _ _ _ => rfl)) (by decide) (fun i j hi hj => match j, hj with | 0, _ => rfl | 1, _ => rfl | 2, _ => rfl | _ + 3, h => absurd h (by omega)) (fun _ _ _ _ => rfl) (by omega) (by omega) ⟨rfl, (by repeat first | exact trivial | refine ⟨by decide, by first | rfl | exact trivial | (intro i j; first | rfl | exact getD_no rfl | (dsimp only; split <;> first | rfl | exact getD_no rfl) | exact scl_no (by apply_assumption) _), ?_⟩)⟩ (fun i j => by dsimp only; (repeat' split) <;> first | rfl | exact getD_no rfl) rfl rfl (nB rfl) ?_
     refine pu (.assign rfl (.tmp rfl)) rfl rfl rfl ?_
     refine ARun.nil ?_
     refine AW.region ?_
     refine pu (.move rfl (.tmp rfl)) rfl rfl rfl ?_
     refine pu (.sub (c := ((((59 + x10) - (v.l.length + 1)) : Nat) : Int)) rfl (.tmp rfl) .int (by rw [wrap_id (by omega) (by omega)]; omega)) rfl rfl rfl ?_
     refine pu (.assign rfl (.tmp rfl)) rfl rfl rfl ?_
     refine ARun.nil ?_
     have hln : (v.l ++ [(⟨x52, x15.at_, x15.value⟩ : GSay)]).length = v.l.length + 1 := by rw [List.length_append]; rfl
     exact ⟨⟨(v.l ++ [(⟨x52, x15.at_, x15.value⟩ : GSay)]), p53, sd54, v.e⟩, (swp 900 10), ⟨by show (v.l ++ [(⟨x52, x15.at_, x15.value⟩ : GSay)]).length ≤ (59 + x10); omega, by show p53 ≤ _ + 28 * (v.l ++ [(⟨x52, x15.at_, x15.value⟩ : GSay)]).length; omega, by show sd54 < _; omega, by show _ ≤ p53; omega, by show v.e ≤ 4 * (v.l ++ [(⟨x52, x15.at_, x15.value⟩ : GSay)]).length; omega⟩, by show (59 + x10) - (v.l ++ [(⟨x52, x15.at_, x15.value⟩ : GSay)]).length < (59 + x10) - v.l.length; omega, swp_inj, (swp_fix rfl rfl), ⟨⟨⟨_, rfl, rfl⟩, ⟨_, rfl, congrArg (fun z : Nat => SV.one (.own 10 3 z)) hln.symm⟩, ⟨_, rfl, congrArg (fun z : Nat => SV.one (.int .i64 (((59 + x10) - z : Nat) : Int))) hln.symm⟩, ⟨_, rfl, rfl⟩, trivial⟩, ⟨⟨_, rfl, rfl, Nat.le_of_eq hln, fun ia ja hi hj => (sy_app (hln ▸ hi)).trans (sy_ren hj).symm⟩, ⟨_, rfl, rfl, Nat.le_refl _, fun _ _ _ _ => rfl⟩, trivial⟩⟩⟩
    ·
     refine AW.skip ?_
     refine AW.region ?_
     refine pu (.move rfl (.tmp rfl)) rfl rfl rfl ?_
     refine pu (.loadPtrAgg rfl (.tmp rfl) f58_ rfl rfl (nB rfl) (nB rfl)) rfl rfl rfl ?_
     refine ARun.slice1 (id := 11) (z := (.agg #[.string ByteArray.empty, .int .i64 0, .int .i64 0])) (by_ := 32) rfl (.tmp rfl) (SV.cells_of (by exact ⟨trivial, trivial, trivial, trivial⟩)) (by kernel_rfl) rfl rfl (by decide) (by decide) ⟨rfl, (by repeat first | exact trivial | refine ⟨by decide, by first | rfl | exact trivial | (intro i j; first | rfl | exact getD_no rfl | (dsimp only; split <;> first | rfl | exact getD_no rfl) | exact scl_no (by apply_assumption) _), ?_⟩)⟩ rfl rfl rfl (nB rfl) ?_
     refine ARun.append (id := 12) (sz := 3) (n := v.l.length) (m := 1) (by_ := 32) (z := (.agg #[.string ByteArray.empty, .int .i64 0, .int .i64 0])) (f := syC v.l) (g := fun _ jc => ([.str x15.name, .int .i64 x15.at_, .int .i64 x15.value] : List AV).getD jc (.con undef)) (h := fun ia ja => if ia < v.l.length then (syC v.l : Nat → Nat → AV) ia ja else (fun _ jc => ([.str x15.name, .int .i64 x15.at_, .int .i64 x15.value] : List AV).getD jc (.con undef) : Nat → Nat → AV) (ia - v.l.length) ja) rfl (by kernel_rfl) rfl f66_ (.own (.tmp rfl) rfl rfl rfl (Nat.le_refl _) (fun _ _ _ _ => rfl)) (.own (.tmp rfl) rfl rfl (Nat.le_refl _) (fun _ _ _ _ => rfl)) (by decide) (fun i j hi hj => match j, hj with | 0, _ => rfl | 1, _ => rfl | 2, _ => rfl | _ + 3, h => absurd h (by omega)) (fun _ _ _ _ => rfl) (by omega) (by omega) ⟨rfl, (by repeat first | exact trivial | refine ⟨by decide, by first | rfl | exact trivial | (intro i j; first | rfl | exact getD_no rfl | (dsimp only; split <;> first | rfl | exact getD_no rfl) | exact scl_no (by apply_assumption) _), ?_⟩)⟩ (fun i j => by dsimp only; (repeat' split) <;> first | rfl | exact getD_no rfl) rfl rfl (nB rfl) ?_
     refine pu (.assign rfl (.tmp rfl)) rfl rfl rfl ?_
     refine ARun.nil ?_
     refine AW.region ?_
     refine pu (.move rfl (.tmp rfl)) rfl rfl rfl ?_
     refine pu (.sub (c := ((((59 + x10) - (v.l.length + 1)) : Nat) : Int)) rfl (.tmp rfl) .int (by rw [wrap_id (by omega) (by omega)]; omega)) rfl rfl rfl ?_
     refine pu (.assign rfl (.tmp rfl)) rfl rfl rfl ?_
     refine ARun.nil ?_
     have hln : (v.l ++ [(⟨x15.name, x15.at_, x15.value⟩ : GSay)]).length = v.l.length + 1 := by rw [List.length_append]; rfl
     exact ⟨⟨(v.l ++ [(⟨x15.name, x15.at_, x15.value⟩ : GSay)]), p48, sd49, v.e⟩, (swp 900 12), ⟨by show (v.l ++ [(⟨x15.name, x15.at_, x15.value⟩ : GSay)]).length ≤ (59 + x10); omega, by show p48 ≤ _ + 28 * (v.l ++ [(⟨x15.name, x15.at_, x15.value⟩ : GSay)]).length; omega, by show sd49 < _; omega, by show _ ≤ p48; omega, by show v.e ≤ 4 * (v.l ++ [(⟨x15.name, x15.at_, x15.value⟩ : GSay)]).length; omega⟩, by show (59 + x10) - (v.l ++ [(⟨x15.name, x15.at_, x15.value⟩ : GSay)]).length < (59 + x10) - v.l.length; omega, swp_inj, (swp_fix rfl rfl), ⟨⟨⟨_, rfl, rfl⟩, ⟨_, rfl, congrArg (fun z : Nat => SV.one (.own 12 3 z)) hln.symm⟩, ⟨_, rfl, congrArg (fun z : Nat => SV.one (.int .i64 (((59 + x10) - z : Nat) : Int))) hln.symm⟩, ⟨_, rfl, rfl⟩, trivial⟩, ⟨⟨_, rfl, rfl, Nat.le_of_eq hln, fun ia ja hi hj => (sy_app (hln ▸ hi)).trans (sy_ren hj).symm⟩, ⟨_, rfl, rfl, Nat.le_refl _, fun _ _ _ _ => rfl⟩, trivial⟩⟩⟩
  ·
   replace hb14 := of_decide_eq_false hb14
   have hkl : ¬ v.l.length < (59 + x10) := by omega
   refine AW.exit ?_
   refine AW.seq ?_
   refine AW.region ?_
   refine pu (.move rfl (.tmp rfl)) rfl rfl rfl ?_
   refine pu (.assign rfl (.tmp rfl)) rfl rfl rfl ?_
   refine ARun.nil ?_
   exact AW.ret (show ∃ x p' s' t, _ ∧ ResL _ _ [.tmp 2] t ∧ _ ∧ _ from ⟨v.l, v.p, v.s, _, ⟨by show v.l.length ≤ 61; omega, ⟨by omega, by omega, by omega⟩⟩, .inl ⟨_, rfl, .tmp rfl⟩, fw_sy rfl rfl rfl (Nat.le_refl _) rfl (fun _ _ _ _ => rfl), rfl⟩)
 ·
  refine AW.skip ?_
  refine AW.seq ?_
  refine AW.region ?_
  refine pu (.assign rfl .int) rfl rfl rfl ?_
  refine ARun.nil ?_
  refine AW.seq ?_
  refine AW.block ?_
  have hT : x1 ≤ 61 := by omega
  refine AW.nilSlot 3 900 3 (syC []) rfl ⟨rfl, (by repeat first | exact trivial | refine ⟨by decide, by first | rfl | exact trivial | (intro i j; first | rfl | exact getD_no rfl | (dsimp only; split <;> first | rfl | exact getD_no rfl) | exact scl_no (by apply_assumption) _), ?_⟩)⟩ ?_
  -- objects are renamed
  refine AW.loopR (ι := SyS) (fun v => ⟨[(0, .one (.ptr 1000000 3 0 0)), (3, .one (.own 900 3 v.l.length)), (4, .one (.int .i64 (((x1 - v.l.length) : Nat) : Int))), (5, .one (.int .i64 (v.e : Int)))], [(900, .arr 3 v.l.length (syC v.l)), (1000000, .cells [.cv c (.lst 1 n (fun i _ => .int .u8 ((F i : Nat) : Int))), .int .i64 (v.p : Int), .int .u64 ((v.s : Nat) : Int)])]⟩) (fun v => v.l.length ≤ x1 ∧ v.p ≤ p6 + 28 * v.l.length ∧ v.s < 18446744073709551616 ∧ p6 ≤ v.p ∧ v.e ≤ 4 * v.l.length) (fun v => x1 - v.l.length) ⟨[], p6, sd7, 0⟩ ⟨Nat.zero_le _, by show p6 ≤ p6 + 28 * 0; omega, by show sd7 < 18446744073709551616; omega, Nat.le_refl _, Nat.zero_le _⟩ ⟨⟨⟨_, rfl, rfl⟩, ⟨_, rfl, rfl⟩, ⟨_, rfl, rfl⟩, ⟨_, rfl, rfl⟩, trivial⟩, ⟨⟨_, rfl, rfl, Nat.le_refl _, fun _ _ _ _ => rfl⟩, ⟨_, rfl, rfl, Nat.le_refl _, fun _ _ _ _ => rfl⟩, trivial⟩⟩ ?_
  intro v hv
  obtain ⟨hv1, hv2, hv3, hv4, hv5⟩ := hv
  refine AW.seq ?_
  refine AW.seq ?_
  refine AW.region ?_
  refine pu (.move rfl (.tmp rfl)) rfl rfl rfl ?_
  refine pu (.intOp rfl (.tmp rfl) .int rfl) rfl rfl rfl ?_
  refine ARun.nil ?_
  refine AW.cond (.tmp rfl) (fun hb56 => ?_) (fun hb56 => ?_)
  ·
   replace hb56 := of_decide_eq_true hb56
   have hkl : v.l.length < x1 := by omega
   refine AW.skip ?_
   refine AW.seq ?_
   refine AW.block ?_
   refine AW.seq ?_
   refine AW.region ?_
   refine pu (.move rfl (.tmp rfl)) rfl rfl rfl ?_
   refine ARun.cur (id := 1000000) rfl (v_Say n F hF v.p v.s (by omega) (by omega)) f68_ ⟨.inr (.tmp rfl), trivial⟩ rfl rfl rfl (nB rfl) (fun x57 p58 sd59 hc60 => ?_)
   have hc60c := hc60
   obtain ⟨hc601, hc602, hc603⟩ := hc60c
   refine ARun.alloc (id := 13) (l := [.str ByteArray.empty, .int .i64 0, .int .i64 0]) (z := (.agg #[.string ByteArray.empty, .int .i64 0, .int .i64 0])) rfl (by kernel_rfl) (fun _ _ _ => ⟨_, _, rfl, ⟨rfl, by decide⟩, ⟨_, _, rfl, rfl, ⟨_, _, rfl, rfl, rfl⟩⟩⟩) ⟨rfl, (by repeat first | exact trivial | refine ⟨by decide, by first | rfl | exact trivial | (intro i j; first | rfl | exact getD_no rfl | (dsimp only; split <;> first | rfl | exact getD_no rfl) | exact scl_no (by apply_assumption) _), ?_⟩)⟩ rfl rfl rfl (nB rfl) ?_
   refine ARun.store rfl (.tmp rfl) (.tmp rfl) (SV.cells_of (by exact ⟨trivial, trivial, trivial, trivial⟩)) rfl (nB rfl) f62_ rfl rfl ?_
   refine ARun.nil ?_
   refine AW.seq ?_
   refine AW.seq ?_
   refine AW.region ?_
   refine pu (.move rfl (.tmp rfl)) rfl rfl rfl ?_
   refine ARun.cur (id := 1000000) rfl (v_One n F hF p58 sd59 (by omega) (by omega) 4 (by omega)) f67_ ⟨.inr (.tmp rfl), .inl ⟨_, .int, .int⟩, trivial⟩ rfl rfl rfl (nB rfl) (fun x61 p62 sd63 hc64 => ?_)
   have hc64c := hc64
   obtain ⟨hc641, hc642, hc643⟩ := hc64c
   refine pu (.not rfl (.tmp rfl)) rfl rfl rfl ?_
   refine ARun.nil ?_
   refine AW.cond (.tmp rfl) (fun hb65 => ?_) (fun hb65 => ?_)
   ·
    replace hb65 := of_not hb65
    refine AW.seq ?_
    refine AW.region ?_
    refine pu (.move rfl (.tmp rfl)) rfl rfl rfl ?_
    refine pu (.move rfl (.tmp rfl)) rfl rfl rfl ?_
    refine ARun.cur (id := 1000000) rfl (v_Pick n F hF p62 sd63 (by omega) (by omega) 4 (by omega)) f0_ ⟨.inr (.tmp rfl), .inl ⟨_, .int, .int⟩, trivial⟩ rfl rfl rfl (nB rfl) (fun x66 p67 sd68 hc69 => ?_)
    obtain ⟨hc69x, hc69c⟩ := hc69
    obtain ⟨hc691, hc692, hc693⟩ := hc69c
    refine pu (.add (c := ((v.e + x66 : Nat) : Int)) rfl (.tmp rfl) (.tmp rfl) (by rw [wrap_id (by omega) (by omega)]; omega)) rfl rfl rfl ?_
    refine pu (.assign rfl (.tmp rfl)) rfl rfl rfl ?_
    refine ARun.nil ?_
    refine AW.seq ?_
    refine AW.region ?_
    refine pu (.fieldPtr rfl (.tmp rfl) f46_) rfl rfl rfl ?_
    refine pu (.loadPtr rfl (.tmp rfl) f9_ rfl rfl (nB rfl) (nB rfl)) rfl rfl rfl ?_
    refine pu (.call rfl (v_l1In x57.at_ 0 60) ⟨⟨_, (.tmp rfl), .int⟩, ⟨_, .int, .int⟩, ⟨_, .int, .int⟩, trivial⟩ f18_ trivial) rfl rfl rfl ?_
    refine ARun.nil ?_
    refine AW.cond (.tmp rfl) (fun hb70 => ?_) (fun hb70 => ?_)
    ·
     refine AW.region ?_
     refine pu (.move rfl (.tmp rfl)) rfl rfl rfl ?_
     refine pu (.fieldPtr rfl (.tmp rfl) f46_) rfl rfl rfl ?_
     refine ARun.store rfl (.tmp rfl) (.tmp rfl) trivial rfl (nB rfl) f16_ rfl rfl ?_
     refine ARun.nil ?_
     refine AW.seq ?_
     refine AW.seq ?_
     refine AW.region ?_
     refine pu (.move rfl (.tmp rfl)) rfl rfl rfl ?_
     refine ARun.cur (id := 1000000) rfl (v_One n F hF p67 sd68 (by omega) (by omega) 12 (by omega)) f67_ ⟨.inr (.tmp rfl), .inl ⟨_, .int, .int⟩, trivial⟩ rfl rfl rfl (nB rfl) (fun x71 p72 sd73 hc74 => ?_)
     have hc74c := hc74
     obtain ⟨hc741, hc742, hc743⟩ := hc74c
     refine ARun.nil ?_
     refine AW.cond (.tmp rfl) (fun hb75 => ?_) (fun hb75 => ?_)
     ·
      refine AW.region ?_
      refine pu (.move rfl (.tmp rfl)) rfl rfl rfl ?_
      refine ARun.fresh (FreshOp.strs6 (a1 := (⟨#[97]⟩ : ByteArray)) (a2 := (⟨#[98]⟩ : ByteArray)) (a3 := (⟨#[99]⟩ : ByteArray)) (a4 := (⟨#[100]⟩ : ByteArray)) (a5 := (⟨#[101]⟩ : ByteArray)) (a6 := (⟨#[102]⟩ : ByteArray)) rfl (.str (by decide)) (.str (by decide)) (.str (by decide)) (.str (by decide)) (.str (by decide)) (.str (by decide)) Tryz.underlying66 (by kernel_rfl)) rfl rfl (nB rfl) ?_
      refine ARun.cur (id := 1000000) rfl (v_Of n F hF p72 sd73 (by omega) (by omega) ([(⟨#[97]⟩ : ByteArray), (⟨#[98]⟩ : ByteArray), (⟨#[99]⟩ : ByteArray), (⟨#[100]⟩ : ByteArray), (⟨#[101]⟩ : ByteArray), (⟨#[102]⟩ : ByteArray)] : List ByteArray) ⟨by decide, by decide⟩) f69_ ⟨.inr (.tmp rfl), .inl ⟨_, (.tmp rfl), .frs⟩, trivial⟩ rfl rfl rfl (nB rfl) (fun x76 p77 sd78 hc79 => ?_)
      obtain ⟨hc79x, hc79c⟩ := hc79
      obtain ⟨hc791, hc792, hc793⟩ := hc79c
      refine pu (.fieldPtr rfl (.tmp rfl) f45_) rfl rfl rfl ?_
      refine ARun.store rfl (.tmp rfl) (.tmp rfl) trivial rfl (nB rfl) f71_ rfl rfl ?_
      refine ARun.nil ?_
      refine AW.region ?_
      refine pu (.move rfl (.tmp rfl)) rfl rfl rfl ?_
      refine pu (.loadPtrAgg rfl (.tmp rfl) f58_ rfl rfl (nB rfl) (nB rfl)) rfl rfl rfl ?_
      refine ARun.slice1 (id := 14) (z := (.agg #[.string ByteArray.empty, .int .i64 0, .int .i64 0])) (by_ := 32) rfl (.tmp rfl) (SV.cells_of (by exact ⟨trivial, trivial, trivial, trivial⟩)) (by kernel_rfl) rfl rfl (by decide) (by decide) ⟨rfl, (by repeat first | exact trivial | refine ⟨by decide, by first | rfl | exact trivial | (intro i j; first | rfl | exact getD_no rfl | (dsimp only; split <;> first | rfl | exact getD_no rfl) | exact scl_no (by apply_assumption) _), ?_⟩)⟩ rfl rfl rfl (nB rfl) ?_
      refine ARun.append (id := 15) (sz := 3) (n := v.l.length) (m := 1) (by_ := 32) (z := (.agg #[.string ByteArray.empty, .int .i64 0, .int .i64 0])) (f := syC v.l) (g := fun _ jc => ([.str x76, .int .i64 ((v.e + x66 : Nat) : Int), .int .i64 x57.value] : List AV).getD jc (.con undef)) (h := fun ia ja => if ia < v.l.length then (syC v.l : Nat → Nat → AV) ia ja else (fun _ jc => ([.str x76, .int .i64 ((v.e + x66 : Nat) : Int), .int .i64 x57.value] : List AV).getD jc (.con undef) : Nat → Nat → AV) (ia - v.l.length) ja) rfl (by kernel_rfl) rfl f66_ (.own (.tmp rfl) rfl rfl rfl (Nat.le_refl _) (fun _ _ _ _ => rfl)) (.own (.tmp rfl) rfl rfl (Nat.le_refl _) (fun _ _ _ _ => rfl)) (by decide) (fun i j hi hj => match j, hj with | 0, _ => rfl | 1, _ => rfl | 2, _ => rfl | _ + 3, h => absurd h (by omega)) (fun _ _ _ _ => rfl) (by omega) (by omega) ⟨rfl, (by repeat first | exact trivial | refine ⟨by decide, by first | rfl | exact trivial | (intro i j; first | rfl | exact getD_no rfl | (dsimp only; split <;> first | rfl | exact getD_no rfl) | exact scl_no (by apply_assumption) _), ?_⟩)⟩ (fun i j => by dsimp only; (repeat' split) <;> first | rfl | exact getD_no rfl) rfl rfl (nB rfl) ?_
      refine pu (.assign rfl (.tmp rfl)) rfl rfl rfl ?_
      refine ARun.nil ?_
      refine AW.region ?_
      refine pu (.move rfl (.tmp rfl)) rfl rfl rfl ?_
      refine pu (.sub (c := (((x1 - (v.l.length + 1)) : Nat) : Int)) rfl (.tmp rfl) .int (by rw [wrap_id (by omega) (by omega)]; omega)) rfl rfl rfl ?_
      refine pu (.assign rfl (.tmp rfl)) rfl rfl rfl ?_
      refine ARun.nil ?_
      have hln : (v.l ++ [(⟨x76, ((v.e + x66 : Nat) : Int), x57.value⟩ : GSay)]).length = v.l.length + 1 := by rw [List.length_append]; rfl
      exact ⟨⟨(v.l ++ [(⟨x76, ((v.e + x66 : Nat) : Int), x57.value⟩ : GSay)]), p77, sd78, v.e + x66⟩, (swp 900 15), ⟨by show (v.l ++ [(⟨x76, ((v.e + x66 : Nat) : Int), x57.value⟩ : GSay)]).length ≤ x1; omega, by show p77 ≤ _ + 28 * (v.l ++ [(⟨x76, ((v.e + x66 : Nat) : Int), x57.value⟩ : GSay)]).length; omega, by show sd78 < _; omega, by show _ ≤ p77; omega, by show v.e + x66 ≤ 4 * (v.l ++ [(⟨x76, ((v.e + x66 : Nat) : Int), x57.value⟩ : GSay)]).length; omega⟩, by show x1 - (v.l ++ [(⟨x76, ((v.e + x66 : Nat) : Int), x57.value⟩ : GSay)]).length < x1 - v.l.length; omega, swp_inj, (swp_fix rfl rfl), ⟨⟨⟨_, rfl, rfl⟩, ⟨_, rfl, congrArg (fun z : Nat => SV.one (.own 15 3 z)) hln.symm⟩, ⟨_, rfl, congrArg (fun z : Nat => SV.one (.int .i64 ((x1 - z : Nat) : Int))) hln.symm⟩, ⟨_, rfl, rfl⟩, trivial⟩, ⟨⟨_, rfl, rfl, Nat.le_of_eq hln, fun ia ja hi hj => (sy_app (hln ▸ hi)).trans (sy_ren hj).symm⟩, ⟨_, rfl, rfl, Nat.le_refl _, fun _ _ _ _ => rfl⟩, trivial⟩⟩⟩
     ·
      refine AW.skip ?_
      refine AW.region ?_
      refine pu (.move rfl (.tmp rfl)) rfl rfl rfl ?_
      refine pu (.loadPtrAgg rfl (.tmp rfl) f58_ rfl rfl (nB rfl) (nB rfl)) rfl rfl rfl ?_
      refine ARun.slice1 (id := 16) (z := (.agg #[.string ByteArray.empty, .int .i64 0, .int .i64 0])) (by_ := 32) rfl (.tmp rfl) (SV.cells_of (by exact ⟨trivial, trivial, trivial, trivial⟩)) (by kernel_rfl) rfl rfl (by decide) (by decide) ⟨rfl, (by repeat first | exact trivial | refine ⟨by decide, by first | rfl | exact trivial | (intro i j; first | rfl | exact getD_no rfl | (dsimp only; split <;> first | rfl | exact getD_no rfl) | exact scl_no (by apply_assumption) _), ?_⟩)⟩ rfl rfl rfl (nB rfl) ?_
      refine ARun.append (id := 17) (sz := 3) (n := v.l.length) (m := 1) (by_ := 32) (z := (.agg #[.string ByteArray.empty, .int .i64 0, .int .i64 0])) (f := syC v.l) (g := fun _ jc => ([.str x57.name, .int .i64 ((v.e + x66 : Nat) : Int), .int .i64 x57.value] : List AV).getD jc (.con undef)) (h := fun ia ja => if ia < v.l.length then (syC v.l : Nat → Nat → AV) ia ja else (fun _ jc => ([.str x57.name, .int .i64 ((v.e + x66 : Nat) : Int), .int .i64 x57.value] : List AV).getD jc (.con undef) : Nat → Nat → AV) (ia - v.l.length) ja) rfl (by kernel_rfl) rfl f66_ (.own (.tmp rfl) rfl rfl rfl (Nat.le_refl _) (fun _ _ _ _ => rfl)) (.own (.tmp rfl) rfl rfl (Nat.le_refl _) (fun _ _ _ _ => rfl)) (by decide) (fun i j hi hj => match j, hj with | 0, _ => rfl | 1, _ => rfl | 2, _ => rfl | _ + 3, h => absurd h (by omega)) (fun _ _ _ _ => rfl) (by omega) (by omega) ⟨rfl, (by repeat first | exact trivial | refine ⟨by decide, by first | rfl | exact trivial | (intro i j; first | rfl | exact getD_no rfl | (dsimp only; split <;> first | rfl | exact getD_no rfl) | exact scl_no (by apply_assumption) _), ?_⟩)⟩ (fun i j => by dsimp only; (repeat' split) <;> first | rfl | exact getD_no rfl) rfl rfl (nB rfl) ?_
      refine pu (.assign rfl (.tmp rfl)) rfl rfl rfl ?_
      refine ARun.nil ?_
      refine AW.region ?_
      refine pu (.move rfl (.tmp rfl)) rfl rfl rfl ?_
      refine pu (.sub (c := (((x1 - (v.l.length + 1)) : Nat) : Int)) rfl (.tmp rfl) .int (by rw [wrap_id (by omega) (by omega)]; omega)) rfl rfl rfl ?_
      refine pu (.assign rfl (.tmp rfl)) rfl rfl rfl ?_
      refine ARun.nil ?_
      have hln : (v.l ++ [(⟨x57.name, ((v.e + x66 : Nat) : Int), x57.value⟩ : GSay)]).length = v.l.length + 1 := by rw [List.length_append]; rfl
      exact ⟨⟨(v.l ++ [(⟨x57.name, ((v.e + x66 : Nat) : Int), x57.value⟩ : GSay)]), p72, sd73, v.e + x66⟩, (swp 900 17), ⟨by show (v.l ++ [(⟨x57.name, ((v.e + x66 : Nat) : Int), x57.value⟩ : GSay)]).length ≤ x1; omega, by show p72 ≤ _ + 28 * (v.l ++ [(⟨x57.name, ((v.e + x66 : Nat) : Int), x57.value⟩ : GSay)]).length; omega, by show sd73 < _; omega, by show _ ≤ p72; omega, by show v.e + x66 ≤ 4 * (v.l ++ [(⟨x57.name, ((v.e + x66 : Nat) : Int), x57.value⟩ : GSay)]).length; omega⟩, by show x1 - (v.l ++ [(⟨x57.name, ((v.e + x66 : Nat) : Int), x57.value⟩ : GSay)]).length < x1 - v.l.length; omega, swp_inj, (swp_fix rfl rfl), ⟨⟨⟨_, rfl, rfl⟩, ⟨_, rfl, congrArg (fun z : Nat => SV.one (.own 17 3 z)) hln.symm⟩, ⟨_, rfl, congrArg (fun z : Nat => SV.one (.int .i64 ((x1 - z : Nat) : Int))) hln.symm⟩, ⟨_, rfl, rfl⟩, trivial⟩, ⟨⟨_, rfl, rfl, Nat.le_of_eq hln, fun ia ja hi hj => (sy_app (hln ▸ hi)).trans (sy_ren hj).symm⟩, ⟨_, rfl, rfl, Nat.le_refl _, fun _ _ _ _ => rfl⟩, trivial⟩⟩⟩
    ·
     refine AW.skip ?_
     refine AW.seq ?_
     refine AW.seq ?_
     refine AW.region ?_
     refine pu (.move rfl (.tmp rfl)) rfl rfl rfl ?_
     refine ARun.cur (id := 1000000) rfl (v_One n F hF p67 sd68 (by omega) (by omega) 12 (by omega)) f67_ ⟨.inr (.tmp rfl), .inl ⟨_, .int, .int⟩, trivial⟩ rfl rfl rfl (nB rfl) (fun x80 p81 sd82 hc83 => ?_)
     have hc83c := hc83
     obtain ⟨hc831, hc832, hc833⟩ := hc83c
     refine ARun.nil ?_
     refine AW.cond (.tmp rfl) (fun hb84 => ?_) (fun hb84 => ?_)
     ·
      refine AW.region ?_
      refine pu (.move rfl (.tmp rfl)) rfl rfl rfl ?_
      refine ARun.fresh (FreshOp.strs6 (a1 := (⟨#[97]⟩ : ByteArray)) (a2 := (⟨#[98]⟩ : ByteArray)) (a3 := (⟨#[99]⟩ : ByteArray)) (a4 := (⟨#[100]⟩ : ByteArray)) (a5 := (⟨#[101]⟩ : ByteArray)) (a6 := (⟨#[102]⟩ : ByteArray)) rfl (.str (by decide)) (.str (by decide)) (.str (by decide)) (.str (by decide)) (.str (by decide)) (.str (by decide)) Tryz.underlying66 (by kernel_rfl)) rfl rfl (nB rfl) ?_
      refine ARun.cur (id := 1000000) rfl (v_Of n F hF p81 sd82 (by omega) (by omega) ([(⟨#[97]⟩ : ByteArray), (⟨#[98]⟩ : ByteArray), (⟨#[99]⟩ : ByteArray), (⟨#[100]⟩ : ByteArray), (⟨#[101]⟩ : ByteArray), (⟨#[102]⟩ : ByteArray)] : List ByteArray) ⟨by decide, by decide⟩) f69_ ⟨.inr (.tmp rfl), .inl ⟨_, (.tmp rfl), .frs⟩, trivial⟩ rfl rfl rfl (nB rfl) (fun x85 p86 sd87 hc88 => ?_)
      obtain ⟨hc88x, hc88c⟩ := hc88
      obtain ⟨hc881, hc882, hc883⟩ := hc88c
      refine pu (.fieldPtr rfl (.tmp rfl) f45_) rfl rfl rfl ?_
      refine ARun.store rfl (.tmp rfl) (.tmp rfl) trivial rfl (nB rfl) f71_ rfl rfl ?_
      refine ARun.nil ?_
      refine AW.region ?_
      refine pu (.move rfl (.tmp rfl)) rfl rfl rfl ?_
      refine pu (.loadPtrAgg rfl (.tmp rfl) f58_ rfl rfl (nB rfl) (nB rfl)) rfl rfl rfl ?_
      refine ARun.slice1 (id := 18) (z := (.agg #[.string ByteArray.empty, .int .i64 0, .int .i64 0])) (by_ := 32) rfl (.tmp rfl) (SV.cells_of (by exact ⟨trivial, trivial, trivial, trivial⟩)) (by kernel_rfl) rfl rfl (by decide) (by decide) ⟨rfl, (by repeat first | exact trivial | refine ⟨by decide, by first | rfl | exact trivial | (intro i j; first | rfl | exact getD_no rfl | (dsimp only; split <;> first | rfl | exact getD_no rfl) | exact scl_no (by apply_assumption) _), ?_⟩)⟩ rfl rfl rfl (nB rfl) ?_
      refine ARun.append (id := 19) (sz := 3) (n := v.l.length) (m := 1) (by_ := 32) (z := (.agg #[.string ByteArray.empty, .int .i64 0, .int .i64 0])) (f := syC v.l) (g := fun _ jc => ([.str x85, .int .i64 x57.at_, .int .i64 x57.value] : List AV).getD jc (.con undef)) (h := fun ia ja => if ia < v.l.length then (syC v.l : Nat → Nat → AV) ia ja else (fun _ jc => ([.str x85, .int .i64 x57.at_, .int .i64 x57.value] : List AV).getD jc (.con undef) : Nat → Nat → AV) (ia - v.l.length) ja) rfl (by kernel_rfl) rfl f66_ (.own (.tmp rfl) rfl rfl rfl (Nat.le_refl _) (fun _ _ _ _ => rfl)) (.own (.tmp rfl) rfl rfl (Nat.le_refl _) (fun _ _ _ _ => rfl)) (by decide) (fun i j hi hj => match j, hj with | 0, _ => rfl | 1, _ => rfl | 2, _ => rfl | _ + 3, h => absurd h (by omega)) (fun _ _ _ _ => rfl) (by omega) (by omega) ⟨rfl, (by repeat first | exact trivial | refine ⟨by decide, by first | rfl | exact trivial | (intro i j; first | rfl | exact getD_no rfl | (dsimp only; split <;> first | rfl | exact getD_no rfl) | exact scl_no (by apply_assumption) _), ?_⟩)⟩ (fun i j => by dsimp only; (repeat' split) <;> first | rfl | exact getD_no rfl) rfl rfl (nB rfl) ?_
      refine pu (.assign rfl (.tmp rfl)) rfl rfl rfl ?_
      refine ARun.nil ?_
      refine AW.region ?_
      refine pu (.move rfl (.tmp rfl)) rfl rfl rfl ?_
      refine pu (.sub (c := (((x1 - (v.l.length + 1)) : Nat) : Int)) rfl (.tmp rfl) .int (by rw [wrap_id (by omega) (by omega)]; omega)) rfl rfl rfl ?_
      refine pu (.assign rfl (.tmp rfl)) rfl rfl rfl ?_
      refine ARun.nil ?_
      have hln : (v.l ++ [(⟨x85, x57.at_, x57.value⟩ : GSay)]).length = v.l.length + 1 := by rw [List.length_append]; rfl
      exact ⟨⟨(v.l ++ [(⟨x85, x57.at_, x57.value⟩ : GSay)]), p86, sd87, v.e + x66⟩, (swp 900 19), ⟨by show (v.l ++ [(⟨x85, x57.at_, x57.value⟩ : GSay)]).length ≤ x1; omega, by show p86 ≤ _ + 28 * (v.l ++ [(⟨x85, x57.at_, x57.value⟩ : GSay)]).length; omega, by show sd87 < _; omega, by show _ ≤ p86; omega, by show v.e + x66 ≤ 4 * (v.l ++ [(⟨x85, x57.at_, x57.value⟩ : GSay)]).length; omega⟩, by show x1 - (v.l ++ [(⟨x85, x57.at_, x57.value⟩ : GSay)]).length < x1 - v.l.length; omega, swp_inj, (swp_fix rfl rfl), ⟨⟨⟨_, rfl, rfl⟩, ⟨_, rfl, congrArg (fun z : Nat => SV.one (.own 19 3 z)) hln.symm⟩, ⟨_, rfl, congrArg (fun z : Nat => SV.one (.int .i64 ((x1 - z : Nat) : Int))) hln.symm⟩, ⟨_, rfl, rfl⟩, trivial⟩, ⟨⟨_, rfl, rfl, Nat.le_of_eq hln, fun ia ja hi hj => (sy_app (hln ▸ hi)).trans (sy_ren hj).symm⟩, ⟨_, rfl, rfl, Nat.le_refl _, fun _ _ _ _ => rfl⟩, trivial⟩⟩⟩
     ·
      refine AW.skip ?_
      refine AW.region ?_
      refine pu (.move rfl (.tmp rfl)) rfl rfl rfl ?_
      refine pu (.loadPtrAgg rfl (.tmp rfl) f58_ rfl rfl (nB rfl) (nB rfl)) rfl rfl rfl ?_
      refine ARun.slice1 (id := 20) (z := (.agg #[.string ByteArray.empty, .int .i64 0, .int .i64 0])) (by_ := 32) rfl (.tmp rfl) (SV.cells_of (by exact ⟨trivial, trivial, trivial, trivial⟩)) (by kernel_rfl) rfl rfl (by decide) (by decide) ⟨rfl, (by repeat first | exact trivial | refine ⟨by decide, by first | rfl | exact trivial | (intro i j; first | rfl | exact getD_no rfl | (dsimp only; split <;> first | rfl | exact getD_no rfl) | exact scl_no (by apply_assumption) _), ?_⟩)⟩ rfl rfl rfl (nB rfl) ?_
      refine ARun.append (id := 21) (sz := 3) (n := v.l.length) (m := 1) (by_ := 32) (z := (.agg #[.string ByteArray.empty, .int .i64 0, .int .i64 0])) (f := syC v.l) (g := fun _ jc => ([.str x57.name, .int .i64 x57.at_, .int .i64 x57.value] : List AV).getD jc (.con undef)) (h := fun ia ja => if ia < v.l.length then (syC v.l : Nat → Nat → AV) ia ja else (fun _ jc => ([.str x57.name, .int .i64 x57.at_, .int .i64 x57.value] : List AV).getD jc (.con undef) : Nat → Nat → AV) (ia - v.l.length) ja) rfl (by kernel_rfl) rfl f66_ (.own (.tmp rfl) rfl rfl rfl (Nat.le_refl _) (fun _ _ _ _ => rfl)) (.own (.tmp rfl) rfl rfl (Nat.le_refl _) (fun _ _ _ _ => rfl)) (by decide) (fun i j hi hj => match j, hj with | 0, _ => rfl | 1, _ => rfl | 2, _ => rfl | _ + 3, h => absurd h (by omega)) (fun _ _ _ _ => rfl) (by omega) (by omega) ⟨rfl, (by repeat first | exact trivial | refine ⟨by decide, by first | rfl | exact trivial | (intro i j; first | rfl | exact getD_no rfl | (dsimp only; split <;> first | rfl | exact getD_no rfl) | exact scl_no (by apply_assumption) _), ?_⟩)⟩ (fun i j => by dsimp only; (repeat' split) <;> first | rfl | exact getD_no rfl) rfl rfl (nB rfl) ?_
      refine pu (.assign rfl (.tmp rfl)) rfl rfl rfl ?_
      refine ARun.nil ?_
      refine AW.region ?_
      refine pu (.move rfl (.tmp rfl)) rfl rfl rfl ?_
      refine pu (.sub (c := (((x1 - (v.l.length + 1)) : Nat) : Int)) rfl (.tmp rfl) .int (by rw [wrap_id (by omega) (by omega)]; omega)) rfl rfl rfl ?_
      refine pu (.assign rfl (.tmp rfl)) rfl rfl rfl ?_
      refine ARun.nil ?_
      have hln : (v.l ++ [(⟨x57.name, x57.at_, x57.value⟩ : GSay)]).length = v.l.length + 1 := by rw [List.length_append]; rfl
      exact ⟨⟨(v.l ++ [(⟨x57.name, x57.at_, x57.value⟩ : GSay)]), p81, sd82, v.e + x66⟩, (swp 900 21), ⟨by show (v.l ++ [(⟨x57.name, x57.at_, x57.value⟩ : GSay)]).length ≤ x1; omega, by show p81 ≤ _ + 28 * (v.l ++ [(⟨x57.name, x57.at_, x57.value⟩ : GSay)]).length; omega, by show sd82 < _; omega, by show _ ≤ p81; omega, by show v.e + x66 ≤ 4 * (v.l ++ [(⟨x57.name, x57.at_, x57.value⟩ : GSay)]).length; omega⟩, by show x1 - (v.l ++ [(⟨x57.name, x57.at_, x57.value⟩ : GSay)]).length < x1 - v.l.length; omega, swp_inj, (swp_fix rfl rfl), ⟨⟨⟨_, rfl, rfl⟩, ⟨_, rfl, congrArg (fun z : Nat => SV.one (.own 21 3 z)) hln.symm⟩, ⟨_, rfl, congrArg (fun z : Nat => SV.one (.int .i64 ((x1 - z : Nat) : Int))) hln.symm⟩, ⟨_, rfl, rfl⟩, trivial⟩, ⟨⟨_, rfl, rfl, Nat.le_of_eq hln, fun ia ja hi hj => (sy_app (hln ▸ hi)).trans (sy_ren hj).symm⟩, ⟨_, rfl, rfl, Nat.le_refl _, fun _ _ _ _ => rfl⟩, trivial⟩⟩⟩
   ·
    replace hb65 := not_f hb65
    refine AW.skip ?_
    refine AW.seq ?_
    refine AW.seq ?_
    refine AW.region ?_
    refine pu (.move rfl (.tmp rfl)) rfl rfl rfl ?_
    refine ARun.cur (id := 1000000) rfl (v_One n F hF p62 sd63 (by omega) (by omega) 12 (by omega)) f67_ ⟨.inr (.tmp rfl), .inl ⟨_, .int, .int⟩, trivial⟩ rfl rfl rfl (nB rfl) (fun x89 p90 sd91 hc92 => ?_)
    have hc92c := hc92
    obtain ⟨hc921, hc922, hc923⟩ := hc92c
    refine ARun.nil ?_
    refine AW.cond (.tmp rfl) (fun hb93 => ?_) (fun hb93 => ?_)
    ·
     refine AW.region ?_
     refine pu (.move rfl (.tmp rfl)) rfl rfl rfl ?_
     refine ARun.fresh (FreshOp.strs6 (a1 := (⟨#[97]⟩ : ByteArray)) (a2 := (⟨#[98]⟩ : ByteArray)) (a3 := (⟨#[99]⟩ : ByteArray)) (a4 := (⟨#[100]⟩ : ByteArray)) (a5 := (⟨#[101]⟩ : ByteArray)) (a6 := (⟨#[102]⟩ : ByteArray)) rfl (.str (by decide)) (.str (by decide)) (.str (by decide)) (.str (by decide)) (.str (by decide)) (.str (by decide)) Tryz.underlying66 (by kernel_rfl)) rfl rfl (nB rfl) ?_
     refine ARun.cur (id := 1000000) rfl (v_Of n F hF p90 sd91 (by omega) (by omega) ([(⟨#[97]⟩ : ByteArray), (⟨#[98]⟩ : ByteArray), (⟨#[99]⟩ : ByteArray), (⟨#[100]⟩ : ByteArray), (⟨#[101]⟩ : ByteArray), (⟨#[102]⟩ : ByteArray)] : List ByteArray) ⟨by decide, by decide⟩) f69_ ⟨.inr (.tmp rfl), .inl ⟨_, (.tmp rfl), .frs⟩, trivial⟩ rfl rfl rfl (nB rfl) (fun x94 p95 sd96 hc97 => ?_)
     obtain ⟨hc97x, hc97c⟩ := hc97
     obtain ⟨hc971, hc972, hc973⟩ := hc97c
     refine pu (.fieldPtr rfl (.tmp rfl) f45_) rfl rfl rfl ?_
     refine ARun.store rfl (.tmp rfl) (.tmp rfl) trivial rfl (nB rfl) f71_ rfl rfl ?_
     refine ARun.nil ?_
     refine AW.region ?_
     refine pu (.move rfl (.tmp rfl)) rfl rfl rfl ?_
     refine pu (.loadPtrAgg rfl (.tmp rfl) f58_ rfl rfl (nB rfl) (nB rfl)) rfl rfl rfl ?_
     refine ARun.slice1 (id := 22) (z := (.agg #[.string ByteArray.empty, .int .i64 0, .int .i64 0])) (by_ := 32) rfl (.tmp rfl) (SV.cells_of (by exact ⟨trivial, trivial, trivial, trivial⟩)) (by kernel_rfl) rfl rfl (by decide) (by decide) ⟨rfl, (by repeat first | exact trivial | refine ⟨by decide, by first | rfl | exact trivial | (intro i j; first | rfl | exact getD_no rfl | (dsimp only; split <;> first | rfl | exact getD_no rfl) | exact scl_no (by apply_assumption) _), ?_⟩)⟩ rfl rfl rfl (nB rfl) ?_
     refine ARun.append (id := 23) (sz := 3) (n := v.l.length) (m := 1) (by_ := 32) (z := (.agg #[.string ByteArray.empty, .int .i64 0, .int .i64 0])) (f := syC v.l) (g := fun _ jc => ([.str x94, .int .i64 x57.at_, .int .i64 x57.value] : List AV).getD jc (.con undef)) (h := fun ia ja => if ia < v.l.length then (syC v.l : Nat → Nat → AV) ia ja else (fun _ jc => ([.str x94, .int .i64 x57.at_, .int .i64 x57.value] : List AV).getD jc (.con undef) : Nat → Nat → AV) (ia - v.l.length) ja) rfl (by kernel_rfl) rfl f66_ (.own (.tmp rfl) rfl rfl rfl (Nat.le_refl _) (fun _ _ _ _ => rfl)) (.own (.tmp rfl) rfl rfl (Nat.le_refl _) (fun _ _ _ _ => rfl)) (by decide) (fun i j hi hj => match j, hj with | 0, _ => rfl | 1, _ => rfl | 2, _ => rfl | _ + 3, h => absurd h (by omega)) (fun _ _ _ _ => rfl) (by omega) (by omega) ⟨rfl, (by repeat first | exact trivial | refine ⟨by decide, by first | rfl | exact trivial | (intro i j; first | rfl | exact getD_no rfl | (dsimp only; split <;> first | rfl | exact getD_no rfl) | exact scl_no (by apply_assumption) _), ?_⟩)⟩ (fun i j => by dsimp only; (repeat' split) <;> first | rfl | exact getD_no rfl) rfl rfl (nB rfl) ?_
     refine pu (.assign rfl (.tmp rfl)) rfl rfl rfl ?_
     refine ARun.nil ?_
     refine AW.region ?_
     refine pu (.move rfl (.tmp rfl)) rfl rfl rfl ?_
     refine pu (.sub (c := (((x1 - (v.l.length + 1)) : Nat) : Int)) rfl (.tmp rfl) .int (by rw [wrap_id (by omega) (by omega)]; omega)) rfl rfl rfl ?_
     refine pu (.assign rfl (.tmp rfl)) rfl rfl rfl ?_
     refine ARun.nil ?_
     have hln : (v.l ++ [(⟨x94, x57.at_, x57.value⟩ : GSay)]).length = v.l.length + 1 := by rw [List.length_append]; rfl
     exact ⟨⟨(v.l ++ [(⟨x94, x57.at_, x57.value⟩ : GSay)]), p95, sd96, v.e⟩, (swp 900 23), ⟨by show (v.l ++ [(⟨x94, x57.at_, x57.value⟩ : GSay)]).length ≤ x1; omega, by show p95 ≤ _ + 28 * (v.l ++ [(⟨x94, x57.at_, x57.value⟩ : GSay)]).length; omega, by show sd96 < _; omega, by show _ ≤ p95; omega, by show v.e ≤ 4 * (v.l ++ [(⟨x94, x57.at_, x57.value⟩ : GSay)]).length; omega⟩, by show x1 - (v.l ++ [(⟨x94, x57.at_, x57.value⟩ : GSay)]).length < x1 - v.l.length; omega, swp_inj, (swp_fix rfl rfl), ⟨⟨⟨_, rfl, rfl⟩, ⟨_, rfl, congrArg (fun z : Nat => SV.one (.own 23 3 z)) hln.symm⟩, ⟨_, rfl, congrArg (fun z : Nat => SV.one (.int .i64 ((x1 - z : Nat) : Int))) hln.symm⟩, ⟨_, rfl, rfl⟩, trivial⟩, ⟨⟨_, rfl, rfl, Nat.le_of_eq hln, fun ia ja hi hj => (sy_app (hln ▸ hi)).trans (sy_ren hj).symm⟩, ⟨_, rfl, rfl, Nat.le_refl _, fun _ _ _ _ => rfl⟩, trivial⟩⟩⟩
    ·
     refine AW.skip ?_
     refine AW.region ?_
     refine pu (.move rfl (.tmp rfl)) rfl rfl rfl ?_
     refine pu (.loadPtrAgg rfl (.tmp rfl) f58_ rfl rfl (nB rfl) (nB rfl)) rfl rfl rfl ?_
     refine ARun.slice1 (id := 24) (z := (.agg #[.string ByteArray.empty, .int .i64 0, .int .i64 0])) (by_ := 32) rfl (.tmp rfl) (SV.cells_of (by exact ⟨trivial, trivial, trivial, trivial⟩)) (by kernel_rfl) rfl rfl (by decide) (by decide) ⟨rfl, (by repeat first | exact trivial | refine ⟨by decide, by first | rfl | exact trivial | (intro i j; first | rfl | exact getD_no rfl | (dsimp only; split <;> first | rfl | exact getD_no rfl) | exact scl_no (by apply_assumption) _), ?_⟩)⟩ rfl rfl rfl (nB rfl) ?_
     refine ARun.append (id := 25) (sz := 3) (n := v.l.length) (m := 1) (by_ := 32) (z := (.agg #[.string ByteArray.empty, .int .i64 0, .int .i64 0])) (f := syC v.l) (g := fun _ jc => ([.str x57.name, .int .i64 x57.at_, .int .i64 x57.value] : List AV).getD jc (.con undef)) (h := fun ia ja => if ia < v.l.length then (syC v.l : Nat → Nat → AV) ia ja else (fun _ jc => ([.str x57.name, .int .i64 x57.at_, .int .i64 x57.value] : List AV).getD jc (.con undef) : Nat → Nat → AV) (ia - v.l.length) ja) rfl (by kernel_rfl) rfl f66_ (.own (.tmp rfl) rfl rfl rfl (Nat.le_refl _) (fun _ _ _ _ => rfl)) (.own (.tmp rfl) rfl rfl (Nat.le_refl _) (fun _ _ _ _ => rfl)) (by decide) (fun i j hi hj => match j, hj with | 0, _ => rfl | 1, _ => rfl | 2, _ => rfl | _ + 3, h => absurd h (by omega)) (fun _ _ _ _ => rfl) (by omega) (by omega) ⟨rfl, (by repeat first | exact trivial | refine ⟨by decide, by first | rfl | exact trivial | (intro i j; first | rfl | exact getD_no rfl | (dsimp only; split <;> first | rfl | exact getD_no rfl) | exact scl_no (by apply_assumption) _), ?_⟩)⟩ (fun i j => by dsimp only; (repeat' split) <;> first | rfl | exact getD_no rfl) rfl rfl (nB rfl) ?_
     refine pu (.assign rfl (.tmp rfl)) rfl rfl rfl ?_
     refine ARun.nil ?_
     refine AW.region ?_
     refine pu (.move rfl (.tmp rfl)) rfl rfl rfl ?_
     refine pu (.sub (c := (((x1 - (v.l.length + 1)) : Nat) : Int)) rfl (.tmp rfl) .int (by rw [wrap_id (by omega) (by omega)]; omega)) rfl rfl rfl ?_
     refine pu (.assign rfl (.tmp rfl)) rfl rfl rfl ?_
     refine ARun.nil ?_
     have hln : (v.l ++ [(⟨x57.name, x57.at_, x57.value⟩ : GSay)]).length = v.l.length + 1 := by rw [List.length_append]; rfl
     exact ⟨⟨(v.l ++ [(⟨x57.name, x57.at_, x57.value⟩ : GSay)]), p90, sd91, v.e⟩, (swp 900 25), ⟨by show (v.l ++ [(⟨x57.name, x57.at_, x57.value⟩ : GSay)]).length ≤ x1; omega, by show p90 ≤ _ + 28 * (v.l ++ [(⟨x57.name, x57.at_, x57.value⟩ : GSay)]).length; omega, by show sd91 < _; omega, by show _ ≤ p90; omega, by show v.e ≤ 4 * (v.l ++ [(⟨x57.name, x57.at_, x57.value⟩ : GSay)]).length; omega⟩, by show x1 - (v.l ++ [(⟨x57.name, x57.at_, x57.value⟩ : GSay)]).length < x1 - v.l.length; omega, swp_inj, (swp_fix rfl rfl), ⟨⟨⟨_, rfl, rfl⟩, ⟨_, rfl, congrArg (fun z : Nat => SV.one (.own 25 3 z)) hln.symm⟩, ⟨_, rfl, congrArg (fun z : Nat => SV.one (.int .i64 ((x1 - z : Nat) : Int))) hln.symm⟩, ⟨_, rfl, rfl⟩, trivial⟩, ⟨⟨_, rfl, rfl, Nat.le_of_eq hln, fun ia ja hi hj => (sy_app (hln ▸ hi)).trans (sy_ren hj).symm⟩, ⟨_, rfl, rfl, Nat.le_refl _, fun _ _ _ _ => rfl⟩, trivial⟩⟩⟩
  ·
   replace hb56 := of_decide_eq_false hb56
   have hkl : ¬ v.l.length < x1 := by omega
   refine AW.exit ?_
   refine AW.seq ?_
   refine AW.region ?_
   refine pu (.move rfl (.tmp rfl)) rfl rfl rfl ?_
   refine pu (.assign rfl (.tmp rfl)) rfl rfl rfl ?_
   refine ARun.nil ?_
   exact AW.ret (show ∃ x p' s' t, _ ∧ ResL _ _ [.tmp 2] t ∧ _ ∧ _ from ⟨v.l, v.p, v.s, _, ⟨by show v.l.length ≤ 61; omega, ⟨by omega, by omega, by omega⟩⟩, .inl ⟨_, rfl, .tmp rfl⟩, fw_sy rfl rfl rfl (Nat.le_refl _) rfl (fun _ _ _ _ => rfl), rfl⟩)
end Go.Proofs.YtonfeiloekofdaaGreatDoor

namespace Go.Proofs.YtonfeiloekofdaaGreatDoor
open Go.ChangeShapes Go.WideShapes Go.ChangeAt Go.RowKit Go.BigFrame Go.Deep
set_option linter.unusedVariables false
set_option linter.unusedSimpArgs false
theorem f72_ : callB Tryz.prog 67 = true := by kernel_rfl
theorem f73_ : callB Tryz.prog 68 = true := by kernel_rfl
theorem sum_le_mul {α : Type} {f : α → Nat} {c : Nat} : ∀ {l : List α}, (∀ x ∈ l, f x ≤ c) → (l.map f).sum ≤ c * l.length
  | [], _ => Nat.zero_le _
  | a :: l, h => by
    have h1 := h a (List.mem_cons_self ..)
    have h2 := sum_le_mul (l := l) fun x hx => h x (List.mem_cons_of_mem _ hx)
    rw [List.map_cons, List.sum_cons, List.length_cons, Nat.mul_add]; omega
def noSmp (h : GHead) : GHead := ⟨h.rows.set 0 ⟨(h.rows.getD 0 (default : GRow)).name, []⟩, h.offset⟩
theorem name_8 {s : ByteArray} (h : nameB s false = true) : s.size ≤ 8 := by
  unfold nameB at h
  rw [Bool.and_eq_true] at h
  have := (inB_true h.2).2
  omega
theorem good_wt {l : List GRow} (hg : GoodR l) : l.length + (l.map wtRow).sum ≤ 400 := by
  have h1 : (l.map wtRow).sum ≤ 49 * l.length := by
    refine sum_le_mul (fun r hr => ?_)
    obtain ⟨k, hk, rfl⟩ := List.mem_iff_getElem.1 hr
    have e : l.getD k (default : GRow) = l[k] := by rw [List.getD_eq_getElem?_getD, List.getElem?_eq_getElem hk]; rfl
    have h2 := name_8 (hg.name k hk)
    have h3 := smp_40 (hg.smps k hk)
    rw [e] at h2 h3
    show (l[k]).name.size + (l[k]).samples.length ≤ 49
    omega
  have := hg.len
  omega
theorem foldV_rows (h : GHead) (l : List GSay) : GoodR (foldV h l).1.rows := by
  by_cases F : FoldOk h l
  · rw [foldV_yes F]
    exact GoodR.of (fold_good (good0 F.good) l.length fun j hj => F.says j hj)
  · rw [foldV_no F]
    exact ⟨fun k hk => absurd hk (Nat.not_lt_zero _), fun k hk => absurd hk (Nat.not_lt_zero _), fun k hk => absurd hk (Nat.not_lt_zero _), fun k _ hk => absurd hk (Nat.not_lt_zero _), Nat.zero_le _⟩
theorem foldV_wt (h : GHead) (l : List GSay) (o : Int) : wtHead ⟨(foldV h l).1.rows, o⟩ ≤ 1000 := by
  have := good_wt (foldV_rows h l)
  show (foldV h l).1.rows.length + ((foldV h l).1.rows.map wtRow).sum ≤ 1000
  omega
theorem sum_set_le {r d : GRow} : ∀ (l : List GRow) (k : Nat), wtRow r ≤ wtRow (l.getD k d) → ((l.set k r).map wtRow).sum ≤ (l.map wtRow).sum
  | [], _, _ => Nat.le_refl _
  | a :: l, 0, h => by
    have h : wtRow r ≤ wtRow a := h
    show wtRow r + (l.map wtRow).sum ≤ wtRow a + (l.map wtRow).sum
    omega
  | a :: l, k + 1, h => by
    have := sum_set_le (d := d) l k h
    show wtRow a + ((l.set k r).map wtRow).sum ≤ wtRow a + (l.map wtRow).sum
    omega
theorem noSmp_wt (h : GHead) (l : List GSay) (o : Int) : wtHead ⟨(noSmp (foldV h l).1).rows, o⟩ ≤ 1000 := by
  have h1 := good_wt (foldV_rows h l)
  have h2 : ((noSmp (foldV h l).1).rows.map wtRow).sum ≤ ((foldV h l).1.rows.map wtRow).sum := sum_set_le (d := (default : GRow)) _ 0 (show ((foldV h l).1.rows.getD 0 (default : GRow)).name.size + 0 ≤ ((foldV h l).1.rows.getD 0 (default : GRow)).name.size + ((foldV h l).1.rows.getD 0 (default : GRow)).samples.length from Nat.add_le_add_left (Nat.zero_le _) _)
  show (noSmp (foldV h l).1).rows.length + ((noSmp (foldV h l).1).rows.map wtRow).sum ≤ 1000
  have h3 : (noSmp (foldV h l).1).rows.length = (foldV h l).1.rows.length := List.length_set
  omega
theorem fw_no {H : Heap} {id L n : Nat} {o : AObj} {h : GHead} (hid : (id == 1000000) = false) (hL : (L == 1000000) = false) (ho : H.lookup id = some o) (hsz : o.sz = 2) (hn : h.rows.length ≤ o.n) (hm : n = h.rows.length) (hpos : 0 < h.rows.length) (hT : H.lookup L = some (.trees h.rows.length (rowX0 h))) (hf : ∀ i j, i < h.rows.length → j < 2 → o.f i j = if i = 0 ∧ j = 1 then .con (.slice none 0 0) else rowC0 h L i j) : Fw H (.own id 2 n) (.lst 2 (noSmp h).rows.length (fun i0 j0 => ([.str ((((noSmp h).rows).getD i0 (default : GRow)).name), .lst 2 (((((noSmp h).rows).getD i0 (default : GRow)).samples).length) (fun i1 j1 => ([.int .i64 ((((((noSmp h).rows).getD i0 (default : GRow)).samples).getD i1 (default : GSample)).at_), .int .i64 ((((((noSmp h).rows).getD i0 (default : GRow)).samples).getD i1 (default : GSample)).value)] : List AV).getD j1 (.con undef))] : List AV).getD j0 (.con undef))) := by
  have hl : (noSmp h).rows.length = n := by rw [hm]; exact List.length_set
  rw [hl]
  subst hm
  refine .own hid ho hsz hn fun i j hi hj => ?_
  rw [hf i j hi hj]
  have hat : (noSmp h).rows.getD i (default : GRow) = if i = 0 then ⟨(h.rows.getD 0 (default : GRow)).name, []⟩ else h.rows.getD i (default : GRow) := set_at _ hpos i
  match j, hj with
  | 0, _ =>
    rw [if_neg (by omega)]
    show Fw H (.str (h.rows.getD i (default : GRow)).name) (.str ((noSmp h).rows.getD i (default : GRow)).name)
    rw [hat]
    by_cases e : i = 0
    · rw [if_pos e, e]; exact .str
    · rw [if_neg e]; exact .str
  | 1, _ =>
    show Fw H _ (rowX0 (noSmp h) i)
    unfold rowX0
    rw [hat]
    by_cases e : i = 0
    · rw [if_pos ⟨e, rfl⟩, if_pos e]; exact .cnil
    · rw [if_neg (fun h => e h.1), if_neg e]; exact .tre (X := rowX0 h) hT hi
  | _ + 2, h => exact absurd h (by omega)
theorem v_Head (n : Nat) (F : Nat → Nat) (hF : ∀ i, F i < 256) (p s : Nat) (hp : p ≤ 1500000000) (hs : s < 18446744073709551616) : FnC Tryz.prog 34 n F [] p s (fun (x : GHead) p' s' => wtHead x ≤ 1000 ∧ CurOk p 2100 p' s') (fun (x : GHead) => .agg [.lst 2 x.rows.length (fun i0 j0 => ([.str ((x.rows.getD i0 (default : GRow)).name), .lst 2 (((x.rows.getD i0 (default : GRow)).samples).length) (fun i1 j1 => ([.int .i64 ((((x.rows.getD i0 (default : GRow)).samples).getD i1 (default : GSample)).at_), .int .i64 ((((x.rows.getD i0 (default : GRow)).samples).getD i1 (default : GSample)).value)] : List AV).getD j1 (.con undef))] : List AV).getD j0 (.con undef)), .int .i64 x.offset]) := by
 refine FnC.of_body (fn := Tryz.f34) Tryz.func34 rfl (nB rfl) ?_
 intro w0 c
 show AW _ 42 _ _ _ _
 refine AW.seq ?_
 refine AW.region ?_
 refine ARun.alloc (id := 0) (l := [.con (.slice none 0 0), .int .i64 0]) (z := (.agg #[.slice none 0 0, .int .i64 0])) rfl (by kernel_rfl) (fun _ _ _ => ⟨_, _, rfl, rfl, ⟨_, _, rfl, rfl, rfl⟩⟩) ⟨rfl, (by repeat first | exact trivial | refine ⟨by decide, by first | rfl | exact trivial | (intro a_ b_; first | exact getD_no rfl | exact rowC0_no rfl _ _ | ((try dsimp only); (repeat' split) <;> first | rfl | exact rowC0_no rfl _ _ | exact getD_no rfl)), ?_⟩)⟩ rfl rfl rfl (nB rfl) ?_
 refine ARun.nil ?_
 refine AW.seq ?_
 refine AW.region ?_
 refine pu (.move rfl (.tmp rfl)) rfl rfl rfl ?_
 refine ARun.cur (id := 1000000) rfl (v_Pick n F hF p s (by omega) (by omega) 5 (by omega)) f0_ ⟨.inr (.tmp rfl), .inl ⟨_, .int, .int⟩, trivial⟩ rfl rfl rfl (nB rfl) (fun x1 p2 sd3 hc4 => ?_)
 obtain ⟨hc4x, hc4c⟩ := hc4
 obtain ⟨hc41, hc42, hc43⟩ := hc4c
 refine pu (.build (ys := [.int .i64 (x1 : Int)]) (l := [.con (.slice none 0 0), .int .i64 0]) (pl := [(0, 1), (1, 1)]) (z := (.agg #[.slice none 0 0, .int .i64 0])) rfl (by kernel_rfl) (by kernel_rfl) (fun _ _ _ => ⟨_, _, rfl, rfl, ⟨_, _, rfl, rfl, rfl⟩⟩) ⟨(.tmp rfl), trivial, rfl, trivial⟩ rfl) rfl rfl rfl ?_
 refine pu (.move rfl (.tmp rfl)) rfl rfl rfl ?_
 refine ARun.cur (id := 1000000) rfl (v_Says n F hF p2 sd3 (by omega) (by omega)) f73_ ⟨.inr (.tmp rfl), trivial⟩ rfl rfl rfl (nB rfl) (fun x5 p6 sd7 hc8 => ?_)
 obtain ⟨hc8x, hc8c⟩ := hc8
 obtain ⟨hc81, hc82, hc83⟩ := hc8c
 refine ARun.prod (K := 1) rfl (v_sFold (⟨[], (x1 : Int)⟩ : GHead) x5) ⟨rfl, (by repeat first | exact trivial | refine ⟨by decide, by first | rfl | exact trivial | (intro a_ b_; first | exact getD_no rfl | exact rowC0_no rfl _ _ | ((try dsimp only); (repeat' split) <;> first | rfl | exact rowC0_no rfl _ _ | exact getD_no rfl)), ?_⟩)⟩ ⟨⟨_, (.tmp rfl), ⟨.nil, .int, trivial⟩⟩, ⟨_, (.tmp rfl), .frs⟩, trivial⟩ f72_ rfl rfl rfl rfl rfl (nB rfl) ?_
 refine pu (.move rfl (.tmp rfl)) rfl rfl rfl ?_
 refine pu (.ext3a rfl (.tmp rfl)) rfl rfl rfl ?_
 refine pu (.ext3b rfl (.tmp rfl)) rfl rfl rfl ?_
 refine pu (.ext3c rfl (.tmp rfl)) rfl rfl rfl ?_
 refine ARun.alloc (id := 2) (l := [.con (.slice none 0 0), .int .i64 0]) (z := (.agg #[.slice none 0 0, .int .i64 0])) rfl (by kernel_rfl) (fun _ _ _ => ⟨_, _, rfl, rfl, ⟨_, _, rfl, rfl, rfl⟩⟩) ⟨rfl, (by repeat first | exact trivial | refine ⟨by decide, by first | rfl | exact trivial | (intro a_ b_; first | exact getD_no rfl | exact rowC0_no rfl _ _ | ((try dsimp only); (repeat' split) <;> first | rfl | exact rowC0_no rfl _ _ | exact getD_no rfl)), ?_⟩)⟩ rfl rfl rfl (nB rfl) ?_
 refine ARun.store rfl (.tmp rfl) (.tmp rfl) (SV.cells_of (by exact ⟨trivial, trivial, trivial⟩)) rfl (nB rfl) f37_ rfl rfl ?_
 refine pu (.assign rfl (.tmp rfl)) rfl rfl rfl ?_
 refine pu (.assign rfl (.tmp rfl)) rfl rfl rfl ?_
 refine ARun.nil ?_
 refine AW.seq ?_
 refine AW.seq ?_
 refine AW.region ?_
 refine pu (.move rfl (.tmp rfl)) rfl rfl rfl ?_
 refine pu (.not rfl (.tmp rfl)) rfl rfl rfl ?_
 refine ARun.nil ?_
 refine AW.cond (.tmp rfl) (fun hb9 => ?_) (fun hb9 => ?_)
 ·
  replace hb9 := of_not hb9
  refine AW.region ?_
  refine pu (.build (ys := [.int .i64 1, .int .i64 2]) (l := [.int .i64 0, .int .i64 0]) (pl := [(0, 1), (1, 1)]) (z := (.agg #[.int .i64 0, .int .i64 0])) rfl (by kernel_rfl) (by kernel_rfl) (fun _ _ _ => ⟨_, _, rfl, rfl, ⟨_, _, rfl, rfl, rfl⟩⟩) ⟨.int, trivial, rfl, ⟨.int, trivial, rfl, trivial⟩⟩ rfl) rfl rfl rfl ?_
  refine ARun.slice1 (id := 3) (z := (.agg #[.int .i64 0, .int .i64 0])) (by_ := 16) rfl (.tmp rfl) (SV.cells_of (by exact ⟨trivial, trivial, trivial⟩)) (by kernel_rfl) rfl rfl (by decide) (by decide) ⟨rfl, (by repeat first | exact trivial | refine ⟨by decide, by first | rfl | exact trivial | (intro a_ b_; first | exact getD_no rfl | exact rowC0_no rfl _ _ | ((try dsimp only); (repeat' split) <;> first | rfl | exact rowC0_no rfl _ _ | exact getD_no rfl)), ?_⟩)⟩ rfl rfl rfl (nB rfl) ?_
  refine pu (.build (ys := [.str (⟨#[99, 112, 117]⟩ : ByteArray), .own 3 2 1]) (l := [.str ByteArray.empty, .con (.slice none 0 0)]) (pl := [(0, 1), (1, 1)]) (z := (.agg #[.string ByteArray.empty, .slice none 0 0])) rfl (by kernel_rfl) (by kernel_rfl) (fun _ _ _ => ⟨_, _, rfl, ⟨rfl, by decide⟩, ⟨_, _, rfl, rfl, rfl⟩⟩) ⟨(.str (by decide)), trivial, rfl, ⟨(.tmp rfl), trivial, rfl, trivial⟩⟩ rfl) rfl rfl rfl ?_
  refine ARun.slice1 (id := 4) (z := (.agg #[.string ByteArray.empty, .slice none 0 0])) (by_ := 40) rfl (.tmp rfl) (SV.cells_of (by exact ⟨trivial, trivial, trivial⟩)) (by kernel_rfl) rfl rfl (by decide) (by decide) ⟨rfl, (by repeat first | exact trivial | refine ⟨by decide, by first | rfl | exact trivial | (intro a_ b_; first | exact getD_no rfl | exact rowC0_no rfl _ _ | ((try dsimp only); (repeat' split) <;> first | rfl | exact rowC0_no rfl _ _ | exact getD_no rfl)), ?_⟩)⟩ rfl rfl rfl (nB rfl) ?_
  refine pu (.build (ys := [.own 4 2 1, .int .i64 1]) (l := [.con (.slice none 0 0), .int .i64 0]) (pl := [(0, 1), (1, 1)]) (z := (.agg #[.slice none 0 0, .int .i64 0])) rfl (by kernel_rfl) (by kernel_rfl) (fun _ _ _ => ⟨_, _, rfl, rfl, ⟨_, _, rfl, rfl, rfl⟩⟩) ⟨(.tmp rfl), trivial, rfl, ⟨.int, trivial, rfl, trivial⟩⟩ rfl) rfl rfl rfl ?_
  refine ARun.store rfl (.tmp rfl) (.tmp rfl) (SV.cells_of (by exact ⟨trivial, trivial, trivial⟩)) rfl (nB rfl) f37_ rfl rfl ?_
  refine ARun.nil ?_
  refine AW.seq ?_
  refine AW.seq ?_
  refine AW.region ?_
  refine pu (.move rfl (.tmp rfl)) rfl rfl rfl ?_
  refine ARun.cur (id := 1000000) rfl (v_Pick n F hF p6 sd7 (by omega) (by omega) 30 (by omega)) f0_ ⟨.inr (.tmp rfl), .inl ⟨_, .int, .int⟩, trivial⟩ rfl rfl rfl (nB rfl) (fun x10 p11 sd12 hc13 => ?_)
  obtain ⟨hc13x, hc13c⟩ := hc13
  obtain ⟨hc131, hc132, hc133⟩ := hc13c
  refine ARun.nil ?_
  refine AW.block ?_
  refine AW.seq ?_
  refine AW.region ?_
  refine pu (.intOp rfl (.tmp rfl) .int rfl) rfl rfl rfl ?_
  refine pu (.assign rfl (.tmp rfl)) rfl rfl rfl ?_
  refine ARun.nil ?_
  refine AW.cond (.tmp rfl) (fun hb14 => ?_) (fun hb14 => ?_)
  ·
   replace hb14 := of_decide_eq_true hb14
   refine AW.region ?_
   refine pu (.move rfl (.tmp rfl)) rfl rfl rfl ?_
   refine ARun.fresh (FreshOp.trip (a1 := (-1)) (a2 := 1000) (a3 := 1001) rfl .int .int .int Tryz.underlying81 (by kernel_rfl)) rfl rfl (nB rfl) ?_
   refine ARun.cur (id := 1000000) rfl (v_Among n F hF p11 sd12 (by omega) (by omega) ([(-1), 1000, 1001] : List Int) ⟨by decide, by decide⟩) f70_ ⟨.inr (.tmp rfl), .inl ⟨_, (.tmp rfl), .frs⟩, trivial⟩ rfl rfl rfl (nB rfl) (fun x15 p16 sd17 hc18 => ?_)
   obtain ⟨hc18x, hc18c⟩ := hc18
   obtain ⟨hc181, hc182, hc183⟩ := hc18c
   refine pu (.fieldPtr rfl (.tmp rfl) f30_) rfl rfl rfl ?_
   refine ARun.store rfl (.tmp rfl) (.tmp rfl) trivial rfl (nB rfl) f16_ rfl rfl ?_
   refine ARun.nil ?_
   refine AW.seq ?_
   refine AW.region ?_
   refine pu (.loadPtrAgg rfl (.tmp rfl) f26_ rfl rfl (nB rfl) (nB rfl)) rfl rfl rfl ?_
   refine ARun.store rfl (.tmp rfl) (.tmp rfl) (SV.cells_of (by exact ⟨trivial, trivial, trivial⟩)) rfl (nB rfl) f37_ rfl rfl ?_
   refine ARun.nil ?_
   exact AW.ret (show ∃ x p' s' t, _ ∧ ResL _ _ [.cell 2 25] t ∧ _ ∧ _ from ⟨⟨[⟨⟨#[99, 112, 117]⟩, [⟨1, 2⟩]⟩], x15⟩, p16, sd17, _, ⟨(by show 1 + (3 + 1 + 0) ≤ 1000; decide), by omega, by omega, by omega⟩, .inl ⟨_, rfl, .cells rfl f26_ rfl rfl (nB rfl) (nB rfl)⟩, ⟨.own rfl rfl rfl (Nat.le_refl _) (fun i j hi hj => match i, j, hi, hj with | 0, 0, _, _ => .str | 0, 1, _, _ => .own rfl rfl rfl (Nat.le_refl _) (fun a b ha hb => match a, b, ha, hb with | 0, 0, _, _ => .int | 0, 1, _, _ => .int | _ + 1, _, h, _ => absurd h (by omega) | 0, _ + 2, _, h => absurd h (by omega)) | _ + 1, _, h, _ => absurd h (by omega) | 0, _ + 2, _, h => absurd h (by omega)), .int, trivial⟩, rfl⟩)
  ·
   replace hb14 := of_decide_eq_false hb14
   refine AW.seq ?_
   refine AW.region ?_
   refine pu (.intOp rfl (.tmp rfl) .int rfl) rfl rfl rfl ?_
   refine pu (.assign rfl (.tmp rfl)) rfl rfl rfl ?_
   refine ARun.nil ?_
   refine AW.cond (.tmp rfl) (fun hb19 => ?_) (fun hb19 => ?_)
   ·
    replace hb19 := of_decide_eq_true hb19
    refine AW.seq ?_
    refine AW.region ?_
    refine pu (.fieldPtr rfl (.tmp rfl) f29_) rfl rfl rfl ?_
    refine pu (.loadPtr rfl (.tmp rfl) f33_ rfl rfl (nB rfl) (nB rfl)) rfl rfl rfl ?_
    refine pu (.lenOwn rfl (.tmp rfl) f35_) rfl rfl rfl ?_
    refine pu (.intOp rfl (.tmp rfl) .int rfl) rfl rfl rfl ?_
    refine ARun.nil ?_
    refine AW.cond (.tmp rfl) (fun hb20 => ?_) (fun hb20 => ?_)
    ·
     replace hb20 := of_decide_eq_true hb20
     refine AW.region ?_
     refine pu (.fieldPtr rfl (.tmp rfl) f29_) rfl rfl rfl ?_
     refine pu (.loadPtr rfl (.tmp rfl) f33_ rfl rfl (nB rfl) (nB rfl)) rfl rfl rfl ?_
     refine pu (.indexOwn (i := 0) rfl (.tmp rfl) f28_ .int rfl (by first | omega | (show 0 < _; omega))) rfl rfl rfl ?_
     refine pu (.fieldPtr rfl (.tmp rfl) f32_) rfl rfl rfl ?_
     refine ARun.storeArr rfl (.tmp rfl) .con ⟨rfl, (fun _ e => by cases e), (fun _ e => by cases e)⟩ rfl (show 0 < 1 from by omega) (nB rfl) f52_ rfl rfl ?_
     refine ARun.nil ?_
     refine AW.seq ?_
     refine AW.region ?_
     refine pu (.loadPtrAgg rfl (.tmp rfl) f26_ rfl rfl (nB rfl) (nB rfl)) rfl rfl rfl ?_
     refine ARun.store rfl (.tmp rfl) (.tmp rfl) (SV.cells_of (by exact ⟨trivial, trivial, trivial⟩)) rfl (nB rfl) f37_ rfl rfl ?_
     refine ARun.nil ?_
     exact AW.ret (show ∃ x p' s' t, _ ∧ ResL _ _ [.cell 2 25] t ∧ _ ∧ _ from ⟨⟨[⟨⟨#[99, 112, 117]⟩, []⟩], 1⟩, p11, sd12, _, ⟨(by show 1 + (3 + 0 + 0) ≤ 1000; decide), by omega, by omega, by omega⟩, .inl ⟨_, rfl, .cells rfl f26_ rfl rfl (nB rfl) (nB rfl)⟩, ⟨.own rfl rfl rfl (Nat.le_refl _) (fun i j hi hj => match i, j, hi, hj with | 0, 0, _, _ => .str | 0, 1, _, _ => .cnil | _ + 1, _, h, _ => absurd h (by omega) | 0, _ + 2, _, h => absurd h (by omega)), .int, trivial⟩, rfl⟩)
    ·
     replace hb20 := of_decide_eq_false hb20
     refine AW.skip ?_
     refine AW.seq ?_
     refine AW.region ?_
     refine pu (.loadPtrAgg rfl (.tmp rfl) f26_ rfl rfl (nB rfl) (nB rfl)) rfl rfl rfl ?_
     refine ARun.store rfl (.tmp rfl) (.tmp rfl) (SV.cells_of (by exact ⟨trivial, trivial, trivial⟩)) rfl (nB rfl) f37_ rfl rfl ?_
     refine ARun.nil ?_
     exact AW.ret (show ∃ x p' s' t, _ ∧ ResL _ _ [.cell 2 25] t ∧ _ ∧ _ from ⟨⟨[⟨⟨#[99, 112, 117]⟩, [⟨1, 2⟩]⟩], 1⟩, p11, sd12, _, ⟨(by show 1 + (3 + 1 + 0) ≤ 1000; decide), by omega, by omega, by omega⟩, .inl ⟨_, rfl, .cells rfl f26_ rfl rfl (nB rfl) (nB rfl)⟩, ⟨.own rfl rfl rfl (Nat.le_refl _) (fun i j hi hj => match i, j, hi, hj with | 0, 0, _, _ => .str | 0, 1, _, _ => .own rfl rfl rfl (Nat.le_refl _) (fun a b ha hb => match a, b, ha, hb with | 0, 0, _, _ => .int | 0, 1, _, _ => .int | _ + 1, _, h, _ => absurd h (by omega) | 0, _ + 2, _, h => absurd h (by omega)) | _ + 1, _, h, _ => absurd h (by omega) | 0, _ + 2, _, h => absurd h (by omega)), .int, trivial⟩, rfl⟩)
   ·
    replace hb19 := of_decide_eq_false hb19
    refine AW.skip ?_
    refine AW.seq ?_
    refine AW.region ?_
    refine pu (.loadPtrAgg rfl (.tmp rfl) f26_ rfl rfl (nB rfl) (nB rfl)) rfl rfl rfl ?_
    refine ARun.store rfl (.tmp rfl) (.tmp rfl) (SV.cells_of (by exact ⟨trivial, trivial, trivial⟩)) rfl (nB rfl) f37_ rfl rfl ?_
    refine ARun.nil ?_
    exact AW.ret (show ∃ x p' s' t, _ ∧ ResL _ _ [.cell 2 25] t ∧ _ ∧ _ from ⟨⟨[⟨⟨#[99, 112, 117]⟩, [⟨1, 2⟩]⟩], 1⟩, p11, sd12, _, ⟨(by show 1 + (3 + 1 + 0) ≤ 1000; decide), by omega, by omega, by omega⟩, .inl ⟨_, rfl, .cells rfl f26_ rfl rfl (nB rfl) (nB rfl)⟩, ⟨.own rfl rfl rfl (Nat.le_refl _) (fun i j hi hj => match i, j, hi, hj with | 0, 0, _, _ => .str | 0, 1, _, _ => .own rfl rfl rfl (Nat.le_refl _) (fun a b ha hb => match a, b, ha, hb with | 0, 0, _, _ => .int | 0, 1, _, _ => .int | _ + 1, _, h, _ => absurd h (by omega) | 0, _ + 2, _, h => absurd h (by omega)) | _ + 1, _, h, _ => absurd h (by omega) | 0, _ + 2, _, h => absurd h (by omega)), .int, trivial⟩, rfl⟩)
 ·
  replace hb9 := not_f hb9
  refine AW.skip ?_
  refine AW.seq ?_
  refine AW.seq ?_
  refine AW.region ?_
  refine pu (.move rfl (.tmp rfl)) rfl rfl rfl ?_
  refine ARun.cur (id := 1000000) rfl (v_Pick n F hF p6 sd7 (by omega) (by omega) 30 (by omega)) f0_ ⟨.inr (.tmp rfl), .inl ⟨_, .int, .int⟩, trivial⟩ rfl rfl rfl (nB rfl) (fun x21 p22 sd23 hc24 => ?_)
  obtain ⟨hc24x, hc24c⟩ := hc24
  obtain ⟨hc241, hc242, hc243⟩ := hc24c
  refine ARun.nil ?_
  refine AW.block ?_
  refine AW.seq ?_
  refine AW.region ?_
  refine pu (.intOp rfl (.tmp rfl) .int rfl) rfl rfl rfl ?_
  refine pu (.assign rfl (.tmp rfl)) rfl rfl rfl ?_
  refine ARun.nil ?_
  refine AW.cond (.tmp rfl) (fun hb25 => ?_) (fun hb25 => ?_)
  ·
   replace hb25 := of_decide_eq_true hb25
   refine AW.region ?_
   refine pu (.move rfl (.tmp rfl)) rfl rfl rfl ?_
   refine ARun.fresh (FreshOp.trip (a1 := (-1)) (a2 := 1000) (a3 := 1001) rfl .int .int .int Tryz.underlying81 (by kernel_rfl)) rfl rfl (nB rfl) ?_
   refine ARun.cur (id := 1000000) rfl (v_Among n F hF p22 sd23 (by omega) (by omega) ([(-1), 1000, 1001] : List Int) ⟨by decide, by decide⟩) f70_ ⟨.inr (.tmp rfl), .inl ⟨_, (.tmp rfl), .frs⟩, trivial⟩ rfl rfl rfl (nB rfl) (fun x26 p27 sd28 hc29 => ?_)
   obtain ⟨hc29x, hc29c⟩ := hc29
   obtain ⟨hc291, hc292, hc293⟩ := hc29c
   refine pu (.fieldPtr rfl (.tmp rfl) f30_) rfl rfl rfl ?_
   refine ARun.store rfl (.tmp rfl) (.tmp rfl) trivial rfl (nB rfl) f16_ rfl rfl ?_
   refine ARun.nil ?_
   refine AW.seq ?_
   refine AW.region ?_
   refine pu (.loadPtrAgg rfl (.tmp rfl) f26_ rfl rfl (nB rfl) (nB rfl)) rfl rfl rfl ?_
   refine ARun.store rfl (.tmp rfl) (.tmp rfl) (SV.cells_of (by exact ⟨trivial, trivial, trivial⟩)) rfl (nB rfl) f37_ rfl rfl ?_
   refine ARun.nil ?_
   exact AW.ret (show ∃ x p' s' t, _ ∧ ResL _ _ [.cell 2 25] t ∧ _ ∧ _ from ⟨⟨(foldV (⟨[], (x1 : Int)⟩ : GHead) x5).1.rows, x26⟩, p27, sd28, _, ⟨foldV_wt _ _ _, by omega, by omega, by omega⟩, .inl ⟨_, rfl, .cells rfl f26_ rfl rfl (nB rfl) (nB rfl)⟩, ⟨.tre (X := fun p => ([.lst 2 ((((foldV (⟨[], (x1 : Int)⟩ : GHead) x5).1).rows).length) (fun i0 j0 => ([.str (((((foldV (⟨[], (x1 : Int)⟩ : GHead) x5).1).rows).getD i0 (default : GRow)).name), .lst 2 ((((((foldV (⟨[], (x1 : Int)⟩ : GHead) x5).1).rows).getD i0 (default : GRow)).samples).length) (fun i1 j1 => ([.int .i64 (((((((foldV (⟨[], (x1 : Int)⟩ : GHead) x5).1).rows).getD i0 (default : GRow)).samples).getD i1 (default : GSample)).at_), .int .i64 (((((((foldV (⟨[], (x1 : Int)⟩ : GHead) x5).1).rows).getD i0 (default : GRow)).samples).getD i1 (default : GSample)).value)] : List AV).getD j1 (.con undef))] : List AV).getD j0 (.con undef)), .int .i64 (((foldV (⟨[], (x1 : Int)⟩ : GHead) x5).1).offset), .lst 1 (((foldV (⟨[], (x1 : Int)⟩ : GHead) x5).2.1).length) (fun i0 _ => .int .i64 (((foldV (⟨[], (x1 : Int)⟩ : GHead) x5).2.1).getD i0 0)), .bool ((foldV (⟨[], (x1 : Int)⟩ : GHead) x5).2.2)] : List AV).getD p (.con undef)) rfl (nB rfl), .int, trivial⟩, rfl⟩)
  ·
   replace hb25 := of_decide_eq_false hb25
   refine AW.seq ?_
   refine AW.region ?_
   refine pu (.intOp rfl (.tmp rfl) .int rfl) rfl rfl rfl ?_
   refine pu (.assign rfl (.tmp rfl)) rfl rfl rfl ?_
   refine ARun.nil ?_
   refine AW.cond (.tmp rfl) (fun hb30 => ?_) (fun hb30 => ?_)
   ·
    replace hb30 := of_decide_eq_true hb30
    refine AW.seq ?_
    refine AW.region ?_
    refine pu (.fieldPtr rfl (.tmp rfl) f29_) rfl rfl rfl ?_
    refine pu (.loadPtr rfl (.tmp rfl) f33_ rfl rfl (nB rfl) (nB rfl)) rfl rfl rfl ?_
    refine pu (.lenTre (m := 4) (sz := 2) (n := (foldV (⟨[], (x1 : Int)⟩ : GHead) x5).1.rows.length) (f := (fun i0 j0 => ([.str ((((foldV (⟨[], (x1 : Int)⟩ : GHead) x5).1.rows).getD i0 (default : GRow)).name), .lst 2 (((((foldV (⟨[], (x1 : Int)⟩ : GHead) x5).1.rows).getD i0 (default : GRow)).samples).length) (fun i1 j1 => ([.int .i64 ((((((foldV (⟨[], (x1 : Int)⟩ : GHead) x5).1.rows).getD i0 (default : GRow)).samples).getD i1 (default : GSample)).at_), .int .i64 ((((((foldV (⟨[], (x1 : Int)⟩ : GHead) x5).1.rows).getD i0 (default : GRow)).samples).getD i1 (default : GSample)).value)] : List AV).getD j1 (.con undef))] : List AV).getD j0 (.con undef))) rfl (.tmp rfl) rfl (nB rfl) rfl f35_) rfl rfl rfl ?_
    refine pu (.intOp rfl (.tmp rfl) .int rfl) rfl rfl rfl ?_
    refine ARun.nil ?_
    refine AW.cond (.tmp rfl) (fun hb31 => ?_) (fun hb31 => ?_)
    ·
     replace hb31 := of_decide_eq_true hb31
     refine AW.openCell 2 0 1 0 4 2 1 (foldV (⟨[], (x1 : Int)⟩ : GHead) x5).1.rows.length 5 6 [.tre 1 0, .int .i64 (((foldV (⟨[], (x1 : Int)⟩ : GHead) x5).1).offset)] [.own 5 2 ((foldV (⟨[], (x1 : Int)⟩ : GHead) x5).1.rows.length), .int .i64 (((foldV (⟨[], (x1 : Int)⟩ : GHead) x5).1).offset)] (fun p => ([.lst 2 ((((foldV (⟨[], (x1 : Int)⟩ : GHead) x5).1).rows).length) (fun i0 j0 => ([.str (((((foldV (⟨[], (x1 : Int)⟩ : GHead) x5).1).rows).getD i0 (default : GRow)).name), .lst 2 ((((((foldV (⟨[], (x1 : Int)⟩ : GHead) x5).1).rows).getD i0 (default : GRow)).samples).length) (fun i1 j1 => ([.int .i64 (((((((foldV (⟨[], (x1 : Int)⟩ : GHead) x5).1).rows).getD i0 (default : GRow)).samples).getD i1 (default : GSample)).at_), .int .i64 (((((((foldV (⟨[], (x1 : Int)⟩ : GHead) x5).1).rows).getD i0 (default : GRow)).samples).getD i1 (default : GSample)).value)] : List AV).getD j1 (.con undef))] : List AV).getD j0 (.con undef)), .int .i64 (((foldV (⟨[], (x1 : Int)⟩ : GHead) x5).1).offset), .lst 1 (((foldV (⟨[], (x1 : Int)⟩ : GHead) x5).2.1).length) (fun i0 _ => .int .i64 (((foldV (⟨[], (x1 : Int)⟩ : GHead) x5).2.1).getD i0 0)), .bool ((foldV (⟨[], (x1 : Int)⟩ : GHead) x5).2.2)] : List AV).getD p (.con undef)) (fun i0 j0 => ([.str ((((foldV (⟨[], (x1 : Int)⟩ : GHead) x5).1.rows).getD i0 (default : GRow)).name), .lst 2 (((((foldV (⟨[], (x1 : Int)⟩ : GHead) x5).1.rows).getD i0 (default : GRow)).samples).length) (fun i1 j1 => ([.int .i64 ((((((foldV (⟨[], (x1 : Int)⟩ : GHead) x5).1.rows).getD i0 (default : GRow)).samples).getD i1 (default : GSample)).at_), .int .i64 ((((((foldV (⟨[], (x1 : Int)⟩ : GHead) x5).1.rows).getD i0 (default : GRow)).samples).getD i1 (default : GSample)).value)] : List AV).getD j1 (.con undef))] : List AV).getD j0 (.con undef)) (rowC0 (foldV (⟨[], (x1 : Int)⟩ : GHead) x5).1 6) rfl rfl rfl rfl (by decide) (by decide) rfl (by decide) (fun _ _ => ⟨_, _, _, rfl⟩) (fun i j _ hj hne => match j, hj, hne with | 0, _, _ => rfl | 1, _, h => absurd rfl h | _ + 2, h, _ => absurd h (by omega)) ⟨rfl, (by repeat first | exact trivial | refine ⟨by decide, by first | rfl | exact trivial | (intro a_ b_; first | exact getD_no rfl | exact rowC0_no rfl _ _ | ((try dsimp only); (repeat' split) <;> first | rfl | exact rowC0_no rfl _ _ | exact getD_no rfl)), ?_⟩)⟩ ⟨rfl, (by repeat first | exact trivial | refine ⟨by decide, by first | rfl | exact trivial | (intro a_ b_; first | exact getD_no rfl | exact rowC0_no rfl _ _ | ((try dsimp only); (repeat' split) <;> first | rfl | exact rowC0_no rfl _ _ | exact getD_no rfl)), ?_⟩)⟩ (by decide) (fun i j _ hj => match j, hj with | 0, _ => rfl | 1, _ => rfl | _ + 2, h => absurd h (by omega)) ?_
     refine AW.region ?_
     refine pu (.fieldPtr rfl (.tmp rfl) f29_) rfl rfl rfl ?_
     refine pu (.loadPtr rfl (.tmp rfl) f33_ rfl rfl (nB rfl) (nB rfl)) rfl rfl rfl ?_
     refine pu (.indexOwn (i := 0) rfl (.tmp rfl) f28_ .int rfl (by first | omega | (show 0 < _; omega))) rfl rfl rfl ?_
     refine pu (.fieldPtr rfl (.tmp rfl) f32_) rfl rfl rfl ?_
     refine ARun.storeArr rfl (.tmp rfl) .con ⟨rfl, (fun _ e => by cases e), (fun _ e => by cases e)⟩ rfl (show 0 < (foldV (⟨[], (x1 : Int)⟩ : GHead) x5).1.rows.length from by omega) (nB rfl) f52_ rfl rfl ?_
     refine ARun.nil ?_
     refine AW.seq ?_
     refine AW.region ?_
     refine pu (.loadPtrAgg rfl (.tmp rfl) f26_ rfl rfl (nB rfl) (nB rfl)) rfl rfl rfl ?_
     refine ARun.store rfl (.tmp rfl) (.tmp rfl) (SV.cells_of (by exact ⟨trivial, trivial, trivial⟩)) rfl (nB rfl) f37_ rfl rfl ?_
     refine ARun.nil ?_
     exact AW.ret (show ∃ x p' s' t, _ ∧ ResL _ _ [.cell 2 25] t ∧ _ ∧ _ from ⟨⟨(noSmp (foldV (⟨[], (x1 : Int)⟩ : GHead) x5).1).rows, ((foldV (⟨[], (x1 : Int)⟩ : GHead) x5).1).offset⟩, p22, sd23, _, ⟨noSmp_wt _ _ _, by omega, by omega, by omega⟩, .inl ⟨_, rfl, .cells rfl f26_ rfl rfl (nB rfl) (nB rfl)⟩, ⟨fw_no (L := 6) rfl rfl rfl rfl (Nat.le_refl _) rfl (by omega) rfl (fun _ _ _ _ => rfl), .int, trivial⟩, rfl⟩)
    ·
     replace hb31 := of_decide_eq_false hb31
     refine AW.skip ?_
     refine AW.seq ?_
     refine AW.region ?_
     refine pu (.loadPtrAgg rfl (.tmp rfl) f26_ rfl rfl (nB rfl) (nB rfl)) rfl rfl rfl ?_
     refine ARun.store rfl (.tmp rfl) (.tmp rfl) (SV.cells_of (by exact ⟨trivial, trivial, trivial⟩)) rfl (nB rfl) f37_ rfl rfl ?_
     refine ARun.nil ?_
     exact AW.ret (show ∃ x p' s' t, _ ∧ ResL _ _ [.cell 2 25] t ∧ _ ∧ _ from ⟨⟨(foldV (⟨[], (x1 : Int)⟩ : GHead) x5).1.rows, ((foldV (⟨[], (x1 : Int)⟩ : GHead) x5).1).offset⟩, p22, sd23, _, ⟨foldV_wt _ _ _, by omega, by omega, by omega⟩, .inl ⟨_, rfl, .cells rfl f26_ rfl rfl (nB rfl) (nB rfl)⟩, ⟨.tre (X := fun p => ([.lst 2 ((((foldV (⟨[], (x1 : Int)⟩ : GHead) x5).1).rows).length) (fun i0 j0 => ([.str (((((foldV (⟨[], (x1 : Int)⟩ : GHead) x5).1).rows).getD i0 (default : GRow)).name), .lst 2 ((((((foldV (⟨[], (x1 : Int)⟩ : GHead) x5).1).rows).getD i0 (default : GRow)).samples).length) (fun i1 j1 => ([.int .i64 (((((((foldV (⟨[], (x1 : Int)⟩ : GHead) x5).1).rows).getD i0 (default : GRow)).samples).getD i1 (default : GSample)).at_), .int .i64 (((((((foldV (⟨[], (x1 : Int)⟩ : GHead) x5).1).rows).getD i0 (default : GRow)).samples).getD i1 (default : GSample)).value)] : List AV).getD j1 (.con undef))] : List AV).getD j0 (.con undef)), .int .i64 (((foldV (⟨[], (x1 : Int)⟩ : GHead) x5).1).offset), .lst 1 (((foldV (⟨[], (x1 : Int)⟩ : GHead) x5).2.1).length) (fun i0 _ => .int .i64 (((foldV (⟨[], (x1 : Int)⟩ : GHead) x5).2.1).getD i0 0)), .bool ((foldV (⟨[], (x1 : Int)⟩ : GHead) x5).2.2)] : List AV).getD p (.con undef)) rfl (nB rfl), .int, trivial⟩, rfl⟩)
   ·
    replace hb30 := of_decide_eq_false hb30
    refine AW.skip ?_
    refine AW.seq ?_
    refine AW.region ?_
    refine pu (.loadPtrAgg rfl (.tmp rfl) f26_ rfl rfl (nB rfl) (nB rfl)) rfl rfl rfl ?_
    refine ARun.store rfl (.tmp rfl) (.tmp rfl) (SV.cells_of (by exact ⟨trivial, trivial, trivial⟩)) rfl (nB rfl) f37_ rfl rfl ?_
    refine ARun.nil ?_
    exact AW.ret (show ∃ x p' s' t, _ ∧ ResL _ _ [.cell 2 25] t ∧ _ ∧ _ from ⟨⟨(foldV (⟨[], (x1 : Int)⟩ : GHead) x5).1.rows, ((foldV (⟨[], (x1 : Int)⟩ : GHead) x5).1).offset⟩, p22, sd23, _, ⟨foldV_wt _ _ _, by omega, by omega, by omega⟩, .inl ⟨_, rfl, .cells rfl f26_ rfl rfl (nB rfl) (nB rfl)⟩, ⟨.tre (X := fun p => ([.lst 2 ((((foldV (⟨[], (x1 : Int)⟩ : GHead) x5).1).rows).length) (fun i0 j0 => ([.str (((((foldV (⟨[], (x1 : Int)⟩ : GHead) x5).1).rows).getD i0 (default : GRow)).name), .lst 2 ((((((foldV (⟨[], (x1 : Int)⟩ : GHead) x5).1).rows).getD i0 (default : GRow)).samples).length) (fun i1 j1 => ([.int .i64 (((((((foldV (⟨[], (x1 : Int)⟩ : GHead) x5).1).rows).getD i0 (default : GRow)).samples).getD i1 (default : GSample)).at_), .int .i64 (((((((foldV (⟨[], (x1 : Int)⟩ : GHead) x5).1).rows).getD i0 (default : GRow)).samples).getD i1 (default : GSample)).value)] : List AV).getD j1 (.con undef))] : List AV).getD j0 (.con undef)), .int .i64 (((foldV (⟨[], (x1 : Int)⟩ : GHead) x5).1).offset), .lst 1 (((foldV (⟨[], (x1 : Int)⟩ : GHead) x5).2.1).length) (fun i0 _ => .int .i64 (((foldV (⟨[], (x1 : Int)⟩ : GHead) x5).2.1).getD i0 0)), .bool ((foldV (⟨[], (x1 : Int)⟩ : GHead) x5).2.2)] : List AV).getD p (.con undef)) rfl (nB rfl), .int, trivial⟩, rfl⟩)
end Go.Proofs.YtonfeiloekofdaaGreatDoor

namespace Go.Proofs.YtonfeiloekofdaaGreatDoor
open Go.ChangeShapes Go.WideShapes Go.ChangeAt Go.RowKit Go.BigFrame Go.Deep
set_option linter.unusedVariables false
set_option linter.unusedSimpArgs false
section
variable {P : Program} {σ : Sig} {o : Oper}
theorem PureOp.max2 {ts : Array TypeId} {x y : Operand} {k : IntKind} {a b c : Int} (ho : o.op = .call { callee := .builtin .max, args := #[x, y], argTypes := ts }) (hx : Kn σ x (.one (.int k a))) (hy : Kn σ y (.one (.int k b))) (hc : (if a < b then b else a) = c) : PureOp P o σ (.one (.int k c)) := by
  subst hc
  refine PureOp.val fun N w0 ρ S ac w hs => ?_
  have e1 : ac.eval x = .int k a := hx.sound hs
  have e2 : ac.eval y = .int k b := hy.sound hs
  refine ⟨_, rfl, fun w' _ => ?_⟩
  generalize ac.eval = ev at e1 e2 ⊢
  simp [execOp, ho, e1, e2, resolve, invoke, builtin, Builtin.max_, Builtin.max2, go_sem]
theorem PureOp.subLst {t : TypeId} {x y z : Operand} {sz n lo hi : Nat} {f : Nat → Nat → AV} {m1 m2 : Int} {k1 k2 : IntKind} (ho : o.op = .slice t x (some y) (some z) none) (hx : Kn σ x (.one (.lst sz n f))) (hy : Kn σ y (.one (.int k1 m1))) (hz : Kn σ z (.one (.int k2 m2))) (hm1 : m1 = (lo : Int)) (hm2 : m2 = (hi : Int)) (hlh : lo ≤ hi) (hk : hi ≤ n) (ht : elemB P t sz = true) : PureOp P o σ (.one (.lst sz (hi - lo) fun i j => f (i + lo) j)) := by
  subst hm1
  subst hm2
  refine PureOp.val fun N w0 ρ S ac w hs => ?_
  obtain ⟨A, c, e1, h1, h2, h3, h4⟩ := hx.sound hs
  have e2 : ac.eval y = .int k1 (lo : Int) := hy.sound hs
  have e3 : ac.eval z = .int k2 (hi : Int) := hz.sound hs
  obtain ⟨e, i, hu, hi', hsz⟩ := elemB_spec ht
  refine ⟨.slice (if c = lo then A else A.map (·.add (lo * i.size))) (hi - lo) (c - lo), ⟨_, _, rfl, by omega, by omega, fun hA => ?_, fun r hr => ?_⟩, fun w' _ => ?_⟩
  · by_cases hc : c = lo
    · omega
    · rw [if_neg hc] at hA
      have : A = none := by cases A <;> first | rfl | cases hA
      have := h3 this; omega
  · obtain ⟨b, off, hA, hS, hc⟩ := h4 (r + lo) (by omega)
    refine ⟨b, off + lo * sz, ?_, hS, fun j hj => ?_⟩
    · rw [if_neg (by omega), hA, ← hsz]; simp [Addr.add]
    · obtain ⟨u, hu, hd⟩ := hc j hj
      exact ⟨u, by rw [← hu]; congr 2; rw [Nat.add_mul]; omega, hd⟩
  generalize ac.eval = ev at e1 e2 e3 ⊢
  have hk1 : (lo : Int) ≤ (hi : Int) := by omega
  have hk2 : (hi : Int) ≤ (c : Int) := by omega
  have hr : (Instr.sliceAt t (.slice A n c) (some (.int k1 (lo : Int))) (some (.int k2 (hi : Int))) none).run P w' = .ok (.slice (if c = lo then A else A.map (·.add (lo * i.size))) (hi - lo) (c - lo)) w' := by
    simp [Instr.sliceAt, Instr.slice, run_underlying hu, Instr.sliceBounds, Instr.sliceBound, asIntOf, hk1, hk2, hlh, run_sizeOf' hi', go_sem]
    try (intro hlt; omega)
  simp only [execOp, ho, e1, e2, e3, Option.map_some, Option.map_none]
  rw [Sem.run_bind, hr]
  rfl
theorem PureOp.takeStr {t : TypeId} {x y : Operand} {s : ByteArray} {k : Nat} {m : Int} {kd : IntKind} (ho : o.op = .slice t x none (some y) none) (hx : Kn σ x (.one (.str s))) (hy : Kn σ y (.one (.int kd m))) (hm : m = (k : Int)) (hk : k ≤ s.size) (ht : stringB P t = true) : PureOp P o σ (.one (.str (s.extract 0 k))) := by
  subst hm
  refine PureOp.val fun N w0 ρ S ac w hs => ?_
  obtain ⟨e1, hl⟩ : ac.eval x = .string s ∧ _ := hx.sound hs
  have e2 : ac.eval y = .int kd (k : Int) := hy.sound hs
  have hu := stringB_spec ht
  refine ⟨.string (s.extract 0 k), ⟨rfl, ?_⟩, fun w' _ => ?_⟩
  · rw [ByteArray.size_extract]; omega
  generalize ac.eval = ev at e1 e2 ⊢
  have hk2 : (k : Int) ≤ (s.size : Int) := by omega
  have hr : (Instr.sliceAt t (.string s) none (some (.int kd (k : Int))) none).run P w' = .ok (.string (s.extract 0 k)) w' := by
    simp [Instr.sliceAt, Instr.slice, run_underlying hu, Instr.sliceBounds, Instr.sliceBound, asIntOf, hk2, go_sem]
    intro hlt; omega
  simp only [execOp, ho, e1, e2, Option.map_some, Option.map_none]
  rw [Sem.run_bind, hr]
  rfl
theorem PureOp.neNil {t t' : TypeId} {x : Operand} {v : Value} {b : Bool} (ho : o.op = .binOp .neq t x (.const .nilIface) t') (hx : Kn σ x (.one (.con v))) (ht : P.underlying t = some (.interface (P.methodsAt t))) (hv : (v = .nilIface ∧ b = false) ∨ ((∃ u p, v = .iface u p) ∧ b = true)) : PureOp P o σ (.one (.bool b)) := by
  refine PureOp.val fun N w0 ρ S ac w hs => ?_
  have e1 : ac.eval x = v := hx.sound hs
  refine ⟨.bool b, rfl, fun w' _ => ?_⟩
  rcases hv with ⟨rfl, rfl⟩ | ⟨⟨u, p, rfl⟩, rfl⟩
  · generalize hev : ac.eval = ev at e1 ⊢
    have e2 : ev (.const .nilIface) = .nilIface := by rw [← hev]; rfl
    simp [execOp, ho, e1, e2, eqGuard, binOp, run_equal_nil_nil _ _ ht, run_equal_held_nil _ _ _ _ ht, go_sem]
  · generalize hev : ac.eval = ev at e1 ⊢
    have e2 : ev (.const .nilIface) = .nilIface := by rw [← hev]; rfl
    simp [execOp, ho, e1, e2, eqGuard, binOp, run_equal_nil_nil _ _ ht, run_equal_held_nil _ _ _ _ ht, go_sem]
end
theorem D.lst_congr {w : World} {S : Nat → Prop} {sz n m : Nat} {f g : Nat → Nat → AV} {v : Value} (hn : n = m) (hf : ∀ i j, i < n → j < sz → f i j = g i j) (h : D w S (.lst sz n f) v) : D w S (.lst sz m g) v := by
  subst hn
  obtain ⟨A, c, e, h1, h2, h3, h4⟩ := h
  refine ⟨A, c, e, h1, h2, h3, fun i hi => ?_⟩
  obtain ⟨b, off, h5, h6, h7⟩ := h4 i hi
  refine ⟨b, off, h5, h6, fun j hj => ?_⟩
  obtain ⟨u, h8, h9⟩ := h7 j hj
  exact ⟨u, h8, by rw [← hf i j hi hj]; exact h9⟩
theorem FnF.lst_congr {P : Program} {f : FuncId} {args : List SV} {sz n m : Nat} {F G : Nat → Nat → AV} (h : FnF P f args (.one (.lst sz n F))) (hn : n = m) (hf : ∀ i j, i < n → j < sz → F i j = G i j) : FnF P f args (.one (.lst sz m G)) :=
  fun w S vs hS hd => (h w S vs hS hd).mono fun _ _ ⟨v, he, hr, hb⟩ => ⟨v, he, D.lst_congr hn hf hr, hb⟩
end Go.Proofs.YtonfeiloekofdaaGreatDoor

namespace Go.Proofs.YtonfeiloekofdaaGreatDoor
open Go.ChangeShapes Go.WideShapes Go.ChangeAt Go.RowKit Go.BigFrame Go.Deep
set_option linter.unusedVariables false
set_option linter.unusedSimpArgs false
theorem cutL_count (c : UInt8) : ∀ l : List UInt8, 1 ≤ (Rd.cutL c l).length ∧ (Rd.cutL c l).length ≤ l.length + 1
  | [] => ⟨Nat.le_refl _, Nat.le_refl _⟩
  | b :: l => by
    have ih := cutL_count c l
    by_cases hb : b = c
    · subst hb
      rw [Rd.cutL_hit]
      simp only [List.length_cons]
      omega
    · rw [Rd.cutL_miss hb]
      simp only [List.length_cons, List.length_tail]
      omega
theorem line_le {s : ByteArray} {i : Nat} (hi : i < (Rd.cutL 10 s.data.toList).length) (hs : s.size ≤ 20000) : (bs ((Rd.cutL 10 s.data.toList).getD i [])).size ≤ 20000 := by
  have h6 := cut_le hi
  rw [← Lib.size_eq] at h6
  exact Nat.le_trans h6 hs
theorem lines_n {s : ByteArray} (hs : s.size ≤ 20000) : 1 ≤ (Rd.cutL 10 s.data.toList).length ∧ (Rd.cutL 10 s.data.toList).length ≤ 20001 := by
  have h := cutL_count 10 s.data.toList
  rw [← Lib.size_eq] at h
  omega
theorem v_Split (c : UInt8) (s : ByteArray) (hs : s.size ≤ 1048576) : FnF Tryz.prog 65 [.one (.str s), .one (.str ⟨#[c]⟩)] (.one (.lst 1 (Rd.cutL c s.data.toList).length fun i _ => .str (bs ((Rd.cutL c s.data.toList).getD i [])))) := by
  intro w S vs hS hd
  obtain ⟨v, vs1, rfl, ⟨rfl, _⟩, v2, vs2, rfl, ⟨rfl, _⟩, h3⟩ := hd
  obtain rfl : vs2 = [] := h3
  refine (callSplit c s hs rfl hS.pre (Below.refl _ w)).mono ?_
  rintro e w' ⟨rfl, rfl⟩
  refine ⟨_, rfl, ?_, (Below.refl _ w).alloc (Nat.le_refl _) _⟩
  have hcnt := cutL_count c s.data.toList
  rw [← Lib.size_eq] at hcnt
  refine ⟨_, _, rfl, Nat.le_refl _, Nat.le_trans hcnt.2 (by unfold maxLen; omega), (fun e => by cases e), fun i hi => ⟨w.heap.size, 0, rfl, ⟨Nat.le_refl _, by simp⟩, fun j hj => ?_⟩⟩
  obtain rfl : j = 0 := by omega
  have hC : (w.alloc (.cells ((Rd.cutL c s.data.toList).map fun l => Value.string (bs l)).toArray 9)).heap[w.heap.size]? = some (.cells ((Rd.cutL c s.data.toList).map fun l => Value.string (bs l)).toArray 9) := by
    show (w.heap.push _)[w.heap.size]? = _
    simp
  have hc := Lib.cell_of_heap hC i
  refine ⟨.string (bs ((Rd.cutL c s.data.toList).getD i [])), ?_, rfl, ?_⟩
  · rw [show 0 + (i * 1 + 0) = i by omega]
    rw [hc, List.getElem?_toArray]
    exact strs_get _ hi
  · have h6 := cut_le hi
    rw [← Lib.size_eq] at h6
    exact Nat.le_trans h6 (Nat.le_trans hs (by decide))
theorem v_Split10 (s : ByteArray) (hs : s.size ≤ 20000) : FnF Tryz.prog 65 [.one (.str s), .one (.str (⟨#[10]⟩ : ByteArray))] (.one (.lst 1 (Rd.cutL 10 s.data.toList).length fun i _ => .str (bs ((Rd.cutL 10 s.data.toList).getD i [])))) := v_Split 10 s (by omega)
def atoiP (s : ByteArray) (x : Int × Value) : Prop := (Lib.atoiAll s.data.toList = .ok x.1 ∧ x.2 = .nilIface) ∨ ((∀ a, Lib.atoiAll s.data.toList ≠ .ok a) ∧ ∃ t p, x.2 = .iface t p)
theorem v_Atoi (s : ByteArray) (hs : s.size ≤ 1048576) : FnE Tryz.prog 66 [.one (.str s)] (X := Int × Value) (atoiP s) (fun x => .tup2 (.one (.int .i64 x.1)) (.one (.con x.2))) := by
  intro w S vs hS hd
  obtain ⟨v, vs1, rfl, ⟨rfl, _⟩, h3⟩ := hd
  obtain rfl : vs1 = [] := h3
  refine (callAtoi s hs hS.pre (Below.refl _ w)).mono ?_
  rintro e w' ⟨⟨a, ha, rfl⟩ | ⟨hn, z, t, p, rfl⟩, hb⟩
  · exact ⟨(a, .nilIface), _, .inl ⟨ha, rfl⟩, rfl, ⟨_, _, rfl, rfl, rfl⟩, hb⟩
  · exact ⟨(z, .iface t p), _, .inr ⟨hn, t, p, rfl⟩, rfl, ⟨_, _, rfl, rfl, rfl⟩, hb⟩
theorem HeadOf.atoi {s : ByteArray} {h : GHead} (H : HeadOf s h) : Lib.atoiAll (bs ((Rd.cutL 10 s.data.toList).getD 0 [])).data.toList = .ok h.offset := by
  have o := H.off
  rw [data_bs, H.parts.num]
  exact Rd.atoi_itoa (by omega) (by omega)
theorem ih_num {s : ByteArray} {x : Int × Value} (hx : atoiP (bs ((Rd.cutL 10 s.data.toList).getD 0 [])) x) : ∃ b : Bool, (b = true → ∀ h, ¬ HeadOf s h) ∧ (b = false → Lib.atoiAll (bs ((Rd.cutL 10 s.data.toList).getD 0 [])).data.toList = .ok x.1) ∧ ((x.2 = .nilIface ∧ b = false) ∨ ((∃ u p, x.2 = .iface u p) ∧ b = true)) := by
  rcases hx with ⟨h1, h2⟩ | ⟨h1, h2⟩
  · exact ⟨false, (fun e => by cases e), fun _ => h1, .inl ⟨h2, rfl⟩⟩
  · exact ⟨true, fun _ h H => h1 _ H.atoi, (fun e => by cases e), .inr ⟨h2, rfl⟩⟩
theorem ih_no1 {s : ByteArray} {b : Bool} (hb : b = true → ∀ h, ¬ HeadOf s h) (e : cond b true (!decide (bs ((Rd.cutL 10 s.data.toList).getD ((Rd.cutL 10 s.data.toList).length - 1) []) = ByteArray.empty)) = true) : ∀ h, ¬ HeadOf s h := by
  cases b with
  | true => exact hb rfl
  | false =>
    intro h H
    have P := H.parts
    have h1 := P.last
    have h2 := P.cut
    rw [show (Rd.cutL 10 s.data.toList).length - 1 = (saysH h.rows).length + 1 by omega, h1, decide_eq_true (show bs [] = ByteArray.empty from rfl)] at e
    cases e
theorem ih_yes1 {s : ByteArray} {b c : Bool} (e : cond b true c = false) : b = false := by
  cases b with
  | true => cases e
  | false => rfl
theorem ih_no2 {s : ByteArray} {k : Nat} (hk : k < (Rd.cutL 10 s.data.toList).length - 2) (e : (readV (bs ((Rd.cutL 10 s.data.toList).getD (k + 1) []))).2 = false) : ∀ h, ¬ HeadOf s h := by
  intro h H
  have P := H.parts
  have h2 := P.cut
  rw [P.read (by omega)] at e
  cases e
theorem ih_fin {s : ByteArray} {z : Int} (hz : Lib.atoiAll (bs ((Rd.cutL 10 s.data.toList).getD 0 [])).data.toList = .ok z) {h : GHead} (H : HeadOf s h) : (⟨imRows s ((Rd.cutL 10 s.data.toList).length - 2), z⟩ : GHead) = h := by
  have P := H.parts
  have h2 := P.cut
  rw [show (Rd.cutL 10 s.data.toList).length - 2 = (saysH h.rows).length by omega, H.im]
  rw [H.atoi] at hz
  injection hz with hz
  rw [← hz]
theorem ih_no3 {s : ByteArray} {z : Int} (hz : Lib.atoiAll (bs ((Rd.cutL 10 s.data.toList).getD 0 [])).data.toList = .ok z) {k : Nat} (hk : k = (Rd.cutL 10 s.data.toList).length - 2) (e : cond (!goodHead ⟨imRows s k, z⟩) true (!decide (headT ⟨imRows s k, z⟩ = s)) = true) : ∀ h, ¬ HeadOf s h := by
  intro h H
  rw [hk, ih_fin hz H, H.good, decide_eq_true H.text] at e
  cases e
theorem ih_yes3 {s : ByteArray} {z : Int} (hs : s.size ≤ 20000) {k : Nat} (e : cond (!goodHead ⟨imRows s k, z⟩) true (!decide (headT ⟨imRows s k, z⟩ = s)) = false) : HeadOf s ⟨imRows s k, z⟩ := by
  cases hg : goodHead ⟨imRows s k, z⟩ with
  | false => rw [hg] at e; cases e
  | true =>
    rw [hg] at e
    exact ⟨hs, hg, by simpa using e⟩
theorem im_len (s : ByteArray) : ∀ k, (imRows s k).length ≤ k ∧ ∀ i, ((imRows s k).getD i (default : GRow)).samples.length ≤ k
  | 0 => ⟨Nat.le_refl _, fun i => by simp [imRows]; rfl⟩
  | k + 1 => by
    obtain ⟨h1, h2⟩ := im_len s k
    show (addI (imRows s k) _).length ≤ k + 1 ∧ ∀ i, ((addI (imRows s k) _).getD i (default : GRow)).samples.length ≤ k + 1
    generalize (readV _).1 = x
    generalize hl : imRows s k = l at h1 h2 ⊢
    by_cases hc : l.length = 0 ∨ (l.getD (l.length - 1) (default : GRow)).name ≠ x.name
    · rw [addI_new hc]
      refine ⟨by simp; omega, fun i => ?_⟩
      by_cases hi : i < l.length
      · rw [getD_left _ hi]; exact Nat.le_succ_of_le (h2 i)
      · by_cases hi2 : i = l.length
        · subst hi2; rw [getD_mid]; simp
        · rw [List.getD_eq_getElem?_getD, List.getElem?_eq_none (by simp; omega)]; exact Nat.zero_le _
    · have hn : l.length ≠ 0 := fun e => hc (.inl e)
      have hr : addRow l x = l := if_neg hc
      show (addSm (addRow l x) x).length ≤ k + 1 ∧ ∀ i, ((addSm (addRow l x) x).getD i (default : GRow)).samples.length ≤ k + 1
      rw [hr]
      unfold addSm
      refine ⟨by rw [List.length_set]; omega, fun i => ?_⟩
      rw [set_at _ (by omega)]
      split
      · have := h2 (l.length - 1)
        simp only [List.length_append, List.length_singleton]
        omega
      · exact Nat.le_succ_of_le (h2 i)
theorem addI_old {l : List GRow} {x : GSay} (h0 : 0 < l.length) (hn : (l.getD (l.length - 1) (default : GRow)).name = x.name) : addI l x = l.set (l.length - 1) ⟨(l.getD (l.length - 1) (default : GRow)).name, (l.getD (l.length - 1) (default : GRow)).samples ++ [⟨x.at_, x.value⟩]⟩ := by
  have hr : addRow l x = l := if_neg (fun h => h.elim (fun h => by omega) (fun h => h hn))
  unfold addI; rw [hr]; rfl
theorem ih_new {l : List GRow} {x : GSay} (e : cond (decide (((l.length : Nat) : Int) = 0)) true (!decide ((l.getD (l.length - 1) (default : GRow)).name = x.name)) = true) : addI l x = l ++ [⟨x.name, [⟨x.at_, x.value⟩]⟩] := by
  refine addI_new ?_
  by_cases h : l.length = 0
  · exact .inl h
  · rw [decide_eq_false (show ¬ ((l.length : Nat) : Int) = 0 by omega)] at e
    exact .inr (by simpa using e)
theorem ih_old {l : List GRow} {x : GSay} (e : cond (decide (((l.length : Nat) : Int) = 0)) true (!decide ((l.getD (l.length - 1) (default : GRow)).name = x.name)) = false) : 0 < l.length ∧ addI l x = l.set (l.length - 1) ⟨(l.getD (l.length - 1) (default : GRow)).name, (l.getD (l.length - 1) (default : GRow)).samples ++ [⟨x.at_, x.value⟩]⟩ := by
  by_cases h : l.length = 0
  · rw [decide_eq_true (show ((l.length : Nat) : Int) = 0 by omega)] at e; cases e
  · rw [decide_eq_false (show ¬ ((l.length : Nat) : Int) = 0 by omega)] at e
    exact ⟨by omega, addI_old (by omega) (by simpa using e)⟩
def imX (l : List GRow) (x : GSay) (q : Nat) : AV := if q < l.length then rowX0 ⟨l, 0⟩ q else .lst 2 1 (fun a b => ceSample ((([⟨x.at_, x.value⟩] : List GSample)).getD a (default : GSample)) b)
def imY (l : List GRow) (x : GSay) (q : Nat) : AV := if q < l.length - 1 then rowX0 ⟨l, 0⟩ (skP (l.length - 1) q) else .lst 2 ((l.getD (l.length - 1) (default : GRow)).samples.length + 1) (fun a b => ceSample (((l.getD (l.length - 1) (default : GRow)).samples ++ ([⟨x.at_, x.value⟩] : List GSample)).getD a (default : GSample)) b)
theorem imX_lt {l : List GRow} {x : GSay} {q : Nat} (hq : q < l.length) : imX l x q = rowX0 ⟨l, 0⟩ q := if_pos hq
theorem imX_n (l : List GRow) (x : GSay) : imX l x l.length = .lst 2 1 (fun a b => ceSample ((([⟨x.at_, x.value⟩] : List GSample)).getD a (default : GSample)) b) := if_neg (Nat.lt_irrefl _)
theorem imY_n (l : List GRow) (x : GSay) : imY l x (l.length - 1) = .lst 2 ((l.getD (l.length - 1) (default : GRow)).samples.length + 1) (fun a b => ceSample (((l.getD (l.length - 1) (default : GRow)).samples ++ ([⟨x.at_, x.value⟩] : List GSample)).getD a (default : GSample)) b) := if_neg (Nat.lt_irrefl _)
theorem imY_hole {l : List GRow} {x : GSay} {vv : Value} {q : Nat} (hq : q < l.length - 1) : (if skP (l.length - 1) q = l.length - 1 then .con vv else rowX0 ⟨l, 0⟩ (skP (l.length - 1) q)) = imY l x q := by
  rw [if_neg (by unfold skP; split <;> omega), imY, if_pos hq]
theorem im_cellN {x : GSay} {i j : Nat} (hi : i < 0 + 1) (hj : j < 2) : (if i < 0 then (.con undef : AV) else ([.int .i64 x.at_, .int .i64 x.value] : List AV).getD j (.con undef)) = ceSample ((([⟨x.at_, x.value⟩] : List GSample)).getD i (default : GSample)) j := by
  obtain rfl : i = 0 := by omega
  rw [if_neg (Nat.not_lt_zero _)]
  exact (match j, hj with | 0, _ => rfl | 1, _ => rfl | _ + 2, h => absurd h (by omega))
theorem im_cell {m : List GSample} {x : GSay} {i j : Nat} (hi : i < m.length + 1) (hj : j < 2) : (if i < m.length then ceSample (m.getD i (default : GSample)) j else ([.int .i64 x.at_, .int .i64 x.value] : List AV).getD j (.con undef)) = ceSample ((m ++ ([⟨x.at_, x.value⟩] : List GSample)).getD i (default : GSample)) j := by
  by_cases h1 : i < m.length
  · rw [if_pos h1, getD_left _ h1]
  · rw [if_neg h1, show i = m.length by omega, getD_mid]
    exact (match j, hj with | 0, _ => rfl | 1, _ => rfl | _ + 2, h => absurd h (by omega))
theorem im_rowN {l : List GRow} {x : GSay} {z : Int} {a b : Nat} (ha : a < l.length + 1) (hb : b < 2) : (if a = l.length ∧ b = 1 then .tre 500 l.length else if a < l.length then rowC0 ⟨l, z⟩ 500 a b else ([.str x.name, .con (.slice none 0 0)] : List AV).getD b (.con undef)) = rowC0 ⟨l ++ [⟨x.name, [⟨x.at_, x.value⟩]⟩], z⟩ 500 a b := by
  unfold rowC0
  by_cases h1 : a < l.length
  · rw [if_neg (by omega), if_pos h1]
    show _ = ([.str ((l ++ [(⟨x.name, [⟨x.at_, x.value⟩]⟩ : GRow)]).getD a (default : GRow)).name, .tre 500 a] : List AV).getD b (.con undef)
    rw [getD_left _ h1]
  · obtain rfl : a = l.length := by omega
    show _ = ([.str ((l ++ [(⟨x.name, [⟨x.at_, x.value⟩]⟩ : GRow)]).getD l.length (default : GRow)).name, .tre 500 l.length] : List AV).getD b (.con undef)
    rw [getD_mid]
    exact (match b, hb with
      | 0, _ => by rw [if_neg (by omega), if_neg (Nat.lt_irrefl _)]; rfl
      | 1, _ => by rw [if_pos ⟨rfl, rfl⟩]; rfl
      | _ + 2, h => absurd h (by omega))
theorem im_famN {l : List GRow} {x : GSay} {z : Int} {q : Nat} (hq : q < l.length + 1) : imX l x q = rowX0 ⟨l ++ [⟨x.name, [⟨x.at_, x.value⟩]⟩], z⟩ q := by
  unfold imX rowX0
  by_cases h1 : q < l.length
  · rw [if_pos h1]
    show AV.lst 2 (l.getD q (default : GRow)).samples.length _ = AV.lst 2 ((l ++ [(⟨x.name, [⟨x.at_, x.value⟩]⟩ : GRow)]).getD q (default : GRow)).samples.length (fun a b => ceSample (((l ++ [(⟨x.name, [⟨x.at_, x.value⟩]⟩ : GRow)]).getD q (default : GRow)).samples.getD a (default : GSample)) b)
    rw [getD_left _ h1]
  · obtain rfl : q = l.length := by omega
    rw [if_neg h1]
    show _ = AV.lst 2 ((l ++ [(⟨x.name, [⟨x.at_, x.value⟩]⟩ : GRow)]).getD l.length (default : GRow)).samples.length (fun a b => ceSample (((l ++ [(⟨x.name, [⟨x.at_, x.value⟩]⟩ : GRow)]).getD l.length (default : GRow)).samples.getD a (default : GSample)) b)
    rw [getD_mid]
    rfl
theorem im_rowS {l : List GRow} {r : GRow} {z : Int} (h0 : 0 < l.length) (hr : r.name = (l.getD (l.length - 1) (default : GRow)).name) {a b : Nat} (ha : a < l.length) (hb : b < 2) : (if a = l.length - 1 ∧ b = 1 then .tre 78 (l.length - 1) else if a = l.length - 1 ∧ b = 1 then .tre 500 (l.length - 1) else rowC0 ⟨l, z⟩ 78 a b) = rowC0 ⟨l.set (l.length - 1) r, z⟩ 78 a b := by
  unfold rowC0
  show _ = ([.str ((l.set (l.length - 1) r).getD a (default : GRow)).name, .tre 78 a] : List AV).getD b (.con undef)
  rw [set_at _ (by omega)]
  by_cases e : a = l.length - 1 ∧ b = 1
  · rw [if_pos e, e.1, e.2]; rfl
  · rw [if_neg e, if_neg e]
    have hx : (if a = l.length - 1 then r else l.getD a (default : GRow)).name = (l.getD a (default : GRow)).name := by
      by_cases e2 : a = l.length - 1
      · rw [if_pos e2, e2, hr]
      · rw [if_neg e2]
    rw [hx]
theorem im_famS {l : List GRow} {x : GSay} {z : Int} {nm : ByteArray} (h0 : 0 < l.length) {q : Nat} (hq : q < l.length) : imY l x (pmI (l.length - 1) (l.length - 1) q) = rowX0 ⟨l.set (l.length - 1) ⟨nm, (l.getD (l.length - 1) (default : GRow)).samples ++ [⟨x.at_, x.value⟩]⟩, z⟩ q := by
  have hp : pmI (l.length - 1) (l.length - 1) q = q := by
    unfold pmI
    by_cases e : q < l.length - 1
    · rw [if_pos e]
    · rw [if_neg e, if_pos (by omega)]; omega
  rw [hp]
  unfold imY rowX0
  show _ = AV.lst 2 ((l.set (l.length - 1) (⟨nm, (l.getD (l.length - 1) (default : GRow)).samples ++ [⟨x.at_, x.value⟩]⟩ : GRow)).getD q (default : GRow)).samples.length (fun a b => ceSample (((l.set (l.length - 1) (⟨nm, (l.getD (l.length - 1) (default : GRow)).samples ++ [⟨x.at_, x.value⟩]⟩ : GRow)).getD q (default : GRow)).samples.getD a (default : GSample)) b)
  rw [set_at _ (by omega)]
  by_cases e : q < l.length - 1
  · rw [if_pos e, if_neg (by omega), skP, if_pos e]
  · rw [if_neg e, if_pos (by omega), List.length_append]; rfl
end Go.Proofs.YtonfeiloekofdaaGreatDoor

namespace Go.Proofs.YtonfeiloekofdaaGreatDoor
open Go.ChangeShapes Go.WideShapes Go.ChangeAt Go.RowKit Go.BigFrame Go.Deep
set_option linter.unusedVariables false
set_option linter.unusedSimpArgs false
theorem cutL_snoc (c : UInt8) : ∀ l : List UInt8, Rd.cutL c (l ++ [c]) = Rd.cutL c l ++ [[]]
  | [] => by rw [List.nil_append, Rd.cutL_hit]; rfl
  | b :: l => by
    have ih := cutL_snoc c l
    by_cases hb : b = c
    · subst hb
      rw [List.cons_append, Rd.cutL_hit, Rd.cutL_hit, ih]; rfl
    · rw [List.cons_append, Rd.cutL_miss hb, Rd.cutL_miss hb, ih]
      have hne := Rd.cutL_ne c l
      match Rd.cutL c l, hne with
      | x :: r, _ => rfl
theorem last_ten {s : ByteArray} (h0 : 1 ≤ s.size) (h : byteAt s (s.size - 1) = 10) : s.data.toList = (s.extract 0 (s.size - 1)).data.toList ++ [10] := by
  have hlt : s.size - 1 < s.size := by omega
  have hsl := Lib.size_eq s
  have h3 : s.data.toList[s.size - 1]? = some (s.get (s.size - 1) hlt) := by rw [List.getElem?_eq_getElem (by rw [← hsl]; exact hlt)]; rfl
  have h4 : s.get (s.size - 1) hlt = 10 := by
    unfold byteAt at h
    rw [dif_pos hlt] at h
    apply UInt8.toNat_inj.1
    show _ = 10
    omega
  rw [h4] at h3
  have h5 : (s.extract 0 (s.size - 1)).data.toList = s.data.toList.take (s.size - 1) := by
    rw [Lib.extract_eq]
    show ((s.data.toList.drop 0).take (s.size - 1 - 0)) = _
    rw [List.drop_zero, Nat.sub_zero]
  rw [h5]
  conv => lhs; rw [← List.take_append_drop (s.size - 1) s.data.toList]
  congr 1
  have h6 := (List.getElem?_eq_some_iff.1 h3)
  obtain ⟨h7, h8⟩ := h6
  rw [List.drop_eq_getElem_cons h7, h8, List.drop_eq_nil_of_le (by omega)]
theorem but_last {s : ByteArray} (h0 : 1 ≤ s.size) (h : byteAt s (s.size - 1) = 10) : Rd.cutL 10 s.data.toList = Rd.cutL 10 (s.extract 0 (s.size - 1)).data.toList ++ [[]] := by
  conv => lhs; rw [last_ten h0 h]
  exact cutL_snoc 10 _
theorem but_len {s : ByteArray} (h0 : 1 ≤ s.size) (h : byteAt s (s.size - 1) = 10) : 2 ≤ (Rd.cutL 10 s.data.toList).length := by
  rw [but_last h0 h, List.length_append, List.length_singleton]
  have := (cutL_count 10 (s.extract 0 (s.size - 1)).data.toList).1
  omega
theorem v_l3SplitB (s : ByteArray) (hs : s.size ≤ 20000) (h0 : 1 ≤ s.size) (h : byteAt s (s.size - 1) = 10) : FnF Tryz.prog 38 [.one (.str (s.extract 0 (s.size - 1))), .one (.int .u8 10)] (.one (.lst 1 ((Rd.cutL 10 s.data.toList).length - 1) fun i _ => .str (bs ((Rd.cutL 10 s.data.toList).getD i [])))) := by
  have hb := but_last h0 h
  have h1 : FnF Tryz.prog 38 [.one (.str (s.extract 0 (s.size - 1))), .one (.int .u8 10)] _ := v_l3Split 10 (s.extract 0 (s.size - 1)) (by rw [ByteArray.size_extract]; omega)
  refine h1.lst_congr ?_ fun i j hi _ => ?_
  · rw [hb, List.length_append, List.length_singleton]; rfl
  · rw [hb, getD_left _ hi]
theorem HeadOf.ends {s : ByteArray} {h : GHead} (H : HeadOf s h) : 1 ≤ s.size ∧ byteAt s (s.size - 1) = 10 := by
  have hd : ∃ l, s.data.toList = l ++ [10] := by
    rw [← H.text, headT_data]
    have : ∀ l : List GSay, ∀ a : List UInt8, ∃ r, a ++ 10 :: linesT l = r ++ [10] := by
      intro l
      induction l with
      | nil => exact fun a => ⟨a, rfl⟩
      | cons x l ih =>
        intro a
        obtain ⟨r, hr⟩ := ih (a ++ 10 :: (sayT x).data.toList)
        refine ⟨r, ?_⟩
        rw [← hr]
        simp [linesT]
    exact this _ _
  obtain ⟨l, hl⟩ := hd
  have hsl := Lib.size_eq s
  have hlen : s.data.toList.length = l.length + 1 := by rw [hl]; simp
  have h1 : 1 ≤ s.size := by omega
  refine ⟨h1, ?_⟩
  have hlt : s.size - 1 < s.size := by omega
  have h3 : s.data.toList[s.size - 1]? = some (s.get (s.size - 1) hlt) := by rw [List.getElem?_eq_getElem (by rw [← hsl]; exact hlt)]; rfl
  have h4 : byteAt s (s.size - 1) = ((s.get (s.size - 1) hlt).toNat : Int) := by unfold byteAt; rw [dif_pos hlt]
  rw [h4]
  generalize s.get (s.size - 1) hlt = b at h3 ⊢
  rw [hl, show s.size - 1 = l.length by omega, List.getElem?_append_right (Nat.le_refl _), Nat.sub_self] at h3
  have h6 : (10 : UInt8) = b := Option.some.inj h3
  rw [← h6]; rfl
theorem js_no1 {s : ByteArray} (e : cond (!inB 1 20000 (s.size : Int)) true (!decide (byteAt s (s.size - 1) = 10)) = true) : ∀ h, ¬ HeadOf s h := by
  intro h H
  obtain ⟨h1, h2⟩ := H.ends
  have h3 := H.len
  rw [show inB 1 20000 (s.size : Int) = true from decide_eq_true ⟨by omega, by omega⟩, decide_eq_true h2] at e
  cases e
theorem js_yes1 {s : ByteArray} (e : cond (!inB 1 20000 (s.size : Int)) true (!decide (byteAt s (s.size - 1) = 10)) = false) : (1 ≤ s.size ∧ s.size ≤ 20000) ∧ byteAt s (s.size - 1) = 10 := by
  cases h : inB 1 20000 (s.size : Int) with
  | false => rw [h] at e; cases e
  | true =>
    rw [h] at e
    have := inB_true h
    exact ⟨by omega, by simpa using e⟩
theorem HeadOf.int {s : ByteArray} {h : GHead} (H : HeadOf s h) : Rd.intL (bs ((Rd.cutL 10 s.data.toList).getD 0 [])).data.toList = (h.offset, true) := by
  have o := H.off
  rw [data_bs, H.parts.num]
  exact Rd.intL_itoa (by omega) (by omega)
theorem js_no2 {s : ByteArray} (e : cond (!(Rd.intL (bs ((Rd.cutL 10 s.data.toList).getD 0 [])).data.toList).2) true (!inB 0 1000 (Rd.intL (bs ((Rd.cutL 10 s.data.toList).getD 0 [])).data.toList).1) = true) : ∀ h, ¬ HeadOf s h := by
  intro h H
  have o := H.off
  rw [H.int] at e
  have h1 : inB 0 1000 h.offset = true := decide_eq_true ⟨o.1, o.2⟩
  simp only [h1] at e
  cases e
theorem js_yes2 {r : Int × Bool} (e : cond (!r.2) true (!inB 0 1000 r.1) = false) : r.2 = true ∧ inB 0 1000 r.1 = true := by
  revert e
  cases r.2 <;> cases inB 0 1000 r.1 <;> decide
theorem js_no3 {s : ByteArray} {k : Nat} (hk : k < (Rd.cutL 10 s.data.toList).length - 2) (e : (rdX (bs ((Rd.cutL 10 s.data.toList).getD (k + 1) []))).2 = false) : ∀ h, ¬ HeadOf s h := by
  intro h H
  have P := H.parts
  have h2 := P.cut
  rw [P.readX (by omega)] at e
  cases e
theorem js_no4 {s : ByteArray} {k : Nat} (hk : k < (Rd.cutL 10 s.data.toList).length - 2) (e : ¬ takeCode (spHead s k) (rdX (bs ((Rd.cutL 10 s.data.toList).getD (k + 1) []))).1 = 1) : ∀ h, ¬ HeadOf s h := by
  intro h H
  have h2 := H.parts.cut
  exact e (H.code (by omega))
theorem js_head {s : ByteArray} {h : GHead} (H : HeadOf s h) : (⟨(spHead s ((Rd.cutL 10 s.data.toList).length - 2)).rows, (Rd.intL (bs ((Rd.cutL 10 s.data.toList).getD 0 [])).data.toList).1⟩ : GHead) = h := by
  have h2 := H.parts.cut
  rw [show (Rd.cutL 10 s.data.toList).length - 2 = (saysH h.rows).length by omega, H.sp, H.int]
theorem js_no5 {s : ByteArray} {k : Nat} (hk : k = (Rd.cutL 10 s.data.toList).length - 2) (e : ¬ headT ⟨(spHead s k).rows, (Rd.intL (bs ((Rd.cutL 10 s.data.toList).getD 0 [])).data.toList).1⟩ = s) : ∀ h, ¬ HeadOf s h := by
  intro h H
  rw [hk, js_head H] at e
  exact e H.text
theorem rdX_say {s : ByteArray} (h : (rdX s).2 = true) : sayB (rdX s).1 = true := by
  unfold rdX at h ⊢
  by_cases hc : (Rd.cutL 32 s.data.toList).length = 3
  · rw [if_pos hc] at h ⊢
    simp only [Bool.cond_false_right, Bool.and_eq_true] at h
    exact h.2
  · rw [if_neg hc] at h; cases h
theorem sp_off (s : ByteArray) : ∀ k, (spHead s k).offset = (k : Int)
  | 0 => rfl
  | k + 1 => by
    show (spHead s k).offset + 1 = _
    rw [sp_off s k]; omega
theorem sp_good {s : ByteArray} : ∀ k, (∀ j, j < k → (rdX (bs ((Rd.cutL 10 s.data.toList).getD (j + 1) []))).2 = true) → goodHead ⟨(spHead s k).rows, 0⟩ = true
  | 0, _ => by show goodHead ⟨[], 0⟩ = true; decide
  | k + 1, h => good_take (sp_good k fun j hj => h j (by omega)) (rdX_say (h k (by omega)))
theorem sp_goodO {s : ByteArray} {k : Nat} {o : Int} (h : goodHead ⟨(spHead s k).rows, 0⟩ = true) (ho : inB 0 1000 o = true) : goodHead ⟨(spHead s k).rows, o⟩ = true := (GoodR.of h).good ho
end Go.Proofs.YtonfeiloekofdaaGreatDoor

namespace Go.Proofs.YtonfeiloekofdaaGreatDoor
open Go.ChangeShapes Go.WideShapes Go.ChangeAt Go.RowKit Go.BigFrame Go.Deep
set_option linter.unusedVariables false
set_option linter.unusedSimpArgs false
theorem f74_ : callB Tryz.prog 40 = true := by kernel_rfl
set_option maxHeartbeats 1000000 in
set_option maxRecDepth 20000 in
theorem v_sReadHead (s : ByteArray) : FnT Tryz.prog 10 [.one (.str s)] (.tup2 (.agg [.lst 2 ((((headRV s).1).rows).length) (fun i0 j0 => ([.str (((((headRV s).1).rows).getD i0 (default : GRow)).name), .lst 2 ((((((headRV s).1).rows).getD i0 (default : GRow)).samples).length) (fun i1 j1 => ([.int .i64 (((((((headRV s).1).rows).getD i0 (default : GRow)).samples).getD i1 (default : GSample)).at_), .int .i64 (((((((headRV s).1).rows).getD i0 (default : GRow)).samples).getD i1 (default : GSample)).value)] : List AV).getD j1 (.con undef))] : List AV).getD j0 (.con undef)), .int .i64 (((headRV s).1).offset)]) (.one (.bool ((headRV s).2)))) := by
 refine FnT.of_body (fn := Tryz.f10) Tryz.func10 rfl (nB rfl)  ?_
 intro w0
 show AW _ 83 _ _ _ _
 refine AW.boundS (t := 0) rfl fun hx => ?_
 refine AW.seq ?_
 refine AW.region ?_
 refine ARun.alloc (id := 0) (l := [.con (.slice none 0 0), .int .i64 0]) (z := (.agg #[.slice none 0 0, .int .i64 0])) rfl (by kernel_rfl) (fun _ _ _ => ⟨_, _, rfl, rfl, ⟨_, _, rfl, rfl, rfl⟩⟩) ⟨rfl, (by repeat first | exact trivial | refine ⟨by decide, by first | rfl | exact trivial | (intro a_ b_; first | exact getD_no rfl | exact rowC0_no rfl _ _ | ((try dsimp only); (repeat' split) <;> first | rfl | exact rowC0_no rfl _ _ | exact getD_no rfl)), ?_⟩)⟩ rfl rfl rfl (nB rfl) ?_
 refine pu (.assign rfl .bool) rfl rfl rfl ?_
 refine ARun.nil ?_
 refine AW.seq ?_
 refine AW.seq ?_
 refine AW.region ?_
 refine pu (.move rfl (.tmp rfl)) rfl rfl rfl ?_
 refine pu (.lenStr rfl (.tmp rfl) f20_) rfl rfl rfl ?_
 refine pu (.call rfl (v_l1In (s.size : Int) 1 20000) ⟨⟨_, (.tmp rfl), .int⟩, ⟨_, .int, .int⟩, ⟨_, .int, .int⟩, trivial⟩ f18_ trivial) rfl rfl rfl ?_
 refine pu (.not rfl (.tmp rfl)) rfl rfl rfl ?_
 refine pu (.move rfl (.tmp rfl)) rfl rfl rfl ?_
 refine ARun.gpure (want := false) (.tf rfl) (fun hg1 => PureOp.move rfl (.tmp rfl)) rfl rfl (nB rfl) rfl (nB rfl) ?_
 refine ARun.gpure (want := false) (.tf rfl) (fun hg2 => PureOp.move rfl (.tmp rfl)) rfl rfl (nB rfl) rfl (nB rfl) ?_
 refine ARun.gpure (want := false) (.tf rfl) (fun hg3 => PureOp.lenStr rfl (.gtmp rfl hg3) f20_) rfl rfl (nB rfl) rfl (nB rfl) ?_
 refine ARun.gpure (want := false) (.tf rfl) (fun hg4 => PureOp.sub (c := (((s.size - 1) : Nat) : Int)) rfl (.gtmp rfl hg4) .int (by have q := hg4; simp only [Bool.cond_true_left, Bool.cond_false_right, Bool.not_eq_true', Bool.or_eq_false_iff, Bool.not_eq_false', Bool.and_eq_true, Bool.not_not, decide_eq_true_eq, decide_eq_false_iff_not, inB] at q; rw [wrap_id (by omega) (by omega)]; omega)) rfl rfl (nB rfl) rfl (nB rfl) ?_
 refine ARun.gpure (want := false) (.tf rfl) (fun hg5 => PureOp.indexStrAt (i := (s.size - 1)) rfl (.gtmp rfl hg5) f20_ (.gtmp rfl hg5) rfl (by have q := hg5; simp only [Bool.cond_true_left, Bool.cond_false_right, Bool.not_eq_true', Bool.or_eq_false_iff, Bool.not_eq_false', Bool.and_eq_true, Bool.not_not, decide_eq_true_eq, decide_eq_false_iff_not, inB] at q; exact (show (s.size - 1) < _ from by omega))) rfl rfl (nB rfl) rfl (nB rfl) ?_
 refine ARun.gpure (want := false) (.tf rfl) (fun hg6 => PureOp.intOp rfl (.gtmp rfl hg6) .int rfl) rfl rfl (nB rfl) rfl (nB rfl) ?_
 refine pu (.pick rfl (.tmp rfl) (fun _ => .bool) (fun hp8 => .gtmp rfl (not_of hp8))) rfl rfl rfl ?_
 refine ARun.nil ?_
 refine AW.cond (.tmp rfl) (fun hb9 => ?_) (fun hb9 => ?_)
 ·
  have hno : ∀ h, ¬ HeadOf s h := js_no1 hb9
  refine AW.seq ?_
  refine AW.region ?_
  refine pu (.build (ys := []) (l := [.con (.slice none 0 0), .int .i64 0]) (pl := [(0, 1), (1, 1)]) (z := (.agg #[.slice none 0 0, .int .i64 0])) rfl (by kernel_rfl) (by kernel_rfl) (fun _ _ _ => ⟨_, _, rfl, rfl, ⟨_, _, rfl, rfl, rfl⟩⟩) trivial rfl) rfl rfl rfl ?_
  refine ARun.store rfl (.tmp rfl) (.tmp rfl) (SV.cells_of (by exact ⟨⟨rfl, (fun _ e => by cases e), (fun _ e => by cases e)⟩, trivial, trivial⟩)) rfl (nB rfl) f37_ rfl rfl ?_
  refine pu (.assign rfl .bool) rfl rfl rfl ?_
  refine ARun.nil ?_
  rw [headRV_no hno]
  exact AW.ret (show ∃ s t, ResL _ _ [.cell 2 25, .tmp 3] s ∧ TvS _ (ofLeaf t) 0 s _ from ⟨_, fun a b => 1000, .inr (.inl ⟨_, _, _, _, rfl, .cells rfl f26_ rfl rfl (nB rfl) (nB rfl), .tmp rfl, rfl⟩), ⟨⟨.nil, .int, trivial⟩, .bool⟩⟩)
 ·
  obtain ⟨⟨hs1, hs2⟩, hten⟩ := js_yes1 hb9
  have hL2 := but_len hs1 hten
  obtain ⟨_, hL3⟩ := lines_n hs2
  have hln0 := line_le (s := s) (i := 0) (by omega) hs2
  have hln0' : (bs ((Rd.cutL 10 s.data.toList).getD 0 [])).size ≤ 1048576 := by omega
  refine AW.skip ?_
  refine AW.seq ?_
  refine AW.region ?_
  refine pu (.move rfl (.tmp rfl)) rfl rfl rfl ?_
  refine pu (.move rfl (.tmp rfl)) rfl rfl rfl ?_
  refine pu (.lenStr rfl (.tmp rfl) f20_) rfl rfl rfl ?_
  refine pu (.sub (c := (((s.size - 1) : Nat) : Int)) rfl (.tmp rfl) .int (by rw [wrap_id (by omega) (by omega)]; omega)) rfl rfl rfl ?_
  refine pu (.takeStr (k := (s.size - 1)) rfl (.tmp rfl) (.tmp rfl) rfl (show s.size - 1 ≤ s.size from by omega) f20_) rfl rfl rfl ?_
  refine ARun.fresh (FreshOp.callS rfl (v_l3SplitB s hs2 hs1 hten) ⟨⟨_, (.tmp rfl), .str⟩, ⟨_, .int, .int⟩, trivial⟩ f59_ rfl) rfl rfl (nB rfl) ?_
  refine pu (.assign rfl (.tmp rfl)) rfl rfl rfl ?_
  refine ARun.nil ?_
  refine AW.seq ?_
  refine AW.region ?_
  refine pu (.move rfl (.tmp rfl)) rfl rfl rfl ?_
  refine pu (.indexLst (i := 0) rfl (.frs (.tmp rfl)) f3_ .int rfl (by exact (show 0 < _ from by omega))) rfl rfl rfl ?_
  refine pu (.loadRef rfl (.tmp rfl) f12_ (nB rfl)) rfl rfl rfl ?_
  refine pu (.call rfl (v_l13Int (bs ((Rd.cutL 10 s.data.toList).getD 0 [])) (by assumption)) ⟨⟨_, (.tmp rfl), .str⟩, trivial⟩ f60_ ⟨trivial, trivial⟩) rfl rfl rfl ?_
  refine pu (.move rfl (.tmp rfl)) rfl rfl rfl ?_
  refine pu (.ext2a rfl (.tmp rfl)) rfl rfl rfl ?_
  refine pu (.ext2b rfl (.tmp rfl)) rfl rfl rfl ?_
  refine pu (.assign rfl (.tmp rfl)) rfl rfl rfl ?_
  refine pu (.assign rfl (.tmp rfl)) rfl rfl rfl ?_
  refine ARun.nil ?_
  refine AW.seq ?_
  refine AW.seq ?_
  refine AW.region ?_
  refine pu (.move rfl (.tmp rfl)) rfl rfl rfl ?_
  refine pu (.not rfl (.tmp rfl)) rfl rfl rfl ?_
  refine pu (.move rfl (.tmp rfl)) rfl rfl rfl ?_
  refine ARun.gpure (want := false) (.tf rfl) (fun hg10 => PureOp.move rfl (.tmp rfl)) rfl rfl (nB rfl) rfl (nB rfl) ?_
  refine ARun.gpure (want := false) (.tf rfl) (fun hg11 => PureOp.call rfl (v_l1In ((Rd.intL (bs ((Rd.cutL 10 s.data.toList).getD 0 [])).data.toList).1) 0 1000) ⟨⟨_, (.gtmp rfl hg11), .int⟩, ⟨_, .int, .int⟩, ⟨_, .int, .int⟩, trivial⟩ f18_ trivial) rfl rfl (nB rfl) rfl (nB rfl) ?_
  refine ARun.gpure (want := false) (.tf rfl) (fun hg12 => PureOp.not rfl (.gtmp rfl hg12)) rfl rfl (nB rfl) rfl (nB rfl) ?_
  refine pu (.pick rfl (.tmp rfl) (fun _ => .bool) (fun hp14 => .gtmp rfl (not_of hp14))) rfl rfl rfl ?_
  refine ARun.nil ?_
  refine AW.cond (.tmp rfl) (fun hb15 => ?_) (fun hb15 => ?_)
  ·
   have hno : ∀ h, ¬ HeadOf s h := js_no2 hb15
   refine AW.seq ?_
   refine AW.region ?_
   refine pu (.build (ys := []) (l := [.con (.slice none 0 0), .int .i64 0]) (pl := [(0, 1), (1, 1)]) (z := (.agg #[.slice none 0 0, .int .i64 0])) rfl (by kernel_rfl) (by kernel_rfl) (fun _ _ _ => ⟨_, _, rfl, rfl, ⟨_, _, rfl, rfl, rfl⟩⟩) trivial rfl) rfl rfl rfl ?_
   refine ARun.store rfl (.tmp rfl) (.tmp rfl) (SV.cells_of (by exact ⟨⟨rfl, (fun _ e => by cases e), (fun _ e => by cases e)⟩, trivial, trivial⟩)) rfl (nB rfl) f37_ rfl rfl ?_
   refine pu (.assign rfl .bool) rfl rfl rfl ?_
   refine ARun.nil ?_
   rw [headRV_no hno]
   exact AW.ret (show ∃ s t, ResL _ _ [.cell 2 25, .tmp 3] s ∧ TvS _ (ofLeaf t) 0 s _ from ⟨_, fun a b => 1000, .inr (.inl ⟨_, _, _, _, rfl, .cells rfl f26_ rfl rfl (nB rfl) (nB rfl), .tmp rfl, rfl⟩), ⟨⟨.nil, .int, trivial⟩, .bool⟩⟩)
  ·
   obtain ⟨hr2, hr1⟩ := js_yes2 hb15
   refine AW.skip ?_
   refine AW.seq ?_
   refine AW.region ?_
   refine ARun.alloc (id := 1) (l := [.con (.slice none 0 0), .int .i64 0]) (z := (.agg #[.slice none 0 0, .int .i64 0])) rfl (by kernel_rfl) (fun _ _ _ => ⟨_, _, rfl, rfl, ⟨_, _, rfl, rfl, rfl⟩⟩) ⟨rfl, (by repeat first | exact trivial | refine ⟨by decide, by first | rfl | exact trivial | (intro a_ b_; first | exact getD_no rfl | exact rowC0_no rfl _ _ | ((try dsimp only); (repeat' split) <;> first | rfl | exact rowC0_no rfl _ _ | exact getD_no rfl)), ?_⟩)⟩ rfl rfl rfl (nB rfl) ?_
   refine ARun.nil ?_
   refine AW.seq ?_
   refine AW.seq ?_
   refine AW.region ?_
   refine pu (.move rfl (.tmp rfl)) rfl rfl rfl ?_
   refine pu (.lstEq (n' := ((Rd.cutL 10 s.data.toList).length - 2)) (f' := fun i_ _ => .str (bs ((Rd.cutL 10 s.data.toList).getD (i_ + 1) []))) (PureOp.dropLst (k := 1) rfl (.frs (.tmp rfl)) .int rfl (show 1 ≤ _ from by omega) f3_) (by omega) (fun _ _ _ _ => rfl)) rfl rfl rfl ?_
   refine pu (.lenLst rfl (.tmp rfl) f14_) rfl rfl rfl ?_
   refine pu (.move rfl .int) rfl rfl rfl ?_
   refine ARun.nil ?_
   refine AW.block ?_
   refine AW.fam (id := 3) (rowX0 (spHead s 0)) ⟨rfl, (by repeat first | exact trivial | refine ⟨by decide, by first | rfl | exact trivial | (intro a_ b_; first | exact getD_no rfl | exact rowC0_no rfl _ _ | ((try dsimp only); (repeat' split) <;> first | rfl | exact rowC0_no rfl _ _ | exact getD_no rfl)), ?_⟩)⟩ ?_
   refine AW.nilCell 1 0 2 2 _ (rowC0 (spHead s 0) 3) rfl rfl ⟨rfl, (by repeat first | exact trivial | refine ⟨by decide, by first | rfl | exact trivial | (intro a_ b_; first | exact getD_no rfl | exact rowC0_no rfl _ _ | ((try dsimp only); (repeat' split) <;> first | rfl | exact rowC0_no rfl _ _ | exact getD_no rfl)), ?_⟩)⟩ ?_
   -- objects are renamed
   refine AW.loopR (ι := Nat) (fun k => ⟨[(0, .one (.str s)), (2, .one (.ptr 0 2 0 0)), (5, .one (.int .i64 ((Rd.intL (bs ((Rd.cutL 10 s.data.toList).getD 0 [])).data.toList).1))), (7, .one (.ptr 1 2 0 0)), (49, .one (.lst 1 ((Rd.cutL 10 s.data.toList).length - 2) (fun i_ _ => .str (bs ((Rd.cutL 10 s.data.toList).getD (i_ + 1) []))))), (50, .one (.int .i64 ((((Rd.cutL 10 s.data.toList).length - 2) : Nat) : Int))), (51, .one (.int .i64 (k : Int)))], [(0, .cells [.con (.slice none 0 0), .int .i64 0]), (1, .cells [.own 2 2 ((spHead s k).rows.length), .int .i64 ((spHead s k).offset)]), (2, .arr 2 ((spHead s k).rows.length) (rowC0 (spHead s k) 3)), (3, .trees ((spHead s k).rows.length) (rowX0 (spHead s k)))]⟩) (fun k => k ≤ (Rd.cutL 10 s.data.toList).length - 2 ∧ ∀ j, j < k → (rdX (bs ((Rd.cutL 10 s.data.toList).getD (j + 1) []))).2 = true) (fun k => (Rd.cutL 10 s.data.toList).length - 2 - k) 0 ⟨Nat.zero_le _, fun j hj => absurd hj (by omega)⟩ ⟨⟨⟨_, rfl, rfl⟩, ⟨_, rfl, rfl⟩, ⟨_, rfl, rfl⟩, ⟨_, rfl, rfl⟩, ⟨_, rfl, rfl⟩, ⟨_, rfl, rfl⟩, ⟨_, rfl, rfl⟩, trivial⟩, ⟨⟨_, rfl, rfl, Nat.le_refl _, fun _ _ _ _ => rfl⟩, ⟨_, rfl, rfl, Nat.le_refl _, fun _ _ _ _ => rfl⟩, ⟨_, rfl, rfl, Nat.le_refl _, fun _ _ _ _ => rfl⟩, ⟨_, rfl, fun _ _ => rfl⟩, trivial⟩⟩ ?_
   intro k hI
   obtain ⟨hk, hok⟩ := hI
   refine AW.seq ?_
   refine AW.region ?_
   refine pu (.intOp rfl (.tmp rfl) (.tmp rfl) rfl) rfl rfl rfl ?_
   refine ARun.nil ?_
   refine AW.seq ?_
   refine AW.cond (.tmp rfl) (fun hb16 => ?_) (fun hb16 => ?_)
   ·
    replace hb16 := of_decide_eq_true hb16
    have hkl : k < (Rd.cutL 10 s.data.toList).length - 2 := by omega
    have hln := line_le (s := s) (i := k + 1) (by omega) hs2
    have hgk := sp_good k hok
    have hfk := sp_off s k
    refine AW.skip ?_
    refine AW.seq ?_
    refine AW.block ?_
    refine AW.seq ?_
    refine AW.region ?_
    refine pu (.indexLst (i := k) rfl (.tmp rfl) f3_ (.tmp rfl) rfl (by exact (show k < _ from by omega))) rfl rfl rfl ?_
    refine pu (.loadRef rfl (.tmp rfl) f12_ (nB rfl)) rfl rfl rfl ?_
    refine pu (.assign rfl (.tmp rfl)) rfl rfl rfl ?_
    refine ARun.nil ?_
    refine AW.seq ?_
    refine AW.region ?_
    refine pu (.move rfl (.tmp rfl)) rfl rfl rfl ?_
    refine ARun.fresh (FreshOp.callS rfl (v_l13Read (bs ((Rd.cutL 10 s.data.toList).getD (k + 1) [])) (by omega)) ⟨⟨_, (.tmp rfl), .str⟩, trivial⟩ f74_ rfl) rfl rfl (nB rfl) ?_
    refine pu (.move rfl (.tmp rfl)) rfl rfl rfl ?_
    refine pu (.ext2a rfl (.tmp rfl)) rfl rfl rfl ?_
    refine pu (.ext2b rfl (.tmp rfl)) rfl rfl rfl ?_
    refine ARun.alloc (id := 4) (l := [.str ByteArray.empty, .int .i64 0, .int .i64 0]) (z := (.agg #[.string ByteArray.empty, .int .i64 0, .int .i64 0])) rfl (by kernel_rfl) (fun _ _ _ => ⟨_, _, rfl, ⟨rfl, by decide⟩, ⟨_, _, rfl, rfl, ⟨_, _, rfl, rfl, rfl⟩⟩⟩) ⟨rfl, (by repeat first | exact trivial | refine ⟨by decide, by first | rfl | exact trivial | (intro a_ b_; first | exact getD_no rfl | exact rowC0_no rfl _ _ | ((try dsimp only); (repeat' split) <;> first | rfl | exact rowC0_no rfl _ _ | exact getD_no rfl)), ?_⟩)⟩ rfl rfl rfl (nB rfl) ?_
    refine ARun.store rfl (.tmp rfl) (.tmp rfl) (SV.cells_of (by exact ⟨trivial, trivial, trivial, trivial⟩)) rfl (nB rfl) f62_ rfl rfl ?_
    refine pu (.assign rfl (.tmp rfl)) rfl rfl rfl ?_
    refine ARun.nil ?_
    refine AW.seq ?_
    refine AW.seq ?_
    refine AW.region ?_
    refine pu (.move rfl (.tmp rfl)) rfl rfl rfl ?_
    refine pu (.not rfl (.tmp rfl)) rfl rfl rfl ?_
    refine ARun.nil ?_
    refine AW.cond (.tmp rfl) (fun hb17 => ?_) (fun hb17 => ?_)
    ·
     have hno : ∀ h, ¬ HeadOf s h := js_no3 hkl (of_not hb17)
     refine AW.seq ?_
     refine AW.region ?_
     refine pu (.build (ys := []) (l := [.con (.slice none 0 0), .int .i64 0]) (pl := [(0, 1), (1, 1)]) (z := (.agg #[.slice none 0 0, .int .i64 0])) rfl (by kernel_rfl) (by kernel_rfl) (fun _ _ _ => ⟨_, _, rfl, rfl, ⟨_, _, rfl, rfl, rfl⟩⟩) trivial rfl) rfl rfl rfl ?_
     refine ARun.store rfl (.tmp rfl) (.tmp rfl) (SV.cells_of (by exact ⟨⟨rfl, (fun _ e => by cases e), (fun _ e => by cases e)⟩, trivial, trivial⟩)) rfl (nB rfl) f37_ rfl rfl ?_
     refine pu (.assign rfl .bool) rfl rfl rfl ?_
     refine ARun.nil ?_
     rw [headRV_no hno]
     exact AW.ret (show ∃ s t, ResL _ _ [.cell 2 25, .tmp 3] s ∧ TvS _ (ofLeaf t) 0 s _ from ⟨_, fun a b => 1000, .inr (.inl ⟨_, _, _, _, rfl, .cells rfl f26_ rfl rfl (nB rfl) (nB rfl), .tmp rfl, rfl⟩), ⟨⟨.nil, .int, trivial⟩, .bool⟩⟩)
    ·
     have hrk := not_f hb17
     refine AW.skip ?_
     refine AW.seq ?_
     refine AW.region ?_
     refine pu (.loadPtrAgg rfl (.tmp rfl) f26_ rfl rfl (nB rfl) (nB rfl)) rfl rfl rfl ?_
     refine pu (.loadPtrAgg rfl (.tmp rfl) f58_ rfl rfl (nB rfl) (nB rfl)) rfl rfl rfl ?_
     refine ARun.mutx (Hr := [(0, .cells [.con (.slice none 0 0), .int .i64 0]), (1, .cells [.own 2 2 ((spHead s k).rows.length), .int .i64 ((spHead s k).offset)]), (4, .cells [.str ((rdX (bs ((Rd.cutL 10 s.data.toList).getD (k + 1) []))).1.name), .int .i64 ((rdX (bs ((Rd.cutL 10 s.data.toList).getD (k + 1) []))).1.at_), .int .i64 ((rdX (bs ((Rd.cutL 10 s.data.toList).getD (k + 1) []))).1.value)])]) (Hn := [(0, .cells [.con (.slice none 0 0), .int .i64 0]), (1, .cells [.own 2 2 ((spHead s k).rows.length), .int .i64 ((spHead s k).offset)]), (4, .cells [.str ((rdX (bs ((Rd.cutL 10 s.data.toList).getD (k + 1) []))).1.name), .int .i64 ((rdX (bs ((Rd.cutL 10 s.data.toList).getD (k + 1) []))).1.at_), .int .i64 ((rdX (bs ((Rd.cutL 10 s.data.toList).getD (k + 1) []))).1.value)]), (5, .arr 2 ((takeH (spHead s k) (rdX (bs ((Rd.cutL 10 s.data.toList).getD (k + 1) []))).1).rows.length) (rowC0 (takeH (spHead s k) (rdX (bs ((Rd.cutL 10 s.data.toList).getD (k + 1) []))).1) 6)), (6, .trees ((takeH (spHead s k) (rdX (bs ((Rd.cutL 10 s.data.toList).getD (k + 1) []))).1).rows.length) (rowX0 (takeH (spHead s k) (rdX (bs ((Rd.cutL 10 s.data.toList).getD (k + 1) []))).1)))]) (g := fun zz => if zz = 1000001 then 2 else if zz = 1000002 then 3 else zz) (g' := fun zz => if zz = 1000001 then 2 else if zz = 1000002 then 3 else if zz = 77 then 5 else if zz = 78 then 6 else zz) (K := [77, 78]) (T := [(5, 77), (6, 78)]) rfl (v_l13Take (spHead s k) (rdX (bs ((Rd.cutL 10 s.data.toList).getD (k + 1) []))).1 hgk ⟨by rw [hfk]; omega, by rw [hfk]; omega⟩) f63_ ⟨.inr (.tmp rfl), ⟨.inl ⟨_, (.tmp rfl), ⟨.str, .int, .int, trivial⟩⟩, trivial⟩⟩ ⟨⟨_, rfl, ⟨rfl, rfl, fun a b _ _ => rowC0_ren (h := (spHead s k)) (K := 1000002) (K' := 3) rfl a b⟩⟩, ⟨_, rfl, ⟨rfl, fun _ _ => rfl⟩⟩, trivial⟩ ⟨⟨rfl, rfl⟩, ⟨rfl, rfl⟩, ⟨rfl, rfl⟩, trivial⟩ rfl ⟨⟨rfl, (by repeat first | exact trivial | refine ⟨by decide, by first | rfl | exact trivial | (intro a_ b_; first | exact getD_no rfl | exact rowC0_no rfl _ _ | ((try dsimp only); (repeat' split) <;> first | rfl | exact rowC0_no rfl _ _ | exact getD_no rfl)), ?_⟩)⟩, ⟨rfl, (by repeat first | exact trivial | refine ⟨by decide, by first | rfl | exact trivial | (intro a_ b_; first | exact getD_no rfl | exact rowC0_no rfl _ _ | ((try dsimp only); (repeat' split) <;> first | rfl | exact rowC0_no rfl _ _ | exact getD_no rfl)), ?_⟩)⟩, trivial⟩ (by kernel_rfl) (by kernel_rfl) (by kernel_rfl) ⟨.inl rfl, .inl rfl, .inl rfl, .inr ⟨77, _, rfl, rfl, rfl, ⟨rfl, rfl, fun a b _ _ => rowC0_ren (h := (takeH (spHead s k) (rdX (bs ((Rd.cutL 10 s.data.toList).getD (k + 1) []))).1)) (K := 78) (K' := 6) rfl a b⟩, (fun a b _ _ => rowC0_hx rfl a b)⟩, .inr ⟨78, _, rfl, rfl, rfl, ⟨rfl, fun _ _ => rfl⟩, trivial⟩, trivial⟩ rfl rfl (nB rfl) (r' := .tup2 (.agg [.own 5 2 ((takeH (spHead s k) (rdX (bs ((Rd.cutL 10 s.data.toList).getD (k + 1) []))).1).rows.length), .int .i64 ((takeH (spHead s k) (rdX (bs ((Rd.cutL 10 s.data.toList).getD (k + 1) []))).1).offset)]) (.one (.int .i64 ((takeCode (spHead s k) (rdX (bs ((Rd.cutL 10 s.data.toList).getD (k + 1) []))).1 : Nat) : Int)))) rfl ?_
     refine pu (.move rfl (.tmp rfl)) rfl rfl rfl ?_
     refine pu (.ext2a rfl (.tmp rfl)) rfl rfl rfl ?_
     refine pu (.ext2b rfl (.tmp rfl)) rfl rfl rfl ?_
     refine ARun.alloc (id := 7) (l := [.con (.slice none 0 0), .int .i64 0]) (z := (.agg #[.slice none 0 0, .int .i64 0])) rfl (by kernel_rfl) (fun _ _ _ => ⟨_, _, rfl, rfl, ⟨_, _, rfl, rfl, rfl⟩⟩) ⟨rfl, (by repeat first | exact trivial | refine ⟨by decide, by first | rfl | exact trivial | (intro a_ b_; first | exact getD_no rfl | exact rowC0_no rfl _ _ | ((try dsimp only); (repeat' split) <;> first | rfl | exact rowC0_no rfl _ _ | exact getD_no rfl)), ?_⟩)⟩ rfl rfl rfl (nB rfl) ?_
     refine ARun.store rfl (.tmp rfl) (.tmp rfl) (SV.cells_of (by exact ⟨trivial, trivial, trivial⟩)) rfl (nB rfl) f37_ rfl rfl ?_
     refine pu (.assign rfl (.tmp rfl)) rfl rfl rfl ?_
     refine ARun.nil ?_
     refine AW.seq ?_
     refine AW.seq ?_
     refine AW.region ?_
     refine pu (.move rfl (.tmp rfl)) rfl rfl rfl ?_
     refine pu (.intOp rfl (.tmp rfl) .int rfl) rfl rfl rfl ?_
     refine ARun.nil ?_
     refine AW.cond (.tmp rfl) (fun hb18 => ?_) (fun hb18 => ?_)
     ·
      have hno : ∀ h, ¬ HeadOf s h := js_no4 hkl (fun e => by have q := hb18; rw [decide_eq_true (show ((takeCode (spHead s k) (rdX (bs ((Rd.cutL 10 s.data.toList).getD (k + 1) []))).1 : Nat) : Int) = 1 by omega)] at q; cases q)
      refine AW.seq ?_
      refine AW.region ?_
      refine pu (.build (ys := []) (l := [.con (.slice none 0 0), .int .i64 0]) (pl := [(0, 1), (1, 1)]) (z := (.agg #[.slice none 0 0, .int .i64 0])) rfl (by kernel_rfl) (by kernel_rfl) (fun _ _ _ => ⟨_, _, rfl, rfl, ⟨_, _, rfl, rfl, rfl⟩⟩) trivial rfl) rfl rfl rfl ?_
      refine ARun.store rfl (.tmp rfl) (.tmp rfl) (SV.cells_of (by exact ⟨⟨rfl, (fun _ e => by cases e), (fun _ e => by cases e)⟩, trivial, trivial⟩)) rfl (nB rfl) f37_ rfl rfl ?_
      refine pu (.assign rfl .bool) rfl rfl rfl ?_
      refine ARun.nil ?_
      rw [headRV_no hno]
      exact AW.ret (show ∃ s t, ResL _ _ [.cell 2 25, .tmp 3] s ∧ TvS _ (ofLeaf t) 0 s _ from ⟨_, fun a b => 1000, .inr (.inl ⟨_, _, _, _, rfl, .cells rfl f26_ rfl rfl (nB rfl) (nB rfl), .tmp rfl, rfl⟩), ⟨⟨.nil, .int, trivial⟩, .bool⟩⟩)
     ·
      refine AW.skip ?_
      refine AW.region ?_
      refine pu (.loadPtrAgg rfl (.tmp rfl) f26_ rfl rfl (nB rfl) (nB rfl)) rfl rfl rfl ?_
      refine ARun.store rfl (.tmp rfl) (.tmp rfl) (SV.cells_of (by exact ⟨trivial, trivial, trivial⟩)) rfl (nB rfl) f37_ rfl rfl ?_
      refine ARun.nil ?_
      refine AW.region ?_
      refine pu (.add (c := ((k + 1 : Nat) : Int)) rfl (.tmp rfl) .int (by rw [wrap_id (by omega) (by omega)]; omega)) rfl rfl rfl ?_
      refine pu (.move rfl (.tmp rfl)) rfl rfl rfl ?_
      refine ARun.nil ?_
      exact ⟨k + 1, (fun z => (swp 2 5) ((swp 3 6) z)), ⟨(show k + 1 ≤ (Rd.cutL 10 s.data.toList).length - 2 from by omega), fun j hj => (Nat.lt_succ_iff_lt_or_eq.1 hj).elim (hok j) (fun e => e ▸ hrk)⟩, by dsimp only; omega, (comp_inj swp_inj swp_inj), (comp_fix (swp_fix rfl rfl) (swp_fix rfl rfl)), ⟨⟨⟨_, rfl, rfl⟩, ⟨_, rfl, rfl⟩, ⟨_, rfl, rfl⟩, ⟨_, rfl, rfl⟩, ⟨_, rfl, rfl⟩, ⟨_, rfl, rfl⟩, ⟨_, rfl, rfl⟩, trivial⟩, ⟨⟨_, rfl, rfl, Nat.le_refl _, fun _ _ _ _ => rfl⟩, ⟨_, rfl, rfl, Nat.le_refl _, fun _ _ _ _ => rfl⟩, ⟨_, rfl, rfl, Nat.le_refl _, fun i j _ _ => rowC0_ren (h := spHead s (k + 1)) (K := 3) (K' := 6) rfl i j⟩, ⟨_, rfl, fun _ _ => rfl⟩, trivial⟩⟩⟩
   ·
    replace hb16 := of_decide_eq_false hb16
    have hke : k = (Rd.cutL 10 s.data.toList).length - 2 := by omega
    have hgE := sp_good k hok
    have hgF := sp_goodO (o := (Rd.intL (bs ((Rd.cutL 10 s.data.toList).getD 0 [])).data.toList).1) hgE hr1
    refine AW.exit ?_
    refine AW.seq ?_
    refine AW.region ?_
    refine pu (.move rfl (.tmp rfl)) rfl rfl rfl ?_
    refine pu (.fieldPtr rfl (.tmp rfl) f30_) rfl rfl rfl ?_
    refine ARun.store rfl (.tmp rfl) (.tmp rfl) trivial rfl (nB rfl) f16_ rfl rfl ?_
    refine ARun.nil ?_
    refine AW.seq ?_
    refine AW.seq ?_
    refine AW.region ?_
    refine pu (.loadPtrAgg rfl (.tmp rfl) f26_ rfl rfl (nB rfl) (nB rfl)) rfl rfl rfl ?_
    refine pu (.call rfl (v_l13HeadText (⟨(spHead s k).rows, (Rd.intL (bs ((Rd.cutL 10 s.data.toList).getD 0 [])).data.toList).1⟩ : GHead) (good_ok hgF)) ⟨⟨_, (.tmp rfl), ⟨(.own rfl rfl (Nat.le_refl _) (fun i j hi hj => (match j, hj with | 0, _ => .str | 1, _ => (Vw.cast (Vw.tre rfl hi) rfl) | _ + 2, h => absurd h (by omega)))), .int, trivial⟩⟩, trivial⟩ f56_ (headT_plain (good_ok hgF))) rfl rfl rfl ?_
    refine pu (.move rfl (.tmp rfl)) rfl rfl rfl ?_
    refine pu (.strOp rfl (.tmp rfl) (.tmp rfl) rfl) rfl rfl rfl ?_
    refine ARun.nil ?_
    refine AW.cond (.tmp rfl) (fun hb19 => ?_) (fun hb19 => ?_)
    ·
     have hno : ∀ h, ¬ HeadOf s h := js_no5 hke (by simpa using hb19)
     refine AW.seq ?_
     refine AW.region ?_
     refine pu (.build (ys := []) (l := [.con (.slice none 0 0), .int .i64 0]) (pl := [(0, 1), (1, 1)]) (z := (.agg #[.slice none 0 0, .int .i64 0])) rfl (by kernel_rfl) (by kernel_rfl) (fun _ _ _ => ⟨_, _, rfl, rfl, ⟨_, _, rfl, rfl, rfl⟩⟩) trivial rfl) rfl rfl rfl ?_
     refine ARun.store rfl (.tmp rfl) (.tmp rfl) (SV.cells_of (by exact ⟨⟨rfl, (fun _ e => by cases e), (fun _ e => by cases e)⟩, trivial, trivial⟩)) rfl (nB rfl) f37_ rfl rfl ?_
     refine pu (.assign rfl .bool) rfl rfl rfl ?_
     refine ARun.nil ?_
     rw [headRV_no hno]
     exact AW.ret (show ∃ s t, ResL _ _ [.cell 2 25, .tmp 3] s ∧ TvS _ (ofLeaf t) 0 s _ from ⟨_, fun a b => 1000, .inr (.inl ⟨_, _, _, _, rfl, .cells rfl f26_ rfl rfl (nB rfl) (nB rfl), .tmp rfl, rfl⟩), ⟨⟨.nil, .int, trivial⟩, .bool⟩⟩)
    ·
     have hH : HeadOf s (⟨(spHead s k).rows, (Rd.intL (bs ((Rd.cutL 10 s.data.toList).getD 0 [])).data.toList).1⟩ : GHead) := ⟨hs2, hgF, by simpa using hb19⟩
     refine AW.skip ?_
     refine AW.seq ?_
     refine AW.region ?_
     refine pu (.loadPtrAgg rfl (.tmp rfl) f26_ rfl rfl (nB rfl) (nB rfl)) rfl rfl rfl ?_
     refine ARun.prod (K := 8) rfl (v_l13Own (⟨(spHead s k).rows, (Rd.intL (bs ((Rd.cutL 10 s.data.toList).getD 0 [])).data.toList).1⟩ : GHead) (hd_ok (h := (⟨(spHead s k).rows, (Rd.intL (bs ((Rd.cutL 10 s.data.toList).getD 0 [])).data.toList).1⟩ : GHead)) hgE)) ⟨rfl, (by repeat first | exact trivial | refine ⟨by decide, by first | rfl | exact trivial | (intro a_ b_; first | exact getD_no rfl | exact rowC0_no rfl _ _ | ((try dsimp only); (repeat' split) <;> first | rfl | exact rowC0_no rfl _ _ | exact getD_no rfl)), ?_⟩)⟩ ⟨⟨_, (.tmp rfl), ⟨(.own rfl rfl (Nat.le_refl _) (fun i j hi hj => (match j, hj with | 0, _ => .str | 1, _ => (Vw.cast (Vw.tre rfl hi) rfl) | _ + 2, h => absurd h (by omega)))), .int, trivial⟩⟩, trivial⟩ f64_ rfl rfl rfl rfl rfl (nB rfl) ?_
     refine ARun.store rfl (.tmp rfl) (.tmp rfl) (SV.cells_of (by exact ⟨trivial, trivial, trivial⟩)) rfl (nB rfl) f37_ rfl rfl ?_
     refine pu (.assign rfl .bool) rfl rfl rfl ?_
     refine ARun.nil ?_
     rw [headRV_yes hH]
     exact AW.ret (show ∃ s t, ResL _ _ [.cell 2 25, .tmp 3] s ∧ TvS _ (ofLeaf t) 0 s _ from ⟨_, fun a b => if a = 8 then 0 else 1000, .inr (.inl ⟨_, _, _, _, rfl, .cells rfl f26_ rfl rfl (nB rfl) (nB rfl), .tmp rfl, rfl⟩), ⟨⟨(Tv.cast (Tv.tre rfl (nB rfl) (by rfl)) rfl), .int, trivial⟩, .bool⟩⟩)
end Go.Proofs.YtonfeiloekofdaaGreatDoor

namespace Go.Proofs.YtonfeiloekofdaaGreatDoor
open Go.ChangeShapes Go.WideShapes Go.ChangeAt Go.RowKit Go.BigFrame Go.Deep
set_option linter.unusedVariables false
set_option linter.unusedSimpArgs false
theorem f75_ : callB Tryz.prog 33 = true := by kernel_rfl
theorem f76_ : callB Tryz.prog 48 = true := by kernel_rfl
theorem f77_ : callB Tryz.prog 65 = true := by kernel_rfl
theorem f78_ : callB Tryz.prog 66 = true := by kernel_rfl
set_option maxHeartbeats 1000000 in
set_option maxRecDepth 20000 in
theorem v_readHead (s : ByteArray) (hs : s.size ≤ 20000) : FnT Tryz.prog 33 [.one (.str s)] (.tup2 (.agg [.lst 2 ((((headRV s).1).rows).length) (fun i0 j0 => ([.str (((((headRV s).1).rows).getD i0 (default : GRow)).name), .lst 2 ((((((headRV s).1).rows).getD i0 (default : GRow)).samples).length) (fun i1 j1 => ([.int .i64 (((((((headRV s).1).rows).getD i0 (default : GRow)).samples).getD i1 (default : GSample)).at_), .int .i64 (((((((headRV s).1).rows).getD i0 (default : GRow)).samples).getD i1 (default : GSample)).value)] : List AV).getD j1 (.con undef))] : List AV).getD j0 (.con undef)), .int .i64 (((headRV s).1).offset)]) (.one (.bool ((headRV s).2)))) := by
 obtain ⟨hL1, hL2⟩ := lines_n hs
 have hln0 := line_le (s := s) (i := 0) (by omega) hs
 refine FnT.of_body (fn := Tryz.f33) Tryz.func33 rfl (nB rfl)  ?_
 intro w0
 show AW _ 114 _ _ _ _
 refine AW.seq ?_
 refine AW.region ?_
 refine ARun.alloc (id := 0) (l := [.con (.slice none 0 0), .int .i64 0]) (z := (.agg #[.slice none 0 0, .int .i64 0])) rfl (by kernel_rfl) (fun _ _ _ => ⟨_, _, rfl, rfl, ⟨_, _, rfl, rfl, rfl⟩⟩) ⟨rfl, (by repeat first | exact trivial | refine ⟨by decide, by first | rfl | exact trivial | (intro a_ b_; first | exact getD_no rfl | exact rowC0_no rfl _ _ | exact rowS_no rfl rfl _ _ | exact insF_no (rowC0_no rfl) (fun _ _ => getD_no rfl) _ _ _ | ((try dsimp only); (repeat' split) <;> first | rfl | exact rowC0_no rfl _ _ | exact getD_no rfl | exact insF_no (rowC0_no rfl) (fun _ _ => getD_no rfl) _ _ _)), ?_⟩)⟩ rfl rfl rfl (nB rfl) ?_
 refine pu (.assign rfl .bool) rfl rfl rfl ?_
 refine ARun.nil ?_
 refine AW.seq ?_
 refine AW.region ?_
 refine pu (.move rfl (.tmp rfl)) rfl rfl rfl ?_
 refine ARun.fresh (FreshOp.callS rfl (v_Split10 s hs) ⟨⟨_, (.tmp rfl), .str⟩, ⟨_, (.str (by decide)), .str⟩, trivial⟩ f77_ rfl) rfl rfl (nB rfl) ?_
 refine pu (.assign rfl (.tmp rfl)) rfl rfl rfl ?_
 refine ARun.nil ?_
 refine AW.seq ?_
 refine AW.region ?_
 refine pu (.move rfl (.tmp rfl)) rfl rfl rfl ?_
 refine pu (.indexLst (i := 0) rfl (.frs (.tmp rfl)) f3_ .int rfl (by exact (show 0 < _ from by omega))) rfl rfl rfl ?_
 refine pu (.loadRef rfl (.tmp rfl) f12_ (nB rfl)) rfl rfl rfl ?_
 refine ARun.draw rfl (v_Atoi (bs ((Rd.cutL 10 s.data.toList).getD 0 [])) (by omega)) f78_ ⟨⟨_, (.tmp rfl), .str⟩, trivial⟩ rfl rfl (nB rfl) (fun x1 hd2 => ?_)
 obtain ⟨bb, hbt, hbf, hbv⟩ := ih_num hd2
 refine pu (.move rfl (.tmp rfl)) rfl rfl rfl ?_
 refine pu (.ext2a rfl (.tmp rfl)) rfl rfl rfl ?_
 refine pu (.ext2b rfl (.tmp rfl)) rfl rfl rfl ?_
 refine pu (.assign rfl (.tmp rfl)) rfl rfl rfl ?_
 refine pu (.assign rfl (.tmp rfl)) rfl rfl rfl ?_
 refine ARun.nil ?_
 refine AW.seq ?_
 refine AW.seq ?_
 refine AW.region ?_
 refine pu (.move rfl (.tmp rfl)) rfl rfl rfl ?_
 refine pu (.neNil (b := bb) rfl (.tmp rfl) (by kernel_rfl) hbv) rfl rfl rfl ?_
 refine pu (.move rfl (.tmp rfl)) rfl rfl rfl ?_
 refine ARun.gpure (want := false) (.tf rfl) (fun hg3 => PureOp.move rfl (.tmp rfl)) rfl rfl (nB rfl) rfl (nB rfl) ?_
 refine ARun.gpure (want := false) (.tf rfl) (fun hg4 => PureOp.move rfl (.tmp rfl)) rfl rfl (nB rfl) rfl (nB rfl) ?_
 refine ARun.gpure (want := false) (.tf rfl) (fun hg5 => PureOp.lenLst rfl (.frs (.gtmp rfl hg5)) f14_) rfl rfl (nB rfl) rfl (nB rfl) ?_
 refine ARun.gpure (want := false) (.tf rfl) (fun hg6 => PureOp.sub (c := ((((Rd.cutL 10 s.data.toList).length - 1) : Nat) : Int)) rfl (.gtmp rfl hg6) .int (by have q := hg6; simp only [Bool.cond_true_left, Bool.cond_false_right, Bool.not_eq_true', Bool.or_eq_false_iff, Bool.not_eq_false', Bool.and_eq_true, Bool.not_not, decide_eq_true_eq, decide_eq_false_iff_not, inB] at q; rw [wrap_id (by omega) (by omega)]; omega)) rfl rfl (nB rfl) rfl (nB rfl) ?_
 refine ARun.gpure (want := false) (.tf rfl) (fun hg7 => PureOp.indexLst (i := ((Rd.cutL 10 s.data.toList).length - 1)) rfl (.frs (.gtmp rfl hg7)) f3_ (.gtmp rfl hg7) rfl (by have q := hg7; simp only [Bool.cond_true_left, Bool.cond_false_right, Bool.not_eq_true', Bool.or_eq_false_iff, Bool.not_eq_false', Bool.and_eq_true, Bool.not_not, decide_eq_true_eq, decide_eq_false_iff_not, inB] at q; exact (show ((Rd.cutL 10 s.data.toList).length - 1) < _ from by omega))) rfl rfl (nB rfl) rfl (nB rfl) ?_
 refine ARun.gpure (want := false) (.tf rfl) (fun hg8 => PureOp.loadRef rfl (.gtmp rfl hg8) f12_ (nB rfl)) rfl rfl (nB rfl) rfl (nB rfl) ?_
 refine ARun.gpure (want := false) (.tf rfl) (fun hg9 => PureOp.strOp rfl (.gtmp rfl hg9) (.str (by decide)) rfl) rfl rfl (nB rfl) rfl (nB rfl) ?_
 refine pu (.pick rfl (.tmp rfl) (fun _ => .bool) (fun hp11 => .gtmp rfl (not_of hp11))) rfl rfl rfl ?_
 refine ARun.nil ?_
 refine AW.cond (.tmp rfl) (fun hb12 => ?_) (fun hb12 => ?_)
 ·
  have hno : ∀ h, ¬ HeadOf s h := ih_no1 hbt hb12
  refine AW.seq ?_
  refine AW.region ?_
  refine pu (.build (ys := []) (l := [.con (.slice none 0 0), .int .i64 0]) (pl := [(0, 1), (1, 1)]) (z := (.agg #[.slice none 0 0, .int .i64 0])) rfl (by kernel_rfl) (by kernel_rfl) (fun _ _ _ => ⟨_, _, rfl, rfl, ⟨_, _, rfl, rfl, rfl⟩⟩) trivial rfl) rfl rfl rfl ?_
  refine ARun.store rfl (.tmp rfl) (.tmp rfl) (SV.cells_of (by exact ⟨⟨rfl, (fun _ e => by cases e), (fun _ e => by cases e)⟩, trivial, trivial⟩)) rfl (nB rfl) f37_ rfl rfl ?_
  refine pu (.assign rfl .bool) rfl rfl rfl ?_
  refine ARun.nil ?_
  rw [headRV_no hno]
  exact AW.ret (show ∃ s t, ResL _ _ [.cell 2 25, .tmp 3] s ∧ TvS _ (ofLeaf t) 0 s _ from ⟨_, fun a b => 1000, .inr (.inl ⟨_, _, _, _, rfl, .cells rfl f26_ rfl rfl (nB rfl) (nB rfl), .tmp rfl, rfl⟩), ⟨⟨.nil, .int, trivial⟩, .bool⟩⟩)
 ·
  have hz := hbf (ih_yes1 (s := s) hb12)
  refine AW.skip ?_
  refine AW.seq ?_
  refine AW.region ?_
  refine pu (.move rfl (.tmp rfl)) rfl rfl rfl ?_
  refine pu (.build (ys := [.int .i64 x1.1]) (l := [.con (.slice none 0 0), .int .i64 0]) (pl := [(0, 1), (1, 1)]) (z := (.agg #[.slice none 0 0, .int .i64 0])) rfl (by kernel_rfl) (by kernel_rfl) (fun _ _ _ => ⟨_, _, rfl, rfl, ⟨_, _, rfl, rfl, rfl⟩⟩) ⟨(.tmp rfl), trivial, rfl, trivial⟩ rfl) rfl rfl rfl ?_
  refine ARun.alloc (id := 1) (l := [.con (.slice none 0 0), .int .i64 0]) (z := (.agg #[.slice none 0 0, .int .i64 0])) rfl (by kernel_rfl) (fun _ _ _ => ⟨_, _, rfl, rfl, ⟨_, _, rfl, rfl, rfl⟩⟩) ⟨rfl, (by repeat first | exact trivial | refine ⟨by decide, by first | rfl | exact trivial | (intro a_ b_; first | exact getD_no rfl | exact rowC0_no rfl _ _ | exact rowS_no rfl rfl _ _ | exact insF_no (rowC0_no rfl) (fun _ _ => getD_no rfl) _ _ _ | ((try dsimp only); (repeat' split) <;> first | rfl | exact rowC0_no rfl _ _ | exact getD_no rfl | exact insF_no (rowC0_no rfl) (fun _ _ => getD_no rfl) _ _ _)), ?_⟩)⟩ rfl rfl rfl (nB rfl) ?_
  refine ARun.store rfl (.tmp rfl) (.tmp rfl) (SV.cells_of (by exact ⟨⟨rfl, (fun _ e => by cases e), (fun _ e => by cases e)⟩, trivial, trivial⟩)) rfl (nB rfl) f37_ rfl rfl ?_
  refine ARun.nil ?_
  refine AW.seq ?_
  refine AW.seq ?_
  refine AW.region ?_
  refine pu (.move rfl (.tmp rfl)) rfl rfl rfl ?_
  refine pu (.move rfl (.tmp rfl)) rfl rfl rfl ?_
  refine pu (.lenLst rfl (.frs (.tmp rfl)) f14_) rfl rfl rfl ?_
  refine pu (.sub (c := ((((Rd.cutL 10 s.data.toList).length - 1) : Nat) : Int)) rfl (.tmp rfl) .int (by rw [wrap_id (by omega) (by omega)]; omega)) rfl rfl rfl ?_
  refine pu (.max2 (c := ((((Rd.cutL 10 s.data.toList).length - 2 + 1) : Nat) : Int)) rfl .int (.tmp rfl) (by split <;> omega)) rfl rfl rfl ?_
  refine pu (.lstEq (n' := ((Rd.cutL 10 s.data.toList).length - 2)) (f' := fun i_ _ => .str (bs ((Rd.cutL 10 s.data.toList).getD (i_ + 1) []))) (PureOp.subLst (lo := 1) (hi := ((Rd.cutL 10 s.data.toList).length - 2 + 1)) rfl (.frs (.tmp rfl)) .int (.tmp rfl) rfl rfl (by omega) (by omega) f3_) (by omega) (fun _ _ _ _ => rfl)) rfl rfl rfl ?_
  refine pu (.lenLst rfl (.tmp rfl) f14_) rfl rfl rfl ?_
  refine pu (.move rfl .int) rfl rfl rfl ?_
  refine ARun.nil ?_
  refine AW.block ?_
  refine AW.fam (id := 500) (rowX0 (⟨imRows s 0, x1.1⟩ : GHead)) ⟨rfl, (by repeat first | exact trivial | refine ⟨by decide, by first | rfl | exact trivial | (intro a_ b_; first | exact getD_no rfl | exact rowC0_no rfl _ _ | exact rowS_no rfl rfl _ _ | exact insF_no (rowC0_no rfl) (fun _ _ => getD_no rfl) _ _ _ | ((try dsimp only); (repeat' split) <;> first | rfl | exact rowC0_no rfl _ _ | exact getD_no rfl | exact insF_no (rowC0_no rfl) (fun _ _ => getD_no rfl) _ _ _)), ?_⟩)⟩ ?_
  refine AW.nilCell 1 0 2 2 _ (rowC0 (⟨imRows s 0, x1.1⟩ : GHead) 500) rfl rfl ⟨rfl, (by repeat first | exact trivial | refine ⟨by decide, by first | rfl | exact trivial | (intro a_ b_; first | exact getD_no rfl | exact rowC0_no rfl _ _ | exact rowS_no rfl rfl _ _ | exact insF_no (rowC0_no rfl) (fun _ _ => getD_no rfl) _ _ _ | ((try dsimp only); (repeat' split) <;> first | rfl | exact rowC0_no rfl _ _ | exact getD_no rfl | exact insF_no (rowC0_no rfl) (fun _ _ => getD_no rfl) _ _ _)), ?_⟩)⟩ ?_
  -- objects are renamed
  refine AW.loopR (ι := Nat) (fun k => ⟨[(0, .one (.str s)), (2, .one (.ptr 0 2 0 0)), (7, .one (.ptr 1 2 0 0)), (42, .one (.lst 1 ((Rd.cutL 10 s.data.toList).length - 2) (fun i_ _ => .str (bs ((Rd.cutL 10 s.data.toList).getD (i_ + 1) []))))), (43, .one (.int .i64 ((((Rd.cutL 10 s.data.toList).length - 2) : Nat) : Int))), (44, .one (.int .i64 (k : Int)))], [(0, .cells [.con (.slice none 0 0), .int .i64 0]), (1, .cells [.own 2 2 ((imRows s k).length), .int .i64 x1.1]), (2, .arr 2 ((imRows s k).length) (rowC0 (⟨imRows s k, x1.1⟩ : GHead) 500)), (500, .trees ((imRows s k).length) (rowX0 (⟨imRows s k, x1.1⟩ : GHead)))]⟩) (fun k => k ≤ (Rd.cutL 10 s.data.toList).length - 2) (fun k => (Rd.cutL 10 s.data.toList).length - 2 - k) 0 (Nat.zero_le _) ⟨⟨⟨_, rfl, rfl⟩, ⟨_, rfl, rfl⟩, ⟨_, rfl, rfl⟩, ⟨_, rfl, rfl⟩, ⟨_, rfl, rfl⟩, ⟨_, rfl, rfl⟩, trivial⟩, ⟨⟨_, rfl, rfl, Nat.le_refl _, fun _ _ _ _ => rfl⟩, ⟨_, rfl, rfl, Nat.le_refl _, fun _ _ _ _ => rfl⟩, ⟨_, rfl, rfl, Nat.le_refl _, fun _ _ _ _ => rfl⟩, ⟨_, rfl, fun _ _ => rfl⟩, trivial⟩⟩ ?_
  intro k hk
  have hil := im_len s k
  have hil1 := hil.1
  refine AW.seq ?_
  refine AW.region ?_
  refine pu (.intOp rfl (.tmp rfl) (.tmp rfl) rfl) rfl rfl rfl ?_
  refine ARun.nil ?_
  refine AW.seq ?_
  refine AW.cond (.tmp rfl) (fun hb13 => ?_) (fun hb13 => ?_)
  ·
   replace hb13 := of_decide_eq_true hb13
   have hkl : k < (Rd.cutL 10 s.data.toList).length - 2 := by omega
   have hln := line_le (s := s) (i := k + 1) (by omega) hs
   refine AW.skip ?_
   refine AW.seq ?_
   refine AW.block ?_
   refine AW.seq ?_
   refine AW.region ?_
   refine pu (.indexLst (i := k) rfl (.tmp rfl) f3_ (.tmp rfl) rfl (by exact (show k < _ from by omega))) rfl rfl rfl ?_
   refine pu (.loadRef rfl (.tmp rfl) f12_ (nB rfl)) rfl rfl rfl ?_
   refine pu (.assign rfl (.tmp rfl)) rfl rfl rfl ?_
   refine ARun.nil ?_
   refine AW.seq ?_
   refine AW.region ?_
   refine pu (.move rfl (.tmp rfl)) rfl rfl rfl ?_
   refine pu (.call rfl (v_readSay (bs ((Rd.cutL 10 s.data.toList).getD (k + 1) [])) (by omega)) ⟨⟨_, (.tmp rfl), .str⟩, trivial⟩ f76_ (gsay_plain (Nat.le_trans (readV_name _ (by omega)) (by decide)))) rfl rfl rfl ?_
   refine pu (.move rfl (.tmp rfl)) rfl rfl rfl ?_
   refine pu (.ext2a rfl (.tmp rfl)) rfl rfl rfl ?_
   refine pu (.ext2b rfl (.tmp rfl)) rfl rfl rfl ?_
   refine ARun.alloc (id := 3) (l := [.str ByteArray.empty, .int .i64 0, .int .i64 0]) (z := (.agg #[.string ByteArray.empty, .int .i64 0, .int .i64 0])) rfl (by kernel_rfl) (fun _ _ _ => ⟨_, _, rfl, ⟨rfl, by decide⟩, ⟨_, _, rfl, rfl, ⟨_, _, rfl, rfl, rfl⟩⟩⟩) ⟨rfl, (by repeat first | exact trivial | refine ⟨by decide, by first | rfl | exact trivial | (intro a_ b_; first | exact getD_no rfl | exact rowC0_no rfl _ _ | exact rowS_no rfl rfl _ _ | exact insF_no (rowC0_no rfl) (fun _ _ => getD_no rfl) _ _ _ | ((try dsimp only); (repeat' split) <;> first | rfl | exact rowC0_no rfl _ _ | exact getD_no rfl | exact insF_no (rowC0_no rfl) (fun _ _ => getD_no rfl) _ _ _)), ?_⟩)⟩ rfl rfl rfl (nB rfl) ?_
   refine ARun.store rfl (.tmp rfl) (.tmp rfl) (SV.cells_of (by exact ⟨trivial, trivial, trivial, trivial⟩)) rfl (nB rfl) f62_ rfl rfl ?_
   refine pu (.assign rfl (.tmp rfl)) rfl rfl rfl ?_
   refine ARun.nil ?_
   refine AW.seq ?_
   refine AW.seq ?_
   refine AW.region ?_
   refine pu (.move rfl (.tmp rfl)) rfl rfl rfl ?_
   refine pu (.not rfl (.tmp rfl)) rfl rfl rfl ?_
   refine ARun.nil ?_
   refine AW.cond (.tmp rfl) (fun hb14 => ?_) (fun hb14 => ?_)
   ·
    have hno : ∀ h, ¬ HeadOf s h := ih_no2 hkl (of_not hb14)
    refine AW.seq ?_
    refine AW.region ?_
    refine pu (.build (ys := []) (l := [.con (.slice none 0 0), .int .i64 0]) (pl := [(0, 1), (1, 1)]) (z := (.agg #[.slice none 0 0, .int .i64 0])) rfl (by kernel_rfl) (by kernel_rfl) (fun _ _ _ => ⟨_, _, rfl, rfl, ⟨_, _, rfl, rfl, rfl⟩⟩) trivial rfl) rfl rfl rfl ?_
    refine ARun.store rfl (.tmp rfl) (.tmp rfl) (SV.cells_of (by exact ⟨⟨rfl, (fun _ e => by cases e), (fun _ e => by cases e)⟩, trivial, trivial⟩)) rfl (nB rfl) f37_ rfl rfl ?_
    refine pu (.assign rfl .bool) rfl rfl rfl ?_
    refine ARun.nil ?_
    rw [headRV_no hno]
    exact AW.ret (show ∃ s t, ResL _ _ [.cell 2 25, .tmp 3] s ∧ TvS _ (ofLeaf t) 0 s _ from ⟨_, fun a b => 1000, .inr (.inl ⟨_, _, _, _, rfl, .cells rfl f26_ rfl rfl (nB rfl) (nB rfl), .tmp rfl, rfl⟩), ⟨⟨.nil, .int, trivial⟩, .bool⟩⟩)
   ·
    refine AW.skip ?_
    refine AW.seq ?_
    refine AW.seq ?_
    refine AW.region ?_
    refine pu (.fieldPtr rfl (.tmp rfl) f29_) rfl rfl rfl ?_
    refine pu (.loadPtr rfl (.tmp rfl) f33_ rfl rfl (nB rfl) (nB rfl)) rfl rfl rfl ?_
    refine pu (.lenOwn rfl (.tmp rfl) f35_) rfl rfl rfl ?_
    refine pu (.assign rfl (.tmp rfl)) rfl rfl rfl ?_
    refine ARun.nil ?_
    refine AW.seq ?_
    refine AW.any (by kernel_rfl) (by kernel_rfl) ?_
    refine AD.pure (PureOp.move rfl (.tmp rfl)) rfl rfl (nB rfl) ?_
    refine AD.pure (PureOp.intOp rfl (.tmp rfl) .int rfl) rfl rfl (nB rfl) ?_
    refine AD.pure (PureOp.move rfl (.tmp rfl)) rfl rfl (nB rfl) ?_
    refine AD.gpure (want := false) (.tf rfl) (fun hg15 => PureOp.fieldPtr rfl (.tmp rfl) f29_) rfl rfl rfl (nB rfl) ?_
    refine AD.gpure (want := false) (.tf rfl) (fun hg16 => PureOp.loadPtr rfl (.gtmp rfl hg16) f33_ rfl rfl (nB rfl) (nB rfl)) rfl rfl rfl (nB rfl) ?_
    refine AD.gpure (want := false) (.tf rfl) (fun hg17 => PureOp.move rfl (.tmp rfl)) rfl rfl rfl (nB rfl) ?_
    refine AD.gpure (want := false) (.tf rfl) (fun hg18 => PureOp.sub (c := ((((imRows s k).length - 1) : Nat) : Int)) rfl (.gtmp rfl hg18) .int (by have q := hg18; simp only [Bool.cond_true_left, Bool.cond_false_right, Bool.not_eq_true', Bool.or_eq_false_iff, Bool.not_eq_false', Bool.and_eq_true, Bool.not_not, decide_eq_true_eq, decide_eq_false_iff_not, inB] at q; rw [wrap_id (by omega) (by omega)]; omega)) rfl rfl rfl (nB rfl) ?_
    refine AD.gpure (want := false) (.tf rfl) (fun hg19 => PureOp.indexOwn (i := ((imRows s k).length - 1)) rfl (.gtmp rfl hg19) f28_ (.gtmp rfl hg19) rfl (by have q := hg19; simp only [Bool.cond_true_left, Bool.cond_false_right, Bool.not_eq_true', Bool.or_eq_false_iff, Bool.not_eq_false', Bool.and_eq_true, Bool.not_not, decide_eq_true_eq, decide_eq_false_iff_not, inB] at q; exact (show ((imRows s k).length - 1) < _ from by omega))) rfl rfl rfl (nB rfl) ?_
    refine AD.gpure (want := false) (.tf rfl) (fun hg20 => PureOp.fieldPtr rfl (.gtmp rfl hg20) f31_) rfl rfl rfl (nB rfl) ?_
    refine AD.gpure (want := false) (.tf rfl) (fun hg21 => PureOp.loadPtrE (y := .str (((imRows s k).getD ((imRows s k).length - 1) (default : GRow)).name)) rfl (.gtmp rfl hg21) f12_ rfl rfl (by have q := hg21; simp only [Bool.cond_true_left, Bool.cond_false_right, Bool.not_eq_true', Bool.or_eq_false_iff, Bool.not_eq_false', Bool.and_eq_true, Bool.not_not, decide_eq_true_eq, decide_eq_false_iff_not, inB] at q; exact (show ((imRows s k).length - 1) < (imRows s k).length from by omega)) (nB rfl) rfl) rfl rfl rfl (nB rfl) ?_
    refine AD.gpure (want := false) (.tf rfl) (fun hg22 => PureOp.fieldPtr rfl (.tmp rfl) f45_) rfl rfl rfl (nB rfl) ?_
    refine AD.gpure (want := false) (.tf rfl) (fun hg23 => PureOp.loadPtr rfl (.gtmp rfl hg23) f12_ rfl rfl (nB rfl) (nB rfl)) rfl rfl rfl (nB rfl) ?_
    refine AD.gpure (want := false) (.tf rfl) (fun hg24 => PureOp.strOp rfl (.gtmp rfl hg24) (.gtmp rfl hg24) rfl) rfl rfl rfl (nB rfl) ?_
    refine AD.pure (PureOp.pick rfl (.tmp rfl) (fun _ => .bool) (fun hp26 => .gtmp rfl (not_of hp26))) rfl rfl (nB rfl) ?_
    refine AD.nil ?_
    refine AW.cond (.tmp rfl) (fun hb27 => ?_) (fun hb27 => ?_)
    ·
     have hnx : imRows s (k + 1) = imRows s k ++ [⟨(readV (bs ((Rd.cutL 10 s.data.toList).getD (k + 1) []))).1.name, [⟨(readV (bs ((Rd.cutL 10 s.data.toList).getD (k + 1) []))).1.at_, (readV (bs ((Rd.cutL 10 s.data.toList).getD (k + 1) []))).1.value⟩]⟩] := ih_new hb27
     have hc : (imRows s (k + 1)).length = (imRows s k).length + 1 := by rw [hnx, List.length_append]; rfl
     refine AW.region ?_
     refine pu (.fieldPtr rfl (.tmp rfl) f29_) rfl rfl rfl ?_
     refine pu (.loadPtr rfl (.tmp rfl) f33_ rfl rfl (nB rfl) (nB rfl)) rfl rfl rfl ?_
     refine pu (.fieldPtr rfl (.tmp rfl) f45_) rfl rfl rfl ?_
     refine pu (.loadPtr rfl (.tmp rfl) f12_ rfl rfl (nB rfl) (nB rfl)) rfl rfl rfl ?_
     refine pu (.build (ys := [.str ((readV (bs ((Rd.cutL 10 s.data.toList).getD (k + 1) []))).1.name)]) (l := [.str ByteArray.empty, .con (.slice none 0 0)]) (pl := [(0, 1), (1, 1)]) (z := (.agg #[.string ByteArray.empty, .slice none 0 0])) rfl (by kernel_rfl) (by kernel_rfl) (fun _ _ _ => ⟨_, _, rfl, ⟨rfl, by decide⟩, ⟨_, _, rfl, rfl, rfl⟩⟩) ⟨(.tmp rfl), trivial, rfl, trivial⟩ rfl) rfl rfl rfl ?_
     refine ARun.slice1 (id := 4) (z := (.agg #[.string ByteArray.empty, .slice none 0 0])) (by_ := 40) rfl (.tmp rfl) (SV.cells_of (by exact ⟨trivial, ⟨rfl, (fun _ e => by cases e), (fun _ e => by cases e)⟩, trivial⟩)) (by kernel_rfl) rfl rfl (by decide) (by decide) ⟨rfl, (by repeat first | exact trivial | refine ⟨by decide, by first | rfl | exact trivial | (intro a_ b_; first | exact getD_no rfl | exact rowC0_no rfl _ _ | exact rowS_no rfl rfl _ _ | exact insF_no (rowC0_no rfl) (fun _ _ => getD_no rfl) _ _ _ | ((try dsimp only); (repeat' split) <;> first | rfl | exact rowC0_no rfl _ _ | exact getD_no rfl | exact insF_no (rowC0_no rfl) (fun _ _ => getD_no rfl) _ _ _)), ?_⟩)⟩ rfl rfl rfl (nB rfl) ?_
     refine ARun.append (id := 5) (sz := 2) (n := (imRows s k).length) (m := 1) (by_ := 40) (z := (.agg #[.string ByteArray.empty, .slice none 0 0])) (f := rowC0 (⟨imRows s k, x1.1⟩ : GHead) 500) (g := fun _ jc => ([.str ((readV (bs ((Rd.cutL 10 s.data.toList).getD (k + 1) []))).1.name), .con (.slice none 0 0)] : List AV).getD jc (.con undef)) (h := fun ia ja => if ia < (imRows s k).length then (rowC0 (⟨imRows s k, x1.1⟩ : GHead) 500 : Nat → Nat → AV) ia ja else (fun _ jc => ([.str ((readV (bs ((Rd.cutL 10 s.data.toList).getD (k + 1) []))).1.name), .con (.slice none 0 0)] : List AV).getD jc (.con undef) : Nat → Nat → AV) (ia - (imRows s k).length) ja) rfl (by kernel_rfl) rfl f35_ (.own (.tmp rfl) rfl rfl rfl (Nat.le_refl _) (fun _ _ _ _ => rfl)) (.own (.tmp rfl) rfl rfl (Nat.le_refl _) (fun _ _ _ _ => rfl)) (by decide) (fun i j hi hj => match j, hj with | 0, _ => rfl | 1, _ => rfl | _ + 2, h => absurd h (by omega)) (fun _ _ _ _ => rfl) (by omega) (by omega) ⟨rfl, (by repeat first | exact trivial | refine ⟨by decide, by first | rfl | exact trivial | (intro a_ b_; first | exact getD_no rfl | exact rowC0_no rfl _ _ | exact rowS_no rfl rfl _ _ | exact insF_no (rowC0_no rfl) (fun _ _ => getD_no rfl) _ _ _ | ((try dsimp only); (repeat' split) <;> first | rfl | exact rowC0_no rfl _ _ | exact getD_no rfl | exact insF_no (rowC0_no rfl) (fun _ _ => getD_no rfl) _ _ _)), ?_⟩)⟩ (fun a_ b_ => by (try dsimp only); (repeat' split) <;> first | rfl | exact rowC0_no rfl _ _ | exact getD_no rfl) rfl rfl (nB rfl) ?_
     refine pu (.fieldPtr rfl (.tmp rfl) f29_) rfl rfl rfl ?_
     refine ARun.store rfl (.tmp rfl) (.tmp rfl) trivial rfl (nB rfl) f36_ rfl rfl ?_
     refine ARun.nil ?_
     refine AW.seq ?_
     refine AW.region ?_
     refine pu (.fieldPtr rfl (.tmp rfl) f29_) rfl rfl rfl ?_
     refine pu (.loadPtr rfl (.tmp rfl) f33_ rfl rfl (nB rfl) (nB rfl)) rfl rfl rfl ?_
     refine pu (.fieldPtr rfl (.tmp rfl) f29_) rfl rfl rfl ?_
     refine pu (.loadPtr rfl (.tmp rfl) f33_ rfl rfl (nB rfl) (nB rfl)) rfl rfl rfl ?_
     refine pu (.lenOwn rfl (.tmp rfl) f35_) rfl rfl rfl ?_
     refine pu (.sub (c := (((imRows s k).length : Nat) : Int)) rfl (.tmp rfl) .int (by rw [wrap_id (by omega) (by omega)]; omega)) rfl rfl rfl ?_
     refine pu (.indexOwn (i := (imRows s k).length) rfl (.tmp rfl) f28_ (.tmp rfl) rfl (by exact (show (imRows s k).length < _ from by omega))) rfl rfl rfl ?_
     refine pu (.assign rfl (.tmp rfl)) rfl rfl rfl ?_
     refine ARun.nil ?_
     refine AW.hle (H' := [(0, .cells [.con (.slice none 0 0), .int .i64 0]), (1, .cells [.own 5 2 ((imRows s k).length + 1), .int .i64 x1.1]), (3, .cells [.str ((readV (bs ((Rd.cutL 10 s.data.toList).getD (k + 1) []))).1.name), .int .i64 ((readV (bs ((Rd.cutL 10 s.data.toList).getD (k + 1) []))).1.at_), .int .i64 ((readV (bs ((Rd.cutL 10 s.data.toList).getD (k + 1) []))).1.value)]), (4, .arr 2 1 (fun _ jc => ([.str ((readV (bs ((Rd.cutL 10 s.data.toList).getD (k + 1) []))).1.name), .con (.slice none 0 0)] : List AV).getD jc (.con undef))), (5, .arr 2 ((imRows s k).length + 1) (fun ia ja => if ia < (imRows s k).length then (rowC0 (⟨imRows s k, x1.1⟩ : GHead) 500 : Nat → Nat → AV) ia ja else (fun _ jc => ([.str ((readV (bs ((Rd.cutL 10 s.data.toList).getD (k + 1) []))).1.name), .con (.slice none 0 0)] : List AV).getD jc (.con undef) : Nat → Nat → AV) (ia - (imRows s k).length) ja)), (500, .trees ((imRows s k).length) (imX (imRows s k) (readV (bs ((Rd.cutL 10 s.data.toList).getD (k + 1) []))).1))]) ⟨HLe.refl rfl, HLe.refl rfl, HLe.refl rfl, HLe.refl rfl, HLe.refl rfl, ⟨_, rfl, fun _ hi => (imX_lt hi).symm⟩, trivial⟩ ?_
     refine AW.anyX [⟨[], [], [], []⟩, ⟨[], [], [], []⟩, ⟨[], [], [], []⟩, ⟨[], [], [], []⟩, ⟨[5], [], [], []⟩, ⟨[], [], [], []⟩, ⟨[3], [], [], []⟩, ⟨[], [], [], []⟩, ⟨[3], [], [], []⟩, ⟨[], [], [], []⟩, ⟨[], [6], [6], [(6, .arr 2 1 (fun _ jc => ([.int .i64 ((readV (bs ((Rd.cutL 10 s.data.toList).getD (k + 1) []))).1.at_), .int .i64 ((readV (bs ((Rd.cutL 10 s.data.toList).getD (k + 1) []))).1.value)] : List AV).getD jc (.con undef)))]⟩, ⟨[], [6, 7, 500], [7], [(6, .arr 2 1 (fun _ jc => ([.int .i64 ((readV (bs ((Rd.cutL 10 s.data.toList).getD (k + 1) []))).1.at_), .int .i64 ((readV (bs ((Rd.cutL 10 s.data.toList).getD (k + 1) []))).1.value)] : List AV).getD jc (.con undef))), (500, .trees ((imRows s k).length + 1) (imX (imRows s k) (readV (bs ((Rd.cutL 10 s.data.toList).getD (k + 1) []))).1))]⟩, ⟨[], [], [], []⟩, ⟨[], [], [], []⟩, ⟨[], [5], [], [(5, .arr 2 ((imRows s k).length + 1) (fun a b => if a = (imRows s k).length ∧ b = 1 then .tre 500 ((imRows s k).length) else (fun ia ja => if ia < (imRows s k).length then (rowC0 (⟨imRows s k, x1.1⟩ : GHead) 500 : Nat → Nat → AV) ia ja else (fun _ jc => ([.str ((readV (bs ((Rd.cutL 10 s.data.toList).getD (k + 1) []))).1.name), .con (.slice none 0 0)] : List AV).getD jc (.con undef) : Nat → Nat → AV) (ia - (imRows s k).length) ja : Nat → Nat → AV) a b))]⟩] (by kernel_rfl) (by kernel_rfl) (by kernel_rfl) (by repeat' first | exact trivial | exact .inl rfl | exact .inr (.inr trivial) | exact .inr (.inl (by decide +kernel)) | exact .inr (.inr (by repeat first | exact trivial | refine And.intro ?_ ?_ | exact rfl | ((intro a_ b_; first | exact getD_no rfl | exact rowC0_no rfl _ _ | exact rowS_no rfl rfl _ _ | exact insF_no (rowC0_no rfl) (fun _ _ => getD_no rfl) _ _ _ | ((try dsimp only); (repeat' split) <;> first | rfl | exact rowC0_no rfl _ _ | exact getD_no rfl | exact insF_no (rowC0_no rfl) (fun _ _ => getD_no rfl) _ _ _))))) | refine ⟨?_, ?_⟩) ⟨trivial, trivial, trivial, trivial, trivial, trivial, trivial, trivial, trivial, trivial, ⟨(by repeat first | exact trivial | refine ⟨by decide, by first | rfl | exact trivial | (intro a_ b_; first | exact getD_no rfl | exact rowC0_no rfl _ _ | exact rowS_no rfl rfl _ _ | exact insF_no (rowC0_no rfl) (fun _ _ => getD_no rfl) _ _ _ | ((try dsimp only); (repeat' split) <;> first | rfl | exact rowC0_no rfl _ _ | exact getD_no rfl | exact insF_no (rowC0_no rfl) (fun _ _ => getD_no rfl) _ _ _)), ?_⟩), trivial⟩, ⟨(by repeat first | exact trivial | refine ⟨by decide, by first | rfl | exact trivial | (intro a_ b_; first | exact getD_no rfl | exact rowC0_no rfl _ _ | exact rowS_no rfl rfl _ _ | exact insF_no (rowC0_no rfl) (fun _ _ => getD_no rfl) _ _ _ | ((try dsimp only); (repeat' split) <;> first | rfl | exact rowC0_no rfl _ _ | exact getD_no rfl | exact insF_no (rowC0_no rfl) (fun _ _ => getD_no rfl) _ _ _)), ?_⟩), trivial⟩, trivial, trivial, trivial, trivial⟩ ?_
     refine ADX.pure [] (PureOp.move rfl (.tmp rfl)) rfl rfl (nB rfl) trivial rfl ?_
     refine ADX.pure [] (PureOp.move rfl (.tmp rfl)) rfl rfl (nB rfl) trivial rfl ?_
     refine ADX.pure [] (PureOp.nilPtr rfl (.tmp rfl)) rfl rfl (nB rfl) trivial rfl ?_
     refine ADX.pure [] (PureOp.fieldPtr rfl (.tmp rfl) f32_) rfl rfl (nB rfl) trivial rfl ?_
     refine ADX.pure [(5, .arr 2 ((imRows s k).length + 1) (fun ia ja => if ia < (imRows s k).length then (rowC0 (⟨imRows s k, x1.1⟩ : GHead) 500 : Nat → Nat → AV) ia ja else (fun _ jc => ([.str ((readV (bs ((Rd.cutL 10 s.data.toList).getD (k + 1) []))).1.name), .con (.slice none 0 0)] : List AV).getD jc (.con undef) : Nat → Nat → AV) (ia - (imRows s k).length) ja))] (PureOp.loadPtrE (y := .con (.slice none 0 0)) rfl (.tmp rfl) f34_ rfl rfl (by exact (show (imRows s k).length < ((imRows s k).length + 1) from by omega)) (nB rfl) (by show (if _ < _ then _ else _) = _; rw [if_neg (Nat.lt_irrefl _)]; rfl)) rfl rfl (nB rfl) ⟨rfl, trivial⟩ rfl ?_
     refine ADX.pure [] (PureOp.fieldPtr rfl (.tmp rfl) f46_) rfl rfl (nB rfl) trivial rfl ?_
     refine ADX.pure [(3, .cells [.str ((readV (bs ((Rd.cutL 10 s.data.toList).getD (k + 1) []))).1.name), .int .i64 ((readV (bs ((Rd.cutL 10 s.data.toList).getD (k + 1) []))).1.at_), .int .i64 ((readV (bs ((Rd.cutL 10 s.data.toList).getD (k + 1) []))).1.value)])] (PureOp.loadPtr rfl (.tmp rfl) f9_ rfl rfl (nB rfl) (nB rfl)) rfl rfl (nB rfl) ⟨rfl, trivial⟩ rfl ?_
     refine ADX.pure [] (PureOp.fieldPtr rfl (.tmp rfl) f47_) rfl rfl (nB rfl) trivial rfl ?_
     refine ADX.pure [(3, .cells [.str ((readV (bs ((Rd.cutL 10 s.data.toList).getD (k + 1) []))).1.name), .int .i64 ((readV (bs ((Rd.cutL 10 s.data.toList).getD (k + 1) []))).1.at_), .int .i64 ((readV (bs ((Rd.cutL 10 s.data.toList).getD (k + 1) []))).1.value)])] (PureOp.loadPtr rfl (.tmp rfl) f9_ rfl rfl (nB rfl) (nB rfl)) rfl rfl (nB rfl) ⟨rfl, trivial⟩ rfl ?_
     refine ADX.pure [] (PureOp.build (ys := [.int .i64 ((readV (bs ((Rd.cutL 10 s.data.toList).getD (k + 1) []))).1.at_), .int .i64 ((readV (bs ((Rd.cutL 10 s.data.toList).getD (k + 1) []))).1.value)]) (l := [.int .i64 0, .int .i64 0]) (pl := [(0, 1), (1, 1)]) (z := (.agg #[.int .i64 0, .int .i64 0])) rfl (by kernel_rfl) (by kernel_rfl) (fun _ _ _ => ⟨_, _, rfl, rfl, ⟨_, _, rfl, rfl, rfl⟩⟩) ⟨(.tmp rfl), trivial, rfl, ⟨(.tmp rfl), trivial, rfl, trivial⟩⟩ rfl) rfl rfl (nB rfl) trivial rfl ?_
     refine ADX.eff (tk := [6]) (new := [6]) (s := .one (.own 6 2 1)) (F := [(98, .one (.own 6 2 1))]) (Hin := []) (Hout := [(6, .arr 2 1 (fun _ jc => ([.int .i64 ((readV (bs ((Rd.cutL 10 s.data.toList).getD (k + 1) []))).1.at_), .int .i64 ((readV (bs ((Rd.cutL 10 s.data.toList).getD (k + 1) []))).1.value)] : List AV).getD jc (.con undef)))]) (fun E X hE hX Q rest hk => ?_) trivial ⟨rfl, rfl⟩ rfl rfl rfl rfl ⟨(by repeat first | exact trivial | refine ⟨by decide, by first | rfl | exact trivial | (intro a_ b_; first | exact getD_no rfl | exact rowC0_no rfl _ _ | exact rowS_no rfl rfl _ _ | exact insF_no (rowC0_no rfl) (fun _ _ => getD_no rfl) _ _ _ | ((try dsimp only); (repeat' split) <;> first | rfl | exact rowC0_no rfl _ _ | exact getD_no rfl | exact insF_no (rowC0_no rfl) (fun _ _ => getD_no rfl) _ _ _)), ?_⟩), trivial⟩ rfl (fun _ e => by cases e; exact nB rfl) ?_
     ·
      refine ARun.slice1 (id := 6) (z := (.agg #[.int .i64 0, .int .i64 0])) (by_ := 16) rfl (.tmp rfl) (SV.cells_of (by exact ⟨trivial, trivial, trivial⟩)) (by kernel_rfl) rfl rfl (by decide) (by decide) (Fr.ext2 ⟨rfl, (by repeat first | exact trivial | refine ⟨by decide, by first | rfl | exact trivial | (intro a_ b_; first | exact getD_no rfl | exact rowC0_no rfl _ _ | exact rowS_no rfl rfl _ _ | exact insF_no (rowC0_no rfl) (fun _ _ => getD_no rfl) _ _ _ | ((try dsimp only); (repeat' split) <;> first | rfl | exact rowC0_no rfl _ _ | exact getD_no rfl | exact insF_no (rowC0_no rfl) (fun _ _ => getD_no rfl) _ _ _)), ?_⟩)⟩ hE hX rfl rfl) rfl rfl rfl (nB rfl) ?_
      refine ARun.hleX ?_ ?_ hk
      ·
       exact HeapLe.one rfl trivial
      ·
       repeat (first | exact LkX.refl | refine LkX.cons (hX.none rfl) ?_ | refine LkX.filter (hX.none rfl) ?_)
     refine ADX.eff (tk := [6, 7, 500]) (new := [7]) (s := .one (.tre 500 ((imRows s k).length))) (F := [(99, .one (.tre 500 ((imRows s k).length))), (99, .one (.own 7 2 (0 + 1)))]) (Hin := [(6, .arr 2 1 (fun _ jc => ([.int .i64 ((readV (bs ((Rd.cutL 10 s.data.toList).getD (k + 1) []))).1.at_), .int .i64 ((readV (bs ((Rd.cutL 10 s.data.toList).getD (k + 1) []))).1.value)] : List AV).getD jc (.con undef))), (500, .trees ((imRows s k).length) (imX (imRows s k) (readV (bs ((Rd.cutL 10 s.data.toList).getD (k + 1) []))).1))]) (Hout := [(6, .arr 2 1 (fun _ jc => ([.int .i64 ((readV (bs ((Rd.cutL 10 s.data.toList).getD (k + 1) []))).1.at_), .int .i64 ((readV (bs ((Rd.cutL 10 s.data.toList).getD (k + 1) []))).1.value)] : List AV).getD jc (.con undef))), (500, .trees ((imRows s k).length + 1) (imX (imRows s k) (readV (bs ((Rd.cutL 10 s.data.toList).getD (k + 1) []))).1))]) (fun E X hE hX Q rest hk => ?_) ⟨rfl, rfl, trivial⟩ ⟨rfl, rfl⟩ rfl rfl rfl rfl ⟨(by repeat first | exact trivial | refine ⟨by decide, by first | rfl | exact trivial | (intro a_ b_; first | exact getD_no rfl | exact rowC0_no rfl _ _ | exact rowS_no rfl rfl _ _ | exact insF_no (rowC0_no rfl) (fun _ _ => getD_no rfl) _ _ _ | ((try dsimp only); (repeat' split) <;> first | rfl | exact rowC0_no rfl _ _ | exact getD_no rfl | exact insF_no (rowC0_no rfl) (fun _ _ => getD_no rfl) _ _ _)), ?_⟩), trivial⟩ rfl (fun _ e => by cases e; exact nB rfl) ?_
     ·
      refine ARun.append (id := 7) (sz := 2) (n := 0) (m := 1) (by_ := 16) (z := (.agg #[.int .i64 0, .int .i64 0])) (f := fun _ _ => .con undef) (g := fun _ jc => ([.int .i64 ((readV (bs ((Rd.cutL 10 s.data.toList).getD (k + 1) []))).1.at_), .int .i64 ((readV (bs ((Rd.cutL 10 s.data.toList).getD (k + 1) []))).1.value)] : List AV).getD jc (.con undef)) (h := fun ia ja => if ia < 0 then (fun _ _ => .con undef : Nat → Nat → AV) ia ja else (fun _ jc => ([.int .i64 ((readV (bs ((Rd.cutL 10 s.data.toList).getD (k + 1) []))).1.at_), .int .i64 ((readV (bs ((Rd.cutL 10 s.data.toList).getD (k + 1) []))).1.value)] : List AV).getD jc (.con undef) : Nat → Nat → AV) (ia - 0) ja) rfl (by kernel_rfl) rfl f24_ (.nil (.tmp rfl) rfl) (.own (.tmp rfl) rfl rfl (Nat.le_refl _) (fun _ _ _ _ => rfl)) (by decide) (fun i j hi hj => match j, hj with | 0, _ => rfl | 1, _ => rfl | _ + 2, h => absurd h (by omega)) (fun _ _ _ _ => rfl) (by omega) (by omega) (by repeat first | exact Fr.ext2 ⟨rfl, (by repeat first | exact trivial | refine ⟨by decide, by first | rfl | exact trivial | (intro a_ b_; first | exact getD_no rfl | exact rowC0_no rfl _ _ | exact rowS_no rfl rfl _ _ | exact insF_no (rowC0_no rfl) (fun _ _ => getD_no rfl) _ _ _ | ((try dsimp only); (repeat' split) <;> first | rfl | exact rowC0_no rfl _ _ | exact getD_no rfl | exact insF_no (rowC0_no rfl) (fun _ _ => getD_no rfl) _ _ _)), ?_⟩)⟩ hE hX rfl rfl | refine Fr.consE rfl ?_ | refine Fr.consH (by decide) (by first | rfl | exact trivial | (intro a_ b_; first | exact getD_no rfl | exact rowC0_no rfl _ _ | exact rowS_no rfl rfl _ _ | exact insF_no (rowC0_no rfl) (fun _ _ => getD_no rfl) _ _ _ | ((try dsimp only); (repeat' split) <;> first | rfl | exact rowC0_no rfl _ _ | exact getD_no rfl | exact insF_no (rowC0_no rfl) (fun _ _ => getD_no rfl) _ _ _))) ?_ | refine Fr.filt ?_) (fun a_ b_ => by (try dsimp only); (repeat' split) <;> first | rfl | exact rowC0_no rfl _ _ | exact getD_no rfl) rfl rfl (nB rfl) ?_
      refine ARun.closeRow 99 7 500 (imRows s k).length 2 (0 + 1) (m' := 1) (X := imX (imRows s k) (readV (bs ((Rd.cutL 10 s.data.toList).getD (k + 1) []))).1) (g := fun a b => ceSample (([⟨(readV (bs ((Rd.cutL 10 s.data.toList).getD (k + 1) []))).1.at_, (readV (bs ((Rd.cutL 10 s.data.toList).getD (k + 1) []))).1.value⟩] : List GSample).getD a (default : GSample)) b) rfl rfl rfl rfl (Nat.le_refl _) rfl rfl (imX_n _ _) rfl (fun i j hi hj => (show (if i < 0 then _ else _) = _ from im_cellN hi hj)) (fun i j hi hj => match j, hj with | 0, _ => rfl | 1, _ => rfl | _ + 2, h => absurd h (by omega)) ?_
      refine ARun.hleX ?_ ?_ hk
      ·
       exact HeapLe.one rfl (HeapLe.one rfl trivial)
      ·
       repeat (first | exact LkX.refl | refine LkX.cons (hX.none rfl) ?_ | refine LkX.filter (hX.none rfl) ?_)
     refine ADX.pure [] (PureOp.nilPtr rfl (.tmp rfl)) rfl rfl (nB rfl) trivial rfl ?_
     refine ADX.pure [] (PureOp.fieldPtr rfl (.tmp rfl) f32_) rfl rfl (nB rfl) trivial rfl ?_
     refine ADX.eff (tk := [5]) (new := []) (s := .one (.con undef)) (F := []) (Hin := [(5, .arr 2 ((imRows s k).length + 1) (fun ia ja => if ia < (imRows s k).length then (rowC0 (⟨imRows s k, x1.1⟩ : GHead) 500 : Nat → Nat → AV) ia ja else (fun _ jc => ([.str ((readV (bs ((Rd.cutL 10 s.data.toList).getD (k + 1) []))).1.name), .con (.slice none 0 0)] : List AV).getD jc (.con undef) : Nat → Nat → AV) (ia - (imRows s k).length) ja))]) (Hout := [(5, .arr 2 ((imRows s k).length + 1) (fun a b => if a = (imRows s k).length ∧ b = 1 then .tre 500 ((imRows s k).length) else (fun ia ja => if ia < (imRows s k).length then (rowC0 (⟨imRows s k, x1.1⟩ : GHead) 500 : Nat → Nat → AV) ia ja else (fun _ jc => ([.str ((readV (bs ((Rd.cutL 10 s.data.toList).getD (k + 1) []))).1.name), .con (.slice none 0 0)] : List AV).getD jc (.con undef) : Nat → Nat → AV) (ia - (imRows s k).length) ja : Nat → Nat → AV) a b))]) (fun E X hE hX Q rest hk => ?_) ⟨rfl, trivial⟩ ⟨rfl, rfl⟩ rfl rfl rfl rfl trivial rfl (fun _ e => by cases e) ?_
     ·
      refine ARun.storeArr rfl (.tmp rfl) (.tmp rfl) trivial rfl (by exact (show (imRows s k).length < ((imRows s k).length + 1) from by omega)) (nB rfl) f52_ rfl rfl ?_
      refine ARun.hleX ?_ ?_ hk
      ·
       exact HeapLe.one rfl trivial
      ·
       repeat (first | exact LkX.refl | refine LkX.cons (hX.none rfl) ?_ | refine LkX.filter (hX.none rfl) ?_)
     refine ADX.nil (H := [(0, .cells [.con (.slice none 0 0), .int .i64 0]), (1, .cells [.own 5 2 ((imRows s k).length + 1), .int .i64 x1.1]), (3, .cells [.str ((readV (bs ((Rd.cutL 10 s.data.toList).getD (k + 1) []))).1.name), .int .i64 ((readV (bs ((Rd.cutL 10 s.data.toList).getD (k + 1) []))).1.at_), .int .i64 ((readV (bs ((Rd.cutL 10 s.data.toList).getD (k + 1) []))).1.value)]), (4, .arr 2 1 (fun _ jc => ([.str ((readV (bs ((Rd.cutL 10 s.data.toList).getD (k + 1) []))).1.name), .con (.slice none 0 0)] : List AV).getD jc (.con undef))), (5, .arr 2 ((imRows s k).length + 1) (fun a b => if a = (imRows s k).length ∧ b = 1 then .tre 500 ((imRows s k).length) else (fun ia ja => if ia < (imRows s k).length then (rowC0 (⟨imRows s k, x1.1⟩ : GHead) 500 : Nat → Nat → AV) ia ja else (fun _ jc => ([.str ((readV (bs ((Rd.cutL 10 s.data.toList).getD (k + 1) []))).1.name), .con (.slice none 0 0)] : List AV).getD jc (.con undef) : Nat → Nat → AV) (ia - (imRows s k).length) ja : Nat → Nat → AV) a b)), (6, .arr 2 1 (fun _ jc => ([.int .i64 ((readV (bs ((Rd.cutL 10 s.data.toList).getD (k + 1) []))).1.at_), .int .i64 ((readV (bs ((Rd.cutL 10 s.data.toList).getD (k + 1) []))).1.value)] : List AV).getD jc (.con undef))), (500, .trees ((imRows s k).length + 1) (imX (imRows s k) (readV (bs ((Rd.cutL 10 s.data.toList).getD (k + 1) []))).1))]) ?_ ?_
     ·
      exact HeapLe.one rfl (HeapLe.one rfl (HeapLe.one rfl (HeapLe.one rfl (HeapLe.one rfl (HeapLe.one rfl (HeapLe.one rfl trivial))))))
     refine AW.region ?_
     refine pu (.add (c := ((k + 1 : Nat) : Int)) rfl (.tmp rfl) .int (by rw [wrap_id (by omega) (by omega)]; omega)) rfl rfl rfl ?_
     refine pu (.move rfl (.tmp rfl)) rfl rfl rfl ?_
     refine ARun.nil ?_
     exact ⟨k + 1, (swp 2 5), (show k + 1 ≤ (Rd.cutL 10 s.data.toList).length - 2 from by omega), by dsimp only; omega, swp_inj, (swp_fix rfl rfl), ⟨⟨⟨_, rfl, rfl⟩, ⟨_, rfl, rfl⟩, ⟨_, rfl, rfl⟩, ⟨_, rfl, rfl⟩, ⟨_, rfl, rfl⟩, ⟨_, rfl, rfl⟩, trivial⟩, ⟨⟨_, rfl, rfl, Nat.le_refl _, fun _ _ _ _ => rfl⟩, ⟨_, rfl, rfl, Nat.le_refl _, fun i j _ _ => by rw [hc]; rfl⟩, ⟨_, rfl, rfl, Nat.le_of_eq hc, fun i j hi hj => (im_rowN (z := x1.1) (Nat.lt_of_lt_of_eq hi hc) hj).trans ((congrArg (fun r => rowC0 ⟨r, x1.1⟩ 500 i j) hnx.symm).trans (rowC0_ren (h := (⟨imRows s (k + 1), x1.1⟩ : GHead)) (K := 500) (K' := 500) rfl i j))⟩, ⟨imX (imRows s k) (readV (bs ((Rd.cutL 10 s.data.toList).getD (k + 1) []))).1, by rw [hc]; rfl, fun q hq => (im_famN (z := x1.1) (Nat.lt_of_lt_of_eq hq hc)).trans (congrArg (fun r => rowX0 ⟨r, x1.1⟩ q) hnx.symm)⟩, trivial⟩⟩⟩
    ·
     obtain ⟨h0, hold⟩ := ih_old hb27
     have hnx : imRows s (k + 1) = (imRows s k).set ((imRows s k).length - 1) ⟨((imRows s k).getD ((imRows s k).length - 1) (default : GRow)).name, ((imRows s k).getD ((imRows s k).length - 1) (default : GRow)).samples ++ [⟨(readV (bs ((Rd.cutL 10 s.data.toList).getD (k + 1) []))).1.at_, (readV (bs ((Rd.cutL 10 s.data.toList).getD (k + 1) []))).1.value⟩]⟩ := hold
     have hc : (imRows s (k + 1)).length = (imRows s k).length := by rw [hnx, List.length_set]
     have hsk := hil.2 ((imRows s k).length - 1)
     refine AW.skip ?_
     refine AW.seq ?_
     refine AW.region ?_
     refine pu (.fieldPtr rfl (.tmp rfl) f29_) rfl rfl rfl ?_
     refine pu (.loadPtr rfl (.tmp rfl) f33_ rfl rfl (nB rfl) (nB rfl)) rfl rfl rfl ?_
     refine pu (.fieldPtr rfl (.tmp rfl) f29_) rfl rfl rfl ?_
     refine pu (.loadPtr rfl (.tmp rfl) f33_ rfl rfl (nB rfl) (nB rfl)) rfl rfl rfl ?_
     refine pu (.lenOwn rfl (.tmp rfl) f35_) rfl rfl rfl ?_
     refine pu (.sub (c := ((((imRows s k).length - 1) : Nat) : Int)) rfl (.tmp rfl) .int (by rw [wrap_id (by omega) (by omega)]; omega)) rfl rfl rfl ?_
     refine pu (.indexOwn (i := ((imRows s k).length - 1)) rfl (.tmp rfl) f28_ (.tmp rfl) rfl (by exact (show ((imRows s k).length - 1) < _ from by omega))) rfl rfl rfl ?_
     refine pu (.assign rfl (.tmp rfl)) rfl rfl rfl ?_
     refine ARun.nil ?_
     refine AW.anyX [⟨[], [], [], []⟩, ⟨[], [], [], []⟩, ⟨[], [], [], []⟩, ⟨[], [], [], []⟩, ⟨[], [2, 8, 500, 501], [8, 501], [(2, .arr 2 ((imRows s k).length) (rowS (⟨imRows s k, x1.1⟩ : GHead) ((imRows s k).length - 1))), (8, .arr 2 (((imRows s k).getD ((imRows s k).length - 1) (default : GRow)).samples.length) (fun a b => ceSample (((imRows s k).getD ((imRows s k).length - 1) (default : GRow)).samples.getD a (default : GSample)) b)), (501, .trees ((imRows s k).length - 1) (imY (imRows s k) (readV (bs ((Rd.cutL 10 s.data.toList).getD (k + 1) []))).1))]⟩, ⟨[], [], [], []⟩, ⟨[3], [], [], []⟩, ⟨[], [], [], []⟩, ⟨[3], [], [], []⟩, ⟨[], [], [], []⟩, ⟨[], [9], [9], [(9, .arr 2 1 (fun _ jc => ([.int .i64 ((readV (bs ((Rd.cutL 10 s.data.toList).getD (k + 1) []))).1.at_), .int .i64 ((readV (bs ((Rd.cutL 10 s.data.toList).getD (k + 1) []))).1.value)] : List AV).getD jc (.con undef)))]⟩, ⟨[], [2, 8, 9, 10, 78, 501], [10, 78], [(2, .arr 2 ((imRows s k).length) (fun a b => if a = ((imRows s k).length - 1) ∧ b = 1 then .tre 500 ((imRows s k).length - 1) else rowC0 (⟨imRows s k, x1.1⟩ : GHead) 78 a b)), (9, .arr 2 1 (fun _ jc => ([.int .i64 ((readV (bs ((Rd.cutL 10 s.data.toList).getD (k + 1) []))).1.at_), .int .i64 ((readV (bs ((Rd.cutL 10 s.data.toList).getD (k + 1) []))).1.value)] : List AV).getD jc (.con undef))), (78, .trees ((imRows s k).length) (fun q => imY (imRows s k) (readV (bs ((Rd.cutL 10 s.data.toList).getD (k + 1) []))).1 (pmI ((imRows s k).length - 1) ((imRows s k).length - 1) q)))]⟩, ⟨[], [], [], []⟩, ⟨[], [], [], []⟩, ⟨[], [2], [], [(2, .arr 2 ((imRows s k).length) (fun a b => if a = ((imRows s k).length - 1) ∧ b = 1 then .tre 78 ((imRows s k).length - 1) else (fun a b => if a = ((imRows s k).length - 1) ∧ b = 1 then .tre 500 ((imRows s k).length - 1) else rowC0 (⟨imRows s k, x1.1⟩ : GHead) 78 a b : Nat → Nat → AV) a b))]⟩] (by kernel_rfl) (by kernel_rfl) (by kernel_rfl) (by repeat' first | exact trivial | exact .inl rfl | exact .inr (.inr trivial) | exact .inr (.inl (by decide +kernel)) | exact .inr (.inr (by repeat first | exact trivial | refine And.intro ?_ ?_ | exact rfl | ((intro a_ b_; first | exact getD_no rfl | exact rowC0_no rfl _ _ | exact rowS_no rfl rfl _ _ | exact insF_no (rowC0_no rfl) (fun _ _ => getD_no rfl) _ _ _ | ((try dsimp only); (repeat' split) <;> first | rfl | exact rowC0_no rfl _ _ | exact getD_no rfl | exact insF_no (rowC0_no rfl) (fun _ _ => getD_no rfl) _ _ _))))) | refine ⟨?_, ?_⟩) ⟨trivial, trivial, trivial, trivial, ⟨(by repeat first | exact trivial | refine ⟨by decide, by first | rfl | exact trivial | (intro a_ b_; first | exact getD_no rfl | exact rowC0_no rfl _ _ | exact rowS_no rfl rfl _ _ | exact insF_no (rowC0_no rfl) (fun _ _ => getD_no rfl) _ _ _ | ((try dsimp only); (repeat' split) <;> first | rfl | exact rowC0_no rfl _ _ | exact getD_no rfl | exact insF_no (rowC0_no rfl) (fun _ _ => getD_no rfl) _ _ _)), ?_⟩), (by repeat first | exact trivial | refine ⟨by decide, by first | rfl | exact trivial | (intro a_ b_; first | exact getD_no rfl | exact rowC0_no rfl _ _ | exact rowS_no rfl rfl _ _ | exact insF_no (rowC0_no rfl) (fun _ _ => getD_no rfl) _ _ _ | ((try dsimp only); (repeat' split) <;> first | rfl | exact rowC0_no rfl _ _ | exact getD_no rfl | exact insF_no (rowC0_no rfl) (fun _ _ => getD_no rfl) _ _ _)), ?_⟩), trivial⟩, trivial, trivial, trivial, trivial, trivial, ⟨(by repeat first | exact trivial | refine ⟨by decide, by first | rfl | exact trivial | (intro a_ b_; first | exact getD_no rfl | exact rowC0_no rfl _ _ | exact rowS_no rfl rfl _ _ | exact insF_no (rowC0_no rfl) (fun _ _ => getD_no rfl) _ _ _ | ((try dsimp only); (repeat' split) <;> first | rfl | exact rowC0_no rfl _ _ | exact getD_no rfl | exact insF_no (rowC0_no rfl) (fun _ _ => getD_no rfl) _ _ _)), ?_⟩), trivial⟩, ⟨(by repeat first | exact trivial | refine ⟨by decide, by first | rfl | exact trivial | (intro a_ b_; first | exact getD_no rfl | exact rowC0_no rfl _ _ | exact rowS_no rfl rfl _ _ | exact insF_no (rowC0_no rfl) (fun _ _ => getD_no rfl) _ _ _ | ((try dsimp only); (repeat' split) <;> first | rfl | exact rowC0_no rfl _ _ | exact getD_no rfl | exact insF_no (rowC0_no rfl) (fun _ _ => getD_no rfl) _ _ _)), ?_⟩), (by repeat first | exact trivial | refine ⟨by decide, by first | rfl | exact trivial | (intro a_ b_; first | exact getD_no rfl | exact rowC0_no rfl _ _ | exact rowS_no rfl rfl _ _ | exact insF_no (rowC0_no rfl) (fun _ _ => getD_no rfl) _ _ _ | ((try dsimp only); (repeat' split) <;> first | rfl | exact rowC0_no rfl _ _ | exact getD_no rfl | exact insF_no (rowC0_no rfl) (fun _ _ => getD_no rfl) _ _ _)), ?_⟩), trivial⟩, trivial, trivial, trivial, trivial⟩ ?_
     refine ADX.pure [] (PureOp.move rfl (.tmp rfl)) rfl rfl (nB rfl) trivial rfl ?_
     refine ADX.pure [] (PureOp.move rfl (.tmp rfl)) rfl rfl (nB rfl) trivial rfl ?_
     refine ADX.pure [] (PureOp.nilPtr rfl (.tmp rfl)) rfl rfl (nB rfl) trivial rfl ?_
     refine ADX.pure [] (PureOp.fieldPtr rfl (.tmp rfl) f32_) rfl rfl (nB rfl) trivial rfl ?_
     refine ADX.eff (tk := [2, 8, 500, 501]) (new := [8, 501]) (s := .one (.own 8 2 (((imRows s k).getD ((imRows s k).length - 1) (default : GRow)).samples.length))) (F := [(92, .one (.own 8 2 (((imRows s k).getD ((imRows s k).length - 1) (default : GRow)).samples.length))), (92, .one (.tre 500 ((imRows s k).length - 1)))]) (Hin := [(2, .arr 2 ((imRows s k).length) (rowC0 (⟨imRows s k, x1.1⟩ : GHead) 500)), (500, .trees ((imRows s k).length) (rowX0 (⟨imRows s k, x1.1⟩ : GHead)))]) (Hout := [(2, .arr 2 ((imRows s k).length) (rowS (⟨imRows s k, x1.1⟩ : GHead) ((imRows s k).length - 1))), (8, .arr 2 (((imRows s k).getD ((imRows s k).length - 1) (default : GRow)).samples.length) (fun a b => ceSample (((imRows s k).getD ((imRows s k).length - 1) (default : GRow)).samples.getD a (default : GSample)) b)), (501, .trees ((imRows s k).length - 1) (imY (imRows s k) (readV (bs ((Rd.cutL 10 s.data.toList).getD (k + 1) []))).1))]) (fun E X hE hX Q rest hk => ?_) ⟨rfl, rfl, trivial⟩ ⟨rfl, rfl⟩ rfl rfl rfl rfl ⟨(by repeat first | exact trivial | refine ⟨by decide, by first | rfl | exact trivial | (intro a_ b_; first | exact getD_no rfl | exact rowC0_no rfl _ _ | exact rowS_no rfl rfl _ _ | exact insF_no (rowC0_no rfl) (fun _ _ => getD_no rfl) _ _ _ | ((try dsimp only); (repeat' split) <;> first | rfl | exact rowC0_no rfl _ _ | exact getD_no rfl | exact insF_no (rowC0_no rfl) (fun _ _ => getD_no rfl) _ _ _)), ?_⟩), (by repeat first | exact trivial | refine ⟨by decide, by first | rfl | exact trivial | (intro a_ b_; first | exact getD_no rfl | exact rowC0_no rfl _ _ | exact rowS_no rfl rfl _ _ | exact insF_no (rowC0_no rfl) (fun _ _ => getD_no rfl) _ _ _ | ((try dsimp only); (repeat' split) <;> first | rfl | exact rowC0_no rfl _ _ | exact getD_no rfl | exact insF_no (rowC0_no rfl) (fun _ _ => getD_no rfl) _ _ _)), ?_⟩), trivial⟩ rfl (fun _ e => by cases e; exact nB rfl) ?_
     ·
      refine pu (.loadPtrE (y := .tre 500 ((imRows s k).length - 1)) rfl (.tmp rfl) f34_ rfl rfl (by exact (show ((imRows s k).length - 1) < (imRows s k).length from by omega)) (nB rfl) rfl) rfl rfl rfl ?_
      refine ARun.takeOut 92 500 ((imRows s k).length - 1) (imRows s k).length 2 ((imRows s k).getD ((imRows s k).length - 1) (default : GRow)).samples.length 8 (rowX0 (⟨imRows s k, x1.1⟩ : GHead)) (fun a b => ceSample (((imRows s k).getD ((imRows s k).length - 1) (default : GRow)).samples.getD a (default : GSample)) b) rfl rfl (by omega) rfl rfl (fun i j hi hj => match j, hj with | 0, _ => rfl | 1, _ => rfl | _ + 2, h => absurd h (by omega)) (fun _ _ => getD_no rfl) (by repeat first | exact Fr.ext2 ⟨rfl, (by repeat first | exact trivial | refine ⟨by decide, by first | rfl | exact trivial | (intro a_ b_; first | exact getD_no rfl | exact rowC0_no rfl _ _ | exact rowS_no rfl rfl _ _ | exact insF_no (rowC0_no rfl) (fun _ _ => getD_no rfl) _ _ _ | ((try dsimp only); (repeat' split) <;> first | rfl | exact rowC0_no rfl _ _ | exact getD_no rfl | exact insF_no (rowC0_no rfl) (fun _ _ => getD_no rfl) _ _ _)), ?_⟩)⟩ hE hX rfl rfl | refine Fr.consE rfl ?_ | refine Fr.consH (by decide) (by first | rfl | exact trivial | (intro a_ b_; first | exact getD_no rfl | exact rowC0_no rfl _ _ | exact rowS_no rfl rfl _ _ | exact insF_no (rowC0_no rfl) (fun _ _ => getD_no rfl) _ _ _ | ((try dsimp only); (repeat' split) <;> first | rfl | exact rowC0_no rfl _ _ | exact getD_no rfl | exact insF_no (rowC0_no rfl) (fun _ _ => getD_no rfl) _ _ _))) ?_ | refine Fr.filt ?_) (fun vv => ?_)
      refine ARun.reindex 500 501 2 (imRows s k).length ((imRows s k).length - 1) 2 (imRows s k).length (skP ((imRows s k).length - 1)) (fun i => if i = ((imRows s k).length - 1) then .con vv else rowX0 (⟨imRows s k, x1.1⟩ : GHead) i) (rowC0 (⟨imRows s k, x1.1⟩ : GHead) 500) (rowS (⟨imRows s k, x1.1⟩ : GHead) ((imRows s k).length - 1)) rfl rfl (skP_lt (show ((imRows s k).length - 1) < (imRows s k).length from by omega)) skP_inj (row_skip (h := (⟨imRows s k, x1.1⟩ : GHead)) (k := ((imRows s k).length - 1)) (show ((imRows s k).length - 1) < (imRows s k).length from by omega)) (by repeat first | exact Fr.ext2 ⟨rfl, (by repeat first | exact trivial | refine ⟨by decide, by first | rfl | exact trivial | (intro a_ b_; first | exact getD_no rfl | exact rowC0_no rfl _ _ | exact rowS_no rfl rfl _ _ | exact insF_no (rowC0_no rfl) (fun _ _ => getD_no rfl) _ _ _ | ((try dsimp only); (repeat' split) <;> first | rfl | exact rowC0_no rfl _ _ | exact getD_no rfl | exact insF_no (rowC0_no rfl) (fun _ _ => getD_no rfl) _ _ _)), ?_⟩)⟩ hE hX rfl rfl | refine Fr.consE rfl ?_ | refine Fr.consH (by decide) (by first | rfl | exact trivial | (intro a_ b_; first | exact getD_no rfl | exact rowC0_no rfl _ _ | exact rowS_no rfl rfl _ _ | exact insF_no (rowC0_no rfl) (fun _ _ => getD_no rfl) _ _ _ | ((try dsimp only); (repeat' split) <;> first | rfl | exact rowC0_no rfl _ _ | exact getD_no rfl | exact insF_no (rowC0_no rfl) (fun _ _ => getD_no rfl) _ _ _))) ?_ | refine Fr.filt ?_) ?_
      refine ARun.hleX ?_ ?_ hk
      ·
       exact ⟨HLe.refl rfl, HLe.refl rfl, ⟨_, rfl, fun q hq => imY_hole hq⟩, trivial⟩
      ·
       repeat (first | exact LkX.refl | refine LkX.cons (hX.none rfl) ?_ | refine LkX.filter (hX.none rfl) ?_)
     refine ADX.pure [] (PureOp.fieldPtr rfl (.tmp rfl) f46_) rfl rfl (nB rfl) trivial rfl ?_
     refine ADX.pure [(3, .cells [.str ((readV (bs ((Rd.cutL 10 s.data.toList).getD (k + 1) []))).1.name), .int .i64 ((readV (bs ((Rd.cutL 10 s.data.toList).getD (k + 1) []))).1.at_), .int .i64 ((readV (bs ((Rd.cutL 10 s.data.toList).getD (k + 1) []))).1.value)])] (PureOp.loadPtr rfl (.tmp rfl) f9_ rfl rfl (nB rfl) (nB rfl)) rfl rfl (nB rfl) ⟨rfl, trivial⟩ rfl ?_
     refine ADX.pure [] (PureOp.fieldPtr rfl (.tmp rfl) f47_) rfl rfl (nB rfl) trivial rfl ?_
     refine ADX.pure [(3, .cells [.str ((readV (bs ((Rd.cutL 10 s.data.toList).getD (k + 1) []))).1.name), .int .i64 ((readV (bs ((Rd.cutL 10 s.data.toList).getD (k + 1) []))).1.at_), .int .i64 ((readV (bs ((Rd.cutL 10 s.data.toList).getD (k + 1) []))).1.value)])] (PureOp.loadPtr rfl (.tmp rfl) f9_ rfl rfl (nB rfl) (nB rfl)) rfl rfl (nB rfl) ⟨rfl, trivial⟩ rfl ?_
     refine ADX.pure [] (PureOp.build (ys := [.int .i64 ((readV (bs ((Rd.cutL 10 s.data.toList).getD (k + 1) []))).1.at_), .int .i64 ((readV (bs ((Rd.cutL 10 s.data.toList).getD (k + 1) []))).1.value)]) (l := [.int .i64 0, .int .i64 0]) (pl := [(0, 1), (1, 1)]) (z := (.agg #[.int .i64 0, .int .i64 0])) rfl (by kernel_rfl) (by kernel_rfl) (fun _ _ _ => ⟨_, _, rfl, rfl, ⟨_, _, rfl, rfl, rfl⟩⟩) ⟨(.tmp rfl), trivial, rfl, ⟨(.tmp rfl), trivial, rfl, trivial⟩⟩ rfl) rfl rfl (nB rfl) trivial rfl ?_
     refine ADX.eff (tk := [9]) (new := [9]) (s := .one (.own 9 2 1)) (F := [(98, .one (.own 9 2 1))]) (Hin := []) (Hout := [(9, .arr 2 1 (fun _ jc => ([.int .i64 ((readV (bs ((Rd.cutL 10 s.data.toList).getD (k + 1) []))).1.at_), .int .i64 ((readV (bs ((Rd.cutL 10 s.data.toList).getD (k + 1) []))).1.value)] : List AV).getD jc (.con undef)))]) (fun E X hE hX Q rest hk => ?_) trivial ⟨rfl, rfl⟩ rfl rfl rfl rfl ⟨(by repeat first | exact trivial | refine ⟨by decide, by first | rfl | exact trivial | (intro a_ b_; first | exact getD_no rfl | exact rowC0_no rfl _ _ | exact rowS_no rfl rfl _ _ | exact insF_no (rowC0_no rfl) (fun _ _ => getD_no rfl) _ _ _ | ((try dsimp only); (repeat' split) <;> first | rfl | exact rowC0_no rfl _ _ | exact getD_no rfl | exact insF_no (rowC0_no rfl) (fun _ _ => getD_no rfl) _ _ _)), ?_⟩), trivial⟩ rfl (fun _ e => by cases e; exact nB rfl) ?_
     ·
      refine ARun.slice1 (id := 9) (z := (.agg #[.int .i64 0, .int .i64 0])) (by_ := 16) rfl (.tmp rfl) (SV.cells_of (by exact ⟨trivial, trivial, trivial⟩)) (by kernel_rfl) rfl rfl (by decide) (by decide) (Fr.ext2 ⟨rfl, (by repeat first | exact trivial | refine ⟨by decide, by first | rfl | exact trivial | (intro a_ b_; first | exact getD_no rfl | exact rowC0_no rfl _ _ | exact rowS_no rfl rfl _ _ | exact insF_no (rowC0_no rfl) (fun _ _ => getD_no rfl) _ _ _ | ((try dsimp only); (repeat' split) <;> first | rfl | exact rowC0_no rfl _ _ | exact getD_no rfl | exact insF_no (rowC0_no rfl) (fun _ _ => getD_no rfl) _ _ _)), ?_⟩)⟩ hE hX rfl rfl) rfl rfl rfl (nB rfl) ?_
      refine ARun.hleX ?_ ?_ hk
      ·
       exact HeapLe.one rfl trivial
      ·
       repeat (first | exact LkX.refl | refine LkX.cons (hX.none rfl) ?_ | refine LkX.filter (hX.none rfl) ?_)
     refine ADX.eff (tk := [2, 8, 9, 10, 78, 501]) (new := [10, 78]) (s := .one (.tre 78 ((imRows s k).length - 1))) (F := [(99, .one (.tre 78 ((imRows s k).length - 1))), (99, .one (.tre 501 ((imRows s k).length - 1))), (99, .one (.own 10 2 (((imRows s k).getD ((imRows s k).length - 1) (default : GRow)).samples.length + 1)))]) (Hin := [(2, .arr 2 ((imRows s k).length) (rowS (⟨imRows s k, x1.1⟩ : GHead) ((imRows s k).length - 1))), (8, .arr 2 (((imRows s k).getD ((imRows s k).length - 1) (default : GRow)).samples.length) (fun a b => ceSample (((imRows s k).getD ((imRows s k).length - 1) (default : GRow)).samples.getD a (default : GSample)) b)), (9, .arr 2 1 (fun _ jc => ([.int .i64 ((readV (bs ((Rd.cutL 10 s.data.toList).getD (k + 1) []))).1.at_), .int .i64 ((readV (bs ((Rd.cutL 10 s.data.toList).getD (k + 1) []))).1.value)] : List AV).getD jc (.con undef))), (501, .trees ((imRows s k).length - 1) (imY (imRows s k) (readV (bs ((Rd.cutL 10 s.data.toList).getD (k + 1) []))).1))]) (Hout := [(2, .arr 2 ((imRows s k).length) (fun a b => if a = ((imRows s k).length - 1) ∧ b = 1 then .tre 500 ((imRows s k).length - 1) else rowC0 (⟨imRows s k, x1.1⟩ : GHead) 78 a b)), (9, .arr 2 1 (fun _ jc => ([.int .i64 ((readV (bs ((Rd.cutL 10 s.data.toList).getD (k + 1) []))).1.at_), .int .i64 ((readV (bs ((Rd.cutL 10 s.data.toList).getD (k + 1) []))).1.value)] : List AV).getD jc (.con undef))), (78, .trees ((imRows s k).length) (fun q => imY (imRows s k) (readV (bs ((Rd.cutL 10 s.data.toList).getD (k + 1) []))).1 (pmI ((imRows s k).length - 1) ((imRows s k).length - 1) q)))]) (fun E X hE hX Q rest hk => ?_) ⟨rfl, rfl, rfl, rfl, trivial⟩ ⟨rfl, rfl⟩ rfl rfl rfl rfl ⟨(by repeat first | exact trivial | refine ⟨by decide, by first | rfl | exact trivial | (intro a_ b_; first | exact getD_no rfl | exact rowC0_no rfl _ _ | exact rowS_no rfl rfl _ _ | exact insF_no (rowC0_no rfl) (fun _ _ => getD_no rfl) _ _ _ | ((try dsimp only); (repeat' split) <;> first | rfl | exact rowC0_no rfl _ _ | exact getD_no rfl | exact insF_no (rowC0_no rfl) (fun _ _ => getD_no rfl) _ _ _)), ?_⟩), (by repeat first | exact trivial | refine ⟨by decide, by first | rfl | exact trivial | (intro a_ b_; first | exact getD_no rfl | exact rowC0_no rfl _ _ | exact rowS_no rfl rfl _ _ | exact insF_no (rowC0_no rfl) (fun _ _ => getD_no rfl) _ _ _ | ((try dsimp only); (repeat' split) <;> first | rfl | exact rowC0_no rfl _ _ | exact getD_no rfl | exact insF_no (rowC0_no rfl) (fun _ _ => getD_no rfl) _ _ _)), ?_⟩), trivial⟩ rfl (fun _ e => by cases e; exact nB rfl) ?_
     ·
      refine ARun.append (id := 10) (sz := 2) (n := ((imRows s k).getD ((imRows s k).length - 1) (default : GRow)).samples.length) (m := 1) (by_ := 16) (z := (.agg #[.int .i64 0, .int .i64 0])) (f := fun a b => ceSample (((imRows s k).getD ((imRows s k).length - 1) (default : GRow)).samples.getD a (default : GSample)) b) (g := fun _ jc => ([.int .i64 ((readV (bs ((Rd.cutL 10 s.data.toList).getD (k + 1) []))).1.at_), .int .i64 ((readV (bs ((Rd.cutL 10 s.data.toList).getD (k + 1) []))).1.value)] : List AV).getD jc (.con undef)) (h := fun ia ja => if ia < ((imRows s k).getD ((imRows s k).length - 1) (default : GRow)).samples.length then (fun a b => ceSample (((imRows s k).getD ((imRows s k).length - 1) (default : GRow)).samples.getD a (default : GSample)) b : Nat → Nat → AV) ia ja else (fun _ jc => ([.int .i64 ((readV (bs ((Rd.cutL 10 s.data.toList).getD (k + 1) []))).1.at_), .int .i64 ((readV (bs ((Rd.cutL 10 s.data.toList).getD (k + 1) []))).1.value)] : List AV).getD jc (.con undef) : Nat → Nat → AV) (ia - ((imRows s k).getD ((imRows s k).length - 1) (default : GRow)).samples.length) ja) rfl (by kernel_rfl) rfl f24_ (.own (.tmp rfl) rfl rfl rfl (Nat.le_refl _) (fun _ _ _ _ => rfl)) (.own (.tmp rfl) rfl rfl (Nat.le_refl _) (fun _ _ _ _ => rfl)) (by decide) (fun i j hi hj => match j, hj with | 0, _ => rfl | 1, _ => rfl | _ + 2, h => absurd h (by omega)) (fun _ _ _ _ => rfl) (by omega) (by omega) (by repeat first | exact Fr.ext2 ⟨rfl, (by repeat first | exact trivial | refine ⟨by decide, by first | rfl | exact trivial | (intro a_ b_; first | exact getD_no rfl | exact rowC0_no rfl _ _ | exact rowS_no rfl rfl _ _ | exact insF_no (rowC0_no rfl) (fun _ _ => getD_no rfl) _ _ _ | ((try dsimp only); (repeat' split) <;> first | rfl | exact rowC0_no rfl _ _ | exact getD_no rfl | exact insF_no (rowC0_no rfl) (fun _ _ => getD_no rfl) _ _ _)), ?_⟩)⟩ hE hX rfl rfl | refine Fr.consE rfl ?_ | refine Fr.consH (by decide) (by first | rfl | exact trivial | (intro a_ b_; first | exact getD_no rfl | exact rowC0_no rfl _ _ | exact rowS_no rfl rfl _ _ | exact insF_no (rowC0_no rfl) (fun _ _ => getD_no rfl) _ _ _ | ((try dsimp only); (repeat' split) <;> first | rfl | exact rowC0_no rfl _ _ | exact getD_no rfl | exact insF_no (rowC0_no rfl) (fun _ _ => getD_no rfl) _ _ _))) ?_ | refine Fr.filt ?_) (fun a_ b_ => by (try dsimp only); (repeat' split) <;> first | rfl | exact rowC0_no rfl _ _ | exact getD_no rfl) rfl rfl (nB rfl) ?_
      refine ARun.closeRow 99 10 501 ((imRows s k).length - 1) 2 (((imRows s k).getD ((imRows s k).length - 1) (default : GRow)).samples.length + 1) (m' := ((imRows s k).getD ((imRows s k).length - 1) (default : GRow)).samples.length + 1) (X := imY (imRows s k) (readV (bs ((Rd.cutL 10 s.data.toList).getD (k + 1) []))).1) (g := fun a b => ceSample ((((imRows s k).getD ((imRows s k).length - 1) (default : GRow)).samples ++ ([⟨(readV (bs ((Rd.cutL 10 s.data.toList).getD (k + 1) []))).1.at_, (readV (bs ((Rd.cutL 10 s.data.toList).getD (k + 1) []))).1.value⟩] : List GSample)).getD a (default : GSample)) b) rfl rfl rfl rfl (Nat.le_refl _) rfl rfl (imY_n _ _) rfl (fun i j hi hj => (show (if i < ((imRows s k).getD ((imRows s k).length - 1) (default : GRow)).samples.length then _ else _) = _ from im_cell hi hj)) (fun i j hi hj => match j, hj with | 0, _ => rfl | 1, _ => rfl | _ + 2, h => absurd h (by omega)) ?_
      refine ARun.reindexS 99 501 78 2 ((imRows s k).length - 1 + 1) (imRows s k).length 2 (imRows s k).length ((imRows s k).length - 1) (pmI ((imRows s k).length - 1) ((imRows s k).length - 1)) (imY (imRows s k) (readV (bs ((Rd.cutL 10 s.data.toList).getD (k + 1) []))).1) (rowS (⟨imRows s k, x1.1⟩ : GHead) ((imRows s k).length - 1)) (fun a b => if a = ((imRows s k).length - 1) ∧ b = 1 then .tre 500 ((imRows s k).length - 1) else rowC0 (⟨imRows s k, x1.1⟩ : GHead) 78 a b) (by rw [pmI_self]; rfl) (by omega) rfl rfl (pmI_lt' (by omega)) (pmI_inj' (show ((imRows s k).length - 1) < (imRows s k).length from by omega)) (row_back (h := (⟨imRows s k, x1.1⟩ : GHead)) (k := ((imRows s k).length - 1))) (by repeat first | exact Fr.ext2 ⟨rfl, (by repeat first | exact trivial | refine ⟨by decide, by first | rfl | exact trivial | (intro a_ b_; first | exact getD_no rfl | exact rowC0_no rfl _ _ | exact rowS_no rfl rfl _ _ | exact insF_no (rowC0_no rfl) (fun _ _ => getD_no rfl) _ _ _ | ((try dsimp only); (repeat' split) <;> first | rfl | exact rowC0_no rfl _ _ | exact getD_no rfl | exact insF_no (rowC0_no rfl) (fun _ _ => getD_no rfl) _ _ _)), ?_⟩)⟩ hE hX rfl rfl | refine Fr.consE rfl ?_ | refine Fr.consH (by decide) (by first | rfl | exact trivial | (intro a_ b_; first | exact getD_no rfl | exact rowC0_no rfl _ _ | exact rowS_no rfl rfl _ _ | exact insF_no (rowC0_no rfl) (fun _ _ => getD_no rfl) _ _ _ | ((try dsimp only); (repeat' split) <;> first | rfl | exact rowC0_no rfl _ _ | exact getD_no rfl | exact insF_no (rowC0_no rfl) (fun _ _ => getD_no rfl) _ _ _))) ?_ | refine Fr.filt ?_) ?_
      refine ARun.hleX ?_ ?_ hk
      ·
       exact HeapLe.one rfl (HeapLe.one rfl (HeapLe.one rfl trivial))
      ·
       repeat (first | exact LkX.refl | refine LkX.cons (hX.none rfl) ?_ | refine LkX.filter (hX.none rfl) ?_)
     refine ADX.pure [] (PureOp.nilPtr rfl (.tmp rfl)) rfl rfl (nB rfl) trivial rfl ?_
     refine ADX.pure [] (PureOp.fieldPtr rfl (.tmp rfl) f32_) rfl rfl (nB rfl) trivial rfl ?_
     refine ADX.eff (tk := [2]) (new := []) (s := .one (.con undef)) (F := []) (Hin := [(2, .arr 2 ((imRows s k).length) (fun a b => if a = ((imRows s k).length - 1) ∧ b = 1 then .tre 500 ((imRows s k).length - 1) else rowC0 (⟨imRows s k, x1.1⟩ : GHead) 78 a b))]) (Hout := [(2, .arr 2 ((imRows s k).length) (fun a b => if a = ((imRows s k).length - 1) ∧ b = 1 then .tre 78 ((imRows s k).length - 1) else (fun a b => if a = ((imRows s k).length - 1) ∧ b = 1 then .tre 500 ((imRows s k).length - 1) else rowC0 (⟨imRows s k, x1.1⟩ : GHead) 78 a b : Nat → Nat → AV) a b))]) (fun E X hE hX Q rest hk => ?_) ⟨rfl, trivial⟩ ⟨rfl, rfl⟩ rfl rfl rfl rfl trivial rfl (fun _ e => by cases e) ?_
     ·
      refine ARun.storeArr rfl (.tmp rfl) (.tmp rfl) trivial rfl (by exact (show ((imRows s k).length - 1) < (imRows s k).length from by omega)) (nB rfl) f52_ rfl rfl ?_
      refine ARun.hleX ?_ ?_ hk
      ·
       exact HeapLe.one rfl trivial
      ·
       repeat (first | exact LkX.refl | refine LkX.cons (hX.none rfl) ?_ | refine LkX.filter (hX.none rfl) ?_)
     refine ADX.nil (H := [(0, .cells [.con (.slice none 0 0), .int .i64 0]), (1, .cells [.own 2 2 ((imRows s k).length), .int .i64 x1.1]), (2, .arr 2 ((imRows s k).length) (fun a b => if a = ((imRows s k).length - 1) ∧ b = 1 then .tre 78 ((imRows s k).length - 1) else (fun a b => if a = ((imRows s k).length - 1) ∧ b = 1 then .tre 500 ((imRows s k).length - 1) else rowC0 (⟨imRows s k, x1.1⟩ : GHead) 78 a b : Nat → Nat → AV) a b)), (3, .cells [.str ((readV (bs ((Rd.cutL 10 s.data.toList).getD (k + 1) []))).1.name), .int .i64 ((readV (bs ((Rd.cutL 10 s.data.toList).getD (k + 1) []))).1.at_), .int .i64 ((readV (bs ((Rd.cutL 10 s.data.toList).getD (k + 1) []))).1.value)]), (9, .arr 2 1 (fun _ jc => ([.int .i64 ((readV (bs ((Rd.cutL 10 s.data.toList).getD (k + 1) []))).1.at_), .int .i64 ((readV (bs ((Rd.cutL 10 s.data.toList).getD (k + 1) []))).1.value)] : List AV).getD jc (.con undef))), (78, .trees ((imRows s k).length) (fun q => imY (imRows s k) (readV (bs ((Rd.cutL 10 s.data.toList).getD (k + 1) []))).1 (pmI ((imRows s k).length - 1) ((imRows s k).length - 1) q)))]) ?_ ?_
     ·
      exact HeapLe.one rfl (HeapLe.one rfl (HeapLe.one rfl (HeapLe.one rfl (HeapLe.one rfl (HeapLe.one rfl trivial)))))
     refine AW.region ?_
     refine pu (.add (c := ((k + 1 : Nat) : Int)) rfl (.tmp rfl) .int (by rw [wrap_id (by omega) (by omega)]; omega)) rfl rfl rfl ?_
     refine pu (.move rfl (.tmp rfl)) rfl rfl rfl ?_
     refine ARun.nil ?_
     exact ⟨k + 1, (swp 500 78), (show k + 1 ≤ (Rd.cutL 10 s.data.toList).length - 2 from by omega), by dsimp only; omega, swp_inj, (swp_fix rfl rfl), ⟨⟨⟨_, rfl, rfl⟩, ⟨_, rfl, rfl⟩, ⟨_, rfl, rfl⟩, ⟨_, rfl, rfl⟩, ⟨_, rfl, rfl⟩, ⟨_, rfl, rfl⟩, trivial⟩, ⟨⟨_, rfl, rfl, Nat.le_refl _, fun _ _ _ _ => rfl⟩, ⟨_, rfl, rfl, Nat.le_refl _, fun i j _ _ => by rw [hc]; rfl⟩, ⟨_, rfl, rfl, Nat.le_of_eq hc, fun i j hi hj => (im_rowS (r := ⟨((imRows s k).getD ((imRows s k).length - 1) (default : GRow)).name, ((imRows s k).getD ((imRows s k).length - 1) (default : GRow)).samples ++ [⟨(readV (bs ((Rd.cutL 10 s.data.toList).getD (k + 1) []))).1.at_, (readV (bs ((Rd.cutL 10 s.data.toList).getD (k + 1) []))).1.value⟩]⟩) (z := x1.1) h0 rfl (Nat.lt_of_lt_of_eq hi hc) hj).trans ((congrArg (fun r => rowC0 ⟨r, x1.1⟩ 78 i j) hnx.symm).trans (rowC0_ren (h := (⟨imRows s (k + 1), x1.1⟩ : GHead)) (K := 500) (K' := 78) (q := swp 500 78) rfl i j))⟩, ⟨_, by rw [hc]; rfl, fun q hq => (im_famS (z := x1.1) h0 (Nat.lt_of_lt_of_eq hq hc)).trans (congrArg (fun r => rowX0 ⟨r, x1.1⟩ q) hnx.symm)⟩, trivial⟩⟩⟩
  ·
   replace hb13 := of_decide_eq_false hb13
   have hke : k = (Rd.cutL 10 s.data.toList).length - 2 := by omega
   refine AW.exit ?_
   refine AW.seq ?_
   refine AW.seq ?_
   refine AW.region ?_
   refine pu (.loadPtrAgg rfl (.tmp rfl) f26_ rfl rfl (nB rfl) (nB rfl)) rfl rfl rfl ?_
   refine pu (.call rfl (v_isHead (⟨imRows s k, x1.1⟩ : GHead)) ⟨⟨_, (.tmp rfl), ⟨(.own rfl rfl (Nat.le_refl _) (fun i j hi hj => (match j, hj with | 0, _ => .str | 1, _ => (Vw.cast (Vw.tre rfl hi) rfl) | _ + 2, h => absurd h (by omega)))), .int, trivial⟩⟩, trivial⟩ f53_ trivial) rfl rfl rfl ?_
   refine pu (.not rfl (.tmp rfl)) rfl rfl rfl ?_
   refine pu (.move rfl (.tmp rfl)) rfl rfl rfl ?_
   refine ARun.gpure (want := false) (.tf rfl) (fun hg28 => PureOp.loadPtrAgg rfl (.tmp rfl) f26_ rfl rfl (nB rfl) (nB rfl)) rfl rfl (nB rfl) rfl (nB rfl) ?_
   refine ARun.gpure (s := .one (.str (headT (⟨imRows s k, x1.1⟩ : GHead)))) (want := false) (.tf rfl) (fun hg29 => ?_) rfl rfl (nB rfl) rfl (nB rfl) ?_
   ·
    have hgd : goodHead (⟨imRows s k, x1.1⟩ : GHead) = true := by have q := hg29; revert q; cases goodHead (⟨imRows s k, x1.1⟩ : GHead) <;> simp
    exact PureOp.call rfl (v_headText (⟨imRows s k, x1.1⟩ : GHead) (good_ok hgd)) ⟨⟨_, (.gtmp rfl hg29), ⟨(.own rfl rfl (Nat.le_refl _) (fun i j hi hj => (match j, hj with | 0, _ => .str | 1, _ => (Vw.cast (Vw.tre rfl hi) rfl) | _ + 2, h => absurd h (by omega)))), .int, trivial⟩⟩, trivial⟩ f54_ (headT_plain (good_ok hgd))
   refine ARun.gpure (want := false) (.tf rfl) (fun hg30 => PureOp.move rfl (.tmp rfl)) rfl rfl (nB rfl) rfl (nB rfl) ?_
   refine ARun.gpure (want := false) (.tf rfl) (fun hg31 => PureOp.strOp rfl (.gtmp rfl hg31) (.gtmp rfl hg31) rfl) rfl rfl (nB rfl) rfl (nB rfl) ?_
   refine pu (.pick rfl (.tmp rfl) (fun _ => .bool) (fun hp33 => .gtmp rfl (not_of hp33))) rfl rfl rfl ?_
   refine ARun.nil ?_
   refine AW.cond (.tmp rfl) (fun hb34 => ?_) (fun hb34 => ?_)
   ·
    have hno : ∀ h, ¬ HeadOf s h := ih_no3 hz hke hb34
    refine AW.seq ?_
    refine AW.region ?_
    refine pu (.build (ys := []) (l := [.con (.slice none 0 0), .int .i64 0]) (pl := [(0, 1), (1, 1)]) (z := (.agg #[.slice none 0 0, .int .i64 0])) rfl (by kernel_rfl) (by kernel_rfl) (fun _ _ _ => ⟨_, _, rfl, rfl, ⟨_, _, rfl, rfl, rfl⟩⟩) trivial rfl) rfl rfl rfl ?_
    refine ARun.store rfl (.tmp rfl) (.tmp rfl) (SV.cells_of (by exact ⟨⟨rfl, (fun _ e => by cases e), (fun _ e => by cases e)⟩, trivial, trivial⟩)) rfl (nB rfl) f37_ rfl rfl ?_
    refine pu (.assign rfl .bool) rfl rfl rfl ?_
    refine ARun.nil ?_
    rw [headRV_no hno]
    exact AW.ret (show ∃ s t, ResL _ _ [.cell 2 25, .tmp 3] s ∧ TvS _ (ofLeaf t) 0 s _ from ⟨_, fun a b => 1000, .inr (.inl ⟨_, _, _, _, rfl, .cells rfl f26_ rfl rfl (nB rfl) (nB rfl), .tmp rfl, rfl⟩), ⟨⟨.nil, .int, trivial⟩, .bool⟩⟩)
   ·
    have hH := ih_yes3 hs hb34
    refine AW.skip ?_
    refine AW.seq ?_
    refine AW.region ?_
    refine pu (.loadPtrAgg rfl (.tmp rfl) f26_ rfl rfl (nB rfl) (nB rfl)) rfl rfl rfl ?_
    refine ARun.store rfl (.tmp rfl) (.tmp rfl) (SV.cells_of (by exact ⟨trivial, trivial, trivial⟩)) rfl (nB rfl) f37_ rfl rfl ?_
    refine pu (.assign rfl .bool) rfl rfl rfl ?_
    refine ARun.nil ?_
    rw [headRV_yes hH]
    exact AW.ret (show ∃ s t, ResL _ _ [.cell 2 25, .tmp 3] s ∧ TvS _ (ofLeaf t) 0 s _ from ⟨_, fun a b => if a = 2 then 0 else if a = 500 then 0 else 1000, .inr (.inl ⟨_, _, _, _, rfl, .cells rfl f26_ rfl rfl (nB rfl) (nB rfl), .tmp rfl, rfl⟩), ⟨⟨(Tv.colK (K := 500) (c := 1) (X := rowX0 (⟨imRows s k, x1.1⟩ : GHead)) rfl rfl rfl rfl (Nat.le_refl _) (by rfl) (fun i j hi hj hne => match j, hj, hne with | 0, _, _ => ⟨rfl, rfl⟩ | 1, _, h => absurd rfl h | _ + 2, h, _ => absurd h (by omega)) (fun i hi => ⟨rfl, rfl⟩) rfl (by decide) (fun _ => by rfl)), .int, trivial⟩, .bool⟩⟩)
theorem v_iReadHead (s : ByteArray) : FnT Tryz.prog 7 [.one (.str s)] (.tup2 (.agg [.lst 2 ((((headRV s).1).rows).length) (fun i0 j0 => ([.str (((((headRV s).1).rows).getD i0 (default : GRow)).name), .lst 2 ((((((headRV s).1).rows).getD i0 (default : GRow)).samples).length) (fun i1 j1 => ([.int .i64 (((((((headRV s).1).rows).getD i0 (default : GRow)).samples).getD i1 (default : GSample)).at_), .int .i64 (((((((headRV s).1).rows).getD i0 (default : GRow)).samples).getD i1 (default : GSample)).value)] : List AV).getD j1 (.con undef))] : List AV).getD j0 (.con undef)), .int .i64 (((headRV s).1).offset)]) (.one (.bool ((headRV s).2)))) := by
 refine FnT.of_body (fn := Tryz.f7) Tryz.func7 rfl (nB rfl)  ?_
 intro w0
 show AW _ 12 _ _ _ _
 refine AW.seq ?_
 refine AW.region ?_
 refine ARun.alloc (id := 0) (l := [.con (.slice none 0 0), .int .i64 0]) (z := (.agg #[.slice none 0 0, .int .i64 0])) rfl (by kernel_rfl) (fun _ _ _ => ⟨_, _, rfl, rfl, ⟨_, _, rfl, rfl, rfl⟩⟩) ⟨rfl, (by repeat first | exact trivial | refine ⟨by decide, by first | rfl | exact trivial | (intro i j; first | rfl | exact getD_no rfl | (dsimp only; split <;> first | rfl | exact getD_no rfl) | exact scl_no (by apply_assumption) _), ?_⟩)⟩ rfl rfl rfl (nB rfl) ?_
 refine pu (.assign rfl .bool) rfl rfl rfl ?_
 refine ARun.nil ?_
 refine AW.seq ?_
 refine AW.seq ?_
 refine AW.region ?_
 refine pu (.move rfl (.tmp rfl)) rfl rfl rfl ?_
 refine pu (.lenStr rfl (.tmp rfl) f20_) rfl rfl rfl ?_
 refine pu (.intOp rfl (.tmp rfl) .int rfl) rfl rfl rfl ?_
 refine ARun.nil ?_
 refine AW.cond (.tmp rfl) (fun hb1 => ?_) (fun hb1 => ?_)
 ·
  replace hb1 := of_decide_eq_true hb1
  have hno : ∀ h, ¬ HeadOf s h := fun h H => by have := H.len; omega
  refine AW.seq ?_
  refine AW.region ?_
  refine pu (.build (ys := []) (l := [.con (.slice none 0 0), .int .i64 0]) (pl := [(0, 1), (1, 1)]) (z := (.agg #[.slice none 0 0, .int .i64 0])) rfl (by kernel_rfl) (by kernel_rfl) (fun _ _ _ => ⟨_, _, rfl, rfl, ⟨_, _, rfl, rfl, rfl⟩⟩) trivial rfl) rfl rfl rfl ?_
  refine ARun.store rfl (.tmp rfl) (.tmp rfl) (SV.cells_of (by exact ⟨⟨rfl, (fun _ e => by cases e), (fun _ e => by cases e)⟩, trivial, trivial⟩)) rfl (nB rfl) f37_ rfl rfl ?_
  refine pu (.assign rfl .bool) rfl rfl rfl ?_
  refine ARun.nil ?_
  rw [headRV_no hno]
  exact AW.ret (show ∃ s t, ResL _ _ [.cell 2 25, .tmp 3] s ∧ TvS _ (ofLeaf t) 0 s _ from ⟨_, fun a b => 1000, .inr (.inl ⟨_, _, _, _, rfl, .cells rfl f26_ rfl rfl (nB rfl) (nB rfl), .tmp rfl, rfl⟩), ⟨⟨.nil, .int, trivial⟩, .bool⟩⟩)
 ·
  replace hb1 := of_decide_eq_false hb1
  refine AW.skip ?_
  refine AW.seq ?_
  refine AW.region ?_
  refine pu (.move rfl (.tmp rfl)) rfl rfl rfl ?_
  refine ARun.prod (K := 1) rfl (v_readHead s (by omega)) ⟨rfl, (by repeat first | exact trivial | refine ⟨by decide, by first | rfl | exact trivial | (intro i j; first | rfl | exact getD_no rfl | (dsimp only; split <;> first | rfl | exact getD_no rfl) | exact scl_no (by apply_assumption) _), ?_⟩)⟩ ⟨⟨_, (.tmp rfl), .str⟩, trivial⟩ f75_ rfl rfl rfl rfl rfl (nB rfl) ?_
  refine pu (.ext2a rfl (.tmp rfl)) rfl rfl rfl ?_
  refine pu (.ext2b rfl (.tmp rfl)) rfl rfl rfl ?_
  refine ARun.store rfl (.tmp rfl) (.tmp rfl) (SV.cells_of (by exact ⟨trivial, trivial, trivial⟩)) rfl (nB rfl) f37_ rfl rfl ?_
  refine pu (.assign rfl (.tmp rfl)) rfl rfl rfl ?_
  refine ARun.nil ?_
  exact AW.ret (show ∃ s t, ResL _ _ [.cell 2 25, .tmp 3] s ∧ TvS _ (ofLeaf t) 0 s _ from ⟨_, fun a b => if a = 1 then 0 else 1000, .inr (.inl ⟨_, _, _, _, rfl, .cells rfl f26_ rfl rfl (nB rfl) (nB rfl), .tmp rfl, rfl⟩), ⟨⟨(Tv.cast (Tv.tre rfl (nB rfl) (by rfl)) rfl), .int, trivial⟩, .bool⟩⟩)
end Go.Proofs.YtonfeiloekofdaaGreatDoor

namespace Go.Proofs.YtonfeiloekofdaaGreatDoor
open Go.ChangeShapes Go.WideShapes Go.ChangeAt Go.RowKit Go.BigFrame Go.Deep
set_option linter.unusedVariables false
set_option linter.unusedSimpArgs false
theorem f79_ : callB Tryz.prog 44 = true := by kernel_rfl
theorem f80_ : callB Tryz.prog 45 = true := by kernel_rfl
def sayV (x : GSay) : ByteArray × Bool := if sayB x = true then (sayT x, true) else (⟨#[]⟩, false)
theorem sayV_plain (x : GSay) : (sayV x).1.size ≤ maxLen := by
  unfold sayV
  by_cases h : sayB x = true
  · rw [if_pos h]; exact sayT_plain (sayB_ok h)
  · rw [if_neg h]; exact Nat.zero_le _
theorem v_sSayText (x : GSay) : Fn Tryz.prog 13 [.agg [.str x.name, .int .i64 x.at_, .int .i64 x.value]] (.tup2 (.one (.str ((sayV x).1))) (.one (.bool ((sayV x).2)))) := by
 refine Fn.of_body (fn := Tryz.f13) Tryz.func13 rfl (nB rfl) ⟨sayV_plain x, trivial⟩ ?_
 intro w0
 show AW _ 9 _ _ _ _
 refine AW.seq ?_
 refine AW.region ?_
 refine ARun.box (id := 0) rfl (.tmp rfl) (SV.cells_of (by exact ⟨trivial, trivial, trivial, trivial⟩)) ⟨rfl, (by repeat first | exact trivial | refine ⟨by decide, by first | rfl | exact trivial | (intro i j; first | rfl | exact getD_no rfl | (dsimp only; split <;> first | rfl | exact getD_no rfl) | exact scl_no (by apply_assumption) _), ?_⟩)⟩ rfl rfl rfl (nB rfl) ?_
 refine pu (.assign rfl (.str (by decide))) rfl rfl rfl ?_
 refine pu (.assign rfl .bool) rfl rfl rfl ?_
 refine ARun.nil ?_
 refine AW.seq ?_
 refine AW.seq ?_
 refine AW.region ?_
 refine pu (.loadPtrAgg rfl (.tmp rfl) f58_ rfl rfl (nB rfl) (nB rfl)) rfl rfl rfl ?_
 refine pu (.call rfl (v_l13Say (⟨x.name, x.at_, x.value⟩ : GSay)) ⟨⟨_, (.tmp rfl), ⟨.str, .int, .int, trivial⟩⟩, trivial⟩ f61_ trivial) rfl rfl rfl ?_
 refine pu (.not rfl (.tmp rfl)) rfl rfl rfl ?_
 refine ARun.nil ?_
 refine AW.cond (.tmp rfl) (fun hb1 => ?_) (fun hb1 => ?_)
 ·
  have hsb : sayB x = false := by revert hb1; cases sayB x <;> decide
  refine AW.seq ?_
  refine AW.region ?_
  refine pu (.assign rfl (.str (by decide))) rfl rfl rfl ?_
  refine pu (.assign rfl .bool) rfl rfl rfl ?_
  refine ARun.nil ?_
  refine AW.ret (show ResL _ _ [.tmp 2, .tmp 3] _ from res2S rfl rfl ?_)
  unfold sayV; rw [if_neg (by rw [hsb]; decide)]; exact ⟨rfl, rfl⟩
 ·
  have hsb : sayB x = true := by revert hb1; cases sayB x <;> decide
  refine AW.skip ?_
  refine AW.seq ?_
  refine AW.region ?_
  refine pu (.loadPtrAgg rfl (.tmp rfl) f58_ rfl rfl (nB rfl) (nB rfl)) rfl rfl rfl ?_
  refine pu (.call rfl (v_l13Text x (sayB_ok (by assumption))) ⟨⟨_, (.tmp rfl), ⟨.str, .int, .int, trivial⟩⟩, trivial⟩ f57_ (sayT_plain (sayB_ok (by assumption)))) rfl rfl rfl ?_
  refine pu (.assign rfl (.tmp rfl)) rfl rfl rfl ?_
  refine pu (.assign rfl .bool) rfl rfl rfl ?_
  refine ARun.nil ?_
  refine AW.ret (show ResL _ _ [.tmp 2, .tmp 3] _ from res2S rfl rfl ?_)
  unfold sayV; rw [if_pos hsb]; exact ⟨rfl, rfl⟩
theorem v_iSayText (x : GSay) : Fn Tryz.prog 12 [.agg [.str x.name, .int .i64 x.at_, .int .i64 x.value]] (.tup2 (.one (.str ((sayV x).1))) (.one (.bool ((sayV x).2)))) := by
 refine Fn.of_body (fn := Tryz.f12) Tryz.func12 rfl (nB rfl) ⟨sayV_plain x, trivial⟩ ?_
 intro w0
 show AW _ 9 _ _ _ _
 refine AW.seq ?_
 refine AW.region ?_
 refine ARun.box (id := 0) rfl (.tmp rfl) (SV.cells_of (by exact ⟨trivial, trivial, trivial, trivial⟩)) ⟨rfl, (by repeat first | exact trivial | refine ⟨by decide, by first | rfl | exact trivial | (intro i j; first | rfl | exact getD_no rfl | (dsimp only; split <;> first | rfl | exact getD_no rfl) | exact scl_no (by apply_assumption) _), ?_⟩)⟩ rfl rfl rfl (nB rfl) ?_
 refine pu (.assign rfl (.str (by decide))) rfl rfl rfl ?_
 refine pu (.assign rfl .bool) rfl rfl rfl ?_
 refine ARun.nil ?_
 refine AW.seq ?_
 refine AW.seq ?_
 refine AW.region ?_
 refine pu (.loadPtrAgg rfl (.tmp rfl) f58_ rfl rfl (nB rfl) (nB rfl)) rfl rfl rfl ?_
 refine pu (.call rfl (v_isSay x) ⟨⟨_, (.tmp rfl), ⟨.str, .int, .int, trivial⟩⟩, trivial⟩ f79_ trivial) rfl rfl rfl ?_
 refine pu (.not rfl (.tmp rfl)) rfl rfl rfl ?_
 refine ARun.nil ?_
 refine AW.cond (.tmp rfl) (fun hb1 => ?_) (fun hb1 => ?_)
 ·
  have hsb : sayB x = false := by revert hb1; cases sayB x <;> decide
  refine AW.seq ?_
  refine AW.region ?_
  refine pu (.assign rfl (.str (by decide))) rfl rfl rfl ?_
  refine pu (.assign rfl .bool) rfl rfl rfl ?_
  refine ARun.nil ?_
  refine AW.ret (show ResL _ _ [.tmp 2, .tmp 3] _ from res2S rfl rfl ?_)
  unfold sayV; rw [if_neg (by rw [hsb]; decide)]; exact ⟨rfl, rfl⟩
 ·
  have hsb : sayB x = true := by revert hb1; cases sayB x <;> decide
  refine AW.skip ?_
  refine AW.seq ?_
  refine AW.region ?_
  refine pu (.loadPtrAgg rfl (.tmp rfl) f58_ rfl rfl (nB rfl) (nB rfl)) rfl rfl rfl ?_
  refine pu (.call rfl (v_sayText x (sayB_ok (by assumption))) ⟨⟨_, (.tmp rfl), ⟨.str, .int, .int, trivial⟩⟩, trivial⟩ f80_ (sayT_plain (sayB_ok (by assumption)))) rfl rfl rfl ?_
  refine pu (.assign rfl (.tmp rfl)) rfl rfl rfl ?_
  refine pu (.assign rfl .bool) rfl rfl rfl ?_
  refine ARun.nil ?_
  refine AW.ret (show ResL _ _ [.tmp 2, .tmp 3] _ from res2S rfl rfl ?_)
  unfold sayV; rw [if_pos hsb]; exact ⟨rfl, rfl⟩
theorem v_sReadSay (s : ByteArray) (hs : s.size ≤ 1048576) : FnF Tryz.prog 16 [.one (.str s)] (.tup2 (.agg [.str ((readV s).1.name), .int .i64 ((readV s).1.at_), .int .i64 ((readV s).1.value)]) (.one (.bool ((readV s).2)))) := by
 refine FnF.of_body (fn := Tryz.f16) Tryz.func16 rfl (nB rfl)  ?_
 intro w0
 show AW _ 15 _ _ _ _
 refine AW.seq ?_
 refine AW.region ?_
 refine ARun.alloc (id := 0) (l := [.str ByteArray.empty, .int .i64 0, .int .i64 0]) (z := (.agg #[.string ByteArray.empty, .int .i64 0, .int .i64 0])) rfl (by kernel_rfl) (fun _ _ _ => ⟨_, _, rfl, ⟨rfl, by decide⟩, ⟨_, _, rfl, rfl, ⟨_, _, rfl, rfl, rfl⟩⟩⟩) ⟨rfl, (by repeat first | exact trivial | refine ⟨by decide, by first | rfl | exact trivial | (intro i j; first | rfl | exact getD_no rfl | (dsimp only; split <;> first | rfl | exact getD_no rfl) | exact scl_no (by apply_assumption) _), ?_⟩)⟩ rfl rfl rfl (nB rfl) ?_
 refine pu (.assign rfl .bool) rfl rfl rfl ?_
 refine ARun.nil ?_
 refine AW.seq ?_
 refine AW.region ?_
 refine pu (.move rfl (.tmp rfl)) rfl rfl rfl ?_
 refine ARun.fresh (FreshOp.callS rfl (v_l13Read s (by omega)) ⟨⟨_, (.tmp rfl), .str⟩, trivial⟩ f74_ rfl) rfl rfl (nB rfl) ?_
 refine pu (.move rfl (.tmp rfl)) rfl rfl rfl ?_
 refine pu (.ext2a rfl (.tmp rfl)) rfl rfl rfl ?_
 refine pu (.ext2b rfl (.tmp rfl)) rfl rfl rfl ?_
 refine ARun.alloc (id := 1) (l := [.str ByteArray.empty, .int .i64 0, .int .i64 0]) (z := (.agg #[.string ByteArray.empty, .int .i64 0, .int .i64 0])) rfl (by kernel_rfl) (fun _ _ _ => ⟨_, _, rfl, ⟨rfl, by decide⟩, ⟨_, _, rfl, rfl, ⟨_, _, rfl, rfl, rfl⟩⟩⟩) ⟨rfl, (by repeat first | exact trivial | refine ⟨by decide, by first | rfl | exact trivial | (intro i j; first | rfl | exact getD_no rfl | (dsimp only; split <;> first | rfl | exact getD_no rfl) | exact scl_no (by apply_assumption) _), ?_⟩)⟩ rfl rfl rfl (nB rfl) ?_
 refine ARun.store rfl (.tmp rfl) (.tmp rfl) (SV.cells_of (by exact ⟨trivial, trivial, trivial, trivial⟩)) rfl (nB rfl) f62_ rfl rfl ?_
 refine pu (.assign rfl (.tmp rfl)) rfl rfl rfl ?_
 refine ARun.nil ?_
 refine AW.seq ?_
 refine AW.seq ?_
 refine AW.region ?_
 refine pu (.move rfl (.tmp rfl)) rfl rfl rfl ?_
 refine pu (.not rfl (.tmp rfl)) rfl rfl rfl ?_
 refine ARun.nil ?_
 refine AW.cond (.tmp rfl) (fun hb1 => ?_) (fun hb1 => ?_)
 ·
  replace hb1 := of_not hb1
  have hx2 : (rdX s).2 = false := by revert hb1; cases (rdX s).2 <;> decide
  rw [rdX_read, if_neg (by rw [hx2]; decide)]
  refine AW.seq ?_
  refine AW.region ?_
  refine pu (.build (ys := []) (l := [.str ByteArray.empty, .int .i64 0, .int .i64 0]) (pl := [(0, 1), (1, 1), (2, 1)]) (z := (.agg #[.string ByteArray.empty, .int .i64 0, .int .i64 0])) rfl (by kernel_rfl) (by kernel_rfl) (fun _ _ _ => ⟨_, _, rfl, ⟨rfl, by decide⟩, ⟨_, _, rfl, rfl, ⟨_, _, rfl, rfl, rfl⟩⟩⟩) trivial rfl) rfl rfl rfl ?_
  refine ARun.store rfl (.tmp rfl) (.tmp rfl) (SV.cells_of (by exact ⟨trivial, trivial, trivial, trivial⟩)) rfl (nB rfl) f62_ rfl rfl ?_
  refine pu (.assign rfl .bool) rfl rfl rfl ?_
  refine ARun.nil ?_
  exact AW.ret (show ∃ s, ResL _ _ [.cell 2 34, .tmp 3] s ∧ FvS _ s _ from ⟨_, .inr (.inl ⟨_, _, _, _, rfl, .cells rfl f58_ rfl rfl (nB rfl) (nB rfl), .tmp rfl, rfl⟩), ⟨.str, .int, .int, trivial⟩, .bool⟩)
 ·
  replace hb1 := not_f hb1
  have hx2 : (rdX s).2 = true := by revert hb1; cases (rdX s).2 <;> decide
  rw [rdX_read, if_pos hx2]
  refine AW.skip ?_
  refine AW.seq ?_
  refine AW.region ?_
  refine pu (.loadPtrAgg rfl (.tmp rfl) f58_ rfl rfl (nB rfl) (nB rfl)) rfl rfl rfl ?_
  refine ARun.store rfl (.tmp rfl) (.tmp rfl) (SV.cells_of (by exact ⟨trivial, trivial, trivial, trivial⟩)) rfl (nB rfl) f62_ rfl rfl ?_
  refine pu (.assign rfl .bool) rfl rfl rfl ?_
  refine ARun.nil ?_
  exact AW.ret (show ∃ s, ResL _ _ [.cell 2 34, .tmp 3] s ∧ FvS _ s _ from ⟨_, .inr (.inl ⟨_, _, _, _, rfl, .cells rfl f58_ rfl rfl (nB rfl) (nB rfl), .tmp rfl, rfl⟩), ⟨.str, .int, .int, trivial⟩, .bool⟩)
theorem v_iReadSay (s : ByteArray) (hs : s.size ≤ 1048576) : FnF Tryz.prog 15 [.one (.str s)] (.tup2 (.agg [.str ((readV s).1.name), .int .i64 ((readV s).1.at_), .int .i64 ((readV s).1.value)]) (.one (.bool ((readV s).2)))) := by
 refine FnF.of_body (fn := Tryz.f15) Tryz.func15 rfl (nB rfl)  ?_
 intro w0
 show AW _ 8 _ _ _ _
 refine AW.seq ?_
 refine AW.region ?_
 refine ARun.alloc (id := 0) (l := [.str ByteArray.empty, .int .i64 0, .int .i64 0]) (z := (.agg #[.string ByteArray.empty, .int .i64 0, .int .i64 0])) rfl (by kernel_rfl) (fun _ _ _ => ⟨_, _, rfl, ⟨rfl, by decide⟩, ⟨_, _, rfl, rfl, ⟨_, _, rfl, rfl, rfl⟩⟩⟩) ⟨rfl, (by repeat first | exact trivial | refine ⟨by decide, by first | rfl | exact trivial | (intro i j; first | rfl | exact getD_no rfl | (dsimp only; split <;> first | rfl | exact getD_no rfl) | exact scl_no (by apply_assumption) _), ?_⟩)⟩ rfl rfl rfl (nB rfl) ?_
 refine pu (.assign rfl .bool) rfl rfl rfl ?_
 refine ARun.nil ?_
 refine AW.seq ?_
 refine AW.region ?_
 refine pu (.move rfl (.tmp rfl)) rfl rfl rfl ?_
 refine pu (.call rfl (v_readSay s (by omega)) ⟨⟨_, (.tmp rfl), .str⟩, trivial⟩ f76_ (gsay_plain (Nat.le_trans (readV_name _ (by omega)) (by decide)))) rfl rfl rfl ?_
 refine pu (.ext2a rfl (.tmp rfl)) rfl rfl rfl ?_
 refine pu (.ext2b rfl (.tmp rfl)) rfl rfl rfl ?_
 refine ARun.store rfl (.tmp rfl) (.tmp rfl) (SV.cells_of (by exact ⟨trivial, trivial, trivial, trivial⟩)) rfl (nB rfl) f62_ rfl rfl ?_
 refine pu (.assign rfl (.tmp rfl)) rfl rfl rfl ?_
 refine ARun.nil ?_
 exact AW.ret (show ∃ s, ResL _ _ [.cell 2 34, .tmp 3] s ∧ FvS _ s _ from ⟨_, .inr (.inl ⟨_, _, _, _, rfl, .cells rfl f58_ rfl rfl (nB rfl) (nB rfl), .tmp rfl, rfl⟩), ⟨.str, .int, .int, trivial⟩, .bool⟩)
def newV (o : Int) : GHead × Bool := if inB 0 1000 o = true then (⟨[], o⟩, true) else (⟨[], 0⟩, false)
theorem v_sNewHead (o : Int) : FnT Tryz.prog 26 [.one (.int .i64 o)] (.tup2 (.agg [.lst 2 ((((newV o).1).rows).length) (fun i0 j0 => ([.str (((((newV o).1).rows).getD i0 (default : GRow)).name), .lst 2 ((((((newV o).1).rows).getD i0 (default : GRow)).samples).length) (fun i1 j1 => ([.int .i64 (((((((newV o).1).rows).getD i0 (default : GRow)).samples).getD i1 (default : GSample)).at_), .int .i64 (((((((newV o).1).rows).getD i0 (default : GRow)).samples).getD i1 (default : GSample)).value)] : List AV).getD j1 (.con undef))] : List AV).getD j0 (.con undef)), .int .i64 (((newV o).1).offset)]) (.one (.bool ((newV o).2)))) := by
 refine FnT.of_body (fn := Tryz.f26) Tryz.func26 rfl (nB rfl)  ?_
 intro w0
 show AW _ 10 _ _ _ _
 refine AW.seq ?_
 refine AW.region ?_
 refine ARun.alloc (id := 0) (l := [.con (.slice none 0 0), .int .i64 0]) (z := (.agg #[.slice none 0 0, .int .i64 0])) rfl (by kernel_rfl) (fun _ _ _ => ⟨_, _, rfl, rfl, ⟨_, _, rfl, rfl, rfl⟩⟩) ⟨rfl, (by repeat first | exact trivial | refine ⟨by decide, by first | rfl | exact trivial | (intro i j; first | rfl | exact getD_no rfl | (dsimp only; split <;> first | rfl | exact getD_no rfl) | exact scl_no (by apply_assumption) _), ?_⟩)⟩ rfl rfl rfl (nB rfl) ?_
 refine pu (.assign rfl .bool) rfl rfl rfl ?_
 refine ARun.nil ?_
 refine AW.seq ?_
 refine AW.seq ?_
 refine AW.region ?_
 refine pu (.move rfl (.tmp rfl)) rfl rfl rfl ?_
 refine pu (.call rfl (v_l1In o 0 1000) ⟨⟨_, (.tmp rfl), .int⟩, ⟨_, .int, .int⟩, ⟨_, .int, .int⟩, trivial⟩ f18_ trivial) rfl rfl rfl ?_
 refine pu (.not rfl (.tmp rfl)) rfl rfl rfl ?_
 refine ARun.nil ?_
 refine AW.cond (.tmp rfl) (fun hb1 => ?_) (fun hb1 => ?_)
 ·
  have hib : inB 0 1000 o = false := by revert hb1; cases inB 0 1000 o <;> decide
  refine AW.seq ?_
  refine AW.region ?_
  refine pu (.build (ys := []) (l := [.con (.slice none 0 0), .int .i64 0]) (pl := [(0, 1), (1, 1)]) (z := (.agg #[.slice none 0 0, .int .i64 0])) rfl (by kernel_rfl) (by kernel_rfl) (fun _ _ _ => ⟨_, _, rfl, rfl, ⟨_, _, rfl, rfl, rfl⟩⟩) trivial rfl) rfl rfl rfl ?_
  refine ARun.store rfl (.tmp rfl) (.tmp rfl) (SV.cells_of (by exact ⟨⟨rfl, (fun _ e => by cases e), (fun _ e => by cases e)⟩, trivial, trivial⟩)) rfl (nB rfl) f37_ rfl rfl ?_
  refine pu (.assign rfl .bool) rfl rfl rfl ?_
  refine ARun.nil ?_
  rw [show newV o = (⟨[], 0⟩, false) from if_neg (by rw [hib]; decide)]
  exact AW.ret (show ∃ s t, ResL _ _ [.cell 2 25, .tmp 3] s ∧ TvS _ (ofLeaf t) 0 s _ from ⟨_, fun a b => 1000, .inr (.inl ⟨_, _, _, _, rfl, .cells rfl f26_ rfl rfl (nB rfl) (nB rfl), .tmp rfl, rfl⟩), ⟨⟨.nil, .int, trivial⟩, .bool⟩⟩)
 ·
  have hib : inB 0 1000 o = true := by revert hb1; cases inB 0 1000 o <;> decide
  refine AW.skip ?_
  refine AW.seq ?_
  refine AW.region ?_
  refine pu (.move rfl (.tmp rfl)) rfl rfl rfl ?_
  refine pu (.build (ys := [.int .i64 o]) (l := [.con (.slice none 0 0), .int .i64 0]) (pl := [(0, 1), (1, 1)]) (z := (.agg #[.slice none 0 0, .int .i64 0])) rfl (by kernel_rfl) (by kernel_rfl) (fun _ _ _ => ⟨_, _, rfl, rfl, ⟨_, _, rfl, rfl, rfl⟩⟩) ⟨(.tmp rfl), trivial, rfl, trivial⟩ rfl) rfl rfl rfl ?_
  refine ARun.store rfl (.tmp rfl) (.tmp rfl) (SV.cells_of (by exact ⟨⟨rfl, (fun _ e => by cases e), (fun _ e => by cases e)⟩, trivial, trivial⟩)) rfl (nB rfl) f37_ rfl rfl ?_
  refine pu (.assign rfl .bool) rfl rfl rfl ?_
  refine ARun.nil ?_
  rw [show newV o = (⟨[], o⟩, true) from if_pos hib]
  exact AW.ret (show ∃ s t, ResL _ _ [.cell 2 25, .tmp 3] s ∧ TvS _ (ofLeaf t) 0 s _ from ⟨_, fun a b => 1000, .inr (.inl ⟨_, _, _, _, rfl, .cells rfl f26_ rfl rfl (nB rfl) (nB rfl), .tmp rfl, rfl⟩), ⟨⟨.nil, .int, trivial⟩, .bool⟩⟩)
theorem v_iNewHead (o : Int) : FnT Tryz.prog 25 [.one (.int .i64 o)] (.tup2 (.agg [.lst 2 ((((newV o).1).rows).length) (fun i0 j0 => ([.str (((((newV o).1).rows).getD i0 (default : GRow)).name), .lst 2 ((((((newV o).1).rows).getD i0 (default : GRow)).samples).length) (fun i1 j1 => ([.int .i64 (((((((newV o).1).rows).getD i0 (default : GRow)).samples).getD i1 (default : GSample)).at_), .int .i64 (((((((newV o).1).rows).getD i0 (default : GRow)).samples).getD i1 (default : GSample)).value)] : List AV).getD j1 (.con undef))] : List AV).getD j0 (.con undef)), .int .i64 (((newV o).1).offset)]) (.one (.bool ((newV o).2)))) := by
 refine FnT.of_body (fn := Tryz.f25) Tryz.func25 rfl (nB rfl)  ?_
 intro w0
 show AW _ 10 _ _ _ _
 refine AW.seq ?_
 refine AW.region ?_
 refine ARun.alloc (id := 0) (l := [.con (.slice none 0 0), .int .i64 0]) (z := (.agg #[.slice none 0 0, .int .i64 0])) rfl (by kernel_rfl) (fun _ _ _ => ⟨_, _, rfl, rfl, ⟨_, _, rfl, rfl, rfl⟩⟩) ⟨rfl, (by repeat first | exact trivial | refine ⟨by decide, by first | rfl | exact trivial | (intro i j; first | rfl | exact getD_no rfl | (dsimp only; split <;> first | rfl | exact getD_no rfl) | exact scl_no (by apply_assumption) _), ?_⟩)⟩ rfl rfl rfl (nB rfl) ?_
 refine pu (.assign rfl .bool) rfl rfl rfl ?_
 refine ARun.nil ?_
 refine AW.seq ?_
 refine AW.seq ?_
 refine AW.region ?_
 refine pu (.move rfl (.tmp rfl)) rfl rfl rfl ?_
 refine pu (.call rfl (v_within o 0 1000) ⟨⟨_, (.tmp rfl), .int⟩, ⟨_, .int, .int⟩, ⟨_, .int, .int⟩, trivial⟩ f19_ trivial) rfl rfl rfl ?_
 refine pu (.not rfl (.tmp rfl)) rfl rfl rfl ?_
 refine ARun.nil ?_
 refine AW.cond (.tmp rfl) (fun hb1 => ?_) (fun hb1 => ?_)
 ·
  have hib : inB 0 1000 o = false := by revert hb1; cases inB 0 1000 o <;> decide
  refine AW.seq ?_
  refine AW.region ?_
  refine pu (.build (ys := []) (l := [.con (.slice none 0 0), .int .i64 0]) (pl := [(0, 1), (1, 1)]) (z := (.agg #[.slice none 0 0, .int .i64 0])) rfl (by kernel_rfl) (by kernel_rfl) (fun _ _ _ => ⟨_, _, rfl, rfl, ⟨_, _, rfl, rfl, rfl⟩⟩) trivial rfl) rfl rfl rfl ?_
  refine ARun.store rfl (.tmp rfl) (.tmp rfl) (SV.cells_of (by exact ⟨⟨rfl, (fun _ e => by cases e), (fun _ e => by cases e)⟩, trivial, trivial⟩)) rfl (nB rfl) f37_ rfl rfl ?_
  refine pu (.assign rfl .bool) rfl rfl rfl ?_
  refine ARun.nil ?_
  rw [show newV o = (⟨[], 0⟩, false) from if_neg (by rw [hib]; decide)]
  exact AW.ret (show ∃ s t, ResL _ _ [.cell 2 25, .tmp 3] s ∧ TvS _ (ofLeaf t) 0 s _ from ⟨_, fun a b => 1000, .inr (.inl ⟨_, _, _, _, rfl, .cells rfl f26_ rfl rfl (nB rfl) (nB rfl), .tmp rfl, rfl⟩), ⟨⟨.nil, .int, trivial⟩, .bool⟩⟩)
 ·
  have hib : inB 0 1000 o = true := by revert hb1; cases inB 0 1000 o <;> decide
  refine AW.skip ?_
  refine AW.seq ?_
  refine AW.region ?_
  refine pu (.move rfl (.tmp rfl)) rfl rfl rfl ?_
  refine pu (.build (ys := [.int .i64 o]) (l := [.con (.slice none 0 0), .int .i64 0]) (pl := [(0, 1), (1, 1)]) (z := (.agg #[.slice none 0 0, .int .i64 0])) rfl (by kernel_rfl) (by kernel_rfl) (fun _ _ _ => ⟨_, _, rfl, rfl, ⟨_, _, rfl, rfl, rfl⟩⟩) ⟨(.tmp rfl), trivial, rfl, trivial⟩ rfl) rfl rfl rfl ?_
  refine ARun.store rfl (.tmp rfl) (.tmp rfl) (SV.cells_of (by exact ⟨⟨rfl, (fun _ e => by cases e), (fun _ e => by cases e)⟩, trivial, trivial⟩)) rfl (nB rfl) f37_ rfl rfl ?_
  refine pu (.assign rfl .bool) rfl rfl rfl ?_
  refine ARun.nil ?_
  rw [show newV o = (⟨[], o⟩, true) from if_pos hib]
  exact AW.ret (show ∃ s t, ResL _ _ [.cell 2 25, .tmp 3] s ∧ TvS _ (ofLeaf t) 0 s _ from ⟨_, fun a b => 1000, .inr (.inl ⟨_, _, _, _, rfl, .cells rfl f26_ rfl rfl (nB rfl) (nB rfl), .tmp rfl, rfl⟩), ⟨⟨.nil, .int, trivial⟩, .bool⟩⟩)
theorem v_implGoodHead (h : GHead) : Fn Tryz.prog 21 [.agg [.lst 2 h.rows.length (fun i0 j0 => ([.str ((h.rows.getD i0 (default : GRow)).name), .lst 2 (((h.rows.getD i0 (default : GRow)).samples).length) (fun i1 j1 => ([.int .i64 ((((h.rows.getD i0 (default : GRow)).samples).getD i1 (default : GSample)).at_), .int .i64 ((((h.rows.getD i0 (default : GRow)).samples).getD i1 (default : GSample)).value)] : List AV).getD j1 (.con undef))] : List AV).getD j0 (.con undef)), .int .i64 h.offset]] (.one (.bool (goodHead h))) := by
 refine Fn.of_body (fn := Tryz.f21) Tryz.func21 rfl (nB rfl) trivial ?_
 intro w0
 show AW _ 5 _ _ _ _
 refine AW.seq ?_
 refine AW.region ?_
 refine ARun.box (id := 0) rfl (.tmp rfl) (SV.cells_of (by exact ⟨trivial, trivial, trivial⟩)) ⟨rfl, (by repeat first | exact trivial | refine ⟨by decide, by first | rfl | exact trivial | (intro i j; first | rfl | exact getD_no rfl | (dsimp only; split <;> first | rfl | exact getD_no rfl) | exact scl_no (by apply_assumption) _), ?_⟩)⟩ rfl rfl rfl (nB rfl) ?_
 refine pu (.assign rfl .bool) rfl rfl rfl ?_
 refine ARun.nil ?_
 refine AW.seq ?_
 refine AW.region ?_
 refine pu (.loadPtrAgg rfl (.tmp rfl) f26_ rfl rfl (nB rfl) (nB rfl)) rfl rfl rfl ?_
 refine pu (.call rfl (v_isHead h) ⟨⟨_, (.tmp rfl), ⟨.lst, .int, trivial⟩⟩, trivial⟩ f53_ trivial) rfl rfl rfl ?_
 refine pu (.assign rfl (.tmp rfl)) rfl rfl rfl ?_
 refine ARun.nil ?_
 refine AW.ret (show ResL _ _ [.tmp 2] _ from resB rfl ?_)
 rfl
end Go.Proofs.YtonfeiloekofdaaGreatDoor
