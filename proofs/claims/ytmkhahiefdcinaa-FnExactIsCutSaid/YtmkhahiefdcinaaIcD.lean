/-
  Proved: the law FnExactIsCut returns true for every input: the program's IsCut answers what the reference's does, and leaves its arguments alone. Conditions: none.
-/
import Derived.Test.YtmkhahiefdcinaaIcI
import Derived.Test.YtmkhahiefdcinaaEvO
import Derived.Test.YtmkhahiefdcinaaInO
namespace Go.Proofs.Ytmkhahiefdcinaa
open Go.ChangeShapes Go.WideShapes Go.ChangeAt Go.RowKit Go.BigFrame Go.Deep
set_option linter.unusedVariables false

theorem law_IsCut (nodes : Int) (hnodes : I64 nodes) (l : List P2) (u : List Int) (w : World) (Al : Option Addr) (nl cl : Nat) (rl : RepL w (· < w.heap.size) l Al nl cl) (Au : Option Addr) (nu cu : Nat) (ru : RepL w (· < w.heap.size) u Au nu cu) :
    Calls Try.prog 5 #[.int .i64 nodes, .slice Al nl cl, .slice Au nu cu] w fun x w' => x = .returned (.bool true) ∧ Below w.heap.size w w' := by
  have bd_l := rl.bd
  have bd_u := ru.bd
  by_cases hbig_u : nu ≤ 1048576
  rotate_left
  · go_enter Try.func5, Try.ntmps5
    go_wp2_with fail
    go_ret
    exact ⟨rfl, Below.refl _ _⟩
  go_enter Try.func5, Try.ntmps5
  go_wp2_with fail
  refine (szEventS_any Al nl cl _ _ (by omega) (by omega) (by omega)).mono ?_
  rintro e w1 ⟨q1, rfl, hq1a, hq1b, hq1c, rfl⟩
  by_cases hneg1 : q1 < 0
  · go_wp2_with fail
    go_ret
    exact ⟨rfl, Below.refl _ _⟩
  have hpos1 := hq1c (by omega)
  clear hq1c
  go_wp2_with fail
  refine (toEventS_any l _ _ (fun _ hb => hb) Al nl cl rl (by omega)).mono ?_
  rintro e w1 ⟨Alp, clp, rfl, olp, mlp, b1⟩
  have s1_l := rl.up b1
  have s1_u := ru.up b1
  have s1_lp := mlp.new
  go_wp2_with fail
  refine (toIntS_any u _ _ (fun _ hb => hb) Au nu cu s1_u hbig_u).mono ?_
  rintro e w2 ⟨Aup, cup, rfl, oup, mup, b2⟩
  have s2_l := s1_l.up b2
  have s2_u := s1_u.up b2
  have s2_lp := s1_lp.up b2
  have s2_up := mup.new
  go_wp2_with fail
  refine (spec_IsCut_any nodes hnodes l u _ _ (fun _ hb => hb) Alp Aup nl clp nu cup s2_lp s2_up).mono ?_
  rintro e w3 ⟨rfl, b3⟩
  have s3_l := s2_l.up b3
  have s3_u := s2_u.up b3
  have s3_lp := s2_lp.up b3
  have s3_up := s2_up.up b3
  go_wp2_with fail
  refine (toEventS_any l _ _ (fun _ hb => hb) Al nl cl s3_l (by omega)).mono ?_
  rintro e w4 ⟨Alx, clx, rfl, olx, mlx, b4⟩
  have s4_l := s3_l.up b4
  have s4_u := s3_u.up b4
  have s4_lx := mlx.new
  go_wp2_with fail
  refine (toIntS_any u _ _ (fun _ hb => hb) Au nu cu s4_u hbig_u).mono ?_
  rintro e w5 ⟨Aux, cux, rfl, oux, mux, b5⟩
  have s5_l := s4_l.up b5
  have s5_u := s4_u.up b5
  have s5_lx := s4_lx.up b5
  have s5_ux := mux.new
  go_wp2_with fail
  refine (impl_IsCut_any nodes hnodes l u _ _ (fun _ hb => hb) Alx Aux nl clx nu cux s5_lx s5_ux).mono ?_
  rintro e w6 ⟨rfl, b6⟩
  have s6_l := s5_l.up b6
  have s6_u := s5_u.up b6
  have s6_lx := s5_lx.up b6
  have s6_ux := s5_ux.up b6
  go_wp2_with fail
  refine (toEventS_any l _ _ (fun _ hb => hb) Al nl cl s6_l (by omega)).mono ?_
  rintro e w7 ⟨Aly, cly, rfl, oly, mly, b7⟩
  have s7_l := s6_l.up b7
  have s7_u := s6_u.up b7
  have s7_lx := s6_lx.up b7
  have s7_ux := s6_ux.up b7
  have s7_ly := mly.new
  go_wp2_with fail
  refine (eqEventS_any l l _ _ (fun _ hb => hb) Alx Aly nl clx nl cly s7_lx s7_ly).mono ?_
  rintro e w8 ⟨rfl, b8⟩
  have s8_l := s7_l.up b8
  have s8_u := s7_u.up b8
  have s8_lx := s7_lx.up b8
  have s8_ux := s7_ux.up b8
  have s8_ly := s7_ly.up b8
  go_wp2_with fail
  refine (toIntS_any u _ _ (fun _ hb => hb) Au nu cu s8_u hbig_u).mono ?_
  rintro e w9 ⟨Auy, cuy, rfl, ouy, muy, b9⟩
  have s9_l := s8_l.up b9
  have s9_u := s8_u.up b9
  have s9_lx := s8_lx.up b9
  have s9_ux := s8_ux.up b9
  have s9_uy := muy.new
  go_wp2_with fail
  refine (eqIntS_any u u _ _ (fun _ hb => hb) Aux Auy nu cux nu cuy s9_ux s9_uy).mono ?_
  rintro e w10 ⟨rfl, b10⟩
  have s10_l := s9_l.up b10
  have s10_u := s9_u.up b10
  have s10_lx := s9_lx.up b10
  have s10_ux := s9_ux.up b10
  have s10_uy := s9_uy.up b10
  go_wp2_with fail
  go_ret
  exact ⟨rfl, (bnext (bnext (bnext (bnext (bnext (bnext (bnext (bnext (bnext (b1) b2) b3) b4) b5) b6) b7) b8) b9) b10)⟩

set_option maxRecDepth 100000 in
theorem lifted_IsCut (os : Os) (started : os.Started) (H : Type) (enc : TypeId × Value → H) :
    ReturnsInHanded {} Try.checked os 5 .any (Rows.fnExactIsCutSpec.pre6 enc Try.prog Try.f5 Rows.fnExactIsCutRow.domain false) (Rows.fnExactIsCutSpec.post enc Try.prog Try.f5 false true false false) := by
  refine returnsInHanded_of_change (C := Try.checked) own started (by kernel_rfl) Try.func5
    (ChangeSpec.witness6 (enc := enc) (C := Try.checked) false ⟨#[], #[.int .i64 0, .slice none 0 0, .slice none 0 0], []⟩ 8 (by kernel_rfl) (by kernel_rfl) (by kernel_rfl) (by kernel_rfl)) ?_
  intro W base args ds gs before hval0 hW hcnd _
  have hval : ∀ (j : Nat) t v, Try.f5.params[j]? = some t → args[j]? = some v → Value.okWide Try.prog W .any base t v := hval0
  have hW' := hW
  obtain ⟨p, q, hA0, hV, rfl, hfz, hnd⟩ := hW
  have hA : DataW.TrodAll enc Try.prog W 0 (fun _ => true) true Try.f5.params.toList args.toList ds p := hA0
  rw [Try.params5] at hA hval
  obtain ⟨v0, vs0, d0, ds0, p0, q0, hargs, rfl, rfl, h0, r0⟩ := trodAll_cons hA
  obtain ⟨v1, vs1, d1, ds1, p1, q1, rfl, rfl, rfl, h1, r1⟩ := trodAll_cons r0
  obtain ⟨v2, vs2, d2, ds2, p2, q2, rfl, rfl, rfl, h2, r2⟩ := trodAll_cons r1
  obtain ⟨rfl, rfl, rfl⟩ := trodAll_nil r2
  obtain rfl : args = #[v0, v1, v2] := by cases args; simp_all
  obtain ⟨rfl, rfl⟩ := trodVars_none hV
  obtain ⟨a0, rfl, rfl, rfl, w0⟩ := open_int Try.underlying3 (hval 0 3 v0 rfl rfl) h0
  obtain ⟨l1, A1, n1, c1, rfl, R1⟩ := Opens.arg opensLEvent (okWide_slice Try.underlying22 (hval 1 22 v1 rfl rfl)) h1
  obtain ⟨l2, A2, n2, c2, rfl, R2⟩ := Opens.arg opensInts (okWide_slice Try.underlying30 (hval 2 30 v2 rfl rfl)) h2
  clear hA0 hval0
  refine (law_IsCut a0 (i64_of_wf w0) l1 l2 W A1 n1 c1 R1 A2 n2 c2 R2).mono fun e W' ⟨he, hg⟩ => ?_
  subst he
  exact ⟨_, rfl, law_post hW' rfl laidOut (by kernel_rfl) hg rfl rfl Try.underlying4⟩

/-- The statement. -/
theorem proved_IsCut : Rows.FnExactIsCutSaid :=
  OpenClaim.holds_of_wide 5 Try.f5 rfl rfl rfl rfl rfl rfl rfl ⟨rfl, rfl, rfl, rfl, rfl⟩ rfl rfl rfl rfl rfl (by kernel_rfl) Try.func5 (by kernel_rfl)
    (of_decide_eq_true (by kernel_rfl)) (by unfold Func.isWrapper; first | (rw [if_pos (by decide +kernel)]; kernel_rfl) | (rw [if_neg (by decide +kernel)]; exact ⟨rfl, rfl⟩))
    (fun os started H enc _ => lifted_IsCut os started H enc)
#print axioms proved_IsCut
end Go.Proofs.Ytmkhahiefdcinaa
