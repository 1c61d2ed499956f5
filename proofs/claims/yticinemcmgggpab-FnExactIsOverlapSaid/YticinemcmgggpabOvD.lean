/-
  Proved: the law FnExactIsOverlap returns true for every input: the program's IsOverlap answers what the reference's does, and leaves its arguments alone. Conditions: none.
-/
import Derived.Test.YticinemcmgggpabOvA
import Derived.Test.YticinemcmgggpabInA
import Derived.Test.YticinemcmgggpabInO
namespace Go.Proofs.Yticinemcmgggpab
open Go.ChangeShapes Go.WideShapes Go.ChangeAt Go.RowKit Go.BigFrame Go.Deep
set_option linter.unusedVariables false

theorem law_IsOverlap (n : Int) (hn : I64 n) (a : List Int) (b : List Int) (w : World) (Aa : Option Addr) (na ca : Nat) (ra : RepL w (· < w.heap.size) a Aa na ca) (Ab : Option Addr) (nb cb : Nat) (rb : RepL w (· < w.heap.size) b Ab nb cb) :
    Calls Try.prog 5 #[.int .i64 n, .slice Aa na ca, .slice Ab nb cb] w fun x w' => x = .returned (.bool true) ∧ Below w.heap.size w w' := by
  have bd_a := ra.bd
  have bd_b := rb.bd
  by_cases hbig_a : na ≤ 1048576
  rotate_left
  · go_enter Try.func5, Try.ntmps5
    go_wp2_with fail
    go_ret
    exact ⟨rfl, Below.refl _ _⟩
  by_cases hbig_b : nb ≤ 1048576
  rotate_left
  · go_enter Try.func5, Try.ntmps5
    go_wp2_with fail
    go_ret
    exact ⟨rfl, Below.refl _ _⟩
  go_enter Try.func5, Try.ntmps5
  go_wp2_with fail
  refine (toIntS_any a _ _ (fun _ hb => hb) Aa na ca ra hbig_a).mono ?_
  rintro e w1 ⟨Aap, cap, rfl, oap, map, b1⟩
  have s1_a := ra.up b1
  have s1_b := rb.up b1
  have s1_ap := map.new
  go_wp2_with fail
  refine (toIntS_any b _ _ (fun _ hb => hb) Ab nb cb s1_b hbig_b).mono ?_
  rintro e w2 ⟨Abp, cbp, rfl, obp, mbp, b2⟩
  have s2_a := s1_a.up b2
  have s2_b := s1_b.up b2
  have s2_ap := s1_ap.up b2
  have s2_bp := mbp.new
  go_wp2_with fail
  refine (spec_IsOverlap_any n hn a b _ _ (fun _ hb => hb) Aap Abp na cap nb cbp s2_ap s2_bp (by omega) (by omega)).mono ?_
  rintro e w3 ⟨rfl, b3⟩
  have s3_a := s2_a.up b3
  have s3_b := s2_b.up b3
  have s3_ap := s2_ap.up b3
  have s3_bp := s2_bp.up b3
  go_wp2_with fail
  refine (toIntS_any a _ _ (fun _ hb => hb) Aa na ca s3_a hbig_a).mono ?_
  rintro e w4 ⟨Aax, cax, rfl, oax, max, b4⟩
  have s4_a := s3_a.up b4
  have s4_b := s3_b.up b4
  have s4_ax := max.new
  go_wp2_with fail
  refine (toIntS_any b _ _ (fun _ hb => hb) Ab nb cb s4_b hbig_b).mono ?_
  rintro e w5 ⟨Abx, cbx, rfl, obx, mbx, b5⟩
  have s5_a := s4_a.up b5
  have s5_b := s4_b.up b5
  have s5_ax := s4_ax.up b5
  have s5_bx := mbx.new
  go_wp2_with fail
  refine (impl_IsOverlap_any n hn a b _ _ (fun _ hb => hb) Aax Abx na cax nb cbx s5_ax s5_bx (by omega) (by omega)).mono ?_
  rintro e w6 ⟨rfl, b6⟩
  have s6_a := s5_a.up b6
  have s6_b := s5_b.up b6
  have s6_ax := s5_ax.up b6
  have s6_bx := s5_bx.up b6
  go_wp2_with fail
  refine (toIntS_any a _ _ (fun _ hb => hb) Aa na ca s6_a hbig_a).mono ?_
  rintro e w7 ⟨Aay, cay, rfl, oay, may, b7⟩
  have s7_a := s6_a.up b7
  have s7_b := s6_b.up b7
  have s7_ax := s6_ax.up b7
  have s7_bx := s6_bx.up b7
  have s7_ay := may.new
  go_wp2_with fail
  refine (eqIntS_any a a _ _ (fun _ hb => hb) Aax Aay na cax na cay s7_ax s7_ay).mono ?_
  rintro e w8 ⟨rfl, b8⟩
  have s8_a := s7_a.up b8
  have s8_b := s7_b.up b8
  have s8_ax := s7_ax.up b8
  have s8_bx := s7_bx.up b8
  have s8_ay := s7_ay.up b8
  go_wp2_with fail
  refine (toIntS_any b _ _ (fun _ hb => hb) Ab nb cb s8_b hbig_b).mono ?_
  rintro e w9 ⟨Aby, cby, rfl, oby, mby, b9⟩
  have s9_a := s8_a.up b9
  have s9_b := s8_b.up b9
  have s9_ax := s8_ax.up b9
  have s9_bx := s8_bx.up b9
  have s9_by := mby.new
  go_wp2_with fail
  refine (eqIntS_any b b _ _ (fun _ hb => hb) Abx Aby nb cbx nb cby s9_bx s9_by).mono ?_
  rintro e w10 ⟨rfl, b10⟩
  have s10_a := s9_a.up b10
  have s10_b := s9_b.up b10
  have s10_ax := s9_ax.up b10
  have s10_bx := s9_bx.up b10
  have s10_by := s9_by.up b10
  go_wp2_with fail
  go_ret
  exact ⟨rfl, (bnext (bnext (bnext (bnext (bnext (bnext (bnext (bnext (bnext (b1) b2) b3) b4) b5) b6) b7) b8) b9) b10)⟩

set_option maxRecDepth 100000 in
theorem lifted_IsOverlap (os : Os) (started : os.Started) (H : Type) (enc : TypeId × Value → H) :
    ReturnsInHanded {} Try.checked os 5 .any (Rows.fnExactIsOverlapSpec.pre6 enc Try.prog Try.f5 Rows.fnExactIsOverlapRow.domain false) (Rows.fnExactIsOverlapSpec.post enc Try.prog Try.f5 false true false false) := by
  refine returnsInHanded_of_change (C := Try.checked) own started (by kernel_rfl) Try.func5
    (ChangeSpec.witness6 (enc := enc) (C := Try.checked) false ⟨#[], #[.int .i64 0, .slice none 0 0, .slice none 0 0], []⟩ 8 (by kernel_rfl) (by kernel_rfl) (by kernel_rfl) (by kernel_rfl)) ?_
  intro W base args ds gs before hval0 hW hcnd _
  have hval : ∀ (j : Nat) t v, Try.f5.params[j]? = some t → args[j]? = some v → Value.okWide Try.prog W .any base t v := hval0
  have hW' := hW
  obtain ⟨p, q, hA0, hV, rfl, hfz, hnd⟩ := hW
  have hA : DataW.TrodAll enc Try.prog W 0 (fun _ => true) true Try.f5.params.toList args.toList ds p := hA0
  rw [Try.params5] at hA hval
  obtain ⟨v0, vs0, d0, ds0, p0, q0, hargs, rfl, rfl, h0, r0⟩ := trodAll_cons hA
  obtain ⟨v1, vs1, d1, ds1, p1, q1, rfl, rfl, rfl, h1, r1⟩ := trodAll_cons r0
  obtain ⟨v2, vs2, d2, ds2, p2, q2, rfl, rfl, rfl, h2, r2⟩ := trodAll_cons r1
  obtain ⟨rfl, rfl, rfl⟩ := trodAll_nil r2
  obtain rfl : args = #[v0, v1, v2] := by cases args; simp_all
  obtain ⟨rfl, rfl⟩ := trodVars_none hV
  obtain ⟨a0, rfl, rfl, rfl, w0⟩ := open_int Try.underlying3 (hval 0 3 v0 rfl rfl) h0
  obtain ⟨l1, A1, n1, c1, rfl, R1⟩ := Opens.arg opensInts (okWide_slice Try.underlying33 (hval 1 33 v1 rfl rfl)) h1
  obtain ⟨l2, A2, n2, c2, rfl, R2⟩ := Opens.arg opensInts (okWide_slice Try.underlying33 (hval 2 33 v2 rfl rfl)) h2
  clear hA0 hval0
  refine (law_IsOverlap a0 (i64_of_wf w0) l1 l2 W A1 n1 c1 R1 A2 n2 c2 R2).mono fun e W' ⟨he, hg⟩ => ?_
  subst he
  exact ⟨_, rfl, law_post hW' rfl laidOut (by kernel_rfl) hg rfl rfl Try.underlying4⟩

/-- The statement. -/
theorem proved_IsOverlap : Rows.FnExactIsOverlapSaid :=
  OpenClaim.holds_of_wide 5 Try.f5 rfl rfl rfl rfl rfl rfl rfl ⟨rfl, rfl, rfl, rfl, rfl⟩ rfl rfl rfl rfl rfl (by kernel_rfl) Try.func5 (by kernel_rfl)
    (of_decide_eq_true (by kernel_rfl)) (by unfold Func.isWrapper; first | (rw [if_pos (by decide +kernel)]; kernel_rfl) | (rw [if_neg (by decide +kernel)]; exact ⟨rfl, rfl⟩))
    (fun os started H enc _ => lifted_IsOverlap os started H enc)
#print axioms proved_IsOverlap
end Go.Proofs.Yticinemcmgggpab
