/-
  Proved: the law FnExactMatchLogs returns true for every input: the program's MatchLogs answers what the reference's does, and leaves its arguments alone. Conditions: none.
-/
import Derived.Test.YtgcliipdkoefaaaMlC
import Derived.Test.YtgcliipdkoefaaaEnO
namespace Go.Proofs.Ytgcliipdkoefaaa
open Go.ChangeShapes Go.WideShapes Go.ChangeAt Go.RowKit Go.BigFrame Go.Deep
set_option linter.unusedVariables false

theorem law_MatchLogs (a : List IS) (b : List IS) (w : World) (Aa : Option Addr) (na ca : Nat) (ra : RepL w (· < w.heap.size) a Aa na ca) (Ab : Option Addr) (nb cb : Nat) (rb : RepL w (· < w.heap.size) b Ab nb cb) :
    Calls Try.prog 3 #[.slice Aa na ca, .slice Ab nb cb] w fun x w' => x = .returned (.bool true) ∧ Below w.heap.size w w' := by
  have bd_a := ra.bd
  have bd_b := rb.bd
  go_enter Try.func3, Try.ntmps3
  go_wp2_with fail
  refine (szEntryS_any a _ _ (fun _ hb => hb) Aa na ca _ ra (by omega) (by omega)).mono ?_
  rintro e w1 ⟨q1, rfl, hq1a, hq1b, hq1c, b1⟩
  have s1_a := ra.up b1
  have s1_b := rb.up b1
  by_cases hneg1 : q1 < 0
  · go_wp2_with fail
    go_ret
    exact ⟨rfl, (b1)⟩
  have hpos1 := hq1c (by omega)
  clear hq1c
  go_wp2_with fail
  refine (szEntryS_any b _ _ (fun _ hb => hb) Ab nb cb _ s1_b (by omega) (by omega)).mono ?_
  rintro e w2 ⟨q2, rfl, hq2a, hq2b, hq2c, b2⟩
  have s2_a := s1_a.up b2
  have s2_b := s1_b.up b2
  by_cases hneg2 : q2 < 0
  · go_wp2_with fail
    go_ret
    exact ⟨rfl, (bnext (b1) b2)⟩
  have hpos2 := hq2c (by omega)
  clear hq2c
  go_wp2_with fail
  refine (toEntryS_any a _ _ (fun _ hb => hb) Aa na ca s2_a (by omega)).mono ?_
  rintro e w3 ⟨Aap, cap, rfl, oap, map, b3⟩
  have s3_a := s2_a.up b3
  have s3_b := s2_b.up b3
  have s3_ap := map.new
  go_wp2_with fail
  refine (toEntryS_any b _ _ (fun _ hb => hb) Ab nb cb s3_b (by omega)).mono ?_
  rintro e w4 ⟨Abp, cbp, rfl, obp, mbp, b4⟩
  have s4_a := s3_a.up b4
  have s4_b := s3_b.up b4
  have s4_ap := s3_ap.up b4
  have s4_bp := mbp.new
  go_wp2_with fail
  refine (spec_MatchLogs_any a b _ _ (fun _ hb => hb) Aap Abp na cap nb cbp s4_ap s4_bp).mono ?_
  rintro e w5 ⟨rfl, b5⟩
  have s5_a := s4_a.up b5
  have s5_b := s4_b.up b5
  have s5_ap := s4_ap.up b5
  have s5_bp := s4_bp.up b5
  go_wp2_with fail
  refine (toEntryS_any a _ _ (fun _ hb => hb) Aa na ca s5_a (by omega)).mono ?_
  rintro e w6 ⟨Aax, cax, rfl, oax, max, b6⟩
  have s6_a := s5_a.up b6
  have s6_b := s5_b.up b6
  have s6_ax := max.new
  go_wp2_with fail
  refine (toEntryS_any b _ _ (fun _ hb => hb) Ab nb cb s6_b (by omega)).mono ?_
  rintro e w7 ⟨Abx, cbx, rfl, obx, mbx, b7⟩
  have s7_a := s6_a.up b7
  have s7_b := s6_b.up b7
  have s7_ax := s6_ax.up b7
  have s7_bx := mbx.new
  go_wp2_with fail
  refine (impl_MatchLogs_any a b _ _ (fun _ hb => hb) Aax Abx na cax nb cbx s7_ax s7_bx).mono ?_
  rintro e w8 ⟨rfl, b8⟩
  have s8_a := s7_a.up b8
  have s8_b := s7_b.up b8
  have s8_ax := s7_ax.up b8
  have s8_bx := s7_bx.up b8
  go_wp2_with fail
  refine (toEntryS_any a _ _ (fun _ hb => hb) Aa na ca s8_a (by omega)).mono ?_
  rintro e w9 ⟨Aay, cay, rfl, oay, may, b9⟩
  have s9_a := s8_a.up b9
  have s9_b := s8_b.up b9
  have s9_ax := s8_ax.up b9
  have s9_bx := s8_bx.up b9
  have s9_ay := may.new
  go_wp2_with fail
  refine (eqEntryS_any a a _ _ (fun _ hb => hb) Aax Aay na cax na cay s9_ax s9_ay).mono ?_
  rintro e w10 ⟨rfl, b10⟩
  have s10_a := s9_a.up b10
  have s10_b := s9_b.up b10
  have s10_ax := s9_ax.up b10
  have s10_bx := s9_bx.up b10
  have s10_ay := s9_ay.up b10
  go_wp2_with fail
  refine (toEntryS_any b _ _ (fun _ hb => hb) Ab nb cb s10_b (by omega)).mono ?_
  rintro e w11 ⟨Aby, cby, rfl, oby, mby, b11⟩
  have s11_a := s10_a.up b11
  have s11_b := s10_b.up b11
  have s11_ax := s10_ax.up b11
  have s11_bx := s10_bx.up b11
  have s11_by := mby.new
  go_wp2_with fail
  refine (eqEntryS_any b b _ _ (fun _ hb => hb) Abx Aby nb cbx nb cby s11_bx s11_by).mono ?_
  rintro e w12 ⟨rfl, b12⟩
  have s12_a := s11_a.up b12
  have s12_b := s11_b.up b12
  have s12_ax := s11_ax.up b12
  have s12_bx := s11_bx.up b12
  have s12_by := s11_by.up b12
  go_wp2_with fail
  go_ret
  exact ⟨rfl, (bnext (bnext (bnext (bnext (bnext (bnext (bnext (bnext (bnext (bnext (bnext (b1) b2) b3) b4) b5) b6) b7) b8) b9) b10) b11) b12)⟩

set_option maxRecDepth 100000 in
theorem lifted_MatchLogs (os : Os) (started : os.Started) (H : Type) (enc : TypeId × Value → H) :
    ReturnsInHanded {} Try.checked os 3 .any (Rows.fnExactMatchLogsSpec.pre6 enc Try.prog Try.f3 Rows.fnExactMatchLogsRow.domain false) (Rows.fnExactMatchLogsSpec.post enc Try.prog Try.f3 false true false false) := by
  refine returnsInHanded_of_change (C := Try.checked) own started (by kernel_rfl) Try.func3
    (ChangeSpec.witness6 (enc := enc) (C := Try.checked) false ⟨#[], #[.slice none 0 0, .slice none 0 0], []⟩ 8 (by kernel_rfl) (by kernel_rfl) (by kernel_rfl) (by kernel_rfl)) ?_
  intro W base args ds gs before hval0 hW hcnd _
  have hval : ∀ (j : Nat) t v, Try.f3.params[j]? = some t → args[j]? = some v → Value.okWide Try.prog W .any base t v := hval0
  have hW' := hW
  obtain ⟨p, q, hA0, hV, rfl, hfz, hnd⟩ := hW
  have hA : DataW.TrodAll enc Try.prog W 0 (fun _ => true) true Try.f3.params.toList args.toList ds p := hA0
  rw [Try.params3] at hA hval
  obtain ⟨v0, vs0, d0, ds0, p0, q0, hargs, rfl, rfl, h0, r0⟩ := trodAll_cons hA
  obtain ⟨v1, vs1, d1, ds1, p1, q1, rfl, rfl, rfl, h1, r1⟩ := trodAll_cons r0
  obtain ⟨rfl, rfl, rfl⟩ := trodAll_nil r1
  obtain rfl : args = #[v0, v1] := by cases args; simp_all
  obtain ⟨rfl, rfl⟩ := trodVars_none hV
  obtain ⟨l0, A0, n0, c0, rfl, R0⟩ := Opens.arg opensLEntry (okWide_slice Try.underlying22 (hval 0 22 v0 rfl rfl)) h0
  obtain ⟨l1, A1, n1, c1, rfl, R1⟩ := Opens.arg opensLEntry (okWide_slice Try.underlying22 (hval 1 22 v1 rfl rfl)) h1
  clear hA0 hval0
  refine (law_MatchLogs l0 l1 W A0 n0 c0 R0 A1 n1 c1 R1).mono fun e W' ⟨he, hg⟩ => ?_
  subst he
  exact ⟨_, rfl, law_post hW' rfl laidOut (by kernel_rfl) hg rfl rfl Try.underlying4⟩

/-- The statement. -/
theorem proved_MatchLogs : Rows.FnExactMatchLogsSaid :=
  OpenClaim.holds_of_wide 3 Try.f3 rfl rfl rfl rfl rfl rfl rfl ⟨rfl, rfl, rfl, rfl, rfl⟩ rfl rfl rfl rfl rfl (by kernel_rfl) Try.func3 (by kernel_rfl)
    (of_decide_eq_true (by kernel_rfl)) (by unfold Func.isWrapper; first | (rw [if_pos (by decide +kernel)]; kernel_rfl) | (rw [if_neg (by decide +kernel)]; exact ⟨rfl, rfl⟩))
    (fun os started H enc _ => lifted_MatchLogs os started H enc)
#print axioms proved_MatchLogs
end Go.Proofs.Ytgcliipdkoefaaa
