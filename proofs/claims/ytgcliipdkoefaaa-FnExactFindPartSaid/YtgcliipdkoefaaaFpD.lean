/-
  Proved: the law FnExactFindPart returns true for every input: the program's FindPart answers what the reference's does, and leaves its arguments alone. Conditions: none.
-/
import Derived.Test.YtgcliipdkoefaaaFpX
import Derived.Test.YtgcliipdkoefaaaSsE
import Derived.Test.YtgcliipdkoefaaaSsO
import Derived.Test.YtgcliipdkoefaaaEnO
namespace Go.Proofs.Ytgcliipdkoefaaa
open Go.ChangeShapes Go.WideShapes Go.ChangeAt Go.RowKit Go.BigFrame Go.Deep
set_option linter.unusedVariables false

theorem law_FindPart (a : List IS) (s : List P2) (m : Int) (hm : I64 m) (w : World) (Aa : Option Addr) (na ca : Nat) (ra : RepL w (· < w.heap.size) a Aa na ca) (As : Option Addr) (ns cs : Nat) (rs : RepL w (· < w.heap.size) s As ns cs) :
    Calls Try.prog 5 #[.slice Aa na ca, .slice As ns cs, .int .i64 m] w fun x w' => x = .returned (.bool true) ∧ Below w.heap.size w w' := by
  have bd_a := ra.bd
  have bd_s := rs.bd
  go_enter Try.func5, Try.ntmps5
  go_wp2_with fail
  refine (szEntryS_any a _ _ (fun _ hb => hb) Aa na ca _ ra (by omega) (by omega)).mono ?_
  rintro e w1 ⟨q1, rfl, hq1a, hq1b, hq1c, b1⟩
  have s1_a := ra.up b1
  have s1_s := rs.up b1
  by_cases hneg1 : q1 < 0
  · go_wp2_with fail
    go_ret
    exact ⟨rfl, (b1)⟩
  have hpos1 := hq1c (by omega)
  clear hq1c
  go_wp2_with fail
  refine (szStartS_any As ns cs _ _ (by omega) (by omega) (by omega)).mono ?_
  rintro e w2 ⟨q2, rfl, hq2a, hq2b, hq2c, rfl⟩
  by_cases hneg2 : q2 < 0
  · go_wp2_with fail
    go_ret
    exact ⟨rfl, (b1)⟩
  have hpos2 := hq2c (by omega)
  clear hq2c
  go_wp2_with fail
  refine (toEntryS_any a _ _ (fun _ hb => hb) Aa na ca s1_a (by omega)).mono ?_
  rintro e w2 ⟨Aap, cap, rfl, oap, map, b2⟩
  have s2_a := s1_a.up b2
  have s2_s := s1_s.up b2
  have s2_ap := map.new
  go_wp2_with fail
  refine (toStartS_any s _ _ (fun _ hb => hb) As ns cs s2_s (by omega)).mono ?_
  rintro e w3 ⟨Asp, csp, rfl, osp, msp, b3⟩
  have s3_a := s2_a.up b3
  have s3_s := s2_s.up b3
  have s3_ap := s2_ap.up b3
  have s3_sp := msp.new
  go_wp2_with fail
  refine (spec_FindPart_any a s m hm _ _ (fun _ hb => hb) Aap Asp na cap ns csp s3_ap s3_sp).mono ?_
  rintro e w4 ⟨rfl, b4⟩
  have s4_a := s3_a.up b4
  have s4_s := s3_s.up b4
  have s4_ap := s3_ap.up b4
  have s4_sp := s3_sp.up b4
  go_wp2_with fail
  refine (toEntryS_any a _ _ (fun _ hb => hb) Aa na ca s4_a (by omega)).mono ?_
  rintro e w5 ⟨Aax, cax, rfl, oax, max, b5⟩
  have s5_a := s4_a.up b5
  have s5_s := s4_s.up b5
  have s5_ax := max.new
  go_wp2_with fail
  refine (toStartS_any s _ _ (fun _ hb => hb) As ns cs s5_s (by omega)).mono ?_
  rintro e w6 ⟨Asx, csx, rfl, osx, msx, b6⟩
  have s6_a := s5_a.up b6
  have s6_s := s5_s.up b6
  have s6_ax := s5_ax.up b6
  have s6_sx := msx.new
  go_wp2_with fail
  refine (impl_FindPart_any a s m hm _ _ (fun _ hb => hb) Aax Asx na cax ns csx s6_ax s6_sx).mono ?_
  rintro e w7 ⟨rfl, b7⟩
  have s7_a := s6_a.up b7
  have s7_s := s6_s.up b7
  have s7_ax := s6_ax.up b7
  have s7_sx := s6_sx.up b7
  go_wp2_with fail
  refine (toEntryS_any a _ _ (fun _ hb => hb) Aa na ca s7_a (by omega)).mono ?_
  rintro e w8 ⟨Aay, cay, rfl, oay, may, b8⟩
  have s8_a := s7_a.up b8
  have s8_s := s7_s.up b8
  have s8_ax := s7_ax.up b8
  have s8_sx := s7_sx.up b8
  have s8_ay := may.new
  go_wp2_with fail
  refine (eqEntryS_any a a _ _ (fun _ hb => hb) Aax Aay na cax na cay s8_ax s8_ay).mono ?_
  rintro e w9 ⟨rfl, b9⟩
  have s9_a := s8_a.up b9
  have s9_s := s8_s.up b9
  have s9_ax := s8_ax.up b9
  have s9_sx := s8_sx.up b9
  have s9_ay := s8_ay.up b9
  go_wp2_with fail
  refine (toStartS_any s _ _ (fun _ hb => hb) As ns cs s9_s (by omega)).mono ?_
  rintro e w10 ⟨Asy, csy, rfl, osy, msy, b10⟩
  have s10_a := s9_a.up b10
  have s10_s := s9_s.up b10
  have s10_ax := s9_ax.up b10
  have s10_sx := s9_sx.up b10
  have s10_sy := msy.new
  go_wp2_with fail
  refine (eqStartS_any s s _ _ (fun _ hb => hb) Asx Asy ns csx ns csy s10_sx s10_sy).mono ?_
  rintro e w11 ⟨rfl, b11⟩
  have s11_a := s10_a.up b11
  have s11_s := s10_s.up b11
  have s11_ax := s10_ax.up b11
  have s11_sx := s10_sx.up b11
  have s11_sy := s10_sy.up b11
  go_wp2_with fail
  go_ret
  exact ⟨rfl, (bnext (bnext (bnext (bnext (bnext (bnext (bnext (bnext (bnext (bnext (b1) b2) b3) b4) b5) b6) b7) b8) b9) b10) b11)⟩

set_option maxRecDepth 100000 in
theorem lifted_FindPart (os : Os) (started : os.Started) (H : Type) (enc : TypeId × Value → H) :
    ReturnsInHanded {} Try.checked os 5 .any (Rows.fnExactFindPartSpec.pre6 enc Try.prog Try.f5 Rows.fnExactFindPartRow.domain false) (Rows.fnExactFindPartSpec.post enc Try.prog Try.f5 false true false false) := by
  refine returnsInHanded_of_change (C := Try.checked) own started (by kernel_rfl) Try.func5
    (ChangeSpec.witness6 (enc := enc) (C := Try.checked) false ⟨#[], #[.slice none 0 0, .slice none 0 0, .int .i64 0], []⟩ 8 (by kernel_rfl) (by kernel_rfl) (by kernel_rfl) (by kernel_rfl)) ?_
  intro W base args ds gs before hval0 hW hcnd _
  have hval : ∀ (j : Nat) t v, Try.f5.params[j]? = some t → args[j]? = some v → Value.okWide Try.prog W .any base t v := hval0
  have hW' := hW
  obtain ⟨p, q, hA0, hV, rfl, hfz, hnd⟩ := hW
  have hA : DataW.TrodAll enc Try.prog W 0 (fun _ => true) true Try.f5.params.toList args.toList ds p := hA0
  rw [Try.params5] at hA hval
  obtain ⟨v0, vs0, d0, ds0, p0, q0, hargs, rfl, rfl, h0, r0⟩ := trodAll_cons hA
  obtain ⟨v1, vs1, d1, ds1, p1, q1, rfl, rfl, rfl, h1, r1⟩ := trodAll_cons r0
  obtain ⟨v2, vs2, d2, ds2, p2, q2, rfl, rfl, rfl, h2, r2⟩ := trodAll_cons r1
  obtain ⟨rfl, rfl, rfl⟩ := trodAll_nil r2
  obtain rfl : args = #[v0, v1, v2] := by cases args; simp_all
  obtain ⟨rfl, rfl⟩ := trodVars_none hV
  obtain ⟨l0, A0, n0, c0, rfl, R0⟩ := Opens.arg opensLEntry (okWide_slice Try.underlying22 (hval 0 22 v0 rfl rfl)) h0
  obtain ⟨l1, A1, n1, c1, rfl, R1⟩ := Opens.arg opensLStart (okWide_slice Try.underlying37 (hval 1 37 v1 rfl rfl)) h1
  obtain ⟨a2, rfl, rfl, rfl, w2⟩ := open_int Try.underlying3 (hval 2 3 v2 rfl rfl) h2
  clear hA0 hval0
  refine (law_FindPart l0 l1 a2 (i64_of_wf w2) W A0 n0 c0 R0 A1 n1 c1 R1).mono fun e W' ⟨he, hg⟩ => ?_
  subst he
  exact ⟨_, rfl, law_post hW' rfl laidOut (by kernel_rfl) hg rfl rfl Try.underlying4⟩

/-- The statement. -/
theorem proved_FindPart : Rows.FnExactFindPartSaid :=
  OpenClaim.holds_of_wide 5 Try.f5 rfl rfl rfl rfl rfl rfl rfl ⟨rfl, rfl, rfl, rfl, rfl⟩ rfl rfl rfl rfl rfl (by kernel_rfl) Try.func5 (by kernel_rfl)
    (of_decide_eq_true (by kernel_rfl)) (by unfold Func.isWrapper; first | (rw [if_pos (by decide +kernel)]; kernel_rfl) | (rw [if_neg (by decide +kernel)]; exact ⟨rfl, rfl⟩))
    (fun os started H enc _ => lifted_FindPart os started H enc)
#print axioms proved_FindPart
end Go.Proofs.Ytgcliipdkoefaaa
