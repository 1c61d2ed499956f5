/-
  Proved: the law FnExactEndOfEpoch returns true for every input: the program's EndOfEpoch answers what the reference's does, and leaves its argument alone. Conditions: none.
-/
import Derived.Test.YticinemcmgggpabEpE
import Derived.Test.YticinemcmgggpabEnO
namespace Go.Proofs.Yticinemcmgggpab
open Go.ChangeShapes Go.WideShapes Go.ChangeAt Go.RowKit Go.BigFrame Go.Deep
set_option linter.unusedVariables false

theorem law_EndOfEpoch (l : List IS) (m : Int) (hm : I64 m) (w : World) (Al : Option Addr) (nl cl : Nat) (rl : RepL w (· < w.heap.size) l Al nl cl) :
    Calls Try.prog 3 #[.slice Al nl cl, .int .i64 m] w fun x w' => x = .returned (.bool true) ∧ Below w.heap.size w w' := by
  have bd_l := rl.bd
  go_enter Try.func3, Try.ntmps3
  go_wp2_with fail
  refine (szEntryS_any l _ _ (fun _ hb => hb) Al nl cl _ rl (by omega) (by omega)).mono ?_
  rintro e w1 ⟨q1, rfl, hq1a, hq1b, hq1c, b1⟩
  have s1_l := rl.up b1
  by_cases hneg1 : q1 < 0
  · go_wp2_with fail
    go_ret
    exact ⟨rfl, (b1)⟩
  have hpos1 := hq1c (by omega)
  clear hq1c
  go_wp2_with fail
  refine (toEntryS_any l _ _ (fun _ hb => hb) Al nl cl s1_l (by omega)).mono ?_
  rintro e w2 ⟨Alp, clp, rfl, olp, mlp, b2⟩
  have s2_l := s1_l.up b2
  have s2_lp := mlp.new
  go_wp2_with fail
  refine (spec_EndOfEpoch_any l m hm _ _ (fun _ hb => hb) Alp nl clp s2_lp).mono ?_
  rintro e w3 ⟨rfl, b3⟩
  have s3_l := s2_l.up b3
  have s3_lp := s2_lp.up b3
  go_wp2_with fail
  refine (toEntryS_any l _ _ (fun _ hb => hb) Al nl cl s3_l (by omega)).mono ?_
  rintro e w4 ⟨Alx, clx, rfl, olx, mlx, b4⟩
  have s4_l := s3_l.up b4
  have s4_lx := mlx.new
  go_wp2_with fail
  refine (impl_EndOfEpoch_any l m hm _ _ (fun _ hb => hb) Alx nl clx s4_lx).mono ?_
  rintro e w5 ⟨rfl, b5⟩
  have s5_l := s4_l.up b5
  have s5_lx := s4_lx.up b5
  go_wp2_with fail
  refine (toEntryS_any l _ _ (fun _ hb => hb) Al nl cl s5_l (by omega)).mono ?_
  rintro e w6 ⟨Aly, cly, rfl, oly, mly, b6⟩
  have s6_l := s5_l.up b6
  have s6_lx := s5_lx.up b6
  have s6_ly := mly.new
  go_wp2_with fail
  refine (eqEntryS_any l l _ _ (fun _ hb => hb) Alx Aly nl clx nl cly s6_lx s6_ly).mono ?_
  rintro e w7 ⟨rfl, b7⟩
  have s7_l := s6_l.up b7
  have s7_lx := s6_lx.up b7
  have s7_ly := s6_ly.up b7
  go_wp2_with fail
  go_ret
  exact ⟨rfl, (bnext (bnext (bnext (bnext (bnext (bnext (b1) b2) b3) b4) b5) b6) b7)⟩

set_option maxRecDepth 100000 in
theorem lifted_EndOfEpoch (os : Os) (started : os.Started) (H : Type) (enc : TypeId × Value → H) :
    ReturnsInHanded {} Try.checked os 3 .any (Rows.fnExactEndOfEpochSpec.pre6 enc Try.prog Try.f3 Rows.fnExactEndOfEpochRow.domain false) (Rows.fnExactEndOfEpochSpec.post enc Try.prog Try.f3 false true false false) := by
  refine returnsInHanded_of_change (C := Try.checked) own started (by kernel_rfl) Try.func3
    (ChangeSpec.witness6 (enc := enc) (C := Try.checked) false ⟨#[], #[.slice none 0 0, .int .i64 0], []⟩ 8 (by kernel_rfl) (by kernel_rfl) (by kernel_rfl) (by kernel_rfl)) ?_
  intro W base args ds gs before hval0 hW hcnd _
  have hval : ∀ (j : Nat) t v, Try.f3.params[j]? = some t → args[j]? = some v → Value.okWide Try.prog W .any base t v := hval0
  have hW' := hW
  obtain ⟨p, q, hA0, hV, rfl, hfz, hnd⟩ := hW
  have hA : DataW.TrodAll enc Try.prog W 0 (fun _ => true) true Try.f3.params.toList args.toList ds p := hA0
  rw [Try.params3] at hA hval
  obtain ⟨v0, vs0, d0, ds0, p0, q0, hargs, rfl, rfl, h0, r0⟩ := trodAll_cons hA
  obtain ⟨v1, vs1, d1, ds1, p1, q1, rfl, rfl, rfl, h1, r1⟩ := trodAll_cons r0
  obtain ⟨rfl, rfl, rfl⟩ := trodAll_nil r1
  obtain rfl : args = #[v0, v1] := by cases args; simp_all
  obtain ⟨rfl, rfl⟩ := trodVars_none hV
  obtain ⟨l0, A0, n0, c0, rfl, R0⟩ := Opens.arg opensLEntry (okWide_slice Try.underlying22 (hval 0 22 v0 rfl rfl)) h0
  obtain ⟨a1, rfl, rfl, rfl, w1⟩ := open_int Try.underlying3 (hval 1 3 v1 rfl rfl) h1
  clear hA0 hval0
  refine (law_EndOfEpoch l0 a1 (i64_of_wf w1) W A0 n0 c0 R0).mono fun e W' ⟨he, hg⟩ => ?_
  subst he
  exact ⟨_, rfl, law_post hW' rfl laidOut (by kernel_rfl) hg rfl rfl Try.underlying4⟩

/-- The statement. -/
theorem proved_EndOfEpoch : Rows.FnExactEndOfEpochSaid :=
  OpenClaim.holds_of_wide 3 Try.f3 rfl rfl rfl rfl rfl rfl rfl ⟨rfl, rfl, rfl, rfl, rfl⟩ rfl rfl rfl rfl rfl (by kernel_rfl) Try.func3 (by kernel_rfl)
    (of_decide_eq_true (by kernel_rfl)) (by unfold Func.isWrapper; first | (rw [if_pos (by decide +kernel)]; kernel_rfl) | (rw [if_neg (by decide +kernel)]; exact ⟨rfl, rfl⟩))
    (fun os started H enc _ => lifted_EndOfEpoch os started H enc)
#print axioms proved_EndOfEpoch
end Go.Proofs.Yticinemcmgggpab
