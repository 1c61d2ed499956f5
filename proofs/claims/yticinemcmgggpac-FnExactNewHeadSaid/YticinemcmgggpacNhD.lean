/-
  Proved: the law FnExactNewHead returns true for every input: the program's NewHead answers what the reference's does. Conditions: none.
-/
import Derived.Test.YticinemcmgggpacNhA
import Derived.Test.YticinemcmgggpacLaw
namespace Go.Proofs.Yticinemcmgggpac
open Go.ChangeShapes Go.WideShapes Go.ChangeAt Go.RowKit Go.BigFrame
set_option linter.unusedVariables false

theorem law_NewHead (o : Int) (ho : I64 o) (w : World) : Calls Try.prog 3 #[.int .i64 o] w fun x w' => x = .returned (.bool true) ∧ Below w.heap.size w w' := by
  obtain ⟨v, hv⟩ : ∃ v, nhInt o = v := ⟨_, rfl⟩
  obtain ⟨r, hr⟩ : ∃ r, nhOk o = r := ⟨_, rfl⟩
  have CS := Lib.hid (fun W => spec_NewHead_any o ho W)
  have CI := Lib.hid (fun W => impl_NewHead_any o ho W)
  rw [hv, hr] at CS CI
  clear hv hr
  have hrr : (r != r) = false := by cases r <;> rfl
  go_enter Try.func3, Try.ntmps3
  go_wp2_with fail
  refine (CS.out _).mono ?_
  rintro e w1 ⟨rfl, b1⟩
  have B1 := b1
  go_wp2_with fail
  refine (CI.out _).mono ?_
  rintro e w2 ⟨rfl, b2⟩
  have B2 := bnext (B1.alloc (B1.size) (.cells #[.slice none 0 0, .int .i64 v] 24)) b2
  have S2 := b2.size
  try simp at S2
  have cw1_0 := b2.cell (p := ⟨w1.heap.size, 0, none⟩) (by simp <;> omega)
  simp at cw1_0
  have cw1_1 := b2.cell (p := ⟨w1.heap.size, 1, none⟩) (by simp <;> omega)
  simp at cw1_1
  have dw1_0 : (w2.alloc (.cells #[.slice none 0 0, .int .i64 v] 24)).cell? ⟨w1.heap.size, 0, none⟩ = _ := (World.cell?_alloc_lt _ _ _ (by simp <;> omega)).trans cw1_0
  have dw1_1 : (w2.alloc (.cells #[.slice none 0 0, .int .i64 v] 24)).cell? ⟨w1.heap.size, 1, none⟩ = _ := (World.cell?_alloc_lt _ _ _ (by simp <;> omega)).trans cw1_1
  go_wp2_with fail
  refine (eqHead_nil _ _).mono ?_
  rintro e w3 ⟨rfl, b3⟩
  have B3 := bnext (B2.alloc (B2.size) (.cells #[.slice none 0 0, .int .i64 v] 24)) b3
  have S3 := b3.size
  try simp at S3
  replace cw1_0 := (b3.cell (p := ⟨w1.heap.size, 0, none⟩) (by simp <;> omega)).trans dw1_0
  replace cw1_1 := (b3.cell (p := ⟨w1.heap.size, 1, none⟩) (by simp <;> omega)).trans dw1_1
  have cw2_0 := b3.cell (p := ⟨w2.heap.size, 0, none⟩) (by simp <;> omega)
  simp at cw2_0
  have cw2_1 := b3.cell (p := ⟨w2.heap.size, 1, none⟩) (by simp <;> omega)
  simp at cw2_1
  go_wp2_with fail
  refine (markHead_nil _ _ _).mono ?_
  rintro e w4 ⟨rfl, b4⟩
  have B4 := bnext B3 b4
  have S4 := b4.size
  try simp at S4
  replace cw1_0 := (b4.cell (p := ⟨w1.heap.size, 0, none⟩) (by simp <;> omega)).trans cw1_0
  replace cw1_1 := (b4.cell (p := ⟨w1.heap.size, 1, none⟩) (by simp <;> omega)).trans cw1_1
  replace cw2_0 := (b4.cell (p := ⟨w2.heap.size, 0, none⟩) (by simp <;> omega)).trans cw2_0
  replace cw2_1 := (b4.cell (p := ⟨w2.heap.size, 1, none⟩) (by simp <;> omega)).trans cw2_1
  go_wp2_with fail
  refine (heldHead_nil _ _ (by omega) _).mono ?_
  rintro e w5 ⟨rfl, b5⟩
  have B5 := bnext B4 b5
  have S5 := b5.size
  try simp at S5
  replace cw1_0 := (b5.cell (p := ⟨w1.heap.size, 0, none⟩) (by simp <;> omega)).trans cw1_0
  replace cw1_1 := (b5.cell (p := ⟨w1.heap.size, 1, none⟩) (by simp <;> omega)).trans cw1_1
  replace cw2_0 := (b5.cell (p := ⟨w2.heap.size, 0, none⟩) (by simp <;> omega)).trans cw2_0
  replace cw2_1 := (b5.cell (p := ⟨w2.heap.size, 1, none⟩) (by simp <;> omega)).trans cw2_1
  go_wp2_with fail
  refine (CI.out _).mono ?_
  rintro e w6 ⟨rfl, b6⟩
  have B6 := bnext B5 b6
  have S6 := b6.size
  try simp at S6
  replace cw1_0 := (b6.cell (p := ⟨w1.heap.size, 0, none⟩) (by simp <;> omega)).trans cw1_0
  replace cw1_1 := (b6.cell (p := ⟨w1.heap.size, 1, none⟩) (by simp <;> omega)).trans cw1_1
  replace cw2_0 := (b6.cell (p := ⟨w2.heap.size, 0, none⟩) (by simp <;> omega)).trans cw2_0
  replace cw2_1 := (b6.cell (p := ⟨w2.heap.size, 1, none⟩) (by simp <;> omega)).trans cw2_1
  have dw1_0 : (w6.alloc (.cells #[.slice none 0 0, .int .i64 v] 24)).cell? ⟨w1.heap.size, 0, none⟩ = _ := (World.cell?_alloc_lt _ _ _ (by simp <;> omega)).trans cw1_0
  have dw1_1 : (w6.alloc (.cells #[.slice none 0 0, .int .i64 v] 24)).cell? ⟨w1.heap.size, 1, none⟩ = _ := (World.cell?_alloc_lt _ _ _ (by simp <;> omega)).trans cw1_1
  have dw2_0 : (w6.alloc (.cells #[.slice none 0 0, .int .i64 v] 24)).cell? ⟨w2.heap.size, 0, none⟩ = _ := (World.cell?_alloc_lt _ _ _ (by simp <;> omega)).trans cw2_0
  have dw2_1 : (w6.alloc (.cells #[.slice none 0 0, .int .i64 v] 24)).cell? ⟨w2.heap.size, 1, none⟩ = _ := (World.cell?_alloc_lt _ _ _ (by simp <;> omega)).trans cw2_1
  go_wp2_with fail
  refine (eqHead_nil _ _).mono ?_
  rintro e w7 ⟨rfl, b7⟩
  have B7 := bnext (B6.alloc (B6.size) (.cells #[.slice none 0 0, .int .i64 v] 24)) b7
  have S7 := b7.size
  try simp at S7
  replace cw1_0 := (b7.cell (p := ⟨w1.heap.size, 0, none⟩) (by simp <;> omega)).trans dw1_0
  replace cw1_1 := (b7.cell (p := ⟨w1.heap.size, 1, none⟩) (by simp <;> omega)).trans dw1_1
  replace cw2_0 := (b7.cell (p := ⟨w2.heap.size, 0, none⟩) (by simp <;> omega)).trans dw2_0
  replace cw2_1 := (b7.cell (p := ⟨w2.heap.size, 1, none⟩) (by simp <;> omega)).trans dw2_1
  have cw6_0 := b7.cell (p := ⟨w6.heap.size, 0, none⟩) (by simp <;> omega)
  simp at cw6_0
  have cw6_1 := b7.cell (p := ⟨w6.heap.size, 1, none⟩) (by simp <;> omega)
  simp at cw6_1
  go_wp2_with fail
  refine (heldHead_nil _ _ (by omega) _).mono ?_
  rintro e w8 ⟨rfl, b8⟩
  have B8 := bnext B7 b8
  have S8 := b8.size
  try simp at S8
  replace cw1_0 := (b8.cell (p := ⟨w1.heap.size, 0, none⟩) (by simp <;> omega)).trans cw1_0
  replace cw1_1 := (b8.cell (p := ⟨w1.heap.size, 1, none⟩) (by simp <;> omega)).trans cw1_1
  replace cw2_0 := (b8.cell (p := ⟨w2.heap.size, 0, none⟩) (by simp <;> omega)).trans cw2_0
  replace cw2_1 := (b8.cell (p := ⟨w2.heap.size, 1, none⟩) (by simp <;> omega)).trans cw2_1
  replace cw6_0 := (b8.cell (p := ⟨w6.heap.size, 0, none⟩) (by simp <;> omega)).trans cw6_0
  replace cw6_1 := (b8.cell (p := ⟨w6.heap.size, 1, none⟩) (by simp <;> omega)).trans cw6_1
  go_wp2_with fail
  go_ret
  exact ⟨rfl, B8⟩

set_option maxRecDepth 100000 in
theorem lifted_NewHead (os : Os) (started : os.Started) (H : Type) (enc : TypeId × Value → H) :
    ReturnsInHanded {} Try.checked os 3 .any (Rows.fnExactNewHeadSpec.pre6 enc Try.prog Try.f3 Rows.fnExactNewHeadRow.domain false) (Rows.fnExactNewHeadSpec.post enc Try.prog Try.f3 false true false false) := by
  refine returnsInHanded_of_change (C := Try.checked) own started (by kernel_rfl) Try.func3
    (ChangeSpec.witness6 (enc := enc) (C := Try.checked) false ⟨#[], #[.int .i64 0], []⟩ 8 (by kernel_rfl) (by kernel_rfl) (by kernel_rfl) (by kernel_rfl)) ?_
  intro W base args ds gs before hval0 hW hcnd _
  have hval : ∀ (j : Nat) t v, Try.f3.params[j]? = some t → args[j]? = some v → Value.okWide Try.prog W .any base t v := hval0
  have hW' := hW
  obtain ⟨p, q, hA0, hV, rfl, hfz, hnd⟩ := hW
  have hA : DataW.TrodAll enc Try.prog W 0 (fun _ => true) true Try.f3.params.toList args.toList ds p := hA0
  rw [Try.params3] at hA hval
  obtain ⟨v0, vs0, d0, ds0, p0, q0, hargs, rfl, rfl, h0, r0⟩ := trodAll_cons hA
  obtain ⟨rfl, rfl, rfl⟩ := trodAll_nil r0
  obtain rfl : args = #[v0] := by cases args; simp_all
  obtain ⟨rfl, rfl⟩ := trodVars_none hV
  obtain ⟨a0, rfl, rfl, rfl, w0⟩ := open_int Try.underlying3 (hval 0 3 v0 rfl rfl) h0
  clear hA0 hval0
  refine (law_NewHead a0 (i64_of_wf w0) W).mono fun e W' ⟨he, hg⟩ => ?_
  subst he
  exact ⟨_, rfl, law_post hW' rfl laidOut (by kernel_rfl) hg rfl rfl Try.underlying4⟩

/-- The statement. -/
theorem proved_NewHead : Rows.FnExactNewHeadSaid :=
  OpenClaim.holds_of_wide 3 Try.f3 rfl rfl rfl rfl rfl rfl rfl ⟨rfl, rfl, rfl, rfl, rfl⟩ rfl rfl rfl rfl rfl (by kernel_rfl) Try.func3 (by kernel_rfl)
    (of_decide_eq_true (by kernel_rfl)) (by unfold Func.isWrapper; first | (rw [if_pos (by decide +kernel)]; kernel_rfl) | (rw [if_neg (by decide +kernel)]; exact ⟨rfl, rfl⟩))
    (fun os started H enc _ => lifted_NewHead os started H enc)
#print axioms proved_NewHead
end Go.Proofs.Yticinemcmgggpac
