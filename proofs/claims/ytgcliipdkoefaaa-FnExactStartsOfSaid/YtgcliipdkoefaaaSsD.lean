/-
  Proved: the law FnExactStartsOf returns true for every input: the program's StartsOf answers what the reference's does, leaves its argument alone, and its result shares no memory with it. Conditions: none.
-/
import Derived.Test.YtgcliipdkoefaaaSsC
import Derived.Test.YtgcliipdkoefaaaSsH
import Derived.Test.YtgcliipdkoefaaaEnM
import Derived.Test.YtgcliipdkoefaaaEnO
namespace Go.Proofs.Ytgcliipdkoefaaa
open Go.ChangeShapes Go.WideShapes Go.ChangeAt Go.RowKit Go.BigFrame Go.Deep
set_option linter.unusedVariables false

set_option maxHeartbeats 4000000 in
theorem law_StartsOf (l : List IS) (w : World) (Al : Option Addr) (nl cl : Nat) (rl : RepL w (· < w.heap.size) l Al nl cl) :
    Calls Try.prog 4 #[.slice Al nl cl] w fun x w' => x = .returned (.bool true) ∧ Below w.heap.size w w' := by
  have bd_l := rl.bd
  have s0_l : RepL w (fun b => 0 ≤ b ∧ b < w.heap.size) l Al nl cl := rl.more fun b hb => ⟨Nat.zero_le _, hb⟩
  have B0 : Below w.heap.size w w := Below.refl _ _
  go_enter Try.func4, Try.ntmps4
  go_wp2_with fail
  refine (szEntryS_any l _ _ (fun _ hb => hb) Al nl cl _ (s0_l.ltR (by omega)) (by omega) (by omega)).mono ?_
  rintro e w1 ⟨q1, rfl, hq1a, hq1b, hq1c, b1⟩
  have z1 := b1.size
  have s1_l := s0_l.upR (by omega) b1
  have B1 := bnext B0 b1
  clear s0_l B0 b1
  by_cases hneg1 : q1 < 0
  · go_wp2_with fail
    go_ret
    exact ⟨rfl, B1⟩
  have hpos1 := hq1c (by omega)
  clear hq1c
  go_wp2_with fail
  refine (toEntryS_any l _ _ (fun _ hb => hb) Al nl cl (s1_l.ltR (by omega)) (by omega)).mono ?_
  rintro e w2 ⟨Alp, clp, rfl, plp, mmlp, b2⟩
  have z2 := b2.size
  have s2_l := s1_l.upR (by omega) b2
  have B2 := bnext B1 b2
  clear s1_l B1 b2
  have bk_lp : ∀ k, (Value.slice Alp nl clp).ownBlock = some k → w1.heap.size ≤ k ∧ k < w2.heap.size := plp.lt
  go_wp2_with fail
  refine (spec_StartsOf_any l _ _ (fun _ hb => hb) Alp nl clp (mmlp.ltR (by omega))).mono ?_
  rintro e w3 ⟨AW0, nW0, cW0, rfl, smW0, ⟨pW0, mmW0⟩, b3⟩
  have z3 := b3.size
  have s3_l := s2_l.upR (by omega) b3
  have s3_lp := mmlp.upR (by omega) b3
  have o3_lp := own_below plp b3
  have B3 := bnext B2 b3
  clear s2_l mmlp plp B2 b3
  have bk_W0 : ∀ k, (Value.slice AW0 nW0 cW0).ownBlock = some k → w2.heap.size ≤ k ∧ k < w3.heap.size := pW0.lt
  clear s3_lp o3_lp bk_lp
  go_wp2_with fail
  refine (toEntryS_any l _ _ (fun _ hb => hb) Al nl cl (s3_l.ltR (by omega)) (by omega)).mono ?_
  rintro e w4 ⟨Alx, clx, rfl, plx, mmlx, b4⟩
  have z4 := b4.size
  have s4_l := s3_l.upR (by omega) b4
  have s4_W0 := mmW0.upR (by omega) b4
  have o4_W0 := own_below pW0 b4
  have B4 := bnext B3 b4
  clear s3_l mmW0 pW0 B3 b4
  have bk_lx : ∀ k, (Value.slice Alx nl clx).ownBlock = some k → w3.heap.size ≤ k ∧ k < w4.heap.size := plx.lt
  go_wp2_with fail
  refine (impl_StartsOf_any l _ _ (fun _ hb => hb) Alx nl clx (mmlx.ltR (by omega))).mono ?_
  rintro e w5 ⟨AG0, nG0, cG0, rfl, smG0, ⟨pG0, mmG0⟩, b5⟩
  have z5 := b5.size
  have s5_l := s4_l.upR (by omega) b5
  have s5_W0 := s4_W0.upR (by omega) b5
  have s5_lx := mmlx.upR (by omega) b5
  have o5_W0 := own_below o4_W0 b5
  have o5_lx := own_below plx b5
  have B5 := bnext B4 b5
  clear s4_l s4_W0 mmlx o4_W0 plx B4 b5
  have bk_G0 : ∀ k, (Value.slice AG0 nG0 cG0).ownBlock = some k → w4.heap.size ≤ k ∧ k < w5.heap.size := pG0.lt
  go_wp2_with fail
  refine (eqStartS_any (ssOf l) (ssOf l) _ _ (fun _ hb => hb) AG0 AW0 nG0 cG0 nW0 cW0 (mmG0.ltR (by omega)) (s5_W0.ltR (by omega))).mono ?_
  rintro e w6 ⟨rfl, b6⟩
  have z6 := b6.size
  have s6_l := s5_l.upR (by omega) b6
  have s6_W0 := s5_W0.upR (by omega) b6
  have s6_lx := s5_lx.upR (by omega) b6
  have s6_G0 := mmG0.upR (by omega) b6
  have o6_W0 := own_below o5_W0 b6
  have o6_lx := own_below o5_lx b6
  have o6_G0 := own_below pG0 b6
  have B6 := bnext B5 b6
  clear s5_l s5_W0 s5_lx mmG0 o5_W0 o5_lx pG0 B5 b6
  go_wp2_with fail
  refine (toEntryS_any l _ _ (fun _ hb => hb) Al nl cl (s6_l.ltR (by omega)) (by omega)).mono ?_
  rintro e w7 ⟨Aly, cly, rfl, ply, mmly, b7⟩
  have z7 := b7.size
  have s7_l := s6_l.upR (by omega) b7
  have s7_W0 := s6_W0.upR (by omega) b7
  have s7_lx := s6_lx.upR (by omega) b7
  have s7_G0 := s6_G0.upR (by omega) b7
  have o7_W0 := own_below o6_W0 b7
  have o7_lx := own_below o6_lx b7
  have o7_G0 := own_below o6_G0 b7
  have B7 := bnext B6 b7
  clear s6_l s6_W0 s6_lx s6_G0 o6_W0 o6_lx o6_G0 B6 b7
  have bk_ly : ∀ k, (Value.slice Aly nl cly).ownBlock = some k → w6.heap.size ≤ k ∧ k < w7.heap.size := ply.lt
  go_wp2_with fail
  refine (eqEntryS_any l l _ _ (fun _ hb => hb) Alx Aly nl clx nl cly (s7_lx.ltR (by omega)) (mmly.ltR (by omega))).mono ?_
  rintro e w8 ⟨rfl, b8⟩
  have z8 := b8.size
  have s8_l := s7_l.upR (by omega) b8
  have s8_W0 := s7_W0.upR (by omega) b8
  have s8_lx := s7_lx.upR (by omega) b8
  have s8_G0 := s7_G0.upR (by omega) b8
  have s8_ly := mmly.upR (by omega) b8
  have o8_W0 := own_below o7_W0 b8
  have o8_lx := own_below o7_lx b8
  have o8_G0 := own_below o7_G0 b8
  have o8_ly := own_below ply b8
  have B8 := bnext B7 b8
  clear s7_l s7_W0 s7_lx s7_G0 mmly o7_W0 o7_lx o7_G0 ply B7 b8
  clear s8_ly o8_ly bk_ly
  go_wp2_with fail
  have hl_lx : nl = (l).length := s8_lx.1
  refine (markEntryS_any l 1 (by omega) (by omega) _ w3.heap.size Alx nl clx hl_lx (by omega) o8_lx).mono ?_
  clear hl_lx
  rintro e w9 ⟨rfl, q_lx, gr9, z9⟩
  have hb9 : ∀ k, (Value.slice Alx nl clx).ownBlock = some k → w3.heap.size ≤ k ∧ k < w4.heap.size := fun k hk => bk_lx k hk
  have s9_l := s8_l.other gr9 (fun b hb => ⟨by omega, fun e => by have := hb9 b e; omega⟩)
  have s9_W0 := s8_W0.other gr9 (fun b hb => ⟨by omega, fun e => by have := hb9 b e; omega⟩)
  have s9_G0 := s8_G0.other gr9 (fun b hb => ⟨by omega, fun e => by have := hb9 b e; omega⟩)
  have o9_W0 := own_other o8_W0 gr9 (fun k hk e => by have := hb9 k e; have := bk_W0 k hk; omega)
  have o9_G0 := own_other o8_G0 gr9 (fun k hk e => by have := hb9 k e; have := bk_G0 k hk; omega)
  have B9 := own_base o8_lx B8 (by omega) gr9 (by omega)
  clear s8_lx o8_lx s8_l s8_W0 s8_G0 o8_W0 o8_G0 B8 gr9 hb9
  go_wp2_with fail
  refine (eqStartS_any (ssOf l) (ssOf l) _ _ (fun _ hb => hb) AG0 AW0 nG0 cG0 nW0 cW0 (s9_G0.ltR (by omega)) (s9_W0.ltR (by omega))).mono ?_
  rintro e w10 ⟨rfl, b10⟩
  have z10 := b10.size
  have s10_l := s9_l.upR (by omega) b10
  have s10_W0 := s9_W0.upR (by omega) b10
  have s10_G0 := s9_G0.upR (by omega) b10
  have o10_W0 := own_below o9_W0 b10
  have o10_G0 := own_below o9_G0 b10
  have B10 := bnext B9 b10
  clear s9_l s9_W0 s9_G0 o9_W0 o9_G0 B9 b10
  go_wp2_with fail
  have hl_G0 : nG0 = ((ssOf l)).length := s10_G0.1
  refine (markStartS_any (ssOf l) 1 (by omega) (by omega) _ w4.heap.size AG0 nG0 cG0 hl_G0 (by omega) o10_G0).mono ?_
  clear hl_G0
  rintro e w11 ⟨rfl, q_G0, gr11, z11⟩
  have hb11 : ∀ k, (Value.slice AG0 nG0 cG0).ownBlock = some k → w4.heap.size ≤ k ∧ k < w5.heap.size := fun k hk => bk_G0 k hk
  have s11_l := s10_l.other gr11 (fun b hb => ⟨by omega, fun e => by have := hb11 b e; omega⟩)
  have s11_W0 := s10_W0.other gr11 (fun b hb => ⟨by omega, fun e => by have := hb11 b e; omega⟩)
  have o11_W0 := own_other o10_W0 gr11 (fun k hk e => by have := hb11 k e; have := bk_W0 k hk; omega)
  have B11 := own_base o10_G0 B10 (by omega) gr11 (by omega)
  clear s10_G0 o10_G0 s10_l s10_W0 o10_W0 B10 gr11 hb11
  have rq := RepL.of_own' (s := 2) rfl (by rw [upsT_len]) q_G0 (upsT_ok _ _ (by omega) (by omega))
  have rq' : RepL w11 (fun b => w4.heap.size ≤ b ∧ b < w11.heap.size) (upsT 1 nG0) AG0 nG0 cG0 := rq.more fun b hb => ⟨hb.1, by omega⟩
  go_wp2_with fail
  refine (heldStartS_any 1 (by omega) (by omega) _ _ (fun _ hb => hb) AG0 nG0 cG0 (by omega) (rq'.ltR (by omega))).mono ?_
  rintro e w12 ⟨rfl, b12⟩
  have z12 := b12.size
  have s12_l := s11_l.upR (by omega) b12
  have s12_W0 := s11_W0.upR (by omega) b12
  have s12_Q := rq'.upR (by omega) b12
  have o12_W0 := own_below o11_W0 b12
  have B12 := bnext B11 b12
  clear s11_l s11_W0 rq' o11_W0 B11 b12
  go_wp2_with fail
  refine (toEntryS_any l _ _ (fun _ hb => hb) Al nl cl (s12_l.ltR (by omega)) (by omega)).mono ?_
  rintro e w13 ⟨Alz, clz, rfl, plz, mmlz, b13⟩
  have z13 := b13.size
  have s13_l := s12_l.upR (by omega) b13
  have s13_W0 := s12_W0.upR (by omega) b13
  have s13_Q := s12_Q.upR (by omega) b13
  have o13_W0 := own_below o12_W0 b13
  have B13 := bnext B12 b13
  clear s12_l s12_W0 s12_Q o12_W0 B12 b13
  have bk_lz : ∀ k, (Value.slice Alz nl clz).ownBlock = some k → w12.heap.size ≤ k ∧ k < w13.heap.size := plz.lt
  go_wp2_with fail
  refine (impl_StartsOf_any l _ _ (fun _ hb => hb) Alz nl clz (mmlz.ltR (by omega))).mono ?_
  rintro e w14 ⟨AH0, nH0, cH0, rfl, smH0, ⟨pH0, mmH0⟩, b14⟩
  have z14 := b14.size
  have s14_l := s13_l.upR (by omega) b14
  have s14_W0 := s13_W0.upR (by omega) b14
  have s14_Q := s13_Q.upR (by omega) b14
  have s14_lz := mmlz.upR (by omega) b14
  have o14_W0 := own_below o13_W0 b14
  have o14_lz := own_below plz b14
  have B14 := bnext B13 b14
  clear s13_l s13_W0 s13_Q mmlz o13_W0 plz B13 b14
  have bk_H0 : ∀ k, (Value.slice AH0 nH0 cH0).ownBlock = some k → w13.heap.size ≤ k ∧ k < w14.heap.size := pH0.lt
  go_wp2_with fail
  refine (eqStartS_any (ssOf l) (ssOf l) _ _ (fun _ hb => hb) AH0 AW0 nH0 cH0 nW0 cW0 (mmH0.ltR (by omega)) (s14_W0.ltR (by omega))).mono ?_
  rintro e w15 ⟨rfl, b15⟩
  have z15 := b15.size
  have s15_l := s14_l.upR (by omega) b15
  have s15_W0 := s14_W0.upR (by omega) b15
  have s15_Q := s14_Q.upR (by omega) b15
  have s15_lz := s14_lz.upR (by omega) b15
  have s15_H0 := mmH0.upR (by omega) b15
  have o15_W0 := own_below o14_W0 b15
  have o15_lz := own_below o14_lz b15
  have o15_H0 := own_below pH0 b15
  have B15 := bnext B14 b15
  clear s14_l s14_W0 s14_Q s14_lz mmH0 o14_W0 o14_lz pH0 B14 b15
  go_wp2_with fail
  refine (heldStartS_any 1 (by omega) (by omega) _ _ (fun _ hb => hb) AG0 nG0 cG0 (by omega) (s15_Q.ltR (by omega))).mono ?_
  rintro e w16 ⟨rfl, b16⟩
  have z16 := b16.size
  have s16_l := s15_l.upR (by omega) b16
  have s16_W0 := s15_W0.upR (by omega) b16
  have s16_Q := s15_Q.upR (by omega) b16
  have s16_lz := s15_lz.upR (by omega) b16
  have s16_H0 := s15_H0.upR (by omega) b16
  have o16_W0 := own_below o15_W0 b16
  have o16_lz := own_below o15_lz b16
  have o16_H0 := own_below o15_H0 b16
  have B16 := bnext B15 b16
  clear s15_l s15_W0 s15_Q s15_lz s15_H0 o15_W0 o15_lz o15_H0 B15 b16
  go_wp2_with fail
  go_ret
  exact ⟨rfl, B16⟩

set_option maxRecDepth 100000 in
theorem lifted_StartsOf (os : Os) (started : os.Started) (H : Type) (enc : TypeId × Value → H) :
    ReturnsInHanded {} Try.checked os 4 .any (Rows.fnExactStartsOfSpec.pre6 enc Try.prog Try.f4 Rows.fnExactStartsOfRow.domain false) (Rows.fnExactStartsOfSpec.post enc Try.prog Try.f4 false true false false) := by
  refine returnsInHanded_of_change (C := Try.checked) own started (by kernel_rfl) Try.func4
    (ChangeSpec.witness6 (enc := enc) (C := Try.checked) false ⟨#[], #[.slice none 0 0], []⟩ 8 (by kernel_rfl) (by kernel_rfl) (by kernel_rfl) (by kernel_rfl)) ?_
  intro W base args ds gs before hval0 hW hcnd _
  have hval : ∀ (j : Nat) t v, Try.f4.params[j]? = some t → args[j]? = some v → Value.okWide Try.prog W .any base t v := hval0
  have hW' := hW
  obtain ⟨p, q, hA0, hV, rfl, hfz, hnd⟩ := hW
  have hA : DataW.TrodAll enc Try.prog W 0 (fun _ => true) true Try.f4.params.toList args.toList ds p := hA0
  rw [Try.params4] at hA hval
  obtain ⟨v0, vs0, d0, ds0, p0, q0, hargs, rfl, rfl, h0, r0⟩ := trodAll_cons hA
  obtain ⟨rfl, rfl, rfl⟩ := trodAll_nil r0
  obtain rfl : args = #[v0] := by cases args; simp_all
  obtain ⟨rfl, rfl⟩ := trodVars_none hV
  obtain ⟨l0, A0, n0, c0, rfl, R0⟩ := Opens.arg opensLEntry (okWide_slice Try.underlying22 (hval 0 22 v0 rfl rfl)) h0
  clear hA0 hval0
  refine (law_StartsOf l0 W A0 n0 c0 R0).mono fun e W' ⟨he, hg⟩ => ?_
  subst he
  exact ⟨_, rfl, law_post hW' rfl laidOut (by kernel_rfl) hg rfl rfl Try.underlying4⟩

/-- The statement. -/
theorem proved_StartsOf : Rows.FnExactStartsOfSaid :=
  OpenClaim.holds_of_wide 4 Try.f4 rfl rfl rfl rfl rfl rfl rfl ⟨rfl, rfl, rfl, rfl, rfl⟩ rfl rfl rfl rfl rfl (by kernel_rfl) Try.func4 (by kernel_rfl)
    (of_decide_eq_true (by kernel_rfl)) (by unfold Func.isWrapper; first | (rw [if_pos (by decide +kernel)]; kernel_rfl) | (rw [if_neg (by decide +kernel)]; exact ⟨rfl, rfl⟩))
    (fun os started H enc _ => lifted_StartsOf os started H enc)
#print axioms proved_StartsOf
end Go.Proofs.Ytgcliipdkoefaaa
