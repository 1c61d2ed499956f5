/-
  Proved: the law FnExactClocksOf returns true for every input: the program's ClocksOf answers what the reference's does, leaves its argument alone, and its result shares no memory with it. Conditions: none.
-/
import Derived.Test.YtmkhahiefdcinaaClX
import Derived.Test.YtmkhahiefdcinaaEvM
import Derived.Test.YtmkhahiefdcinaaEvO
import Derived.Test.YtmkhahiefdcinaaIsE
import Derived.Test.YtmkhahiefdcinaaIsM
import Derived.Test.YtmkhahiefdcinaaIsH
namespace Go.Proofs.Ytmkhahiefdcinaa
open Go.ChangeShapes Go.WideShapes Go.ChangeAt Go.RowKit Go.BigFrame Go.Deep
set_option linter.unusedVariables false

set_option maxHeartbeats 4000000 in
theorem law_ClocksOf (nodes : Int) (hnodes : I64 nodes) (l : List P2) (w : World) (Al : Option Addr) (nl cl : Nat) (rl : RepL w (· < w.heap.size) l Al nl cl) :
    Calls Try.prog 6 #[.int .i64 nodes, .slice Al nl cl] w fun x w' => x = .returned (.bool true) ∧ Below w.heap.size w w' := by
  have bd_l := rl.bd
  have s0_l : RepL w (fun b => 0 ≤ b ∧ b < w.heap.size) l Al nl cl := rl.more fun b hb => ⟨Nat.zero_le _, hb⟩
  have B0 : Below w.heap.size w w := Below.refl _ _
  go_enter Try.func6, Try.ntmps6
  go_wp2_with fail
  refine (szEventS_any Al nl cl _ _ (by omega) (by omega) (by omega)).mono ?_
  rintro e w1 ⟨q1, rfl, hq1a, hq1b, hq1c, rfl⟩
  by_cases hneg1 : q1 < 0
  · go_wp2_with fail
    go_ret
    exact ⟨rfl, B0⟩
  have hpos1 := hq1c (by omega)
  clear hq1c
  go_wp2_with fail
  refine (toEventS_any l _ _ (fun _ hb => hb) Al nl cl (s0_l.ltR (by omega)) (by omega)).mono ?_
  rintro e w1 ⟨Alp, clp, rfl, plp, mmlp, b1⟩
  have z1 := b1.size
  have s1_l := s0_l.upR (by omega) b1
  have B1 := bnext B0 b1
  clear s0_l B0 b1
  have bk_lp : ∀ k, (Value.slice Alp nl clp).ownBlock = some k → w.heap.size ≤ k ∧ k < w1.heap.size := plp.lt
  go_wp2_with fail
  refine (spec_ClocksOf_any nodes hnodes l _ _ (fun _ hb => hb) Alp nl clp (mmlp.ltR (by omega))).mono ?_
  rintro e w2 ⟨AW0, nW0, cW0, BBW0, rfl, smW0, dW0, ndW0, loW0, b2⟩
  have z2 := b2.size
  have s2_l := s1_l.upR (by omega) b2
  have s2_lp := mmlp.upR (by omega) b2
  have o2_lp := own_below plp b2
  have B2 := bnext B1 b2
  clear s1_l mmlp plp B1 b2
  have hBW0 : ∀ b ∈ BBW0, w1.heap.size ≤ b ∧ b < w2.heap.size := fun b hb => ⟨loW0 b hb, dW0.lt b hb⟩
  have mmW0 : RepL w2 (fun b => w1.heap.size ≤ b ∧ b < w2.heap.size) (ckOf nodes l) AW0 nW0 cW0 := dW0.rep.more hBW0
  clear s2_lp o2_lp bk_lp
  go_wp2_with fail
  refine (toEventS_any l _ _ (fun _ hb => hb) Al nl cl (s2_l.ltR (by omega)) (by omega)).mono ?_
  rintro e w3 ⟨Alx, clx, rfl, plx, mmlx, b3⟩
  have z3 := b3.size
  have s3_l := s2_l.upR (by omega) b3
  have s3_W0 := mmW0.upR (by omega) b3
  have B3 := bnext B2 b3
  clear s2_l mmW0 B2 b3
  have bk_lx : ∀ k, (Value.slice Alx nl clx).ownBlock = some k → w2.heap.size ≤ k ∧ k < w3.heap.size := plx.lt
  go_wp2_with fail
  refine (impl_ClocksOf_any nodes hnodes l _ _ (fun _ hb => hb) Alx nl clx (mmlx.ltR (by omega))).mono ?_
  rintro e w4 ⟨AG0, nG0, cG0, BBG0, rfl, smG0, dG0, ndG0, loG0, b4⟩
  have z4 := b4.size
  have s4_l := s3_l.upR (by omega) b4
  have s4_W0 := s3_W0.upR (by omega) b4
  have s4_lx := mmlx.upR (by omega) b4
  have o4_lx := own_below plx b4
  have B4 := bnext B3 b4
  clear s3_l s3_W0 mmlx plx B3 b4
  have hBG0 : ∀ b ∈ BBG0, w3.heap.size ≤ b ∧ b < w4.heap.size := fun b hb => ⟨loG0 b hb, dG0.lt b hb⟩
  have mmG0 : RepL w4 (fun b => w3.heap.size ≤ b ∧ b < w4.heap.size) (ckOf nodes l) AG0 nG0 cG0 := dG0.rep.more hBG0
  go_wp2_with fail
  refine (eqIntSS_any (ckOf nodes l) (ckOf nodes l) _ _ (fun _ hb => hb) AG0 AW0 nG0 cG0 nW0 cW0 (mmG0.ltR (by omega)) (s4_W0.ltR (by omega))).mono ?_
  rintro e w5 ⟨rfl, b5⟩
  have z5 := b5.size
  have s5_l := s4_l.upR (by omega) b5
  have s5_W0 := s4_W0.upR (by omega) b5
  have s5_lx := s4_lx.upR (by omega) b5
  have s5_G0 := mmG0.upR (by omega) b5
  have o5_lx := own_below o4_lx b5
  have B5 := bnext B4 b5
  have d5_G0 := dG0.below b5
  clear s4_l s4_W0 s4_lx mmG0 o4_lx B4 b5 dG0
  go_wp2_with fail
  refine (toEventS_any l _ _ (fun _ hb => hb) Al nl cl (s5_l.ltR (by omega)) (by omega)).mono ?_
  rintro e w6 ⟨Aly, cly, rfl, ply, mmly, b6⟩
  have z6 := b6.size
  have s6_l := s5_l.upR (by omega) b6
  have s6_W0 := s5_W0.upR (by omega) b6
  have s6_lx := s5_lx.upR (by omega) b6
  have s6_G0 := s5_G0.upR (by omega) b6
  have o6_lx := own_below o5_lx b6
  have B6 := bnext B5 b6
  have d6_G0 := d5_G0.below b6
  clear s5_l s5_W0 s5_lx s5_G0 o5_lx B5 b6 d5_G0
  have bk_ly : ∀ k, (Value.slice Aly nl cly).ownBlock = some k → w5.heap.size ≤ k ∧ k < w6.heap.size := ply.lt
  go_wp2_with fail
  refine (eqEventS_any l l _ _ (fun _ hb => hb) Alx Aly nl clx nl cly (s6_lx.ltR (by omega)) (mmly.ltR (by omega))).mono ?_
  rintro e w7 ⟨rfl, b7⟩
  have z7 := b7.size
  have s7_l := s6_l.upR (by omega) b7
  have s7_W0 := s6_W0.upR (by omega) b7
  have s7_lx := s6_lx.upR (by omega) b7
  have s7_G0 := s6_G0.upR (by omega) b7
  have s7_ly := mmly.upR (by omega) b7
  have o7_lx := own_below o6_lx b7
  have o7_ly := own_below ply b7
  have B7 := bnext B6 b7
  have d7_G0 := d6_G0.below b7
  clear s6_l s6_W0 s6_lx s6_G0 mmly o6_lx ply B6 b7 d6_G0
  clear s7_ly o7_ly bk_ly
  go_wp2_with fail
  have hl_lx : nl = (l).length := s7_lx.1
  refine (markEventS_any l 1 (by omega) (by omega) _ w2.heap.size Alx nl clx hl_lx (by omega) o7_lx).mono ?_
  clear hl_lx
  rintro e w8 ⟨rfl, q_lx, gr8, z8⟩
  have tt8 : Touch (Value.slice Alx nl clx).ownBlock.toList _ w8 := Touch.grown gr8 (fun k hk => by rw [hk]; simp)
  have hb8 : ∀ k ∈ (Value.slice Alx nl clx).ownBlock.toList, w2.heap.size ≤ k ∧ k < w3.heap.size := fun k hk => bk_lx k (by simpa using hk)
  have s8_l := s7_l.touch tt8 (fun b hb => ⟨by omega, fun hm => by have := hb8 b hm; omega⟩)
  have s8_W0 := s7_W0.touch tt8 (fun b hb => ⟨by omega, fun hm => by have := hb8 b hm; omega⟩)
  have s8_G0 := s7_G0.touch tt8 (fun b hb => ⟨by omega, fun hm => by have := hb8 b hm; omega⟩)
  have d8_G0 := d7_G0.touch tt8 (fun b hb hm => by have := hb8 b hm; have := hBG0 b hb; omega)
  have B8 := below_touch B7 tt8 (fun b hb => by have := hb8 b hb; omega) (by omega)
  have zz8 := tt8.size
  clear s7_lx o7_lx s7_l s7_W0 s7_G0 d7_G0 B7 hb8 gr8 tt8
  go_wp2_with fail
  refine (eqIntSS_any (ckOf nodes l) (ckOf nodes l) _ _ (fun _ hb => hb) AG0 AW0 nG0 cG0 nW0 cW0 (s8_G0.ltR (by omega)) (s8_W0.ltR (by omega))).mono ?_
  rintro e w9 ⟨rfl, b9⟩
  have z9 := b9.size
  have s9_l := s8_l.upR (by omega) b9
  have s9_W0 := s8_W0.upR (by omega) b9
  have s9_G0 := s8_G0.upR (by omega) b9
  have B9 := bnext B8 b9
  have d9_G0 := d8_G0.below b9
  clear s8_l s8_W0 s8_G0 B8 b9 d8_G0
  go_wp2_with fail
  refine (markIntSS_u (ckOf nodes l) 1 (by omega) (by have := ck_cnt nodes l; omega) _ BBG0 ndG0 AG0 nG0 cG0 d9_G0).mono ?_
  rintro e w10 ⟨rfl, dq, tt10⟩
  have hb10 := hBG0
  have rq : RepL w10 (fun b => w3.heap.size ≤ b ∧ b < w4.heap.size) (mkL 1 (ckOf nodes l)) AG0 nG0 cG0 := dq.rep.more hBG0
  have s10_l := s9_l.touch tt10 (fun b hb => ⟨by omega, fun hm => by have := hb10 b hm; omega⟩)
  have s10_W0 := s9_W0.touch tt10 (fun b hb => ⟨by omega, fun hm => by have := hb10 b hm; omega⟩)
  have B10 := below_touch B9 tt10 (fun b hb => by have := hb10 b hb; omega) (by omega)
  have zz10 := tt10.size
  clear s9_G0 s9_l s9_W0 B9 hb10 tt10
  go_wp2_with fail
  refine (heldIntSS_u (ckOf nodes l) 1 (by omega) (by have := ck_cnt nodes l; omega) _ _ (fun _ hb => hb) AG0 nG0 cG0 (rq.ltR (by omega))).mono ?_
  rintro e w11 ⟨rfl, b11⟩
  have z11 := b11.size
  have s11_l := s10_l.upR (by omega) b11
  have s11_W0 := s10_W0.upR (by omega) b11
  have s11_Q := rq.upR (by omega) b11
  have B11 := bnext B10 b11
  clear s10_l s10_W0 rq B10 b11
  go_wp2_with fail
  refine (toEventS_any l _ _ (fun _ hb => hb) Al nl cl (s11_l.ltR (by omega)) (by omega)).mono ?_
  rintro e w12 ⟨Alz, clz, rfl, plz, mmlz, b12⟩
  have z12 := b12.size
  have s12_l := s11_l.upR (by omega) b12
  have s12_W0 := s11_W0.upR (by omega) b12
  have s12_Q := s11_Q.upR (by omega) b12
  have B12 := bnext B11 b12
  clear s11_l s11_W0 s11_Q B11 b12
  have bk_lz : ∀ k, (Value.slice Alz nl clz).ownBlock = some k → w11.heap.size ≤ k ∧ k < w12.heap.size := plz.lt
  go_wp2_with fail
  refine (impl_ClocksOf_any nodes hnodes l _ _ (fun _ hb => hb) Alz nl clz (mmlz.ltR (by omega))).mono ?_
  rintro e w13 ⟨AH0, nH0, cH0, BBH0, rfl, smH0, dH0, ndH0, loH0, b13⟩
  have z13 := b13.size
  have s13_l := s12_l.upR (by omega) b13
  have s13_W0 := s12_W0.upR (by omega) b13
  have s13_Q := s12_Q.upR (by omega) b13
  have s13_lz := mmlz.upR (by omega) b13
  have o13_lz := own_below plz b13
  have B13 := bnext B12 b13
  clear s12_l s12_W0 s12_Q mmlz plz B12 b13
  have hBH0 : ∀ b ∈ BBH0, w12.heap.size ≤ b ∧ b < w13.heap.size := fun b hb => ⟨loH0 b hb, dH0.lt b hb⟩
  have mmH0 : RepL w13 (fun b => w12.heap.size ≤ b ∧ b < w13.heap.size) (ckOf nodes l) AH0 nH0 cH0 := dH0.rep.more hBH0
  go_wp2_with fail
  refine (eqIntSS_any (ckOf nodes l) (ckOf nodes l) _ _ (fun _ hb => hb) AH0 AW0 nH0 cH0 nW0 cW0 (mmH0.ltR (by omega)) (s13_W0.ltR (by omega))).mono ?_
  rintro e w14 ⟨rfl, b14⟩
  have z14 := b14.size
  have s14_l := s13_l.upR (by omega) b14
  have s14_W0 := s13_W0.upR (by omega) b14
  have s14_Q := s13_Q.upR (by omega) b14
  have s14_lz := s13_lz.upR (by omega) b14
  have s14_H0 := mmH0.upR (by omega) b14
  have o14_lz := own_below o13_lz b14
  have B14 := bnext B13 b14
  clear s13_l s13_W0 s13_Q s13_lz mmH0 o13_lz B13 b14
  go_wp2_with fail
  refine (heldIntSS_u (ckOf nodes l) 1 (by omega) (by have := ck_cnt nodes l; omega) _ _ (fun _ hb => hb) AG0 nG0 cG0 (s14_Q.ltR (by omega))).mono ?_
  rintro e w15 ⟨rfl, b15⟩
  have z15 := b15.size
  have s15_l := s14_l.upR (by omega) b15
  have s15_W0 := s14_W0.upR (by omega) b15
  have s15_Q := s14_Q.upR (by omega) b15
  have s15_lz := s14_lz.upR (by omega) b15
  have s15_H0 := s14_H0.upR (by omega) b15
  have o15_lz := own_below o14_lz b15
  have B15 := bnext B14 b15
  clear s14_l s14_W0 s14_Q s14_lz s14_H0 o14_lz B14 b15
  go_wp2_with fail
  go_ret
  exact ⟨rfl, B15⟩

set_option maxRecDepth 100000 in
theorem lifted_ClocksOf (os : Os) (started : os.Started) (H : Type) (enc : TypeId × Value → H) :
    ReturnsInHanded {} Try.checked os 6 .any (Rows.fnExactClocksOfSpec.pre6 enc Try.prog Try.f6 Rows.fnExactClocksOfRow.domain false) (Rows.fnExactClocksOfSpec.post enc Try.prog Try.f6 false true false false) := by
  refine returnsInHanded_of_change (C := Try.checked) own started (by kernel_rfl) Try.func6
    (ChangeSpec.witness6 (enc := enc) (C := Try.checked) false ⟨#[], #[.int .i64 0, .slice none 0 0], []⟩ 8 (by kernel_rfl) (by kernel_rfl) (by kernel_rfl) (by kernel_rfl)) ?_
  intro W base args ds gs before hval0 hW hcnd _
  have hval : ∀ (j : Nat) t v, Try.f6.params[j]? = some t → args[j]? = some v → Value.okWide Try.prog W .any base t v := hval0
  have hW' := hW
  obtain ⟨p, q, hA0, hV, rfl, hfz, hnd⟩ := hW
  have hA : DataW.TrodAll enc Try.prog W 0 (fun _ => true) true Try.f6.params.toList args.toList ds p := hA0
  rw [Try.params6] at hA hval
  obtain ⟨v0, vs0, d0, ds0, p0, q0, hargs, rfl, rfl, h0, r0⟩ := trodAll_cons hA
  obtain ⟨v1, vs1, d1, ds1, p1, q1, rfl, rfl, rfl, h1, r1⟩ := trodAll_cons r0
  obtain ⟨rfl, rfl, rfl⟩ := trodAll_nil r1
  obtain rfl : args = #[v0, v1] := by cases args; simp_all
  obtain ⟨rfl, rfl⟩ := trodVars_none hV
  obtain ⟨a0, rfl, rfl, rfl, w0⟩ := open_int Try.underlying3 (hval 0 3 v0 rfl rfl) h0
  obtain ⟨l1, A1, n1, c1, rfl, R1⟩ := Opens.arg opensLEvent (okWide_slice Try.underlying22 (hval 1 22 v1 rfl rfl)) h1
  clear hA0 hval0
  refine (law_ClocksOf a0 (i64_of_wf w0) l1 W A1 n1 c1 R1).mono fun e W' ⟨he, hg⟩ => ?_
  subst he
  exact ⟨_, rfl, law_post hW' rfl laidOut (by kernel_rfl) hg rfl rfl Try.underlying4⟩

/-- The statement. -/
theorem proved_ClocksOf : Rows.FnExactClocksOfSaid :=
  OpenClaim.holds_of_wide 6 Try.f6 rfl rfl rfl rfl rfl rfl rfl ⟨rfl, rfl, rfl, rfl, rfl⟩ rfl rfl rfl rfl rfl (by kernel_rfl) Try.func6 (by kernel_rfl)
    (of_decide_eq_true (by kernel_rfl)) (by unfold Func.isWrapper; first | (rw [if_pos (by decide +kernel)]; kernel_rfl) | (rw [if_neg (by decide +kernel)]; exact ⟨rfl, rfl⟩))
    (fun os started H enc _ => lifted_ClocksOf os started H enc)
#print axioms proved_ClocksOf
end Go.Proofs.Ytmkhahiefdcinaa
