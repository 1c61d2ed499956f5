/-
  Proved: the law FnExactFollowLog returns true for every input: the program's FollowLog answers what the reference's does, leaves its arguments alone, and its result shares no memory with them. Conditions: none.
-/
import Derived.Test.YtgcliipdkoefaaaFoF
import Derived.Test.YtgcliipdkoefaaaEnH
import Derived.Test.YtgcliipdkoefaaaEnM
import Derived.Test.YtgcliipdkoefaaaEnO
namespace Go.Proofs.Ytgcliipdkoefaaa
open Go.ChangeShapes Go.WideShapes Go.ChangeAt Go.RowKit Go.BigFrame Go.Deep
set_option linter.unusedVariables false

set_option maxHeartbeats 4000000 in
theorem law_FollowLog (a : List IS) (b : List IS) (w : World) (Aa : Option Addr) (na ca : Nat) (ra : RepL w (· < w.heap.size) a Aa na ca) (Ab : Option Addr) (nb cb : Nat) (rb : RepL w (· < w.heap.size) b Ab nb cb) :
    Calls Try.prog 6 #[.slice Aa na ca, .slice Ab nb cb] w fun x w' => x = .returned (.bool true) ∧ Below w.heap.size w w' := by
  have bd_a := ra.bd
  have bd_b := rb.bd
  have s0_a : RepL w (fun b => 0 ≤ b ∧ b < w.heap.size) a Aa na ca := ra.more fun b hb => ⟨Nat.zero_le _, hb⟩
  have s0_b : RepL w (fun b => 0 ≤ b ∧ b < w.heap.size) b Ab nb cb := rb.more fun b hb => ⟨Nat.zero_le _, hb⟩
  have B0 : Below w.heap.size w w := Below.refl _ _
  go_enter Try.func6, Try.ntmps6
  go_wp2_with fail
  refine (szEntryS_any a _ _ (fun _ hb => hb) Aa na ca _ (s0_a.ltR (by omega)) (by omega) (by omega)).mono ?_
  rintro e w1 ⟨q1, rfl, hq1a, hq1b, hq1c, b1⟩
  have z1 := b1.size
  have s1_a := s0_a.upR (by omega) b1
  have s1_b := s0_b.upR (by omega) b1
  have B1 := bnext B0 b1
  clear s0_a s0_b B0 b1
  by_cases hneg1 : q1 < 0
  · go_wp2_with fail
    go_ret
    exact ⟨rfl, B1⟩
  have hpos1 := hq1c (by omega)
  clear hq1c
  go_wp2_with fail
  refine (szEntryS_any b _ _ (fun _ hb => hb) Ab nb cb _ (s1_b.ltR (by omega)) (by omega) (by omega)).mono ?_
  rintro e w2 ⟨q2, rfl, hq2a, hq2b, hq2c, b2⟩
  have z2 := b2.size
  have s2_a := s1_a.upR (by omega) b2
  have s2_b := s1_b.upR (by omega) b2
  have B2 := bnext B1 b2
  clear s1_a s1_b B1 b2
  by_cases hneg2 : q2 < 0
  · go_wp2_with fail
    go_ret
    exact ⟨rfl, B2⟩
  have hpos2 := hq2c (by omega)
  clear hq2c
  go_wp2_with fail
  refine (toEntryS_any a _ _ (fun _ hb => hb) Aa na ca (s2_a.ltR (by omega)) (by omega)).mono ?_
  rintro e w3 ⟨Aap, cap, rfl, pap, mmap, b3⟩
  have z3 := b3.size
  have s3_a := s2_a.upR (by omega) b3
  have s3_b := s2_b.upR (by omega) b3
  have B3 := bnext B2 b3
  clear s2_a s2_b B2 b3
  have bk_ap : ∀ k, (Value.slice Aap na cap).ownBlock = some k → w2.heap.size ≤ k ∧ k < w3.heap.size := pap.lt
  go_wp2_with fail
  refine (toEntryS_any b _ _ (fun _ hb => hb) Ab nb cb (s3_b.ltR (by omega)) (by omega)).mono ?_
  rintro e w4 ⟨Abp, cbp, rfl, pbp, mmbp, b4⟩
  have z4 := b4.size
  have s4_a := s3_a.upR (by omega) b4
  have s4_b := s3_b.upR (by omega) b4
  have s4_ap := mmap.upR (by omega) b4
  have o4_ap := own_below pap b4
  have B4 := bnext B3 b4
  clear s3_a s3_b mmap pap B3 b4
  have bk_bp : ∀ k, (Value.slice Abp nb cbp).ownBlock = some k → w3.heap.size ≤ k ∧ k < w4.heap.size := pbp.lt
  go_wp2_with fail
  refine (spec_FollowLog_any a b _ _ (fun _ hb => hb) Aap Abp na cap nb cbp (s4_ap.ltR (by omega)) (mmbp.ltR (by omega))).mono ?_
  rintro e w5 ⟨AW0, nW0, cW0, rfl, smW0, ⟨pW0, mmW0⟩, b5⟩
  have z5 := b5.size
  have s5_a := s4_a.upR (by omega) b5
  have s5_b := s4_b.upR (by omega) b5
  have s5_ap := s4_ap.upR (by omega) b5
  have s5_bp := mmbp.upR (by omega) b5
  have o5_ap := own_below o4_ap b5
  have o5_bp := own_below pbp b5
  have B5 := bnext B4 b5
  clear s4_a s4_b s4_ap mmbp o4_ap pbp B4 b5
  have bk_W0 : ∀ k, (Value.slice AW0 nW0 cW0).ownBlock = some k → w4.heap.size ≤ k ∧ k < w5.heap.size := pW0.lt
  clear s5_ap o5_ap bk_ap
  clear s5_bp o5_bp bk_bp
  go_wp2_with fail
  refine (toEntryS_any a _ _ (fun _ hb => hb) Aa na ca (s5_a.ltR (by omega)) (by omega)).mono ?_
  rintro e w6 ⟨Aax, cax, rfl, pax, mmax, b6⟩
  have z6 := b6.size
  have s6_a := s5_a.upR (by omega) b6
  have s6_b := s5_b.upR (by omega) b6
  have s6_W0 := mmW0.upR (by omega) b6
  have o6_W0 := own_below pW0 b6
  have B6 := bnext B5 b6
  clear s5_a s5_b mmW0 pW0 B5 b6
  have bk_ax : ∀ k, (Value.slice Aax na cax).ownBlock = some k → w5.heap.size ≤ k ∧ k < w6.heap.size := pax.lt
  go_wp2_with fail
  refine (toEntryS_any b _ _ (fun _ hb => hb) Ab nb cb (s6_b.ltR (by omega)) (by omega)).mono ?_
  rintro e w7 ⟨Abx, cbx, rfl, pbx, mmbx, b7⟩
  have z7 := b7.size
  have s7_a := s6_a.upR (by omega) b7
  have s7_b := s6_b.upR (by omega) b7
  have s7_W0 := s6_W0.upR (by omega) b7
  have s7_ax := mmax.upR (by omega) b7
  have o7_W0 := own_below o6_W0 b7
  have o7_ax := own_below pax b7
  have B7 := bnext B6 b7
  clear s6_a s6_b s6_W0 mmax o6_W0 pax B6 b7
  have bk_bx : ∀ k, (Value.slice Abx nb cbx).ownBlock = some k → w6.heap.size ≤ k ∧ k < w7.heap.size := pbx.lt
  go_wp2_with fail
  refine (impl_FollowLog_any a b _ _ (fun _ hb => hb) Aax Abx na cax nb cbx (s7_ax.ltR (by omega)) (mmbx.ltR (by omega))).mono ?_
  rintro e w8 ⟨AG0, nG0, cG0, rfl, smG0, ⟨pG0, mmG0⟩, b8⟩
  have z8 := b8.size
  have s8_a := s7_a.upR (by omega) b8
  have s8_b := s7_b.upR (by omega) b8
  have s8_W0 := s7_W0.upR (by omega) b8
  have s8_ax := s7_ax.upR (by omega) b8
  have s8_bx := mmbx.upR (by omega) b8
  have o8_W0 := own_below o7_W0 b8
  have o8_ax := own_below o7_ax b8
  have o8_bx := own_below pbx b8
  have B8 := bnext B7 b8
  clear s7_a s7_b s7_W0 s7_ax mmbx o7_W0 o7_ax pbx B7 b8
  have bk_G0 : ∀ k, (Value.slice AG0 nG0 cG0).ownBlock = some k → w7.heap.size ≤ k ∧ k < w8.heap.size := pG0.lt
  go_wp2_with fail
  refine (eqEntryS_any (foAns a b) (foAns a b) _ _ (fun _ hb => hb) AG0 AW0 nG0 cG0 nW0 cW0 (mmG0.ltR (by omega)) (s8_W0.ltR (by omega))).mono ?_
  rintro e w9 ⟨rfl, b9⟩
  have z9 := b9.size
  have s9_a := s8_a.upR (by omega) b9
  have s9_b := s8_b.upR (by omega) b9
  have s9_W0 := s8_W0.upR (by omega) b9
  have s9_ax := s8_ax.upR (by omega) b9
  have s9_bx := s8_bx.upR (by omega) b9
  have s9_G0 := mmG0.upR (by omega) b9
  have o9_W0 := own_below o8_W0 b9
  have o9_ax := own_below o8_ax b9
  have o9_bx := own_below o8_bx b9
  have o9_G0 := own_below pG0 b9
  have B9 := bnext B8 b9
  clear s8_a s8_b s8_W0 s8_ax s8_bx mmG0 o8_W0 o8_ax o8_bx pG0 B8 b9
  go_wp2_with fail
  refine (toEntryS_any a _ _ (fun _ hb => hb) Aa na ca (s9_a.ltR (by omega)) (by omega)).mono ?_
  rintro e w10 ⟨Aay, cay, rfl, pay, mmay, b10⟩
  have z10 := b10.size
  have s10_a := s9_a.upR (by omega) b10
  have s10_b := s9_b.upR (by omega) b10
  have s10_W0 := s9_W0.upR (by omega) b10
  have s10_ax := s9_ax.upR (by omega) b10
  have s10_bx := s9_bx.upR (by omega) b10
  have s10_G0 := s9_G0.upR (by omega) b10
  have o10_W0 := own_below o9_W0 b10
  have o10_ax := own_below o9_ax b10
  have o10_bx := own_below o9_bx b10
  have o10_G0 := own_below o9_G0 b10
  have B10 := bnext B9 b10
  clear s9_a s9_b s9_W0 s9_ax s9_bx s9_G0 o9_W0 o9_ax o9_bx o9_G0 B9 b10
  have bk_ay : ∀ k, (Value.slice Aay na cay).ownBlock = some k → w9.heap.size ≤ k ∧ k < w10.heap.size := pay.lt
  go_wp2_with fail
  refine (eqEntryS_any a a _ _ (fun _ hb => hb) Aax Aay na cax na cay (s10_ax.ltR (by omega)) (mmay.ltR (by omega))).mono ?_
  rintro e w11 ⟨rfl, b11⟩
  have z11 := b11.size
  have s11_a := s10_a.upR (by omega) b11
  have s11_b := s10_b.upR (by omega) b11
  have s11_W0 := s10_W0.upR (by omega) b11
  have s11_ax := s10_ax.upR (by omega) b11
  have s11_bx := s10_bx.upR (by omega) b11
  have s11_G0 := s10_G0.upR (by omega) b11
  have s11_ay := mmay.upR (by omega) b11
  have o11_W0 := own_below o10_W0 b11
  have o11_ax := own_below o10_ax b11
  have o11_bx := own_below o10_bx b11
  have o11_G0 := own_below o10_G0 b11
  have o11_ay := own_below pay b11
  have B11 := bnext B10 b11
  clear s10_a s10_b s10_W0 s10_ax s10_bx s10_G0 mmay o10_W0 o10_ax o10_bx o10_G0 pay B10 b11
  clear s11_ay o11_ay bk_ay
  go_wp2_with fail
  refine (toEntryS_any b _ _ (fun _ hb => hb) Ab nb cb (s11_b.ltR (by omega)) (by omega)).mono ?_
  rintro e w12 ⟨Aby, cby, rfl, pby, mmby, b12⟩
  have z12 := b12.size
  have s12_a := s11_a.upR (by omega) b12
  have s12_b := s11_b.upR (by omega) b12
  have s12_W0 := s11_W0.upR (by omega) b12
  have s12_ax := s11_ax.upR (by omega) b12
  have s12_bx := s11_bx.upR (by omega) b12
  have s12_G0 := s11_G0.upR (by omega) b12
  have o12_W0 := own_below o11_W0 b12
  have o12_ax := own_below o11_ax b12
  have o12_bx := own_below o11_bx b12
  have o12_G0 := own_below o11_G0 b12
  have B12 := bnext B11 b12
  clear s11_a s11_b s11_W0 s11_ax s11_bx s11_G0 o11_W0 o11_ax o11_bx o11_G0 B11 b12
  have bk_by : ∀ k, (Value.slice Aby nb cby).ownBlock = some k → w11.heap.size ≤ k ∧ k < w12.heap.size := pby.lt
  go_wp2_with fail
  refine (eqEntryS_any b b _ _ (fun _ hb => hb) Abx Aby nb cbx nb cby (s12_bx.ltR (by omega)) (mmby.ltR (by omega))).mono ?_
  rintro e w13 ⟨rfl, b13⟩
  have z13 := b13.size
  have s13_a := s12_a.upR (by omega) b13
  have s13_b := s12_b.upR (by omega) b13
  have s13_W0 := s12_W0.upR (by omega) b13
  have s13_ax := s12_ax.upR (by omega) b13
  have s13_bx := s12_bx.upR (by omega) b13
  have s13_G0 := s12_G0.upR (by omega) b13
  have s13_by := mmby.upR (by omega) b13
  have o13_W0 := own_below o12_W0 b13
  have o13_ax := own_below o12_ax b13
  have o13_bx := own_below o12_bx b13
  have o13_G0 := own_below o12_G0 b13
  have o13_by := own_below pby b13
  have B13 := bnext B12 b13
  clear s12_a s12_b s12_W0 s12_ax s12_bx s12_G0 mmby o12_W0 o12_ax o12_bx o12_G0 pby B12 b13
  clear s13_by o13_by bk_by
  go_wp2_with fail
  have hl_ax : na = (a).length := s13_ax.1
  refine (markEntryS_any a 1 (by omega) (by omega) _ w5.heap.size Aax na cax hl_ax (by omega) o13_ax).mono ?_
  clear hl_ax
  rintro e w14 ⟨rfl, q_ax, gr14, z14⟩
  have hb14 : ∀ k, (Value.slice Aax na cax).ownBlock = some k → w5.heap.size ≤ k ∧ k < w6.heap.size := fun k hk => bk_ax k hk
  have s14_a := s13_a.other gr14 (fun b hb => ⟨by omega, fun e => by have := hb14 b e; omega⟩)
  have s14_b := s13_b.other gr14 (fun b hb => ⟨by omega, fun e => by have := hb14 b e; omega⟩)
  have s14_W0 := s13_W0.other gr14 (fun b hb => ⟨by omega, fun e => by have := hb14 b e; omega⟩)
  have s14_bx := s13_bx.other gr14 (fun b hb => ⟨by omega, fun e => by have := hb14 b e; omega⟩)
  have s14_G0 := s13_G0.other gr14 (fun b hb => ⟨by omega, fun e => by have := hb14 b e; omega⟩)
  have o14_W0 := own_other o13_W0 gr14 (fun k hk e => by have := hb14 k e; have := bk_W0 k hk; omega)
  have o14_bx := own_other o13_bx gr14 (fun k hk e => by have := hb14 k e; have := bk_bx k hk; omega)
  have o14_G0 := own_other o13_G0 gr14 (fun k hk e => by have := hb14 k e; have := bk_G0 k hk; omega)
  have B14 := own_base o13_ax B13 (by omega) gr14 (by omega)
  clear s13_ax o13_ax s13_a s13_b s13_W0 s13_bx s13_G0 o13_W0 o13_bx o13_G0 B13 gr14 hb14
  go_wp2_with fail
  have hl_bx : nb = (b).length := s14_bx.1
  refine (markEntryS_any b (1 + 2 * (na : Int)) (by omega) (by omega) _ w6.heap.size Abx nb cbx hl_bx (by omega) o14_bx).mono ?_
  clear hl_bx
  rintro e w15 ⟨rfl, q_bx, gr15, z15⟩
  have hb15 : ∀ k, (Value.slice Abx nb cbx).ownBlock = some k → w6.heap.size ≤ k ∧ k < w7.heap.size := fun k hk => bk_bx k hk
  have s15_a := s14_a.other gr15 (fun b hb => ⟨by omega, fun e => by have := hb15 b e; omega⟩)
  have s15_b := s14_b.other gr15 (fun b hb => ⟨by omega, fun e => by have := hb15 b e; omega⟩)
  have s15_W0 := s14_W0.other gr15 (fun b hb => ⟨by omega, fun e => by have := hb15 b e; omega⟩)
  have s15_G0 := s14_G0.other gr15 (fun b hb => ⟨by omega, fun e => by have := hb15 b e; omega⟩)
  have o15_W0 := own_other o14_W0 gr15 (fun k hk e => by have := hb15 k e; have := bk_W0 k hk; omega)
  have o15_G0 := own_other o14_G0 gr15 (fun k hk e => by have := hb15 k e; have := bk_G0 k hk; omega)
  have B15 := own_base o14_bx B14 (by omega) gr15 (by omega)
  clear s14_bx o14_bx s14_a s14_b s14_W0 s14_G0 o14_W0 o14_G0 B14 gr15 hb15
  go_wp2_with fail
  refine (eqEntryS_any (foAns a b) (foAns a b) _ _ (fun _ hb => hb) AG0 AW0 nG0 cG0 nW0 cW0 (s15_G0.ltR (by omega)) (s15_W0.ltR (by omega))).mono ?_
  rintro e w16 ⟨rfl, b16⟩
  have z16 := b16.size
  have s16_a := s15_a.upR (by omega) b16
  have s16_b := s15_b.upR (by omega) b16
  have s16_W0 := s15_W0.upR (by omega) b16
  have s16_G0 := s15_G0.upR (by omega) b16
  have o16_W0 := own_below o15_W0 b16
  have o16_G0 := own_below o15_G0 b16
  have B16 := bnext B15 b16
  clear s15_a s15_b s15_W0 s15_G0 o15_W0 o15_G0 B15 b16
  go_wp2_with fail
  have hl_G0 : nG0 = ((foAns a b)).length := s16_G0.1
  refine (markEntryS_any (foAns a b) 1 (by omega) (by omega) _ w7.heap.size AG0 nG0 cG0 hl_G0 (by omega) o16_G0).mono ?_
  clear hl_G0
  rintro e w17 ⟨rfl, q_G0, gr17, z17⟩
  have hb17 : ∀ k, (Value.slice AG0 nG0 cG0).ownBlock = some k → w7.heap.size ≤ k ∧ k < w8.heap.size := fun k hk => bk_G0 k hk
  have s17_a := s16_a.other gr17 (fun b hb => ⟨by omega, fun e => by have := hb17 b e; omega⟩)
  have s17_b := s16_b.other gr17 (fun b hb => ⟨by omega, fun e => by have := hb17 b e; omega⟩)
  have s17_W0 := s16_W0.other gr17 (fun b hb => ⟨by omega, fun e => by have := hb17 b e; omega⟩)
  have o17_W0 := own_other o16_W0 gr17 (fun k hk e => by have := hb17 k e; have := bk_W0 k hk; omega)
  have B17 := own_base o16_G0 B16 (by omega) gr17 (by omega)
  clear s16_G0 o16_G0 s16_a s16_b s16_W0 o16_W0 B16 gr17 hb17
  have rq := RepL.of_own' (s := 2) rfl (by rw [upsN_len]) q_G0 (upsN_ok _ _ (by omega) (by omega))
  have rq' : RepL w17 (fun b => w7.heap.size ≤ b ∧ b < w17.heap.size) (upsN 1 nG0) AG0 nG0 cG0 := rq.more fun b hb => ⟨hb.1, by omega⟩
  go_wp2_with fail
  refine (heldEntryS_any 1 (by omega) (by omega) _ _ (fun _ hb => hb) AG0 nG0 cG0 (by omega) (rq'.ltR (by omega))).mono ?_
  rintro e w18 ⟨rfl, b18⟩
  have z18 := b18.size
  have s18_a := s17_a.upR (by omega) b18
  have s18_b := s17_b.upR (by omega) b18
  have s18_W0 := s17_W0.upR (by omega) b18
  have s18_Q := rq'.upR (by omega) b18
  have o18_W0 := own_below o17_W0 b18
  have B18 := bnext B17 b18
  clear s17_a s17_b s17_W0 rq' o17_W0 B17 b18
  go_wp2_with fail
  refine (toEntryS_any a _ _ (fun _ hb => hb) Aa na ca (s18_a.ltR (by omega)) (by omega)).mono ?_
  rintro e w19 ⟨Aaz, caz, rfl, paz, mmaz, b19⟩
  have z19 := b19.size
  have s19_a := s18_a.upR (by omega) b19
  have s19_b := s18_b.upR (by omega) b19
  have s19_W0 := s18_W0.upR (by omega) b19
  have s19_Q := s18_Q.upR (by omega) b19
  have o19_W0 := own_below o18_W0 b19
  have B19 := bnext B18 b19
  clear s18_a s18_b s18_W0 s18_Q o18_W0 B18 b19
  have bk_az : ∀ k, (Value.slice Aaz na caz).ownBlock = some k → w18.heap.size ≤ k ∧ k < w19.heap.size := paz.lt
  go_wp2_with fail
  refine (toEntryS_any b _ _ (fun _ hb => hb) Ab nb cb (s19_b.ltR (by omega)) (by omega)).mono ?_
  rintro e w20 ⟨Abz, cbz, rfl, pbz, mmbz, b20⟩
  have z20 := b20.size
  have s20_a := s19_a.upR (by omega) b20
  have s20_b := s19_b.upR (by omega) b20
  have s20_W0 := s19_W0.upR (by omega) b20
  have s20_Q := s19_Q.upR (by omega) b20
  have s20_az := mmaz.upR (by omega) b20
  have o20_W0 := own_below o19_W0 b20
  have o20_az := own_below paz b20
  have B20 := bnext B19 b20
  clear s19_a s19_b s19_W0 s19_Q mmaz o19_W0 paz B19 b20
  have bk_bz : ∀ k, (Value.slice Abz nb cbz).ownBlock = some k → w19.heap.size ≤ k ∧ k < w20.heap.size := pbz.lt
  go_wp2_with fail
  refine (impl_FollowLog_any a b _ _ (fun _ hb => hb) Aaz Abz na caz nb cbz (s20_az.ltR (by omega)) (mmbz.ltR (by omega))).mono ?_
  rintro e w21 ⟨AH0, nH0, cH0, rfl, smH0, ⟨pH0, mmH0⟩, b21⟩
  have z21 := b21.size
  have s21_a := s20_a.upR (by omega) b21
  have s21_b := s20_b.upR (by omega) b21
  have s21_W0 := s20_W0.upR (by omega) b21
  have s21_Q := s20_Q.upR (by omega) b21
  have s21_az := s20_az.upR (by omega) b21
  have s21_bz := mmbz.upR (by omega) b21
  have o21_W0 := own_below o20_W0 b21
  have o21_az := own_below o20_az b21
  have o21_bz := own_below pbz b21
  have B21 := bnext B20 b21
  clear s20_a s20_b s20_W0 s20_Q s20_az mmbz o20_W0 o20_az pbz B20 b21
  have bk_H0 : ∀ k, (Value.slice AH0 nH0 cH0).ownBlock = some k → w20.heap.size ≤ k ∧ k < w21.heap.size := pH0.lt
  go_wp2_with fail
  refine (eqEntryS_any (foAns a b) (foAns a b) _ _ (fun _ hb => hb) AH0 AW0 nH0 cH0 nW0 cW0 (mmH0.ltR (by omega)) (s21_W0.ltR (by omega))).mono ?_
  rintro e w22 ⟨rfl, b22⟩
  have z22 := b22.size
  have s22_a := s21_a.upR (by omega) b22
  have s22_b := s21_b.upR (by omega) b22
  have s22_W0 := s21_W0.upR (by omega) b22
  have s22_Q := s21_Q.upR (by omega) b22
  have s22_az := s21_az.upR (by omega) b22
  have s22_bz := s21_bz.upR (by omega) b22
  have s22_H0 := mmH0.upR (by omega) b22
  have o22_W0 := own_below o21_W0 b22
  have o22_az := own_below o21_az b22
  have o22_bz := own_below o21_bz b22
  have o22_H0 := own_below pH0 b22
  have B22 := bnext B21 b22
  clear s21_a s21_b s21_W0 s21_Q s21_az s21_bz mmH0 o21_W0 o21_az o21_bz pH0 B21 b22
  go_wp2_with fail
  refine (heldEntryS_any 1 (by omega) (by omega) _ _ (fun _ hb => hb) AG0 nG0 cG0 (by omega) (s22_Q.ltR (by omega))).mono ?_
  rintro e w23 ⟨rfl, b23⟩
  have z23 := b23.size
  have s23_a := s22_a.upR (by omega) b23
  have s23_b := s22_b.upR (by omega) b23
  have s23_W0 := s22_W0.upR (by omega) b23
  have s23_Q := s22_Q.upR (by omega) b23
  have s23_az := s22_az.upR (by omega) b23
  have s23_bz := s22_bz.upR (by omega) b23
  have s23_H0 := s22_H0.upR (by omega) b23
  have o23_W0 := own_below o22_W0 b23
  have o23_az := own_below o22_az b23
  have o23_bz := own_below o22_bz b23
  have o23_H0 := own_below o22_H0 b23
  have B23 := bnext B22 b23
  clear s22_a s22_b s22_W0 s22_Q s22_az s22_bz s22_H0 o22_W0 o22_az o22_bz o22_H0 B22 b23
  go_wp2_with fail
  go_ret
  exact ⟨rfl, B23⟩

set_option maxRecDepth 100000 in
theorem lifted_FollowLog (os : Os) (started : os.Started) (H : Type) (enc : TypeId × Value → H) :
    ReturnsInHanded {} Try.checked os 6 .any (Rows.fnExactFollowLogSpec.pre6 enc Try.prog Try.f6 Rows.fnExactFollowLogRow.domain false) (Rows.fnExactFollowLogSpec.post enc Try.prog Try.f6 false true false false) := by
  refine returnsInHanded_of_change (C := Try.checked) own started (by kernel_rfl) Try.func6
    (ChangeSpec.witness6 (enc := enc) (C := Try.checked) false ⟨#[], #[.slice none 0 0, .slice none 0 0], []⟩ 8 (by kernel_rfl) (by kernel_rfl) (by kernel_rfl) (by kernel_rfl)) ?_
  intro W base args ds gs before hval0 hW hcnd _
  have hval : ∀ (j : Nat) t v, Try.f6.params[j]? = some t → args[j]? = some v → Value.okWide Try.prog W .any base t v := hval0
  have hW' := hW
  obtain ⟨p, q, hA0, hV, rfl, hfz, hnd⟩ := hW
  have hA : DataW.TrodAll enc Try.prog W 0 (fun _ => true) true Try.f6.params.toList args.toList ds p := hA0
  rw [Try.params6] at hA hval
  obtain ⟨v0, vs0, d0, ds0, p0, q0, hargs, rfl, rfl, h0, r0⟩ := trodAll_cons hA
  obtain ⟨v1, vs1, d1, ds1, p1, q1, rfl, rfl, rfl, h1, r1⟩ := trodAll_cons r0
  obtain ⟨rfl, rfl, rfl⟩ := trodAll_nil r1
  obtain rfl : args = #[v0, v1] := by cases args; simp_all
  obtain ⟨rfl, rfl⟩ := trodVars_none hV
  obtain ⟨l0, A0, n0, c0, rfl, R0⟩ := Opens.arg opensLEntry (okWide_slice Try.underlying22 (hval 0 22 v0 rfl rfl)) h0
  obtain ⟨l1, A1, n1, c1, rfl, R1⟩ := Opens.arg opensLEntry (okWide_slice Try.underlying22 (hval 1 22 v1 rfl rfl)) h1
  clear hA0 hval0
  refine (law_FollowLog l0 l1 W A0 n0 c0 R0 A1 n1 c1 R1).mono fun e W' ⟨he, hg⟩ => ?_
  subst he
  exact ⟨_, rfl, law_post hW' rfl laidOut (by kernel_rfl) hg rfl rfl Try.underlying4⟩

/-- The statement. -/
theorem proved_FollowLog : Rows.FnExactFollowLogSaid :=
  OpenClaim.holds_of_wide 6 Try.f6 rfl rfl rfl rfl rfl rfl rfl ⟨rfl, rfl, rfl, rfl, rfl⟩ rfl rfl rfl rfl rfl (by kernel_rfl) Try.func6 (by kernel_rfl)
    (of_decide_eq_true (by kernel_rfl)) (by unfold Func.isWrapper; first | (rw [if_pos (by decide +kernel)]; kernel_rfl) | (rw [if_neg (by decide +kernel)]; exact ⟨rfl, rfl⟩))
    (fun os started H enc _ => lifted_FollowLog os started H enc)
#print axioms proved_FollowLog
end Go.Proofs.Ytgcliipdkoefaaa
