/-
  Proved: the law FnExactJoinCuts returns true for every input: the program's JoinCuts answers what the reference's does, leaves its arguments alone, and its result shares no memory with them. Conditions: none.
-/
import Derived.Test.YticinemcmgggpabJcA
import Derived.Test.YticinemcmgggpabInO
namespace Go.Proofs.Yticinemcmgggpab
open Go.ChangeShapes Go.WideShapes Go.ChangeAt Go.RowKit Go.BigFrame Go.Deep
set_option linter.unusedVariables false

set_option maxHeartbeats 4000000 in
theorem law_JoinCuts (a : List Int) (b : List Int) (w : World) (Aa : Option Addr) (na ca : Nat) (ra : RepL w (· < w.heap.size) a Aa na ca) (Ab : Option Addr) (nb cb : Nat) (rb : RepL w (· < w.heap.size) b Ab nb cb) :
    Calls Try.prog 7 #[.slice Aa na ca, .slice Ab nb cb] w fun x w' => x = .returned (.bool true) ∧ Below w.heap.size w w' := by
  have bd_a := ra.bd
  have bd_b := rb.bd
  have s0_a : RepL w (fun b => 0 ≤ b ∧ b < w.heap.size) a Aa na ca := ra.more fun b hb => ⟨Nat.zero_le _, hb⟩
  have s0_b : RepL w (fun b => 0 ≤ b ∧ b < w.heap.size) b Ab nb cb := rb.more fun b hb => ⟨Nat.zero_le _, hb⟩
  have B0 : Below w.heap.size w w := Below.refl _ _
  by_cases hbig_a : na ≤ 1048576
  rotate_left
  · go_enter Try.func7, Try.ntmps7
    go_wp2_with fail
    go_ret
    exact ⟨rfl, Below.refl _ _⟩
  by_cases hbig_b : nb ≤ 1048576
  rotate_left
  · go_enter Try.func7, Try.ntmps7
    go_wp2_with fail
    go_ret
    exact ⟨rfl, Below.refl _ _⟩
  go_enter Try.func7, Try.ntmps7
  go_wp2_with fail
  refine (toIntS_any a _ _ (fun _ hb => hb) Aa na ca (s0_a.ltR (by omega)) (by omega)).mono ?_
  rintro e w1 ⟨Aap, cap, rfl, pap, mmap, b1⟩
  have z1 := b1.size
  have s1_a := s0_a.upR (by omega) b1
  have s1_b := s0_b.upR (by omega) b1
  have B1 := bnext B0 b1
  clear s0_a s0_b B0 b1
  have bk_ap : ∀ k, (Value.slice Aap na cap).ownBlock = some k → w.heap.size ≤ k ∧ k < w1.heap.size := pap.lt
  go_wp2_with fail
  refine (toIntS_any b _ _ (fun _ hb => hb) Ab nb cb (s1_b.ltR (by omega)) (by omega)).mono ?_
  rintro e w2 ⟨Abp, cbp, rfl, pbp, mmbp, b2⟩
  have z2 := b2.size
  have s2_a := s1_a.upR (by omega) b2
  have s2_b := s1_b.upR (by omega) b2
  have s2_ap := mmap.upR (by omega) b2
  have o2_ap := own_below pap b2
  have B2 := bnext B1 b2
  clear s1_a s1_b mmap pap B1 b2
  have bk_bp : ∀ k, (Value.slice Abp nb cbp).ownBlock = some k → w1.heap.size ≤ k ∧ k < w2.heap.size := pbp.lt
  go_wp2_with fail
  refine (spec_JoinCuts_any a b _ _ (fun _ hb => hb) Aap Abp na cap nb cbp (s2_ap.ltR (by omega)) (mmbp.ltR (by omega))).mono ?_
  rintro e w3 ⟨AW0, nW0, cW0, rfl, smW0, ⟨pW0, mmW0⟩, b3⟩
  have z3 := b3.size
  have s3_a := s2_a.upR (by omega) b3
  have s3_b := s2_b.upR (by omega) b3
  have s3_ap := s2_ap.upR (by omega) b3
  have s3_bp := mmbp.upR (by omega) b3
  have o3_ap := own_below o2_ap b3
  have o3_bp := own_below pbp b3
  have B3 := bnext B2 b3
  clear s2_a s2_b s2_ap mmbp o2_ap pbp B2 b3
  have bk_W0 : ∀ k, (Value.slice AW0 nW0 cW0).ownBlock = some k → w2.heap.size ≤ k ∧ k < w3.heap.size := pW0.lt
  clear s3_ap o3_ap bk_ap
  clear s3_bp o3_bp bk_bp
  go_wp2_with fail
  refine (toIntS_any a _ _ (fun _ hb => hb) Aa na ca (s3_a.ltR (by omega)) (by omega)).mono ?_
  rintro e w4 ⟨Aax, cax, rfl, pax, mmax, b4⟩
  have z4 := b4.size
  have s4_a := s3_a.upR (by omega) b4
  have s4_b := s3_b.upR (by omega) b4
  have s4_W0 := mmW0.upR (by omega) b4
  have o4_W0 := own_below pW0 b4
  have B4 := bnext B3 b4
  clear s3_a s3_b mmW0 pW0 B3 b4
  have bk_ax : ∀ k, (Value.slice Aax na cax).ownBlock = some k → w3.heap.size ≤ k ∧ k < w4.heap.size := pax.lt
  go_wp2_with fail
  refine (toIntS_any b _ _ (fun _ hb => hb) Ab nb cb (s4_b.ltR (by omega)) (by omega)).mono ?_
  rintro e w5 ⟨Abx, cbx, rfl, pbx, mmbx, b5⟩
  have z5 := b5.size
  have s5_a := s4_a.upR (by omega) b5
  have s5_b := s4_b.upR (by omega) b5
  have s5_W0 := s4_W0.upR (by omega) b5
  have s5_ax := mmax.upR (by omega) b5
  have o5_W0 := own_below o4_W0 b5
  have o5_ax := own_below pax b5
  have B5 := bnext B4 b5
  clear s4_a s4_b s4_W0 mmax o4_W0 pax B4 b5
  have bk_bx : ∀ k, (Value.slice Abx nb cbx).ownBlock = some k → w4.heap.size ≤ k ∧ k < w5.heap.size := pbx.lt
  go_wp2_with fail
  refine (impl_JoinCuts_any a b _ _ (fun _ hb => hb) Aax Abx na cax nb cbx (s5_ax.ltR (by omega)) (mmbx.ltR (by omega))).mono ?_
  rintro e w6 ⟨AG0, nG0, cG0, rfl, smG0, ⟨pG0, mmG0⟩, b6⟩
  have z6 := b6.size
  have s6_a := s5_a.upR (by omega) b6
  have s6_b := s5_b.upR (by omega) b6
  have s6_W0 := s5_W0.upR (by omega) b6
  have s6_ax := s5_ax.upR (by omega) b6
  have s6_bx := mmbx.upR (by omega) b6
  have o6_W0 := own_below o5_W0 b6
  have o6_ax := own_below o5_ax b6
  have o6_bx := own_below pbx b6
  have B6 := bnext B5 b6
  clear s5_a s5_b s5_W0 s5_ax mmbx o5_W0 o5_ax pbx B5 b6
  have bk_G0 : ∀ k, (Value.slice AG0 nG0 cG0).ownBlock = some k → w5.heap.size ≤ k ∧ k < w6.heap.size := pG0.lt
  go_wp2_with fail
  refine (eqIntS_any (joinL a b) (joinL a b) _ _ (fun _ hb => hb) AG0 AW0 nG0 cG0 nW0 cW0 (mmG0.ltR (by omega)) (s6_W0.ltR (by omega))).mono ?_
  rintro e w7 ⟨rfl, b7⟩
  have z7 := b7.size
  have s7_a := s6_a.upR (by omega) b7
  have s7_b := s6_b.upR (by omega) b7
  have s7_W0 := s6_W0.upR (by omega) b7
  have s7_ax := s6_ax.upR (by omega) b7
  have s7_bx := s6_bx.upR (by omega) b7
  have s7_G0 := mmG0.upR (by omega) b7
  have o7_W0 := own_below o6_W0 b7
  have o7_ax := own_below o6_ax b7
  have o7_bx := own_below o6_bx b7
  have o7_G0 := own_below pG0 b7
  have B7 := bnext B6 b7
  clear s6_a s6_b s6_W0 s6_ax s6_bx mmG0 o6_W0 o6_ax o6_bx pG0 B6 b7
  go_wp2_with fail
  refine (toIntS_any a _ _ (fun _ hb => hb) Aa na ca (s7_a.ltR (by omega)) (by omega)).mono ?_
  rintro e w8 ⟨Aay, cay, rfl, pay, mmay, b8⟩
  have z8 := b8.size
  have s8_a := s7_a.upR (by omega) b8
  have s8_b := s7_b.upR (by omega) b8
  have s8_W0 := s7_W0.upR (by omega) b8
  have s8_ax := s7_ax.upR (by omega) b8
  have s8_bx := s7_bx.upR (by omega) b8
  have s8_G0 := s7_G0.upR (by omega) b8
  have o8_W0 := own_below o7_W0 b8
  have o8_ax := own_below o7_ax b8
  have o8_bx := own_below o7_bx b8
  have o8_G0 := own_below o7_G0 b8
  have B8 := bnext B7 b8
  clear s7_a s7_b s7_W0 s7_ax s7_bx s7_G0 o7_W0 o7_ax o7_bx o7_G0 B7 b8
  have bk_ay : ∀ k, (Value.slice Aay na cay).ownBlock = some k → w7.heap.size ≤ k ∧ k < w8.heap.size := pay.lt
  go_wp2_with fail
  refine (eqIntS_any a a _ _ (fun _ hb => hb) Aax Aay na cax na cay (s8_ax.ltR (by omega)) (mmay.ltR (by omega))).mono ?_
  rintro e w9 ⟨rfl, b9⟩
  have z9 := b9.size
  have s9_a := s8_a.upR (by omega) b9
  have s9_b := s8_b.upR (by omega) b9
  have s9_W0 := s8_W0.upR (by omega) b9
  have s9_ax := s8_ax.upR (by omega) b9
  have s9_bx := s8_bx.upR (by omega) b9
  have s9_G0 := s8_G0.upR (by omega) b9
  have s9_ay := mmay.upR (by omega) b9
  have o9_W0 := own_below o8_W0 b9
  have o9_ax := own_below o8_ax b9
  have o9_bx := own_below o8_bx b9
  have o9_G0 := own_below o8_G0 b9
  have o9_ay := own_below pay b9
  have B9 := bnext B8 b9
  clear s8_a s8_b s8_W0 s8_ax s8_bx s8_G0 mmay o8_W0 o8_ax o8_bx o8_G0 pay B8 b9
  clear s9_ay o9_ay bk_ay
  go_wp2_with fail
  refine (toIntS_any b _ _ (fun _ hb => hb) Ab nb cb (s9_b.ltR (by omega)) (by omega)).mono ?_
  rintro e w10 ⟨Aby, cby, rfl, pby, mmby, b10⟩
  have z10 := b10.size
  have s10_a := s9_a.upR (by omega) b10
  have s10_b := s9_b.upR (by omega) b10
  have s10_W0 := s9_W0.upR (by omega) b10
  have s10_ax := s9_ax.upR (by omega) b10
  have s10_bx := s9_bx.upR (by omega) b10
  have s10_G0 := s9_G0.upR (by omega) b10
  have o10_W0 := own_below o9_W0 b10
  have o10_ax := own_below o9_ax b10
  have o10_bx := own_below o9_bx b10
  have o10_G0 := own_below o9_G0 b10
  have B10 := bnext B9 b10
  clear s9_a s9_b s9_W0 s9_ax s9_bx s9_G0 o9_W0 o9_ax o9_bx o9_G0 B9 b10
  have bk_by : ∀ k, (Value.slice Aby nb cby).ownBlock = some k → w9.heap.size ≤ k ∧ k < w10.heap.size := pby.lt
  go_wp2_with fail
  refine (eqIntS_any b b _ _ (fun _ hb => hb) Abx Aby nb cbx nb cby (s10_bx.ltR (by omega)) (mmby.ltR (by omega))).mono ?_
  rintro e w11 ⟨rfl, b11⟩
  have z11 := b11.size
  have s11_a := s10_a.upR (by omega) b11
  have s11_b := s10_b.upR (by omega) b11
  have s11_W0 := s10_W0.upR (by omega) b11
  have s11_ax := s10_ax.upR (by omega) b11
  have s11_bx := s10_bx.upR (by omega) b11
  have s11_G0 := s10_G0.upR (by omega) b11
  have s11_by := mmby.upR (by omega) b11
  have o11_W0 := own_below o10_W0 b11
  have o11_ax := own_below o10_ax b11
  have o11_bx := own_below o10_bx b11
  have o11_G0 := own_below o10_G0 b11
  have o11_by := own_below pby b11
  have B11 := bnext B10 b11
  clear s10_a s10_b s10_W0 s10_ax s10_bx s10_G0 mmby o10_W0 o10_ax o10_bx o10_G0 pby B10 b11
  clear s11_by o11_by bk_by
  go_wp2_with fail
  have hl_ax : na = (a).length := s11_ax.1
  refine (markIntS_any a 1 (by omega) (by omega) _ w3.heap.size Aax na cax hl_ax (by omega) o11_ax).mono ?_
  clear hl_ax
  rintro e w12 ⟨rfl, q_ax, gr12, z12⟩
  have hb12 : ∀ k, (Value.slice Aax na cax).ownBlock = some k → w3.heap.size ≤ k ∧ k < w4.heap.size := fun k hk => bk_ax k hk
  have s12_a := s11_a.other gr12 (fun b hb => ⟨by omega, fun e => by have := hb12 b e; omega⟩)
  have s12_b := s11_b.other gr12 (fun b hb => ⟨by omega, fun e => by have := hb12 b e; omega⟩)
  have s12_W0 := s11_W0.other gr12 (fun b hb => ⟨by omega, fun e => by have := hb12 b e; omega⟩)
  have s12_bx := s11_bx.other gr12 (fun b hb => ⟨by omega, fun e => by have := hb12 b e; omega⟩)
  have s12_G0 := s11_G0.other gr12 (fun b hb => ⟨by omega, fun e => by have := hb12 b e; omega⟩)
  have o12_W0 := own_other o11_W0 gr12 (fun k hk e => by have := hb12 k e; have := bk_W0 k hk; omega)
  have o12_bx := own_other o11_bx gr12 (fun k hk e => by have := hb12 k e; have := bk_bx k hk; omega)
  have o12_G0 := own_other o11_G0 gr12 (fun k hk e => by have := hb12 k e; have := bk_G0 k hk; omega)
  have B12 := own_base o11_ax B11 (by omega) gr12 (by omega)
  clear s11_ax o11_ax s11_a s11_b s11_W0 s11_bx s11_G0 o11_W0 o11_bx o11_G0 B11 gr12 hb12
  go_wp2_with fail
  have hl_bx : nb = (b).length := s12_bx.1
  refine (markIntS_any b (1 + (na : Int)) (by omega) (by omega) _ w4.heap.size Abx nb cbx hl_bx (by omega) o12_bx).mono ?_
  clear hl_bx
  rintro e w13 ⟨rfl, q_bx, gr13, z13⟩
  have hb13 : ∀ k, (Value.slice Abx nb cbx).ownBlock = some k → w4.heap.size ≤ k ∧ k < w5.heap.size := fun k hk => bk_bx k hk
  have s13_a := s12_a.other gr13 (fun b hb => ⟨by omega, fun e => by have := hb13 b e; omega⟩)
  have s13_b := s12_b.other gr13 (fun b hb => ⟨by omega, fun e => by have := hb13 b e; omega⟩)
  have s13_W0 := s12_W0.other gr13 (fun b hb => ⟨by omega, fun e => by have := hb13 b e; omega⟩)
  have s13_G0 := s12_G0.other gr13 (fun b hb => ⟨by omega, fun e => by have := hb13 b e; omega⟩)
  have o13_W0 := own_other o12_W0 gr13 (fun k hk e => by have := hb13 k e; have := bk_W0 k hk; omega)
  have o13_G0 := own_other o12_G0 gr13 (fun k hk e => by have := hb13 k e; have := bk_G0 k hk; omega)
  have B13 := own_base o12_bx B12 (by omega) gr13 (by omega)
  clear s12_bx o12_bx s12_a s12_b s12_W0 s12_G0 o12_W0 o12_G0 B12 gr13 hb13
  go_wp2_with fail
  refine (eqIntS_any (joinL a b) (joinL a b) _ _ (fun _ hb => hb) AG0 AW0 nG0 cG0 nW0 cW0 (s13_G0.ltR (by omega)) (s13_W0.ltR (by omega))).mono ?_
  rintro e w14 ⟨rfl, b14⟩
  have z14 := b14.size
  have s14_a := s13_a.upR (by omega) b14
  have s14_b := s13_b.upR (by omega) b14
  have s14_W0 := s13_W0.upR (by omega) b14
  have s14_G0 := s13_G0.upR (by omega) b14
  have o14_W0 := own_below o13_W0 b14
  have o14_G0 := own_below o13_G0 b14
  have B14 := bnext B13 b14
  clear s13_a s13_b s13_W0 s13_G0 o13_W0 o13_G0 B13 b14
  go_wp2_with fail
  have hl_G0 : nG0 = ((joinL a b)).length := s14_G0.1
  refine (markIntS_any (joinL a b) 1 (by omega) (by omega) _ w5.heap.size AG0 nG0 cG0 hl_G0 (by omega) o14_G0).mono ?_
  clear hl_G0
  rintro e w15 ⟨rfl, q_G0, gr15, z15⟩
  have hb15 : ∀ k, (Value.slice AG0 nG0 cG0).ownBlock = some k → w5.heap.size ≤ k ∧ k < w6.heap.size := fun k hk => bk_G0 k hk
  have s15_a := s14_a.other gr15 (fun b hb => ⟨by omega, fun e => by have := hb15 b e; omega⟩)
  have s15_b := s14_b.other gr15 (fun b hb => ⟨by omega, fun e => by have := hb15 b e; omega⟩)
  have s15_W0 := s14_W0.other gr15 (fun b hb => ⟨by omega, fun e => by have := hb15 b e; omega⟩)
  have o15_W0 := own_other o14_W0 gr15 (fun k hk e => by have := hb15 k e; have := bk_W0 k hk; omega)
  have B15 := own_base o14_G0 B14 (by omega) gr15 (by omega)
  clear s14_G0 o14_G0 s14_a s14_b s14_W0 o14_W0 B14 gr15 hb15
  have rq := RepL.of_own' (s := 1) rfl (by rw [ups_len]) q_G0 (ups_ok _ _ (by omega) (by omega))
  have rq' : RepL w15 (fun b => w5.heap.size ≤ b ∧ b < w15.heap.size) (ups 1 nG0) AG0 nG0 cG0 := rq.more fun b hb => ⟨hb.1, by omega⟩
  go_wp2_with fail
  refine (heldIntS_any 1 (by omega) (by omega) _ _ (fun _ hb => hb) AG0 nG0 cG0 (by omega) (rq'.ltR (by omega))).mono ?_
  rintro e w16 ⟨rfl, b16⟩
  have z16 := b16.size
  have s16_a := s15_a.upR (by omega) b16
  have s16_b := s15_b.upR (by omega) b16
  have s16_W0 := s15_W0.upR (by omega) b16
  have s16_Q := rq'.upR (by omega) b16
  have o16_W0 := own_below o15_W0 b16
  have B16 := bnext B15 b16
  clear s15_a s15_b s15_W0 rq' o15_W0 B15 b16
  go_wp2_with fail
  refine (toIntS_any a _ _ (fun _ hb => hb) Aa na ca (s16_a.ltR (by omega)) (by omega)).mono ?_
  rintro e w17 ⟨Aaz, caz, rfl, paz, mmaz, b17⟩
  have z17 := b17.size
  have s17_a := s16_a.upR (by omega) b17
  have s17_b := s16_b.upR (by omega) b17
  have s17_W0 := s16_W0.upR (by omega) b17
  have s17_Q := s16_Q.upR (by omega) b17
  have o17_W0 := own_below o16_W0 b17
  have B17 := bnext B16 b17
  clear s16_a s16_b s16_W0 s16_Q o16_W0 B16 b17
  have bk_az : ∀ k, (Value.slice Aaz na caz).ownBlock = some k → w16.heap.size ≤ k ∧ k < w17.heap.size := paz.lt
  go_wp2_with fail
  refine (toIntS_any b _ _ (fun _ hb => hb) Ab nb cb (s17_b.ltR (by omega)) (by omega)).mono ?_
  rintro e w18 ⟨Abz, cbz, rfl, pbz, mmbz, b18⟩
  have z18 := b18.size
  have s18_a := s17_a.upR (by omega) b18
  have s18_b := s17_b.upR (by omega) b18
  have s18_W0 := s17_W0.upR (by omega) b18
  have s18_Q := s17_Q.upR (by omega) b18
  have s18_az := mmaz.upR (by omega) b18
  have o18_W0 := own_below o17_W0 b18
  have o18_az := own_below paz b18
  have B18 := bnext B17 b18
  clear s17_a s17_b s17_W0 s17_Q mmaz o17_W0 paz B17 b18
  have bk_bz : ∀ k, (Value.slice Abz nb cbz).ownBlock = some k → w17.heap.size ≤ k ∧ k < w18.heap.size := pbz.lt
  go_wp2_with fail
  refine (impl_JoinCuts_any a b _ _ (fun _ hb => hb) Aaz Abz na caz nb cbz (s18_az.ltR (by omega)) (mmbz.ltR (by omega))).mono ?_
  rintro e w19 ⟨AH0, nH0, cH0, rfl, smH0, ⟨pH0, mmH0⟩, b19⟩
  have z19 := b19.size
  have s19_a := s18_a.upR (by omega) b19
  have s19_b := s18_b.upR (by omega) b19
  have s19_W0 := s18_W0.upR (by omega) b19
  have s19_Q := s18_Q.upR (by omega) b19
  have s19_az := s18_az.upR (by omega) b19
  have s19_bz := mmbz.upR (by omega) b19
  have o19_W0 := own_below o18_W0 b19
  have o19_az := own_below o18_az b19
  have o19_bz := own_below pbz b19
  have B19 := bnext B18 b19
  clear s18_a s18_b s18_W0 s18_Q s18_az mmbz o18_W0 o18_az pbz B18 b19
  have bk_H0 : ∀ k, (Value.slice AH0 nH0 cH0).ownBlock = some k → w18.heap.size ≤ k ∧ k < w19.heap.size := pH0.lt
  go_wp2_with fail
  refine (eqIntS_any (joinL a b) (joinL a b) _ _ (fun _ hb => hb) AH0 AW0 nH0 cH0 nW0 cW0 (mmH0.ltR (by omega)) (s19_W0.ltR (by omega))).mono ?_
  rintro e w20 ⟨rfl, b20⟩
  have z20 := b20.size
  have s20_a := s19_a.upR (by omega) b20
  have s20_b := s19_b.upR (by omega) b20
  have s20_W0 := s19_W0.upR (by omega) b20
  have s20_Q := s19_Q.upR (by omega) b20
  have s20_az := s19_az.upR (by omega) b20
  have s20_bz := s19_bz.upR (by omega) b20
  have s20_H0 := mmH0.upR (by omega) b20
  have o20_W0 := own_below o19_W0 b20
  have o20_az := own_below o19_az b20
  have o20_bz := own_below o19_bz b20
  have o20_H0 := own_below pH0 b20
  have B20 := bnext B19 b20
  clear s19_a s19_b s19_W0 s19_Q s19_az s19_bz mmH0 o19_W0 o19_az o19_bz pH0 B19 b20
  go_wp2_with fail
  refine (heldIntS_any 1 (by omega) (by omega) _ _ (fun _ hb => hb) AG0 nG0 cG0 (by omega) (s20_Q.ltR (by omega))).mono ?_
  rintro e w21 ⟨rfl, b21⟩
  have z21 := b21.size
  have s21_a := s20_a.upR (by omega) b21
  have s21_b := s20_b.upR (by omega) b21
  have s21_W0 := s20_W0.upR (by omega) b21
  have s21_Q := s20_Q.upR (by omega) b21
  have s21_az := s20_az.upR (by omega) b21
  have s21_bz := s20_bz.upR (by omega) b21
  have s21_H0 := s20_H0.upR (by omega) b21
  have o21_W0 := own_below o20_W0 b21
  have o21_az := own_below o20_az b21
  have o21_bz := own_below o20_bz b21
  have o21_H0 := own_below o20_H0 b21
  have B21 := bnext B20 b21
  clear s20_a s20_b s20_W0 s20_Q s20_az s20_bz s20_H0 o20_W0 o20_az o20_bz o20_H0 B20 b21
  go_wp2_with fail
  go_ret
  exact ⟨rfl, B21⟩

set_option maxRecDepth 100000 in
theorem lifted_JoinCuts (os : Os) (started : os.Started) (H : Type) (enc : TypeId × Value → H) :
    ReturnsInHanded {} Try.checked os 7 .any (Rows.fnExactJoinCutsSpec.pre6 enc Try.prog Try.f7 Rows.fnExactJoinCutsRow.domain false) (Rows.fnExactJoinCutsSpec.post enc Try.prog Try.f7 false true false false) := by
  refine returnsInHanded_of_change (C := Try.checked) own started (by kernel_rfl) Try.func7
    (ChangeSpec.witness6 (enc := enc) (C := Try.checked) false ⟨#[], #[.slice none 0 0, .slice none 0 0], []⟩ 8 (by kernel_rfl) (by kernel_rfl) (by kernel_rfl) (by kernel_rfl)) ?_
  intro W base args ds gs before hval0 hW hcnd _
  have hval : ∀ (j : Nat) t v, Try.f7.params[j]? = some t → args[j]? = some v → Value.okWide Try.prog W .any base t v := hval0
  have hW' := hW
  obtain ⟨p, q, hA0, hV, rfl, hfz, hnd⟩ := hW
  have hA : DataW.TrodAll enc Try.prog W 0 (fun _ => true) true Try.f7.params.toList args.toList ds p := hA0
  rw [Try.params7] at hA hval
  obtain ⟨v0, vs0, d0, ds0, p0, q0, hargs, rfl, rfl, h0, r0⟩ := trodAll_cons hA
  obtain ⟨v1, vs1, d1, ds1, p1, q1, rfl, rfl, rfl, h1, r1⟩ := trodAll_cons r0
  obtain ⟨rfl, rfl, rfl⟩ := trodAll_nil r1
  obtain rfl : args = #[v0, v1] := by cases args; simp_all
  obtain ⟨rfl, rfl⟩ := trodVars_none hV
  obtain ⟨l0, A0, n0, c0, rfl, R0⟩ := Opens.arg opensInts (okWide_slice Try.underlying33 (hval 0 33 v0 rfl rfl)) h0
  obtain ⟨l1, A1, n1, c1, rfl, R1⟩ := Opens.arg opensInts (okWide_slice Try.underlying33 (hval 1 33 v1 rfl rfl)) h1
  clear hA0 hval0
  refine (law_JoinCuts l0 l1 W A0 n0 c0 R0 A1 n1 c1 R1).mono fun e W' ⟨he, hg⟩ => ?_
  subst he
  exact ⟨_, rfl, law_post hW' rfl laidOut (by kernel_rfl) hg rfl rfl Try.underlying4⟩

/-- The statement. -/
theorem proved_JoinCuts : Rows.FnExactJoinCutsSaid :=
  OpenClaim.holds_of_wide 7 Try.f7 rfl rfl rfl rfl rfl rfl rfl ⟨rfl, rfl, rfl, rfl, rfl⟩ rfl rfl rfl rfl rfl (by kernel_rfl) Try.func7 (by kernel_rfl)
    (of_decide_eq_true (by kernel_rfl)) (by unfold Func.isWrapper; first | (rw [if_pos (by decide +kernel)]; kernel_rfl) | (rw [if_neg (by decide +kernel)]; exact ⟨rfl, rfl⟩))
    (fun os started H enc _ => lifted_JoinCuts os started H enc)
#print axioms proved_JoinCuts
end Go.Proofs.Yticinemcmgggpab
