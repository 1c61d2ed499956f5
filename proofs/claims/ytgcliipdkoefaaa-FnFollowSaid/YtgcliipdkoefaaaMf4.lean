/-
  Proved: the law FnFollow returns true for every input: of all drawn logs, a follower that matches gets just the leader's log and keeps what both share; the program answers as the reference does. Conditions: none.
-/
import Derived.Deep.RegionHeld3
import Derived.Test.YtgcliipdkoefaaaMf1
import Derived.Test.YtgcliipdkoefaaaMf2
import Derived.Test.YtgcliipdkoefaaaMf3
/-
  Contracts: l7Follow, FollowLog of the reference.
-/
namespace Go.Proofs.Ytgcliipdkoefaaa
open Go.ChangeShapes Go.WideShapes Go.ChangeAt Go.RowKit Go.BigFrame Go.Deep
set_option linter.unusedVariables false

set_option maxHeartbeats 1000000
set_option maxRecDepth 20000 in
theorem l7Follow_any (l l' : List IS) (hlen : l.length ≤ 40) (hlen' : l'.length ≤ 40) (w : World) (S : Nat → Prop) (hS : ∀ b, S b → b < w.heap.size) (A A' : Option Addr) (n c n' c' : Nat) (hl0 : RepL w S l A n c) (hl1 : RepL w S l' A' n' c') :
    Calls Try.prog 58 #[.slice A n c, .slice A' n' c'] w fun x w' => ∃ A2 c2, x = .returned (.tuple #[.slice A2 n' c2, .int .i64 (foAt l l')]) ∧ w'.ownsRow w.heap.size 52 2 (.slice A2 n' c2) n' (encs (foL l l')) ∧ RepL w' (fun b => w.heap.size ≤ b ∧ b < w'.heap.size) (foL l l') A2 n' c2 ∧ Below w.heap.size w w' := by
  obtain ⟨i0, hi, hz0, hz1, hz2⟩ := info_parts infoEntry
  have hbd := hl0.bd
  have hbd' := hl1.bd
  have hn := hl0.1
  have hn' := hl1.1
  obtain ⟨at_, hat⟩ : ∃ a, foAt l l' = a := ⟨_, rfl⟩
  obtain ⟨hf1, hf2, hf3⟩ := foAt_bd l l'
  rw [hat] at hf1 hf2 hf3 ⊢
  have hk1 : at_ ≤ n := by omega
  have hk2 : at_ ≤ n' := by omega
  have hkc1 : at_ ≤ c := by omega
  have hkc2 : at_ ≤ c' := by omega
  have hkI : (0 : Int) ≤ (at_ : Int) := by omega
  have hkI1 : (at_ : Int) ≤ (n : Int) := by omega
  have hkI2 : (at_ : Int) ≤ (n' : Int) := by omega
  have hkI3 : (at_ : Int) ≤ (c : Int) := by omega
  have hkI4 : (at_ : Int) ≤ (c' : Int) := by omega
  have hcI : (n' : Int) ≤ (c' : Int) := by omega
  have hn40 : n' ≤ 40 := by omega
  have Hf1 := Lib.hid (show (findL l (startsTo l' l'.length) (n' : Int)).1 = (at_ : Int) by rw [hn']; exact hf1)
  have Hn := Lib.hid hn
  have Hn' := Lib.hid hn'
  have Hat := Lib.hid hat
  clear hn hn' hat
  clear hf1 hf2 hf3
  go_enter Try.func58, Try.ntmps58
  go_wp2_with fail
  refine (l7Starts_any l' hlen' w S hS A' n' c' hl1).mono ?_
  rintro e w1 ⟨A3, m, c3, rfl, hm40, ⟨-, hr⟩, b1⟩
  have hr1 := hr.more (S' := fun b => S b ∨ (w.heap.size ≤ b ∧ b < w1.heap.size)) (fun _ h => .inr h)
  have h0 := (hl0.keep (w' := w1) (fun p hp => b1.cell (hS _ hp))).more (S' := fun b => S b ∨ (w.heap.size ≤ b ∧ b < w1.heap.size)) (fun _ h => .inl h)
  have hS1 : ∀ b, (S b ∨ (w.heap.size ≤ b ∧ b < w1.heap.size)) → b < w1.heap.size := fun b hb => by
    rcases hb with hb | hb
    · exact Nat.lt_of_lt_of_le (hS b hb) b1.size
    · exact hb.2
  have Hr := Lib.hid hr
  clear hr
  go_wp2_with fail
  refine (l7Find_any l hlen (startsTo l' l'.length) (n' : Int) ⟨by omega, by omega⟩ w1 _ hS1 A A3 n c m c3 h0 hr1).mono ?_
  rintro e w2 ⟨rfl, b2⟩
  rw [Hf1.out]
  have B2 := bnext b1 b2
  clear hr1 h0 hS1
  go_wp2_with fail
  have hbW : Below w.heap.size w (w2.alloc (.cells #[] 52)).drew := (B2.alloc B2.size _).drew
  have ht := Lib.hid ((hl0.keep (w' := (w2.alloc (.cells #[] 52)).drew) (fun p hp => hbW.cell (hS _ hp))).take_ hk1)
  have o0 := (World.ownsRow_lit (w2.drew) #[] 0 (Nat.le_refl _) (Nat.zero_le _) (by simp) : (w2.drew.alloc (.cells #[] 52)).ownsRow w2.heap.size 52 2 (.slice (some ⟨w2.heap.size, 0, none⟩) 0 0) 0 (encs ([] : List IS)))
  go_region_held3 (fun _ => True) (exact trivial) (first
    | (refine step_append_list _ (by rfl) _ _ _ (by rfl) w2.heap.size 52 i0 _ 2 24 Try.underlying26 hi hz0 hz1 hz2 (by rfl) (by omega) (by rfl) (.slice (some ⟨w2.heap.size, 0, none⟩) 0 0) [] 0 (by rfl) o0 S A at_ c (l.take at_) (by rfl) ht.out (by omega) (by omega) (by simp) ?_; intro v1 w3 hown1 hg1 hat1)
    | (refine step_append_list _ (by rfl) _ _ _ (by rfl) w2.heap.size 52 i0 _ 2 24 Try.underlying26 hi hz0 hz1 hz2 (by rfl) (by omega) (by rfl) v1 ([] ++ l.take at_) (0 + at_) (by rfl) hown1 S _ _ _ (l'.drop at_) (by rfl) (((sliceL hl1 hS (own_base o0 hbW B2.size hg1 hbW.size)).drop_if hk2 rfl)) (by omega) (by omega) (by have := hg1.size; simp at this; omega) ?_; intro v2 w4 hown2 hg2 hat2))
  have B3 := own_base o0 hbW B2.size hg1 hbW.size
  have B4 := own_base hown1 B3 B2.size hg2 B3.size
  have hlen2 : 0 + at_ + (n' - at_) = n' := by omega
  rw [hlen2, List.nil_append] at hown2
  obtain ⟨A4, c4, rfl⟩ := own_slice hown2
  have hfo : foL l l' = l.take at_ ++ l'.drop at_ := by unfold foL; rw [Hat.out]
  rw [← hfo] at hown2
  have hown3 : w4.ownsRow w.heap.size 52 2 (.slice A4 n' c4) n' (encs (foL l l')) := ⟨hown2.1, hown2.2.imp id fun ⟨g, cap, cur, e1, e2, e3⟩ => ⟨g, cap, cur, e1, Nat.le_trans B2.size e2, e3⟩⟩
  have Hown2 := Lib.hid hown2
  have Hown3 := Lib.hid hown3
  have Hfo := Lib.hid hfo
  clear hown2 hown3 hfo
  go_wp2_with fail
  all_goals
    go_ret2
    refine ⟨A4, c4, rfl, Hown3.out, RepL.of_own' rfl (by rw [foL_len]; exact Hn'.out) Hown3.out fun a ha => ?_, B4⟩
    unfold foL at ha
    rcases List.mem_append.1 ha with ha | ha
    · exact hl0.ok a (List.mem_of_mem_take ha)
    · exact hl1.ok a (List.mem_of_mem_drop ha)
/-- What FollowLog answers. -/
noncomputable def foAns (l l' : List IS) : List IS := if goodEn l && goodEn l' then foL l l' else []
noncomputable def foPl (l l' : List IS) : Int := if goodEn l && goodEn l' then foAt l l' else 0
/-- Entries that the call has made. -/
def MadeE (w w' : World) (T : TypeId) (l : List IS) (A : Option Addr) (n c : Nat) : Prop :=
  w'.ownsRow w.heap.size T 2 (.slice A n c) n (encs l) ∧ RepL w' (fun b => w.heap.size ≤ b ∧ b < w'.heap.size) l A n c
theorem MadeE.from_ {w w0 w' : World} {T : TypeId} {l : List IS} {A : Option Addr} {n c : Nat} (h : MadeE w w' T l A n c) (hs : w0.heap.size ≤ w.heap.size) : MadeE w0 w' T l A n c :=
  ⟨⟨h.1.1, h.1.2.imp id fun ⟨g, cap, cur, e1, e2, e3⟩ => ⟨g, cap, cur, e1, Nat.le_trans hs e2, e3⟩⟩, h.2.more fun b hb => ⟨Nat.le_trans hs hb.1, hb.2⟩⟩
theorem MadeE.nil_ (w w' : World) (T : TypeId) : MadeE w w' T [] none 0 0 :=
  ⟨World.ownsRow_nil _ _ _ _, RepL.of_own' (e := T) (base := w.heap.size) (s := 2) rfl rfl (World.ownsRow_nil _ _ _ _) (fun a ha => by cases ha)⟩
theorem spec_FollowLog_any (l l' : List IS) (w : World) (S : Nat → Prop) (hS : ∀ b, S b → b < w.heap.size) (A A' : Option Addr) (n c n' c' : Nat) (hl0 : RepL w S l A n c) (hl1 : RepL w S l' A' n' c') :
    Calls Try.prog 24 #[.slice A n c, .slice A' n' c'] w fun x w' => ∃ A2 m c2, x = .returned (.tuple #[.slice A2 m c2, .int .i64 (foPl l l'), .bool (goodEn l && goodEn l')]) ∧ m ≤ 40 ∧ MadeE w w' 52 (foAns l l') A2 m c2 ∧ Below w.heap.size w w' := by
  obtain ⟨r, hr⟩ : ∃ r, (goodEn l && goodEn l') = r := ⟨_, rfl⟩
  have C1 := Lib.hid (l7Both_any l l' w S hS A A' n c n' c' hl0 hl1)
  rw [hr] at C1 ⊢
  have hn' := hl1.1
  have Hr := Lib.hid hr
  have Hn' := Lib.hid hn'
  clear hr hn'
  cases r with
  | false =>
    go_enter Try.func24, Try.ntmps24
    go_wp2_with fail
    refine (C1.out).mono ?_
    rintro e w1 ⟨rfl, b1⟩
    go_wp2_with fail
    go_ret3
    exact ⟨none, 0, 0, by unfold foPl; rw [Hr.out]; rfl, by omega, by unfold foAns; rw [Hr.out]; exact MadeE.nil_ _ _ _, b1⟩
  | true =>
    have hg := Hr.out
    rw [Bool.and_eq_true] at hg
    have hlen := goodEn_len hg.1
    have hlen' := goodEn_len hg.2
    clear hg
    go_enter Try.func24, Try.ntmps24
    go_wp2_with fail
    refine (C1.out).mono ?_
    rintro e w1 ⟨rfl, b1⟩
    go_wp2_with fail
    refine (l7Follow_any l l' hlen hlen' w1 S (fun b hb => Nat.lt_of_lt_of_le (hS b hb) b1.size) A A' n c n' c' (hl0.keep (fun p hp => b1.cell (hS _ hp))) (hl1.keep (fun p hp => b1.cell (hS _ hp)))).mono ?_
    rintro e w2 ⟨A2, c2, rfl, ho, hr2, b2⟩
    have Ho := Lib.hid ho
    have Hr2 := Lib.hid hr2
    clear ho hr2
    go_wp2_with fail
    go_ret3
    exact ⟨A2, n', c2, by unfold foPl; rw [Hr.out]; rfl, by have := Hn'.out; omega, by unfold foAns; rw [Hr.out]; exact MadeE.from_ ⟨Ho.out, Hr2.out⟩ b1.size, bnext b1 b2⟩
end Go.Proofs.Ytgcliipdkoefaaa

/-
  Contract: findPart of the program.
-/
namespace Go.Proofs.Ytgcliipdkoefaaa
open Go.ChangeShapes Go.WideShapes Go.ChangeAt Go.RowKit Go.BigFrame Go.Deep
set_option linter.unusedVariables false

set_option maxHeartbeats 4000000
theorem findPart_any (l : List IS) (hg : goodEn l = true) (hlen : l.length ≤ 40) (st : List P2) (e : Int) (he : I64 e) (w : World) (S : Nat → Prop) (hS : ∀ b, S b → b < w.heap.size) (A A' : Option Addr) (n c n' c' : Nat) (hl0 : RepL w S l A n c) (hl1 : RepL w S st A' n' c') :
    Calls Try.prog 57 #[.slice A n c, .slice A' n' c', .int .i64 e] w fun x w' => x = .returned (.tuple #[.int .i64 (findL l st e).1, .int .i64 (findL l st e).2]) ∧ Below w.heap.size w w' := by
  have eg := enters_of Try.func76 (by kernel_rfl) rfl
  have hbd' := hl1.bd
  have hn' := hl1.1
  obtain ⟨he1, he2⟩ := he
  have Hok := Lib.hid (startsTo_epoch hl0.ok hlen)
  have Hn' := Lib.hid hn'
  clear hn'
  go_enter Try.func57, Try.ntmps57
  go_wp2_with fail
  refine (startsOf_any l hlen w S hS A n c hl0).mono ?_
  rintro e w1 ⟨A2, m, c2, rfl, hm40, ⟨ho, hr⟩, b1⟩
  have Hm := Lib.hid (show m = (startsTo l l.length).length from hr.1)
  have Ho := Lib.hid ho
  have Hr := Lib.hid hr
  clear hr
  go_wp2_with fail
  refine (reverseSta_any (startsTo l l.length) w1 w.heap.size A2 m c2 Hm.out (by omega) Ho.out).mono ?_
  rintro e w2 ⟨⟨v0, rfl⟩, ho2, hg2, hs2⟩
  obtain ⟨R, hR⟩ : ∃ R, (startsTo l l.length).reverse = R := ⟨_, rfl⟩
  rw [hR] at ho2
  have hRl : m = R.length := by rw [← hR, List.length_reverse]; exact Hm.out
  have hROk : ∀ x ∈ R, I64 x.a ∧ I64 x.b := fun x hx => Hok.out x (by rw [← hR] at hx; exact List.mem_reverse.1 hx)
  have hrep := RepL.of_own' (s := 2) rfl hRl ho2 hROk
  have hrb := hrep.bd
  have B2 := own_base Ho.out b1 (Nat.le_refl _) hg2 b1.size
  have hz1 := b1.size
  have Hs2 := Lib.hid hs2
  have Hfl := Lib.hid (show findL l st e = findR l st e R 0 by unfold findL; rw [hR])
  have HRl := Lib.hid hRl
  have HROk := Lib.hid hROk
  have Hrep := Lib.hid hrep
  have HR := Lib.hid hR
  clear hRl hROk hrep hR
  clear ho ho2 hg2 hs2
  go_wp2_with fail
  go_loopw [19] (fun i wr => ∃ k : Nat, k ≤ m ∧ i = .int .i64 k ∧ findR l st e R 0 = findR l st e (R.drop k) k ∧ Below w2.heap.size w2 wr) (fun i _ => m - (intOf i).toNat)
  case atStart => exact ⟨0, Nat.zero_le _, rfl, by rw [List.drop_zero]; rfl, Below.refl _ _⟩
  case round =>
    obtain ⟨k, hk, rfl, hpre, hbel⟩ := hrel
    have Hpre := Lib.hid hpre
    clear hpre
    have hz3 := hbel.size
    by_cases hlt : k < m
    · have hk1 : k < R.length := by have := HRl.out; omega
      obtain ⟨b, off, xs, rfl, hSb, hc, rfl, -⟩ := Hrep.out.at_ hk1
      have hc0 := hc 0 _ rfl
      have hc1 := hc 1 _ rfl
      clear hc
      have hok := HROk.out R[k] (List.getElem_mem hk1)
      generalize hes : R[k] = es at hc0 hc1 hok
      obtain ⟨se, sa⟩ := es
      have Hs := Lib.hid (show R[k]? = some ⟨se, sa⟩ by rw [List.getElem?_eq_getElem hk1, hes])
      have d0 : wr.cell? ⟨b, off + k * 2, none⟩ = some (.int .i64 se) := (hbel.cell hSb.2).trans hc0
      have d1 : wr.cell? ⟨b, off + k * 2 + 1, none⟩ = some (.int .i64 sa) := (hbel.cell hSb.2).trans hc1
      obtain ⟨W, hW⟩ : ∃ W, W = wr.alloc (.cells #[.int .i64 se, .int .i64 sa] 55) := ⟨_, rfl⟩
      have hbx : Below wr.heap.size wr W := by rw [hW]; exact (Below.refl _ _).alloc (Nat.le_refl _) _
      have x0 : W.cell? ⟨wr.heap.size, 0, none⟩ = some (.int .i64 se) := by rw [hW]; exact World.cell?_alloc_new _ _ _ 0
      have hp := findPart1_pred ⟨se, sa⟩ wr.heap.size W x0
      have hb0 := bnext hbel hbx
      have hbT := bnext B2 hb0
      have Hx := Lib.hid (hl1.keep (w' := W) (fun p hp => hbT.cell (hS _ hp)))
      have hSW : ∀ b, S b → b < W.heap.size := fun b hb => Nat.lt_of_lt_of_le (hS b hb) hbT.size
      obtain ⟨q, hq⟩ : ∃ q, idxP (hitP se) st = q := ⟨_, rfl⟩
      have hqb := idxP_bd (hitP se) st
      rw [hq] at hqb
      have Cq := Lib.hid (indexFuncSta_any (hitP se) 76 _ eg st W S hSW A' n' c' Hx.out hp)
      rw [hq] at Cq
      have Hgs := Lib.hid (World.block_lt_of_cell? _ _ x0)
      have Hp := Lib.hid hp
      have HW := Lib.hid hW
      have Hbx := Lib.hid hbx
      have Hb0 := Lib.hid hb0
      have Hq := Lib.hid hq
      clear hp hW hbx hb0 hq
      clear hc0 hc1 hes
      go_wp2_with fail
      rw [← HW.out]
      refine (Cq.out).mono ?_
      rintro e w3 ⟨rfl, b3⟩
      have HB := Lib.hid (bnext Hb0.out b3)
      have BT := bnext hbT b3
      have y0 : w3.cell? ⟨wr.heap.size, 0, none⟩ = some (.int .i64 se) := (b3.cell (p := ⟨wr.heap.size, 0, none⟩) Hgs.out).trans x0
      by_cases hneg : q < 0
      · have Hm1 := Lib.hid (show q = -1 by omega)
        go_wp2_with fail
        go_roundw
        case rel =>
          refine ⟨k + 1, by omega, by go_num, ?_, HB.out⟩
          rw [show (((k + 1 : Nat)) : Int) = (k : Int) + 1 by omega, Hpre.out, findR_miss Hs.out (by rw [Hq.out]; exact Hm1.out)]
        case measure => simp [intOf]; omega
      · obtain ⟨t, rfl⟩ := Int.eq_ofNat_of_zero_le (show 0 ≤ q by omega)
        have Hans := Lib.hid (show findL l st e = (fpAt l st e se t, (k : Int) + 1) by rw [Hfl.out, Hpre.out, findR_hit Hs.out Hq.out])
        have ht1 : t < n' := by have := Hn'.out; have : (t : Int) < st.length := hqb.2; omega
        have CE := Lib.hid (fun W S hS h => endOfEpoch_any l hg se hok.1 W S hS A n c h)
        obtain ⟨cc, hcc⟩ : ∃ cc, cntLe se l = cc := ⟨_, rfl⟩
        rw [hcc] at CE
        have hccb : cc ≤ 40 := by rw [← hcc]; exact Nat.le_trans (cntLe_le _ _) hlen
        have Hcc := Lib.hid hcc
        clear hcc
        have H3 := Lib.hid (hl0.keep (w' := w3) (fun p hp => BT.cell (hS _ hp)))
        by_cases hnx : t + 1 < n'
        · have ht2 : t + 1 < st.length := by have := Hn'.out; omega
          obtain ⟨bb, ob, xs, hA', hSb', hc, rfl, hok2⟩ := hl1.at_ ht2
          have z0 : w3.cell? ⟨bb, ob + (t + 1) * 2 + 1, none⟩ = some (.int .i64 st[t + 1].b) := (BT.cell (hS _ hSb')).trans (hc 1 _ rfl)
          subst hA'
          have Hnx := Lib.hid (show nextAt st e t = st[t + 1].b from nextAt_some (List.getElem?_eq_getElem ht2))
          have hjI : ((t + 1 : Nat) : Int) < (n' : Int) := by omega
          have hw1 : IntKind.i64.wrap ((t : Int) + 1) = ((t + 1 : Nat) : Int) := by rw [IntKind.wrap_i64]; omega
          clear hc
          go_wp2_with fail
          refine (CE.out w3 S (fun b hb => Nat.lt_of_lt_of_le (hS b hb) BT.size) H3.out).mono ?_
          rintro e w4 ⟨rfl, b4⟩
          go_wp2_with fail
          all_goals
            go_ret2
            exact ⟨by rw [Hans.out]; unfold fpAt; rw [Hnx.out, Hcc.out]; congr 3; simp; omega, bnext BT b4⟩
        · have Hnx := Lib.hid (show nextAt st e t = e from nextAt_none (by have := Hn'.out; omega))
          have hw1 : IntKind.i64.wrap ((t : Int) + 1) = ((t + 1 : Nat) : Int) := by rw [IntKind.wrap_i64]; omega
          go_wp2_with fail
          refine (CE.out w3 S (fun b hb => Nat.lt_of_lt_of_le (hS b hb) BT.size) H3.out).mono ?_
          rintro e w4 ⟨rfl, b4⟩
          go_wp2_with fail
          all_goals
            go_ret2
            exact ⟨by rw [Hans.out]; unfold fpAt; rw [Hnx.out, Hcc.out]; congr 3; simp; omega, bnext BT b4⟩
    · obtain rfl : k = m := by omega
      have Hans := Lib.hid (show findL l st e = (0, (k : Int)) by rw [Hfl.out, Hpre.out, findR_end (by have := HRl.out; omega)])
      go_wp2_with fail
      go_ret2
      exact ⟨by rw [Hans.out]; rfl, bnext B2 hbel⟩
end Go.Proofs.Ytgcliipdkoefaaa

/-
  slices.Grow of nil, slices.Concat at []Entry.
-/
namespace Go.Proofs.Ytgcliipdkoefaaa
open Go.ChangeShapes Go.WideShapes Go.ChangeAt Go.RowKit Go.BigFrame
set_option linter.unusedVariables false


theorem growNilEnt_any (n : Nat) (hsm : n ≤ 100000000) (w : World) :
    Calls Try.prog 77 #[.slice none 0 0, .int .i64 n] w fun x w' => ∃ v, x = .returned v ∧ w'.ownsRow w.heap.size 52 2 v 0 [] ∧ Below w.heap.size w w' := by
  have hinfo : (Try.prog.info? 52).map (fun i => (i.zero, i.size, i.bytes)) = some (some (.agg #[.int .i64 0, .string ByteArray.empty]), 2, 24) := by kernel_rfl
  obtain ⟨i0, hi, hz0, hz1, hz2⟩ := info_parts hinfo
  rcases Nat.eq_zero_or_pos n with hz | hz
  · subst hz
    go_enter Try.func77, Try.ntmps77
    go_wp2
    go_ret
    exact ⟨_, rfl, World.ownsRow_nil _ _ _ _, Below.refl _ _⟩
  · have hold : (Builtin.firstCells i0.size 0 (.slice none 0 0)).run Try.prog w.drew = .ok (List.toArray []) w.drew := run_firstCells_none w.drew i0.size 0 0 0
    obtain ⟨G, hG⟩ : ∃ G, grownCap w (0 + n) 0 52 = G := ⟨_, rfl⟩
    have hGn : n ≤ G := by have := grownCap_ge w (0 + n) 0 52; omega
    have hG63 : G ≤ maxLen := by rw [← hG]; exact grownCap_le_maxLen w (0 + n) 0 52 (by unfold maxLen; omega)
    have hrz : ∀ ty, (Builtin.append_ #[26, 3] ty #[.slice none 0 0, .int .i64 (n : Int)]).run Try.prog w =
        .ok (.slice (some ⟨w.heap.size, 0, none⟩) n G) (w.drew.alloc (.cells ((List.toArray []) ++ Builtin.zeroCells (Value.cells (.agg #[.int .i64 0, .string ByteArray.empty])) n ++ Builtin.zeroCells (Value.cells (.agg #[.int .i64 0, .string ByteArray.empty])) (G - n)) 52)) := fun ty => by
      have h := Lib.run_append_grow_zeros (P := Try.prog) w 26 3 ty 52 i0 _ .i64 .i64 Try.underlying26 Try.underlying3 hi hz0 none 0 0 [] hold n hz (by omega) (by omega) (by omega)
        (by rw [hz2]; omega) (growslice_fits (by omega) (by rw [hz2]; omega))
      rw [hG, Nat.zero_add] at h
      exact h
    have HG := Lib.hid hG
    clear hG hold
    obtain ⟨W, hW⟩ : ∃ W, W = w.drew.alloc (.cells ((List.toArray []) ++ Builtin.zeroCells (Value.cells (.agg #[.int .i64 0, .string ByteArray.empty])) n ++ Builtin.zeroCells (Value.cells (.agg #[.int .i64 0, .string ByteArray.empty])) (G - n)) 52) := ⟨_, rfl⟩
    rw [← hW] at hrz
    have hown : W.ownsRow w.heap.size 52 2 (.slice (some ⟨w.heap.size, 0, none⟩) 0 G) 0 [] := by
      rw [hW]
      refine ⟨rfl, .inr ⟨w.heap.size, G, _, rfl, Nat.le_refl _, heap_alloc_new w.drew _, Nat.zero_le _, hG63, ?_, by simp⟩⟩
      simp only [Array.size_append, List.size_toArray, List.length_nil, size_zeroCells]
      simp [Value.cells]
      omega
    have hb : Below w.heap.size w W := by rw [hW]; exact ((Below.refl _ w).drew).alloc (Nat.le_refl _) _
    clear hW
    have hG' : n ≤ 9223372036854775807 ∧ G ≤ 9223372036854775807 := by unfold maxLen at hG63; omega
    go_enter Try.func77, Try.ntmps77
    go_wp2_with (at_builtin; refine Lib.wpList_append_run _ rfl (.tmp 20) (.tmp 21) _ _ rfl _ _ rfl rfl _ _ (hrz _) ?_)
    go_ret
    exact ⟨_, rfl, hown, hb⟩

/-- How many elements the lists hold together. -/
def total {α : Type} (ls : List (List α)) : Nat := (ls.map List.length).sum
theorem total_take {α : Type} (ls : List (List α)) (k : Nat) (hk : k < ls.length) : total (ls.take (k + 1)) = total (ls.take k) + ls[k].length := by
  unfold total
  rw [List.take_succ_eq_append_getElem hk, List.map_append, List.sum_append]
  simp
theorem total_flatten {α : Type} (ls : List (List α)) : total ls = ls.flatten.length := by
  unfold total
  rw [List.length_flatten]
theorem flatten_take {α : Type} (ls : List (List α)) (k : Nat) (hk : k < ls.length) : (ls.take (k + 1)).flatten = (ls.take k).flatten ++ ls[k] := by
  rw [List.take_succ_eq_append_getElem hk, List.flatten_append]
  simp
theorem total_le {α : Type} (ls : List (List α)) (k : Nat) : total (ls.take k) ≤ total ls := by
  unfold total
  conv => rhs; rw [← List.take_append_drop k ls]
  rw [List.map_append, List.sum_append]
  omega

set_option maxRecDepth 20000 in
theorem concatEnt_any (ls : List (List IS)) (w : World) (S : Nat → Prop) (hS : ∀ b, S b → b < w.heap.size) (A : Option Addr) (n c : Nat) (hl0 : RepL w S ls A n c) (hsm : total ls ≤ 100000000) :
    Calls Try.prog 59 #[.slice A n c] w fun x w' => ∃ A' c', x = .returned (.slice A' (total ls) c') ∧ w'.ownsRow w.heap.size 52 2 (.slice A' (total ls) c') (total ls) (encs ls.flatten) ∧ RepL w' (fun b => w.heap.size ≤ b ∧ b < w'.heap.size) ls.flatten A' (total ls) c' ∧ Below w.heap.size w w' := by
  have hinfo : (Try.prog.info? 52).map (fun i => (i.zero, i.size, i.bytes)) = some (some (.agg #[.int .i64 0, .string ByteArray.empty]), 2, 24) := by kernel_rfl
  obtain ⟨i0, hi, hz0, hz1, hz2⟩ := info_parts hinfo
  have hbd := hl0.bd
  obtain ⟨hn, -⟩ := id hl0
  have Hn := Lib.hid hn
  clear hn
  go_enter Try.func59, Try.ntmps59
  go_wp2_with fail
  go_loopw [3, 11] (fun q i wr => ∃ k : Nat, k ≤ n ∧ i = .int .i64 k ∧ q = .int .i64 (total (ls.take k) : Nat) ∧ Below w.heap.size w wr) (fun _ i _ => n - (intOf i).toNat)
  case atStart => exact ⟨0, Nat.zero_le _, rfl, by simp [total], Below.refl _ _⟩
  case round =>
    obtain ⟨k, hk, rfl, rfl, hbel⟩ := hrel
    by_cases hlt : k < n
    · have hl1 : k < ls.length := by have := Hn.out; omega
      obtain ⟨b, off, A1, c1, rfl, hSb, hc, hr⟩ := hl0.row hl1
      have hc0 : wr.cell? ⟨b, off + k, none⟩ = some (.slice A1 ls[k].length c1) := (hbel.cell (hS _ hSb)).trans hc
      have h1 := total_le ls (k + 1)
      have h2 := total_take ls k hl1
      rw [h2] at h1
      have H2 := Lib.hid h2
      clear h2 hc
      generalize total (ls.take k) = q at *
      go_wp2_with fail
      go_roundw
      case rel => exact ⟨k + 1, by omega, by go_num, by rw [H2.out]; go_num, hbel⟩
      case measure => simp [intOf]; omega
    · obtain rfl : k = n := by omega
      have ht : total (ls.take k) = total ls := by rw [List.take_of_length_le (by have := Hn.out; omega)]
      rw [ht]
      clear ht
      go_wp2_with fail
      refine (growNilEnt_any (total ls) hsm wr).mono ?_
      rintro e w1 ⟨v, rfl, hown, b1⟩
      have hb1 := hbel.trans (b1.mono hbel.size)
      have hown' : w1.ownsRow w.heap.size 52 2 v 0 [] := ⟨hown.1, hown.2.imp id fun ⟨g, cap, cur, e1, e2, e3⟩ => ⟨g, cap, cur, e1, Nat.le_trans hbel.size e2, e3⟩⟩
      clear hown
      go_wp2_with fail
      go_loopw [6, 27] (fun v i wr => ∃ j : Nat, j ≤ k ∧ i = .int .i64 j ∧ wr.ownsRow w.heap.size 52 2 v (total (ls.take j)) (encs (ls.take j).flatten) ∧ Below w.heap.size w wr) (fun _ i _ => k - (intOf i).toNat)
      case atStart => exact ⟨0, Nat.zero_le _, rfl, by simpa [total, encs] using hown', hb1⟩
      case round =>
        obtain ⟨j, hj, rfl, hown2, hbel2⟩ := hrel
        by_cases hlt2 : j < k
        · have hl1 : j < ls.length := by have := Hn.out; omega
          obtain ⟨b, off, A1, c1, rfl, hSb, hc, hr⟩ := hl0.row hl1
          have hc0 : wr.cell? ⟨b, off + j, none⟩ = some (.slice A1 ls[j].length c1) := (hbel2.cell (hS _ hSb)).trans hc
          have hr1 := Lib.hid (hr.keep (w' := wr) (fun p hp => hbel2.cell (hS _ hp)))
          have h1 := total_le ls (j + 1)
          have h2 := total_take ls j hl1
          rw [h2] at h1
          have H2 := Lib.hid h2
          have H3 := Lib.hid (flatten_take ls j hl1)
          clear h2 hc hr
          generalize hq : total (ls.take j) = q at *
          clear hq
          have Hown2 := Lib.hid hown2
          have Hbel2 := Lib.hid hbel2
          go_wp2_with (at_builtin; refine wpList_append_list (α := IS) _ rfl (.tmp 31) (.tmp 32) _ rfl w.heap.size 52 i0 _ 2 24 Try.underlying26 hi hz0 hz1 hz2 rfl (by omega) rfl _ _ q rfl Hown2.out S A1 ls[j].length c1 ls[j] rfl hr1.out (by omega) (by omega) Hbel2.out.size ?_; intro v1 w2 hown3 hg2 hat2)
          go_roundw
          case rel => exact ⟨j + 1, by omega, by go_num, by rw [H2.out, H3.out]; exact hown3, own_base Hown2.out Hbel2.out (Nat.le_refl _) hg2 Hbel2.out.size⟩
          case measure => simp [intOf]; omega
        · go_wp2_with fail
          go_ret
          obtain rfl : j = k := by omega
          have e1 : ls.take j = ls := List.take_of_length_le (by have := Hn.out; omega)
          rw [e1] at hown2
          obtain ⟨A', c', rfl⟩ := own_slice hown2
          refine ⟨A', c', rfl, hown2, RepL.of_own' rfl (total_flatten ls) hown2 ?_, hbel2⟩
          intro a ha
          obtain ⟨r, hr, har⟩ := List.mem_flatten.1 ha
          obtain ⟨i, hi, rfl⟩ := List.mem_iff_getElem.1 hr
          obtain ⟨_, _, _, _, _, _, _, hrr⟩ := hl0.row hi
          exact hrr.ok a har

end Go.Proofs.Ytgcliipdkoefaaa

/-
  Contract: FollowLog of the program.
-/
namespace Go.Proofs.Ytgcliipdkoefaaa
open Go.ChangeShapes Go.WideShapes Go.ChangeAt Go.RowKit Go.BigFrame Go.Deep
set_option linter.unusedVariables false

set_option maxHeartbeats 1000000
theorem concatEnt2 (a b : List IS) (w w0 : World) (hb0 : Below w0.heap.size w0 w) (S : Nat → Prop) (hS : ∀ b, S b → b < w0.heap.size) (A A' : Option Addr) (n c n' c' : Nat) (h0 : RepL w0 S a A n c) (h1 : RepL w0 S b A' n' c') (hsm : n + n' ≤ 1000000) :
    Calls Try.prog 59 #[.slice (some ⟨w.heap.size, 0, none⟩) 2 2] (w.alloc (.cells #[.slice A n c, .slice A' n' c'] 26)).drew fun x w' => ∃ A2 c2, x = .returned (.slice A2 (n + n') c2) ∧ MadeE w0 w' 52 (a ++ b) A2 (n + n') c2 ∧ Below w0.heap.size w0 w' := by
  obtain ⟨W, hW⟩ : ∃ W, W = (w.alloc (.cells #[.slice A n c, .slice A' n' c'] 26)).drew := ⟨_, rfl⟩
  have bW : Below w0.heap.size w0 W := by rw [hW]; exact (hb0.alloc hb0.size _).drew
  have hg : W.heap[w.heap.size]? = some (.cells #[.slice A n c, .slice A' n' c'] 26 (0, 0)) := by rw [hW]; exact heap_alloc_new w _
  have h2 := RepL.two_ (h0.keep (w' := W) (fun p hp => bW.cell (hS _ hp))) (h1.keep (w' := W) (fun p hp => bW.cell (hS _ hp))) hg
  have hlt : w.heap.size < W.heap.size := (Array.getElem?_eq_some_iff.1 hg).1
  have ht : total [a, b] = n + n' := by unfold total; simp; rw [h0.1, h1.1]
  rw [← hW]
  refine (concatEnt_any [a, b] W _ (fun x hx => by rcases hx with hx | rfl; (· exact Nat.lt_of_lt_of_le (hS _ hx) bW.size); exact hlt) _ _ _ h2 (by omega)).mono ?_
  rintro e w2 ⟨A2, c2, rfl, o2, r2, b2⟩
  rw [ht] at o2 r2
  have hf : [a, b].flatten = a ++ b := by simp
  rw [hf] at o2 r2
  exact ⟨A2, c2, by rw [ht], MadeE.from_ ⟨o2, r2⟩ bW.size, bnext bW b2⟩
set_option maxRecDepth 20000 in
theorem impl_FollowLog_any (l l' : List IS) (w : World) (S : Nat → Prop) (hS : ∀ b, S b → b < w.heap.size) (A A' : Option Addr) (n c n' c' : Nat) (hl0 : RepL w S l A n c) (hl1 : RepL w S l' A' n' c') :
    Calls Try.prog 25 #[.slice A n c, .slice A' n' c'] w fun x w' => ∃ A2 m c2, x = .returned (.tuple #[.slice A2 m c2, .int .i64 (foPl l l'), .bool (goodEn l && goodEn l')]) ∧ m ≤ 40 ∧ MadeE w w' 52 (foAns l l') A2 m c2 ∧ Below w.heap.size w w' := by
  obtain ⟨r, hr⟩ : ∃ r, goodEn l = r := ⟨_, rfl⟩
  obtain ⟨r', hr'⟩ : ∃ r, goodEn l' = r := ⟨_, rfl⟩
  have C1 := Lib.hid (fun w S hS h => areEntries_any l w S hS A n c h)
  have C2 := Lib.hid (fun w S hS h => areEntries_any l' w S hS A' n' c' h)
  have hP : foPl l l' = if (r && r') then (foAt l l' : Int) else 0 := by unfold foPl; rw [hr, hr']
  have hA : foAns l l' = if (r && r') then foL l l' else [] := by unfold foAns; rw [hr, hr']
  rw [hr, hr', hP, hA]
  rw [hr] at C1
  rw [hr'] at C2
  have hbd := hl0.bd
  have hbd' := hl1.bd
  have hn := hl0.1
  have hn' := hl1.1
  have Hr := Lib.hid hr
  have Hr' := Lib.hid hr'
  clear hr hr'
  clear hP hA
  cases r with
  | false =>
    have Hn := Lib.hid hn
    have Hn' := Lib.hid hn'
    clear hn hn'
    go_enter Try.func25, Try.ntmps25
    go_wp2_with fail
    refine (C1.out w S hS hl0).mono ?_
    rintro e w1 ⟨rfl, b1⟩
    go_wp2_with fail
    go_ret3
    exact ⟨none, 0, 0, rfl, by omega, MadeE.nil_ _ _ _, b1⟩
  | true =>
    cases r' with
    | false =>
      have Hn := Lib.hid hn
      have Hn' := Lib.hid hn'
      clear hn hn'
      go_enter Try.func25, Try.ntmps25
      go_wp2_with fail
      refine (C1.out w S hS hl0).mono ?_
      rintro e w1 ⟨rfl, b1⟩
      go_wp2_with fail
      refine (C2.out w1 S (fun b hb => Nat.lt_of_lt_of_le (hS b hb) b1.size) (hl1.keep (fun p hp => b1.cell (hS _ hp)))).mono ?_
      rintro e w2 ⟨rfl, b2⟩
      go_wp2_with fail
      go_ret3
      exact ⟨none, 0, 0, rfl, by omega, MadeE.nil_ _ _ _, bnext b1 b2⟩
    | true =>
      have hlen := goodEn_len Hr.out
      have hlen' := goodEn_len Hr'.out
      obtain ⟨at_, hat⟩ : ∃ a, foAt l l' = a := ⟨_, rfl⟩
      obtain ⟨hf1, hf2, hf3⟩ := foAt_bd l l'
      rw [hat] at hf1 hf2 hf3 ⊢
      have hk1 : at_ ≤ n := by omega
      have hk2 : at_ ≤ n' := by omega
      have hkI : (0 : Int) ≤ (at_ : Int) := by omega
      have hkI1 : (at_ : Int) ≤ (n : Int) := by omega
      have hkI2 : (at_ : Int) ≤ (n' : Int) := by omega
      have hkI3 : (at_ : Int) ≤ (c : Int) := by omega
      have hkI4 : (at_ : Int) ≤ (c' : Int) := by omega
      have hcI : (n' : Int) ≤ (c' : Int) := by omega
      have hn40 : n' ≤ 40 := by omega
      have Hf1 := Lib.hid (show (findL l (startsTo l' l'.length) (n' : Int)).1 = (at_ : Int) by rw [hn']; exact hf1)
      have Htot := Lib.hid (show total [l.take at_, l'.drop at_] = n' by unfold total; simp; omega)
      have Hn := Lib.hid hn
      have Hn' := Lib.hid hn'
      have Hat := Lib.hid hat
      clear hn hn' hat
      clear hf1 hf2 hf3
      go_enter Try.func25, Try.ntmps25
      go_wp2_with fail
      refine (C1.out w S hS hl0).mono ?_
      rintro e w1 ⟨rfl, b1⟩
      go_wp2_with fail
      refine (C2.out w1 S (fun b hb => Nat.lt_of_lt_of_le (hS b hb) b1.size) (hl1.keep (fun p hp => b1.cell (hS _ hp)))).mono ?_
      rintro e w2 ⟨rfl, b2⟩
      have B2 := bnext b1 b2
      go_wp2_with fail
      refine (startsOf_any l' hlen' w2 S (fun b hb => Nat.lt_of_lt_of_le (hS b hb) B2.size) A' n' c' (hl1.keep (fun p hp => B2.cell (hS _ hp)))).mono ?_
      rintro e w3 ⟨A3, m, c3, rfl, hm40, ⟨-, hrs⟩, b3⟩
      have B3 := bnext B2 b3
      have hr1 := hrs.more (S' := fun b => S b ∨ (w2.heap.size ≤ b ∧ b < w3.heap.size)) (fun _ h => .inr h)
      have h0 := (hl0.keep (w' := w3) (fun p hp => B3.cell (hS _ hp))).more (S' := fun b => S b ∨ (w2.heap.size ≤ b ∧ b < w3.heap.size)) (fun _ h => .inl h)
      have hS3 : ∀ b, (S b ∨ (w2.heap.size ≤ b ∧ b < w3.heap.size)) → b < w3.heap.size := fun b hb => by
        rcases hb with hb | hb
        · exact Nat.lt_of_lt_of_le (hS b hb) B3.size
        · exact hb.2
      have Hrs := Lib.hid hrs
      clear hrs
      go_wp2_with fail
      refine (findPart_any l Hr.out hlen (startsTo l' l'.length) (n' : Int) ⟨by omega, by omega⟩ w3 _ hS3 A A3 n c m c3 h0 hr1).mono ?_
      rintro e w4 ⟨rfl, b4⟩
      rw [Hf1.out]
      have B4 := bnext B3 b4
      clear hr1 h0 hS3
      go_wp2_with fail
      have hfo : foL l l' = l.take at_ ++ l'.drop at_ := by unfold foL; rw [Hat.out]
      have hnn : at_ + (n' - at_) = n' := by omega
      have hd := hl1.drop_if hk2 (rfl : 2 = Rep.size IS)
      have ht := hl0.take_ hk1
      by_cases hcc : c' = at_
      · rw [if_pos hcc, show c' - at_ = 0 by omega] at hd
        have HC := concatEnt2 _ _ w4 w B4 S hS _ _ _ _ _ _ ht hd (by omega)
        rw [← hfo, hnn] at HC
        have HC' := Lib.hid HC
        clear HC hfo hnn
        clear hd ht
        go_region_held3 (fun _ => True) (exact trivial) ((go_at_call 59; refine HC'.out.mono ?_; rintro e w5 ⟨A2, c2, rfl, hm, b5⟩))
        go_wp2_with fail
        go_ret3
        exact ⟨A2, n', c2, rfl, hn40, hm, b5⟩
      · rw [if_neg hcc] at hd
        have HC := concatEnt2 _ _ w4 w B4 S hS _ _ _ _ _ _ ht hd (by omega)
        rw [← hfo, hnn] at HC
        have HC' := Lib.hid HC
        clear HC hfo hnn
        clear hd ht
        go_region_held3 (fun _ => True) (exact trivial) ((go_at_call 59; refine HC'.out.mono ?_; rintro e w5 ⟨A2, c2, rfl, hm, b5⟩))
        go_wp2_with fail
        go_ret3
        exact ⟨A2, n', c2, rfl, hn40, hm, b5⟩
end Go.Proofs.Ytgcliipdkoefaaa

/-
  Contracts: areStarts of the program, l7GoodStarts of the reference.
-/
namespace Go.Proofs.Ytgcliipdkoefaaa
open Go.ChangeShapes Go.WideShapes Go.ChangeAt Go.RowKit Go.BigFrame Go.Deep
set_option linter.unusedVariables false

set_option maxHeartbeats 4000000
/-- Start k is not valid; m: the greatest place. -/
def stBad (l : List P2) (m : Int) (k : Nat) : Bool := match l[k]? with
  | some s => !decide (1 ≤ s.a ∧ s.a ≤ 1000) || (!decide (0 ≤ s.b ∧ s.b ≤ m) || (decide (0 < k) && (match l[k - 1]? with | some t => decide (s.a ≤ t.a) || decide (s.b ≤ t.b) | none => false)))
  | none => false
def stAll (l : List P2) (m : Int) : Bool := (List.range l.length).all fun k => !stBad l m k
def goodSt (l : List P2) (e : Int) : Bool := (decide (l.length ≤ 40) && decide (0 ≤ e ∧ e ≤ 40)) && stAll l (IntKind.i64.wrap (e - 1))
theorem stBad_eq {l : List P2} {m : Int} {k : Nat} {a b : Int} {r1 r2 : Bool} (he : l[k]? = some ⟨a, b⟩) (h1 : decide (1 ≤ a ∧ a ≤ 1000) = r1) (h2 : decide (0 ≤ b ∧ b ≤ m) = r2) (hk : k = 0) : stBad l m k = (!r1 || !r2) := by
  unfold stBad
  rw [he]
  show (!decide (1 ≤ a ∧ a ≤ 1000) || (!decide (0 ≤ b ∧ b ≤ m) || (decide (0 < k) && _))) = _
  rw [h1, h2, decide_eq_false (by omega : ¬ 0 < k), Bool.false_and, Bool.or_false]
theorem stBad_eq2 {l : List P2} {m : Int} {k : Nat} {a b c d : Int} {r1 r2 r3 r4 : Bool} (he : l[k]? = some ⟨a, b⟩) (h1 : decide (1 ≤ a ∧ a ≤ 1000) = r1) (h2 : decide (0 ≤ b ∧ b ≤ m) = r2) (hk : 0 < k) (hf : l[k - 1]? = some ⟨c, d⟩) (h3 : decide (a ≤ c) = r3) (h4 : decide (b ≤ d) = r4) : stBad l m k = (!r1 || (!r2 || (r3 || r4))) := by
  unfold stBad
  rw [he, hf]
  show (!decide (1 ≤ a ∧ a ≤ 1000) || (!decide (0 ≤ b ∧ b ≤ m) || (decide (0 < k) && (decide (a ≤ c) || decide (b ≤ d))))) = _
  rw [h1, h2, h3, h4, decide_eq_true hk, Bool.true_and]
theorem stAll_no {l : List P2} {m : Int} {k : Nat} (hk : k < l.length) (h : stBad l m k = true) : stAll l m = false := by
  unfold stAll
  rw [← Bool.not_eq_true, List.all_eq_true]
  intro h'
  have := h' k (List.mem_range.2 hk)
  rw [h] at this
  cases this
theorem stAll_yes {l : List P2} {m : Int} {n : Nat} (hn : n = l.length) (h : ∀ i, i < n → stBad l m i = false) : stAll l m = true := by
  unfold stAll
  rw [List.all_eq_true]
  intro i hi
  rw [h i (by rw [hn]; exact List.mem_range.1 hi)]
  rfl
theorem stBad_succ {l : List P2} {m : Int} {k : Nat} (h : ∀ i, i < k → stBad l m i = false) (hk : stBad l m k = false) : ∀ i, i < k + 1 → stBad l m i = false := by
  intro i hi
  by_cases e : i = k
  · rw [e]; exact hk
  · exact h i (by omega)
theorem areStarts_any (l : List P2) (e : Int) (he : I64 e) (w : World) (S : Nat → Prop) (hS : ∀ b, S b → b < w.heap.size) (A : Option Addr) (n c : Nat) (hl0 : RepL w S l A n c) :
    Calls Try.prog 56 #[.slice A n c, .int .i64 e] w fun x w' => x = .returned (.bool (goodSt l e)) ∧ Below w.heap.size w w' := by
  have hbd := hl0.bd
  have hn := hl0.1
  obtain ⟨rE, hE⟩ : ∃ r, decide (0 ≤ e ∧ e ≤ 40) = r := ⟨_, rfl⟩
  by_cases h40 : n ≤ 40
  · have d40 : decide (40 < (n : Int)) = false := decide_eq_false (by omega)
    have hlen : decide (l.length ≤ 40) = true := decide_eq_true (by omega)
    obtain ⟨m, hm⟩ : ∃ m, IntKind.i64.wrap (e - 1) = m := ⟨_, rfl⟩
    have Hg := Lib.hid (show goodSt l e = (rE && stAll l m) by unfold goodSt; rw [hlen, hE, hm]; rfl)
    have Hn := Lib.hid hn
    have HE := Lib.hid hE
    have Hlen := Lib.hid hlen
    clear hn hE hlen
    cases rE with
    | false =>
      go_enter Try.func56, Try.ntmps56
      go_wp2_with fail
      refine (within_any _ _ _ _ HE.out _).mono ?_
      rintro e w1 ⟨rfl, b1⟩
      go_wp2_with fail
      go_ret
      exact ⟨by rw [Hg.out]; rfl, b1⟩
    | true =>
      go_enter Try.func56, Try.ntmps56
      go_wp2_with fail
      refine (within_any _ _ _ _ HE.out _).mono ?_
      rintro e w1 ⟨rfl, b1⟩
      go_wp2_with fail
      go_loopw [17] (fun i wr => ∃ k : Nat, k ≤ n ∧ i = .int .i64 k ∧ (∀ i, i < k → stBad l m i = false) ∧ Below w.heap.size w wr) (fun i _ => n - (intOf i).toNat)
      case atStart => exact ⟨0, Nat.zero_le _, rfl, fun i hi => absurd hi (by omega), b1⟩
      case round =>
        obtain ⟨k, hk, rfl, hpre, hbel⟩ := hrel
        have Hpre := Lib.hid hpre
        clear hpre
        by_cases hlt : k < n
        · have hl1 : k < l.length := by have := Hn.out; omega
          obtain ⟨b, off, xs, rfl, hSb, hc, rfl, hi1, hi2⟩ := hl0.at_ hl1
          have hc0 := hc 0 _ rfl
          have hc1 := hc 1 _ rfl
          clear hc
          generalize hek : l[k] = ek at hc0 hc1 hi1 hi2
          obtain ⟨x, y⟩ := ek
          have Hek := Lib.hid (show l[k]? = some ⟨x, y⟩ by rw [List.getElem?_eq_getElem hl1, hek])
          have hc0' : wr.cell? ⟨b, off + k * 2, none⟩ = some (.int .i64 x) := (hbel.cell (hS _ hSb)).trans hc0
          have hc1' : wr.cell? ⟨b, off + k * 2 + 1, none⟩ = some (.int .i64 y) := (hbel.cell (hS _ hSb)).trans hc1
          have hI : (k : Int) < (n : Int) := by omega
          have hI0 : (0 : Int) ≤ (k : Int) := by omega
          obtain ⟨W, hW⟩ : ∃ W, W = wr.alloc (.cells #[.int .i64 x, .int .i64 y] 55) := ⟨_, rfl⟩
          have hbW : Below w.heap.size w W := by subst hW; exact hbel.alloc hbel.size _
          have e0 : ∀ p : Aft W, p.world.cell? ⟨wr.heap.size, 0, none⟩ = some (.int .i64 x) := Aft.cell (by subst hW; simp)
          have e1 : ∀ p : Aft W, p.world.cell? ⟨wr.heap.size, 1, none⟩ = some (.int .i64 y) := Aft.cell (by subst hW; simp)
          clear hc0 hc1 hek hi1 hi2
          obtain ⟨r1, hr1⟩ : ∃ r, decide (1 ≤ x ∧ x ≤ 1000) = r := ⟨_, rfl⟩
          obtain ⟨r2, hr2⟩ : ∃ r, decide (0 ≤ y ∧ y ≤ m) = r := ⟨_, rfl⟩
          have HW := Lib.hid hW
          have Hr1 := Lib.hid hr1
          have Hr2 := Lib.hid hr2
          clear hW hr1 hr2
          go_wp2_with fail
          rw [← HW.out]
          by_cases hz : k = 0
          · have d0 : decide (0 < k) = false := decide_eq_false (by omega)
            have Hbad := Lib.hid (stBad_eq Hek.out Hr1.out Hr2.out hz)
            clear hz
            cases r1 <;> cases r2
            all_goals
              simp only [Bool.not_true, Bool.not_false, Bool.or_true, Bool.or_false, Bool.or_self] at Hbad
              refine wp_region_aft (by kernel_rfl) (by kernel_rfl) ?_
              repeat (go_big_quiet_step (first | (go_at_call 66; with_reducible exact Calls.aft (within_any x 1 1000 _ Hr1.out _)) | (go_at_call 66; with_reducible exact Calls.aft (within_any y 0 m _ Hr2.out _))))
              refine wpQuiet_nil ?_
              rintro _ ⟨p, rfl⟩
              have hb2 : Below w.heap.size w p.world := hbW.trans (p.below.mono hbW.size)
              go_wp2_with fail
              first
                | (go_ret
                   exact ⟨by rw [Hg.out, stAll_no hl1 Hbad.out]; rfl, hb2⟩)
                | (go_roundw
                   case rel => exact ⟨k + 1, by omega, by go_num, stBad_succ Hpre.out Hbad.out, hb2⟩
                   case measure => simp [intOf]; omega)
          · obtain ⟨j, hj⟩ : ∃ j, k = j + 1 := ⟨k - 1, by omega⟩
            have d0 : decide (0 < k) = true := decide_eq_true (by omega)
            have hl2 : j < l.length := by omega
            obtain ⟨b', off', xs', e', hSb', hc, rfl, hj1, hj2⟩ := hl0.at_ hl2
            obtain ⟨rfl, rfl⟩ : b = b' ∧ off = off' := by simpa using e'
            have hcc0 := hc 0 _ rfl
            have hcc1 := hc 1 _ rfl
            generalize hej : l[j] = ej at hcc0 hcc1
            obtain ⟨u, v⟩ := ej
            have e2 : ∀ p : Aft W, p.world.cell? ⟨b, off + j * 2, none⟩ = some (.int .i64 u) := Aft.cell ((hbW.cell (hS _ hSb)).trans hcc0)
            have e3 : ∀ p : Aft W, p.world.cell? ⟨b, off + j * 2 + 1, none⟩ = some (.int .i64 v) := Aft.cell ((hbW.cell (hS _ hSb)).trans hcc1)
            have Hj := Lib.hid (show l[k - 1]? = some ⟨u, v⟩ by rw [hj, ← hej]; exact List.getElem?_eq_getElem hl2)
            have hsub : IntKind.i64.wrap ((k : Int) - 1) = (j : Int) := by rw [IntKind.wrap_i64]; omega
            have hsub0 : (0 : Int) ≤ (j : Int) := by omega
            have hsub1 : (j : Int) < (n : Int) := by omega
            obtain ⟨r3, hr3⟩ : ∃ r, decide (x ≤ u) = r := ⟨_, rfl⟩
            obtain ⟨r4, hr4⟩ : ∃ r, decide (y ≤ v) = r := ⟨_, rfl⟩
            have Hbad := Lib.hid (stBad_eq2 Hek.out Hr1.out Hr2.out (by omega) Hj.out hr3 hr4)
            clear hc e' hj1 hj2 hj hz hej hcc0 hcc1
            cases r1 <;> cases r2 <;> cases r3 <;> cases r4
            all_goals
              simp only [Bool.not_true, Bool.not_false, Bool.or_true, Bool.or_false, Bool.or_self] at Hbad
              refine wp_region_aft (by kernel_rfl) (by kernel_rfl) ?_
              repeat (go_big_quiet_step (first | (go_at_call 66; with_reducible exact Calls.aft (within_any x 1 1000 _ Hr1.out _)) | (go_at_call 66; with_reducible exact Calls.aft (within_any y 0 m _ Hr2.out _))))
              refine wpQuiet_nil ?_
              rintro _ ⟨p, rfl⟩
              have hb2 : Below w.heap.size w p.world := hbW.trans (p.below.mono hbW.size)
              go_wp2_with fail
              first
                | (go_ret
                   exact ⟨by rw [Hg.out, stAll_no hl1 Hbad.out]; rfl, hb2⟩)
                | (go_roundw
                   case rel => exact ⟨k + 1, by omega, by go_num, stBad_succ Hpre.out Hbad.out, hb2⟩
                   case measure => simp [intOf]; omega)
        · have Hall := Lib.hid (stAll_yes (m := m) Hn.out fun i hi => Hpre.out i (by omega))
          go_wp2_with fail
          go_ret
          exact ⟨by rw [Hg.out, Hall.out]; rfl, hbel⟩
  · have d40 : decide (40 < (n : Int)) = true := decide_eq_true (by omega)
    have hlen : decide (l.length ≤ 40) = false := decide_eq_false (by omega)
    have Hg := Lib.hid (show goodSt l e = false by unfold goodSt; rw [hlen]; rfl)
    have Hn := Lib.hid hn
    have HE := Lib.hid hE
    have Hlen := Lib.hid hlen
    clear hn hE hlen
    go_enter Try.func56, Try.ntmps56
    go_wp2_with fail
    go_ret
    exact ⟨by rw [Hg.out]; rfl, Below.refl _ _⟩

theorem l7GoodStarts_any (l : List P2) (e : Int) (he : I64 e) (w : World) (S : Nat → Prop) (hS : ∀ b, S b → b < w.heap.size) (A : Option Addr) (n c : Nat) (hl0 : RepL w S l A n c) :
    Calls Try.prog 53 #[.slice A n c, .int .i64 e] w fun x w' => x = .returned (.bool (goodSt l e)) ∧ Below w.heap.size w w' := by
  have hbd := hl0.bd
  have hn := hl0.1
  obtain ⟨rE, hE⟩ : ∃ r, decide (0 ≤ e ∧ e ≤ 40) = r := ⟨_, rfl⟩
  obtain ⟨rL, hL⟩ : ∃ r, decide ((n : Int) ≤ 40) = r := ⟨_, rfl⟩
  have hlen : decide (l.length ≤ 40) = rL := by rw [← hL, ← hn]; apply decide_eq_decide.2; omega
  obtain ⟨m, hm⟩ : ∃ m, IntKind.i64.wrap (e - 1) = m := ⟨_, rfl⟩
  have Hg := Lib.hid (show goodSt l e = ((rL && rE) && stAll l m) by unfold goodSt; rw [hlen, hE, hm])
  have Hn := Lib.hid hn
  have HE := Lib.hid hE
  have Hlen := Lib.hid hlen
  clear hn hE hlen
  go_enter Try.func53, Try.ntmps53
  go_wp2_with fail
  go_loopw [9] (fun i wr => ∃ k : Nat, k ≤ n ∧ i = .int .i64 k ∧ (∀ i, i < k → stBad l m i = false) ∧ Below w.heap.size w wr) (fun i _ => n - (intOf i).toNat)
  case atStart => exact ⟨0, Nat.zero_le _, rfl, fun i hi => absurd hi (by omega), Below.refl _ _⟩
  case round =>
    obtain ⟨k, hk, rfl, hpre, hbel⟩ := hrel
    have Hpre := Lib.hid hpre
    clear hpre
    by_cases hlt : k < n
    · have hl1 : k < l.length := by have := Hn.out; omega
      obtain ⟨b, off, xs, rfl, hSb, hc, rfl, hi1, hi2⟩ := hl0.at_ hl1
      have hc0 := hc 0 _ rfl
      have hc1 := hc 1 _ rfl
      clear hc
      generalize hek : l[k] = ek at hc0 hc1 hi1 hi2
      obtain ⟨x, y⟩ := ek
      have Hek := Lib.hid (show l[k]? = some ⟨x, y⟩ by rw [List.getElem?_eq_getElem hl1, hek])
      have hc0' : wr.cell? ⟨b, off + k * 2, none⟩ = some (.int .i64 x) := (hbel.cell (hS _ hSb)).trans hc0
      have hc1' : wr.cell? ⟨b, off + k * 2 + 1, none⟩ = some (.int .i64 y) := (hbel.cell (hS _ hSb)).trans hc1
      have hI : (k : Int) < (n : Int) := by omega
      have hI0 : (0 : Int) ≤ (k : Int) := by omega
      obtain ⟨W, hW⟩ : ∃ W, W = wr.alloc (.cells #[.int .i64 x, .int .i64 y] 55) := ⟨_, rfl⟩
      have hbW : Below w.heap.size w W := by subst hW; exact hbel.alloc hbel.size _
      have e0 : ∀ p : Aft W, p.world.cell? ⟨wr.heap.size, 0, none⟩ = some (.int .i64 x) := Aft.cell (by subst hW; simp)
      have e1 : ∀ p : Aft W, p.world.cell? ⟨wr.heap.size, 1, none⟩ = some (.int .i64 y) := Aft.cell (by subst hW; simp)
      clear hc0 hc1 hek hi1 hi2
      obtain ⟨r1, hr1⟩ : ∃ r, decide (1 ≤ x ∧ x ≤ 1000) = r := ⟨_, rfl⟩
      obtain ⟨r2, hr2⟩ : ∃ r, decide (0 ≤ y ∧ y ≤ m) = r := ⟨_, rfl⟩
      have HW := Lib.hid hW
      have Hr1 := Lib.hid hr1
      have Hr2 := Lib.hid hr2
      clear hW hr1 hr2
      go_wp2_with fail
      rw [← HW.out]
      by_cases hz : k = 0
      · have d0 : decide (0 < k) = false := decide_eq_false (by omega)
        have Hbad := Lib.hid (stBad_eq Hek.out Hr1.out Hr2.out hz)
        clear hz
        cases r1 <;> cases r2
        all_goals
          simp only [Bool.not_true, Bool.not_false, Bool.or_true, Bool.or_false, Bool.or_self] at Hbad
          refine wp_region_aft (by kernel_rfl) (by kernel_rfl) ?_
          repeat (go_big_quiet_step (first | (go_at_call 64; with_reducible exact Calls.aft (l1In_any x 1 1000 _ Hr1.out _)) | (go_at_call 64; with_reducible exact Calls.aft (l1In_any y 0 m _ Hr2.out _))))
          refine wpQuiet_nil ?_
          rintro _ ⟨p, rfl⟩
          have hb2 : Below w.heap.size w p.world := hbW.trans (p.below.mono hbW.size)
          go_wp2_with fail
          first
            | (go_ret
               exact ⟨by rw [Hg.out, stAll_no hl1 Hbad.out, Bool.and_false]; rfl, hb2⟩)
            | (go_roundw
               case rel => exact ⟨k + 1, by omega, by go_num, stBad_succ Hpre.out Hbad.out, hb2⟩
               case measure => simp [intOf]; omega)
      · obtain ⟨j, hj⟩ : ∃ j, k = j + 1 := ⟨k - 1, by omega⟩
        have d0 : decide (0 < k) = true := decide_eq_true (by omega)
        have hl2 : j < l.length := by omega
        obtain ⟨b', off', xs', e', hSb', hc, rfl, hj1, hj2⟩ := hl0.at_ hl2
        obtain ⟨rfl, rfl⟩ : b = b' ∧ off = off' := by simpa using e'
        have hcc0 := hc 0 _ rfl
        have hcc1 := hc 1 _ rfl
        generalize hej : l[j] = ej at hcc0 hcc1
        obtain ⟨u, v⟩ := ej
        have e2 : ∀ p : Aft W, p.world.cell? ⟨b, off + j * 2, none⟩ = some (.int .i64 u) := Aft.cell ((hbW.cell (hS _ hSb)).trans hcc0)
        have e3 : ∀ p : Aft W, p.world.cell? ⟨b, off + j * 2 + 1, none⟩ = some (.int .i64 v) := Aft.cell ((hbW.cell (hS _ hSb)).trans hcc1)
        have Hj := Lib.hid (show l[k - 1]? = some ⟨u, v⟩ by rw [hj, ← hej]; exact List.getElem?_eq_getElem hl2)
        have hsub : IntKind.i64.wrap ((k : Int) - 1) = (j : Int) := by rw [IntKind.wrap_i64]; omega
        have hsub0 : (0 : Int) ≤ (j : Int) := by omega
        have hsub1 : (j : Int) < (n : Int) := by omega
        obtain ⟨r3, hr3⟩ : ∃ r, decide (x ≤ u) = r := ⟨_, rfl⟩
        obtain ⟨r4, hr4⟩ : ∃ r, decide (y ≤ v) = r := ⟨_, rfl⟩
        have Hbad := Lib.hid (stBad_eq2 Hek.out Hr1.out Hr2.out (by omega) Hj.out hr3 hr4)
        clear hc e' hj1 hj2 hj hz hej hcc0 hcc1
        cases r1 <;> cases r2 <;> cases r3 <;> cases r4
        all_goals
          simp only [Bool.not_true, Bool.not_false, Bool.or_true, Bool.or_false, Bool.or_self] at Hbad
          refine wp_region_aft (by kernel_rfl) (by kernel_rfl) ?_
          repeat (go_big_quiet_step (first | (go_at_call 64; with_reducible exact Calls.aft (l1In_any x 1 1000 _ Hr1.out _)) | (go_at_call 64; with_reducible exact Calls.aft (l1In_any y 0 m _ Hr2.out _))))
          refine wpQuiet_nil ?_
          rintro _ ⟨p, rfl⟩
          have hb2 : Below w.heap.size w p.world := hbW.trans (p.below.mono hbW.size)
          go_wp2_with fail
          first
            | (go_ret
               exact ⟨by rw [Hg.out, stAll_no hl1 Hbad.out, Bool.and_false]; rfl, hb2⟩)
            | (go_roundw
               case rel => exact ⟨k + 1, by omega, by go_num, stBad_succ Hpre.out Hbad.out, hb2⟩
               case measure => simp [intOf]; omega)
    · have Hall := Lib.hid (stAll_yes (m := m) Hn.out fun i hi => Hpre.out i (by omega))
      cases rL with
      | true =>
        go_wp2_with fail
        refine (l1In_any _ _ _ _ HE.out _).mono ?_
        rintro e w1 ⟨rfl, b1⟩
        go_wp2_with fail
        go_ret
        exact ⟨by rw [Hg.out, Hall.out, Bool.and_true]; rfl, bnext hbel b1⟩
      | false =>
        go_wp2_with fail
        go_ret
        exact ⟨by rw [Hg.out]; rfl, hbel⟩
end Go.Proofs.Ytgcliipdkoefaaa

/-
  Contracts: FindPart of the reference and of the program.
-/
namespace Go.Proofs.Ytgcliipdkoefaaa
open Go.ChangeShapes Go.WideShapes Go.ChangeAt Go.RowKit Go.BigFrame Go.Deep
set_option linter.unusedVariables false

set_option maxHeartbeats 4000000
/-- What FindPart answers. -/
noncomputable def fpOk (l : List IS) (st : List P2) (e : Int) : Bool := goodEn l && goodSt st e
noncomputable def fpAns (l : List IS) (st : List P2) (e : Int) : Int × Int := if fpOk l st e then findL l st e else (0, 0)
theorem fpAns_no {l : List IS} {st : List P2} {e : Int} (h : fpOk l st e = false) : fpAns l st e = (0, 0) := by unfold fpAns; rw [h]; rfl
theorem fpAns_yes {l : List IS} {st : List P2} {e : Int} (h : fpOk l st e = true) : fpAns l st e = findL l st e := by unfold fpAns; rw [h]; rfl

theorem spec_FindPart_any (l : List IS) (st : List P2) (e : Int) (he : I64 e) (w : World) (S : Nat → Prop) (hS : ∀ b, S b → b < w.heap.size) (A A' : Option Addr) (n c n' c' : Nat) (hl0 : RepL w S l A n c) (hl1 : RepL w S st A' n' c') :
    Calls Try.prog 21 #[.slice A n c, .slice A' n' c', .int .i64 e] w fun x w' => x = .returned (.tuple #[.int .i64 (fpAns l st e).1, .int .i64 (fpAns l st e).2, .bool (fpOk l st e)]) ∧ Below w.heap.size w w' := by
  obtain ⟨r, hr⟩ : ∃ r, goodEn l = r := ⟨_, rfl⟩
  obtain ⟨r', hr'⟩ : ∃ r, goodSt st e = r := ⟨_, rfl⟩
  have C1 := Lib.hid (fun w S hS h => spec_GoodEntries_any l w S hS A n c h)
  have C2 := Lib.hid (fun w S hS h => l7GoodStarts_any st e he w S hS A' n' c' h)
  have Hok := Lib.hid (show fpOk l st e = (r && r') by unfold fpOk; rw [hr, hr'])
  rw [hr] at C1
  rw [hr'] at C2
  have Hr := Lib.hid hr
  have Hr' := Lib.hid hr'
  clear hr hr'
  cases r with
  | false =>
    go_enter Try.func21, Try.ntmps21
    go_wp2_with fail
    refine (C1.out w S hS hl0).mono ?_
    rintro e w1 ⟨rfl, b1⟩
    go_wp2_with fail
    go_ret3
    exact ⟨by rw [fpAns_no Hok.out, Hok.out]; rfl, b1⟩
  | true =>
    cases r' with
    | false =>
      go_enter Try.func21, Try.ntmps21
      go_wp2_with fail
      refine (C1.out w S hS hl0).mono ?_
      rintro e w1 ⟨rfl, b1⟩
      go_wp2_with fail
      refine (C2.out w1 S (fun b hb => Nat.lt_of_lt_of_le (hS b hb) b1.size) (hl1.keep (fun p hp => b1.cell (hS _ hp)))).mono ?_
      rintro e w2 ⟨rfl, b2⟩
      go_wp2_with fail
      go_ret3
      exact ⟨by rw [fpAns_no Hok.out, Hok.out]; rfl, bnext b1 b2⟩
    | true =>
      go_enter Try.func21, Try.ntmps21
      go_wp2_with fail
      refine (C1.out w S hS hl0).mono ?_
      rintro e w1 ⟨rfl, b1⟩
      go_wp2_with fail
      refine (C2.out w1 S (fun b hb => Nat.lt_of_lt_of_le (hS b hb) b1.size) (hl1.keep (fun p hp => b1.cell (hS _ hp)))).mono ?_
      rintro e w2 ⟨rfl, b2⟩
      have B2 := bnext b1 b2
      go_wp2_with fail
      refine (l7Find_any l (goodEn_len Hr.out) st e he w2 S (fun b hb => Nat.lt_of_lt_of_le (hS b hb) B2.size) A A' n c n' c' (hl0.keep (fun p hp => B2.cell (hS _ hp))) (hl1.keep (fun p hp => B2.cell (hS _ hp)))).mono ?_
      rintro e w3 ⟨rfl, b3⟩
      go_wp2_with fail
      go_ret3
      exact ⟨by rw [fpAns_yes Hok.out, Hok.out]; rfl, bnext B2 b3⟩

theorem impl_FindPart_any (l : List IS) (st : List P2) (e : Int) (he : I64 e) (w : World) (S : Nat → Prop) (hS : ∀ b, S b → b < w.heap.size) (A A' : Option Addr) (n c n' c' : Nat) (hl0 : RepL w S l A n c) (hl1 : RepL w S st A' n' c') :
    Calls Try.prog 23 #[.slice A n c, .slice A' n' c', .int .i64 e] w fun x w' => x = .returned (.tuple #[.int .i64 (fpAns l st e).1, .int .i64 (fpAns l st e).2, .bool (fpOk l st e)]) ∧ Below w.heap.size w w' := by
  obtain ⟨r, hr⟩ : ∃ r, goodEn l = r := ⟨_, rfl⟩
  obtain ⟨r', hr'⟩ : ∃ r, goodSt st e = r := ⟨_, rfl⟩
  have C1 := Lib.hid (fun w S hS h => areEntries_any l w S hS A n c h)
  have C2 := Lib.hid (fun w S hS h => areStarts_any st e he w S hS A' n' c' h)
  have Hok := Lib.hid (show fpOk l st e = (r && r') by unfold fpOk; rw [hr, hr'])
  rw [hr] at C1
  rw [hr'] at C2
  have Hr := Lib.hid hr
  have Hr' := Lib.hid hr'
  clear hr hr'
  cases r with
  | false =>
    go_enter Try.func23, Try.ntmps23
    go_wp2_with fail
    refine (C1.out w S hS hl0).mono ?_
    rintro e w1 ⟨rfl, b1⟩
    go_wp2_with fail
    go_ret3
    exact ⟨by rw [fpAns_no Hok.out, Hok.out]; rfl, b1⟩
  | true =>
    cases r' with
    | false =>
      go_enter Try.func23, Try.ntmps23
      go_wp2_with fail
      refine (C1.out w S hS hl0).mono ?_
      rintro e w1 ⟨rfl, b1⟩
      go_wp2_with fail
      refine (C2.out w1 S (fun b hb => Nat.lt_of_lt_of_le (hS b hb) b1.size) (hl1.keep (fun p hp => b1.cell (hS _ hp)))).mono ?_
      rintro e w2 ⟨rfl, b2⟩
      go_wp2_with fail
      go_ret3
      exact ⟨by rw [fpAns_no Hok.out, Hok.out]; rfl, bnext b1 b2⟩
    | true =>
      go_enter Try.func23, Try.ntmps23
      go_wp2_with fail
      refine (C1.out w S hS hl0).mono ?_
      rintro e w1 ⟨rfl, b1⟩
      go_wp2_with fail
      refine (C2.out w1 S (fun b hb => Nat.lt_of_lt_of_le (hS b hb) b1.size) (hl1.keep (fun p hp => b1.cell (hS _ hp)))).mono ?_
      rintro e w2 ⟨rfl, b2⟩
      have B2 := bnext b1 b2
      go_wp2_with fail
      refine (findPart_any l Hr.out (goodEn_len Hr.out) st e he w2 S (fun b hb => Nat.lt_of_lt_of_le (hS b hb) B2.size) A A' n c n' c' (hl0.keep (fun p hp => B2.cell (hS _ hp))) (hl1.keep (fun p hp => B2.cell (hS _ hp)))).mono ?_
      rintro e w3 ⟨rfl, b3⟩
      go_wp2_with fail
      go_ret3
      exact ⟨by rw [fpAns_yes Hok.out, Hok.out]; rfl, bnext B2 b3⟩
end Go.Proofs.Ytgcliipdkoefaaa

/-
  From the earlier kit's contracts over entries and starts to the calculus.
-/
namespace Go.Proofs.Ytgcliipdkoefaaa
open Go.ChangeShapes Go.WideShapes Go.ChangeAt Go.RowKit Go.BigFrame Go.Deep
set_option linter.unusedVariables false
set_option linter.unusedSimpArgs false
abbrev enC (L : List IS) : Nat → Nat → AV := fun i j => ([.int .i64 (L.getD i (default : GEntry)).n, .str (L.getD i (default : GEntry)).s] : List AV).getD j (.con undef)
abbrev ensAV (l : List IS) : AV := .lst 2 l.length (enC l)
abbrev stC (L : List P2) : Nat → Nat → AV := fun i j => ([.int .i64 (L.getD i (default : GStart)).a, .int .i64 (L.getD i (default : GStart)).b] : List AV).getD j (.con undef)
abbrev stsAV (l : List P2) : AV := .lst 2 l.length (stC l)
def allEn (l : List IS) : Prop := ∀ e ∈ l, 0 ≤ e.n ∧ e.n ≤ 2000
def allSt (l : List P2) : Prop := ∀ e ∈ l, (0 ≤ e.a ∧ e.a ≤ 2000) ∧ 0 ≤ e.b ∧ e.b ≤ 2000
theorem ens_rep {w : World} {S : Nat → Prop} {l : List IS} {v : Value} (h : D w S (ensAV l) v) (hok : allEn l) : ∃ A c, v = .slice A l.length c ∧ RepL w S l A l.length c := by
  obtain ⟨A, c, e, h1, h2, h3, h4⟩ := h
  refine ⟨A, c, e, rfl, A, c, rfl, h1, h2, h3, fun i hi => ?_⟩
  obtain ⟨b, off, hA, hS, hc⟩ := h4 i hi
  have eg : l.getD i (default : GEntry) = l[i] := by rw [List.getD_eq_getElem?_getD, List.getElem?_eq_getElem hi]; rfl
  obtain ⟨u0, hu0, hd0⟩ := hc 0 (by omega)
  obtain ⟨u1, hu1, hd1⟩ := hc 1 (by omega)
  have hd0 : u0 = .int .i64 (l.getD i (default : GEntry)).n := hd0
  have hd1 : u1 = .string (l.getD i (default : GEntry)).s ∧ (l.getD i (default : GEntry)).s.size ≤ maxLen := hd1
  rw [eg] at hd0 hd1
  obtain ⟨hd1, hsz⟩ := hd1
  subst hd0 hd1
  have hk := hok _ (List.getElem_mem hi)
  refine ⟨b, off, [.int .i64 l[i].n, .string l[i].s], hA, hS, fun j u' hj => ?_, ⟨rfl, ⟨by omega, by omega⟩, hsz⟩⟩
  match j, hj with
  | 0, hj => simp at hj; rw [← hj]; exact hu0
  | 1, hj => simp at hj; rw [← hj]; exact hu1
theorem rep_ens {w : World} {S : Nat → Prop} {l : List IS} {A : Option Addr} {n c : Nat} (h : RepL w S l A n c) : D w S (ensAV l) (.slice A n c) := by
  obtain ⟨hn, A', c', e, h1, h2, h3, h4⟩ := h
  subst hn
  simp only [List.cons.injEq, Value.slice.injEq, and_true, true_and] at e
  obtain ⟨rfl, rfl⟩ := e
  refine ⟨A, c, rfl, h1, h2, h3, fun i hi => ?_⟩
  obtain ⟨b, off, xs, hA, hS, hc, hr⟩ := h4 i hi
  refine ⟨b, off, hA, hS, fun j hj => ?_⟩
  have eg : l.getD i (default : GEntry) = l[i] := by rw [List.getD_eq_getElem?_getD, List.getElem?_eq_getElem hi]; rfl
  have hx : xs = [.int .i64 l[i].n, .string l[i].s] := hr.1
  have hz : l[i].s.size ≤ maxLen := hr.2.2
  subst hx
  match j, hj with
  | 0, _ => exact ⟨_, hc 0 _ rfl, show _ = Value.int .i64 (l.getD i (default : GEntry)).n by rw [eg]⟩
  | 1, _ => exact ⟨_, hc 1 _ rfl, show _ = Value.string (l.getD i (default : GEntry)).s ∧ (l.getD i (default : GEntry)).s.size ≤ maxLen by rw [eg]; exact ⟨rfl, hz⟩⟩
  | _ + 2, h => exact absurd h (by omega)
theorem sts_rep {w : World} {S : Nat → Prop} {l : List P2} {v : Value} (h : D w S (stsAV l) v) (hok : allSt l) : ∃ A c, v = .slice A l.length c ∧ RepL w S l A l.length c := by
  obtain ⟨A, c, e, h1, h2, h3, h4⟩ := h
  refine ⟨A, c, e, rfl, A, c, rfl, h1, h2, h3, fun i hi => ?_⟩
  obtain ⟨b, off, hA, hS, hc⟩ := h4 i hi
  have eg : l.getD i (default : GStart) = l[i] := by rw [List.getD_eq_getElem?_getD, List.getElem?_eq_getElem hi]; rfl
  obtain ⟨u0, hu0, hd0⟩ := hc 0 (by omega)
  obtain ⟨u1, hu1, hd1⟩ := hc 1 (by omega)
  have hd0 : u0 = .int .i64 (l.getD i (default : GStart)).a := hd0
  have hd1 : u1 = .int .i64 (l.getD i (default : GStart)).b := hd1
  rw [eg] at hd0 hd1
  subst hd0 hd1
  have hk := hok _ (List.getElem_mem hi)
  refine ⟨b, off, [.int .i64 l[i].a, .int .i64 l[i].b], hA, hS, fun j u' hj => ?_, ⟨rfl, ⟨by omega, by omega⟩, by omega, by omega⟩⟩
  match j, hj with
  | 0, hj => simp at hj; rw [← hj]; exact hu0
  | 1, hj => simp at hj; rw [← hj]; exact hu1
theorem rep_sts {w : World} {S : Nat → Prop} {l : List P2} {A : Option Addr} {n c : Nat} (h : RepL w S l A n c) : D w S (stsAV l) (.slice A n c) := by
  obtain ⟨hn, A', c', e, h1, h2, h3, h4⟩ := h
  subst hn
  simp only [List.cons.injEq, Value.slice.injEq, and_true, true_and] at e
  obtain ⟨rfl, rfl⟩ := e
  refine ⟨A, c, rfl, h1, h2, h3, fun i hi => ?_⟩
  obtain ⟨b, off, xs, hA, hS, hc, hr⟩ := h4 i hi
  refine ⟨b, off, hA, hS, fun j hj => ?_⟩
  have eg : l.getD i (default : GStart) = l[i] := by rw [List.getD_eq_getElem?_getD, List.getElem?_eq_getElem hi]; rfl
  have hx : xs = [.int .i64 l[i].a, .int .i64 l[i].b] := hr.1
  subst hx
  match j, hj with
  | 0, _ => exact ⟨_, hc 0 _ rfl, show _ = Value.int .i64 (l.getD i (default : GStart)).a by rw [eg]⟩
  | 1, _ => exact ⟨_, hc 1 _ rfl, show _ = Value.int .i64 (l.getD i (default : GStart)).b by rw [eg]⟩
  | _ + 2, h => exact absurd h (by omega)
theorem made_tr_sts {w : World} {g0 : Nat} {e : TypeId} {l : List P2} {A : Option Addr} {n c : Nat} (hn : n = l.length) (h : w.ownsRow g0 e 2 (.slice A n c) n (encs l)) : ∃ B : Nat → Prop, Tr w (stsAV l) (.slice A n c) B ∧ ∀ b, B b → g0 ≤ b ∧ b < w.heap.size := by
  subst hn
  rcases h.2 with ⟨e1, hn⟩ | ⟨g, cap, cur, e1, hg0, hb, hnc, hcm, hsz, htk⟩
  · simp only [Value.slice.injEq] at e1
    obtain ⟨rfl, _, rfl⟩ := e1
    exact ⟨fun _ => False, ⟨none, 0, rfl, by omega, by decide, .inl ⟨rfl, .inl rfl⟩⟩, fun _ h => h.elim⟩
  · simp only [Value.slice.injEq] at e1
    obtain ⟨rfl, _, rfl⟩ := e1
    have hlt : g < w.heap.size := (Array.getElem?_eq_some_iff.1 hb).1
    refine ⟨fun b => b = g, ⟨some ⟨g, 0, none⟩, c, rfl, hnc, hcm, .inr ⟨g, cur, e, rfl, rfl, hb, hsz, fun _ _ _ => False, fun i j hi hj => ⟨fun q hq => hq.elim, ?_⟩, fun _ _ _ _ _ _ _ _ _ _ h => h.elim⟩⟩, fun b h => by subst h; exact ⟨hg0, hlt⟩⟩
    have hx := encs_get l (i := i) (j := j) hi hj
    rw [← htk, List.getElem?_take] at hx
    have hs : Flat.size P2 = 2 := rfl
    rw [hs] at hx
    split at hx
    · have eg : l.getD i (default : GStart) = l[i] := by rw [List.getD_eq_getElem?_getD, List.getElem?_eq_getElem hi]; rfl
      match j, hj with
      | 0, _ => exact ⟨_, (by have h5 := hx; simp at h5; exact h5), show Value.int .i64 l[i].a = Value.int .i64 (l.getD i (default : GStart)).a by rw [eg]⟩
      | 1, _ => exact ⟨_, (by have h5 := hx; simp at h5; exact h5), show Value.int .i64 l[i].b = Value.int .i64 (l.getD i (default : GStart)).b by rw [eg]⟩
      | _ + 2, h => exact absurd h (by omega)
    · rename_i hq
      exact absurd (show i * 2 + j < l.length * 2 by omega) hq
theorem v_sPart (l l' : List IS) (hl : allEn l) (hl' : allEn l') : Fn Try.prog 29 [.one (ensAV l), .one (ensAV l')] (.tup2 (.one (.int .i64 (partInt l l'))) (.one (.bool (goodEn l && goodEn l')))) := by
  intro w S vs hS hd
  obtain ⟨v, vs1, rfl, h1, v2, vs2, rfl, h2, h3⟩ := hd
  obtain rfl : vs2 = [] := h3
  obtain ⟨A, c, rfl, r1⟩ := ens_rep h1 hl
  obtain ⟨A', c', rfl, r2⟩ := ens_rep h2 hl'
  exact (spec_PartAt_any l l' w S hS.lt A A' _ c _ c' r1 r2).mono fun e w' h => h
theorem v_sMatch (l l' : List IS) (hl : allEn l) (hl' : allEn l') : Fn Try.prog 10 [.one (ensAV l), .one (ensAV l')] (.tup2 (.one (.bool ((goodEn l && goodEn l') && mlAns l l'))) (.one (.bool (goodEn l && goodEn l')))) := by
  intro w S vs hS hd
  obtain ⟨v, vs1, rfl, h1, v2, vs2, rfl, h2, h3⟩ := hd
  obtain rfl : vs2 = [] := h3
  obtain ⟨A, c, rfl, r1⟩ := ens_rep h1 hl
  obtain ⟨A', c', rfl, r2⟩ := ens_rep h2 hl'
  exact (spec_MatchLogs_any l l' w S hS.lt A A' _ c _ c' r1 r2).mono fun e w' h => h
theorem v_sNewer (l l' : List IS) (hl : allEn l) (hl' : allEn l') : Fn Try.prog 31 [.one (ensAV l), .one (ensAV l')] (.tup2 (.one (.bool ((goodEn l && goodEn l') && newer l l'))) (.one (.bool (goodEn l && goodEn l')))) := by
  intro w S vs hS hd
  obtain ⟨v, vs1, rfl, h1, v2, vs2, rfl, h2, h3⟩ := hd
  obtain rfl : vs2 = [] := h3
  obtain ⟨A, c, rfl, r1⟩ := ens_rep h1 hl
  obtain ⟨A', c', rfl, r2⟩ := ens_rep h2 hl'
  exact (spec_IsNewer_any l l' w S hS.lt A A' _ c _ c' r1 r2).mono fun e w' h => h
theorem v_sGood (l : List IS) (hl : allEn l) : Fn Try.prog 33 [.one (ensAV l)] (.one (.bool (goodEn l))) := by
  intro w S vs hS hd
  obtain ⟨v, vs1, rfl, h1, h3⟩ := hd
  obtain rfl : vs1 = [] := h3
  obtain ⟨A, c, rfl, r1⟩ := ens_rep h1 hl
  exact (spec_GoodEntries_any l w S hS.lt A _ c r1).mono fun e w' h => h
theorem v_sStarts (l : List IS) (hl : allEn l) : FnF Try.prog 14 [.one (ensAV l)] (.tup2 (.one (stsAV (ssOf l))) (.one (.bool (goodEn l)))) := by
  intro w S vs hS hd
  obtain ⟨v, vs1, rfl, h1, h3⟩ := hd
  obtain rfl : vs1 = [] := h3
  obtain ⟨A, c, rfl, r1⟩ := ens_rep h1 hl
  refine (spec_StartsOf_any l w S hS.lt A _ c r1).mono fun e w' h => ?_
  obtain ⟨A2, m, c2, rfl, _, hm, hb⟩ := h
  exact ⟨_, rfl, ⟨_, _, rfl, rep_sts hm.2, rfl⟩, hb⟩
theorem v_sStartsT (l : List IS) (hl : allEn l) : FnT Try.prog 14 [.one (ensAV l)] (.tup2 (.one (stsAV (ssOf l))) (.one (.bool (goodEn l)))) := by
  intro w S vs hS hd
  obtain ⟨v, vs1, rfl, h1, h3⟩ := hd
  obtain rfl : vs1 = [] := h3
  obtain ⟨A, c, rfl, r1⟩ := ens_rep h1 hl
  refine (spec_StartsOf_any l w S hS.lt A _ c r1).mono fun e w' h => ?_
  obtain ⟨A2, m, c2, rfl, _, hm, hb⟩ := h
  obtain ⟨B, hB, hlt⟩ := made_tr_sts hm.2.1 hm.1
  refine ⟨_, fun p b => p = 0 ∧ B b, rfl, hb, ⟨[_, _], ⟨_, _, [_], [_], rfl, rfl, rfl, rfl⟩, ⟨_, _, rfl, ?_, _, _, rfl, rfl, rfl⟩⟩, fun p q b _ _ hne h1 h2 => hne (h1.1.trans h2.1.symm), fun p b _ h => hlt b h.2⟩
  show Tr w' _ _ (fun b => 0 = 0 ∧ B b)
  rw [show (fun b => 0 = 0 ∧ B b) = B from funext fun b => propext ⟨And.right, fun h => ⟨rfl, h⟩⟩]
  exact hB
theorem v_sEnd (l : List IS) (hl : allEn l) (m : Int) (hm : I64 m) : Fn Try.prog 38 [.one (ensAV l), .one (.int .i64 m)] (.tup2 (.one (.int .i64 (endInt l m))) (.one (.bool (endOk l m)))) := by
  intro w S vs hS hd
  obtain ⟨v, vs1, rfl, h1, v2, vs2, rfl, h2, h3⟩ := hd
  obtain rfl : vs2 = [] := h3
  have h2 : v2 = _ := h2
  subst h2
  obtain ⟨A, c, rfl, r1⟩ := ens_rep h1 hl
  exact (spec_EndOfEpoch_any l m hm w S hS.lt A _ c r1).mono fun e w' h => h
theorem v_sFollow (l l' : List IS) (hl : allEn l) (hl' : allEn l') : FnF Try.prog 24 [.one (ensAV l), .one (ensAV l')] (.tup3 (.one (ensAV (foAns l l'))) (.one (.int .i64 (foPl l l'))) (.one (.bool (goodEn l && goodEn l')))) := by
  intro w S vs hS hd
  obtain ⟨v, vs1, rfl, h1, v2, vs2, rfl, h2, h3⟩ := hd
  obtain rfl : vs2 = [] := h3
  obtain ⟨A, c, rfl, r1⟩ := ens_rep h1 hl
  obtain ⟨A', c', rfl, r2⟩ := ens_rep h2 hl'
  refine (spec_FollowLog_any l l' w S hS.lt A A' _ c _ c' r1 r2).mono fun e w' h => ?_
  obtain ⟨A2, m, c2, rfl, _, hm, hb⟩ := h
  exact ⟨_, rfl, ⟨_, _, _, rfl, rep_ens hm.2, rfl, rfl⟩, hb⟩
theorem v_sFind (l : List IS) (hl : allEn l) (st : List P2) (hst : allSt st) (m : Int) (hm : I64 m) : Fn Try.prog 21 [.one (ensAV l), .one (stsAV st), .one (.int .i64 m)] (.tup3 (.one (.int .i64 (fpAns l st m).1)) (.one (.int .i64 (fpAns l st m).2)) (.one (.bool (fpOk l st m)))) := by
  intro w S vs hS hd
  obtain ⟨v, vs1, rfl, h1, v2, vs2, rfl, h2, v3, vs3, rfl, h3, h4⟩ := hd
  obtain rfl : vs3 = [] := h4
  have h3 : v3 = _ := h3
  subst h3
  obtain ⟨A, c, rfl, r1⟩ := ens_rep h1 hl
  obtain ⟨A', c', rfl, r2⟩ := sts_rep h2 hst
  exact (spec_FindPart_any l st m hm w S hS.lt A A' _ c _ c' r1 r2).mono fun e w' h => h
theorem v_iPart (l l' : List IS) (hl : allEn l) (hl' : allEn l') : Fn Try.prog 28 [.one (ensAV l), .one (ensAV l')] (.tup2 (.one (.int .i64 (partInt l l'))) (.one (.bool (goodEn l && goodEn l')))) := by
  intro w S vs hS hd
  obtain ⟨v, vs1, rfl, h1, v2, vs2, rfl, h2, h3⟩ := hd
  obtain rfl : vs2 = [] := h3
  obtain ⟨A, c, rfl, r1⟩ := ens_rep h1 hl
  obtain ⟨A', c', rfl, r2⟩ := ens_rep h2 hl'
  exact (impl_PartAt_any l l' w S hS.lt A A' _ c _ c' r1 r2).mono fun e w' h => h
theorem v_iMatch (l l' : List IS) (hl : allEn l) (hl' : allEn l') : Fn Try.prog 12 [.one (ensAV l), .one (ensAV l')] (.tup2 (.one (.bool ((goodEn l && goodEn l') && mlAns l l'))) (.one (.bool (goodEn l && goodEn l')))) := by
  intro w S vs hS hd
  obtain ⟨v, vs1, rfl, h1, v2, vs2, rfl, h2, h3⟩ := hd
  obtain rfl : vs2 = [] := h3
  obtain ⟨A, c, rfl, r1⟩ := ens_rep h1 hl
  obtain ⟨A', c', rfl, r2⟩ := ens_rep h2 hl'
  exact (impl_MatchLogs_any l l' w S hS.lt A A' _ c _ c' r1 r2).mono fun e w' h => h
theorem v_iNewer (l l' : List IS) (hl : allEn l) (hl' : allEn l') : Fn Try.prog 30 [.one (ensAV l), .one (ensAV l')] (.tup2 (.one (.bool ((goodEn l && goodEn l') && newer l l'))) (.one (.bool (goodEn l && goodEn l')))) := by
  intro w S vs hS hd
  obtain ⟨v, vs1, rfl, h1, v2, vs2, rfl, h2, h3⟩ := hd
  obtain rfl : vs2 = [] := h3
  obtain ⟨A, c, rfl, r1⟩ := ens_rep h1 hl
  obtain ⟨A', c', rfl, r2⟩ := ens_rep h2 hl'
  exact (impl_IsNewer_any l l' w S hS.lt A A' _ c _ c' r1 r2).mono fun e w' h => h
theorem v_iGood (l : List IS) (hl : allEn l) : Fn Try.prog 46 [.one (ensAV l)] (.one (.bool (goodEn l))) := by
  intro w S vs hS hd
  obtain ⟨v, vs1, rfl, h1, h3⟩ := hd
  obtain rfl : vs1 = [] := h3
  obtain ⟨A, c, rfl, r1⟩ := ens_rep h1 hl
  exact (areEntries_any l w S hS.lt A _ c r1).mono fun e w' h => h
theorem v_iStarts (l : List IS) (hl : allEn l) : FnF Try.prog 15 [.one (ensAV l)] (.tup2 (.one (stsAV (ssOf l))) (.one (.bool (goodEn l)))) := by
  intro w S vs hS hd
  obtain ⟨v, vs1, rfl, h1, h3⟩ := hd
  obtain rfl : vs1 = [] := h3
  obtain ⟨A, c, rfl, r1⟩ := ens_rep h1 hl
  refine (impl_StartsOf_any l w S hS.lt A _ c r1).mono fun e w' h => ?_
  obtain ⟨A2, m, c2, rfl, _, hm, hb⟩ := h
  exact ⟨_, rfl, ⟨_, _, rfl, rep_sts hm.2, rfl⟩, hb⟩
theorem v_iEnd (l : List IS) (hl : allEn l) (m : Int) (hm : I64 m) : Fn Try.prog 36 [.one (ensAV l), .one (.int .i64 m)] (.tup2 (.one (.int .i64 (endInt l m))) (.one (.bool (endOk l m)))) := by
  intro w S vs hS hd
  obtain ⟨v, vs1, rfl, h1, v2, vs2, rfl, h2, h3⟩ := hd
  obtain rfl : vs2 = [] := h3
  have h2 : v2 = _ := h2
  subst h2
  obtain ⟨A, c, rfl, r1⟩ := ens_rep h1 hl
  exact (impl_EndOfEpoch_any l m hm w S hS.lt A _ c r1).mono fun e w' h => h
theorem v_iFollow (l l' : List IS) (hl : allEn l) (hl' : allEn l') : FnF Try.prog 25 [.one (ensAV l), .one (ensAV l')] (.tup3 (.one (ensAV (foAns l l'))) (.one (.int .i64 (foPl l l'))) (.one (.bool (goodEn l && goodEn l')))) := by
  intro w S vs hS hd
  obtain ⟨v, vs1, rfl, h1, v2, vs2, rfl, h2, h3⟩ := hd
  obtain rfl : vs2 = [] := h3
  obtain ⟨A, c, rfl, r1⟩ := ens_rep h1 hl
  obtain ⟨A', c', rfl, r2⟩ := ens_rep h2 hl'
  refine (impl_FollowLog_any l l' w S hS.lt A A' _ c _ c' r1 r2).mono fun e w' h => ?_
  obtain ⟨A2, m, c2, rfl, _, hm, hb⟩ := h
  exact ⟨_, rfl, ⟨_, _, _, rfl, rep_ens hm.2, rfl, rfl⟩, hb⟩
theorem v_iFind (l : List IS) (hl : allEn l) (st : List P2) (hst : allSt st) (m : Int) (hm : I64 m) : Fn Try.prog 23 [.one (ensAV l), .one (stsAV st), .one (.int .i64 m)] (.tup3 (.one (.int .i64 (fpAns l st m).1)) (.one (.int .i64 (fpAns l st m).2)) (.one (.bool (fpOk l st m)))) := by
  intro w S vs hS hd
  obtain ⟨v, vs1, rfl, h1, v2, vs2, rfl, h2, v3, vs3, rfl, h3, h4⟩ := hd
  obtain rfl : vs3 = [] := h4
  have h3 : v3 = _ := h3
  subst h3
  obtain ⟨A, c, rfl, r1⟩ := ens_rep h1 hl
  obtain ⟨A', c', rfl, r2⟩ := sts_rep h2 hst
  exact (impl_FindPart_any l st m hm w S hS.lt A A' _ c _ c' r1 r2).mono fun e w' h => h
end Go.Proofs.Ytgcliipdkoefaaa

/-
  A calculus for walks, part 33: a call that is handed objects, rewrites them as it likes, and leaves other objects.
-/
namespace Go.Proofs.Ytgcliipdkoefaaa
open Go.ChangeShapes Go.WideShapes Go.ChangeAt Go.RowKit Go.BigFrame Go.Deep
set_option linter.unusedVariables false

set_option linter.unusedSimpArgs false
/-- Values that speak of nothing but the objects K. -/
def AV.hx (K : List Nat) : AV → Bool
  | .ptr id _ _ _ => K.contains id
  | .own id _ _ => K.contains id
  | .tre id _ => K.contains id
  | .tl id _ _ _ => K.contains id
  | .int _ _ => true
  | .bool _ => true
  | .str _ => true
  | .con _ => true
  | .lst _ n _ => n == 0
  | _ => false
def SV.hx (K : List Nat) : SV → Bool
  | .one x => x.hx K
  | .agg l => l.all (AV.hx K)
  | .tup2 x y => x.hx K && y.hx K
  | .tup3 x y z => x.hx K && y.hx K && z.hx K
  | .tup4 _ _ _ _ => false
  | .gd _ _ => false
/-- ρn names the object g k as ρ' does k. -/
structure AtR (ρ' ρn : Rho) (k k' : Nat) : Prop where
  m : ρn.m k' = ρ'.m k
  v : ρn.tv k' = ρ'.tv k
  b : ρn.tb k' = ρ'.tb k
  n : ρn.tn k' = ρ'.tn k
section
variable {ρ ρ' ρn : Rho} {g g' : Nat → Nat} {K : List Nat} {w : World} {S S' : Nat → Prop}
theorem AV.hx_r (hat : ∀ k, K.contains k = true → AtR ρ' ρn k (g' k)) {x : AV} {v : Value} (h : x.hx K = true) (hr : R ρ' w S' x v) : R ρn w S (x.ren g') v := by
  cases x with
  | ptr id sz i j =>
    have hr : v = .pointer (some ⟨(ρ'.m id).1, i * sz + j, none⟩) := hr
    rw [← (hat id h).m] at hr
    exact hr
  | own id sz n =>
    have hr : ∃ A, v = .slice A n (ρ'.m id).2 ∧ n ≤ (ρ'.m id).2 ∧ (ρ'.m id).2 ≤ maxLen ∧ (A = some ⟨(ρ'.m id).1, 0, none⟩ ∨ (A = none ∧ (ρ'.m id).2 = 0)) := hr
    rw [← (hat id h).m] at hr
    exact hr
  | tl id sz q n =>
    have hr : ∃ A, v = .slice A (n - q) ((ρ'.m id).2 - q) ∧ q ≤ n ∧ n ≤ (ρ'.m id).2 ∧ (ρ'.m id).2 ≤ maxLen ∧ (A = some ⟨(ρ'.m id).1, q * sz, none⟩ ∨ (ρ'.m id).2 = q) := hr
    rw [← (hat id h).m] at hr
    exact hr
  | tre id i =>
    have hr : v = ρ'.tv id i ∧ i < ρ'.tn id ∧ ∃ A n c, v = .slice A n c := hr
    rw [← (hat id h).v, ← (hat id h).n] at hr
    exact hr
  | int k n => exact hr
  | bool b => exact hr
  | str s => exact hr
  | con c => exact hr
  | lst sz n f => exact AV.sc_r (x := .lst sz n f) h hr
  | ref _ _ => cases h
  | fn _ _ _ => cases h
  | frs _ => cases h
  | cv _ _ => cases h
theorem RL.hx_r (hat : ∀ k, K.contains k = true → AtR ρ' ρn k (g' k)) : ∀ {l : List AV} {us : List Value}, l.all (AV.hx K) = true → RL ρ' w S' l us → RL ρn w S (l.map (AV.ren g')) us
  | [], _, _, h => h
  | _ :: _, _, hh, ⟨u, us, e, h1, h2⟩ => by
    rw [List.all_cons, Bool.and_eq_true] at hh
    exact ⟨u, us, e, AV.hx_r hat hh.1 h1, RL.hx_r hat hh.2 h2⟩
theorem SV.hx_r (hat : ∀ k, K.contains k = true → AtR ρ' ρn k (g' k)) : ∀ {s : SV} {v : Value}, s.hx K = true → RS ρ' w S' s v → RS ρn w S (s.ren g') v
  | .one _, _, h, hr => AV.hx_r hat h hr
  | .agg _, _, h, ⟨us, e, hl⟩ => ⟨us, e, RL.hx_r hat h hl⟩
  | .tup2 _ _, _, h, ⟨a, b, e, h1, h2⟩ => by
    rw [SV.hx, Bool.and_eq_true] at h
    exact ⟨a, b, e, SV.hx_r hat h.1 h1, SV.hx_r hat h.2 h2⟩
  | .tup4 _ _ _ _, _, h, _ => by cases h
  | .tup3 _ _ _, _, h, ⟨a, b, c, e, h1, h2, h3⟩ => by
    rw [SV.hx, Bool.and_eq_true, Bool.and_eq_true] at h
    exact ⟨a, b, c, e, SV.hx_r hat h.1.1 h1, SV.hx_r hat h.1.2 h2, SV.hx_r hat h.2 h3⟩
  | .gd _ _, _, h, _ => by cases h
end
/-- p is the object q, its names by g. -/
def AObj.Rt (g : Nat → Nat) : AObj → AObj → Prop
  | .cells l, .cells m => m = l.map (AV.ren g)
  | .arr sz n f, .arr sz' n' f' => sz' = sz ∧ n' = n ∧ ∀ i j, i < n → j < sz → f' i j = (f i j).ren g
  | .trees n X, .trees n' X' => n' = n ∧ ∀ i, i < n → X' i = X i
  | _, _ => False
theorem AObj.Rt.shape {g : Nat → Nat} {q p : AObj} (h : AObj.Rt g q p) : p.sz = q.sz ∧ p.n = q.n := by
  cases q <;> cases p <;> first | exact h.elim | skip
  · have h : _ = _ := h
    subst h
    exact ⟨by simp [AObj.sz], rfl⟩
  · exact ⟨h.1, h.2.1⟩
  · exact ⟨rfl, rfl⟩
theorem AObj.Rt.at_ {g : Nat → Nat} {q p : AObj} (h : AObj.Rt g q p) {i j : Nat} (hi : i < q.n) (hj : j < q.sz) : p.f i j = (q.f i j).ren g := by
  cases q <;> cases p <;> first | exact h.elim | skip
  · rename_i l m
    have h : _ = _ := h
    subst h
    have hj : j < l.length := hj
    show (l.map (AV.ren g)).getD j _ = (l.getD j _).ren g
    rw [List.getD_eq_getElem?_getD, List.getD_eq_getElem?_getD, List.getElem?_map, List.getElem?_eq_getElem hj]
    rfl
  · exact h.2.2 i j hi hj
  · exact absurd hi (Nat.not_lt_zero _)
theorem AObj.Rt.trees {g : Nat → Nat} {q : AObj} {n : Nat} {X : Nat → AV} (h : AObj.Rt g q (.trees n X)) : ∃ X', q = .trees n X' ∧ ∀ i, i < n → X i = X' i := by
  cases q with
  | cells _ => exact h.elim
  | arr _ _ _ => exact h.elim
  | trees m Y => obtain ⟨rfl, h⟩ := h; exact ⟨Y, rfl, h⟩
theorem AObj.Rt.trees' {g : Nat → Nat} {p : AObj} {n : Nat} {X : Nat → AV} (h : AObj.Rt g (.trees n X) p) : ∃ X', p = .trees n X' ∧ ∀ i, i < n → X' i = X i := by
  cases p with
  | cells _ => exact h.elim
  | arr _ _ _ => exact h.elim
  | trees m Y => obtain ⟨rfl, h⟩ := h; exact ⟨Y, rfl, h⟩
def AObj.Hx (K : List Nat) : AObj → Prop
  | .cells l => l.all (AV.hx K) = true
  | .arr sz n f => ∀ i j, i < n → j < sz → (f i j).hx K = true
  | .trees _ _ => True
theorem AObj.Hx.at_ {K : List Nat} {q : AObj} (h : q.Hx K) {i j : Nat} (hi : i < q.n) (hj : j < q.sz) : (q.f i j).hx K = true := by
  cases q with
  | cells l =>
    have hj : j < l.length := hj
    show (l.getD j _).hx K = true
    rw [List.getD_eq_getElem?_getD, List.getElem?_eq_getElem hj]
    exact List.all_eq_true.1 h _ (List.getElem_mem hj)
  | arr sz n f => exact h i j hi hj
  | trees _ _ => exact absurd hi (Nat.not_lt_zero _)
/-- All of a heap is so. -/
def LkAll (P : Nat → AObj → Prop) : Heap → Prop
  | [] => True
  | (k, o) :: l => P k o ∧ LkAll P l
theorem LkAll.get {P : Nat → AObj → Prop} : ∀ {l : Heap}, LkAll P l → ∀ {k : Nat} {o : AObj}, l.lookup k = some o → P k o
  | [], _, _, _, h => by simp at h
  | (k', o') :: l, ⟨h1, h2⟩, k, o, h => by
    rcases lookup_put h with ⟨rfl, rfl⟩ | ⟨_, h⟩
    · exact h1
    · exact LkAll.get h2 h
def FrAll (σ : Sig) : List (Nat × Nat) → Prop
  | [] => True
  | (id, _) :: l => Fr id σ ∧ FrAll σ l
theorem FrAll.get {σ : Sig} : ∀ {l : List (Nat × Nat)}, FrAll σ l → ∀ {id k : Nat}, l.lookup id = some k → Fr id σ
  | [], _, _, _, h => by simp at h
  | (k', o') :: l, ⟨h1, h2⟩, k, o, h => by
    rcases lookup_put h with ⟨rfl, rfl⟩ | ⟨_, h⟩
    · exact h1
    · exact FrAll.get h2 h
/-- No two of a list are alike. -/
def distB : List Nat → Bool
  | [] => true
  | x :: l => !l.contains x && distB l
theorem distB_map {g : Nat → Nat} : ∀ {l : List Nat}, distB (l.map g) = true → ∀ k k', k ∈ l → k' ∈ l → k ≠ k' → g k ≠ g k'
  | [], _, _, _, h, _, _ => by cases h
  | x :: l, hd, k, k', h, h', hne => by
    rw [List.map_cons, distB, Bool.and_eq_true, Bool.not_eq_true'] at hd
    obtain ⟨h1, h2⟩ := hd
    have hno : ∀ y, y ∈ l → g x ≠ g y := fun y hy e => by
      have : (l.map g).contains (g x) = true := List.contains_iff_mem.2 (e ▸ List.mem_map_of_mem hy)
      rw [h1] at this; cases this
    rcases List.mem_cons.1 h with e1 | g1
    · rcases List.mem_cons.1 h' with e2 | g2
      · exact absurd (e1.trans e2.symm) hne
      · rw [e1]; exact hno k' g2
    · rcases List.mem_cons.1 h' with e2 | g2
      · rw [e2]; exact fun e => hno k g1 e.symm
      · exact distB_map h2 k k' g1 g2 hne
def Rho.mix (ρ ρ' : Rho) (T : List (Nat × Nat)) : Rho :=
  ⟨fun id => match T.lookup id with | some k => ρ'.m k | none => ρ.m id, ρ.base, fun id => match T.lookup id with | some k => ρ'.tv k | none => ρ.tv id, fun id => match T.lookup id with | some k => ρ'.tb k | none => ρ.tb id, fun id => match T.lookup id with | some k => ρ'.tn k | none => ρ.tn id⟩
theorem Rho.mix_old {ρ ρ' : Rho} {T : List (Nat × Nat)} {id : Nat} (h : T.lookup id = none) : Rho.At ρ (ρ.mix ρ' T) id := by
  constructor <;> simp only [Rho.mix, h]
theorem Rho.mix_new {ρ ρ' : Rho} {T : List (Nat × Nat)} {id k : Nat} (h : T.lookup id = some k) : AtR ρ' (ρ.mix ρ' T) k id := by
  constructor <;> simp only [Rho.mix, h]
theorem heap_key {H : Heap} {k : Nat} {o : AObj} (h : H.lookup k = some o) : k ∈ H.map (·.1) := List.mem_map.2 ⟨(k, o), lookup_mem h, rfl⟩
section
variable {P : Program} {N : Nat} {w0 : Start} {σ : Sig} {ops : Array Oper} {rest : List Oper} {o : Oper} {Q : Sig → Prop}
theorem St.mutx {ρ : Rho} {S : Nat → Prop} {a : Act} {w : World} (hs : St N w0 ρ S σ a w) {f : FuncId} {xs : List Operand} {args : List SV} {H H' Hr Hn : Heap} {r : SV} {g g' : Nat → Nat} {K : List Nat} {T : List (Nat × Nat)}
    (hF : FnG P f args H r H') (hk : KnG σ Hr g xs args)
    (hH : LkAll (fun id p => ∃ p', σ.heap.lookup (g id) = some p' ∧ AObj.Rt g p p') H)
    (hr : LkAll (fun id p => σ.heap.lookup id = some p ∧ ((H.map (·.1)).map g).contains id = false) Hr)
    (hg : distB ((H.map (·.1)).map g) = true) (hT : FrAll σ T)
    (hK : K.all (fun k => (Nat.ble 1000000 k && (g' k == g k) && (T.lookup (g k)).isNone) || (T.lookup (g' k) == some k)) = true) (hgi : distB (K.map g') = true)
    (hx : r.hx K = true)
    (hn : LkAll (fun id p => Hr.lookup id = some p ∨ ∃ k q, K.contains k = true ∧ g' k = id ∧ H'.lookup k = some q ∧ AObj.Rt g' q p ∧ q.Hx K) Hn) :
    Calls P f (xs.map a.eval).toArray w fun e w' => ∃ v ρn, e = .returned v ∧ St N w0 ρn S ⟨σ.env, Hn⟩ a w' ∧ RS ρn w' S (r.ren g') v := by
  have hHr : ∀ id p, Hr.lookup id = some p → σ.heap.lookup id = some p := fun id p h => (hr.get h).1
  have hoff : ∀ id p, Hr.lookup id = some p → ∀ k q, H.lookup k = some q → g k ≠ id := fun id p h k q hq e => by
    have h1 := (hr.get h).2
    have : ((H.map (·.1)).map g).contains id = true := List.contains_iff_mem.2 (e ▸ List.mem_map_of_mem (heap_key hq))
    rw [h1] at this; cases this
  have hgd : ∀ k k' q q', H.lookup k = some q → H.lookup k' = some q' → k ≠ k' → g k ≠ g k' := fun k k' q q' h h' => distB_map hg k k' (heap_key h) (heap_key h')
  have hgi' : ∀ k k', K.contains k = true → K.contains k' = true → k ≠ k' → g' k ≠ g' k' := fun k k' h h' => distB_map hgi k k' (List.contains_iff_mem.1 h) (List.contains_iff_mem.1 h')
  have hmr : MemOk w0.base ρ S Hr w := hs.mem.le' fun k p hk => HLe.refl (hHr k p hk)
  have hsame : Same S w (withOwn ρ Hr S) w := ⟨fun _ h => .inl h, fun _ _ => rfl⟩
  have hrb : (ρ.ren g).base = w0.base := hs.mem.base
  have hm : MemOk (ρ.ren g).base (ρ.ren g) (withOwn ρ Hr S) H w := by
    refine ⟨rfl, by rw [hrb]; exact hs.mem.low, ?_, ?_, ?_, ?_, ?_⟩
    · rintro b (hb | ⟨id, p, hp, hc, rfl⟩ | ⟨id, n, X, i, hX, hi, hb⟩)
      · exact hs.mem.lt b hb
      · exact hs.mem.blk (hHr id p hp) hc
      · exact ((hs.mem.tree id n X (hHr id _ hX) i hi).2 b hb).2.1
    · intro id p hp
      obtain ⟨p', hp', hrt⟩ := hH.get hp
      rw [← hrt.shape.2]
      exact hs.mem.cap (g id) p' hp'
    · intro id p hp hc
      obtain ⟨p', hp', hrt⟩ := hH.get hp
      obtain ⟨cs, e, h1, h2, h3, h4, h5, h6, h7⟩ := hs.mem.obj (g id) p' hp' hc
      rw [hrt.shape.1] at h2 h7
      rw [hrt.shape.2] at h3 h7
      refine ⟨cs, e, h1, h2, h3, h4, by rw [hrb]; exact h5, ?_, fun i j hi hj => ?_⟩
      · rintro (hb | ⟨id', p2, hp2, hc', e'⟩ | ⟨id', n', X', i', hX', hi', hb'⟩)
        · exact h6 hb
        · exact hs.mem.inj id' (g id) p2 p' (hHr id' p2 hp2) hp' (fun e => hoff id' p2 hp2 id p hp e.symm) hc' hc e'
        · exact ((hs.mem.tree id' n' X' (hHr id' _ hX') i' hi').2 _ hb').2.2.2.1 (g id) p' hp' hc rfl
      · obtain ⟨u, hu, hru⟩ := h7 i j hi hj
        rw [hrt.at_ hi hj] at hru
        exact ⟨u, hu, (R.ren hru).keep hsame (Rn.refl _ _)⟩
    · intro k k' q q' hq hq' hne hc hc'
      obtain ⟨p, hp, _⟩ := hH.get hq
      obtain ⟨p', hp', _⟩ := hH.get hq'
      exact hs.mem.inj _ _ p p' hp hp' (hgd k k' q q' hq hq' hne) hc hc'
    · intro id n X hX
      obtain ⟨p', hp', hrt⟩ := hH.get hX
      obtain ⟨X', rfl, hXX⟩ := hrt.trees'
      refine ⟨(hs.mem.tree0 (g id) n X' hp').1, fun i hi => ?_⟩
      obtain ⟨k1, k2⟩ := hs.mem.tree (g id) n X' hp' i hi
      rw [hXX i hi] at k1
      refine ⟨k1, fun b hb => ?_⟩
      obtain ⟨q1, q2, q3, q4, q5⟩ := k2 b hb
      refine ⟨by rw [hrb]; exact q1, q2, ?_, fun id' p2 hp2 hc => ?_, fun id' n' Y i' hY hi' hne => ?_⟩
      · rintro (hb2 | ⟨id', p2, hp2, hc', e'⟩ | ⟨id', n', Y, i', hY, hi', hb'⟩)
        · exact q3 hb2
        · exact q4 id' p2 (hHr id' p2 hp2) hc' e'
        · exact q5 id' n' Y i' (hHr id' _ hY) hi' (fun h => hoff id' _ hY id _ hX h.1.symm) hb'
      · obtain ⟨p3, hp3, _⟩ := hH.get hp2
        exact q4 (g id') p3 hp3 hc
      · obtain ⟨p3, hp3, hrt3⟩ := hH.get hY
        obtain ⟨Y', rfl, _⟩ := hrt3.trees'
        refine q5 (g id') n' Y' i' hp3 hi' fun h => hne ⟨?_, h.2⟩
        rcases Nat.decEq id' id with hd | hd
        · exact absurd h.1 (hgd id' id _ _ hY hX hd)
        · exact hd
  have h2 := hF (ρ.ren g) (withOwn ρ Hr S) w _ hm (show Pre ρ.base w by rw [hs.mem.base]; exact hs.preB) (hk.sound hs hmr hsame)
  refine Calls.mono h2 fun e w' ⟨v, ρ', S', he, hb, hsm, hbase, hids, hm', hv⟩ => ?_
  rw [hrb] at hb hm'
  have hkeep : Same S w S w' := ⟨fun _ h => h, fun b hb' => hsm.blk b (.inl hb')⟩
  have hSS : ∀ b, S b → S' b := fun b h => hsm.sub b (.inl h)
  have hnone : ∀ id, (σ.heap.lookup id).isSome = true → T.lookup id = none := fun id h => by
    cases hl : T.lookup id with
    | none => rfl
    | some k =>
      obtain ⟨p, hp⟩ := Option.isSome_iff_exists.1 h
      exact absurd rfl ((hT.get hl).heap.get hp).1
  have hnr : ∀ id p, Hr.lookup id = some p → T.lookup id = none := fun id p h => hnone id (by rw [hHr id p h]; rfl)
  have hat : ∀ k, K.contains k = true → AtR ρ' (ρ.mix ρ' T) k (g' k) := fun k hkk => by
    have := List.all_eq_true.1 hK k (List.contains_iff_mem.1 hkk)
    rw [Bool.or_eq_true] at this
    rcases this with h | h
    · rw [Bool.and_eq_true, Bool.and_eq_true] at h
      obtain ⟨⟨h1, h2⟩, h3⟩ := h
      have h2 : g' k = g k := by simpa using h2
      have h3 : T.lookup (g k) = none := by simpa using h3
      have i1 := hids k (Nat.le_of_ble_eq_true h1)
      have i2 := Rho.mix_old (ρ := ρ) (ρ' := ρ') h3
      rw [h2]
      exact ⟨i2.m.trans i1.m.symm, i2.v.trans i1.v.symm, i2.b.trans i1.b.symm, i2.n.trans i1.n.symm⟩
    · exact Rho.mix_new (by simpa using h)
  have hrn : ∀ p : Nat → Prop, (∀ id k, T.lookup id = some k → p id) → Rn ρ (ρ.mix ρ' T) p := fun p hp => ⟨rfl, fun id => by
    cases hl : T.lookup id with
    | none => exact .inl (Rho.mix_old hl)
    | some k => exact .inr (hp id k hl)⟩
  have hro : ∀ id p, Hr.lookup id = some p → (ρ.mix ρ' T) id = ρ id := fun id p h => (Rho.mix_old (hnr id p h)).m
  refine ⟨v, ρ.mix ρ' T, he, ⟨hs.size, hs.defers, ⟨hs.below.old.trans hb, hs.below.same.trans hkeep, fun id hid => (hs.below.ids id hid).trans ?_⟩, ⟨hs.mem.base, Nat.le_trans hs.mem.low hb.size, fun b hb' => Nat.lt_of_lt_of_le (hs.mem.lt b hb') hb.size, ?_, ?_, ?_, ?_⟩, fun t s ht => (hs.env t s ht).keep hkeep (hrn _ fun id k hl => ?_)⟩, SV.hx_r hat hx hv⟩
  · cases hl : T.lookup id with
    | none => exact Rho.mix_old hl
    | some k => have := (hT.get hl).small; omega
  · intro id p hp
    rcases hn.get hp with hp2 | ⟨k, q, hkk, rfl, hq, hrt, _⟩
    · rw [hro id p hp2]; exact hmr.cap id p hp2
    · have := hm'.cap k q hq
      rw [(hat k hkk).m, hrt.shape.2]; exact this
  · intro id p hp hc
    rcases hn.get hp with hp2 | ⟨k, q, hkk, rfl, hq, hrt, hqx⟩
    · rw [hro id p hp2] at hc ⊢
      obtain ⟨cs, e, h1, h2, h3, h4, h5, h6, h7⟩ := hmr.obj id p hp2 hc
      refine ⟨cs, e, by rw [hsm.blk _ (.inr (.inl ⟨id, p, hp2, hc, rfl⟩))]; exact h1, h2, h3, h4, h5, h6, fun i j hi hj => ?_⟩
      obtain ⟨u, hu, hru⟩ := h7 i j hi hj
      exact ⟨u, hu, hru.keep hkeep (hrn _ fun id' k' hl => ((hT.get hl).heap.get (hHr id p hp2)).2.at_ i j)⟩
    · rw [(hat k hkk).m] at hc ⊢
      obtain ⟨cs, e, h1, h2, h3, h4, h5, h6, h7⟩ := hm'.obj k q hq hc
      refine ⟨cs, e, h1, by rw [hrt.shape.1]; exact h2, by rw [hrt.shape.2]; exact h3, h4, h5, fun hb' => h6 (hSS _ hb'), fun i j hi hj => ?_⟩
      rw [hrt.shape.2] at hi
      rw [hrt.shape.1] at hj ⊢
      obtain ⟨u, hu, hru⟩ := h7 i j hi hj
      refine ⟨u, hu, ?_⟩
      rw [hrt.at_ hi hj]
      exact AV.hx_r hat (hqx.at_ hi hj) hru
  · intro id id' p p' hp hp' hne hc hc'
    rcases hn.get hp with hp2 | ⟨k, q, hkk, rfl, hq, hrt, hqx⟩
    · rw [hro id p hp2] at hc ⊢
      rcases hn.get hp' with hp3 | ⟨k', q', hkk', rfl, hq', hrt', hqx'⟩
      · rw [hro id' p' hp3] at hc' ⊢
        exact hmr.inj id id' p p' hp2 hp3 hne hc hc'
      · rw [(hat k' hkk').m] at hc' ⊢
        obtain ⟨_, _, _, _, _, _, _, h6, _⟩ := hm'.obj k' q' hq' hc'
        exact fun e => h6 (hsm.sub _ (.inr (.inl ⟨id, p, hp2, hc, e⟩)))
    · rw [(hat k hkk).m] at hc ⊢
      rcases hn.get hp' with hp3 | ⟨k', q', hkk', rfl, hq', hrt', hqx'⟩
      · rw [hro id' p' hp3] at hc' ⊢
        obtain ⟨_, _, _, _, _, _, _, h6, _⟩ := hm'.obj k q hq hc
        exact fun e => h6 (hsm.sub _ (.inr (.inl ⟨id', p', hp3, hc', e.symm⟩)))
      · rw [(hat k' hkk').m] at hc' ⊢
        exact hm'.inj k k' q q' hq hq' (fun e => hne (by rw [e])) hc hc'
  · intro id n X hX
    rcases hn.get hX with hp2 | ⟨k, q, hkk, rfl, hq, hrt, hqx⟩
    · have o2 := Rho.mix_old (ρ := ρ) (ρ' := ρ') (hnr id _ hp2)
      refine ⟨o2.n.trans (hmr.tree0 id n X hp2).1, fun i hi => ?_⟩
      obtain ⟨k1, k2⟩ := hmr.tree id n X hp2 i hi
      rw [o2.v, o2.b]
      have hin : ∀ b, ρ.tb id i b → withOwn ρ Hr S b := fun b hb' => .inr (.inr ⟨id, n, X, i, hp2, hi, hb'⟩)
      refine ⟨k1.keep fun b hb' => hsm.blk b (hin b hb'), fun b hb' => ?_⟩
      obtain ⟨q1, q2, q3, q4, q5⟩ := k2 b hb'
      refine ⟨q1, Nat.lt_of_lt_of_le q2 hb.size, q3, fun id' p' hp' hc => ?_, fun id' n' Y i' hY hi' hne => ?_⟩
      · rcases hn.get hp' with hp3 | ⟨k', q', hkk', rfl, hq', hrt', hqx'⟩
        · rw [hro id' p' hp3] at hc ⊢
          exact q4 id' p' hp3 hc
        · rw [(hat k' hkk').m] at hc ⊢
          obtain ⟨_, _, _, _, _, _, _, h6, _⟩ := hm'.obj k' q' hq' hc
          exact fun e => h6 (hsm.sub _ (by rw [e]; exact hin b hb'))
      · rcases hn.get hY with hp3 | ⟨k', q', hkk', rfl, hq', hrt', hqx'⟩
        · rw [(Rho.mix_old (ρ := ρ) (ρ' := ρ') (hnr id' _ hp3)).b]
          exact q5 id' n' Y i' hp3 hi' hne
        · obtain ⟨Y', rfl, _⟩ := hrt'.trees
          rw [(hat k' hkk').b]
          exact fun h => ((hm'.tree k' n' Y' hq' i' hi').2 b h).2.2.1 (hsm.sub _ (hin b hb'))
    · obtain ⟨X', rfl, hXX⟩ := hrt.trees
      have a2 := hat k hkk
      refine ⟨a2.n.trans (hm'.tree0 k n X' hq).1, fun i hi => ?_⟩
      obtain ⟨k1, k2⟩ := hm'.tree k n X' hq i hi
      rw [a2.v, a2.b, hXX i hi]
      refine ⟨k1, fun b hb' => ?_⟩
      obtain ⟨q1, q2, q3, q4, q5⟩ := k2 b hb'
      refine ⟨q1, q2, fun h => q3 (hSS b h), fun id' p' hp' hc => ?_, fun id' n' Y i' hY hi' hne => ?_⟩
      · rcases hn.get hp' with hp3 | ⟨k', q', hkk', rfl, hq', hrt', hqx'⟩
        · rw [hro id' p' hp3] at hc ⊢
          exact fun e => q3 (hsm.sub _ (.inr (.inl ⟨id', p', hp3, hc, e⟩)))
        · rw [(hat k' hkk').m] at hc ⊢
          exact q4 k' q' hq' hc
      · rcases hn.get hY with hp3 | ⟨k', q', hkk', rfl, hq', hrt', hqx'⟩
        · rw [(Rho.mix_old (ρ := ρ) (ρ' := ρ') (hnr id' _ hp3)).b]
          exact fun h => q3 (hsm.sub _ (.inr (.inr ⟨id', n', Y, i', hp3, hi', h⟩)))
        · obtain ⟨Y', rfl, _⟩ := hrt'.trees
          rw [(hat k' hkk').b]
          exact q5 k' n' Y' i' hq' hi' fun h => hne ⟨by rw [h.1], h.2⟩
  · exact List.all_eq_true.1 (hT.get hl).env _ (lookup_mem ht)
/-- A call that is handed objects, rewrites them as it likes, and leaves others. -/
theorem ARun.mutx {f d : Nat} {xs : List Operand} {ts : Array TypeId} {args : List SV} {H H' Hr Hn : Heap} {r : SV} {g g' : Nat → Nat} {K : List Nat} {T : List (Nat × Nat)} (ho : o.op = .call { callee := .value (.func f), args := xs.toArray, argTypes := ts })
    (hF : FnG P f args H r H') (hB : callB P f = true) (hk : KnG σ Hr g xs args)
    (hH : LkAll (fun id p => ∃ p', σ.heap.lookup (g id) = some p' ∧ AObj.Rt g p p') H)
    (hr : LkAll (fun id p => σ.heap.lookup id = some p ∧ ((H.map (·.1)).map g).contains id = false) Hr)
    (hg : distB ((H.map (·.1)).map g) = true) (hT : FrAll σ T)
    (hK : K.all (fun k => (Nat.ble 1000000 k && (g' k == g k) && (T.lookup (g k)).isNone) || (T.lookup (g' k) == some k)) = true) (hgi : distB (K.map g') = true)
    (hx : r.hx K = true)
    (hn : LkAll (fun id p => Hr.lookup id = some p ∨ ∃ k q, K.contains k = true ∧ g' k = id ∧ H'.lookup k = some q ∧ AObj.Rt g' q p ∧ q.Hx K) Hn)
    (hgd : o.guard = none) (hd : o.dst = some d) (hdN : d < N) {r' : SV} (hr' : r.ren g' = r') (h : ARun P N w0 ops Q rest ⟨(d, r') :: σ.env, Hn⟩) : ARun P N w0 ops Q (o :: rest) σ := by
  subst hr'
  intro ρ S a w Q' hQ hs
  refine wpList_plain hgd fun K' hK' => ?_
  have e : (execOp a.eval o).run P w = .ok (.enter f (xs.map a.eval).toArray) w := by
    have := execCall (P := P) (ev := a.eval) (caps := #[]) ho rfl hB w
    simpa using this
  unfold Oper.wp
  rw [e]
  refine Calls.mono (hs.mutx hF hk hH hr hg hT hK hgi hx hn) fun e w' ⟨v, ρn, he, hst, hv⟩ => ?_
  subst he
  rw [hd]
  exact hK' _ _ (h ρn S _ w' Q' hQ (hst.put hdN hv))
end
end Go.Proofs.Ytgcliipdkoefaaa

/-
  A calculus for walks, part 34: functions that draw and hand on what others have drawn; they are called while the cursor is all that the caller holds.
-/
namespace Go.Proofs.Ytgcliipdkoefaaa
open Go.ChangeShapes Go.WideShapes Go.ChangeAt Go.RowKit Go.BigFrame Go.Deep
set_option linter.unusedVariables false

set_option linter.unusedSimpArgs false
/-- The contract of a function that is handed a cursor and draws; what it yields may be what others drew. -/
def FnC2 (P : Program) (f : FuncId) (n : Nat) (F : Nat → Nat) (args : List SV) (p s : Nat) {X : Type} (φ : X → Nat → Nat → Prop) (r : X → SV) : Prop :=
  ∀ (c : Value) (ρ : Rho) (S : Nat → Prop) (w : World) (vs : List Value), MemOk ρ.base ρ S [(1000000, curO c n F p s)] w → Pre ρ.base w → RSs ρ w S (.one (.ptr 1000000 3 0 0) :: args) vs →
    Calls P f vs.toArray w fun e w' => ∃ x p' s' v S', φ x p' s' ∧ e = .returned v ∧ Below ρ.base w w' ∧ Same S w S' w' ∧ MemOk ρ.base ρ S' [(1000000, curO c n F p' s')] w' ∧ DR w' (freshS ρ S') (r x) v
/-- What a walk holds, seen as data that nobody else holds. -/
inductive Fx (H : Heap) : AV → AV → Prop
  | int {k : IntKind} {n : Int} : Fx H (.int k n) (.int k n)
  | bool {b : Bool} : Fx H (.bool b) (.bool b)
  | str {s : ByteArray} : Fx H (.str s) (.str s)
  | frs {x : AV} : Fx H (.frs x) x
  | cnil {sz : Nat} {g : Nat → Nat → AV} : Fx H (.con (.slice none 0 0)) (.lst sz 0 g)
  | own {id sz n : Nat} {g : Nat → Nat → AV} {o : AObj} : (id == 1000000) = false → H.lookup id = some o → o.sz = sz → n ≤ o.n → (∀ i j, i < n → j < sz → Fx H (o.f i j) (g i j)) → Fx H (.own id sz n) (.lst sz n g)
/-- What is read when own rows are given up. -/
abbrev giveUp (ρ : Rho) (H : Heap) (S : Nat → Prop) : Nat → Prop := withOwn ρ (H.filter fun p => p.1 != 1000000) S
theorem lookup_keep {id : Nat} : ∀ {H : Heap} {k : Nat} {q : AObj}, H.lookup k = some q → k ≠ id → (H.filter fun p => p.1 != id).lookup k = some q
  | [], _, _, h, _ => by simp at h
  | (a, b) :: l, k, q, h, hne => by
    rcases lookup_put h with ⟨rfl, rfl⟩ | ⟨h1, h2⟩
    · rw [List.filter_cons_of_pos (by simpa using hne)]; simp
    · by_cases e : a = id
      · subst e
        rw [List.filter_cons_of_neg (by simp)]
        exact lookup_keep h2 hne
      · rw [List.filter_cons_of_pos (by simpa using e), List.lookup_cons, show (k == a) = false by simpa using h1]
        exact lookup_keep h2 hne
theorem Fx.sound {B : Nat} {ρ : Rho} {S : Nat → Prop} {H : Heap} {w : World} (hm : MemOk B ρ S H w) {x y : AV} (h : Fx H x y) : ∀ {v : Value}, R ρ w S x v → D w (freshS ρ (giveUp ρ H S)) y v := by
  induction h with
  | int => exact fun h => h
  | bool => exact fun h => h
  | str => exact fun h => h
  | frs => exact fun h => D.keep (S := freshS ρ S) ⟨fun _ hb => ⟨.inl hb.1, hb.2⟩, fun _ _ => rfl⟩ h
  | cnil =>
    intro v hv
    have e : v = Value.slice none 0 0 := hv
    exact ⟨none, 0, e, Nat.le_refl _, by decide, fun _ => rfl, fun i hi => absurd hi (by omega)⟩
  | @own id sz n g o hid ho hsz hn _ ih =>
    intro v hv
    subst hsz
    obtain ⟨A, hv, hn1, hn2, hA⟩ := hv
    refine ⟨A, _, hv, hn1, hn2, (fun e => by rcases hA with h | ⟨_, h⟩; (· rw [h] at e; cases e); (· exact h)), fun i hi => ?_⟩
    have hc : (ρ id).2 ≠ 0 := by omega
    obtain ⟨cs, e, k1, k2, k3, k4, k5, k6, k7⟩ := hm.obj id o ho hc
    refine ⟨(ρ id).1, 0, by rcases hA with h | ⟨_, h⟩; (· exact h); (· exact absurd h hc), ⟨.inr (.inl ⟨id, o, lookup_keep ho (by simpa using hid), hc, rfl⟩), by rw [hm.base]; exact k5⟩, fun j hj => ?_⟩
    obtain ⟨u, hu, hr⟩ := k7 i j (by omega) hj
    refine ⟨u, ?_, ih i j hi hj hr⟩
    simp [World.cell?, k1, hu]
def FxS (H : Heap) : SV → SV → Prop
  | .one x, .one y => Fx H x y
  | .tup2 (.one a) (.one b), .tup2 (.one c) (.one d) => Fx H a c ∧ Fx H b d
  | .tup3 (.one a) (.one b) (.one e), .tup3 (.one c) (.one d) (.one f) => Fx H a c ∧ Fx H b d ∧ Fx H e f
  | _, _ => False
theorem FxS.sound {B : Nat} {ρ : Rho} {S : Nat → Prop} {H : Heap} {w : World} (hm : MemOk B ρ S H w) {s t : SV} {v : Value} (h : FxS H s t) (hr : RS ρ w S s v) : DR w (freshS ρ (giveUp ρ H S)) t v := by
  unfold FxS at h
  split at h
  · exact h.sound hm hr
  · obtain ⟨a, b, e, g1, g2⟩ := hr
    exact ⟨a, b, e, h.1.sound hm g1, h.2.sound hm g2⟩
  · obtain ⟨a, b, c, e, g1, g2, g3⟩ := hr
    exact ⟨a, b, c, e, h.1.sound hm g1, h.2.1.sound hm g2, h.2.2.sound hm g3⟩
  · exact h.elim
def RetC2 (P : Program) (fn : Func) (c : Value) (n : Nat) (F : Nat → Nat) {X : Type} (φ : X → Nat → Nat → Prop) (r : X → SV) : Exit → Sig → Prop
  | .ret, σ => ∃ x p' s' t, φ x p' s' ∧ ResL P σ fn.results.toList t ∧ FxS σ.heap t (r x) ∧ σ.heap.lookup 1000000 = some (curO c n F p' s')
  | .normal, σ => ∃ x p' s' t, φ x p' s' ∧ ResL P σ fn.results.toList t ∧ FxS σ.heap t (r x) ∧ σ.heap.lookup 1000000 = some (curO c n F p' s')
  | _, _ => False
theorem cur_only {c : Value} {n p s : Nat} {F : Nat → Nat} {k : Nat} {q : AObj} (ho : ([(1000000, curO c n F p s)] : Heap).lookup k = some q) : k = 1000000 ∧ q = curO c n F p s := by
  rcases lookup_put ho with ⟨rfl, rfl⟩ | ⟨_, ho⟩
  · exact ⟨rfl, rfl⟩
  · simp at ho
theorem FnC2.of_body {P : Program} {f : FuncId} {fn : Func} {b : Code} {n : Nat} {F : Nat → Nat} {args : List SV} {p s : Nat} {X : Type} {φ : X → Nat → Nat → Prop} {r : X → SV} (hf : P.funcs[f]? = some fn) (hb : fn.body = some b) (hle : args.length + 1 ≤ fn.ntmps)
    (h : ∀ w0 c, AW P fn.ntmps w0 b (RetC2 P fn c n F φ r) ⟨enumE 0 (.one (.ptr 1000000 3 0 0) :: args), [(1000000, curO c n F p s)]⟩) : FnC2 P f n F args p s φ r := by
  intro c ρ0 S w vs hm hpre hd
  have hl := hd.len
  refine calls_of_wp hf hb ?_
  refine h ⟨ρ0.base, w, S, w, ρ0, hpre⟩ c ρ0 S _ w _ (fun e ρ S' σ a w' hs hq => ?_) ⟨?_, rfl, ⟨Below.refl _ _, Same.refl _ _, fun _ _ => .refl _ _⟩, hm, ?_⟩
  · have fin : (∃ x p' s' t, φ x p' s' ∧ ResL P σ fn.results.toList t ∧ FxS σ.heap t (r x) ∧ σ.heap.lookup 1000000 = some (curO c n F p' s')) → a.defers = [] ∧ ∃ v, (results fn a.tmps).run P w' = .ok v w' ∧
        (∃ x p' s' v' S', φ x p' s' ∧ Ending.returned v = .returned v' ∧ Below ρ0.base w w' ∧ Same S w S' w' ∧ MemOk ρ0.base ρ0 S' [(1000000, curO c n F p' s')] w' ∧ DR w' (freshS ρ0 S') (r x) v') := fun ⟨x, p', s', t, hφ, hr, hfw, hcur⟩ => by
      obtain ⟨v, hv, hrun⟩ := hr.run hs
      have hid := hs.below.ids 1000000 (Nat.le_refl _)
      have e1 : (ρ 1000000) = (ρ0 1000000) := hid.m
      have hpos : (ρ 1000000).2 ≠ 0 := hs.mem.pos hcur (i := 0) Nat.zero_lt_one
      obtain ⟨cs, e, g1, g2, g3, g4, g5, g6, g7⟩ := hs.mem.obj _ _ hcur hpos
      have hnot : ¬ giveUp ρ σ.heap S' (ρ 1000000).1 := by
        rintro (hb | ⟨id', p', hp', hc', e'⟩ | ⟨id', n', X', i', hX', hi', hb'⟩)
        · exact g6 hb
        · obtain ⟨h1, h2⟩ := lookup_drop hp'
          exact hs.mem.inj id' _ p' _ h1 hcur h2 hc' hpos e'
        · obtain ⟨h1, h2⟩ := lookup_drop hX'
          exact ((hs.mem.tree id' n' X' h1 i' hi').2 _ hb').2.2.2.1 _ _ hcur hpos rfl
      have hsame : Same S' w' (giveUp ρ σ.heap S') w' := ⟨fun _ h => .inl h, fun _ _ => rfl⟩
      have hfr : freshS ρ0 (giveUp ρ σ.heap S') = freshS ρ (giveUp ρ σ.heap S') := by
        have : ρ.base = ρ0.base := hs.mem.base
        funext b
        simp only [freshS, this]
      refine ⟨hs.defers, v, hrun, x, p', s', v, giveUp ρ σ.heap S', hφ, rfl, hs.below.old, hs.below.same.trans hsame, ?_, by rw [hfr]; exact hfw.sound hs.mem hv⟩
      rw [e1] at g1 g2 g3 g4 g5 g6 hnot
      refine ⟨rfl, hs.mem.low, ?_, fun id o ho => ?_, fun id o ho hc => ?_, fun id id' o o' ho ho' hne => ?_, fun id m X hX => ?_⟩
      · rintro q (hb | ⟨id, p, hp, hc, rfl⟩ | ⟨id, n, X, i, hX, hi, hb⟩)
        · exact hs.mem.lt q hb
        · exact hs.mem.blk (lookup_drop hp).1 hc
        · exact ((hs.mem.tree id n X (lookup_drop hX).1 i hi).2 q hb).2.1
      · obtain ⟨rfl, rfl⟩ := cur_only ho; exact g3
      · obtain ⟨rfl, rfl⟩ := cur_only ho
        refine ⟨cs, e, g1, g2, g3, g4, g5, hnot, fun i j hi hj => ?_⟩
        obtain ⟨u, hu, hr⟩ := g7 i j hi hj
        refine ⟨u, hu, ?_⟩
        unfold curO AObj.f at hr ⊢
        match j with
        | 0 =>
          have hr : u = c ∧ D w' S' _ u := hr
          exact ⟨hr.1, hr.2.keep hsame⟩
        | 1 => exact hr
        | 2 => exact hr
        | k + 3 => exact hr
      · exact absurd ((cur_only ho).1.trans (cur_only ho').1.symm) hne
      · cases (cur_only hX).2
    cases e
    case ret => exact fin hq
    case normal => exact fin hq
    all_goals exact hq.elim
  · simp [hl]; omega
  · intro t s' ht
    obtain ⟨j, u, e1, e2, e3⟩ := hd.get ht
    have hj : j < vs.length := (List.getElem?_eq_some_iff.1 e2).1
    have : ((vs.toArray ++ Array.replicate (fn.ntmps - vs.toArray.size) undef).getD t undef) = u := by
      rw [Array.getD_eq_getD_getElem?, Array.getElem?_append_left (by simp; omega)]
      simp [show t = j by omega, e2]
    show RS _ w S s' ((vs.toArray ++ Array.replicate (fn.ntmps - vs.toArray.size) undef).getD t undef)
    rw [this]
    exact e3
section
variable {P : Program} {N : Nat} {w0 : Start} {σ : Sig} {ops : Array Oper} {rest : List Oper} {o : Oper} {Q : Sig → Prop}
theorem withOwn_nil {ρ : Rho} {S : Nat → Prop} : withOwn ρ [] S = S := funext fun b => propext ⟨fun h => by
  rcases h with h | ⟨_, _, h, _⟩ | ⟨_, _, _, _, h, _⟩
  · exact h
  · simp at h
  · simp at h, .inl⟩
theorem ARun.cur2 {f id d p s n : Nat} {c : Value} {F : Nat → Nat} {xs : List Operand} {ts : Array TypeId} {args : List SV} {X : Type} {φ : X → Nat → Nat → Prop} {r : X → SV} (ho : o.op = .call { callee := .value (.func f), args := xs.toArray, argTypes := ts })
    (hF : FnC2 P f n F args p s φ r) (hB : callB P f = true) (hk : KnG σ [] (fun _ => id) xs (.one (.ptr 1000000 3 0 0) :: args))
    (hH : σ.heap.lookup id = some (curO c n F p s))
    (hg : o.guard = none) (hd : o.dst = some d) (hN : d < N) (h : ∀ x p' s', φ x p' s' → ARun P N w0 ops Q rest ⟨(d, (r x).fr) :: σ.env, [(id, curO c n F p' s')]⟩) : ARun P N w0 ops Q (o :: rest) σ := by
  intro ρ S a w Q' hQ hs
  refine wpList_plain hg fun K hK => ?_
  let g : Nat → Nat := fun _ => id
  have hpos : (ρ id).2 ≠ 0 := hs.mem.pos hH (i := 0) Nat.zero_lt_one
  obtain ⟨cs0, e0, k1, k2, k3, k4, k5, k6, k7⟩ := hs.mem.obj _ _ hH hpos
  have hmr : MemOk w0.base ρ S [] w := hs.mem.le' fun k q hq => by simp at hq
  have hsame : Same S w (withOwn ρ [] S) w := ⟨fun _ h => .inl h, fun _ _ => rfl⟩
  have hrb : (ρ.ren g).base = w0.base := hs.mem.base
  have hm : MemOk (ρ.ren g).base (ρ.ren g) S [(1000000, curO c n F p s)] w := by
    refine ⟨rfl, by rw [hrb]; exact hs.mem.low, hs.mem.lt, fun k q hq => ?_, fun k q hq hc => ?_, fun k k' q q' hq hq' hne => ?_, fun k m X hX => ?_⟩
    · obtain ⟨rfl, rfl⟩ := cur_only hq; exact k3
    · obtain ⟨rfl, rfl⟩ := cur_only hq
      refine ⟨cs0, e0, k1, k2, k3, k4, by rw [hrb]; exact k5, k6, fun i j hi hj => ?_⟩
      obtain ⟨u, hu, hru⟩ := k7 i j hi hj
      refine ⟨u, hu, ?_⟩
      unfold curO AObj.f at hru ⊢
      match j with
      | 0 => exact hru
      | 1 => exact hru
      | 2 => exact hru
      | k + 3 => exact hru
    · exact absurd ((cur_only hq).1.trans (cur_only hq').1.symm) hne
    · cases (cur_only hX).2
  have hks := hk.sound hs hmr hsame
  rw [withOwn_nil] at hks
  have h2 := hF c (ρ.ren g) S w _ hm (show Pre ρ.base w by rw [hs.mem.base]; exact hs.preB) hks
  have e : (execOp a.eval o).run P w = .ok (.enter f (xs.map a.eval).toArray) w := by
    have := execCall (P := P) (ev := a.eval) (caps := #[]) ho rfl hB w
    simpa using this
  unfold Oper.wp
  rw [e]
  refine Calls.mono h2 fun e w' ⟨x, p', s', v, S', hφ, he, hb, hsm, hm', hv⟩ => ?_
  subst he
  rw [hrb] at hb hm'
  rw [hd]
  have hl' : ([(1000000, curO c n F p' s')] : Heap).lookup 1000000 = some (curO c n F p' s') := by simp
  have hpos' : ((ρ.ren g) 1000000).2 ≠ 0 := hpos
  obtain ⟨cs, e1, g1, g2, g3, g4, g5, g6, g7⟩ := hm'.obj 1000000 _ hl' hpos'
  have only : ∀ k q, ([(id, curO c n F p' s')] : Heap).lookup k = some q → k = id ∧ q = curO c n F p' s' := by
    intro k q hq
    rcases lookup_put hq with ⟨rfl, rfl⟩ | ⟨_, h2⟩
    · exact ⟨rfl, rfl⟩
    · simp at h2
  have hst : St N w0 ρ S' ⟨σ.env, [(id, curO c n F p' s')]⟩ a w' := by
    refine ⟨hs.size, hs.defers, hs.below.step hb hsm, ⟨hs.mem.base, hm'.low, hm'.lt, fun k q hq => ?_, fun k q hq hc => ?_, fun k k' q q' hq hq' hne => ?_, fun k m X hX => ?_⟩, fun t s ht => (hs.env t s ht).keep hsm (Rn.refl _ _)⟩
    · obtain ⟨rfl, rfl⟩ := only k q hq; exact g3
    · obtain ⟨rfl, rfl⟩ := only k q hq
      refine ⟨cs, e1, g1, g2, g3, g4, g5, g6, fun i j hi hj => ?_⟩
      obtain ⟨u, hu, hru⟩ := g7 i j hi hj
      refine ⟨u, hu, ?_⟩
      unfold curO AObj.f at hru ⊢
      match j with
      | 0 => exact hru
      | 1 => exact hru
      | 2 => exact hru
      | k + 3 => exact hru
    · exact absurd ((only k q hq).1.trans (only k' q' hq').1.symm) hne
    · cases (only k _ hX).2
  exact hK _ _ (h x p' s' hφ ρ S' _ w' Q' hQ (hst.put hN ((show DR w' (freshS ρ S') (r x) v from hv).fr fun b hb => hb)))
end
end Go.Proofs.Ytgcliipdkoefaaa

/-
  What the reference's cursor draws: entries, two logs.
-/
namespace Go.Proofs.Ytgcliipdkoefaaa
open Go.ChangeShapes Go.WideShapes Go.ChangeAt Go.RowKit Go.BigFrame Go.Deep
set_option linter.unusedVariables false
set_option linter.unusedSimpArgs false
theorem vd2_ca_68 : callB Try.prog 68 = true := by kernel_rfl
theorem vd2_ca_69 : callB Try.prog 69 = true := by kernel_rfl
theorem vd2_ca_71 : callB Try.prog 71 = true := by kernel_rfl
theorem vd2_ca_78 : callB Try.prog 78 = true := by kernel_rfl
theorem vd2_ca_79 : callB Try.prog 79 = true := by kernel_rfl
theorem vd2_ca_81 : callB Try.prog 81 = true := by kernel_rfl
theorem vd2_el_26_2 : elemB Try.prog 26 2 = true := by kernel_rfl
theorem vd2_fi_52_0_0 : fieldB Try.prog 52 0 0 = true := by kernel_rfl
theorem vd2_sl_26 : sliceB Try.prog 26 = true := by kernel_rfl
theorem vd2_sz_3_1 : sizeB Try.prog 3 1 = true := by kernel_rfl
theorem and_condE {a b : Bool} (h : cond a b false = true) : a = true ∧ b = true := by revert h; revert a b; decide
theorem en_ren {g : Nat → Nat} {L : List IS} {i j : Nat} (hj : j < 2) : AV.ren g (enC L i j) = enC L i j := by
  match j, hj with
  | 0, _ => rfl
  | 1, _ => rfl
  | _ + 2, h => exact absurd h (by omega)
theorem en_app {L : List IS} {a : Int} {b : ByteArray} {i j : Nat} (hi : i < L.length + 1) : (if i < L.length then enC L i j else (fun _ jc => ([.int .i64 a, .str b] : List AV).getD jc (.con undef)) (i - L.length) j) = enC (L ++ [⟨a, b⟩]) i j := by
  let e : IS := ⟨a, b⟩
  show _ = enC (L ++ [e]) i j
  by_cases h : i < L.length
  · rw [if_pos h]; unfold enC; rw [List.getD_eq_getElem?_getD (l := L ++ [e]), List.getElem?_append_left h, ← List.getD_eq_getElem?_getD]
  · obtain rfl : i = L.length := by omega
    rw [if_neg h]; unfold enC; rw [List.getD_eq_getElem?_getD (l := L ++ [e]), List.getElem?_append_right (Nat.le_refl _), Nat.sub_self]; rfl
theorem en_take {L : List IS} {m : Nat} {i j : Nat} (hi : i < m) (f : Nat → Nat → AV) : (if i < 0 then f i j else enC L (i - 0) j) = enC (L.take m) i j := by
  rw [if_neg (Nat.not_lt_zero i), Nat.sub_zero]
  have : (L.take m).getD i (default : GEntry) = L.getD i default := by rw [List.getD_eq_getElem?_getD, List.getD_eq_getElem?_getD, List.getElem?_take, if_pos hi]
  simp only [enC, this]
theorem en_set {L : List IS} {k : Nat} {a : Int} (hk : k < L.length) {i j : Nat} (hj : j < 2) : (if i = k ∧ j = 0 then AV.int .i64 a else enC L i j) = enC (L.set k ⟨a, (L.getD k (default : GEntry)).s⟩) i j := by
  let e : IS := ⟨a, (L.getD k (default : GEntry)).s⟩
  show _ = enC (L.set k e) i j
  unfold enC
  by_cases h : i = k
  · subst h
    rw [List.getD_eq_getElem?_getD (l := L.set i e), List.getElem?_set_self hk]
    match j, hj with
    | 0, _ => rw [if_pos ⟨rfl, rfl⟩]; rfl
    | 1, _ => rw [if_neg (fun h => by omega)]; rfl
    | _ + 2, h => exact absurd h (by omega)
  · rw [if_neg (fun e => h e.1), List.getD_eq_getElem?_getD (l := L.set k e), List.getElem?_set_ne (by omega), ← List.getD_eq_getElem?_getD]
theorem fw_en {H : Heap} {id m : Nat} {o : AObj} {L : List IS} (hid : (id == 1000000) = false) (ho : H.lookup id = some o) (hsz : o.sz = 2) (hn : L.length ≤ o.n) (hm : m = L.length) (hf : ∀ i j, i < L.length → j < 2 → o.f i j = enC L i j) : Fw H (.own id 2 m) (ensAV L) := by
  subst hm
  refine .own hid ho hsz hn fun i j hi hj => ?_
  rw [hf i j hi hj]
  match j, hj with
  | 0, _ => exact .int
  | 1, _ => exact .str
  | _ + 2, h => exact absurd h (by omega)
theorem fx_en {H : Heap} {id m : Nat} {o : AObj} {L : List IS} (hid : (id == 1000000) = false) (ho : H.lookup id = some o) (hsz : o.sz = 2) (hn : L.length ≤ o.n) (hm : m = L.length) (hf : ∀ i j, i < L.length → j < 2 → o.f i j = enC L i j) : Fx H (.own id 2 m) (ensAV L) := by
  subst hm
  refine .own hid ho hsz hn fun i j hi hj => ?_
  rw [hf i j hi hj]
  match j, hj with
  | 0, _ => exact .int
  | 1, _ => exact .str
  | _ + 2, h => exact absurd h (by omega)
theorem allEn_app {L : List IS} {a : Int} {b : ByteArray} (h : allEn L) (ha : 0 ≤ a ∧ a ≤ 2000) : allEn (L ++ [⟨a, b⟩]) := by
  intro e he
  rcases List.mem_append.1 he with h1 | h1
  · exact h e h1
  · rw [List.mem_singleton.1 h1]; exact ha
theorem allEn_set {L : List IS} {k : Nat} {a : Int} {b : ByteArray} (h : allEn L) (ha : 0 ≤ a ∧ a ≤ 2000) : allEn (L.set k ⟨a, b⟩) := by
  intro e he
  rcases List.mem_or_eq_of_mem_set he with h1 | rfl
  · exact h e h1
  · exact ha
def allE1 (l : List IS) : Prop := ∀ e ∈ l, 0 ≤ e.n ∧ e.n ≤ 1500
theorem allE1.en {L : List IS} (h : allE1 L) : allEn L := fun e he => ⟨(h e he).1, Int.le_trans (h e he).2 (by decide)⟩
theorem allE1_app {L : List IS} {a : Int} {b : ByteArray} (h : allE1 L) (ha : 0 ≤ a ∧ a ≤ 1500) : allE1 (L ++ [⟨a, b⟩]) := by
  intro e he
  rcases List.mem_append.1 he with h1 | h1
  · exact h e h1
  · rw [List.mem_singleton.1 h1]; exact ha
theorem allE1_set {L : List IS} {k : Nat} {a : Int} {b : ByteArray} (h : allE1 L) (ha : 0 ≤ a ∧ a ≤ 1500) : allE1 (L.set k ⟨a, b⟩) := by
  intro e he
  rcases List.mem_or_eq_of_mem_set he with h1 | rfl
  · exact h e h1
  · exact ha
theorem allEn_take {L : List IS} (k : Nat) (h : allEn L) : allEn (L.take k) := fun e he => h e (List.mem_of_mem_take he)
theorem lastN_bd {L : List IS} (h : allE1 L) : 0 ≤ lastN L ∧ lastN L ≤ 1500 := by
  unfold lastN
  cases hl : L[L.length - 1]? with
  | none => exact ⟨by show (0 : Int) ≤ 0; omega, by show (0 : Int) ≤ 1500; omega⟩
  | some e => exact h e (List.mem_of_getElem? hl)
theorem mul_half {x y : Nat} (hx : x < 3 ∨ x = 0) (hy : y < 2 ∨ y = 0) : ∃ m : Nat, ((x / 2 : Nat) : Int) * ((1 + y : Nat) : Int) = (m : Int) ∧ m ≤ 2 := by
  rcases (show x / 2 = 0 ∨ x / 2 = 1 by omega) with h | h <;> rw [h]
  · exact ⟨0, by simp, by omega⟩
  · exact ⟨1 + y, by simp, by omega⟩
theorem amr {x : Int} (h : x ∈ [(0 : Int), 1, 1000, 1001]) : 0 ≤ x ∧ x ≤ 1500 := by
  rcases List.mem_cons.1 h with rfl | h
  · exact ⟨by decide, by decide⟩
  rcases List.mem_cons.1 h with rfl | h
  · exact ⟨by decide, by decide⟩
  rcases List.mem_cons.1 h with rfl | h
  · exact ⟨by decide, by decide⟩
  rw [List.mem_singleton.1 h]; exact ⟨by decide, by decide⟩
theorem v_l7Last (l : List IS) (hl : allEn l) : Fn Try.prog 78 [.one (ensAV l)] (.one (.int .i64 (lastN l))) := by
  intro w S vs hS hd
  obtain ⟨v, vs1, rfl, h1, h3⟩ := hd
  obtain rfl : vs1 = [] := h3
  obtain ⟨A, c, rfl, r1⟩ := ens_rep h1 hl
  exact (l7Last_any l _ rfl w S hS.lt A _ c r1).mono fun e w' h => h
structure EnS where
  l : List IS
  p : Nat
  s : Nat
  e : Int
theorem v_Entries (n : Nat) (F : Nat → Nat) (hF : ∀ i, F i < 256) (p s : Nat) (hp : p ≤ 1700000000) (hs : s < 18446744073709551616) : FnC Try.prog 68 n F [] p s (fun (x : List IS) p' s' => (x.length ≤ 41 ∧ allE1 x) ∧ CurOk p 1000 p' s') (fun (x : List IS) => .one (ensAV x)) := by
  refine FnC.of_body (fn := Try.f68) Try.func68 rfl (Nat.le_of_ble_eq_true rfl) ?_
  intro w0 c
  show AW _ 52 _ _ _ _
  refine AW.seq ?_
  refine AW.region ?_
  refine ARun.pure (PureOp.assign rfl .con) rfl rfl (Nat.le_of_ble_eq_true rfl) ?_
  refine ARun.nil ?_
  refine AW.seq ?_
  refine AW.region ?_
  refine ARun.pure (PureOp.assign rfl .con) rfl rfl (Nat.le_of_ble_eq_true rfl) ?_
  refine ARun.nil ?_
  refine AW.seq ?_
  refine AW.region ?_
  refine ARun.pure (PureOp.move rfl (.tmp rfl)) rfl rfl (Nat.le_of_ble_eq_true rfl) ?_
  refine ARun.cur (id := 1000000) rfl (v_Pick n F hF p s (by omega) (by omega) 8 (by omega)) vd2_ca_69 ⟨.inr (.tmp rfl), .inl ⟨_, .int, .int⟩, trivial⟩ rfl rfl rfl (Nat.le_of_ble_eq_true rfl) (fun x1 p2 sd3 hc4 => ?_)
  obtain ⟨hc4x, hc4c⟩ := hc4
  obtain ⟨hc41, hc42, hc43⟩ := hc4c
  refine ARun.pure (PureOp.assign rfl (.tmp rfl)) rfl rfl (Nat.le_of_ble_eq_true rfl) ?_
  refine ARun.nil ?_
  refine AW.seq ?_
  refine AW.seq ?_
  refine AW.region ?_
  refine ARun.pure (PureOp.move rfl (.tmp rfl)) rfl rfl (Nat.le_of_ble_eq_true rfl) ?_
  refine ARun.cur (id := 1000000) rfl (v_One n F hF p2 sd3 (by omega) (by omega) 20 (by omega)) vd2_ca_71 ⟨.inr (.tmp rfl), .inl ⟨_, .int, .int⟩, trivial⟩ rfl rfl rfl (Nat.le_of_ble_eq_true rfl) (fun x5 p6 sd7 hc8 => ?_)
  have hc8c := hc8
  obtain ⟨hc81, hc82, hc83⟩ := hc8c
  refine ARun.nil ?_
  refine AW.cond (.tmp rfl) (fun hb9 => ?_) (fun hb9 => ?_)
  · have _u := True.intro
    refine AW.region ?_
    refine ARun.pure (PureOp.move rfl (.tmp rfl)) rfl rfl (Nat.le_of_ble_eq_true rfl) ?_
    refine ARun.cur (id := 1000000) rfl (v_Pick n F hF p6 sd7 (by omega) (by omega) 3 (by omega)) vd2_ca_69 ⟨.inr (.tmp rfl), .inl ⟨_, .int, .int⟩, trivial⟩ rfl rfl rfl (Nat.le_of_ble_eq_true rfl) (fun x10 p11 sd12 hc13 => ?_)
    obtain ⟨hc13x, hc13c⟩ := hc13
    obtain ⟨hc131, hc132, hc133⟩ := hc13c
    refine ARun.pure (PureOp.add (c := ((39 + x10 : Nat) : Int)) rfl .int (.tmp rfl) (by rw [wrap_id (by omega) (by omega)]; omega)) rfl rfl (Nat.le_of_ble_eq_true rfl) ?_
    refine ARun.pure (PureOp.assign rfl (.tmp rfl)) rfl rfl (Nat.le_of_ble_eq_true rfl) ?_
    refine ARun.nil ?_
    refine AW.seq ?_
    refine AW.region ?_
    refine ARun.pure (PureOp.assign rfl .int) rfl rfl (Nat.le_of_ble_eq_true rfl) ?_
    refine ARun.nil ?_
    refine AW.seq ?_
    refine AW.block ?_
    refine AW.nilSlot 3 900 2 (enC []) rfl ⟨rfl, (by repeat first | exact trivial | refine ⟨by decide, by first | rfl | exact trivial | (intro i j; first | rfl | exact getD_no rfl | (dsimp only; split <;> first | rfl | exact getD_no rfl) | exact scl_no (by apply_assumption) _), ?_⟩)⟩ ?_
    -- objects are renamed
    refine AW.loopR (ι := EnS) (fun v => ⟨[(0, .one (.ptr 1000000 3 0 0)), (3, .one (.own 900 2 v.l.length)), (4, .one (.int .i64 ((((39 + x10) - (v.l.length - ([] : List IS).length)) : Nat) : Int))), (5, .one (.int .i64 v.e))], [(900, .arr 2 v.l.length (enC v.l)), (1000000, .cells [.cv c (.lst 1 n (fun i _ => .int .u8 ((F i : Nat) : Int))), .int .i64 (v.p : Int), .int .u64 ((v.s : Nat) : Int)])]⟩) (fun v => v.l.length ≤ ([] : List IS).length + (39 + x10) ∧ v.p ≤ p11 + 6 * v.l.length ∧ v.s < 18446744073709551616 ∧ p11 ≤ v.p ∧ (0 ≤ v.e ∧ v.e ≤ 1 + 2 * (v.l.length : Int)) ∧ allE1 v.l ∧ ([] : List IS).length ≤ v.l.length) (fun v => ([] : List IS).length + (39 + x10) - v.l.length) ⟨([] : List IS), p11, sd12, 1⟩ ⟨by show ([] : List IS).length ≤ ([] : List IS).length + (39 + x10); omega, by show p11 ≤ p11 + 6 * ([] : List IS).length; omega, by show sd12 < 18446744073709551616; omega, Nat.le_refl _, by show 0 ≤ 1 ∧ 1 ≤ 1 + 2 * (([] : List IS).length : Int); omega, (fun _ he => (nomatch he)), Nat.le_refl _⟩ ⟨⟨⟨_, rfl, rfl⟩, ⟨_, rfl, rfl⟩, ⟨_, rfl, congrArg (fun z : Nat => SV.one (.int .i64 (z : Int))) (show (39 + x10) = (39 + x10) - (([] : List IS).length - ([] : List IS).length) from by omega)⟩, ⟨_, rfl, rfl⟩, trivial⟩, ⟨⟨_, rfl, rfl, Nat.le_refl _, fun _ _ _ _ => rfl⟩, ⟨_, rfl, rfl, Nat.le_refl _, fun _ _ _ _ => rfl⟩, trivial⟩⟩ ?_
    intro v hv
    obtain ⟨hv1, hv2, hv3, hv4, hv5, hv6, hv7⟩ := hv
    refine AW.seq ?_
    refine AW.seq ?_
    refine AW.region ?_
    refine ARun.pure (PureOp.move rfl (.tmp rfl)) rfl rfl (Nat.le_of_ble_eq_true rfl) ?_
    refine ARun.pure (PureOp.intOp rfl (.tmp rfl) .int rfl) rfl rfl (Nat.le_of_ble_eq_true rfl) ?_
    refine ARun.nil ?_
    refine AW.cond (.tmp rfl) (fun hb14 => ?_) (fun hb14 => ?_)
    · have _u := True.intro
      replace hb14 := of_decide_eq_true hb14
      have hl0 : ([] : List IS).length = 0 := rfl
      have hkl : v.l.length < (39 + x10) := by omega
      refine AW.skip ?_
      refine AW.seq ?_
      refine AW.block ?_
      refine AW.seq ?_
      refine AW.region ?_
      refine ARun.pure (PureOp.move rfl (.tmp rfl)) rfl rfl (Nat.le_of_ble_eq_true rfl) ?_
      refine ARun.pure (PureOp.move rfl (.tmp rfl)) rfl rfl (Nat.le_of_ble_eq_true rfl) ?_
      refine ARun.cur (id := 1000000) rfl (v_Pick n F hF v.p v.s (by omega) (by omega) 3 (by omega)) vd2_ca_69 ⟨.inr (.tmp rfl), .inl ⟨_, .int, .int⟩, trivial⟩ rfl rfl rfl (Nat.le_of_ble_eq_true rfl) (fun x15 p16 sd17 hc18 => ?_)
      obtain ⟨hc18x, hc18c⟩ := hc18
      obtain ⟨hc181, hc182, hc183⟩ := hc18c
      refine ARun.pure (PureOp.quo (a := x15) (b := 2) rfl (.tmp rfl) .int rfl (by decide) (by omega)) rfl rfl (Nat.le_of_ble_eq_true rfl) ?_
      refine ARun.pure (PureOp.move rfl (.tmp rfl)) rfl rfl (Nat.le_of_ble_eq_true rfl) ?_
      refine ARun.cur (id := 1000000) rfl (v_Pick n F hF p16 sd17 (by omega) (by omega) 2 (by omega)) vd2_ca_69 ⟨.inr (.tmp rfl), .inl ⟨_, .int, .int⟩, trivial⟩ rfl rfl rfl (Nat.le_of_ble_eq_true rfl) (fun x19 p20 sd21 hc22 => ?_)
      obtain ⟨hc22x, hc22c⟩ := hc22
      obtain ⟨hc221, hc222, hc223⟩ := hc22c
      refine ARun.pure (PureOp.add (c := ((1 + x19 : Nat) : Int)) rfl .int (.tmp rfl) (by rw [wrap_id (by omega) (by omega)]; omega)) rfl rfl (Nat.le_of_ble_eq_true rfl) ?_
      obtain ⟨m23, m23a, m23b⟩ := mul_half hc18x hc22x
      refine ARun.pure (PureOp.mul (c := (m23 : Int)) rfl (.tmp rfl) (.tmp rfl) (by rw [m23a]; exact wrap_id (by omega) (by omega))) rfl rfl (Nat.le_of_ble_eq_true rfl) ?_
      refine ARun.pure (PureOp.add (c := v.e + (m23 : Int)) rfl (.tmp rfl) (.tmp rfl) (wrap_id (by omega) (by omega))) rfl rfl (Nat.le_of_ble_eq_true rfl) ?_
      refine ARun.pure (PureOp.assign rfl (.tmp rfl)) rfl rfl (Nat.le_of_ble_eq_true rfl) ?_
      refine ARun.nil ?_
      refine AW.region ?_
      refine ARun.pure (PureOp.move rfl (.tmp rfl)) rfl rfl (Nat.le_of_ble_eq_true rfl) ?_
      refine ARun.pure (PureOp.move rfl (.tmp rfl)) rfl rfl (Nat.le_of_ble_eq_true rfl) ?_
      refine ARun.pure (PureOp.move rfl (.tmp rfl)) rfl rfl (Nat.le_of_ble_eq_true rfl) ?_
      refine ARun.fresh (FreshOp.strs3 (a1 := (⟨#[97]⟩ : ByteArray)) (a2 := (⟨#[98]⟩ : ByteArray)) (a3 := (⟨#[99]⟩ : ByteArray)) rfl (.str (by decide)) (.str (by decide)) (.str (by decide)) Try.underlying94 (by kernel_rfl)) rfl rfl (Nat.le_of_ble_eq_true rfl) ?_
      refine ARun.cur (id := 1000000) rfl (v_Of n F hF p20 sd21 (by omega) (by omega) ([(⟨#[97]⟩ : ByteArray), (⟨#[98]⟩ : ByteArray), (⟨#[99]⟩ : ByteArray)] : List ByteArray) ⟨by decide, by decide⟩) vd2_ca_79 ⟨.inr (.tmp rfl), .inl ⟨_, (.tmp rfl), .frs⟩, trivial⟩ rfl rfl rfl (Nat.le_of_ble_eq_true rfl) (fun x24 p25 sd26 hc27 => ?_)
      obtain ⟨hc27x, hc27c⟩ := hc27
      obtain ⟨hc271, hc272, hc273⟩ := hc27c
      refine ARun.pure (PureOp.build (ys := [.int .i64 (v.e + (m23 : Int)), .str x24]) (l := [.int .i64 0, .str ByteArray.empty]) (pl := [(0, 1), (1, 1)]) (z := (.agg #[.int .i64 0, .string ByteArray.empty])) rfl (by kernel_rfl) (by kernel_rfl) (fun _ _ _ => ⟨_, _, rfl, rfl, ⟨_, _, rfl, ⟨rfl, by decide⟩, rfl⟩⟩) ⟨(.tmp rfl), trivial, rfl, ⟨(.tmp rfl), trivial, rfl, trivial⟩⟩ rfl) rfl rfl (Nat.le_of_ble_eq_true rfl) ?_
      refine ARun.slice1 (id := 0) (z := (.agg #[.int .i64 0, .string ByteArray.empty])) (by_ := 24) rfl (.tmp rfl) (SV.cells_of (by exact ⟨trivial, trivial, trivial⟩)) (by kernel_rfl) rfl rfl (by decide) (by decide) ⟨rfl, (by repeat first | exact trivial | refine ⟨by decide, by first | rfl | exact trivial | (intro i j; first | rfl | exact getD_no rfl | (dsimp only; split <;> first | rfl | exact getD_no rfl) | exact scl_no (by apply_assumption) _), ?_⟩)⟩ rfl rfl rfl (Nat.le_of_ble_eq_true rfl) ?_
      refine ARun.append (id := 1) (sz := 2) (n := v.l.length) (m := 1) (by_ := 24) (z := (.agg #[.int .i64 0, .string ByteArray.empty])) (f := enC v.l) (g := fun _ jc => ([.int .i64 (v.e + (m23 : Int)), .str x24] : List AV).getD jc (.con undef)) (h := fun ia ja => if ia < v.l.length then (enC v.l) ia ja else (fun _ jc => ([.int .i64 (v.e + (m23 : Int)), .str x24] : List AV).getD jc (.con undef)) (ia - v.l.length) ja) rfl (by kernel_rfl) rfl vd2_sl_26 (.own (.tmp rfl) rfl rfl rfl (Nat.le_refl _) (fun _ _ _ _ => rfl)) (.own (.tmp rfl) rfl rfl (Nat.le_refl _) (fun _ _ _ _ => rfl)) (by decide) (fun i j hi hj => match j, hj with | 0, _ => rfl | 1, _ => rfl | _ + 2, h => absurd h (by omega)) (fun _ _ _ _ => rfl) (by omega) (by omega) ⟨rfl, (by repeat first | exact trivial | refine ⟨by decide, by first | rfl | exact trivial | (intro i j; first | rfl | exact getD_no rfl | (dsimp only; split <;> first | rfl | exact getD_no rfl) | exact scl_no (by apply_assumption) _), ?_⟩)⟩ (fun i j => by dsimp only; (repeat' split) <;> first | rfl | exact getD_no rfl) rfl rfl (Nat.le_of_ble_eq_true rfl) ?_
      refine ARun.pure (PureOp.assign rfl (.tmp rfl)) rfl rfl (Nat.le_of_ble_eq_true rfl) ?_
      refine ARun.nil ?_
      refine AW.region ?_
      refine ARun.pure (PureOp.move rfl (.tmp rfl)) rfl rfl (Nat.le_of_ble_eq_true rfl) ?_
      refine ARun.pure (PureOp.sub (c := ((((39 + x10) - (v.l.length + 1 - ([] : List IS).length)) : Nat) : Int)) rfl (.tmp rfl) .int (by rw [wrap_id (by omega) (by omega)]; omega)) rfl rfl (Nat.le_of_ble_eq_true rfl) ?_
      refine ARun.pure (PureOp.assign rfl (.tmp rfl)) rfl rfl (Nat.le_of_ble_eq_true rfl) ?_
      refine ARun.nil ?_
      have hln : (v.l ++ [(⟨(v.e + (m23 : Int)), x24⟩ : IS)]).length = v.l.length + 1 := by rw [List.length_append]; rfl
      exact ⟨⟨(v.l ++ [(⟨(v.e + (m23 : Int)), x24⟩ : IS)]), p25, sd26, v.e + (m23 : Int)⟩, (swp 900 1), ⟨by show (v.l ++ [(⟨(v.e + (m23 : Int)), x24⟩ : IS)]).length ≤ ([] : List IS).length + (39 + x10); omega, by show p25 ≤ _ + 6 * (v.l ++ [(⟨(v.e + (m23 : Int)), x24⟩ : IS)]).length; omega, by show sd26 < _; omega, by show _ ≤ p25; omega, by show 0 ≤ v.e + (m23 : Int) ∧ v.e + (m23 : Int) ≤ 1 + 2 * ((v.l ++ [(⟨(v.e + (m23 : Int)), x24⟩ : IS)]).length : Int); omega, allE1_app hv6 (by omega), by show ([] : List IS).length ≤ (v.l ++ [(⟨(v.e + (m23 : Int)), x24⟩ : IS)]).length; omega⟩, by show ([] : List IS).length + (39 + x10) - (v.l ++ [(⟨(v.e + (m23 : Int)), x24⟩ : IS)]).length < ([] : List IS).length + (39 + x10) - v.l.length; omega, swp_inj, (swp_fix rfl rfl), ⟨⟨⟨_, rfl, rfl⟩, ⟨_, rfl, congrArg (fun z : Nat => SV.one (.own 1 2 z)) hln.symm⟩, ⟨_, rfl, congrArg (fun z : Nat => SV.one (.int .i64 (((39 + x10) - (z - ([] : List IS).length) : Nat) : Int))) ((show v.l.length + 1 = (v.l ++ [(⟨(v.e + (m23 : Int)), x24⟩ : IS)]).length from hln.symm))⟩, ⟨_, rfl, rfl⟩, trivial⟩, ⟨⟨_, rfl, rfl, Nat.le_of_eq hln, fun ia ja hi hj => (en_app (hln ▸ hi)).trans (en_ren hj).symm⟩, ⟨_, rfl, rfl, Nat.le_refl _, fun _ _ _ _ => rfl⟩, trivial⟩⟩⟩
    · have _u := True.intro
      replace hb14 := of_decide_eq_false hb14
      have hl0 : ([] : List IS).length = 0 := rfl
      have hkl : ¬ v.l.length < (39 + x10) := by omega
      refine AW.exit ?_
      refine AW.seq ?_
      refine AW.seq ?_
      refine AW.region ?_
      refine ARun.pure (PureOp.move rfl (.tmp rfl)) rfl rfl (Nat.le_of_ble_eq_true rfl) ?_
      refine ARun.pure (PureOp.lenOwn rfl (.tmp rfl) vd2_sl_26) rfl rfl (Nat.le_of_ble_eq_true rfl) ?_
      refine ARun.pure (PureOp.intOp rfl (.tmp rfl) .int rfl) rfl rfl (Nat.le_of_ble_eq_true rfl) ?_
      refine ARun.pure (PureOp.move rfl (.tmp rfl)) rfl rfl (Nat.le_of_ble_eq_true rfl) ?_
      refine ARun.gpure (want := true) (.tt rfl) (fun hg28 => PureOp.move rfl (.tmp rfl)) rfl rfl (Nat.le_of_ble_eq_true rfl) rfl (Nat.le_of_ble_eq_true rfl) ?_
      refine ARun.gcur (id := 1000000) (want := true) (.tt rfl) rfl (v_One n F hF v.p v.s (by omega) (by omega) 20 (by omega)) vd2_ca_71 (fun hg29 => ⟨.inr (.gtmp rfl hg29), .inl ⟨_, .int, .int⟩, trivial⟩) rfl rfl rfl (Nat.le_of_ble_eq_true rfl) rfl (Nat.le_of_ble_eq_true rfl) (fun x30 p31 sd32 hc33 hn34 => ?_)
      obtain ⟨hc331, hc332, hc333⟩ : CurOk v.p 2 p31 sd32 := CurOk.gd (by omega) (hc33) hn34
      refine ARun.pure (PureOp.pick rfl (.tmp rfl) (fun hp35 => .gtmp rfl hp35) (fun _ => .bool)) rfl rfl (Nat.le_of_ble_eq_true rfl) ?_
      refine ARun.nil ?_
      refine AW.cond (.tmp rfl) (fun hb37 => ?_) (fun hb37 => ?_)
      · have _u := True.intro
        have hl0 : ([] : List IS).length = 0 := rfl
        have h0 := of_decide_eq_true (and_condE hb37).1
        have h00 : 0 < v.l.length := by omega
        refine AW.region ?_
        refine ARun.pure (PureOp.move rfl (.tmp rfl)) rfl rfl (Nat.le_of_ble_eq_true rfl) ?_
        refine ARun.pure (PureOp.move rfl (.tmp rfl)) rfl rfl (Nat.le_of_ble_eq_true rfl) ?_
        refine ARun.pure (PureOp.move rfl (.tmp rfl)) rfl rfl (Nat.le_of_ble_eq_true rfl) ?_
        refine ARun.pure (PureOp.lenOwn rfl (.tmp rfl) vd2_sl_26) rfl rfl (Nat.le_of_ble_eq_true rfl) ?_
        refine ARun.cur (id := 1000000) rfl (v_Pick n F hF p31 sd32 (by omega) (by omega) v.l.length (by omega)) vd2_ca_69 ⟨.inr (.tmp rfl), .inl ⟨_, (.tmp rfl), .int⟩, trivial⟩ rfl rfl rfl (Nat.le_of_ble_eq_true rfl) (fun x38 p39 sd40 hc41 => ?_)
        obtain ⟨hc41x, hc41c⟩ := hc41
        obtain ⟨hc411, hc412, hc413⟩ := hc41c
        refine ARun.pure (PureOp.move rfl (.tmp rfl)) rfl rfl (Nat.le_of_ble_eq_true rfl) ?_
        refine ARun.fresh (FreshOp.quad (a1 := 0) (a2 := 1) (a3 := 1000) (a4 := 1001) rfl .int .int .int .int Try.underlying96 (by kernel_rfl)) rfl rfl (Nat.le_of_ble_eq_true rfl) ?_
        refine ARun.cur (id := 1000000) rfl (v_Among n F hF p39 sd40 (by omega) (by omega) ([0, 1, 1000, 1001] : List Int) ⟨by decide, by decide⟩) vd2_ca_81 ⟨.inr (.tmp rfl), .inl ⟨_, (.tmp rfl), .frs⟩, trivial⟩ rfl rfl rfl (Nat.le_of_ble_eq_true rfl) (fun x42 p43 sd44 hc45 => ?_)
        obtain ⟨hc45x, hc45c⟩ := hc45
        obtain ⟨hc451, hc452, hc453⟩ := hc45c
        refine ARun.pure (PureOp.indexOwn (i := x38) rfl (.tmp rfl) vd2_el_26_2 (.tmp rfl) rfl (show _ < v.l.length from by omega)) rfl rfl (Nat.le_of_ble_eq_true rfl) ?_
        refine ARun.pure (PureOp.fieldPtr rfl (.tmp rfl) vd2_fi_52_0_0) rfl rfl (Nat.le_of_ble_eq_true rfl) ?_
        refine ARun.storeArr rfl (.tmp rfl) (.tmp rfl) trivial rfl (show _ < v.l.length from by omega) (Nat.le_of_ble_eq_true rfl) vd2_sz_3_1 rfl rfl ?_
        refine ARun.nil ?_
        refine AW.seq ?_
        refine AW.region ?_
        refine ARun.pure (PureOp.move rfl (.tmp rfl)) rfl rfl (Nat.le_of_ble_eq_true rfl) ?_
        refine ARun.pure (PureOp.assign rfl (.tmp rfl)) rfl rfl (Nat.le_of_ble_eq_true rfl) ?_
        refine ARun.nil ?_
        exact AW.ret (show ∃ x p' s' t, _ ∧ ResL _ _ [.tmp 2] t ∧ _ ∧ _ from ⟨(v.l.set x38 (⟨x42, (v.l.getD x38 (default : GEntry)).s⟩ : IS)), p43, sd44, _, ⟨⟨by rw [List.length_set]; show v.l.length ≤ 41; omega, allE1_set hv6 (amr hc45x)⟩, ⟨by omega, by omega, by omega⟩⟩, .inl ⟨_, rfl, .tmp rfl⟩, fw_en rfl rfl rfl (Nat.le_of_eq (List.length_set ..)) (List.length_set ..).symm (fun _ _ _ hj => en_set (show x38 < v.l.length from by omega) hj), rfl⟩)
      · have _u := True.intro
        have hl0 : ([] : List IS).length = 0 := rfl
        refine AW.skip ?_
        refine AW.seq ?_
        refine AW.region ?_
        refine ARun.pure (PureOp.move rfl (.tmp rfl)) rfl rfl (Nat.le_of_ble_eq_true rfl) ?_
        refine ARun.pure (PureOp.assign rfl (.tmp rfl)) rfl rfl (Nat.le_of_ble_eq_true rfl) ?_
        refine ARun.nil ?_
        exact AW.ret (show ∃ x p' s' t, _ ∧ ResL _ _ [.tmp 2] t ∧ _ ∧ _ from ⟨v.l, p31, sd32, _, ⟨⟨by show v.l.length ≤ 41; omega, hv6⟩, ⟨by omega, by omega, by omega⟩⟩, .inl ⟨_, rfl, .tmp rfl⟩, fw_en rfl rfl rfl (Nat.le_refl _) rfl (fun _ _ _ _ => rfl), rfl⟩)
  · have _u := True.intro
    refine AW.skip ?_
    refine AW.seq ?_
    refine AW.region ?_
    refine ARun.pure (PureOp.assign rfl .int) rfl rfl (Nat.le_of_ble_eq_true rfl) ?_
    refine ARun.nil ?_
    refine AW.seq ?_
    refine AW.block ?_
    refine AW.nilSlot 3 900 2 (enC []) rfl ⟨rfl, (by repeat first | exact trivial | refine ⟨by decide, by first | rfl | exact trivial | (intro i j; first | rfl | exact getD_no rfl | (dsimp only; split <;> first | rfl | exact getD_no rfl) | exact scl_no (by apply_assumption) _), ?_⟩)⟩ ?_
    -- objects are renamed
    refine AW.loopR (ι := EnS) (fun v => ⟨[(0, .one (.ptr 1000000 3 0 0)), (3, .one (.own 900 2 v.l.length)), (4, .one (.int .i64 (((x1 - (v.l.length - ([] : List IS).length)) : Nat) : Int))), (5, .one (.int .i64 v.e))], [(900, .arr 2 v.l.length (enC v.l)), (1000000, .cells [.cv c (.lst 1 n (fun i _ => .int .u8 ((F i : Nat) : Int))), .int .i64 (v.p : Int), .int .u64 ((v.s : Nat) : Int)])]⟩) (fun v => v.l.length ≤ ([] : List IS).length + x1 ∧ v.p ≤ p6 + 6 * v.l.length ∧ v.s < 18446744073709551616 ∧ p6 ≤ v.p ∧ (0 ≤ v.e ∧ v.e ≤ 1 + 2 * (v.l.length : Int)) ∧ allE1 v.l ∧ ([] : List IS).length ≤ v.l.length) (fun v => ([] : List IS).length + x1 - v.l.length) ⟨([] : List IS), p6, sd7, 1⟩ ⟨by show ([] : List IS).length ≤ ([] : List IS).length + x1; omega, by show p6 ≤ p6 + 6 * ([] : List IS).length; omega, by show sd7 < 18446744073709551616; omega, Nat.le_refl _, by show 0 ≤ 1 ∧ 1 ≤ 1 + 2 * (([] : List IS).length : Int); omega, (fun _ he => (nomatch he)), Nat.le_refl _⟩ ⟨⟨⟨_, rfl, rfl⟩, ⟨_, rfl, rfl⟩, ⟨_, rfl, congrArg (fun z : Nat => SV.one (.int .i64 (z : Int))) (show x1 = x1 - (([] : List IS).length - ([] : List IS).length) from by omega)⟩, ⟨_, rfl, rfl⟩, trivial⟩, ⟨⟨_, rfl, rfl, Nat.le_refl _, fun _ _ _ _ => rfl⟩, ⟨_, rfl, rfl, Nat.le_refl _, fun _ _ _ _ => rfl⟩, trivial⟩⟩ ?_
    intro v hv
    obtain ⟨hv1, hv2, hv3, hv4, hv5, hv6, hv7⟩ := hv
    refine AW.seq ?_
    refine AW.seq ?_
    refine AW.region ?_
    refine ARun.pure (PureOp.move rfl (.tmp rfl)) rfl rfl (Nat.le_of_ble_eq_true rfl) ?_
    refine ARun.pure (PureOp.intOp rfl (.tmp rfl) .int rfl) rfl rfl (Nat.le_of_ble_eq_true rfl) ?_
    refine ARun.nil ?_
    refine AW.cond (.tmp rfl) (fun hb46 => ?_) (fun hb46 => ?_)
    · have _u := True.intro
      replace hb46 := of_decide_eq_true hb46
      have hl0 : ([] : List IS).length = 0 := rfl
      have hkl : v.l.length < x1 := by omega
      refine AW.skip ?_
      refine AW.seq ?_
      refine AW.block ?_
      refine AW.seq ?_
      refine AW.region ?_
      refine ARun.pure (PureOp.move rfl (.tmp rfl)) rfl rfl (Nat.le_of_ble_eq_true rfl) ?_
      refine ARun.pure (PureOp.move rfl (.tmp rfl)) rfl rfl (Nat.le_of_ble_eq_true rfl) ?_
      refine ARun.cur (id := 1000000) rfl (v_Pick n F hF v.p v.s (by omega) (by omega) 3 (by omega)) vd2_ca_69 ⟨.inr (.tmp rfl), .inl ⟨_, .int, .int⟩, trivial⟩ rfl rfl rfl (Nat.le_of_ble_eq_true rfl) (fun x47 p48 sd49 hc50 => ?_)
      obtain ⟨hc50x, hc50c⟩ := hc50
      obtain ⟨hc501, hc502, hc503⟩ := hc50c
      refine ARun.pure (PureOp.quo (a := x47) (b := 2) rfl (.tmp rfl) .int rfl (by decide) (by omega)) rfl rfl (Nat.le_of_ble_eq_true rfl) ?_
      refine ARun.pure (PureOp.move rfl (.tmp rfl)) rfl rfl (Nat.le_of_ble_eq_true rfl) ?_
      refine ARun.cur (id := 1000000) rfl (v_Pick n F hF p48 sd49 (by omega) (by omega) 2 (by omega)) vd2_ca_69 ⟨.inr (.tmp rfl), .inl ⟨_, .int, .int⟩, trivial⟩ rfl rfl rfl (Nat.le_of_ble_eq_true rfl) (fun x51 p52 sd53 hc54 => ?_)
      obtain ⟨hc54x, hc54c⟩ := hc54
      obtain ⟨hc541, hc542, hc543⟩ := hc54c
      refine ARun.pure (PureOp.add (c := ((1 + x51 : Nat) : Int)) rfl .int (.tmp rfl) (by rw [wrap_id (by omega) (by omega)]; omega)) rfl rfl (Nat.le_of_ble_eq_true rfl) ?_
      obtain ⟨m55, m55a, m55b⟩ := mul_half hc50x hc54x
      refine ARun.pure (PureOp.mul (c := (m55 : Int)) rfl (.tmp rfl) (.tmp rfl) (by rw [m55a]; exact wrap_id (by omega) (by omega))) rfl rfl (Nat.le_of_ble_eq_true rfl) ?_
      refine ARun.pure (PureOp.add (c := v.e + (m55 : Int)) rfl (.tmp rfl) (.tmp rfl) (wrap_id (by omega) (by omega))) rfl rfl (Nat.le_of_ble_eq_true rfl) ?_
      refine ARun.pure (PureOp.assign rfl (.tmp rfl)) rfl rfl (Nat.le_of_ble_eq_true rfl) ?_
      refine ARun.nil ?_
      refine AW.region ?_
      refine ARun.pure (PureOp.move rfl (.tmp rfl)) rfl rfl (Nat.le_of_ble_eq_true rfl) ?_
      refine ARun.pure (PureOp.move rfl (.tmp rfl)) rfl rfl (Nat.le_of_ble_eq_true rfl) ?_
      refine ARun.pure (PureOp.move rfl (.tmp rfl)) rfl rfl (Nat.le_of_ble_eq_true rfl) ?_
      refine ARun.fresh (FreshOp.strs3 (a1 := (⟨#[97]⟩ : ByteArray)) (a2 := (⟨#[98]⟩ : ByteArray)) (a3 := (⟨#[99]⟩ : ByteArray)) rfl (.str (by decide)) (.str (by decide)) (.str (by decide)) Try.underlying94 (by kernel_rfl)) rfl rfl (Nat.le_of_ble_eq_true rfl) ?_
      refine ARun.cur (id := 1000000) rfl (v_Of n F hF p52 sd53 (by omega) (by omega) ([(⟨#[97]⟩ : ByteArray), (⟨#[98]⟩ : ByteArray), (⟨#[99]⟩ : ByteArray)] : List ByteArray) ⟨by decide, by decide⟩) vd2_ca_79 ⟨.inr (.tmp rfl), .inl ⟨_, (.tmp rfl), .frs⟩, trivial⟩ rfl rfl rfl (Nat.le_of_ble_eq_true rfl) (fun x56 p57 sd58 hc59 => ?_)
      obtain ⟨hc59x, hc59c⟩ := hc59
      obtain ⟨hc591, hc592, hc593⟩ := hc59c
      refine ARun.pure (PureOp.build (ys := [.int .i64 (v.e + (m55 : Int)), .str x56]) (l := [.int .i64 0, .str ByteArray.empty]) (pl := [(0, 1), (1, 1)]) (z := (.agg #[.int .i64 0, .string ByteArray.empty])) rfl (by kernel_rfl) (by kernel_rfl) (fun _ _ _ => ⟨_, _, rfl, rfl, ⟨_, _, rfl, ⟨rfl, by decide⟩, rfl⟩⟩) ⟨(.tmp rfl), trivial, rfl, ⟨(.tmp rfl), trivial, rfl, trivial⟩⟩ rfl) rfl rfl (Nat.le_of_ble_eq_true rfl) ?_
      refine ARun.slice1 (id := 2) (z := (.agg #[.int .i64 0, .string ByteArray.empty])) (by_ := 24) rfl (.tmp rfl) (SV.cells_of (by exact ⟨trivial, trivial, trivial⟩)) (by kernel_rfl) rfl rfl (by decide) (by decide) ⟨rfl, (by repeat first | exact trivial | refine ⟨by decide, by first | rfl | exact trivial | (intro i j; first | rfl | exact getD_no rfl | (dsimp only; split <;> first | rfl | exact getD_no rfl) | exact scl_no (by apply_assumption) _), ?_⟩)⟩ rfl rfl rfl (Nat.le_of_ble_eq_true rfl) ?_
      refine ARun.append (id := 3) (sz := 2) (n := v.l.length) (m := 1) (by_ := 24) (z := (.agg #[.int .i64 0, .string ByteArray.empty])) (f := enC v.l) (g := fun _ jc => ([.int .i64 (v.e + (m55 : Int)), .str x56] : List AV).getD jc (.con undef)) (h := fun ia ja => if ia < v.l.length then (enC v.l) ia ja else (fun _ jc => ([.int .i64 (v.e + (m55 : Int)), .str x56] : List AV).getD jc (.con undef)) (ia - v.l.length) ja) rfl (by kernel_rfl) rfl vd2_sl_26 (.own (.tmp rfl) rfl rfl rfl (Nat.le_refl _) (fun _ _ _ _ => rfl)) (.own (.tmp rfl) rfl rfl (Nat.le_refl _) (fun _ _ _ _ => rfl)) (by decide) (fun i j hi hj => match j, hj with | 0, _ => rfl | 1, _ => rfl | _ + 2, h => absurd h (by omega)) (fun _ _ _ _ => rfl) (by omega) (by omega) ⟨rfl, (by repeat first | exact trivial | refine ⟨by decide, by first | rfl | exact trivial | (intro i j; first | rfl | exact getD_no rfl | (dsimp only; split <;> first | rfl | exact getD_no rfl) | exact scl_no (by apply_assumption) _), ?_⟩)⟩ (fun i j => by dsimp only; (repeat' split) <;> first | rfl | exact getD_no rfl) rfl rfl (Nat.le_of_ble_eq_true rfl) ?_
      refine ARun.pure (PureOp.assign rfl (.tmp rfl)) rfl rfl (Nat.le_of_ble_eq_true rfl) ?_
      refine ARun.nil ?_
      refine AW.region ?_
      refine ARun.pure (PureOp.move rfl (.tmp rfl)) rfl rfl (Nat.le_of_ble_eq_true rfl) ?_
      refine ARun.pure (PureOp.sub (c := (((x1 - (v.l.length + 1 - ([] : List IS).length)) : Nat) : Int)) rfl (.tmp rfl) .int (by rw [wrap_id (by omega) (by omega)]; omega)) rfl rfl (Nat.le_of_ble_eq_true rfl) ?_
      refine ARun.pure (PureOp.assign rfl (.tmp rfl)) rfl rfl (Nat.le_of_ble_eq_true rfl) ?_
      refine ARun.nil ?_
      have hln : (v.l ++ [(⟨(v.e + (m55 : Int)), x56⟩ : IS)]).length = v.l.length + 1 := by rw [List.length_append]; rfl
      exact ⟨⟨(v.l ++ [(⟨(v.e + (m55 : Int)), x56⟩ : IS)]), p57, sd58, v.e + (m55 : Int)⟩, (swp 900 3), ⟨by show (v.l ++ [(⟨(v.e + (m55 : Int)), x56⟩ : IS)]).length ≤ ([] : List IS).length + x1; omega, by show p57 ≤ _ + 6 * (v.l ++ [(⟨(v.e + (m55 : Int)), x56⟩ : IS)]).length; omega, by show sd58 < _; omega, by show _ ≤ p57; omega, by show 0 ≤ v.e + (m55 : Int) ∧ v.e + (m55 : Int) ≤ 1 + 2 * ((v.l ++ [(⟨(v.e + (m55 : Int)), x56⟩ : IS)]).length : Int); omega, allE1_app hv6 (by omega), by show ([] : List IS).length ≤ (v.l ++ [(⟨(v.e + (m55 : Int)), x56⟩ : IS)]).length; omega⟩, by show ([] : List IS).length + x1 - (v.l ++ [(⟨(v.e + (m55 : Int)), x56⟩ : IS)]).length < ([] : List IS).length + x1 - v.l.length; omega, swp_inj, (swp_fix rfl rfl), ⟨⟨⟨_, rfl, rfl⟩, ⟨_, rfl, congrArg (fun z : Nat => SV.one (.own 3 2 z)) hln.symm⟩, ⟨_, rfl, congrArg (fun z : Nat => SV.one (.int .i64 ((x1 - (z - ([] : List IS).length) : Nat) : Int))) ((show v.l.length + 1 = (v.l ++ [(⟨(v.e + (m55 : Int)), x56⟩ : IS)]).length from hln.symm))⟩, ⟨_, rfl, rfl⟩, trivial⟩, ⟨⟨_, rfl, rfl, Nat.le_of_eq hln, fun ia ja hi hj => (en_app (hln ▸ hi)).trans (en_ren hj).symm⟩, ⟨_, rfl, rfl, Nat.le_refl _, fun _ _ _ _ => rfl⟩, trivial⟩⟩⟩
    · have _u := True.intro
      replace hb46 := of_decide_eq_false hb46
      have hl0 : ([] : List IS).length = 0 := rfl
      have hkl : ¬ v.l.length < x1 := by omega
      refine AW.exit ?_
      refine AW.seq ?_
      refine AW.seq ?_
      refine AW.region ?_
      refine ARun.pure (PureOp.move rfl (.tmp rfl)) rfl rfl (Nat.le_of_ble_eq_true rfl) ?_
      refine ARun.pure (PureOp.lenOwn rfl (.tmp rfl) vd2_sl_26) rfl rfl (Nat.le_of_ble_eq_true rfl) ?_
      refine ARun.pure (PureOp.intOp rfl (.tmp rfl) .int rfl) rfl rfl (Nat.le_of_ble_eq_true rfl) ?_
      refine ARun.pure (PureOp.move rfl (.tmp rfl)) rfl rfl (Nat.le_of_ble_eq_true rfl) ?_
      refine ARun.gpure (want := true) (.tt rfl) (fun hg60 => PureOp.move rfl (.tmp rfl)) rfl rfl (Nat.le_of_ble_eq_true rfl) rfl (Nat.le_of_ble_eq_true rfl) ?_
      refine ARun.gcur (id := 1000000) (want := true) (.tt rfl) rfl (v_One n F hF v.p v.s (by omega) (by omega) 20 (by omega)) vd2_ca_71 (fun hg61 => ⟨.inr (.gtmp rfl hg61), .inl ⟨_, .int, .int⟩, trivial⟩) rfl rfl rfl (Nat.le_of_ble_eq_true rfl) rfl (Nat.le_of_ble_eq_true rfl) (fun x62 p63 sd64 hc65 hn66 => ?_)
      obtain ⟨hc651, hc652, hc653⟩ : CurOk v.p 2 p63 sd64 := CurOk.gd (by omega) (hc65) hn66
      refine ARun.pure (PureOp.pick rfl (.tmp rfl) (fun hp67 => .gtmp rfl hp67) (fun _ => .bool)) rfl rfl (Nat.le_of_ble_eq_true rfl) ?_
      refine ARun.nil ?_
      refine AW.cond (.tmp rfl) (fun hb69 => ?_) (fun hb69 => ?_)
      · have _u := True.intro
        have hl0 : ([] : List IS).length = 0 := rfl
        have h0 := of_decide_eq_true (and_condE hb69).1
        have h00 : 0 < v.l.length := by omega
        refine AW.region ?_
        refine ARun.pure (PureOp.move rfl (.tmp rfl)) rfl rfl (Nat.le_of_ble_eq_true rfl) ?_
        refine ARun.pure (PureOp.move rfl (.tmp rfl)) rfl rfl (Nat.le_of_ble_eq_true rfl) ?_
        refine ARun.pure (PureOp.move rfl (.tmp rfl)) rfl rfl (Nat.le_of_ble_eq_true rfl) ?_
        refine ARun.pure (PureOp.lenOwn rfl (.tmp rfl) vd2_sl_26) rfl rfl (Nat.le_of_ble_eq_true rfl) ?_
        refine ARun.cur (id := 1000000) rfl (v_Pick n F hF p63 sd64 (by omega) (by omega) v.l.length (by omega)) vd2_ca_69 ⟨.inr (.tmp rfl), .inl ⟨_, (.tmp rfl), .int⟩, trivial⟩ rfl rfl rfl (Nat.le_of_ble_eq_true rfl) (fun x70 p71 sd72 hc73 => ?_)
        obtain ⟨hc73x, hc73c⟩ := hc73
        obtain ⟨hc731, hc732, hc733⟩ := hc73c
        refine ARun.pure (PureOp.move rfl (.tmp rfl)) rfl rfl (Nat.le_of_ble_eq_true rfl) ?_
        refine ARun.fresh (FreshOp.quad (a1 := 0) (a2 := 1) (a3 := 1000) (a4 := 1001) rfl .int .int .int .int Try.underlying96 (by kernel_rfl)) rfl rfl (Nat.le_of_ble_eq_true rfl) ?_
        refine ARun.cur (id := 1000000) rfl (v_Among n F hF p71 sd72 (by omega) (by omega) ([0, 1, 1000, 1001] : List Int) ⟨by decide, by decide⟩) vd2_ca_81 ⟨.inr (.tmp rfl), .inl ⟨_, (.tmp rfl), .frs⟩, trivial⟩ rfl rfl rfl (Nat.le_of_ble_eq_true rfl) (fun x74 p75 sd76 hc77 => ?_)
        obtain ⟨hc77x, hc77c⟩ := hc77
        obtain ⟨hc771, hc772, hc773⟩ := hc77c
        refine ARun.pure (PureOp.indexOwn (i := x70) rfl (.tmp rfl) vd2_el_26_2 (.tmp rfl) rfl (show _ < v.l.length from by omega)) rfl rfl (Nat.le_of_ble_eq_true rfl) ?_
        refine ARun.pure (PureOp.fieldPtr rfl (.tmp rfl) vd2_fi_52_0_0) rfl rfl (Nat.le_of_ble_eq_true rfl) ?_
        refine ARun.storeArr rfl (.tmp rfl) (.tmp rfl) trivial rfl (show _ < v.l.length from by omega) (Nat.le_of_ble_eq_true rfl) vd2_sz_3_1 rfl rfl ?_
        refine ARun.nil ?_
        refine AW.seq ?_
        refine AW.region ?_
        refine ARun.pure (PureOp.move rfl (.tmp rfl)) rfl rfl (Nat.le_of_ble_eq_true rfl) ?_
        refine ARun.pure (PureOp.assign rfl (.tmp rfl)) rfl rfl (Nat.le_of_ble_eq_true rfl) ?_
        refine ARun.nil ?_
        exact AW.ret (show ∃ x p' s' t, _ ∧ ResL _ _ [.tmp 2] t ∧ _ ∧ _ from ⟨(v.l.set x70 (⟨x74, (v.l.getD x70 (default : GEntry)).s⟩ : IS)), p75, sd76, _, ⟨⟨by rw [List.length_set]; show v.l.length ≤ 41; omega, allE1_set hv6 (amr hc77x)⟩, ⟨by omega, by omega, by omega⟩⟩, .inl ⟨_, rfl, .tmp rfl⟩, fw_en rfl rfl rfl (Nat.le_of_eq (List.length_set ..)) (List.length_set ..).symm (fun _ _ _ hj => en_set (show x70 < v.l.length from by omega) hj), rfl⟩)
      · have _u := True.intro
        have hl0 : ([] : List IS).length = 0 := rfl
        refine AW.skip ?_
        refine AW.seq ?_
        refine AW.region ?_
        refine ARun.pure (PureOp.move rfl (.tmp rfl)) rfl rfl (Nat.le_of_ble_eq_true rfl) ?_
        refine ARun.pure (PureOp.assign rfl (.tmp rfl)) rfl rfl (Nat.le_of_ble_eq_true rfl) ?_
        refine ARun.nil ?_
        exact AW.ret (show ∃ x p' s' t, _ ∧ ResL _ _ [.tmp 2] t ∧ _ ∧ _ from ⟨v.l, p63, sd64, _, ⟨⟨by show v.l.length ≤ 41; omega, hv6⟩, ⟨by omega, by omega, by omega⟩⟩, .inl ⟨_, rfl, .tmp rfl⟩, fw_en rfl rfl rfl (Nat.le_refl _) rfl (fun _ _ _ _ => rfl), rfl⟩)

theorem v_TwoLogs (n : Nat) (F : Nat → Nat) (hF : ∀ i, F i < 256) (p s : Nat) (hp : p ≤ 1500000000) (hs : s < 18446744073709551616) : FnC2 Try.prog 60 n F [] p s (fun (x : List IS × List IS) p' s' => ((x.1.length ≤ 41 ∧ allEn x.1) ∧ x.2.length ≤ 100 ∧ allEn x.2) ∧ CurOk p 5000 p' s') (fun (x : List IS × List IS) => .tup2 (.one (ensAV x.1)) (.one (ensAV x.2))) := by
  refine FnC2.of_body (fn := Try.f60) Try.func60 rfl (Nat.le_of_ble_eq_true rfl) ?_
  intro w0 c
  show AW _ 49 _ _ _ _
  refine AW.seq ?_
  refine AW.region ?_
  refine ARun.pure (PureOp.assign rfl .con) rfl rfl (Nat.le_of_ble_eq_true rfl) ?_
  refine ARun.pure (PureOp.assign rfl .con) rfl rfl (Nat.le_of_ble_eq_true rfl) ?_
  refine ARun.nil ?_
  refine AW.seq ?_
  refine AW.region ?_
  refine ARun.pure (PureOp.move rfl (.tmp rfl)) rfl rfl (Nat.le_of_ble_eq_true rfl) ?_
  refine ARun.cur (id := 1000000) rfl (v_Entries n F hF p s (by omega) (by omega)) vd2_ca_68 ⟨.inr (.tmp rfl), trivial⟩ rfl rfl rfl (Nat.le_of_ble_eq_true rfl) (fun x1 p2 sd3 hc4 => ?_)
  obtain ⟨⟨hc4x, hc4r⟩, hc4c⟩ := hc4
  obtain ⟨hc41, hc42, hc43⟩ := hc4c
  refine ARun.pure (PureOp.assign rfl (.tmp rfl)) rfl rfl (Nat.le_of_ble_eq_true rfl) ?_
  refine ARun.nil ?_
  refine AW.seq ?_
  refine AW.seq ?_
  refine AW.region ?_
  refine ARun.pure (PureOp.move rfl (.tmp rfl)) rfl rfl (Nat.le_of_ble_eq_true rfl) ?_
  refine ARun.cur (id := 1000000) rfl (v_One n F hF p2 sd3 (by omega) (by omega) 6 (by omega)) vd2_ca_71 ⟨.inr (.tmp rfl), .inl ⟨_, .int, .int⟩, trivial⟩ rfl rfl rfl (Nat.le_of_ble_eq_true rfl) (fun x5 p6 sd7 hc8 => ?_)
  have hc8c := hc8
  obtain ⟨hc81, hc82, hc83⟩ := hc8c
  refine ARun.nil ?_
  refine AW.cond (.tmp rfl) (fun hb9 => ?_) (fun hb9 => ?_)
  · have _u := True.intro
    refine AW.seq ?_
    refine AW.region ?_
    refine ARun.pure (PureOp.move rfl (.tmp rfl)) rfl rfl (Nat.le_of_ble_eq_true rfl) ?_
    refine ARun.pure (PureOp.move rfl (.tmp rfl)) rfl rfl (Nat.le_of_ble_eq_true rfl) ?_
    refine ARun.cur (id := 1000000) rfl (v_Entries n F hF p6 sd7 (by omega) (by omega)) vd2_ca_68 ⟨.inr (.tmp rfl), trivial⟩ rfl rfl rfl (Nat.le_of_ble_eq_true rfl) (fun x10 p11 sd12 hc13 => ?_)
    obtain ⟨⟨hc13x, hc13r⟩, hc13c⟩ := hc13
    obtain ⟨hc131, hc132, hc133⟩ := hc13c
    refine ARun.pure (PureOp.assign rfl (.tmp rfl)) rfl rfl (Nat.le_of_ble_eq_true rfl) ?_
    refine ARun.pure (PureOp.assign rfl (.tmp rfl)) rfl rfl (Nat.le_of_ble_eq_true rfl) ?_
    refine ARun.nil ?_
    exact AW.ret (show ∃ x p' s' t, _ ∧ ResL _ _ [.tmp 2, .tmp 3] t ∧ _ ∧ _ from ⟨⟨x1, x10⟩, p11, sd12, _, ⟨⟨⟨hc4x, hc4r.en⟩, by have := hc13x; show x10.length ≤ 100; omega, hc13r.en⟩, ⟨by omega, by omega, by omega⟩⟩, .inr (.inl ⟨_, _, _, _, rfl, .tmp rfl, .tmp rfl, rfl⟩), ⟨.frs, .frs⟩, rfl⟩)
  · have _u := True.intro
    refine AW.skip ?_
    refine AW.seq ?_
    refine AW.region ?_
    refine ARun.pure (PureOp.move rfl (.tmp rfl)) rfl rfl (Nat.le_of_ble_eq_true rfl) ?_
    refine ARun.pure (PureOp.move rfl (.tmp rfl)) rfl rfl (Nat.le_of_ble_eq_true rfl) ?_
    refine ARun.pure (PureOp.lenLst rfl (.frs (.tmp rfl)) vd2_sl_26) rfl rfl (Nat.le_of_ble_eq_true rfl) ?_
    refine ARun.pure (PureOp.add (c := ((x1.length + 1 : Nat) : Int)) rfl (.tmp rfl) .int (by rw [wrap_id (by omega) (by omega)]; omega)) rfl rfl (Nat.le_of_ble_eq_true rfl) ?_
    refine ARun.cur (id := 1000000) rfl (v_Pick n F hF p6 sd7 (by omega) (by omega) (x1.length + 1) (by omega)) vd2_ca_69 ⟨.inr (.tmp rfl), .inl ⟨_, (.tmp rfl), .int⟩, trivial⟩ rfl rfl rfl (Nat.le_of_ble_eq_true rfl) (fun x14 p15 sd16 hc17 => ?_)
    obtain ⟨hc17x, hc17c⟩ := hc17
    obtain ⟨hc171, hc172, hc173⟩ := hc17c
    refine ARun.pure (PureOp.assign rfl (.tmp rfl)) rfl rfl (Nat.le_of_ble_eq_true rfl) ?_
    refine ARun.nil ?_
    refine AW.seq ?_
    refine AW.region ?_
    refine ARun.slice0 (id := 0) (z := (.agg #[.int .i64 0, .string ByteArray.empty])) (sz := 2) (by_ := 24) rfl (by kernel_rfl) (fun _ _ => .con undef) (fun _ _ => rfl) ⟨rfl, (by repeat first | exact trivial | refine ⟨by decide, by first | rfl | exact trivial | (intro i j; first | rfl | exact getD_no rfl | (dsimp only; split <;> first | rfl | exact getD_no rfl) | exact scl_no (by apply_assumption) _), ?_⟩)⟩ rfl rfl (Nat.le_of_ble_eq_true rfl) ?_
    refine ARun.pure (PureOp.move rfl (.tmp rfl)) rfl rfl (Nat.le_of_ble_eq_true rfl) ?_
    refine ARun.pure (PureOp.move rfl (.tmp rfl)) rfl rfl (Nat.le_of_ble_eq_true rfl) ?_
    refine ARun.pure (PureOp.takeLst (k := x14) rfl (.frs (.tmp rfl)) (.tmp rfl) rfl (show _ ≤ _ from by omega) vd2_el_26_2) rfl rfl (Nat.le_of_ble_eq_true rfl) ?_
    refine ARun.append (id := 1) (sz := 2) (n := 0) (m := x14) (by_ := 24) (z := (.agg #[.int .i64 0, .string ByteArray.empty])) (f := fun _ _ => .con undef) (g := enC x1) (h := fun ia ja => if ia < 0 then (fun _ _ => .con undef) ia ja else (enC x1) (ia - 0) ja) rfl (by kernel_rfl) rfl vd2_sl_26 (.own (.tmp rfl) rfl rfl rfl (Nat.le_refl _) (fun _ _ _ _ => rfl)) (.lst (.tmp rfl)) (by decide) (fun i j hi hj => match j, hj with | 0, _ => rfl | 1, _ => rfl | _ + 2, h => absurd h (by omega)) (fun _ _ _ _ => rfl) (by omega) (by omega) ⟨rfl, (by repeat first | exact trivial | refine ⟨by decide, by first | rfl | exact trivial | (intro i j; first | rfl | exact getD_no rfl | (dsimp only; split <;> first | rfl | exact getD_no rfl) | exact scl_no (by apply_assumption) _), ?_⟩)⟩ (fun i j => by dsimp only; (repeat' split) <;> first | rfl | exact getD_no rfl) rfl rfl (Nat.le_of_ble_eq_true rfl) ?_
    refine ARun.pure (PureOp.assign rfl (.tmp rfl)) rfl rfl (Nat.le_of_ble_eq_true rfl) ?_
    refine ARun.nil ?_
    refine AW.seq ?_
    refine AW.region ?_
    have hlb0 := lastN_bd hc4r
    refine ARun.pure (PureOp.move rfl (.tmp rfl)) rfl rfl (Nat.le_of_ble_eq_true rfl) ?_
    refine ARun.pure (PureOp.call rfl (v_l7Last x1 hc4r.en) ⟨⟨_, (.tmp rfl), .frs⟩, trivial⟩ vd2_ca_78 trivial) rfl rfl (Nat.le_of_ble_eq_true rfl) ?_
    refine ARun.pure (PureOp.add (c := lastN x1 + 1) rfl (.tmp rfl) .int (wrap_id (by omega) (by omega))) rfl rfl (Nat.le_of_ble_eq_true rfl) ?_
    refine ARun.pure (PureOp.assign rfl (.tmp rfl)) rfl rfl (Nat.le_of_ble_eq_true rfl) ?_
    refine ARun.nil ?_
    refine AW.seq ?_
    refine AW.seq ?_
    refine AW.region ?_
    refine ARun.pure (PureOp.move rfl (.tmp rfl)) rfl rfl (Nat.le_of_ble_eq_true rfl) ?_
    refine ARun.cur (id := 1000000) rfl (v_Pick n F hF p15 sd16 (by omega) (by omega) 4 (by omega)) vd2_ca_69 ⟨.inr (.tmp rfl), .inl ⟨_, .int, .int⟩, trivial⟩ rfl rfl rfl (Nat.le_of_ble_eq_true rfl) (fun x18 p19 sd20 hc21 => ?_)
    obtain ⟨hc21x, hc21c⟩ := hc21
    obtain ⟨hc211, hc212, hc213⟩ := hc21c
    refine ARun.pure (PureOp.assign rfl (.tmp rfl)) rfl rfl (Nat.le_of_ble_eq_true rfl) ?_
    refine ARun.nil ?_
    refine AW.block ?_
    have hlt0 : (x1.take x14).length = 0 + x14 := by rw [List.length_take]; omega
    have hlb := lastN_bd hc4r
    -- objects are renamed
    refine AW.loopR (ι := EnS) (fun v => ⟨[(0, .one (.ptr 1000000 3 0 0)), (4, .one (.frs (.lst 2 x1.length (enC x1)))), (6, .one (.own 1 2 v.l.length)), (7, .one (.int .i64 v.e)), (8, .one (.int .i64 (((x18 - (v.l.length - (x1.take x14).length)) : Nat) : Int)))], [(1, .arr 2 v.l.length (enC v.l)), (1000000, .cells [.cv c (.lst 1 n (fun i _ => .int .u8 ((F i : Nat) : Int))), .int .i64 (v.p : Int), .int .u64 ((v.s : Nat) : Int)])]⟩) (fun v => v.l.length ≤ (x1.take x14).length + x18 ∧ v.p ≤ p19 + 6 * v.l.length ∧ v.s < 18446744073709551616 ∧ p19 ≤ v.p ∧ (0 ≤ v.e ∧ v.e ≤ 1600 + 1 * (v.l.length : Int)) ∧ allEn v.l ∧ (x1.take x14).length ≤ v.l.length) (fun v => (x1.take x14).length + x18 - v.l.length) ⟨(x1.take x14), p19, sd20, lastN x1 + 1⟩ ⟨by show (x1.take x14).length ≤ (x1.take x14).length + x18; omega, by show p19 ≤ p19 + 6 * (x1.take x14).length; omega, by show sd20 < 18446744073709551616; omega, Nat.le_refl _, by show 0 ≤ lastN x1 + 1 ∧ lastN x1 + 1 ≤ 1600 + 1 * ((x1.take x14).length : Int); omega, allEn_take _ (hc4r).en, Nat.le_refl _⟩ ⟨⟨⟨_, rfl, rfl⟩, ⟨_, rfl, rfl⟩, ⟨_, rfl, congrArg (fun z : Nat => SV.one (.own 1 2 z)) hlt0.symm⟩, ⟨_, rfl, rfl⟩, ⟨_, rfl, congrArg (fun z : Nat => SV.one (.int .i64 (z : Int))) (show x18 = x18 - ((x1.take x14).length - (x1.take x14).length) from by omega)⟩, trivial⟩, ⟨⟨_, rfl, rfl, Nat.le_of_eq hlt0, fun i j hi hj => en_take (Nat.lt_of_lt_of_eq (show i < (x1.take x14).length from hi) (hlt0.trans (Nat.zero_add _))) (fun _ _ => .con undef)⟩, ⟨_, rfl, rfl, Nat.le_refl _, fun _ _ _ _ => rfl⟩, trivial⟩⟩ ?_
    intro v hv
    obtain ⟨hv1, hv2, hv3, hv4, hv5, hv6, hv7⟩ := hv
    refine AW.seq ?_
    refine AW.seq ?_
    refine AW.region ?_
    refine ARun.pure (PureOp.move rfl (.tmp rfl)) rfl rfl (Nat.le_of_ble_eq_true rfl) ?_
    refine ARun.pure (PureOp.intOp rfl (.tmp rfl) .int rfl) rfl rfl (Nat.le_of_ble_eq_true rfl) ?_
    refine ARun.nil ?_
    refine AW.cond (.tmp rfl) (fun hb22 => ?_) (fun hb22 => ?_)
    · have _u := True.intro
      replace hb22 := of_decide_eq_true hb22
      have hkl : v.l.length < (x1.take x14).length + x18 := by omega
      refine AW.skip ?_
      refine AW.seq ?_
      refine AW.block ?_
      refine AW.seq ?_
      refine AW.region ?_
      refine ARun.pure (PureOp.move rfl (.tmp rfl)) rfl rfl (Nat.le_of_ble_eq_true rfl) ?_
      refine ARun.pure (PureOp.move rfl (.tmp rfl)) rfl rfl (Nat.le_of_ble_eq_true rfl) ?_
      refine ARun.pure (PureOp.move rfl (.tmp rfl)) rfl rfl (Nat.le_of_ble_eq_true rfl) ?_
      refine ARun.fresh (FreshOp.strs2 (a1 := (⟨#[97]⟩ : ByteArray)) (a2 := (⟨#[98]⟩ : ByteArray)) rfl (.str (by decide)) (.str (by decide)) Try.underlying94 (by kernel_rfl)) rfl rfl (Nat.le_of_ble_eq_true rfl) ?_
      refine ARun.cur (id := 1000000) rfl (v_Of n F hF v.p v.s (by omega) (by omega) ([(⟨#[97]⟩ : ByteArray), (⟨#[98]⟩ : ByteArray)] : List ByteArray) ⟨by decide, by decide⟩) vd2_ca_79 ⟨.inr (.tmp rfl), .inl ⟨_, (.tmp rfl), .frs⟩, trivial⟩ rfl rfl rfl (Nat.le_of_ble_eq_true rfl) (fun x23 p24 sd25 hc26 => ?_)
      obtain ⟨hc26x, hc26c⟩ := hc26
      obtain ⟨hc261, hc262, hc263⟩ := hc26c
      refine ARun.pure (PureOp.build (ys := [.int .i64 v.e, .str x23]) (l := [.int .i64 0, .str ByteArray.empty]) (pl := [(0, 1), (1, 1)]) (z := (.agg #[.int .i64 0, .string ByteArray.empty])) rfl (by kernel_rfl) (by kernel_rfl) (fun _ _ _ => ⟨_, _, rfl, rfl, ⟨_, _, rfl, ⟨rfl, by decide⟩, rfl⟩⟩) ⟨(.tmp rfl), trivial, rfl, ⟨(.tmp rfl), trivial, rfl, trivial⟩⟩ rfl) rfl rfl (Nat.le_of_ble_eq_true rfl) ?_
      refine ARun.slice1 (id := 2) (z := (.agg #[.int .i64 0, .string ByteArray.empty])) (by_ := 24) rfl (.tmp rfl) (SV.cells_of (by exact ⟨trivial, trivial, trivial⟩)) (by kernel_rfl) rfl rfl (by decide) (by decide) ⟨rfl, (by repeat first | exact trivial | refine ⟨by decide, by first | rfl | exact trivial | (intro i j; first | rfl | exact getD_no rfl | (dsimp only; split <;> first | rfl | exact getD_no rfl) | exact scl_no (by apply_assumption) _), ?_⟩)⟩ rfl rfl rfl (Nat.le_of_ble_eq_true rfl) ?_
      refine ARun.append (id := 3) (sz := 2) (n := v.l.length) (m := 1) (by_ := 24) (z := (.agg #[.int .i64 0, .string ByteArray.empty])) (f := enC v.l) (g := fun _ jc => ([.int .i64 v.e, .str x23] : List AV).getD jc (.con undef)) (h := fun ia ja => if ia < v.l.length then (enC v.l) ia ja else (fun _ jc => ([.int .i64 v.e, .str x23] : List AV).getD jc (.con undef)) (ia - v.l.length) ja) rfl (by kernel_rfl) rfl vd2_sl_26 (.own (.tmp rfl) rfl rfl rfl (Nat.le_refl _) (fun _ _ _ _ => rfl)) (.own (.tmp rfl) rfl rfl (Nat.le_refl _) (fun _ _ _ _ => rfl)) (by decide) (fun i j hi hj => match j, hj with | 0, _ => rfl | 1, _ => rfl | _ + 2, h => absurd h (by omega)) (fun _ _ _ _ => rfl) (by omega) (by omega) ⟨rfl, (by repeat first | exact trivial | refine ⟨by decide, by first | rfl | exact trivial | (intro i j; first | rfl | exact getD_no rfl | (dsimp only; split <;> first | rfl | exact getD_no rfl) | exact scl_no (by apply_assumption) _), ?_⟩)⟩ (fun i j => by dsimp only; (repeat' split) <;> first | rfl | exact getD_no rfl) rfl rfl (Nat.le_of_ble_eq_true rfl) ?_
      refine ARun.pure (PureOp.assign rfl (.tmp rfl)) rfl rfl (Nat.le_of_ble_eq_true rfl) ?_
      refine ARun.nil ?_
      refine AW.region ?_
      refine ARun.pure (PureOp.move rfl (.tmp rfl)) rfl rfl (Nat.le_of_ble_eq_true rfl) ?_
      refine ARun.pure (PureOp.move rfl (.tmp rfl)) rfl rfl (Nat.le_of_ble_eq_true rfl) ?_
      refine ARun.cur (id := 1000000) rfl (v_Pick n F hF p24 sd25 (by omega) (by omega) 2 (by omega)) vd2_ca_69 ⟨.inr (.tmp rfl), .inl ⟨_, .int, .int⟩, trivial⟩ rfl rfl rfl (Nat.le_of_ble_eq_true rfl) (fun x27 p28 sd29 hc30 => ?_)
      obtain ⟨hc30x, hc30c⟩ := hc30
      obtain ⟨hc301, hc302, hc303⟩ := hc30c
      refine ARun.pure (PureOp.add (c := v.e + (x27 : Int)) rfl (.tmp rfl) (.tmp rfl) (wrap_id (by omega) (by omega))) rfl rfl (Nat.le_of_ble_eq_true rfl) ?_
      refine ARun.pure (PureOp.assign rfl (.tmp rfl)) rfl rfl (Nat.le_of_ble_eq_true rfl) ?_
      refine ARun.nil ?_
      refine AW.region ?_
      refine ARun.pure (PureOp.move rfl (.tmp rfl)) rfl rfl (Nat.le_of_ble_eq_true rfl) ?_
      refine ARun.pure (PureOp.sub (c := (((x18 - (v.l.length + 1 - (x1.take x14).length)) : Nat) : Int)) rfl (.tmp rfl) .int (by rw [wrap_id (by omega) (by omega)]; omega)) rfl rfl (Nat.le_of_ble_eq_true rfl) ?_
      refine ARun.pure (PureOp.assign rfl (.tmp rfl)) rfl rfl (Nat.le_of_ble_eq_true rfl) ?_
      refine ARun.nil ?_
      have hln : (v.l ++ [(⟨v.e, x23⟩ : IS)]).length = v.l.length + 1 := by rw [List.length_append]; rfl
      exact ⟨⟨(v.l ++ [(⟨v.e, x23⟩ : IS)]), p28, sd29, v.e + (x27 : Int)⟩, (swp 1 3), ⟨by show (v.l ++ [(⟨v.e, x23⟩ : IS)]).length ≤ (x1.take x14).length + x18; omega, by show p28 ≤ _ + 6 * (v.l ++ [(⟨v.e, x23⟩ : IS)]).length; omega, by show sd29 < _; omega, by show _ ≤ p28; omega, by show 0 ≤ v.e + (x27 : Int) ∧ v.e + (x27 : Int) ≤ 1600 + 1 * ((v.l ++ [(⟨v.e, x23⟩ : IS)]).length : Int); omega, allEn_app hv6 (by omega), by show (x1.take x14).length ≤ (v.l ++ [(⟨v.e, x23⟩ : IS)]).length; omega⟩, by show (x1.take x14).length + x18 - (v.l ++ [(⟨v.e, x23⟩ : IS)]).length < (x1.take x14).length + x18 - v.l.length; omega, swp_inj, (swp_fix rfl rfl), ⟨⟨⟨_, rfl, rfl⟩, ⟨_, rfl, rfl⟩, ⟨_, rfl, congrArg (fun z : Nat => SV.one (.own 3 2 z)) hln.symm⟩, ⟨_, rfl, rfl⟩, ⟨_, rfl, congrArg (fun z : Nat => SV.one (.int .i64 ((x18 - (z - (x1.take x14).length) : Nat) : Int))) ((show v.l.length + 1 = (v.l ++ [(⟨v.e, x23⟩ : IS)]).length from hln.symm))⟩, trivial⟩, ⟨⟨_, rfl, rfl, Nat.le_of_eq hln, fun ia ja hi hj => (en_app (hln ▸ hi)).trans (en_ren hj).symm⟩, ⟨_, rfl, rfl, Nat.le_refl _, fun _ _ _ _ => rfl⟩, trivial⟩⟩⟩
    · have _u := True.intro
      replace hb22 := of_decide_eq_false hb22
      have hkl : ¬ v.l.length < (x1.take x14).length + x18 := by omega
      refine AW.exit ?_
      refine AW.seq ?_
      refine AW.region ?_
      refine ARun.pure (PureOp.move rfl (.tmp rfl)) rfl rfl (Nat.le_of_ble_eq_true rfl) ?_
      refine ARun.pure (PureOp.move rfl (.tmp rfl)) rfl rfl (Nat.le_of_ble_eq_true rfl) ?_
      refine ARun.pure (PureOp.assign rfl (.tmp rfl)) rfl rfl (Nat.le_of_ble_eq_true rfl) ?_
      refine ARun.pure (PureOp.assign rfl (.tmp rfl)) rfl rfl (Nat.le_of_ble_eq_true rfl) ?_
      refine ARun.nil ?_
      exact AW.ret (show ∃ x p' s' t, _ ∧ ResL _ _ [.tmp 2, .tmp 3] t ∧ _ ∧ _ from ⟨⟨x1, v.l⟩, v.p, v.s, _, ⟨⟨⟨hc4x, hc4r.en⟩, by show v.l.length ≤ 100; omega, hv6⟩, ⟨by omega, by omega, by omega⟩⟩, .inr (.inl ⟨_, _, _, _, rfl, .tmp rfl, .tmp rfl, rfl⟩), ⟨.frs, fx_en rfl rfl rfl (Nat.le_refl _) rfl (fun _ _ _ _ => rfl)⟩, rfl⟩)
end Go.Proofs.Ytgcliipdkoefaaa

/-
  The plain laws of FnParts and FnFollow: logs that match agree up to where they part; starts of epochs tell where epochs end; a follower gets the leader's log.
-/
namespace Go.Proofs.Ytgcliipdkoefaaa
open Go.ChangeShapes Go.WideShapes Go.ChangeAt Go.RowKit Go.BigFrame Go.Deep
set_option linter.unusedVariables false

set_option linter.unusedSimpArgs false
theorem preE_comm {α : Type} [DecidableEq α] : ∀ a b : List α, preE a b = preE b a
  | [], [] => rfl
  | [], _ :: _ => rfl
  | _ :: _, [] => rfl
  | x :: xs, y :: ys => by
    have := preE_comm xs ys
    simp only [preE]
    by_cases h : x = y
    · rw [if_pos h, if_pos h.symm, this]
    · rw [if_neg h, if_neg (fun e => h e.symm)]
theorem preE_take {α : Type} [DecidableEq α] : ∀ a b : List α, a.take (preE a b) = b.take (preE a b)
  | [], [] => rfl
  | [], _ :: _ => rfl
  | _ :: _, [] => rfl
  | x :: xs, y :: ys => by
    have := preE_take xs ys
    simp only [preE]
    by_cases h : x = y
    · rw [if_pos h, List.take_succ_cons, List.take_succ_cons, this, h]
    · rw [if_neg h]; rfl
theorem mlBad_comm {l l' : List IS} {p i : Nat} : mlBad l l' p i = mlBad l' l p i := by
  unfold mlBad
  cases h1 : l[i]? with
  | none => cases l'[i]? <;> rfl
  | some e =>
    cases h2 : l'[i]? with
    | none => rfl
    | some f =>
      show (decide (p ≤ i) && e.n == f.n) = (decide (p ≤ i) && f.n == e.n)
      rw [BEq.comm]
theorem clash_comm {s t : P2} : clash s t = clash t s := by
  unfold clash
  rw [BEq.comm (a := s.a), bne_comm (a := s.b)]
theorem begB_comm {l l' : List IS} (h : begB l l' = true) : begB l' l = true := by
  unfold begB at h ⊢
  rw [List.all_eq_true] at h ⊢
  intro t ht
  rw [List.all_eq_true]
  intro s hs
  have := List.all_eq_true.1 (h s hs) t ht
  rwa [clash_comm]
theorem mlAns_iff {l l' : List IS} : mlAns l l' = true ↔ (∀ i, mlBad l l' (preE l l') i = false) ∧ begB l l' = true := by
  unfold mlAns
  rw [Bool.and_eq_true, List.all_eq_true]
  refine and_congr_left fun _ => ⟨fun h i => ?_, fun h i _ => by rw [h i]; rfl⟩
  by_cases hi : i < l.length
  · simpa using h i (List.mem_range.2 hi)
  · unfold mlBad; rw [List.getElem?_eq_none (by omega)]
theorem mlAns_comm' {l l' : List IS} (h : mlAns l l' = true) : mlAns l' l = true := by
  rw [mlAns_iff] at h ⊢
  exact ⟨fun i => by rw [mlBad_comm, preE_comm]; exact h.1 i, begB_comm h.2⟩
theorem mlAns_comm (l l' : List IS) : mlAns l' l = mlAns l l' := by
  cases h : mlAns l l' with
  | true => exact mlAns_comm' h
  | false =>
    cases h' : mlAns l' l with
    | false => rfl
    | true => rw [mlAns_comm' h'] at h; cases h
theorem newer_anti (a b : List IS) : (newer a b && newer b a) = false := by
  unfold newer
  by_cases h1 : lastN b < lastN a
  · rw [decide_eq_false (show ¬ lastN a < lastN b by omega), decide_eq_false (show ¬ lastN b = lastN a by omega)]; simp
  · rw [decide_eq_false h1]
    by_cases h2 : lastN a = lastN b
    · rw [decide_eq_false (show ¬ lastN a < lastN b by omega)]
      by_cases h3 : b.length < a.length
      · rw [decide_eq_false (show ¬ a.length < b.length by omega)]; simp
      · rw [decide_eq_false h3]; simp
    · rw [decide_eq_false h2]; simp
/-- Behind the common part no entry has one epoch in both logs. -/
theorem ml_apart {l l' : List IS} (h : mlAns l l' = true) {i : Nat} (hp : preE l l' ≤ i) (h1 : i < l.length) (h2 : i < l'.length) : (l.getD i (default : GEntry)).n ≠ (l'.getD i (default : GEntry)).n := by
  have := (mlAns_iff.1 h).1 i
  unfold mlBad at this
  rw [List.getElem?_eq_getElem h1, List.getElem?_eq_getElem h2] at this
  rw [List.getD_eq_getElem?_getD, List.getD_eq_getElem?_getD, List.getElem?_eq_getElem h1, List.getElem?_eq_getElem h2]
  intro e
  have e : l[i].n = l'[i].n := e
  simp [hp, e] at this
/-- What holds of start j among the starts of the first k entries. -/
structure StInv (l : List IS) (k j : Nat) (s : P2) : Prop where
  nat : 0 ≤ s.b
  lt : s.b < nextAt (startsTo l k) k j
  le : nextAt (startsTo l k) k j ≤ k
  same : ∀ (i : Nat) e, s.b ≤ i → (i : Int) < nextAt (startsTo l k) k j → l[i]? = some e → e.n = s.a
  next : ∀ (i : Nat) e, (i : Int) = nextAt (startsTo l k) k j → i < k → l[i]? = some e → s.a < e.n
theorem st_inv {l : List IS} (hg : ∀ i, i < l.length → enOk l i) : ∀ k, k ≤ l.length → ∀ j s, (startsTo l k)[j]? = some s → StInv l k j s := by
  intro k
  induction k with
  | zero => intro _ j s h; simp [startsTo] at h
  | succ k ih =>
    intro hk j s h
    have ih := ih (by omega)
    obtain ⟨e, he⟩ : ∃ e, l[k]? = some e := ⟨l[k], List.getElem?_eq_getElem (by omega)⟩
    obtain ⟨x, t⟩ := e
    cases hst : isStart l k with
    | false =>
      have e1 := startsTo_no hst
      rw [e1] at h
      have I := ih j s h
      have hk0 : k ≠ 0 := by
        intro e0
        rw [isStart_0 he e0] at hst; cases hst
      obtain ⟨⟨y, u⟩, hp⟩ : ∃ f, l[k - 1]? = some f := ⟨l[k - 1], List.getElem?_eq_getElem (by omega)⟩
      have hyx : y = x := by
        have := isStart_eq he hk0 hp rfl
        rw [hst] at this
        simpa using this.symm
      subst hyx
      cases hn : (startsTo l k)[j + 1]? with
      | some t' =>
        have n1 : nextAt (startsTo l (k + 1)) ((k + 1 : Nat) : Int) j = t'.b := by rw [e1]; exact nextAt_some hn
        have n0 : nextAt (startsTo l k) (k : Int) j = t'.b := nextAt_some hn
        have ht := startsTo_at k t' (List.mem_of_getElem? hn)
        obtain ⟨i1, i2, i3, i4, i5⟩ := I
        rw [n0] at i2 i3 i4 i5
        exact ⟨i1, by rw [n1]; exact i2, by rw [n1]; omega, by rw [n1]; exact i4, fun i e hi _ hie => i5 i e (by rw [n1] at hi; exact hi) (by rw [n1] at hi; omega) hie⟩
      | none =>
        have hj := (List.getElem?_eq_none_iff).1 hn
        have n1 : nextAt (startsTo l (k + 1)) ((k + 1 : Nat) : Int) j = ((k + 1 : Nat) : Int) := by rw [e1]; exact nextAt_none hj
        have n0 : nextAt (startsTo l k) (k : Int) j = (k : Int) := nextAt_none hj
        obtain ⟨i1, i2, i3, i4, i5⟩ := I
        rw [n0] at i2 i3 i4 i5
        refine ⟨i1, by rw [n1]; omega, by rw [n1]; omega, fun i e hi hi2 hie => ?_, fun i e hi hi2 _ => by rw [n1] at hi; omega⟩
        rw [n1] at hi2
        by_cases hik : i = k
        · subst hik
          rw [he] at hie
          obtain rfl := Option.some.inj hie
          exact i4 (i - 1) ⟨y, u⟩ (by omega) (by omega) hp
        · exact i4 i e hi (by omega) hie
    | true =>
      have e1 := startsTo_yes he hst
      rw [e1] at h
      have hat := startsTo_at (l := l) k
      by_cases hj : j < (startsTo l k).length
      · rw [List.getElem?_append_left hj] at h
        obtain ⟨i1, i2, i3, i4, i5⟩ := ih j s h
        by_cases hj1 : j + 1 < (startsTo l k).length
        · obtain ⟨t', hn⟩ : ∃ t', (startsTo l k)[j + 1]? = some t' := ⟨_, List.getElem?_eq_getElem hj1⟩
          have n1 : nextAt (startsTo l (k + 1)) ((k + 1 : Nat) : Int) j = t'.b := by rw [e1]; exact nextAt_some (by rw [List.getElem?_append_left hj1]; exact hn)
          have n0 : nextAt (startsTo l k) (k : Int) j = t'.b := nextAt_some hn
          have ht := hat t' (List.mem_of_getElem? hn)
          rw [n0] at i2 i3 i4 i5
          exact ⟨i1, by rw [n1]; exact i2, by rw [n1]; omega, by rw [n1]; exact i4, fun i e hi _ hie => i5 i e (by rw [n1] at hi; exact hi) (by rw [n1] at hi; omega) hie⟩
        · have n1 : nextAt (startsTo l (k + 1)) ((k + 1 : Nat) : Int) j = (k : Int) := by rw [e1]; exact nextAt_some (t := ⟨x, k⟩) (by rw [List.getElem?_append_right (by omega), show j + 1 - (startsTo l k).length = 0 by omega]; rfl)
          have n0 : nextAt (startsTo l k) (k : Int) j = (k : Int) := nextAt_none (by omega)
          rw [n0] at i2 i3 i4 i5
          refine ⟨i1, by rw [n1]; exact i2, by rw [n1]; omega, by rw [n1]; exact i4, fun i e hi hi2 hie => ?_⟩
          rw [n1] at hi
          obtain rfl : i = k := by omega
          rw [he] at hie
          obtain rfl := Option.some.inj hie
          have hk0 : i ≠ 0 := by omega
          obtain ⟨⟨y, u⟩, hp⟩ : ∃ f, l[i - 1]? = some f := ⟨l[i - 1], List.getElem?_eq_getElem (by omega)⟩
          have hya : y = s.a := i4 (i - 1) ⟨y, u⟩ (by omega) (by omega) hp
          have hle := rises hg i (i - 1) ⟨y, u⟩ ⟨x, t⟩ (by omega) hp he
          have hne : (y != x) = true := by rw [← isStart_eq he hk0 hp rfl]; exact hst
          have hne : y ≠ x := by simpa using hne
          have hle : y ≤ x := hle
          show s.a < x
          omega
      · have hjl : j = (startsTo l k).length := by
          have h3 := (List.getElem?_eq_some_iff.1 h).1
          rw [List.length_append] at h3
          have h3 : j < (startsTo l k).length + 1 := h3
          omega
        rw [List.getElem?_append_right (by omega), show j - (startsTo l k).length = 0 by omega] at h
        obtain rfl : (⟨x, k⟩ : P2) = s := by simpa using h
        have n1 : nextAt (startsTo l (k + 1)) ((k + 1 : Nat) : Int) j = ((k + 1 : Nat) : Int) := nextAt_none (by rw [e1, List.length_append]; show _ + 1 ≤ _; omega)
        refine ⟨by show (0 : Int) ≤ (k : Int); omega, by rw [n1]; show (k : Int) < _; omega, by rw [n1]; omega, fun i e hi hi2 hie => ?_, fun i e hi hi2 _ => by rw [n1] at hi; omega⟩
        rw [n1] at hi2
        have hi : (k : Int) ≤ (i : Int) := hi
        obtain rfl : i = k := by omega
        rw [he] at hie
        obtain rfl := Option.some.inj hie
        rfl
/-- The end of an epoch is where the next one starts. -/
theorem st_end {l : List IS} (hg : ∀ i, i < l.length → enOk l i) {j : Nat} {s : P2} (h : (startsTo l l.length)[j]? = some s) : (cntLe s.a l : Int) = nextAt (startsTo l l.length) l.length j := by
  obtain ⟨i1, i2, i3, i4, i5⟩ := st_inv hg l.length (Nat.le_refl _) j s h
  obtain ⟨n, hn⟩ : ∃ n : Nat, nextAt (startsTo l l.length) l.length j = (n : Int) := ⟨(nextAt (startsTo l l.length) l.length j).toNat, by omega⟩
  rw [hn] at i2 i3 i4 i5 ⊢
  congr 1
  refine cntLe_split hg (by omega) (fun i e hi he => ?_) (fun e he => ?_)
  · by_cases hb : s.b ≤ i
    · rw [i4 i e hb (by omega) he]; exact Int.le_refl _
    · obtain ⟨b, hb'⟩ : ∃ b : Nat, s.b = b := ⟨s.b.toNat, by omega⟩
      have hbl : b < l.length := by omega
      have h4 := i4 b l[b] (by omega) (by omega) (List.getElem?_eq_getElem hbl)
      have := rises hg b i e l[b] (by omega) he (List.getElem?_eq_getElem hbl)
      omega
  · have hnl := (List.getElem?_eq_some_iff.1 he).1
    have := i5 n e rfl hnl he
    omega
theorem st_epoch {l : List IS} (hg : ∀ i, i < l.length → enOk l i) {j : Nat} {s : P2} (h : (startsTo l l.length)[j]? = some s) : 1 ≤ s.a ∧ s.a ≤ 1000 := by
  obtain ⟨i1, i2, i3, i4, i5⟩ := st_inv hg l.length (Nat.le_refl _) j s h
  obtain ⟨b, hb'⟩ : ∃ b : Nat, s.b = b := ⟨s.b.toNat, by omega⟩
  have hbl : b < l.length := by omega
  have h4 := i4 b l[b] (by omega) (by omega) (List.getElem?_eq_getElem hbl)
  have h5 := hg b hbl l[b] (List.getElem?_eq_getElem hbl)
  omega
theorem ss_good {l : List IS} {i : Nat} (hi : i < (ssOf l).length) : goodEn l = true ∧ ssOf l = startsTo l l.length := by
  unfold ssOf at hi ⊢
  cases h : goodEn l with
  | true => exact ⟨rfl, if_pos rfl⟩
  | false => rw [h] at hi; exact absurd hi (Nat.not_lt_zero _)
theorem sd_get {L : List P2} {i : Nat} (hi : i < L.length) : L[i]? = some (L.getD i (default : GStart)) := by
  rw [List.getD_eq_getElem?_getD, List.getElem?_eq_getElem hi]; rfl
theorem ss_bd {l : List IS} {i : Nat} (hi : i < (ssOf l).length) : 1 ≤ ((ssOf l).getD i (default : GStart)).a ∧ ((ssOf l).getD i (default : GStart)).a ≤ 1000 := by
  obtain ⟨hg, e⟩ := ss_good hi
  have := sd_get hi
  rw [e] at this ⊢
  exact st_epoch (goodEn_spec hg).2 this
/-- What the law asks of start i. -/
theorem ss_end {l : List IS} {i : Nat} (hi : i < (ssOf l).length) : endOk l ((ssOf l).getD i (default : GStart)).a = true ∧ (i + 1 < (ssOf l).length → endInt l ((ssOf l).getD i (default : GStart)).a = ((ssOf l).getD (i + 1) (default : GStart)).b) ∧ (¬ i + 1 < (ssOf l).length → endInt l ((ssOf l).getD i (default : GStart)).a = l.length) := by
  obtain ⟨hg, e⟩ := ss_good hi
  have hb := ss_bd hi
  have h := sd_get hi
  have hok : endOk l ((ssOf l).getD i (default : GStart)).a = true := by unfold endOk; rw [hg, decide_eq_true (by omega)]; rfl
  have hv : endInt l ((ssOf l).getD i (default : GStart)).a = cntLe ((ssOf l).getD i (default : GStart)).a l := if_pos hok
  have h0 := h
  rw [e] at h0
  have he := st_end (goodEn_spec hg).2 h0
  rw [← e] at he
  refine ⟨hok, fun h1 => ?_, fun h1 => ?_⟩
  · rw [hv, he, nextAt_some (sd_get h1)]
  · rw [hv, he, nextAt_none (by omega)]
theorem idxP_get {α : Type} {p : α → Bool} {l : List α} (h : 0 ≤ idxP p l) : ∃ x, l[(idxP p l).toNat]? = some x ∧ p x = true := by
  unfold idxP at h ⊢
  cases hk : l.findIdx? p with
  | none => rw [hk] at h; exact absurd h (by decide)
  | some k =>
    rw [List.findIdx?_eq_some_iff_getElem] at hk
    obtain ⟨hl, hp, _⟩ := hk
    exact ⟨l[k], List.getElem?_eq_getElem hl, hp⟩
theorem findR_cases {l : List IS} {st : List P2} {e : Int} : ∀ (R : List P2) (n : Int), (findR l st e R n).1 = 0 ∨ ∃ s ∈ R, 0 ≤ idxP (hitP s.a) st ∧ (findR l st e R n).1 = fpAt l st e s.a (idxP (hitP s.a) st).toNat := by
  intro R
  induction R with
  | nil => intro n; exact .inl rfl
  | cons s R ih =>
    intro n
    unfold findR
    split
    · next h => exact .inr ⟨s, List.mem_cons_self .., h, rfl⟩
    · rcases ih (n + 1) with h | ⟨s', hs, h⟩
      · exact .inl h
      · exact .inr ⟨s', List.mem_cons_of_mem _ hs, h⟩
theorem fo_pre {l l' : List IS} (hg : goodEn l = true) (hg' : goodEn l' = true) (hm : mlAns l l' = true) : foAt l l' ≤ preE l l' := by
  have G := (goodEn_spec hg).2
  have G' := (goodEn_spec hg').2
  obtain ⟨hbad, hbeg⟩ := mlAns_iff.1 hm
  obtain ⟨f1, f2, f3⟩ := foAt_bd l l'
  rcases findR_cases (l := l) (st := startsTo l' l'.length) (e := l'.length) (startsTo l l.length).reverse 0 with h | ⟨s, hs, hi, h⟩
  · have h : (findL l (startsTo l' l'.length) l'.length).1 = 0 := h
    omega
  · have h : (findL l (startsTo l' l'.length) l'.length).1 = _ := h
    rw [f1] at h
    obtain ⟨t, ht, hp⟩ := idxP_get hi
    have hta : t.a = s.a := by simpa [hitP] using hp
    obtain ⟨j, hj⟩ := List.mem_iff_getElem?.1 (List.mem_reverse.1 hs)
    have hb : s.b = t.b := by
      unfold begB at hbeg
      have h1 := List.all_eq_true.1 (List.all_eq_true.1 hbeg s (List.mem_of_getElem? hj)) t (List.mem_of_getElem? ht)
      simp only [clash, hta, beq_self_eq_true, Bool.true_and, Bool.not_eq_true'] at h1
      simpa using h1
    have I := st_inv G l.length (Nat.le_refl _) j s hj
    have I' := st_inv G' l'.length (Nat.le_refl _) _ t ht
    have E := st_end G hj
    unfold fpAt at h
    have h1 := I.lt
    have h2 := I'.lt
    rw [E] at h
    by_cases h0 : foAt l l' ≤ preE l l'
    · exact h0
    · exfalso
      have hn := I.nat
      obtain ⟨i, hie⟩ : ∃ i, foAt l l' = i + 1 := ⟨foAt l l' - 1, by omega⟩
      rw [hie] at h h0 f2 f3
      have hl : i < l.length := by omega
      have hl' : i < l'.length := by omega
      have a1 := I.same i l[i] (by omega) (by omega) (List.getElem?_eq_getElem hl)
      have a2 := I'.same i l'[i] (by omega) (by omega) (List.getElem?_eq_getElem hl')
      have := ml_apart hm (i := i) (by omega) hl hl'
      rw [List.getD_eq_getElem?_getD, List.getD_eq_getElem?_getD, List.getElem?_eq_getElem hl, List.getElem?_eq_getElem hl'] at this
      exact this (by show l[i].n = l'[i].n; omega)
theorem fo_same {l l' : List IS} (h : foAt l l' ≤ preE l l') : foL l l' = l' := by
  unfold foL
  have : l.take (foAt l l') = l'.take (foAt l l') := by
    have := congrArg (List.take (foAt l l')) (preE_take l l')
    rwa [List.take_take, List.take_take, Nat.min_eq_left h] at this
  rw [this, List.take_append_drop]
theorem fo_self {l : List IS} (hg : goodEn l = true) : foAt l l = l.length := by
  have G := (goodEn_spec hg).2
  obtain ⟨f1, f2, f3⟩ := foAt_bd l l
  by_cases h0 : l.length = 0
  · omega
  have hne : startsTo l l.length ≠ [] := by
    intro e
    have : ∀ k, k ≤ l.length → startsTo l k = [] → k = 0 := by
      intro k
      induction k with
      | zero => intros; rfl
      | succ k ih =>
        intro hk he
        exfalso
        obtain ⟨⟨x, t⟩, hx⟩ : ∃ e, l[k]? = some e := ⟨l[k], List.getElem?_eq_getElem (by omega)⟩
        cases hs : isStart l k with
        | true => rw [startsTo_yes hx hs] at he; simp at he
        | false =>
          rw [startsTo_no hs] at he
          have := ih (by omega) he
          rw [isStart_0 hx this] at hs; cases hs
    exact h0 (this _ (Nat.le_refl _) e)
  obtain ⟨T, s, hT⟩ : ∃ T s, startsTo l l.length = T ++ [s] := ⟨_, _, (List.dropLast_concat_getLast hne).symm⟩
  have hs : (startsTo l l.length)[T.length]? = some s := by rw [hT]; simp
  have E := st_end G hs
  rw [nextAt_none (by rw [hT]; simp)] at E
  have hany : 0 ≤ idxP (hitP s.a) (startsTo l l.length) := by
    have := idxP_any (hitP s.a) (startsTo l l.length)
    have h1 : (startsTo l l.length).any (hitP s.a) = true := List.any_eq_true.2 ⟨s, List.mem_of_getElem? hs, by simp [hitP]⟩
    rw [h1] at this
    exact of_decide_eq_true this
  obtain ⟨t, ht, hp⟩ := idxP_get hany
  have hta : t.a = s.a := by simpa [hitP] using hp
  have E' := st_end G ht
  rw [hta] at E'
  have : (findL l (startsTo l l.length) l.length).1 = fpAt l (startsTo l l.length) l.length s.a (idxP (hitP s.a) (startsTo l l.length)).toNat := by
    show (findR l (startsTo l l.length) l.length (startsTo l l.length).reverse 0).1 = _
    generalize startsTo l l.length = U at hT hany
    subst hT
    rw [List.reverse_append]
    show (findR l _ _ (s :: T.reverse) 0).1 = _
    unfold findR
    rw [if_pos hany]
  rw [f1] at this
  unfold fpAt at this
  omega
theorem fp_bd {l : List IS} {st : List P2} {e : Int} (h : fpOk l st e = true) : (fpAns l st e).1 ≤ l.length ∧ (fpAns l st e).1 ≤ e := by
  rw [fpAns_yes h]
  unfold fpOk at h
  rw [Bool.and_eq_true] at h
  have hs := h.2
  unfold goodSt at hs
  rw [Bool.and_eq_true, Bool.and_eq_true] at hs
  obtain ⟨⟨_, he⟩, ha⟩ := hs
  have he := of_decide_eq_true he
  have := findR_bd (l := l) (st := st) (e := e) (N := 0) (fun x hx => ?_) he.1 (startsTo l l.length).reverse 0
  · exact this.2
  · obtain ⟨k, hk⟩ := List.mem_iff_getElem?.1 hx
    have h1 := List.all_eq_true.1 ha k (List.mem_range.2 (List.getElem?_eq_some_iff.1 hk).1)
    have hw : IntKind.i64.wrap (e - 1) = e - 1 := wrap_id (by omega) (by omega)
    rw [hw] at h1
    unfold stBad at h1
    rw [hk] at h1
    by_cases hb : 0 ≤ x.b ∧ x.b ≤ e - 1
    · omega
    · simp only [decide_eq_false hb] at h1
      simp at h1
end Go.Proofs.Ytgcliipdkoefaaa

/-
  What the reference draws for logs.
-/
namespace Go.Proofs.Ytgcliipdkoefaaa
open Go.ChangeShapes Go.WideShapes Go.ChangeAt Go.RowKit Go.BigFrame Go.Deep
set_option linter.unusedVariables false
set_option linter.unusedSimpArgs false
theorem vd3_ca_14 : callB Try.prog 14 = true := by kernel_rfl
theorem vd3_ca_27 : callB Try.prog 27 = true := by kernel_rfl
theorem vd3_ca_60 : callB Try.prog 60 = true := by kernel_rfl
theorem vd3_ca_65 : callB Try.prog 65 = true := by kernel_rfl
theorem vd3_ca_68 : callB Try.prog 68 = true := by kernel_rfl
theorem vd3_ca_69 : callB Try.prog 69 = true := by kernel_rfl
theorem vd3_ca_71 : callB Try.prog 71 = true := by kernel_rfl
theorem vd3_el_30_2 : elemB Try.prog 30 2 = true := by kernel_rfl
theorem vd3_fi_55_1_1 : fieldB Try.prog 55 1 1 = true := by kernel_rfl
theorem vd3_sl_26 : sliceB Try.prog 26 = true := by kernel_rfl
theorem vd3_sl_30 : sliceB Try.prog 30 = true := by kernel_rfl
theorem vd3_sz_3_1 : sizeB Try.prog 3 1 = true := by kernel_rfl
theorem v_DrawGoodEntries (n : Nat) (F : Nat → Nat) (hF : ∀ i, F i < 256) : FnE Try.prog 65 [.one (.lst 1 n (fun i _ => .int .u8 ((F i : Nat) : Int)))] (fun (x : List IS) => x.length ≤ 41 ∧ allEn x) (fun (x : List IS) => .one (ensAV x)) := by
  refine FnE.of_body (fn := Try.f65) Try.func65 rfl (Nat.le_of_ble_eq_true rfl) ?_
  intro w0
  show AW _ 9 _ _ _ _
  refine AW.cv (t := 0) rfl (fun c0 => ?_)
  refine AW.seq ?_
  refine AW.region ?_
  refine ARun.pure (PureOp.assign rfl .con) rfl rfl (Nat.le_of_ble_eq_true rfl) ?_
  refine ARun.nil ?_
  refine AW.seq ?_
  refine AW.region ?_
  refine ARun.pure (PureOp.move rfl (.tmp rfl)) rfl rfl (Nat.le_of_ble_eq_true rfl) ?_
  refine ARun.pure (PureOp.build (ys := [.cv c0 (.lst 1 n (fun i _ => .int .u8 ((F i : Nat) : Int)))]) (l := [.con (.slice none 0 0), .int .i64 0, .int .u64 0]) (pl := [(0, 1), (1, 1), (2, 1)]) (z := (.agg #[.slice none 0 0, .int .i64 0, .int .u64 0])) rfl (by kernel_rfl) (by kernel_rfl) (fun _ _ _ => ⟨_, _, rfl, rfl, ⟨_, _, rfl, rfl, ⟨_, _, rfl, rfl, rfl⟩⟩⟩) ⟨(.tmp rfl), trivial, rfl, trivial⟩ rfl) rfl rfl (Nat.le_of_ble_eq_true rfl) ?_
  refine ARun.box (id := 0) rfl (.tmp rfl) (SV.cells_of (by exact ⟨trivial, trivial, trivial, trivial⟩)) ⟨rfl, (by repeat first | exact trivial | refine ⟨by decide, by first | rfl | exact trivial | (intro i j; first | rfl | exact getD_no rfl | (dsimp only; split <;> first | rfl | exact getD_no rfl) | exact scl_no (by apply_assumption) _), ?_⟩)⟩ rfl rfl rfl (Nat.le_of_ble_eq_true rfl) ?_
  refine ARun.pure (PureOp.assign rfl (.tmp rfl)) rfl rfl (Nat.le_of_ble_eq_true rfl) ?_
  refine ARun.nil ?_
  refine AW.seq ?_
  refine AW.region ?_
  refine ARun.pure (PureOp.move rfl (.tmp rfl)) rfl rfl (Nat.le_of_ble_eq_true rfl) ?_
  refine ARun.cur (id := 0) rfl (v_Entries n F hF 0 0 (by omega) (by omega)) vd3_ca_68 ⟨.inr (.tmp rfl), trivial⟩ rfl rfl rfl (Nat.le_of_ble_eq_true rfl) (fun x1 p2 sd3 hc4 => ?_)
  obtain ⟨⟨hc4x, hc4r⟩, hc4c⟩ := hc4
  obtain ⟨hc41, hc42, hc43⟩ := hc4c
  refine ARun.pure (PureOp.assign rfl (.tmp rfl)) rfl rfl (Nat.le_of_ble_eq_true rfl) ?_
  refine ARun.nil ?_
  exact AW.ret (show ∃ x s, _ ∧ ResL _ _ [.tmp 2] s ∧ FvS _ s _ from ⟨x1, _, ⟨hc4x, hc4r.en⟩, .inl ⟨_, rfl, .tmp rfl⟩, .frs⟩)

theorem v_DrawStartsOf (n : Nat) (F : Nat → Nat) (hF : ∀ i, F i < 256) : FnE Try.prog 35 [.one (.lst 1 n (fun i _ => .int .u8 ((F i : Nat) : Int)))] (fun (x : List IS) => x.length ≤ 41 ∧ allEn x) (fun (x : List IS) => .one (ensAV x)) := by
  refine FnE.of_body (fn := Try.f35) Try.func35 rfl (Nat.le_of_ble_eq_true rfl) ?_
  intro w0
  show AW _ 5 _ _ _ _
  refine AW.seq ?_
  refine AW.region ?_
  refine ARun.pure (PureOp.assign rfl .con) rfl rfl (Nat.le_of_ble_eq_true rfl) ?_
  refine ARun.nil ?_
  refine AW.seq ?_
  refine AW.region ?_
  refine ARun.pure (PureOp.move rfl (.tmp rfl)) rfl rfl (Nat.le_of_ble_eq_true rfl) ?_
  refine ARun.draw rfl (v_DrawGoodEntries n F hF) vd3_ca_65 ⟨⟨_, (.tmp rfl), .lst⟩, trivial⟩ rfl rfl (Nat.le_of_ble_eq_true rfl) (fun x1 hd2 => ?_)
  refine ARun.pure (PureOp.assign rfl (.tmp rfl)) rfl rfl (Nat.le_of_ble_eq_true rfl) ?_
  refine ARun.nil ?_
  exact AW.ret (show ∃ x s, _ ∧ ResL _ _ [.tmp 2] s ∧ FvS _ s _ from ⟨x1, _, hd2, .inl ⟨_, rfl, .tmp rfl⟩, .frs⟩)

theorem v_DrawEndOfEpoch (n : Nat) (F : Nat → Nat) (hF : ∀ i, F i < 256) : FnE Try.prog 37 [.one (.lst 1 n (fun i _ => .int .u8 ((F i : Nat) : Int)))] (fun (x : List IS × Int) => (x.1.length ≤ 41 ∧ allEn x.1) ∧ -1 ≤ x.2 ∧ x.2 ≤ 10) (fun (x : List IS × Int) => .tup2 (.one (ensAV x.1)) (.one (.int .i64 x.2))) := by
  refine FnE.of_body (fn := Try.f37) Try.func37 rfl (Nat.le_of_ble_eq_true rfl) ?_
  intro w0
  show AW _ 13 _ _ _ _
  refine AW.cv (t := 0) rfl (fun c0 => ?_)
  refine AW.seq ?_
  refine AW.region ?_
  refine ARun.pure (PureOp.assign rfl .con) rfl rfl (Nat.le_of_ble_eq_true rfl) ?_
  refine ARun.pure (PureOp.assign rfl .int) rfl rfl (Nat.le_of_ble_eq_true rfl) ?_
  refine ARun.nil ?_
  refine AW.seq ?_
  refine AW.region ?_
  refine ARun.pure (PureOp.move rfl (.tmp rfl)) rfl rfl (Nat.le_of_ble_eq_true rfl) ?_
  refine ARun.pure (PureOp.build (ys := [.cv c0 (.lst 1 n (fun i _ => .int .u8 ((F i : Nat) : Int)))]) (l := [.con (.slice none 0 0), .int .i64 0, .int .u64 0]) (pl := [(0, 1), (1, 1), (2, 1)]) (z := (.agg #[.slice none 0 0, .int .i64 0, .int .u64 0])) rfl (by kernel_rfl) (by kernel_rfl) (fun _ _ _ => ⟨_, _, rfl, rfl, ⟨_, _, rfl, rfl, ⟨_, _, rfl, rfl, rfl⟩⟩⟩) ⟨(.tmp rfl), trivial, rfl, trivial⟩ rfl) rfl rfl (Nat.le_of_ble_eq_true rfl) ?_
  refine ARun.box (id := 0) rfl (.tmp rfl) (SV.cells_of (by exact ⟨trivial, trivial, trivial, trivial⟩)) ⟨rfl, (by repeat first | exact trivial | refine ⟨by decide, by first | rfl | exact trivial | (intro i j; first | rfl | exact getD_no rfl | (dsimp only; split <;> first | rfl | exact getD_no rfl) | exact scl_no (by apply_assumption) _), ?_⟩)⟩ rfl rfl rfl (Nat.le_of_ble_eq_true rfl) ?_
  refine ARun.pure (PureOp.assign rfl (.tmp rfl)) rfl rfl (Nat.le_of_ble_eq_true rfl) ?_
  refine ARun.nil ?_
  refine AW.seq ?_
  refine AW.region ?_
  refine ARun.pure (PureOp.move rfl (.tmp rfl)) rfl rfl (Nat.le_of_ble_eq_true rfl) ?_
  refine ARun.cur (id := 0) rfl (v_Entries n F hF 0 0 (by omega) (by omega)) vd3_ca_68 ⟨.inr (.tmp rfl), trivial⟩ rfl rfl rfl (Nat.le_of_ble_eq_true rfl) (fun x1 p2 sd3 hc4 => ?_)
  obtain ⟨⟨hc4x, hc4r⟩, hc4c⟩ := hc4
  obtain ⟨hc41, hc42, hc43⟩ := hc4c
  refine ARun.pure (PureOp.move rfl (.tmp rfl)) rfl rfl (Nat.le_of_ble_eq_true rfl) ?_
  refine ARun.cur (id := 0) rfl (v_Pick n F hF p2 sd3 (by omega) (by omega) 9 (by omega)) vd3_ca_69 ⟨.inr (.tmp rfl), .inl ⟨_, .int, .int⟩, trivial⟩ rfl rfl rfl (Nat.le_of_ble_eq_true rfl) (fun x5 p6 sd7 hc8 => ?_)
  obtain ⟨hc8x, hc8c⟩ := hc8
  obtain ⟨hc81, hc82, hc83⟩ := hc8c
  refine ARun.pure (PureOp.sub (c := (x5 : Int) - 1) rfl (.tmp rfl) .int (wrap_id (by omega) (by omega))) rfl rfl (Nat.le_of_ble_eq_true rfl) ?_
  refine ARun.pure (PureOp.assign rfl (.tmp rfl)) rfl rfl (Nat.le_of_ble_eq_true rfl) ?_
  refine ARun.pure (PureOp.assign rfl (.tmp rfl)) rfl rfl (Nat.le_of_ble_eq_true rfl) ?_
  refine ARun.nil ?_
  have hk : -1 ≤ (x5 : Int) - 1 ∧ (x5 : Int) - 1 ≤ 10 := by omega
  exact AW.ret (show ∃ x s, _ ∧ ResL _ _ [.tmp 2, .tmp 3] s ∧ FvS _ s _ from ⟨⟨x1, (x5 : Int) - 1⟩, _, ⟨⟨hc4x, hc4r.en⟩, hk⟩, .inr (.inl ⟨_, _, _, _, rfl, .tmp rfl, .tmp rfl, rfl⟩), ⟨.frs, .int⟩⟩)

theorem v_DrawPartAt (n : Nat) (F : Nat → Nat) (hF : ∀ i, F i < 256) : FnE Try.prog 27 [.one (.lst 1 n (fun i _ => .int .u8 ((F i : Nat) : Int)))] (fun (x : List IS × List IS) => (x.1.length ≤ 41 ∧ allEn x.1) ∧ x.2.length ≤ 100 ∧ allEn x.2) (fun (x : List IS × List IS) => .tup2 (.one (ensAV x.1)) (.one (ensAV x.2))) := by
  refine FnE.of_body (fn := Try.f27) Try.func27 rfl (Nat.le_of_ble_eq_true rfl) ?_
  intro w0
  show AW _ 12 _ _ _ _
  refine AW.cv (t := 0) rfl (fun c0 => ?_)
  refine AW.seq ?_
  refine AW.region ?_
  refine ARun.pure (PureOp.assign rfl .con) rfl rfl (Nat.le_of_ble_eq_true rfl) ?_
  refine ARun.pure (PureOp.assign rfl .con) rfl rfl (Nat.le_of_ble_eq_true rfl) ?_
  refine ARun.nil ?_
  refine AW.seq ?_
  refine AW.region ?_
  refine ARun.pure (PureOp.move rfl (.tmp rfl)) rfl rfl (Nat.le_of_ble_eq_true rfl) ?_
  refine ARun.pure (PureOp.build (ys := [.cv c0 (.lst 1 n (fun i _ => .int .u8 ((F i : Nat) : Int)))]) (l := [.con (.slice none 0 0), .int .i64 0, .int .u64 0]) (pl := [(0, 1), (1, 1), (2, 1)]) (z := (.agg #[.slice none 0 0, .int .i64 0, .int .u64 0])) rfl (by kernel_rfl) (by kernel_rfl) (fun _ _ _ => ⟨_, _, rfl, rfl, ⟨_, _, rfl, rfl, ⟨_, _, rfl, rfl, rfl⟩⟩⟩) ⟨(.tmp rfl), trivial, rfl, trivial⟩ rfl) rfl rfl (Nat.le_of_ble_eq_true rfl) ?_
  refine ARun.box (id := 0) rfl (.tmp rfl) (SV.cells_of (by exact ⟨trivial, trivial, trivial, trivial⟩)) ⟨rfl, (by repeat first | exact trivial | refine ⟨by decide, by first | rfl | exact trivial | (intro i j; first | rfl | exact getD_no rfl | (dsimp only; split <;> first | rfl | exact getD_no rfl) | exact scl_no (by apply_assumption) _), ?_⟩)⟩ rfl rfl rfl (Nat.le_of_ble_eq_true rfl) ?_
  refine ARun.pure (PureOp.assign rfl (.tmp rfl)) rfl rfl (Nat.le_of_ble_eq_true rfl) ?_
  refine ARun.nil ?_
  refine AW.seq ?_
  refine AW.region ?_
  refine ARun.pure (PureOp.move rfl (.tmp rfl)) rfl rfl (Nat.le_of_ble_eq_true rfl) ?_
  refine ARun.cur2 (id := 0) rfl (v_TwoLogs n F hF 0 0 (by omega) (by omega)) vd3_ca_60 ⟨.inr (.tmp rfl), trivial⟩ rfl rfl rfl (Nat.le_of_ble_eq_true rfl) (fun x1 p2 sd3 hc4 => ?_)
  obtain ⟨⟨⟨hc4x, hc4r⟩, hc4y, hc4z⟩, hc4c⟩ := hc4
  obtain ⟨hc41, hc42, hc43⟩ := hc4c
  refine ARun.pure (PureOp.ext2a rfl (.tmp rfl)) rfl rfl (Nat.le_of_ble_eq_true rfl) ?_
  refine ARun.pure (PureOp.ext2b rfl (.tmp rfl)) rfl rfl (Nat.le_of_ble_eq_true rfl) ?_
  refine ARun.pure (PureOp.assign rfl (.tmp rfl)) rfl rfl (Nat.le_of_ble_eq_true rfl) ?_
  refine ARun.pure (PureOp.assign rfl (.tmp rfl)) rfl rfl (Nat.le_of_ble_eq_true rfl) ?_
  refine ARun.nil ?_
  exact AW.ret (show ∃ x s, _ ∧ ResL _ _ [.tmp 2, .tmp 3] s ∧ FvS _ s _ from ⟨x1, _, ⟨⟨hc4x, hc4r⟩, hc4y, hc4z⟩, .inr (.inl ⟨_, _, _, _, rfl, .tmp rfl, .tmp rfl, rfl⟩), ⟨.frs, .frs⟩⟩)

theorem v_DrawFollowLog (n : Nat) (F : Nat → Nat) (hF : ∀ i, F i < 256) : FnE Try.prog 39 [.one (.lst 1 n (fun i _ => .int .u8 ((F i : Nat) : Int)))] (fun (x : List IS × List IS) => (x.1.length ≤ 41 ∧ allEn x.1) ∧ x.2.length ≤ 100 ∧ allEn x.2) (fun (x : List IS × List IS) => .tup2 (.one (ensAV x.1)) (.one (ensAV x.2))) := by
  refine FnE.of_body (fn := Try.f39) Try.func39 rfl (Nat.le_of_ble_eq_true rfl) ?_
  intro w0
  show AW _ 8 _ _ _ _
  refine AW.seq ?_
  refine AW.region ?_
  refine ARun.pure (PureOp.assign rfl .con) rfl rfl (Nat.le_of_ble_eq_true rfl) ?_
  refine ARun.pure (PureOp.assign rfl .con) rfl rfl (Nat.le_of_ble_eq_true rfl) ?_
  refine ARun.nil ?_
  refine AW.seq ?_
  refine AW.region ?_
  refine ARun.pure (PureOp.move rfl (.tmp rfl)) rfl rfl (Nat.le_of_ble_eq_true rfl) ?_
  refine ARun.draw rfl (v_DrawPartAt n F hF) vd3_ca_27 ⟨⟨_, (.tmp rfl), .lst⟩, trivial⟩ rfl rfl (Nat.le_of_ble_eq_true rfl) (fun x1 hd2 => ?_)
  refine ARun.pure (PureOp.ext2a rfl (.tmp rfl)) rfl rfl (Nat.le_of_ble_eq_true rfl) ?_
  refine ARun.pure (PureOp.ext2b rfl (.tmp rfl)) rfl rfl (Nat.le_of_ble_eq_true rfl) ?_
  refine ARun.pure (PureOp.assign rfl (.tmp rfl)) rfl rfl (Nat.le_of_ble_eq_true rfl) ?_
  refine ARun.pure (PureOp.assign rfl (.tmp rfl)) rfl rfl (Nat.le_of_ble_eq_true rfl) ?_
  refine ARun.nil ?_
  exact AW.ret (show ∃ x s, _ ∧ ResL _ _ [.tmp 2, .tmp 3] s ∧ FvS _ s _ from ⟨x1, _, hd2, .inr (.inl ⟨_, _, _, _, rfl, .tmp rfl, .tmp rfl, rfl⟩), ⟨.frs, .frs⟩⟩)

theorem st_set {L : List P2} {k : Nat} {a : Int} (hk : k < L.length) {i j : Nat} (hj : j < 2) : (if i = k ∧ j = 1 then AV.int .i64 a else stC L i j) = stC (L.set k ⟨(L.getD k (default : GStart)).a, a⟩) i j := by
  let e : P2 := ⟨(L.getD k (default : GStart)).a, a⟩
  show _ = stC (L.set k e) i j
  unfold stC
  by_cases h : i = k
  · subst h
    rw [List.getD_eq_getElem?_getD (l := L.set i e), List.getElem?_set_self hk]
    match j, hj with
    | 0, _ => rw [if_neg (fun h => by omega)]; rfl
    | 1, _ => rw [if_pos ⟨rfl, rfl⟩]; rfl
    | _ + 2, h => exact absurd h (by omega)
  · rw [if_neg (fun e => h e.1), List.getD_eq_getElem?_getD (l := L.set k e), List.getElem?_set_ne (by omega), ← List.getD_eq_getElem?_getD]
theorem fv_st {H : Heap} {id m : Nat} {o : AObj} {L : List P2} (ho : H.lookup id = some o) (hsz : o.sz = 2) (hn : L.length ≤ o.n) (hm : m = L.length) (hf : ∀ i j, i < L.length → j < 2 → o.f i j = stC L i j) : Fv H (.own id 2 m) (stsAV L) := by
  subst hm
  refine .own ho hsz hn fun i j hi hj => ?_
  rw [hf i j hi hj]
  match j, hj with
  | 0, _ => exact .int
  | 1, _ => exact .int
  | _ + 2, h => exact absurd h (by omega)
theorem allSt_set {L : List P2} {k : Nat} {a b : Int} (h : allSt L) (ha : 0 ≤ a ∧ a ≤ 2000) (hb : 0 ≤ b ∧ b ≤ 2000) : allSt (L.set k ⟨a, b⟩) := by
  intro e he
  rcases List.mem_or_eq_of_mem_set he with h1 | rfl
  · exact h e h1
  · exact ⟨ha, hb⟩
theorem ssOf_all {l : List IS} (hl : allEn l) (hn : l.length ≤ 100) : allSt (ssOf l) := by
  intro e he
  obtain ⟨i, hi, rfl⟩ := List.mem_iff_getElem.1 he
  have hb := ss_bd hi
  obtain ⟨hg, hs⟩ := ss_good hi
  have he2 : (ssOf l)[i] ∈ startsTo l l.length := by
    have h2 := he
    generalize (ssOf l)[i] = e at h2 ⊢
    rw [← hs]; exact h2
  have hat := startsTo_at l.length _ he2
  rw [List.getD_eq_getElem?_getD, List.getElem?_eq_getElem hi] at hb
  have hb : 1 ≤ (ssOf l)[i].a ∧ (ssOf l)[i].a ≤ 1000 := hb
  exact ⟨by omega, by omega⟩
theorem ss_len {l : List IS} (hn : l.length ≤ 100) : (ssOf l).length ≤ 100 := by
  by_cases h : 0 < (ssOf l).length
  · rw [(ss_good h).2]; have := startsTo_len l l.length; omega
  · omega
theorem stC_scl {L : List P2} : ∀ i j, (stC L i j).scl = true := fun i j => by
  match j with
  | 0 => rfl
  | 1 => rfl
  | _ + 2 => rfl
theorem v_DrawFindPart (n : Nat) (F : Nat → Nat) (hF : ∀ i, F i < 256) : FnE Try.prog 40 [.one (.lst 1 n (fun i _ => .int .u8 ((F i : Nat) : Int)))] (fun (x : List IS × List P2 × Int) => (x.1.length ≤ 41 ∧ allEn x.1) ∧ allSt x.2.1 ∧ -1 ≤ x.2.2 ∧ x.2.2 ≤ 2000) (fun (x : List IS × List P2 × Int) => .tup3 (.one (ensAV x.1)) (.one (stsAV x.2.1)) (.one (.int .i64 x.2.2))) := by
  refine FnE.of_body (fn := Try.f40) Try.func40 rfl (Nat.le_of_ble_eq_true rfl) ?_
  intro w0
  show AW _ 45 _ _ _ _
  refine AW.cv (t := 0) rfl (fun c0 => ?_)
  refine AW.seq ?_
  refine AW.region ?_
  refine ARun.pure (PureOp.assign rfl .con) rfl rfl (Nat.le_of_ble_eq_true rfl) ?_
  refine ARun.pure (PureOp.assign rfl .con) rfl rfl (Nat.le_of_ble_eq_true rfl) ?_
  refine ARun.pure (PureOp.assign rfl .int) rfl rfl (Nat.le_of_ble_eq_true rfl) ?_
  refine ARun.nil ?_
  refine AW.seq ?_
  refine AW.region ?_
  refine ARun.pure (PureOp.move rfl (.tmp rfl)) rfl rfl (Nat.le_of_ble_eq_true rfl) ?_
  refine ARun.pure (PureOp.build (ys := [.cv c0 (.lst 1 n (fun i _ => .int .u8 ((F i : Nat) : Int)))]) (l := [.con (.slice none 0 0), .int .i64 0, .int .u64 0]) (pl := [(0, 1), (1, 1), (2, 1)]) (z := (.agg #[.slice none 0 0, .int .i64 0, .int .u64 0])) rfl (by kernel_rfl) (by kernel_rfl) (fun _ _ _ => ⟨_, _, rfl, rfl, ⟨_, _, rfl, rfl, ⟨_, _, rfl, rfl, rfl⟩⟩⟩) ⟨(.tmp rfl), trivial, rfl, trivial⟩ rfl) rfl rfl (Nat.le_of_ble_eq_true rfl) ?_
  refine ARun.box (id := 0) rfl (.tmp rfl) (SV.cells_of (by exact ⟨trivial, trivial, trivial, trivial⟩)) ⟨rfl, (by repeat first | exact trivial | refine ⟨by decide, by first | rfl | exact trivial | (intro i j; first | rfl | exact getD_no rfl | (dsimp only; split <;> first | rfl | exact getD_no rfl) | exact scl_no (by apply_assumption) _), ?_⟩)⟩ rfl rfl rfl (Nat.le_of_ble_eq_true rfl) ?_
  refine ARun.pure (PureOp.assign rfl (.tmp rfl)) rfl rfl (Nat.le_of_ble_eq_true rfl) ?_
  refine ARun.nil ?_
  refine AW.seq ?_
  refine AW.region ?_
  refine ARun.pure (PureOp.move rfl (.tmp rfl)) rfl rfl (Nat.le_of_ble_eq_true rfl) ?_
  refine ARun.cur2 (id := 0) rfl (v_TwoLogs n F hF 0 0 (by omega) (by omega)) vd3_ca_60 ⟨.inr (.tmp rfl), trivial⟩ rfl rfl rfl (Nat.le_of_ble_eq_true rfl) (fun x1 p2 sd3 hc4 => ?_)
  obtain ⟨⟨⟨hc4x, hc4r⟩, hc4y, hc4z⟩, hc4c⟩ := hc4
  obtain ⟨hc41, hc42, hc43⟩ := hc4c
  refine ARun.pure (PureOp.move rfl (.tmp rfl)) rfl rfl (Nat.le_of_ble_eq_true rfl) ?_
  refine ARun.pure (PureOp.ext2a rfl (.tmp rfl)) rfl rfl (Nat.le_of_ble_eq_true rfl) ?_
  refine ARun.pure (PureOp.ext2b rfl (.tmp rfl)) rfl rfl (Nat.le_of_ble_eq_true rfl) ?_
  refine ARun.pure (PureOp.assign rfl (.tmp rfl)) rfl rfl (Nat.le_of_ble_eq_true rfl) ?_
  refine ARun.pure (PureOp.assign rfl (.tmp rfl)) rfl rfl (Nat.le_of_ble_eq_true rfl) ?_
  refine ARun.nil ?_
  refine AW.seq ?_
  refine AW.region ?_
  refine ARun.pure (PureOp.move rfl (.tmp rfl)) rfl rfl (Nat.le_of_ble_eq_true rfl) ?_
  refine ARun.prod (K := 1) rfl (v_sStartsT x1.2 hc4z) ⟨rfl, (by repeat first | exact trivial | refine ⟨by decide, by first | rfl | exact trivial | (intro i j; first | rfl | exact getD_no rfl | (dsimp only; split <;> first | rfl | exact getD_no rfl) | exact scl_no (by apply_assumption) _), ?_⟩)⟩ ⟨⟨_, (.tmp rfl), .frs⟩, trivial⟩ vd3_ca_14 rfl rfl rfl rfl rfl (Nat.le_of_ble_eq_true rfl) ?_
  refine ARun.pure (PureOp.move rfl (.tmp rfl)) rfl rfl (Nat.le_of_ble_eq_true rfl) ?_
  refine ARun.pure (PureOp.ext2a rfl (.tmp rfl)) rfl rfl (Nat.le_of_ble_eq_true rfl) ?_
  refine ARun.openRow 22 1 0 2 2 ((ssOf x1.2).length) 2 _ (stC (ssOf x1.2)) rfl rfl (by decide) rfl (fun i j hi hj => (stC_scl i j)) (fun i j => by first | rfl | exact getD_no rfl) ⟨rfl, (by repeat first | exact trivial | refine ⟨by decide, by first | rfl | exact trivial | (intro i j; first | rfl | exact getD_no rfl | (dsimp only; split <;> first | rfl | exact getD_no rfl) | exact scl_no (by apply_assumption) _), ?_⟩)⟩ ?_
  refine ARun.pure (PureOp.ext2b rfl (.tmp rfl)) rfl rfl (Nat.le_of_ble_eq_true rfl) ?_
  refine ARun.pure (PureOp.assign rfl (.tmp rfl)) rfl rfl (Nat.le_of_ble_eq_true rfl) ?_
  refine ARun.pure (PureOp.assign rfl (.tmp rfl)) rfl rfl (Nat.le_of_ble_eq_true rfl) ?_
  refine ARun.nil ?_
  refine AW.seq ?_
  refine AW.region ?_
  refine ARun.pure (PureOp.move rfl (.tmp rfl)) rfl rfl (Nat.le_of_ble_eq_true rfl) ?_
  refine ARun.pure (PureOp.lenLst rfl (.frs (.tmp rfl)) vd3_sl_26) rfl rfl (Nat.le_of_ble_eq_true rfl) ?_
  refine ARun.pure (PureOp.assign rfl (.tmp rfl)) rfl rfl (Nat.le_of_ble_eq_true rfl) ?_
  refine ARun.nil ?_
  refine AW.seq ?_
  refine AW.seq ?_
  refine AW.region ?_
  have hsl := ss_len (l := x1.2) hc4y
  refine ARun.pure (PureOp.move rfl (.tmp rfl)) rfl rfl (Nat.le_of_ble_eq_true rfl) ?_
  refine ARun.pure (PureOp.lenOwn rfl (.tmp rfl) vd3_sl_30) rfl rfl (Nat.le_of_ble_eq_true rfl) ?_
  refine ARun.pure (PureOp.intOp rfl (.tmp rfl) .int rfl) rfl rfl (Nat.le_of_ble_eq_true rfl) ?_
  refine ARun.pure (PureOp.move rfl (.tmp rfl)) rfl rfl (Nat.le_of_ble_eq_true rfl) ?_
  refine ARun.gpure (want := true) (.tt rfl) (fun hg5 => PureOp.move rfl (.tmp rfl)) rfl rfl (Nat.le_of_ble_eq_true rfl) rfl (Nat.le_of_ble_eq_true rfl) ?_
  refine ARun.gcur (id := 0) (want := true) (.tt rfl) rfl (v_One n F hF p2 sd3 (by omega) (by omega) 12 (by omega)) vd3_ca_71 (fun hg6 => ⟨.inr (.gtmp rfl hg6), .inl ⟨_, .int, .int⟩, trivial⟩) rfl rfl rfl (Nat.le_of_ble_eq_true rfl) rfl (Nat.le_of_ble_eq_true rfl) (fun x7 p8 sd9 hc10 hn11 => ?_)
  obtain ⟨hc101, hc102, hc103⟩ : CurOk p2 2 p8 sd9 := CurOk.gd (by omega) (hc10) hn11
  refine ARun.pure (PureOp.pick rfl (.tmp rfl) (fun hp12 => .gtmp rfl hp12) (fun _ => .bool)) rfl rfl (Nat.le_of_ble_eq_true rfl) ?_
  refine ARun.nil ?_
  refine AW.cond (.tmp rfl) (fun hb14 => ?_) (fun hb14 => ?_)
  · have _u := True.intro
    have h0 := of_decide_eq_true (and_condE hb14).1
    refine AW.region ?_
    refine ARun.pure (PureOp.move rfl (.tmp rfl)) rfl rfl (Nat.le_of_ble_eq_true rfl) ?_
    refine ARun.pure (PureOp.move rfl (.tmp rfl)) rfl rfl (Nat.le_of_ble_eq_true rfl) ?_
    refine ARun.pure (PureOp.move rfl (.tmp rfl)) rfl rfl (Nat.le_of_ble_eq_true rfl) ?_
    refine ARun.pure (PureOp.lenOwn rfl (.tmp rfl) vd3_sl_30) rfl rfl (Nat.le_of_ble_eq_true rfl) ?_
    refine ARun.cur (id := 0) rfl (v_Pick n F hF p8 sd9 (by omega) (by omega) ((ssOf x1.2).length) (by omega)) vd3_ca_69 ⟨.inr (.tmp rfl), .inl ⟨_, (.tmp rfl), .int⟩, trivial⟩ rfl rfl rfl (Nat.le_of_ble_eq_true rfl) (fun x15 p16 sd17 hc18 => ?_)
    obtain ⟨hc18x, hc18c⟩ := hc18
    obtain ⟨hc181, hc182, hc183⟩ := hc18c
    refine ARun.pure (PureOp.move rfl (.tmp rfl)) rfl rfl (Nat.le_of_ble_eq_true rfl) ?_
    refine ARun.cur (id := 0) rfl (v_Pick n F hF p16 sd17 (by omega) (by omega) 5 (by omega)) vd3_ca_69 ⟨.inr (.tmp rfl), .inl ⟨_, .int, .int⟩, trivial⟩ rfl rfl rfl (Nat.le_of_ble_eq_true rfl) (fun x19 p20 sd21 hc22 => ?_)
    obtain ⟨hc22x, hc22c⟩ := hc22
    obtain ⟨hc221, hc222, hc223⟩ := hc22c
    refine ARun.pure (PureOp.indexOwn (i := x15) rfl (.tmp rfl) vd3_el_30_2 (.tmp rfl) rfl (by omega)) rfl rfl (Nat.le_of_ble_eq_true rfl) ?_
    refine ARun.pure (PureOp.fieldPtr rfl (.tmp rfl) vd3_fi_55_1_1) rfl rfl (Nat.le_of_ble_eq_true rfl) ?_
    refine ARun.storeArr rfl (.tmp rfl) (.tmp rfl) trivial rfl (show _ < (ssOf x1.2).length from by omega) (Nat.le_of_ble_eq_true rfl) vd3_sz_3_1 rfl rfl ?_
    refine ARun.nil ?_
    refine AW.seq ?_
    refine AW.region ?_
    refine ARun.pure (PureOp.move rfl (.tmp rfl)) rfl rfl (Nat.le_of_ble_eq_true rfl) ?_
    refine ARun.pure (PureOp.move rfl (.tmp rfl)) rfl rfl (Nat.le_of_ble_eq_true rfl) ?_
    refine ARun.pure (PureOp.move rfl (.tmp rfl)) rfl rfl (Nat.le_of_ble_eq_true rfl) ?_
    refine ARun.pure (PureOp.assign rfl (.tmp rfl)) rfl rfl (Nat.le_of_ble_eq_true rfl) ?_
    refine ARun.pure (PureOp.assign rfl (.tmp rfl)) rfl rfl (Nat.le_of_ble_eq_true rfl) ?_
    refine ARun.pure (PureOp.assign rfl (.tmp rfl)) rfl rfl (Nat.le_of_ble_eq_true rfl) ?_
    refine ARun.nil ?_
    exact AW.ret (show ∃ x s, _ ∧ ResL _ _ [.tmp 2, .tmp 3, .tmp 4] s ∧ FvS _ s _ from ⟨⟨x1.1, ((ssOf x1.2).set x15 (⟨((ssOf x1.2).getD x15 (default : GStart)).a, (x19 : Int)⟩ : P2)), (x1.2.length : Int)⟩, _, ⟨⟨hc4x, hc4r⟩, allSt_set (ssOf_all hc4z hc4y) (by have := ss_bd (l := x1.2) (i := x15) (by omega); omega) (by omega), by show -1 ≤ (x1.2.length : Int); omega, by have := hc4y; show (x1.2.length : Int) ≤ 2000; omega⟩, .inr (.inr (.inl ⟨_, _, _, _, _, _, rfl, .tmp rfl, .tmp rfl, .tmp rfl, rfl⟩)), ⟨.frs, fv_st rfl rfl (Nat.le_of_eq (List.length_set ..)) (List.length_set ..).symm (fun _ _ _ hj => st_set (show x15 < (ssOf x1.2).length from by omega) hj), .int⟩⟩)
  · have _u := True.intro
    refine AW.skip ?_
    refine AW.seq ?_
    refine AW.region ?_
    refine ARun.pure (PureOp.move rfl (.tmp rfl)) rfl rfl (Nat.le_of_ble_eq_true rfl) ?_
    refine ARun.pure (PureOp.move rfl (.tmp rfl)) rfl rfl (Nat.le_of_ble_eq_true rfl) ?_
    refine ARun.pure (PureOp.move rfl (.tmp rfl)) rfl rfl (Nat.le_of_ble_eq_true rfl) ?_
    refine ARun.pure (PureOp.assign rfl (.tmp rfl)) rfl rfl (Nat.le_of_ble_eq_true rfl) ?_
    refine ARun.pure (PureOp.assign rfl (.tmp rfl)) rfl rfl (Nat.le_of_ble_eq_true rfl) ?_
    refine ARun.pure (PureOp.assign rfl (.tmp rfl)) rfl rfl (Nat.le_of_ble_eq_true rfl) ?_
    refine ARun.nil ?_
    exact AW.ret (show ∃ x s, _ ∧ ResL _ _ [.tmp 2, .tmp 3, .tmp 4] s ∧ FvS _ s _ from ⟨⟨x1.1, (ssOf x1.2), (x1.2.length : Int)⟩, _, ⟨⟨hc4x, hc4r⟩, ssOf_all hc4z hc4y, by show -1 ≤ (x1.2.length : Int); omega, by have := hc4y; show (x1.2.length : Int) ≤ 2000; omega⟩, .inr (.inr (.inl ⟨_, _, _, _, _, _, rfl, .tmp rfl, .tmp rfl, .tmp rfl, rfl⟩)), ⟨.frs, fv_st rfl rfl (Nat.le_refl _) rfl (fun _ _ _ _ => rfl), .int⟩⟩)
end Go.Proofs.Ytgcliipdkoefaaa

/-
  The laws' own comparison of entries; GoodEntries.
-/
namespace Go.Proofs.Ytgcliipdkoefaaa
open Go.ChangeShapes Go.WideShapes Go.ChangeAt Go.RowKit Go.BigFrame Go.Deep
set_option linter.unusedVariables false
set_option linter.unusedSimpArgs false
theorem vlw_ag_52_2 : aggB Try.prog 52 2 = true := by kernel_rfl
theorem vlw_ca_46 : callB Try.prog 46 = true := by kernel_rfl
theorem vlw_el_26_2 : elemB Try.prog 26 2 = true := by kernel_rfl
theorem vlw_sl_26 : sliceB Try.prog 26 = true := by kernel_rfl
theorem eqGuardStart : Try.prog.eqGuardType Try.prog.depth 55 = false := by kernel_rfl
theorem equalStart (e f : P2) (r : Bool) (hr : decide (e = f) = r) (w : World) :
    (Op.equalIn 10000 55 (.agg #[.int .i64 e.a, .int .i64 e.b]) (.agg #[.int .i64 f.a, .int .i64 f.b])).run Try.prog w = .ok r w := by
  subst hr
  have u3 := Try.underlying3
  have a3 := Try.isAgg3
  have z3 := Try.sizeOf3
  have hS : Try.prog.underlying 55 = some (.struct (Try.prog.fieldsOf 55)) := by kernel_rfl
  have hp : Try.prog.stoodInHeld 55 = false := by kernel_rfl
  rw [show (10000 : Nat) = 9999 + 1 from rfl, run_equalIn_agg w 9999 55 _ _ hS hp]
  simp only [Program.fieldsOf, Try.underlying55]
  obtain ⟨n, s⟩ := e
  obtain ⟨m, t⟩ := f
  go_simp
  by_cases h1 : n = m <;> by_cases h2 : s = t <;> simp [h1, h2]
theorem takes_yes {a b : List IS} {m n : Nat} (hm : m ≤ a.length) (hn : n ≤ b.length) (h : m = n) (hs : ∀ j, j < m → a.getD j (default : GEntry) = b.getD j default) : a.take m = b.take n := by
  subst h
  refine List.ext_getElem (by rw [List.length_take, List.length_take]; omega) fun i h1 h2 => ?_
  rw [List.length_take] at h1 h2
  have := hs i (by omega)
  rw [List.getD_eq_getElem?_getD, List.getD_eq_getElem?_getD, List.getElem?_eq_getElem (by omega), List.getElem?_eq_getElem (by omega)] at this
  rw [List.getElem_take, List.getElem_take]
  exact this
theorem takes_len {a b : List IS} {m n : Nat} (hm : m ≤ a.length) (hn : n ≤ b.length) (h : m ≠ n) : ¬ a.take m = b.take n := fun e => by
  have := congrArg List.length e
  rw [List.length_take, List.length_take] at this
  omega
theorem takes_at {a b : List IS} {m n j : Nat} (hm : m ≤ a.length) (hn : n ≤ b.length) (hmn : m = n) (hj : j < m) (h : ¬ a.getD j (default : GEntry) = b.getD j default) : ¬ a.take m = b.take n := fun e => by
  subst hmn
  apply h
  have e2 : (a.take m)[j]? = (b.take m)[j]? := by rw [e]
  rw [List.getElem?_take, if_pos hj, List.getElem?_take, if_pos hj] at e2
  rw [List.getD_eq_getElem?_getD, List.getD_eq_getElem?_getD, e2]
theorem v_sameEn (a b : List IS) (m n : Nat) (hm : m ≤ a.length) (hn : n ≤ b.length) (hmb : m ≤ 1000000) (hnb : n ≤ 1000000) : Fn Try.prog 34 [.one (.lst 2 m (enC a)), .one (.lst 2 n (enC b))] (.one (.bool (decide (a.take m = b.take n)))) := by
  refine Fn.of_body (fn := Try.f34) Try.func34 rfl (Nat.le_of_ble_eq_true rfl) trivial ?_
  intro w0
  show AW _ 26 _ _ _ _
  refine AW.seq ?_
  refine AW.region ?_
  refine ARun.pure (PureOp.assign rfl .bool) rfl rfl (Nat.le_of_ble_eq_true rfl) ?_
  refine ARun.nil ?_
  refine AW.seq ?_
  refine AW.seq ?_
  refine AW.region ?_
  refine ARun.pure (PureOp.move rfl (.tmp rfl)) rfl rfl (Nat.le_of_ble_eq_true rfl) ?_
  refine ARun.pure (PureOp.lenLst rfl (.tmp rfl) vlw_sl_26) rfl rfl (Nat.le_of_ble_eq_true rfl) ?_
  refine ARun.pure (PureOp.move rfl (.tmp rfl)) rfl rfl (Nat.le_of_ble_eq_true rfl) ?_
  refine ARun.pure (PureOp.lenLst rfl (.tmp rfl) vlw_sl_26) rfl rfl (Nat.le_of_ble_eq_true rfl) ?_
  refine ARun.pure (PureOp.intOp rfl (.tmp rfl) (.tmp rfl) rfl) rfl rfl (Nat.le_of_ble_eq_true rfl) ?_
  refine ARun.nil ?_
  refine AW.cond (.tmp rfl) (fun hb1 => ?_) (fun hb1 => ?_)
  · have _u := True.intro
    replace hb1 := of_decide_eq_false (of_not hb1)
    have hln : m ≠ n := by omega
    refine AW.seq ?_
    refine AW.region ?_
    refine ARun.pure (PureOp.assign rfl .bool) rfl rfl (Nat.le_of_ble_eq_true rfl) ?_
    refine ARun.nil ?_
    refine AW.ret (show ResL _ _ [.tmp 4] _ from resB rfl ?_)
    exact (decide_eq_false (takes_len hm hn hln)).symm
  · have _u := True.intro
    replace hb1 := of_decide_eq_true (not_f hb1)
    have hln : m = n := by omega
    refine AW.skip ?_
    refine AW.seq ?_
    refine AW.seq ?_
    refine AW.region ?_
    refine ARun.pure (PureOp.move rfl (.tmp rfl)) rfl rfl (Nat.le_of_ble_eq_true rfl) ?_
    refine ARun.pure (PureOp.lenLst rfl (.tmp rfl) vlw_sl_26) rfl rfl (Nat.le_of_ble_eq_true rfl) ?_
    refine ARun.pure (PureOp.move rfl .int) rfl rfl (Nat.le_of_ble_eq_true rfl) ?_
    refine ARun.nil ?_
    refine AW.block ?_
    refine AW.loop (ι := Nat) (fun k => ⟨[(0, .one (.lst 2 m (enC a))), (1, .one (.lst 2 n (enC b))), (12, .one (.int .i64 (m : Int))), (13, .one (.int .i64 (k : Int)))], []⟩) (fun k => k ≤ m ∧ ∀ j, j < k → a.getD j (default : GEntry) = b.getD j default) (fun k => m - k) 0 ⟨Nat.zero_le _, fun j hj => absurd hj (Nat.not_lt_zero j)⟩ ⟨⟨⟨_, rfl, rfl⟩, ⟨_, rfl, rfl⟩, ⟨_, rfl, rfl⟩, ⟨_, rfl, rfl⟩, trivial⟩, trivial⟩ ?_
    intro k hk
    obtain ⟨hk, hks⟩ := hk
    refine AW.seq ?_
    refine AW.region ?_
    refine ARun.pure (PureOp.intOp rfl (.tmp rfl) (.tmp rfl) rfl) rfl rfl (Nat.le_of_ble_eq_true rfl) ?_
    refine ARun.nil ?_
    refine AW.seq ?_
    refine AW.cond (.tmp rfl) (fun hb2 => ?_) (fun hb2 => ?_)
    · have _u := True.intro
      replace hb2 := of_decide_eq_true hb2
      have hkl : k < m := by omega
      have hkn : k < n := by omega
      refine AW.skip ?_
      refine AW.seq ?_
      refine AW.block ?_
      refine AW.seq ?_
      refine AW.region ?_
      refine ARun.pure (PureOp.move rfl (.tmp rfl)) rfl rfl (Nat.le_of_ble_eq_true rfl) ?_
      refine ARun.pure (PureOp.assign rfl (.tmp rfl)) rfl rfl (Nat.le_of_ble_eq_true rfl) ?_
      refine ARun.nil ?_
      refine AW.seq ?_
      refine AW.any (by kernel_rfl) (by kernel_rfl) ?_
      refine AD.pure (PureOp.move rfl (.tmp rfl)) rfl rfl (Nat.le_of_ble_eq_true rfl) ?_
      refine AD.pure (PureOp.move rfl (.tmp rfl)) rfl rfl (Nat.le_of_ble_eq_true rfl) ?_
      refine AD.pure (PureOp.indexLst (i := k) rfl (.tmp rfl) vlw_el_26_2 (.tmp rfl) rfl (by omega)) rfl rfl (Nat.le_of_ble_eq_true rfl) ?_
      refine AD.pure (PureOp.loadRefAgg rfl (.tmp rfl) vlw_ag_52_2 (Nat.le_of_ble_eq_true rfl)) rfl rfl (Nat.le_of_ble_eq_true rfl) ?_
      refine AD.pure (PureOp.move rfl (.tmp rfl)) rfl rfl (Nat.le_of_ble_eq_true rfl) ?_
      refine AD.pure (PureOp.move rfl (.tmp rfl)) rfl rfl (Nat.le_of_ble_eq_true rfl) ?_
      refine AD.pure (PureOp.indexLst (i := k) rfl (.tmp rfl) vlw_el_26_2 (.tmp rfl) rfl (by omega)) rfl rfl (Nat.le_of_ble_eq_true rfl) ?_
      refine AD.pure (PureOp.loadRefAgg rfl (.tmp rfl) vlw_ag_52_2 (Nat.le_of_ble_eq_true rfl)) rfl rfl (Nat.le_of_ble_eq_true rfl) ?_
      refine AD.pure (PureOp.neAgg rfl (.tmp rfl) (.tmp rfl) rfl rfl eqGuardEntry (fun w_ => equalEntry (a.getD k (default : GEntry)) (b.getD k (default : GEntry)) _ rfl w_)) rfl rfl (Nat.le_of_ble_eq_true rfl) ?_
      refine AD.nil ?_
      refine AW.cond (.tmp rfl) (fun hb3 => ?_) (fun hb3 => ?_)
      · have _u := True.intro
        replace hb3 := of_decide_eq_false (of_not hb3)
        refine AW.seq ?_
        refine AW.region ?_
        refine ARun.pure (PureOp.assign rfl .bool) rfl rfl (Nat.le_of_ble_eq_true rfl) ?_
        refine ARun.nil ?_
        refine AW.ret (show ResL _ _ [.tmp 4] _ from resB rfl ?_)
        exact (decide_eq_false (takes_at hm hn hln hkl hb3)).symm
      · have _u := True.intro
        replace hb3 := of_decide_eq_true (not_f hb3)
        have heq := hb3
        refine AW.skip ?_
        refine AW.region ?_
        refine ARun.pure (PureOp.add (c := ((k + 1 : Nat) : Int)) rfl (.tmp rfl) .int (by rw [wrap_id (by omega) (by omega)]; omega)) rfl rfl (Nat.le_of_ble_eq_true rfl) ?_
        refine ARun.pure (PureOp.move rfl (.tmp rfl)) rfl rfl (Nat.le_of_ble_eq_true rfl) ?_
        refine ARun.nil ?_
        exact ⟨k + 1, ⟨by omega, rng_succ hks heq⟩, by dsimp only; omega, ⟨⟨⟨_, rfl, rfl⟩, ⟨_, rfl, rfl⟩, ⟨_, rfl, rfl⟩, ⟨_, rfl, rfl⟩, trivial⟩, trivial⟩⟩
    · have _u := True.intro
      replace hb2 := of_decide_eq_false hb2
      have hkl : ¬ k < m := by omega
      skip
      refine AW.exit ?_
      refine AW.seq ?_
      refine AW.region ?_
      refine ARun.pure (PureOp.assign rfl .bool) rfl rfl (Nat.le_of_ble_eq_true rfl) ?_
      refine ARun.nil ?_
      refine AW.ret (show ResL _ _ [.tmp 4] _ from resB rfl ?_)
      exact (decide_eq_true (takes_yes hm hn hln fun j hj => hks j (by omega))).symm

theorem v_iGoodEn (l : List IS) (hl : allEn l) : Fn Try.prog 32 [.one (.lst 2 l.length (enC l))] (.one (.bool (goodEn l))) := by
  refine Fn.of_body (fn := Try.f32) Try.func32 rfl (Nat.le_of_ble_eq_true rfl) trivial ?_
  intro w0
  show AW _ 5 _ _ _ _
  refine AW.seq ?_
  refine AW.region ?_
  refine ARun.pure (PureOp.assign rfl .bool) rfl rfl (Nat.le_of_ble_eq_true rfl) ?_
  refine ARun.nil ?_
  refine AW.seq ?_
  refine AW.region ?_
  refine ARun.pure (PureOp.move rfl (.tmp rfl)) rfl rfl (Nat.le_of_ble_eq_true rfl) ?_
  refine ARun.pure (PureOp.call rfl (v_iGood l hl) ⟨⟨_, (.tmp rfl), .lst⟩, trivial⟩ vlw_ca_46 trivial) rfl rfl (Nat.le_of_ble_eq_true rfl) ?_
  refine ARun.pure (PureOp.assign rfl (.tmp rfl)) rfl rfl (Nat.le_of_ble_eq_true rfl) ?_
  refine ARun.nil ?_
  refine AW.ret (show ResL _ _ [.tmp 2] _ from resB rfl ?_)
  rfl
end Go.Proofs.Ytgcliipdkoefaaa

namespace Go.Proofs.Ytgcliipdkoefaaa
open Go.ChangeShapes Go.WideShapes Go.ChangeAt Go.RowKit Go.BigFrame Go.Deep
set_option linter.unusedVariables false
set_option linter.unusedSimpArgs false
theorem vlf_bo_4 : boolB Try.prog 4 = true := by kernel_rfl
theorem vlf_ca_12 : callB Try.prog 12 = true := by kernel_rfl
theorem vlf_ca_21 : callB Try.prog 21 = true := by kernel_rfl
theorem vlf_ca_23 : callB Try.prog 23 = true := by kernel_rfl
theorem vlf_ca_24 : callB Try.prog 24 = true := by kernel_rfl
theorem vlf_ca_25 : callB Try.prog 25 = true := by kernel_rfl
theorem vlf_ca_28 : callB Try.prog 28 = true := by kernel_rfl
theorem vlf_ca_34 : callB Try.prog 34 = true := by kernel_rfl
theorem vlf_ca_39 : callB Try.prog 39 = true := by kernel_rfl
theorem vlf_ca_40 : callB Try.prog 40 = true := by kernel_rfl
theorem vlf_sl_26 : sliceB Try.prog 26 = true := by kernel_rfl
theorem vlf_sl_45 : sliceB Try.prog 45 = true := by kernel_rfl
theorem foAns_len (l l' : List IS) : (foAns l l').length ≤ l'.length := by
  unfold foAns
  split
  · rw [foL_len]; exact Nat.le_refl _
  · exact Nat.zero_le _
theorem opensC_5 : OpensC Try.prog 5 (fun x : UInt8 => [.int .u8 ((x.toNat : Nat) : Int)]) := OpensC.byte Try.underlying5
theorem opensC_45 : OpensC Try.prog 45 (fun x : List UInt8 => [.lst 1 x.length (fun i0 _ => .int .u8 (((x.getD i0 0).toNat : Nat) : Int))]) := OpensC.slice (0 : UInt8) Try.underlying45 (by kernel_rfl) (by decide) opensC_5 (fun _ => rfl) (fun l i j _ hj => match j, hj with | 0, _ => rfl | _ + 1, h => absurd h (by omega))

theorem law_Follow (x0 x1 : List UInt8) : Fn Try.prog 8 [.one (.lst 1 x0.length (fun i0 _ => .int .u8 (((x0.getD i0 0).toNat : Nat) : Int))), .one (.lst 1 x1.length (fun i0 _ => .int .u8 (((x1.getD i0 0).toNat : Nat) : Int)))] (.one (.bool true)) := by
  refine Fn.of_body (fn := Try.f8) Try.func8 rfl (Nat.le_of_ble_eq_true rfl) trivial ?_
  intro w0
  show AW _ 170 _ _ _ _
  refine AW.seq ?_
  refine AW.region ?_
  refine ARun.pure (PureOp.assign rfl .bool) rfl rfl (Nat.le_of_ble_eq_true rfl) ?_
  refine ARun.nil ?_
  refine AW.seq ?_
  refine AW.seq ?_
  refine AW.region ?_
  refine ARun.pure (PureOp.move rfl (.tmp rfl)) rfl rfl (Nat.le_of_ble_eq_true rfl) ?_
  refine ARun.pure (PureOp.lenLst rfl (.tmp rfl) vlf_sl_45) rfl rfl (Nat.le_of_ble_eq_true rfl) ?_
  refine ARun.pure (PureOp.move rfl (.tmp rfl)) rfl rfl (Nat.le_of_ble_eq_true rfl) ?_
  refine ARun.pure (PureOp.lenLst rfl (.tmp rfl) vlf_sl_45) rfl rfl (Nat.le_of_ble_eq_true rfl) ?_
  refine ARun.pure (PureOp.intOp rfl (.tmp rfl) (.tmp rfl) rfl) rfl rfl (Nat.le_of_ble_eq_true rfl) ?_
  refine ARun.pure (PureOp.intOp rfl (.tmp rfl) .int rfl) rfl rfl (Nat.le_of_ble_eq_true rfl) ?_
  refine ARun.nil ?_
  refine AW.cond (.tmp rfl) (fun hb1 => ?_) (fun hb1 => ?_)
  · have _u := True.intro
    have _h := hb1
    refine AW.seq ?_
    refine AW.region ?_
    refine ARun.pure (PureOp.assign rfl .bool) rfl rfl (Nat.le_of_ble_eq_true rfl) ?_
    refine ARun.nil ?_
    refine AW.ret (show ResL _ _ [.tmp 4] _ from resB rfl ?_)
    rfl
  · have _u := True.intro
    have _h := hb1
    refine AW.skip ?_
    refine AW.seq ?_
    refine AW.region ?_
    refine ARun.pure (PureOp.move rfl (.tmp rfl)) rfl rfl (Nat.le_of_ble_eq_true rfl) ?_
    refine ARun.draw rfl (v_DrawFollowLog x0.length (fun i => (x0.getD i 0).toNat) (fun i => UInt8.toNat_lt _)) vlf_ca_39 ⟨⟨_, (.tmp rfl), .lst⟩, trivial⟩ rfl rfl (Nat.le_of_ble_eq_true rfl) (fun x2 hd3 => ?_)
    obtain ⟨⟨ha1, ha2⟩, hb1, hb2⟩ := hd3
    refine ARun.pure (PureOp.move rfl (.tmp rfl)) rfl rfl (Nat.le_of_ble_eq_true rfl) ?_
    refine ARun.pure (PureOp.ext2a rfl (.tmp rfl)) rfl rfl (Nat.le_of_ble_eq_true rfl) ?_
    refine ARun.pure (PureOp.ext2b rfl (.tmp rfl)) rfl rfl (Nat.le_of_ble_eq_true rfl) ?_
    refine ARun.pure (PureOp.assign rfl (.tmp rfl)) rfl rfl (Nat.le_of_ble_eq_true rfl) ?_
    refine ARun.pure (PureOp.assign rfl (.tmp rfl)) rfl rfl (Nat.le_of_ble_eq_true rfl) ?_
    refine ARun.nil ?_
    refine AW.seq ?_
    refine AW.region ?_
    refine ARun.pure (PureOp.move rfl (.tmp rfl)) rfl rfl (Nat.le_of_ble_eq_true rfl) ?_
    refine ARun.pure (PureOp.move rfl (.tmp rfl)) rfl rfl (Nat.le_of_ble_eq_true rfl) ?_
    refine ARun.fresh (FreshOp.callS rfl (v_iFollow x2.1 x2.2 ha2 hb2) ⟨⟨_, (.tmp rfl), .frs⟩, ⟨_, (.tmp rfl), .frs⟩, trivial⟩ vlf_ca_25 rfl) rfl rfl (Nat.le_of_ble_eq_true rfl) ?_
    refine ARun.pure (PureOp.move rfl (.tmp rfl)) rfl rfl (Nat.le_of_ble_eq_true rfl) ?_
    refine ARun.pure (PureOp.ext3a rfl (.tmp rfl)) rfl rfl (Nat.le_of_ble_eq_true rfl) ?_
    refine ARun.pure (PureOp.ext3b rfl (.tmp rfl)) rfl rfl (Nat.le_of_ble_eq_true rfl) ?_
    refine ARun.pure (PureOp.ext3c rfl (.tmp rfl)) rfl rfl (Nat.le_of_ble_eq_true rfl) ?_
    refine ARun.pure (PureOp.assign rfl (.tmp rfl)) rfl rfl (Nat.le_of_ble_eq_true rfl) ?_
    refine ARun.pure (PureOp.assign rfl (.tmp rfl)) rfl rfl (Nat.le_of_ble_eq_true rfl) ?_
    refine ARun.pure (PureOp.assign rfl (.tmp rfl)) rfl rfl (Nat.le_of_ble_eq_true rfl) ?_
    refine ARun.nil ?_
    refine AW.seq ?_
    refine AW.region ?_
    refine ARun.pure (PureOp.move rfl (.tmp rfl)) rfl rfl (Nat.le_of_ble_eq_true rfl) ?_
    refine ARun.pure (PureOp.move rfl (.tmp rfl)) rfl rfl (Nat.le_of_ble_eq_true rfl) ?_
    refine ARun.fresh (FreshOp.callS rfl (v_sFollow x2.1 x2.2 ha2 hb2) ⟨⟨_, (.tmp rfl), .frs⟩, ⟨_, (.tmp rfl), .frs⟩, trivial⟩ vlf_ca_24 rfl) rfl rfl (Nat.le_of_ble_eq_true rfl) ?_
    refine ARun.pure (PureOp.move rfl (.tmp rfl)) rfl rfl (Nat.le_of_ble_eq_true rfl) ?_
    refine ARun.pure (PureOp.ext3a rfl (.tmp rfl)) rfl rfl (Nat.le_of_ble_eq_true rfl) ?_
    refine ARun.pure (PureOp.ext3b rfl (.tmp rfl)) rfl rfl (Nat.le_of_ble_eq_true rfl) ?_
    refine ARun.pure (PureOp.ext3c rfl (.tmp rfl)) rfl rfl (Nat.le_of_ble_eq_true rfl) ?_
    refine ARun.pure (PureOp.assign rfl (.tmp rfl)) rfl rfl (Nat.le_of_ble_eq_true rfl) ?_
    refine ARun.pure (PureOp.assign rfl (.tmp rfl)) rfl rfl (Nat.le_of_ble_eq_true rfl) ?_
    refine ARun.pure (PureOp.assign rfl (.tmp rfl)) rfl rfl (Nat.le_of_ble_eq_true rfl) ?_
    refine ARun.nil ?_
    refine AW.seq ?_
    refine AW.seq ?_
    refine AW.region ?_
    refine ARun.pure (PureOp.move rfl (.tmp rfl)) rfl rfl (Nat.le_of_ble_eq_true rfl) ?_
    refine ARun.pure (PureOp.move rfl (.tmp rfl)) rfl rfl (Nat.le_of_ble_eq_true rfl) ?_
    refine ARun.pure (PureOp.boolNe rfl (.tmp rfl) (.tmp rfl) vlf_bo_4) rfl rfl (Nat.le_of_ble_eq_true rfl) ?_
    refine ARun.pure (PureOp.move rfl (.tmp rfl)) rfl rfl (Nat.le_of_ble_eq_true rfl) ?_
    refine ARun.gpure (want := false) (.tf rfl) (fun hg4 => PureOp.move rfl (.tmp rfl)) rfl rfl (Nat.le_of_ble_eq_true rfl) rfl (Nat.le_of_ble_eq_true rfl) ?_
    refine ARun.gpure (want := false) (.tf rfl) (fun hg5 => PureOp.move rfl (.tmp rfl)) rfl rfl (Nat.le_of_ble_eq_true rfl) rfl (Nat.le_of_ble_eq_true rfl) ?_
    refine ARun.gpure (want := false) (.tf rfl) (fun hg6 => PureOp.intOp rfl (.gtmp rfl hg6) (.gtmp rfl hg6) rfl) rfl rfl (Nat.le_of_ble_eq_true rfl) rfl (Nat.le_of_ble_eq_true rfl) ?_
    refine ARun.pure (PureOp.pick rfl (.tmp rfl) (fun _ => .bool) (fun hp8 => .gtmp rfl (not_of hp8))) rfl rfl (Nat.le_of_ble_eq_true rfl) ?_
    refine ARun.pure (PureOp.move rfl (.tmp rfl)) rfl rfl (Nat.le_of_ble_eq_true rfl) ?_
    refine ARun.gpure (want := false) (.tf rfl) (fun hg9 => PureOp.move rfl (.tmp rfl)) rfl rfl (Nat.le_of_ble_eq_true rfl) rfl (Nat.le_of_ble_eq_true rfl) ?_
    refine ARun.gpure (want := false) (.tf rfl) (fun hg10 => PureOp.move rfl (.tmp rfl)) rfl rfl (Nat.le_of_ble_eq_true rfl) rfl (Nat.le_of_ble_eq_true rfl) ?_
    refine ARun.gpure (want := false) (.tf rfl) (fun hg11 => PureOp.call rfl (v_sameEn (foAns x2.1 x2.2) (foAns x2.1 x2.2) ((foAns x2.1 x2.2).length) ((foAns x2.1 x2.2).length) (by first | exact Nat.le_refl _ | (have h1_ := foAns_len x2.1 x2.2; have h2_ := foAns_len x2.2 x2.2; omega)) (by first | exact Nat.le_refl _ | (have h1_ := foAns_len x2.1 x2.2; have h2_ := foAns_len x2.2 x2.2; omega)) (by first | exact Nat.le_refl _ | (have h1_ := foAns_len x2.1 x2.2; have h2_ := foAns_len x2.2 x2.2; omega)) (by first | exact Nat.le_refl _ | (have h1_ := foAns_len x2.1 x2.2; have h2_ := foAns_len x2.2 x2.2; omega))) ⟨⟨_, (.gtmp rfl hg11), .frs⟩, ⟨_, (.gtmp rfl hg11), .frs⟩, trivial⟩ vlf_ca_34 trivial) rfl rfl (Nat.le_of_ble_eq_true rfl) rfl (Nat.le_of_ble_eq_true rfl) ?_
    refine ARun.gpure (want := false) (.tf rfl) (fun hg12 => PureOp.not rfl (.gtmp rfl hg12)) rfl rfl (Nat.le_of_ble_eq_true rfl) rfl (Nat.le_of_ble_eq_true rfl) ?_
    refine ARun.pure (PureOp.pick rfl (.tmp rfl) (fun _ => .bool) (fun hp14 => .gtmp rfl (not_of hp14))) rfl rfl (Nat.le_of_ble_eq_true rfl) ?_
    refine ARun.nil ?_
    refine AW.cond (.tmp rfl) (fun hb15 => ?_) (fun hb15 => ?_)
    · have _u := True.intro
      exact absurd (show (cond (cond (!((goodEn x2.1 && goodEn x2.2) == (goodEn x2.1 && goodEn x2.2))) true (!decide (foPl x2.1 x2.2 = foPl x2.1 x2.2))) true (!(decide ((foAns x2.1 x2.2).take ((foAns x2.1 x2.2).length) = (foAns x2.1 x2.2).take ((foAns x2.1 x2.2).length))))) = false by simp) (by rw [hb15]; simp)
      --end
    · have _u := True.intro
      have _h := hb15
      refine AW.skip ?_
      refine AW.seq ?_
      refine AW.seq ?_
      refine AW.region ?_
      refine ARun.pure (PureOp.move rfl (.tmp rfl)) rfl rfl (Nat.le_of_ble_eq_true rfl) ?_
      refine ARun.nil ?_
      refine AW.cond (.tmp rfl) (fun hb16 => ?_) (fun hb16 => ?_)
      · have _u := True.intro
        have hga : goodEn x2.1 = true := (Bool.and_eq_true_iff.1 hb16).1
        have hgb : goodEn x2.2 = true := (Bool.and_eq_true_iff.1 hb16).2
        have hpi : partInt x2.1 x2.2 = (preE x2.1 x2.2 : Int) := if_pos hb16
        have hple := preE_le x2.1 x2.2
        have hfo : foAns x2.1 x2.2 = foL x2.1 x2.2 := if_pos hb16
        have hfp : foPl x2.1 x2.2 = (foAt x2.1 x2.2 : Int) := if_pos hb16
        have hM : mlAns x2.1 x2.2 = true → foL x2.1 x2.2 = x2.2 ∧ foAt x2.1 x2.2 ≤ preE x2.1 x2.2 := fun e => ⟨fo_same (fo_pre hga hgb e), fo_pre hga hgb e⟩
        have hfo2 : foAns x2.2 x2.2 = x2.2 := (if_pos (by rw [hgb]; rfl)).trans (List.take_append_drop _ _)
        have hfp2 : foPl x2.2 x2.2 = (x2.2.length : Int) := (if_pos (by rw [hgb]; rfl)).trans (by rw [fo_self hgb])
        refine AW.seq ?_
        refine AW.region ?_
        refine ARun.pure (PureOp.move rfl (.tmp rfl)) rfl rfl (Nat.le_of_ble_eq_true rfl) ?_
        refine ARun.pure (PureOp.move rfl (.tmp rfl)) rfl rfl (Nat.le_of_ble_eq_true rfl) ?_
        refine ARun.pure (PureOp.call rfl (v_iMatch x2.1 x2.2 ha2 hb2) ⟨⟨_, (.tmp rfl), .frs⟩, ⟨_, (.tmp rfl), .frs⟩, trivial⟩ vlf_ca_12 ⟨trivial, trivial⟩) rfl rfl (Nat.le_of_ble_eq_true rfl) ?_
        refine ARun.pure (PureOp.move rfl (.tmp rfl)) rfl rfl (Nat.le_of_ble_eq_true rfl) ?_
        refine ARun.pure (PureOp.ext2a rfl (.tmp rfl)) rfl rfl (Nat.le_of_ble_eq_true rfl) ?_
        refine ARun.pure (PureOp.ext2b rfl (.tmp rfl)) rfl rfl (Nat.le_of_ble_eq_true rfl) ?_
        refine ARun.pure (PureOp.assign rfl (.tmp rfl)) rfl rfl (Nat.le_of_ble_eq_true rfl) ?_
        refine ARun.pure (PureOp.assign rfl (.tmp rfl)) rfl rfl (Nat.le_of_ble_eq_true rfl) ?_
        refine ARun.nil ?_
        refine AW.seq ?_
        refine AW.region ?_
        refine ARun.pure (PureOp.move rfl (.tmp rfl)) rfl rfl (Nat.le_of_ble_eq_true rfl) ?_
        refine ARun.pure (PureOp.move rfl (.tmp rfl)) rfl rfl (Nat.le_of_ble_eq_true rfl) ?_
        refine ARun.pure (PureOp.call rfl (v_iPart x2.1 x2.2 ha2 hb2) ⟨⟨_, (.tmp rfl), .frs⟩, ⟨_, (.tmp rfl), .frs⟩, trivial⟩ vlf_ca_28 ⟨trivial, trivial⟩) rfl rfl (Nat.le_of_ble_eq_true rfl) ?_
        refine ARun.pure (PureOp.move rfl (.tmp rfl)) rfl rfl (Nat.le_of_ble_eq_true rfl) ?_
        refine ARun.pure (PureOp.ext2a rfl (.tmp rfl)) rfl rfl (Nat.le_of_ble_eq_true rfl) ?_
        refine ARun.pure (PureOp.ext2b rfl (.tmp rfl)) rfl rfl (Nat.le_of_ble_eq_true rfl) ?_
        refine ARun.pure (PureOp.assign rfl (.tmp rfl)) rfl rfl (Nat.le_of_ble_eq_true rfl) ?_
        refine ARun.pure (PureOp.assign rfl (.tmp rfl)) rfl rfl (Nat.le_of_ble_eq_true rfl) ?_
        refine ARun.nil ?_
        refine AW.seq ?_
        refine AW.seq ?_
        refine AW.region ?_
        refine ARun.pure (PureOp.move rfl (.tmp rfl)) rfl rfl (Nat.le_of_ble_eq_true rfl) ?_
        refine ARun.pure (PureOp.not rfl (.tmp rfl)) rfl rfl (Nat.le_of_ble_eq_true rfl) ?_
        refine ARun.pure (PureOp.move rfl (.tmp rfl)) rfl rfl (Nat.le_of_ble_eq_true rfl) ?_
        refine ARun.gpure (want := false) (.tf rfl) (fun hg17 => PureOp.move rfl (.tmp rfl)) rfl rfl (Nat.le_of_ble_eq_true rfl) rfl (Nat.le_of_ble_eq_true rfl) ?_
        refine ARun.gpure (want := false) (.tf rfl) (fun hg18 => PureOp.not rfl (.gtmp rfl hg18)) rfl rfl (Nat.le_of_ble_eq_true rfl) rfl (Nat.le_of_ble_eq_true rfl) ?_
        refine ARun.pure (PureOp.pick rfl (.tmp rfl) (fun _ => .bool) (fun hp20 => .gtmp rfl (not_of hp20))) rfl rfl (Nat.le_of_ble_eq_true rfl) ?_
        refine ARun.pure (PureOp.move rfl (.tmp rfl)) rfl rfl (Nat.le_of_ble_eq_true rfl) ?_
        refine ARun.gpure (want := false) (.tf rfl) (fun hg21 => PureOp.move rfl (.tmp rfl)) rfl rfl (Nat.le_of_ble_eq_true rfl) rfl (Nat.le_of_ble_eq_true rfl) ?_
        refine ARun.gpure (want := false) (.tf rfl) (fun hg22 => PureOp.move rfl (.gtmp rfl hg22)) rfl rfl (Nat.le_of_ble_eq_true rfl) rfl (Nat.le_of_ble_eq_true rfl) ?_
        refine ARun.gpure (want := true) (.gt rfl) (fun hg23 => PureOp.move rfl (.tmp rfl)) rfl rfl (Nat.le_of_ble_eq_true rfl) rfl (Nat.le_of_ble_eq_true rfl) ?_
        refine ARun.gpure (want := true) (.gt rfl) (fun hg24 => PureOp.move rfl (.tmp rfl)) rfl rfl (Nat.le_of_ble_eq_true rfl) rfl (Nat.le_of_ble_eq_true rfl) ?_
        refine ARun.gpure (want := true) (.gt rfl) (fun hg25 => PureOp.call rfl (v_sameEn (foAns x2.1 x2.2) x2.2 ((foAns x2.1 x2.2).length) x2.2.length (by first | exact Nat.le_refl _ | (have h1_ := foAns_len x2.1 x2.2; have h2_ := foAns_len x2.2 x2.2; omega)) (by first | exact Nat.le_refl _ | (have h1_ := foAns_len x2.1 x2.2; have h2_ := foAns_len x2.2 x2.2; omega)) (by first | exact Nat.le_refl _ | (have h1_ := foAns_len x2.1 x2.2; have h2_ := foAns_len x2.2 x2.2; omega)) (by first | exact Nat.le_refl _ | (have h1_ := foAns_len x2.1 x2.2; have h2_ := foAns_len x2.2 x2.2; omega))) ⟨⟨_, (.gtmp rfl hg25), .frs⟩, ⟨_, (.gtmp rfl hg25), .frs⟩, trivial⟩ vlf_ca_34 trivial) rfl rfl (Nat.le_of_ble_eq_true rfl) rfl (Nat.le_of_ble_eq_true rfl) ?_
        refine ARun.gpure (want := true) (.gt rfl) (fun hg26 => PureOp.not rfl (.gtmp rfl hg26)) rfl rfl (Nat.le_of_ble_eq_true rfl) rfl (Nat.le_of_ble_eq_true rfl) ?_
        refine ARun.gpure (want := true) (.gt rfl) (fun hg27 => PureOp.move rfl (.gtmp rfl hg27)) rfl rfl (Nat.le_of_ble_eq_true rfl) rfl (Nat.le_of_ble_eq_true rfl) ?_
        refine ARun.gpure (want := false) (.gf rfl) (fun hg28 => PureOp.move rfl (.tmp rfl)) rfl rfl (Nat.le_of_ble_eq_true rfl) rfl (Nat.le_of_ble_eq_true rfl) ?_
        refine ARun.gpure (want := false) (.gf rfl) (fun hg29 => PureOp.move rfl (.tmp rfl)) rfl rfl (Nat.le_of_ble_eq_true rfl) rfl (Nat.le_of_ble_eq_true rfl) ?_
        refine ARun.gpure (want := false) (.gf rfl) (fun hg30 => PureOp.intOp rfl (.gtmp rfl hg30) (.gtmp rfl hg30) rfl) rfl rfl (Nat.le_of_ble_eq_true rfl) rfl (Nat.le_of_ble_eq_true rfl) ?_
        refine ARun.gpure (want := true) (.gt rfl) (fun hg31 => PureOp.pick rfl (.gtmp rfl hg31) (fun _ => .bool) (fun hp33 => .gtmp rfl (and_mk hg31 (not_of hp33)))) rfl rfl (Nat.le_of_ble_eq_true rfl) rfl (Nat.le_of_ble_eq_true rfl) ?_
        refine ARun.gpure (want := false) (.tf rfl) (fun hg34 => PureOp.pick rfl (.gtmp rfl hg34) (fun hp35 => .gtmp rfl (and_mk hg34 hp35)) (fun _ => .bool)) rfl rfl (Nat.le_of_ble_eq_true rfl) rfl (Nat.le_of_ble_eq_true rfl) ?_
        refine ARun.pure (PureOp.pick rfl (.tmp rfl) (fun _ => .bool) (fun hp38 => .gtmp rfl (not_of hp38))) rfl rfl (Nat.le_of_ble_eq_true rfl) ?_
        refine ARun.nil ?_
        refine AW.cond (.tmp rfl) (fun hb39 => ?_) (fun hb39 => ?_)
        · have _u := True.intro
          refine absurd (show (cond (cond (!(goodEn x2.1 && goodEn x2.2)) true (!(goodEn x2.1 && goodEn x2.2))) true (cond ((goodEn x2.1 && goodEn x2.2) && mlAns x2.1 x2.2) (cond (!(decide ((foAns x2.1 x2.2).take ((foAns x2.1 x2.2).length) = x2.2.take x2.2.length))) true (decide (partInt x2.1 x2.2 < foPl x2.1 x2.2))) false)) = false from ?_) (by rw [hb39]; simp)
          rw [hga, hgb, hfo, hfp, hpi]
          cases hml : mlAns x2.1 x2.2 with
          | false => simp
          | true =>
            obtain ⟨m1, m2⟩ := hM hml
            have m3 : ¬ ((preE x2.1 x2.2 : Int) < (foAt x2.1 x2.2 : Int)) := by omega
            rw [m1, decide_eq_false m3]; simp
          --end
        · have _u := True.intro
          have _h := hb39
          refine AW.skip ?_
          refine AW.seq ?_
          refine AW.region ?_
          refine ARun.pure (PureOp.move rfl (.tmp rfl)) rfl rfl (Nat.le_of_ble_eq_true rfl) ?_
          refine ARun.pure (PureOp.move rfl (.tmp rfl)) rfl rfl (Nat.le_of_ble_eq_true rfl) ?_
          refine ARun.fresh (FreshOp.callS rfl (v_iFollow x2.2 x2.2 hb2 hb2) ⟨⟨_, (.tmp rfl), .frs⟩, ⟨_, (.tmp rfl), .frs⟩, trivial⟩ vlf_ca_25 rfl) rfl rfl (Nat.le_of_ble_eq_true rfl) ?_
          refine ARun.pure (PureOp.move rfl (.tmp rfl)) rfl rfl (Nat.le_of_ble_eq_true rfl) ?_
          refine ARun.pure (PureOp.ext3a rfl (.tmp rfl)) rfl rfl (Nat.le_of_ble_eq_true rfl) ?_
          refine ARun.pure (PureOp.ext3b rfl (.tmp rfl)) rfl rfl (Nat.le_of_ble_eq_true rfl) ?_
          refine ARun.pure (PureOp.ext3c rfl (.tmp rfl)) rfl rfl (Nat.le_of_ble_eq_true rfl) ?_
          refine ARun.pure (PureOp.assign rfl (.tmp rfl)) rfl rfl (Nat.le_of_ble_eq_true rfl) ?_
          refine ARun.pure (PureOp.assign rfl (.tmp rfl)) rfl rfl (Nat.le_of_ble_eq_true rfl) ?_
          refine ARun.pure (PureOp.assign rfl (.tmp rfl)) rfl rfl (Nat.le_of_ble_eq_true rfl) ?_
          refine ARun.nil ?_
          refine AW.seq ?_
          refine AW.region ?_
          refine ARun.pure (PureOp.move rfl (.tmp rfl)) rfl rfl (Nat.le_of_ble_eq_true rfl) ?_
          refine ARun.pure (PureOp.not rfl (.tmp rfl)) rfl rfl (Nat.le_of_ble_eq_true rfl) ?_
          refine ARun.pure (PureOp.move rfl (.tmp rfl)) rfl rfl (Nat.le_of_ble_eq_true rfl) ?_
          refine ARun.gpure (want := false) (.tf rfl) (fun hg40 => PureOp.move rfl (.tmp rfl)) rfl rfl (Nat.le_of_ble_eq_true rfl) rfl (Nat.le_of_ble_eq_true rfl) ?_
          refine ARun.gpure (want := false) (.tf rfl) (fun hg41 => PureOp.move rfl (.tmp rfl)) rfl rfl (Nat.le_of_ble_eq_true rfl) rfl (Nat.le_of_ble_eq_true rfl) ?_
          refine ARun.gpure (want := false) (.tf rfl) (fun hg42 => PureOp.call rfl (v_sameEn (foAns x2.2 x2.2) x2.2 ((foAns x2.2 x2.2).length) x2.2.length (by first | exact Nat.le_refl _ | (have h1_ := foAns_len x2.1 x2.2; have h2_ := foAns_len x2.2 x2.2; omega)) (by first | exact Nat.le_refl _ | (have h1_ := foAns_len x2.1 x2.2; have h2_ := foAns_len x2.2 x2.2; omega)) (by first | exact Nat.le_refl _ | (have h1_ := foAns_len x2.1 x2.2; have h2_ := foAns_len x2.2 x2.2; omega)) (by first | exact Nat.le_refl _ | (have h1_ := foAns_len x2.1 x2.2; have h2_ := foAns_len x2.2 x2.2; omega))) ⟨⟨_, (.gtmp rfl hg42), .frs⟩, ⟨_, (.gtmp rfl hg42), .frs⟩, trivial⟩ vlf_ca_34 trivial) rfl rfl (Nat.le_of_ble_eq_true rfl) rfl (Nat.le_of_ble_eq_true rfl) ?_
          refine ARun.gpure (want := false) (.tf rfl) (fun hg43 => PureOp.not rfl (.gtmp rfl hg43)) rfl rfl (Nat.le_of_ble_eq_true rfl) rfl (Nat.le_of_ble_eq_true rfl) ?_
          refine ARun.pure (PureOp.pick rfl (.tmp rfl) (fun _ => .bool) (fun hp45 => .gtmp rfl (not_of hp45))) rfl rfl (Nat.le_of_ble_eq_true rfl) ?_
          refine ARun.pure (PureOp.move rfl (.tmp rfl)) rfl rfl (Nat.le_of_ble_eq_true rfl) ?_
          refine ARun.gpure (want := false) (.tf rfl) (fun hg46 => PureOp.move rfl (.tmp rfl)) rfl rfl (Nat.le_of_ble_eq_true rfl) rfl (Nat.le_of_ble_eq_true rfl) ?_
          refine ARun.gpure (want := false) (.tf rfl) (fun hg47 => PureOp.move rfl (.tmp rfl)) rfl rfl (Nat.le_of_ble_eq_true rfl) rfl (Nat.le_of_ble_eq_true rfl) ?_
          refine ARun.gpure (want := false) (.tf rfl) (fun hg48 => PureOp.lenLst rfl (.frs (.gtmp rfl hg48)) vlf_sl_26) rfl rfl (Nat.le_of_ble_eq_true rfl) rfl (Nat.le_of_ble_eq_true rfl) ?_
          refine ARun.gpure (want := false) (.tf rfl) (fun hg49 => PureOp.intOp rfl (.gtmp rfl hg49) (.gtmp rfl hg49) rfl) rfl rfl (Nat.le_of_ble_eq_true rfl) rfl (Nat.le_of_ble_eq_true rfl) ?_
          refine ARun.pure (PureOp.pick rfl (.tmp rfl) (fun _ => .bool) (fun hp51 => .gtmp rfl (not_of hp51))) rfl rfl (Nat.le_of_ble_eq_true rfl) ?_
          refine ARun.nil ?_
          refine AW.cond (.tmp rfl) (fun hb52 => ?_) (fun hb52 => ?_)
          · have _u := True.intro
            exact absurd (show (cond (cond (!(goodEn x2.2 && goodEn x2.2)) true (!(decide ((foAns x2.2 x2.2).take ((foAns x2.2 x2.2).length) = x2.2.take x2.2.length)))) true (!decide (foPl x2.2 x2.2 = (x2.2.length : Int)))) = false by rw [hfo2, hfp2, hgb]; simp) (by rw [hb52]; simp)
            --end
          · have _u := True.intro
            have _h := hb52
            refine AW.skip ?_
            refine AW.seq ?_
            refine AW.region ?_
            refine ARun.pure (PureOp.move rfl (.tmp rfl)) rfl rfl (Nat.le_of_ble_eq_true rfl) ?_
            refine ARun.draw rfl (v_DrawFindPart x1.length (fun i => (x1.getD i 0).toNat) (fun i => UInt8.toNat_lt _)) vlf_ca_40 ⟨⟨_, (.tmp rfl), .lst⟩, trivial⟩ rfl rfl (Nat.le_of_ble_eq_true rfl) (fun x53 hd54 => ?_)
            obtain ⟨⟨hx1, hx2⟩, hx5, hx3, hx4⟩ := hd54
            refine ARun.pure (PureOp.move rfl (.tmp rfl)) rfl rfl (Nat.le_of_ble_eq_true rfl) ?_
            refine ARun.pure (PureOp.ext3a rfl (.tmp rfl)) rfl rfl (Nat.le_of_ble_eq_true rfl) ?_
            refine ARun.pure (PureOp.ext3b rfl (.tmp rfl)) rfl rfl (Nat.le_of_ble_eq_true rfl) ?_
            refine ARun.pure (PureOp.ext3c rfl (.tmp rfl)) rfl rfl (Nat.le_of_ble_eq_true rfl) ?_
            refine ARun.pure (PureOp.assign rfl (.tmp rfl)) rfl rfl (Nat.le_of_ble_eq_true rfl) ?_
            refine ARun.pure (PureOp.assign rfl (.tmp rfl)) rfl rfl (Nat.le_of_ble_eq_true rfl) ?_
            refine ARun.pure (PureOp.assign rfl (.tmp rfl)) rfl rfl (Nat.le_of_ble_eq_true rfl) ?_
            refine ARun.nil ?_
            refine AW.seq ?_
            refine AW.region ?_
            refine ARun.pure (PureOp.move rfl (.tmp rfl)) rfl rfl (Nat.le_of_ble_eq_true rfl) ?_
            refine ARun.pure (PureOp.move rfl (.tmp rfl)) rfl rfl (Nat.le_of_ble_eq_true rfl) ?_
            refine ARun.pure (PureOp.move rfl (.tmp rfl)) rfl rfl (Nat.le_of_ble_eq_true rfl) ?_
            refine ARun.pure (PureOp.call rfl (v_iFind x53.1 hx2 x53.2.1 hx5 x53.2.2 ⟨by omega, by omega⟩) ⟨⟨_, (.tmp rfl), .frs⟩, ⟨_, (.tmp rfl), .frs⟩, ⟨_, (.tmp rfl), .int⟩, trivial⟩ vlf_ca_23 ⟨trivial, trivial, trivial⟩) rfl rfl (Nat.le_of_ble_eq_true rfl) ?_
            refine ARun.pure (PureOp.move rfl (.tmp rfl)) rfl rfl (Nat.le_of_ble_eq_true rfl) ?_
            refine ARun.pure (PureOp.ext3a rfl (.tmp rfl)) rfl rfl (Nat.le_of_ble_eq_true rfl) ?_
            refine ARun.pure (PureOp.ext3b rfl (.tmp rfl)) rfl rfl (Nat.le_of_ble_eq_true rfl) ?_
            refine ARun.pure (PureOp.ext3c rfl (.tmp rfl)) rfl rfl (Nat.le_of_ble_eq_true rfl) ?_
            refine ARun.pure (PureOp.assign rfl (.tmp rfl)) rfl rfl (Nat.le_of_ble_eq_true rfl) ?_
            refine ARun.pure (PureOp.assign rfl (.tmp rfl)) rfl rfl (Nat.le_of_ble_eq_true rfl) ?_
            refine ARun.pure (PureOp.assign rfl (.tmp rfl)) rfl rfl (Nat.le_of_ble_eq_true rfl) ?_
            refine ARun.nil ?_
            refine AW.seq ?_
            refine AW.region ?_
            refine ARun.pure (PureOp.move rfl (.tmp rfl)) rfl rfl (Nat.le_of_ble_eq_true rfl) ?_
            refine ARun.pure (PureOp.move rfl (.tmp rfl)) rfl rfl (Nat.le_of_ble_eq_true rfl) ?_
            refine ARun.pure (PureOp.move rfl (.tmp rfl)) rfl rfl (Nat.le_of_ble_eq_true rfl) ?_
            refine ARun.pure (PureOp.call rfl (v_sFind x53.1 hx2 x53.2.1 hx5 x53.2.2 ⟨by omega, by omega⟩) ⟨⟨_, (.tmp rfl), .frs⟩, ⟨_, (.tmp rfl), .frs⟩, ⟨_, (.tmp rfl), .int⟩, trivial⟩ vlf_ca_21 ⟨trivial, trivial, trivial⟩) rfl rfl (Nat.le_of_ble_eq_true rfl) ?_
            refine ARun.pure (PureOp.move rfl (.tmp rfl)) rfl rfl (Nat.le_of_ble_eq_true rfl) ?_
            refine ARun.pure (PureOp.ext3a rfl (.tmp rfl)) rfl rfl (Nat.le_of_ble_eq_true rfl) ?_
            refine ARun.pure (PureOp.ext3b rfl (.tmp rfl)) rfl rfl (Nat.le_of_ble_eq_true rfl) ?_
            refine ARun.pure (PureOp.ext3c rfl (.tmp rfl)) rfl rfl (Nat.le_of_ble_eq_true rfl) ?_
            refine ARun.pure (PureOp.assign rfl (.tmp rfl)) rfl rfl (Nat.le_of_ble_eq_true rfl) ?_
            refine ARun.pure (PureOp.assign rfl (.tmp rfl)) rfl rfl (Nat.le_of_ble_eq_true rfl) ?_
            refine ARun.pure (PureOp.assign rfl (.tmp rfl)) rfl rfl (Nat.le_of_ble_eq_true rfl) ?_
            refine ARun.nil ?_
            refine AW.seq ?_
            refine AW.seq ?_
            refine AW.region ?_
            refine ARun.pure (PureOp.move rfl (.tmp rfl)) rfl rfl (Nat.le_of_ble_eq_true rfl) ?_
            refine ARun.pure (PureOp.move rfl (.tmp rfl)) rfl rfl (Nat.le_of_ble_eq_true rfl) ?_
            refine ARun.pure (PureOp.boolNe rfl (.tmp rfl) (.tmp rfl) vlf_bo_4) rfl rfl (Nat.le_of_ble_eq_true rfl) ?_
            refine ARun.pure (PureOp.move rfl (.tmp rfl)) rfl rfl (Nat.le_of_ble_eq_true rfl) ?_
            refine ARun.gpure (want := false) (.tf rfl) (fun hg55 => PureOp.move rfl (.tmp rfl)) rfl rfl (Nat.le_of_ble_eq_true rfl) rfl (Nat.le_of_ble_eq_true rfl) ?_
            refine ARun.gpure (want := false) (.tf rfl) (fun hg56 => PureOp.move rfl (.tmp rfl)) rfl rfl (Nat.le_of_ble_eq_true rfl) rfl (Nat.le_of_ble_eq_true rfl) ?_
            refine ARun.gpure (want := false) (.tf rfl) (fun hg57 => PureOp.intOp rfl (.gtmp rfl hg57) (.gtmp rfl hg57) rfl) rfl rfl (Nat.le_of_ble_eq_true rfl) rfl (Nat.le_of_ble_eq_true rfl) ?_
            refine ARun.pure (PureOp.pick rfl (.tmp rfl) (fun _ => .bool) (fun hp59 => .gtmp rfl (not_of hp59))) rfl rfl (Nat.le_of_ble_eq_true rfl) ?_
            refine ARun.pure (PureOp.move rfl (.tmp rfl)) rfl rfl (Nat.le_of_ble_eq_true rfl) ?_
            refine ARun.gpure (want := false) (.tf rfl) (fun hg60 => PureOp.move rfl (.tmp rfl)) rfl rfl (Nat.le_of_ble_eq_true rfl) rfl (Nat.le_of_ble_eq_true rfl) ?_
            refine ARun.gpure (want := false) (.tf rfl) (fun hg61 => PureOp.move rfl (.tmp rfl)) rfl rfl (Nat.le_of_ble_eq_true rfl) rfl (Nat.le_of_ble_eq_true rfl) ?_
            refine ARun.gpure (want := false) (.tf rfl) (fun hg62 => PureOp.intOp rfl (.gtmp rfl hg62) (.gtmp rfl hg62) rfl) rfl rfl (Nat.le_of_ble_eq_true rfl) rfl (Nat.le_of_ble_eq_true rfl) ?_
            refine ARun.pure (PureOp.pick rfl (.tmp rfl) (fun _ => .bool) (fun hp64 => .gtmp rfl (not_of hp64))) rfl rfl (Nat.le_of_ble_eq_true rfl) ?_
            refine ARun.nil ?_
            refine AW.cond (.tmp rfl) (fun hb65 => ?_) (fun hb65 => ?_)
            · have _u := True.intro
              exact absurd (show (cond (cond (!((fpOk x53.1 x53.2.1 x53.2.2) == (fpOk x53.1 x53.2.1 x53.2.2))) true (!decide ((fpAns x53.1 x53.2.1 x53.2.2).1 = (fpAns x53.1 x53.2.1 x53.2.2).1))) true (!decide ((fpAns x53.1 x53.2.1 x53.2.2).2 = (fpAns x53.1 x53.2.1 x53.2.2).2))) = false by simp) (by rw [hb65]; simp)
              --end
            · have _u := True.intro
              have _h := hb65
              refine AW.skip ?_
              refine AW.seq ?_
              refine AW.region ?_
              refine ARun.pure (PureOp.move rfl (.tmp rfl)) rfl rfl (Nat.le_of_ble_eq_true rfl) ?_
              refine ARun.pure (PureOp.not rfl (.tmp rfl)) rfl rfl (Nat.le_of_ble_eq_true rfl) ?_
              refine ARun.pure (PureOp.move rfl (.tmp rfl)) rfl rfl (Nat.le_of_ble_eq_true rfl) ?_
              refine ARun.gpure (want := false) (.tf rfl) (fun hg66 => PureOp.move rfl (.tmp rfl)) rfl rfl (Nat.le_of_ble_eq_true rfl) rfl (Nat.le_of_ble_eq_true rfl) ?_
              refine ARun.gpure (want := false) (.tf rfl) (fun hg67 => PureOp.move rfl (.tmp rfl)) rfl rfl (Nat.le_of_ble_eq_true rfl) rfl (Nat.le_of_ble_eq_true rfl) ?_
              refine ARun.gpure (want := false) (.tf rfl) (fun hg68 => PureOp.lenLst rfl (.frs (.gtmp rfl hg68)) vlf_sl_26) rfl rfl (Nat.le_of_ble_eq_true rfl) rfl (Nat.le_of_ble_eq_true rfl) ?_
              refine ARun.gpure (want := false) (.tf rfl) (fun hg69 => PureOp.intOp rfl (.gtmp rfl hg69) (.gtmp rfl hg69) rfl) rfl rfl (Nat.le_of_ble_eq_true rfl) rfl (Nat.le_of_ble_eq_true rfl) ?_
              refine ARun.gpure (want := false) (.tf rfl) (fun hg70 => PureOp.move rfl (.gtmp rfl hg70)) rfl rfl (Nat.le_of_ble_eq_true rfl) rfl (Nat.le_of_ble_eq_true rfl) ?_
              refine ARun.gpure (want := true) (.gt rfl) (fun hg71 => PureOp.move rfl (.tmp rfl)) rfl rfl (Nat.le_of_ble_eq_true rfl) rfl (Nat.le_of_ble_eq_true rfl) ?_
              refine ARun.gpure (want := true) (.gt rfl) (fun hg72 => PureOp.move rfl (.tmp rfl)) rfl rfl (Nat.le_of_ble_eq_true rfl) rfl (Nat.le_of_ble_eq_true rfl) ?_
              refine ARun.gpure (want := true) (.gt rfl) (fun hg73 => PureOp.intOp rfl (.gtmp rfl hg73) (.gtmp rfl hg73) rfl) rfl rfl (Nat.le_of_ble_eq_true rfl) rfl (Nat.le_of_ble_eq_true rfl) ?_
              refine ARun.gpure (want := false) (.tf rfl) (fun hg74 => PureOp.pick rfl (.gtmp rfl hg74) (fun hp75 => .gtmp rfl (and_mk hg74 hp75)) (fun _ => .bool)) rfl rfl (Nat.le_of_ble_eq_true rfl) rfl (Nat.le_of_ble_eq_true rfl) ?_
              refine ARun.pure (PureOp.pick rfl (.tmp rfl) (fun _ => .bool) (fun hp78 => .gtmp rfl (not_of hp78))) rfl rfl (Nat.le_of_ble_eq_true rfl) ?_
              refine ARun.pure (PureOp.assign rfl (.tmp rfl)) rfl rfl (Nat.le_of_ble_eq_true rfl) ?_
              refine ARun.nil ?_
              refine AW.ret (show ResL _ _ [.tmp 4] _ from resB rfl ?_)
              cases hq : fpOk x53.1 x53.2.1 x53.2.2 with
              | false => rfl
              | true =>
                obtain ⟨u1, u2⟩ := fp_bd hq
                rw [decide_eq_true u1, decide_eq_true u2]; rfl
      · have _u := True.intro
        have _h := hb16
        refine AW.skip ?_
        refine AW.seq ?_
        refine AW.region ?_
        refine ARun.pure (PureOp.move rfl (.tmp rfl)) rfl rfl (Nat.le_of_ble_eq_true rfl) ?_
        refine ARun.draw rfl (v_DrawFindPart x1.length (fun i => (x1.getD i 0).toNat) (fun i => UInt8.toNat_lt _)) vlf_ca_40 ⟨⟨_, (.tmp rfl), .lst⟩, trivial⟩ rfl rfl (Nat.le_of_ble_eq_true rfl) (fun x79 hd80 => ?_)
        obtain ⟨⟨hx1, hx2⟩, hx5, hx3, hx4⟩ := hd80
        refine ARun.pure (PureOp.move rfl (.tmp rfl)) rfl rfl (Nat.le_of_ble_eq_true rfl) ?_
        refine ARun.pure (PureOp.ext3a rfl (.tmp rfl)) rfl rfl (Nat.le_of_ble_eq_true rfl) ?_
        refine ARun.pure (PureOp.ext3b rfl (.tmp rfl)) rfl rfl (Nat.le_of_ble_eq_true rfl) ?_
        refine ARun.pure (PureOp.ext3c rfl (.tmp rfl)) rfl rfl (Nat.le_of_ble_eq_true rfl) ?_
        refine ARun.pure (PureOp.assign rfl (.tmp rfl)) rfl rfl (Nat.le_of_ble_eq_true rfl) ?_
        refine ARun.pure (PureOp.assign rfl (.tmp rfl)) rfl rfl (Nat.le_of_ble_eq_true rfl) ?_
        refine ARun.pure (PureOp.assign rfl (.tmp rfl)) rfl rfl (Nat.le_of_ble_eq_true rfl) ?_
        refine ARun.nil ?_
        refine AW.seq ?_
        refine AW.region ?_
        refine ARun.pure (PureOp.move rfl (.tmp rfl)) rfl rfl (Nat.le_of_ble_eq_true rfl) ?_
        refine ARun.pure (PureOp.move rfl (.tmp rfl)) rfl rfl (Nat.le_of_ble_eq_true rfl) ?_
        refine ARun.pure (PureOp.move rfl (.tmp rfl)) rfl rfl (Nat.le_of_ble_eq_true rfl) ?_
        refine ARun.pure (PureOp.call rfl (v_iFind x79.1 hx2 x79.2.1 hx5 x79.2.2 ⟨by omega, by omega⟩) ⟨⟨_, (.tmp rfl), .frs⟩, ⟨_, (.tmp rfl), .frs⟩, ⟨_, (.tmp rfl), .int⟩, trivial⟩ vlf_ca_23 ⟨trivial, trivial, trivial⟩) rfl rfl (Nat.le_of_ble_eq_true rfl) ?_
        refine ARun.pure (PureOp.move rfl (.tmp rfl)) rfl rfl (Nat.le_of_ble_eq_true rfl) ?_
        refine ARun.pure (PureOp.ext3a rfl (.tmp rfl)) rfl rfl (Nat.le_of_ble_eq_true rfl) ?_
        refine ARun.pure (PureOp.ext3b rfl (.tmp rfl)) rfl rfl (Nat.le_of_ble_eq_true rfl) ?_
        refine ARun.pure (PureOp.ext3c rfl (.tmp rfl)) rfl rfl (Nat.le_of_ble_eq_true rfl) ?_
        refine ARun.pure (PureOp.assign rfl (.tmp rfl)) rfl rfl (Nat.le_of_ble_eq_true rfl) ?_
        refine ARun.pure (PureOp.assign rfl (.tmp rfl)) rfl rfl (Nat.le_of_ble_eq_true rfl) ?_
        refine ARun.pure (PureOp.assign rfl (.tmp rfl)) rfl rfl (Nat.le_of_ble_eq_true rfl) ?_
        refine ARun.nil ?_
        refine AW.seq ?_
        refine AW.region ?_
        refine ARun.pure (PureOp.move rfl (.tmp rfl)) rfl rfl (Nat.le_of_ble_eq_true rfl) ?_
        refine ARun.pure (PureOp.move rfl (.tmp rfl)) rfl rfl (Nat.le_of_ble_eq_true rfl) ?_
        refine ARun.pure (PureOp.move rfl (.tmp rfl)) rfl rfl (Nat.le_of_ble_eq_true rfl) ?_
        refine ARun.pure (PureOp.call rfl (v_sFind x79.1 hx2 x79.2.1 hx5 x79.2.2 ⟨by omega, by omega⟩) ⟨⟨_, (.tmp rfl), .frs⟩, ⟨_, (.tmp rfl), .frs⟩, ⟨_, (.tmp rfl), .int⟩, trivial⟩ vlf_ca_21 ⟨trivial, trivial, trivial⟩) rfl rfl (Nat.le_of_ble_eq_true rfl) ?_
        refine ARun.pure (PureOp.move rfl (.tmp rfl)) rfl rfl (Nat.le_of_ble_eq_true rfl) ?_
        refine ARun.pure (PureOp.ext3a rfl (.tmp rfl)) rfl rfl (Nat.le_of_ble_eq_true rfl) ?_
        refine ARun.pure (PureOp.ext3b rfl (.tmp rfl)) rfl rfl (Nat.le_of_ble_eq_true rfl) ?_
        refine ARun.pure (PureOp.ext3c rfl (.tmp rfl)) rfl rfl (Nat.le_of_ble_eq_true rfl) ?_
        refine ARun.pure (PureOp.assign rfl (.tmp rfl)) rfl rfl (Nat.le_of_ble_eq_true rfl) ?_
        refine ARun.pure (PureOp.assign rfl (.tmp rfl)) rfl rfl (Nat.le_of_ble_eq_true rfl) ?_
        refine ARun.pure (PureOp.assign rfl (.tmp rfl)) rfl rfl (Nat.le_of_ble_eq_true rfl) ?_
        refine ARun.nil ?_
        refine AW.seq ?_
        refine AW.seq ?_
        refine AW.region ?_
        refine ARun.pure (PureOp.move rfl (.tmp rfl)) rfl rfl (Nat.le_of_ble_eq_true rfl) ?_
        refine ARun.pure (PureOp.move rfl (.tmp rfl)) rfl rfl (Nat.le_of_ble_eq_true rfl) ?_
        refine ARun.pure (PureOp.boolNe rfl (.tmp rfl) (.tmp rfl) vlf_bo_4) rfl rfl (Nat.le_of_ble_eq_true rfl) ?_
        refine ARun.pure (PureOp.move rfl (.tmp rfl)) rfl rfl (Nat.le_of_ble_eq_true rfl) ?_
        refine ARun.gpure (want := false) (.tf rfl) (fun hg81 => PureOp.move rfl (.tmp rfl)) rfl rfl (Nat.le_of_ble_eq_true rfl) rfl (Nat.le_of_ble_eq_true rfl) ?_
        refine ARun.gpure (want := false) (.tf rfl) (fun hg82 => PureOp.move rfl (.tmp rfl)) rfl rfl (Nat.le_of_ble_eq_true rfl) rfl (Nat.le_of_ble_eq_true rfl) ?_
        refine ARun.gpure (want := false) (.tf rfl) (fun hg83 => PureOp.intOp rfl (.gtmp rfl hg83) (.gtmp rfl hg83) rfl) rfl rfl (Nat.le_of_ble_eq_true rfl) rfl (Nat.le_of_ble_eq_true rfl) ?_
        refine ARun.pure (PureOp.pick rfl (.tmp rfl) (fun _ => .bool) (fun hp85 => .gtmp rfl (not_of hp85))) rfl rfl (Nat.le_of_ble_eq_true rfl) ?_
        refine ARun.pure (PureOp.move rfl (.tmp rfl)) rfl rfl (Nat.le_of_ble_eq_true rfl) ?_
        refine ARun.gpure (want := false) (.tf rfl) (fun hg86 => PureOp.move rfl (.tmp rfl)) rfl rfl (Nat.le_of_ble_eq_true rfl) rfl (Nat.le_of_ble_eq_true rfl) ?_
        refine ARun.gpure (want := false) (.tf rfl) (fun hg87 => PureOp.move rfl (.tmp rfl)) rfl rfl (Nat.le_of_ble_eq_true rfl) rfl (Nat.le_of_ble_eq_true rfl) ?_
        refine ARun.gpure (want := false) (.tf rfl) (fun hg88 => PureOp.intOp rfl (.gtmp rfl hg88) (.gtmp rfl hg88) rfl) rfl rfl (Nat.le_of_ble_eq_true rfl) rfl (Nat.le_of_ble_eq_true rfl) ?_
        refine ARun.pure (PureOp.pick rfl (.tmp rfl) (fun _ => .bool) (fun hp90 => .gtmp rfl (not_of hp90))) rfl rfl (Nat.le_of_ble_eq_true rfl) ?_
        refine ARun.nil ?_
        refine AW.cond (.tmp rfl) (fun hb91 => ?_) (fun hb91 => ?_)
        · have _u := True.intro
          exact absurd (show (cond (cond (!((fpOk x79.1 x79.2.1 x79.2.2) == (fpOk x79.1 x79.2.1 x79.2.2))) true (!decide ((fpAns x79.1 x79.2.1 x79.2.2).1 = (fpAns x79.1 x79.2.1 x79.2.2).1))) true (!decide ((fpAns x79.1 x79.2.1 x79.2.2).2 = (fpAns x79.1 x79.2.1 x79.2.2).2))) = false by simp) (by rw [hb91]; simp)
          --end
        · have _u := True.intro
          have _h := hb91
          refine AW.skip ?_
          refine AW.seq ?_
          refine AW.region ?_
          refine ARun.pure (PureOp.move rfl (.tmp rfl)) rfl rfl (Nat.le_of_ble_eq_true rfl) ?_
          refine ARun.pure (PureOp.not rfl (.tmp rfl)) rfl rfl (Nat.le_of_ble_eq_true rfl) ?_
          refine ARun.pure (PureOp.move rfl (.tmp rfl)) rfl rfl (Nat.le_of_ble_eq_true rfl) ?_
          refine ARun.gpure (want := false) (.tf rfl) (fun hg92 => PureOp.move rfl (.tmp rfl)) rfl rfl (Nat.le_of_ble_eq_true rfl) rfl (Nat.le_of_ble_eq_true rfl) ?_
          refine ARun.gpure (want := false) (.tf rfl) (fun hg93 => PureOp.move rfl (.tmp rfl)) rfl rfl (Nat.le_of_ble_eq_true rfl) rfl (Nat.le_of_ble_eq_true rfl) ?_
          refine ARun.gpure (want := false) (.tf rfl) (fun hg94 => PureOp.lenLst rfl (.frs (.gtmp rfl hg94)) vlf_sl_26) rfl rfl (Nat.le_of_ble_eq_true rfl) rfl (Nat.le_of_ble_eq_true rfl) ?_
          refine ARun.gpure (want := false) (.tf rfl) (fun hg95 => PureOp.intOp rfl (.gtmp rfl hg95) (.gtmp rfl hg95) rfl) rfl rfl (Nat.le_of_ble_eq_true rfl) rfl (Nat.le_of_ble_eq_true rfl) ?_
          refine ARun.gpure (want := false) (.tf rfl) (fun hg96 => PureOp.move rfl (.gtmp rfl hg96)) rfl rfl (Nat.le_of_ble_eq_true rfl) rfl (Nat.le_of_ble_eq_true rfl) ?_
          refine ARun.gpure (want := true) (.gt rfl) (fun hg97 => PureOp.move rfl (.tmp rfl)) rfl rfl (Nat.le_of_ble_eq_true rfl) rfl (Nat.le_of_ble_eq_true rfl) ?_
          refine ARun.gpure (want := true) (.gt rfl) (fun hg98 => PureOp.move rfl (.tmp rfl)) rfl rfl (Nat.le_of_ble_eq_true rfl) rfl (Nat.le_of_ble_eq_true rfl) ?_
          refine ARun.gpure (want := true) (.gt rfl) (fun hg99 => PureOp.intOp rfl (.gtmp rfl hg99) (.gtmp rfl hg99) rfl) rfl rfl (Nat.le_of_ble_eq_true rfl) rfl (Nat.le_of_ble_eq_true rfl) ?_
          refine ARun.gpure (want := false) (.tf rfl) (fun hg100 => PureOp.pick rfl (.gtmp rfl hg100) (fun hp101 => .gtmp rfl (and_mk hg100 hp101)) (fun _ => .bool)) rfl rfl (Nat.le_of_ble_eq_true rfl) rfl (Nat.le_of_ble_eq_true rfl) ?_
          refine ARun.pure (PureOp.pick rfl (.tmp rfl) (fun _ => .bool) (fun hp104 => .gtmp rfl (not_of hp104))) rfl rfl (Nat.le_of_ble_eq_true rfl) ?_
          refine ARun.pure (PureOp.assign rfl (.tmp rfl)) rfl rfl (Nat.le_of_ble_eq_true rfl) ?_
          refine ARun.nil ?_
          refine AW.ret (show ResL _ _ [.tmp 4] _ from resB rfl ?_)
          cases hq : fpOk x79.1 x79.2.1 x79.2.2 with
          | false => rfl
          | true =>
            obtain ⟨u1, u2⟩ := fp_bd hq
            rw [decide_eq_true u1, decide_eq_true u2]; rfl

set_option maxRecDepth 100000 in
theorem lifted_Follow (os : Os) (started : os.Started) (H : Type) (enc : TypeId × Value → H) :
    ReturnsInHanded {} Try.checked os 8 .any (Rows.fnFollowSpec.pre6 enc Try.prog Try.f8 Rows.fnFollowRow.domain false) (Rows.fnFollowSpec.post enc Try.prog Try.f8 false true false false) := by
  refine returnsInHanded_of_change (C := Try.checked) own started (by kernel_rfl) Try.func8
    (ChangeSpec.witness6 (enc := enc) (C := Try.checked) false ⟨#[], #[.slice none 0 0, .slice none 0 0], []⟩ 8 (by kernel_rfl) (by kernel_rfl) (by kernel_rfl) (by kernel_rfl)) ?_
  intro W base args ds gs before hval0 hW hcnd _
  have hval : ∀ (j : Nat) t v, Try.f8.params[j]? = some t → args[j]? = some v → Value.okWide Try.prog W .any base t v := hval0
  have hW' := hW
  obtain ⟨p, q, hA0, hV, rfl, hfz, hnd⟩ := hW
  have hA : DataW.TrodAll enc Try.prog W 0 (fun _ => true) true Try.f8.params.toList args.toList ds p := hA0
  rw [Try.params8] at hA hval
  obtain ⟨v0, vs0, d0, ds0, p0, q0, hargs, rfl, rfl, h0, r0⟩ := trodAll_cons hA
  obtain ⟨v1, vs1, d1, ds1, p1, q1, rfl, rfl, rfl, h1, r1⟩ := trodAll_cons r0
  obtain ⟨rfl, rfl, rfl⟩ := trodAll_nil r1
  obtain rfl : args = #[v0, v1] := by cases args; simp_all
  obtain ⟨rfl, rfl⟩ := trodVars_none hV
  obtain ⟨x0, R0⟩ := OpensC.arg opensC_45 h0
  have E0 : DS W (· < W.heap.size) (.one (.lst 1 x0.length (fun i0 _ => .int .u8 (((x0.getD i0 0).toNat : Nat) : Int)))) v0 := DS.one_of (by obtain ⟨a, n, c, rfl⟩ := okWide_slice Try.underlying45 (hval 0 45 v0 rfl rfl); rfl) R0
  obtain ⟨x1, R1⟩ := OpensC.arg opensC_45 h1
  have E1 : DS W (· < W.heap.size) (.one (.lst 1 x1.length (fun i0 _ => .int .u8 (((x1.getD i0 0).toNat : Nat) : Int)))) v1 := DS.one_of (by obtain ⟨a, n, c, rfl⟩ := okWide_slice Try.underlying45 (hval 1 45 v1 rfl rfl); rfl) R1
  clear hA0 hval0
  refine (law_Follow x0 x1 W (· < W.heap.size) _ ⟨fun _ h => h, trivial⟩ ⟨_, _, rfl, E0, ⟨_, _, rfl, E1, rfl⟩⟩).mono fun e W' ⟨he, hg⟩ => ?_
  subst he
  exact ⟨_, rfl, law_post hW' rfl laidOut (by kernel_rfl) hg rfl rfl Try.underlying4⟩
/-- The statement. -/
theorem proved_Follow : Rows.FnFollowSaid :=
  OpenClaim.holds_of_wide 8 Try.f8 rfl rfl rfl rfl rfl rfl rfl ⟨rfl, rfl, rfl, rfl, rfl⟩ rfl rfl rfl rfl rfl (by kernel_rfl) Try.func8 (by kernel_rfl)
    (of_decide_eq_true (by kernel_rfl)) (by unfold Func.isWrapper; first | (rw [if_pos (by decide +kernel)]; kernel_rfl) | (rw [if_neg (by decide +kernel)]; exact ⟨rfl, rfl⟩))
    (fun os started H enc _ => lifted_Follow os started H enc)
#print axioms proved_Follow
end Go.Proofs.Ytgcliipdkoefaaa
