/-
  Contract: StampsOf of the reference.
-/
import Derived.Test.YtmkhahiefdcinaaStM
import Derived.Test.YtmkhahiefdcinaaApp
namespace Go.Proofs.Ytmkhahiefdcinaa
open Go.ChangeShapes Go.WideShapes Go.ChangeAt Go.RowKit Go.BigFrame
set_option linter.unusedVariables false

set_option maxHeartbeats 4000000

theorem spec_StampsOf_any (nodes : Int) (hnodes : I64 nodes) (l : List P2) (w : World) (S : Nat → Prop) (hS : ∀ b, S b → b < w.heap.size) (A : Option Addr) (n c : Nat) (hl0 : RepL w S l A n c) :
    Calls Try.prog 15 #[.int .i64 nodes, .slice A n c] w fun x w' => ∃ A2 m c2, x = .returned (.tuple #[.slice A2 m c2, .bool (goodEv nodes l)]) ∧ m ≤ 40 ∧ Made w w' 3 (stOf nodes l) A2 m c2 ∧ Below w.heap.size w w' := by
  have hbd := hl0.bd
  obtain ⟨hn, -⟩ := id hl0
  obtain ⟨r0, hr0⟩ : ∃ r, goodEv nodes l = r := ⟨_, rfl⟩
  have Hn := Lib.hid hn
  have R0 := Lib.hid hr0
  clear hn hr0
  cases r0 with
  | false =>
    have Hf := Lib.hid (show stOf nodes l = [] by unfold stOf; rw [R0.out]; rfl)
    go_enter Try.func15, Try.ntmps15
    go_wp2_with fail
    refine (spec_GoodEvents_any nodes hnodes l w S hS A n c hl0).mono ?_
    rintro e w1 ⟨rfl, b1⟩
    rw [R0.out]
    go_wp2_with fail
    go_ret2
    exact ⟨none, 0, 0, by rw [R0.out]; rfl, by omega, by rw [Hf.out]; exact Made.nil_ _ _ _, b1⟩
  | true =>
    obtain ⟨i0, hi, hz0, hz1, hz2⟩ := info_parts infoInt
    have Hf := Lib.hid (show stOf nodes l = stTo l l.length by unfold stOf; rw [R0.out]; rfl)
    obtain ⟨hg1, hg2, hg3, hg4⟩ := goodEv_get R0.out
    obtain ⟨N, rfl⟩ := Int.eq_ofNat_of_zero_le (show 0 ≤ nodes by omega)
    have Hev := Lib.hid hg4
    have hN1 : 1 ≤ N := by omega
    have hN2 : N ≤ 5 := by omega
    have hn40 : n ≤ 40 := by have := Hn.out; omega
    clear hg4
    go_enter Try.func15, Try.ntmps15
    go_wp2_with fail
    refine (spec_GoodEvents_any (N : Int) hnodes l w S hS A n c hl0).mono ?_
    rintro e w1 ⟨rfl, b1⟩
    rw [R0.out]
    go_wp2_with fail
    go_loopw [6, 17] (fun o i wr => ∃ (k : Nat), k ≤ n ∧ i = .int .i64 k ∧ wr.ownsRow w.heap.size 3 1 o k (encs (stTo l k)) ∧ Below w.heap.size w wr) (fun _ i _ => n - (intOf i).toNat)
    case atStart => exact ⟨0, Nat.zero_le _, rfl, World.ownsRow_nil _ _ _ _, b1⟩
    case round =>
      obtain ⟨k, hk, rfl, hout, hbel⟩ := hrel
      obtain ⟨A2, c2, rfl⟩ := own_slice hout
      by_cases hlt : k < n
      · have hl1' : k < l.length := by have := Hn.out; omega
        obtain ⟨b, off, xs, rfl, hSb, hc, rfl, hi1, hi2⟩ := hl0.at_ hl1'
        have hc0 := hc 0 _ rfl
        have hc1 := hc 1 _ rfl
        clear hc
        generalize hek : l[k] = ek at hc0 hc1 hi1 hi2
        obtain ⟨x, y⟩ := ek
        have hek' : l[k]? = some ⟨x, y⟩ := by rw [List.getElem?_eq_getElem hl1', hek]
        obtain ⟨hx1, hx2, hy1, hy2, hy3⟩ := Hev.out k hl1' _ hek'
        obtain ⟨j, rfl⟩ := Int.eq_ofNat_of_zero_le hx1
        have Hek := Lib.hid hek'
        have hc0' : wr.cell? ⟨b, off + k * 2, none⟩ = some (.int .i64 j) := (hbel.cell (hS _ hSb)).trans hc0
        have hc1' : wr.cell? ⟨b, off + k * 2 + 1, none⟩ = some (.int .i64 y) := (hbel.cell (hS _ hSb)).trans hc1
        have hbW := hbel.alloc hbel.size (.cells #[.int .i64 j, .int .i64 y] 64)
        have hoW := hout.alloc (.cells #[.int .i64 j, .int .i64 y] 64)
        have Hbd := Lib.hid (stTo_bd l k)
        have Hy2 := Lib.hid (show y ≤ (k : Int) - 1 from hy2)
        have hk0 : (0 : Int) ≤ (k : Int) := by omega
        clear hc0 hc1 hi1 hi2 hek hek' hx1 hx2 hy1 hy2 hy3
        go_wp2_with fail
        refine (l11Prior_any l k j y Hek.out _ S (fun x hx => by have := hS x hx; have := hbel.size; simp; omega) (some ⟨b, off, none⟩) n c (hl0.keep (fun p hp => hbW.cell (hS _ hp)))).mono ?_
        rintro e w2 ⟨rfl, b2⟩
        have B2 := bnext hbW b2
        have hs2 := b2.size
        simp at hs2
        have x0 := b2.cell (p := ⟨wr.heap.size, 0, none⟩) (by simp)
        have x1 := b2.cell (p := ⟨wr.heap.size, 1, none⟩) (by simp)
        simp at x0 x1
        have hout2 := own_below hoW b2
        have HU := Lib.hid hout2
        have hlb := lastAt_bd l k (j : Int)
        have hsw := B2.size
        clear hoW hout hbW
        by_cases hP : 0 ≤ lastAt l k (j : Int)
        · obtain ⟨p, hp⟩ := Int.eq_ofNat_of_zero_le hP
          have hpk : p < k := by omega
          obtain ⟨g, rfl⟩ : ∃ g, A2 = some ⟨g, 0, none⟩ := by
            rcases hout2.2 with ⟨_, e⟩ | ⟨g, cap, cur, e, _⟩
            · omega
            · simp only [Value.slice.injEq] at e
              exact ⟨g, e.1⟩
          have dP : decide ((0 : Int) ≤ (p : Int)) = true := decide_eq_true (by omega)
          have hpI : (p : Int) < (k : Int) := by omega
          have hp0 : (0 : Int) ≤ (p : Int) := by omega
          obtain ⟨vp, hvp⟩ : ∃ v, (stTo l k)[p]'(by rw [stTo_len]; exact hpk) = v := ⟨_, rfl⟩
          have f1 : w2.cell? ⟨g, p, none⟩ = some (.int .i64 vp) := by rw [hout2.cellAt p (by omega)]; exact getI _ _ _ (by rw [List.getElem?_eq_getElem (by rw [stTo_len]; exact hpk), hvp])
          have hvpb := Hbd.out vp (by rw [← hvp]; exact List.getElem_mem _)
          have Hvp := Lib.hid (show pick (stTo l k) (lastAt l k (j : Int)) = vp by rw [hp, pick_nat _ _ (by rw [stTo_len]; exact hpk), hvp])
          rw [hp]
          clear hvp hp hP hlb
          by_cases hC : 0 ≤ y
          · obtain ⟨f, rfl⟩ := Int.eq_ofNat_of_zero_le hC
            have hfk : f < k := by have := Hy2.out; omega
            have hfI : (f : Int) < (k : Int) := by omega
            have hf0 : (0 : Int) ≤ (f : Int) := by omega
            have dC : decide ((0 : Int) ≤ (f : Int)) = true := decide_eq_true hf0
            obtain ⟨vf, hvf⟩ : ∃ v, (stTo l k)[f]'(by rw [stTo_len]; exact hfk) = v := ⟨_, rfl⟩
            have f2 : w2.cell? ⟨g, f, none⟩ = some (.int .i64 vf) := by rw [hout2.cellAt f (by omega)]; exact getI _ _ _ (by rw [List.getElem?_eq_getElem (by rw [stTo_len]; exact hfk), hvf])
            have hvb := Hbd.out vf (by rw [← hvf]; exact List.getElem_mem _)
            have Hvf := Lib.hid (show pick (stTo l k) (f : Int) = vf by rw [pick_nat _ _ (by rw [stTo_len]; exact hfk), hvf])
            clear hvf
            by_cases hD : vp < vf
            · have dD : decide (vp < vf) = true := decide_eq_true hD
              have hww : IntKind.i64.wrap (vf + 1) = vf + 1 := by rw [IntKind.wrap_i64]; omega
              have Ha := Lib.hid (show stTo l (k + 1) = stTo l k ++ [vf + 1] by rw [stTo_succ Hek.out]; show _ ++ [stV l k (stTo l k) ⟨(j : Int), (f : Int)⟩] = _; unfold stV; rw [if_pos (show (0 : Int) ≤ (f : Int) from hf0)]; show _ ++ [max (pick (stTo l k) (lastAt l k (j : Int))) (pick (stTo l k) (f : Int)) + 1] = _; rw [Hvp.out, Hvf.out, Int.max_eq_right (by omega)])
              go_wp2_with (at_builtin; refine wpList_append_own _ rfl (.tmp 48) (.tmp 51) _ rfl w.heap.size 3 i0 (.int .i64 0) 1 8 Try.underlying30 hi hz0 hz1 hz2 rfl (by decide) _ _ _ rfl (HU.out.alloc _) ⟨w2.heap.size, 0, none⟩ 1 1 [.int .i64 (vf + 1)] rfl rfl (news_one rfl) (by intro u' hu'; simp at hu'; subst hu'; rfl) (by unfold maxLen; omega) (by omega) (by simp; omega) ?_; intro v1 w3 hown1 hg1 hat1)
              go_roundw
              case rel =>
                refine ⟨k + 1, by omega, by go_num, by rw [Ha.out, encs_append]; exact hown1, ?_⟩
                exact own_base (HU.out.alloc _) (B2.alloc B2.size _) (Nat.le_refl _) hg1 (by simp; omega)
              case measure => simp [intOf]; omega
            · have dD : decide (vp < vf) = false := decide_eq_false hD
              have hww : IntKind.i64.wrap (vp + 1) = vp + 1 := by rw [IntKind.wrap_i64]; omega
              have Ha := Lib.hid (show stTo l (k + 1) = stTo l k ++ [vp + 1] by rw [stTo_succ Hek.out]; show _ ++ [stV l k (stTo l k) ⟨(j : Int), (f : Int)⟩] = _; unfold stV; rw [if_pos (show (0 : Int) ≤ (f : Int) from hf0)]; show _ ++ [max (pick (stTo l k) (lastAt l k (j : Int))) (pick (stTo l k) (f : Int)) + 1] = _; rw [Hvp.out, Hvf.out, Int.max_eq_left (by omega)])
              go_wp2_with (at_builtin; refine wpList_append_own _ rfl (.tmp 48) (.tmp 51) _ rfl w.heap.size 3 i0 (.int .i64 0) 1 8 Try.underlying30 hi hz0 hz1 hz2 rfl (by decide) _ _ _ rfl (HU.out.alloc _) ⟨w2.heap.size, 0, none⟩ 1 1 [.int .i64 (vp + 1)] rfl rfl (news_one rfl) (by intro u' hu'; simp at hu'; subst hu'; rfl) (by unfold maxLen; omega) (by omega) (by simp; omega) ?_; intro v1 w3 hown1 hg1 hat1)
              go_roundw
              case rel =>
                refine ⟨k + 1, by omega, by go_num, by rw [Ha.out, encs_append]; exact hown1, ?_⟩
                exact own_base (HU.out.alloc _) (B2.alloc B2.size _) (Nat.le_refl _) hg1 (by simp; omega)
              case measure => simp [intOf]; omega
          · have dC : decide (0 ≤ y) = false := decide_eq_false hC
            have hww : IntKind.i64.wrap (vp + 1) = vp + 1 := by rw [IntKind.wrap_i64]; omega
            have Ha := Lib.hid (show stTo l (k + 1) = stTo l k ++ [vp + 1] by rw [stTo_succ Hek.out]; show _ ++ [stV l k (stTo l k) ⟨(j : Int), y⟩] = _; unfold stV; rw [if_neg (show ¬ (0 : Int) ≤ y from hC)]; show _ ++ [pick (stTo l k) (lastAt l k (j : Int)) + 1] = _; rw [Hvp.out])
            go_wp2_with (at_builtin; refine wpList_append_own _ rfl (.tmp 48) (.tmp 51) _ rfl w.heap.size 3 i0 (.int .i64 0) 1 8 Try.underlying30 hi hz0 hz1 hz2 rfl (by decide) _ _ _ rfl (HU.out.alloc _) ⟨w2.heap.size, 0, none⟩ 1 1 [.int .i64 (vp + 1)] rfl rfl (news_one rfl) (by intro u' hu'; simp at hu'; subst hu'; rfl) (by unfold maxLen; omega) (by omega) (by simp; omega) ?_; intro v1 w3 hown1 hg1 hat1)
            go_roundw
            case rel =>
              refine ⟨k + 1, by omega, by go_num, by rw [Ha.out, encs_append]; exact hown1, ?_⟩
              exact own_base (HU.out.alloc _) (B2.alloc B2.size _) (Nat.le_refl _) hg1 (by simp; omega)
            case measure => simp [intOf]; omega
        · have dP : decide ((0 : Int) ≤ lastAt l k (j : Int)) = false := decide_eq_false hP
          have Hvp := Lib.hid (pick_neg (stTo l k) hP)
          obtain ⟨la, hla⟩ : ∃ v, lastAt l k (j : Int) = v := ⟨_, rfl⟩
          rw [hla] at dP
          rw [hla]
          clear hP hlb hla
          by_cases hk00 : k = 0
          · have hC : ¬ 0 ≤ y := by have := Hy2.out; omega
            have Hk00 := Lib.hid hk00
            clear hk00
            have dC : decide (0 ≤ y) = false := decide_eq_false hC
            have hww : IntKind.i64.wrap (0 + 1) = 1 := by rw [IntKind.wrap_i64]; omega
            have Ha := Lib.hid (show stTo l (k + 1) = stTo l k ++ [1] by rw [stTo_succ Hek.out]; show _ ++ [stV l k (stTo l k) ⟨(j : Int), y⟩] = _; unfold stV; rw [if_neg (show ¬ (0 : Int) ≤ y from hC)]; show _ ++ [pick (stTo l k) (lastAt l k (j : Int)) + 1] = _; rw [Hvp.out]; rfl)
            go_wp2_with (at_builtin; refine wpList_append_own _ rfl (.tmp 48) (.tmp 51) _ rfl w.heap.size 3 i0 (.int .i64 0) 1 8 Try.underlying30 hi hz0 hz1 hz2 rfl (by decide) _ _ _ rfl (HU.out.alloc _) ⟨w2.heap.size, 0, none⟩ 1 1 [.int .i64 (1)] rfl rfl (news_one rfl) (by intro u' hu'; simp at hu'; subst hu'; rfl) (by unfold maxLen; omega) (by omega) (by simp; omega) ?_; intro v1 w3 hown1 hg1 hat1)
            go_roundw
            case rel =>
              refine ⟨k + 1, by omega, by go_num, by rw [Ha.out, encs_append]; exact hown1, ?_⟩
              exact own_base (HU.out.alloc _) (B2.alloc B2.size _) (Nat.le_refl _) hg1 (by simp; omega)
            case measure => simp [intOf]; omega
          · obtain ⟨g, rfl⟩ : ∃ g, A2 = some ⟨g, 0, none⟩ := by
              rcases hout2.2 with ⟨_, e⟩ | ⟨g, cap, cur, e, _⟩
              · omega
              · simp only [Value.slice.injEq] at e
                exact ⟨g, e.1⟩
            by_cases hC : 0 ≤ y
            · obtain ⟨f, rfl⟩ := Int.eq_ofNat_of_zero_le hC
              have hfk : f < k := by have := Hy2.out; omega
              have hfI : (f : Int) < (k : Int) := by omega
              have hf0 : (0 : Int) ≤ (f : Int) := by omega
              have dC : decide ((0 : Int) ≤ (f : Int)) = true := decide_eq_true hf0
              obtain ⟨vf, hvf⟩ : ∃ v, (stTo l k)[f]'(by rw [stTo_len]; exact hfk) = v := ⟨_, rfl⟩
              have f2 : w2.cell? ⟨g, f, none⟩ = some (.int .i64 vf) := by rw [hout2.cellAt f (by omega)]; exact getI _ _ _ (by rw [List.getElem?_eq_getElem (by rw [stTo_len]; exact hfk), hvf])
              have hvb := Hbd.out vf (by rw [← hvf]; exact List.getElem_mem _)
              have Hvf := Lib.hid (show pick (stTo l k) (f : Int) = vf by rw [pick_nat _ _ (by rw [stTo_len]; exact hfk), hvf])
              clear hvf
              by_cases hD : 0 < vf
              · have dD : decide (0 < vf) = true := decide_eq_true hD
                have hww : IntKind.i64.wrap (vf + 1) = vf + 1 := by rw [IntKind.wrap_i64]; omega
                have Ha := Lib.hid (show stTo l (k + 1) = stTo l k ++ [vf + 1] by rw [stTo_succ Hek.out]; show _ ++ [stV l k (stTo l k) ⟨(j : Int), (f : Int)⟩] = _; unfold stV; rw [if_pos (show (0 : Int) ≤ (f : Int) from hf0)]; show _ ++ [max (pick (stTo l k) (lastAt l k (j : Int))) (pick (stTo l k) (f : Int)) + 1] = _; rw [Hvp.out, Hvf.out, Int.max_eq_right (by omega)])
                go_wp2_with (at_builtin; refine wpList_append_own _ rfl (.tmp 48) (.tmp 51) _ rfl w.heap.size 3 i0 (.int .i64 0) 1 8 Try.underlying30 hi hz0 hz1 hz2 rfl (by decide) _ _ _ rfl (HU.out.alloc _) ⟨w2.heap.size, 0, none⟩ 1 1 [.int .i64 (vf + 1)] rfl rfl (news_one rfl) (by intro u' hu'; simp at hu'; subst hu'; rfl) (by unfold maxLen; omega) (by omega) (by simp; omega) ?_; intro v1 w3 hown1 hg1 hat1)
                go_roundw
                case rel =>
                  refine ⟨k + 1, by omega, by go_num, by rw [Ha.out, encs_append]; exact hown1, ?_⟩
                  exact own_base (HU.out.alloc _) (B2.alloc B2.size _) (Nat.le_refl _) hg1 (by simp; omega)
                case measure => simp [intOf]; omega
              · have dD : decide (0 < vf) = false := decide_eq_false hD
                have hww : IntKind.i64.wrap (0 + 1) = 1 := by rw [IntKind.wrap_i64]; omega
                have Ha := Lib.hid (show stTo l (k + 1) = stTo l k ++ [1] by rw [stTo_succ Hek.out]; show _ ++ [stV l k (stTo l k) ⟨(j : Int), (f : Int)⟩] = _; unfold stV; rw [if_pos (show (0 : Int) ≤ (f : Int) from hf0)]; show _ ++ [max (pick (stTo l k) (lastAt l k (j : Int))) (pick (stTo l k) (f : Int)) + 1] = _; rw [Hvp.out, Hvf.out, Int.max_eq_left (by omega)]; rfl)
                go_wp2_with (at_builtin; refine wpList_append_own _ rfl (.tmp 48) (.tmp 51) _ rfl w.heap.size 3 i0 (.int .i64 0) 1 8 Try.underlying30 hi hz0 hz1 hz2 rfl (by decide) _ _ _ rfl (HU.out.alloc _) ⟨w2.heap.size, 0, none⟩ 1 1 [.int .i64 (1)] rfl rfl (news_one rfl) (by intro u' hu'; simp at hu'; subst hu'; rfl) (by unfold maxLen; omega) (by omega) (by simp; omega) ?_; intro v1 w3 hown1 hg1 hat1)
                go_roundw
                case rel =>
                  refine ⟨k + 1, by omega, by go_num, by rw [Ha.out, encs_append]; exact hown1, ?_⟩
                  exact own_base (HU.out.alloc _) (B2.alloc B2.size _) (Nat.le_refl _) hg1 (by simp; omega)
                case measure => simp [intOf]; omega
            · have dC : decide (0 ≤ y) = false := decide_eq_false hC
              have hww : IntKind.i64.wrap (0 + 1) = 1 := by rw [IntKind.wrap_i64]; omega
              have Ha := Lib.hid (show stTo l (k + 1) = stTo l k ++ [1] by rw [stTo_succ Hek.out]; show _ ++ [stV l k (stTo l k) ⟨(j : Int), y⟩] = _; unfold stV; rw [if_neg (show ¬ (0 : Int) ≤ y from hC)]; show _ ++ [pick (stTo l k) (lastAt l k (j : Int)) + 1] = _; rw [Hvp.out]; rfl)
              go_wp2_with (at_builtin; refine wpList_append_own _ rfl (.tmp 48) (.tmp 51) _ rfl w.heap.size 3 i0 (.int .i64 0) 1 8 Try.underlying30 hi hz0 hz1 hz2 rfl (by decide) _ _ _ rfl (HU.out.alloc _) ⟨w2.heap.size, 0, none⟩ 1 1 [.int .i64 (1)] rfl rfl (news_one rfl) (by intro u' hu'; simp at hu'; subst hu'; rfl) (by unfold maxLen; omega) (by omega) (by simp; omega) ?_; intro v1 w3 hown1 hg1 hat1)
              go_roundw
              case rel =>
                refine ⟨k + 1, by omega, by go_num, by rw [Ha.out, encs_append]; exact hown1, ?_⟩
                exact own_base (HU.out.alloc _) (B2.alloc B2.size _) (Nat.le_refl _) hg1 (by simp; omega)
              case measure => simp [intOf]; omega
      · obtain rfl : k = n := by omega
        go_wp2_with fail
        go_ret2
        have e := Hn.out
        refine ⟨A2, k, c2, by rw [R0.out]; rfl, hn40, ?_, hbel⟩
        rw [Hf.out]
        rw [e] at hout ⊢
        exact ⟨hout, RepL.of_own' rfl (stTo_len _ _).symm hout (stTo_ok (by omega))⟩

end Go.Proofs.Ytmkhahiefdcinaa
