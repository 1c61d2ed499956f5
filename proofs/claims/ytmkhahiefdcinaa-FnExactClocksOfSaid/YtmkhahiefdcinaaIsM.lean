/-
  Contract: the laws' own helper over [][] (markIntSS).
-/
import Derived.Test.YtmkhahiefdcinaaInU
namespace Go.Proofs.Ytmkhahiefdcinaa
open Go.ChangeShapes Go.WideShapes Go.ChangeAt Go.RowKit Go.BigFrame Go.Deep
set_option linter.unusedVariables false


theorem markIntSS_u (l : List (List Int)) (k : Nat) (h0 : 0 < k) (h1 : k + mcnt l ≤ 100000000) (w : World) (C : List Nat) (hC : C.Nodup) (A : Option Addr) (n c : Nat) (h : OwnL w C l A n c) :
    Calls Try.prog 27 #[.slice A n c, .int .i64 k] w fun e w' => e = .returned (.int .i64 ((k + mcnt l : Nat) : Int)) ∧ OwnL w' C (mkL k l) A n c ∧ Touch C w w' := by
  have hbd := h.bd
  have hn := h.1
  obtain ⟨xs0, Bs0, e0, hrow, hels, hCB⟩ := h.open_
  have Hn := Lib.hid hn
  have HC := Lib.hid hC
  have HCB := Lib.hid hCB
  have hRs : Rep.size (List Int) = 1 := rfl
  rw [hRs] at hrow
  clear hn hCB hC
  go_enter Try.func27, Try.ntmps27
  go_wp2_with fail
  go_loopw [1, 5] (fun q i wr => ∃ (j m : Nat) (xs1 xs2 : List Value) (B1 B2 : List Nat), j ≤ n ∧ i = .int .i64 j ∧ q = .int .i64 m ∧ m = k + mcnt (l.take j) ∧ OwnEls wr (mkL k (l.take j)) xs1 B1 ∧ OwnEls wr (l.drop j) xs2 B2 ∧ Bs0 = B1 ++ B2 ∧ wr.ownsRow 0 e0 1 (.slice A n c) n (xs1 ++ xs2) ∧ Touch C w wr) (fun _ i _ => n - (intOf i).toNat)
  case atStart => exact ⟨0, k, [], xs0, [], Bs0, Nat.zero_le _, rfl, rfl, by simp [mcnt], ⟨rfl, rfl⟩, hels, rfl, hrow, Touch.refl _ _⟩
  case round =>
    obtain ⟨j, m, xs1, xs2, B1, B2, hj, rfl, rfl, hm, hE1, hE2, hB, hown, htou⟩ := hrel
    have Hm := Lib.hid hm
    have HB := Lib.hid hB
    have HE1 := Lib.hid hE1
    clear hm hB hE1
    by_cases hlt : j < n
    · have hl1 : j < l.length := by have := Hn.out; omega
      obtain ⟨cs, ys, C1, C2, hx2, hB2, hOa, hE2'⟩ := hE2.at_ hl1
      obtain ⟨A1, c1, xr, Br, er, rfl, hr1, hr2, hC1⟩ := id hOa
      subst hx2
      have hxl : xs1.length = j := by rw [HE1.out.len, mkL_len, List.length_take, Nat.min_eq_left (by omega), hRs, Nat.mul_one]
      have hcell : wr.cell? ⟨(match A with | some a => a.block | none => 0), j, none⟩ = some (.slice A1 l[j].length c1) ∧ ∃ g, A = some ⟨g, 0, none⟩ := by
        obtain ⟨g, rfl⟩ : ∃ g, A = some ⟨g, 0, none⟩ := by
          rcases hown.2 with ⟨_, e⟩ | ⟨g, cap, cur, e, _⟩
          · omega
          · simp only [Value.slice.injEq] at e
            exact ⟨g, e.1⟩
        refine ⟨?_, g, rfl⟩
        show wr.cell? ⟨g, j, none⟩ = _
        rw [hown.cellAt j (by omega), List.getElem?_append_right (by omega), hxl, Nat.sub_self]
        rfl
      obtain ⟨hc0, g, rfl⟩ := hcell
      have hc0' : wr.cell? ⟨g, j, none⟩ = some (.slice A1 l[j].length c1) := hc0
      have hOw : OwnL wr C1 l[j] A1 l[j].length c1 := ⟨rfl, hOa⟩
      have hCC := HC.out
      rw [HCB.out, HB.out, hB2] at hCC
      simp only [Value.ownBlock, Option.toList_some, List.singleton_append, List.nodup_cons, List.nodup_append, List.mem_append, not_or] at hCC
      have HCC := Lib.hid hCC
      have hsubC : ∀ x ∈ C1, x ∈ C := fun x hx => by rw [HCB.out, HB.out, hB2]; simp [hx]
      have hcnt := mcnt_take hl1
      have hcnl := mcnt_le l (j + 1)
      have CM := Lib.hid (fun (W : World) (hW : OwnL W C1 l[j] A1 l[j].length c1) => markIntS_u l[j] m (by have := Hm.out; omega) (by have := Hm.out; have e5 : Mark.cnt l[j] = mcnt l[j] := rfl; omega) W C1 hCC.2.2.1.1 A1 l[j].length c1 hW)
      have HO := Lib.hid hOw
      have HE2 := Lib.hid hE2'
      have Hcnt := Lib.hid hcnt
      have HB2 := Lib.hid hB2
      have HsubC := Lib.hid hsubC
      have hxl' := Lib.hid hxl
      clear hE2 hOa hr1 hr2 hC1 hc0 hOw hCC hcnt hE2' hB2 hsubC hxl hcnl
      go_wp2_with (go_at_call 19; refine (CM.out _ HO.out).mono ?_; rintro e w1 ⟨rfl, hO1, hT1⟩)
      go_roundw
      case rel =>
        have hCC := HCC.out
        have e5 : Mark.cnt l[j] = mcnt l[j] := rfl
        refine ⟨j + 1, m + mcnt l[j], xs1 ++ [.slice A1 l[j].length c1], ys, B1 ++ C1, C2, by omega, by go_num, rfl, by rw [Hcnt.out, e5, Hm.out]; omega, ?_, ?_, by rw [HB.out, HB2.out, List.append_assoc], ?_, ?_⟩
        · rw [mkL_snoc hl1, ← Hm.out]
          refine OwnEls.snoc (HE1.out.touch hT1 fun b hb hm => ?_) ?_
          · exact hCC.2.2.2 b hb b (.inl hm) rfl
          · have := hO1.2
            exact this
        · exact HE2.out.touch hT1 fun b hb hm => hCC.2.2.1.2.2 b hm b hb rfl
        · rw [List.append_assoc]
          exact ownsRow_touch hown hT1 fun k hk hm => by
            simp only [Value.ownBlock, Option.some.injEq] at hk
            subst hk
            exact hCC.1.2.1 hm
        · exact htou.trans (hT1.more HsubC.out)
      case measure => simp [intOf]; omega
    · obtain rfl : j = n := by omega
      go_wp2_with fail
      go_ret
      have hl := Hn.out
      have e1 : l.take j = l := List.take_of_length_le (by omega)
      have e2 : l.drop j = [] := List.drop_of_length_le (by omega)
      have hE1 := HE1.out
      rw [e1] at hE1
      rw [e2] at hE2
      obtain ⟨rfl, rfl⟩ := hE2
      rw [List.append_nil] at hown
      have hm := Hm.out
      rw [e1] at hm
      have hB := HB.out
      rw [List.append_nil] at hB
      refine ⟨by rw [hm]; rfl, ?_, htou⟩
      rw [HCB.out, hB]
      exact OwnL.mk_ (by rw [mkL_len]; exact hl) (by rw [hRs]; exact hown) hE1

end Go.Proofs.Ytmkhahiefdcinaa
