/-
  Contract: l11At of the reference.
-/
import Derived.Test.YtmkhahiefdcinaaIcM
import Derived.Test.YtmkhahiefdcinaaApp
namespace Go.Proofs.Ytmkhahiefdcinaa
open Go.ChangeShapes Go.WideShapes Go.ChangeAt Go.RowKit Go.BigFrame
set_option linter.unusedVariables false


/-- The number of event i among those of its node. -/
def atV (l : List P2) (i : Nat) : Int := match l[i]? with | some e => (cnt l (i + 1) e.a : Int) | none => 0
def atL (l : List P2) (k : Nat) : List Int := (List.range k).map (atV l)
theorem atL_len (l : List P2) (k : Nat) : (atL l k).length = k := by simp [atL]
theorem atL_get (l : List P2) {k i : Nat} (h : i < k) : (atL l k)[i]? = some (atV l i) := by simp [atL, h]
theorem atL_succ (l : List P2) (k : Nat) : atL l (k + 1) = atL l k ++ [atV l k] := by simp [atL, List.range_succ]
theorem atV_eq {l : List P2} {k : Nat} {e : P2} (h : l[k]? = some e) : atV l k = (cnt l k e.a : Int) + 1 := by
  unfold atV
  rw [h]
  show ((cnt l (k + 1) e.a : Nat) : Int) = _
  rw [cnt_succ h]
  simp
theorem atV_bd (l : List P2) (i : Nat) : 0 ≤ atV l i ∧ atV l i ≤ (i : Int) + 1 := by
  unfold atV
  cases l[i]? with
  | none => exact ⟨Int.le_refl _, by show (0 : Int) ≤ _; omega⟩
  | some e =>
    have := cnt_le l (i + 1) e.a
    exact ⟨by show (0 : Int) ≤ (cnt l (i + 1) e.a : Int); omega, by show (cnt l (i + 1) e.a : Int) ≤ _; omega⟩
theorem atL_ok {l : List P2} {k : Nat} (hk : k ≤ 1000000) : ∀ x ∈ atL l k, (Flat.ok x : Prop) := by
  intro x hx
  simp only [atL, List.mem_map, List.mem_range] at hx
  obtain ⟨j, hj, rfl⟩ := hx
  have := atV_bd l j
  exact ⟨by omega, by omega⟩

theorem news_one {w : World} {x : Value} {e : TypeId} {g : Nat} (hg : g = w.heap.size) : ∀ j u, [x][j]? = some u → (w.alloc (.cells #[x] e)).cell? ((⟨g, 0, none⟩ : Addr).add j) = some u := by
  subst hg
  intro j u hj
  match j, hj with
  | 0, hj => simp at hj; subst hj; simp [Addr.add]

theorem l11At_any (N : Nat) (hN1 : 1 ≤ N) (hN2 : N ≤ 5) (l : List P2) (hev : ∀ i, i < l.length → evOk ((N : Int) - 1) l i) (hlen : l.length ≤ 40) (w : World) (S : Nat → Prop) (hS : ∀ b, S b → b < w.heap.size) (A : Option Addr) (n c : Nat) (hl0 : RepL w S l A n c) :
    Calls Try.prog 54 #[.int .i64 N, .slice A n c] w fun x w' => ∃ A2 c2, x = .returned (.slice A2 n c2) ∧ RepL w' (fun b => w.heap.size ≤ b ∧ b < w'.heap.size) (atL l l.length) A2 n c2 ∧ Below w.heap.size w w' := by
  obtain ⟨i0, hi, hz0, hz1, hz2⟩ := info_parts infoInt
  have hbd := hl0.bd
  obtain ⟨hn, -⟩ := id hl0
  have Hn := Lib.hid hn
  have Hev := Lib.hid hev
  have hn40 : n ≤ 40 := by omega
  clear hn hev
  have hmk : ∀ W, (Instr.makeSlice 30 (.int .i64 (N : Int)) (.int .i64 (N : Int))).run Try.prog W = .ok (.slice (some ⟨W.heap.size, 0, none⟩) N N) (W.alloc (.cells (madeCells #[.int .i64 0] N) 3)) := fun W => by
    have := run_make_rowN (P := Try.prog) 30 3 i0 _ Try.underlying30 hi hz0 .i64 .i64 N N (Nat.le_refl _) (by rw [hz2]; omega) (by omega) W
    rw [hz1, Nat.mul_one] at this
    exact this
  go_enter Try.func54, Try.ntmps54
  go_wp2_with fail
  go_loopw [6, 13] (fun o i wr => ∃ (k : Nat) (v : Value), k ≤ n ∧ o = v ∧ i = .int .i64 k ∧ wr.ownsRow (w.heap.size + 1) 3 1 v k (encs (atL l k)) ∧ wr.ownsRow w.heap.size 3 1 (.slice (some ⟨w.heap.size, 0, none⟩) N N) N (encs (cntL N l k)) ∧ Below w.heap.size w wr) (fun _ i _ => n - (intOf i).toNat)
  case atStart => exact ⟨0, _, Nat.zero_le _, rfl, rfl, World.ownsRow_nil _ _ _ _, by rw [cntL_zero]; exact own_zeros w 3 N (by omega), (Below.refl _ _).alloc (Nat.le_refl _) _⟩
  case round =>
    obtain ⟨k, v, hk, rfl, rfl, hout, hown, hbel⟩ := hrel
    by_cases hlt : k < n
    · have hl1' : k < l.length := by have := Hn.out; omega
      obtain ⟨b, off, xs, rfl, hSb, hc, rfl, hi1, hi2⟩ := hl0.at_ hl1'
      have hc0 := hc 0 _ rfl
      have hc1 := hc 1 _ rfl
      clear hc
      generalize hek : l[k] = ek at hc0 hc1 hi1 hi2
      obtain ⟨x, y⟩ := ek
      have hek' : l[k]? = some ⟨x, y⟩ := by rw [List.getElem?_eq_getElem hl1', hek]
      obtain ⟨hx1, hx2, -⟩ := Hev.out k hl1' _ hek'
      obtain ⟨j, rfl⟩ := Int.eq_ofNat_of_zero_le hx1
      have hj : j < N := by have : (j : Int) ≤ (N : Int) - 1 := hx2; omega
      have hc0' : wr.cell? ⟨b, off + k * 2, none⟩ = some (.int .i64 j) := (hbel.cell (hS _ hSb)).trans hc0
      have hc1' : wr.cell? ⟨b, off + k * 2 + 1, none⟩ = some (.int .i64 y) := (hbel.cell (hS _ hSb)).trans hc1
      have hcl := cnt_le l k j
      obtain ⟨q, hq⟩ : ∃ q, cnt l k j = q := ⟨_, rfl⟩
      have hlt0 : w.heap.size < wr.heap.size := (hown.lt _ rfl).2
      have hownW := hown.alloc (.cells #[.int .i64 j, .int .i64 y] 64)
      have hoM0 := (hown.stored j (.int .i64 ((q : Int) + 1))).1
      have hoM := hoM0.alloc (.cells #[.int .i64 j, .int .i64 y] 64)
      have hoW0 := own_other (v2 := .slice (some ⟨w.heap.size, 0, none⟩) N N) hout (hown.stored j (.int .i64 ((q : Int) + 1))).2 (fun kk hkk e => by
        have h1 := (hout.lt kk hkk).1
        have h2 : w.heap.size = kk := Option.some.inj e
        omega)
      have hoW2 := hoW0.alloc (.cells #[.int .i64 j, .int .i64 y] 64)
      have hu0 : (wr.alloc (.cells #[.int .i64 j, .int .i64 y] 64)).cell? ⟨w.heap.size, j, none⟩ = some (.int .i64 q) := by rw [hownW.cellAt j (by omega), getI _ _ _ (cntL_get l k hj), hq]
      have hu1 : (wr.setCell ⟨w.heap.size, j, none⟩ (.int .i64 ((q : Int) + 1))).cell? ⟨w.heap.size, j, none⟩ = some (.int .i64 ((q : Int) + 1)) := by
        rw [hoM0.cellAt j (by omega), List.getElem?_set_self (by rw [encs_intlen, cntL_len]; exact hj)]
      have hf0 := hownW.frozenAt j
      have hww : IntKind.i64.wrap ((q : Int) + 1) = (q : Int) + 1 := by rw [IntKind.wrap_i64]; omega
      have hjI : (j : Int) < (N : Int) := by omega
      have Hs := Lib.hid (show cntL N l (k + 1) = (cntL N l k).set j ((q : Int) + 1) by rw [cntL_succ hek' hj, hq])
      have Ha := Lib.hid (show atL l (k + 1) = atL l k ++ [(q : Int) + 1] by rw [atL_succ, atV_eq hek', hq])
      have HO := Lib.hid hoM
      have HU := Lib.hid hoW2
      have Hb := Lib.hid ((hbel.setCell (p := ⟨w.heap.size, j, none⟩) (Nat.le_refl _) (.int .i64 ((q : Int) + 1))).alloc (by simp; omega) (.cells #[.int .i64 j, .int .i64 y] 64))
      clear hc0 hc1 hi1 hi2 hek hek' hx2 hq hcl hownW hown hoW0 hoW2 hoM0 hoM hout
      go_wp2_with (at_builtin; refine wpList_append_own _ rfl (.tmp 24) (.tmp 30) _ rfl (w.heap.size + 1) 3 i0 (.int .i64 0) 1 8 Try.underlying30 hi hz0 hz1 hz2 rfl (by decide) _ _ _ rfl (HU.out.alloc _) ⟨wr.heap.size + 1, 0, none⟩ 1 1 [.int .i64 ((q : Int) + 1)] rfl rfl (news_one (by simp)) (by intro u' hu'; simp at hu'; subst hu'; rfl) (by unfold maxLen; omega) (by omega) (by simp; omega) ?_; intro v1 w1 hown1 hg1 hat1)
      go_roundw
      case rel =>
        refine ⟨k + 1, v1, by omega, rfl, by go_num, by rw [Ha.out, encs_append]; exact hown1, ?_, ?_⟩
        · rw [Hs.out, ← setI _ _ _ (by rw [cntL_len]; exact hj)]
          exact own_other (v2 := _) (HO.out.alloc _) hg1 (fun kk hkk e => by
            have h1 := (HU.out.lt kk e).1
            have h2 : w.heap.size = kk := Option.some.inj hkk
            omega)
        · exact own_base (HU.out.alloc _) (Hb.out.alloc (by simp; omega) _) (by omega) hg1 (by simp; omega)
      case measure => simp [intOf]; omega
    · obtain rfl : k = n := by omega
      go_wp2_with fail
      go_ret
      obtain ⟨A2, c2, rfl⟩ := own_slice hout
      have e := Hn.out
      rw [e] at hout ⊢
      exact ⟨A2, c2, rfl, (RepL.of_own' rfl (atL_len _ _).symm hout (atL_ok (by omega))).more (fun b hb => ⟨by omega, hb.2⟩), hbel⟩

end Go.Proofs.Ytmkhahiefdcinaa
