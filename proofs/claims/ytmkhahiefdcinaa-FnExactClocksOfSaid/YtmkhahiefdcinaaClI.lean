/-
  Contract: clocksOf of the program.
-/
import Derived.Test.YtmkhahiefdcinaaClS
import Derived.Laws.CopyOwn
namespace Go.Proofs.Ytmkhahiefdcinaa
open Go.ChangeShapes Go.WideShapes Go.ChangeAt Go.RowKit Go.BigFrame Go.Deep
set_option linter.unusedVariables false

set_option maxHeartbeats 1000000
theorem own_of_heap {α : Type} [Flat α] {w : World} {g : Nat} {L : List α} {T : TypeId} {n : Nat} (hn : n = L.length) (h : w.heap[g]? = some (.cells (encs L).toArray T (0, 0))) (hok : ∀ a ∈ L, Flat.ok a) (hsm : n ≤ 1000000) : OwnL w [g] L (some ⟨g, 0, none⟩) n n := by
  have : w.ownsRow 0 T (Flat.size α) (.slice (some ⟨g, 0, none⟩) n n) n (encs L) := by
    refine ⟨by rw [encs_len, hn], .inr ⟨g, n, _, rfl, Nat.zero_le _, h, Nat.le_refl _, by unfold maxLen; omega, by simp [encs_len, hn], ?_⟩⟩
    exact List.take_of_length_le (by simp [encs_len, hn])
  exact OwnL.flat rfl hn this hok
/-- The last clock at each node, nil for none. -/
def lastRow (l : List P2) (k N : Nat) (xs ys : List Value) : Prop := ys.length = N ∧ ∀ j, j < N → ys[j]? = if 0 ≤ lastAt l k (j : Int) then xs[(lastAt l k (j : Int)).toNat]? else some (.slice none 0 0)
theorem lastRow_step {l : List P2} {k N j : Nat} {y : Int} {xs ys : List Value} {v : Value} (h : lastRow l k N xs ys) (he : l[k]? = some ⟨j, y⟩) (hj : j < N) (hx : xs.length = k) : lastRow l (k + 1) N (xs ++ [v]) (ys.set j v) := by
  refine ⟨by rw [List.length_set]; exact h.1, fun i hi => ?_⟩
  by_cases e : j = i
  · subst e
    rw [List.getElem?_set_self (by rw [h.1]; exact hi), lastAt_hit he rfl, if_pos (by omega), Int.toNat_natCast, List.getElem?_append_right (by omega), hx, Nat.sub_self]
    rfl
  · rw [List.getElem?_set_ne e, lastAt_miss he (by show ¬ ((j : Int) = (i : Int)); omega), h.2 i hi]
    have hb := lastAt_bd l k (i : Int)
    split
    · rw [List.getElem?_append_left (by omega)]
    · rfl
theorem splice_all {α : Type} (a b : List α) (h : a.length = b.length) : splice a 0 b = b := by
  unfold splice
  rw [List.take_zero, List.nil_append, Nat.zero_add, List.drop_of_length_le (by omega), List.append_nil]
theorem splice_nil {α : Type} (a : List α) : splice a 0 [] = a := by simp [splice]
/-- One more at a place of an own row. -/
theorem incFacts {w : World} {g N j : Nat} {L : List Int} {k : Nat} (h : OwnL w [g] L (some ⟨g, 0, none⟩) N N) (hj : j < L.length) (hi : ckIs N (k : Int) L) :
    ∃ v, w.cell? ⟨g, j, none⟩ = some (.int .i64 v) ∧ w.frozen? ⟨g, j, none⟩ = false ∧ (0 ≤ v ∧ v ≤ (k : Int)) ∧ RowKit.Hid (incAt L (j : Int) = L.set j (v + 1)) ∧ RowKit.Hid (∀ u, I64 u → OwnL (w.setCell ⟨g, j, none⟩ (.int .i64 u)) [g] (L.set j u) (some ⟨g, 0, none⟩) N N ∧ Touch [g] w (w.setCell ⟨g, j, none⟩ (.int .i64 u))) := by
  obtain ⟨gc, eA, hCg, hgcl, hcc, hcf, hci, hst⟩ := h.intAt hj
  simp only [Option.some.injEq, Addr.mk.injEq, and_true] at eA
  subst eA
  exact ⟨L[j], hcc, hcf, hi.2 _ (List.getElem_mem hj), Lib.hid (incAt_nat _ _ hj), Lib.hid hst⟩
theorem clocksOf_any (N : Nat) (hN1 : 1 ≤ N) (hN2 : N ≤ 5) (l : List P2) (hl : ∀ i, i < l.length → ∀ e, l[i]? = some e → 0 ≤ e.a ∧ e.a ≤ (N : Int) - 1 ∧ -1 ≤ e.b ∧ e.b ≤ (i : Int) - 1) (hlen : l.length ≤ 40) (w : World) (S : Nat → Prop) (hS : ∀ b, S b → b < w.heap.size) (A : Option Addr) (n c : Nat) (hl0 : RepL w S l A n c) :
    Calls Try.prog 50 #[.int .i64 N, .slice A n c] w fun x w' => ∃ A2 c2 B, x = .returned (.slice A2 n c2) ∧ OwnL w' B (ckTo N l n) A2 n c2 ∧ B.Nodup ∧ (∀ b ∈ B, w.heap.size ≤ b) ∧ Below w.heap.size w w' := by
  obtain ⟨i0, hi, hz0, hz1, hz2⟩ := info_parts infoInt
  have hinfo : (Try.prog.info? 30).map (fun i => (i.zero, i.size, i.bytes)) = some (some (.slice none 0 0), 1, 24) := by kernel_rfl
  obtain ⟨i1, hi', hz0', hz1', hz2'⟩ := info_parts hinfo
  have hsz1 : (Try.prog.info? 3).map (·.size) = some 1 := by rw [hi]; simp [hz1]
  have hmk : ∀ W, (Instr.makeSlice 30 (.int .i64 (N : Int)) (.int .i64 (N : Int))).run Try.prog W = .ok (.slice (some ⟨W.heap.size, 0, none⟩) N N) (W.alloc (.cells (madeCells #[.int .i64 0] N) 3)) := fun W => by
    have := run_make_rowN (P := Try.prog) 30 3 i0 _ Try.underlying30 hi hz0 .i64 .i64 N N (Nat.le_refl _) (by rw [hz2]; omega) (by omega) W
    rw [hz1, Nat.mul_one] at this
    exact this
  have hmkR : ∀ (m : Nat) W, m ≤ 40 → (Instr.makeSlice 40 (.int .i64 (m : Int)) (.int .i64 (m : Int))).run Try.prog W = .ok (.slice (some ⟨W.heap.size, 0, none⟩) m m) (W.alloc (.cells (madeCells #[.slice none 0 0] m) 30)) := fun m W hm => by
    have := run_make_rowN (P := Try.prog) 40 30 i1 _ Try.underlying40 hi' hz0' .i64 .i64 m m (Nat.le_refl _) (by rw [hz2']; omega) (by omega) W
    rw [hz1', Nat.mul_one] at this
    exact this
  have ownR : ∀ (m : Nat) (W : World), m ≤ 40 → (W.alloc (.cells (madeCells #[.slice none 0 0] m) 30)).ownsRow W.heap.size 30 1 (.slice (some ⟨W.heap.size, 0, none⟩) m m) m (List.replicate m (.slice none 0 0)) := fun m W hm => by
    refine ⟨by simp, .inr ⟨_, m, _, rfl, Nat.le_refl _, heap_alloc_new W _, Nat.le_refl _, by unfold maxLen; omega, by simp [madeCells], ?_⟩⟩
    apply List.ext_getElem?
    intro j
    by_cases hj : j < m
    · simp [madeCells, hj, Nat.mod_one]
    · rw [List.getElem?_eq_none (by simp [madeCells]; omega), List.getElem?_eq_none (by simp; omega)]
  have hbd := hl0.bd
  have hn := hl0.1
  have hn40 : n ≤ 40 := by omega
  have hmk1 := fun W => hmkR n W hn40
  have hmk2 := fun W => hmkR N W (by omega)
  have Hn := Lib.hid hn
  have Hl := Lib.hid hl
  clear hn hl
  obtain ⟨g0, hg0⟩ : ∃ g, w.heap.size = g := ⟨_, rfl⟩
  have oc0 := (ownR n w hn40).alloc (.cells (madeCells #[.slice none 0 0] N) 30)
  have ol0 := ownR N (w.alloc (.cells (madeCells #[.slice none 0 0] n) 30)) (by omega)
  have e1 : (w.alloc (.cells (madeCells #[.slice none 0 0] n) 30)).heap.size = g0 + 1 := by simp [hg0]
  rw [e1] at ol0
  rw [hg0] at oc0
  have hb0 := ((Below.refl w.heap.size w).alloc (Nat.le_refl _) (.cells (madeCells #[.slice none 0 0] n) 30)).alloc (by simp) (.cells (madeCells #[.slice none 0 0] N) 30)
  have Oc0 := Lib.hid oc0
  have Ol0 := Lib.hid ol0
  have Hb0 := Lib.hid hb0
  clear oc0 ol0 hb0
  clear hmkR ownR e1
  go_enter Try.func50, Try.ntmps50
  go_wp2_with fail
  try simp only [hg0]
  go_loopw [19] (fun i wr => ∃ (k : Nat) (xs ys : List Value) (B : List Nat), k ≤ n ∧ i = .int .i64 k ∧ OwnEls wr (ckTo N l k) xs B ∧ wr.ownsRow g0 30 1 (.slice (some ⟨g0, 0, none⟩) n n) n (xs ++ List.replicate (n - k) (.slice none 0 0)) ∧ wr.ownsRow (g0 + 1) 30 1 (.slice (some ⟨g0 + 1, 0, none⟩) N N) N ys ∧ lastRow l k N xs ys ∧ B.Nodup ∧ (∀ b ∈ B, g0 + 1 < b) ∧ Below w.heap.size w wr) (fun i _ => n - (intOf i).toNat)
  case atStart => exact ⟨0, [], List.replicate N (.slice none 0 0), [], Nat.zero_le _, rfl, ⟨rfl, rfl⟩, Oc0.out, Ol0.out, ⟨by simp, fun j hj => by simp [lastAt, hj]⟩, List.nodup_nil, fun b hb => (nomatch hb), Hb0.out⟩
  case round =>
    obtain ⟨k, xs, ys, B, hk, rfl, hels, hcl, hla, hlr, hnd, hge, hbel⟩ := hrel
    by_cases hlt : k < n
    · have hl1 : k < l.length := by have := Hn.out; omega
      obtain ⟨b, off, xs', rfl, hSb, hc, rfl, hi1, hi2⟩ := hl0.at_ hl1
      have hc0 := hc 0 _ rfl
      have hc1 := hc 1 _ rfl
      clear hc
      generalize hek : l[k] = ek at hc0 hc1 hi1 hi2
      obtain ⟨x, y⟩ := ek
      have hek' : l[k]? = some ⟨x, y⟩ := by rw [List.getElem?_eq_getElem hl1, hek]
      obtain ⟨hx1, hx2, hy1, hy2⟩ := Hl.out k hl1 _ hek'
      obtain ⟨j, rfl⟩ := Int.eq_ofNat_of_zero_le hx1
      have hjN : j < N := by have : (j : Int) ≤ (N : Int) - 1 := hx2; omega
      have hc0' : wr.cell? ⟨b, off + k * 2, none⟩ = some (.int .i64 j) := (hbel.cell (hS _ hSb)).trans hc0
      have hc1' : wr.cell? ⟨b, off + k * 2 + 1, none⟩ = some (.int .i64 y) := (hbel.cell (hS _ hSb)).trans hc1
      have Hek := Lib.hid hek'
      have hy1' : -1 ≤ y := hy1
      have hy2' : y ≤ (k : Int) - 1 := hy2
      obtain ⟨ge, hge'⟩ : ∃ g, wr.heap.size = g := ⟨_, rfl⟩
      obtain ⟨W, hW⟩ : ∃ W, W = (wr.alloc (.cells #[.int .i64 j, .int .i64 y] 64)).alloc (.cells (madeCells #[.int .i64 0] N) 3) := ⟨_, rfl⟩
      have bW : Below wr.heap.size wr W := by rw [hW]; exact ((Below.refl _ _).alloc (Nat.le_refl _) _).alloc (by simp) _
      have f0 : W.cell? ⟨ge, 0, none⟩ = some (.int .i64 j) := by rw [hW, ← hge']; simp
      have f1 : W.cell? ⟨ge, 1, none⟩ = some (.int .i64 y) := by rw [hW, ← hge']; simp
      have hWs : W.heap.size = ge + 2 := by rw [hW, ← hge']; simp
      have hWg : W.heap[ge + 1]? = some (.cells (encs (zs N)).toArray 3 (0, 0)) := by
        have e : (wr.alloc (.cells #[.int .i64 j, .int .i64 y] 64)).heap.size = ge + 1 := by rw [← hge']; simp
        rw [hW, ← e, heap_alloc_new]
        have e2 := madeCells_flat (α := Int) #[.int .i64 0] N 1 rfl rfl
        rw [Nat.mul_one] at e2
        have e3 : madeCells #[.int .i64 0] N = (encs (zs N)).toArray := by
          have e4 : encs (zs N) = encs (List.replicate N (Flat.zero : Int)) := rfl
          rw [e4, ← e2]
        rw [e3]
      have helsW := hels.keep fun b hb => bW.block b (hels.lt b hb)
      have hclW := own_below hcl bW
      have hlaW := own_below hla bW
      have hg01 : g0 + 1 < ge := by rw [← hge']; exact (hla.lt _ rfl).2
      have hckis := ckTo_is N l k
      have hlb := lastAt_bd l k (j : Int)
      have hxl : xs.length = k := by have := hels.len; rw [ckTo_len] at this; rw [this]; exact Nat.mul_one k
      have hlj := hlr.2 j hjN
      have HBlt := Lib.hid (show ∀ b ∈ B, b < ge from fun b hb => by have := hels.lt b hb; omega)
      have HW := Lib.hid hW
      have bTW := bnext hbel bW
      have hjI : (j : Int) < (N : Int) := by omega
      have hj0 : (0 : Int) ≤ (j : Int) := by omega
      have Hckis := Lib.hid hckis
      have Hlr := Lib.hid hlr
      have Hxl := Lib.hid hxl
      have HWg := Lib.hid hWg
      have Hnd := Lib.hid hnd
      have Hge := Lib.hid hge
      clear hckis hlr hxl hWg hnd hge
      clear hc0 hc1 hek hek' hi1 hi2 hW hels hcl hla hx1 hx2 hy1 hy2
      obtain ⟨p, hp⟩ : ∃ p, lastAt l k (j : Int) = p := ⟨_, rfl⟩
      rw [hp] at hlb hlj
      have Hp := Lib.hid hp
      clear hp
      have F1 := Lib.hid f1
      have F0 := Lib.hid f0
      rw [HW.out] at f0 f1
      by_cases hy0 : 0 ≤ y
      · obtain ⟨f, rfl⟩ := Int.eq_ofNat_of_zero_le hy0
        have hf : f < k := by omega
        have hrf := rowAt_is (Int.natCast_nonneg k) Hckis.out (f : Int)
        obtain ⟨Af, cf, e3, k2⟩ := helsW.rowOfB (q := f) (r := rowAt N (ckTo N l k) (f : Int)) (by rw [rowAt_nat _ _ (by rw [ckTo_len]; exact hf)]; exact List.getElem?_eq_getElem (by rw [ckTo_len]; exact hf))
        rw [hrf.1] at e3 k2
        have KF := Lib.hid (show W.cell? ⟨g0, f, none⟩ = some (.slice Af N cf) by
          rw [hclW.cellAt f (by omega), List.getElem?_append_left (by rw [Hxl.out]; exact hf)]
          exact e3)
        obtain ⟨rf, hrfe⟩ : ∃ r, rowAt N (ckTo N l k) (f : Int) = r := ⟨_, rfl⟩
        rw [hrfe] at hrf k2
        have KR := Lib.hid k2
        have Hrf := Lib.hid hrf
        have Hrfe := Lib.hid hrfe
        have hfI : (f : Int) < (n : Int) := by omega
        have hf0 : (0 : Int) ≤ (f : Int) := by omega
        clear e3 k2 hrf hrfe
        by_cases hp0 : 0 ≤ p
        · obtain ⟨q, rfl⟩ := Int.eq_ofNat_of_zero_le hp0
          have hq : q < k := by omega
          have hlj' : ys[j]? = xs[q]? := by rw [hlj, if_pos hp0, Int.toNat_natCast]
          have hri := rowAt_is (Int.natCast_nonneg k) Hckis.out (q : Int)
          obtain ⟨Aq, cq, e3, k2⟩ := helsW.rowOf (q := q) (r := rowAt N (ckTo N l k) (q : Int)) (by rw [rowAt_nat _ _ (by rw [ckTo_len]; exact hq)]; exact List.getElem?_eq_getElem (by rw [ckTo_len]; exact hq))
          rw [hri.1] at e3 k2
          have k1 : W.cell? ⟨g0 + 1, j, none⟩ = some (.slice Aq N cq) := by rw [hlaW.cellAt j (by omega), hlj']; exact e3
          obtain ⟨rb, hrb⟩ : ∃ r, rowAt N (ckTo N l k) (lastAt l k (j : Int)) = r := ⟨_, rfl⟩
          have hrq : rowAt N (ckTo N l k) (q : Int) = rb := by rw [← hrb, Hp.out]
          rw [hrq] at hri k2
          obtain ⟨aq, rfl⟩ : ∃ a, Aq = some a := by
            cases Aq with
            | none => have := k2.none_.1; omega
            | some a => exact ⟨a, rfl⟩
          have Hcs := Lib.hid k2.cells
          have Hri := Lib.hid hri
          have Hrb := Lib.hid hrb
          rw [HW.out] at k1
          clear e3 k2 hri hlj hlj' hrb hrq hq
          go_wp2_with ((try simp only [hge']); rw [← HW.out]; refine Go.wpList_copy_splice rfl (.tmp 26) (.tmp 31) 30 30 rfl 3 Try.underlying30 hsz1 (some ⟨ge + 1, 0, none⟩) (some aq) N N N cq rfl rfl (ge + 1) 0 (encs (zs N)) 3 HWg.out (encs rb) (by rw [encs_len, Hri.out.1]; show N * 1 = _; simp) (fun _ => ⟨rfl, aq, rfl, Hcs.out⟩) (by rw [encs_len, encs_len, Hri.out.1]; simp [zs]) (encs_one _) (ge + 1) W (Below.refl _ _) (Nat.le_refl _) ?_; intro w2 hw2 b2; (have h0 : w2.cell? ⟨ge, 0, none⟩ = some (.int .i64 j) := (b2.cell (p := ⟨ge, 0, none⟩) (Nat.lt_succ_self ge)).trans F0.out); (have h1 : w2.cell? ⟨ge, 1, none⟩ = some (.int .i64 f) := (b2.cell (p := ⟨ge, 1, none⟩) (Nat.lt_succ_self ge)).trans F1.out); (have o2 := own_of_heap (L := rb) Hri.out.1.symm (by rw [hw2.out, show splice (encs (zs N)) 0 (encs rb) = encs rb from splice_all _ _ (by rw [encs_len, encs_len, Hri.out.1]; simp [zs])]) (Hri.out.ok (by omega)) (by omega)); (have k3 : w2.cell? ⟨g0, f, none⟩ = some (.slice Af N cf) := (b2.cell (p := ⟨g0, f, none⟩) (show g0 < ge + 1 by omega)).trans KF.out))
          have T2 : Touch [ge + 1] W w2 := ⟨b2.os, b2.tape, b2.output, b2.size, fun i hi hn => b2.block i (by simp at hn; omega)⟩
          have hels2 := helsW.touch T2 fun b hb hm => by have := HBlt.out b hb; simp at hm; omega
          have hcl2 := ownsRow_touch hclW T2 fun kk hkk hm => by simp [Value.ownBlock] at hkk hm; omega
          have hla2 := ownsRow_touch hlaW T2 fun kk hkk hm => by simp [Value.ownBlock] at hkk hm; omega
          have bT2 := below_touch bTW T2 (fun b hb => by simp at hb; have := hbel.size; omega) bTW.size
          have z2 := T2.size
          have Ho2 := Lib.hid o2
          go_loopw [42] (fun i wr => ∃ q : Nat, q ≤ N ∧ i = .int .i64 q ∧ OwnL wr [ge + 1] (mostTo rb rf q) (some ⟨ge + 1, 0, none⟩) N N ∧ Touch [ge + 1] w2 wr) (fun i _ => N - (intOf i).toNat)
          case atStart => exact ⟨0, Nat.zero_le _, rfl, by rw [mostTo_zero]; exact Ho2.out, Touch.refl _ _⟩
          case round =>
            obtain ⟨q, hqN, rfl, hOq, hTq⟩ := hrel
            have hrfl : rb.length = rf.length := by rw [Hri.out.1, Hrf.out.1]
            have h0' : wr.cell? ⟨ge, 0, none⟩ = some (.int .i64 j) := (World.cell?_of_block (hTq.block ge (show ge < w2.heap.size by omega) (by simp))).trans h0
            by_cases hlt2 : q < N
            · have hqb : q < rb.length := by rw [Hri.out.1]; exact hlt2
              have hqf : q < rf.length := by rw [Hrf.out.1]; exact hlt2
              have hmq : q < (mostTo rb rf q).length := by rw [mostTo_len hrfl]; exact hqb
              obtain ⟨gc, eA, hCg, hgcl, hcc, hcf, hci, hst⟩ := hOq.intAt hmq
              simp only [Option.some.injEq, Addr.mk.injEq, and_true] at eA
              subst eA
              have hmg := mostTo_get hrfl hqb
              rw [List.getElem?_eq_getElem hmq] at hmg
              have hmg' := Option.some.inj hmg
              rw [hmg'] at hcc
              have KRw := KR.out.keep (w' := wr) (fun p hp => by
                have h1 := HBlt.out p.block hp
                exact World.cell?_of_block ((hTq.block p.block (by omega) (by simp; omega)).trans (T2.block p.block (by omega) (by simp; omega))))
              obtain ⟨bf, off2, rfl, hSf, hcell, -⟩ := KRw.at1 rfl hqf
              have hcl := hcell _ rfl
              have hb1 := Hri.out.2 _ (List.getElem_mem hqb)
              have hb2 := Hrf.out.2 _ (List.getElem_mem hqf)
              have Hsc := Lib.hid (mostTo_succ hrfl hqb)
              have Hst := Lib.hid hst
              have hqI : (q : Int) < (N : Int) := by omega
              generalize rb[q] = vb at *
              generalize rf[q] = vf at *
              clear hst hmg hmg' hci hcell
              by_cases hmx : vb < vf
              · have Hmx := Lib.hid (show max vb vf = vf by omega)
                go_wp2_with fail
                go_roundw
                case rel =>
                  obtain ⟨hO, hT⟩ := Hst.out vf ⟨by omega, by omega⟩
                  exact ⟨q + 1, by omega, by go_num, by rw [Hsc.out, Hmx.out]; exact hO, hTq.trans hT⟩
                case measure => simp [intOf]; omega
              · have Hmx := Lib.hid (show max vb vf = vb by omega)
                go_wp2_with fail
                go_roundw
                case rel =>
                  obtain ⟨hO, hT⟩ := Hst.out vb ⟨by omega, by omega⟩
                  exact ⟨q + 1, by omega, by go_num, by rw [Hsc.out, Hmx.out]; exact hO, hTq.trans hT⟩
                case measure => simp [intOf]; omega
            · have hqe : N = q := by omega
              rw [← hqe] at hOq
              have hma : mostTo rb rf N = mostL rb rf := by have := mostTo_all hrfl; rw [Hri.out.1] at this; exact this
              rw [hma] at hOq
              have hmi := mostL_is Hri.out Hrf.out
              have HkB := Lib.hid (show ckB N l k (ckTo N l k) ⟨j, f⟩ = mostL rb rf by unfold ckB; rw [if_pos (show (0 : Int) ≤ (f : Int) by omega), Hrb.out, Hrfe.out])
              obtain ⟨vj, hcc, hcf, hjb, Hvj, Hst⟩ := incFacts hOq (by rw [hmi.1]; exact hjN) hmi
              have hw : IntKind.i64.wrap (vj + 1) = vj + 1 := by rw [IntKind.wrap_i64]; omega
              have helsR := hels2.touch hTq fun b hb hm => by have := HBlt.out b hb; simp at hm; omega
              have hclR := ownsRow_touch hcl2 hTq fun kk hkk hm => by simp [Value.ownBlock] at hkk hm; omega
              have hlaR := ownsRow_touch hla2 hTq fun kk hkk hm => by simp [Value.ownBlock] at hkk hm; omega
              have bTR := below_touch bT2 hTq (fun b hb => by simp at hb; have := hbel.size; omega) bT2.size
              have hltN : decide (q < N) = false := decide_eq_false (by omega)
              clear hma hmi hqe
              obtain ⟨hO, hT⟩ := Hst.out (vj + 1) ⟨by omega, by omega⟩
              have helsF := helsR.touch hT fun b hb hm => by have := HBlt.out b hb; simp at hm; omega
              have hclF := ownsRow_touch hclR hT fun kk hkk hm => by simp [Value.ownBlock] at hkk hm; omega
              have hlaF := ownsRow_touch hlaR hT fun kk hkk hm => by simp [Value.ownBlock] at hkk hm; omega
              have bTF := below_touch bTR hT (fun b hb => by simp at hb; have := hbel.size; omega) bTR.size
              have u0 : (wr.setCell ⟨ge + 1, j, none⟩ (.int .i64 (vj + 1))).cell? ⟨g0, k, none⟩ = some (.slice none 0 0) := by
                rw [hclF.cellAt k (by omega), List.getElem?_append_right (by rw [Hxl.out]; exact Nat.le_refl _), Hxl.out, Nat.sub_self, List.getElem?_replicate, if_pos (by omega)]
              obtain ⟨u1v, u1⟩ := own_cell hlaF (j := j) (by omega)
              have x0 : (wr.setCell ⟨ge + 1, j, none⟩ (.int .i64 (vj + 1))).cell? ⟨ge, 0, none⟩ = some (.int .i64 j) := by
                rw [World.cell?_setCell_other (h := fun e => by have := congrArg Addr.block e; simp at this)]
                exact h0'
              have s0 := hclF.frozenAt k
              have s1 := hlaF.frozenAt j
              have r0 := (hclF.stored k (.slice (some ⟨ge + 1, 0, none⟩) N N)).1
              have tA : Touch [g0, g0 + 1] (wr.setCell ⟨ge + 1, j, none⟩ (.int .i64 (vj + 1))) ((wr.setCell ⟨ge + 1, j, none⟩ (.int .i64 (vj + 1))).setCell ⟨g0, k, none⟩ (.slice (some ⟨ge + 1, 0, none⟩) N N)) := (Touch.refl _ _).setCell (p := ⟨g0, k, none⟩) (by simp) _
              have l0 := ownsRow_block (w' := (wr.setCell ⟨ge + 1, j, none⟩ (.int .i64 (vj + 1))).setCell ⟨g0, k, none⟩ (.slice (some ⟨ge + 1, 0, none⟩) N N)) hlaF fun kk hkk => Below.heap_setCell _ _ _ kk (fun e => by simp [Value.ownBlock] at hkk; simp at e; omega)
              have r1 := (l0.stored j (.slice (some ⟨ge + 1, 0, none⟩) N N)).1
              have r0' := ownsRow_block (w' := ((wr.setCell ⟨ge + 1, j, none⟩ (.int .i64 (vj + 1))).setCell ⟨g0, k, none⟩ (.slice (some ⟨ge + 1, 0, none⟩) N N)).setCell ⟨g0 + 1, j, none⟩ (.slice (some ⟨ge + 1, 0, none⟩) N N)) r0 fun kk hkk => Below.heap_setCell _ _ _ kk (fun e => by simp [Value.ownBlock] at hkk; simp at e; omega)
              have tB : Touch [g0, g0 + 1] (wr.setCell ⟨ge + 1, j, none⟩ (.int .i64 (vj + 1))) ((((wr.setCell ⟨ge + 1, j, none⟩ (.int .i64 (vj + 1))).setCell ⟨g0, k, none⟩ (.slice (some ⟨ge + 1, 0, none⟩) N N)).setCell ⟨g0 + 1, j, none⟩ (.slice (some ⟨ge + 1, 0, none⟩) N N)).drew) := (tA.setCell (p := ⟨g0 + 1, j, none⟩) (by simp) _).drew
              have helsZ := helsF.touch tB fun b hb hm => by have := Hge.out b hb; simp at hm; omega
              have hOZ := hO.touch tB fun b hb hm => by simp at hb hm; omega
              have bTZ := below_touch bTF tB (fun b hb => by simp at hb; have := hg0; omega) bTF.size
              have eset : (xs ++ List.replicate (n - k) (Value.slice none 0 0)).set k (.slice (some ⟨ge + 1, 0, none⟩) N N) = (xs ++ [.slice (some ⟨ge + 1, 0, none⟩) N N]) ++ List.replicate (n - (k + 1)) (Value.slice none 0 0) := by
                obtain ⟨m, hm⟩ : ∃ m, n - k = m + 1 := ⟨n - k - 1, by omega⟩
                have hxl := Hxl.out
                rw [List.set_append_right _ _ (by omega), hxl, Nat.sub_self, hm, List.replicate_succ, List.set_cons_zero, show n - (k + 1) = m by omega, List.append_assoc]
                rfl
              rw [eset] at r0'
              have R0 := Lib.hid r0'.drew
              have R1 := Lib.hid r1.drew
              have HZ := Lib.hid helsZ
              have HOZ := Lib.hid hOZ
              have BTZ := Lib.hid bTZ
              have hkI : (k : Int) < (n : Int) := by omega
              have hk0 : (0 : Int) ≤ (k : Int) := by omega
              have ne1 : g0 ≠ g0 + 1 := by omega
              have ne2 : g0 ≠ ge := by omega
              have ne3 : g0 + 1 ≠ ge := by omega
              have ne4 : g0 ≠ ge + 1 := by omega
              have ne5 : g0 + 1 ≠ ge + 1 := by omega
              clear hO hT helsF hclF hlaF bTF r0 r1 r0' l0 tA tB helsZ hOZ bTZ eset
              go_wp2_with fail
              go_region
              all_goals
                go_wp2_with fail
                go_roundw
                case rel =>
                  refine ⟨k + 1, xs ++ [.slice (some ⟨ge + 1, 0, none⟩) N N], ys.set j (.slice (some ⟨ge + 1, 0, none⟩) N N), B ++ [ge + 1], by omega, by go_num, ?_, R0.out, R1.out, lastRow_step Hlr.out Hek.out hjN Hxl.out, ?_, ?_, BTZ.out⟩
                  · rw [ckTo_succ Hek.out]
                    have e : ckV N l k (ckTo N l k) ⟨j, f⟩ = incAt (mostL rb rf) j := by
                      unfold ckV
                      rw [HkB.out]
                    rw [e, Hvj.out]
                    exact OwnEls.snoc HZ.out HOZ.out.2
                  · refine List.nodup_append.2 ⟨Hnd.out, by simp, fun x hx z hz e => ?_⟩
                    simp at hz
                    have := HBlt.out x hx
                    omega
                  · intro b hb
                    rcases List.mem_append.1 hb with hb | hb
                    · exact Hge.out b hb
                    · simp at hb; omega
                case measure => simp [intOf]; omega
        · have hlj' : ys[j]? = some (.slice none 0 0) := by rw [hlj, if_neg hp0]
          have k1 : W.cell? ⟨g0 + 1, j, none⟩ = some (.slice none 0 0) := by rw [hlaW.cellAt j (by omega)]; exact hlj'
          obtain ⟨rb, hrb⟩ : ∃ r, rowAt N (ckTo N l k) (lastAt l k (j : Int)) = r := ⟨_, rfl⟩
          have hrz : rb = zs N := by rw [← hrb, Hp.out, rowAt_neg _ hp0]
          have Hri := Lib.hid (show ckIs N (k : Int) rb by rw [hrz]; exact zs_is N (by omega))
          have Hrz := Lib.hid hrz
          have Hrb := Lib.hid hrb
          rw [HW.out] at k1
          clear hlj hlj' hrb hrz
          go_wp2_with ((try simp only [hge']); rw [← HW.out]; refine Go.wpList_copy_splice rfl (.tmp 26) (.tmp 31) 30 30 rfl 3 Try.underlying30 hsz1 (some ⟨ge + 1, 0, none⟩) none N N 0 0 rfl rfl (ge + 1) 0 (encs (zs N)) 3 HWg.out [] (by simp) (fun h => absurd h (by simp)) (by simp) (fun _ h => (nomatch h)) (ge + 1) W (Below.refl _ _) (Nat.le_refl _) ?_; intro w2 hw2 b2; (have h0 : w2.cell? ⟨ge, 0, none⟩ = some (.int .i64 j) := (b2.cell (p := ⟨ge, 0, none⟩) (Nat.lt_succ_self ge)).trans F0.out); (have h1 : w2.cell? ⟨ge, 1, none⟩ = some (.int .i64 f) := (b2.cell (p := ⟨ge, 1, none⟩) (Nat.lt_succ_self ge)).trans F1.out); (have o2 := own_of_heap (L := rb) Hri.out.1.symm (by rw [hw2.out, show splice (encs (zs N)) 0 [] = encs rb from by rw [splice_nil, Hrz.out]]) (Hri.out.ok (by omega)) (by omega)); (have k3 : w2.cell? ⟨g0, f, none⟩ = some (.slice Af N cf) := (b2.cell (p := ⟨g0, f, none⟩) (show g0 < ge + 1 by omega)).trans KF.out))
          have T2 : Touch [ge + 1] W w2 := ⟨b2.os, b2.tape, b2.output, b2.size, fun i hi hn => b2.block i (by simp at hn; omega)⟩
          have hels2 := helsW.touch T2 fun b hb hm => by have := HBlt.out b hb; simp at hm; omega
          have hcl2 := ownsRow_touch hclW T2 fun kk hkk hm => by simp [Value.ownBlock] at hkk hm; omega
          have hla2 := ownsRow_touch hlaW T2 fun kk hkk hm => by simp [Value.ownBlock] at hkk hm; omega
          have bT2 := below_touch bTW T2 (fun b hb => by simp at hb; have := hbel.size; omega) bTW.size
          have z2 := T2.size
          have Ho2 := Lib.hid o2
          go_loopw [42] (fun i wr => ∃ q : Nat, q ≤ N ∧ i = .int .i64 q ∧ OwnL wr [ge + 1] (mostTo rb rf q) (some ⟨ge + 1, 0, none⟩) N N ∧ Touch [ge + 1] w2 wr) (fun i _ => N - (intOf i).toNat)
          case atStart => exact ⟨0, Nat.zero_le _, rfl, by rw [mostTo_zero]; exact Ho2.out, Touch.refl _ _⟩
          case round =>
            obtain ⟨q, hqN, rfl, hOq, hTq⟩ := hrel
            have hrfl : rb.length = rf.length := by rw [Hri.out.1, Hrf.out.1]
            have h0' : wr.cell? ⟨ge, 0, none⟩ = some (.int .i64 j) := (World.cell?_of_block (hTq.block ge (show ge < w2.heap.size by omega) (by simp))).trans h0
            by_cases hlt2 : q < N
            · have hqb : q < rb.length := by rw [Hri.out.1]; exact hlt2
              have hqf : q < rf.length := by rw [Hrf.out.1]; exact hlt2
              have hmq : q < (mostTo rb rf q).length := by rw [mostTo_len hrfl]; exact hqb
              obtain ⟨gc, eA, hCg, hgcl, hcc, hcf, hci, hst⟩ := hOq.intAt hmq
              simp only [Option.some.injEq, Addr.mk.injEq, and_true] at eA
              subst eA
              have hmg := mostTo_get hrfl hqb
              rw [List.getElem?_eq_getElem hmq] at hmg
              have hmg' := Option.some.inj hmg
              rw [hmg'] at hcc
              have KRw := KR.out.keep (w' := wr) (fun p hp => by
                have h1 := HBlt.out p.block hp
                exact World.cell?_of_block ((hTq.block p.block (by omega) (by simp; omega)).trans (T2.block p.block (by omega) (by simp; omega))))
              obtain ⟨bf, off2, rfl, hSf, hcell, -⟩ := KRw.at1 rfl hqf
              have hcl := hcell _ rfl
              have hb1 := Hri.out.2 _ (List.getElem_mem hqb)
              have hb2 := Hrf.out.2 _ (List.getElem_mem hqf)
              have Hsc := Lib.hid (mostTo_succ hrfl hqb)
              have Hst := Lib.hid hst
              have hqI : (q : Int) < (N : Int) := by omega
              generalize rb[q] = vb at *
              generalize rf[q] = vf at *
              clear hst hmg hmg' hci hcell
              by_cases hmx : vb < vf
              · have Hmx := Lib.hid (show max vb vf = vf by omega)
                go_wp2_with fail
                go_roundw
                case rel =>
                  obtain ⟨hO, hT⟩ := Hst.out vf ⟨by omega, by omega⟩
                  exact ⟨q + 1, by omega, by go_num, by rw [Hsc.out, Hmx.out]; exact hO, hTq.trans hT⟩
                case measure => simp [intOf]; omega
              · have Hmx := Lib.hid (show max vb vf = vb by omega)
                go_wp2_with fail
                go_roundw
                case rel =>
                  obtain ⟨hO, hT⟩ := Hst.out vb ⟨by omega, by omega⟩
                  exact ⟨q + 1, by omega, by go_num, by rw [Hsc.out, Hmx.out]; exact hO, hTq.trans hT⟩
                case measure => simp [intOf]; omega
            · have hqe : N = q := by omega
              rw [← hqe] at hOq
              have hma : mostTo rb rf N = mostL rb rf := by have := mostTo_all hrfl; rw [Hri.out.1] at this; exact this
              rw [hma] at hOq
              have hmi := mostL_is Hri.out Hrf.out
              have HkB := Lib.hid (show ckB N l k (ckTo N l k) ⟨j, f⟩ = mostL rb rf by unfold ckB; rw [if_pos (show (0 : Int) ≤ (f : Int) by omega), Hrb.out, Hrfe.out])
              obtain ⟨vj, hcc, hcf, hjb, Hvj, Hst⟩ := incFacts hOq (by rw [hmi.1]; exact hjN) hmi
              have hw : IntKind.i64.wrap (vj + 1) = vj + 1 := by rw [IntKind.wrap_i64]; omega
              have helsR := hels2.touch hTq fun b hb hm => by have := HBlt.out b hb; simp at hm; omega
              have hclR := ownsRow_touch hcl2 hTq fun kk hkk hm => by simp [Value.ownBlock] at hkk hm; omega
              have hlaR := ownsRow_touch hla2 hTq fun kk hkk hm => by simp [Value.ownBlock] at hkk hm; omega
              have bTR := below_touch bT2 hTq (fun b hb => by simp at hb; have := hbel.size; omega) bT2.size
              have hltN : decide (q < N) = false := decide_eq_false (by omega)
              clear hma hmi hqe
              obtain ⟨hO, hT⟩ := Hst.out (vj + 1) ⟨by omega, by omega⟩
              have helsF := helsR.touch hT fun b hb hm => by have := HBlt.out b hb; simp at hm; omega
              have hclF := ownsRow_touch hclR hT fun kk hkk hm => by simp [Value.ownBlock] at hkk hm; omega
              have hlaF := ownsRow_touch hlaR hT fun kk hkk hm => by simp [Value.ownBlock] at hkk hm; omega
              have bTF := below_touch bTR hT (fun b hb => by simp at hb; have := hbel.size; omega) bTR.size
              have u0 : (wr.setCell ⟨ge + 1, j, none⟩ (.int .i64 (vj + 1))).cell? ⟨g0, k, none⟩ = some (.slice none 0 0) := by
                rw [hclF.cellAt k (by omega), List.getElem?_append_right (by rw [Hxl.out]; exact Nat.le_refl _), Hxl.out, Nat.sub_self, List.getElem?_replicate, if_pos (by omega)]
              obtain ⟨u1v, u1⟩ := own_cell hlaF (j := j) (by omega)
              have x0 : (wr.setCell ⟨ge + 1, j, none⟩ (.int .i64 (vj + 1))).cell? ⟨ge, 0, none⟩ = some (.int .i64 j) := by
                rw [World.cell?_setCell_other (h := fun e => by have := congrArg Addr.block e; simp at this)]
                exact h0'
              have s0 := hclF.frozenAt k
              have s1 := hlaF.frozenAt j
              have r0 := (hclF.stored k (.slice (some ⟨ge + 1, 0, none⟩) N N)).1
              have tA : Touch [g0, g0 + 1] (wr.setCell ⟨ge + 1, j, none⟩ (.int .i64 (vj + 1))) ((wr.setCell ⟨ge + 1, j, none⟩ (.int .i64 (vj + 1))).setCell ⟨g0, k, none⟩ (.slice (some ⟨ge + 1, 0, none⟩) N N)) := (Touch.refl _ _).setCell (p := ⟨g0, k, none⟩) (by simp) _
              have l0 := ownsRow_block (w' := (wr.setCell ⟨ge + 1, j, none⟩ (.int .i64 (vj + 1))).setCell ⟨g0, k, none⟩ (.slice (some ⟨ge + 1, 0, none⟩) N N)) hlaF fun kk hkk => Below.heap_setCell _ _ _ kk (fun e => by simp [Value.ownBlock] at hkk; simp at e; omega)
              have r1 := (l0.stored j (.slice (some ⟨ge + 1, 0, none⟩) N N)).1
              have r0' := ownsRow_block (w' := ((wr.setCell ⟨ge + 1, j, none⟩ (.int .i64 (vj + 1))).setCell ⟨g0, k, none⟩ (.slice (some ⟨ge + 1, 0, none⟩) N N)).setCell ⟨g0 + 1, j, none⟩ (.slice (some ⟨ge + 1, 0, none⟩) N N)) r0 fun kk hkk => Below.heap_setCell _ _ _ kk (fun e => by simp [Value.ownBlock] at hkk; simp at e; omega)
              have tB : Touch [g0, g0 + 1] (wr.setCell ⟨ge + 1, j, none⟩ (.int .i64 (vj + 1))) ((((wr.setCell ⟨ge + 1, j, none⟩ (.int .i64 (vj + 1))).setCell ⟨g0, k, none⟩ (.slice (some ⟨ge + 1, 0, none⟩) N N)).setCell ⟨g0 + 1, j, none⟩ (.slice (some ⟨ge + 1, 0, none⟩) N N)).drew) := (tA.setCell (p := ⟨g0 + 1, j, none⟩) (by simp) _).drew
              have helsZ := helsF.touch tB fun b hb hm => by have := Hge.out b hb; simp at hm; omega
              have hOZ := hO.touch tB fun b hb hm => by simp at hb hm; omega
              have bTZ := below_touch bTF tB (fun b hb => by simp at hb; have := hg0; omega) bTF.size
              have eset : (xs ++ List.replicate (n - k) (Value.slice none 0 0)).set k (.slice (some ⟨ge + 1, 0, none⟩) N N) = (xs ++ [.slice (some ⟨ge + 1, 0, none⟩) N N]) ++ List.replicate (n - (k + 1)) (Value.slice none 0 0) := by
                obtain ⟨m, hm⟩ : ∃ m, n - k = m + 1 := ⟨n - k - 1, by omega⟩
                have hxl := Hxl.out
                rw [List.set_append_right _ _ (by omega), hxl, Nat.sub_self, hm, List.replicate_succ, List.set_cons_zero, show n - (k + 1) = m by omega, List.append_assoc]
                rfl
              rw [eset] at r0'
              have R0 := Lib.hid r0'.drew
              have R1 := Lib.hid r1.drew
              have HZ := Lib.hid helsZ
              have HOZ := Lib.hid hOZ
              have BTZ := Lib.hid bTZ
              have hkI : (k : Int) < (n : Int) := by omega
              have hk0 : (0 : Int) ≤ (k : Int) := by omega
              have ne1 : g0 ≠ g0 + 1 := by omega
              have ne2 : g0 ≠ ge := by omega
              have ne3 : g0 + 1 ≠ ge := by omega
              have ne4 : g0 ≠ ge + 1 := by omega
              have ne5 : g0 + 1 ≠ ge + 1 := by omega
              clear hO hT helsF hclF hlaF bTF r0 r1 r0' l0 tA tB helsZ hOZ bTZ eset
              go_wp2_with fail
              go_region
              all_goals
                go_wp2_with fail
                go_roundw
                case rel =>
                  refine ⟨k + 1, xs ++ [.slice (some ⟨ge + 1, 0, none⟩) N N], ys.set j (.slice (some ⟨ge + 1, 0, none⟩) N N), B ++ [ge + 1], by omega, by go_num, ?_, R0.out, R1.out, lastRow_step Hlr.out Hek.out hjN Hxl.out, ?_, ?_, BTZ.out⟩
                  · rw [ckTo_succ Hek.out]
                    have e : ckV N l k (ckTo N l k) ⟨j, f⟩ = incAt (mostL rb rf) j := by
                      unfold ckV
                      rw [HkB.out]
                    rw [e, Hvj.out]
                    exact OwnEls.snoc HZ.out HOZ.out.2
                  · refine List.nodup_append.2 ⟨Hnd.out, by simp, fun x hx z hz e => ?_⟩
                    simp at hz
                    have := HBlt.out x hx
                    omega
                  · intro b hb
                    rcases List.mem_append.1 hb with hb | hb
                    · exact Hge.out b hb
                    · simp at hb; omega
                case measure => simp [intOf]; omega
      · have dy0 : decide (0 ≤ y) = false := decide_eq_false hy0
        by_cases hp0 : 0 ≤ p
        · obtain ⟨q, rfl⟩ := Int.eq_ofNat_of_zero_le hp0
          have hq : q < k := by omega
          have hlj' : ys[j]? = xs[q]? := by rw [hlj, if_pos hp0, Int.toNat_natCast]
          have hri := rowAt_is (Int.natCast_nonneg k) Hckis.out (q : Int)
          obtain ⟨Aq, cq, e3, k2⟩ := helsW.rowOf (q := q) (r := rowAt N (ckTo N l k) (q : Int)) (by rw [rowAt_nat _ _ (by rw [ckTo_len]; exact hq)]; exact List.getElem?_eq_getElem (by rw [ckTo_len]; exact hq))
          rw [hri.1] at e3 k2
          have k1 : W.cell? ⟨g0 + 1, j, none⟩ = some (.slice Aq N cq) := by rw [hlaW.cellAt j (by omega), hlj']; exact e3
          obtain ⟨rb, hrb⟩ : ∃ r, rowAt N (ckTo N l k) (lastAt l k (j : Int)) = r := ⟨_, rfl⟩
          have hrq : rowAt N (ckTo N l k) (q : Int) = rb := by rw [← hrb, Hp.out]
          rw [hrq] at hri k2
          obtain ⟨aq, rfl⟩ : ∃ a, Aq = some a := by
            cases Aq with
            | none => have := k2.none_.1; omega
            | some a => exact ⟨a, rfl⟩
          have Hcs := Lib.hid k2.cells
          have Hri := Lib.hid hri
          have Hrb := Lib.hid hrb
          rw [HW.out] at k1
          clear e3 k2 hri hlj hlj' hrb hrq hq
          go_wp2_with ((try simp only [hge']); rw [← HW.out]; refine Go.wpList_copy_splice rfl (.tmp 26) (.tmp 31) 30 30 rfl 3 Try.underlying30 hsz1 (some ⟨ge + 1, 0, none⟩) (some aq) N N N cq rfl rfl (ge + 1) 0 (encs (zs N)) 3 HWg.out (encs rb) (by rw [encs_len, Hri.out.1]; show N * 1 = _; simp) (fun _ => ⟨rfl, aq, rfl, Hcs.out⟩) (by rw [encs_len, encs_len, Hri.out.1]; simp [zs]) (encs_one _) (ge + 1) W (Below.refl _ _) (Nat.le_refl _) ?_; intro w2 hw2 b2; (have h0 : w2.cell? ⟨ge, 0, none⟩ = some (.int .i64 j) := (b2.cell (p := ⟨ge, 0, none⟩) (Nat.lt_succ_self ge)).trans F0.out); (have h1 : w2.cell? ⟨ge, 1, none⟩ = some (.int .i64 y) := (b2.cell (p := ⟨ge, 1, none⟩) (Nat.lt_succ_self ge)).trans F1.out); (have o2 := own_of_heap (L := rb) Hri.out.1.symm (by rw [hw2.out, show splice (encs (zs N)) 0 (encs rb) = encs rb from splice_all _ _ (by rw [encs_len, encs_len, Hri.out.1]; simp [zs])]) (Hri.out.ok (by omega)) (by omega)); (obtain ⟨vj, hcc, hcf, hjb, Hvj, Hst⟩ := incFacts o2 (by rw [Hri.out.1]; exact hjN) Hri.out))
          have T2 : Touch [ge + 1] W w2 := ⟨b2.os, b2.tape, b2.output, b2.size, fun i hi hn => b2.block i (by simp at hn; omega)⟩
          have hels2 := helsW.touch T2 fun b hb hm => by have := HBlt.out b hb; simp at hm; omega
          have hcl2 := ownsRow_touch hclW T2 fun kk hkk hm => by simp [Value.ownBlock] at hkk hm; omega
          have hla2 := ownsRow_touch hlaW T2 fun kk hkk hm => by simp [Value.ownBlock] at hkk hm; omega
          have bT2 := below_touch bTW T2 (fun b hb => by simp at hb; have := hbel.size; omega) bTW.size
          have z2 := T2.size
          have HkB := Lib.hid (show ckB N l k (ckTo N l k) ⟨j, y⟩ = rb by unfold ckB; rw [if_neg (show ¬ (0 : Int) ≤ y by omega), Hrb.out])
          obtain ⟨hO, hT⟩ := Hst.out (vj + 1) ⟨by omega, by omega⟩
          have helsF := hels2.touch hT fun b hb hm => by have := HBlt.out b hb; simp at hm; omega
          have hclF := ownsRow_touch hcl2 hT fun kk hkk hm => by simp [Value.ownBlock] at hkk hm; omega
          have hlaF := ownsRow_touch hla2 hT fun kk hkk hm => by simp [Value.ownBlock] at hkk hm; omega
          have bTF := below_touch bT2 hT (fun b hb => by simp at hb; have := hbel.size; omega) bT2.size
          have u0 : (w2.setCell ⟨ge + 1, j, none⟩ (.int .i64 (vj + 1))).cell? ⟨g0, k, none⟩ = some (.slice none 0 0) := by
            rw [hclF.cellAt k (by omega), List.getElem?_append_right (by rw [Hxl.out]; exact Nat.le_refl _), Hxl.out, Nat.sub_self, List.getElem?_replicate, if_pos (by omega)]
          obtain ⟨u1v, u1⟩ := own_cell hlaF (j := j) (by omega)
          have x0 : (w2.setCell ⟨ge + 1, j, none⟩ (.int .i64 (vj + 1))).cell? ⟨ge, 0, none⟩ = some (.int .i64 j) := by
            rw [World.cell?_setCell_other (h := fun e => by have := congrArg Addr.block e; simp at this)]
            exact h0
          have s0 := hclF.frozenAt k
          have s1 := hlaF.frozenAt j
          have r0 := (hclF.stored k (.slice (some ⟨ge + 1, 0, none⟩) N N)).1
          have tA : Touch [g0, g0 + 1] (w2.setCell ⟨ge + 1, j, none⟩ (.int .i64 (vj + 1))) ((w2.setCell ⟨ge + 1, j, none⟩ (.int .i64 (vj + 1))).setCell ⟨g0, k, none⟩ (.slice (some ⟨ge + 1, 0, none⟩) N N)) := (Touch.refl _ _).setCell (p := ⟨g0, k, none⟩) (by simp) _
          have l0 := ownsRow_block (w' := (w2.setCell ⟨ge + 1, j, none⟩ (.int .i64 (vj + 1))).setCell ⟨g0, k, none⟩ (.slice (some ⟨ge + 1, 0, none⟩) N N)) hlaF fun kk hkk => Below.heap_setCell _ _ _ kk (fun e => by simp [Value.ownBlock] at hkk; simp at e; omega)
          have r1 := (l0.stored j (.slice (some ⟨ge + 1, 0, none⟩) N N)).1
          have r0' := ownsRow_block (w' := ((w2.setCell ⟨ge + 1, j, none⟩ (.int .i64 (vj + 1))).setCell ⟨g0, k, none⟩ (.slice (some ⟨ge + 1, 0, none⟩) N N)).setCell ⟨g0 + 1, j, none⟩ (.slice (some ⟨ge + 1, 0, none⟩) N N)) r0 fun kk hkk => Below.heap_setCell _ _ _ kk (fun e => by simp [Value.ownBlock] at hkk; simp at e; omega)
          have tB : Touch [g0, g0 + 1] (w2.setCell ⟨ge + 1, j, none⟩ (.int .i64 (vj + 1))) ((((w2.setCell ⟨ge + 1, j, none⟩ (.int .i64 (vj + 1))).setCell ⟨g0, k, none⟩ (.slice (some ⟨ge + 1, 0, none⟩) N N)).setCell ⟨g0 + 1, j, none⟩ (.slice (some ⟨ge + 1, 0, none⟩) N N)).drew) := (tA.setCell (p := ⟨g0 + 1, j, none⟩) (by simp) _).drew
          have helsZ := helsF.touch tB fun b hb hm => by have := Hge.out b hb; simp at hm; omega
          have hOZ := hO.touch tB fun b hb hm => by simp at hb hm; omega
          have bTZ := below_touch bTF tB (fun b hb => by simp at hb; have := hg0; omega) bTF.size
          have eset : (xs ++ List.replicate (n - k) (Value.slice none 0 0)).set k (.slice (some ⟨ge + 1, 0, none⟩) N N) = (xs ++ [.slice (some ⟨ge + 1, 0, none⟩) N N]) ++ List.replicate (n - (k + 1)) (Value.slice none 0 0) := by
            obtain ⟨m, hm⟩ : ∃ m, n - k = m + 1 := ⟨n - k - 1, by omega⟩
            have hxl := Hxl.out
            rw [List.set_append_right _ _ (by omega), hxl, Nat.sub_self, hm, List.replicate_succ, List.set_cons_zero, show n - (k + 1) = m by omega, List.append_assoc]
            rfl
          rw [eset] at r0'
          have R0 := Lib.hid r0'.drew
          have R1 := Lib.hid r1.drew
          have HZ := Lib.hid helsZ
          have HOZ := Lib.hid hOZ
          have BTZ := Lib.hid bTZ
          have hkI : (k : Int) < (n : Int) := by omega
          have hk0 : (0 : Int) ≤ (k : Int) := by omega
          have ne1 : g0 ≠ g0 + 1 := by omega
          have ne2 : g0 ≠ ge := by omega
          have ne3 : g0 + 1 ≠ ge := by omega
          have ne4 : g0 ≠ ge + 1 := by omega
          have ne5 : g0 + 1 ≠ ge + 1 := by omega
          clear hO hT helsF hclF hlaF bTF r0 r1 r0' l0 tA tB helsZ hOZ bTZ eset
          go_region
          all_goals
            go_wp2_with fail
            go_roundw
            case rel =>
              refine ⟨k + 1, xs ++ [.slice (some ⟨ge + 1, 0, none⟩) N N], ys.set j (.slice (some ⟨ge + 1, 0, none⟩) N N), B ++ [ge + 1], by omega, by go_num, ?_, R0.out, R1.out, lastRow_step Hlr.out Hek.out hjN Hxl.out, ?_, ?_, BTZ.out⟩
              · rw [ckTo_succ Hek.out]
                have e : ckV N l k (ckTo N l k) ⟨j, y⟩ = incAt (rb) j := by
                  unfold ckV
                  rw [HkB.out]
                rw [e, Hvj.out]
                exact OwnEls.snoc HZ.out HOZ.out.2
              · refine List.nodup_append.2 ⟨Hnd.out, by simp, fun x hx z hz e => ?_⟩
                simp at hz
                have := HBlt.out x hx
                omega
              · intro b hb
                rcases List.mem_append.1 hb with hb | hb
                · exact Hge.out b hb
                · simp at hb; omega
            case measure => simp [intOf]; omega
        · have hlj' : ys[j]? = some (.slice none 0 0) := by rw [hlj, if_neg hp0]
          have k1 : W.cell? ⟨g0 + 1, j, none⟩ = some (.slice none 0 0) := by rw [hlaW.cellAt j (by omega)]; exact hlj'
          obtain ⟨rb, hrb⟩ : ∃ r, rowAt N (ckTo N l k) (lastAt l k (j : Int)) = r := ⟨_, rfl⟩
          have hrz : rb = zs N := by rw [← hrb, Hp.out, rowAt_neg _ hp0]
          have Hri := Lib.hid (show ckIs N (k : Int) rb by rw [hrz]; exact zs_is N (by omega))
          have Hrz := Lib.hid hrz
          have Hrb := Lib.hid hrb
          rw [HW.out] at k1
          clear hlj hlj' hrb hrz
          go_wp2_with ((try simp only [hge']); rw [← HW.out]; refine Go.wpList_copy_splice rfl (.tmp 26) (.tmp 31) 30 30 rfl 3 Try.underlying30 hsz1 (some ⟨ge + 1, 0, none⟩) none N N 0 0 rfl rfl (ge + 1) 0 (encs (zs N)) 3 HWg.out [] (by simp) (fun h => absurd h (by simp)) (by simp) (fun _ h => (nomatch h)) (ge + 1) W (Below.refl _ _) (Nat.le_refl _) ?_; intro w2 hw2 b2; (have h0 : w2.cell? ⟨ge, 0, none⟩ = some (.int .i64 j) := (b2.cell (p := ⟨ge, 0, none⟩) (Nat.lt_succ_self ge)).trans F0.out); (have h1 : w2.cell? ⟨ge, 1, none⟩ = some (.int .i64 y) := (b2.cell (p := ⟨ge, 1, none⟩) (Nat.lt_succ_self ge)).trans F1.out); (have o2 := own_of_heap (L := rb) Hri.out.1.symm (by rw [hw2.out, show splice (encs (zs N)) 0 [] = encs rb from by rw [splice_nil, Hrz.out]]) (Hri.out.ok (by omega)) (by omega)); (obtain ⟨vj, hcc, hcf, hjb, Hvj, Hst⟩ := incFacts o2 (by rw [Hri.out.1]; exact hjN) Hri.out))
          have T2 : Touch [ge + 1] W w2 := ⟨b2.os, b2.tape, b2.output, b2.size, fun i hi hn => b2.block i (by simp at hn; omega)⟩
          have hels2 := helsW.touch T2 fun b hb hm => by have := HBlt.out b hb; simp at hm; omega
          have hcl2 := ownsRow_touch hclW T2 fun kk hkk hm => by simp [Value.ownBlock] at hkk hm; omega
          have hla2 := ownsRow_touch hlaW T2 fun kk hkk hm => by simp [Value.ownBlock] at hkk hm; omega
          have bT2 := below_touch bTW T2 (fun b hb => by simp at hb; have := hbel.size; omega) bTW.size
          have z2 := T2.size
          have HkB := Lib.hid (show ckB N l k (ckTo N l k) ⟨j, y⟩ = rb by unfold ckB; rw [if_neg (show ¬ (0 : Int) ≤ y by omega), Hrb.out])
          obtain ⟨hO, hT⟩ := Hst.out (vj + 1) ⟨by omega, by omega⟩
          have helsF := hels2.touch hT fun b hb hm => by have := HBlt.out b hb; simp at hm; omega
          have hclF := ownsRow_touch hcl2 hT fun kk hkk hm => by simp [Value.ownBlock] at hkk hm; omega
          have hlaF := ownsRow_touch hla2 hT fun kk hkk hm => by simp [Value.ownBlock] at hkk hm; omega
          have bTF := below_touch bT2 hT (fun b hb => by simp at hb; have := hbel.size; omega) bT2.size
          have u0 : (w2.setCell ⟨ge + 1, j, none⟩ (.int .i64 (vj + 1))).cell? ⟨g0, k, none⟩ = some (.slice none 0 0) := by
            rw [hclF.cellAt k (by omega), List.getElem?_append_right (by rw [Hxl.out]; exact Nat.le_refl _), Hxl.out, Nat.sub_self, List.getElem?_replicate, if_pos (by omega)]
          obtain ⟨u1v, u1⟩ := own_cell hlaF (j := j) (by omega)
          have x0 : (w2.setCell ⟨ge + 1, j, none⟩ (.int .i64 (vj + 1))).cell? ⟨ge, 0, none⟩ = some (.int .i64 j) := by
            rw [World.cell?_setCell_other (h := fun e => by have := congrArg Addr.block e; simp at this)]
            exact h0
          have s0 := hclF.frozenAt k
          have s1 := hlaF.frozenAt j
          have r0 := (hclF.stored k (.slice (some ⟨ge + 1, 0, none⟩) N N)).1
          have tA : Touch [g0, g0 + 1] (w2.setCell ⟨ge + 1, j, none⟩ (.int .i64 (vj + 1))) ((w2.setCell ⟨ge + 1, j, none⟩ (.int .i64 (vj + 1))).setCell ⟨g0, k, none⟩ (.slice (some ⟨ge + 1, 0, none⟩) N N)) := (Touch.refl _ _).setCell (p := ⟨g0, k, none⟩) (by simp) _
          have l0 := ownsRow_block (w' := (w2.setCell ⟨ge + 1, j, none⟩ (.int .i64 (vj + 1))).setCell ⟨g0, k, none⟩ (.slice (some ⟨ge + 1, 0, none⟩) N N)) hlaF fun kk hkk => Below.heap_setCell _ _ _ kk (fun e => by simp [Value.ownBlock] at hkk; simp at e; omega)
          have r1 := (l0.stored j (.slice (some ⟨ge + 1, 0, none⟩) N N)).1
          have r0' := ownsRow_block (w' := ((w2.setCell ⟨ge + 1, j, none⟩ (.int .i64 (vj + 1))).setCell ⟨g0, k, none⟩ (.slice (some ⟨ge + 1, 0, none⟩) N N)).setCell ⟨g0 + 1, j, none⟩ (.slice (some ⟨ge + 1, 0, none⟩) N N)) r0 fun kk hkk => Below.heap_setCell _ _ _ kk (fun e => by simp [Value.ownBlock] at hkk; simp at e; omega)
          have tB : Touch [g0, g0 + 1] (w2.setCell ⟨ge + 1, j, none⟩ (.int .i64 (vj + 1))) ((((w2.setCell ⟨ge + 1, j, none⟩ (.int .i64 (vj + 1))).setCell ⟨g0, k, none⟩ (.slice (some ⟨ge + 1, 0, none⟩) N N)).setCell ⟨g0 + 1, j, none⟩ (.slice (some ⟨ge + 1, 0, none⟩) N N)).drew) := (tA.setCell (p := ⟨g0 + 1, j, none⟩) (by simp) _).drew
          have helsZ := helsF.touch tB fun b hb hm => by have := Hge.out b hb; simp at hm; omega
          have hOZ := hO.touch tB fun b hb hm => by simp at hb hm; omega
          have bTZ := below_touch bTF tB (fun b hb => by simp at hb; have := hg0; omega) bTF.size
          have eset : (xs ++ List.replicate (n - k) (Value.slice none 0 0)).set k (.slice (some ⟨ge + 1, 0, none⟩) N N) = (xs ++ [.slice (some ⟨ge + 1, 0, none⟩) N N]) ++ List.replicate (n - (k + 1)) (Value.slice none 0 0) := by
            obtain ⟨m, hm⟩ : ∃ m, n - k = m + 1 := ⟨n - k - 1, by omega⟩
            have hxl := Hxl.out
            rw [List.set_append_right _ _ (by omega), hxl, Nat.sub_self, hm, List.replicate_succ, List.set_cons_zero, show n - (k + 1) = m by omega, List.append_assoc]
            rfl
          rw [eset] at r0'
          have R0 := Lib.hid r0'.drew
          have R1 := Lib.hid r1.drew
          have HZ := Lib.hid helsZ
          have HOZ := Lib.hid hOZ
          have BTZ := Lib.hid bTZ
          have hkI : (k : Int) < (n : Int) := by omega
          have hk0 : (0 : Int) ≤ (k : Int) := by omega
          have ne1 : g0 ≠ g0 + 1 := by omega
          have ne2 : g0 ≠ ge := by omega
          have ne3 : g0 + 1 ≠ ge := by omega
          have ne4 : g0 ≠ ge + 1 := by omega
          have ne5 : g0 + 1 ≠ ge + 1 := by omega
          clear hO hT helsF hclF hlaF bTF r0 r1 r0' l0 tA tB helsZ hOZ bTZ eset
          go_region
          all_goals
            go_wp2_with fail
            go_roundw
            case rel =>
              refine ⟨k + 1, xs ++ [.slice (some ⟨ge + 1, 0, none⟩) N N], ys.set j (.slice (some ⟨ge + 1, 0, none⟩) N N), B ++ [ge + 1], by omega, by go_num, ?_, R0.out, R1.out, lastRow_step Hlr.out Hek.out hjN Hxl.out, ?_, ?_, BTZ.out⟩
              · rw [ckTo_succ Hek.out]
                have e : ckV N l k (ckTo N l k) ⟨j, y⟩ = incAt (rb) j := by
                  unfold ckV
                  rw [HkB.out]
                rw [e, Hvj.out]
                exact OwnEls.snoc HZ.out HOZ.out.2
              · refine List.nodup_append.2 ⟨Hnd.out, by simp, fun x hx z hz e => ?_⟩
                simp at hz
                have := HBlt.out x hx
                omega
              · intro b hb
                rcases List.mem_append.1 hb with hb | hb
                · exact Hge.out b hb
                · simp at hb; omega
            case measure => simp [intOf]; omega
    · obtain rfl : k = n := by omega
      go_wp2_with fail
      go_ret
      rw [Nat.sub_self, List.replicate_zero, List.append_nil] at hcl
      refine ⟨_, _, _, rfl, OwnL.mk_ (by rw [ckTo_len]) hcl hels, ?_, ?_, hbel⟩
      · simp only [Value.ownBlock, Option.toList_some, List.singleton_append, List.nodup_cons]
        exact ⟨fun hm => by have := hge _ hm; omega, hnd⟩
      · intro b hb
        simp only [Value.ownBlock, Option.toList_some, List.singleton_append, List.mem_cons] at hb
        rcases hb with rfl | hb
        · omega
        · have := hge b hb; omega
end Go.Proofs.Ytmkhahiefdcinaa
