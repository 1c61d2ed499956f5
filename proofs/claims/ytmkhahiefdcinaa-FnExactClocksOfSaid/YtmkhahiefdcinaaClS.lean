/-
  Contracts: l11Clocks, ClocksOf of the reference.
-/
import Derived.Test.YtmkhahiefdcinaaClM
import Derived.Deep.AppendLies
namespace Go.Proofs.Ytmkhahiefdcinaa
open Go.ChangeShapes Go.WideShapes Go.ChangeAt Go.RowKit Go.BigFrame Go.Deep
set_option linter.unusedVariables false

set_option maxHeartbeats 4000000
theorem own_zs (w : World) (N : Nat) (hN : N ≤ 1000000) : (w.alloc (.cells (madeCells #[.int .i64 0] N) 3)).ownsRow w.heap.size 3 1 (.slice (some ⟨w.heap.size, 0, none⟩) N N) N (encs (zs N)) := by
  have := own_made w #[.int .i64 0] 3 (List.replicate N (0 : Int)) (n := N) (s := 1) rfl rfl (by simp) (by omega)
  rw [Nat.mul_one, fill_zero, List.length_replicate] at this
  exact this
theorem news_one_own {w : World} {v : Value} {e : TypeId} {g : Nat} (hg : g = w.heap.size) : ∀ j u, [v][j]? = some u → (w.alloc (.cells #[v] e)).cell? ((⟨g, 0, none⟩ : Addr).add j) = some u := by
  subst hg
  intro j u hj
  match j, hj with
  | 0, hj => simp at hj; subst hj; simp [Addr.add]
/-- What was so below the heap's end is so behind a call. -/
theorem OwnL.lift {w w' : World} {l : List Int} {A : Option Addr} {n c : Nat} {C : List Nat} (h : OwnL w C l A n c) (hb : Below w.heap.size w w') : OwnL w' C l A n c := h.below hb
theorem l11Clocks_any (N : Nat) (hN1 : 1 ≤ N) (hN2 : N ≤ 5) (l : List P2) (hl : ∀ i, i < l.length → ∀ e, l[i]? = some e → 0 ≤ e.a ∧ e.a ≤ (N : Int) - 1 ∧ -1 ≤ e.b ∧ e.b ≤ (i : Int) - 1) (hlen : l.length ≤ 40) (w : World) (S : Nat → Prop) (hS : ∀ b, S b → b < w.heap.size) (A : Option Addr) (n c : Nat) (hl0 : RepL w S l A n c) :
    Calls Try.prog 56 #[.int .i64 N, .slice A n c] w fun x w' => ∃ A2 c2 B, x = .returned (.slice A2 n c2) ∧ OwnL w' B (ckTo N l n) A2 n c2 ∧ B.Nodup ∧ (∀ b ∈ B, w.heap.size ≤ b) ∧ Below w.heap.size w w' := by
  obtain ⟨i0, hi, hz0, hz1, hz2⟩ := info_parts infoInt
  have hinfo : (Try.prog.info? 30).map (fun i => (i.zero, i.size, i.bytes)) = some (some (.slice none 0 0), 1, 24) := by kernel_rfl
  obtain ⟨i1, hi', hz0', hz1', hz2'⟩ := info_parts hinfo
  have hmk : ∀ W, (Instr.makeSlice 30 (.int .i64 (N : Int)) (.int .i64 (N : Int))).run Try.prog W = .ok (.slice (some ⟨W.heap.size, 0, none⟩) N N) (W.alloc (.cells (madeCells #[.int .i64 0] N) 3)) := fun W => by
    have := run_make_rowN (P := Try.prog) 30 3 i0 _ Try.underlying30 hi hz0 .i64 .i64 N N (Nat.le_refl _) (by rw [hz2]; omega) (by omega) W
    rw [hz1, Nat.mul_one] at this
    exact this
  have hbd := hl0.bd
  have hn := hl0.1
  have hn40 : n ≤ 40 := by omega
  have Hn := Lib.hid hn
  have Hl := Lib.hid hl
  clear hn hl
  go_enter Try.func56, Try.ntmps56
  go_wp2_with fail
  go_loopw [5, 12] (fun o i wr => ∃ (k : Nat) (xs : List Value) (B : List Nat), k ≤ n ∧ i = .int .i64 k ∧ OwnEls wr (ckTo N l k) xs B ∧ wr.ownsRow w.heap.size 30 1 o k xs ∧ (o.ownBlock.toList ++ B).Nodup ∧ (∀ b ∈ B, w.heap.size ≤ b) ∧ Below w.heap.size w wr) (fun _ i _ => n - (intOf i).toNat)
  case atStart => exact ⟨0, [], [], Nat.zero_le _, rfl, ⟨rfl, rfl⟩, World.ownsRow_nil _ _ _ _, by simp [Value.ownBlock], fun b hb => (nomatch hb), Below.refl _ _⟩
  case round =>
    obtain ⟨k, xs, B, hk, rfl, hels, hown, hnd, hge, hbel⟩ := hrel
    obtain ⟨A2, c2, rfl⟩ := own_slice hown
    by_cases hlt : k < n
    · have hl1 : k < l.length := by have := Hn.out; omega
      obtain ⟨b, off, xs', rfl, hSb, hc, rfl, hi1, hi2⟩ := hl0.at_ hl1
      have hc0 := hc 0 _ rfl
      have hc1 := hc 1 _ rfl
      clear hc
      generalize hek : l[k] = ek at hc0 hc1 hi1 hi2
      obtain ⟨x, y⟩ := ek
      have hek' : l[k]? = some ⟨x, y⟩ := by rw [List.getElem?_eq_getElem hl1, hek]
      obtain ⟨hx1, hx2, hy1, hy2⟩ := Hl.out k hl1 _ hek'
      obtain ⟨j, rfl⟩ := Int.eq_ofNat_of_zero_le hx1
      have hjN : j < N := by have : (j : Int) ≤ (N : Int) - 1 := hx2; omega
      have hc0' : wr.cell? ⟨b, off + k * 2, none⟩ = some (.int .i64 j) := (hbel.cell (hS _ hSb)).trans hc0
      have hc1' : wr.cell? ⟨b, off + k * 2 + 1, none⟩ = some (.int .i64 y) := (hbel.cell (hS _ hSb)).trans hc1
      have Hek := Lib.hid hek'
      have hy1' : -1 ≤ y := hy1
      have hy2' : y ≤ (k : Int) - 1 := hy2
      -- the world behind the two allocs
      obtain ⟨ge, hge'⟩ : ∃ g, wr.heap.size = g := ⟨_, rfl⟩
      obtain ⟨W, hW⟩ : ∃ W, W = (wr.alloc (.cells #[.int .i64 j, .int .i64 y] 64)).alloc (.cells (madeCells #[.int .i64 0] N) 3) := ⟨_, rfl⟩
      have bW : Below wr.heap.size wr W := by rw [hW]; exact ((Below.refl _ _).alloc (Nat.le_refl _) _).alloc (by simp) _
      have f0 : W.cell? ⟨ge, 0, none⟩ = some (.int .i64 j) := by rw [hW, ← hge']; simp
      have f1 : W.cell? ⟨ge, 1, none⟩ = some (.int .i64 y) := by rw [hW, ← hge']; simp
      have hWs : W.heap.size = ge + 2 := by rw [hW, ← hge']; simp
      have ho0 : OwnL W [ge + 1] (zs N) (some ⟨ge + 1, 0, none⟩) N N := by
        have := own_zs (wr.alloc (.cells #[.int .i64 j, .int .i64 y] 64)) N (by omega)
        rw [← hW] at this
        have e : (wr.alloc (.cells #[.int .i64 j, .int .i64 y] 64)).heap.size = ge + 1 := by rw [← hge']; simp
        rw [e] at this
        exact OwnL.flat (s := 1) rfl (by simp [zs]) this ((zs_is N (Int.le_refl 0)).ok (by omega))
      have hBlt : ∀ b ∈ B, b < ge := fun b hb => by have := hels.lt b hb; omega
      have hA2 : ∀ kk, (Value.slice A2 k c2).ownBlock = some kk → w.heap.size ≤ kk ∧ kk < ge := fun kk hkk => by have := hown.lt kk hkk; omega
      have helsW := hels.keep fun b hb => bW.block b (hels.lt b hb)
      have hownW := own_below hown bW
      have HW := Lib.hid hW
      have hckis := ckTo_is N l k
      have hlb := lastAt_bd l k (j : Int)
      obtain ⟨p, hp⟩ : ∃ p, lastAt l k (j : Int) = p := ⟨_, rfl⟩
      rw [hp] at hlb
      have CPr := Lib.hid (fun W S hS h => l11Prior_any l k j y hek' W S hS (some ⟨b, off, none⟩) n c h)
      rw [hp] at CPr
      have Hp := Lib.hid hp
      have Hckis := Lib.hid hckis
      clear hp hckis
      have HbW := Lib.hid bW
      clear hc0 hc1 hek hek' hi1 hi2 hW hels hown hx1 hx2 hy1 hy2
      go_wp2_with fail
      try simp only [hge']
      rw [← HW.out]
      refine (CPr.out W S (fun b hb => Nat.lt_of_lt_of_le (hS b hb) (Nat.le_trans hbel.size bW.size)) (hl0.keep (w' := W) (fun q hq => (bnext hbel bW).cell (hS _ hq)))).mono ?_
      rintro e w1 ⟨rfl, b1⟩
      have z1 := b1.size
      have zW := bW.size
      have g0 : w1.cell? ⟨ge, 0, none⟩ = some (.int .i64 j) := (b1.cell (p := ⟨ge, 0, none⟩) (by show ge < W.heap.size; omega)).trans f0
      have g1 : w1.cell? ⟨ge, 1, none⟩ = some (.int .i64 y) := (b1.cell (p := ⟨ge, 1, none⟩) (by show ge < W.heap.size; omega)).trans f1
      have o1 := ho0.below b1
      have hels1 := helsW.keep fun b hb => b1.block b (helsW.lt b hb)
      have hown1 := own_below hownW b1
      have bT1 := bnext hbel (bnext bW b1)
      clear helsW hownW ho0 f0 f1
      have hplt : p < (k : Int) := hlb.2
      have HBlt := Lib.hid hBlt
      have HA2 := Lib.hid hA2
      clear hBlt hA2
      have bg1 : ∀ b ∈ [ge + 1], ge < b := fun b hb => by simp at hb; omega
      have nd1 : [ge + 1].Nodup := by simp
      have hgeW : ge < w1.heap.size := by omega
      by_cases hp0 : 0 ≤ p
      · obtain ⟨q, rfl⟩ := Int.eq_ofNat_of_zero_le hp0
        have hq : q < k := by omega
        obtain ⟨g2, rfl, hg2, -⟩ := ownsRow_addr hown1 (by omega)
        have hri := rowAt_is (Int.natCast_nonneg k) Hckis.out (q : Int)
        obtain ⟨Aq, cq, e3, k2⟩ := hels1.rowOf (q := q) (r := rowAt N (ckTo N l k) (q : Int)) (by rw [rowAt_nat _ _ (by rw [ckTo_len]; exact hq)]; exact List.getElem?_eq_getElem (by rw [ckTo_len]; exact hq))
        rw [hri.1] at e3 k2
        have k1 : w1.cell? ⟨g2, q, none⟩ = some (.slice Aq N cq) := by rw [hown1.cellAt q (by omega)]; exact e3
        have hqI : (q : Int) < (k : Int) := by omega
        have CM := Lib.hid (l11Most_any (zs N) (rowAt N (ckTo N l k) (q : Int)) (by rw [hri.1]; simp [zs]) w1 _ (fun x hx => hx) _ _ N N N cq (by omega) (o1.rep.more fun b hb => o1.lt b hb) k2)
        rw [mostL_zs hri] at CM
        have Hri := Lib.hid hri
        have HP := Lib.hid (show rowAt N (ckTo N l k) (lastAt l k (j : Int)) = rowAt N (ckTo N l k) (q : Int) by rw [Hp.out])
        clear k2 hri e3
        go_wp2_with fail
        refine (CM.out).mono ?_
        rintro e w2 ⟨A3, c3, rfl, ho3, -, b2⟩
        have z2 := b2.size
        obtain ⟨o2, nd2, hF2⟩ := OwnL.made rfl ho3 Hri.out.1.symm (Hri.out.ok (by omega))
        obtain ⟨C2, hC2⟩ : ∃ C, (Value.slice A3 N c3).ownBlock.toList = C := ⟨_, rfl⟩
        rw [hC2] at o2 nd2 hF2
        have HbC := Lib.hid (show ∀ b ∈ C2, b ∉ B from fun b hb hm => by have := HBlt.out b hm; have := hF2 b hb; omega)
        have bg2 : ∀ b ∈ C2, ge < b := fun b hb => by have := hF2 b hb; omega
        have h0 : w2.cell? ⟨ge, 0, none⟩ = some (.int .i64 j) := (b2.cell (p := ⟨ge, 0, none⟩) hgeW).trans g0
        have h1 : w2.cell? ⟨ge, 1, none⟩ = some (.int .i64 y) := (b2.cell (p := ⟨ge, 1, none⟩) hgeW).trans g1
        have hels2 := hels1.keep fun b hb => b2.block b (hels1.lt b hb)
        have hown2 := own_below hown1 b2
        have bT2 := bnext bT1 b2
        have HC2 := Lib.hid hC2
        rw [← HP.out] at o2
        clear hels1 hown1 g0 g1 o1 ho3 hF2 hC2 CM HP Hri k1 hqI b2 hq
        by_cases hy0 : 0 ≤ y
        · obtain ⟨f, rfl⟩ := Int.eq_ofNat_of_zero_le hy0
          have hf : f < k := by omega
          obtain ⟨g2, e2, hg2, -⟩ := ownsRow_addr hown2 (by omega)
          simp only [Option.some.injEq, Addr.mk.injEq, and_true] at e2
          subst e2
          have hri := rowAt_is (Int.natCast_nonneg k) Hckis.out (f : Int)
          have hrb := rowAt_is (Int.natCast_nonneg k) Hckis.out (lastAt l k (j : Int))
          obtain ⟨Aq, cq, e3, k2⟩ := hels2.rowOf (q := f) (r := rowAt N (ckTo N l k) (f : Int)) (by rw [rowAt_nat _ _ (by rw [ckTo_len]; exact hf)]; exact List.getElem?_eq_getElem (by rw [ckTo_len]; exact hf))
          rw [hri.1] at e3 k2
          have k1 : w2.cell? ⟨g2, f, none⟩ = some (.slice Aq N cq) := by rw [hown2.cellAt f (by omega)]; exact e3
          have hfI : (f : Int) < (k : Int) := by omega
          have CM := Lib.hid (l11Most_any (rowAt N (ckTo N l k) (lastAt l k (j : Int))) (rowAt N (ckTo N l k) (f : Int)) (by rw [hri.1, hrb.1]) w2 _ (fun x hx => hx) _ _ N _ N cq (by omega) (o2.rep.more fun b hb => o2.lt b hb) k2)
          have HkB := Lib.hid (show ckB N l k (ckTo N l k) ⟨j, f⟩ = mostL (rowAt N (ckTo N l k) (lastAt l k (j : Int))) (rowAt N (ckTo N l k) (f : Int)) by unfold ckB; rw [if_pos (show (0 : Int) ≤ (f : Int) by omega)])
          have Hmi := Lib.hid (mostL_is hrb hri)
          clear k2 hri hrb e3
          go_wp2_with fail
          refine (CM.out).mono ?_
          rintro e w3 ⟨A4, c4, rfl, ho4, -, b3⟩
          have z3 := b3.size
          obtain ⟨o3, nd3, hF3⟩ := OwnL.made rfl ho4 Hmi.out.1.symm (Hmi.out.ok (by omega))
          obtain ⟨C3, hC3⟩ : ∃ C, (Value.slice A4 N c4).ownBlock.toList = C := ⟨_, rfl⟩
          rw [hC3] at o3 nd3 hF3
          have bg3 : ∀ b ∈ C3, ge < b ∧ b ∉ B := fun b hb => ⟨by have := hF3 b hb; omega, fun hm => by have := hels2.lt b hm; have := hF3 b hb; omega⟩
          have h2 : w3.cell? ⟨ge, 0, none⟩ = some (.int .i64 j) := (b3.cell (p := ⟨ge, 0, none⟩) (by show ge < w2.heap.size; omega)).trans h0
          have hels3 := hels2.keep fun b hb => b3.block b (hels2.lt b hb)
          have hown3 := own_below hown2 b3
          have bT3 := bnext bT2 b3
          rw [← HkB.out] at o3
          have HC3 := Lib.hid hC3
          clear hels2 hown2 h0 h1 o2 ho4 hF3 hC3 CM HkB Hmi k1 hfI b3 hf
          have hbi := ckB_is (N := N) (l := l) (k := k) (e := ⟨j, f⟩) (Int.natCast_nonneg k) Hckis.out
          have hjl : j < (ckB N l k (ckTo N l k) ⟨j, f⟩).length := by rw [hbi.1]; exact hjN
          obtain ⟨gc, eA, hCg, hgcl, hcc, hcf, hci, hst⟩ := o3.intAt hjl
          subst eA
          have hjb := hbi.2 _ (List.getElem_mem hjl)
          have Hck := Lib.hid (show ckTo N l (k + 1) = ckTo N l k ++ [(ckB N l k (ckTo N l k) ⟨j, f⟩).set j ((ckB N l k (ckTo N l k) ⟨j, f⟩)[j] + 1)] by rw [ckTo_succ Hek.out]; unfold ckV; rw [incAt_nat _ _ hjl])
          generalize hvj : (ckB N l k (ckTo N l k) ⟨j, f⟩)[j] = vj at *
          have hw : IntKind.i64.wrap (vj + 1) = vj + 1 := by rw [IntKind.wrap_i64]; omega
          obtain ⟨hO, hT⟩ := hst (vj + 1) ⟨by omega, by omega⟩
          have hjI : (j : Int) < (N : Int) := by omega
          have hj0 : (0 : Int) ≤ (j : Int) := by omega
          have hgcB : gc ∉ B ∧ ge < gc := by have := bg3 gc (by rw [hCg]; simp); exact ⟨this.2, this.1⟩
          have helsF := hels3.touch hT fun b hb hm => by rw [hCg] at hm; simp at hm; subst hm; exact hgcB.1 hb
          have hownF := ownsRow_touch hown3 hT fun kk hkk hm => by
            rw [hCg] at hm; simp at hm; subst hm
            have := HA2.out _ hkk
            omega
          have bTF := below_touch bT3 hT (fun b hb => by rw [hCg] at hb; simp at hb; subst hb; have := hbel.size; omega) bT3.size
          have zF := hT.size
          have HbTF := Lib.hid bTF
          have HownF := Lib.hid hownF
          have hgl := hO.lt gc (by rw [hCg]; simp)
          clear hvj hst hbi hjl hels3 hown3
          go_wp2_with (at_builtin; refine Go.wpList_append_own_at _ rfl (.tmp 47) (.tmp 49) _ rfl w.heap.size 30 i1 _ 1 24 Try.underlying40 hi' hz0' hz1' hz2' rfl (by omega) (.slice (some ⟨g2, 0, none⟩) k c2) k xs rfl (HownF.out.alloc _) ⟨w3.heap.size, 0, none⟩ 1 1 [.slice (some ⟨gc, 0, none⟩) N _] rfl rfl (news_one_own (by simp)) (by intro u' hu'; simp at hu'; subst hu'; rfl) (by unfold maxLen; omega) (by omega) (by have := HbTF.out.size; simp at this ⊢; omega) ?_; intro v1 w9 hown9 hg9 hnil9 hat9)
          go_roundw
          case rel =>
            have hT9 : Touch (Value.slice (some ⟨g2, 0, none⟩) k c2).ownBlock.toList _ w9 := ((Touch.refl _ _).alloc _).trans (Touch.grown hg9 fun kk hkk => by rw [hkk]; simp)
            have hnk := snoc_own helsF hO.2 hnd (by rw [hCg]; simp) (fun b hb hm => by
              rw [hCg] at hb; simp at hb; subst hb
              rcases List.mem_append.1 hm with hm | hm
              · have := HA2.out b (by simpa using hm); omega
              · exact hgcB.1 hm) hT9 hat9 (by simp)
            refine ⟨k + 1, xs ++ [_], B ++ C3, by omega, by go_num, by rw [Hck.out]; exact hnk.1, hown9, hnk.2, fun b hb => ?_, own_base (HownF.out.alloc _) (HbTF.out.alloc HbTF.out.size _) (Nat.le_refl _) hg9 (by have := HbTF.out.size; simp at this ⊢; omega)⟩
            rcases List.mem_append.1 hb with hb | hb
            · exact hge b hb
            · have := bg3 b hb; have := hbel.size; omega
          case measure => simp [intOf]; omega
        · have HkB := Lib.hid (show ckB N l k (ckTo N l k) ⟨j, y⟩ = rowAt N (ckTo N l k) (lastAt l k (j : Int)) by unfold ckB; rw [if_neg hy0])
          have dy0 : decide (0 ≤ y) = false := decide_eq_false hy0
          rw [← HkB.out] at o2
          have bg3 : ∀ b ∈ C2, ge < b ∧ b ∉ B := fun b hb => ⟨bg2 b hb, fun hm => HbC.out b hb hm⟩
          clear HkB
          have hbi := ckB_is (N := N) (l := l) (k := k) (e := ⟨j, y⟩) (Int.natCast_nonneg k) Hckis.out
          have hjl : j < (ckB N l k (ckTo N l k) ⟨j, y⟩).length := by rw [hbi.1]; exact hjN
          obtain ⟨gc, eA, hCg, hgcl, hcc, hcf, hci, hst⟩ := o2.intAt hjl
          subst eA
          have hjb := hbi.2 _ (List.getElem_mem hjl)
          have Hck := Lib.hid (show ckTo N l (k + 1) = ckTo N l k ++ [(ckB N l k (ckTo N l k) ⟨j, y⟩).set j ((ckB N l k (ckTo N l k) ⟨j, y⟩)[j] + 1)] by rw [ckTo_succ Hek.out]; unfold ckV; rw [incAt_nat _ _ hjl])
          generalize hvj : (ckB N l k (ckTo N l k) ⟨j, y⟩)[j] = vj at *
          have hw : IntKind.i64.wrap (vj + 1) = vj + 1 := by rw [IntKind.wrap_i64]; omega
          obtain ⟨hO, hT⟩ := hst (vj + 1) ⟨by omega, by omega⟩
          have hjI : (j : Int) < (N : Int) := by omega
          have hj0 : (0 : Int) ≤ (j : Int) := by omega
          have hgcB : gc ∉ B ∧ ge < gc := by have := bg3 gc (by rw [hCg]; simp); exact ⟨this.2, this.1⟩
          have helsF := hels2.touch hT fun b hb hm => by rw [hCg] at hm; simp at hm; subst hm; exact hgcB.1 hb
          have hownF := ownsRow_touch hown2 hT fun kk hkk hm => by
            rw [hCg] at hm; simp at hm; subst hm
            have := HA2.out _ hkk
            omega
          have bTF := below_touch bT2 hT (fun b hb => by rw [hCg] at hb; simp at hb; subst hb; have := hbel.size; omega) bT2.size
          have zF := hT.size
          have HbTF := Lib.hid bTF
          have HownF := Lib.hid hownF
          have hgl := hO.lt gc (by rw [hCg]; simp)
          clear hvj hst hbi hjl hels2 hown2
          go_wp2_with (at_builtin; refine Go.wpList_append_own_at _ rfl (.tmp 47) (.tmp 49) _ rfl w.heap.size 30 i1 _ 1 24 Try.underlying40 hi' hz0' hz1' hz2' rfl (by omega) (.slice (some ⟨g2, 0, none⟩) k c2) k xs rfl (HownF.out.alloc _) ⟨w2.heap.size, 0, none⟩ 1 1 [.slice (some ⟨gc, 0, none⟩) N _] rfl rfl (news_one_own (by simp)) (by intro u' hu'; simp at hu'; subst hu'; rfl) (by unfold maxLen; omega) (by omega) (by have := HbTF.out.size; simp at this ⊢; omega) ?_; intro v1 w9 hown9 hg9 hnil9 hat9)
          go_roundw
          case rel =>
            have hT9 : Touch (Value.slice (some ⟨g2, 0, none⟩) k c2).ownBlock.toList _ w9 := ((Touch.refl _ _).alloc _).trans (Touch.grown hg9 fun kk hkk => by rw [hkk]; simp)
            have hnk := snoc_own helsF hO.2 hnd (by rw [hCg]; simp) (fun b hb hm => by
              rw [hCg] at hb; simp at hb; subst hb
              rcases List.mem_append.1 hm with hm | hm
              · have := HA2.out b (by simpa using hm); omega
              · exact hgcB.1 hm) hT9 hat9 (by simp)
            refine ⟨k + 1, xs ++ [_], B ++ C2, by omega, by go_num, by rw [Hck.out]; exact hnk.1, hown9, hnk.2, fun b hb => ?_, own_base (HownF.out.alloc _) (HbTF.out.alloc HbTF.out.size _) (Nat.le_refl _) hg9 (by have := HbTF.out.size; simp at this ⊢; omega)⟩
            rcases List.mem_append.1 hb with hb | hb
            · exact hge b hb
            · have := bg3 b hb; have := hbel.size; omega
          case measure => simp [intOf]; omega
      · have HP := Lib.hid (show rowAt N (ckTo N l k) (lastAt l k (j : Int)) = zs N by rw [Hp.out, rowAt_neg _ hp0])
        have dp0 : decide (0 ≤ p) = false := decide_eq_false hp0
        rw [← HP.out] at o1
        clear HP
        by_cases hy0 : 0 ≤ y
        · obtain ⟨f, rfl⟩ := Int.eq_ofNat_of_zero_le hy0
          have hf : f < k := by omega
          obtain ⟨g2, e2, hg2, -⟩ := ownsRow_addr hown1 (by omega)
          subst e2
          have hri := rowAt_is (Int.natCast_nonneg k) Hckis.out (f : Int)
          have hrb := rowAt_is (Int.natCast_nonneg k) Hckis.out (lastAt l k (j : Int))
          obtain ⟨Aq, cq, e3, k2⟩ := hels1.rowOf (q := f) (r := rowAt N (ckTo N l k) (f : Int)) (by rw [rowAt_nat _ _ (by rw [ckTo_len]; exact hf)]; exact List.getElem?_eq_getElem (by rw [ckTo_len]; exact hf))
          rw [hri.1] at e3 k2
          have k1 : w1.cell? ⟨g2, f, none⟩ = some (.slice Aq N cq) := by rw [hown1.cellAt f (by omega)]; exact e3
          have hfI : (f : Int) < (k : Int) := by omega
          have CM := Lib.hid (l11Most_any (rowAt N (ckTo N l k) (lastAt l k (j : Int))) (rowAt N (ckTo N l k) (f : Int)) (by rw [hri.1, hrb.1]) w1 _ (fun x hx => hx) _ _ N _ N cq (by omega) (o1.rep.more fun b hb => o1.lt b hb) k2)
          have HkB := Lib.hid (show ckB N l k (ckTo N l k) ⟨j, f⟩ = mostL (rowAt N (ckTo N l k) (lastAt l k (j : Int))) (rowAt N (ckTo N l k) (f : Int)) by unfold ckB; rw [if_pos (show (0 : Int) ≤ (f : Int) by omega)])
          have Hmi := Lib.hid (mostL_is hrb hri)
          clear k2 hri hrb e3
          go_wp2_with fail
          refine (CM.out).mono ?_
          rintro e w3 ⟨A4, c4, rfl, ho4, -, b3⟩
          have z3 := b3.size
          obtain ⟨o3, nd3, hF3⟩ := OwnL.made rfl ho4 Hmi.out.1.symm (Hmi.out.ok (by omega))
          obtain ⟨C3, hC3⟩ : ∃ C, (Value.slice A4 N c4).ownBlock.toList = C := ⟨_, rfl⟩
          rw [hC3] at o3 nd3 hF3
          have bg3 : ∀ b ∈ C3, ge < b ∧ b ∉ B := fun b hb => ⟨by have := hF3 b hb; omega, fun hm => by have := hels1.lt b hm; have := hF3 b hb; omega⟩
          have h2 : w3.cell? ⟨ge, 0, none⟩ = some (.int .i64 j) := (b3.cell (p := ⟨ge, 0, none⟩) (by show ge < w1.heap.size; omega)).trans g0
          have hels3 := hels1.keep fun b hb => b3.block b (hels1.lt b hb)
          have hown3 := own_below hown1 b3
          have bT3 := bnext bT1 b3
          rw [← HkB.out] at o3
          have HC3 := Lib.hid hC3
          clear hels1 hown1 g0 g1 o1 ho4 hF3 hC3 CM HkB Hmi k1 hfI b3 hf
          have hbi := ckB_is (N := N) (l := l) (k := k) (e := ⟨j, f⟩) (Int.natCast_nonneg k) Hckis.out
          have hjl : j < (ckB N l k (ckTo N l k) ⟨j, f⟩).length := by rw [hbi.1]; exact hjN
          obtain ⟨gc, eA, hCg, hgcl, hcc, hcf, hci, hst⟩ := o3.intAt hjl
          subst eA
          have hjb := hbi.2 _ (List.getElem_mem hjl)
          have Hck := Lib.hid (show ckTo N l (k + 1) = ckTo N l k ++ [(ckB N l k (ckTo N l k) ⟨j, f⟩).set j ((ckB N l k (ckTo N l k) ⟨j, f⟩)[j] + 1)] by rw [ckTo_succ Hek.out]; unfold ckV; rw [incAt_nat _ _ hjl])
          generalize hvj : (ckB N l k (ckTo N l k) ⟨j, f⟩)[j] = vj at *
          have hw : IntKind.i64.wrap (vj + 1) = vj + 1 := by rw [IntKind.wrap_i64]; omega
          obtain ⟨hO, hT⟩ := hst (vj + 1) ⟨by omega, by omega⟩
          have hjI : (j : Int) < (N : Int) := by omega
          have hj0 : (0 : Int) ≤ (j : Int) := by omega
          have hgcB : gc ∉ B ∧ ge < gc := by have := bg3 gc (by rw [hCg]; simp); exact ⟨this.2, this.1⟩
          have helsF := hels3.touch hT fun b hb hm => by rw [hCg] at hm; simp at hm; subst hm; exact hgcB.1 hb
          have hownF := ownsRow_touch hown3 hT fun kk hkk hm => by
            rw [hCg] at hm; simp at hm; subst hm
            have := HA2.out _ hkk
            omega
          have bTF := below_touch bT3 hT (fun b hb => by rw [hCg] at hb; simp at hb; subst hb; have := hbel.size; omega) bT3.size
          have zF := hT.size
          have HbTF := Lib.hid bTF
          have HownF := Lib.hid hownF
          have hgl := hO.lt gc (by rw [hCg]; simp)
          clear hvj hst hbi hjl hels3 hown3
          go_wp2_with (at_builtin; refine Go.wpList_append_own_at _ rfl (.tmp 47) (.tmp 49) _ rfl w.heap.size 30 i1 _ 1 24 Try.underlying40 hi' hz0' hz1' hz2' rfl (by omega) (.slice (some ⟨g2, 0, none⟩) k c2) k xs rfl (HownF.out.alloc _) ⟨w3.heap.size, 0, none⟩ 1 1 [.slice (some ⟨gc, 0, none⟩) N _] rfl rfl (news_one_own (by simp)) (by intro u' hu'; simp at hu'; subst hu'; rfl) (by unfold maxLen; omega) (by omega) (by have := HbTF.out.size; simp at this ⊢; omega) ?_; intro v1 w9 hown9 hg9 hnil9 hat9)
          go_roundw
          case rel =>
            have hT9 : Touch (Value.slice (some ⟨g2, 0, none⟩) k c2).ownBlock.toList _ w9 := ((Touch.refl _ _).alloc _).trans (Touch.grown hg9 fun kk hkk => by rw [hkk]; simp)
            have hnk := snoc_own helsF hO.2 hnd (by rw [hCg]; simp) (fun b hb hm => by
              rw [hCg] at hb; simp at hb; subst hb
              rcases List.mem_append.1 hm with hm | hm
              · have := HA2.out b (by simpa using hm); omega
              · exact hgcB.1 hm) hT9 hat9 (by simp)
            refine ⟨k + 1, xs ++ [_], B ++ C3, by omega, by go_num, by rw [Hck.out]; exact hnk.1, hown9, hnk.2, fun b hb => ?_, own_base (HownF.out.alloc _) (HbTF.out.alloc HbTF.out.size _) (Nat.le_refl _) hg9 (by have := HbTF.out.size; simp at this ⊢; omega)⟩
            rcases List.mem_append.1 hb with hb | hb
            · exact hge b hb
            · have := bg3 b hb; have := hbel.size; omega
          case measure => simp [intOf]; omega
        · have HkB := Lib.hid (show ckB N l k (ckTo N l k) ⟨j, y⟩ = rowAt N (ckTo N l k) (lastAt l k (j : Int)) by unfold ckB; rw [if_neg hy0])
          have dy0 : decide (0 ≤ y) = false := decide_eq_false hy0
          rw [← HkB.out] at o1
          have bg3 : ∀ b ∈ [ge + 1], ge < b ∧ b ∉ B := fun b hb => ⟨bg1 b hb, fun hm => by have := HBlt.out b hm; simp at hb; omega⟩
          clear HkB
          have hbi := ckB_is (N := N) (l := l) (k := k) (e := ⟨j, y⟩) (Int.natCast_nonneg k) Hckis.out
          have hjl : j < (ckB N l k (ckTo N l k) ⟨j, y⟩).length := by rw [hbi.1]; exact hjN
          obtain ⟨gc, eA, hCg, hgcl, hcc, hcf, hci, hst⟩ := o1.intAt hjl
          simp only [Option.some.injEq, Addr.mk.injEq, and_true] at eA
          rw [eA]
          have hjb := hbi.2 _ (List.getElem_mem hjl)
          have Hck := Lib.hid (show ckTo N l (k + 1) = ckTo N l k ++ [(ckB N l k (ckTo N l k) ⟨j, y⟩).set j ((ckB N l k (ckTo N l k) ⟨j, y⟩)[j] + 1)] by rw [ckTo_succ Hek.out]; unfold ckV; rw [incAt_nat _ _ hjl])
          generalize hvj : (ckB N l k (ckTo N l k) ⟨j, y⟩)[j] = vj at *
          have hw : IntKind.i64.wrap (vj + 1) = vj + 1 := by rw [IntKind.wrap_i64]; omega
          obtain ⟨hO, hT⟩ := hst (vj + 1) ⟨by omega, by omega⟩
          have hjI : (j : Int) < (N : Int) := by omega
          have hj0 : (0 : Int) ≤ (j : Int) := by omega
          have hgcB : gc ∉ B ∧ ge < gc := by have := bg3 gc (by rw [hCg]; simp); exact ⟨this.2, this.1⟩
          have helsF := hels1.touch hT fun b hb hm => by rw [hCg] at hm; simp at hm; subst hm; exact hgcB.1 hb
          have hownF := ownsRow_touch hown1 hT fun kk hkk hm => by
            rw [hCg] at hm; simp at hm; subst hm
            have := HA2.out _ hkk
            omega
          have bTF := below_touch bT1 hT (fun b hb => by rw [hCg] at hb; simp at hb; subst hb; have := hbel.size; omega) bT1.size
          have zF := hT.size
          have HbTF := Lib.hid bTF
          have HownF := Lib.hid hownF
          have hgl := hO.lt gc (by rw [hCg]; simp)
          clear hvj hst hbi hjl hels1 hown1
          go_wp2_with (at_builtin; refine Go.wpList_append_own_at _ rfl (.tmp 47) (.tmp 49) _ rfl w.heap.size 30 i1 _ 1 24 Try.underlying40 hi' hz0' hz1' hz2' rfl (by omega) (.slice A2 k c2) k xs rfl (HownF.out.alloc _) ⟨w1.heap.size, 0, none⟩ 1 1 [.slice (some ⟨gc, 0, none⟩) N _] rfl rfl (news_one_own (by simp)) (by intro u' hu'; simp at hu'; subst hu'; rfl) (by unfold maxLen; omega) (by omega) (by have := HbTF.out.size; simp at this ⊢; omega) ?_; intro v1 w9 hown9 hg9 hnil9 hat9)
          go_roundw
          case rel =>
            have hT9 : Touch (Value.slice A2 k c2).ownBlock.toList _ w9 := ((Touch.refl _ _).alloc _).trans (Touch.grown hg9 fun kk hkk => by rw [hkk]; simp)
            have hnk := snoc_own helsF hO.2 hnd (by rw [hCg]; simp) (fun b hb hm => by
              rw [hCg] at hb; simp at hb; subst hb
              rcases List.mem_append.1 hm with hm | hm
              · have := HA2.out b (by simpa using hm); omega
              · exact hgcB.1 hm) hT9 hat9 (by simp)
            refine ⟨k + 1, xs ++ [_], B ++ [ge + 1], by omega, by go_num, by rw [Hck.out, ← eA]; exact hnk.1, hown9, hnk.2, fun b hb => ?_, own_base (HownF.out.alloc _) (HbTF.out.alloc HbTF.out.size _) (Nat.le_refl _) hg9 (by have := HbTF.out.size; simp at this ⊢; omega)⟩
            rcases List.mem_append.1 hb with hb | hb
            · exact hge b hb
            · have := bg3 b hb; have := hbel.size; omega
          case measure => simp [intOf]; omega
    · obtain rfl : k = n := by omega
      go_wp2_with fail
      go_ret
      refine ⟨A2, c2, _, rfl, OwnL.mk_ (by rw [ckTo_len]) hown hels, hnd, fun b hb => ?_, hbel⟩
      rcases List.mem_append.1 hb with hb | hb
      · exact (hown.lt b (by simpa using hb)).1
      · exact hge b hb

/-- What ClocksOf answers. -/
noncomputable def ckOf (nodes : Int) (l : List P2) : List (List Int) := if goodEv nodes l then ckTo nodes.toNat l l.length else []
end Go.Proofs.Ytmkhahiefdcinaa
