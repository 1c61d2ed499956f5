/-
  Contract: IsCut of the reference.
-/
import Derived.Test.YtmkhahiefdcinaaIcU
import Derived.Test.YtmkhahiefdcinaaIcT
namespace Go.Proofs.Ytmkhahiefdcinaa
open Go.ChangeShapes Go.WideShapes Go.ChangeAt Go.RowKit Go.BigFrame
set_option linter.unusedVariables false

set_option maxHeartbeats 4000000

/-- Event i lies inside the cut. -/
def inV (l : List P2) (u : List Int) (i : Nat) : Bool := match l[i]? with | some e => decide (atV l i ≤ u.getD e.a.toNat 0) | none => false
/-- Event k lies inside, the event that it came from does not. -/
def cutBad (l : List P2) (u : List Int) (k : Nat) : Bool := match l[k]? with | some e => inV l u k && (decide (0 ≤ e.b) && !inV l u e.b.toNat) | none => false
def cutGood (l : List P2) (u : List Int) : Bool := (List.range l.length).all fun k => !cutBad l u k
/-- What IsCut asks. -/
noncomputable def cutOk (nodes : Int) (l : List P2) (u : List Int) : Bool := goodEv nodes l && uptoB nodes.toNat l u
theorem inV_eq {l : List P2} {u : List Int} {i j : Nat} {y x : Int} {r : Bool} (h : l[i]? = some ⟨j, y⟩) (hu : u[j]? = some x) (hr : decide (atV l i ≤ x) = r) : inV l u i = r := by
  unfold inV
  rw [h]
  show decide (atV l i ≤ u.getD (j : Int).toNat 0) = r
  rw [Int.toNat_natCast, List.getD_eq_getElem?_getD, hu]
  exact hr
theorem cutBad_out {l : List P2} {u : List Int} {k : Nat} {e : P2} (h : l[k]? = some e) (hk : inV l u k = false) : cutBad l u k = false := by
  unfold cutBad
  rw [h]
  simp [hk]
theorem cutBad_none {l : List P2} {u : List Int} {k : Nat} {x y : Int} (h : l[k]? = some ⟨x, y⟩) (hy : ¬ 0 ≤ y) : cutBad l u k = false := by
  unfold cutBad
  rw [h]
  simp [hy]
theorem cutBad_eq {l : List P2} {u : List Int} {k f : Nat} {x : Int} {r : Bool} (h : l[k]? = some ⟨x, f⟩) (hk : inV l u k = true) (hf : inV l u f = r) : cutBad l u k = !r := by
  unfold cutBad
  rw [h]
  simp [hk, hf]
theorem cutGood_yes {l : List P2} {u : List Int} {n : Nat} (hn : n = l.length) (h : ∀ i, i < n → cutBad l u i = false) : cutGood l u = true := by
  subst hn
  unfold cutGood
  rw [List.all_eq_true]
  intro i hi
  rw [h i (List.mem_range.1 hi)]
  rfl
theorem cutGood_no {l : List P2} {u : List Int} {k : Nat} (hk : k < l.length) (h : cutBad l u k = true) : cutGood l u = false := by
  unfold cutGood
  rw [← Bool.not_eq_true, List.all_eq_true]
  intro h'
  have := h' k (List.mem_range.2 hk)
  rw [h] at this
  cases this
theorem bad_succ {l : List P2} {u : List Int} {k : Nat} (h : ∀ i, i < k → cutBad l u i = false) (hk : cutBad l u k = false) : ∀ i, i < k + 1 → cutBad l u i = false := by
  intro i hi
  by_cases e : i = k
  · rw [e]; exact hk
  · exact h i (by omega)
open Classical in
theorem uptoB_get {N : Nat} {l : List P2} {u : List Int} (h : uptoB N l u = true) : u.length = N := by
  unfold uptoB at h
  exact (of_decide_eq_true h).1

theorem spec_IsCut_any (nodes : Int) (hnodes : I64 nodes) (l : List P2) (u : List Int) (w : World) (S : Nat → Prop) (hS : ∀ b, S b → b < w.heap.size) (A A' : Option Addr) (n c n' c' : Nat) (hl0 : RepL w S l A n c) (hl1 : RepL w S u A' n' c') :
    Calls Try.prog 21 #[.int .i64 nodes, .slice A n c, .slice A' n' c'] w fun x w' => x = .returned (.tuple #[.bool (cutOk nodes l u && cutGood l u), .bool (cutOk nodes l u)]) ∧ Below w.heap.size w w' := by
  have hbd := hl0.bd
  have hbd' := hl1.bd
  obtain ⟨hn, -⟩ := id hl0
  obtain ⟨hn', -⟩ := id hl1
  obtain ⟨r0, hr0⟩ : ∃ r, goodEv nodes l = r := ⟨_, rfl⟩
  have Hn := Lib.hid hn
  have Hn' := Lib.hid hn'
  have R0 := Lib.hid hr0
  clear hn hn' hr0
  cases r0 with
  | false =>
    have Hok := Lib.hid (show cutOk nodes l u = false by unfold cutOk; rw [R0.out]; rfl)
    go_enter Try.func21, Try.ntmps21
    go_wp2_with fail
    refine (spec_GoodEvents_any nodes hnodes l w S hS A n c hl0).mono ?_
    rintro e w1 ⟨rfl, b1⟩
    rw [R0.out]
    go_wp2_with fail
    go_ret2
    exact ⟨by rw [Hok.out]; rfl, b1⟩
  | true =>
    obtain ⟨hg1, hg2, hg3, hg4⟩ := goodEv_get R0.out
    obtain ⟨N, rfl⟩ := Int.eq_ofNat_of_zero_le (show 0 ≤ nodes by omega)
    have Hev := Lib.hid hg4
    have hN1 : 1 ≤ N := by omega
    have hN2 : N ≤ 5 := by omega
    have hn40 : n ≤ 40 := by have := Hn.out; omega
    clear hg4
    obtain ⟨r1, hr1⟩ : ∃ r, uptoB N l u = r := ⟨_, rfl⟩
    have R1 := Lib.hid hr1
    clear hr1
    have Hok0 := Lib.hid (show cutOk (N : Int) l u = r1 by unfold cutOk; rw [R0.out, Int.toNat_natCast, R1.out]; rfl)
    cases r1 with
    | false =>
      go_enter Try.func21, Try.ntmps21
      go_wp2_with fail
      refine (spec_GoodEvents_any (N : Int) hnodes l w S hS A n c hl0).mono ?_
      rintro e w1 ⟨rfl, b1⟩
      rw [R0.out]
      go_wp2_with fail
      refine (l11Upto_any N hN1 hN2 l Hev.out hg3 u w1 S (fun x hx => Nat.lt_of_lt_of_le (hS x hx) b1.size) A A' n c n' c' (hl0.keep (fun p hp => b1.cell (hS _ hp))) (hl1.keep (fun p hp => b1.cell (hS _ hp)))).mono ?_
      rintro e w2 ⟨rfl, b2⟩
      have B2 := bnext b1 b2
      rw [R1.out]
      go_wp2_with fail
      go_ret2
      exact ⟨by rw [Hok0.out]; rfl, B2⟩
    | true =>
      have HuN := Lib.hid (uptoB_get R1.out)
      go_enter Try.func21, Try.ntmps21
      go_wp2_with fail
      refine (spec_GoodEvents_any (N : Int) hnodes l w S hS A n c hl0).mono ?_
      rintro e w1 ⟨rfl, b1⟩
      rw [R0.out]
      go_wp2_with fail
      refine (l11Upto_any N hN1 hN2 l Hev.out hg3 u w1 S (fun x hx => Nat.lt_of_lt_of_le (hS x hx) b1.size) A A' n c n' c' (hl0.keep (fun p hp => b1.cell (hS _ hp))) (hl1.keep (fun p hp => b1.cell (hS _ hp)))).mono ?_
      rintro e w2 ⟨rfl, b2⟩
      have B2 := bnext b1 b2
      rw [R1.out]
      go_wp2_with fail
      refine (l11At_any N hN1 hN2 l Hev.out hg3 w2 S (fun x hx => Nat.lt_of_lt_of_le (hS x hx) B2.size) A n c (hl0.keep (fun p hp => B2.cell (hS _ hp)))).mono ?_
      rintro e w3 ⟨A2, c2, rfl, hat, b3⟩
      have B3 := bnext B2 b3
      have hbdA := hat.bd
      have Hat := Lib.hid hat
      clear hat
      go_wp2_with fail
      go_loopw [27] (fun i wr => ∃ k : Nat, k ≤ n ∧ i = .int .i64 k ∧ (∀ i, i < k → cutBad l u i = false) ∧ Below w3.heap.size w3 wr) (fun i _ => n - (intOf i).toNat)
      case atStart => exact ⟨0, Nat.zero_le _, rfl, fun i hi => absurd hi (by omega), Below.refl _ _⟩
      case round =>
        obtain ⟨k, hk, rfl, hpre, hbel0⟩ := hrel
        have hbel := bnext B3 hbel0
        have Hpre := Lib.hid hpre
        clear hpre
        by_cases hlt : k < n
        · have hl1' : k < l.length := by have := Hn.out; omega
          obtain ⟨b, off, xs, rfl, hSb, hc, rfl, hi1, hi2⟩ := hl0.at_ hl1'
          have hc0 := hc 0 _ rfl
          have hc1 := hc 1 _ rfl
          clear hc
          generalize hek : l[k] = ek at hc0 hc1 hi1 hi2
          obtain ⟨x, y⟩ := ek
          have hek' : l[k]? = some ⟨x, y⟩ := by rw [List.getElem?_eq_getElem hl1', hek]
          obtain ⟨hx1, hx2, hy1, hy2, hy3⟩ := Hev.out k hl1' _ hek'
          obtain ⟨j, rfl⟩ := Int.eq_ofNat_of_zero_le hx1
          have hjN : j < N := by have : (j : Int) ≤ (N : Int) - 1 := hx2; omega
          have hj : j < u.length := by have := HuN.out; omega
          have Hek := Lib.hid hek'
          have hc0' : wr.cell? ⟨b, off + k * 2, none⟩ = some (.int .i64 j) := (hbel.cell (hS _ hSb)).trans hc0
          have hc1' : wr.cell? ⟨b, off + k * 2 + 1, none⟩ = some (.int .i64 y) := (hbel.cell (hS _ hSb)).trans hc1
          obtain ⟨W, hW⟩ : ∃ W, W = wr.alloc (.cells #[.int .i64 j, .int .i64 y] 64) := ⟨_, rfl⟩
          have hbW0 : Below w3.heap.size w3 W := by subst hW; exact hbel0.alloc hbel0.size _
          have hbW := bnext B3 hbW0
          have f0 : ∀ p : Aft W, p.world.cell? ⟨wr.heap.size, 0, none⟩ = some (.int .i64 j) := Aft.cell (by subst hW; simp)
          have f1 : ∀ p : Aft W, p.world.cell? ⟨wr.heap.size, 1, none⟩ = some (.int .i64 y) := Aft.cell (by subst hW; simp)
          have HW := Lib.hid hW
          -- the event's number at its node
          have hka : k < (atL l l.length).length := by rw [atL_len]; exact hl1'
          obtain ⟨ba, offa, rfl, hSa, hca, -⟩ := Hat.out.at1 rfl hka
          obtain ⟨va, hva⟩ : ∃ v, atV l k = v := ⟨_, rfl⟩
          have hgk : (atL l l.length)[k] = va := by
            have := atL_get l (k := l.length) hl1'
            rw [List.getElem?_eq_getElem hka] at this
            rw [← hva]
            exact Option.some.inj this
          have f2 : ∀ p : Aft W, p.world.cell? ⟨ba, offa + k, none⟩ = some (.int .i64 va) := Aft.cell ((hbW0.cell hSa.2).trans (by rw [hca _ rfl, hgk]))
          obtain ⟨bu, offu, rfl, hSu, hcu, -⟩ := hl1.at1 rfl hj
          obtain ⟨ux, hux⟩ : ∃ v, u[j] = v := ⟨_, rfl⟩
          have f3 : ∀ p : Aft W, p.world.cell? ⟨bu, offu + j, none⟩ = some (.int .i64 ux) := Aft.cell ((hbW.cell (hS _ hSu)).trans (by rw [hcu _ rfl, hux]))
          have Hux := Lib.hid (show u[j]? = some ux by rw [List.getElem?_eq_getElem hj, hux])
          have Hva := Lib.hid hva
          have hkI : (k : Int) < (n : Int) := by omega
          have hk0 : (0 : Int) ≤ (k : Int) := by omega
          have hjI : (j : Int) < (n' : Int) := by have := Hn'.out; omega
          have hj0 : (0 : Int) ≤ (j : Int) := by omega
          have Hy1 := Lib.hid hy1
          have Hy2 := Lib.hid (show y ≤ (k : Int) - 1 from hy2)
          clear hc0 hc1 hi1 hi2 hek hek' hx1 hx2 hy1 hy2 hy3 hW hgk hca hcu hux hva
          by_cases hA : va ≤ ux
          · have Hin := Lib.hid (show inV l u k = true from inV_eq Hek.out Hux.out (by rw [Hva.out]; exact decide_eq_true hA))
            have dA : decide (va ≤ ux) = true := decide_eq_true hA
            by_cases hC : 0 ≤ y
            · obtain ⟨f, rfl⟩ := Int.eq_ofNat_of_zero_le hC
              have hfk : f < k := by have := Hy2.out; omega
              have hfl : f < l.length := by omega
              obtain ⟨b', off', xs', e, hSb', hc, rfl, -, -⟩ := hl0.at_ hfl
              obtain ⟨rfl, rfl⟩ : b = b' ∧ off = off' := by simpa using e
              have hc0 := hc 0 _ rfl
              clear hc e
              generalize hef : l[f] = ef at hc0
              obtain ⟨fx, fy⟩ := ef
              have hef' : l[f]? = some ⟨fx, fy⟩ := by rw [List.getElem?_eq_getElem hfl, hef]
              obtain ⟨hfx1, hfx2, -⟩ := Hev.out f hfl _ hef'
              obtain ⟨fj, rfl⟩ := Int.eq_ofNat_of_zero_le hfx1
              have hfjN : fj < N := by have : (fj : Int) ≤ (N : Int) - 1 := hfx2; omega
              have hfj : fj < u.length := by have := HuN.out; omega
              have Hef := Lib.hid hef'
              have f4 : ∀ p : Aft W, p.world.cell? ⟨b, off + f * 2, none⟩ = some (.int .i64 fj) := Aft.cell ((hbW.cell (hS _ hSb)).trans hc0)
              have hfa : f < (atL l l.length).length := by rw [atL_len]; exact hfl
              obtain ⟨ba', offa', e, hSa', hca, -⟩ := Hat.out.at1 rfl hfa
              obtain ⟨rfl, rfl⟩ : ba = ba' ∧ offa = offa' := by simpa using e
              obtain ⟨vf, hvf⟩ : ∃ v, atV l f = v := ⟨_, rfl⟩
              have hgf : (atL l l.length)[f] = vf := by
                have := atL_get l (k := l.length) hfl
                rw [List.getElem?_eq_getElem hfa] at this
                rw [← hvf]
                exact Option.some.inj this
              have f5 : ∀ p : Aft W, p.world.cell? ⟨ba, offa + f, none⟩ = some (.int .i64 vf) := Aft.cell ((hbW0.cell hSa.2).trans (by rw [hca _ rfl, hgf]))
              obtain ⟨bu', offu', e', hSu', hcu, -⟩ := hl1.at1 rfl hfj
              obtain ⟨rfl, rfl⟩ : bu = bu' ∧ offu = offu' := by simpa using e'
              obtain ⟨uf, huf⟩ : ∃ v, u[fj] = v := ⟨_, rfl⟩
              have f6 : ∀ p : Aft W, p.world.cell? ⟨bu, offu + fj, none⟩ = some (.int .i64 uf) := Aft.cell ((hbW.cell (hS _ hSu)).trans (by rw [hcu _ rfl, huf]))
              have Huf := Lib.hid (show u[fj]? = some uf by rw [List.getElem?_eq_getElem hfj, huf])
              have Hvf := Lib.hid hvf
              have hfI : (f : Int) < (n : Int) := by omega
              have hf0 : (0 : Int) ≤ (f : Int) := by omega
              have dC : decide ((0 : Int) ≤ (f : Int)) = true := decide_eq_true hf0
              have hfjI : (fj : Int) < (n' : Int) := by have := Hn'.out; omega
              have hfj0 : (0 : Int) ≤ (fj : Int) := by omega
              clear hc0 hef hef' hfx1 hfx2 hgf hca hcu huf hvf e e'
              by_cases hD : uf < vf
              · have Hbad := Lib.hid (cutBad_eq Hek.out Hin.out (show inV l u f = false from inV_eq Hef.out Huf.out (by rw [Hvf.out]; exact decide_eq_false (by omega))))
                have dD : decide (uf < vf) = true := decide_eq_true hD
                go_wp2_with fail
                rw [← HW.out]
                refine wp_region_aft (by kernel_rfl) (by kernel_rfl) ?_
                repeat (go_big_quiet_step (fail))
                refine wpQuiet_nil ?_
                rintro _ ⟨p, rfl⟩
                have hb2 : Below w.heap.size w p.world := hbW.trans (p.below.mono hbW.size)
                go_wp2
                go_ret2
                exact ⟨by rw [Hok0.out, cutGood_no hl1' Hbad.out]; rfl, hb2⟩
              · have Hbad := Lib.hid (cutBad_eq Hek.out Hin.out (show inV l u f = true from inV_eq Hef.out Huf.out (by rw [Hvf.out]; exact decide_eq_true (by omega))))
                have dD : decide (uf < vf) = false := decide_eq_false hD
                go_wp2_with fail
                rw [← HW.out]
                refine wp_region_aft (by kernel_rfl) (by kernel_rfl) ?_
                repeat (go_big_quiet_step (fail))
                refine wpQuiet_nil ?_
                rintro _ ⟨p, rfl⟩
                have hb2 : Below w3.heap.size w3 p.world := hbW0.trans (p.below.mono hbW0.size)
                go_wp2
                go_roundw
                case rel => exact ⟨k + 1, by omega, by go_num, bad_succ Hpre.out Hbad.out, hb2⟩
                case measure => simp [intOf]; omega
            · have dC : decide (0 ≤ y) = false := decide_eq_false hC
              have Hbad := Lib.hid (cutBad_none (u := u) Hek.out hC)
              go_wp2_with fail
              rw [← HW.out]
              refine wp_region_aft (by kernel_rfl) (by kernel_rfl) ?_
              repeat (go_big_quiet_step (fail))
              refine wpQuiet_nil ?_
              rintro _ ⟨p, rfl⟩
              have hb2 : Below w3.heap.size w3 p.world := hbW0.trans (p.below.mono hbW0.size)
              go_wp2
              go_roundw
              case rel => exact ⟨k + 1, by omega, by go_num, bad_succ Hpre.out Hbad.out, hb2⟩
              case measure => simp [intOf]; omega
          · have Hin := Lib.hid (show inV l u k = false from inV_eq Hek.out Hux.out (by rw [Hva.out]; exact decide_eq_false hA))
            have dA : decide (va ≤ ux) = false := decide_eq_false hA
            have Hbad := Lib.hid (cutBad_out Hek.out Hin.out)
            go_wp2_with fail
            rw [← HW.out]
            refine wp_region_aft (by kernel_rfl) (by kernel_rfl) ?_
            repeat (go_big_quiet_step (fail))
            refine wpQuiet_nil ?_
            rintro _ ⟨p, rfl⟩
            have hb2 : Below w3.heap.size w3 p.world := hbW0.trans (p.below.mono hbW0.size)
            go_wp2
            go_roundw
            case rel => exact ⟨k + 1, by omega, by go_num, bad_succ Hpre.out Hbad.out, hb2⟩
            case measure => simp [intOf]; omega
        · obtain rfl : k = n := by omega
          go_wp2_with fail
          go_ret2
          exact ⟨by rw [Hok0.out, cutGood_yes Hn.out Hpre.out]; rfl, hbel⟩

end Go.Proofs.Ytmkhahiefdcinaa
