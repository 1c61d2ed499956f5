/-
  Proved: the law FnExactGoodEvents returns true for every input: the program's GoodEvents answers what the reference's does, and leaves its argument alone. Conditions: none.
-/
import Derived.Test.YticinemcmgggpaaEvC
import Derived.Test.YticinemcmgggpaaLaw
namespace Go.Proofs.Yticinemcmgggpaa
open Go.ChangeShapes Go.WideShapes Go.ChangeAt Go.RowKit Go.Deep

theorem opensLEvent : Opens Try.prog 29 (List P2) :=
  Opens.slice (e := 50) Try.underlying29 (by kernel_rfl) (by decide) (Opens.int2 Try.underlying50 (by kernel_rfl) (by kernel_rfl) rfl rfl Try.underlying3 Try.underlying3)

theorem goodEvents_any (nodes : Int) (hnodes : I64 nodes) (l : List P2) (w : World) (S : Nat → Prop) (hS : ∀ b, S b → b < w.heap.size) (A : Option Addr) (n c : Nat) (h : RepL w S l A n c) :
    Calls Try.prog 18 #[.int .i64 nodes, .slice A n c] w fun x w' => x = .returned (.bool (goodEv nodes l)) ∧ Below w.heap.size w w' := by
  go_enter Try.func18, Try.ntmps18
  go_wp2_with (go_at_call 33; refine (areEvents_any nodes hnodes l _ S hS A n c h).mono ?_; rintro e w1 ⟨rfl, hb1⟩)
  go_ret
  exact ⟨rfl, hb1⟩

theorem law_GoodEvents (nodes : Int) (hnodes : I64 nodes) (l : List P2) (w : World) (A : Option Addr) (n c : Nat) (hl0 : RepL w (· < w.heap.size) l A n c) :
    Calls Try.prog 6 #[.int .i64 nodes, .slice A n c] w fun x w' => x = .returned (.bool true) ∧ Below w.heap.size w w' := by
  have hbd := hl0.bd
  obtain ⟨hn, -⟩ := id hl0
  have Hn := Lib.hid hn
  clear hn
  by_cases hbig : n ≤ 1048576
  · have hlen' : ¬ ((1048576 : Int) - n < 0) := by omega
    go_enter Try.func6, Try.ntmps6
    go_wp2_with (go_at_call 15; refine (szEventS_any A n c _ _ (by omega) (by omega) (by omega)).mono ?_; rintro e w1 ⟨rfl, rfl⟩)
    refine (toEventS_any l w _ (fun _ hb => hb) A n c hl0 hbig).mono ?_
    rintro e w1 ⟨A1, c1, rfl, -, r1, b1⟩
    have h1 := (hl0.keep (w' := w1) (fun p hp => b1.cell hp)).more (S' := (· < w1.heap.size)) (fun b hb => Nat.lt_of_lt_of_le hb b1.size)
    go_wp2_with fail
    refine (spec_GoodEvents_any nodes hnodes l w1 _ (fun b hb => hb.2) A1 n c1 r1).mono ?_
    rintro e w2 ⟨rfl, b2⟩
    have h2 := (h1.keep (w' := w2) (fun p hp => b2.cell hp)).more (S' := (· < w2.heap.size)) (fun b hb => Nat.lt_of_lt_of_le hb b2.size)
    go_wp2_with fail
    refine (toEventS_any l w2 _ (fun _ hb => hb) A n c h2 hbig).mono ?_
    rintro e w3 ⟨A3, c3, rfl, -, r3, b3⟩
    have h3 := (h2.keep (w' := w3) (fun p hp => b3.cell hp)).more (S' := (· < w3.heap.size)) (fun b hb => Nat.lt_of_lt_of_le hb b3.size)
    go_wp2_with fail
    refine (goodEvents_any nodes hnodes l w3 _ (fun b hb => hb.2) A3 n c3 r3).mono ?_
    rintro e w4 ⟨rfl, b4⟩
    have h4 := (h3.keep (w' := w4) (fun p hp => b4.cell hp)).more (S' := (· < w4.heap.size)) (fun b hb => Nat.lt_of_lt_of_le hb b4.size)
    have r4 := (r3.keep (w' := w4) (fun p hp => b4.cell hp.2)).more (S' := (· < w4.heap.size)) (fun b hb => Nat.lt_of_lt_of_le hb.2 b4.size)
    go_wp2_with fail
    refine (toEventS_any l w4 _ (fun _ hb => hb) A n c h4 hbig).mono ?_
    rintro e w5 ⟨A5, c5, rfl, -, r5, b5⟩
    have r4' := (r4.keep (w' := w5) (fun p hp => b5.cell hp)).more (S' := (· < w5.heap.size)) (fun b hb => Nat.lt_of_lt_of_le hb b5.size)
    have r5' := r5.more (S' := (· < w5.heap.size)) (fun b hb => hb.2)
    go_wp2_with fail
    refine (eqEventS_any l l w5 _ (fun _ hb => hb) A3 A5 n c3 n c5 r4' r5').mono ?_
    rintro e w6 ⟨rfl, b6⟩
    go_wp2_with fail
    go_ret
    exact ⟨rfl, bnext (bnext (bnext (bnext (bnext b1 b2) b3) b4) b5) b6⟩
  · have hlen' : ((1048576 : Int) - n < 0) := by omega
    go_enter Try.func6, Try.ntmps6
    go_wp2_with (go_at_call 15; refine (szEventS_any A n c _ _ (by omega) (by omega) (by omega)).mono ?_; rintro e w1 ⟨rfl, rfl⟩)
    go_ret
    exact ⟨rfl, Below.refl _ _⟩
set_option maxRecDepth 100000 in
theorem lifted_GoodEvents (os : Os) (started : os.Started) (H : Type) (enc : TypeId × Value → H) :
    ReturnsInHanded {} Try.checked os 6 .any (Rows.fnExactGoodEventsSpec.pre6 enc Try.prog Try.f6 Rows.fnExactGoodEventsRow.domain false) (Rows.fnExactGoodEventsSpec.post enc Try.prog Try.f6 false true false false) := by
  refine returnsInHanded_of_change (C := Try.checked) own started (by kernel_rfl) Try.func6
    (ChangeSpec.witness6 (enc := enc) (C := Try.checked) false ⟨#[], #[.int .i64 0, .slice none 0 0], []⟩ 8 (by kernel_rfl) (by kernel_rfl) (by kernel_rfl) (by kernel_rfl)) ?_
  intro W base args ds gs before hval0 hW hcnd _
  have hval : ∀ (j : Nat) t v, Try.f6.params[j]? = some t → args[j]? = some v → Value.okWide Try.prog W .any base t v := hval0
  have hW' := hW
  obtain ⟨p, q, hA0, hV, rfl, hfz, hnd⟩ := hW
  have hA : DataW.TrodAll enc Try.prog W 0 (fun _ => true) true Try.f6.params.toList args.toList ds p := hA0
  rw [Try.params6] at hA hval
  obtain ⟨v0, vs0, d0, ds0, p0, q0, hargs, rfl, rfl, h0, r0⟩ := trodAll_cons hA
  obtain ⟨v1, vs1, d1, ds1, p1, q1, rfl, rfl, rfl, h1, r1⟩ := trodAll_cons r0
  obtain ⟨rfl, rfl, rfl⟩ := trodAll_nil r1
  obtain rfl : args = #[v0, v1] := by cases args; simp_all
  obtain ⟨rfl, rfl⟩ := trodVars_none hV
  obtain ⟨a0, rfl, rfl, rfl, w0⟩ := open_int Try.underlying3 (hval 0 3 v0 rfl rfl) h0
  obtain ⟨l1, A1, n1, c1, rfl, r1⟩ := Opens.arg opensLEvent (okWide_slice Try.underlying29 (hval 1 29 v1 rfl rfl)) h1
  clear hA0 hval0
  refine (law_GoodEvents a0 (i64_of_wf w0) l1 W A1 n1 c1 r1).mono fun e W' ⟨he, hg⟩ => ?_
  subst he
  exact ⟨_, rfl, law_post hW' rfl laidOut (by kernel_rfl) hg rfl rfl Try.underlying4⟩

/-- The statement. -/
theorem proved_GoodEvents : Rows.FnExactGoodEventsSaid :=
  OpenClaim.holds_of_wide 6 Try.f6 rfl rfl rfl rfl rfl rfl rfl ⟨rfl, rfl, rfl, rfl, rfl⟩ rfl rfl rfl rfl rfl (by kernel_rfl) Try.func6 (by kernel_rfl)
    (of_decide_eq_true (by kernel_rfl)) (by unfold Func.isWrapper; first | (rw [if_pos (by decide +kernel)]; kernel_rfl) | (rw [if_neg (by decide +kernel)]; exact ⟨rfl, rfl⟩))
    (fun os started H enc _ => lifted_GoodEvents os started H enc)
#print axioms proved_GoodEvents
end Go.Proofs.Yticinemcmgggpaa
