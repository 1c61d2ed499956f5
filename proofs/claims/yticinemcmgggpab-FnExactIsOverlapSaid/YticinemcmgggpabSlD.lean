/-
  slices.DeleteFunc at []int.
-/
import Derived.Test.YticinemcmgggpabSlI
import Derived.Test.YticinemcmgggpabJcM
import Derived.Test.YticinemcmgggpabSlX
import Derived.Lib.LazyBuf
namespace Go.Proofs.Yticinemcmgggpab
open Go.ChangeShapes Go.WideShapes Go.ChangeAt Go.RowKit Go.BigFrame
set_option linter.unusedVariables false

/-- slices.DeleteFunc on a row that the call owns: how long the result is; nothing else is touched. -/
theorem deleteFuncInt_any (p : Int → Bool) (gg : Nat) (lb : Array Value) (eg : ∀ args w, (callFunc gg args).run Try.prog w = .ok (.enter gg args) w) (l : List Int) (hok : ∀ a ∈ l, (Flat.ok a : Prop)) (w0 w : World) (hb0 : Below w0.heap.size w0 w) (base : Nat) (hbase : w0.heap.size ≤ base) (A : Option Addr) (n c : Nat) (hsm : n ≤ 2000000) (hn : n = l.length)
    (hown : w.ownsRow base 3 1 (.slice A n c) n (encs l)) (hp : Pred Try.prog gg lb (fun x : Int => .int .i64 x) Flat.ok p w0) :
    Calls Try.prog 50 #[.slice A n c, .func (.func gg) #[] lb] w fun x w' => ∃ A' c', x = .returned (.slice A' (l.filter fun x => !p x).length c') ∧ Below w0.heap.size w0 w' := by
  have hr := RepL.of_own' (s := 1) rfl hn hown hok
  have C1 := Lib.hid (indexFuncInt_any p gg lb eg l w _ (fun x hx => hx.2) A n c hr (hp.up hb0))
  have hbd := hr.bd
  have Hn := Lib.hid hn
  have Hp := Lib.hid hp
  have Hown := Lib.hid hown
  have Hok := Lib.hid hok
  clear hr hn hp hown hok
  cases hq : l.findIdx? p with
  | none =>
    have h1 : idxP p l = -1 := by unfold idxP; rw [hq]
    rw [h1] at C1
    have Hf := Lib.hid (show (l.filter fun x => !p x).length = n by
      rw [List.findIdx?_eq_none_iff] at hq
      rw [List.filter_eq_self.2 (fun a ha => by simp [hq a ha]), Hn.out])
    clear h1 hq
    go_enter Try.func50, Try.ntmps50
    go_wp2_with fail
    refine C1.out.mono ?_
    rintro e w1 ⟨rfl, b1⟩
    go_wp2_with fail
    go_ret
    exact ⟨A, c, by rw [Hf.out]; rfl, hb0.trans (b1.mono hb0.size)⟩
  | some k =>
    have h1 : idxP p l = (k : Int) := by unfold idxP; rw [hq]
    rw [h1] at C1
    rw [List.findIdx?_eq_some_iff_getElem] at hq
    obtain ⟨hkl, hpk, hpre⟩ := hq
    have hkn : k < n := by have := Hn.out; omega
    obtain ⟨g, rfl⟩ : ∃ g, A = some ⟨g, 0, none⟩ := by
      rcases Hown.out.2 with ⟨_, e⟩ | ⟨g, cap, cur, e, _⟩
      · omega
      · simp only [Value.slice.injEq] at e
        exact ⟨g, e.1⟩
    have Hst := Lib.hid (show (l.take (k + 1)).filter (fun x => !p x) = l.take k by
      rw [List.take_succ_eq_append_getElem hkl, List.filter_append]
      have e1 : (l.take k).filter (fun x => !p x) = l.take k := by
        rw [List.filter_eq_self]
        intro a ha
        obtain ⟨i, hi, rfl⟩ := List.mem_iff_getElem.1 ha
        simp only [List.length_take] at hi
        have := hpre i (by omega)
        simpa using this
      rw [e1]
      simp [hpk])
    have hk1 : ((k : Int) == -1) = false := by rw [beq_eq_false_iff_ne]; omega
    have hgB : base ≤ g := (Hown.out.lt g rfl).1
    have hgl : g < w.heap.size := (Hown.out.lt g rfl).2
    clear h1 hpk hpre
    go_enter Try.func50, Try.ntmps50
    go_wp2_with fail
    refine C1.out.mono ?_
    rintro e w1 ⟨rfl, b1⟩
    have Hown1 := Lib.hid (own_below Hown.out b1)
    have hb1 := hb0.trans (b1.mono hb0.size)
    have hgl1 : g < w1.heap.size := Nat.lt_of_lt_of_le hgl b1.size
    go_wp2_with fail
    go_loopw [5, 6] (fun i j wr => ∃ (q j0 : Nat) (mid : List Int), j0 ≤ n ∧ q < j0 ∧ j = .int .i64 j0 ∧ i = .int .i64 q ∧ q = ((l.take j0).filter fun x => !p x).length ∧ mid.length + q = j0 ∧ wr.ownsRow base 3 1 (.slice (some ⟨g, 0, none⟩) n c) n (encs ((l.take j0).filter (fun x => !p x) ++ mid ++ l.drop j0)) ∧ Below w0.heap.size w0 wr) (fun _ j _ => n - (intOf j).toNat)
    case atStart =>
      refine ⟨k, k + 1, [l[k]], by omega, by omega, by go_num, rfl, by rw [Hst.out]; simp; omega, by simp; omega, ?_, hb1⟩
      rw [Hst.out]
      have e2 : l.take k ++ [l[k]] ++ l.drop (k + 1) = l := by rw [← List.take_succ_eq_append_getElem hkl, List.take_append_drop]
      rw [e2]
      exact Hown1.out
    case round =>
      obtain ⟨q, j0, mid, hj0, hqj, rfl, rfl, hq, hmid, hown, hbel⟩ := hrel
      have Hq := Lib.hid hq
      have Hmid := Lib.hid hmid
      have hgl2 : g < wr.heap.size := (hown.lt g rfl).2
      clear hq hmid
      by_cases hlt : j0 < n
      · have hl1 : j0 < l.length := by have := Hn.out; omega
        have hlen0 : ((l.take j0).filter (fun x => !p x) ++ mid).length = j0 := by rw [List.length_append, ← Hq.out]; have := Hmid.out; omega
        have hget : ((l.take j0).filter (fun x => !p x) ++ mid ++ l.drop j0)[j0]? = some l[j0] := by
          rw [List.getElem?_append_right (by omega), hlen0, Nat.sub_self, List.getElem?_drop]
          simp
        have hc0 : wr.cell? ⟨g, j0, none⟩ = some (.int .i64 l[j0]) := by rw [hown.cellAt j0 (by omega)]; exact get_enc _ _ _ hget
        have Hc := Lib.hid (Hp.out wr l[j0] (Hok.out _ (List.getElem_mem hl1)) hbel)
        have Hown2 := Lib.hid hown
        have Hfs := Lib.hid (show (l.take (j0 + 1)).filter (fun x => !p x) = (l.take j0).filter (fun x => !p x) ++ [l[j0]].filter (fun x => !p x) by rw [List.take_succ_eq_append_getElem hl1, List.filter_append])
        have Hdrop := Lib.hid (show l.drop j0 = l[j0] :: l.drop (j0 + 1) from List.drop_eq_getElem_cons hl1)
        clear hown hget hlen0
        cases hpq : p l[j0] with
        | true =>
          rw [hpq] at Hc
          have Hf1 := Lib.hid (show (l.take (j0 + 1)).filter (fun x => !p x) = (l.take j0).filter (fun x => !p x) by rw [Hfs.out]; simp [hpq])
          clear hpq
          go_wp2_with (go_at_fn gg; refine Hc.out.mono ?_; rintro e w2 ⟨rfl, b2⟩)
          go_roundw
          case rel =>
            refine ⟨q, j0 + 1, mid ++ [l[j0]], by omega, by omega, by go_num, rfl, by rw [Hf1.out]; exact Hq.out, by have := Hmid.out; simp; omega, ?_, hbel.trans (b2.mono hbel.size)⟩
            rw [Hf1.out]
            have h3 := own_below Hown2.out b2
            rw [Hdrop.out] at h3
            simpa using h3
          case measure => simp [intOf]; omega
        | false =>
          rw [hpq] at Hc
          have Hf1 := Lib.hid (show (l.take (j0 + 1)).filter (fun x => !p x) = (l.take j0).filter (fun x => !p x) ++ [l[j0]] by rw [Hfs.out]; simp [hpq])
          have hqn : q < n := by omega
          clear hpq
          go_wp2_with (go_at_fn gg; refine Hc.out.mono ?_; rintro e w2 ⟨rfl, b2⟩; (have hown3 := own_below Hown2.out b2); (obtain ⟨u0, hu0⟩ := own_cell hown3 (j := q) (by omega)); (have hf0 := hown3.frozenAt q); (have Hown3 := Lib.hid hown3); clear hown3)
          go_roundw
          case rel =>
            have hm := Hmid.out
            have hqq := Hq.out
            obtain ⟨m0, ms, rfl⟩ : ∃ m0 ms, mid = m0 :: ms := by
              cases mid with
              | nil => simp at hm; omega
              | cons a b => exact ⟨a, b, rfl⟩
            refine ⟨q + 1, j0 + 1, ms ++ [l[j0]], by omega, by omega, by go_num, by go_num, by rw [Hf1.out]; simp; exact hqq, by simp at hm ⊢; omega, ?_, (hbel.trans (b2.mono hbel.size)).setCell (Nat.le_trans hbase hgB) _⟩
            rw [Hf1.out]
            have h3 := (Hown3.out.stored q (.int .i64 l[j0])).1
            rw [set_enc _ _ _ (by simp; omega)] at h3
            have e5 : ((l.take j0).filter (fun x => !p x) ++ m0 :: ms ++ l.drop j0).set q l[j0] = (l.take j0).filter (fun x => !p x) ++ [l[j0]] ++ (ms ++ [l[j0]]) ++ l.drop (j0 + 1) := by
              rw [List.append_assoc, List.set_append_right _ _ (by omega), ← hqq, Nat.sub_self, List.cons_append, List.set_cons_zero, Hdrop.out]
              simp
            rw [e5] at h3
            exact h3
          case measure => simp [intOf]; omega
      · obtain rfl : j0 = n := by omega
        have Hf := Lib.hid (show (l.filter fun x => !p x).length = q by have := Hq.out; rw [List.take_of_length_le (by have := Hn.out; omega)] at this; exact this.symm)
        have hqn : q < j0 := hqj
        have hcq : q ≠ c := by omega
        have hcl : ∀ ty, (Builtin.clear_ #[33] ty #[.slice (some ⟨g, q, none⟩) (j0 - q) (c - q)]).run Try.prog wr = .ok (.tuple #[]) (wr.setCells g q (List.replicate (j0 - q) (.int .i64 0))) :=
          fun ty => Lib.run_clear_slice wr 33 3 ty (.int .i64 0) Try.underlying33 (fun W => by kernel_rfl) rfl rfl g q (j0 - q) (c - q) (by omega)
            (fun j hj => by obtain ⟨u, hu⟩ := own_cell hown (j := q + j) (by omega); rw [hu]; rfl) (fun j hj => hown.frozenAt (q + j))
        have hbl := Lib.hid (below_setCells (b := g) (Nat.le_trans hbase hgB) (List.replicate (j0 - q) (.int .i64 0)) q wr hbel)
        have Hown3 := Lib.hid hown
        clear hown
        go_wp2_with (simp only [hcl])
        go_ret
        exact ⟨_, _, by rw [Hf.out]; rfl, hbl.out⟩

end Go.Proofs.Yticinemcmgggpab
