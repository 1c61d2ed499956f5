/-
  Contracts: JoinCuts of the reference and of the program.
-/
import Derived.Test.YticinemcmgggpabJcM
namespace Go.Proofs.Yticinemcmgggpab
open Go.ChangeShapes Go.WideShapes Go.ChangeAt Go.RowKit Go.BigFrame
set_option linter.unusedVariables false


/-- What JoinCuts answers. -/
def joinL (a b : List Int) : List Int := if okCk a b then mostL a b else []
theorem okCk_small {a b : List Int} (h : okCk a b = true) : a.length ≤ 5 := by
  unfold okCk at h
  simp only [Bool.and_eq_true, decide_eq_true_eq] at h
  omega
/-- A list that the call has made. -/
def Made (w w' : World) (T : TypeId) (l : List Int) (A : Option Addr) (n c : Nat) : Prop :=
  w'.ownsRow w.heap.size T 1 (.slice A n c) n (encs l) ∧ RepL w' (fun b => w.heap.size ≤ b ∧ b < w'.heap.size) l A n c
theorem Made.from_ {w w0 w' : World} {T : TypeId} {l : List Int} {A : Option Addr} {n c : Nat} (h : Made w w' T l A n c) (hs : w0.heap.size ≤ w.heap.size) : Made w0 w' T l A n c :=
  ⟨⟨h.1.1, h.1.2.imp id fun ⟨g, cap, cur, e1, e2, e3⟩ => ⟨g, cap, cur, e1, Nat.le_trans hs e2, e3⟩⟩, h.2.more fun b hb => ⟨Nat.le_trans hs hb.1, hb.2⟩⟩
theorem Made.nil_ (w w' : World) (T : TypeId) : Made w w' T [] none 0 0 :=
  ⟨World.ownsRow_nil _ _ _ _, RepL.of_own' (e := T) (base := w.heap.size) (s := 1) rfl rfl (World.ownsRow_nil _ _ _ _) (fun a ha => by cases ha)⟩

theorem spec_JoinCuts_any (a b : List Int) (w : World) (S : Nat → Prop) (hS : ∀ b, S b → b < w.heap.size) (A A' : Option Addr) (n c n' c' : Nat) (hl0 : RepL w S a A n c) (hl1 : RepL w S b A' n' c') :
    Calls Try.prog 21 #[.slice A n c, .slice A' n' c'] w fun x w' => ∃ A2 m c2, x = .returned (.tuple #[.slice A2 m c2, .bool (okCk a b)]) ∧ m ≤ 5 ∧ Made w w' 3 (joinL a b) A2 m c2 ∧ Below w.heap.size w w' := by
  have hbd := hl0.bd
  have hbd' := hl1.bd
  obtain ⟨hn, -⟩ := id hl0
  obtain ⟨hn', -⟩ := id hl1
  have Hn := Lib.hid hn
  have Hn' := Lib.hid hn'
  clear hn hn'
  obtain ⟨r1, hr1⟩ : ∃ r, clockOk a = r := ⟨_, rfl⟩
  obtain ⟨r2, hr2⟩ : ∃ r, clockOk b = r := ⟨_, rfl⟩
  have Hok0 := Lib.hid (show okCk a b = (r1 && (r2 && decide (n = n'))) by rw [okCk_spec, hr1, hr2, Hn.out, Hn'.out])
  have H1 := Lib.hid hr1
  have H2 := Lib.hid hr2
  clear hr1 hr2
  cases r1 with
  | false =>
    have Hok := Lib.hid (show okCk a b = false by rw [Hok0.out]; rfl)
    have Hf := Lib.hid (show joinL a b = [] by unfold joinL; rw [Hok.out]; rfl)
    go_enter Try.func21, Try.ntmps21
    go_wp2_with fail
    refine (l11Clock_any a _ H1.out w S hS A n c hl0).mono ?_
    rintro e w1 ⟨rfl, b1⟩
    go_wp2_with fail
    go_ret2
    exact ⟨none, 0, 0, by rw [Hok.out]; rfl, by omega, by rw [Hf.out]; exact Made.nil_ _ _ _, b1⟩
  | true =>
    cases r2 with
    | false =>
      have Hok := Lib.hid (show okCk a b = false by rw [Hok0.out]; rfl)
      have Hf := Lib.hid (show joinL a b = [] by unfold joinL; rw [Hok.out]; rfl)
      go_enter Try.func21, Try.ntmps21
      go_wp2_with fail
      refine (l11Clock_any a _ H1.out w S hS A n c hl0).mono ?_
      rintro e w1 ⟨rfl, b1⟩
      go_wp2_with fail
      refine (l11Clock_any b _ H2.out w1 S (fun x hx => Nat.lt_of_lt_of_le (hS x hx) b1.size) A' n' c' (hl1.keep (fun p hp => b1.cell (hS _ hp)))).mono ?_
      rintro e w2 ⟨rfl, b2⟩
      go_wp2_with fail
      go_ret2
      exact ⟨none, 0, 0, by rw [Hok.out]; rfl, by omega, by rw [Hf.out]; exact Made.nil_ _ _ _, bnext b1 b2⟩
    | true =>
      by_cases hne : n = n'
      · have hd2 : ((n : Int) != (n' : Int)) = false := by simp [hne]
        have Hok := Lib.hid (show okCk a b = true by rw [Hok0.out, decide_eq_true hne]; rfl)
        have Hf := Lib.hid (show joinL a b = mostL a b by unfold joinL; rw [Hok.out]; rfl)
        have Hne := Lib.hid (show a.length = b.length by have := Hn.out; have := Hn'.out; omega)
        have h5 := okCk_small Hok.out
        clear hne
        go_enter Try.func21, Try.ntmps21
        go_wp2_with fail
        refine (l11Clock_any a _ H1.out w S hS A n c hl0).mono ?_
        rintro e w1 ⟨rfl, b1⟩
        go_wp2_with fail
        refine (l11Clock_any b _ H2.out w1 S (fun x hx => Nat.lt_of_lt_of_le (hS x hx) b1.size) A' n' c' (hl1.keep (fun p hp => b1.cell (hS _ hp)))).mono ?_
        rintro e w2 ⟨rfl, b2⟩
        have b12 := bnext b1 b2
        go_wp2_with fail
        refine (l11Most_any a b Hne.out w2 S (fun x hx => Nat.lt_of_lt_of_le (hS x hx) b12.size) A A' n c n' c' (by have := Hn.out; omega) (hl0.keep (fun p hp => b12.cell (hS _ hp))) (hl1.keep (fun p hp => b12.cell (hS _ hp)))).mono ?_
        rintro e w3 ⟨A3, c3, rfl, o3, m3, b3⟩
        go_wp2_with fail
        go_ret2
        exact ⟨A3, n, c3, by rw [Hok.out]; rfl, by have := Hn.out; omega, by rw [Hf.out]; exact Made.from_ ⟨o3, m3⟩ b12.size, bnext b12 b3⟩
      · have hd2 : ((n : Int) != (n' : Int)) = true := by simp; omega
        have Hok := Lib.hid (show okCk a b = false by rw [Hok0.out, decide_eq_false hne]; rfl)
        have Hf := Lib.hid (show joinL a b = [] by unfold joinL; rw [Hok.out]; rfl)
        go_enter Try.func21, Try.ntmps21
        go_wp2_with fail
        refine (l11Clock_any a _ H1.out w S hS A n c hl0).mono ?_
        rintro e w1 ⟨rfl, b1⟩
        go_wp2_with fail
        refine (l11Clock_any b _ H2.out w1 S (fun x hx => Nat.lt_of_lt_of_le (hS x hx) b1.size) A' n' c' (hl1.keep (fun p hp => b1.cell (hS _ hp)))).mono ?_
        rintro e w2 ⟨rfl, b2⟩
        go_wp2_with fail
        go_ret2
        exact ⟨none, 0, 0, by rw [Hok.out]; rfl, by omega, by rw [Hf.out]; exact Made.nil_ _ _ _, bnext b1 b2⟩

theorem impl_JoinCuts_any (a b : List Int) (w : World) (S : Nat → Prop) (hS : ∀ b, S b → b < w.heap.size) (A A' : Option Addr) (n c n' c' : Nat) (hl0 : RepL w S a A n c) (hl1 : RepL w S b A' n' c') :
    Calls Try.prog 22 #[.slice A n c, .slice A' n' c'] w fun x w' => ∃ A2 m c2, x = .returned (.tuple #[.slice A2 m c2, .bool (okCk a b)]) ∧ m ≤ 5 ∧ Made w w' 3 (joinL a b) A2 m c2 ∧ Below w.heap.size w w' := by
  have hbd := hl0.bd
  have hbd' := hl1.bd
  obtain ⟨hn, -⟩ := id hl0
  obtain ⟨hn', -⟩ := id hl1
  have Hn := Lib.hid hn
  have Hn' := Lib.hid hn'
  clear hn hn'
  obtain ⟨r1, hr1⟩ : ∃ r, okCk a b = r := ⟨_, rfl⟩
  have Hok := Lib.hid hr1
  clear hr1
  cases r1 with
  | false =>
    have Hf := Lib.hid (show joinL a b = [] by unfold joinL; rw [Hok.out]; rfl)
    go_enter Try.func22, Try.ntmps22
    go_wp2_with fail
    refine (areClocks_any a b _ Hok.out w S hS A A' n c n' c' hl0 hl1).mono ?_
    rintro e w1 ⟨rfl, b1⟩
    go_wp2_with fail
    go_ret2
    exact ⟨none, 0, 0, by rw [Hok.out]; rfl, by omega, by rw [Hf.out]; exact Made.nil_ _ _ _, b1⟩
  | true =>
    have Hlen := Lib.hid (okCk_len Hok.out)
    have Hf := Lib.hid (show joinL a b = mostL a b by unfold joinL; rw [Hok.out]; rfl)
    have h5 := okCk_small Hok.out
    go_enter Try.func22, Try.ntmps22
    go_wp2_with fail
    refine (areClocks_any a b _ Hok.out w S hS A A' n c n' c' hl0 hl1).mono ?_
    rintro e w1 ⟨rfl, b1⟩
    go_wp2_with fail
    refine (cloneInt_any a w1 S (fun x hx => Nat.lt_of_lt_of_le (hS x hx) b1.size) A n c (hl0.keep (fun p hp => b1.cell (hS _ hp))) (by have := Hn.out; omega)).mono ?_
    rintro e w2 ⟨A2, c2, rfl, o2, m2, b2⟩
    have hb1 := bnext b1 b2
    have Hown1 := Lib.hid (Made.from_ (w0 := w) ⟨o2, m2⟩ b1.size)
    clear o2 m2
    go_wp2_with fail
    go_loopw [17] (fun i wr => ∃ k : Nat, k ≤ n ∧ i = .int .i64 k ∧ wr.ownsRow w.heap.size 3 1 (.slice A2 n c2) n (encs (mostTo a b k)) ∧ Below w.heap.size w wr) (fun i _ => n - (intOf i).toNat)
    case atStart => exact ⟨0, Nat.zero_le _, rfl, by rw [mostTo_zero]; exact Hown1.out.1, hb1⟩
    case round =>
      obtain ⟨k, hk, rfl, hown, hbel⟩ := hrel
      have hnn : n' = n := by have := Hn.out; have := Hn'.out; have := Hlen.out; omega
      have Hnn := Lib.hid hnn
      clear hnn
      by_cases hlt : k < n
      · have hlt' : k < n' := by have := Hnn.out; omega
        have hk1 : k < a.length := by have := Hn.out; omega
        have hk2 : k < b.length := by have := Hn'.out; omega
        obtain ⟨bb, off', rfl, hSb', hc', hi1'⟩ := hl1.at1 rfl hk2
        have hd0 : wr.cell? ⟨bb, off' + k, none⟩ = some (.int .i64 b[k]) := (hbel.cell (hS _ hSb')).trans (hc' _ rfl)
        obtain ⟨g, rfl⟩ : ∃ g, A2 = some ⟨g, 0, none⟩ := by
          rcases hown.2 with ⟨_, e⟩ | ⟨g, cap, cur, e, _⟩
          · omega
          · simp only [Value.slice.injEq] at e
            exact ⟨g, e.1⟩
        have hu0 : wr.cell? ⟨g, k, none⟩ = some (.int .i64 a[k]) := by rw [hown.cellAt k (by omega)]; exact get_enc _ _ _ (mostTo_get Hlen.out hk1)
        have hf0 := hown.frozenAt k
        have hgB := (hown.lt g rfl).1
        have Hown := Lib.hid hown
        clear hc' hi1' hown
        obtain ⟨mx, hmx⟩ : ∃ mx, max a[k] b[k] = mx := ⟨_, rfl⟩
        have hif1 : (if a[k] < b[k] then b[k] else a[k]) = mx := by rw [← hmx]; split <;> omega
        have hif2 : (if b[k] < a[k] then a[k] else b[k]) = mx := by rw [← hmx]; split <;> omega
        have Hs := Lib.hid (show mostTo a b (k + 1) = (mostTo a b k).set k mx by rw [mostTo_succ Hlen.out hk1, hmx])
        clear hmx
        go_wp2_with fail
        go_roundw
        case rel => exact ⟨k + 1, by omega, by go_num, by rw [Hs.out, ← set_enc _ _ _ (by rw [mostTo_len Hlen.out]; exact hk1)]; exact (Hown.out.stored k _).1, hbel.setCell hgB _⟩
        case measure => simp [intOf]; omega
      · have hlt' : ¬ k < n' := by have := Hnn.out; omega
        go_wp2_with fail
        go_ret2
        have e1 : k = a.length := by have := Hn.out; omega
        rw [e1, mostTo_all Hlen.out] at hown
        refine ⟨A2, n, c2, by rw [Hok.out]; rfl, by have := Hn.out; omega, ?_, hbel⟩
        rw [Hf.out]
        refine ⟨hown, RepL.of_own' rfl ?_ hown (ok_max hl0.ok hl1.ok)⟩
        unfold mostL
        have := Hn.out
        have := Hlen.out
        simp
        omega

end Go.Proofs.Yticinemcmgggpab
