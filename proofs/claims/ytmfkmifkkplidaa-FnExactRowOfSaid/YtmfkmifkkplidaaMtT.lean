/-
  Contract: markText of the laws.
-/
import Derived.Test.YtmfkmifkkplidaaKit
namespace Go.Proofs.Ytmfkmifkkplidaa
open Go.ChangeShapes Go.WideShapes Go.ChangeAt Go.RowKit Go.BigFrame
set_option linter.unusedVariables false

set_option maxRecDepth 20000
/-- The decimal digits of a number ahead of a text. -/
def digTo : Nat → Nat → ByteArray → ByteArray
  | 0, _, s => s
  | f + 1, q, s => if q = 0 then s else digTo f (q / 10) ((⟨#[UInt8.ofNat (48 + q % 10)]⟩ : ByteArray) ++ s)
theorem digTo_zero (f : Nat) (s : ByteArray) : digTo f 0 s = s := by cases f <;> simp [digTo]
theorem digTo_step {f q : Nat} {s : ByteArray} (h : 0 < q) (hf : q ≤ f) : digTo f q s = digTo (f - 1) (q / 10) ((⟨#[UInt8.ofNat (48 + q % 10)]⟩ : ByteArray) ++ s) := by
  cases f with
  | zero => omega
  | succ f => show (if q = 0 then s else _) = _; rw [if_neg (by omega)]; rfl
/-- What markText answers. -/
def mkText (k : Nat) : ByteArray := (⟨#[109]⟩ : ByteArray) ++ digTo k k ⟨#[]⟩
theorem markText_any (k : Nat) (hk1 : 0 < k) (h1 : k ≤ 1000000000) (w : World) : Calls Try.prog 63 #[.int .i64 k] w fun e w' => e = .returned (.string (mkText k)) ∧ (mkText k).size ≤ 20 ∧ Below w.heap.size w w' := by
  have hk2 : ¬ k = 0 := by omega
  go_enter Try.func63, Try.ntmps63
  go_wp2_with fail
  go_loopw [0, 3] (fun q o wr => ∃ (m f : Nat) (s : ByteArray), q = .int .i64 m ∧ o = .string s ∧ m ≤ 1000000000 ∧ m ≤ f ∧ digTo f m s = digTo k k ⟨#[]⟩ ∧ m * 10 ^ s.size ≤ 1000000000 ∧ s.size ≤ 10 ∧ Below w.heap.size w wr) (fun q _ _ => (intOf q).toNat)
  case atStart => exact ⟨k, k, ⟨#[]⟩, rfl, rfl, h1, Nat.le_refl _, rfl, by show k * 10 ^ 0 ≤ _; omega, by show 0 ≤ 10; omega, Below.refl _ _⟩
  case round =>
    obtain ⟨m, f, s, rfl, rfl, hm, hf, hdig, hpow, hs, hbel⟩ := hrel
    have Hdig := Lib.hid hdig
    have Hpow := Lib.hid hpow
    clear hdig hpow
    by_cases hz : 0 < m
    · have d1 : decide (0 < m) = true := decide_eq_true hz
      obtain ⟨b, hb⟩ : ∃ b, UInt8.ofNat (48 + m % 10) = b := ⟨_, rfl⟩
      have hbn : b.toNat = 48 + m % 10 := by rw [← hb, UInt8.toNat_ofNat']; omega
      have hcv : (convert 62 9 (.slice (some ⟨wr.heap.size, 0, none⟩) 1 1)).run Try.prog (wr.alloc (.cells #[.int .u8 (48 + (m : Int) % 10)] 5)) = .ok (.string ⟨#[b]⟩) (wr.alloc (.cells #[.int .u8 (48 + (m : Int) % 10)] 5)) :=
        run_convert_bytes_back (P := Try.prog) _ 62 9 5 ⟨wr.heap.size, 0, none⟩ 1 [b] Try.underlying62 Try.underlying5 Try.underlying9 (fun j hj => by
          have hj0 : j = 0 := by simp at hj; exact hj
          subst hj0
          simp [Addr.add, hbn])
      have hsum : (⟨#[b]⟩ : ByteArray).size + s.size ≤ 9223372036854775807 := by show 1 + s.size ≤ _; omega
      have Hd2 := Lib.hid (show digTo (f - 1) (m / 10) ((⟨#[b]⟩ : ByteArray) ++ s) = digTo k k ⟨#[]⟩ by rw [← Hdig.out, digTo_step hz hf, hb])
      have Hp2 := Lib.hid (show m / 10 * 10 ^ ((⟨#[b]⟩ : ByteArray) ++ s).size ≤ 1000000000 ∧ ((⟨#[b]⟩ : ByteArray) ++ s).size ≤ 10 by
        have e : ((⟨#[b]⟩ : ByteArray) ++ s).size = s.size + 1 := by rw [ByteArray.size_append]; show 1 + s.size = _; omega
        have hp := Hpow.out
        rw [e]
        refine ⟨?_, ?_⟩
        · rw [Nat.pow_succ, Nat.mul_comm (10 ^ s.size), ← Nat.mul_assoc]
          exact Nat.le_trans (Nat.mul_le_mul_right _ (Nat.div_mul_le_self m 10)) hp
        · rcases Nat.lt_or_ge s.size 10 with h | h
          · omega
          · have h2 : 10 ^ 10 ≤ 10 ^ s.size := Nat.pow_le_pow_right (by omega) h
            have h3 : 10 ^ s.size ≤ m * 10 ^ s.size := Nat.le_mul_of_pos_left _ hz
            have : (10 : Nat) ^ 10 = 10000000000 := by decide
            omega)
      have Hb := Lib.hid (hbel.alloc hbel.size (.cells #[.int .u8 (48 + (m : Int) % 10)] 5))
      clear hb hbn
      go_wp2_with fail
      go_roundw
      case rel => exact ⟨m / 10, f - 1, (⟨#[b]⟩ : ByteArray) ++ s, by simp, rfl, by omega, by omega, Hd2.out, Hp2.out.1, Hp2.out.2, Hb.out⟩
      case measure => simp [intOf]; omega
    · have hz0 : m = 0 := by omega
      subst hz0
      have Hm := Lib.hid (show (⟨#[109]⟩ : ByteArray) ++ s = mkText k by unfold mkText; rw [← Hdig.out, digTo_zero])
      have hsum : (⟨#[109]⟩ : ByteArray).size + s.size ≤ 9223372036854775807 := by show 1 + s.size ≤ _; omega
      have Hsz := Lib.hid (show (mkText k).size ≤ 20 by rw [← Hm.out, ByteArray.size_append]; show 1 + s.size ≤ 20; omega)
      go_wp2_with fail
      go_ret
      exact ⟨by rw [← Hm.out]; rfl, Hsz.out, hbel⟩

end Go.Proofs.Ytmfkmifkkplidaa
