/-
  strings.Join, by the library's own contract.
-/
import Derived.Shelf.Strings.OnBuilder
import Derived.Test.YtmlhlkpiofbhgaaVm
namespace Go.Proofs.Ytmlhlkpiofbhgaa
open Go.Proofs Go.Shelf
open Go.ChangeShapes Go.WideShapes Go.ChangeAt Go.RowKit Go.BigFrame Go.Deep
set_option linter.unusedVariables false
set_option linter.unusedSimpArgs false

def ren_n156 : Shelf.Ren where
  f := fun x => match x with | 156 => 122 | 165 => 123 | 166 => 124 | 169 => 125 | 240 => 126 | 241 => 127 | 276 => 128 | 277 => 129 | n => n
  t := fun x => match x with | 31 => 54 | 9 => 9 | 3 => 3 | 4 => 4 | 0 => 0 | 20 => 20 | 72 => 145 | 76 => 149 | 70 => 143 | 37 => 136 | 75 => 148 | 127 => 152 | 164 => 153 | 5 => 5 | 80 => 151 | n => n
  g := fun x => x
theorem lays_n156 : Lays.n156 Try.prog ren_n156 where
  mixed := by kernel_rfl
  f156 := by kernel_rfl
  f165 := by kernel_rfl
  f166 := by kernel_rfl
  f169 := by kernel_rfl
  f240 := by kernel_rfl
  f241 := by kernel_rfl
  f276 := by kernel_rfl
  f277 := by kernel_rfl
  t0 := Try.underlying0
  a0 := Try.isAgg0
  z0 := Try.sizeOf0
  v0 := Try.zeroValue0
  t3 := Try.underlying3
  a3 := Try.isAgg3
  z3 := Try.sizeOf3
  v3 := Try.zeroValue3
  t4 := Try.underlying4
  a4 := Try.isAgg4
  z4 := Try.sizeOf4
  v4 := Try.zeroValue4
  t9 := Try.underlying9
  a9 := Try.isAgg9
  z9 := Try.sizeOf9
  v9 := Try.zeroValue9
  t20 := Try.underlying20
  a20 := Try.isAgg20
  z20 := Try.sizeOf20
  v20 := Try.zeroValue20
  t31 := Try.underlying54
  a31 := Try.isAgg54
  z31 := Try.sizeOf54
  v31 := Try.zeroValue54
  t37 := Try.underlying136
  a37 := Try.isAgg136
  z37 := Try.sizeOf136
  v37 := Try.zeroValue136
  t70 := Try.underlying143
  a70 := Try.isAgg143
  z70 := Try.sizeOf143
  v70 := Try.zeroValue143
  t72 := Try.underlying145
  a72 := Try.isAgg145
  z72 := Try.sizeOf145
  v72 := Try.zeroValue145
  t75 := Try.underlying148
  a75 := Try.isAgg148
  z75 := Try.sizeOf148
  v75 := Try.zeroValue148
  t76 := Try.underlying149
  a76 := Try.isAgg149
  z76 := Try.sizeOf149
  v76 := Try.zeroValue149
  t127 := Try.underlying152
  a127 := Try.isAgg152
  z127 := Try.sizeOf152
  v127 := Try.zeroValue152
  t164 := Try.underlying153
  a164 := Try.isAgg153
  z164 := Try.sizeOf153
  v164 := Try.zeroValue153

theorem extra_n156 : Builder.Extra Try.prog ren_n156 where
  sizeBuilder := by kernel_rfl
  liesBuilder := by kernel_rfl
  t5 := Try.underlying5
  a5 := Try.isAgg5
  z5 := Try.sizeOf5
  v5 := Try.zeroValue5
  infoByte := by kernel_rfl
  cellsByte := by kernel_rfl
  sizeByte := by kernel_rfl
  neB5 := by decide
/-- The elements with the separator between them. -/
def joinB (xs : List ByteArray) (sep : ByteArray) : ByteArray := ⟨(Lib.join (xs.map (·.data.toList)) sep.data.toList).toArray⟩
theorem v_Join (xs : List ByteArray) (sep : ByteArray) (hN : xs.length ≤ 1000000) (hlen : (joinB xs sep).size ≤ 1000000) :
    Fn Try.prog 122 [.one (.lst 1 xs.length fun i _ => .str (xs.getD i ByteArray.empty)), .one (.str sep)] (.one (.str (joinB xs sep))) := by
  intro w S vs hS hd
  obtain ⟨v, vs1, rfl, h1, u, vs2, rfl, h2, h3⟩ := hd
  obtain rfl : vs2 = [] := h3
  obtain ⟨A, c, rfl, g1, g2, g3, g4⟩ := h1
  obtain ⟨rfl, _⟩ := h2
  match xs, hN, hlen, g1, g4 with
  | [], _, _, _, _ =>
    exact (Any.strings_Join_none lays_n156 extra_n156 A c sep w).mono fun e w' ⟨he, hw⟩ => ⟨he, hw ▸ Below.refl _ _⟩
  | x :: r, hN, hlen, g1, g4 =>
    obtain ⟨b, off, hA, hSb, _⟩ := g4 0 (by simp)
    subst hA
    have hl : (Lib.join ((x :: r).map (·.data.toList)) sep.data.toList).length ≤ 140737488355328 := by
      have : (joinB (x :: r) sep).size = (Lib.join ((x :: r).map (·.data.toList)) sep.data.toList).length := by simp [joinB, ByteArray.size]
      omega
    refine (Any.strings_Join lays_n156 extra_n156 b off c (x :: r) sep w (fun j y hj => ?_) (hS b hSb) (by omega) g1 hl).mono fun e w' ⟨he, hw⟩ => ⟨he, hw⟩
    have hjl : j < (x :: r).length := (List.getElem?_eq_some_iff.1 hj).1
    obtain ⟨b', off', hA', _, hc⟩ := g4 j hjl
    simp only [Option.some.injEq, Addr.mk.injEq, and_true] at hA'
    obtain ⟨rfl, rfl⟩ := hA'
    obtain ⟨u, hu, hd, _⟩ := hc 0 (by omega)
    have e : off + (j * 1 + 0) = off + j := by omega
    rw [e] at hu
    rw [hu, hd, List.getD_eq_getElem?_getD, hj]; rfl
end Go.Proofs.Ytmlhlkpiofbhgaa
