/-
  No cell of these rows narrows 'for every input' (looked for: loops, veiled, ifaces, maps, wideKeys, modest, calm, conditions, laid).
  DERIVED. THE GIVEN ROWS OF THIS SEAT. 6 by the template 'for every input the law returns true; each argument reads behind the call as it read before'; 0 by the template 'total and deterministic' (their statements: YtgcliipdkoefaaaTotals.lean).
  GIVEN WITH THE SEED: the statements are not yours to turn. If you find one false, say at which input.
  Laid BY PROGRAM, IN A SANDBOX (cutbox-rows.mjs): the forced cells as the released guide's own fill.sh prints them over the translation 5ed1786cb6980a97… (all of the seat's roots in one cut). By AI agents, Wed Nov 11 2026. No macro, syntax, notation, axiom, sorry.
-/
import Derived.Test.YtgcliipdkoefaaaChecked
import GoSem.Claim
import GoSem.ClaimJoined
import GoSem.ClaimMapViews
import Derived.JoinedTies
import Derived.KernelRfl
namespace Go.Proofs.Ytgcliipdkoefaaa
/- THE CELL 'sum', in the pinned program and in every row, IS THE sha256 OF THE DUMP (.gsa) THAT YtgcliipdkoefaaaProg.lean LOADS. Nothing in Lean hashes anything: it is a label: what it is worth is what the hold of that sum in a sandbox is worth. -/
noncomputable def Try.pinned : Pinned := { name := "ytgcliipdkoefaaa", sum := "5ed1786cb6980a976fe56224f22b9d22d57104c51bfe7a0f9a9cc4beae2c065b", checked := Try.checked }
namespace Rows
def none {H : Type} : Left H := { results := [], args := [] }

/-- 'laws.FnExactMatchLogs': WHATEVER THE INPUT: true; the input reads as it did. -/
def fnExactMatchLogsSpec : ChangeSpec := { name := "fnExactMatchLogs", fn := fun _ => fun
  | [d1, d2] => { results := [.lit (.bool true)], args := [d1, d2] }
  | _ => none }
def fnExactMatchLogsRow : OpenClaim := { program := "ytgcliipdkoefaaa", sum := "5ed1786cb6980a976fe56224f22b9d22d57104c51bfe7a0f9a9cc4beae2c065b", func := "loop.example/g00522/laws.FnExactMatchLogs", spec := "fnExactMatchLogs", unfollowed := true, recurses := true, apart := false }
def FnExactMatchLogsSaid : Prop := fnExactMatchLogsRow.holds Try.pinned (OpenSpec.ofChange fnExactMatchLogsSpec)

/-- ITS FALSE NEIGHBOUR: 'it returns false'. Refute it at one input. -/
def fnExactMatchLogsWrong : ChangeSpec := { name := "fnExactMatchLogs", fn := fun _ => fun
  | [d1, d2] => { results := [.lit (.bool false)], args := [d1, d2] }
  | _ => none }
def FnExactMatchLogsWrongFalsely : Prop := fnExactMatchLogsRow.holds Try.pinned (OpenSpec.ofChange fnExactMatchLogsWrong)

/-- 'laws.FnExactStartsOf': WHATEVER THE INPUT: true; the input reads as it did. -/
def fnExactStartsOfSpec : ChangeSpec := { name := "fnExactStartsOf", fn := fun _ => fun
  | [d] => { results := [.lit (.bool true)], args := [d] }
  | _ => none }
def fnExactStartsOfRow : OpenClaim := { program := "ytgcliipdkoefaaa", sum := "5ed1786cb6980a976fe56224f22b9d22d57104c51bfe7a0f9a9cc4beae2c065b", func := "loop.example/g00522/laws.FnExactStartsOf", spec := "fnExactStartsOf", apart := false }
def FnExactStartsOfSaid : Prop := fnExactStartsOfRow.holds Try.pinned (OpenSpec.ofChange fnExactStartsOfSpec)

/-- ITS FALSE NEIGHBOUR: 'it returns false'. Refute it at one input. -/
def fnExactStartsOfWrong : ChangeSpec := { name := "fnExactStartsOf", fn := fun _ => fun
  | [d] => { results := [.lit (.bool false)], args := [d] }
  | _ => none }
def FnExactStartsOfWrongFalsely : Prop := fnExactStartsOfRow.holds Try.pinned (OpenSpec.ofChange fnExactStartsOfWrong)

/-- 'laws.FnExactFindPart': WHATEVER THE INPUT: true; the input reads as it did. -/
def fnExactFindPartSpec : ChangeSpec := { name := "fnExactFindPart", fn := fun _ => fun
  | [d1, d2, d3] => { results := [.lit (.bool true)], args := [d1, d2, d3] }
  | _ => none }
def fnExactFindPartRow : OpenClaim := { program := "ytgcliipdkoefaaa", sum := "5ed1786cb6980a976fe56224f22b9d22d57104c51bfe7a0f9a9cc4beae2c065b", func := "loop.example/g00522/laws.FnExactFindPart", spec := "fnExactFindPart", unfollowed := true, recurses := true, apart := false }
def FnExactFindPartSaid : Prop := fnExactFindPartRow.holds Try.pinned (OpenSpec.ofChange fnExactFindPartSpec)

/-- ITS FALSE NEIGHBOUR: 'it returns false'. Refute it at one input. -/
def fnExactFindPartWrong : ChangeSpec := { name := "fnExactFindPart", fn := fun _ => fun
  | [d1, d2, d3] => { results := [.lit (.bool false)], args := [d1, d2, d3] }
  | _ => none }
def FnExactFindPartWrongFalsely : Prop := fnExactFindPartRow.holds Try.pinned (OpenSpec.ofChange fnExactFindPartWrong)

/-- 'laws.FnExactFollowLog': WHATEVER THE INPUT: true; the input reads as it did. -/
def fnExactFollowLogSpec : ChangeSpec := { name := "fnExactFollowLog", fn := fun _ => fun
  | [d1, d2] => { results := [.lit (.bool true)], args := [d1, d2] }
  | _ => none }
def fnExactFollowLogRow : OpenClaim := { program := "ytgcliipdkoefaaa", sum := "5ed1786cb6980a976fe56224f22b9d22d57104c51bfe7a0f9a9cc4beae2c065b", func := "loop.example/g00522/laws.FnExactFollowLog", spec := "fnExactFollowLog", unfollowed := true, recurses := true, apart := false }
def FnExactFollowLogSaid : Prop := fnExactFollowLogRow.holds Try.pinned (OpenSpec.ofChange fnExactFollowLogSpec)

/-- ITS FALSE NEIGHBOUR: 'it returns false'. Refute it at one input. -/
def fnExactFollowLogWrong : ChangeSpec := { name := "fnExactFollowLog", fn := fun _ => fun
  | [d1, d2] => { results := [.lit (.bool false)], args := [d1, d2] }
  | _ => none }
def FnExactFollowLogWrongFalsely : Prop := fnExactFollowLogRow.holds Try.pinned (OpenSpec.ofChange fnExactFollowLogWrong)

/-- 'laws.FnParts': WHATEVER THE INPUT: true; the input reads as it did. -/
def fnPartsSpec : ChangeSpec := { name := "fnParts", fn := fun _ => fun
  | [d1, d2] => { results := [.lit (.bool true)], args := [d1, d2] }
  | _ => none }
def fnPartsRow : OpenClaim := { program := "ytgcliipdkoefaaa", sum := "5ed1786cb6980a976fe56224f22b9d22d57104c51bfe7a0f9a9cc4beae2c065b", func := "loop.example/g00522/laws.FnParts", spec := "fnParts", unfollowed := true, recurses := true, apart := false }
def FnPartsSaid : Prop := fnPartsRow.holds Try.pinned (OpenSpec.ofChange fnPartsSpec)

/-- ITS FALSE NEIGHBOUR: 'it returns false'. Refute it at one input. -/
def fnPartsWrong : ChangeSpec := { name := "fnParts", fn := fun _ => fun
  | [d1, d2] => { results := [.lit (.bool false)], args := [d1, d2] }
  | _ => none }
def FnPartsWrongFalsely : Prop := fnPartsRow.holds Try.pinned (OpenSpec.ofChange fnPartsWrong)

/-- 'laws.FnFollow': WHATEVER THE INPUT: true; the input reads as it did. -/
def fnFollowSpec : ChangeSpec := { name := "fnFollow", fn := fun _ => fun
  | [d1, d2] => { results := [.lit (.bool true)], args := [d1, d2] }
  | _ => none }
def fnFollowRow : OpenClaim := { program := "ytgcliipdkoefaaa", sum := "5ed1786cb6980a976fe56224f22b9d22d57104c51bfe7a0f9a9cc4beae2c065b", func := "loop.example/g00522/laws.FnFollow", spec := "fnFollow", unfollowed := true, recurses := true, apart := false }
def FnFollowSaid : Prop := fnFollowRow.holds Try.pinned (OpenSpec.ofChange fnFollowSpec)

/-- ITS FALSE NEIGHBOUR: 'it returns false'. Refute it at one input. -/
def fnFollowWrong : ChangeSpec := { name := "fnFollow", fn := fun _ => fun
  | [d1, d2] => { results := [.lit (.bool false)], args := [d1, d2] }
  | _ => none }
def FnFollowWrongFalsely : Prop := fnFollowRow.holds Try.pinned (OpenSpec.ofChange fnFollowWrong)

/- THE SECOND FORM. 'bulk': how many values and letters a reading holds, each counted each time it is reached (what is shared counts as often as it is met; a slice's spare places count too). A statement '..UptoSaid' is the law's where the arguments, and the package variables that the reading takes, are together of bulk at most 1048576: NARROWER than '..Said'. Prove '..Said' where nothing that the law and all that it calls make is longer than what came in: it says more and counts as full. Else prove '..UptoSaid'. A law counts once. -/
mutual
def uptoBulk {H : Type} : DataW H → Nat
  | .lit (.string bytes) => bytes.length + 1
  | .lit _ => 1
  | .nil => 1
  | .ptr d => uptoBulk d + 1
  | .slice elems spare => uptoBulkAll elems + uptoBulkAll spare + 1
  | .agg parts => uptoBulkAll parts + 1
  | .iface _ d => uptoBulk d + 1
  | .map entries => uptoBulkEntries entries + 1
  | .held _ => 1
def uptoBulkAll {H : Type} : List (DataW H) → Nat
  | [] => 0
  | d :: r => uptoBulk d + uptoBulkAll r
def uptoBulkEntries {H : Type} : List (Lit × DataW H) → Nat
  | [] => 0
  | x :: r => uptoBulkEntry x + uptoBulkEntries r
def uptoBulkEntry {H : Type} : Lit × DataW H → Nat
  | (.string bytes, d) => bytes.length + uptoBulk d + 1
  | (_, d) => uptoBulk d + 1
 end
def uptoSmall : (H : Type) → List (DataW H) → Bool := fun _ ds => decide (uptoBulkAll ds ≤ 1048576)
def OpenSpec.upto (s : _root_.Go.ChangeSpec) : _root_.Go.OpenSpec := { _root_.Go.OpenSpec.ofChange s with cond := some uptoSmall }

/-- 'laws.FnExactMatchLogs', WHERE WHAT IT READS IS OF BULK AT MOST 1048576: true; the input reads as it did. -/
def fnExactMatchLogsUptoRow : OpenClaim := { program := "ytgcliipdkoefaaa", sum := "5ed1786cb6980a976fe56224f22b9d22d57104c51bfe7a0f9a9cc4beae2c065b", func := "loop.example/g00522/laws.FnExactMatchLogs", spec := "fnExactMatchLogs", unfollowed := true, recurses := true, apart := false, narrowed := true }
def FnExactMatchLogsUptoSaid : Prop := fnExactMatchLogsUptoRow.holds Try.pinned (OpenSpec.upto fnExactMatchLogsSpec)

/-- 'laws.FnExactStartsOf', WHERE WHAT IT READS IS OF BULK AT MOST 1048576: true; the input reads as it did. -/
def fnExactStartsOfUptoRow : OpenClaim := { program := "ytgcliipdkoefaaa", sum := "5ed1786cb6980a976fe56224f22b9d22d57104c51bfe7a0f9a9cc4beae2c065b", func := "loop.example/g00522/laws.FnExactStartsOf", spec := "fnExactStartsOf", apart := false, narrowed := true }
def FnExactStartsOfUptoSaid : Prop := fnExactStartsOfUptoRow.holds Try.pinned (OpenSpec.upto fnExactStartsOfSpec)

/-- 'laws.FnExactFindPart', WHERE WHAT IT READS IS OF BULK AT MOST 1048576: true; the input reads as it did. -/
def fnExactFindPartUptoRow : OpenClaim := { program := "ytgcliipdkoefaaa", sum := "5ed1786cb6980a976fe56224f22b9d22d57104c51bfe7a0f9a9cc4beae2c065b", func := "loop.example/g00522/laws.FnExactFindPart", spec := "fnExactFindPart", unfollowed := true, recurses := true, apart := false, narrowed := true }
def FnExactFindPartUptoSaid : Prop := fnExactFindPartUptoRow.holds Try.pinned (OpenSpec.upto fnExactFindPartSpec)

/-- 'laws.FnExactFollowLog', WHERE WHAT IT READS IS OF BULK AT MOST 1048576: true; the input reads as it did. -/
def fnExactFollowLogUptoRow : OpenClaim := { program := "ytgcliipdkoefaaa", sum := "5ed1786cb6980a976fe56224f22b9d22d57104c51bfe7a0f9a9cc4beae2c065b", func := "loop.example/g00522/laws.FnExactFollowLog", spec := "fnExactFollowLog", unfollowed := true, recurses := true, apart := false, narrowed := true }
def FnExactFollowLogUptoSaid : Prop := fnExactFollowLogUptoRow.holds Try.pinned (OpenSpec.upto fnExactFollowLogSpec)

/-- 'laws.FnParts', WHERE WHAT IT READS IS OF BULK AT MOST 1048576: true; the input reads as it did. -/
def fnPartsUptoRow : OpenClaim := { program := "ytgcliipdkoefaaa", sum := "5ed1786cb6980a976fe56224f22b9d22d57104c51bfe7a0f9a9cc4beae2c065b", func := "loop.example/g00522/laws.FnParts", spec := "fnParts", unfollowed := true, recurses := true, apart := false, narrowed := true }
def FnPartsUptoSaid : Prop := fnPartsUptoRow.holds Try.pinned (OpenSpec.upto fnPartsSpec)

/-- 'laws.FnFollow', WHERE WHAT IT READS IS OF BULK AT MOST 1048576: true; the input reads as it did. -/
def fnFollowUptoRow : OpenClaim := { program := "ytgcliipdkoefaaa", sum := "5ed1786cb6980a976fe56224f22b9d22d57104c51bfe7a0f9a9cc4beae2c065b", func := "loop.example/g00522/laws.FnFollow", spec := "fnFollow", unfollowed := true, recurses := true, apart := false, narrowed := true }
def FnFollowUptoSaid : Prop := fnFollowUptoRow.holds Try.pinned (OpenSpec.upto fnFollowSpec)

end Rows
end Go.Proofs.Ytgcliipdkoefaaa
