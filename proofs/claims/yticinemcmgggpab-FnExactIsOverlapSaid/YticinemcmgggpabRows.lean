/-
  No cell of these rows narrows 'for every input' (looked for: loops, veiled, ifaces, maps, wideKeys, modest, calm, conditions, laid).
  DERIVED. THE GIVEN ROWS OF THIS SEAT. 5 by the template 'for every input the law returns true; each argument reads behind the call as it read before'; 0 by the template 'total and deterministic' (their statements: YticinemcmgggpabTotals.lean).
  GIVEN WITH THE SEED: the statements are not yours to turn. If you find one false, say at which input.
  Laid BY PROGRAM, IN A SANDBOX (cutbox-rows.mjs): the forced cells as the released guide's own fill.sh prints them over the translation 3ae970c6b43c0b4a… (all of the seat's roots in one cut). By AI agents, Wed Nov 11 2026. No macro, syntax, notation, axiom, sorry.
-/
import Derived.Test.YticinemcmgggpabChecked
import GoSem.Claim
import GoSem.ClaimJoined
import GoSem.ClaimMapViews
import Derived.JoinedTies
import Derived.KernelRfl
namespace Go.Proofs.Yticinemcmgggpab
/- THE CELL 'sum', in the pinned program and in every row, IS THE sha256 OF THE DUMP (.gsa) THAT YticinemcmgggpabProg.lean LOADS. Nothing in Lean hashes anything: it is a label: what it is worth is what the hold of that sum in a sandbox is worth. -/
noncomputable def Try.pinned : Pinned := { name := "yticinemcmgggpab", sum := "3ae970c6b43c0b4a154805f84e9d52580dade76c669af4eb4a77785cad96862e", checked := Try.checked }
namespace Rows
def none {H : Type} : Left H := { results := [], args := [] }

/-- 'laws.FnExactEndOfEpoch': WHATEVER THE INPUT: true; the input reads as it did. -/
def fnExactEndOfEpochSpec : ChangeSpec := { name := "fnExactEndOfEpoch", fn := fun _ => fun
  | [d1, d2] => { results := [.lit (.bool true)], args := [d1, d2] }
  | _ => none }
def fnExactEndOfEpochRow : OpenClaim := { program := "yticinemcmgggpab", sum := "3ae970c6b43c0b4a154805f84e9d52580dade76c669af4eb4a77785cad96862e", func := "loop.example/g00522/laws.FnExactEndOfEpoch", spec := "fnExactEndOfEpoch", apart := false }
def FnExactEndOfEpochSaid : Prop := fnExactEndOfEpochRow.holds Try.pinned (OpenSpec.ofChange fnExactEndOfEpochSpec)

/-- ITS FALSE NEIGHBOUR: 'it returns false'. Refute it at one input. -/
def fnExactEndOfEpochWrong : ChangeSpec := { name := "fnExactEndOfEpoch", fn := fun _ => fun
  | [d1, d2] => { results := [.lit (.bool false)], args := [d1, d2] }
  | _ => none }
def FnExactEndOfEpochWrongFalsely : Prop := fnExactEndOfEpochRow.holds Try.pinned (OpenSpec.ofChange fnExactEndOfEpochWrong)

/-- 'laws.FnExactIsNewer': WHATEVER THE INPUT: true; the input reads as it did. -/
def fnExactIsNewerSpec : ChangeSpec := { name := "fnExactIsNewer", fn := fun _ => fun
  | [d1, d2] => { results := [.lit (.bool true)], args := [d1, d2] }
  | _ => none }
def fnExactIsNewerRow : OpenClaim := { program := "yticinemcmgggpab", sum := "3ae970c6b43c0b4a154805f84e9d52580dade76c669af4eb4a77785cad96862e", func := "loop.example/g00522/laws.FnExactIsNewer", spec := "fnExactIsNewer", apart := false }
def FnExactIsNewerSaid : Prop := fnExactIsNewerRow.holds Try.pinned (OpenSpec.ofChange fnExactIsNewerSpec)

/-- ITS FALSE NEIGHBOUR: 'it returns false'. Refute it at one input. -/
def fnExactIsNewerWrong : ChangeSpec := { name := "fnExactIsNewer", fn := fun _ => fun
  | [d1, d2] => { results := [.lit (.bool false)], args := [d1, d2] }
  | _ => none }
def FnExactIsNewerWrongFalsely : Prop := fnExactIsNewerRow.holds Try.pinned (OpenSpec.ofChange fnExactIsNewerWrong)

/-- 'laws.FnExactIsOverlap': WHATEVER THE INPUT: true; the input reads as it did. -/
def fnExactIsOverlapSpec : ChangeSpec := { name := "fnExactIsOverlap", fn := fun _ => fun
  | [d1, d2, d3] => { results := [.lit (.bool true)], args := [d1, d2, d3] }
  | _ => none }
def fnExactIsOverlapRow : OpenClaim := { program := "yticinemcmgggpab", sum := "3ae970c6b43c0b4a154805f84e9d52580dade76c669af4eb4a77785cad96862e", func := "loop.example/g00522/laws.FnExactIsOverlap", spec := "fnExactIsOverlap", unfollowed := true, recurses := true, apart := false }
def FnExactIsOverlapSaid : Prop := fnExactIsOverlapRow.holds Try.pinned (OpenSpec.ofChange fnExactIsOverlapSpec)

/-- ITS FALSE NEIGHBOUR: 'it returns false'. Refute it at one input. -/
def fnExactIsOverlapWrong : ChangeSpec := { name := "fnExactIsOverlap", fn := fun _ => fun
  | [d1, d2, d3] => { results := [.lit (.bool false)], args := [d1, d2, d3] }
  | _ => none }
def FnExactIsOverlapWrongFalsely : Prop := fnExactIsOverlapRow.holds Try.pinned (OpenSpec.ofChange fnExactIsOverlapWrong)

/-- 'laws.FnExactLessClock': WHATEVER THE INPUT: true; the input reads as it did. -/
def fnExactLessClockSpec : ChangeSpec := { name := "fnExactLessClock", fn := fun _ => fun
  | [d1, d2] => { results := [.lit (.bool true)], args := [d1, d2] }
  | _ => none }
def fnExactLessClockRow : OpenClaim := { program := "yticinemcmgggpab", sum := "3ae970c6b43c0b4a154805f84e9d52580dade76c669af4eb4a77785cad96862e", func := "loop.example/g00522/laws.FnExactLessClock", spec := "fnExactLessClock", unfollowed := true, recurses := true, apart := false }
def FnExactLessClockSaid : Prop := fnExactLessClockRow.holds Try.pinned (OpenSpec.ofChange fnExactLessClockSpec)

/-- ITS FALSE NEIGHBOUR: 'it returns false'. Refute it at one input. -/
def fnExactLessClockWrong : ChangeSpec := { name := "fnExactLessClock", fn := fun _ => fun
  | [d1, d2] => { results := [.lit (.bool false)], args := [d1, d2] }
  | _ => none }
def FnExactLessClockWrongFalsely : Prop := fnExactLessClockRow.holds Try.pinned (OpenSpec.ofChange fnExactLessClockWrong)

/-- 'laws.FnExactJoinCuts': WHATEVER THE INPUT: true; the input reads as it did. -/
def fnExactJoinCutsSpec : ChangeSpec := { name := "fnExactJoinCuts", fn := fun _ => fun
  | [d1, d2] => { results := [.lit (.bool true)], args := [d1, d2] }
  | _ => none }
def fnExactJoinCutsRow : OpenClaim := { program := "yticinemcmgggpab", sum := "3ae970c6b43c0b4a154805f84e9d52580dade76c669af4eb4a77785cad96862e", func := "loop.example/g00522/laws.FnExactJoinCuts", spec := "fnExactJoinCuts", unfollowed := true, recurses := true, apart := false }
def FnExactJoinCutsSaid : Prop := fnExactJoinCutsRow.holds Try.pinned (OpenSpec.ofChange fnExactJoinCutsSpec)

/-- ITS FALSE NEIGHBOUR: 'it returns false'. Refute it at one input. -/
def fnExactJoinCutsWrong : ChangeSpec := { name := "fnExactJoinCuts", fn := fun _ => fun
  | [d1, d2] => { results := [.lit (.bool false)], args := [d1, d2] }
  | _ => none }
def FnExactJoinCutsWrongFalsely : Prop := fnExactJoinCutsRow.holds Try.pinned (OpenSpec.ofChange fnExactJoinCutsWrong)

/- THE SECOND FORM. 'bulk': how many values and letters a reading holds, each counted each time it is reached (what is shared counts as often as it is met; a slice's spare places count too). A statement '..UptoSaid' is the law's where the arguments, and the package variables that the reading takes, are together of bulk at most 1048576: NARROWER than '..Said'. Prove '..Said' where nothing that the law and all that it calls make is longer than what came in: it says more and counts as full. Else prove '..UptoSaid'. A law counts once. -/
mutual
def uptoBulk {H : Type} : DataW H → Nat
  | .lit (.string bytes) => bytes.length + 1
  | .lit _ => 1
  | .nil => 1
  | .ptr d => uptoBulk d + 1
  | .slice elems spare => uptoBulkAll elems + uptoBulkAll spare + 1
  | .agg parts => uptoBulkAll parts + 1
  | .iface _ d => uptoBulk d + 1
  | .map entries => uptoBulkEntries entries + 1
  | .held _ => 1
def uptoBulkAll {H : Type} : List (DataW H) → Nat
  | [] => 0
  | d :: r => uptoBulk d + uptoBulkAll r
def uptoBulkEntries {H : Type} : List (Lit × DataW H) → Nat
  | [] => 0
  | x :: r => uptoBulkEntry x + uptoBulkEntries r
def uptoBulkEntry {H : Type} : Lit × DataW H → Nat
  | (.string bytes, d) => bytes.length + uptoBulk d + 1
  | (_, d) => uptoBulk d + 1
 end
def uptoSmall : (H : Type) → List (DataW H) → Bool := fun _ ds => decide (uptoBulkAll ds ≤ 1048576)
def OpenSpec.upto (s : _root_.Go.ChangeSpec) : _root_.Go.OpenSpec := { _root_.Go.OpenSpec.ofChange s with cond := some uptoSmall }

/-- 'laws.FnExactEndOfEpoch', WHERE WHAT IT READS IS OF BULK AT MOST 1048576: true; the input reads as it did. -/
def fnExactEndOfEpochUptoRow : OpenClaim := { program := "yticinemcmgggpab", sum := "3ae970c6b43c0b4a154805f84e9d52580dade76c669af4eb4a77785cad96862e", func := "loop.example/g00522/laws.FnExactEndOfEpoch", spec := "fnExactEndOfEpoch", apart := false, narrowed := true }
def FnExactEndOfEpochUptoSaid : Prop := fnExactEndOfEpochUptoRow.holds Try.pinned (OpenSpec.upto fnExactEndOfEpochSpec)

/-- 'laws.FnExactIsNewer', WHERE WHAT IT READS IS OF BULK AT MOST 1048576: true; the input reads as it did. -/
def fnExactIsNewerUptoRow : OpenClaim := { program := "yticinemcmgggpab", sum := "3ae970c6b43c0b4a154805f84e9d52580dade76c669af4eb4a77785cad96862e", func := "loop.example/g00522/laws.FnExactIsNewer", spec := "fnExactIsNewer", apart := false, narrowed := true }
def FnExactIsNewerUptoSaid : Prop := fnExactIsNewerUptoRow.holds Try.pinned (OpenSpec.upto fnExactIsNewerSpec)

/-- 'laws.FnExactIsOverlap', WHERE WHAT IT READS IS OF BULK AT MOST 1048576: true; the input reads as it did. -/
def fnExactIsOverlapUptoRow : OpenClaim := { program := "yticinemcmgggpab", sum := "3ae970c6b43c0b4a154805f84e9d52580dade76c669af4eb4a77785cad96862e", func := "loop.example/g00522/laws.FnExactIsOverlap", spec := "fnExactIsOverlap", unfollowed := true, recurses := true, apart := false, narrowed := true }
def FnExactIsOverlapUptoSaid : Prop := fnExactIsOverlapUptoRow.holds Try.pinned (OpenSpec.upto fnExactIsOverlapSpec)

/-- 'laws.FnExactLessClock', WHERE WHAT IT READS IS OF BULK AT MOST 1048576: true; the input reads as it did. -/
def fnExactLessClockUptoRow : OpenClaim := { program := "yticinemcmgggpab", sum := "3ae970c6b43c0b4a154805f84e9d52580dade76c669af4eb4a77785cad96862e", func := "loop.example/g00522/laws.FnExactLessClock", spec := "fnExactLessClock", unfollowed := true, recurses := true, apart := false, narrowed := true }
def FnExactLessClockUptoSaid : Prop := fnExactLessClockUptoRow.holds Try.pinned (OpenSpec.upto fnExactLessClockSpec)

/-- 'laws.FnExactJoinCuts', WHERE WHAT IT READS IS OF BULK AT MOST 1048576: true; the input reads as it did. -/
def fnExactJoinCutsUptoRow : OpenClaim := { program := "yticinemcmgggpab", sum := "3ae970c6b43c0b4a154805f84e9d52580dade76c669af4eb4a77785cad96862e", func := "loop.example/g00522/laws.FnExactJoinCuts", spec := "fnExactJoinCuts", unfollowed := true, recurses := true, apart := false, narrowed := true }
def FnExactJoinCutsUptoSaid : Prop := fnExactJoinCutsUptoRow.holds Try.pinned (OpenSpec.upto fnExactJoinCutsSpec)

end Rows
end Go.Proofs.Yticinemcmgggpab
