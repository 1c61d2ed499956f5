/-
  No cell of these rows narrows 'for every input' (looked for: loops, veiled, ifaces, maps, wideKeys, modest, calm, conditions, laid).
  DERIVED. THE GIVEN ROWS OF THIS SEAT. 6 by the template 'for every input the law returns true; each argument reads behind the call as it read before'; 0 by the template 'total and deterministic' (their statements: YtmfkmifkkplidaaTotals.lean).
  GIVEN WITH THE SEED: the statements are not yours to turn. If you find one false, say at which input.
  Laid BY PROGRAM, IN A SANDBOX (cutbox-rows.mjs): the forced cells as the released guide's own fill.sh prints them over the translation 2bc9439682de4c70… (all of the seat's roots in one cut). By AI agents, Wed Nov 11 2026. No macro, syntax, notation, axiom, sorry.
-/
import Derived.Test.YtmfkmifkkplidaaChecked
import GoSem.Claim
import GoSem.ClaimJoined
import GoSem.ClaimMapViews
import Derived.JoinedTies
import Derived.KernelRfl
namespace Go.Proofs.Ytmfkmifkkplidaa
/- THE CELL 'sum', in the pinned program and in every row, IS THE sha256 OF THE DUMP (.gsa) THAT YtmfkmifkkplidaaProg.lean LOADS. Nothing in Lean hashes anything: it is a label: what it is worth is what the hold of that sum in a sandbox is worth. -/
noncomputable def Try.pinned : Pinned := { name := "ytmfkmifkkplidaa", sum := "2bc9439682de4c70ee6543057bd3563bbd723161b37b61da2bf8462786149bd9", checked := Try.checked }
namespace Rows
def none {H : Type} : Left H := { results := [], args := [] }

/-- 'laws.FnExactGoodHead': WHATEVER THE INPUT: true; the input reads as it did. -/
def fnExactGoodHeadSpec : ChangeSpec := { name := "fnExactGoodHead", fn := fun _ => fun
  | [d] => { results := [.lit (.bool true)], args := [d] }
  | _ => none }
def fnExactGoodHeadRow : OpenClaim := { program := "ytmfkmifkkplidaa", sum := "2bc9439682de4c70ee6543057bd3563bbd723161b37b61da2bf8462786149bd9", func := "loop.example/g00522/laws.FnExactGoodHead", spec := "fnExactGoodHead", apart := false }
def FnExactGoodHeadSaid : Prop := fnExactGoodHeadRow.holds Try.pinned (OpenSpec.ofChange fnExactGoodHeadSpec)

/-- ITS FALSE NEIGHBOUR: 'it returns false'. Refute it at one input. -/
def fnExactGoodHeadWrong : ChangeSpec := { name := "fnExactGoodHead", fn := fun _ => fun
  | [d] => { results := [.lit (.bool false)], args := [d] }
  | _ => none }
def FnExactGoodHeadWrongFalsely : Prop := fnExactGoodHeadRow.holds Try.pinned (OpenSpec.ofChange fnExactGoodHeadWrong)

/-- 'laws.FnExactRowOf': WHATEVER THE INPUT: true; the input reads as it did. -/
def fnExactRowOfSpec : ChangeSpec := { name := "fnExactRowOf", fn := fun _ => fun
  | [d1, d2] => { results := [.lit (.bool true)], args := [d1, d2] }
  | _ => none }
def fnExactRowOfRow : OpenClaim := { program := "ytmfkmifkkplidaa", sum := "2bc9439682de4c70ee6543057bd3563bbd723161b37b61da2bf8462786149bd9", func := "loop.example/g00522/laws.FnExactRowOf", spec := "fnExactRowOf", inPlace := ["internal/bytealg.abigen_runtime_cmpstring"], unfollowed := true, recurses := true, apart := false }
def FnExactRowOfSaid : Prop := fnExactRowOfRow.holds Try.pinned (OpenSpec.ofChange fnExactRowOfSpec)

/-- ITS FALSE NEIGHBOUR: 'it returns false'. Refute it at one input. -/
def fnExactRowOfWrong : ChangeSpec := { name := "fnExactRowOf", fn := fun _ => fun
  | [d1, d2] => { results := [.lit (.bool false)], args := [d1, d2] }
  | _ => none }
def FnExactRowOfWrongFalsely : Prop := fnExactRowOfRow.holds Try.pinned (OpenSpec.ofChange fnExactRowOfWrong)

/-- 'laws.FnExactTrimHead': WHATEVER THE INPUT: true; the input reads as it did. -/
def fnExactTrimHeadSpec : ChangeSpec := { name := "fnExactTrimHead", fn := fun _ => fun
  | [d1, d2] => { results := [.lit (.bool true)], args := [d1, d2] }
  | _ => none }
def fnExactTrimHeadRow : OpenClaim := { program := "ytmfkmifkkplidaa", sum := "2bc9439682de4c70ee6543057bd3563bbd723161b37b61da2bf8462786149bd9", func := "loop.example/g00522/laws.FnExactTrimHead", spec := "fnExactTrimHead", unfollowed := true, recurses := true, apart := false }
def FnExactTrimHeadSaid : Prop := fnExactTrimHeadRow.holds Try.pinned (OpenSpec.ofChange fnExactTrimHeadSpec)

/-- ITS FALSE NEIGHBOUR: 'it returns false'. Refute it at one input. -/
def fnExactTrimHeadWrong : ChangeSpec := { name := "fnExactTrimHead", fn := fun _ => fun
  | [d1, d2] => { results := [.lit (.bool false)], args := [d1, d2] }
  | _ => none }
def FnExactTrimHeadWrongFalsely : Prop := fnExactTrimHeadRow.holds Try.pinned (OpenSpec.ofChange fnExactTrimHeadWrong)

/-- 'laws.FnExactTakeSay': WHATEVER THE INPUT: true; the input reads as it did. -/
def fnExactTakeSaySpec : ChangeSpec := { name := "fnExactTakeSay", fn := fun _ => fun
  | [d1, d2] => { results := [.lit (.bool true)], args := [d1, d2] }
  | _ => none }
def fnExactTakeSayRow : OpenClaim := { program := "ytmfkmifkkplidaa", sum := "2bc9439682de4c70ee6543057bd3563bbd723161b37b61da2bf8462786149bd9", func := "loop.example/g00522/laws.FnExactTakeSay", spec := "fnExactTakeSay", inPlace := ["internal/bytealg.abigen_runtime_cmpstring", "slices.overlaps[loop.example/g00522/impl.Row]"], unfollowed := true, recurses := true, apart := false }
def FnExactTakeSaySaid : Prop := fnExactTakeSayRow.holds Try.pinned (OpenSpec.ofChange fnExactTakeSaySpec)

/-- ITS FALSE NEIGHBOUR: 'it returns false'. Refute it at one input. -/
def fnExactTakeSayWrong : ChangeSpec := { name := "fnExactTakeSay", fn := fun _ => fun
  | [d1, d2] => { results := [.lit (.bool false)], args := [d1, d2] }
  | _ => none }
def FnExactTakeSayWrongFalsely : Prop := fnExactTakeSayRow.holds Try.pinned (OpenSpec.ofChange fnExactTakeSayWrong)

/-- 'laws.FnExactFoldSays': WHATEVER THE INPUT: true; the input reads as it did. -/
def fnExactFoldSaysSpec : ChangeSpec := { name := "fnExactFoldSays", fn := fun _ => fun
  | [d1, d2] => { results := [.lit (.bool true)], args := [d1, d2] }
  | _ => none }
def fnExactFoldSaysRow : OpenClaim := { program := "ytmfkmifkkplidaa", sum := "2bc9439682de4c70ee6543057bd3563bbd723161b37b61da2bf8462786149bd9", func := "loop.example/g00522/laws.FnExactFoldSays", spec := "fnExactFoldSays", inPlace := ["internal/bytealg.abigen_runtime_cmpstring", "slices.overlaps[loop.example/g00522/impl.Row]"], unfollowed := true, recurses := true, apart := false }
def FnExactFoldSaysSaid : Prop := fnExactFoldSaysRow.holds Try.pinned (OpenSpec.ofChange fnExactFoldSaysSpec)

/-- ITS FALSE NEIGHBOUR: 'it returns false'. Refute it at one input. -/
def fnExactFoldSaysWrong : ChangeSpec := { name := "fnExactFoldSays", fn := fun _ => fun
  | [d1, d2] => { results := [.lit (.bool false)], args := [d1, d2] }
  | _ => none }
def FnExactFoldSaysWrongFalsely : Prop := fnExactFoldSaysRow.holds Try.pinned (OpenSpec.ofChange fnExactFoldSaysWrong)

/-- 'laws.FnFolds': WHATEVER THE INPUT: true; the input reads as it did. -/
def fnFoldsSpec : ChangeSpec := { name := "fnFolds", fn := fun _ => fun
  | [d1, d2] => { results := [.lit (.bool true)], args := [d1, d2] }
  | _ => none }
def fnFoldsRow : OpenClaim := { program := "ytmfkmifkkplidaa", sum := "2bc9439682de4c70ee6543057bd3563bbd723161b37b61da2bf8462786149bd9", func := "loop.example/g00522/laws.FnFolds", spec := "fnFolds", inPlace := ["internal/bytealg.abigen_runtime_cmpstring", "slices.overlaps[loop.example/g00522/impl.Row]"], unfollowed := true, recurses := true, apart := false }
def FnFoldsSaid : Prop := fnFoldsRow.holds Try.pinned (OpenSpec.ofChange fnFoldsSpec)

/-- ITS FALSE NEIGHBOUR: 'it returns false'. Refute it at one input. -/
def fnFoldsWrong : ChangeSpec := { name := "fnFolds", fn := fun _ => fun
  | [d1, d2] => { results := [.lit (.bool false)], args := [d1, d2] }
  | _ => none }
def FnFoldsWrongFalsely : Prop := fnFoldsRow.holds Try.pinned (OpenSpec.ofChange fnFoldsWrong)

/- THE SECOND FORM. 'bulk': how many values and letters a reading holds, each counted each time it is reached (what is shared counts as often as it is met; a slice's spare places count too). A statement '..UptoSaid' is the law's where the arguments, and the package variables that the reading takes, are together of bulk at most 1048576: NARROWER than '..Said'. Prove '..Said' where nothing that the law and all that it calls make is longer than what came in: it says more and counts as full. Else prove '..UptoSaid'. A law counts once. -/
mutual
def uptoBulk {H : Type} : DataW H → Nat
  | .lit (.string bytes) => bytes.length + 1
  | .lit _ => 1
  | .nil => 1
  | .ptr d => uptoBulk d + 1
  | .slice elems spare => uptoBulkAll elems + uptoBulkAll spare + 1
  | .agg parts => uptoBulkAll parts + 1
  | .iface _ d => uptoBulk d + 1
  | .map entries => uptoBulkEntries entries + 1
  | .held _ => 1
def uptoBulkAll {H : Type} : List (DataW H) → Nat
  | [] => 0
  | d :: r => uptoBulk d + uptoBulkAll r
def uptoBulkEntries {H : Type} : List (Lit × DataW H) → Nat
  | [] => 0
  | x :: r => uptoBulkEntry x + uptoBulkEntries r
def uptoBulkEntry {H : Type} : Lit × DataW H → Nat
  | (.string bytes, d) => bytes.length + uptoBulk d + 1
  | (_, d) => uptoBulk d + 1
 end
def uptoSmall : (H : Type) → List (DataW H) → Bool := fun _ ds => decide (uptoBulkAll ds ≤ 1048576)
def OpenSpec.upto (s : _root_.Go.ChangeSpec) : _root_.Go.OpenSpec := { _root_.Go.OpenSpec.ofChange s with cond := some uptoSmall }

/-- 'laws.FnExactGoodHead', WHERE WHAT IT READS IS OF BULK AT MOST 1048576: true; the input reads as it did. -/
def fnExactGoodHeadUptoRow : OpenClaim := { program := "ytmfkmifkkplidaa", sum := "2bc9439682de4c70ee6543057bd3563bbd723161b37b61da2bf8462786149bd9", func := "loop.example/g00522/laws.FnExactGoodHead", spec := "fnExactGoodHead", apart := false, narrowed := true }
def FnExactGoodHeadUptoSaid : Prop := fnExactGoodHeadUptoRow.holds Try.pinned (OpenSpec.upto fnExactGoodHeadSpec)

/-- 'laws.FnExactRowOf', WHERE WHAT IT READS IS OF BULK AT MOST 1048576: true; the input reads as it did. -/
def fnExactRowOfUptoRow : OpenClaim := { program := "ytmfkmifkkplidaa", sum := "2bc9439682de4c70ee6543057bd3563bbd723161b37b61da2bf8462786149bd9", func := "loop.example/g00522/laws.FnExactRowOf", spec := "fnExactRowOf", inPlace := ["internal/bytealg.abigen_runtime_cmpstring"], unfollowed := true, recurses := true, apart := false, narrowed := true }
def FnExactRowOfUptoSaid : Prop := fnExactRowOfUptoRow.holds Try.pinned (OpenSpec.upto fnExactRowOfSpec)

/-- 'laws.FnExactTrimHead', WHERE WHAT IT READS IS OF BULK AT MOST 1048576: true; the input reads as it did. -/
def fnExactTrimHeadUptoRow : OpenClaim := { program := "ytmfkmifkkplidaa", sum := "2bc9439682de4c70ee6543057bd3563bbd723161b37b61da2bf8462786149bd9", func := "loop.example/g00522/laws.FnExactTrimHead", spec := "fnExactTrimHead", unfollowed := true, recurses := true, apart := false, narrowed := true }
def FnExactTrimHeadUptoSaid : Prop := fnExactTrimHeadUptoRow.holds Try.pinned (OpenSpec.upto fnExactTrimHeadSpec)

/-- 'laws.FnExactTakeSay', WHERE WHAT IT READS IS OF BULK AT MOST 1048576: true; the input reads as it did. -/
def fnExactTakeSayUptoRow : OpenClaim := { program := "ytmfkmifkkplidaa", sum := "2bc9439682de4c70ee6543057bd3563bbd723161b37b61da2bf8462786149bd9", func := "loop.example/g00522/laws.FnExactTakeSay", spec := "fnExactTakeSay", inPlace := ["internal/bytealg.abigen_runtime_cmpstring", "slices.overlaps[loop.example/g00522/impl.Row]"], unfollowed := true, recurses := true, apart := false, narrowed := true }
def FnExactTakeSayUptoSaid : Prop := fnExactTakeSayUptoRow.holds Try.pinned (OpenSpec.upto fnExactTakeSaySpec)

/-- 'laws.FnExactFoldSays', WHERE WHAT IT READS IS OF BULK AT MOST 1048576: true; the input reads as it did. -/
def fnExactFoldSaysUptoRow : OpenClaim := { program := "ytmfkmifkkplidaa", sum := "2bc9439682de4c70ee6543057bd3563bbd723161b37b61da2bf8462786149bd9", func := "loop.example/g00522/laws.FnExactFoldSays", spec := "fnExactFoldSays", inPlace := ["internal/bytealg.abigen_runtime_cmpstring", "slices.overlaps[loop.example/g00522/impl.Row]"], unfollowed := true, recurses := true, apart := false, narrowed := true }
def FnExactFoldSaysUptoSaid : Prop := fnExactFoldSaysUptoRow.holds Try.pinned (OpenSpec.upto fnExactFoldSaysSpec)

/-- 'laws.FnFolds', WHERE WHAT IT READS IS OF BULK AT MOST 1048576: true; the input reads as it did. -/
def fnFoldsUptoRow : OpenClaim := { program := "ytmfkmifkkplidaa", sum := "2bc9439682de4c70ee6543057bd3563bbd723161b37b61da2bf8462786149bd9", func := "loop.example/g00522/laws.FnFolds", spec := "fnFolds", inPlace := ["internal/bytealg.abigen_runtime_cmpstring", "slices.overlaps[loop.example/g00522/impl.Row]"], unfollowed := true, recurses := true, apart := false, narrowed := true }
def FnFoldsUptoSaid : Prop := fnFoldsUptoRow.holds Try.pinned (OpenSpec.upto fnFoldsSpec)

end Rows
end Go.Proofs.Ytmfkmifkkplidaa
