/-
  No cell of these rows narrows 'for every input' (looked for: loops, veiled, ifaces, maps, wideKeys, modest, calm, conditions, laid).
  DERIVED. THE GIVEN ROWS OF THIS SEAT. 7 by the template 'for every input the law returns true; each argument reads behind the call as it read before'; 0 by the template 'total and deterministic' (their statements: YtmlhlkpiofbhgaaTotals.lean).
  GIVEN WITH THE SEED: the statements are not yours to turn. If you find one false, say at which input.
  Laid BY PROGRAM, IN A SANDBOX (cutbox-rows.mjs): the forced cells as the released guide's own fill.sh prints them over the translation ef64a30bbaa2410e… (all of the seat's roots in one cut). By AI agents, Wed Nov 11 2026. No macro, syntax, notation, axiom, sorry.
-/
import Derived.Test.YtmlhlkpiofbhgaaChecked
import GoSem.Claim
import GoSem.ClaimJoined
import GoSem.ClaimMapViews
import Derived.JoinedTies
import Derived.KernelRfl
namespace Go.Proofs.Ytmlhlkpiofbhgaa
/- THE CELL 'sum', in the pinned program and in every row, IS THE sha256 OF THE DUMP (.gsa) THAT YtmlhlkpiofbhgaaProg.lean LOADS. Nothing in Lean hashes anything: it is a label: what it is worth is what the hold of that sum in a sandbox is worth. -/
noncomputable def Try.pinned : Pinned := { name := "ytmlhlkpiofbhgaa", sum := "ef64a30bbaa2410e9e571f0c30b13a408e3f8fdd9e9f3fd300a4866959cd1346", checked := Try.checked }
namespace Rows
def none {H : Type} : Left H := { results := [], args := [] }

/-- 'laws.FnExactNewRepl': WHATEVER THE INPUT: true; the input reads as it did. -/
def fnExactNewReplSpec : ChangeSpec := { name := "fnExactNewRepl", fn := fun _ => fun
  | [d] => { results := [.lit (.bool true)], args := [d] }
  | _ => none }
def fnExactNewReplRow : OpenClaim := { program := "ytmlhlkpiofbhgaa", sum := "ef64a30bbaa2410e9e571f0c30b13a408e3f8fdd9e9f3fd300a4866959cd1346", func := "loop.example/g00522/laws.FnExactNewRepl", spec := "fnExactNewRepl", apart := false }
def FnExactNewReplSaid : Prop := fnExactNewReplRow.holds Try.pinned (OpenSpec.ofChange fnExactNewReplSpec)

/-- ITS FALSE NEIGHBOUR: 'it returns false'. Refute it at one input. -/
def fnExactNewReplWrong : ChangeSpec := { name := "fnExactNewRepl", fn := fun _ => fun
  | [d] => { results := [.lit (.bool false)], args := [d] }
  | _ => none }
def FnExactNewReplWrongFalsely : Prop := fnExactNewReplRow.holds Try.pinned (OpenSpec.ofChange fnExactNewReplWrong)

/-- 'laws.FnExactGoodRepl': WHATEVER THE INPUT: true; the input reads as it did. -/
def fnExactGoodReplSpec : ChangeSpec := { name := "fnExactGoodRepl", fn := fun _ => fun
  | [d] => { results := [.lit (.bool true)], args := [d] }
  | _ => none }
def fnExactGoodReplRow : OpenClaim := { program := "ytmlhlkpiofbhgaa", sum := "ef64a30bbaa2410e9e571f0c30b13a408e3f8fdd9e9f3fd300a4866959cd1346", func := "loop.example/g00522/laws.FnExactGoodRepl", spec := "fnExactGoodRepl", unfollowed := true, recurses := true, apart := false }
def FnExactGoodReplSaid : Prop := fnExactGoodReplRow.holds Try.pinned (OpenSpec.ofChange fnExactGoodReplSpec)

/-- ITS FALSE NEIGHBOUR: 'it returns false'. Refute it at one input. -/
def fnExactGoodReplWrong : ChangeSpec := { name := "fnExactGoodRepl", fn := fun _ => fun
  | [d] => { results := [.lit (.bool false)], args := [d] }
  | _ => none }
def FnExactGoodReplWrongFalsely : Prop := fnExactGoodReplRow.holds Try.pinned (OpenSpec.ofChange fnExactGoodReplWrong)

/-- 'laws.FnExactInStep': WHATEVER THE INPUT: true; the input reads as it did. -/
def fnExactInStepSpec : ChangeSpec := { name := "fnExactInStep", fn := fun _ => fun
  | [d1, d2] => { results := [.lit (.bool true)], args := [d1, d2] }
  | _ => none }
def fnExactInStepRow : OpenClaim := { program := "ytmlhlkpiofbhgaa", sum := "ef64a30bbaa2410e9e571f0c30b13a408e3f8fdd9e9f3fd300a4866959cd1346", func := "loop.example/g00522/laws.FnExactInStep", spec := "fnExactInStep", unfollowed := true, recurses := true, apart := false }
def FnExactInStepSaid : Prop := fnExactInStepRow.holds Try.pinned (OpenSpec.ofChange fnExactInStepSpec)

/-- ITS FALSE NEIGHBOUR: 'it returns false'. Refute it at one input. -/
def fnExactInStepWrong : ChangeSpec := { name := "fnExactInStep", fn := fun _ => fun
  | [d1, d2] => { results := [.lit (.bool false)], args := [d1, d2] }
  | _ => none }
def FnExactInStepWrongFalsely : Prop := fnExactInStepRow.holds Try.pinned (OpenSpec.ofChange fnExactInStepWrong)

/-- 'laws.FnExactCertainLength': WHATEVER THE INPUT: true; the input reads as it did. -/
def fnExactCertainLengthSpec : ChangeSpec := { name := "fnExactCertainLength", fn := fun _ => fun
  | [d] => { results := [.lit (.bool true)], args := [d] }
  | _ => none }
def fnExactCertainLengthRow : OpenClaim := { program := "ytmlhlkpiofbhgaa", sum := "ef64a30bbaa2410e9e571f0c30b13a408e3f8fdd9e9f3fd300a4866959cd1346", func := "loop.example/g00522/laws.FnExactCertainLength", spec := "fnExactCertainLength", unfollowed := true, recurses := true, apart := false }
def FnExactCertainLengthSaid : Prop := fnExactCertainLengthRow.holds Try.pinned (OpenSpec.ofChange fnExactCertainLengthSpec)

/-- ITS FALSE NEIGHBOUR: 'it returns false'. Refute it at one input. -/
def fnExactCertainLengthWrong : ChangeSpec := { name := "fnExactCertainLength", fn := fun _ => fun
  | [d] => { results := [.lit (.bool false)], args := [d] }
  | _ => none }
def FnExactCertainLengthWrongFalsely : Prop := fnExactCertainLengthRow.holds Try.pinned (OpenSpec.ofChange fnExactCertainLengthWrong)

/-- 'laws.FnExactGoodItems': WHATEVER THE INPUT: true; the input reads as it did. -/
def fnExactGoodItemsSpec : ChangeSpec := { name := "fnExactGoodItems", fn := fun _ => fun
  | [d] => { results := [.lit (.bool true)], args := [d] }
  | _ => none }
def fnExactGoodItemsRow : OpenClaim := { program := "ytmlhlkpiofbhgaa", sum := "ef64a30bbaa2410e9e571f0c30b13a408e3f8fdd9e9f3fd300a4866959cd1346", func := "loop.example/g00522/laws.FnExactGoodItems", spec := "fnExactGoodItems", unfollowed := true, recurses := true, apart := false }
def FnExactGoodItemsSaid : Prop := fnExactGoodItemsRow.holds Try.pinned (OpenSpec.ofChange fnExactGoodItemsSpec)

/-- ITS FALSE NEIGHBOUR: 'it returns false'. Refute it at one input. -/
def fnExactGoodItemsWrong : ChangeSpec := { name := "fnExactGoodItems", fn := fun _ => fun
  | [d] => { results := [.lit (.bool false)], args := [d] }
  | _ => none }
def FnExactGoodItemsWrongFalsely : Prop := fnExactGoodItemsRow.holds Try.pinned (OpenSpec.ofChange fnExactGoodItemsWrong)

/-- 'laws.FnExactKeepLabels': WHATEVER THE INPUT: true; the input reads as it did. -/
def fnExactKeepLabelsSpec : ChangeSpec := { name := "fnExactKeepLabels", fn := fun _ => fun
  | [d1, d2] => { results := [.lit (.bool true)], args := [d1, d2] }
  | _ => none }
def fnExactKeepLabelsRow : OpenClaim := { program := "ytmlhlkpiofbhgaa", sum := "ef64a30bbaa2410e9e571f0c30b13a408e3f8fdd9e9f3fd300a4866959cd1346", func := "loop.example/g00522/laws.FnExactKeepLabels", spec := "fnExactKeepLabels", unfollowed := true, recurses := true, apart := false }
def FnExactKeepLabelsSaid : Prop := fnExactKeepLabelsRow.holds Try.pinned (OpenSpec.ofChange fnExactKeepLabelsSpec)

/-- ITS FALSE NEIGHBOUR: 'it returns false'. Refute it at one input. -/
def fnExactKeepLabelsWrong : ChangeSpec := { name := "fnExactKeepLabels", fn := fun _ => fun
  | [d1, d2] => { results := [.lit (.bool false)], args := [d1, d2] }
  | _ => none }
def FnExactKeepLabelsWrongFalsely : Prop := fnExactKeepLabelsRow.holds Try.pinned (OpenSpec.ofChange fnExactKeepLabelsWrong)

/-- 'laws.FnExactGoodTotals': WHATEVER THE INPUT: true; the input reads as it did. -/
def fnExactGoodTotalsSpec : ChangeSpec := { name := "fnExactGoodTotals", fn := fun _ => fun
  | [d] => { results := [.lit (.bool true)], args := [d] }
  | _ => none }
def fnExactGoodTotalsRow : OpenClaim := { program := "ytmlhlkpiofbhgaa", sum := "ef64a30bbaa2410e9e571f0c30b13a408e3f8fdd9e9f3fd300a4866959cd1346", func := "loop.example/g00522/laws.FnExactGoodTotals", spec := "fnExactGoodTotals", inPlace := ["internal/abi.NoEscape", "internal/bytealg.MakeNoZero"], apart := false }
def FnExactGoodTotalsSaid : Prop := fnExactGoodTotalsRow.holds Try.pinned (OpenSpec.ofChange fnExactGoodTotalsSpec)

/-- ITS FALSE NEIGHBOUR: 'it returns false'. Refute it at one input. -/
def fnExactGoodTotalsWrong : ChangeSpec := { name := "fnExactGoodTotals", fn := fun _ => fun
  | [d] => { results := [.lit (.bool false)], args := [d] }
  | _ => none }
def FnExactGoodTotalsWrongFalsely : Prop := fnExactGoodTotalsRow.holds Try.pinned (OpenSpec.ofChange fnExactGoodTotalsWrong)

/- THE SECOND FORM. 'bulk': how many values and letters a reading holds, each counted each time it is reached (what is shared counts as often as it is met; a slice's spare places count too). A statement '..UptoSaid' is the law's where the arguments, and the package variables that the reading takes, are together of bulk at most 1048576: NARROWER than '..Said'. Prove '..Said' where nothing that the law and all that it calls make is longer than what came in: it says more and counts as full. Else prove '..UptoSaid'. A law counts once. -/
mutual
def uptoBulk {H : Type} : DataW H → Nat
  | .lit (.string bytes) => bytes.length + 1
  | .lit _ => 1
  | .nil => 1
  | .ptr d => uptoBulk d + 1
  | .slice elems spare => uptoBulkAll elems + uptoBulkAll spare + 1
  | .agg parts => uptoBulkAll parts + 1
  | .iface _ d => uptoBulk d + 1
  | .map entries => uptoBulkEntries entries + 1
  | .held _ => 1
def uptoBulkAll {H : Type} : List (DataW H) → Nat
  | [] => 0
  | d :: r => uptoBulk d + uptoBulkAll r
def uptoBulkEntries {H : Type} : List (Lit × DataW H) → Nat
  | [] => 0
  | x :: r => uptoBulkEntry x + uptoBulkEntries r
def uptoBulkEntry {H : Type} : Lit × DataW H → Nat
  | (.string bytes, d) => bytes.length + uptoBulk d + 1
  | (_, d) => uptoBulk d + 1
 end
def uptoSmall : (H : Type) → List (DataW H) → Bool := fun _ ds => decide (uptoBulkAll ds ≤ 1048576)
def OpenSpec.upto (s : _root_.Go.ChangeSpec) : _root_.Go.OpenSpec := { _root_.Go.OpenSpec.ofChange s with cond := some uptoSmall }

/-- 'laws.FnExactNewRepl', WHERE WHAT IT READS IS OF BULK AT MOST 1048576: true; the input reads as it did. -/
def fnExactNewReplUptoRow : OpenClaim := { program := "ytmlhlkpiofbhgaa", sum := "ef64a30bbaa2410e9e571f0c30b13a408e3f8fdd9e9f3fd300a4866959cd1346", func := "loop.example/g00522/laws.FnExactNewRepl", spec := "fnExactNewRepl", apart := false, narrowed := true }
def FnExactNewReplUptoSaid : Prop := fnExactNewReplUptoRow.holds Try.pinned (OpenSpec.upto fnExactNewReplSpec)

/-- 'laws.FnExactGoodRepl', WHERE WHAT IT READS IS OF BULK AT MOST 1048576: true; the input reads as it did. -/
def fnExactGoodReplUptoRow : OpenClaim := { program := "ytmlhlkpiofbhgaa", sum := "ef64a30bbaa2410e9e571f0c30b13a408e3f8fdd9e9f3fd300a4866959cd1346", func := "loop.example/g00522/laws.FnExactGoodRepl", spec := "fnExactGoodRepl", unfollowed := true, recurses := true, apart := false, narrowed := true }
def FnExactGoodReplUptoSaid : Prop := fnExactGoodReplUptoRow.holds Try.pinned (OpenSpec.upto fnExactGoodReplSpec)

/-- 'laws.FnExactInStep', WHERE WHAT IT READS IS OF BULK AT MOST 1048576: true; the input reads as it did. -/
def fnExactInStepUptoRow : OpenClaim := { program := "ytmlhlkpiofbhgaa", sum := "ef64a30bbaa2410e9e571f0c30b13a408e3f8fdd9e9f3fd300a4866959cd1346", func := "loop.example/g00522/laws.FnExactInStep", spec := "fnExactInStep", unfollowed := true, recurses := true, apart := false, narrowed := true }
def FnExactInStepUptoSaid : Prop := fnExactInStepUptoRow.holds Try.pinned (OpenSpec.upto fnExactInStepSpec)

/-- 'laws.FnExactCertainLength', WHERE WHAT IT READS IS OF BULK AT MOST 1048576: true; the input reads as it did. -/
def fnExactCertainLengthUptoRow : OpenClaim := { program := "ytmlhlkpiofbhgaa", sum := "ef64a30bbaa2410e9e571f0c30b13a408e3f8fdd9e9f3fd300a4866959cd1346", func := "loop.example/g00522/laws.FnExactCertainLength", spec := "fnExactCertainLength", unfollowed := true, recurses := true, apart := false, narrowed := true }
def FnExactCertainLengthUptoSaid : Prop := fnExactCertainLengthUptoRow.holds Try.pinned (OpenSpec.upto fnExactCertainLengthSpec)

/-- 'laws.FnExactGoodItems', WHERE WHAT IT READS IS OF BULK AT MOST 1048576: true; the input reads as it did. -/
def fnExactGoodItemsUptoRow : OpenClaim := { program := "ytmlhlkpiofbhgaa", sum := "ef64a30bbaa2410e9e571f0c30b13a408e3f8fdd9e9f3fd300a4866959cd1346", func := "loop.example/g00522/laws.FnExactGoodItems", spec := "fnExactGoodItems", unfollowed := true, recurses := true, apart := false, narrowed := true }
def FnExactGoodItemsUptoSaid : Prop := fnExactGoodItemsUptoRow.holds Try.pinned (OpenSpec.upto fnExactGoodItemsSpec)

/-- 'laws.FnExactKeepLabels', WHERE WHAT IT READS IS OF BULK AT MOST 1048576: true; the input reads as it did. -/
def fnExactKeepLabelsUptoRow : OpenClaim := { program := "ytmlhlkpiofbhgaa", sum := "ef64a30bbaa2410e9e571f0c30b13a408e3f8fdd9e9f3fd300a4866959cd1346", func := "loop.example/g00522/laws.FnExactKeepLabels", spec := "fnExactKeepLabels", unfollowed := true, recurses := true, apart := false, narrowed := true }
def FnExactKeepLabelsUptoSaid : Prop := fnExactKeepLabelsUptoRow.holds Try.pinned (OpenSpec.upto fnExactKeepLabelsSpec)

/-- 'laws.FnExactGoodTotals', WHERE WHAT IT READS IS OF BULK AT MOST 1048576: true; the input reads as it did. -/
def fnExactGoodTotalsUptoRow : OpenClaim := { program := "ytmlhlkpiofbhgaa", sum := "ef64a30bbaa2410e9e571f0c30b13a408e3f8fdd9e9f3fd300a4866959cd1346", func := "loop.example/g00522/laws.FnExactGoodTotals", spec := "fnExactGoodTotals", inPlace := ["internal/abi.NoEscape", "internal/bytealg.MakeNoZero"], apart := false, narrowed := true }
def FnExactGoodTotalsUptoSaid : Prop := fnExactGoodTotalsUptoRow.holds Try.pinned (OpenSpec.upto fnExactGoodTotalsSpec)

end Rows
end Go.Proofs.Ytmlhlkpiofbhgaa
