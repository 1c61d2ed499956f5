/-
  No cell of these rows narrows 'for every input' (looked for: loops, veiled, ifaces, maps, wideKeys, modest, calm, conditions, laid).
  DERIVED. THE GIVEN ROWS OF THIS SEAT. 6 by the template 'for every input the law returns true; each argument reads behind the call as it read before'; 0 by the template 'total and deterministic' (their statements: YticinemcmgggpaaTotals.lean).
  GIVEN WITH THE SEED: the statements are not yours to turn. If you find one false, say at which input.
  Laid BY PROGRAM, IN A SANDBOX (cutbox-rows.mjs): the forced cells as the released guide's own fill.sh prints them over the translation e4b806234961a9ab… (all of the seat's roots in one cut). By AI agents, Wed Nov 11 2026. No macro, syntax, notation, axiom, sorry.
-/
import Derived.Test.YticinemcmgggpaaChecked
import GoSem.Claim
import GoSem.ClaimJoined
import GoSem.ClaimMapViews
import Derived.JoinedTies
import Derived.KernelRfl
namespace Go.Proofs.Yticinemcmgggpaa
/- THE CELL 'sum', in the pinned program and in every row, IS THE sha256 OF THE DUMP (.gsa) THAT YticinemcmgggpaaProg.lean LOADS. Nothing in Lean hashes anything: it is a label: what it is worth is what the hold of that sum in a sandbox is worth. -/
noncomputable def Try.pinned : Pinned := { name := "yticinemcmgggpaa", sum := "e4b806234961a9abe4ada458589b857a6554226d8e8260a91629db76fc38c2cf", checked := Try.checked }
namespace Rows
def none {H : Type} : Left H := { results := [], args := [] }

/-- 'laws.FnExactWayAt': WHATEVER THE INPUT: true; the input reads as it did. -/
def fnExactWayAtSpec : ChangeSpec := { name := "fnExactWayAt", fn := fun _ => fun
  | [d1, d2, d3] => { results := [.lit (.bool true)], args := [d1, d2, d3] }
  | _ => none }
def fnExactWayAtRow : OpenClaim := { program := "yticinemcmgggpaa", sum := "e4b806234961a9abe4ada458589b857a6554226d8e8260a91629db76fc38c2cf", func := "loop.example/g00522/laws.FnExactWayAt", spec := "fnExactWayAt", apart := false }
def FnExactWayAtSaid : Prop := fnExactWayAtRow.holds Try.pinned (OpenSpec.ofChange fnExactWayAtSpec)

/-- ITS FALSE NEIGHBOUR: 'it returns false'. Refute it at one input. -/
def fnExactWayAtWrong : ChangeSpec := { name := "fnExactWayAt", fn := fun _ => fun
  | [d1, d2, d3] => { results := [.lit (.bool false)], args := [d1, d2, d3] }
  | _ => none }
def FnExactWayAtWrongFalsely : Prop := fnExactWayAtRow.holds Try.pinned (OpenSpec.ofChange fnExactWayAtWrong)

/-- 'laws.FnExactMajorityOf': WHATEVER THE INPUT: true; the input reads as it did. -/
def fnExactMajorityOfSpec : ChangeSpec := { name := "fnExactMajorityOf", fn := fun _ => fun
  | [d] => { results := [.lit (.bool true)], args := [d] }
  | _ => none }
def fnExactMajorityOfRow : OpenClaim := { program := "yticinemcmgggpaa", sum := "e4b806234961a9abe4ada458589b857a6554226d8e8260a91629db76fc38c2cf", func := "loop.example/g00522/laws.FnExactMajorityOf", spec := "fnExactMajorityOf", apart := false }
def FnExactMajorityOfSaid : Prop := fnExactMajorityOfRow.holds Try.pinned (OpenSpec.ofChange fnExactMajorityOfSpec)

/-- ITS FALSE NEIGHBOUR: 'it returns false'. Refute it at one input. -/
def fnExactMajorityOfWrong : ChangeSpec := { name := "fnExactMajorityOf", fn := fun _ => fun
  | [d] => { results := [.lit (.bool false)], args := [d] }
  | _ => none }
def FnExactMajorityOfWrongFalsely : Prop := fnExactMajorityOfRow.holds Try.pinned (OpenSpec.ofChange fnExactMajorityOfWrong)

/-- 'laws.FnExactJudgeTold': WHATEVER THE INPUT: true; the input reads as it did. -/
def fnExactJudgeToldSpec : ChangeSpec := { name := "fnExactJudgeTold", fn := fun _ => fun
  | [d1, d2] => { results := [.lit (.bool true)], args := [d1, d2] }
  | _ => none }
def fnExactJudgeToldRow : OpenClaim := { program := "yticinemcmgggpaa", sum := "e4b806234961a9abe4ada458589b857a6554226d8e8260a91629db76fc38c2cf", func := "loop.example/g00522/laws.FnExactJudgeTold", spec := "fnExactJudgeTold", apart := false }
def FnExactJudgeToldSaid : Prop := fnExactJudgeToldRow.holds Try.pinned (OpenSpec.ofChange fnExactJudgeToldSpec)

/-- ITS FALSE NEIGHBOUR: 'it returns false'. Refute it at one input. -/
def fnExactJudgeToldWrong : ChangeSpec := { name := "fnExactJudgeTold", fn := fun _ => fun
  | [d1, d2] => { results := [.lit (.bool false)], args := [d1, d2] }
  | _ => none }
def FnExactJudgeToldWrongFalsely : Prop := fnExactJudgeToldRow.holds Try.pinned (OpenSpec.ofChange fnExactJudgeToldWrong)

/-- 'laws.FnExactGoodEvents': WHATEVER THE INPUT: true; the input reads as it did. -/
def fnExactGoodEventsSpec : ChangeSpec := { name := "fnExactGoodEvents", fn := fun _ => fun
  | [d1, d2] => { results := [.lit (.bool true)], args := [d1, d2] }
  | _ => none }
def fnExactGoodEventsRow : OpenClaim := { program := "yticinemcmgggpaa", sum := "e4b806234961a9abe4ada458589b857a6554226d8e8260a91629db76fc38c2cf", func := "loop.example/g00522/laws.FnExactGoodEvents", spec := "fnExactGoodEvents", apart := false }
def FnExactGoodEventsSaid : Prop := fnExactGoodEventsRow.holds Try.pinned (OpenSpec.ofChange fnExactGoodEventsSpec)

/-- ITS FALSE NEIGHBOUR: 'it returns false'. Refute it at one input. -/
def fnExactGoodEventsWrong : ChangeSpec := { name := "fnExactGoodEvents", fn := fun _ => fun
  | [d1, d2] => { results := [.lit (.bool false)], args := [d1, d2] }
  | _ => none }
def FnExactGoodEventsWrongFalsely : Prop := fnExactGoodEventsRow.holds Try.pinned (OpenSpec.ofChange fnExactGoodEventsWrong)

/-- 'laws.FnExactGoodEntries': WHATEVER THE INPUT: true; the input reads as it did. -/
def fnExactGoodEntriesSpec : ChangeSpec := { name := "fnExactGoodEntries", fn := fun _ => fun
  | [d] => { results := [.lit (.bool true)], args := [d] }
  | _ => none }
def fnExactGoodEntriesRow : OpenClaim := { program := "yticinemcmgggpaa", sum := "e4b806234961a9abe4ada458589b857a6554226d8e8260a91629db76fc38c2cf", func := "loop.example/g00522/laws.FnExactGoodEntries", spec := "fnExactGoodEntries", apart := false }
def FnExactGoodEntriesSaid : Prop := fnExactGoodEntriesRow.holds Try.pinned (OpenSpec.ofChange fnExactGoodEntriesSpec)

/-- ITS FALSE NEIGHBOUR: 'it returns false'. Refute it at one input. -/
def fnExactGoodEntriesWrong : ChangeSpec := { name := "fnExactGoodEntries", fn := fun _ => fun
  | [d] => { results := [.lit (.bool false)], args := [d] }
  | _ => none }
def FnExactGoodEntriesWrongFalsely : Prop := fnExactGoodEntriesRow.holds Try.pinned (OpenSpec.ofChange fnExactGoodEntriesWrong)

/-- 'laws.FnExactPartAt': WHATEVER THE INPUT: true; the input reads as it did. -/
def fnExactPartAtSpec : ChangeSpec := { name := "fnExactPartAt", fn := fun _ => fun
  | [d1, d2] => { results := [.lit (.bool true)], args := [d1, d2] }
  | _ => none }
def fnExactPartAtRow : OpenClaim := { program := "yticinemcmgggpaa", sum := "e4b806234961a9abe4ada458589b857a6554226d8e8260a91629db76fc38c2cf", func := "loop.example/g00522/laws.FnExactPartAt", spec := "fnExactPartAt", apart := false }
def FnExactPartAtSaid : Prop := fnExactPartAtRow.holds Try.pinned (OpenSpec.ofChange fnExactPartAtSpec)

/-- ITS FALSE NEIGHBOUR: 'it returns false'. Refute it at one input. -/
def fnExactPartAtWrong : ChangeSpec := { name := "fnExactPartAt", fn := fun _ => fun
  | [d1, d2] => { results := [.lit (.bool false)], args := [d1, d2] }
  | _ => none }
def FnExactPartAtWrongFalsely : Prop := fnExactPartAtRow.holds Try.pinned (OpenSpec.ofChange fnExactPartAtWrong)

/- THE SECOND FORM. 'bulk': how many values and letters a reading holds, each counted each time it is reached (what is shared counts as often as it is met; a slice's spare places count too). A statement '..UptoSaid' is the law's where the arguments, and the package variables that the reading takes, are together of bulk at most 1048576: NARROWER than '..Said'. Prove '..Said' where nothing that the law and all that it calls make is longer than what came in: it says more and counts as full. Else prove '..UptoSaid'. A law counts once. -/
mutual
def uptoBulk {H : Type} : DataW H → Nat
  | .lit (.string bytes) => bytes.length + 1
  | .lit _ => 1
  | .nil => 1
  | .ptr d => uptoBulk d + 1
  | .slice elems spare => uptoBulkAll elems + uptoBulkAll spare + 1
  | .agg parts => uptoBulkAll parts + 1
  | .iface _ d => uptoBulk d + 1
  | .map entries => uptoBulkEntries entries + 1
  | .held _ => 1
def uptoBulkAll {H : Type} : List (DataW H) → Nat
  | [] => 0
  | d :: r => uptoBulk d + uptoBulkAll r
def uptoBulkEntries {H : Type} : List (Lit × DataW H) → Nat
  | [] => 0
  | x :: r => uptoBulkEntry x + uptoBulkEntries r
def uptoBulkEntry {H : Type} : Lit × DataW H → Nat
  | (.string bytes, d) => bytes.length + uptoBulk d + 1
  | (_, d) => uptoBulk d + 1
 end
def uptoSmall : (H : Type) → List (DataW H) → Bool := fun _ ds => decide (uptoBulkAll ds ≤ 1048576)
def OpenSpec.upto (s : _root_.Go.ChangeSpec) : _root_.Go.OpenSpec := { _root_.Go.OpenSpec.ofChange s with cond := some uptoSmall }

/-- 'laws.FnExactWayAt', WHERE WHAT IT READS IS OF BULK AT MOST 1048576: true; the input reads as it did. -/
def fnExactWayAtUptoRow : OpenClaim := { program := "yticinemcmgggpaa", sum := "e4b806234961a9abe4ada458589b857a6554226d8e8260a91629db76fc38c2cf", func := "loop.example/g00522/laws.FnExactWayAt", spec := "fnExactWayAt", apart := false, narrowed := true }
def FnExactWayAtUptoSaid : Prop := fnExactWayAtUptoRow.holds Try.pinned (OpenSpec.upto fnExactWayAtSpec)

/-- 'laws.FnExactMajorityOf', WHERE WHAT IT READS IS OF BULK AT MOST 1048576: true; the input reads as it did. -/
def fnExactMajorityOfUptoRow : OpenClaim := { program := "yticinemcmgggpaa", sum := "e4b806234961a9abe4ada458589b857a6554226d8e8260a91629db76fc38c2cf", func := "loop.example/g00522/laws.FnExactMajorityOf", spec := "fnExactMajorityOf", apart := false, narrowed := true }
def FnExactMajorityOfUptoSaid : Prop := fnExactMajorityOfUptoRow.holds Try.pinned (OpenSpec.upto fnExactMajorityOfSpec)

/-- 'laws.FnExactJudgeTold', WHERE WHAT IT READS IS OF BULK AT MOST 1048576: true; the input reads as it did. -/
def fnExactJudgeToldUptoRow : OpenClaim := { program := "yticinemcmgggpaa", sum := "e4b806234961a9abe4ada458589b857a6554226d8e8260a91629db76fc38c2cf", func := "loop.example/g00522/laws.FnExactJudgeTold", spec := "fnExactJudgeTold", apart := false, narrowed := true }
def FnExactJudgeToldUptoSaid : Prop := fnExactJudgeToldUptoRow.holds Try.pinned (OpenSpec.upto fnExactJudgeToldSpec)

/-- 'laws.FnExactGoodEvents', WHERE WHAT IT READS IS OF BULK AT MOST 1048576: true; the input reads as it did. -/
def fnExactGoodEventsUptoRow : OpenClaim := { program := "yticinemcmgggpaa", sum := "e4b806234961a9abe4ada458589b857a6554226d8e8260a91629db76fc38c2cf", func := "loop.example/g00522/laws.FnExactGoodEvents", spec := "fnExactGoodEvents", apart := false, narrowed := true }
def FnExactGoodEventsUptoSaid : Prop := fnExactGoodEventsUptoRow.holds Try.pinned (OpenSpec.upto fnExactGoodEventsSpec)

/-- 'laws.FnExactGoodEntries', WHERE WHAT IT READS IS OF BULK AT MOST 1048576: true; the input reads as it did. -/
def fnExactGoodEntriesUptoRow : OpenClaim := { program := "yticinemcmgggpaa", sum := "e4b806234961a9abe4ada458589b857a6554226d8e8260a91629db76fc38c2cf", func := "loop.example/g00522/laws.FnExactGoodEntries", spec := "fnExactGoodEntries", apart := false, narrowed := true }
def FnExactGoodEntriesUptoSaid : Prop := fnExactGoodEntriesUptoRow.holds Try.pinned (OpenSpec.upto fnExactGoodEntriesSpec)

/-- 'laws.FnExactPartAt', WHERE WHAT IT READS IS OF BULK AT MOST 1048576: true; the input reads as it did. -/
def fnExactPartAtUptoRow : OpenClaim := { program := "yticinemcmgggpaa", sum := "e4b806234961a9abe4ada458589b857a6554226d8e8260a91629db76fc38c2cf", func := "loop.example/g00522/laws.FnExactPartAt", spec := "fnExactPartAt", apart := false, narrowed := true }
def FnExactPartAtUptoSaid : Prop := fnExactPartAtUptoRow.holds Try.pinned (OpenSpec.upto fnExactPartAtSpec)

end Rows
end Go.Proofs.Yticinemcmgggpaa
