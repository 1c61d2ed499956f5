/-
  No cell of these rows narrows 'for every input' (looked for: loops, veiled, ifaces, maps, wideKeys, modest, calm, conditions, laid).
  DERIVED. THE GIVEN ROWS OF THIS SEAT. 11 by the template 'for every input the law returns true; each argument reads behind the call as it read before'; 0 by the template 'total and deterministic' (their statements: YtlbnodmebehpiaaTotals.lean).
  GIVEN WITH THE SEED: the statements are not yours to turn. If you find one false, say at which input.
  Laid BY PROGRAM, IN A SANDBOX (cutbox-rows.mjs): the forced cells as the released guide's own fill.sh prints them over the translation eb3fee0b436e6864… (all of the seat's roots in one cut). By AI agents, Wed Nov 11 2026. No macro, syntax, notation, axiom, sorry.
-/
import Derived.Test.YtlbnodmebehpiaaChecked
import GoSem.Claim
import GoSem.ClaimJoined
import GoSem.ClaimMapViews
import Derived.JoinedTies
import Derived.KernelRfl
namespace Go.Proofs.Ytlbnodmebehpiaa
/- THE CELL 'sum', in the pinned program and in every row, IS THE sha256 OF THE DUMP (.gsa) THAT YtlbnodmebehpiaaProg.lean LOADS. Nothing in Lean hashes anything: it is a label: what it is worth is what the hold of that sum in a sandbox is worth. -/
noncomputable def Try.pinned : Pinned := { name := "ytlbnodmebehpiaa", sum := "eb3fee0b436e6864d100639af28a35d6e0215c29c1a9633b239a47fe2c82c025", checked := Try.checked }
namespace Rows
def none {H : Type} : Left H := { results := [], args := [] }

/-- 'laws.FnExactNewPoll': WHATEVER THE INPUT: true; the input reads as it did. -/
def fnExactNewPollSpec : ChangeSpec := { name := "fnExactNewPoll", fn := fun _ => fun
  | [d] => { results := [.lit (.bool true)], args := [d] }
  | _ => none }
def fnExactNewPollRow : OpenClaim := { program := "ytlbnodmebehpiaa", sum := "eb3fee0b436e6864d100639af28a35d6e0215c29c1a9633b239a47fe2c82c025", func := "loop.example/g00522/laws.FnExactNewPoll", spec := "fnExactNewPoll", unfollowed := true, recurses := true, apart := false }
def FnExactNewPollSaid : Prop := fnExactNewPollRow.holds Try.pinned (OpenSpec.ofChange fnExactNewPollSpec)

/-- ITS FALSE NEIGHBOUR: 'it returns false'. Refute it at one input. -/
def fnExactNewPollWrong : ChangeSpec := { name := "fnExactNewPoll", fn := fun _ => fun
  | [d] => { results := [.lit (.bool false)], args := [d] }
  | _ => none }
def FnExactNewPollWrongFalsely : Prop := fnExactNewPollRow.holds Try.pinned (OpenSpec.ofChange fnExactNewPollWrong)

/-- 'laws.FnExactGoodPoll': WHATEVER THE INPUT: true; the input reads as it did. -/
def fnExactGoodPollSpec : ChangeSpec := { name := "fnExactGoodPoll", fn := fun _ => fun
  | [d] => { results := [.lit (.bool true)], args := [d] }
  | _ => none }
def fnExactGoodPollRow : OpenClaim := { program := "ytlbnodmebehpiaa", sum := "eb3fee0b436e6864d100639af28a35d6e0215c29c1a9633b239a47fe2c82c025", func := "loop.example/g00522/laws.FnExactGoodPoll", spec := "fnExactGoodPoll", unfollowed := true, recurses := true, apart := false }
def FnExactGoodPollSaid : Prop := fnExactGoodPollRow.holds Try.pinned (OpenSpec.ofChange fnExactGoodPollSpec)

/-- ITS FALSE NEIGHBOUR: 'it returns false'. Refute it at one input. -/
def fnExactGoodPollWrong : ChangeSpec := { name := "fnExactGoodPoll", fn := fun _ => fun
  | [d] => { results := [.lit (.bool false)], args := [d] }
  | _ => none }
def FnExactGoodPollWrongFalsely : Prop := fnExactGoodPollRow.holds Try.pinned (OpenSpec.ofChange fnExactGoodPollWrong)

/-- 'laws.FnExactLeaderOf': WHATEVER THE INPUT: true; the input reads as it did. -/
def fnExactLeaderOfSpec : ChangeSpec := { name := "fnExactLeaderOf", fn := fun _ => fun
  | [d1, d2] => { results := [.lit (.bool true)], args := [d1, d2] }
  | _ => none }
def fnExactLeaderOfRow : OpenClaim := { program := "ytlbnodmebehpiaa", sum := "eb3fee0b436e6864d100639af28a35d6e0215c29c1a9633b239a47fe2c82c025", func := "loop.example/g00522/laws.FnExactLeaderOf", spec := "fnExactLeaderOf", unfollowed := true, recurses := true, apart := false }
def FnExactLeaderOfSaid : Prop := fnExactLeaderOfRow.holds Try.pinned (OpenSpec.ofChange fnExactLeaderOfSpec)

/-- ITS FALSE NEIGHBOUR: 'it returns false'. Refute it at one input. -/
def fnExactLeaderOfWrong : ChangeSpec := { name := "fnExactLeaderOf", fn := fun _ => fun
  | [d1, d2] => { results := [.lit (.bool false)], args := [d1, d2] }
  | _ => none }
def FnExactLeaderOfWrongFalsely : Prop := fnExactLeaderOfRow.holds Try.pinned (OpenSpec.ofChange fnExactLeaderOfWrong)

/-- 'laws.FnExactNewBank': WHATEVER THE INPUT: true; the input reads as it did. -/
def fnExactNewBankSpec : ChangeSpec := { name := "fnExactNewBank", fn := fun _ => fun
  | [d] => { results := [.lit (.bool true)], args := [d] }
  | _ => none }
def fnExactNewBankRow : OpenClaim := { program := "ytlbnodmebehpiaa", sum := "eb3fee0b436e6864d100639af28a35d6e0215c29c1a9633b239a47fe2c82c025", func := "loop.example/g00522/laws.FnExactNewBank", spec := "fnExactNewBank", unfollowed := true, recurses := true, apart := false }
def FnExactNewBankSaid : Prop := fnExactNewBankRow.holds Try.pinned (OpenSpec.ofChange fnExactNewBankSpec)

/-- ITS FALSE NEIGHBOUR: 'it returns false'. Refute it at one input. -/
def fnExactNewBankWrong : ChangeSpec := { name := "fnExactNewBank", fn := fun _ => fun
  | [d] => { results := [.lit (.bool false)], args := [d] }
  | _ => none }
def FnExactNewBankWrongFalsely : Prop := fnExactNewBankRow.holds Try.pinned (OpenSpec.ofChange fnExactNewBankWrong)

/-- 'laws.FnExactGoodBank': WHATEVER THE INPUT: true; the input reads as it did. -/
def fnExactGoodBankSpec : ChangeSpec := { name := "fnExactGoodBank", fn := fun _ => fun
  | [d] => { results := [.lit (.bool true)], args := [d] }
  | _ => none }
def fnExactGoodBankRow : OpenClaim := { program := "ytlbnodmebehpiaa", sum := "eb3fee0b436e6864d100639af28a35d6e0215c29c1a9633b239a47fe2c82c025", func := "loop.example/g00522/laws.FnExactGoodBank", spec := "fnExactGoodBank", unfollowed := true, recurses := true, apart := false }
def FnExactGoodBankSaid : Prop := fnExactGoodBankRow.holds Try.pinned (OpenSpec.ofChange fnExactGoodBankSpec)

/-- ITS FALSE NEIGHBOUR: 'it returns false'. Refute it at one input. -/
def fnExactGoodBankWrong : ChangeSpec := { name := "fnExactGoodBank", fn := fun _ => fun
  | [d] => { results := [.lit (.bool false)], args := [d] }
  | _ => none }
def FnExactGoodBankWrongFalsely : Prop := fnExactGoodBankRow.holds Try.pinned (OpenSpec.ofChange fnExactGoodBankWrong)

/-- 'laws.FnExactIsTaken': WHATEVER THE INPUT: true; the input reads as it did. -/
def fnExactIsTakenSpec : ChangeSpec := { name := "fnExactIsTaken", fn := fun _ => fun
  | [d] => { results := [.lit (.bool true)], args := [d] }
  | _ => none }
def fnExactIsTakenRow : OpenClaim := { program := "ytlbnodmebehpiaa", sum := "eb3fee0b436e6864d100639af28a35d6e0215c29c1a9633b239a47fe2c82c025", func := "loop.example/g00522/laws.FnExactIsTaken", spec := "fnExactIsTaken", unfollowed := true, recurses := true, apart := false }
def FnExactIsTakenSaid : Prop := fnExactIsTakenRow.holds Try.pinned (OpenSpec.ofChange fnExactIsTakenSpec)

/-- ITS FALSE NEIGHBOUR: 'it returns false'. Refute it at one input. -/
def fnExactIsTakenWrong : ChangeSpec := { name := "fnExactIsTaken", fn := fun _ => fun
  | [d] => { results := [.lit (.bool false)], args := [d] }
  | _ => none }
def FnExactIsTakenWrongFalsely : Prop := fnExactIsTakenRow.holds Try.pinned (OpenSpec.ofChange fnExactIsTakenWrong)

/-- 'laws.FnExactTotalIn': WHATEVER THE INPUT: true; the input reads as it did. -/
def fnExactTotalInSpec : ChangeSpec := { name := "fnExactTotalIn", fn := fun _ => fun
  | [d] => { results := [.lit (.bool true)], args := [d] }
  | _ => none }
def fnExactTotalInRow : OpenClaim := { program := "ytlbnodmebehpiaa", sum := "eb3fee0b436e6864d100639af28a35d6e0215c29c1a9633b239a47fe2c82c025", func := "loop.example/g00522/laws.FnExactTotalIn", spec := "fnExactTotalIn", unfollowed := true, recurses := true, apart := false }
def FnExactTotalInSaid : Prop := fnExactTotalInRow.holds Try.pinned (OpenSpec.ofChange fnExactTotalInSpec)

/-- ITS FALSE NEIGHBOUR: 'it returns false'. Refute it at one input. -/
def fnExactTotalInWrong : ChangeSpec := { name := "fnExactTotalIn", fn := fun _ => fun
  | [d] => { results := [.lit (.bool false)], args := [d] }
  | _ => none }
def FnExactTotalInWrongFalsely : Prop := fnExactTotalInRow.holds Try.pinned (OpenSpec.ofChange fnExactTotalInWrong)

/-- 'laws.FnExactPictureOf': WHATEVER THE INPUT: true; the input reads as it did. -/
def fnExactPictureOfSpec : ChangeSpec := { name := "fnExactPictureOf", fn := fun _ => fun
  | [d] => { results := [.lit (.bool true)], args := [d] }
  | _ => none }
def fnExactPictureOfRow : OpenClaim := { program := "ytlbnodmebehpiaa", sum := "eb3fee0b436e6864d100639af28a35d6e0215c29c1a9633b239a47fe2c82c025", func := "loop.example/g00522/laws.FnExactPictureOf", spec := "fnExactPictureOf", unfollowed := true, recurses := true, apart := false }
def FnExactPictureOfSaid : Prop := fnExactPictureOfRow.holds Try.pinned (OpenSpec.ofChange fnExactPictureOfSpec)

/-- ITS FALSE NEIGHBOUR: 'it returns false'. Refute it at one input. -/
def fnExactPictureOfWrong : ChangeSpec := { name := "fnExactPictureOf", fn := fun _ => fun
  | [d] => { results := [.lit (.bool false)], args := [d] }
  | _ => none }
def FnExactPictureOfWrongFalsely : Prop := fnExactPictureOfRow.holds Try.pinned (OpenSpec.ofChange fnExactPictureOfWrong)

/-- 'laws.FnExactNewTell': WHATEVER THE INPUT: true; the input reads as it did. -/
def fnExactNewTellSpec : ChangeSpec := { name := "fnExactNewTell", fn := fun _ => fun
  | [d] => { results := [.lit (.bool true)], args := [d] }
  | _ => none }
def fnExactNewTellRow : OpenClaim := { program := "ytlbnodmebehpiaa", sum := "eb3fee0b436e6864d100639af28a35d6e0215c29c1a9633b239a47fe2c82c025", func := "loop.example/g00522/laws.FnExactNewTell", spec := "fnExactNewTell", apart := false }
def FnExactNewTellSaid : Prop := fnExactNewTellRow.holds Try.pinned (OpenSpec.ofChange fnExactNewTellSpec)

/-- ITS FALSE NEIGHBOUR: 'it returns false'. Refute it at one input. -/
def fnExactNewTellWrong : ChangeSpec := { name := "fnExactNewTell", fn := fun _ => fun
  | [d] => { results := [.lit (.bool false)], args := [d] }
  | _ => none }
def FnExactNewTellWrongFalsely : Prop := fnExactNewTellRow.holds Try.pinned (OpenSpec.ofChange fnExactNewTellWrong)

/-- 'laws.FnExactGoodTell': WHATEVER THE INPUT: true; the input reads as it did. -/
def fnExactGoodTellSpec : ChangeSpec := { name := "fnExactGoodTell", fn := fun _ => fun
  | [d] => { results := [.lit (.bool true)], args := [d] }
  | _ => none }
def fnExactGoodTellRow : OpenClaim := { program := "ytlbnodmebehpiaa", sum := "eb3fee0b436e6864d100639af28a35d6e0215c29c1a9633b239a47fe2c82c025", func := "loop.example/g00522/laws.FnExactGoodTell", spec := "fnExactGoodTell", unfollowed := true, recurses := true, apart := false }
def FnExactGoodTellSaid : Prop := fnExactGoodTellRow.holds Try.pinned (OpenSpec.ofChange fnExactGoodTellSpec)

/-- ITS FALSE NEIGHBOUR: 'it returns false'. Refute it at one input. -/
def fnExactGoodTellWrong : ChangeSpec := { name := "fnExactGoodTell", fn := fun _ => fun
  | [d] => { results := [.lit (.bool false)], args := [d] }
  | _ => none }
def FnExactGoodTellWrongFalsely : Prop := fnExactGoodTellRow.holds Try.pinned (OpenSpec.ofChange fnExactGoodTellWrong)

/-- 'laws.FnExactWrittenOf': WHATEVER THE INPUT: true; the input reads as it did. -/
def fnExactWrittenOfSpec : ChangeSpec := { name := "fnExactWrittenOf", fn := fun _ => fun
  | [d1, d2] => { results := [.lit (.bool true)], args := [d1, d2] }
  | _ => none }
def fnExactWrittenOfRow : OpenClaim := { program := "ytlbnodmebehpiaa", sum := "eb3fee0b436e6864d100639af28a35d6e0215c29c1a9633b239a47fe2c82c025", func := "loop.example/g00522/laws.FnExactWrittenOf", spec := "fnExactWrittenOf", unfollowed := true, recurses := true, apart := false }
def FnExactWrittenOfSaid : Prop := fnExactWrittenOfRow.holds Try.pinned (OpenSpec.ofChange fnExactWrittenOfSpec)

/-- ITS FALSE NEIGHBOUR: 'it returns false'. Refute it at one input. -/
def fnExactWrittenOfWrong : ChangeSpec := { name := "fnExactWrittenOf", fn := fun _ => fun
  | [d1, d2] => { results := [.lit (.bool false)], args := [d1, d2] }
  | _ => none }
def FnExactWrittenOfWrongFalsely : Prop := fnExactWrittenOfRow.holds Try.pinned (OpenSpec.ofChange fnExactWrittenOfWrong)

/- THE SECOND FORM. 'bulk': how many values and letters a reading holds, each counted each time it is reached (what is shared counts as often as it is met; a slice's spare places count too). A statement '..UptoSaid' is the law's where the arguments, and the package variables that the reading takes, are together of bulk at most 1048576: NARROWER than '..Said'. Prove '..Said' where nothing that the law and all that it calls make is longer than what came in: it says more and counts as full. Else prove '..UptoSaid'. A law counts once. -/
mutual
def uptoBulk {H : Type} : DataW H → Nat
  | .lit (.string bytes) => bytes.length + 1
  | .lit _ => 1
  | .nil => 1
  | .ptr d => uptoBulk d + 1
  | .slice elems spare => uptoBulkAll elems + uptoBulkAll spare + 1
  | .agg parts => uptoBulkAll parts + 1
  | .iface _ d => uptoBulk d + 1
  | .map entries => uptoBulkEntries entries + 1
  | .held _ => 1
def uptoBulkAll {H : Type} : List (DataW H) → Nat
  | [] => 0
  | d :: r => uptoBulk d + uptoBulkAll r
def uptoBulkEntries {H : Type} : List (Lit × DataW H) → Nat
  | [] => 0
  | x :: r => uptoBulkEntry x + uptoBulkEntries r
def uptoBulkEntry {H : Type} : Lit × DataW H → Nat
  | (.string bytes, d) => bytes.length + uptoBulk d + 1
  | (_, d) => uptoBulk d + 1
 end
def uptoSmall : (H : Type) → List (DataW H) → Bool := fun _ ds => decide (uptoBulkAll ds ≤ 1048576)
def OpenSpec.upto (s : _root_.Go.ChangeSpec) : _root_.Go.OpenSpec := { _root_.Go.OpenSpec.ofChange s with cond := some uptoSmall }

/-- 'laws.FnExactNewPoll', WHERE WHAT IT READS IS OF BULK AT MOST 1048576: true; the input reads as it did. -/
def fnExactNewPollUptoRow : OpenClaim := { program := "ytlbnodmebehpiaa", sum := "eb3fee0b436e6864d100639af28a35d6e0215c29c1a9633b239a47fe2c82c025", func := "loop.example/g00522/laws.FnExactNewPoll", spec := "fnExactNewPoll", unfollowed := true, recurses := true, apart := false, narrowed := true }
def FnExactNewPollUptoSaid : Prop := fnExactNewPollUptoRow.holds Try.pinned (OpenSpec.upto fnExactNewPollSpec)

/-- 'laws.FnExactGoodPoll', WHERE WHAT IT READS IS OF BULK AT MOST 1048576: true; the input reads as it did. -/
def fnExactGoodPollUptoRow : OpenClaim := { program := "ytlbnodmebehpiaa", sum := "eb3fee0b436e6864d100639af28a35d6e0215c29c1a9633b239a47fe2c82c025", func := "loop.example/g00522/laws.FnExactGoodPoll", spec := "fnExactGoodPoll", unfollowed := true, recurses := true, apart := false, narrowed := true }
def FnExactGoodPollUptoSaid : Prop := fnExactGoodPollUptoRow.holds Try.pinned (OpenSpec.upto fnExactGoodPollSpec)

/-- 'laws.FnExactLeaderOf', WHERE WHAT IT READS IS OF BULK AT MOST 1048576: true; the input reads as it did. -/
def fnExactLeaderOfUptoRow : OpenClaim := { program := "ytlbnodmebehpiaa", sum := "eb3fee0b436e6864d100639af28a35d6e0215c29c1a9633b239a47fe2c82c025", func := "loop.example/g00522/laws.FnExactLeaderOf", spec := "fnExactLeaderOf", unfollowed := true, recurses := true, apart := false, narrowed := true }
def FnExactLeaderOfUptoSaid : Prop := fnExactLeaderOfUptoRow.holds Try.pinned (OpenSpec.upto fnExactLeaderOfSpec)

/-- 'laws.FnExactNewBank', WHERE WHAT IT READS IS OF BULK AT MOST 1048576: true; the input reads as it did. -/
def fnExactNewBankUptoRow : OpenClaim := { program := "ytlbnodmebehpiaa", sum := "eb3fee0b436e6864d100639af28a35d6e0215c29c1a9633b239a47fe2c82c025", func := "loop.example/g00522/laws.FnExactNewBank", spec := "fnExactNewBank", unfollowed := true, recurses := true, apart := false, narrowed := true }
def FnExactNewBankUptoSaid : Prop := fnExactNewBankUptoRow.holds Try.pinned (OpenSpec.upto fnExactNewBankSpec)

/-- 'laws.FnExactGoodBank', WHERE WHAT IT READS IS OF BULK AT MOST 1048576: true; the input reads as it did. -/
def fnExactGoodBankUptoRow : OpenClaim := { program := "ytlbnodmebehpiaa", sum := "eb3fee0b436e6864d100639af28a35d6e0215c29c1a9633b239a47fe2c82c025", func := "loop.example/g00522/laws.FnExactGoodBank", spec := "fnExactGoodBank", unfollowed := true, recurses := true, apart := false, narrowed := true }
def FnExactGoodBankUptoSaid : Prop := fnExactGoodBankUptoRow.holds Try.pinned (OpenSpec.upto fnExactGoodBankSpec)

/-- 'laws.FnExactIsTaken', WHERE WHAT IT READS IS OF BULK AT MOST 1048576: true; the input reads as it did. -/
def fnExactIsTakenUptoRow : OpenClaim := { program := "ytlbnodmebehpiaa", sum := "eb3fee0b436e6864d100639af28a35d6e0215c29c1a9633b239a47fe2c82c025", func := "loop.example/g00522/laws.FnExactIsTaken", spec := "fnExactIsTaken", unfollowed := true, recurses := true, apart := false, narrowed := true }
def FnExactIsTakenUptoSaid : Prop := fnExactIsTakenUptoRow.holds Try.pinned (OpenSpec.upto fnExactIsTakenSpec)

/-- 'laws.FnExactTotalIn', WHERE WHAT IT READS IS OF BULK AT MOST 1048576: true; the input reads as it did. -/
def fnExactTotalInUptoRow : OpenClaim := { program := "ytlbnodmebehpiaa", sum := "eb3fee0b436e6864d100639af28a35d6e0215c29c1a9633b239a47fe2c82c025", func := "loop.example/g00522/laws.FnExactTotalIn", spec := "fnExactTotalIn", unfollowed := true, recurses := true, apart := false, narrowed := true }
def FnExactTotalInUptoSaid : Prop := fnExactTotalInUptoRow.holds Try.pinned (OpenSpec.upto fnExactTotalInSpec)

/-- 'laws.FnExactPictureOf', WHERE WHAT IT READS IS OF BULK AT MOST 1048576: true; the input reads as it did. -/
def fnExactPictureOfUptoRow : OpenClaim := { program := "ytlbnodmebehpiaa", sum := "eb3fee0b436e6864d100639af28a35d6e0215c29c1a9633b239a47fe2c82c025", func := "loop.example/g00522/laws.FnExactPictureOf", spec := "fnExactPictureOf", unfollowed := true, recurses := true, apart := false, narrowed := true }
def FnExactPictureOfUptoSaid : Prop := fnExactPictureOfUptoRow.holds Try.pinned (OpenSpec.upto fnExactPictureOfSpec)

/-- 'laws.FnExactNewTell', WHERE WHAT IT READS IS OF BULK AT MOST 1048576: true; the input reads as it did. -/
def fnExactNewTellUptoRow : OpenClaim := { program := "ytlbnodmebehpiaa", sum := "eb3fee0b436e6864d100639af28a35d6e0215c29c1a9633b239a47fe2c82c025", func := "loop.example/g00522/laws.FnExactNewTell", spec := "fnExactNewTell", apart := false, narrowed := true }
def FnExactNewTellUptoSaid : Prop := fnExactNewTellUptoRow.holds Try.pinned (OpenSpec.upto fnExactNewTellSpec)

/-- 'laws.FnExactGoodTell', WHERE WHAT IT READS IS OF BULK AT MOST 1048576: true; the input reads as it did. -/
def fnExactGoodTellUptoRow : OpenClaim := { program := "ytlbnodmebehpiaa", sum := "eb3fee0b436e6864d100639af28a35d6e0215c29c1a9633b239a47fe2c82c025", func := "loop.example/g00522/laws.FnExactGoodTell", spec := "fnExactGoodTell", unfollowed := true, recurses := true, apart := false, narrowed := true }
def FnExactGoodTellUptoSaid : Prop := fnExactGoodTellUptoRow.holds Try.pinned (OpenSpec.upto fnExactGoodTellSpec)

/-- 'laws.FnExactWrittenOf', WHERE WHAT IT READS IS OF BULK AT MOST 1048576: true; the input reads as it did. -/
def fnExactWrittenOfUptoRow : OpenClaim := { program := "ytlbnodmebehpiaa", sum := "eb3fee0b436e6864d100639af28a35d6e0215c29c1a9633b239a47fe2c82c025", func := "loop.example/g00522/laws.FnExactWrittenOf", spec := "fnExactWrittenOf", unfollowed := true, recurses := true, apart := false, narrowed := true }
def FnExactWrittenOfUptoSaid : Prop := fnExactWrittenOfUptoRow.holds Try.pinned (OpenSpec.upto fnExactWrittenOfSpec)

end Rows
end Go.Proofs.Ytlbnodmebehpiaa
