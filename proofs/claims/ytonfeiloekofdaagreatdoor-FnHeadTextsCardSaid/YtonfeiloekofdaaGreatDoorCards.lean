/-
  DERIVED. GIVEN WITH THE SEED: THE CARDS: each row of YtonfeiloekofdaaGreatDoorRows.lean that lists a variable, with what it lists TIED to the program's text (the seventh form; the later family's looks); each row that meets fmt, with fmt's text TOLD by the authors' own Lean function (tested against real Go, not proved from fmt's source: count such statements apart). THE CARD IS WHAT COUNTS. Prove the row's statement (the work); the ties are given (YtonfeiloekofdaaGreatDoorTie.lean); close each card by the builder's one call (the guide's Derived/Test/ToyasCard.lean, 'card_holds'). Laid BY PROGRAM, IN A SANDBOX (cutbox-door.mjs). By AI agents, Wed Nov 11 2026. No macro, syntax, notation, axiom, sorry.
-/
import Derived.Test.YtonfeiloekofdaaGreatDoorRows
import GoSem.ClaimSeven
namespace Go.Proofs.YtonfeiloekofdaaGreatDoor
namespace Rows

/-- THE TIED CARD OF 'laws.FnHeadTexts'. -/
def fnHeadTextsCard : Claim7 := { stood := { row := fnHeadTextsRow, standIns := [], harness := (true, "745d7ee2c92675e81febb88cbb5382f0727322a256742443c5d2499df72079aa"), looks := true }, kinds := [], alts := [], laidByText := true, laidKinds := [.data, .data, .data, .data, .sentinel, .sentinel, .pinned], laidTests := true, laidLooks := .later }
def FnHeadTextsCardSaid : Prop := Claim7.holds Tryz.pinned (.plain (OpenSpec.ofChange fnHeadTextsSpec)) fnHeadTextsCard

/-- THE SECOND FORM's CARD OF 'laws.FnHeadTexts'. -/
def fnHeadTextsUptoCard : Claim7 := { stood := { row := fnHeadTextsUptoRow, standIns := [], harness := (true, "745d7ee2c92675e81febb88cbb5382f0727322a256742443c5d2499df72079aa"), looks := true }, kinds := [], alts := [], laidByText := true, laidKinds := [.data, .data, .data, .data, .sentinel, .sentinel, .pinned], laidTests := true, laidLooks := .later }
def FnHeadTextsUptoCardSaid : Prop := Claim7.holds Tryz.pinned (.plain (OpenSpec.upto fnHeadTextsSpec)) fnHeadTextsUptoCard
end Rows
end Go.Proofs.YtonfeiloekofdaaGreatDoor
