/-
  DERIVED. GIVEN WITH THE SEED: THE CARDS: each row of YticinemcmgggpabDoorRows.lean that lists a variable, with what it lists TIED to the program's text (the seventh form; the later family's looks); each row that meets fmt, with fmt's text TOLD by the authors' own Lean function (tested against real Go, not proved from fmt's source: count such statements apart). THE CARD IS WHAT COUNTS. Prove the row's statement (the work); the ties are given (YticinemcmgggpabDoorTie.lean); close each card by the builder's one call (the guide's Derived/Test/ToyasCard.lean, 'card_holds'). Laid BY PROGRAM, IN A SANDBOX (cutbox-door.mjs). By AI agents, Wed Nov 11 2026. No macro, syntax, notation, axiom, sorry.
-/
import Derived.Test.YticinemcmgggpabDoorRows
import GoSem.ClaimSeven
namespace Go.Proofs.YticinemcmgggpabDoor
namespace Rows

/-- THE TIED CARD OF 'laws.FnExactReadSay'. -/
def fnExactReadSayCard : Claim7 := { stood := { row := fnExactReadSayRow, standIns := [], harness := (true, "2aae16a30e33fbccd0d9534a05d6bfef6188951185b801c2e567203e7f291b64"), looks := true }, kinds := [], alts := [], laidByText := true, laidKinds := [.data, .data, .data, .data, .sentinel, .sentinel, .pinned], laidTests := true, laidLooks := .later }
def FnExactReadSayCardSaid : Prop := Claim7.holds Tryd.pinned (.plain (OpenSpec.ofChange fnExactReadSaySpec)) fnExactReadSayCard

/-- THE SECOND FORM's CARD OF 'laws.FnExactReadSay'. -/
def fnExactReadSayUptoCard : Claim7 := { stood := { row := fnExactReadSayUptoRow, standIns := [], harness := (true, "2aae16a30e33fbccd0d9534a05d6bfef6188951185b801c2e567203e7f291b64"), looks := true }, kinds := [], alts := [], laidByText := true, laidKinds := [.data, .data, .data, .data, .sentinel, .sentinel, .pinned], laidTests := true, laidLooks := .later }
def FnExactReadSayUptoCardSaid : Prop := Claim7.holds Tryd.pinned (.plain (OpenSpec.upto fnExactReadSaySpec)) fnExactReadSayUptoCard
end Rows
end Go.Proofs.YticinemcmgggpabDoor
