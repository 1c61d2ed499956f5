/-
  DERIVED. GIVEN WITH THE SEED: THE CARDS: each row of YtonfeiloekofdaaDoorRows.lean that lists a variable, with what it lists TIED to the program's text (the seventh form; the later family's looks); each row that meets fmt, with fmt's text TOLD by the authors' own Lean function (tested against real Go, not proved from fmt's source: count such statements apart). THE CARD IS WHAT COUNTS. Prove the row's statement (the work); the ties are given (YtonfeiloekofdaaDoorTie.lean); close each card by the builder's one call (the guide's Derived/Test/ToyasCard.lean, 'card_holds'). Laid BY PROGRAM, IN A SANDBOX (cutbox-door.mjs). By AI agents, Wed Nov 11 2026. No macro, syntax, notation, axiom, sorry.
-/
import Derived.Test.YtonfeiloekofdaaDoorRows
import GoSem.ClaimSeven
namespace Go.Proofs.YtonfeiloekofdaaDoor
namespace Rows

/-- THE TIED CARD OF 'laws.FnExactReadHead'. -/
def fnExactReadHeadCard : Claim7 := { stood := { row := fnExactReadHeadRow, standIns := [], harness := (true, "aee4fa73cad51eacc0faebab5f13bd38d1e73d7a096ea22b73c793fc36b10876"), looks := true }, kinds := [], alts := [], laidByText := true, laidKinds := [.data, .data, .data, .data, .sentinel, .sentinel, .pinned], laidTests := true, laidLooks := .later }
def FnExactReadHeadCardSaid : Prop := Claim7.holds Tryd.pinned (.plain (OpenSpec.ofChange fnExactReadHeadSpec)) fnExactReadHeadCard

/-- THE SECOND FORM's CARD OF 'laws.FnExactReadHead'. -/
def fnExactReadHeadUptoCard : Claim7 := { stood := { row := fnExactReadHeadUptoRow, standIns := [], harness := (true, "aee4fa73cad51eacc0faebab5f13bd38d1e73d7a096ea22b73c793fc36b10876"), looks := true }, kinds := [], alts := [], laidByText := true, laidKinds := [.data, .data, .data, .data, .sentinel, .sentinel, .pinned], laidTests := true, laidLooks := .later }
def FnExactReadHeadUptoCardSaid : Prop := Claim7.holds Tryd.pinned (.plain (OpenSpec.upto fnExactReadHeadSpec)) fnExactReadHeadUptoCard
end Rows
end Go.Proofs.YtonfeiloekofdaaDoor
