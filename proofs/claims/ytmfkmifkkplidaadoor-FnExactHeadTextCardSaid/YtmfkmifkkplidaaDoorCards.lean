/-
  DERIVED. GIVEN WITH THE SEED: THE CARDS: each row of YtmfkmifkkplidaaDoorRows.lean that lists a variable, with what it lists TIED to the program's text (the seventh form; the later family's looks); each row that meets fmt, with fmt's text TOLD by the authors' own Lean function (tested against real Go, not proved from fmt's source: count such statements apart). THE CARD IS WHAT COUNTS. Prove the row's statement (the work); the ties are given (YtmfkmifkkplidaaDoorTie.lean); close each card by the builder's one call (the guide's Derived/Test/ToyasCard.lean, 'card_holds'). Laid BY PROGRAM, IN A SANDBOX (cutbox-door.mjs). By AI agents, Wed Nov 11 2026. No macro, syntax, notation, axiom, sorry.
-/
import Derived.Test.YtmfkmifkkplidaaDoorRows
import GoSem.ClaimSeven
namespace Go.Proofs.YtmfkmifkkplidaaDoor
namespace Rows

/-- THE TIED CARD OF 'laws.FnExactSayText'. -/
def fnExactSayTextCard : Claim7 := { stood := { row := fnExactSayTextRow, standIns := [], harness := (true, "bec9d1f71259e5010e695683d793a9b2aa89a2eb353b42f4fd5c73a6601d213a"), looks := false }, kinds := [], alts := [], laidByText := true, laidKinds := [.data, .data, .data], laidTests := true, laidLooks := .later }
def FnExactSayTextCardSaid : Prop := Claim7.holds Tryd.pinned (.plain (OpenSpec.ofChange fnExactSayTextSpec)) fnExactSayTextCard

/-- THE TIED CARD OF 'laws.FnExactHeadText'. -/
def fnExactHeadTextCard : Claim7 := { stood := { row := fnExactHeadTextRow, standIns := [], harness := (true, "bec9d1f71259e5010e695683d793a9b2aa89a2eb353b42f4fd5c73a6601d213a"), looks := false }, kinds := [], alts := [], laidByText := true, laidKinds := [.data, .data, .data], laidTests := true, laidLooks := .later }
def FnExactHeadTextCardSaid : Prop := Claim7.holds Tryd.pinned (.plain (OpenSpec.ofChange fnExactHeadTextSpec)) fnExactHeadTextCard

/-- THE SECOND FORM's CARD OF 'laws.FnExactSayText'. -/
def fnExactSayTextUptoCard : Claim7 := { stood := { row := fnExactSayTextUptoRow, standIns := [], harness := (true, "bec9d1f71259e5010e695683d793a9b2aa89a2eb353b42f4fd5c73a6601d213a"), looks := false }, kinds := [], alts := [], laidByText := true, laidKinds := [.data, .data, .data], laidTests := true, laidLooks := .later }
def FnExactSayTextUptoCardSaid : Prop := Claim7.holds Tryd.pinned (.plain (OpenSpec.upto fnExactSayTextSpec)) fnExactSayTextUptoCard

/-- THE SECOND FORM's CARD OF 'laws.FnExactHeadText'. -/
def fnExactHeadTextUptoCard : Claim7 := { stood := { row := fnExactHeadTextUptoRow, standIns := [], harness := (true, "bec9d1f71259e5010e695683d793a9b2aa89a2eb353b42f4fd5c73a6601d213a"), looks := false }, kinds := [], alts := [], laidByText := true, laidKinds := [.data, .data, .data], laidTests := true, laidLooks := .later }
def FnExactHeadTextUptoCardSaid : Prop := Claim7.holds Tryd.pinned (.plain (OpenSpec.upto fnExactHeadTextSpec)) fnExactHeadTextUptoCard
end Rows
end Go.Proofs.YtmfkmifkkplidaaDoor
