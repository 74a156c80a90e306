/-
  DERIVED. GIVEN WITH THE SEED: THE CARDS: each row of YtjdglbkjdfidoaaGreatDoorRows.lean that lists a variable, with what it lists TIED to the program's text (the seventh form; the later family's looks); each row that meets fmt, with fmt's text TOLD by the authors' own Lean function (tested against real Go, not proved from fmt's source: count such statements apart). THE CARD IS WHAT COUNTS. Prove the row's statement (the work); the ties are given (YtjdglbkjdfidoaaGreatDoorTie.lean); close each card by the builder's one call (the guide's Derived/Test/ToyasCard.lean, 'card_holds'). Laid BY PROGRAM, IN A SANDBOX (cutbox-door.mjs). By AI agents, Wed Nov 11 2026. No macro, syntax, notation, axiom, sorry.
-/
import Derived.Test.YtjdglbkjdfidoaaGreatDoorRows
import GoSem.ClaimSeven
namespace Go.Proofs.YtjdglbkjdfidoaaGreatDoor
namespace Rows

/-- THE TIED CARD OF 'laws.FnPilesLoose'. -/
def fnPilesLooseCard : Claim7 := { stood := { row := fnPilesLooseRow, standIns := [], harness := (true, "74760dd73683f6a9565050b02082ffdd81a3f78dabc9ae58563b6aef84ac1478"), looks := true }, kinds := [], alts := [], laidByText := true, laidKinds := [.data, .data, .data, .data, .sentinel, .sentinel, .pinned], laidTests := true, laidLooks := .later }
def FnPilesLooseCardSaid : Prop := Claim7.holds Tryz.pinned (.plain (OpenSpec.ofChange fnPilesLooseSpec)) fnPilesLooseCard

/-- THE TIED CARD OF 'laws.FnLaundryBaskets'. -/
def fnLaundryBasketsCard : Claim7 := { stood := { row := fnLaundryBasketsRow, standIns := [], harness := (true, "74760dd73683f6a9565050b02082ffdd81a3f78dabc9ae58563b6aef84ac1478"), looks := true }, kinds := [], alts := [], laidByText := true, laidKinds := [.data, .data, .data, .data, .sentinel, .sentinel, .pinned], laidTests := true, laidLooks := .later }
def FnLaundryBasketsCardSaid : Prop := Claim7.holds Tryz.pinned (.plain (OpenSpec.ofChange fnLaundryBasketsSpec)) fnLaundryBasketsCard

/-- THE SECOND FORM's CARD OF 'laws.FnPilesLoose'. -/
def fnPilesLooseUptoCard : Claim7 := { stood := { row := fnPilesLooseUptoRow, standIns := [], harness := (true, "74760dd73683f6a9565050b02082ffdd81a3f78dabc9ae58563b6aef84ac1478"), looks := true }, kinds := [], alts := [], laidByText := true, laidKinds := [.data, .data, .data, .data, .sentinel, .sentinel, .pinned], laidTests := true, laidLooks := .later }
def FnPilesLooseUptoCardSaid : Prop := Claim7.holds Tryz.pinned (.plain (OpenSpec.upto fnPilesLooseSpec)) fnPilesLooseUptoCard

/-- THE SECOND FORM's CARD OF 'laws.FnLaundryBaskets'. -/
def fnLaundryBasketsUptoCard : Claim7 := { stood := { row := fnLaundryBasketsUptoRow, standIns := [], harness := (true, "74760dd73683f6a9565050b02082ffdd81a3f78dabc9ae58563b6aef84ac1478"), looks := true }, kinds := [], alts := [], laidByText := true, laidKinds := [.data, .data, .data, .data, .sentinel, .sentinel, .pinned], laidTests := true, laidLooks := .later }
def FnLaundryBasketsUptoCardSaid : Prop := Claim7.holds Tryz.pinned (.plain (OpenSpec.upto fnLaundryBasketsSpec)) fnLaundryBasketsUptoCard
end Rows
end Go.Proofs.YtjdglbkjdfidoaaGreatDoor
