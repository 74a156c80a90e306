/-
  DERIVED. GIVEN WITH THE SEED: THE CARDS: each row of YtiagjdlnofalfaaGreatDoorRows.lean that lists a variable, with what it lists TIED to the program's text (the seventh form; the later family's looks); each row that meets fmt, with fmt's text TOLD by the authors' own Lean function (tested against real Go, not proved from fmt's source: count such statements apart). THE CARD IS WHAT COUNTS. Prove the row's statement (the work); the ties are given (YtiagjdlnofalfaaGreatDoorTie.lean); close each card by the builder's one call (the guide's Derived/Test/ToyasCard.lean, 'card_holds'). Laid BY PROGRAM, IN A SANDBOX (cutbox-door.mjs). By AI agents, Wed Nov 11 2026. No macro, syntax, notation, axiom, sorry.
-/
import Derived.Test.YtiagjdlnofalfaaGreatDoorRows
import GoSem.ClaimSeven
namespace Go.Proofs.YtiagjdlnofalfaaGreatDoor
namespace Rows

/-- THE TIED CARD OF 'laws.FnSocksDrawn'. -/
def fnSocksDrawnCard : Claim7 := { stood := { row := fnSocksDrawnRow, standIns := [], harness := (true, "c4b1444721772757536aa6d051ea8ffda8a46b7c11e3cc8cdf58ed9ea514ada4"), looks := true }, kinds := [], alts := [], laidByText := true, laidKinds := [.data, .data, .data, .data, .sentinel, .sentinel, .pinned], laidTests := true, laidLooks := .later }
def FnSocksDrawnCardSaid : Prop := Claim7.holds Tryz.pinned (.plain (OpenSpec.ofChange fnSocksDrawnSpec)) fnSocksDrawnCard

/-- THE SECOND FORM's CARD OF 'laws.FnSocksDrawn'. -/
def fnSocksDrawnUptoCard : Claim7 := { stood := { row := fnSocksDrawnUptoRow, standIns := [], harness := (true, "c4b1444721772757536aa6d051ea8ffda8a46b7c11e3cc8cdf58ed9ea514ada4"), looks := true }, kinds := [], alts := [], laidByText := true, laidKinds := [.data, .data, .data, .data, .sentinel, .sentinel, .pinned], laidTests := true, laidLooks := .later }
def FnSocksDrawnUptoCardSaid : Prop := Claim7.holds Tryz.pinned (.plain (OpenSpec.upto fnSocksDrawnSpec)) fnSocksDrawnUptoCard
end Rows
end Go.Proofs.YtiagjdlnofalfaaGreatDoor
