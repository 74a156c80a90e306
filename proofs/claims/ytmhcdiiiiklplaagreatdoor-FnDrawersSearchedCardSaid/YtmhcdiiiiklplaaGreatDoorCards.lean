/-
  DERIVED. GIVEN WITH THE SEED: THE CARDS: each row of YtmhcdiiiiklplaaGreatDoorRows.lean that lists a variable, with what it lists TIED to the program's text (the seventh form; the later family's looks); each row that meets fmt, with fmt's text TOLD by the authors' own Lean function (tested against real Go, not proved from fmt's source: count such statements apart). THE CARD IS WHAT COUNTS. Prove the row's statement (the work); the ties are given (YtmhcdiiiiklplaaGreatDoorTie.lean); close each card by the builder's one call (the guide's Derived/Test/ToyasCard.lean, 'card_holds'). Laid BY PROGRAM, IN A SANDBOX (cutbox-door.mjs). By AI agents, Wed Nov 11 2026. No macro, syntax, notation, axiom, sorry.
-/
import Derived.Test.YtmhcdiiiiklplaaGreatDoorRows
import GoSem.ClaimSeven
namespace Go.Proofs.YtmhcdiiiiklplaaGreatDoor
namespace Rows

/-- THE TIED CARD OF 'laws.FnGlovesPaired'. -/
def fnGlovesPairedCard : Claim7 := { stood := { row := fnGlovesPairedRow, standIns := [], harness := (true, "37d4209d719433857fb1e59ad63b53c82b22f3818fbdd94a0905c537bc745999"), looks := true }, kinds := [], alts := [], laidByText := true, laidKinds := [.data, .data, .data, .data, .sentinel, .sentinel, .pinned], laidTests := true, laidLooks := .later }
def FnGlovesPairedCardSaid : Prop := Claim7.holds Tryz.pinned (.plain (OpenSpec.ofChange fnGlovesPairedSpec)) fnGlovesPairedCard

/-- THE TIED CARD OF 'laws.FnDrawersSearched'. -/
def fnDrawersSearchedCard : Claim7 := { stood := { row := fnDrawersSearchedRow, standIns := [], harness := (true, "37d4209d719433857fb1e59ad63b53c82b22f3818fbdd94a0905c537bc745999"), looks := true }, kinds := [], alts := [], laidByText := true, laidKinds := [.data, .data, .data, .data, .sentinel, .sentinel, .pinned], laidTests := true, laidLooks := .later }
def FnDrawersSearchedCardSaid : Prop := Claim7.holds Tryz.pinned (.plain (OpenSpec.ofChange fnDrawersSearchedSpec)) fnDrawersSearchedCard

/-- THE SECOND FORM's CARD OF 'laws.FnGlovesPaired'. -/
def fnGlovesPairedUptoCard : Claim7 := { stood := { row := fnGlovesPairedUptoRow, standIns := [], harness := (true, "37d4209d719433857fb1e59ad63b53c82b22f3818fbdd94a0905c537bc745999"), looks := true }, kinds := [], alts := [], laidByText := true, laidKinds := [.data, .data, .data, .data, .sentinel, .sentinel, .pinned], laidTests := true, laidLooks := .later }
def FnGlovesPairedUptoCardSaid : Prop := Claim7.holds Tryz.pinned (.plain (OpenSpec.upto fnGlovesPairedSpec)) fnGlovesPairedUptoCard

/-- THE SECOND FORM's CARD OF 'laws.FnDrawersSearched'. -/
def fnDrawersSearchedUptoCard : Claim7 := { stood := { row := fnDrawersSearchedUptoRow, standIns := [], harness := (true, "37d4209d719433857fb1e59ad63b53c82b22f3818fbdd94a0905c537bc745999"), looks := true }, kinds := [], alts := [], laidByText := true, laidKinds := [.data, .data, .data, .data, .sentinel, .sentinel, .pinned], laidTests := true, laidLooks := .later }
def FnDrawersSearchedUptoCardSaid : Prop := Claim7.holds Tryz.pinned (.plain (OpenSpec.upto fnDrawersSearchedSpec)) fnDrawersSearchedUptoCard
end Rows
end Go.Proofs.YtmhcdiiiiklplaaGreatDoor
