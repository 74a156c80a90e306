/-
  DERIVED. GIVEN WITH THE SEED: THE CARDS: each row of YtmogbnhgelihlaaGreatDoorRows.lean that lists a variable, with what it lists TIED to the program's text (the seventh form; the later family's looks); each row that meets fmt, with fmt's text TOLD by the authors' own Lean function (tested against real Go, not proved from fmt's source: count such statements apart). THE CARD IS WHAT COUNTS. Prove the row's statement (the work); the ties are given (YtmogbnhgelihlaaGreatDoorTie.lean); close each card by the builder's one call (the guide's Derived/Test/ToyasCard.lean, 'card_holds'). Laid BY PROGRAM, IN A SANDBOX (cutbox-door.mjs). By AI agents, Wed Nov 11 2026. No macro, syntax, notation, axiom, sorry.
-/
import Derived.Test.YtmogbnhgelihlaaGreatDoorRows
import GoSem.ClaimSeven
namespace Go.Proofs.YtmogbnhgelihlaaGreatDoor
namespace Rows

/-- THE TIED CARD OF 'laws.FnDaysLeast'. -/
def fnDaysLeastCard : Claim7 := { stood := { row := fnDaysLeastRow, standIns := [], harness := (true, "9b71ed6994d5ea5c415948681dc4c42bf0ef8bcecfa3486a73881edc62d12355"), looks := true }, kinds := [], alts := [], laidByText := true, laidKinds := [.data, .data, .data, .data, .sentinel, .sentinel, .pinned], laidTests := true, laidLooks := .later }
def FnDaysLeastCardSaid : Prop := Claim7.holds Tryz.pinned (.plain (OpenSpec.ofChange fnDaysLeastSpec)) fnDaysLeastCard

/-- THE TIED CARD OF 'laws.FnShoesPaired'. -/
def fnShoesPairedCard : Claim7 := { stood := { row := fnShoesPairedRow, standIns := [], harness := (true, "9b71ed6994d5ea5c415948681dc4c42bf0ef8bcecfa3486a73881edc62d12355"), looks := true }, kinds := [], alts := [], laidByText := true, laidKinds := [.data, .data, .data, .data, .sentinel, .sentinel, .pinned], laidTests := true, laidLooks := .later }
def FnShoesPairedCardSaid : Prop := Claim7.holds Tryz.pinned (.plain (OpenSpec.ofChange fnShoesPairedSpec)) fnShoesPairedCard

/-- THE SECOND FORM's CARD OF 'laws.FnDaysLeast'. -/
def fnDaysLeastUptoCard : Claim7 := { stood := { row := fnDaysLeastUptoRow, standIns := [], harness := (true, "9b71ed6994d5ea5c415948681dc4c42bf0ef8bcecfa3486a73881edc62d12355"), looks := true }, kinds := [], alts := [], laidByText := true, laidKinds := [.data, .data, .data, .data, .sentinel, .sentinel, .pinned], laidTests := true, laidLooks := .later }
def FnDaysLeastUptoCardSaid : Prop := Claim7.holds Tryz.pinned (.plain (OpenSpec.upto fnDaysLeastSpec)) fnDaysLeastUptoCard

/-- THE SECOND FORM's CARD OF 'laws.FnShoesPaired'. -/
def fnShoesPairedUptoCard : Claim7 := { stood := { row := fnShoesPairedUptoRow, standIns := [], harness := (true, "9b71ed6994d5ea5c415948681dc4c42bf0ef8bcecfa3486a73881edc62d12355"), looks := true }, kinds := [], alts := [], laidByText := true, laidKinds := [.data, .data, .data, .data, .sentinel, .sentinel, .pinned], laidTests := true, laidLooks := .later }
def FnShoesPairedUptoCardSaid : Prop := Claim7.holds Tryz.pinned (.plain (OpenSpec.upto fnShoesPairedSpec)) fnShoesPairedUptoCard
end Rows
end Go.Proofs.YtmogbnhgelihlaaGreatDoor
