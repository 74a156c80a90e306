/-
  DERIVED. GIVEN WITH THE SEED: THE CARDS: each row of YtdddmkdidegngaaDoorRows.lean that lists a variable, with what it lists TIED to the program's text (the seventh form; the later family's looks); each row that meets fmt, with fmt's text TOLD by the authors' own Lean function (tested against real Go, not proved from fmt's source: count such statements apart). THE CARD IS WHAT COUNTS. Prove the row's statement (the work); the ties are given (YtdddmkdidegngaaDoorTie.lean); close each card by the builder's one call (the guide's Derived/Test/ToyasCard.lean, 'card_holds'). Laid BY PROGRAM, IN A SANDBOX (cutbox-door.mjs). By AI agents, Wed Nov 11 2026. No macro, syntax, notation, axiom, sorry.
-/
import Derived.Test.YtdddmkdidegngaaDoorRows
import GoSem.ClaimSeven
namespace Go.Proofs.YtdddmkdidegngaaDoor
namespace Rows

/-- THE TIED CARD OF 'laws.FnExactWashText'. -/
def fnExactWashTextCard : Claim7 := { stood := { row := fnExactWashTextRow, standIns := [], harness := (true, "ca7a78683fb2a90183718718425fd6ee37954ce02563c1b6f78556a9e7b036fd"), looks := false }, kinds := [], alts := [], laidByText := true, laidKinds := [.data, .data, .data], laidTests := true, laidLooks := .later }
def FnExactWashTextCardSaid : Prop := Claim7.holds Tryd.pinned (.plain (OpenSpec.ofChange fnExactWashTextSpec)) fnExactWashTextCard

/-- THE TIED CARD OF 'laws.FnExactPuzzleText'. -/
def fnExactPuzzleTextCard : Claim7 := { stood := { row := fnExactPuzzleTextRow, standIns := [], harness := (true, "ca7a78683fb2a90183718718425fd6ee37954ce02563c1b6f78556a9e7b036fd"), looks := false }, kinds := [], alts := [], laidByText := true, laidKinds := [.data, .data, .data], laidTests := true, laidLooks := .later }
def FnExactPuzzleTextCardSaid : Prop := Claim7.holds Tryd.pinned (.plain (OpenSpec.ofChange fnExactPuzzleTextSpec)) fnExactPuzzleTextCard

/-- THE SECOND FORM's CARD OF 'laws.FnExactWashText'. -/
def fnExactWashTextUptoCard : Claim7 := { stood := { row := fnExactWashTextUptoRow, standIns := [], harness := (true, "ca7a78683fb2a90183718718425fd6ee37954ce02563c1b6f78556a9e7b036fd"), looks := false }, kinds := [], alts := [], laidByText := true, laidKinds := [.data, .data, .data], laidTests := true, laidLooks := .later }
def FnExactWashTextUptoCardSaid : Prop := Claim7.holds Tryd.pinned (.plain (OpenSpec.upto fnExactWashTextSpec)) fnExactWashTextUptoCard

/-- THE SECOND FORM's CARD OF 'laws.FnExactPuzzleText'. -/
def fnExactPuzzleTextUptoCard : Claim7 := { stood := { row := fnExactPuzzleTextUptoRow, standIns := [], harness := (true, "ca7a78683fb2a90183718718425fd6ee37954ce02563c1b6f78556a9e7b036fd"), looks := false }, kinds := [], alts := [], laidByText := true, laidKinds := [.data, .data, .data], laidTests := true, laidLooks := .later }
def FnExactPuzzleTextUptoCardSaid : Prop := Claim7.holds Tryd.pinned (.plain (OpenSpec.upto fnExactPuzzleTextSpec)) fnExactPuzzleTextUptoCard
end Rows
end Go.Proofs.YtdddmkdidegngaaDoor
