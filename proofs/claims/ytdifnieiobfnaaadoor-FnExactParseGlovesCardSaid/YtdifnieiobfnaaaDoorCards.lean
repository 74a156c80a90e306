/-
  DERIVED. GIVEN WITH THE SEED: THE CARDS: each row of YtdifnieiobfnaaaDoorRows.lean that lists a variable, with what it lists TIED to the program's text (the seventh form; the later family's looks); each row that meets fmt, with fmt's text TOLD by the authors' own Lean function (tested against real Go, not proved from fmt's source: count such statements apart). THE CARD IS WHAT COUNTS. Prove the row's statement (the work); the ties are given (YtdifnieiobfnaaaDoorTie.lean); close each card by the builder's one call (the guide's Derived/Test/ToyasCard.lean, 'card_holds'). Laid BY PROGRAM, IN A SANDBOX (cutbox-door.mjs). By AI agents, Wed Nov 11 2026. No macro, syntax, notation, axiom, sorry.
-/
import Derived.Test.YtdifnieiobfnaaaDoorRows
import GoSem.ClaimSeven
namespace Go.Proofs.YtdifnieiobfnaaaDoor
namespace Rows

/-- THE TIED CARD OF 'laws.FnExactParsePile'. -/
def fnExactParsePileCard : Claim7 := { stood := { row := fnExactParsePileRow, standIns := [], harness := (true, "5011b100c5f791605826a93b12f292192dd7b744e72b760dbdaf7263f641d596"), looks := true }, kinds := [], alts := [], laidByText := true, laidKinds := [.data, .data, .data, .data, .sentinel, .sentinel, .pinned], laidTests := true, laidLooks := .later }
def FnExactParsePileCardSaid : Prop := Claim7.holds Tryd.pinned (.plain (OpenSpec.ofChange fnExactParsePileSpec)) fnExactParsePileCard

/-- THE TIED CARD OF 'laws.FnExactParseWash'. -/
def fnExactParseWashCard : Claim7 := { stood := { row := fnExactParseWashRow, standIns := [], harness := (true, "5011b100c5f791605826a93b12f292192dd7b744e72b760dbdaf7263f641d596"), looks := true }, kinds := [], alts := [], laidByText := true, laidKinds := [.data, .data, .data, .data, .sentinel, .sentinel, .pinned], laidTests := true, laidLooks := .later }
def FnExactParseWashCardSaid : Prop := Claim7.holds Tryd.pinned (.plain (OpenSpec.ofChange fnExactParseWashSpec)) fnExactParseWashCard

/-- THE TIED CARD OF 'laws.FnExactParseGloves'. -/
def fnExactParseGlovesCard : Claim7 := { stood := { row := fnExactParseGlovesRow, standIns := [], harness := (true, "5011b100c5f791605826a93b12f292192dd7b744e72b760dbdaf7263f641d596"), looks := true }, kinds := [], alts := [], laidByText := true, laidKinds := [.data, .data, .data, .data, .sentinel, .sentinel, .pinned], laidTests := true, laidLooks := .later }
def FnExactParseGlovesCardSaid : Prop := Claim7.holds Tryd.pinned (.plain (OpenSpec.ofChange fnExactParseGlovesSpec)) fnExactParseGlovesCard

/-- THE TIED CARD OF 'laws.FnExactParseSocks'. -/
def fnExactParseSocksCard : Claim7 := { stood := { row := fnExactParseSocksRow, standIns := [], harness := (true, "5011b100c5f791605826a93b12f292192dd7b744e72b760dbdaf7263f641d596"), looks := true }, kinds := [], alts := [], laidByText := true, laidKinds := [.data, .data, .data, .data, .sentinel, .sentinel, .pinned], laidTests := true, laidLooks := .later }
def FnExactParseSocksCardSaid : Prop := Claim7.holds Tryd.pinned (.plain (OpenSpec.ofChange fnExactParseSocksSpec)) fnExactParseSocksCard

/-- THE TIED CARD OF 'laws.FnExactParseSizes'. -/
def fnExactParseSizesCard : Claim7 := { stood := { row := fnExactParseSizesRow, standIns := [], harness := (true, "5011b100c5f791605826a93b12f292192dd7b744e72b760dbdaf7263f641d596"), looks := true }, kinds := [], alts := [], laidByText := true, laidKinds := [.data, .data, .data, .data, .sentinel, .sentinel, .pinned], laidTests := true, laidLooks := .later }
def FnExactParseSizesCardSaid : Prop := Claim7.holds Tryd.pinned (.plain (OpenSpec.ofChange fnExactParseSizesSpec)) fnExactParseSizesCard

/-- THE TIED CARD OF 'laws.FnExactParseBasket'. -/
def fnExactParseBasketCard : Claim7 := { stood := { row := fnExactParseBasketRow, standIns := [], harness := (true, "5011b100c5f791605826a93b12f292192dd7b744e72b760dbdaf7263f641d596"), looks := true }, kinds := [], alts := [], laidByText := true, laidKinds := [.data, .data, .data, .data, .sentinel, .sentinel, .pinned], laidTests := true, laidLooks := .later }
def FnExactParseBasketCardSaid : Prop := Claim7.holds Tryd.pinned (.plain (OpenSpec.ofChange fnExactParseBasketSpec)) fnExactParseBasketCard

/-- THE TIED CARD OF 'laws.FnExactParseDrawers'. -/
def fnExactParseDrawersCard : Claim7 := { stood := { row := fnExactParseDrawersRow, standIns := [], harness := (true, "5011b100c5f791605826a93b12f292192dd7b744e72b760dbdaf7263f641d596"), looks := true }, kinds := [], alts := [], laidByText := true, laidKinds := [.data, .data, .data, .data, .sentinel, .sentinel, .pinned], laidTests := true, laidLooks := .later }
def FnExactParseDrawersCardSaid : Prop := Claim7.holds Tryd.pinned (.plain (OpenSpec.ofChange fnExactParseDrawersSpec)) fnExactParseDrawersCard

/-- THE SECOND FORM's CARD OF 'laws.FnExactParsePile'. -/
def fnExactParsePileUptoCard : Claim7 := { stood := { row := fnExactParsePileUptoRow, standIns := [], harness := (true, "5011b100c5f791605826a93b12f292192dd7b744e72b760dbdaf7263f641d596"), looks := true }, kinds := [], alts := [], laidByText := true, laidKinds := [.data, .data, .data, .data, .sentinel, .sentinel, .pinned], laidTests := true, laidLooks := .later }
def FnExactParsePileUptoCardSaid : Prop := Claim7.holds Tryd.pinned (.plain (OpenSpec.upto fnExactParsePileSpec)) fnExactParsePileUptoCard

/-- THE SECOND FORM's CARD OF 'laws.FnExactParseWash'. -/
def fnExactParseWashUptoCard : Claim7 := { stood := { row := fnExactParseWashUptoRow, standIns := [], harness := (true, "5011b100c5f791605826a93b12f292192dd7b744e72b760dbdaf7263f641d596"), looks := true }, kinds := [], alts := [], laidByText := true, laidKinds := [.data, .data, .data, .data, .sentinel, .sentinel, .pinned], laidTests := true, laidLooks := .later }
def FnExactParseWashUptoCardSaid : Prop := Claim7.holds Tryd.pinned (.plain (OpenSpec.upto fnExactParseWashSpec)) fnExactParseWashUptoCard

/-- THE SECOND FORM's CARD OF 'laws.FnExactParseGloves'. -/
def fnExactParseGlovesUptoCard : Claim7 := { stood := { row := fnExactParseGlovesUptoRow, standIns := [], harness := (true, "5011b100c5f791605826a93b12f292192dd7b744e72b760dbdaf7263f641d596"), looks := true }, kinds := [], alts := [], laidByText := true, laidKinds := [.data, .data, .data, .data, .sentinel, .sentinel, .pinned], laidTests := true, laidLooks := .later }
def FnExactParseGlovesUptoCardSaid : Prop := Claim7.holds Tryd.pinned (.plain (OpenSpec.upto fnExactParseGlovesSpec)) fnExactParseGlovesUptoCard

/-- THE SECOND FORM's CARD OF 'laws.FnExactParseSocks'. -/
def fnExactParseSocksUptoCard : Claim7 := { stood := { row := fnExactParseSocksUptoRow, standIns := [], harness := (true, "5011b100c5f791605826a93b12f292192dd7b744e72b760dbdaf7263f641d596"), looks := true }, kinds := [], alts := [], laidByText := true, laidKinds := [.data, .data, .data, .data, .sentinel, .sentinel, .pinned], laidTests := true, laidLooks := .later }
def FnExactParseSocksUptoCardSaid : Prop := Claim7.holds Tryd.pinned (.plain (OpenSpec.upto fnExactParseSocksSpec)) fnExactParseSocksUptoCard

/-- THE SECOND FORM's CARD OF 'laws.FnExactParseSizes'. -/
def fnExactParseSizesUptoCard : Claim7 := { stood := { row := fnExactParseSizesUptoRow, standIns := [], harness := (true, "5011b100c5f791605826a93b12f292192dd7b744e72b760dbdaf7263f641d596"), looks := true }, kinds := [], alts := [], laidByText := true, laidKinds := [.data, .data, .data, .data, .sentinel, .sentinel, .pinned], laidTests := true, laidLooks := .later }
def FnExactParseSizesUptoCardSaid : Prop := Claim7.holds Tryd.pinned (.plain (OpenSpec.upto fnExactParseSizesSpec)) fnExactParseSizesUptoCard

/-- THE SECOND FORM's CARD OF 'laws.FnExactParseBasket'. -/
def fnExactParseBasketUptoCard : Claim7 := { stood := { row := fnExactParseBasketUptoRow, standIns := [], harness := (true, "5011b100c5f791605826a93b12f292192dd7b744e72b760dbdaf7263f641d596"), looks := true }, kinds := [], alts := [], laidByText := true, laidKinds := [.data, .data, .data, .data, .sentinel, .sentinel, .pinned], laidTests := true, laidLooks := .later }
def FnExactParseBasketUptoCardSaid : Prop := Claim7.holds Tryd.pinned (.plain (OpenSpec.upto fnExactParseBasketSpec)) fnExactParseBasketUptoCard

/-- THE SECOND FORM's CARD OF 'laws.FnExactParseDrawers'. -/
def fnExactParseDrawersUptoCard : Claim7 := { stood := { row := fnExactParseDrawersUptoRow, standIns := [], harness := (true, "5011b100c5f791605826a93b12f292192dd7b744e72b760dbdaf7263f641d596"), looks := true }, kinds := [], alts := [], laidByText := true, laidKinds := [.data, .data, .data, .data, .sentinel, .sentinel, .pinned], laidTests := true, laidLooks := .later }
def FnExactParseDrawersUptoCardSaid : Prop := Claim7.holds Tryd.pinned (.plain (OpenSpec.upto fnExactParseDrawersSpec)) fnExactParseDrawersUptoCard
end Rows
end Go.Proofs.YtdifnieiobfnaaaDoor
