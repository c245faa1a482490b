/-
  DERIVED. GIVEN WITH THE SEED: THE CARDS: each row of YtdjdhkbomhendaaGreatDoorRows.lean that lists a variable, with what it lists TIED to the program's text (the seventh form; the later family's looks); each row that meets fmt, with fmt's text TOLD by the authors' own Lean function (tested against real Go, not proved from fmt's source: count such statements apart). THE CARD IS WHAT COUNTS. Prove the row's statement (the work); the ties are given (YtdjdhkbomhendaaGreatDoorTie.lean); close each card by the builder's one call (the guide's Derived/Test/ToyasCard.lean, 'card_holds'). Laid BY PROGRAM, IN A SANDBOX (cutbox-door.mjs). By AI agents, Wed Nov 11 2026. No macro, syntax, notation, axiom, sorry.
-/
import Derived.Test.YtdjdhkbomhendaaGreatDoorRows
import GoSem.ClaimSeven
namespace Go.Proofs.YtdjdhkbomhendaaGreatDoor
namespace Rows

/-- THE TIED CARD OF 'disjointlaw54.HistoryFormat'. -/
def historyFormatCard : Claim7 := { stood := { row := historyFormatRow, standIns := [], harness := (true, "7dc1663063c7a1d1dca3633d5911bdc6906d1221ce51ab4b2a49d84c3a2c6c73"), looks := true }, kinds := [], alts := [], laidByText := true, laidKinds := [.data, .data, .data, .data, .sentinel, .sentinel, .pinned], laidTests := true, laidLooks := .later }
def HistoryFormatCardSaid : Prop := Claim7.holds Tryz.pinned (.plain (OpenSpec.ofChange historyFormatSpec)) historyFormatCard

/-- THE TIED CARD OF 'disjointlaw54.HistoryParse'. -/
def historyParseCard : Claim7 := { stood := { row := historyParseRow, standIns := [], harness := (true, "7dc1663063c7a1d1dca3633d5911bdc6906d1221ce51ab4b2a49d84c3a2c6c73"), looks := true }, kinds := [], alts := [], laidByText := true, laidKinds := [.data, .data, .data, .data, .sentinel, .sentinel, .pinned], laidTests := true, laidLooks := .later }
def HistoryParseCardSaid : Prop := Claim7.holds Tryz.pinned (.plain (OpenSpec.ofChange historyParseSpec)) historyParseCard

/-- THE TIED CARD OF 'disjointlaw54.HistoryRoundTrip'. -/
def historyRoundTripCard : Claim7 := { stood := { row := historyRoundTripRow, standIns := [], harness := (true, "7dc1663063c7a1d1dca3633d5911bdc6906d1221ce51ab4b2a49d84c3a2c6c73"), looks := true }, kinds := [], alts := [], laidByText := true, laidKinds := [.data, .data, .data, .data, .sentinel, .sentinel, .pinned], laidTests := true, laidLooks := .later }
def HistoryRoundTripCardSaid : Prop := Claim7.holds Tryz.pinned (.plain (OpenSpec.ofChange historyRoundTripSpec)) historyRoundTripCard

/-- THE TIED CARD OF 'disjointlaw54.HistoryReformat'. -/
def historyReformatCard : Claim7 := { stood := { row := historyReformatRow, standIns := [], harness := (true, "7dc1663063c7a1d1dca3633d5911bdc6906d1221ce51ab4b2a49d84c3a2c6c73"), looks := true }, kinds := [], alts := [], laidByText := true, laidKinds := [.data, .data, .data, .data, .sentinel, .sentinel, .pinned], laidTests := true, laidLooks := .later }
def HistoryReformatCardSaid : Prop := Claim7.holds Tryz.pinned (.plain (OpenSpec.ofChange historyReformatSpec)) historyReformatCard

/-- THE TIED CARD OF 'disjointlaw54.HistoryConcatenation'. -/
def historyConcatenationCard : Claim7 := { stood := { row := historyConcatenationRow, standIns := [], harness := (true, "7dc1663063c7a1d1dca3633d5911bdc6906d1221ce51ab4b2a49d84c3a2c6c73"), looks := true }, kinds := [], alts := [], laidByText := true, laidKinds := [.data, .data, .data, .data, .sentinel, .sentinel, .pinned], laidTests := true, laidLooks := .later }
def HistoryConcatenationCardSaid : Prop := Claim7.holds Tryz.pinned (.plain (OpenSpec.ofChange historyConcatenationSpec)) historyConcatenationCard

/-- THE TIED CARD OF 'disjointlaw54.HistoryExplain'. -/
def historyExplainCard : Claim7 := { stood := { row := historyExplainRow, standIns := [], harness := (true, "7dc1663063c7a1d1dca3633d5911bdc6906d1221ce51ab4b2a49d84c3a2c6c73"), looks := true }, kinds := [], alts := [], laidByText := true, laidKinds := [.data, .data, .data, .data, .sentinel, .sentinel, .pinned], laidTests := true, laidLooks := .later }
def HistoryExplainCardSaid : Prop := Claim7.holds Tryz.pinned (.plain (OpenSpec.ofChange historyExplainSpec)) historyExplainCard

/-- THE TIED CARD OF 'disjointlaw54.HistoryEqual'. -/
def historyEqualCard : Claim7 := { stood := { row := historyEqualRow, standIns := [], harness := (true, "7dc1663063c7a1d1dca3633d5911bdc6906d1221ce51ab4b2a49d84c3a2c6c73"), looks := true }, kinds := [], alts := [], laidByText := true, laidKinds := [.data, .data, .data, .data, .sentinel, .sentinel, .pinned], laidTests := true, laidLooks := .later }
def HistoryEqualCardSaid : Prop := Claim7.holds Tryz.pinned (.plain (OpenSpec.ofChange historyEqualSpec)) historyEqualCard

/-- THE TIED CARD OF 'disjointlaw54.HistoryOutcomes'. -/
def historyOutcomesCard : Claim7 := { stood := { row := historyOutcomesRow, standIns := [], harness := (true, "7dc1663063c7a1d1dca3633d5911bdc6906d1221ce51ab4b2a49d84c3a2c6c73"), looks := true }, kinds := [], alts := [], laidByText := true, laidKinds := [.data, .data, .data, .data, .sentinel, .sentinel, .pinned], laidTests := true, laidLooks := .later }
def HistoryOutcomesCardSaid : Prop := Claim7.holds Tryz.pinned (.plain (OpenSpec.ofChange historyOutcomesSpec)) historyOutcomesCard

/-- THE SECOND FORM's CARD OF 'disjointlaw54.HistoryFormat'. -/
def historyFormatUptoCard : Claim7 := { stood := { row := historyFormatUptoRow, standIns := [], harness := (true, "7dc1663063c7a1d1dca3633d5911bdc6906d1221ce51ab4b2a49d84c3a2c6c73"), looks := true }, kinds := [], alts := [], laidByText := true, laidKinds := [.data, .data, .data, .data, .sentinel, .sentinel, .pinned], laidTests := true, laidLooks := .later }
def HistoryFormatUptoCardSaid : Prop := Claim7.holds Tryz.pinned (.plain (OpenSpec.upto historyFormatSpec)) historyFormatUptoCard

/-- THE SECOND FORM's CARD OF 'disjointlaw54.HistoryParse'. -/
def historyParseUptoCard : Claim7 := { stood := { row := historyParseUptoRow, standIns := [], harness := (true, "7dc1663063c7a1d1dca3633d5911bdc6906d1221ce51ab4b2a49d84c3a2c6c73"), looks := true }, kinds := [], alts := [], laidByText := true, laidKinds := [.data, .data, .data, .data, .sentinel, .sentinel, .pinned], laidTests := true, laidLooks := .later }
def HistoryParseUptoCardSaid : Prop := Claim7.holds Tryz.pinned (.plain (OpenSpec.upto historyParseSpec)) historyParseUptoCard

/-- THE SECOND FORM's CARD OF 'disjointlaw54.HistoryRoundTrip'. -/
def historyRoundTripUptoCard : Claim7 := { stood := { row := historyRoundTripUptoRow, standIns := [], harness := (true, "7dc1663063c7a1d1dca3633d5911bdc6906d1221ce51ab4b2a49d84c3a2c6c73"), looks := true }, kinds := [], alts := [], laidByText := true, laidKinds := [.data, .data, .data, .data, .sentinel, .sentinel, .pinned], laidTests := true, laidLooks := .later }
def HistoryRoundTripUptoCardSaid : Prop := Claim7.holds Tryz.pinned (.plain (OpenSpec.upto historyRoundTripSpec)) historyRoundTripUptoCard

/-- THE SECOND FORM's CARD OF 'disjointlaw54.HistoryReformat'. -/
def historyReformatUptoCard : Claim7 := { stood := { row := historyReformatUptoRow, standIns := [], harness := (true, "7dc1663063c7a1d1dca3633d5911bdc6906d1221ce51ab4b2a49d84c3a2c6c73"), looks := true }, kinds := [], alts := [], laidByText := true, laidKinds := [.data, .data, .data, .data, .sentinel, .sentinel, .pinned], laidTests := true, laidLooks := .later }
def HistoryReformatUptoCardSaid : Prop := Claim7.holds Tryz.pinned (.plain (OpenSpec.upto historyReformatSpec)) historyReformatUptoCard

/-- THE SECOND FORM's CARD OF 'disjointlaw54.HistoryConcatenation'. -/
def historyConcatenationUptoCard : Claim7 := { stood := { row := historyConcatenationUptoRow, standIns := [], harness := (true, "7dc1663063c7a1d1dca3633d5911bdc6906d1221ce51ab4b2a49d84c3a2c6c73"), looks := true }, kinds := [], alts := [], laidByText := true, laidKinds := [.data, .data, .data, .data, .sentinel, .sentinel, .pinned], laidTests := true, laidLooks := .later }
def HistoryConcatenationUptoCardSaid : Prop := Claim7.holds Tryz.pinned (.plain (OpenSpec.upto historyConcatenationSpec)) historyConcatenationUptoCard

/-- THE SECOND FORM's CARD OF 'disjointlaw54.HistoryExplain'. -/
def historyExplainUptoCard : Claim7 := { stood := { row := historyExplainUptoRow, standIns := [], harness := (true, "7dc1663063c7a1d1dca3633d5911bdc6906d1221ce51ab4b2a49d84c3a2c6c73"), looks := true }, kinds := [], alts := [], laidByText := true, laidKinds := [.data, .data, .data, .data, .sentinel, .sentinel, .pinned], laidTests := true, laidLooks := .later }
def HistoryExplainUptoCardSaid : Prop := Claim7.holds Tryz.pinned (.plain (OpenSpec.upto historyExplainSpec)) historyExplainUptoCard

/-- THE SECOND FORM's CARD OF 'disjointlaw54.HistoryEqual'. -/
def historyEqualUptoCard : Claim7 := { stood := { row := historyEqualUptoRow, standIns := [], harness := (true, "7dc1663063c7a1d1dca3633d5911bdc6906d1221ce51ab4b2a49d84c3a2c6c73"), looks := true }, kinds := [], alts := [], laidByText := true, laidKinds := [.data, .data, .data, .data, .sentinel, .sentinel, .pinned], laidTests := true, laidLooks := .later }
def HistoryEqualUptoCardSaid : Prop := Claim7.holds Tryz.pinned (.plain (OpenSpec.upto historyEqualSpec)) historyEqualUptoCard

/-- THE SECOND FORM's CARD OF 'disjointlaw54.HistoryOutcomes'. -/
def historyOutcomesUptoCard : Claim7 := { stood := { row := historyOutcomesUptoRow, standIns := [], harness := (true, "7dc1663063c7a1d1dca3633d5911bdc6906d1221ce51ab4b2a49d84c3a2c6c73"), looks := true }, kinds := [], alts := [], laidByText := true, laidKinds := [.data, .data, .data, .data, .sentinel, .sentinel, .pinned], laidTests := true, laidLooks := .later }
def HistoryOutcomesUptoCardSaid : Prop := Claim7.holds Tryz.pinned (.plain (OpenSpec.upto historyOutcomesSpec)) historyOutcomesUptoCard
end Rows
end Go.Proofs.YtdjdhkbomhendaaGreatDoor
