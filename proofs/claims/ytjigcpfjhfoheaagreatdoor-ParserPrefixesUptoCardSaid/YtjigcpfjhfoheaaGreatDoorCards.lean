/-
  DERIVED. GIVEN WITH THE SEED: THE CARDS: each row of YtjigcpfjhfoheaaGreatDoorRows.lean that lists a variable, with what it lists TIED to the program's text (the seventh form; the later family's looks); each row that meets fmt, with fmt's text TOLD by the authors' own Lean function (tested against real Go, not proved from fmt's source: count such statements apart). THE CARD IS WHAT COUNTS. Prove the row's statement (the work); the ties are given (YtjigcpfjhfoheaaGreatDoorTie.lean); close each card by the builder's one call (the guide's Derived/Test/ToyasCard.lean, 'card_holds'). Laid BY PROGRAM, IN A SANDBOX (cutbox-door.mjs). By AI agents, Wed Nov 11 2026. No macro, syntax, notation, axiom, sorry.
-/
import Derived.Test.YtjigcpfjhfoheaaGreatDoorRows
import GoSem.ClaimSeven
namespace Go.Proofs.YtjigcpfjhfoheaaGreatDoor
namespace Rows

/-- THE TIED CARD OF 'disjointlaw11.ParserStatement'. -/
def parserStatementCard : Claim7 := { stood := { row := parserStatementRow, standIns := [], harness := (true, "151d9c0d593c8187e11eef3e02023517bca0f0d87023ab944c6d69a4cab7d8c4"), looks := true }, kinds := [], alts := [], laidByText := true, laidKinds := [.data, .data, .data, .data, .sentinel, .sentinel, .widerDeep, .pinned], laidTests := true, laidLooks := .later }
def ParserStatementCardSaid : Prop := Claim7.holds Tryz.pinned (.plain (OpenSpec.ofChange parserStatementSpec)) parserStatementCard

/-- THE TIED CARD OF 'disjointlaw11.ParserExpression'. -/
def parserExpressionCard : Claim7 := { stood := { row := parserExpressionRow, standIns := [], harness := (true, "151d9c0d593c8187e11eef3e02023517bca0f0d87023ab944c6d69a4cab7d8c4"), looks := true }, kinds := [], alts := [], laidByText := true, laidKinds := [.data, .data, .data, .data, .sentinel, .sentinel, .widerDeep, .pinned], laidTests := true, laidLooks := .later }
def ParserExpressionCardSaid : Prop := Claim7.holds Tryz.pinned (.plain (OpenSpec.ofChange parserExpressionSpec)) parserExpressionCard

/-- THE TIED CARD OF 'disjointlaw11.ParserScript'. -/
def parserScriptCard : Claim7 := { stood := { row := parserScriptRow, standIns := [], harness := (true, "151d9c0d593c8187e11eef3e02023517bca0f0d87023ab944c6d69a4cab7d8c4"), looks := true }, kinds := [], alts := [], laidByText := true, laidKinds := [.data, .data, .data, .data, .sentinel, .sentinel, .widerDeep, .pinned], laidTests := true, laidLooks := .later }
def ParserScriptCardSaid : Prop := Claim7.holds Tryz.pinned (.plain (OpenSpec.ofChange parserScriptSpec)) parserScriptCard

/-- THE TIED CARD OF 'disjointlaw11.ParserRoundTrip'. -/
def parserRoundTripCard : Claim7 := { stood := { row := parserRoundTripRow, standIns := [], harness := (true, "151d9c0d593c8187e11eef3e02023517bca0f0d87023ab944c6d69a4cab7d8c4"), looks := true }, kinds := [], alts := [], laidByText := true, laidKinds := [.data, .data, .data, .data, .sentinel, .sentinel, .widerDeep, .pinned], laidTests := true, laidLooks := .later }
def ParserRoundTripCardSaid : Prop := Claim7.holds Tryz.pinned (.plain (OpenSpec.ofChange parserRoundTripSpec)) parserRoundTripCard

/-- THE TIED CARD OF 'disjointlaw11.ParserRoundTripExpression'. -/
def parserRoundTripExpressionCard : Claim7 := { stood := { row := parserRoundTripExpressionRow, standIns := [], harness := (true, "151d9c0d593c8187e11eef3e02023517bca0f0d87023ab944c6d69a4cab7d8c4"), looks := true }, kinds := [], alts := [], laidByText := true, laidKinds := [.data, .data, .data, .data, .sentinel, .sentinel, .widerDeep, .pinned], laidTests := true, laidLooks := .later }
def ParserRoundTripExpressionCardSaid : Prop := Claim7.holds Tryz.pinned (.plain (OpenSpec.ofChange parserRoundTripExpressionSpec)) parserRoundTripExpressionCard

/-- THE TIED CARD OF 'disjointlaw11.ParserPrefixes'. -/
def parserPrefixesCard : Claim7 := { stood := { row := parserPrefixesRow, standIns := [], harness := (true, "151d9c0d593c8187e11eef3e02023517bca0f0d87023ab944c6d69a4cab7d8c4"), looks := true }, kinds := [], alts := [], laidByText := true, laidKinds := [.data, .data, .data, .data, .sentinel, .sentinel, .widerDeep, .pinned], laidTests := true, laidLooks := .later }
def ParserPrefixesCardSaid : Prop := Claim7.holds Tryz.pinned (.plain (OpenSpec.ofChange parserPrefixesSpec)) parserPrefixesCard

/-- THE TIED CARD OF 'disjointlaw11.ParserSpace'. -/
def parserSpaceCard : Claim7 := { stood := { row := parserSpaceRow, standIns := [], harness := (true, "151d9c0d593c8187e11eef3e02023517bca0f0d87023ab944c6d69a4cab7d8c4"), looks := true }, kinds := [], alts := [], laidByText := true, laidKinds := [.data, .data, .data, .data, .sentinel, .sentinel, .widerDeep, .pinned], laidTests := true, laidLooks := .later }
def ParserSpaceCardSaid : Prop := Claim7.holds Tryz.pinned (.plain (OpenSpec.ofChange parserSpaceSpec)) parserSpaceCard

/-- THE TIED CARD OF 'disjointlaw11.ParserScriptJoins'. -/
def parserScriptJoinsCard : Claim7 := { stood := { row := parserScriptJoinsRow, standIns := [], harness := (true, "151d9c0d593c8187e11eef3e02023517bca0f0d87023ab944c6d69a4cab7d8c4"), looks := true }, kinds := [], alts := [], laidByText := true, laidKinds := [.data, .data, .data, .data, .sentinel, .sentinel, .widerDeep, .pinned], laidTests := true, laidLooks := .later }
def ParserScriptJoinsCardSaid : Prop := Claim7.holds Tryz.pinned (.plain (OpenSpec.ofChange parserScriptJoinsSpec)) parserScriptJoinsCard

/-- THE SECOND FORM's CARD OF 'disjointlaw11.ParserStatement'. -/
def parserStatementUptoCard : Claim7 := { stood := { row := parserStatementUptoRow, standIns := [], harness := (true, "151d9c0d593c8187e11eef3e02023517bca0f0d87023ab944c6d69a4cab7d8c4"), looks := true }, kinds := [], alts := [], laidByText := true, laidKinds := [.data, .data, .data, .data, .sentinel, .sentinel, .widerDeep, .pinned], laidTests := true, laidLooks := .later }
def ParserStatementUptoCardSaid : Prop := Claim7.holds Tryz.pinned (.plain (OpenSpec.upto parserStatementSpec)) parserStatementUptoCard

/-- THE SECOND FORM's CARD OF 'disjointlaw11.ParserExpression'. -/
def parserExpressionUptoCard : Claim7 := { stood := { row := parserExpressionUptoRow, standIns := [], harness := (true, "151d9c0d593c8187e11eef3e02023517bca0f0d87023ab944c6d69a4cab7d8c4"), looks := true }, kinds := [], alts := [], laidByText := true, laidKinds := [.data, .data, .data, .data, .sentinel, .sentinel, .widerDeep, .pinned], laidTests := true, laidLooks := .later }
def ParserExpressionUptoCardSaid : Prop := Claim7.holds Tryz.pinned (.plain (OpenSpec.upto parserExpressionSpec)) parserExpressionUptoCard

/-- THE SECOND FORM's CARD OF 'disjointlaw11.ParserScript'. -/
def parserScriptUptoCard : Claim7 := { stood := { row := parserScriptUptoRow, standIns := [], harness := (true, "151d9c0d593c8187e11eef3e02023517bca0f0d87023ab944c6d69a4cab7d8c4"), looks := true }, kinds := [], alts := [], laidByText := true, laidKinds := [.data, .data, .data, .data, .sentinel, .sentinel, .widerDeep, .pinned], laidTests := true, laidLooks := .later }
def ParserScriptUptoCardSaid : Prop := Claim7.holds Tryz.pinned (.plain (OpenSpec.upto parserScriptSpec)) parserScriptUptoCard

/-- THE SECOND FORM's CARD OF 'disjointlaw11.ParserRoundTrip'. -/
def parserRoundTripUptoCard : Claim7 := { stood := { row := parserRoundTripUptoRow, standIns := [], harness := (true, "151d9c0d593c8187e11eef3e02023517bca0f0d87023ab944c6d69a4cab7d8c4"), looks := true }, kinds := [], alts := [], laidByText := true, laidKinds := [.data, .data, .data, .data, .sentinel, .sentinel, .widerDeep, .pinned], laidTests := true, laidLooks := .later }
def ParserRoundTripUptoCardSaid : Prop := Claim7.holds Tryz.pinned (.plain (OpenSpec.upto parserRoundTripSpec)) parserRoundTripUptoCard

/-- THE SECOND FORM's CARD OF 'disjointlaw11.ParserRoundTripExpression'. -/
def parserRoundTripExpressionUptoCard : Claim7 := { stood := { row := parserRoundTripExpressionUptoRow, standIns := [], harness := (true, "151d9c0d593c8187e11eef3e02023517bca0f0d87023ab944c6d69a4cab7d8c4"), looks := true }, kinds := [], alts := [], laidByText := true, laidKinds := [.data, .data, .data, .data, .sentinel, .sentinel, .widerDeep, .pinned], laidTests := true, laidLooks := .later }
def ParserRoundTripExpressionUptoCardSaid : Prop := Claim7.holds Tryz.pinned (.plain (OpenSpec.upto parserRoundTripExpressionSpec)) parserRoundTripExpressionUptoCard

/-- THE SECOND FORM's CARD OF 'disjointlaw11.ParserPrefixes'. -/
def parserPrefixesUptoCard : Claim7 := { stood := { row := parserPrefixesUptoRow, standIns := [], harness := (true, "151d9c0d593c8187e11eef3e02023517bca0f0d87023ab944c6d69a4cab7d8c4"), looks := true }, kinds := [], alts := [], laidByText := true, laidKinds := [.data, .data, .data, .data, .sentinel, .sentinel, .widerDeep, .pinned], laidTests := true, laidLooks := .later }
def ParserPrefixesUptoCardSaid : Prop := Claim7.holds Tryz.pinned (.plain (OpenSpec.upto parserPrefixesSpec)) parserPrefixesUptoCard

/-- THE SECOND FORM's CARD OF 'disjointlaw11.ParserSpace'. -/
def parserSpaceUptoCard : Claim7 := { stood := { row := parserSpaceUptoRow, standIns := [], harness := (true, "151d9c0d593c8187e11eef3e02023517bca0f0d87023ab944c6d69a4cab7d8c4"), looks := true }, kinds := [], alts := [], laidByText := true, laidKinds := [.data, .data, .data, .data, .sentinel, .sentinel, .widerDeep, .pinned], laidTests := true, laidLooks := .later }
def ParserSpaceUptoCardSaid : Prop := Claim7.holds Tryz.pinned (.plain (OpenSpec.upto parserSpaceSpec)) parserSpaceUptoCard

/-- THE SECOND FORM's CARD OF 'disjointlaw11.ParserScriptJoins'. -/
def parserScriptJoinsUptoCard : Claim7 := { stood := { row := parserScriptJoinsUptoRow, standIns := [], harness := (true, "151d9c0d593c8187e11eef3e02023517bca0f0d87023ab944c6d69a4cab7d8c4"), looks := true }, kinds := [], alts := [], laidByText := true, laidKinds := [.data, .data, .data, .data, .sentinel, .sentinel, .widerDeep, .pinned], laidTests := true, laidLooks := .later }
def ParserScriptJoinsUptoCardSaid : Prop := Claim7.holds Tryz.pinned (.plain (OpenSpec.upto parserScriptJoinsSpec)) parserScriptJoinsUptoCard
end Rows
end Go.Proofs.YtjigcpfjhfoheaaGreatDoor
