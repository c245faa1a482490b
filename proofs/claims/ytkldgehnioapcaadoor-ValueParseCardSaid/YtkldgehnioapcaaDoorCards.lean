/-
  DERIVED. GIVEN WITH THE SEED: THE CARDS: each row of YtkldgehnioapcaaDoorRows.lean that lists a variable, with what it lists TIED to the program's text (the seventh form; the later family's looks); each row that meets fmt, with fmt's text TOLD by the authors' own Lean function (tested against real Go, not proved from fmt's source: count such statements apart). THE CARD IS WHAT COUNTS. Prove the row's statement (the work); the ties are given (YtkldgehnioapcaaDoorTie.lean); close each card by the builder's one call (the guide's Derived/Test/ToyasCard.lean, 'card_holds'). Laid BY PROGRAM, IN A SANDBOX (cutbox-door.mjs). By AI agents, Wed Nov 11 2026. No macro, syntax, notation, axiom, sorry.
-/
import Derived.Test.YtkldgehnioapcaaDoorRows
import GoSem.ClaimSeven
namespace Go.Proofs.YtkldgehnioapcaaDoor
namespace Rows

/-- THE TIED CARD OF 'disjointlaw04.ValueCompare'. -/
def valueCompareCard : Claim7 := { stood := { row := valueCompareRow, standIns := [], harness := (true, "1bc9964e3b7c02cfa6daf8e69f61814710902970ab1f027ab24459e453a90906"), looks := true }, kinds := [], alts := [], laidByText := true, laidKinds := [.data, .data, .data, .data, .pinned], laidTests := true, laidLooks := .later }
def ValueCompareCardSaid : Prop := Claim7.holds Tryd.pinned (.plain (OpenSpec.ofChange valueCompareSpec)) valueCompareCard

/-- THE TIED CARD OF 'disjointlaw04.ValueTotalOrder'. -/
def valueTotalOrderCard : Claim7 := { stood := { row := valueTotalOrderRow, standIns := [], harness := (true, "1bc9964e3b7c02cfa6daf8e69f61814710902970ab1f027ab24459e453a90906"), looks := true }, kinds := [], alts := [], laidByText := true, laidKinds := [.data, .data, .data, .data, .pinned], laidTests := true, laidLooks := .later }
def ValueTotalOrderCardSaid : Prop := Claim7.holds Tryd.pinned (.plain (OpenSpec.ofChange valueTotalOrderSpec)) valueTotalOrderCard

/-- THE TIED CARD OF 'disjointlaw04.ValueTruth'. -/
def valueTruthCard : Claim7 := { stood := { row := valueTruthRow, standIns := [], harness := (true, "1bc9964e3b7c02cfa6daf8e69f61814710902970ab1f027ab24459e453a90906"), looks := true }, kinds := [], alts := [], laidByText := true, laidKinds := [.data, .data, .data, .data, .pinned], laidTests := true, laidLooks := .later }
def ValueTruthCardSaid : Prop := Claim7.holds Tryd.pinned (.plain (OpenSpec.ofChange valueTruthSpec)) valueTruthCard

/-- THE TIED CARD OF 'disjointlaw04.ValueTrichotomy'. -/
def valueTrichotomyCard : Claim7 := { stood := { row := valueTrichotomyRow, standIns := [], harness := (true, "1bc9964e3b7c02cfa6daf8e69f61814710902970ab1f027ab24459e453a90906"), looks := true }, kinds := [], alts := [], laidByText := true, laidKinds := [.data, .data, .data, .data, .pinned], laidTests := true, laidLooks := .later }
def ValueTrichotomyCardSaid : Prop := Claim7.holds Tryd.pinned (.plain (OpenSpec.ofChange valueTrichotomySpec)) valueTrichotomyCard

/-- THE TIED CARD OF 'disjointlaw04.ValueFits'. -/
def valueFitsCard : Claim7 := { stood := { row := valueFitsRow, standIns := [], harness := (true, "1bc9964e3b7c02cfa6daf8e69f61814710902970ab1f027ab24459e453a90906"), looks := true }, kinds := [], alts := [], laidByText := true, laidKinds := [.data, .data, .data, .data, .pinned], laidTests := true, laidLooks := .later }
def ValueFitsCardSaid : Prop := Claim7.holds Tryd.pinned (.plain (OpenSpec.ofChange valueFitsSpec)) valueFitsCard

/-- THE TIED CARD OF 'disjointlaw04.ValueRows'. -/
def valueRowsCard : Claim7 := { stood := { row := valueRowsRow, standIns := [], harness := (true, "1bc9964e3b7c02cfa6daf8e69f61814710902970ab1f027ab24459e453a90906"), looks := true }, kinds := [], alts := [], laidByText := true, laidKinds := [.data, .data, .data, .data, .pinned], laidTests := true, laidLooks := .later }
def ValueRowsCardSaid : Prop := Claim7.holds Tryd.pinned (.plain (OpenSpec.ofChange valueRowsSpec)) valueRowsCard

/-- THE TIED CARD OF 'disjointlaw04.ValueFormat'. -/
def valueFormatCard : Claim7 := { stood := { row := valueFormatRow, standIns := [], harness := (true, "1bc9964e3b7c02cfa6daf8e69f61814710902970ab1f027ab24459e453a90906"), looks := true }, kinds := [], alts := [], laidByText := true, laidKinds := [.data, .data, .data, .data, .sentinel, .sentinel, .pinned], laidTests := true, laidLooks := .later }
def ValueFormatCardSaid : Prop := Claim7.holds Tryd.pinned (.plain (OpenSpec.ofChange valueFormatSpec)) valueFormatCard

/-- THE TIED CARD OF 'disjointlaw04.ValueParse'. -/
def valueParseCard : Claim7 := { stood := { row := valueParseRow, standIns := [], harness := (true, "1bc9964e3b7c02cfa6daf8e69f61814710902970ab1f027ab24459e453a90906"), looks := true }, kinds := [], alts := [], laidByText := true, laidKinds := [.data, .data, .data, .data, .sentinel, .sentinel, .pinned], laidTests := true, laidLooks := .later }
def ValueParseCardSaid : Prop := Claim7.holds Tryd.pinned (.plain (OpenSpec.ofChange valueParseSpec)) valueParseCard

/-- THE SECOND FORM's CARD OF 'disjointlaw04.ValueCompare'. -/
def valueCompareUptoCard : Claim7 := { stood := { row := valueCompareUptoRow, standIns := [], harness := (true, "1bc9964e3b7c02cfa6daf8e69f61814710902970ab1f027ab24459e453a90906"), looks := true }, kinds := [], alts := [], laidByText := true, laidKinds := [.data, .data, .data, .data, .pinned], laidTests := true, laidLooks := .later }
def ValueCompareUptoCardSaid : Prop := Claim7.holds Tryd.pinned (.plain (OpenSpec.upto valueCompareSpec)) valueCompareUptoCard

/-- THE SECOND FORM's CARD OF 'disjointlaw04.ValueTotalOrder'. -/
def valueTotalOrderUptoCard : Claim7 := { stood := { row := valueTotalOrderUptoRow, standIns := [], harness := (true, "1bc9964e3b7c02cfa6daf8e69f61814710902970ab1f027ab24459e453a90906"), looks := true }, kinds := [], alts := [], laidByText := true, laidKinds := [.data, .data, .data, .data, .pinned], laidTests := true, laidLooks := .later }
def ValueTotalOrderUptoCardSaid : Prop := Claim7.holds Tryd.pinned (.plain (OpenSpec.upto valueTotalOrderSpec)) valueTotalOrderUptoCard

/-- THE SECOND FORM's CARD OF 'disjointlaw04.ValueTruth'. -/
def valueTruthUptoCard : Claim7 := { stood := { row := valueTruthUptoRow, standIns := [], harness := (true, "1bc9964e3b7c02cfa6daf8e69f61814710902970ab1f027ab24459e453a90906"), looks := true }, kinds := [], alts := [], laidByText := true, laidKinds := [.data, .data, .data, .data, .pinned], laidTests := true, laidLooks := .later }
def ValueTruthUptoCardSaid : Prop := Claim7.holds Tryd.pinned (.plain (OpenSpec.upto valueTruthSpec)) valueTruthUptoCard

/-- THE SECOND FORM's CARD OF 'disjointlaw04.ValueTrichotomy'. -/
def valueTrichotomyUptoCard : Claim7 := { stood := { row := valueTrichotomyUptoRow, standIns := [], harness := (true, "1bc9964e3b7c02cfa6daf8e69f61814710902970ab1f027ab24459e453a90906"), looks := true }, kinds := [], alts := [], laidByText := true, laidKinds := [.data, .data, .data, .data, .pinned], laidTests := true, laidLooks := .later }
def ValueTrichotomyUptoCardSaid : Prop := Claim7.holds Tryd.pinned (.plain (OpenSpec.upto valueTrichotomySpec)) valueTrichotomyUptoCard

/-- THE SECOND FORM's CARD OF 'disjointlaw04.ValueFits'. -/
def valueFitsUptoCard : Claim7 := { stood := { row := valueFitsUptoRow, standIns := [], harness := (true, "1bc9964e3b7c02cfa6daf8e69f61814710902970ab1f027ab24459e453a90906"), looks := true }, kinds := [], alts := [], laidByText := true, laidKinds := [.data, .data, .data, .data, .pinned], laidTests := true, laidLooks := .later }
def ValueFitsUptoCardSaid : Prop := Claim7.holds Tryd.pinned (.plain (OpenSpec.upto valueFitsSpec)) valueFitsUptoCard

/-- THE SECOND FORM's CARD OF 'disjointlaw04.ValueRows'. -/
def valueRowsUptoCard : Claim7 := { stood := { row := valueRowsUptoRow, standIns := [], harness := (true, "1bc9964e3b7c02cfa6daf8e69f61814710902970ab1f027ab24459e453a90906"), looks := true }, kinds := [], alts := [], laidByText := true, laidKinds := [.data, .data, .data, .data, .pinned], laidTests := true, laidLooks := .later }
def ValueRowsUptoCardSaid : Prop := Claim7.holds Tryd.pinned (.plain (OpenSpec.upto valueRowsSpec)) valueRowsUptoCard

/-- THE SECOND FORM's CARD OF 'disjointlaw04.ValueFormat'. -/
def valueFormatUptoCard : Claim7 := { stood := { row := valueFormatUptoRow, standIns := [], harness := (true, "1bc9964e3b7c02cfa6daf8e69f61814710902970ab1f027ab24459e453a90906"), looks := true }, kinds := [], alts := [], laidByText := true, laidKinds := [.data, .data, .data, .data, .sentinel, .sentinel, .pinned], laidTests := true, laidLooks := .later }
def ValueFormatUptoCardSaid : Prop := Claim7.holds Tryd.pinned (.plain (OpenSpec.upto valueFormatSpec)) valueFormatUptoCard

/-- THE SECOND FORM's CARD OF 'disjointlaw04.ValueParse'. -/
def valueParseUptoCard : Claim7 := { stood := { row := valueParseUptoRow, standIns := [], harness := (true, "1bc9964e3b7c02cfa6daf8e69f61814710902970ab1f027ab24459e453a90906"), looks := true }, kinds := [], alts := [], laidByText := true, laidKinds := [.data, .data, .data, .data, .sentinel, .sentinel, .pinned], laidTests := true, laidLooks := .later }
def ValueParseUptoCardSaid : Prop := Claim7.holds Tryd.pinned (.plain (OpenSpec.upto valueParseSpec)) valueParseUptoCard
end Rows
end Go.Proofs.YtkldgehnioapcaaDoor
