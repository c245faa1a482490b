/-
  DERIVED. GIVEN WITH THE SEED: THE CARDS: each row of YtcdnodjcnofogaaGreatDoorRows.lean that lists a variable, with what it lists TIED to the program's text (the seventh form; the later family's looks); each row that meets fmt, with fmt's text TOLD by the authors' own Lean function (tested against real Go, not proved from fmt's source: count such statements apart). THE CARD IS WHAT COUNTS. Prove the row's statement (the work); the ties are given (YtcdnodjcnofogaaGreatDoorTie.lean); close each card by the builder's one call (the guide's Derived/Test/ToyasCard.lean, 'card_holds'). Laid BY PROGRAM, IN A SANDBOX (cutbox-door.mjs). By AI agents, Wed Nov 11 2026. No macro, syntax, notation, axiom, sorry.
-/
import Derived.Test.YtcdnodjcnofogaaGreatDoorRows
import GoSem.ClaimSeven
namespace Go.Proofs.YtcdnodjcnofogaaGreatDoor
namespace Rows

/-- THE TIED CARD OF 'disjointlaw10.AstValid'. -/
def astValidCard : Claim7 := { stood := { row := astValidRow, standIns := [], harness := (true, "477979a8b8b4e8da77e69b24766a370a2b99875177ed342b610f58c73983351a"), looks := false }, kinds := [], alts := [], laidByText := true, laidKinds := [.data, .data, .data, .data, .pinned], laidTests := true, laidLooks := .later }
def AstValidCardSaid : Prop := Claim7.holds Tryz.pinned (.plain (OpenSpec.ofChange astValidSpec)) astValidCard

/-- THE TIED CARD OF 'disjointlaw10.AstValidExpr'. -/
def astValidExprCard : Claim7 := { stood := { row := astValidExprRow, standIns := [], harness := (true, "477979a8b8b4e8da77e69b24766a370a2b99875177ed342b610f58c73983351a"), looks := false }, kinds := [], alts := [], laidByText := true, laidKinds := [.data, .data, .data, .data, .pinned], laidTests := true, laidLooks := .later }
def AstValidExprCardSaid : Prop := Claim7.holds Tryz.pinned (.plain (OpenSpec.ofChange astValidExprSpec)) astValidExprCard

/-- THE TIED CARD OF 'disjointlaw10.AstFormat'. -/
def astFormatCard : Claim7 := { stood := { row := astFormatRow, standIns := [], harness := (true, "477979a8b8b4e8da77e69b24766a370a2b99875177ed342b610f58c73983351a"), looks := false }, kinds := [], alts := [], laidByText := true, laidKinds := [.data, .data, .data, .data, .pinned], laidTests := true, laidLooks := .later }
def AstFormatCardSaid : Prop := Claim7.holds Tryz.pinned (.plain (OpenSpec.ofChange astFormatSpec)) astFormatCard

/-- THE TIED CARD OF 'disjointlaw10.AstFormatExpr'. -/
def astFormatExprCard : Claim7 := { stood := { row := astFormatExprRow, standIns := [], harness := (true, "477979a8b8b4e8da77e69b24766a370a2b99875177ed342b610f58c73983351a"), looks := false }, kinds := [], alts := [], laidByText := true, laidKinds := [.data, .data, .data, .data, .pinned], laidTests := true, laidLooks := .later }
def AstFormatExprCardSaid : Prop := Claim7.holds Tryz.pinned (.plain (OpenSpec.ofChange astFormatExprSpec)) astFormatExprCard

/-- THE TIED CARD OF 'disjointlaw10.AstEqualExpr'. -/
def astEqualExprCard : Claim7 := { stood := { row := astEqualExprRow, standIns := [], harness := (true, "477979a8b8b4e8da77e69b24766a370a2b99875177ed342b610f58c73983351a"), looks := false }, kinds := [], alts := [], laidByText := true, laidKinds := [.data, .data, .data, .data, .pinned], laidTests := true, laidLooks := .later }
def AstEqualExprCardSaid : Prop := Claim7.holds Tryz.pinned (.plain (OpenSpec.ofChange astEqualExprSpec)) astEqualExprCard

/-- THE TIED CARD OF 'disjointlaw10.AstInjective'. -/
def astInjectiveCard : Claim7 := { stood := { row := astInjectiveRow, standIns := [], harness := (true, "477979a8b8b4e8da77e69b24766a370a2b99875177ed342b610f58c73983351a"), looks := false }, kinds := [], alts := [], laidByText := true, laidKinds := [.data, .data, .data, .data, .pinned], laidTests := true, laidLooks := .later }
def AstInjectiveCardSaid : Prop := Claim7.holds Tryz.pinned (.plain (OpenSpec.ofChange astInjectiveSpec)) astInjectiveCard

/-- THE TIED CARD OF 'disjointlaw10.AstIndex'. -/
def astIndexCard : Claim7 := { stood := { row := astIndexRow, standIns := [], harness := (true, "477979a8b8b4e8da77e69b24766a370a2b99875177ed342b610f58c73983351a"), looks := false }, kinds := [], alts := [], laidByText := true, laidKinds := [.data, .data, .data, .data, .pinned], laidTests := true, laidLooks := .later }
def AstIndexCardSaid : Prop := Claim7.holds Tryz.pinned (.plain (OpenSpec.ofChange astIndexSpec)) astIndexCard

/-- THE TIED CARD OF 'disjointlaw10.AstMeasures'. -/
def astMeasuresCard : Claim7 := { stood := { row := astMeasuresRow, standIns := [], harness := (true, "477979a8b8b4e8da77e69b24766a370a2b99875177ed342b610f58c73983351a"), looks := false }, kinds := [], alts := [], laidByText := true, laidKinds := [.data, .data, .data, .data, .pinned], laidTests := true, laidLooks := .later }
def AstMeasuresCardSaid : Prop := Claim7.holds Tryz.pinned (.plain (OpenSpec.ofChange astMeasuresSpec)) astMeasuresCard

/-- THE TIED CARD OF 'disjointlaw10.AstEqual'. -/
def astEqualCard : Claim7 := { stood := { row := astEqualRow, standIns := [], harness := (true, "477979a8b8b4e8da77e69b24766a370a2b99875177ed342b610f58c73983351a"), looks := false }, kinds := [], alts := [], laidByText := true, laidKinds := [.data, .data, .data, .data, .pinned], laidTests := true, laidLooks := .later }
def AstEqualCardSaid : Prop := Claim7.holds Tryz.pinned (.plain (OpenSpec.ofChange astEqualSpec)) astEqualCard

/-- THE SECOND FORM's CARD OF 'disjointlaw10.AstValid'. -/
def astValidUptoCard : Claim7 := { stood := { row := astValidUptoRow, standIns := [], harness := (true, "477979a8b8b4e8da77e69b24766a370a2b99875177ed342b610f58c73983351a"), looks := false }, kinds := [], alts := [], laidByText := true, laidKinds := [.data, .data, .data, .data, .pinned], laidTests := true, laidLooks := .later }
def AstValidUptoCardSaid : Prop := Claim7.holds Tryz.pinned (.plain (OpenSpec.upto astValidSpec)) astValidUptoCard

/-- THE SECOND FORM's CARD OF 'disjointlaw10.AstValidExpr'. -/
def astValidExprUptoCard : Claim7 := { stood := { row := astValidExprUptoRow, standIns := [], harness := (true, "477979a8b8b4e8da77e69b24766a370a2b99875177ed342b610f58c73983351a"), looks := false }, kinds := [], alts := [], laidByText := true, laidKinds := [.data, .data, .data, .data, .pinned], laidTests := true, laidLooks := .later }
def AstValidExprUptoCardSaid : Prop := Claim7.holds Tryz.pinned (.plain (OpenSpec.upto astValidExprSpec)) astValidExprUptoCard

/-- THE SECOND FORM's CARD OF 'disjointlaw10.AstFormat'. -/
def astFormatUptoCard : Claim7 := { stood := { row := astFormatUptoRow, standIns := [], harness := (true, "477979a8b8b4e8da77e69b24766a370a2b99875177ed342b610f58c73983351a"), looks := false }, kinds := [], alts := [], laidByText := true, laidKinds := [.data, .data, .data, .data, .pinned], laidTests := true, laidLooks := .later }
def AstFormatUptoCardSaid : Prop := Claim7.holds Tryz.pinned (.plain (OpenSpec.upto astFormatSpec)) astFormatUptoCard

/-- THE SECOND FORM's CARD OF 'disjointlaw10.AstFormatExpr'. -/
def astFormatExprUptoCard : Claim7 := { stood := { row := astFormatExprUptoRow, standIns := [], harness := (true, "477979a8b8b4e8da77e69b24766a370a2b99875177ed342b610f58c73983351a"), looks := false }, kinds := [], alts := [], laidByText := true, laidKinds := [.data, .data, .data, .data, .pinned], laidTests := true, laidLooks := .later }
def AstFormatExprUptoCardSaid : Prop := Claim7.holds Tryz.pinned (.plain (OpenSpec.upto astFormatExprSpec)) astFormatExprUptoCard

/-- THE SECOND FORM's CARD OF 'disjointlaw10.AstEqualExpr'. -/
def astEqualExprUptoCard : Claim7 := { stood := { row := astEqualExprUptoRow, standIns := [], harness := (true, "477979a8b8b4e8da77e69b24766a370a2b99875177ed342b610f58c73983351a"), looks := false }, kinds := [], alts := [], laidByText := true, laidKinds := [.data, .data, .data, .data, .pinned], laidTests := true, laidLooks := .later }
def AstEqualExprUptoCardSaid : Prop := Claim7.holds Tryz.pinned (.plain (OpenSpec.upto astEqualExprSpec)) astEqualExprUptoCard

/-- THE SECOND FORM's CARD OF 'disjointlaw10.AstInjective'. -/
def astInjectiveUptoCard : Claim7 := { stood := { row := astInjectiveUptoRow, standIns := [], harness := (true, "477979a8b8b4e8da77e69b24766a370a2b99875177ed342b610f58c73983351a"), looks := false }, kinds := [], alts := [], laidByText := true, laidKinds := [.data, .data, .data, .data, .pinned], laidTests := true, laidLooks := .later }
def AstInjectiveUptoCardSaid : Prop := Claim7.holds Tryz.pinned (.plain (OpenSpec.upto astInjectiveSpec)) astInjectiveUptoCard

/-- THE SECOND FORM's CARD OF 'disjointlaw10.AstIndex'. -/
def astIndexUptoCard : Claim7 := { stood := { row := astIndexUptoRow, standIns := [], harness := (true, "477979a8b8b4e8da77e69b24766a370a2b99875177ed342b610f58c73983351a"), looks := false }, kinds := [], alts := [], laidByText := true, laidKinds := [.data, .data, .data, .data, .pinned], laidTests := true, laidLooks := .later }
def AstIndexUptoCardSaid : Prop := Claim7.holds Tryz.pinned (.plain (OpenSpec.upto astIndexSpec)) astIndexUptoCard

/-- THE SECOND FORM's CARD OF 'disjointlaw10.AstMeasures'. -/
def astMeasuresUptoCard : Claim7 := { stood := { row := astMeasuresUptoRow, standIns := [], harness := (true, "477979a8b8b4e8da77e69b24766a370a2b99875177ed342b610f58c73983351a"), looks := false }, kinds := [], alts := [], laidByText := true, laidKinds := [.data, .data, .data, .data, .pinned], laidTests := true, laidLooks := .later }
def AstMeasuresUptoCardSaid : Prop := Claim7.holds Tryz.pinned (.plain (OpenSpec.upto astMeasuresSpec)) astMeasuresUptoCard

/-- THE SECOND FORM's CARD OF 'disjointlaw10.AstEqual'. -/
def astEqualUptoCard : Claim7 := { stood := { row := astEqualUptoRow, standIns := [], harness := (true, "477979a8b8b4e8da77e69b24766a370a2b99875177ed342b610f58c73983351a"), looks := false }, kinds := [], alts := [], laidByText := true, laidKinds := [.data, .data, .data, .data, .pinned], laidTests := true, laidLooks := .later }
def AstEqualUptoCardSaid : Prop := Claim7.holds Tryz.pinned (.plain (OpenSpec.upto astEqualSpec)) astEqualUptoCard
end Rows
end Go.Proofs.YtcdnodjcnofogaaGreatDoor
