/-
  DERIVED. GIVEN WITH THE SEED: THE CARDS: each row of YtcdinoepjimkmaaDoorRows.lean that lists a variable, with what it lists TIED to the program's text (the seventh form; the later family's looks); each row that meets fmt, with fmt's text TOLD by the authors' own Lean function (tested against real Go, not proved from fmt's source: count such statements apart). THE CARD IS WHAT COUNTS. Prove the row's statement (the work); the ties are given (YtcdinoepjimkmaaDoorTie.lean); close each card by the builder's one call (the guide's Derived/Test/ToyasCard.lean, 'card_holds'). Laid BY PROGRAM, IN A SANDBOX (cutbox-door.mjs). By AI agents, Wed Nov 11 2026. No macro, syntax, notation, axiom, sorry.
-/
import Derived.Test.YtcdinoepjimkmaaDoorRows
import GoSem.ClaimSeven
namespace Go.Proofs.YtcdinoepjimkmaaDoor
namespace Rows

/-- THE TIED CARD OF 'disjointlaw53.ScheduleRoundRobin'. -/
def scheduleRoundRobinCard : Claim7 := { stood := { row := scheduleRoundRobinRow, standIns := [], harness := (true, "a94826016f90d3daf2879d064932b274a2ab5258f73822ec43fad09af721f5e4"), looks := true }, kinds := [], alts := [], laidByText := true, laidKinds := [.data, .data, .data], laidTests := true, laidLooks := .later }
def ScheduleRoundRobinCardSaid : Prop := Claim7.holds Tryd.pinned (.plain (OpenSpec.ofChange scheduleRoundRobinSpec)) scheduleRoundRobinCard

/-- THE TIED CARD OF 'disjointlaw53.ScheduleFair'. -/
def scheduleFairCard : Claim7 := { stood := { row := scheduleFairRow, standIns := [], harness := (true, "a94826016f90d3daf2879d064932b274a2ab5258f73822ec43fad09af721f5e4"), looks := true }, kinds := [], alts := [], laidByText := true, laidKinds := [.data, .data, .data], laidTests := true, laidLooks := .later }
def ScheduleFairCardSaid : Prop := Claim7.holds Tryd.pinned (.plain (OpenSpec.ofChange scheduleFairSpec)) scheduleFairCard

/-- THE TIED CARD OF 'disjointlaw53.ScheduleValid'. -/
def scheduleValidCard : Claim7 := { stood := { row := scheduleValidRow, standIns := [], harness := (true, "a94826016f90d3daf2879d064932b274a2ab5258f73822ec43fad09af721f5e4"), looks := true }, kinds := [], alts := [], laidByText := true, laidKinds := [.data, .data, .data], laidTests := true, laidLooks := .later }
def ScheduleValidCardSaid : Prop := Claim7.holds Tryd.pinned (.plain (OpenSpec.ofChange scheduleValidSpec)) scheduleValidCard

/-- THE TIED CARD OF 'disjointlaw53.ScheduleRandom'. -/
def scheduleRandomCard : Claim7 := { stood := { row := scheduleRandomRow, standIns := [], harness := (true, "a94826016f90d3daf2879d064932b274a2ab5258f73822ec43fad09af721f5e4"), looks := true }, kinds := [], alts := [], laidByText := true, laidKinds := [.data, .data, .data], laidTests := true, laidLooks := .later }
def ScheduleRandomCardSaid : Prop := Claim7.holds Tryd.pinned (.plain (OpenSpec.ofChange scheduleRandomSpec)) scheduleRandomCard

/-- THE TIED CARD OF 'disjointlaw53.ScheduleSeeds'. -/
def scheduleSeedsCard : Claim7 := { stood := { row := scheduleSeedsRow, standIns := [], harness := (true, "a94826016f90d3daf2879d064932b274a2ab5258f73822ec43fad09af721f5e4"), looks := true }, kinds := [], alts := [], laidByText := true, laidKinds := [.data, .data, .data], laidTests := true, laidLooks := .later }
def ScheduleSeedsCardSaid : Prop := Claim7.holds Tryd.pinned (.plain (OpenSpec.ofChange scheduleSeedsSpec)) scheduleSeedsCard

/-- THE TIED CARD OF 'disjointlaw53.ScheduleFormat'. -/
def scheduleFormatCard : Claim7 := { stood := { row := scheduleFormatRow, standIns := [], harness := (true, "a94826016f90d3daf2879d064932b274a2ab5258f73822ec43fad09af721f5e4"), looks := true }, kinds := [], alts := [], laidByText := true, laidKinds := [.data, .data, .data, .data, .sentinel, .sentinel, .pinned], laidTests := true, laidLooks := .later }
def ScheduleFormatCardSaid : Prop := Claim7.holds Tryd.pinned (.plain (OpenSpec.ofChange scheduleFormatSpec)) scheduleFormatCard

/-- THE TIED CARD OF 'disjointlaw53.ScheduleParse'. -/
def scheduleParseCard : Claim7 := { stood := { row := scheduleParseRow, standIns := [], harness := (true, "a94826016f90d3daf2879d064932b274a2ab5258f73822ec43fad09af721f5e4"), looks := true }, kinds := [], alts := [], laidByText := true, laidKinds := [.data, .data, .data, .data, .sentinel, .sentinel, .pinned], laidTests := true, laidLooks := .later }
def ScheduleParseCardSaid : Prop := Claim7.holds Tryd.pinned (.plain (OpenSpec.ofChange scheduleParseSpec)) scheduleParseCard

/-- THE SECOND FORM's CARD OF 'disjointlaw53.ScheduleRoundRobin'. -/
def scheduleRoundRobinUptoCard : Claim7 := { stood := { row := scheduleRoundRobinUptoRow, standIns := [], harness := (true, "a94826016f90d3daf2879d064932b274a2ab5258f73822ec43fad09af721f5e4"), looks := true }, kinds := [], alts := [], laidByText := true, laidKinds := [.data, .data, .data], laidTests := true, laidLooks := .later }
def ScheduleRoundRobinUptoCardSaid : Prop := Claim7.holds Tryd.pinned (.plain (OpenSpec.upto scheduleRoundRobinSpec)) scheduleRoundRobinUptoCard

/-- THE SECOND FORM's CARD OF 'disjointlaw53.ScheduleFair'. -/
def scheduleFairUptoCard : Claim7 := { stood := { row := scheduleFairUptoRow, standIns := [], harness := (true, "a94826016f90d3daf2879d064932b274a2ab5258f73822ec43fad09af721f5e4"), looks := true }, kinds := [], alts := [], laidByText := true, laidKinds := [.data, .data, .data], laidTests := true, laidLooks := .later }
def ScheduleFairUptoCardSaid : Prop := Claim7.holds Tryd.pinned (.plain (OpenSpec.upto scheduleFairSpec)) scheduleFairUptoCard

/-- THE SECOND FORM's CARD OF 'disjointlaw53.ScheduleValid'. -/
def scheduleValidUptoCard : Claim7 := { stood := { row := scheduleValidUptoRow, standIns := [], harness := (true, "a94826016f90d3daf2879d064932b274a2ab5258f73822ec43fad09af721f5e4"), looks := true }, kinds := [], alts := [], laidByText := true, laidKinds := [.data, .data, .data], laidTests := true, laidLooks := .later }
def ScheduleValidUptoCardSaid : Prop := Claim7.holds Tryd.pinned (.plain (OpenSpec.upto scheduleValidSpec)) scheduleValidUptoCard

/-- THE SECOND FORM's CARD OF 'disjointlaw53.ScheduleRandom'. -/
def scheduleRandomUptoCard : Claim7 := { stood := { row := scheduleRandomUptoRow, standIns := [], harness := (true, "a94826016f90d3daf2879d064932b274a2ab5258f73822ec43fad09af721f5e4"), looks := true }, kinds := [], alts := [], laidByText := true, laidKinds := [.data, .data, .data], laidTests := true, laidLooks := .later }
def ScheduleRandomUptoCardSaid : Prop := Claim7.holds Tryd.pinned (.plain (OpenSpec.upto scheduleRandomSpec)) scheduleRandomUptoCard

/-- THE SECOND FORM's CARD OF 'disjointlaw53.ScheduleSeeds'. -/
def scheduleSeedsUptoCard : Claim7 := { stood := { row := scheduleSeedsUptoRow, standIns := [], harness := (true, "a94826016f90d3daf2879d064932b274a2ab5258f73822ec43fad09af721f5e4"), looks := true }, kinds := [], alts := [], laidByText := true, laidKinds := [.data, .data, .data], laidTests := true, laidLooks := .later }
def ScheduleSeedsUptoCardSaid : Prop := Claim7.holds Tryd.pinned (.plain (OpenSpec.upto scheduleSeedsSpec)) scheduleSeedsUptoCard

/-- THE SECOND FORM's CARD OF 'disjointlaw53.ScheduleFormat'. -/
def scheduleFormatUptoCard : Claim7 := { stood := { row := scheduleFormatUptoRow, standIns := [], harness := (true, "a94826016f90d3daf2879d064932b274a2ab5258f73822ec43fad09af721f5e4"), looks := true }, kinds := [], alts := [], laidByText := true, laidKinds := [.data, .data, .data, .data, .sentinel, .sentinel, .pinned], laidTests := true, laidLooks := .later }
def ScheduleFormatUptoCardSaid : Prop := Claim7.holds Tryd.pinned (.plain (OpenSpec.upto scheduleFormatSpec)) scheduleFormatUptoCard

/-- THE SECOND FORM's CARD OF 'disjointlaw53.ScheduleParse'. -/
def scheduleParseUptoCard : Claim7 := { stood := { row := scheduleParseUptoRow, standIns := [], harness := (true, "a94826016f90d3daf2879d064932b274a2ab5258f73822ec43fad09af721f5e4"), looks := true }, kinds := [], alts := [], laidByText := true, laidKinds := [.data, .data, .data, .data, .sentinel, .sentinel, .pinned], laidTests := true, laidLooks := .later }
def ScheduleParseUptoCardSaid : Prop := Claim7.holds Tryd.pinned (.plain (OpenSpec.upto scheduleParseSpec)) scheduleParseUptoCard
end Rows
end Go.Proofs.YtcdinoepjimkmaaDoor
