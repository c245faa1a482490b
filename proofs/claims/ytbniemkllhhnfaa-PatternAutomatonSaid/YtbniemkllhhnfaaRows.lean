/-
  No cell of these rows narrows 'for every input' (looked for: loops, veiled, ifaces, maps, wideKeys, modest, calm, conditions, laid).
  DERIVED. THE GIVEN ROWS OF THIS SEAT. 8 by the template 'for every input the law returns true; each argument reads behind the call as it read before'; 0 by the template 'total and deterministic' (their statements: YtbniemkllhhnfaaTotals.lean).
  GIVEN WITH THE SEED: the statements are not yours to turn. If you find one false, say at which input.
  Laid BY PROGRAM, IN A SANDBOX (cutbox-rows.mjs): the forced cells as the released guide's own fill.sh prints them over the translation 80f4a1013688a9b7… (all of the seat's roots in one cut). By AI agents, Wed Nov 11 2026. No macro, syntax, notation, axiom, sorry.
-/
import Derived.Test.YtbniemkllhhnfaaChecked
import GoSem.Claim
import GoSem.ClaimJoined
import GoSem.ClaimMapViews
import Derived.JoinedTies
import Derived.KernelRfl
namespace Go.Proofs.Ytbniemkllhhnfaa
/- THE CELL 'sum', in the pinned program and in every row, IS THE sha256 OF THE DUMP (.gsa) THAT YtbniemkllhhnfaaProg.lean LOADS. Nothing in Lean hashes anything: it is a label: what it is worth is what the hold of that sum in a sandbox is worth. -/
noncomputable def Try.pinned : Pinned := { name := "ytbniemkllhhnfaa", sum := "80f4a1013688a9b7b10d1b097850f3e3a684054f21abdefd89508d40b80d9104", checked := Try.checked }
namespace Rows
def none {H : Type} : Left H := { results := [], args := [] }

/-- 'disjointlaw21.PatternPasses': WHATEVER THE INPUT: true; the input reads as it did. -/
def patternPassesSpec : ChangeSpec := { name := "patternPasses", fn := fun _ => fun
  | [d1, d2] => { results := [.lit (.bool true)], args := [d1, d2] }
  | _ => none }
def patternPassesRow : OpenClaim := { program := "ytbniemkllhhnfaa", sum := "80f4a1013688a9b7b10d1b097850f3e3a684054f21abdefd89508d40b80d9104", func := "disjoint/disjointlaw21.PatternPasses", spec := "patternPasses", recurses := true, apart := false }
def PatternPassesSaid : Prop := patternPassesRow.holds Try.pinned (OpenSpec.ofChange patternPassesSpec)

/-- ITS FALSE NEIGHBOUR: 'it returns false'. Refute it at one input. -/
def patternPassesWrong : ChangeSpec := { name := "patternPasses", fn := fun _ => fun
  | [d1, d2] => { results := [.lit (.bool false)], args := [d1, d2] }
  | _ => none }
def PatternPassesWrongFalsely : Prop := patternPassesRow.holds Try.pinned (OpenSpec.ofChange patternPassesWrong)

/-- 'disjointlaw21.PatternComparisons': WHATEVER THE INPUT: true; the input reads as it did. -/
def patternComparisonsSpec : ChangeSpec := { name := "patternComparisons", fn := fun _ => fun
  | [d1, d2] => { results := [.lit (.bool true)], args := [d1, d2] }
  | _ => none }
def patternComparisonsRow : OpenClaim := { program := "ytbniemkllhhnfaa", sum := "80f4a1013688a9b7b10d1b097850f3e3a684054f21abdefd89508d40b80d9104", func := "disjoint/disjointlaw21.PatternComparisons", spec := "patternComparisons", recurses := true, apart := false }
def PatternComparisonsSaid : Prop := patternComparisonsRow.holds Try.pinned (OpenSpec.ofChange patternComparisonsSpec)

/-- ITS FALSE NEIGHBOUR: 'it returns false'. Refute it at one input. -/
def patternComparisonsWrong : ChangeSpec := { name := "patternComparisons", fn := fun _ => fun
  | [d1, d2] => { results := [.lit (.bool false)], args := [d1, d2] }
  | _ => none }
def PatternComparisonsWrongFalsely : Prop := patternComparisonsRow.holds Try.pinned (OpenSpec.ofChange patternComparisonsWrong)

/-- 'disjointlaw21.PatternNegation': WHATEVER THE INPUT: true; the input reads as it did. -/
def patternNegationSpec : ChangeSpec := { name := "patternNegation", fn := fun _ => fun
  | [d1, d2] => { results := [.lit (.bool true)], args := [d1, d2] }
  | _ => none }
def patternNegationRow : OpenClaim := { program := "ytbniemkllhhnfaa", sum := "80f4a1013688a9b7b10d1b097850f3e3a684054f21abdefd89508d40b80d9104", func := "disjoint/disjointlaw21.PatternNegation", spec := "patternNegation", recurses := true, apart := false }
def PatternNegationSaid : Prop := patternNegationRow.holds Try.pinned (OpenSpec.ofChange patternNegationSpec)

/-- ITS FALSE NEIGHBOUR: 'it returns false'. Refute it at one input. -/
def patternNegationWrong : ChangeSpec := { name := "patternNegation", fn := fun _ => fun
  | [d1, d2] => { results := [.lit (.bool false)], args := [d1, d2] }
  | _ => none }
def PatternNegationWrongFalsely : Prop := patternNegationRow.holds Try.pinned (OpenSpec.ofChange patternNegationWrong)

/-- 'disjointlaw21.PatternWords': WHATEVER THE INPUT: true; the input reads as it did. -/
def patternWordsSpec : ChangeSpec := { name := "patternWords", fn := fun _ => fun
  | [d1, d2, d3] => { results := [.lit (.bool true)], args := [d1, d2, d3] }
  | _ => none }
def patternWordsRow : OpenClaim := { program := "ytbniemkllhhnfaa", sum := "80f4a1013688a9b7b10d1b097850f3e3a684054f21abdefd89508d40b80d9104", func := "disjoint/disjointlaw21.PatternWords", spec := "patternWords", recurses := true, apart := false }
def PatternWordsSaid : Prop := patternWordsRow.holds Try.pinned (OpenSpec.ofChange patternWordsSpec)

/-- ITS FALSE NEIGHBOUR: 'it returns false'. Refute it at one input. -/
def patternWordsWrong : ChangeSpec := { name := "patternWords", fn := fun _ => fun
  | [d1, d2, d3] => { results := [.lit (.bool false)], args := [d1, d2, d3] }
  | _ => none }
def PatternWordsWrongFalsely : Prop := patternWordsRow.holds Try.pinned (OpenSpec.ofChange patternWordsWrong)

/-- 'disjointlaw21.PatternFirst': WHATEVER THE INPUT: true; the input reads as it did. -/
def patternFirstSpec : ChangeSpec := { name := "patternFirst", fn := fun _ => fun
  | [d1, d2] => { results := [.lit (.bool true)], args := [d1, d2] }
  | _ => none }
def patternFirstRow : OpenClaim := { program := "ytbniemkllhhnfaa", sum := "80f4a1013688a9b7b10d1b097850f3e3a684054f21abdefd89508d40b80d9104", func := "disjoint/disjointlaw21.PatternFirst", spec := "patternFirst", recurses := true, apart := false }
def PatternFirstSaid : Prop := patternFirstRow.holds Try.pinned (OpenSpec.ofChange patternFirstSpec)

/-- ITS FALSE NEIGHBOUR: 'it returns false'. Refute it at one input. -/
def patternFirstWrong : ChangeSpec := { name := "patternFirst", fn := fun _ => fun
  | [d1, d2] => { results := [.lit (.bool false)], args := [d1, d2] }
  | _ => none }
def PatternFirstWrongFalsely : Prop := patternFirstRow.holds Try.pinned (OpenSpec.ofChange patternFirstWrong)

/-- 'disjointlaw21.PatternValid': WHATEVER THE INPUT: true; the input reads as it did. -/
def patternValidSpec : ChangeSpec := { name := "patternValid", fn := fun _ => fun
  | [d] => { results := [.lit (.bool true)], args := [d] }
  | _ => none }
def patternValidRow : OpenClaim := { program := "ytbniemkllhhnfaa", sum := "80f4a1013688a9b7b10d1b097850f3e3a684054f21abdefd89508d40b80d9104", func := "disjoint/disjointlaw21.PatternValid", spec := "patternValid", recurses := true, apart := false }
def PatternValidSaid : Prop := patternValidRow.holds Try.pinned (OpenSpec.ofChange patternValidSpec)

/-- ITS FALSE NEIGHBOUR: 'it returns false'. Refute it at one input. -/
def patternValidWrong : ChangeSpec := { name := "patternValid", fn := fun _ => fun
  | [d] => { results := [.lit (.bool false)], args := [d] }
  | _ => none }
def PatternValidWrongFalsely : Prop := patternValidRow.holds Try.pinned (OpenSpec.ofChange patternValidWrong)

/-- 'disjointlaw21.PatternAutomaton': WHATEVER THE INPUT: true; the input reads as it did. -/
def patternAutomatonSpec : ChangeSpec := { name := "patternAutomaton", fn := fun _ => fun
  | [d1, d2] => { results := [.lit (.bool true)], args := [d1, d2] }
  | _ => none }
def patternAutomatonRow : OpenClaim := { program := "ytbniemkllhhnfaa", sum := "80f4a1013688a9b7b10d1b097850f3e3a684054f21abdefd89508d40b80d9104", func := "disjoint/disjointlaw21.PatternAutomaton", spec := "patternAutomaton", recurses := true, apart := false }
def PatternAutomatonSaid : Prop := patternAutomatonRow.holds Try.pinned (OpenSpec.ofChange patternAutomatonSpec)

/-- ITS FALSE NEIGHBOUR: 'it returns false'. Refute it at one input. -/
def patternAutomatonWrong : ChangeSpec := { name := "patternAutomaton", fn := fun _ => fun
  | [d1, d2] => { results := [.lit (.bool false)], args := [d1, d2] }
  | _ => none }
def PatternAutomatonWrongFalsely : Prop := patternAutomatonRow.holds Try.pinned (OpenSpec.ofChange patternAutomatonWrong)

/-- 'disjointlaw21.PatternPrefix': WHATEVER THE INPUT: true; the input reads as it did. -/
def patternPrefixSpec : ChangeSpec := { name := "patternPrefix", fn := fun _ => fun
  | [d1, d2] => { results := [.lit (.bool true)], args := [d1, d2] }
  | _ => none }
def patternPrefixRow : OpenClaim := { program := "ytbniemkllhhnfaa", sum := "80f4a1013688a9b7b10d1b097850f3e3a684054f21abdefd89508d40b80d9104", func := "disjoint/disjointlaw21.PatternPrefix", spec := "patternPrefix", inPlace := ["internal/bytealg.CountString", "internal/bytealg.IndexByteString", "internal/bytealg.IndexString"], recurses := true, named := ["internal/bytealg.MaxLen"], apart := false }
def PatternPrefixSaid : Prop := patternPrefixRow.holds Try.pinned (OpenSpec.ofChange patternPrefixSpec)

/-- ITS FALSE NEIGHBOUR: 'it returns false'. Refute it at one input. -/
def patternPrefixWrong : ChangeSpec := { name := "patternPrefix", fn := fun _ => fun
  | [d1, d2] => { results := [.lit (.bool false)], args := [d1, d2] }
  | _ => none }
def PatternPrefixWrongFalsely : Prop := patternPrefixRow.holds Try.pinned (OpenSpec.ofChange patternPrefixWrong)

/- THE SECOND FORM. 'bulk': how many values and letters a reading holds, each counted each time it is reached (what is shared counts as often as it is met; a slice's spare places count too). A statement '..UptoSaid' is the law's where the arguments, and the package variables that the reading takes, are together of bulk at most 1048576: NARROWER than '..Said'. Prove '..Said' where nothing that the law and all that it calls make is longer than what came in: it says more and counts as full. Else prove '..UptoSaid'. A law counts once. -/
mutual
def uptoBulk {H : Type} : DataW H → Nat
  | .lit (.string bytes) => bytes.length + 1
  | .lit _ => 1
  | .nil => 1
  | .ptr d => uptoBulk d + 1
  | .slice elems spare => uptoBulkAll elems + uptoBulkAll spare + 1
  | .agg parts => uptoBulkAll parts + 1
  | .iface _ d => uptoBulk d + 1
  | .map entries => uptoBulkEntries entries + 1
  | .held _ => 1
def uptoBulkAll {H : Type} : List (DataW H) → Nat
  | [] => 0
  | d :: r => uptoBulk d + uptoBulkAll r
def uptoBulkEntries {H : Type} : List (Lit × DataW H) → Nat
  | [] => 0
  | x :: r => uptoBulkEntry x + uptoBulkEntries r
def uptoBulkEntry {H : Type} : Lit × DataW H → Nat
  | (.string bytes, d) => bytes.length + uptoBulk d + 1
  | (_, d) => uptoBulk d + 1
 end
def uptoSmall : (H : Type) → List (DataW H) → Bool := fun _ ds => decide (uptoBulkAll ds ≤ 1048576)
def OpenSpec.upto (s : _root_.Go.ChangeSpec) : _root_.Go.OpenSpec := { _root_.Go.OpenSpec.ofChange s with cond := some uptoSmall }

/-- 'disjointlaw21.PatternPasses', WHERE WHAT IT READS IS OF BULK AT MOST 1048576: true; the input reads as it did. -/
def patternPassesUptoRow : OpenClaim := { program := "ytbniemkllhhnfaa", sum := "80f4a1013688a9b7b10d1b097850f3e3a684054f21abdefd89508d40b80d9104", func := "disjoint/disjointlaw21.PatternPasses", spec := "patternPasses", recurses := true, apart := false, narrowed := true }
def PatternPassesUptoSaid : Prop := patternPassesUptoRow.holds Try.pinned (OpenSpec.upto patternPassesSpec)

/-- 'disjointlaw21.PatternComparisons', WHERE WHAT IT READS IS OF BULK AT MOST 1048576: true; the input reads as it did. -/
def patternComparisonsUptoRow : OpenClaim := { program := "ytbniemkllhhnfaa", sum := "80f4a1013688a9b7b10d1b097850f3e3a684054f21abdefd89508d40b80d9104", func := "disjoint/disjointlaw21.PatternComparisons", spec := "patternComparisons", recurses := true, apart := false, narrowed := true }
def PatternComparisonsUptoSaid : Prop := patternComparisonsUptoRow.holds Try.pinned (OpenSpec.upto patternComparisonsSpec)

/-- 'disjointlaw21.PatternNegation', WHERE WHAT IT READS IS OF BULK AT MOST 1048576: true; the input reads as it did. -/
def patternNegationUptoRow : OpenClaim := { program := "ytbniemkllhhnfaa", sum := "80f4a1013688a9b7b10d1b097850f3e3a684054f21abdefd89508d40b80d9104", func := "disjoint/disjointlaw21.PatternNegation", spec := "patternNegation", recurses := true, apart := false, narrowed := true }
def PatternNegationUptoSaid : Prop := patternNegationUptoRow.holds Try.pinned (OpenSpec.upto patternNegationSpec)

/-- 'disjointlaw21.PatternWords', WHERE WHAT IT READS IS OF BULK AT MOST 1048576: true; the input reads as it did. -/
def patternWordsUptoRow : OpenClaim := { program := "ytbniemkllhhnfaa", sum := "80f4a1013688a9b7b10d1b097850f3e3a684054f21abdefd89508d40b80d9104", func := "disjoint/disjointlaw21.PatternWords", spec := "patternWords", recurses := true, apart := false, narrowed := true }
def PatternWordsUptoSaid : Prop := patternWordsUptoRow.holds Try.pinned (OpenSpec.upto patternWordsSpec)

/-- 'disjointlaw21.PatternFirst', WHERE WHAT IT READS IS OF BULK AT MOST 1048576: true; the input reads as it did. -/
def patternFirstUptoRow : OpenClaim := { program := "ytbniemkllhhnfaa", sum := "80f4a1013688a9b7b10d1b097850f3e3a684054f21abdefd89508d40b80d9104", func := "disjoint/disjointlaw21.PatternFirst", spec := "patternFirst", recurses := true, apart := false, narrowed := true }
def PatternFirstUptoSaid : Prop := patternFirstUptoRow.holds Try.pinned (OpenSpec.upto patternFirstSpec)

/-- 'disjointlaw21.PatternValid', WHERE WHAT IT READS IS OF BULK AT MOST 1048576: true; the input reads as it did. -/
def patternValidUptoRow : OpenClaim := { program := "ytbniemkllhhnfaa", sum := "80f4a1013688a9b7b10d1b097850f3e3a684054f21abdefd89508d40b80d9104", func := "disjoint/disjointlaw21.PatternValid", spec := "patternValid", recurses := true, apart := false, narrowed := true }
def PatternValidUptoSaid : Prop := patternValidUptoRow.holds Try.pinned (OpenSpec.upto patternValidSpec)

/-- 'disjointlaw21.PatternAutomaton', WHERE WHAT IT READS IS OF BULK AT MOST 1048576: true; the input reads as it did. -/
def patternAutomatonUptoRow : OpenClaim := { program := "ytbniemkllhhnfaa", sum := "80f4a1013688a9b7b10d1b097850f3e3a684054f21abdefd89508d40b80d9104", func := "disjoint/disjointlaw21.PatternAutomaton", spec := "patternAutomaton", recurses := true, apart := false, narrowed := true }
def PatternAutomatonUptoSaid : Prop := patternAutomatonUptoRow.holds Try.pinned (OpenSpec.upto patternAutomatonSpec)

/-- 'disjointlaw21.PatternPrefix', WHERE WHAT IT READS IS OF BULK AT MOST 1048576: true; the input reads as it did. -/
def patternPrefixUptoRow : OpenClaim := { program := "ytbniemkllhhnfaa", sum := "80f4a1013688a9b7b10d1b097850f3e3a684054f21abdefd89508d40b80d9104", func := "disjoint/disjointlaw21.PatternPrefix", spec := "patternPrefix", inPlace := ["internal/bytealg.CountString", "internal/bytealg.IndexByteString", "internal/bytealg.IndexString"], recurses := true, named := ["internal/bytealg.MaxLen"], apart := false, narrowed := true }
def PatternPrefixUptoSaid : Prop := patternPrefixUptoRow.holds Try.pinned (OpenSpec.upto patternPrefixSpec)

end Rows
end Go.Proofs.Ytbniemkllhhnfaa
