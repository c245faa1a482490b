/-
  NARROWER THAN 'FOR EVERY INPUT', by the rows' own cells (each row's printed sentence says how): LexerTokens: laid · LexerConcatenation: laid · LexerCase: laid · LexerOffsets: laid · LexerNames: laid · LexerQuote: laid · LexerUnquote: laid.
  DERIVED. THE GIVEN ROWS OF THIS SEAT. 7 by the template 'for every input the law returns true; each argument reads behind the call as it read before'; 0 by the template 'total and deterministic' (their statements: YtmnjfhjhbjhmhaaDoorTotals.lean).
  GIVEN WITH THE SEED: the statements are not yours to turn. If you find one false, say at which input.
  Laid BY PROGRAM, IN A SANDBOX (cutbox-rows.mjs): the forced cells as the released guide's own fill.sh prints them over the translation 757b7d6753852934… (all of the seat's roots in one cut). By AI agents, Wed Nov 11 2026. No macro, syntax, notation, axiom, sorry.
-/
import Derived.Test.YtmnjfhjhbjhmhaaDoorChecked
import GoSem.PinnedTables
import GoSem.Claim
import GoSem.ClaimJoined
import GoSem.ClaimMapViews
import Derived.JoinedTies
import Derived.KernelRfl
namespace Go.Proofs.YtmnjfhjhbjhmhaaDoor
/- THE CELL 'sum', in the pinned program and in every row, IS THE sha256 OF THE DUMP (.gsa) THAT YtmnjfhjhbjhmhaaDoorProg.lean LOADS. Nothing in Lean hashes anything: it is a label: what it is worth is what the hold of that sum in a sandbox is worth. -/
noncomputable def Tryd.pinned : Pinned := { name := "ytmnjfhjhbjhmhaadoor", sum := "757b7d6753852934a65a8f8dcda8176c1d4c8637de50321d31de7ac566a11552", checked := Tryd.checked }
namespace Rows
def none {H : Type} : Left H := { results := [], args := [] }

/- WHAT THE LISTED PACKAGE-LEVEL VARIABLES READ AS WHEN THE CALL BEGINS. Each datum BY PROGRAM (the guide's laid-datum.mjs) off the statement by which the dump's own 'gosem.cut.vars' lays the variable. In a bare row this is a premise. The card (YtmnjfhjhbjhmhaaDoorCards.lean) ties it to the program's text. -/
def laid_unicode_utf8_acceptRanges {H : Type} : DataW H := .agg [.agg [.lit (.int .u8 128), .lit (.int .u8 191)], .agg [.lit (.int .u8 160), .lit (.int .u8 191)], .agg [.lit (.int .u8 128), .lit (.int .u8 159)], .agg [.lit (.int .u8 144), .lit (.int .u8 191)], .agg [.lit (.int .u8 128), .lit (.int .u8 143)], .agg [.lit (.int .u8 0), .lit (.int .u8 0)], .agg [.lit (.int .u8 0), .lit (.int .u8 0)], .agg [.lit (.int .u8 0), .lit (.int .u8 0)], .agg [.lit (.int .u8 0), .lit (.int .u8 0)], .agg [.lit (.int .u8 0), .lit (.int .u8 0)], .agg [.lit (.int .u8 0), .lit (.int .u8 0)], .agg [.lit (.int .u8 0), .lit (.int .u8 0)], .agg [.lit (.int .u8 0), .lit (.int .u8 0)], .agg [.lit (.int .u8 0), .lit (.int .u8 0)], .agg [.lit (.int .u8 0), .lit (.int .u8 0)], .agg [.lit (.int .u8 0), .lit (.int .u8 0)]]
def laid_disjoint_lexer_keywords {H : Type} : DataW H := .slice [.lit (.string [65, 78, 68]), .lit (.string [65, 83]), .lit (.string [65, 83, 67]), .lit (.string [66, 69, 71, 73, 78]), .lit (.string [66, 69, 84, 87, 69, 69, 78]), .lit (.string [66, 89]), .lit (.string [67, 72, 69, 67, 75]), .lit (.string [67, 79, 77, 77, 73, 84]), .lit (.string [67, 79, 85, 78, 84]), .lit (.string [67, 82, 69, 65, 84, 69]), .lit (.string [68, 69, 76, 69, 84, 69]), .lit (.string [68, 69, 83, 67]), .lit (.string [70, 79, 82, 69, 73, 71, 78]), .lit (.string [70, 82, 79, 77]), .lit (.string [71, 82, 79, 85, 80]), .lit (.string [73, 78]), .lit (.string [73, 78, 83, 69, 82, 84]), .lit (.string [73, 78, 84, 69, 71, 69, 82]), .lit (.string [73, 78, 84, 79]), .lit (.string [73, 83]), .lit (.string [74, 79, 73, 78]), .lit (.string [75, 69, 89]), .lit (.string [76, 69, 78, 71, 84, 72]), .lit (.string [76, 73, 75, 69]), .lit (.string [76, 73, 77, 73, 84]), .lit (.string [77, 65, 88]), .lit (.string [77, 73, 78]), .lit (.string [78, 79, 84]), .lit (.string [78, 85, 76, 76]), .lit (.string [79, 78]), .lit (.string [79, 82]), .lit (.string [79, 82, 68, 69, 82]), .lit (.string [80, 82, 73, 77, 65, 82, 89]), .lit (.string [82, 69, 70, 69, 82, 69, 78, 67, 69, 83]), .lit (.string [82, 69, 76, 69, 65, 83, 69]), .lit (.string [82, 79, 76, 76, 66, 65, 67, 75]), .lit (.string [83, 65, 86, 69, 80, 79, 73, 78, 84]), .lit (.string [83, 69, 76, 69, 67, 84]), .lit (.string [83, 69, 84]), .lit (.string [83, 85, 77]), .lit (.string [84, 65, 66, 76, 69]), .lit (.string [84, 69, 88, 84]), .lit (.string [84, 79]), .lit (.string [85, 78, 73, 81, 85, 69]), .lit (.string [85, 80, 68, 65, 84, 69]), .lit (.string [86, 65, 76, 85, 69, 83]), .lit (.string [87, 72, 69, 82, 69])] []
/-- One of Go's own tables, pinned by name: the form's constant. -/
def laid_unicode_utf8_first : DataW Unit := Go.Pinned.utf8First

/-- 'disjointlaw09.LexerTokens': WHATEVER THE INPUT: true; the input reads as it did. -/
def lexerTokensSpec : ChangeSpec := { name := "lexerTokens", fn := fun _ => fun
  | [d] => { results := [.lit (.bool true)], args := [d] }
  | _ => none }
def lexerTokensRow : OpenClaim := { program := "ytmnjfhjhbjhmhaadoor", sum := "757b7d6753852934a65a8f8dcda8176c1d4c8637de50321d31de7ac566a11552", func := "disjoint/disjointlaw09.LexerTokens", spec := "lexerTokens", inPlace := ["internal/bytealg.IndexByteString", "internal/bytealg.CountString", "internal/bytealg.IndexString", "internal/abi.NoEscape", "internal/bytealg.MakeNoZero"], unfollowed := true, recurses := true, named := ["disjoint/lexer.keywords", "internal/bytealg.MaxLen", "unicode/utf8.first", "unicode/utf8.acceptRanges"], apart := false, laid := [("unicode/utf8.acceptRanges", laid_unicode_utf8_acceptRanges), ("disjoint/lexer.keywords", laid_disjoint_lexer_keywords), ("unicode/utf8.first", laid_unicode_utf8_first)] }
def LexerTokensSaid : Prop := lexerTokensRow.holds Tryd.pinned (OpenSpec.ofChange lexerTokensSpec)

/-- ITS FALSE NEIGHBOUR: 'it returns false'. Refute it at one input. -/
def lexerTokensWrong : ChangeSpec := { name := "lexerTokens", fn := fun _ => fun
  | [d] => { results := [.lit (.bool false)], args := [d] }
  | _ => none }
def LexerTokensWrongFalsely : Prop := lexerTokensRow.holds Tryd.pinned (OpenSpec.ofChange lexerTokensWrong)

/-- 'disjointlaw09.LexerConcatenation': WHATEVER THE INPUT: true; the input reads as it did. -/
def lexerConcatenationSpec : ChangeSpec := { name := "lexerConcatenation", fn := fun _ => fun
  | [d1, d2] => { results := [.lit (.bool true)], args := [d1, d2] }
  | _ => none }
def lexerConcatenationRow : OpenClaim := { program := "ytmnjfhjhbjhmhaadoor", sum := "757b7d6753852934a65a8f8dcda8176c1d4c8637de50321d31de7ac566a11552", func := "disjoint/disjointlaw09.LexerConcatenation", spec := "lexerConcatenation", inPlace := ["internal/bytealg.IndexByteString", "internal/bytealg.CountString", "internal/bytealg.IndexString", "internal/abi.NoEscape", "internal/bytealg.MakeNoZero"], unfollowed := true, recurses := true, named := ["disjoint/lexer.keywords", "internal/bytealg.MaxLen", "unicode/utf8.first", "unicode/utf8.acceptRanges"], apart := false, laid := [("unicode/utf8.acceptRanges", laid_unicode_utf8_acceptRanges), ("disjoint/lexer.keywords", laid_disjoint_lexer_keywords), ("unicode/utf8.first", laid_unicode_utf8_first)] }
def LexerConcatenationSaid : Prop := lexerConcatenationRow.holds Tryd.pinned (OpenSpec.ofChange lexerConcatenationSpec)

/-- ITS FALSE NEIGHBOUR: 'it returns false'. Refute it at one input. -/
def lexerConcatenationWrong : ChangeSpec := { name := "lexerConcatenation", fn := fun _ => fun
  | [d1, d2] => { results := [.lit (.bool false)], args := [d1, d2] }
  | _ => none }
def LexerConcatenationWrongFalsely : Prop := lexerConcatenationRow.holds Tryd.pinned (OpenSpec.ofChange lexerConcatenationWrong)

/-- 'disjointlaw09.LexerCase': WHATEVER THE INPUT: true; the input reads as it did. -/
def lexerCaseSpec : ChangeSpec := { name := "lexerCase", fn := fun _ => fun
  | [d1, d2] => { results := [.lit (.bool true)], args := [d1, d2] }
  | _ => none }
def lexerCaseRow : OpenClaim := { program := "ytmnjfhjhbjhmhaadoor", sum := "757b7d6753852934a65a8f8dcda8176c1d4c8637de50321d31de7ac566a11552", func := "disjoint/disjointlaw09.LexerCase", spec := "lexerCase", inPlace := ["internal/bytealg.IndexByteString", "internal/bytealg.CountString", "internal/bytealg.IndexString", "internal/abi.NoEscape", "internal/bytealg.MakeNoZero"], unfollowed := true, recurses := true, named := ["disjoint/lexer.keywords", "internal/bytealg.MaxLen", "unicode/utf8.first", "unicode/utf8.acceptRanges"], apart := false, laid := [("unicode/utf8.acceptRanges", laid_unicode_utf8_acceptRanges), ("disjoint/lexer.keywords", laid_disjoint_lexer_keywords), ("unicode/utf8.first", laid_unicode_utf8_first)] }
def LexerCaseSaid : Prop := lexerCaseRow.holds Tryd.pinned (OpenSpec.ofChange lexerCaseSpec)

/-- ITS FALSE NEIGHBOUR: 'it returns false'. Refute it at one input. -/
def lexerCaseWrong : ChangeSpec := { name := "lexerCase", fn := fun _ => fun
  | [d1, d2] => { results := [.lit (.bool false)], args := [d1, d2] }
  | _ => none }
def LexerCaseWrongFalsely : Prop := lexerCaseRow.holds Tryd.pinned (OpenSpec.ofChange lexerCaseWrong)

/-- 'disjointlaw09.LexerOffsets': WHATEVER THE INPUT: true; the input reads as it did. -/
def lexerOffsetsSpec : ChangeSpec := { name := "lexerOffsets", fn := fun _ => fun
  | [d] => { results := [.lit (.bool true)], args := [d] }
  | _ => none }
def lexerOffsetsRow : OpenClaim := { program := "ytmnjfhjhbjhmhaadoor", sum := "757b7d6753852934a65a8f8dcda8176c1d4c8637de50321d31de7ac566a11552", func := "disjoint/disjointlaw09.LexerOffsets", spec := "lexerOffsets", inPlace := ["internal/bytealg.IndexByteString", "internal/bytealg.CountString", "internal/bytealg.IndexString", "internal/abi.NoEscape", "internal/bytealg.MakeNoZero"], unfollowed := true, recurses := true, named := ["disjoint/lexer.keywords", "internal/bytealg.MaxLen", "unicode/utf8.first", "unicode/utf8.acceptRanges"], apart := false, laid := [("unicode/utf8.acceptRanges", laid_unicode_utf8_acceptRanges), ("disjoint/lexer.keywords", laid_disjoint_lexer_keywords), ("unicode/utf8.first", laid_unicode_utf8_first)] }
def LexerOffsetsSaid : Prop := lexerOffsetsRow.holds Tryd.pinned (OpenSpec.ofChange lexerOffsetsSpec)

/-- ITS FALSE NEIGHBOUR: 'it returns false'. Refute it at one input. -/
def lexerOffsetsWrong : ChangeSpec := { name := "lexerOffsets", fn := fun _ => fun
  | [d] => { results := [.lit (.bool false)], args := [d] }
  | _ => none }
def LexerOffsetsWrongFalsely : Prop := lexerOffsetsRow.holds Tryd.pinned (OpenSpec.ofChange lexerOffsetsWrong)

/-- 'disjointlaw09.LexerNames': WHATEVER THE INPUT: true; the input reads as it did. -/
def lexerNamesSpec : ChangeSpec := { name := "lexerNames", fn := fun _ => fun
  | [d] => { results := [.lit (.bool true)], args := [d] }
  | _ => none }
def lexerNamesRow : OpenClaim := { program := "ytmnjfhjhbjhmhaadoor", sum := "757b7d6753852934a65a8f8dcda8176c1d4c8637de50321d31de7ac566a11552", func := "disjoint/disjointlaw09.LexerNames", spec := "lexerNames", inPlace := ["internal/bytealg.IndexByteString", "internal/bytealg.CountString", "internal/bytealg.IndexString", "internal/abi.NoEscape", "internal/bytealg.MakeNoZero"], unfollowed := true, recurses := true, named := ["disjoint/lexer.keywords", "internal/bytealg.MaxLen", "unicode/utf8.first", "unicode/utf8.acceptRanges"], apart := false, laid := [("unicode/utf8.acceptRanges", laid_unicode_utf8_acceptRanges), ("disjoint/lexer.keywords", laid_disjoint_lexer_keywords), ("unicode/utf8.first", laid_unicode_utf8_first)] }
def LexerNamesSaid : Prop := lexerNamesRow.holds Tryd.pinned (OpenSpec.ofChange lexerNamesSpec)

/-- ITS FALSE NEIGHBOUR: 'it returns false'. Refute it at one input. -/
def lexerNamesWrong : ChangeSpec := { name := "lexerNames", fn := fun _ => fun
  | [d] => { results := [.lit (.bool false)], args := [d] }
  | _ => none }
def LexerNamesWrongFalsely : Prop := lexerNamesRow.holds Tryd.pinned (OpenSpec.ofChange lexerNamesWrong)

/-- 'disjointlaw09.LexerQuote': WHATEVER THE INPUT: true; the input reads as it did. -/
def lexerQuoteSpec : ChangeSpec := { name := "lexerQuote", fn := fun _ => fun
  | [d] => { results := [.lit (.bool true)], args := [d] }
  | _ => none }
def lexerQuoteRow : OpenClaim := { program := "ytmnjfhjhbjhmhaadoor", sum := "757b7d6753852934a65a8f8dcda8176c1d4c8637de50321d31de7ac566a11552", func := "disjoint/disjointlaw09.LexerQuote", spec := "lexerQuote", inPlace := ["internal/bytealg.IndexByteString", "internal/bytealg.CountString", "internal/bytealg.IndexString", "internal/abi.NoEscape", "internal/bytealg.MakeNoZero"], unfollowed := true, recurses := true, named := ["disjoint/lexer.keywords", "internal/bytealg.MaxLen", "unicode/utf8.first", "unicode/utf8.acceptRanges"], apart := false, laid := [("unicode/utf8.acceptRanges", laid_unicode_utf8_acceptRanges), ("disjoint/lexer.keywords", laid_disjoint_lexer_keywords), ("unicode/utf8.first", laid_unicode_utf8_first)] }
def LexerQuoteSaid : Prop := lexerQuoteRow.holds Tryd.pinned (OpenSpec.ofChange lexerQuoteSpec)

/-- ITS FALSE NEIGHBOUR: 'it returns false'. Refute it at one input. -/
def lexerQuoteWrong : ChangeSpec := { name := "lexerQuote", fn := fun _ => fun
  | [d] => { results := [.lit (.bool false)], args := [d] }
  | _ => none }
def LexerQuoteWrongFalsely : Prop := lexerQuoteRow.holds Tryd.pinned (OpenSpec.ofChange lexerQuoteWrong)

/-- 'disjointlaw09.LexerUnquote': WHATEVER THE INPUT: true; the input reads as it did. -/
def lexerUnquoteSpec : ChangeSpec := { name := "lexerUnquote", fn := fun _ => fun
  | [d] => { results := [.lit (.bool true)], args := [d] }
  | _ => none }
def lexerUnquoteRow : OpenClaim := { program := "ytmnjfhjhbjhmhaadoor", sum := "757b7d6753852934a65a8f8dcda8176c1d4c8637de50321d31de7ac566a11552", func := "disjoint/disjointlaw09.LexerUnquote", spec := "lexerUnquote", inPlace := ["internal/bytealg.IndexByteString", "internal/bytealg.CountString", "internal/bytealg.IndexString", "internal/abi.NoEscape", "internal/bytealg.MakeNoZero"], unfollowed := true, recurses := true, named := ["disjoint/lexer.keywords", "internal/bytealg.MaxLen", "unicode/utf8.first", "unicode/utf8.acceptRanges"], apart := false, laid := [("unicode/utf8.acceptRanges", laid_unicode_utf8_acceptRanges), ("disjoint/lexer.keywords", laid_disjoint_lexer_keywords), ("unicode/utf8.first", laid_unicode_utf8_first)] }
def LexerUnquoteSaid : Prop := lexerUnquoteRow.holds Tryd.pinned (OpenSpec.ofChange lexerUnquoteSpec)

/-- ITS FALSE NEIGHBOUR: 'it returns false'. Refute it at one input. -/
def lexerUnquoteWrong : ChangeSpec := { name := "lexerUnquote", fn := fun _ => fun
  | [d] => { results := [.lit (.bool false)], args := [d] }
  | _ => none }
def LexerUnquoteWrongFalsely : Prop := lexerUnquoteRow.holds Tryd.pinned (OpenSpec.ofChange lexerUnquoteWrong)

/- THE SECOND FORM. 'bulk': how many values and letters a reading holds, each counted each time it is reached (what is shared counts as often as it is met; a slice's spare places count too). A statement '..UptoSaid' is the law's where the arguments, and the package variables that the reading takes, are together of bulk at most 1048576: NARROWER than '..Said'. Prove '..Said' where nothing that the law and all that it calls make is longer than what came in: it says more and counts as full. Else prove '..UptoSaid'. A law counts once. -/
mutual
def uptoBulk {H : Type} : DataW H → Nat
  | .lit (.string bytes) => bytes.length + 1
  | .lit _ => 1
  | .nil => 1
  | .ptr d => uptoBulk d + 1
  | .slice elems spare => uptoBulkAll elems + uptoBulkAll spare + 1
  | .agg parts => uptoBulkAll parts + 1
  | .iface _ d => uptoBulk d + 1
  | .map entries => uptoBulkEntries entries + 1
  | .held _ => 1
def uptoBulkAll {H : Type} : List (DataW H) → Nat
  | [] => 0
  | d :: r => uptoBulk d + uptoBulkAll r
def uptoBulkEntries {H : Type} : List (Lit × DataW H) → Nat
  | [] => 0
  | x :: r => uptoBulkEntry x + uptoBulkEntries r
def uptoBulkEntry {H : Type} : Lit × DataW H → Nat
  | (.string bytes, d) => bytes.length + uptoBulk d + 1
  | (_, d) => uptoBulk d + 1
 end
def uptoSmall : (H : Type) → List (DataW H) → Bool := fun _ ds => decide (uptoBulkAll ds ≤ 1048576)
def OpenSpec.upto (s : _root_.Go.ChangeSpec) : _root_.Go.OpenSpec := { _root_.Go.OpenSpec.ofChange s with cond := some uptoSmall }

/-- 'disjointlaw09.LexerTokens', WHERE WHAT IT READS IS OF BULK AT MOST 1048576: true; the input reads as it did. -/
def lexerTokensUptoRow : OpenClaim := { program := "ytmnjfhjhbjhmhaadoor", sum := "757b7d6753852934a65a8f8dcda8176c1d4c8637de50321d31de7ac566a11552", func := "disjoint/disjointlaw09.LexerTokens", spec := "lexerTokens", inPlace := ["internal/bytealg.IndexByteString", "internal/bytealg.CountString", "internal/bytealg.IndexString", "internal/abi.NoEscape", "internal/bytealg.MakeNoZero"], unfollowed := true, recurses := true, named := ["disjoint/lexer.keywords", "internal/bytealg.MaxLen", "unicode/utf8.first", "unicode/utf8.acceptRanges"], apart := false, laid := [("unicode/utf8.acceptRanges", laid_unicode_utf8_acceptRanges), ("disjoint/lexer.keywords", laid_disjoint_lexer_keywords), ("unicode/utf8.first", laid_unicode_utf8_first)], narrowed := true }
def LexerTokensUptoSaid : Prop := lexerTokensUptoRow.holds Tryd.pinned (OpenSpec.upto lexerTokensSpec)

/-- 'disjointlaw09.LexerConcatenation', WHERE WHAT IT READS IS OF BULK AT MOST 1048576: true; the input reads as it did. -/
def lexerConcatenationUptoRow : OpenClaim := { program := "ytmnjfhjhbjhmhaadoor", sum := "757b7d6753852934a65a8f8dcda8176c1d4c8637de50321d31de7ac566a11552", func := "disjoint/disjointlaw09.LexerConcatenation", spec := "lexerConcatenation", inPlace := ["internal/bytealg.IndexByteString", "internal/bytealg.CountString", "internal/bytealg.IndexString", "internal/abi.NoEscape", "internal/bytealg.MakeNoZero"], unfollowed := true, recurses := true, named := ["disjoint/lexer.keywords", "internal/bytealg.MaxLen", "unicode/utf8.first", "unicode/utf8.acceptRanges"], apart := false, laid := [("unicode/utf8.acceptRanges", laid_unicode_utf8_acceptRanges), ("disjoint/lexer.keywords", laid_disjoint_lexer_keywords), ("unicode/utf8.first", laid_unicode_utf8_first)], narrowed := true }
def LexerConcatenationUptoSaid : Prop := lexerConcatenationUptoRow.holds Tryd.pinned (OpenSpec.upto lexerConcatenationSpec)

/-- 'disjointlaw09.LexerCase', WHERE WHAT IT READS IS OF BULK AT MOST 1048576: true; the input reads as it did. -/
def lexerCaseUptoRow : OpenClaim := { program := "ytmnjfhjhbjhmhaadoor", sum := "757b7d6753852934a65a8f8dcda8176c1d4c8637de50321d31de7ac566a11552", func := "disjoint/disjointlaw09.LexerCase", spec := "lexerCase", inPlace := ["internal/bytealg.IndexByteString", "internal/bytealg.CountString", "internal/bytealg.IndexString", "internal/abi.NoEscape", "internal/bytealg.MakeNoZero"], unfollowed := true, recurses := true, named := ["disjoint/lexer.keywords", "internal/bytealg.MaxLen", "unicode/utf8.first", "unicode/utf8.acceptRanges"], apart := false, laid := [("unicode/utf8.acceptRanges", laid_unicode_utf8_acceptRanges), ("disjoint/lexer.keywords", laid_disjoint_lexer_keywords), ("unicode/utf8.first", laid_unicode_utf8_first)], narrowed := true }
def LexerCaseUptoSaid : Prop := lexerCaseUptoRow.holds Tryd.pinned (OpenSpec.upto lexerCaseSpec)

/-- 'disjointlaw09.LexerOffsets', WHERE WHAT IT READS IS OF BULK AT MOST 1048576: true; the input reads as it did. -/
def lexerOffsetsUptoRow : OpenClaim := { program := "ytmnjfhjhbjhmhaadoor", sum := "757b7d6753852934a65a8f8dcda8176c1d4c8637de50321d31de7ac566a11552", func := "disjoint/disjointlaw09.LexerOffsets", spec := "lexerOffsets", inPlace := ["internal/bytealg.IndexByteString", "internal/bytealg.CountString", "internal/bytealg.IndexString", "internal/abi.NoEscape", "internal/bytealg.MakeNoZero"], unfollowed := true, recurses := true, named := ["disjoint/lexer.keywords", "internal/bytealg.MaxLen", "unicode/utf8.first", "unicode/utf8.acceptRanges"], apart := false, laid := [("unicode/utf8.acceptRanges", laid_unicode_utf8_acceptRanges), ("disjoint/lexer.keywords", laid_disjoint_lexer_keywords), ("unicode/utf8.first", laid_unicode_utf8_first)], narrowed := true }
def LexerOffsetsUptoSaid : Prop := lexerOffsetsUptoRow.holds Tryd.pinned (OpenSpec.upto lexerOffsetsSpec)

/-- 'disjointlaw09.LexerNames', WHERE WHAT IT READS IS OF BULK AT MOST 1048576: true; the input reads as it did. -/
def lexerNamesUptoRow : OpenClaim := { program := "ytmnjfhjhbjhmhaadoor", sum := "757b7d6753852934a65a8f8dcda8176c1d4c8637de50321d31de7ac566a11552", func := "disjoint/disjointlaw09.LexerNames", spec := "lexerNames", inPlace := ["internal/bytealg.IndexByteString", "internal/bytealg.CountString", "internal/bytealg.IndexString", "internal/abi.NoEscape", "internal/bytealg.MakeNoZero"], unfollowed := true, recurses := true, named := ["disjoint/lexer.keywords", "internal/bytealg.MaxLen", "unicode/utf8.first", "unicode/utf8.acceptRanges"], apart := false, laid := [("unicode/utf8.acceptRanges", laid_unicode_utf8_acceptRanges), ("disjoint/lexer.keywords", laid_disjoint_lexer_keywords), ("unicode/utf8.first", laid_unicode_utf8_first)], narrowed := true }
def LexerNamesUptoSaid : Prop := lexerNamesUptoRow.holds Tryd.pinned (OpenSpec.upto lexerNamesSpec)

/-- 'disjointlaw09.LexerQuote', WHERE WHAT IT READS IS OF BULK AT MOST 1048576: true; the input reads as it did. -/
def lexerQuoteUptoRow : OpenClaim := { program := "ytmnjfhjhbjhmhaadoor", sum := "757b7d6753852934a65a8f8dcda8176c1d4c8637de50321d31de7ac566a11552", func := "disjoint/disjointlaw09.LexerQuote", spec := "lexerQuote", inPlace := ["internal/bytealg.IndexByteString", "internal/bytealg.CountString", "internal/bytealg.IndexString", "internal/abi.NoEscape", "internal/bytealg.MakeNoZero"], unfollowed := true, recurses := true, named := ["disjoint/lexer.keywords", "internal/bytealg.MaxLen", "unicode/utf8.first", "unicode/utf8.acceptRanges"], apart := false, laid := [("unicode/utf8.acceptRanges", laid_unicode_utf8_acceptRanges), ("disjoint/lexer.keywords", laid_disjoint_lexer_keywords), ("unicode/utf8.first", laid_unicode_utf8_first)], narrowed := true }
def LexerQuoteUptoSaid : Prop := lexerQuoteUptoRow.holds Tryd.pinned (OpenSpec.upto lexerQuoteSpec)

/-- 'disjointlaw09.LexerUnquote', WHERE WHAT IT READS IS OF BULK AT MOST 1048576: true; the input reads as it did. -/
def lexerUnquoteUptoRow : OpenClaim := { program := "ytmnjfhjhbjhmhaadoor", sum := "757b7d6753852934a65a8f8dcda8176c1d4c8637de50321d31de7ac566a11552", func := "disjoint/disjointlaw09.LexerUnquote", spec := "lexerUnquote", inPlace := ["internal/bytealg.IndexByteString", "internal/bytealg.CountString", "internal/bytealg.IndexString", "internal/abi.NoEscape", "internal/bytealg.MakeNoZero"], unfollowed := true, recurses := true, named := ["disjoint/lexer.keywords", "internal/bytealg.MaxLen", "unicode/utf8.first", "unicode/utf8.acceptRanges"], apart := false, laid := [("unicode/utf8.acceptRanges", laid_unicode_utf8_acceptRanges), ("disjoint/lexer.keywords", laid_disjoint_lexer_keywords), ("unicode/utf8.first", laid_unicode_utf8_first)], narrowed := true }
def LexerUnquoteUptoSaid : Prop := lexerUnquoteUptoRow.holds Tryd.pinned (OpenSpec.upto lexerUnquoteSpec)

end Rows
end Go.Proofs.YtmnjfhjhbjhmhaaDoor
