/-
  NARROWER THAN 'FOR EVERY INPUT', by the rows' own cells (each row's printed sentence says how): ParserStatement: laid · ParserExpression: laid · ParserScript: laid · ParserRoundTrip: loops, laid · ParserRoundTripExpression: loops, laid · ParserPrefixes: loops, laid · ParserSpace: laid · ParserScriptJoins: loops, laid.
  DERIVED. THE GIVEN ROWS OF THIS SEAT. 8 by the template 'for every input the law returns true; each argument reads behind the call as it read before'; 0 by the template 'total and deterministic' (their statements: YtjigcpfjhfoheaaGreatDoorTotals.lean).
  GIVEN WITH THE SEED: the statements are not yours to turn. If you find one false, say at which input.
  Laid BY PROGRAM, IN A SANDBOX (cutbox-rows.mjs): the forced cells as the released guide's own fill.sh prints them over the translation 55faaf7f1024ee5a… (all of the seat's roots in one cut). By AI agents, Wed Nov 11 2026. No macro, syntax, notation, axiom, sorry.
-/
import Derived.Test.YtjigcpfjhfoheaaGreatDoorChecked
import GoSem.PinnedTables
import GoSem.Claim
import GoSem.ClaimJoined
import GoSem.ClaimMapViews
import Derived.JoinedTies
import Derived.KernelRfl
namespace Go.Proofs.YtjigcpfjhfoheaaGreatDoor
/- THE CELL 'sum', in the pinned program and in every row, IS THE sha256 OF THE DUMP (.gsa) THAT YtjigcpfjhfoheaaGreatDoorProg.lean LOADS. Nothing in Lean hashes anything: it is a label: what it is worth is what the hold of that sum in a sandbox is worth. -/
noncomputable def Tryz.pinned : Pinned := { name := "ytjigcpfjhfoheaagreatdoor", sum := "55faaf7f1024ee5aea5c5a8d1ba56c733012154300ea1566e7005d3846e55ac3", checked := Tryz.checked }
namespace Rows
def none {H : Type} : Left H := { results := [], args := [] }

/- WHAT THE LISTED PACKAGE-LEVEL VARIABLES READ AS WHEN THE CALL BEGINS. Each datum BY PROGRAM (the guide's laid-datum.mjs) off the statement by which the dump's own 'gosem.cut.vars' lays the variable. In a bare row this is a premise. The card (YtjigcpfjhfoheaaGreatDoorCards.lean) ties it to the program's text. -/
def laid_math_bits_deBruijn32tab {H : Type} : DataW H := .agg [.lit (.int .u8 0), .lit (.int .u8 1), .lit (.int .u8 28), .lit (.int .u8 2), .lit (.int .u8 29), .lit (.int .u8 14), .lit (.int .u8 24), .lit (.int .u8 3), .lit (.int .u8 30), .lit (.int .u8 22), .lit (.int .u8 20), .lit (.int .u8 15), .lit (.int .u8 25), .lit (.int .u8 17), .lit (.int .u8 4), .lit (.int .u8 8), .lit (.int .u8 31), .lit (.int .u8 27), .lit (.int .u8 13), .lit (.int .u8 23), .lit (.int .u8 21), .lit (.int .u8 19), .lit (.int .u8 16), .lit (.int .u8 7), .lit (.int .u8 26), .lit (.int .u8 12), .lit (.int .u8 18), .lit (.int .u8 6), .lit (.int .u8 11), .lit (.int .u8 5), .lit (.int .u8 10), .lit (.int .u8 9)]
def laid_math_bits_deBruijn64tab {H : Type} : DataW H := .agg [.lit (.int .u8 0), .lit (.int .u8 1), .lit (.int .u8 56), .lit (.int .u8 2), .lit (.int .u8 57), .lit (.int .u8 49), .lit (.int .u8 28), .lit (.int .u8 3), .lit (.int .u8 61), .lit (.int .u8 58), .lit (.int .u8 42), .lit (.int .u8 50), .lit (.int .u8 38), .lit (.int .u8 29), .lit (.int .u8 17), .lit (.int .u8 4), .lit (.int .u8 62), .lit (.int .u8 47), .lit (.int .u8 59), .lit (.int .u8 36), .lit (.int .u8 45), .lit (.int .u8 43), .lit (.int .u8 51), .lit (.int .u8 22), .lit (.int .u8 53), .lit (.int .u8 39), .lit (.int .u8 33), .lit (.int .u8 30), .lit (.int .u8 24), .lit (.int .u8 18), .lit (.int .u8 12), .lit (.int .u8 5), .lit (.int .u8 63), .lit (.int .u8 55), .lit (.int .u8 48), .lit (.int .u8 27), .lit (.int .u8 60), .lit (.int .u8 41), .lit (.int .u8 37), .lit (.int .u8 16), .lit (.int .u8 46), .lit (.int .u8 35), .lit (.int .u8 44), .lit (.int .u8 21), .lit (.int .u8 52), .lit (.int .u8 32), .lit (.int .u8 23), .lit (.int .u8 11), .lit (.int .u8 54), .lit (.int .u8 26), .lit (.int .u8 40), .lit (.int .u8 15), .lit (.int .u8 34), .lit (.int .u8 20), .lit (.int .u8 31), .lit (.int .u8 10), .lit (.int .u8 25), .lit (.int .u8 14), .lit (.int .u8 19), .lit (.int .u8 9), .lit (.int .u8 13), .lit (.int .u8 8), .lit (.int .u8 7), .lit (.int .u8 6)]
def laid_internal_strconv_uint64pow10 {H : Type} : DataW H := .agg [.lit (.int .u64 1), .lit (.int .u64 10), .lit (.int .u64 100), .lit (.int .u64 1000), .lit (.int .u64 10000), .lit (.int .u64 100000), .lit (.int .u64 1000000), .lit (.int .u64 10000000), .lit (.int .u64 100000000), .lit (.int .u64 1000000000), .lit (.int .u64 10000000000), .lit (.int .u64 100000000000), .lit (.int .u64 1000000000000), .lit (.int .u64 10000000000000), .lit (.int .u64 100000000000000), .lit (.int .u64 1000000000000000), .lit (.int .u64 10000000000000000), .lit (.int .u64 100000000000000000), .lit (.int .u64 1000000000000000000), .lit (.int .u64 10000000000000000000)]
def laid_unicode_utf8_acceptRanges {H : Type} : DataW H := .agg [.agg [.lit (.int .u8 128), .lit (.int .u8 191)], .agg [.lit (.int .u8 160), .lit (.int .u8 191)], .agg [.lit (.int .u8 128), .lit (.int .u8 159)], .agg [.lit (.int .u8 144), .lit (.int .u8 191)], .agg [.lit (.int .u8 128), .lit (.int .u8 143)], .agg [.lit (.int .u8 0), .lit (.int .u8 0)], .agg [.lit (.int .u8 0), .lit (.int .u8 0)], .agg [.lit (.int .u8 0), .lit (.int .u8 0)], .agg [.lit (.int .u8 0), .lit (.int .u8 0)], .agg [.lit (.int .u8 0), .lit (.int .u8 0)], .agg [.lit (.int .u8 0), .lit (.int .u8 0)], .agg [.lit (.int .u8 0), .lit (.int .u8 0)], .agg [.lit (.int .u8 0), .lit (.int .u8 0)], .agg [.lit (.int .u8 0), .lit (.int .u8 0)], .agg [.lit (.int .u8 0), .lit (.int .u8 0)], .agg [.lit (.int .u8 0), .lit (.int .u8 0)]]
def laid_strconv_ErrRange {H : Type} : DataW H := .iface "*errors.errorString" (.ptr (.agg [.lit (.string [118, 97, 108, 117, 101, 32, 111, 117, 116, 32, 111, 102, 32, 114, 97, 110, 103, 101])]))
def laid_strconv_ErrSyntax {H : Type} : DataW H := .iface "*errors.errorString" (.ptr (.agg [.lit (.string [105, 110, 118, 97, 108, 105, 100, 32, 115, 121, 110, 116, 97, 120])]))
def laid_disjoint_lexer_keywords {H : Type} : DataW H := .slice [.lit (.string [65, 78, 68]), .lit (.string [65, 83]), .lit (.string [65, 83, 67]), .lit (.string [66, 69, 71, 73, 78]), .lit (.string [66, 69, 84, 87, 69, 69, 78]), .lit (.string [66, 89]), .lit (.string [67, 72, 69, 67, 75]), .lit (.string [67, 79, 77, 77, 73, 84]), .lit (.string [67, 79, 85, 78, 84]), .lit (.string [67, 82, 69, 65, 84, 69]), .lit (.string [68, 69, 76, 69, 84, 69]), .lit (.string [68, 69, 83, 67]), .lit (.string [70, 79, 82, 69, 73, 71, 78]), .lit (.string [70, 82, 79, 77]), .lit (.string [71, 82, 79, 85, 80]), .lit (.string [73, 78]), .lit (.string [73, 78, 83, 69, 82, 84]), .lit (.string [73, 78, 84, 69, 71, 69, 82]), .lit (.string [73, 78, 84, 79]), .lit (.string [73, 83]), .lit (.string [74, 79, 73, 78]), .lit (.string [75, 69, 89]), .lit (.string [76, 69, 78, 71, 84, 72]), .lit (.string [76, 73, 75, 69]), .lit (.string [76, 73, 77, 73, 84]), .lit (.string [77, 65, 88]), .lit (.string [77, 73, 78]), .lit (.string [78, 79, 84]), .lit (.string [78, 85, 76, 76]), .lit (.string [79, 78]), .lit (.string [79, 82]), .lit (.string [79, 82, 68, 69, 82]), .lit (.string [80, 82, 73, 77, 65, 82, 89]), .lit (.string [82, 69, 70, 69, 82, 69, 78, 67, 69, 83]), .lit (.string [82, 69, 76, 69, 65, 83, 69]), .lit (.string [82, 79, 76, 76, 66, 65, 67, 75]), .lit (.string [83, 65, 86, 69, 80, 79, 73, 78, 84]), .lit (.string [83, 69, 76, 69, 67, 84]), .lit (.string [83, 69, 84]), .lit (.string [83, 85, 77]), .lit (.string [84, 65, 66, 76, 69]), .lit (.string [84, 69, 88, 84]), .lit (.string [84, 79]), .lit (.string [85, 78, 73, 81, 85, 69]), .lit (.string [85, 80, 68, 65, 84, 69]), .lit (.string [86, 65, 76, 85, 69, 83]), .lit (.string [87, 72, 69, 82, 69])] []
/-- One of Go's own tables, pinned by name: the form's constant. -/
def laid_unicode_utf8_first : DataW Unit := Go.Pinned.utf8First

/-- 'disjointlaw11.ParserStatement': WHATEVER THE INPUT: true; the input reads as it did. -/
def parserStatementSpec : ChangeSpec := { name := "parserStatement", fn := fun _ => fun
  | [d] => { results := [.lit (.bool true)], args := [d] }
  | _ => none }
def parserStatementRow : OpenClaim := { program := "ytjigcpfjhfoheaagreatdoor", sum := "55faaf7f1024ee5aea5c5a8d1ba56c733012154300ea1566e7005d3846e55ac3", func := "disjoint/disjointlaw11.ParserStatement", spec := "parserStatement", inPlace := ["internal/bytealg.IndexByteString", "internal/bytealg.IndexString", "internal/abi.NoEscape", "internal/bytealg.MakeNoZero", "internal/bytealg.CountString"], unfollowed := true, recurses := true, named := ["disjoint/lexer.keywords", "strconv.ErrSyntax", "strconv.ErrRange", "internal/strconv.uint64pow10", "math/bits.deBruijn32tab", "math/bits.deBruijn64tab", "internal/bytealg.MaxLen", "unicode/utf8.first", "unicode/utf8.acceptRanges"], apart := false, laid := [("math/bits.deBruijn32tab", laid_math_bits_deBruijn32tab), ("math/bits.deBruijn64tab", laid_math_bits_deBruijn64tab), ("internal/strconv.uint64pow10", laid_internal_strconv_uint64pow10), ("unicode/utf8.acceptRanges", laid_unicode_utf8_acceptRanges), ("strconv.ErrRange", laid_strconv_ErrRange), ("strconv.ErrSyntax", laid_strconv_ErrSyntax), ("disjoint/lexer.keywords", laid_disjoint_lexer_keywords), ("unicode/utf8.first", laid_unicode_utf8_first)] }
def ParserStatementSaid : Prop := parserStatementRow.holds Tryz.pinned (OpenSpec.ofChange parserStatementSpec)

/-- ITS FALSE NEIGHBOUR: 'it returns false'. Refute it at one input. -/
def parserStatementWrong : ChangeSpec := { name := "parserStatement", fn := fun _ => fun
  | [d] => { results := [.lit (.bool false)], args := [d] }
  | _ => none }
def ParserStatementWrongFalsely : Prop := parserStatementRow.holds Tryz.pinned (OpenSpec.ofChange parserStatementWrong)

/-- 'disjointlaw11.ParserExpression': WHATEVER THE INPUT: true; the input reads as it did. -/
def parserExpressionSpec : ChangeSpec := { name := "parserExpression", fn := fun _ => fun
  | [d] => { results := [.lit (.bool true)], args := [d] }
  | _ => none }
def parserExpressionRow : OpenClaim := { program := "ytjigcpfjhfoheaagreatdoor", sum := "55faaf7f1024ee5aea5c5a8d1ba56c733012154300ea1566e7005d3846e55ac3", func := "disjoint/disjointlaw11.ParserExpression", spec := "parserExpression", inPlace := ["internal/bytealg.IndexByteString", "internal/bytealg.IndexString", "internal/abi.NoEscape", "internal/bytealg.MakeNoZero", "internal/bytealg.CountString"], unfollowed := true, recurses := true, named := ["disjoint/lexer.keywords", "strconv.ErrSyntax", "strconv.ErrRange", "internal/strconv.uint64pow10", "math/bits.deBruijn32tab", "math/bits.deBruijn64tab", "internal/bytealg.MaxLen", "unicode/utf8.first", "unicode/utf8.acceptRanges"], apart := false, laid := [("math/bits.deBruijn32tab", laid_math_bits_deBruijn32tab), ("math/bits.deBruijn64tab", laid_math_bits_deBruijn64tab), ("internal/strconv.uint64pow10", laid_internal_strconv_uint64pow10), ("unicode/utf8.acceptRanges", laid_unicode_utf8_acceptRanges), ("strconv.ErrRange", laid_strconv_ErrRange), ("strconv.ErrSyntax", laid_strconv_ErrSyntax), ("disjoint/lexer.keywords", laid_disjoint_lexer_keywords), ("unicode/utf8.first", laid_unicode_utf8_first)] }
def ParserExpressionSaid : Prop := parserExpressionRow.holds Tryz.pinned (OpenSpec.ofChange parserExpressionSpec)

/-- ITS FALSE NEIGHBOUR: 'it returns false'. Refute it at one input. -/
def parserExpressionWrong : ChangeSpec := { name := "parserExpression", fn := fun _ => fun
  | [d] => { results := [.lit (.bool false)], args := [d] }
  | _ => none }
def ParserExpressionWrongFalsely : Prop := parserExpressionRow.holds Tryz.pinned (OpenSpec.ofChange parserExpressionWrong)

/-- 'disjointlaw11.ParserScript': WHATEVER THE INPUT: true; the input reads as it did. -/
def parserScriptSpec : ChangeSpec := { name := "parserScript", fn := fun _ => fun
  | [d] => { results := [.lit (.bool true)], args := [d] }
  | _ => none }
def parserScriptRow : OpenClaim := { program := "ytjigcpfjhfoheaagreatdoor", sum := "55faaf7f1024ee5aea5c5a8d1ba56c733012154300ea1566e7005d3846e55ac3", func := "disjoint/disjointlaw11.ParserScript", spec := "parserScript", inPlace := ["internal/bytealg.IndexByteString", "internal/bytealg.IndexString", "internal/abi.NoEscape", "internal/bytealg.MakeNoZero", "internal/bytealg.CountString"], unfollowed := true, recurses := true, named := ["disjoint/lexer.keywords", "strconv.ErrSyntax", "strconv.ErrRange", "internal/strconv.uint64pow10", "math/bits.deBruijn32tab", "math/bits.deBruijn64tab", "internal/bytealg.MaxLen", "unicode/utf8.first", "unicode/utf8.acceptRanges"], apart := false, laid := [("math/bits.deBruijn32tab", laid_math_bits_deBruijn32tab), ("math/bits.deBruijn64tab", laid_math_bits_deBruijn64tab), ("internal/strconv.uint64pow10", laid_internal_strconv_uint64pow10), ("unicode/utf8.acceptRanges", laid_unicode_utf8_acceptRanges), ("strconv.ErrRange", laid_strconv_ErrRange), ("strconv.ErrSyntax", laid_strconv_ErrSyntax), ("disjoint/lexer.keywords", laid_disjoint_lexer_keywords), ("unicode/utf8.first", laid_unicode_utf8_first)] }
def ParserScriptSaid : Prop := parserScriptRow.holds Tryz.pinned (OpenSpec.ofChange parserScriptSpec)

/-- ITS FALSE NEIGHBOUR: 'it returns false'. Refute it at one input. -/
def parserScriptWrong : ChangeSpec := { name := "parserScript", fn := fun _ => fun
  | [d] => { results := [.lit (.bool false)], args := [d] }
  | _ => none }
def ParserScriptWrongFalsely : Prop := parserScriptRow.holds Tryz.pinned (OpenSpec.ofChange parserScriptWrong)

/-- 'disjointlaw11.ParserRoundTrip': WHATEVER THE INPUT: true; the input reads as it did. -/
def parserRoundTripSpec : ChangeSpec := { name := "parserRoundTrip", fn := fun _ => fun
  | [d] => { results := [.lit (.bool true)], args := [d] }
  | _ => none }
def parserRoundTripRow : OpenClaim := { program := "ytjigcpfjhfoheaagreatdoor", sum := "55faaf7f1024ee5aea5c5a8d1ba56c733012154300ea1566e7005d3846e55ac3", func := "disjoint/disjointlaw11.ParserRoundTrip", spec := "parserRoundTrip", inPlace := ["internal/bytealg.IndexByteString", "internal/bytealg.IndexString", "internal/abi.NoEscape", "internal/bytealg.MakeNoZero", "internal/bytealg.CountString"], unfollowed := true, recurses := true, named := ["disjoint/lexer.keywords", "strconv.ErrSyntax", "strconv.ErrRange", "internal/strconv.uint64pow10", "math/bits.deBruijn32tab", "math/bits.deBruijn64tab", "internal/bytealg.MaxLen", "unicode/utf8.first", "unicode/utf8.acceptRanges"], loops := true, apart := false, laid := [("math/bits.deBruijn32tab", laid_math_bits_deBruijn32tab), ("math/bits.deBruijn64tab", laid_math_bits_deBruijn64tab), ("internal/strconv.uint64pow10", laid_internal_strconv_uint64pow10), ("unicode/utf8.acceptRanges", laid_unicode_utf8_acceptRanges), ("strconv.ErrRange", laid_strconv_ErrRange), ("strconv.ErrSyntax", laid_strconv_ErrSyntax), ("disjoint/lexer.keywords", laid_disjoint_lexer_keywords), ("unicode/utf8.first", laid_unicode_utf8_first)] }
def ParserRoundTripSaid : Prop := parserRoundTripRow.holds Tryz.pinned (OpenSpec.ofChange parserRoundTripSpec)

/-- ITS FALSE NEIGHBOUR: 'it returns false'. Refute it at one input. -/
def parserRoundTripWrong : ChangeSpec := { name := "parserRoundTrip", fn := fun _ => fun
  | [d] => { results := [.lit (.bool false)], args := [d] }
  | _ => none }
def ParserRoundTripWrongFalsely : Prop := parserRoundTripRow.holds Tryz.pinned (OpenSpec.ofChange parserRoundTripWrong)

/-- 'disjointlaw11.ParserRoundTripExpression': WHATEVER THE INPUT: true; the input reads as it did. -/
def parserRoundTripExpressionSpec : ChangeSpec := { name := "parserRoundTripExpression", fn := fun _ => fun
  | [d] => { results := [.lit (.bool true)], args := [d] }
  | _ => none }
def parserRoundTripExpressionRow : OpenClaim := { program := "ytjigcpfjhfoheaagreatdoor", sum := "55faaf7f1024ee5aea5c5a8d1ba56c733012154300ea1566e7005d3846e55ac3", func := "disjoint/disjointlaw11.ParserRoundTripExpression", spec := "parserRoundTripExpression", inPlace := ["internal/bytealg.IndexByteString", "internal/bytealg.IndexString", "internal/abi.NoEscape", "internal/bytealg.MakeNoZero", "internal/bytealg.CountString"], unfollowed := true, recurses := true, named := ["disjoint/lexer.keywords", "strconv.ErrSyntax", "strconv.ErrRange", "internal/strconv.uint64pow10", "math/bits.deBruijn32tab", "math/bits.deBruijn64tab", "internal/bytealg.MaxLen", "unicode/utf8.first", "unicode/utf8.acceptRanges"], loops := true, apart := false, laid := [("math/bits.deBruijn32tab", laid_math_bits_deBruijn32tab), ("math/bits.deBruijn64tab", laid_math_bits_deBruijn64tab), ("internal/strconv.uint64pow10", laid_internal_strconv_uint64pow10), ("unicode/utf8.acceptRanges", laid_unicode_utf8_acceptRanges), ("strconv.ErrRange", laid_strconv_ErrRange), ("strconv.ErrSyntax", laid_strconv_ErrSyntax), ("disjoint/lexer.keywords", laid_disjoint_lexer_keywords), ("unicode/utf8.first", laid_unicode_utf8_first)] }
def ParserRoundTripExpressionSaid : Prop := parserRoundTripExpressionRow.holds Tryz.pinned (OpenSpec.ofChange parserRoundTripExpressionSpec)

/-- ITS FALSE NEIGHBOUR: 'it returns false'. Refute it at one input. -/
def parserRoundTripExpressionWrong : ChangeSpec := { name := "parserRoundTripExpression", fn := fun _ => fun
  | [d] => { results := [.lit (.bool false)], args := [d] }
  | _ => none }
def ParserRoundTripExpressionWrongFalsely : Prop := parserRoundTripExpressionRow.holds Tryz.pinned (OpenSpec.ofChange parserRoundTripExpressionWrong)

/-- 'disjointlaw11.ParserPrefixes': WHATEVER THE INPUT: true; the input reads as it did. -/
def parserPrefixesSpec : ChangeSpec := { name := "parserPrefixes", fn := fun _ => fun
  | [d1, d2] => { results := [.lit (.bool true)], args := [d1, d2] }
  | _ => none }
def parserPrefixesRow : OpenClaim := { program := "ytjigcpfjhfoheaagreatdoor", sum := "55faaf7f1024ee5aea5c5a8d1ba56c733012154300ea1566e7005d3846e55ac3", func := "disjoint/disjointlaw11.ParserPrefixes", spec := "parserPrefixes", inPlace := ["internal/bytealg.IndexByteString", "internal/bytealg.IndexString", "internal/abi.NoEscape", "internal/bytealg.MakeNoZero", "internal/bytealg.CountString"], unfollowed := true, recurses := true, named := ["disjoint/lexer.keywords", "strconv.ErrSyntax", "strconv.ErrRange", "internal/strconv.uint64pow10", "math/bits.deBruijn32tab", "math/bits.deBruijn64tab", "internal/bytealg.MaxLen", "unicode/utf8.first", "unicode/utf8.acceptRanges"], loops := true, apart := false, laid := [("math/bits.deBruijn32tab", laid_math_bits_deBruijn32tab), ("math/bits.deBruijn64tab", laid_math_bits_deBruijn64tab), ("internal/strconv.uint64pow10", laid_internal_strconv_uint64pow10), ("unicode/utf8.acceptRanges", laid_unicode_utf8_acceptRanges), ("strconv.ErrRange", laid_strconv_ErrRange), ("strconv.ErrSyntax", laid_strconv_ErrSyntax), ("disjoint/lexer.keywords", laid_disjoint_lexer_keywords), ("unicode/utf8.first", laid_unicode_utf8_first)] }
def ParserPrefixesSaid : Prop := parserPrefixesRow.holds Tryz.pinned (OpenSpec.ofChange parserPrefixesSpec)

/-- ITS FALSE NEIGHBOUR: 'it returns false'. Refute it at one input. -/
def parserPrefixesWrong : ChangeSpec := { name := "parserPrefixes", fn := fun _ => fun
  | [d1, d2] => { results := [.lit (.bool false)], args := [d1, d2] }
  | _ => none }
def ParserPrefixesWrongFalsely : Prop := parserPrefixesRow.holds Tryz.pinned (OpenSpec.ofChange parserPrefixesWrong)

/-- 'disjointlaw11.ParserSpace': WHATEVER THE INPUT: true; the input reads as it did. -/
def parserSpaceSpec : ChangeSpec := { name := "parserSpace", fn := fun _ => fun
  | [d] => { results := [.lit (.bool true)], args := [d] }
  | _ => none }
def parserSpaceRow : OpenClaim := { program := "ytjigcpfjhfoheaagreatdoor", sum := "55faaf7f1024ee5aea5c5a8d1ba56c733012154300ea1566e7005d3846e55ac3", func := "disjoint/disjointlaw11.ParserSpace", spec := "parserSpace", inPlace := ["internal/bytealg.IndexByteString", "internal/bytealg.IndexString", "internal/abi.NoEscape", "internal/bytealg.MakeNoZero", "internal/bytealg.CountString"], unfollowed := true, recurses := true, named := ["disjoint/lexer.keywords", "strconv.ErrSyntax", "strconv.ErrRange", "internal/strconv.uint64pow10", "math/bits.deBruijn32tab", "math/bits.deBruijn64tab", "internal/bytealg.MaxLen", "unicode/utf8.first", "unicode/utf8.acceptRanges"], apart := false, laid := [("math/bits.deBruijn32tab", laid_math_bits_deBruijn32tab), ("math/bits.deBruijn64tab", laid_math_bits_deBruijn64tab), ("internal/strconv.uint64pow10", laid_internal_strconv_uint64pow10), ("unicode/utf8.acceptRanges", laid_unicode_utf8_acceptRanges), ("strconv.ErrRange", laid_strconv_ErrRange), ("strconv.ErrSyntax", laid_strconv_ErrSyntax), ("disjoint/lexer.keywords", laid_disjoint_lexer_keywords), ("unicode/utf8.first", laid_unicode_utf8_first)] }
def ParserSpaceSaid : Prop := parserSpaceRow.holds Tryz.pinned (OpenSpec.ofChange parserSpaceSpec)

/-- ITS FALSE NEIGHBOUR: 'it returns false'. Refute it at one input. -/
def parserSpaceWrong : ChangeSpec := { name := "parserSpace", fn := fun _ => fun
  | [d] => { results := [.lit (.bool false)], args := [d] }
  | _ => none }
def ParserSpaceWrongFalsely : Prop := parserSpaceRow.holds Tryz.pinned (OpenSpec.ofChange parserSpaceWrong)

/-- 'disjointlaw11.ParserScriptJoins': WHATEVER THE INPUT: true; the input reads as it did. -/
def parserScriptJoinsSpec : ChangeSpec := { name := "parserScriptJoins", fn := fun _ => fun
  | [d] => { results := [.lit (.bool true)], args := [d] }
  | _ => none }
def parserScriptJoinsRow : OpenClaim := { program := "ytjigcpfjhfoheaagreatdoor", sum := "55faaf7f1024ee5aea5c5a8d1ba56c733012154300ea1566e7005d3846e55ac3", func := "disjoint/disjointlaw11.ParserScriptJoins", spec := "parserScriptJoins", inPlace := ["internal/bytealg.IndexByteString", "internal/bytealg.IndexString", "internal/abi.NoEscape", "internal/bytealg.MakeNoZero", "internal/bytealg.CountString"], unfollowed := true, recurses := true, named := ["disjoint/lexer.keywords", "strconv.ErrSyntax", "strconv.ErrRange", "internal/strconv.uint64pow10", "math/bits.deBruijn32tab", "math/bits.deBruijn64tab", "internal/bytealg.MaxLen", "unicode/utf8.first", "unicode/utf8.acceptRanges"], loops := true, apart := false, laid := [("math/bits.deBruijn32tab", laid_math_bits_deBruijn32tab), ("math/bits.deBruijn64tab", laid_math_bits_deBruijn64tab), ("internal/strconv.uint64pow10", laid_internal_strconv_uint64pow10), ("unicode/utf8.acceptRanges", laid_unicode_utf8_acceptRanges), ("strconv.ErrRange", laid_strconv_ErrRange), ("strconv.ErrSyntax", laid_strconv_ErrSyntax), ("disjoint/lexer.keywords", laid_disjoint_lexer_keywords), ("unicode/utf8.first", laid_unicode_utf8_first)] }
def ParserScriptJoinsSaid : Prop := parserScriptJoinsRow.holds Tryz.pinned (OpenSpec.ofChange parserScriptJoinsSpec)

/-- ITS FALSE NEIGHBOUR: 'it returns false'. Refute it at one input. -/
def parserScriptJoinsWrong : ChangeSpec := { name := "parserScriptJoins", fn := fun _ => fun
  | [d] => { results := [.lit (.bool false)], args := [d] }
  | _ => none }
def ParserScriptJoinsWrongFalsely : Prop := parserScriptJoinsRow.holds Tryz.pinned (OpenSpec.ofChange parserScriptJoinsWrong)

/- THE SECOND FORM. 'bulk': how many values and letters a reading holds, each counted each time it is reached (what is shared counts as often as it is met; a slice's spare places count too). A statement '..UptoSaid' is the law's where the arguments, and the package variables that the reading takes, are together of bulk at most 1048576: NARROWER than '..Said'. Prove '..Said' where nothing that the law and all that it calls make is longer than what came in: it says more and counts as full. Else prove '..UptoSaid'. A law counts once. -/
mutual
def uptoBulk {H : Type} : DataW H → Nat
  | .lit (.string bytes) => bytes.length + 1
  | .lit _ => 1
  | .nil => 1
  | .ptr d => uptoBulk d + 1
  | .slice elems spare => uptoBulkAll elems + uptoBulkAll spare + 1
  | .agg parts => uptoBulkAll parts + 1
  | .iface _ d => uptoBulk d + 1
  | .map entries => uptoBulkEntries entries + 1
  | .held _ => 1
def uptoBulkAll {H : Type} : List (DataW H) → Nat
  | [] => 0
  | d :: r => uptoBulk d + uptoBulkAll r
def uptoBulkEntries {H : Type} : List (Lit × DataW H) → Nat
  | [] => 0
  | x :: r => uptoBulkEntry x + uptoBulkEntries r
def uptoBulkEntry {H : Type} : Lit × DataW H → Nat
  | (.string bytes, d) => bytes.length + uptoBulk d + 1
  | (_, d) => uptoBulk d + 1
 end
def uptoSmall : (H : Type) → List (DataW H) → Bool := fun _ ds => decide (uptoBulkAll ds ≤ 1048576)
def OpenSpec.upto (s : _root_.Go.ChangeSpec) : _root_.Go.OpenSpec := { _root_.Go.OpenSpec.ofChange s with cond := some uptoSmall }

/-- 'disjointlaw11.ParserStatement', WHERE WHAT IT READS IS OF BULK AT MOST 1048576: true; the input reads as it did. -/
def parserStatementUptoRow : OpenClaim := { program := "ytjigcpfjhfoheaagreatdoor", sum := "55faaf7f1024ee5aea5c5a8d1ba56c733012154300ea1566e7005d3846e55ac3", func := "disjoint/disjointlaw11.ParserStatement", spec := "parserStatement", inPlace := ["internal/bytealg.IndexByteString", "internal/bytealg.IndexString", "internal/abi.NoEscape", "internal/bytealg.MakeNoZero", "internal/bytealg.CountString"], unfollowed := true, recurses := true, named := ["disjoint/lexer.keywords", "strconv.ErrSyntax", "strconv.ErrRange", "internal/strconv.uint64pow10", "math/bits.deBruijn32tab", "math/bits.deBruijn64tab", "internal/bytealg.MaxLen", "unicode/utf8.first", "unicode/utf8.acceptRanges"], apart := false, laid := [("math/bits.deBruijn32tab", laid_math_bits_deBruijn32tab), ("math/bits.deBruijn64tab", laid_math_bits_deBruijn64tab), ("internal/strconv.uint64pow10", laid_internal_strconv_uint64pow10), ("unicode/utf8.acceptRanges", laid_unicode_utf8_acceptRanges), ("strconv.ErrRange", laid_strconv_ErrRange), ("strconv.ErrSyntax", laid_strconv_ErrSyntax), ("disjoint/lexer.keywords", laid_disjoint_lexer_keywords), ("unicode/utf8.first", laid_unicode_utf8_first)], narrowed := true }
def ParserStatementUptoSaid : Prop := parserStatementUptoRow.holds Tryz.pinned (OpenSpec.upto parserStatementSpec)

/-- 'disjointlaw11.ParserExpression', WHERE WHAT IT READS IS OF BULK AT MOST 1048576: true; the input reads as it did. -/
def parserExpressionUptoRow : OpenClaim := { program := "ytjigcpfjhfoheaagreatdoor", sum := "55faaf7f1024ee5aea5c5a8d1ba56c733012154300ea1566e7005d3846e55ac3", func := "disjoint/disjointlaw11.ParserExpression", spec := "parserExpression", inPlace := ["internal/bytealg.IndexByteString", "internal/bytealg.IndexString", "internal/abi.NoEscape", "internal/bytealg.MakeNoZero", "internal/bytealg.CountString"], unfollowed := true, recurses := true, named := ["disjoint/lexer.keywords", "strconv.ErrSyntax", "strconv.ErrRange", "internal/strconv.uint64pow10", "math/bits.deBruijn32tab", "math/bits.deBruijn64tab", "internal/bytealg.MaxLen", "unicode/utf8.first", "unicode/utf8.acceptRanges"], apart := false, laid := [("math/bits.deBruijn32tab", laid_math_bits_deBruijn32tab), ("math/bits.deBruijn64tab", laid_math_bits_deBruijn64tab), ("internal/strconv.uint64pow10", laid_internal_strconv_uint64pow10), ("unicode/utf8.acceptRanges", laid_unicode_utf8_acceptRanges), ("strconv.ErrRange", laid_strconv_ErrRange), ("strconv.ErrSyntax", laid_strconv_ErrSyntax), ("disjoint/lexer.keywords", laid_disjoint_lexer_keywords), ("unicode/utf8.first", laid_unicode_utf8_first)], narrowed := true }
def ParserExpressionUptoSaid : Prop := parserExpressionUptoRow.holds Tryz.pinned (OpenSpec.upto parserExpressionSpec)

/-- 'disjointlaw11.ParserScript', WHERE WHAT IT READS IS OF BULK AT MOST 1048576: true; the input reads as it did. -/
def parserScriptUptoRow : OpenClaim := { program := "ytjigcpfjhfoheaagreatdoor", sum := "55faaf7f1024ee5aea5c5a8d1ba56c733012154300ea1566e7005d3846e55ac3", func := "disjoint/disjointlaw11.ParserScript", spec := "parserScript", inPlace := ["internal/bytealg.IndexByteString", "internal/bytealg.IndexString", "internal/abi.NoEscape", "internal/bytealg.MakeNoZero", "internal/bytealg.CountString"], unfollowed := true, recurses := true, named := ["disjoint/lexer.keywords", "strconv.ErrSyntax", "strconv.ErrRange", "internal/strconv.uint64pow10", "math/bits.deBruijn32tab", "math/bits.deBruijn64tab", "internal/bytealg.MaxLen", "unicode/utf8.first", "unicode/utf8.acceptRanges"], apart := false, laid := [("math/bits.deBruijn32tab", laid_math_bits_deBruijn32tab), ("math/bits.deBruijn64tab", laid_math_bits_deBruijn64tab), ("internal/strconv.uint64pow10", laid_internal_strconv_uint64pow10), ("unicode/utf8.acceptRanges", laid_unicode_utf8_acceptRanges), ("strconv.ErrRange", laid_strconv_ErrRange), ("strconv.ErrSyntax", laid_strconv_ErrSyntax), ("disjoint/lexer.keywords", laid_disjoint_lexer_keywords), ("unicode/utf8.first", laid_unicode_utf8_first)], narrowed := true }
def ParserScriptUptoSaid : Prop := parserScriptUptoRow.holds Tryz.pinned (OpenSpec.upto parserScriptSpec)

/-- 'disjointlaw11.ParserRoundTrip', WHERE WHAT IT READS IS OF BULK AT MOST 1048576: true; the input reads as it did. -/
def parserRoundTripUptoRow : OpenClaim := { program := "ytjigcpfjhfoheaagreatdoor", sum := "55faaf7f1024ee5aea5c5a8d1ba56c733012154300ea1566e7005d3846e55ac3", func := "disjoint/disjointlaw11.ParserRoundTrip", spec := "parserRoundTrip", inPlace := ["internal/bytealg.IndexByteString", "internal/bytealg.IndexString", "internal/abi.NoEscape", "internal/bytealg.MakeNoZero", "internal/bytealg.CountString"], unfollowed := true, recurses := true, named := ["disjoint/lexer.keywords", "strconv.ErrSyntax", "strconv.ErrRange", "internal/strconv.uint64pow10", "math/bits.deBruijn32tab", "math/bits.deBruijn64tab", "internal/bytealg.MaxLen", "unicode/utf8.first", "unicode/utf8.acceptRanges"], loops := true, apart := false, laid := [("math/bits.deBruijn32tab", laid_math_bits_deBruijn32tab), ("math/bits.deBruijn64tab", laid_math_bits_deBruijn64tab), ("internal/strconv.uint64pow10", laid_internal_strconv_uint64pow10), ("unicode/utf8.acceptRanges", laid_unicode_utf8_acceptRanges), ("strconv.ErrRange", laid_strconv_ErrRange), ("strconv.ErrSyntax", laid_strconv_ErrSyntax), ("disjoint/lexer.keywords", laid_disjoint_lexer_keywords), ("unicode/utf8.first", laid_unicode_utf8_first)], narrowed := true }
def ParserRoundTripUptoSaid : Prop := parserRoundTripUptoRow.holds Tryz.pinned (OpenSpec.upto parserRoundTripSpec)

/-- 'disjointlaw11.ParserRoundTripExpression', WHERE WHAT IT READS IS OF BULK AT MOST 1048576: true; the input reads as it did. -/
def parserRoundTripExpressionUptoRow : OpenClaim := { program := "ytjigcpfjhfoheaagreatdoor", sum := "55faaf7f1024ee5aea5c5a8d1ba56c733012154300ea1566e7005d3846e55ac3", func := "disjoint/disjointlaw11.ParserRoundTripExpression", spec := "parserRoundTripExpression", inPlace := ["internal/bytealg.IndexByteString", "internal/bytealg.IndexString", "internal/abi.NoEscape", "internal/bytealg.MakeNoZero", "internal/bytealg.CountString"], unfollowed := true, recurses := true, named := ["disjoint/lexer.keywords", "strconv.ErrSyntax", "strconv.ErrRange", "internal/strconv.uint64pow10", "math/bits.deBruijn32tab", "math/bits.deBruijn64tab", "internal/bytealg.MaxLen", "unicode/utf8.first", "unicode/utf8.acceptRanges"], loops := true, apart := false, laid := [("math/bits.deBruijn32tab", laid_math_bits_deBruijn32tab), ("math/bits.deBruijn64tab", laid_math_bits_deBruijn64tab), ("internal/strconv.uint64pow10", laid_internal_strconv_uint64pow10), ("unicode/utf8.acceptRanges", laid_unicode_utf8_acceptRanges), ("strconv.ErrRange", laid_strconv_ErrRange), ("strconv.ErrSyntax", laid_strconv_ErrSyntax), ("disjoint/lexer.keywords", laid_disjoint_lexer_keywords), ("unicode/utf8.first", laid_unicode_utf8_first)], narrowed := true }
def ParserRoundTripExpressionUptoSaid : Prop := parserRoundTripExpressionUptoRow.holds Tryz.pinned (OpenSpec.upto parserRoundTripExpressionSpec)

/-- 'disjointlaw11.ParserPrefixes', WHERE WHAT IT READS IS OF BULK AT MOST 1048576: true; the input reads as it did. -/
def parserPrefixesUptoRow : OpenClaim := { program := "ytjigcpfjhfoheaagreatdoor", sum := "55faaf7f1024ee5aea5c5a8d1ba56c733012154300ea1566e7005d3846e55ac3", func := "disjoint/disjointlaw11.ParserPrefixes", spec := "parserPrefixes", inPlace := ["internal/bytealg.IndexByteString", "internal/bytealg.IndexString", "internal/abi.NoEscape", "internal/bytealg.MakeNoZero", "internal/bytealg.CountString"], unfollowed := true, recurses := true, named := ["disjoint/lexer.keywords", "strconv.ErrSyntax", "strconv.ErrRange", "internal/strconv.uint64pow10", "math/bits.deBruijn32tab", "math/bits.deBruijn64tab", "internal/bytealg.MaxLen", "unicode/utf8.first", "unicode/utf8.acceptRanges"], loops := true, apart := false, laid := [("math/bits.deBruijn32tab", laid_math_bits_deBruijn32tab), ("math/bits.deBruijn64tab", laid_math_bits_deBruijn64tab), ("internal/strconv.uint64pow10", laid_internal_strconv_uint64pow10), ("unicode/utf8.acceptRanges", laid_unicode_utf8_acceptRanges), ("strconv.ErrRange", laid_strconv_ErrRange), ("strconv.ErrSyntax", laid_strconv_ErrSyntax), ("disjoint/lexer.keywords", laid_disjoint_lexer_keywords), ("unicode/utf8.first", laid_unicode_utf8_first)], narrowed := true }
def ParserPrefixesUptoSaid : Prop := parserPrefixesUptoRow.holds Tryz.pinned (OpenSpec.upto parserPrefixesSpec)

/-- 'disjointlaw11.ParserSpace', WHERE WHAT IT READS IS OF BULK AT MOST 1048576: true; the input reads as it did. -/
def parserSpaceUptoRow : OpenClaim := { program := "ytjigcpfjhfoheaagreatdoor", sum := "55faaf7f1024ee5aea5c5a8d1ba56c733012154300ea1566e7005d3846e55ac3", func := "disjoint/disjointlaw11.ParserSpace", spec := "parserSpace", inPlace := ["internal/bytealg.IndexByteString", "internal/bytealg.IndexString", "internal/abi.NoEscape", "internal/bytealg.MakeNoZero", "internal/bytealg.CountString"], unfollowed := true, recurses := true, named := ["disjoint/lexer.keywords", "strconv.ErrSyntax", "strconv.ErrRange", "internal/strconv.uint64pow10", "math/bits.deBruijn32tab", "math/bits.deBruijn64tab", "internal/bytealg.MaxLen", "unicode/utf8.first", "unicode/utf8.acceptRanges"], apart := false, laid := [("math/bits.deBruijn32tab", laid_math_bits_deBruijn32tab), ("math/bits.deBruijn64tab", laid_math_bits_deBruijn64tab), ("internal/strconv.uint64pow10", laid_internal_strconv_uint64pow10), ("unicode/utf8.acceptRanges", laid_unicode_utf8_acceptRanges), ("strconv.ErrRange", laid_strconv_ErrRange), ("strconv.ErrSyntax", laid_strconv_ErrSyntax), ("disjoint/lexer.keywords", laid_disjoint_lexer_keywords), ("unicode/utf8.first", laid_unicode_utf8_first)], narrowed := true }
def ParserSpaceUptoSaid : Prop := parserSpaceUptoRow.holds Tryz.pinned (OpenSpec.upto parserSpaceSpec)

/-- 'disjointlaw11.ParserScriptJoins', WHERE WHAT IT READS IS OF BULK AT MOST 1048576: true; the input reads as it did. -/
def parserScriptJoinsUptoRow : OpenClaim := { program := "ytjigcpfjhfoheaagreatdoor", sum := "55faaf7f1024ee5aea5c5a8d1ba56c733012154300ea1566e7005d3846e55ac3", func := "disjoint/disjointlaw11.ParserScriptJoins", spec := "parserScriptJoins", inPlace := ["internal/bytealg.IndexByteString", "internal/bytealg.IndexString", "internal/abi.NoEscape", "internal/bytealg.MakeNoZero", "internal/bytealg.CountString"], unfollowed := true, recurses := true, named := ["disjoint/lexer.keywords", "strconv.ErrSyntax", "strconv.ErrRange", "internal/strconv.uint64pow10", "math/bits.deBruijn32tab", "math/bits.deBruijn64tab", "internal/bytealg.MaxLen", "unicode/utf8.first", "unicode/utf8.acceptRanges"], loops := true, apart := false, laid := [("math/bits.deBruijn32tab", laid_math_bits_deBruijn32tab), ("math/bits.deBruijn64tab", laid_math_bits_deBruijn64tab), ("internal/strconv.uint64pow10", laid_internal_strconv_uint64pow10), ("unicode/utf8.acceptRanges", laid_unicode_utf8_acceptRanges), ("strconv.ErrRange", laid_strconv_ErrRange), ("strconv.ErrSyntax", laid_strconv_ErrSyntax), ("disjoint/lexer.keywords", laid_disjoint_lexer_keywords), ("unicode/utf8.first", laid_unicode_utf8_first)], narrowed := true }
def ParserScriptJoinsUptoSaid : Prop := parserScriptJoinsUptoRow.holds Tryz.pinned (OpenSpec.upto parserScriptJoinsSpec)

end Rows
end Go.Proofs.YtjigcpfjhfoheaaGreatDoor
