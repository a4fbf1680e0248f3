/-
  NARROWER THAN 'FOR EVERY INPUT', by the rows' own cells (each row's printed sentence says how): RequestsRules: laid · RequestsEncodes: laid · RequestsDecodes: laid · RequestsTexts: laid · RequestsOne: laid · RequestsRound: laid · RequestsLines: laid · RequestsKnown: laid · RequestsOps: laid.
  DERIVED. THE GIVEN ROWS OF THIS SEAT. 9 by the template 'for every input the law returns true; each argument reads behind the call as it read before'; 0 by the template 'total and deterministic' (their statements: YtckbomkcnmcdaaaGreatDoorTotals.lean).
  GIVEN WITH THE SEED: the statements are not yours to turn. If you find one false, say at which input.
  Laid BY PROGRAM, IN A SANDBOX (cutbox-rows.mjs): the forced cells as the released guide's own fill.sh prints them over the translation ea2176ca1809f5d0… (all of the seat's roots in one cut). By AI agents, Wed Nov 11 2026. No macro, syntax, notation, axiom, sorry.
-/
import Derived.Test.YtckbomkcnmcdaaaGreatDoorChecked
import GoSem.PinnedTables
import GoSem.Claim
import GoSem.ClaimJoined
import GoSem.ClaimMapViews
import Derived.JoinedTies
import Derived.KernelRfl
namespace Go.Proofs.YtckbomkcnmcdaaaGreatDoor
/- THE CELL 'sum', in the pinned program and in every row, IS THE sha256 OF THE DUMP (.gsa) THAT YtckbomkcnmcdaaaGreatDoorProg.lean LOADS. Nothing in Lean hashes anything: it is a label: what it is worth is what the hold of that sum in a sandbox is worth. -/
noncomputable def Tryz.pinned : Pinned := { name := "ytckbomkcnmcdaaagreatdoor", sum := "ea2176ca1809f5d08aae3f6db76f951b11671c73eca5242c6da65ccfbd18d3b6", checked := Tryz.checked }
namespace Rows
def none {H : Type} : Left H := { results := [], args := [] }

/- WHAT THE LISTED PACKAGE-LEVEL VARIABLES READ AS WHEN THE CALL BEGINS. Each datum BY PROGRAM (the guide's laid-datum.mjs) off the statement by which the dump's own 'gosem.cut.vars' lays the variable. In a bare row this is a premise. The card (YtckbomkcnmcdaaaGreatDoorCards.lean) ties it to the program's text. -/
def laid_math_bits_deBruijn32tab {H : Type} : DataW H := .agg [.lit (.int .u8 0), .lit (.int .u8 1), .lit (.int .u8 28), .lit (.int .u8 2), .lit (.int .u8 29), .lit (.int .u8 14), .lit (.int .u8 24), .lit (.int .u8 3), .lit (.int .u8 30), .lit (.int .u8 22), .lit (.int .u8 20), .lit (.int .u8 15), .lit (.int .u8 25), .lit (.int .u8 17), .lit (.int .u8 4), .lit (.int .u8 8), .lit (.int .u8 31), .lit (.int .u8 27), .lit (.int .u8 13), .lit (.int .u8 23), .lit (.int .u8 21), .lit (.int .u8 19), .lit (.int .u8 16), .lit (.int .u8 7), .lit (.int .u8 26), .lit (.int .u8 12), .lit (.int .u8 18), .lit (.int .u8 6), .lit (.int .u8 11), .lit (.int .u8 5), .lit (.int .u8 10), .lit (.int .u8 9)]
def laid_math_bits_deBruijn64tab {H : Type} : DataW H := .agg [.lit (.int .u8 0), .lit (.int .u8 1), .lit (.int .u8 56), .lit (.int .u8 2), .lit (.int .u8 57), .lit (.int .u8 49), .lit (.int .u8 28), .lit (.int .u8 3), .lit (.int .u8 61), .lit (.int .u8 58), .lit (.int .u8 42), .lit (.int .u8 50), .lit (.int .u8 38), .lit (.int .u8 29), .lit (.int .u8 17), .lit (.int .u8 4), .lit (.int .u8 62), .lit (.int .u8 47), .lit (.int .u8 59), .lit (.int .u8 36), .lit (.int .u8 45), .lit (.int .u8 43), .lit (.int .u8 51), .lit (.int .u8 22), .lit (.int .u8 53), .lit (.int .u8 39), .lit (.int .u8 33), .lit (.int .u8 30), .lit (.int .u8 24), .lit (.int .u8 18), .lit (.int .u8 12), .lit (.int .u8 5), .lit (.int .u8 63), .lit (.int .u8 55), .lit (.int .u8 48), .lit (.int .u8 27), .lit (.int .u8 60), .lit (.int .u8 41), .lit (.int .u8 37), .lit (.int .u8 16), .lit (.int .u8 46), .lit (.int .u8 35), .lit (.int .u8 44), .lit (.int .u8 21), .lit (.int .u8 52), .lit (.int .u8 32), .lit (.int .u8 23), .lit (.int .u8 11), .lit (.int .u8 54), .lit (.int .u8 26), .lit (.int .u8 40), .lit (.int .u8 15), .lit (.int .u8 34), .lit (.int .u8 20), .lit (.int .u8 31), .lit (.int .u8 10), .lit (.int .u8 25), .lit (.int .u8 14), .lit (.int .u8 19), .lit (.int .u8 9), .lit (.int .u8 13), .lit (.int .u8 8), .lit (.int .u8 7), .lit (.int .u8 6)]
def laid_internal_strconv_uint64pow10 {H : Type} : DataW H := .agg [.lit (.int .u64 1), .lit (.int .u64 10), .lit (.int .u64 100), .lit (.int .u64 1000), .lit (.int .u64 10000), .lit (.int .u64 100000), .lit (.int .u64 1000000), .lit (.int .u64 10000000), .lit (.int .u64 100000000), .lit (.int .u64 1000000000), .lit (.int .u64 10000000000), .lit (.int .u64 100000000000), .lit (.int .u64 1000000000000), .lit (.int .u64 10000000000000), .lit (.int .u64 100000000000000), .lit (.int .u64 1000000000000000), .lit (.int .u64 10000000000000000), .lit (.int .u64 100000000000000000), .lit (.int .u64 1000000000000000000), .lit (.int .u64 10000000000000000000)]
def laid_unicode_utf8_acceptRanges {H : Type} : DataW H := .agg [.agg [.lit (.int .u8 128), .lit (.int .u8 191)], .agg [.lit (.int .u8 160), .lit (.int .u8 191)], .agg [.lit (.int .u8 128), .lit (.int .u8 159)], .agg [.lit (.int .u8 144), .lit (.int .u8 191)], .agg [.lit (.int .u8 128), .lit (.int .u8 143)], .agg [.lit (.int .u8 0), .lit (.int .u8 0)], .agg [.lit (.int .u8 0), .lit (.int .u8 0)], .agg [.lit (.int .u8 0), .lit (.int .u8 0)], .agg [.lit (.int .u8 0), .lit (.int .u8 0)], .agg [.lit (.int .u8 0), .lit (.int .u8 0)], .agg [.lit (.int .u8 0), .lit (.int .u8 0)], .agg [.lit (.int .u8 0), .lit (.int .u8 0)], .agg [.lit (.int .u8 0), .lit (.int .u8 0)], .agg [.lit (.int .u8 0), .lit (.int .u8 0)], .agg [.lit (.int .u8 0), .lit (.int .u8 0)], .agg [.lit (.int .u8 0), .lit (.int .u8 0)]]
def laid_strconv_ErrRange {H : Type} : DataW H := .iface "*errors.errorString" (.ptr (.agg [.lit (.string [118, 97, 108, 117, 101, 32, 111, 117, 116, 32, 111, 102, 32, 114, 97, 110, 103, 101])]))
def laid_strconv_ErrSyntax {H : Type} : DataW H := .iface "*errors.errorString" (.ptr (.agg [.lit (.string [105, 110, 118, 97, 108, 105, 100, 32, 115, 121, 110, 116, 97, 120])]))
def laid_groundling_words_escapes {H : Type} : DataW H := .agg [.agg [.lit (.int .u8 34), .lit (.int .u8 34)], .agg [.lit (.int .u8 92), .lit (.int .u8 92)], .agg [.lit (.int .u8 10), .lit (.int .u8 110)], .agg [.lit (.int .u8 13), .lit (.int .u8 114)], .agg [.lit (.int .u8 9), .lit (.int .u8 116)]]
def laid_groundling_requests_names {H : Type} : DataW H := .agg [.lit (.string []), .lit (.string [111, 112, 101, 110]), .lit (.string [104, 111, 108, 100]), .lit (.string [98, 108, 111, 99, 107]), .lit (.string [114, 101, 108, 101, 97, 115, 101]), .lit (.string [98, 117, 121]), .lit (.string [116, 114, 97, 110, 115, 102, 101, 114]), .lit (.string [114, 101, 102, 117, 110, 100]), .lit (.string [114, 101, 118, 111, 107, 101]), .lit (.string [118, 97, 108, 105, 100, 97, 116, 101]), .lit (.string [106, 111, 105, 110]), .lit (.string [108, 101, 97, 118, 101]), .lit (.string []), .lit (.string [101, 110, 116, 101, 114])]
def laid_groundling_requests_masks {H : Type} : DataW H := .agg [.lit (.int .u16 0), .lit (.int .u16 6), .lit (.int .u16 42), .lit (.int .u16 202), .lit (.int .u16 42), .lit (.int .u16 42), .lit (.int .u16 282), .lit (.int .u16 26), .lit (.int .u16 42), .lit (.int .u16 18), .lit (.int .u16 74), .lit (.int .u16 74), .lit (.int .u16 0), .lit (.int .u16 530)]
/-- One of Go's own tables, pinned by name: the form's constant. -/
def laid_unicode_utf8_first : DataW Unit := Go.Pinned.utf8First

/-- 'groundlinglaw09.RequestsRules': WHATEVER THE INPUT: true; the input reads as it did. -/
def requestsRulesSpec : ChangeSpec := { name := "requestsRules", fn := fun _ => fun
  | [d] => { results := [.lit (.bool true)], args := [d] }
  | _ => none }
def requestsRulesRow : OpenClaim := { program := "ytckbomkcnmcdaaagreatdoor", sum := "ea2176ca1809f5d08aae3f6db76f951b11671c73eca5242c6da65ccfbd18d3b6", func := "groundling/groundlinglaw09.RequestsRules", spec := "requestsRules", inPlace := ["internal/bytealg.IndexByteString", "internal/bytealg.IndexString", "internal/abi.NoEscape", "internal/bytealg.MakeNoZero"], unfollowed := true, recurses := true, named := ["groundling/requests.masks", "groundling/requests.names", "groundling/words.escapes", "internal/bytealg.MaxLen", "unicode/utf8.first", "unicode/utf8.acceptRanges", "strconv.ErrSyntax", "strconv.ErrRange", "internal/strconv.uint64pow10", "math/bits.deBruijn32tab", "math/bits.deBruijn64tab"], apart := false, laid := [("math/bits.deBruijn32tab", laid_math_bits_deBruijn32tab), ("math/bits.deBruijn64tab", laid_math_bits_deBruijn64tab), ("internal/strconv.uint64pow10", laid_internal_strconv_uint64pow10), ("unicode/utf8.acceptRanges", laid_unicode_utf8_acceptRanges), ("strconv.ErrRange", laid_strconv_ErrRange), ("strconv.ErrSyntax", laid_strconv_ErrSyntax), ("groundling/words.escapes", laid_groundling_words_escapes), ("groundling/requests.names", laid_groundling_requests_names), ("groundling/requests.masks", laid_groundling_requests_masks), ("unicode/utf8.first", laid_unicode_utf8_first)] }
def RequestsRulesSaid : Prop := requestsRulesRow.holds Tryz.pinned (OpenSpec.ofChange requestsRulesSpec)

/-- ITS FALSE NEIGHBOUR: 'it returns false'. Refute it at one input. -/
def requestsRulesWrong : ChangeSpec := { name := "requestsRules", fn := fun _ => fun
  | [d] => { results := [.lit (.bool false)], args := [d] }
  | _ => none }
def RequestsRulesWrongFalsely : Prop := requestsRulesRow.holds Tryz.pinned (OpenSpec.ofChange requestsRulesWrong)

/-- 'groundlinglaw09.RequestsEncodes': WHATEVER THE INPUT: true; the input reads as it did. -/
def requestsEncodesSpec : ChangeSpec := { name := "requestsEncodes", fn := fun _ => fun
  | [d] => { results := [.lit (.bool true)], args := [d] }
  | _ => none }
def requestsEncodesRow : OpenClaim := { program := "ytckbomkcnmcdaaagreatdoor", sum := "ea2176ca1809f5d08aae3f6db76f951b11671c73eca5242c6da65ccfbd18d3b6", func := "groundling/groundlinglaw09.RequestsEncodes", spec := "requestsEncodes", inPlace := ["internal/bytealg.IndexByteString", "internal/bytealg.IndexString", "internal/abi.NoEscape", "internal/bytealg.MakeNoZero"], unfollowed := true, recurses := true, named := ["groundling/requests.masks", "groundling/requests.names", "groundling/words.escapes", "internal/bytealg.MaxLen", "unicode/utf8.first", "unicode/utf8.acceptRanges", "strconv.ErrSyntax", "strconv.ErrRange", "internal/strconv.uint64pow10", "math/bits.deBruijn32tab", "math/bits.deBruijn64tab"], apart := false, laid := [("math/bits.deBruijn32tab", laid_math_bits_deBruijn32tab), ("math/bits.deBruijn64tab", laid_math_bits_deBruijn64tab), ("internal/strconv.uint64pow10", laid_internal_strconv_uint64pow10), ("unicode/utf8.acceptRanges", laid_unicode_utf8_acceptRanges), ("strconv.ErrRange", laid_strconv_ErrRange), ("strconv.ErrSyntax", laid_strconv_ErrSyntax), ("groundling/words.escapes", laid_groundling_words_escapes), ("groundling/requests.names", laid_groundling_requests_names), ("groundling/requests.masks", laid_groundling_requests_masks), ("unicode/utf8.first", laid_unicode_utf8_first)] }
def RequestsEncodesSaid : Prop := requestsEncodesRow.holds Tryz.pinned (OpenSpec.ofChange requestsEncodesSpec)

/-- ITS FALSE NEIGHBOUR: 'it returns false'. Refute it at one input. -/
def requestsEncodesWrong : ChangeSpec := { name := "requestsEncodes", fn := fun _ => fun
  | [d] => { results := [.lit (.bool false)], args := [d] }
  | _ => none }
def RequestsEncodesWrongFalsely : Prop := requestsEncodesRow.holds Tryz.pinned (OpenSpec.ofChange requestsEncodesWrong)

/-- 'groundlinglaw09.RequestsDecodes': WHATEVER THE INPUT: true; the input reads as it did. -/
def requestsDecodesSpec : ChangeSpec := { name := "requestsDecodes", fn := fun _ => fun
  | [d] => { results := [.lit (.bool true)], args := [d] }
  | _ => none }
def requestsDecodesRow : OpenClaim := { program := "ytckbomkcnmcdaaagreatdoor", sum := "ea2176ca1809f5d08aae3f6db76f951b11671c73eca5242c6da65ccfbd18d3b6", func := "groundling/groundlinglaw09.RequestsDecodes", spec := "requestsDecodes", inPlace := ["internal/bytealg.IndexByteString", "internal/bytealg.IndexString", "internal/abi.NoEscape", "internal/bytealg.MakeNoZero"], unfollowed := true, recurses := true, named := ["groundling/requests.masks", "groundling/requests.names", "groundling/words.escapes", "internal/bytealg.MaxLen", "unicode/utf8.first", "unicode/utf8.acceptRanges", "strconv.ErrSyntax", "strconv.ErrRange", "internal/strconv.uint64pow10", "math/bits.deBruijn32tab", "math/bits.deBruijn64tab"], apart := false, laid := [("math/bits.deBruijn32tab", laid_math_bits_deBruijn32tab), ("math/bits.deBruijn64tab", laid_math_bits_deBruijn64tab), ("internal/strconv.uint64pow10", laid_internal_strconv_uint64pow10), ("unicode/utf8.acceptRanges", laid_unicode_utf8_acceptRanges), ("strconv.ErrRange", laid_strconv_ErrRange), ("strconv.ErrSyntax", laid_strconv_ErrSyntax), ("groundling/words.escapes", laid_groundling_words_escapes), ("groundling/requests.names", laid_groundling_requests_names), ("groundling/requests.masks", laid_groundling_requests_masks), ("unicode/utf8.first", laid_unicode_utf8_first)] }
def RequestsDecodesSaid : Prop := requestsDecodesRow.holds Tryz.pinned (OpenSpec.ofChange requestsDecodesSpec)

/-- ITS FALSE NEIGHBOUR: 'it returns false'. Refute it at one input. -/
def requestsDecodesWrong : ChangeSpec := { name := "requestsDecodes", fn := fun _ => fun
  | [d] => { results := [.lit (.bool false)], args := [d] }
  | _ => none }
def RequestsDecodesWrongFalsely : Prop := requestsDecodesRow.holds Tryz.pinned (OpenSpec.ofChange requestsDecodesWrong)

/-- 'groundlinglaw09.RequestsTexts': WHATEVER THE INPUT: true; the input reads as it did. -/
def requestsTextsSpec : ChangeSpec := { name := "requestsTexts", fn := fun _ => fun
  | [d1, d2] => { results := [.lit (.bool true)], args := [d1, d2] }
  | _ => none }
def requestsTextsRow : OpenClaim := { program := "ytckbomkcnmcdaaagreatdoor", sum := "ea2176ca1809f5d08aae3f6db76f951b11671c73eca5242c6da65ccfbd18d3b6", func := "groundling/groundlinglaw09.RequestsTexts", spec := "requestsTexts", inPlace := ["internal/bytealg.IndexByteString", "internal/bytealg.IndexString", "internal/abi.NoEscape", "internal/bytealg.MakeNoZero"], unfollowed := true, recurses := true, named := ["groundling/requests.masks", "groundling/requests.names", "groundling/words.escapes", "internal/bytealg.MaxLen", "unicode/utf8.first", "unicode/utf8.acceptRanges", "strconv.ErrSyntax", "strconv.ErrRange", "internal/strconv.uint64pow10", "math/bits.deBruijn32tab", "math/bits.deBruijn64tab"], apart := false, laid := [("math/bits.deBruijn32tab", laid_math_bits_deBruijn32tab), ("math/bits.deBruijn64tab", laid_math_bits_deBruijn64tab), ("internal/strconv.uint64pow10", laid_internal_strconv_uint64pow10), ("unicode/utf8.acceptRanges", laid_unicode_utf8_acceptRanges), ("strconv.ErrRange", laid_strconv_ErrRange), ("strconv.ErrSyntax", laid_strconv_ErrSyntax), ("groundling/words.escapes", laid_groundling_words_escapes), ("groundling/requests.names", laid_groundling_requests_names), ("groundling/requests.masks", laid_groundling_requests_masks), ("unicode/utf8.first", laid_unicode_utf8_first)] }
def RequestsTextsSaid : Prop := requestsTextsRow.holds Tryz.pinned (OpenSpec.ofChange requestsTextsSpec)

/-- ITS FALSE NEIGHBOUR: 'it returns false'. Refute it at one input. -/
def requestsTextsWrong : ChangeSpec := { name := "requestsTexts", fn := fun _ => fun
  | [d1, d2] => { results := [.lit (.bool false)], args := [d1, d2] }
  | _ => none }
def RequestsTextsWrongFalsely : Prop := requestsTextsRow.holds Tryz.pinned (OpenSpec.ofChange requestsTextsWrong)

/-- 'groundlinglaw09.RequestsOne': WHATEVER THE INPUT: true; the input reads as it did. -/
def requestsOneSpec : ChangeSpec := { name := "requestsOne", fn := fun _ => fun
  | [d] => { results := [.lit (.bool true)], args := [d] }
  | _ => none }
def requestsOneRow : OpenClaim := { program := "ytckbomkcnmcdaaagreatdoor", sum := "ea2176ca1809f5d08aae3f6db76f951b11671c73eca5242c6da65ccfbd18d3b6", func := "groundling/groundlinglaw09.RequestsOne", spec := "requestsOne", inPlace := ["internal/bytealg.IndexByteString", "internal/bytealg.IndexString", "internal/abi.NoEscape", "internal/bytealg.MakeNoZero"], unfollowed := true, recurses := true, named := ["groundling/requests.masks", "groundling/requests.names", "groundling/words.escapes", "internal/bytealg.MaxLen", "unicode/utf8.first", "unicode/utf8.acceptRanges", "strconv.ErrSyntax", "strconv.ErrRange", "internal/strconv.uint64pow10", "math/bits.deBruijn32tab", "math/bits.deBruijn64tab"], apart := false, laid := [("math/bits.deBruijn32tab", laid_math_bits_deBruijn32tab), ("math/bits.deBruijn64tab", laid_math_bits_deBruijn64tab), ("internal/strconv.uint64pow10", laid_internal_strconv_uint64pow10), ("unicode/utf8.acceptRanges", laid_unicode_utf8_acceptRanges), ("strconv.ErrRange", laid_strconv_ErrRange), ("strconv.ErrSyntax", laid_strconv_ErrSyntax), ("groundling/words.escapes", laid_groundling_words_escapes), ("groundling/requests.names", laid_groundling_requests_names), ("groundling/requests.masks", laid_groundling_requests_masks), ("unicode/utf8.first", laid_unicode_utf8_first)] }
def RequestsOneSaid : Prop := requestsOneRow.holds Tryz.pinned (OpenSpec.ofChange requestsOneSpec)

/-- ITS FALSE NEIGHBOUR: 'it returns false'. Refute it at one input. -/
def requestsOneWrong : ChangeSpec := { name := "requestsOne", fn := fun _ => fun
  | [d] => { results := [.lit (.bool false)], args := [d] }
  | _ => none }
def RequestsOneWrongFalsely : Prop := requestsOneRow.holds Tryz.pinned (OpenSpec.ofChange requestsOneWrong)

/-- 'groundlinglaw09.RequestsRound': WHATEVER THE INPUT: true; the input reads as it did. -/
def requestsRoundSpec : ChangeSpec := { name := "requestsRound", fn := fun _ => fun
  | [d1, d2, d3] => { results := [.lit (.bool true)], args := [d1, d2, d3] }
  | _ => none }
def requestsRoundRow : OpenClaim := { program := "ytckbomkcnmcdaaagreatdoor", sum := "ea2176ca1809f5d08aae3f6db76f951b11671c73eca5242c6da65ccfbd18d3b6", func := "groundling/groundlinglaw09.RequestsRound", spec := "requestsRound", inPlace := ["internal/bytealg.IndexByteString", "internal/bytealg.IndexString", "internal/abi.NoEscape", "internal/bytealg.MakeNoZero"], unfollowed := true, recurses := true, named := ["groundling/requests.masks", "groundling/requests.names", "groundling/words.escapes", "internal/bytealg.MaxLen", "unicode/utf8.first", "unicode/utf8.acceptRanges", "strconv.ErrSyntax", "strconv.ErrRange", "internal/strconv.uint64pow10", "math/bits.deBruijn32tab", "math/bits.deBruijn64tab"], apart := false, laid := [("math/bits.deBruijn32tab", laid_math_bits_deBruijn32tab), ("math/bits.deBruijn64tab", laid_math_bits_deBruijn64tab), ("internal/strconv.uint64pow10", laid_internal_strconv_uint64pow10), ("unicode/utf8.acceptRanges", laid_unicode_utf8_acceptRanges), ("strconv.ErrRange", laid_strconv_ErrRange), ("strconv.ErrSyntax", laid_strconv_ErrSyntax), ("groundling/words.escapes", laid_groundling_words_escapes), ("groundling/requests.names", laid_groundling_requests_names), ("groundling/requests.masks", laid_groundling_requests_masks), ("unicode/utf8.first", laid_unicode_utf8_first)] }
def RequestsRoundSaid : Prop := requestsRoundRow.holds Tryz.pinned (OpenSpec.ofChange requestsRoundSpec)

/-- ITS FALSE NEIGHBOUR: 'it returns false'. Refute it at one input. -/
def requestsRoundWrong : ChangeSpec := { name := "requestsRound", fn := fun _ => fun
  | [d1, d2, d3] => { results := [.lit (.bool false)], args := [d1, d2, d3] }
  | _ => none }
def RequestsRoundWrongFalsely : Prop := requestsRoundRow.holds Tryz.pinned (OpenSpec.ofChange requestsRoundWrong)

/-- 'groundlinglaw09.RequestsLines': WHATEVER THE INPUT: true; the input reads as it did. -/
def requestsLinesSpec : ChangeSpec := { name := "requestsLines", fn := fun _ => fun
  | [d1, d2] => { results := [.lit (.bool true)], args := [d1, d2] }
  | _ => none }
def requestsLinesRow : OpenClaim := { program := "ytckbomkcnmcdaaagreatdoor", sum := "ea2176ca1809f5d08aae3f6db76f951b11671c73eca5242c6da65ccfbd18d3b6", func := "groundling/groundlinglaw09.RequestsLines", spec := "requestsLines", inPlace := ["internal/bytealg.IndexByteString", "internal/bytealg.IndexString", "internal/abi.NoEscape", "internal/bytealg.MakeNoZero"], unfollowed := true, recurses := true, named := ["groundling/requests.masks", "groundling/requests.names", "groundling/words.escapes", "internal/bytealg.MaxLen", "unicode/utf8.first", "unicode/utf8.acceptRanges", "strconv.ErrSyntax", "strconv.ErrRange", "internal/strconv.uint64pow10", "math/bits.deBruijn32tab", "math/bits.deBruijn64tab"], apart := false, laid := [("math/bits.deBruijn32tab", laid_math_bits_deBruijn32tab), ("math/bits.deBruijn64tab", laid_math_bits_deBruijn64tab), ("internal/strconv.uint64pow10", laid_internal_strconv_uint64pow10), ("unicode/utf8.acceptRanges", laid_unicode_utf8_acceptRanges), ("strconv.ErrRange", laid_strconv_ErrRange), ("strconv.ErrSyntax", laid_strconv_ErrSyntax), ("groundling/words.escapes", laid_groundling_words_escapes), ("groundling/requests.names", laid_groundling_requests_names), ("groundling/requests.masks", laid_groundling_requests_masks), ("unicode/utf8.first", laid_unicode_utf8_first)] }
def RequestsLinesSaid : Prop := requestsLinesRow.holds Tryz.pinned (OpenSpec.ofChange requestsLinesSpec)

/-- ITS FALSE NEIGHBOUR: 'it returns false'. Refute it at one input. -/
def requestsLinesWrong : ChangeSpec := { name := "requestsLines", fn := fun _ => fun
  | [d1, d2] => { results := [.lit (.bool false)], args := [d1, d2] }
  | _ => none }
def RequestsLinesWrongFalsely : Prop := requestsLinesRow.holds Tryz.pinned (OpenSpec.ofChange requestsLinesWrong)

/-- 'groundlinglaw09.RequestsKnown': WHATEVER THE INPUT: true; the input reads as it did. -/
def requestsKnownSpec : ChangeSpec := { name := "requestsKnown", fn := fun _ => fun
  | [] => { results := [.lit (.bool true)], args := [] }
  | _ => none }
def requestsKnownRow : OpenClaim := { program := "ytckbomkcnmcdaaagreatdoor", sum := "ea2176ca1809f5d08aae3f6db76f951b11671c73eca5242c6da65ccfbd18d3b6", func := "groundling/groundlinglaw09.RequestsKnown", spec := "requestsKnown", inPlace := ["internal/bytealg.IndexByteString", "internal/bytealg.IndexString", "internal/abi.NoEscape", "internal/bytealg.MakeNoZero"], unfollowed := true, recurses := true, named := ["groundling/requests.masks", "groundling/requests.names", "groundling/words.escapes", "internal/bytealg.MaxLen", "unicode/utf8.first", "unicode/utf8.acceptRanges", "strconv.ErrSyntax", "strconv.ErrRange", "internal/strconv.uint64pow10", "math/bits.deBruijn32tab", "math/bits.deBruijn64tab"], apart := false, laid := [("math/bits.deBruijn32tab", laid_math_bits_deBruijn32tab), ("math/bits.deBruijn64tab", laid_math_bits_deBruijn64tab), ("internal/strconv.uint64pow10", laid_internal_strconv_uint64pow10), ("unicode/utf8.acceptRanges", laid_unicode_utf8_acceptRanges), ("strconv.ErrRange", laid_strconv_ErrRange), ("strconv.ErrSyntax", laid_strconv_ErrSyntax), ("groundling/words.escapes", laid_groundling_words_escapes), ("groundling/requests.names", laid_groundling_requests_names), ("groundling/requests.masks", laid_groundling_requests_masks), ("unicode/utf8.first", laid_unicode_utf8_first)] }
def RequestsKnownSaid : Prop := requestsKnownRow.holds Tryz.pinned (OpenSpec.ofChange requestsKnownSpec)

/-- ITS FALSE NEIGHBOUR: 'it returns false'. Refute it at one input. -/
def requestsKnownWrong : ChangeSpec := { name := "requestsKnown", fn := fun _ => fun
  | [] => { results := [.lit (.bool false)], args := [] }
  | _ => none }
def RequestsKnownWrongFalsely : Prop := requestsKnownRow.holds Tryz.pinned (OpenSpec.ofChange requestsKnownWrong)

/-- 'groundlinglaw09.RequestsOps': WHATEVER THE INPUT: true; the input reads as it did. -/
def requestsOpsSpec : ChangeSpec := { name := "requestsOps", fn := fun _ => fun
  | [d1, d2, d3] => { results := [.lit (.bool true)], args := [d1, d2, d3] }
  | _ => none }
def requestsOpsRow : OpenClaim := { program := "ytckbomkcnmcdaaagreatdoor", sum := "ea2176ca1809f5d08aae3f6db76f951b11671c73eca5242c6da65ccfbd18d3b6", func := "groundling/groundlinglaw09.RequestsOps", spec := "requestsOps", inPlace := ["internal/bytealg.IndexByteString", "internal/bytealg.IndexString", "internal/abi.NoEscape", "internal/bytealg.MakeNoZero"], unfollowed := true, recurses := true, named := ["groundling/requests.masks", "groundling/requests.names", "groundling/words.escapes", "internal/bytealg.MaxLen", "unicode/utf8.first", "unicode/utf8.acceptRanges", "strconv.ErrSyntax", "strconv.ErrRange", "internal/strconv.uint64pow10", "math/bits.deBruijn32tab", "math/bits.deBruijn64tab"], apart := false, laid := [("math/bits.deBruijn32tab", laid_math_bits_deBruijn32tab), ("math/bits.deBruijn64tab", laid_math_bits_deBruijn64tab), ("internal/strconv.uint64pow10", laid_internal_strconv_uint64pow10), ("unicode/utf8.acceptRanges", laid_unicode_utf8_acceptRanges), ("strconv.ErrRange", laid_strconv_ErrRange), ("strconv.ErrSyntax", laid_strconv_ErrSyntax), ("groundling/words.escapes", laid_groundling_words_escapes), ("groundling/requests.names", laid_groundling_requests_names), ("groundling/requests.masks", laid_groundling_requests_masks), ("unicode/utf8.first", laid_unicode_utf8_first)] }
def RequestsOpsSaid : Prop := requestsOpsRow.holds Tryz.pinned (OpenSpec.ofChange requestsOpsSpec)

/-- ITS FALSE NEIGHBOUR: 'it returns false'. Refute it at one input. -/
def requestsOpsWrong : ChangeSpec := { name := "requestsOps", fn := fun _ => fun
  | [d1, d2, d3] => { results := [.lit (.bool false)], args := [d1, d2, d3] }
  | _ => none }
def RequestsOpsWrongFalsely : Prop := requestsOpsRow.holds Tryz.pinned (OpenSpec.ofChange requestsOpsWrong)

/- THE SECOND FORM. 'bulk': how many values and letters a reading holds, each counted each time it is reached (what is shared counts as often as it is met; a slice's spare places count too). A statement '..UptoSaid' is the law's where the arguments, and the package variables that the reading takes, are together of bulk at most 1048576: NARROWER than '..Said'. Prove '..Said' where nothing that the law and all that it calls make is longer than what came in: it says more and counts as full. Else prove '..UptoSaid'. A law counts once. -/
mutual
def uptoBulk {H : Type} : DataW H → Nat
  | .lit (.string bytes) => bytes.length + 1
  | .lit _ => 1
  | .nil => 1
  | .ptr d => uptoBulk d + 1
  | .slice elems spare => uptoBulkAll elems + uptoBulkAll spare + 1
  | .agg parts => uptoBulkAll parts + 1
  | .iface _ d => uptoBulk d + 1
  | .map entries => uptoBulkEntries entries + 1
  | .held _ => 1
def uptoBulkAll {H : Type} : List (DataW H) → Nat
  | [] => 0
  | d :: r => uptoBulk d + uptoBulkAll r
def uptoBulkEntries {H : Type} : List (Lit × DataW H) → Nat
  | [] => 0
  | x :: r => uptoBulkEntry x + uptoBulkEntries r
def uptoBulkEntry {H : Type} : Lit × DataW H → Nat
  | (.string bytes, d) => bytes.length + uptoBulk d + 1
  | (_, d) => uptoBulk d + 1
 end
def uptoSmall : (H : Type) → List (DataW H) → Bool := fun _ ds => decide (uptoBulkAll ds ≤ 1048576)
def OpenSpec.upto (s : _root_.Go.ChangeSpec) : _root_.Go.OpenSpec := { _root_.Go.OpenSpec.ofChange s with cond := some uptoSmall }

/-- 'groundlinglaw09.RequestsRules', WHERE WHAT IT READS IS OF BULK AT MOST 1048576: true; the input reads as it did. -/
def requestsRulesUptoRow : OpenClaim := { program := "ytckbomkcnmcdaaagreatdoor", sum := "ea2176ca1809f5d08aae3f6db76f951b11671c73eca5242c6da65ccfbd18d3b6", func := "groundling/groundlinglaw09.RequestsRules", spec := "requestsRules", inPlace := ["internal/bytealg.IndexByteString", "internal/bytealg.IndexString", "internal/abi.NoEscape", "internal/bytealg.MakeNoZero"], unfollowed := true, recurses := true, named := ["groundling/requests.masks", "groundling/requests.names", "groundling/words.escapes", "internal/bytealg.MaxLen", "unicode/utf8.first", "unicode/utf8.acceptRanges", "strconv.ErrSyntax", "strconv.ErrRange", "internal/strconv.uint64pow10", "math/bits.deBruijn32tab", "math/bits.deBruijn64tab"], apart := false, laid := [("math/bits.deBruijn32tab", laid_math_bits_deBruijn32tab), ("math/bits.deBruijn64tab", laid_math_bits_deBruijn64tab), ("internal/strconv.uint64pow10", laid_internal_strconv_uint64pow10), ("unicode/utf8.acceptRanges", laid_unicode_utf8_acceptRanges), ("strconv.ErrRange", laid_strconv_ErrRange), ("strconv.ErrSyntax", laid_strconv_ErrSyntax), ("groundling/words.escapes", laid_groundling_words_escapes), ("groundling/requests.names", laid_groundling_requests_names), ("groundling/requests.masks", laid_groundling_requests_masks), ("unicode/utf8.first", laid_unicode_utf8_first)], narrowed := true }
def RequestsRulesUptoSaid : Prop := requestsRulesUptoRow.holds Tryz.pinned (OpenSpec.upto requestsRulesSpec)

/-- 'groundlinglaw09.RequestsEncodes', WHERE WHAT IT READS IS OF BULK AT MOST 1048576: true; the input reads as it did. -/
def requestsEncodesUptoRow : OpenClaim := { program := "ytckbomkcnmcdaaagreatdoor", sum := "ea2176ca1809f5d08aae3f6db76f951b11671c73eca5242c6da65ccfbd18d3b6", func := "groundling/groundlinglaw09.RequestsEncodes", spec := "requestsEncodes", inPlace := ["internal/bytealg.IndexByteString", "internal/bytealg.IndexString", "internal/abi.NoEscape", "internal/bytealg.MakeNoZero"], unfollowed := true, recurses := true, named := ["groundling/requests.masks", "groundling/requests.names", "groundling/words.escapes", "internal/bytealg.MaxLen", "unicode/utf8.first", "unicode/utf8.acceptRanges", "strconv.ErrSyntax", "strconv.ErrRange", "internal/strconv.uint64pow10", "math/bits.deBruijn32tab", "math/bits.deBruijn64tab"], apart := false, laid := [("math/bits.deBruijn32tab", laid_math_bits_deBruijn32tab), ("math/bits.deBruijn64tab", laid_math_bits_deBruijn64tab), ("internal/strconv.uint64pow10", laid_internal_strconv_uint64pow10), ("unicode/utf8.acceptRanges", laid_unicode_utf8_acceptRanges), ("strconv.ErrRange", laid_strconv_ErrRange), ("strconv.ErrSyntax", laid_strconv_ErrSyntax), ("groundling/words.escapes", laid_groundling_words_escapes), ("groundling/requests.names", laid_groundling_requests_names), ("groundling/requests.masks", laid_groundling_requests_masks), ("unicode/utf8.first", laid_unicode_utf8_first)], narrowed := true }
def RequestsEncodesUptoSaid : Prop := requestsEncodesUptoRow.holds Tryz.pinned (OpenSpec.upto requestsEncodesSpec)

/-- 'groundlinglaw09.RequestsDecodes', WHERE WHAT IT READS IS OF BULK AT MOST 1048576: true; the input reads as it did. -/
def requestsDecodesUptoRow : OpenClaim := { program := "ytckbomkcnmcdaaagreatdoor", sum := "ea2176ca1809f5d08aae3f6db76f951b11671c73eca5242c6da65ccfbd18d3b6", func := "groundling/groundlinglaw09.RequestsDecodes", spec := "requestsDecodes", inPlace := ["internal/bytealg.IndexByteString", "internal/bytealg.IndexString", "internal/abi.NoEscape", "internal/bytealg.MakeNoZero"], unfollowed := true, recurses := true, named := ["groundling/requests.masks", "groundling/requests.names", "groundling/words.escapes", "internal/bytealg.MaxLen", "unicode/utf8.first", "unicode/utf8.acceptRanges", "strconv.ErrSyntax", "strconv.ErrRange", "internal/strconv.uint64pow10", "math/bits.deBruijn32tab", "math/bits.deBruijn64tab"], apart := false, laid := [("math/bits.deBruijn32tab", laid_math_bits_deBruijn32tab), ("math/bits.deBruijn64tab", laid_math_bits_deBruijn64tab), ("internal/strconv.uint64pow10", laid_internal_strconv_uint64pow10), ("unicode/utf8.acceptRanges", laid_unicode_utf8_acceptRanges), ("strconv.ErrRange", laid_strconv_ErrRange), ("strconv.ErrSyntax", laid_strconv_ErrSyntax), ("groundling/words.escapes", laid_groundling_words_escapes), ("groundling/requests.names", laid_groundling_requests_names), ("groundling/requests.masks", laid_groundling_requests_masks), ("unicode/utf8.first", laid_unicode_utf8_first)], narrowed := true }
def RequestsDecodesUptoSaid : Prop := requestsDecodesUptoRow.holds Tryz.pinned (OpenSpec.upto requestsDecodesSpec)

/-- 'groundlinglaw09.RequestsTexts', WHERE WHAT IT READS IS OF BULK AT MOST 1048576: true; the input reads as it did. -/
def requestsTextsUptoRow : OpenClaim := { program := "ytckbomkcnmcdaaagreatdoor", sum := "ea2176ca1809f5d08aae3f6db76f951b11671c73eca5242c6da65ccfbd18d3b6", func := "groundling/groundlinglaw09.RequestsTexts", spec := "requestsTexts", inPlace := ["internal/bytealg.IndexByteString", "internal/bytealg.IndexString", "internal/abi.NoEscape", "internal/bytealg.MakeNoZero"], unfollowed := true, recurses := true, named := ["groundling/requests.masks", "groundling/requests.names", "groundling/words.escapes", "internal/bytealg.MaxLen", "unicode/utf8.first", "unicode/utf8.acceptRanges", "strconv.ErrSyntax", "strconv.ErrRange", "internal/strconv.uint64pow10", "math/bits.deBruijn32tab", "math/bits.deBruijn64tab"], apart := false, laid := [("math/bits.deBruijn32tab", laid_math_bits_deBruijn32tab), ("math/bits.deBruijn64tab", laid_math_bits_deBruijn64tab), ("internal/strconv.uint64pow10", laid_internal_strconv_uint64pow10), ("unicode/utf8.acceptRanges", laid_unicode_utf8_acceptRanges), ("strconv.ErrRange", laid_strconv_ErrRange), ("strconv.ErrSyntax", laid_strconv_ErrSyntax), ("groundling/words.escapes", laid_groundling_words_escapes), ("groundling/requests.names", laid_groundling_requests_names), ("groundling/requests.masks", laid_groundling_requests_masks), ("unicode/utf8.first", laid_unicode_utf8_first)], narrowed := true }
def RequestsTextsUptoSaid : Prop := requestsTextsUptoRow.holds Tryz.pinned (OpenSpec.upto requestsTextsSpec)

/-- 'groundlinglaw09.RequestsOne', WHERE WHAT IT READS IS OF BULK AT MOST 1048576: true; the input reads as it did. -/
def requestsOneUptoRow : OpenClaim := { program := "ytckbomkcnmcdaaagreatdoor", sum := "ea2176ca1809f5d08aae3f6db76f951b11671c73eca5242c6da65ccfbd18d3b6", func := "groundling/groundlinglaw09.RequestsOne", spec := "requestsOne", inPlace := ["internal/bytealg.IndexByteString", "internal/bytealg.IndexString", "internal/abi.NoEscape", "internal/bytealg.MakeNoZero"], unfollowed := true, recurses := true, named := ["groundling/requests.masks", "groundling/requests.names", "groundling/words.escapes", "internal/bytealg.MaxLen", "unicode/utf8.first", "unicode/utf8.acceptRanges", "strconv.ErrSyntax", "strconv.ErrRange", "internal/strconv.uint64pow10", "math/bits.deBruijn32tab", "math/bits.deBruijn64tab"], apart := false, laid := [("math/bits.deBruijn32tab", laid_math_bits_deBruijn32tab), ("math/bits.deBruijn64tab", laid_math_bits_deBruijn64tab), ("internal/strconv.uint64pow10", laid_internal_strconv_uint64pow10), ("unicode/utf8.acceptRanges", laid_unicode_utf8_acceptRanges), ("strconv.ErrRange", laid_strconv_ErrRange), ("strconv.ErrSyntax", laid_strconv_ErrSyntax), ("groundling/words.escapes", laid_groundling_words_escapes), ("groundling/requests.names", laid_groundling_requests_names), ("groundling/requests.masks", laid_groundling_requests_masks), ("unicode/utf8.first", laid_unicode_utf8_first)], narrowed := true }
def RequestsOneUptoSaid : Prop := requestsOneUptoRow.holds Tryz.pinned (OpenSpec.upto requestsOneSpec)

/-- 'groundlinglaw09.RequestsRound', WHERE WHAT IT READS IS OF BULK AT MOST 1048576: true; the input reads as it did. -/
def requestsRoundUptoRow : OpenClaim := { program := "ytckbomkcnmcdaaagreatdoor", sum := "ea2176ca1809f5d08aae3f6db76f951b11671c73eca5242c6da65ccfbd18d3b6", func := "groundling/groundlinglaw09.RequestsRound", spec := "requestsRound", inPlace := ["internal/bytealg.IndexByteString", "internal/bytealg.IndexString", "internal/abi.NoEscape", "internal/bytealg.MakeNoZero"], unfollowed := true, recurses := true, named := ["groundling/requests.masks", "groundling/requests.names", "groundling/words.escapes", "internal/bytealg.MaxLen", "unicode/utf8.first", "unicode/utf8.acceptRanges", "strconv.ErrSyntax", "strconv.ErrRange", "internal/strconv.uint64pow10", "math/bits.deBruijn32tab", "math/bits.deBruijn64tab"], apart := false, laid := [("math/bits.deBruijn32tab", laid_math_bits_deBruijn32tab), ("math/bits.deBruijn64tab", laid_math_bits_deBruijn64tab), ("internal/strconv.uint64pow10", laid_internal_strconv_uint64pow10), ("unicode/utf8.acceptRanges", laid_unicode_utf8_acceptRanges), ("strconv.ErrRange", laid_strconv_ErrRange), ("strconv.ErrSyntax", laid_strconv_ErrSyntax), ("groundling/words.escapes", laid_groundling_words_escapes), ("groundling/requests.names", laid_groundling_requests_names), ("groundling/requests.masks", laid_groundling_requests_masks), ("unicode/utf8.first", laid_unicode_utf8_first)], narrowed := true }
def RequestsRoundUptoSaid : Prop := requestsRoundUptoRow.holds Tryz.pinned (OpenSpec.upto requestsRoundSpec)

/-- 'groundlinglaw09.RequestsLines', WHERE WHAT IT READS IS OF BULK AT MOST 1048576: true; the input reads as it did. -/
def requestsLinesUptoRow : OpenClaim := { program := "ytckbomkcnmcdaaagreatdoor", sum := "ea2176ca1809f5d08aae3f6db76f951b11671c73eca5242c6da65ccfbd18d3b6", func := "groundling/groundlinglaw09.RequestsLines", spec := "requestsLines", inPlace := ["internal/bytealg.IndexByteString", "internal/bytealg.IndexString", "internal/abi.NoEscape", "internal/bytealg.MakeNoZero"], unfollowed := true, recurses := true, named := ["groundling/requests.masks", "groundling/requests.names", "groundling/words.escapes", "internal/bytealg.MaxLen", "unicode/utf8.first", "unicode/utf8.acceptRanges", "strconv.ErrSyntax", "strconv.ErrRange", "internal/strconv.uint64pow10", "math/bits.deBruijn32tab", "math/bits.deBruijn64tab"], apart := false, laid := [("math/bits.deBruijn32tab", laid_math_bits_deBruijn32tab), ("math/bits.deBruijn64tab", laid_math_bits_deBruijn64tab), ("internal/strconv.uint64pow10", laid_internal_strconv_uint64pow10), ("unicode/utf8.acceptRanges", laid_unicode_utf8_acceptRanges), ("strconv.ErrRange", laid_strconv_ErrRange), ("strconv.ErrSyntax", laid_strconv_ErrSyntax), ("groundling/words.escapes", laid_groundling_words_escapes), ("groundling/requests.names", laid_groundling_requests_names), ("groundling/requests.masks", laid_groundling_requests_masks), ("unicode/utf8.first", laid_unicode_utf8_first)], narrowed := true }
def RequestsLinesUptoSaid : Prop := requestsLinesUptoRow.holds Tryz.pinned (OpenSpec.upto requestsLinesSpec)

/-- 'groundlinglaw09.RequestsKnown', WHERE WHAT IT READS IS OF BULK AT MOST 1048576: true; the input reads as it did. -/
def requestsKnownUptoRow : OpenClaim := { program := "ytckbomkcnmcdaaagreatdoor", sum := "ea2176ca1809f5d08aae3f6db76f951b11671c73eca5242c6da65ccfbd18d3b6", func := "groundling/groundlinglaw09.RequestsKnown", spec := "requestsKnown", inPlace := ["internal/bytealg.IndexByteString", "internal/bytealg.IndexString", "internal/abi.NoEscape", "internal/bytealg.MakeNoZero"], unfollowed := true, recurses := true, named := ["groundling/requests.masks", "groundling/requests.names", "groundling/words.escapes", "internal/bytealg.MaxLen", "unicode/utf8.first", "unicode/utf8.acceptRanges", "strconv.ErrSyntax", "strconv.ErrRange", "internal/strconv.uint64pow10", "math/bits.deBruijn32tab", "math/bits.deBruijn64tab"], apart := false, laid := [("math/bits.deBruijn32tab", laid_math_bits_deBruijn32tab), ("math/bits.deBruijn64tab", laid_math_bits_deBruijn64tab), ("internal/strconv.uint64pow10", laid_internal_strconv_uint64pow10), ("unicode/utf8.acceptRanges", laid_unicode_utf8_acceptRanges), ("strconv.ErrRange", laid_strconv_ErrRange), ("strconv.ErrSyntax", laid_strconv_ErrSyntax), ("groundling/words.escapes", laid_groundling_words_escapes), ("groundling/requests.names", laid_groundling_requests_names), ("groundling/requests.masks", laid_groundling_requests_masks), ("unicode/utf8.first", laid_unicode_utf8_first)], narrowed := true }
def RequestsKnownUptoSaid : Prop := requestsKnownUptoRow.holds Tryz.pinned (OpenSpec.upto requestsKnownSpec)

/-- 'groundlinglaw09.RequestsOps', WHERE WHAT IT READS IS OF BULK AT MOST 1048576: true; the input reads as it did. -/
def requestsOpsUptoRow : OpenClaim := { program := "ytckbomkcnmcdaaagreatdoor", sum := "ea2176ca1809f5d08aae3f6db76f951b11671c73eca5242c6da65ccfbd18d3b6", func := "groundling/groundlinglaw09.RequestsOps", spec := "requestsOps", inPlace := ["internal/bytealg.IndexByteString", "internal/bytealg.IndexString", "internal/abi.NoEscape", "internal/bytealg.MakeNoZero"], unfollowed := true, recurses := true, named := ["groundling/requests.masks", "groundling/requests.names", "groundling/words.escapes", "internal/bytealg.MaxLen", "unicode/utf8.first", "unicode/utf8.acceptRanges", "strconv.ErrSyntax", "strconv.ErrRange", "internal/strconv.uint64pow10", "math/bits.deBruijn32tab", "math/bits.deBruijn64tab"], apart := false, laid := [("math/bits.deBruijn32tab", laid_math_bits_deBruijn32tab), ("math/bits.deBruijn64tab", laid_math_bits_deBruijn64tab), ("internal/strconv.uint64pow10", laid_internal_strconv_uint64pow10), ("unicode/utf8.acceptRanges", laid_unicode_utf8_acceptRanges), ("strconv.ErrRange", laid_strconv_ErrRange), ("strconv.ErrSyntax", laid_strconv_ErrSyntax), ("groundling/words.escapes", laid_groundling_words_escapes), ("groundling/requests.names", laid_groundling_requests_names), ("groundling/requests.masks", laid_groundling_requests_masks), ("unicode/utf8.first", laid_unicode_utf8_first)], narrowed := true }
def RequestsOpsUptoSaid : Prop := requestsOpsUptoRow.holds Tryz.pinned (OpenSpec.upto requestsOpsSpec)

end Rows
end Go.Proofs.YtckbomkcnmcdaaaGreatDoor
