/-
  NARROWER THAN 'FOR EVERY INPUT', by the rows' own cells (each row's printed sentence says how): ResponsesEncodes: laid · ResponsesDecodes: laid · ResponsesMakes: laid · ResponsesOne: laid · ResponsesRound: laid · ResponsesAnswer: laid · ResponsesKnown: laid.
  DERIVED. THE GIVEN ROWS OF THIS SEAT. 7 by the template 'for every input the law returns true; each argument reads behind the call as it read before'; 0 by the template 'total and deterministic' (their statements: YtcobkjognpjikaaDoorTotals.lean).
  GIVEN WITH THE SEED: the statements are not yours to turn. If you find one false, say at which input.
  Laid BY PROGRAM, IN A SANDBOX (cutbox-rows.mjs): the forced cells as the released guide's own fill.sh prints them over the translation 228373dc793a081d… (all of the seat's roots in one cut). By AI agents, Wed Nov 11 2026. No macro, syntax, notation, axiom, sorry.
-/
import Derived.Test.YtcobkjognpjikaaDoorChecked
import GoSem.Claim
import GoSem.ClaimJoined
import GoSem.ClaimMapViews
import Derived.JoinedTies
import Derived.KernelRfl
namespace Go.Proofs.YtcobkjognpjikaaDoor
/- THE CELL 'sum', in the pinned program and in every row, IS THE sha256 OF THE DUMP (.gsa) THAT YtcobkjognpjikaaDoorProg.lean LOADS. Nothing in Lean hashes anything: it is a label: what it is worth is what the hold of that sum in a sandbox is worth. -/
noncomputable def Tryd.pinned : Pinned := { name := "ytcobkjognpjikaadoor", sum := "228373dc793a081d611b31b3a8b2f1551b3deb87f40ad00d685acb42b1af915b", checked := Tryd.checked }
namespace Rows
def none {H : Type} : Left H := { results := [], args := [] }

/- WHAT THE LISTED PACKAGE-LEVEL VARIABLES READ AS WHEN THE CALL BEGINS. Each datum BY PROGRAM (the guide's laid-datum.mjs) off the statement by which the dump's own 'gosem.cut.vars' lays the variable. In a bare row this is a premise. The card (YtcobkjognpjikaaDoorCards.lean) ties it to the program's text. -/
def laid_math_bits_deBruijn32tab {H : Type} : DataW H := .agg [.lit (.int .u8 0), .lit (.int .u8 1), .lit (.int .u8 28), .lit (.int .u8 2), .lit (.int .u8 29), .lit (.int .u8 14), .lit (.int .u8 24), .lit (.int .u8 3), .lit (.int .u8 30), .lit (.int .u8 22), .lit (.int .u8 20), .lit (.int .u8 15), .lit (.int .u8 25), .lit (.int .u8 17), .lit (.int .u8 4), .lit (.int .u8 8), .lit (.int .u8 31), .lit (.int .u8 27), .lit (.int .u8 13), .lit (.int .u8 23), .lit (.int .u8 21), .lit (.int .u8 19), .lit (.int .u8 16), .lit (.int .u8 7), .lit (.int .u8 26), .lit (.int .u8 12), .lit (.int .u8 18), .lit (.int .u8 6), .lit (.int .u8 11), .lit (.int .u8 5), .lit (.int .u8 10), .lit (.int .u8 9)]
def laid_math_bits_deBruijn64tab {H : Type} : DataW H := .agg [.lit (.int .u8 0), .lit (.int .u8 1), .lit (.int .u8 56), .lit (.int .u8 2), .lit (.int .u8 57), .lit (.int .u8 49), .lit (.int .u8 28), .lit (.int .u8 3), .lit (.int .u8 61), .lit (.int .u8 58), .lit (.int .u8 42), .lit (.int .u8 50), .lit (.int .u8 38), .lit (.int .u8 29), .lit (.int .u8 17), .lit (.int .u8 4), .lit (.int .u8 62), .lit (.int .u8 47), .lit (.int .u8 59), .lit (.int .u8 36), .lit (.int .u8 45), .lit (.int .u8 43), .lit (.int .u8 51), .lit (.int .u8 22), .lit (.int .u8 53), .lit (.int .u8 39), .lit (.int .u8 33), .lit (.int .u8 30), .lit (.int .u8 24), .lit (.int .u8 18), .lit (.int .u8 12), .lit (.int .u8 5), .lit (.int .u8 63), .lit (.int .u8 55), .lit (.int .u8 48), .lit (.int .u8 27), .lit (.int .u8 60), .lit (.int .u8 41), .lit (.int .u8 37), .lit (.int .u8 16), .lit (.int .u8 46), .lit (.int .u8 35), .lit (.int .u8 44), .lit (.int .u8 21), .lit (.int .u8 52), .lit (.int .u8 32), .lit (.int .u8 23), .lit (.int .u8 11), .lit (.int .u8 54), .lit (.int .u8 26), .lit (.int .u8 40), .lit (.int .u8 15), .lit (.int .u8 34), .lit (.int .u8 20), .lit (.int .u8 31), .lit (.int .u8 10), .lit (.int .u8 25), .lit (.int .u8 14), .lit (.int .u8 19), .lit (.int .u8 9), .lit (.int .u8 13), .lit (.int .u8 8), .lit (.int .u8 7), .lit (.int .u8 6)]
def laid_internal_strconv_uint64pow10 {H : Type} : DataW H := .agg [.lit (.int .u64 1), .lit (.int .u64 10), .lit (.int .u64 100), .lit (.int .u64 1000), .lit (.int .u64 10000), .lit (.int .u64 100000), .lit (.int .u64 1000000), .lit (.int .u64 10000000), .lit (.int .u64 100000000), .lit (.int .u64 1000000000), .lit (.int .u64 10000000000), .lit (.int .u64 100000000000), .lit (.int .u64 1000000000000), .lit (.int .u64 10000000000000), .lit (.int .u64 100000000000000), .lit (.int .u64 1000000000000000), .lit (.int .u64 10000000000000000), .lit (.int .u64 100000000000000000), .lit (.int .u64 1000000000000000000), .lit (.int .u64 10000000000000000000)]
def laid_groundling_words_escapes {H : Type} : DataW H := .agg [.agg [.lit (.int .u8 34), .lit (.int .u8 34)], .agg [.lit (.int .u8 92), .lit (.int .u8 92)], .agg [.lit (.int .u8 10), .lit (.int .u8 110)], .agg [.lit (.int .u8 13), .lit (.int .u8 114)], .agg [.lit (.int .u8 9), .lit (.int .u8 116)]]
def laid_groundling_requests_masks {H : Type} : DataW H := .agg [.lit (.int .u16 0), .lit (.int .u16 6), .lit (.int .u16 42), .lit (.int .u16 202), .lit (.int .u16 42), .lit (.int .u16 42), .lit (.int .u16 282), .lit (.int .u16 26), .lit (.int .u16 42), .lit (.int .u16 18), .lit (.int .u16 74), .lit (.int .u16 74), .lit (.int .u16 0), .lit (.int .u16 530)]
def laid_groundling_responses_names {H : Type} : DataW H := .agg [.lit (.string [110, 111, 110, 101]), .lit (.string [111, 112, 101, 110]), .lit (.string [104, 111, 108, 100]), .lit (.string [98, 108, 111, 99, 107]), .lit (.string [114, 101, 108, 101, 97, 115, 101]), .lit (.string [98, 117, 121]), .lit (.string [116, 114, 97, 110, 115, 102, 101, 114]), .lit (.string [114, 101, 102, 117, 110, 100]), .lit (.string [114, 101, 118, 111, 107, 101]), .lit (.string [118, 97, 108, 105, 100, 97, 116, 101]), .lit (.string [106, 111, 105, 110]), .lit (.string [108, 101, 97, 118, 101]), .lit (.string []), .lit (.string [101, 110, 116, 101, 114])]

/-- 'groundlinglaw10.ResponsesEncodes': WHATEVER THE INPUT: true; the input reads as it did. -/
def responsesEncodesSpec : ChangeSpec := { name := "responsesEncodes", fn := fun _ => fun
  | [d] => { results := [.lit (.bool true)], args := [d] }
  | _ => none }
def responsesEncodesRow : OpenClaim := { program := "ytcobkjognpjikaadoor", sum := "228373dc793a081d611b31b3a8b2f1551b3deb87f40ad00d685acb42b1af915b", func := "groundling/groundlinglaw10.ResponsesEncodes", spec := "responsesEncodes", inPlace := ["internal/abi.NoEscape", "internal/bytealg.MakeNoZero"], unfollowed := true, recurses := true, named := ["groundling/requests.masks", "groundling/responses.names", "groundling/words.escapes", "internal/strconv.uint64pow10", "math/bits.deBruijn32tab", "math/bits.deBruijn64tab"], apart := false, laid := [("math/bits.deBruijn32tab", laid_math_bits_deBruijn32tab), ("math/bits.deBruijn64tab", laid_math_bits_deBruijn64tab), ("internal/strconv.uint64pow10", laid_internal_strconv_uint64pow10), ("groundling/words.escapes", laid_groundling_words_escapes), ("groundling/requests.masks", laid_groundling_requests_masks), ("groundling/responses.names", laid_groundling_responses_names)] }
def ResponsesEncodesSaid : Prop := responsesEncodesRow.holds Tryd.pinned (OpenSpec.ofChange responsesEncodesSpec)

/-- ITS FALSE NEIGHBOUR: 'it returns false'. Refute it at one input. -/
def responsesEncodesWrong : ChangeSpec := { name := "responsesEncodes", fn := fun _ => fun
  | [d] => { results := [.lit (.bool false)], args := [d] }
  | _ => none }
def ResponsesEncodesWrongFalsely : Prop := responsesEncodesRow.holds Tryd.pinned (OpenSpec.ofChange responsesEncodesWrong)

/-- 'groundlinglaw10.ResponsesDecodes': WHATEVER THE INPUT: true; the input reads as it did. -/
def responsesDecodesSpec : ChangeSpec := { name := "responsesDecodes", fn := fun _ => fun
  | [d] => { results := [.lit (.bool true)], args := [d] }
  | _ => none }
def responsesDecodesRow : OpenClaim := { program := "ytcobkjognpjikaadoor", sum := "228373dc793a081d611b31b3a8b2f1551b3deb87f40ad00d685acb42b1af915b", func := "groundling/groundlinglaw10.ResponsesDecodes", spec := "responsesDecodes", inPlace := ["internal/abi.NoEscape", "internal/bytealg.MakeNoZero"], unfollowed := true, recurses := true, named := ["groundling/requests.masks", "groundling/responses.names", "groundling/words.escapes", "internal/strconv.uint64pow10", "math/bits.deBruijn32tab", "math/bits.deBruijn64tab"], apart := false, laid := [("math/bits.deBruijn32tab", laid_math_bits_deBruijn32tab), ("math/bits.deBruijn64tab", laid_math_bits_deBruijn64tab), ("internal/strconv.uint64pow10", laid_internal_strconv_uint64pow10), ("groundling/words.escapes", laid_groundling_words_escapes), ("groundling/requests.masks", laid_groundling_requests_masks), ("groundling/responses.names", laid_groundling_responses_names)] }
def ResponsesDecodesSaid : Prop := responsesDecodesRow.holds Tryd.pinned (OpenSpec.ofChange responsesDecodesSpec)

/-- ITS FALSE NEIGHBOUR: 'it returns false'. Refute it at one input. -/
def responsesDecodesWrong : ChangeSpec := { name := "responsesDecodes", fn := fun _ => fun
  | [d] => { results := [.lit (.bool false)], args := [d] }
  | _ => none }
def ResponsesDecodesWrongFalsely : Prop := responsesDecodesRow.holds Tryd.pinned (OpenSpec.ofChange responsesDecodesWrong)

/-- 'groundlinglaw10.ResponsesMakes': WHATEVER THE INPUT: true; the input reads as it did. -/
def responsesMakesSpec : ChangeSpec := { name := "responsesMakes", fn := fun _ => fun
  | [d1, d2] => { results := [.lit (.bool true)], args := [d1, d2] }
  | _ => none }
def responsesMakesRow : OpenClaim := { program := "ytcobkjognpjikaadoor", sum := "228373dc793a081d611b31b3a8b2f1551b3deb87f40ad00d685acb42b1af915b", func := "groundling/groundlinglaw10.ResponsesMakes", spec := "responsesMakes", inPlace := ["internal/abi.NoEscape", "internal/bytealg.MakeNoZero"], unfollowed := true, recurses := true, named := ["groundling/requests.masks", "groundling/responses.names", "groundling/words.escapes", "internal/strconv.uint64pow10", "math/bits.deBruijn32tab", "math/bits.deBruijn64tab"], apart := false, laid := [("math/bits.deBruijn32tab", laid_math_bits_deBruijn32tab), ("math/bits.deBruijn64tab", laid_math_bits_deBruijn64tab), ("internal/strconv.uint64pow10", laid_internal_strconv_uint64pow10), ("groundling/words.escapes", laid_groundling_words_escapes), ("groundling/requests.masks", laid_groundling_requests_masks), ("groundling/responses.names", laid_groundling_responses_names)] }
def ResponsesMakesSaid : Prop := responsesMakesRow.holds Tryd.pinned (OpenSpec.ofChange responsesMakesSpec)

/-- ITS FALSE NEIGHBOUR: 'it returns false'. Refute it at one input. -/
def responsesMakesWrong : ChangeSpec := { name := "responsesMakes", fn := fun _ => fun
  | [d1, d2] => { results := [.lit (.bool false)], args := [d1, d2] }
  | _ => none }
def ResponsesMakesWrongFalsely : Prop := responsesMakesRow.holds Tryd.pinned (OpenSpec.ofChange responsesMakesWrong)

/-- 'groundlinglaw10.ResponsesOne': WHATEVER THE INPUT: true; the input reads as it did. -/
def responsesOneSpec : ChangeSpec := { name := "responsesOne", fn := fun _ => fun
  | [d] => { results := [.lit (.bool true)], args := [d] }
  | _ => none }
def responsesOneRow : OpenClaim := { program := "ytcobkjognpjikaadoor", sum := "228373dc793a081d611b31b3a8b2f1551b3deb87f40ad00d685acb42b1af915b", func := "groundling/groundlinglaw10.ResponsesOne", spec := "responsesOne", inPlace := ["internal/abi.NoEscape", "internal/bytealg.MakeNoZero"], unfollowed := true, recurses := true, named := ["groundling/requests.masks", "groundling/responses.names", "groundling/words.escapes", "internal/strconv.uint64pow10", "math/bits.deBruijn32tab", "math/bits.deBruijn64tab"], apart := false, laid := [("math/bits.deBruijn32tab", laid_math_bits_deBruijn32tab), ("math/bits.deBruijn64tab", laid_math_bits_deBruijn64tab), ("internal/strconv.uint64pow10", laid_internal_strconv_uint64pow10), ("groundling/words.escapes", laid_groundling_words_escapes), ("groundling/requests.masks", laid_groundling_requests_masks), ("groundling/responses.names", laid_groundling_responses_names)] }
def ResponsesOneSaid : Prop := responsesOneRow.holds Tryd.pinned (OpenSpec.ofChange responsesOneSpec)

/-- ITS FALSE NEIGHBOUR: 'it returns false'. Refute it at one input. -/
def responsesOneWrong : ChangeSpec := { name := "responsesOne", fn := fun _ => fun
  | [d] => { results := [.lit (.bool false)], args := [d] }
  | _ => none }
def ResponsesOneWrongFalsely : Prop := responsesOneRow.holds Tryd.pinned (OpenSpec.ofChange responsesOneWrong)

/-- 'groundlinglaw10.ResponsesRound': WHATEVER THE INPUT: true; the input reads as it did. -/
def responsesRoundSpec : ChangeSpec := { name := "responsesRound", fn := fun _ => fun
  | [d1, d2, d3] => { results := [.lit (.bool true)], args := [d1, d2, d3] }
  | _ => none }
def responsesRoundRow : OpenClaim := { program := "ytcobkjognpjikaadoor", sum := "228373dc793a081d611b31b3a8b2f1551b3deb87f40ad00d685acb42b1af915b", func := "groundling/groundlinglaw10.ResponsesRound", spec := "responsesRound", inPlace := ["internal/abi.NoEscape", "internal/bytealg.MakeNoZero"], unfollowed := true, recurses := true, named := ["groundling/requests.masks", "groundling/responses.names", "groundling/words.escapes", "internal/strconv.uint64pow10", "math/bits.deBruijn32tab", "math/bits.deBruijn64tab"], apart := false, laid := [("math/bits.deBruijn32tab", laid_math_bits_deBruijn32tab), ("math/bits.deBruijn64tab", laid_math_bits_deBruijn64tab), ("internal/strconv.uint64pow10", laid_internal_strconv_uint64pow10), ("groundling/words.escapes", laid_groundling_words_escapes), ("groundling/requests.masks", laid_groundling_requests_masks), ("groundling/responses.names", laid_groundling_responses_names)] }
def ResponsesRoundSaid : Prop := responsesRoundRow.holds Tryd.pinned (OpenSpec.ofChange responsesRoundSpec)

/-- ITS FALSE NEIGHBOUR: 'it returns false'. Refute it at one input. -/
def responsesRoundWrong : ChangeSpec := { name := "responsesRound", fn := fun _ => fun
  | [d1, d2, d3] => { results := [.lit (.bool false)], args := [d1, d2, d3] }
  | _ => none }
def ResponsesRoundWrongFalsely : Prop := responsesRoundRow.holds Tryd.pinned (OpenSpec.ofChange responsesRoundWrong)

/-- 'groundlinglaw10.ResponsesAnswer': WHATEVER THE INPUT: true; the input reads as it did. -/
def responsesAnswerSpec : ChangeSpec := { name := "responsesAnswer", fn := fun _ => fun
  | [d1, d2, d3] => { results := [.lit (.bool true)], args := [d1, d2, d3] }
  | _ => none }
def responsesAnswerRow : OpenClaim := { program := "ytcobkjognpjikaadoor", sum := "228373dc793a081d611b31b3a8b2f1551b3deb87f40ad00d685acb42b1af915b", func := "groundling/groundlinglaw10.ResponsesAnswer", spec := "responsesAnswer", inPlace := ["internal/abi.NoEscape", "internal/bytealg.MakeNoZero"], unfollowed := true, recurses := true, named := ["groundling/requests.masks", "groundling/responses.names", "groundling/words.escapes", "internal/strconv.uint64pow10", "math/bits.deBruijn32tab", "math/bits.deBruijn64tab"], apart := false, laid := [("math/bits.deBruijn32tab", laid_math_bits_deBruijn32tab), ("math/bits.deBruijn64tab", laid_math_bits_deBruijn64tab), ("internal/strconv.uint64pow10", laid_internal_strconv_uint64pow10), ("groundling/words.escapes", laid_groundling_words_escapes), ("groundling/requests.masks", laid_groundling_requests_masks), ("groundling/responses.names", laid_groundling_responses_names)] }
def ResponsesAnswerSaid : Prop := responsesAnswerRow.holds Tryd.pinned (OpenSpec.ofChange responsesAnswerSpec)

/-- ITS FALSE NEIGHBOUR: 'it returns false'. Refute it at one input. -/
def responsesAnswerWrong : ChangeSpec := { name := "responsesAnswer", fn := fun _ => fun
  | [d1, d2, d3] => { results := [.lit (.bool false)], args := [d1, d2, d3] }
  | _ => none }
def ResponsesAnswerWrongFalsely : Prop := responsesAnswerRow.holds Tryd.pinned (OpenSpec.ofChange responsesAnswerWrong)

/-- 'groundlinglaw10.ResponsesKnown': WHATEVER THE INPUT: true; the input reads as it did. -/
def responsesKnownSpec : ChangeSpec := { name := "responsesKnown", fn := fun _ => fun
  | [] => { results := [.lit (.bool true)], args := [] }
  | _ => none }
def responsesKnownRow : OpenClaim := { program := "ytcobkjognpjikaadoor", sum := "228373dc793a081d611b31b3a8b2f1551b3deb87f40ad00d685acb42b1af915b", func := "groundling/groundlinglaw10.ResponsesKnown", spec := "responsesKnown", inPlace := ["internal/abi.NoEscape", "internal/bytealg.MakeNoZero"], unfollowed := true, recurses := true, named := ["groundling/requests.masks", "groundling/responses.names", "groundling/words.escapes", "internal/strconv.uint64pow10", "math/bits.deBruijn32tab", "math/bits.deBruijn64tab"], apart := false, laid := [("math/bits.deBruijn32tab", laid_math_bits_deBruijn32tab), ("math/bits.deBruijn64tab", laid_math_bits_deBruijn64tab), ("internal/strconv.uint64pow10", laid_internal_strconv_uint64pow10), ("groundling/words.escapes", laid_groundling_words_escapes), ("groundling/requests.masks", laid_groundling_requests_masks), ("groundling/responses.names", laid_groundling_responses_names)] }
def ResponsesKnownSaid : Prop := responsesKnownRow.holds Tryd.pinned (OpenSpec.ofChange responsesKnownSpec)

/-- ITS FALSE NEIGHBOUR: 'it returns false'. Refute it at one input. -/
def responsesKnownWrong : ChangeSpec := { name := "responsesKnown", fn := fun _ => fun
  | [] => { results := [.lit (.bool false)], args := [] }
  | _ => none }
def ResponsesKnownWrongFalsely : Prop := responsesKnownRow.holds Tryd.pinned (OpenSpec.ofChange responsesKnownWrong)

/- THE SECOND FORM. 'bulk': how many values and letters a reading holds, each counted each time it is reached (what is shared counts as often as it is met; a slice's spare places count too). A statement '..UptoSaid' is the law's where the arguments, and the package variables that the reading takes, are together of bulk at most 1048576: NARROWER than '..Said'. Prove '..Said' where nothing that the law and all that it calls make is longer than what came in: it says more and counts as full. Else prove '..UptoSaid'. A law counts once. -/
mutual
def uptoBulk {H : Type} : DataW H → Nat
  | .lit (.string bytes) => bytes.length + 1
  | .lit _ => 1
  | .nil => 1
  | .ptr d => uptoBulk d + 1
  | .slice elems spare => uptoBulkAll elems + uptoBulkAll spare + 1
  | .agg parts => uptoBulkAll parts + 1
  | .iface _ d => uptoBulk d + 1
  | .map entries => uptoBulkEntries entries + 1
  | .held _ => 1
def uptoBulkAll {H : Type} : List (DataW H) → Nat
  | [] => 0
  | d :: r => uptoBulk d + uptoBulkAll r
def uptoBulkEntries {H : Type} : List (Lit × DataW H) → Nat
  | [] => 0
  | x :: r => uptoBulkEntry x + uptoBulkEntries r
def uptoBulkEntry {H : Type} : Lit × DataW H → Nat
  | (.string bytes, d) => bytes.length + uptoBulk d + 1
  | (_, d) => uptoBulk d + 1
 end
def uptoSmall : (H : Type) → List (DataW H) → Bool := fun _ ds => decide (uptoBulkAll ds ≤ 1048576)
def OpenSpec.upto (s : _root_.Go.ChangeSpec) : _root_.Go.OpenSpec := { _root_.Go.OpenSpec.ofChange s with cond := some uptoSmall }

/-- 'groundlinglaw10.ResponsesEncodes', WHERE WHAT IT READS IS OF BULK AT MOST 1048576: true; the input reads as it did. -/
def responsesEncodesUptoRow : OpenClaim := { program := "ytcobkjognpjikaadoor", sum := "228373dc793a081d611b31b3a8b2f1551b3deb87f40ad00d685acb42b1af915b", func := "groundling/groundlinglaw10.ResponsesEncodes", spec := "responsesEncodes", inPlace := ["internal/abi.NoEscape", "internal/bytealg.MakeNoZero"], unfollowed := true, recurses := true, named := ["groundling/requests.masks", "groundling/responses.names", "groundling/words.escapes", "internal/strconv.uint64pow10", "math/bits.deBruijn32tab", "math/bits.deBruijn64tab"], apart := false, laid := [("math/bits.deBruijn32tab", laid_math_bits_deBruijn32tab), ("math/bits.deBruijn64tab", laid_math_bits_deBruijn64tab), ("internal/strconv.uint64pow10", laid_internal_strconv_uint64pow10), ("groundling/words.escapes", laid_groundling_words_escapes), ("groundling/requests.masks", laid_groundling_requests_masks), ("groundling/responses.names", laid_groundling_responses_names)], narrowed := true }
def ResponsesEncodesUptoSaid : Prop := responsesEncodesUptoRow.holds Tryd.pinned (OpenSpec.upto responsesEncodesSpec)

/-- 'groundlinglaw10.ResponsesDecodes', WHERE WHAT IT READS IS OF BULK AT MOST 1048576: true; the input reads as it did. -/
def responsesDecodesUptoRow : OpenClaim := { program := "ytcobkjognpjikaadoor", sum := "228373dc793a081d611b31b3a8b2f1551b3deb87f40ad00d685acb42b1af915b", func := "groundling/groundlinglaw10.ResponsesDecodes", spec := "responsesDecodes", inPlace := ["internal/abi.NoEscape", "internal/bytealg.MakeNoZero"], unfollowed := true, recurses := true, named := ["groundling/requests.masks", "groundling/responses.names", "groundling/words.escapes", "internal/strconv.uint64pow10", "math/bits.deBruijn32tab", "math/bits.deBruijn64tab"], apart := false, laid := [("math/bits.deBruijn32tab", laid_math_bits_deBruijn32tab), ("math/bits.deBruijn64tab", laid_math_bits_deBruijn64tab), ("internal/strconv.uint64pow10", laid_internal_strconv_uint64pow10), ("groundling/words.escapes", laid_groundling_words_escapes), ("groundling/requests.masks", laid_groundling_requests_masks), ("groundling/responses.names", laid_groundling_responses_names)], narrowed := true }
def ResponsesDecodesUptoSaid : Prop := responsesDecodesUptoRow.holds Tryd.pinned (OpenSpec.upto responsesDecodesSpec)

/-- 'groundlinglaw10.ResponsesMakes', WHERE WHAT IT READS IS OF BULK AT MOST 1048576: true; the input reads as it did. -/
def responsesMakesUptoRow : OpenClaim := { program := "ytcobkjognpjikaadoor", sum := "228373dc793a081d611b31b3a8b2f1551b3deb87f40ad00d685acb42b1af915b", func := "groundling/groundlinglaw10.ResponsesMakes", spec := "responsesMakes", inPlace := ["internal/abi.NoEscape", "internal/bytealg.MakeNoZero"], unfollowed := true, recurses := true, named := ["groundling/requests.masks", "groundling/responses.names", "groundling/words.escapes", "internal/strconv.uint64pow10", "math/bits.deBruijn32tab", "math/bits.deBruijn64tab"], apart := false, laid := [("math/bits.deBruijn32tab", laid_math_bits_deBruijn32tab), ("math/bits.deBruijn64tab", laid_math_bits_deBruijn64tab), ("internal/strconv.uint64pow10", laid_internal_strconv_uint64pow10), ("groundling/words.escapes", laid_groundling_words_escapes), ("groundling/requests.masks", laid_groundling_requests_masks), ("groundling/responses.names", laid_groundling_responses_names)], narrowed := true }
def ResponsesMakesUptoSaid : Prop := responsesMakesUptoRow.holds Tryd.pinned (OpenSpec.upto responsesMakesSpec)

/-- 'groundlinglaw10.ResponsesOne', WHERE WHAT IT READS IS OF BULK AT MOST 1048576: true; the input reads as it did. -/
def responsesOneUptoRow : OpenClaim := { program := "ytcobkjognpjikaadoor", sum := "228373dc793a081d611b31b3a8b2f1551b3deb87f40ad00d685acb42b1af915b", func := "groundling/groundlinglaw10.ResponsesOne", spec := "responsesOne", inPlace := ["internal/abi.NoEscape", "internal/bytealg.MakeNoZero"], unfollowed := true, recurses := true, named := ["groundling/requests.masks", "groundling/responses.names", "groundling/words.escapes", "internal/strconv.uint64pow10", "math/bits.deBruijn32tab", "math/bits.deBruijn64tab"], apart := false, laid := [("math/bits.deBruijn32tab", laid_math_bits_deBruijn32tab), ("math/bits.deBruijn64tab", laid_math_bits_deBruijn64tab), ("internal/strconv.uint64pow10", laid_internal_strconv_uint64pow10), ("groundling/words.escapes", laid_groundling_words_escapes), ("groundling/requests.masks", laid_groundling_requests_masks), ("groundling/responses.names", laid_groundling_responses_names)], narrowed := true }
def ResponsesOneUptoSaid : Prop := responsesOneUptoRow.holds Tryd.pinned (OpenSpec.upto responsesOneSpec)

/-- 'groundlinglaw10.ResponsesRound', WHERE WHAT IT READS IS OF BULK AT MOST 1048576: true; the input reads as it did. -/
def responsesRoundUptoRow : OpenClaim := { program := "ytcobkjognpjikaadoor", sum := "228373dc793a081d611b31b3a8b2f1551b3deb87f40ad00d685acb42b1af915b", func := "groundling/groundlinglaw10.ResponsesRound", spec := "responsesRound", inPlace := ["internal/abi.NoEscape", "internal/bytealg.MakeNoZero"], unfollowed := true, recurses := true, named := ["groundling/requests.masks", "groundling/responses.names", "groundling/words.escapes", "internal/strconv.uint64pow10", "math/bits.deBruijn32tab", "math/bits.deBruijn64tab"], apart := false, laid := [("math/bits.deBruijn32tab", laid_math_bits_deBruijn32tab), ("math/bits.deBruijn64tab", laid_math_bits_deBruijn64tab), ("internal/strconv.uint64pow10", laid_internal_strconv_uint64pow10), ("groundling/words.escapes", laid_groundling_words_escapes), ("groundling/requests.masks", laid_groundling_requests_masks), ("groundling/responses.names", laid_groundling_responses_names)], narrowed := true }
def ResponsesRoundUptoSaid : Prop := responsesRoundUptoRow.holds Tryd.pinned (OpenSpec.upto responsesRoundSpec)

/-- 'groundlinglaw10.ResponsesAnswer', WHERE WHAT IT READS IS OF BULK AT MOST 1048576: true; the input reads as it did. -/
def responsesAnswerUptoRow : OpenClaim := { program := "ytcobkjognpjikaadoor", sum := "228373dc793a081d611b31b3a8b2f1551b3deb87f40ad00d685acb42b1af915b", func := "groundling/groundlinglaw10.ResponsesAnswer", spec := "responsesAnswer", inPlace := ["internal/abi.NoEscape", "internal/bytealg.MakeNoZero"], unfollowed := true, recurses := true, named := ["groundling/requests.masks", "groundling/responses.names", "groundling/words.escapes", "internal/strconv.uint64pow10", "math/bits.deBruijn32tab", "math/bits.deBruijn64tab"], apart := false, laid := [("math/bits.deBruijn32tab", laid_math_bits_deBruijn32tab), ("math/bits.deBruijn64tab", laid_math_bits_deBruijn64tab), ("internal/strconv.uint64pow10", laid_internal_strconv_uint64pow10), ("groundling/words.escapes", laid_groundling_words_escapes), ("groundling/requests.masks", laid_groundling_requests_masks), ("groundling/responses.names", laid_groundling_responses_names)], narrowed := true }
def ResponsesAnswerUptoSaid : Prop := responsesAnswerUptoRow.holds Tryd.pinned (OpenSpec.upto responsesAnswerSpec)

/-- 'groundlinglaw10.ResponsesKnown', WHERE WHAT IT READS IS OF BULK AT MOST 1048576: true; the input reads as it did. -/
def responsesKnownUptoRow : OpenClaim := { program := "ytcobkjognpjikaadoor", sum := "228373dc793a081d611b31b3a8b2f1551b3deb87f40ad00d685acb42b1af915b", func := "groundling/groundlinglaw10.ResponsesKnown", spec := "responsesKnown", inPlace := ["internal/abi.NoEscape", "internal/bytealg.MakeNoZero"], unfollowed := true, recurses := true, named := ["groundling/requests.masks", "groundling/responses.names", "groundling/words.escapes", "internal/strconv.uint64pow10", "math/bits.deBruijn32tab", "math/bits.deBruijn64tab"], apart := false, laid := [("math/bits.deBruijn32tab", laid_math_bits_deBruijn32tab), ("math/bits.deBruijn64tab", laid_math_bits_deBruijn64tab), ("internal/strconv.uint64pow10", laid_internal_strconv_uint64pow10), ("groundling/words.escapes", laid_groundling_words_escapes), ("groundling/requests.masks", laid_groundling_requests_masks), ("groundling/responses.names", laid_groundling_responses_names)], narrowed := true }
def ResponsesKnownUptoSaid : Prop := responsesKnownUptoRow.holds Tryd.pinned (OpenSpec.upto responsesKnownSpec)

end Rows
end Go.Proofs.YtcobkjognpjikaaDoor
