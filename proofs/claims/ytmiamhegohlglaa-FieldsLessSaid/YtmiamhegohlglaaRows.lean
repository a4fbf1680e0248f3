/-
  No cell of these rows narrows 'for every input' (looked for: loops, veiled, ifaces, maps, wideKeys, modest, calm, conditions, laid).
  DERIVED. THE GIVEN ROWS OF THIS SEAT. 8 by the template 'for every input the law returns true; each argument reads behind the call as it read before'; 0 by the template 'total and deterministic' (their statements: YtmiamhegohlglaaTotals.lean).
  GIVEN WITH THE SEED: the statements are not yours to turn. If you find one false, say at which input.
  Laid BY PROGRAM, IN A SANDBOX (cutbox-rows.mjs): the forced cells as the released guide's own fill.sh prints them over the translation ba0a9c994f7ecb6f… (all of the seat's roots in one cut). By AI agents, Wed Nov 11 2026. No macro, syntax, notation, axiom, sorry.
-/
import Derived.Test.YtmiamhegohlglaaChecked
import GoSem.Claim
import GoSem.ClaimJoined
import GoSem.ClaimMapViews
import Derived.JoinedTies
import Derived.KernelRfl
namespace Go.Proofs.Ytmiamhegohlglaa
/- THE CELL 'sum', in the pinned program and in every row, IS THE sha256 OF THE DUMP (.gsa) THAT YtmiamhegohlglaaProg.lean LOADS. Nothing in Lean hashes anything: it is a label: what it is worth is what the hold of that sum in a sandbox is worth. -/
noncomputable def Try.pinned : Pinned := { name := "ytmiamhegohlglaa", sum := "ba0a9c994f7ecb6fed9c5f51a3a30733c26078215f978c6018d6d579ba75886a", checked := Try.checked }
namespace Rows
def none {H : Type} : Left H := { results := [], args := [] }

/-- 'groundlinglaw08.FieldsDecodes': WHATEVER THE INPUT: true; the input reads as it did. -/
def fieldsDecodesSpec : ChangeSpec := { name := "fieldsDecodes", fn := fun _ => fun
  | [d1, d2] => { results := [.lit (.bool true)], args := [d1, d2] }
  | _ => none }
def fieldsDecodesRow : OpenClaim := { program := "ytmiamhegohlglaa", sum := "ba0a9c994f7ecb6fed9c5f51a3a30733c26078215f978c6018d6d579ba75886a", func := "groundling/groundlinglaw08.FieldsDecodes", spec := "fieldsDecodes", unfollowed := true, recurses := true, apart := false }
def FieldsDecodesSaid : Prop := fieldsDecodesRow.holds Try.pinned (OpenSpec.ofChange fieldsDecodesSpec)

/-- ITS FALSE NEIGHBOUR: 'it returns false'. Refute it at one input. -/
def fieldsDecodesWrong : ChangeSpec := { name := "fieldsDecodes", fn := fun _ => fun
  | [d1, d2] => { results := [.lit (.bool false)], args := [d1, d2] }
  | _ => none }
def FieldsDecodesWrongFalsely : Prop := fieldsDecodesRow.holds Try.pinned (OpenSpec.ofChange fieldsDecodesWrong)

/-- 'groundlinglaw08.FieldsFinds': WHATEVER THE INPUT: true; the input reads as it did. -/
def fieldsFindsSpec : ChangeSpec := { name := "fieldsFinds", fn := fun _ => fun
  | [d1, d2] => { results := [.lit (.bool true)], args := [d1, d2] }
  | _ => none }
def fieldsFindsRow : OpenClaim := { program := "ytmiamhegohlglaa", sum := "ba0a9c994f7ecb6fed9c5f51a3a30733c26078215f978c6018d6d579ba75886a", func := "groundling/groundlinglaw08.FieldsFinds", spec := "fieldsFinds", unfollowed := true, recurses := true, apart := false }
def FieldsFindsSaid : Prop := fieldsFindsRow.holds Try.pinned (OpenSpec.ofChange fieldsFindsSpec)

/-- ITS FALSE NEIGHBOUR: 'it returns false'. Refute it at one input. -/
def fieldsFindsWrong : ChangeSpec := { name := "fieldsFinds", fn := fun _ => fun
  | [d1, d2] => { results := [.lit (.bool false)], args := [d1, d2] }
  | _ => none }
def FieldsFindsWrongFalsely : Prop := fieldsFindsRow.holds Try.pinned (OpenSpec.ofChange fieldsFindsWrong)

/-- 'groundlinglaw08.FieldsRound': WHATEVER THE INPUT: true; the input reads as it did. -/
def fieldsRoundSpec : ChangeSpec := { name := "fieldsRound", fn := fun _ => fun
  | [d1, d2] => { results := [.lit (.bool true)], args := [d1, d2] }
  | _ => none }
def fieldsRoundRow : OpenClaim := { program := "ytmiamhegohlglaa", sum := "ba0a9c994f7ecb6fed9c5f51a3a30733c26078215f978c6018d6d579ba75886a", func := "groundling/groundlinglaw08.FieldsRound", spec := "fieldsRound", unfollowed := true, recurses := true, apart := false }
def FieldsRoundSaid : Prop := fieldsRoundRow.holds Try.pinned (OpenSpec.ofChange fieldsRoundSpec)

/-- ITS FALSE NEIGHBOUR: 'it returns false'. Refute it at one input. -/
def fieldsRoundWrong : ChangeSpec := { name := "fieldsRound", fn := fun _ => fun
  | [d1, d2] => { results := [.lit (.bool false)], args := [d1, d2] }
  | _ => none }
def FieldsRoundWrongFalsely : Prop := fieldsRoundRow.holds Try.pinned (OpenSpec.ofChange fieldsRoundWrong)

/-- 'groundlinglaw08.FieldsParts': WHATEVER THE INPUT: true; the input reads as it did. -/
def fieldsPartsSpec : ChangeSpec := { name := "fieldsParts", fn := fun _ => fun
  | [d1, d2, d3] => { results := [.lit (.bool true)], args := [d1, d2, d3] }
  | _ => none }
def fieldsPartsRow : OpenClaim := { program := "ytmiamhegohlglaa", sum := "ba0a9c994f7ecb6fed9c5f51a3a30733c26078215f978c6018d6d579ba75886a", func := "groundling/groundlinglaw08.FieldsParts", spec := "fieldsParts", unfollowed := true, recurses := true, apart := false }
def FieldsPartsSaid : Prop := fieldsPartsRow.holds Try.pinned (OpenSpec.ofChange fieldsPartsSpec)

/-- ITS FALSE NEIGHBOUR: 'it returns false'. Refute it at one input. -/
def fieldsPartsWrong : ChangeSpec := { name := "fieldsParts", fn := fun _ => fun
  | [d1, d2, d3] => { results := [.lit (.bool false)], args := [d1, d2, d3] }
  | _ => none }
def FieldsPartsWrongFalsely : Prop := fieldsPartsRow.holds Try.pinned (OpenSpec.ofChange fieldsPartsWrong)

/-- 'groundlinglaw08.FieldsLess': WHATEVER THE INPUT: true; the input reads as it did. -/
def fieldsLessSpec : ChangeSpec := { name := "fieldsLess", fn := fun _ => fun
  | [d1, d2, d3] => { results := [.lit (.bool true)], args := [d1, d2, d3] }
  | _ => none }
def fieldsLessRow : OpenClaim := { program := "ytmiamhegohlglaa", sum := "ba0a9c994f7ecb6fed9c5f51a3a30733c26078215f978c6018d6d579ba75886a", func := "groundling/groundlinglaw08.FieldsLess", spec := "fieldsLess", unfollowed := true, recurses := true, apart := false }
def FieldsLessSaid : Prop := fieldsLessRow.holds Try.pinned (OpenSpec.ofChange fieldsLessSpec)

/-- ITS FALSE NEIGHBOUR: 'it returns false'. Refute it at one input. -/
def fieldsLessWrong : ChangeSpec := { name := "fieldsLess", fn := fun _ => fun
  | [d1, d2, d3] => { results := [.lit (.bool false)], args := [d1, d2, d3] }
  | _ => none }
def FieldsLessWrongFalsely : Prop := fieldsLessRow.holds Try.pinned (OpenSpec.ofChange fieldsLessWrong)

/-- 'groundlinglaw08.FieldsKnown': WHATEVER THE INPUT: true; the input reads as it did. -/
def fieldsKnownSpec : ChangeSpec := { name := "fieldsKnown", fn := fun _ => fun
  | [] => { results := [.lit (.bool true)], args := [] }
  | _ => none }
def fieldsKnownRow : OpenClaim := { program := "ytmiamhegohlglaa", sum := "ba0a9c994f7ecb6fed9c5f51a3a30733c26078215f978c6018d6d579ba75886a", func := "groundling/groundlinglaw08.FieldsKnown", spec := "fieldsKnown", unfollowed := true, recurses := true, apart := false }
def FieldsKnownSaid : Prop := fieldsKnownRow.holds Try.pinned (OpenSpec.ofChange fieldsKnownSpec)

/-- ITS FALSE NEIGHBOUR: 'it returns false'. Refute it at one input. -/
def fieldsKnownWrong : ChangeSpec := { name := "fieldsKnown", fn := fun _ => fun
  | [] => { results := [.lit (.bool false)], args := [] }
  | _ => none }
def FieldsKnownWrongFalsely : Prop := fieldsKnownRow.holds Try.pinned (OpenSpec.ofChange fieldsKnownWrong)

/-- 'groundlinglaw08.FieldsEncodes': WHATEVER THE INPUT: true; the input reads as it did. -/
def fieldsEncodesSpec : ChangeSpec := { name := "fieldsEncodes", fn := fun _ => fun
  | [d1, d2] => { results := [.lit (.bool true)], args := [d1, d2] }
  | _ => none }
def fieldsEncodesRow : OpenClaim := { program := "ytmiamhegohlglaa", sum := "ba0a9c994f7ecb6fed9c5f51a3a30733c26078215f978c6018d6d579ba75886a", func := "groundling/groundlinglaw08.FieldsEncodes", spec := "fieldsEncodes", unfollowed := true, recurses := true, apart := false }
def FieldsEncodesSaid : Prop := fieldsEncodesRow.holds Try.pinned (OpenSpec.ofChange fieldsEncodesSpec)

/-- ITS FALSE NEIGHBOUR: 'it returns false'. Refute it at one input. -/
def fieldsEncodesWrong : ChangeSpec := { name := "fieldsEncodes", fn := fun _ => fun
  | [d1, d2] => { results := [.lit (.bool false)], args := [d1, d2] }
  | _ => none }
def FieldsEncodesWrongFalsely : Prop := fieldsEncodesRow.holds Try.pinned (OpenSpec.ofChange fieldsEncodesWrong)

/-- 'groundlinglaw08.FieldsOne': WHATEVER THE INPUT: true; the input reads as it did. -/
def fieldsOneSpec : ChangeSpec := { name := "fieldsOne", fn := fun _ => fun
  | [d1, d2] => { results := [.lit (.bool true)], args := [d1, d2] }
  | _ => none }
def fieldsOneRow : OpenClaim := { program := "ytmiamhegohlglaa", sum := "ba0a9c994f7ecb6fed9c5f51a3a30733c26078215f978c6018d6d579ba75886a", func := "groundling/groundlinglaw08.FieldsOne", spec := "fieldsOne", unfollowed := true, recurses := true, apart := false }
def FieldsOneSaid : Prop := fieldsOneRow.holds Try.pinned (OpenSpec.ofChange fieldsOneSpec)

/-- ITS FALSE NEIGHBOUR: 'it returns false'. Refute it at one input. -/
def fieldsOneWrong : ChangeSpec := { name := "fieldsOne", fn := fun _ => fun
  | [d1, d2] => { results := [.lit (.bool false)], args := [d1, d2] }
  | _ => none }
def FieldsOneWrongFalsely : Prop := fieldsOneRow.holds Try.pinned (OpenSpec.ofChange fieldsOneWrong)

/- THE SECOND FORM. 'bulk': how many values and letters a reading holds, each counted each time it is reached (what is shared counts as often as it is met; a slice's spare places count too). A statement '..UptoSaid' is the law's where the arguments, and the package variables that the reading takes, are together of bulk at most 1048576: NARROWER than '..Said'. Prove '..Said' where nothing that the law and all that it calls make is longer than what came in: it says more and counts as full. Else prove '..UptoSaid'. A law counts once. -/
mutual
def uptoBulk {H : Type} : DataW H → Nat
  | .lit (.string bytes) => bytes.length + 1
  | .lit _ => 1
  | .nil => 1
  | .ptr d => uptoBulk d + 1
  | .slice elems spare => uptoBulkAll elems + uptoBulkAll spare + 1
  | .agg parts => uptoBulkAll parts + 1
  | .iface _ d => uptoBulk d + 1
  | .map entries => uptoBulkEntries entries + 1
  | .held _ => 1
def uptoBulkAll {H : Type} : List (DataW H) → Nat
  | [] => 0
  | d :: r => uptoBulk d + uptoBulkAll r
def uptoBulkEntries {H : Type} : List (Lit × DataW H) → Nat
  | [] => 0
  | x :: r => uptoBulkEntry x + uptoBulkEntries r
def uptoBulkEntry {H : Type} : Lit × DataW H → Nat
  | (.string bytes, d) => bytes.length + uptoBulk d + 1
  | (_, d) => uptoBulk d + 1
 end
def uptoSmall : (H : Type) → List (DataW H) → Bool := fun _ ds => decide (uptoBulkAll ds ≤ 1048576)
def OpenSpec.upto (s : _root_.Go.ChangeSpec) : _root_.Go.OpenSpec := { _root_.Go.OpenSpec.ofChange s with cond := some uptoSmall }

/-- 'groundlinglaw08.FieldsDecodes', WHERE WHAT IT READS IS OF BULK AT MOST 1048576: true; the input reads as it did. -/
def fieldsDecodesUptoRow : OpenClaim := { program := "ytmiamhegohlglaa", sum := "ba0a9c994f7ecb6fed9c5f51a3a30733c26078215f978c6018d6d579ba75886a", func := "groundling/groundlinglaw08.FieldsDecodes", spec := "fieldsDecodes", unfollowed := true, recurses := true, apart := false, narrowed := true }
def FieldsDecodesUptoSaid : Prop := fieldsDecodesUptoRow.holds Try.pinned (OpenSpec.upto fieldsDecodesSpec)

/-- 'groundlinglaw08.FieldsFinds', WHERE WHAT IT READS IS OF BULK AT MOST 1048576: true; the input reads as it did. -/
def fieldsFindsUptoRow : OpenClaim := { program := "ytmiamhegohlglaa", sum := "ba0a9c994f7ecb6fed9c5f51a3a30733c26078215f978c6018d6d579ba75886a", func := "groundling/groundlinglaw08.FieldsFinds", spec := "fieldsFinds", unfollowed := true, recurses := true, apart := false, narrowed := true }
def FieldsFindsUptoSaid : Prop := fieldsFindsUptoRow.holds Try.pinned (OpenSpec.upto fieldsFindsSpec)

/-- 'groundlinglaw08.FieldsRound', WHERE WHAT IT READS IS OF BULK AT MOST 1048576: true; the input reads as it did. -/
def fieldsRoundUptoRow : OpenClaim := { program := "ytmiamhegohlglaa", sum := "ba0a9c994f7ecb6fed9c5f51a3a30733c26078215f978c6018d6d579ba75886a", func := "groundling/groundlinglaw08.FieldsRound", spec := "fieldsRound", unfollowed := true, recurses := true, apart := false, narrowed := true }
def FieldsRoundUptoSaid : Prop := fieldsRoundUptoRow.holds Try.pinned (OpenSpec.upto fieldsRoundSpec)

/-- 'groundlinglaw08.FieldsParts', WHERE WHAT IT READS IS OF BULK AT MOST 1048576: true; the input reads as it did. -/
def fieldsPartsUptoRow : OpenClaim := { program := "ytmiamhegohlglaa", sum := "ba0a9c994f7ecb6fed9c5f51a3a30733c26078215f978c6018d6d579ba75886a", func := "groundling/groundlinglaw08.FieldsParts", spec := "fieldsParts", unfollowed := true, recurses := true, apart := false, narrowed := true }
def FieldsPartsUptoSaid : Prop := fieldsPartsUptoRow.holds Try.pinned (OpenSpec.upto fieldsPartsSpec)

/-- 'groundlinglaw08.FieldsLess', WHERE WHAT IT READS IS OF BULK AT MOST 1048576: true; the input reads as it did. -/
def fieldsLessUptoRow : OpenClaim := { program := "ytmiamhegohlglaa", sum := "ba0a9c994f7ecb6fed9c5f51a3a30733c26078215f978c6018d6d579ba75886a", func := "groundling/groundlinglaw08.FieldsLess", spec := "fieldsLess", unfollowed := true, recurses := true, apart := false, narrowed := true }
def FieldsLessUptoSaid : Prop := fieldsLessUptoRow.holds Try.pinned (OpenSpec.upto fieldsLessSpec)

/-- 'groundlinglaw08.FieldsKnown', WHERE WHAT IT READS IS OF BULK AT MOST 1048576: true; the input reads as it did. -/
def fieldsKnownUptoRow : OpenClaim := { program := "ytmiamhegohlglaa", sum := "ba0a9c994f7ecb6fed9c5f51a3a30733c26078215f978c6018d6d579ba75886a", func := "groundling/groundlinglaw08.FieldsKnown", spec := "fieldsKnown", unfollowed := true, recurses := true, apart := false, narrowed := true }
def FieldsKnownUptoSaid : Prop := fieldsKnownUptoRow.holds Try.pinned (OpenSpec.upto fieldsKnownSpec)

/-- 'groundlinglaw08.FieldsEncodes', WHERE WHAT IT READS IS OF BULK AT MOST 1048576: true; the input reads as it did. -/
def fieldsEncodesUptoRow : OpenClaim := { program := "ytmiamhegohlglaa", sum := "ba0a9c994f7ecb6fed9c5f51a3a30733c26078215f978c6018d6d579ba75886a", func := "groundling/groundlinglaw08.FieldsEncodes", spec := "fieldsEncodes", unfollowed := true, recurses := true, apart := false, narrowed := true }
def FieldsEncodesUptoSaid : Prop := fieldsEncodesUptoRow.holds Try.pinned (OpenSpec.upto fieldsEncodesSpec)

/-- 'groundlinglaw08.FieldsOne', WHERE WHAT IT READS IS OF BULK AT MOST 1048576: true; the input reads as it did. -/
def fieldsOneUptoRow : OpenClaim := { program := "ytmiamhegohlglaa", sum := "ba0a9c994f7ecb6fed9c5f51a3a30733c26078215f978c6018d6d579ba75886a", func := "groundling/groundlinglaw08.FieldsOne", spec := "fieldsOne", unfollowed := true, recurses := true, apart := false, narrowed := true }
def FieldsOneUptoSaid : Prop := fieldsOneUptoRow.holds Try.pinned (OpenSpec.upto fieldsOneSpec)

end Rows
end Go.Proofs.Ytmiamhegohlglaa
