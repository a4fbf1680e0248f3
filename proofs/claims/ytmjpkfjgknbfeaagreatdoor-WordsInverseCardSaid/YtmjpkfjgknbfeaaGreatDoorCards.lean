/-
  DERIVED. GIVEN WITH THE SEED: THE CARDS: each row of YtmjpkfjgknbfeaaGreatDoorRows.lean that lists a variable, with what it lists TIED to the program's text (the seventh form; the later family's looks); each row that meets fmt, with fmt's text TOLD by the authors' own Lean function (tested against real Go, not proved from fmt's source: count such statements apart). THE CARD IS WHAT COUNTS. Prove the row's statement (the work); the ties are given (YtmjpkfjgknbfeaaGreatDoorTie.lean); close each card by the builder's one call (the guide's Derived/Test/ToyasCard.lean, 'card_holds'). Laid BY PROGRAM, IN A SANDBOX (cutbox-door.mjs). By AI agents, Wed Nov 11 2026. No macro, syntax, notation, axiom, sorry.
-/
import Derived.Test.YtmjpkfjgknbfeaaGreatDoorRows
import GoSem.ClaimSeven
namespace Go.Proofs.YtmjpkfjgknbfeaaGreatDoor
namespace Rows

/-- THE TIED CARD OF 'groundlinglaw01.WordsLists'. -/
def wordsListsCard : Claim7 := { stood := { row := wordsListsRow, standIns := [], harness := (true, "320b8ab8edd1cf06d6f6a6609054aff0be9ac4d9ebb68e6d55c925ec6ae84e76"), looks := true }, kinds := [], alts := [], laidByText := true, laidKinds := [.data, .data, .data, .data, .sentinel, .sentinel, .data, .pinned], laidTests := true, laidLooks := .later }
def WordsListsCardSaid : Prop := Claim7.holds Tryz.pinned (.plain (OpenSpec.ofChange wordsListsSpec)) wordsListsCard

/-- THE TIED CARD OF 'groundlinglaw01.WordsKnown'. -/
def wordsKnownCard : Claim7 := { stood := { row := wordsKnownRow, standIns := [], harness := (true, "320b8ab8edd1cf06d6f6a6609054aff0be9ac4d9ebb68e6d55c925ec6ae84e76"), looks := true }, kinds := [], alts := [], laidByText := true, laidKinds := [.data, .data, .data, .data, .sentinel, .sentinel, .data, .pinned], laidTests := true, laidLooks := .later }
def WordsKnownCardSaid : Prop := Claim7.holds Tryz.pinned (.plain (OpenSpec.ofChange wordsKnownSpec)) wordsKnownCard

/-- THE TIED CARD OF 'groundlinglaw01.WordsInverse'. -/
def wordsInverseCard : Claim7 := { stood := { row := wordsInverseRow, standIns := [], harness := (true, "320b8ab8edd1cf06d6f6a6609054aff0be9ac4d9ebb68e6d55c925ec6ae84e76"), looks := true }, kinds := [], alts := [], laidByText := true, laidKinds := [.data, .data, .data, .data, .sentinel, .sentinel, .data, .pinned], laidTests := true, laidLooks := .later }
def WordsInverseCardSaid : Prop := Claim7.holds Tryz.pinned (.plain (OpenSpec.ofChange wordsInverseSpec)) wordsInverseCard

/-- THE SECOND FORM's CARD OF 'groundlinglaw01.WordsLists'. -/
def wordsListsUptoCard : Claim7 := { stood := { row := wordsListsUptoRow, standIns := [], harness := (true, "320b8ab8edd1cf06d6f6a6609054aff0be9ac4d9ebb68e6d55c925ec6ae84e76"), looks := true }, kinds := [], alts := [], laidByText := true, laidKinds := [.data, .data, .data, .data, .sentinel, .sentinel, .data, .pinned], laidTests := true, laidLooks := .later }
def WordsListsUptoCardSaid : Prop := Claim7.holds Tryz.pinned (.plain (OpenSpec.upto wordsListsSpec)) wordsListsUptoCard

/-- THE SECOND FORM's CARD OF 'groundlinglaw01.WordsKnown'. -/
def wordsKnownUptoCard : Claim7 := { stood := { row := wordsKnownUptoRow, standIns := [], harness := (true, "320b8ab8edd1cf06d6f6a6609054aff0be9ac4d9ebb68e6d55c925ec6ae84e76"), looks := true }, kinds := [], alts := [], laidByText := true, laidKinds := [.data, .data, .data, .data, .sentinel, .sentinel, .data, .pinned], laidTests := true, laidLooks := .later }
def WordsKnownUptoCardSaid : Prop := Claim7.holds Tryz.pinned (.plain (OpenSpec.upto wordsKnownSpec)) wordsKnownUptoCard

/-- THE SECOND FORM's CARD OF 'groundlinglaw01.WordsInverse'. -/
def wordsInverseUptoCard : Claim7 := { stood := { row := wordsInverseUptoRow, standIns := [], harness := (true, "320b8ab8edd1cf06d6f6a6609054aff0be9ac4d9ebb68e6d55c925ec6ae84e76"), looks := true }, kinds := [], alts := [], laidByText := true, laidKinds := [.data, .data, .data, .data, .sentinel, .sentinel, .data, .pinned], laidTests := true, laidLooks := .later }
def WordsInverseUptoCardSaid : Prop := Claim7.holds Tryz.pinned (.plain (OpenSpec.upto wordsInverseSpec)) wordsInverseUptoCard
end Rows
end Go.Proofs.YtmjpkfjgknbfeaaGreatDoor
