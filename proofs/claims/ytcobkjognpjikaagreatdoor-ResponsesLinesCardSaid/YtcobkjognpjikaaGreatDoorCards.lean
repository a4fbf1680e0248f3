/-
  DERIVED. GIVEN WITH THE SEED: THE CARDS: each row of YtcobkjognpjikaaGreatDoorRows.lean that lists a variable, with what it lists TIED to the program's text (the seventh form; the later family's looks); each row that meets fmt, with fmt's text TOLD by the authors' own Lean function (tested against real Go, not proved from fmt's source: count such statements apart). THE CARD IS WHAT COUNTS. Prove the row's statement (the work); the ties are given (YtcobkjognpjikaaGreatDoorTie.lean); close each card by the builder's one call (the guide's Derived/Test/ToyasCard.lean, 'card_holds'). Laid BY PROGRAM, IN A SANDBOX (cutbox-door.mjs). By AI agents, Wed Nov 11 2026. No macro, syntax, notation, axiom, sorry.
-/
import Derived.Test.YtcobkjognpjikaaGreatDoorRows
import GoSem.ClaimSeven
namespace Go.Proofs.YtcobkjognpjikaaGreatDoor
namespace Rows

/-- THE TIED CARD OF 'groundlinglaw10.ResponsesTexts'. -/
def responsesTextsCard : Claim7 := { stood := { row := responsesTextsRow, standIns := [], harness := (true, "676a9fe21fa35c840d213e9ff55c0fe173cf1621ae05b652ebea7fea28bd4881"), looks := true }, kinds := [], alts := [], laidByText := true, laidKinds := [.data, .data, .data, .data, .sentinel, .sentinel, .data, .data, .data, .pinned], laidTests := true, laidLooks := .later }
def ResponsesTextsCardSaid : Prop := Claim7.holds Tryz.pinned (.plain (OpenSpec.ofChange responsesTextsSpec)) responsesTextsCard

/-- THE TIED CARD OF 'groundlinglaw10.ResponsesLines'. -/
def responsesLinesCard : Claim7 := { stood := { row := responsesLinesRow, standIns := [], harness := (true, "676a9fe21fa35c840d213e9ff55c0fe173cf1621ae05b652ebea7fea28bd4881"), looks := true }, kinds := [], alts := [], laidByText := true, laidKinds := [.data, .data, .data, .data, .sentinel, .sentinel, .data, .data, .data, .pinned], laidTests := true, laidLooks := .later }
def ResponsesLinesCardSaid : Prop := Claim7.holds Tryz.pinned (.plain (OpenSpec.ofChange responsesLinesSpec)) responsesLinesCard

/-- THE SECOND FORM's CARD OF 'groundlinglaw10.ResponsesTexts'. -/
def responsesTextsUptoCard : Claim7 := { stood := { row := responsesTextsUptoRow, standIns := [], harness := (true, "676a9fe21fa35c840d213e9ff55c0fe173cf1621ae05b652ebea7fea28bd4881"), looks := true }, kinds := [], alts := [], laidByText := true, laidKinds := [.data, .data, .data, .data, .sentinel, .sentinel, .data, .data, .data, .pinned], laidTests := true, laidLooks := .later }
def ResponsesTextsUptoCardSaid : Prop := Claim7.holds Tryz.pinned (.plain (OpenSpec.upto responsesTextsSpec)) responsesTextsUptoCard

/-- THE SECOND FORM's CARD OF 'groundlinglaw10.ResponsesLines'. -/
def responsesLinesUptoCard : Claim7 := { stood := { row := responsesLinesUptoRow, standIns := [], harness := (true, "676a9fe21fa35c840d213e9ff55c0fe173cf1621ae05b652ebea7fea28bd4881"), looks := true }, kinds := [], alts := [], laidByText := true, laidKinds := [.data, .data, .data, .data, .sentinel, .sentinel, .data, .data, .data, .pinned], laidTests := true, laidLooks := .later }
def ResponsesLinesUptoCardSaid : Prop := Claim7.holds Tryz.pinned (.plain (OpenSpec.upto responsesLinesSpec)) responsesLinesUptoCard
end Rows
end Go.Proofs.YtcobkjognpjikaaGreatDoor
