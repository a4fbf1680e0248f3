/-
  DERIVED. GIVEN WITH THE SEED: THE CARDS: each row of YtckbomkcnmcdaaaGreatDoorRows.lean that lists a variable, with what it lists TIED to the program's text (the seventh form; the later family's looks); each row that meets fmt, with fmt's text TOLD by the authors' own Lean function (tested against real Go, not proved from fmt's source: count such statements apart). THE CARD IS WHAT COUNTS. Prove the row's statement (the work); the ties are given (YtckbomkcnmcdaaaGreatDoorTie.lean); close each card by the builder's one call (the guide's Derived/Test/ToyasCard.lean, 'card_holds'). Laid BY PROGRAM, IN A SANDBOX (cutbox-door.mjs). By AI agents, Wed Nov 11 2026. No macro, syntax, notation, axiom, sorry.
-/
import Derived.Test.YtckbomkcnmcdaaaGreatDoorRows
import GoSem.ClaimSeven
namespace Go.Proofs.YtckbomkcnmcdaaaGreatDoor
namespace Rows

/-- THE TIED CARD OF 'groundlinglaw09.RequestsRules'. -/
def requestsRulesCard : Claim7 := { stood := { row := requestsRulesRow, standIns := [], harness := (true, "fa265250feb897697ead2916e4225471d84216cc6c046fc1fbdf10b00a904553"), looks := true }, kinds := [], alts := [], laidByText := true, laidKinds := [.data, .data, .data, .data, .sentinel, .sentinel, .data, .data, .data, .pinned], laidTests := true, laidLooks := .later }
def RequestsRulesCardSaid : Prop := Claim7.holds Tryz.pinned (.plain (OpenSpec.ofChange requestsRulesSpec)) requestsRulesCard

/-- THE TIED CARD OF 'groundlinglaw09.RequestsEncodes'. -/
def requestsEncodesCard : Claim7 := { stood := { row := requestsEncodesRow, standIns := [], harness := (true, "fa265250feb897697ead2916e4225471d84216cc6c046fc1fbdf10b00a904553"), looks := true }, kinds := [], alts := [], laidByText := true, laidKinds := [.data, .data, .data, .data, .sentinel, .sentinel, .data, .data, .data, .pinned], laidTests := true, laidLooks := .later }
def RequestsEncodesCardSaid : Prop := Claim7.holds Tryz.pinned (.plain (OpenSpec.ofChange requestsEncodesSpec)) requestsEncodesCard

/-- THE TIED CARD OF 'groundlinglaw09.RequestsDecodes'. -/
def requestsDecodesCard : Claim7 := { stood := { row := requestsDecodesRow, standIns := [], harness := (true, "fa265250feb897697ead2916e4225471d84216cc6c046fc1fbdf10b00a904553"), looks := true }, kinds := [], alts := [], laidByText := true, laidKinds := [.data, .data, .data, .data, .sentinel, .sentinel, .data, .data, .data, .pinned], laidTests := true, laidLooks := .later }
def RequestsDecodesCardSaid : Prop := Claim7.holds Tryz.pinned (.plain (OpenSpec.ofChange requestsDecodesSpec)) requestsDecodesCard

/-- THE TIED CARD OF 'groundlinglaw09.RequestsTexts'. -/
def requestsTextsCard : Claim7 := { stood := { row := requestsTextsRow, standIns := [], harness := (true, "fa265250feb897697ead2916e4225471d84216cc6c046fc1fbdf10b00a904553"), looks := true }, kinds := [], alts := [], laidByText := true, laidKinds := [.data, .data, .data, .data, .sentinel, .sentinel, .data, .data, .data, .pinned], laidTests := true, laidLooks := .later }
def RequestsTextsCardSaid : Prop := Claim7.holds Tryz.pinned (.plain (OpenSpec.ofChange requestsTextsSpec)) requestsTextsCard

/-- THE TIED CARD OF 'groundlinglaw09.RequestsOne'. -/
def requestsOneCard : Claim7 := { stood := { row := requestsOneRow, standIns := [], harness := (true, "fa265250feb897697ead2916e4225471d84216cc6c046fc1fbdf10b00a904553"), looks := true }, kinds := [], alts := [], laidByText := true, laidKinds := [.data, .data, .data, .data, .sentinel, .sentinel, .data, .data, .data, .pinned], laidTests := true, laidLooks := .later }
def RequestsOneCardSaid : Prop := Claim7.holds Tryz.pinned (.plain (OpenSpec.ofChange requestsOneSpec)) requestsOneCard

/-- THE TIED CARD OF 'groundlinglaw09.RequestsRound'. -/
def requestsRoundCard : Claim7 := { stood := { row := requestsRoundRow, standIns := [], harness := (true, "fa265250feb897697ead2916e4225471d84216cc6c046fc1fbdf10b00a904553"), looks := true }, kinds := [], alts := [], laidByText := true, laidKinds := [.data, .data, .data, .data, .sentinel, .sentinel, .data, .data, .data, .pinned], laidTests := true, laidLooks := .later }
def RequestsRoundCardSaid : Prop := Claim7.holds Tryz.pinned (.plain (OpenSpec.ofChange requestsRoundSpec)) requestsRoundCard

/-- THE TIED CARD OF 'groundlinglaw09.RequestsLines'. -/
def requestsLinesCard : Claim7 := { stood := { row := requestsLinesRow, standIns := [], harness := (true, "fa265250feb897697ead2916e4225471d84216cc6c046fc1fbdf10b00a904553"), looks := true }, kinds := [], alts := [], laidByText := true, laidKinds := [.data, .data, .data, .data, .sentinel, .sentinel, .data, .data, .data, .pinned], laidTests := true, laidLooks := .later }
def RequestsLinesCardSaid : Prop := Claim7.holds Tryz.pinned (.plain (OpenSpec.ofChange requestsLinesSpec)) requestsLinesCard

/-- THE TIED CARD OF 'groundlinglaw09.RequestsKnown'. -/
def requestsKnownCard : Claim7 := { stood := { row := requestsKnownRow, standIns := [], harness := (true, "fa265250feb897697ead2916e4225471d84216cc6c046fc1fbdf10b00a904553"), looks := true }, kinds := [], alts := [], laidByText := true, laidKinds := [.data, .data, .data, .data, .sentinel, .sentinel, .data, .data, .data, .pinned], laidTests := true, laidLooks := .later }
def RequestsKnownCardSaid : Prop := Claim7.holds Tryz.pinned (.plain (OpenSpec.ofChange requestsKnownSpec)) requestsKnownCard

/-- THE TIED CARD OF 'groundlinglaw09.RequestsOps'. -/
def requestsOpsCard : Claim7 := { stood := { row := requestsOpsRow, standIns := [], harness := (true, "fa265250feb897697ead2916e4225471d84216cc6c046fc1fbdf10b00a904553"), looks := true }, kinds := [], alts := [], laidByText := true, laidKinds := [.data, .data, .data, .data, .sentinel, .sentinel, .data, .data, .data, .pinned], laidTests := true, laidLooks := .later }
def RequestsOpsCardSaid : Prop := Claim7.holds Tryz.pinned (.plain (OpenSpec.ofChange requestsOpsSpec)) requestsOpsCard

/-- THE SECOND FORM's CARD OF 'groundlinglaw09.RequestsRules'. -/
def requestsRulesUptoCard : Claim7 := { stood := { row := requestsRulesUptoRow, standIns := [], harness := (true, "fa265250feb897697ead2916e4225471d84216cc6c046fc1fbdf10b00a904553"), looks := true }, kinds := [], alts := [], laidByText := true, laidKinds := [.data, .data, .data, .data, .sentinel, .sentinel, .data, .data, .data, .pinned], laidTests := true, laidLooks := .later }
def RequestsRulesUptoCardSaid : Prop := Claim7.holds Tryz.pinned (.plain (OpenSpec.upto requestsRulesSpec)) requestsRulesUptoCard

/-- THE SECOND FORM's CARD OF 'groundlinglaw09.RequestsEncodes'. -/
def requestsEncodesUptoCard : Claim7 := { stood := { row := requestsEncodesUptoRow, standIns := [], harness := (true, "fa265250feb897697ead2916e4225471d84216cc6c046fc1fbdf10b00a904553"), looks := true }, kinds := [], alts := [], laidByText := true, laidKinds := [.data, .data, .data, .data, .sentinel, .sentinel, .data, .data, .data, .pinned], laidTests := true, laidLooks := .later }
def RequestsEncodesUptoCardSaid : Prop := Claim7.holds Tryz.pinned (.plain (OpenSpec.upto requestsEncodesSpec)) requestsEncodesUptoCard

/-- THE SECOND FORM's CARD OF 'groundlinglaw09.RequestsDecodes'. -/
def requestsDecodesUptoCard : Claim7 := { stood := { row := requestsDecodesUptoRow, standIns := [], harness := (true, "fa265250feb897697ead2916e4225471d84216cc6c046fc1fbdf10b00a904553"), looks := true }, kinds := [], alts := [], laidByText := true, laidKinds := [.data, .data, .data, .data, .sentinel, .sentinel, .data, .data, .data, .pinned], laidTests := true, laidLooks := .later }
def RequestsDecodesUptoCardSaid : Prop := Claim7.holds Tryz.pinned (.plain (OpenSpec.upto requestsDecodesSpec)) requestsDecodesUptoCard

/-- THE SECOND FORM's CARD OF 'groundlinglaw09.RequestsTexts'. -/
def requestsTextsUptoCard : Claim7 := { stood := { row := requestsTextsUptoRow, standIns := [], harness := (true, "fa265250feb897697ead2916e4225471d84216cc6c046fc1fbdf10b00a904553"), looks := true }, kinds := [], alts := [], laidByText := true, laidKinds := [.data, .data, .data, .data, .sentinel, .sentinel, .data, .data, .data, .pinned], laidTests := true, laidLooks := .later }
def RequestsTextsUptoCardSaid : Prop := Claim7.holds Tryz.pinned (.plain (OpenSpec.upto requestsTextsSpec)) requestsTextsUptoCard

/-- THE SECOND FORM's CARD OF 'groundlinglaw09.RequestsOne'. -/
def requestsOneUptoCard : Claim7 := { stood := { row := requestsOneUptoRow, standIns := [], harness := (true, "fa265250feb897697ead2916e4225471d84216cc6c046fc1fbdf10b00a904553"), looks := true }, kinds := [], alts := [], laidByText := true, laidKinds := [.data, .data, .data, .data, .sentinel, .sentinel, .data, .data, .data, .pinned], laidTests := true, laidLooks := .later }
def RequestsOneUptoCardSaid : Prop := Claim7.holds Tryz.pinned (.plain (OpenSpec.upto requestsOneSpec)) requestsOneUptoCard

/-- THE SECOND FORM's CARD OF 'groundlinglaw09.RequestsRound'. -/
def requestsRoundUptoCard : Claim7 := { stood := { row := requestsRoundUptoRow, standIns := [], harness := (true, "fa265250feb897697ead2916e4225471d84216cc6c046fc1fbdf10b00a904553"), looks := true }, kinds := [], alts := [], laidByText := true, laidKinds := [.data, .data, .data, .data, .sentinel, .sentinel, .data, .data, .data, .pinned], laidTests := true, laidLooks := .later }
def RequestsRoundUptoCardSaid : Prop := Claim7.holds Tryz.pinned (.plain (OpenSpec.upto requestsRoundSpec)) requestsRoundUptoCard

/-- THE SECOND FORM's CARD OF 'groundlinglaw09.RequestsLines'. -/
def requestsLinesUptoCard : Claim7 := { stood := { row := requestsLinesUptoRow, standIns := [], harness := (true, "fa265250feb897697ead2916e4225471d84216cc6c046fc1fbdf10b00a904553"), looks := true }, kinds := [], alts := [], laidByText := true, laidKinds := [.data, .data, .data, .data, .sentinel, .sentinel, .data, .data, .data, .pinned], laidTests := true, laidLooks := .later }
def RequestsLinesUptoCardSaid : Prop := Claim7.holds Tryz.pinned (.plain (OpenSpec.upto requestsLinesSpec)) requestsLinesUptoCard

/-- THE SECOND FORM's CARD OF 'groundlinglaw09.RequestsKnown'. -/
def requestsKnownUptoCard : Claim7 := { stood := { row := requestsKnownUptoRow, standIns := [], harness := (true, "fa265250feb897697ead2916e4225471d84216cc6c046fc1fbdf10b00a904553"), looks := true }, kinds := [], alts := [], laidByText := true, laidKinds := [.data, .data, .data, .data, .sentinel, .sentinel, .data, .data, .data, .pinned], laidTests := true, laidLooks := .later }
def RequestsKnownUptoCardSaid : Prop := Claim7.holds Tryz.pinned (.plain (OpenSpec.upto requestsKnownSpec)) requestsKnownUptoCard

/-- THE SECOND FORM's CARD OF 'groundlinglaw09.RequestsOps'. -/
def requestsOpsUptoCard : Claim7 := { stood := { row := requestsOpsUptoRow, standIns := [], harness := (true, "fa265250feb897697ead2916e4225471d84216cc6c046fc1fbdf10b00a904553"), looks := true }, kinds := [], alts := [], laidByText := true, laidKinds := [.data, .data, .data, .data, .sentinel, .sentinel, .data, .data, .data, .pinned], laidTests := true, laidLooks := .later }
def RequestsOpsUptoCardSaid : Prop := Claim7.holds Tryz.pinned (.plain (OpenSpec.upto requestsOpsSpec)) requestsOpsUptoCard
end Rows
end Go.Proofs.YtckbomkcnmcdaaaGreatDoor
