/-
  DERIVED. GIVEN WITH THE SEED: THE CARDS: each row of YtcobkjognpjikaaDoorRows.lean that lists a variable, with what it lists TIED to the program's text (the seventh form; the later family's looks); each row that meets fmt, with fmt's text TOLD by the authors' own Lean function (tested against real Go, not proved from fmt's source: count such statements apart). THE CARD IS WHAT COUNTS. Prove the row's statement (the work); the ties are given (YtcobkjognpjikaaDoorTie.lean); close each card by the builder's one call (the guide's Derived/Test/ToyasCard.lean, 'card_holds'). Laid BY PROGRAM, IN A SANDBOX (cutbox-door.mjs). By AI agents, Wed Nov 11 2026. No macro, syntax, notation, axiom, sorry.
-/
import Derived.Test.YtcobkjognpjikaaDoorRows
import GoSem.ClaimSeven
namespace Go.Proofs.YtcobkjognpjikaaDoor
namespace Rows

/-- THE TIED CARD OF 'groundlinglaw10.ResponsesEncodes'. -/
def responsesEncodesCard : Claim7 := { stood := { row := responsesEncodesRow, standIns := [], harness := (true, "5063d70d542883b0038d303c0b0e23b92b42746a516c2dc100e55f37c35ceaa4"), looks := true }, kinds := [], alts := [], laidByText := true, laidKinds := [.data, .data, .data, .data, .data, .data], laidTests := true, laidLooks := .later }
def ResponsesEncodesCardSaid : Prop := Claim7.holds Tryd.pinned (.plain (OpenSpec.ofChange responsesEncodesSpec)) responsesEncodesCard

/-- THE TIED CARD OF 'groundlinglaw10.ResponsesDecodes'. -/
def responsesDecodesCard : Claim7 := { stood := { row := responsesDecodesRow, standIns := [], harness := (true, "5063d70d542883b0038d303c0b0e23b92b42746a516c2dc100e55f37c35ceaa4"), looks := true }, kinds := [], alts := [], laidByText := true, laidKinds := [.data, .data, .data, .data, .data, .data], laidTests := true, laidLooks := .later }
def ResponsesDecodesCardSaid : Prop := Claim7.holds Tryd.pinned (.plain (OpenSpec.ofChange responsesDecodesSpec)) responsesDecodesCard

/-- THE TIED CARD OF 'groundlinglaw10.ResponsesMakes'. -/
def responsesMakesCard : Claim7 := { stood := { row := responsesMakesRow, standIns := [], harness := (true, "5063d70d542883b0038d303c0b0e23b92b42746a516c2dc100e55f37c35ceaa4"), looks := true }, kinds := [], alts := [], laidByText := true, laidKinds := [.data, .data, .data, .data, .data, .data], laidTests := true, laidLooks := .later }
def ResponsesMakesCardSaid : Prop := Claim7.holds Tryd.pinned (.plain (OpenSpec.ofChange responsesMakesSpec)) responsesMakesCard

/-- THE TIED CARD OF 'groundlinglaw10.ResponsesOne'. -/
def responsesOneCard : Claim7 := { stood := { row := responsesOneRow, standIns := [], harness := (true, "5063d70d542883b0038d303c0b0e23b92b42746a516c2dc100e55f37c35ceaa4"), looks := true }, kinds := [], alts := [], laidByText := true, laidKinds := [.data, .data, .data, .data, .data, .data], laidTests := true, laidLooks := .later }
def ResponsesOneCardSaid : Prop := Claim7.holds Tryd.pinned (.plain (OpenSpec.ofChange responsesOneSpec)) responsesOneCard

/-- THE TIED CARD OF 'groundlinglaw10.ResponsesRound'. -/
def responsesRoundCard : Claim7 := { stood := { row := responsesRoundRow, standIns := [], harness := (true, "5063d70d542883b0038d303c0b0e23b92b42746a516c2dc100e55f37c35ceaa4"), looks := true }, kinds := [], alts := [], laidByText := true, laidKinds := [.data, .data, .data, .data, .data, .data], laidTests := true, laidLooks := .later }
def ResponsesRoundCardSaid : Prop := Claim7.holds Tryd.pinned (.plain (OpenSpec.ofChange responsesRoundSpec)) responsesRoundCard

/-- THE TIED CARD OF 'groundlinglaw10.ResponsesAnswer'. -/
def responsesAnswerCard : Claim7 := { stood := { row := responsesAnswerRow, standIns := [], harness := (true, "5063d70d542883b0038d303c0b0e23b92b42746a516c2dc100e55f37c35ceaa4"), looks := true }, kinds := [], alts := [], laidByText := true, laidKinds := [.data, .data, .data, .data, .data, .data], laidTests := true, laidLooks := .later }
def ResponsesAnswerCardSaid : Prop := Claim7.holds Tryd.pinned (.plain (OpenSpec.ofChange responsesAnswerSpec)) responsesAnswerCard

/-- THE TIED CARD OF 'groundlinglaw10.ResponsesKnown'. -/
def responsesKnownCard : Claim7 := { stood := { row := responsesKnownRow, standIns := [], harness := (true, "5063d70d542883b0038d303c0b0e23b92b42746a516c2dc100e55f37c35ceaa4"), looks := true }, kinds := [], alts := [], laidByText := true, laidKinds := [.data, .data, .data, .data, .data, .data], laidTests := true, laidLooks := .later }
def ResponsesKnownCardSaid : Prop := Claim7.holds Tryd.pinned (.plain (OpenSpec.ofChange responsesKnownSpec)) responsesKnownCard

/-- THE SECOND FORM's CARD OF 'groundlinglaw10.ResponsesEncodes'. -/
def responsesEncodesUptoCard : Claim7 := { stood := { row := responsesEncodesUptoRow, standIns := [], harness := (true, "5063d70d542883b0038d303c0b0e23b92b42746a516c2dc100e55f37c35ceaa4"), looks := true }, kinds := [], alts := [], laidByText := true, laidKinds := [.data, .data, .data, .data, .data, .data], laidTests := true, laidLooks := .later }
def ResponsesEncodesUptoCardSaid : Prop := Claim7.holds Tryd.pinned (.plain (OpenSpec.upto responsesEncodesSpec)) responsesEncodesUptoCard

/-- THE SECOND FORM's CARD OF 'groundlinglaw10.ResponsesDecodes'. -/
def responsesDecodesUptoCard : Claim7 := { stood := { row := responsesDecodesUptoRow, standIns := [], harness := (true, "5063d70d542883b0038d303c0b0e23b92b42746a516c2dc100e55f37c35ceaa4"), looks := true }, kinds := [], alts := [], laidByText := true, laidKinds := [.data, .data, .data, .data, .data, .data], laidTests := true, laidLooks := .later }
def ResponsesDecodesUptoCardSaid : Prop := Claim7.holds Tryd.pinned (.plain (OpenSpec.upto responsesDecodesSpec)) responsesDecodesUptoCard

/-- THE SECOND FORM's CARD OF 'groundlinglaw10.ResponsesMakes'. -/
def responsesMakesUptoCard : Claim7 := { stood := { row := responsesMakesUptoRow, standIns := [], harness := (true, "5063d70d542883b0038d303c0b0e23b92b42746a516c2dc100e55f37c35ceaa4"), looks := true }, kinds := [], alts := [], laidByText := true, laidKinds := [.data, .data, .data, .data, .data, .data], laidTests := true, laidLooks := .later }
def ResponsesMakesUptoCardSaid : Prop := Claim7.holds Tryd.pinned (.plain (OpenSpec.upto responsesMakesSpec)) responsesMakesUptoCard

/-- THE SECOND FORM's CARD OF 'groundlinglaw10.ResponsesOne'. -/
def responsesOneUptoCard : Claim7 := { stood := { row := responsesOneUptoRow, standIns := [], harness := (true, "5063d70d542883b0038d303c0b0e23b92b42746a516c2dc100e55f37c35ceaa4"), looks := true }, kinds := [], alts := [], laidByText := true, laidKinds := [.data, .data, .data, .data, .data, .data], laidTests := true, laidLooks := .later }
def ResponsesOneUptoCardSaid : Prop := Claim7.holds Tryd.pinned (.plain (OpenSpec.upto responsesOneSpec)) responsesOneUptoCard

/-- THE SECOND FORM's CARD OF 'groundlinglaw10.ResponsesRound'. -/
def responsesRoundUptoCard : Claim7 := { stood := { row := responsesRoundUptoRow, standIns := [], harness := (true, "5063d70d542883b0038d303c0b0e23b92b42746a516c2dc100e55f37c35ceaa4"), looks := true }, kinds := [], alts := [], laidByText := true, laidKinds := [.data, .data, .data, .data, .data, .data], laidTests := true, laidLooks := .later }
def ResponsesRoundUptoCardSaid : Prop := Claim7.holds Tryd.pinned (.plain (OpenSpec.upto responsesRoundSpec)) responsesRoundUptoCard

/-- THE SECOND FORM's CARD OF 'groundlinglaw10.ResponsesAnswer'. -/
def responsesAnswerUptoCard : Claim7 := { stood := { row := responsesAnswerUptoRow, standIns := [], harness := (true, "5063d70d542883b0038d303c0b0e23b92b42746a516c2dc100e55f37c35ceaa4"), looks := true }, kinds := [], alts := [], laidByText := true, laidKinds := [.data, .data, .data, .data, .data, .data], laidTests := true, laidLooks := .later }
def ResponsesAnswerUptoCardSaid : Prop := Claim7.holds Tryd.pinned (.plain (OpenSpec.upto responsesAnswerSpec)) responsesAnswerUptoCard

/-- THE SECOND FORM's CARD OF 'groundlinglaw10.ResponsesKnown'. -/
def responsesKnownUptoCard : Claim7 := { stood := { row := responsesKnownUptoRow, standIns := [], harness := (true, "5063d70d542883b0038d303c0b0e23b92b42746a516c2dc100e55f37c35ceaa4"), looks := true }, kinds := [], alts := [], laidByText := true, laidKinds := [.data, .data, .data, .data, .data, .data], laidTests := true, laidLooks := .later }
def ResponsesKnownUptoCardSaid : Prop := Claim7.holds Tryd.pinned (.plain (OpenSpec.upto responsesKnownSpec)) responsesKnownUptoCard
end Rows
end Go.Proofs.YtcobkjognpjikaaDoor
