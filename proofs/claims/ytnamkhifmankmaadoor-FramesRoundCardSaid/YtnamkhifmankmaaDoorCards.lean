/-
  DERIVED. GIVEN WITH THE SEED: THE CARDS: each row of YtnamkhifmankmaaDoorRows.lean that lists a variable, with what it lists TIED to the program's text (the seventh form; the later family's looks); each row that meets fmt, with fmt's text TOLD by the authors' own Lean function (tested against real Go, not proved from fmt's source: count such statements apart). THE CARD IS WHAT COUNTS. Prove the row's statement (the work); the ties are given (YtnamkhifmankmaaDoorTie.lean); close each card by the builder's one call (the guide's Derived/Test/ToyasCard.lean, 'card_holds'). Laid BY PROGRAM, IN A SANDBOX (cutbox-door.mjs). By AI agents, Wed Nov 11 2026. No macro, syntax, notation, axiom, sorry.
-/
import Derived.Test.YtnamkhifmankmaaDoorRows
import GoSem.ClaimSeven
namespace Go.Proofs.YtnamkhifmankmaaDoor
namespace Rows

/-- THE TIED CARD OF 'groundlinglaw07.FramesMakes'. -/
def framesMakesCard : Claim7 := { stood := { row := framesMakesRow, standIns := [], harness := (true, "70a2d1c56bace4ab3127a58bb817a9ddfb600a98b2739f881b29e53f4bd38e29"), looks := false }, kinds := [], alts := [], laidByText := true, laidKinds := [.sentinel], laidTests := true, laidLooks := .later }
def FramesMakesCardSaid : Prop := Claim7.holds Tryd.pinned (.plain (OpenSpec.ofChange framesMakesSpec)) framesMakesCard

/-- THE TIED CARD OF 'groundlinglaw07.FramesRound'. -/
def framesRoundCard : Claim7 := { stood := { row := framesRoundRow, standIns := [], harness := (true, "70a2d1c56bace4ab3127a58bb817a9ddfb600a98b2739f881b29e53f4bd38e29"), looks := false }, kinds := [], alts := [], laidByText := true, laidKinds := [.sentinel], laidTests := true, laidLooks := .later }
def FramesRoundCardSaid : Prop := Claim7.holds Tryd.pinned (.plain (OpenSpec.ofChange framesRoundSpec)) framesRoundCard

/-- THE SECOND FORM's CARD OF 'groundlinglaw07.FramesMakes'. -/
def framesMakesUptoCard : Claim7 := { stood := { row := framesMakesUptoRow, standIns := [], harness := (true, "70a2d1c56bace4ab3127a58bb817a9ddfb600a98b2739f881b29e53f4bd38e29"), looks := false }, kinds := [], alts := [], laidByText := true, laidKinds := [.sentinel], laidTests := true, laidLooks := .later }
def FramesMakesUptoCardSaid : Prop := Claim7.holds Tryd.pinned (.plain (OpenSpec.upto framesMakesSpec)) framesMakesUptoCard

/-- THE SECOND FORM's CARD OF 'groundlinglaw07.FramesRound'. -/
def framesRoundUptoCard : Claim7 := { stood := { row := framesRoundUptoRow, standIns := [], harness := (true, "70a2d1c56bace4ab3127a58bb817a9ddfb600a98b2739f881b29e53f4bd38e29"), looks := false }, kinds := [], alts := [], laidByText := true, laidKinds := [.sentinel], laidTests := true, laidLooks := .later }
def FramesRoundUptoCardSaid : Prop := Claim7.holds Tryd.pinned (.plain (OpenSpec.upto framesRoundSpec)) framesRoundUptoCard
end Rows
end Go.Proofs.YtnamkhifmankmaaDoor
