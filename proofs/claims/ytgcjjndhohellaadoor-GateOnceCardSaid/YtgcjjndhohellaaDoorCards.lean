/-
  DERIVED. GIVEN WITH THE SEED: THE CARDS: each row of YtgcjjndhohellaaDoorRows.lean that lists a variable, with what it lists TIED to the program's text (the seventh form; the later family's looks); each row that meets fmt, with fmt's text TOLD by the authors' own Lean function (tested against real Go, not proved from fmt's source: count such statements apart). THE CARD IS WHAT COUNTS. Prove the row's statement (the work); the ties are given (YtgcjjndhohellaaDoorTie.lean); close each card by the builder's one call (the guide's Derived/Test/ToyasCard.lean, 'card_holds'). Laid BY PROGRAM, IN A SANDBOX (cutbox-door.mjs). By AI agents, Wed Nov 11 2026. No macro, syntax, notation, axiom, sorry.
-/
import Derived.Test.YtgcjjndhohellaaDoorRows
import GoSem.ClaimSeven
namespace Go.Proofs.YtgcjjndhohellaaDoor
namespace Rows

/-- THE TIED CARD OF 'groundlinglaw27.GateEnters'. -/
def gateEntersCard : Claim7 := { stood := { row := gateEntersRow, standIns := [], harness := (true, "0fa7c0f10575bbba6f9b2492464eed21f4076d4891f6aef4f2fe1887e875a723"), looks := false }, kinds := [], alts := [], laidByText := true, laidKinds := [.data, .data, .data], laidTests := true, laidLooks := .later }
def GateEntersCardSaid : Prop := Claim7.holds Tryd.pinned (.plain (OpenSpec.ofChange gateEntersSpec)) gateEntersCard

/-- THE TIED CARD OF 'groundlinglaw27.GateKnown'. -/
def gateKnownCard : Claim7 := { stood := { row := gateKnownRow, standIns := [], harness := (true, "0fa7c0f10575bbba6f9b2492464eed21f4076d4891f6aef4f2fe1887e875a723"), looks := false }, kinds := [], alts := [], laidByText := true, laidKinds := [.data, .data, .data], laidTests := true, laidLooks := .later }
def GateKnownCardSaid : Prop := Claim7.holds Tryd.pinned (.plain (OpenSpec.ofChange gateKnownSpec)) gateKnownCard

/-- THE TIED CARD OF 'groundlinglaw27.GateChecks'. -/
def gateChecksCard : Claim7 := { stood := { row := gateChecksRow, standIns := [], harness := (true, "0fa7c0f10575bbba6f9b2492464eed21f4076d4891f6aef4f2fe1887e875a723"), looks := false }, kinds := [], alts := [], laidByText := true, laidKinds := [.data, .data, .data], laidTests := true, laidLooks := .later }
def GateChecksCardSaid : Prop := Claim7.holds Tryd.pinned (.plain (OpenSpec.ofChange gateChecksSpec)) gateChecksCard

/-- THE TIED CARD OF 'groundlinglaw27.GatePlays'. -/
def gatePlaysCard : Claim7 := { stood := { row := gatePlaysRow, standIns := [], harness := (true, "0fa7c0f10575bbba6f9b2492464eed21f4076d4891f6aef4f2fe1887e875a723"), looks := false }, kinds := [], alts := [], laidByText := true, laidKinds := [.data, .data, .data], laidTests := true, laidLooks := .later }
def GatePlaysCardSaid : Prop := Claim7.holds Tryd.pinned (.plain (OpenSpec.ofChange gatePlaysSpec)) gatePlaysCard

/-- THE TIED CARD OF 'groundlinglaw27.GateOnce'. -/
def gateOnceCard : Claim7 := { stood := { row := gateOnceRow, standIns := [], harness := (true, "0fa7c0f10575bbba6f9b2492464eed21f4076d4891f6aef4f2fe1887e875a723"), looks := false }, kinds := [], alts := [], laidByText := true, laidKinds := [.data, .data, .data], laidTests := true, laidLooks := .later }
def GateOnceCardSaid : Prop := Claim7.holds Tryd.pinned (.plain (OpenSpec.ofChange gateOnceSpec)) gateOnceCard

/-- THE TIED CARD OF 'groundlinglaw27.GateOrder'. -/
def gateOrderCard : Claim7 := { stood := { row := gateOrderRow, standIns := [], harness := (true, "0fa7c0f10575bbba6f9b2492464eed21f4076d4891f6aef4f2fe1887e875a723"), looks := false }, kinds := [], alts := [], laidByText := true, laidKinds := [.data, .data, .data], laidTests := true, laidLooks := .later }
def GateOrderCardSaid : Prop := Claim7.holds Tryd.pinned (.plain (OpenSpec.ofChange gateOrderSpec)) gateOrderCard

/-- THE SECOND FORM's CARD OF 'groundlinglaw27.GateEnters'. -/
def gateEntersUptoCard : Claim7 := { stood := { row := gateEntersUptoRow, standIns := [], harness := (true, "0fa7c0f10575bbba6f9b2492464eed21f4076d4891f6aef4f2fe1887e875a723"), looks := false }, kinds := [], alts := [], laidByText := true, laidKinds := [.data, .data, .data], laidTests := true, laidLooks := .later }
def GateEntersUptoCardSaid : Prop := Claim7.holds Tryd.pinned (.plain (OpenSpec.upto gateEntersSpec)) gateEntersUptoCard

/-- THE SECOND FORM's CARD OF 'groundlinglaw27.GateKnown'. -/
def gateKnownUptoCard : Claim7 := { stood := { row := gateKnownUptoRow, standIns := [], harness := (true, "0fa7c0f10575bbba6f9b2492464eed21f4076d4891f6aef4f2fe1887e875a723"), looks := false }, kinds := [], alts := [], laidByText := true, laidKinds := [.data, .data, .data], laidTests := true, laidLooks := .later }
def GateKnownUptoCardSaid : Prop := Claim7.holds Tryd.pinned (.plain (OpenSpec.upto gateKnownSpec)) gateKnownUptoCard

/-- THE SECOND FORM's CARD OF 'groundlinglaw27.GateChecks'. -/
def gateChecksUptoCard : Claim7 := { stood := { row := gateChecksUptoRow, standIns := [], harness := (true, "0fa7c0f10575bbba6f9b2492464eed21f4076d4891f6aef4f2fe1887e875a723"), looks := false }, kinds := [], alts := [], laidByText := true, laidKinds := [.data, .data, .data], laidTests := true, laidLooks := .later }
def GateChecksUptoCardSaid : Prop := Claim7.holds Tryd.pinned (.plain (OpenSpec.upto gateChecksSpec)) gateChecksUptoCard

/-- THE SECOND FORM's CARD OF 'groundlinglaw27.GatePlays'. -/
def gatePlaysUptoCard : Claim7 := { stood := { row := gatePlaysUptoRow, standIns := [], harness := (true, "0fa7c0f10575bbba6f9b2492464eed21f4076d4891f6aef4f2fe1887e875a723"), looks := false }, kinds := [], alts := [], laidByText := true, laidKinds := [.data, .data, .data], laidTests := true, laidLooks := .later }
def GatePlaysUptoCardSaid : Prop := Claim7.holds Tryd.pinned (.plain (OpenSpec.upto gatePlaysSpec)) gatePlaysUptoCard

/-- THE SECOND FORM's CARD OF 'groundlinglaw27.GateOnce'. -/
def gateOnceUptoCard : Claim7 := { stood := { row := gateOnceUptoRow, standIns := [], harness := (true, "0fa7c0f10575bbba6f9b2492464eed21f4076d4891f6aef4f2fe1887e875a723"), looks := false }, kinds := [], alts := [], laidByText := true, laidKinds := [.data, .data, .data], laidTests := true, laidLooks := .later }
def GateOnceUptoCardSaid : Prop := Claim7.holds Tryd.pinned (.plain (OpenSpec.upto gateOnceSpec)) gateOnceUptoCard

/-- THE SECOND FORM's CARD OF 'groundlinglaw27.GateOrder'. -/
def gateOrderUptoCard : Claim7 := { stood := { row := gateOrderUptoRow, standIns := [], harness := (true, "0fa7c0f10575bbba6f9b2492464eed21f4076d4891f6aef4f2fe1887e875a723"), looks := false }, kinds := [], alts := [], laidByText := true, laidKinds := [.data, .data, .data], laidTests := true, laidLooks := .later }
def GateOrderUptoCardSaid : Prop := Claim7.holds Tryd.pinned (.plain (OpenSpec.upto gateOrderSpec)) gateOrderUptoCard
end Rows
end Go.Proofs.YtgcjjndhohellaaDoor
