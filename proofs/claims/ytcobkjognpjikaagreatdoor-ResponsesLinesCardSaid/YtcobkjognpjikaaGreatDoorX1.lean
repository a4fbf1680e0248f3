/- responses: the laws ResponsesEncodes, ResponsesDecodes, ResponsesMakes (walks). -/
import Derived.Test.YtcobkjognpjikaaGreatDoorRSH
set_option linter.unusedSimpArgs false
set_option linter.unusedVariables false
namespace Go.Proofs.YtcobkjognpjikaaGreatDoor

theorem sw_uw {n : Int} (h : R64 n) : sw (uw n) = n := by unfold R64 at h; unfold sw uw; rw [IntKind.wrap_i64]; omega
/-- what a response is made of -/
structure Md where
  rp : Mr
  ses : List UInt8
  tic : List UInt8
def Md.c (x : Md) : List SV := x.rp.c ++ [.val (.string ⟨x.ses.toArray⟩), .val (.string ⟨x.tic.toArray⟩)]

end Go.Proofs.YtcobkjognpjikaaGreatDoor
