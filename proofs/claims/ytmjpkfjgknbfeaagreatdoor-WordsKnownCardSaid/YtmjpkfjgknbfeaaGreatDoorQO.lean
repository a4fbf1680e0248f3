/- words: Join, and the reference's. -/
import Derived.Test.YtmjpkfjgknbfeaaGreatDoorQN
set_option linter.unusedSimpArgs false
set_option linter.unusedVariables false
namespace Go.Proofs.YtmjpkfjgknbfeaaGreatDoor

def badF (f : Fd) : Bool := !f.q && !bareC f.s
def longA (l : List Fd) : Bool := l.any fun f => decide (2000 < f.s.length)
def badA (l : List Fd) : Bool := l.any badF
def joinW (l : List Fd) : List UInt8 × Int := if 64 < (l.length : Int) then ([], 3) else if longA l = true then ([], 3) else if badA l = true then ([], 6) else if 8192 < ((lineF l).length : Int) then ([], 3) else (lineF l, 0)
end Go.Proofs.YtmjpkfjgknbfeaaGreatDoor
