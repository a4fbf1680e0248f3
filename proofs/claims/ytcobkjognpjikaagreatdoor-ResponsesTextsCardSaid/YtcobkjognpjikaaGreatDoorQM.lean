/- words: what Split reads is what Join writes; digits are what Int reads. -/
import Derived.Test.YtcobkjognpjikaaGreatDoorQL
set_option linter.unusedSimpArgs false
set_option linter.unusedVariables false
namespace Go.Proofs.YtcobkjognpjikaaGreatDoor


/-- the form of a field -/
def formF (f : Fd) : List UInt8 := if f.q = true then quote f.s else f.s
def lineF (fs : List Fd) : List UInt8 := Lib.join (fs.map formF) [32]
def FdOk (f : Fd) : Prop := f.q = false → bareC f.s = true
/-! digits -/
end Go.Proofs.YtcobkjognpjikaaGreatDoor
