/- the table of powers of ten. -/
import Derived.Test.YtmjpkfjgknbfeaaGreatDoorL
import Derived.Test.YtmjpkfjgknbfeaaGreatDoorT
import Derived.Test.YtmjpkfjgknbfeaaGreatDoorKF
import Derived.Lib.ItoaMem
import Derived.Lib.AppendIntMem
import Derived.Lib.Walk
import Derived.WalkKit
set_option linter.unusedSimpArgs false
set_option linter.unusedVariables false
namespace Go.Proofs.YtmjpkfjgknbfeaaGreatDoor

theorem tab10 {pr : Nat → Nat} {w : World} (h : Amb pr w) : Lib.TabIs Tryz.prog w "internal/strconv.uint64pow10" .u64 Lib.pow10Tab := by
  obtain ⟨_, T, fr, hb⟩ := h.1 (4, Lib.pow10Tab.map (Value.int .u64)) (by simp [tabs])
  unfold Lib.TabIs World.var?
  rw [show Tryz.prog.globalNamed "internal/strconv.uint64pow10" = some 4 from by kernel_rfl]
  dsimp only at hb
  simp only [Option.bind_some, hb]

end Go.Proofs.YtmjpkfjgknbfeaaGreatDoor
