/- words: the laws WordsSplits, WordsNames, WordsQuotes, WordsJoins (walks). -/
import Derived.Test.YtmjpkfjgknbfeaaGreatDoorQS
set_option linter.unusedSimpArgs false
set_option linter.unusedVariables false
namespace Go.Proofs.YtmjpkfjgknbfeaaGreatDoor

theorem split1_64 (s : List UInt8) : (split1 s).1.length ≤ 64 := by
  unfold split1
  repeat' split
  all_goals (try simp)
  rename_i h
  simp only [Bool.or_eq_true, decide_eq_true_eq, not_or] at h
  omega
theorem far_len {l : List Fd} (h : farF l = false) : l.length ≤ 70 := by
  unfold farF at h
  split at h
  · cases h
  · omega

end Go.Proofs.YtmjpkfjgknbfeaaGreatDoor
