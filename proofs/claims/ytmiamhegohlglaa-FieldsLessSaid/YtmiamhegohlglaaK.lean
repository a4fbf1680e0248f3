/- The reference's number: the bytes of a number, by recursion. -/
import Derived.Test.YtmiamhegohlglaaJ
set_option linter.unusedSimpArgs false
set_option linter.unusedVariables false
namespace Go.Proofs.Ytmiamhegohlglaa

def numB : Nat → Int → List Int
  | 0, _ => []
  | k + 1, x => if x = 0 then [] else numB k (x / 256) ++ [x % 256]
theorem numB_len : ∀ (k : Nat) (x : Int), (numB k x).length ≤ k
  | 0, x => by simp [numB]
  | k + 1, x => by
    simp only [numB]
    split
    · simp
    · have := numB_len k (x / 256); simp; omega
theorem numB_byt : ∀ (k : Nat) (x : Int), ∀ y ∈ numB k x, 0 ≤ y ∧ y < 256
  | 0, x => by simp [numB]
  | k + 1, x => by
    simp only [numB]
    split
    · simp
    · intro y hy
      rcases List.mem_append.1 hy with h | h
      · exact numB_byt k (x / 256) y h
      · simp at h; omega

theorem number_step (k : Nat) (x : Int) (h0 : 0 ≤ x) (h1 : x < 18446744073709551616) (hk : k ≤ 8) (hr : x ≠ 0 → LC Try.prog 42 0 [.u (x / 256)] [] (.ref 0) [(0, .rs 5 1 (ic .u8 (numB k (x / 256))))] 1) : LC Try.prog 42 0 [.u x] [] (.ref 0) [(0, .rs 5 1 (ic .u8 (numB (k + 1) x)))] 1 := by
  refine LC.of_go Try.func42 (c := _) rfl (by kernel_rfl) (by rw [Try.ntmps42]; simp) rfl rfl (by simp [LO.lt, LV.lts, LV.lt]) (by simp) ?_
  intro B hA hmd
  refine LGo.seq ?_
  refine LGo.region rfl ?_  -- region 0
  refine R.assign (h := ?_)
  refine Reg.nil ⟨fun h => (by cases h), ?_⟩
  refine LGo.seq ?_
  refine LGo.seq ?_
  refine LGo.region rfl ?_  -- region 1
  refine R.move (h := ?_)
  refine R.bin (run_eql _ _ _ _ _ _) (h := ?_)
  refine Reg.nil ⟨fun h => (by cases h), ?_⟩
  first | refine LGo.ifd (ht := fun hc => ?_) (hf := fun hc => ?_) | refine LGo.ifb (ht := fun hc => ?_) (hf := fun hc => ?_)
  · -- then 1
    subst hc
    have e : numB (k + 1) 0 = [] := rfl
    rw [e]
    refine LGo.seq ?_
    refine LGo.region rfl ?_  -- region 2
    refine R.assign (h := ?_)
    refine Reg.nil ⟨fun h => (by cases h), ?_⟩
    refine LGo.nilRs 2 5 1 rfl ?_
    exact LGo.ret (ret_T Try.results42 hA hmd)
  · -- else 1
    have hrec := hr hc
    have hl := numB_len k (x / 256)
    have e : numB (k + 1) x = numB k (x / 256) ++ [x % 256] := by simp only [numB, if_neg hc]
    rw [e, ← ic_snoc]
    refine LGo.skip ?_
    refine LGo.seq ?_
    refine LGo.region rfl ?_  -- region 3
    refine R.move (h := ?_)
    refine R.quo (h := ?_)
    refine R.callX (es := [_]) [] hrec (h := ?_)
    refine R.move (h := ?_)
    refine R.rem (h := ?_)
    first | refine R.convI Try.runUnderlying32 Try.runUnderlying5 (h := ?_) | refine R.convW Try.runUnderlying32 Try.runUnderlying5 (h := ?_)
    refine R.buildSliceG AP23 (xs := [_]) (es := [_]) (hcs := CellsOfs.cons (CellsOf.one rfl) CellsOfs.nil) (h := ?_)
    refine R.appendS AP23 (hs := SrcOk.sl Try.underlying23 (by simp)) (hlen := by rw [ic_len]; simp; omega) (h := ?_)
    refine R.assign (h := ?_)
    refine Reg.nil ⟨fun h => (by cases h), ?_⟩
    refine LGo.turn [1] (b := 0) (fun o h => (hA o).1 h) (E' := [(2, (true, .ref 0))]) (L' := [(0, .rs 5 1 (ic .u8 (numB k (x / 256)) ++ [[.val (.int .u8 (x % 256))]]))]) ?_ ⟨rfl, trivial⟩ ⟨rfl, trivial⟩
    exact LGo.ret (ret_T Try.results42 hA hmd)

theorem number_L : ∀ (k : Nat) (x : Int), 0 ≤ x → x < 256 ^ k → x < 18446744073709551616 → k ≤ 8 → LC Try.prog 42 0 [.u x] [] (.ref 0) [(0, .rs 5 1 (ic .u8 (numB (k + 1) x)))] 1
  | 0, x, h0, h1, h2, hk => number_step 0 x h0 h2 hk (fun h => absurd (show x = 0 by omega) h)
  | k + 1, x, h0, h1, h2, hk => number_step (k + 1) x h0 h2 hk (fun _ => number_L k (x / 256) (by omega) (by rw [Int.pow_succ] at h1; omega) (by omega) (by omega))
theorem number_9 (x : Int) (h0 : 0 ≤ x) (h1 : x < 18446744073709551616) : LC Try.prog 42 0 [.u x] [] (.ref 0) [(0, .rs 5 1 (ic .u8 (numB 9 x)))] 1 := number_L 8 x h0 (by omega) h1 (by omega)

end Go.Proofs.Ytmiamhegohlglaa
