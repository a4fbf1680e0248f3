/- times: Print of the reference. -/
import Derived.Test.YtcekeipkofblmaaDoorJ
set_option linter.unusedSimpArgs false
set_option linter.unusedVariables false
namespace Go.Proofs.YtcekeipkofblmaaDoor

theorem rdigits_step (n : Int) (h0 : 0 ≤ n) (h1 : n ≤ 9223372036854775807) (hq : 10 ≤ n → PC Tryd.prog 40 [.i (n / 10)] (.t (Lib.decDigits (n / 10).toNat))) (hr : 10 ≤ n → PC Tryd.prog 40 [.i (n % 10)] (.t (Lib.decDigits (n % 10).toNat))) :
    PC Tryd.prog 40 [.i n] (.t (Lib.decDigits n.toNat)) := by
  refine ⟨LC.of_go Tryd.func40 (c := _) rfl (by kernel_rfl) (by rw [Tryd.ntmps40]; simp) rfl rfl (by simp [LO.lt, LV.lts, LV.lt]) (by simp) ?_⟩
  intro B hA hmd
  refine LGo.seq ?_
  refine LGo.region rfl ?_  -- region 0
  refine R.assign (h := ?_)
  refine Reg.nil ⟨fun h => (by cases h), ?_⟩
  refine LGo.seq ?_
  refine LGo.seq ?_
  refine LGo.region rfl ?_  -- region 1
  refine R.move (h := ?_)
  refine R.bin (run_lss _ _ _ _ _ _) (h := ?_)
  refine Reg.nil ⟨fun h => (by cases h), ?_⟩
  refine LGo.ifd (ht := fun hc => ?_) (hf := fun hc => ?_)
  · -- then 1
    have e1 : Lib.decDigits n.toNat = [UInt8.ofNat (48 + n.toNat)] := Lib.decDigits_one (by omega)
    rw [e1]
    refine LGo.seq ?_
    refine LGo.region rfl ?_  -- region 2
    refine R.move (h := ?_)
    first | refine R.add (h := ?_) | refine R.addW (h := ?_)
    first | refine R.convI Tryd.runUnderlying2 Tryd.runUnderlying5 (h := ?_) | refine R.convW Tryd.runUnderlying2 Tryd.runUnderlying5 (h := ?_)
    refine R.buildSliceF AP66 (([.val (.int .u8 (48 + n))] : List SV).map fun c => [c]) (xs := [_]) (es := [_]) (hcs := CellsOfs.cons (CellsOf.one rfl) CellsOfs.nil) (h := ?_)
    rw [show (([.val (.int .u8 (48 + n))] : List SV).map fun c => [c]) = bytesC [UInt8.ofNat (48 + n.toNat)] from by
      have e2 : ((UInt8.ofNat (48 + n.toNat)).toNat : Int) = 48 + n := by rw [UInt8.toNat_ofNat']; omega
      simp only [bytesC, List.map_cons, List.map_nil, e2]]
    refine R.toString Tryd.underlying66 Tryd.underlying5 Tryd.underlying9 (h := ?_)
    refine R.assign (h := ?_)
    refine Reg.nil ⟨fun h => (by cases h), ?_⟩
    exact LGo.ret (ret_T Tryd.results40 hA hmd)
  · -- else 1
    have hn : 10 ≤ n := by omega
    have e1 : Lib.decDigits n.toNat = Lib.decDigits (n / 10).toNat ++ Lib.decDigits (n % 10).toNat := by
      rw [Lib.decDigits, dif_neg (by omega), Lib.decDigits_one (show (n % 10).toNat < 10 by omega), show n.toNat / 10 = (n / 10).toNat from by omega, show n.toNat % 10 = (n % 10).toNat from by omega]
    rw [e1]
    have l1 := decDigits_le 19 (n / 10).toNat (by omega)
    have l2 := decDigits_le 19 (n % 10).toNat (by omega)
    refine LGo.skip ?_
    refine LGo.seq ?_
    refine LGo.region rfl ?_  -- region 3
    refine R.move (h := ?_)
    refine R.quo (h := ?_)
    refine R.callP (es := [_]) (fun _ => hq hn) (h := ?_)
    refine R.move (h := ?_)
    refine R.rem (h := ?_)
    refine R.callP (es := [_]) (fun _ => hr hn) (h := ?_)
    refine R.bin (run_addT _ _ _ (Lib.decDigits (n / 10).toNat) (Lib.decDigits (n % 10).toNat) (by omega)) (h := ?_)
    refine R.assign (h := ?_)
    refine Reg.nil ⟨fun h => (by cases h), ?_⟩
    exact LGo.ret (ret_T Tryd.results40 hA hmd)

theorem rdigits_k : ∀ (k : Nat) (n : Int), 0 ≤ n → n < 10 ^ (k + 1) → n ≤ 9223372036854775807 → PC Tryd.prog 40 [.i n] (.t (Lib.decDigits n.toNat))
  | 0, n, h0, h1, h2 => rdigits_step n h0 h2 (fun h => by omega) (fun h => by omega)
  | k + 1, n, h0, h1, h2 => by
    have hp : (10 : Int) ^ (k + 1 + 1) = 10 ^ (k + 1) * 10 := Int.pow_succ ..
    have h10 : (0 : Int) < 10 ^ k := Int.pow_pos (by decide)
    have hp2 : (10 : Int) ^ (k + 1) = 10 ^ k * 10 := Int.pow_succ ..
    exact rdigits_step n h0 h2 (fun _ => rdigits_k k (n / 10) (by omega) (by omega) (by omega)) (fun _ => rdigits_k k (n % 10) (by omega) (by omega) (by omega))
theorem rdigits_P (n : Int) (h0 : 0 ≤ n) (h1 : n ≤ 9223372036854775807) : PC Tryd.prog 40 [.i n] (.t (Lib.decDigits n.toNat)) := rdigits_k 18 n h0 (by omega) h1
theorem twoT_dd (n : Int) (h0 : 0 ≤ n) (h1 : n < 100) : Lib.decDigits (n / 10).toNat ++ Lib.decDigits (n % 10).toNat = twoT n := by
  rw [Lib.decDigits_one (show (n / 10).toNat < 10 by omega), Lib.decDigits_one (show (n % 10).toNat < 10 by omega)]
  unfold twoT
  rw [show 48 + (n / 10).toNat = (48 + n / 10).toNat from by omega, show 48 + (n % 10).toNat = (48 + n % 10).toNat from by omega]; rfl

theorem rtwo_P (n : Int) (h0 : 0 ≤ n) (h1 : n < 100) : PC Tryd.prog 41 [.i n] (.t (twoT n)) := by
  refine ⟨LC.of_go Tryd.func41 (c := _) rfl (by kernel_rfl) (by rw [Tryd.ntmps41]; simp) rfl rfl (by simp [LO.lt, LV.lts, LV.lt]) (by simp) ?_⟩
  intro B hA hmd
  have l1 := decDigits_le 19 (n / 10).toNat (by omega)
  have l2 := decDigits_le 19 (n % 10).toNat (by omega)
  refine LGo.seq ?_
  refine LGo.region rfl ?_  -- region 0
  refine R.assign (h := ?_)
  refine Reg.nil ⟨fun h => (by cases h), ?_⟩
  refine LGo.seq ?_
  refine LGo.region rfl ?_  -- region 1
  refine R.move (h := ?_)
  refine R.quo (h := ?_)
  refine R.callP (es := [_]) (fun _ => rdigits_P (n / 10) (by omega) (by omega)) (h := ?_)
  refine R.move (h := ?_)
  refine R.rem (h := ?_)
  refine R.callP (es := [_]) (fun _ => rdigits_P (n % 10) (by omega) (by omega)) (h := ?_)
  refine R.bin (run_addT _ _ _ (Lib.decDigits (n / 10).toNat) (Lib.decDigits (n % 10).toNat) (by omega)) (h := ?_)
  rw [twoT_dd n h0 h1]
  refine R.assign (h := ?_)
  refine Reg.nil ⟨fun h => (by cases h), ?_⟩
  exact LGo.ret (ret_T Tryd.results41 hA hmd)

theorem rprint_P (t : Int) (ht : R64 t) : PC Tryd.prog 20 [.i t] (.tup [.t (printT t).1, .i (printT t).2]) := by
  refine ⟨LC.of_go Tryd.func20 (c := _) rfl (by kernel_rfl) (by rw [Tryd.ntmps20]; simp) rfl rfl (by simp [LO.lt, LV.lts, LV.lt]) (by simp) ?_⟩
  intro B hA hmd
  unfold R64 at ht
  obtain ⟨g, e0⟩ : ∃ g, printT t = g := ⟨_, rfl⟩
  have e1 := e0
  unfold printT at e1
  rw [e0]
  refine LGo.seq ?_
  refine LGo.region rfl ?_  -- region 0
  refine R.assign (h := ?_)
  refine R.assign (h := ?_)
  refine Reg.nil ⟨fun h => (by cases h), ?_⟩
  refine LGo.seq ?_
  refine LGo.seq ?_
  refine LGo.region rfl ?_  -- region 1
  refine R.move (h := ?_)
  refine R.bin (run_lss _ _ _ _ _ _) (h := ?_)
  refine Reg.nil ⟨fun h => (by cases h), ?_⟩
  refine LGo.ifd (ht := fun hc => ?_) (hf := fun hc => ?_)
  · -- then 1
    rw [if_pos hc] at e1; rw [← e1]
    refine LGo.seq ?_
    refine LGo.region rfl ?_  -- region 2
    refine R.assign (h := ?_)
    refine R.assign (h := ?_)
    refine Reg.nil ⟨fun h => (by cases h), ?_⟩
    exact LGo.ret (ret_TT Tryd.results20 hA hmd)
  · -- else 1
    have h0 : 0 ≤ t := by omega
    rw [if_neg (by omega)] at e1
    rw [show t / 3600 % 24 = t % 86400 / 3600 from by omega, show t / 60 % 60 = t % 86400 / 60 % 60 from by omega, show t % 60 = t % 86400 % 60 from by omega, show Lib.itoa (t / 86400) = Lib.decDigits (t / 86400).toNat from by unfold Lib.itoa; rw [if_neg (by omega)]] at e1
    rw [← e1]
    have l1 := decDigits_le 19 (t / 86400).toNat (by omega)
    refine LGo.skip ?_
    refine LGo.seq ?_
    refine LGo.region rfl ?_  -- region 3
    refine R.move (h := ?_)
    refine R.rem (h := ?_)
    refine R.assign (h := ?_)
    refine Reg.nil ⟨fun h => (by cases h), ?_⟩
    refine LGo.seq ?_
    refine LGo.region rfl ?_  -- region 4
    refine R.move (h := ?_)
    refine R.quo (h := ?_)
    refine R.callP (es := [_]) (fun _ => rdigits_P (t / 86400) (by omega) (by omega)) (h := ?_)
    refine R.bin (run_addT _ _ _ ((Lib.decDigits (t / 86400).toNat)) ([100]) (by simp [twoT]; omega)) (h := ?_)
    refine R.move (h := ?_)
    refine R.quo (h := ?_)
    refine R.callP (es := [_]) (fun _ => rtwo_P (t % 86400 / 3600) (by omega) (by omega)) (h := ?_)
    refine R.bin (run_addT _ _ _ ((Lib.decDigits (t / 86400).toNat) ++ [100]) (twoT (t % 86400 / 3600)) (by simp [twoT]; omega)) (h := ?_)
    refine R.bin (run_addT _ _ _ ((Lib.decDigits (t / 86400).toNat) ++ [100] ++ twoT (t % 86400 / 3600)) ([58]) (by simp [twoT]; omega)) (h := ?_)
    refine R.move (h := ?_)
    refine R.quo (h := ?_)
    refine R.rem (h := ?_)
    refine R.callP (es := [_]) (fun _ => rtwo_P (t % 86400 / 60 % 60) (by omega) (by omega)) (h := ?_)
    refine R.bin (run_addT _ _ _ ((Lib.decDigits (t / 86400).toNat) ++ [100] ++ twoT (t % 86400 / 3600) ++ [58]) (twoT (t % 86400 / 60 % 60)) (by simp [twoT]; omega)) (h := ?_)
    refine R.bin (run_addT _ _ _ ((Lib.decDigits (t / 86400).toNat) ++ [100] ++ twoT (t % 86400 / 3600) ++ [58] ++ twoT (t % 86400 / 60 % 60)) ([58]) (by simp [twoT]; omega)) (h := ?_)
    refine R.move (h := ?_)
    refine R.rem (h := ?_)
    refine R.callP (es := [_]) (fun _ => rtwo_P (t % 86400 % 60) (by omega) (by omega)) (h := ?_)
    refine R.bin (run_addT _ _ _ ((Lib.decDigits (t / 86400).toNat) ++ [100] ++ twoT (t % 86400 / 3600) ++ [58] ++ twoT (t % 86400 / 60 % 60) ++ [58]) (twoT (t % 86400 % 60)) (by simp [twoT]; omega)) (h := ?_)
    refine R.assign (h := ?_)
    refine R.assign (h := ?_)
    refine Reg.nil ⟨fun h => (by cases h), ?_⟩
    exact LGo.ret (ret_TT Tryd.results20 hA hmd)

end Go.Proofs.YtcekeipkofblmaaDoor
