/- responses: the law ResponsesRound (walk). -/
import Derived.Test.YtcobkjognpjikaaDoorX1
import Derived.Test.YtcobkjognpjikaaDoorPD
set_option linter.unusedSimpArgs false
set_option linter.unusedVariables false
namespace Go.Proofs.YtcobkjognpjikaaDoor

theorem bytes_set (b : List UInt8) (k : Nat) (c : UInt8) : (bytesC b).set k [SV.val (.int .u8 (c.toNat : Int))] = bytesC (b.set k c) := by
  unfold bytesC
  rw [List.map_set]
theorem enc_bad {r : Rs} {b : List UInt8} {e : Int} (hb : encS r = (b, e)) (he : e ≠ 0) (hr : RsOk r) : b = [] ∧ e = checkS r := by
  by_cases h : checkS r = 0
  · obtain ⟨x, h1, _⟩ := round_S hr h
    rw [h1] at hb
    cases hb
    exact absurd rfl he
  · unfold encS at hb
    rw [if_pos (by simp [h])] at hb
    cases hb
    exact ⟨rfl, rfl⟩
theorem enc_good {r : Rs} {b : List UInt8} (hb : encS r = (b, 0)) (hr : RsOk r) : decS b = (r, 0) ∧ b ≠ [] ∧ b.length ≤ 1024 := by
  by_cases h : checkS r = 0
  · obtain ⟨x, h1, h2, h3, h4⟩ := round_S hr h
    rw [h1] at hb
    cases hb
    exact ⟨h2, h3, h4⟩
  · unfold encS at hb
    rw [if_pos (by simp [h])] at hb
    exact absurd (congrArg Prod.snd hb) h
theorem byte_law {r : Rs} {b : List UInt8} (hb : encS r = (b, 0)) (hr : RsOk r) {k : Nat} (hk : k < b.length) (c : UInt8) : (decS (b.set k c) = (r, 0)) ↔ b[k] = c := by
  constructor
  · intro h
    have h1 := (one_S (b := b.set k c) (by rw [h])).2.2
    rw [h, hb] at h1
    have h2 : b = b.set k c := congrArg Prod.fst h1
    have h3 := congrArg (fun l => l[k]?) h2
    simp [hk] at h3
    exact h3
  · intro h
    have h2 : b.set k c = b := by rw [← h]; exact List.set_getElem_self hk
    rw [h2]
    exact (enc_good hb hr).1

theorem last_law {y r : Rs} {g c : Int} {u : UInt8} (h : ((y, g) = (r, 0)) ↔ u = byt c) (hcb : ((byt c).toNat : Int) = c) : ((decide (y.kind = r.kind) && decide (y.id = r.id) && decide (y.err = r.err) && decide (y.ses = r.ses) && decide (y.tic = r.tic) && decide (y.seat = r.seat) && decide (y.n = r.n) && decide (y.place = r.place) && decide (y.dl = r.dl)) && decide (g = 0)) = decide ((u.toNat : Int) = c) := by
  have h2 : ((u.toNat : Int) = c) ↔ u = byt c := by
    constructor
    · intro h3; rw [← hcb] at h3; exact UInt8.toNat.inj (by omega)
    · intro h3; rw [h3, hcb]
  rw [Bool.eq_iff_iff, decide_eq_true_eq, h2, ← h]
  cases y; cases r
  simp [and_assoc]

theorem lawRound_P (r : Rs) (hr : RsOk r) (n : Int) (hn : 0 ≤ n ∧ n ≤ 65535) (c : Int) (hc0 : 0 ≤ c ∧ c ≤ 255) : PC Tryd.prog 7 [.agg (r.c.map LV.sv), .v (.int .u16 n), .v (.int .u8 c)] (.b true) := by
  refine ⟨LC.of_go Tryd.func7 (c := _) rfl (by kernel_rfl) (by rw [Tryd.ntmps7]; simp) rfl rfl (by simp [LO.lt, LV.lts, LV.lt]) (by simp) ?_⟩
  intro B hA hmd
  refine LGo.seq ?_
  refine LGo.region rfl ?_  -- region 0
  refine R.box (h := ?_)
  refine R.assign (h := ?_)
  refine Reg.nil ⟨fun h => (by cases h), ?_⟩
  refine LGo.seq ?_
  refine LGo.seq ?_
  refine LGo.region rfl ?_  -- region 1
  first | refine R.loadA A25 (h := ?_) | refine R.loadN A25 (h := ?_) | refine R.loadP A25 (h := ?_)
  refine R.callP (es := [_]) (fun _ => farS_P r) (h := ?_)
  refine Reg.nil ⟨fun h => (by cases h), ?_⟩
  refine LGo.ifb (ht := fun hc => ?_) (hf := fun hc => ?_)
  · -- then 1
    refine LGo.seq ?_
    refine LGo.region rfl ?_  -- region 2
    refine R.callP (es := []) (fun _ => shown_P) (h := ?_)
    refine R.assign (h := ?_)
    refine Reg.nil ⟨fun h => (by cases h), ?_⟩
    exact LGo.ret (ret_T Tryd.results7 hA hmd)
  · -- else 1
    have hs : r.ses.length ≤ 500 ∧ r.tic.length ≤ 500 := by simp at hc; omega
    obtain ⟨b, e, hbe⟩ : ∃ b e, encS r = (b, e) := ⟨_, _, rfl⟩
    have hE := encS_P r hr hs
    rw [hbe] at hE
    dsimp only at hE
    refine LGo.skip ?_
    refine LGo.seq ?_
    refine LGo.region rfl ?_  -- region 3
    first | refine R.loadA A25 (h := ?_) | refine R.loadN A25 (h := ?_) | refine R.loadP A25 (h := ?_)
    refine R.callP (es := [_]) (fun _ => hE) (h := ?_)
    refine R.move (h := ?_)
    refine R.extract (h := ?_)
    refine R.extract (h := ?_)
    refine R.assign (h := ?_)
    refine R.assign (h := ?_)
    refine Reg.nil ⟨fun h => (by cases h), ?_⟩
    refine LGo.seq ?_
    refine LGo.seq ?_
    refine LGo.region rfl ?_  -- region 4
    refine R.move (h := ?_)
    refine R.bin (run_neq _ _ _ _ _ _) (h := ?_)
    refine Reg.nil ⟨fun h => (by cases h), ?_⟩
    refine LGo.ifb (ht := fun hc2 => ?_) (hf := fun hc2 => ?_)
    · -- then 2
      obtain ⟨rfl, he⟩ := enc_bad hbe (by simpa using hc2) hr
      refine LGo.seq ?_
      refine LGo.region rfl ?_  -- region 5
      refine R.move (h := ?_)
      first | refine R.len S28 (h := ?_) | refine R.lenRs S28 (h := ?_) | refine R.lenV (run_lenNil S28) (h := ?_)
      rw [bytesC_length]
      refine R.bin (run_eql _ _ _ _ _ _) (h := ?_)
      refine R.move (h := ?_)
      refine R.move (h := ?_)
      first | refine R.loadA A25 (h := ?_) | refine R.loadN A25 (h := ?_) | refine R.loadP A25 (h := ?_)
      refine R.callP (es := [_]) (fun _ => checkS_P r hr) (h := ?_)
      refine R.bin (run_eql _ _ _ _ _ _) (h := ?_)
      refine R.and (h := ?_)
      refine R.move (h := ?_)
      refine R.callP (es := []) (fun _ => shown_P) (h := ?_)
      refine R.and (h := ?_)
      refine R.assign (h := ?_)
      refine Reg.nil ⟨fun h => (by cases h), ?_⟩
      refine LGo.tru 6 (hb := by simp [he]) (h := ?_)
      exact LGo.ret (ret_T Tryd.results7 hA hmd)
    · -- else 2
      obtain rfl : e = 0 := by simpa using hc2
      obtain ⟨hd, hne, hle⟩ := enc_good hbe hr
      have hpos : 0 < b.length := by cases b; exact absurd rfl hne; simp
      have hD := decS_P b (by omega)
      rw [hd] at hD
      dsimp only at hD
      have hcb : ((byt c).toNat : Int) = c := byt_toNat c hc0.1 (by omega)
      refine LGo.skip ?_
      refine LGo.seq ?_
      refine LGo.region rfl ?_  -- region 6
      refine R.move (h := ?_)
      refine R.callP (es := [_]) (fun _ => hD) (h := ?_)
      refine R.move (h := ?_)
      refine R.extract (h := ?_)
      refine R.extract (h := ?_)
      refine R.alloc Z25 (h := ?_)
      refine R.storeA A25 (h := ?_)
      refine R.assign (h := ?_)
      refine Reg.nil ⟨fun h => (by cases h), ?_⟩
      refine LGo.seq ?_
      refine LGo.seq ?_
      refine LGo.region rfl ?_  -- region 7
      first | refine R.loadA A25 (h := ?_) | refine R.loadN A25 (h := ?_) | refine R.loadP A25 (h := ?_)
      first | refine R.loadA A25 (h := ?_) | refine R.loadN A25 (h := ?_) | refine R.loadP A25 (h := ?_)
      refine R.binA (NE25 _ _ _ _ _ _ _ _ _ _ _ _ _ _ _ _ _ _ _ _) (h := ?_)
      refine R.move (h := ?_)
      refine R.move (h := ?_)
      refine R.bin (run_neq _ _ _ _ _ _) (h := ?_)
      refine R.or (h := ?_)
      refine R.move (h := ?_)
      refine R.move (h := ?_)
      first | refine R.len S28 (h := ?_) | refine R.lenRs S28 (h := ?_) | refine R.lenV (run_lenNil S28) (h := ?_)
      rw [bytesC_length]
      refine R.bin (run_eql _ _ _ _ _ _) (h := ?_)
      refine R.or (h := ?_)
      refine R.move (h := ?_)
      refine R.move (h := ?_)
      first | refine R.len S28 (h := ?_) | refine R.lenRs S28 (h := ?_) | refine R.lenV (run_lenNil S28) (h := ?_)
      rw [bytesC_length]
      refine R.bin (run_gtr _ _ _ _ _ _) (h := ?_)
      refine R.or (h := ?_)
      refine Reg.nil ⟨fun h => (by cases h), ?_⟩
      refine LGo.ifb (ht := fun hc3 => ?_) (hf := fun hc3 => ?_)
      · -- then 3
        exfalso; revert hc3; simp [hne]; omega -- END
      · -- else 3
        refine LGo.skip ?_
        refine LGo.seq ?_
        refine LGo.region rfl ?_  -- region 9
        refine R.buildSliceR AP28 (xs := []) (es := []) (cs := []) (ys := []) (hcs := CellsOfs.nil) (hys := rfl) (h := ?_)
        refine R.move (h := ?_)
        refine R.appendS AP28 (hs := SrcOk.sl Tryd.underlying28 (bytesC_one _)) (hlen := by rw [bytesC_length]; simp; omega) (h := ?_)
        rw [List.nil_append]
        refine R.assign (h := ?_)
        refine Reg.nil ⟨fun h => (by cases h), ?_⟩
        refine LGo.seq ?_
        refine LGo.region rfl ?_  -- region 10
        refine R.move (h := ?_)
        first | refine R.convI Tryd.runUnderlying48 Tryd.runUnderlying3 (h := ?_) | refine R.convW Tryd.runUnderlying48 Tryd.runUnderlying3 (h := ?_)
        refine R.move (h := ?_)
        first | refine R.len S28 (h := ?_) | refine R.lenRs S28 (h := ?_) | refine R.lenV (run_lenNil S28) (h := ?_)
        rw [bytesC_length]
        refine R.rem (h := ?_)
        obtain ⟨k, hk, hk2⟩ : ∃ k : Nat, n % (b.length : Int) = k ∧ k < b.length := ⟨(n % (b.length : Int)).toNat, by have := Int.emod_nonneg n (show (b.length : Int) ≠ 0 by omega); omega, by have := Int.emod_lt_of_pos n (show (0 : Int) < b.length by omega); omega⟩
        rw [hk]
        refine R.assign (h := ?_)
        refine Reg.nil ⟨fun h => (by cases h), ?_⟩
        refine LGo.seq ?_
        refine LGo.region rfl ?_  -- region 11
        refine R.move (h := ?_)
        refine R.move (h := ?_)
        refine R.move (h := ?_)
        refine R.indexRs I28 (hj := fun _ => ⟨by omega, by rw [bytesC_length]; omega⟩) (h := ?_)
        rw [Int.toNat_natCast]
        refine R.storeRs1 O5 k 0 [SV.val (.int .u8 (b[k].toNat : Int))] (hj := by simp [bytesC, hk2]) (hoff := by omega) (h := ?_)
        rw [show (bytesC b).set k (List.set [SV.val (.int .u8 (b[k].toNat : Int))] 0 (SV.val (.int .u8 c))) = bytesC (b.set k (byt c)) from by rw [← bytes_set, hcb]; rfl]
        refine Reg.nil ⟨fun h => (by cases h), ?_⟩
        refine LGo.seq ?_
        refine LGo.region rfl ?_  -- region 12
        refine R.move (h := ?_)
        refine R.callV (rd := [(3, .rs 5 1 (bytesC (b.set k (byt c))))]) (es := [_]) (fun _ => decS_P (b.set k (byt c)) (by rw [List.length_set]; omega)) (oneL rfl) (h := ?_)
        refine R.move (h := ?_)
        refine R.extract (h := ?_)
        refine R.extract (h := ?_)
        have hlaw := byte_law hbe hr hk2 (byt c)
        generalize decS (b.set k (byt c)) = p at hlaw ⊢
        obtain ⟨y, g⟩ := p
        dsimp only
        refine R.alloc Z25 (h := ?_)
        refine R.storeA A25 (h := ?_)
        refine R.assign (h := ?_)
        refine Reg.nil ⟨fun h => (by cases h), ?_⟩
        refine LGo.seq ?_
        refine LGo.region rfl ?_  -- region 13 DRAWS
        first | refine R.loadA A25 (h := ?_) | refine R.loadN A25 (h := ?_) | refine R.loadP A25 (h := ?_)
        first | refine R.loadA A25 (h := ?_) | refine R.loadN A25 (h := ?_) | refine R.loadP A25 (h := ?_)
        refine R.binA (EQ25 _ _ _ _ _ _ _ _ _ _ _ _ _ _ _ _ _ _ _ _) (h := ?_)
        refine R.move (h := ?_)
        refine R.move (h := ?_)
        refine R.bin (run_eql _ _ _ _ _ _) (h := ?_)
        refine R.and (h := ?_)
        refine R.move (h := ?_)
        refine R.move (h := ?_)
        refine R.index I28 (hj := fun hg => ⟨by omega, by rw [Int.toNat_natCast]; simp [bytesC, hk2]; rfl⟩) (h := ?_)
        first | refine R.loadB O5 (h := ?_) | refine R.load1 O5 (h := ?_)
        refine R.move (h := ?_)
        refine R.bin (run_eql _ _ _ _ _ _) (h := ?_)
        refine R.bin (run_eqlB Tryd.underlying4 _ _ _ _) (h := ?_)
        refine R.move (h := ?_)
        refine R.callP (es := []) (fun _ => shown_P) (h := ?_)
        refine R.and (h := ?_)
        refine R.assign (h := ?_)
        refine Reg.nil ⟨fun _ => ⟨mixedO, by rfl, by rfl⟩, ?_⟩
        refine LGo.tru 6 (hb := by rw [last_law hlaw hcb]; simp) (h := ?_)
        exact LGo.ret (ret_T Tryd.results7 hA hmd)

end Go.Proofs.YtcobkjognpjikaaDoor
