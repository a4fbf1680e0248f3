/- requests: the laws RequestsRound, RequestsKnown (walks). -/
import Derived.Test.YtckbomkcnmcdaaaGreatDoorX1
set_option linter.unusedSimpArgs false
set_option linter.unusedVariables false
namespace Go.Proofs.YtckbomkcnmcdaaaGreatDoor

theorem bytesQ_set (b : List UInt8) (k : Nat) (c : UInt8) : (bytesC b).set k [SV.val (.int .u8 (c.toNat : Int))] = bytesC (b.set k c) := by
  unfold bytesC
  rw [List.map_set]
theorem encQ_bad {r : Rq} {b : List UInt8} {e : Int} (hb : encQ r = (b, e)) (he : e ≠ 0) (hr : RqOk r) : b = [] ∧ e = checkQ r := by
  by_cases h : checkQ r = 0
  · obtain ⟨x, h1, _⟩ := round_Q hr h
    rw [h1] at hb
    cases hb
    exact absurd rfl he
  · unfold encQ at hb
    rw [if_pos (by rw [show (fieldsOf r).2 = checkQ r from rfl]; simp [h])] at hb
    cases hb
    exact ⟨rfl, rfl⟩
theorem encQ_good {r : Rq} {b : List UInt8} (hb : encQ r = (b, 0)) (hr : RqOk r) : decQ b = (r, 0, 0) ∧ b ≠ [] ∧ b.length ≤ 1024 := by
  by_cases h : checkQ r = 0
  · obtain ⟨x, h1, h2, h3, h4⟩ := round_Q hr h
    rw [h1] at hb
    cases hb
    exact ⟨h2, h3, h4⟩
  · unfold encQ at hb
    rw [if_pos (by rw [show (fieldsOf r).2 = checkQ r from rfl]; simp [h])] at hb
    exact absurd (congrArg Prod.snd hb) h
theorem kindQ_not0 {r : Rq} (h : checkQ r = 0) : r.kind ≠ 0 := by
  intro h0
  have := ((check_iff r).1 h).1
  rw [h0] at this
  exact this rfl
theorem byte_lawQ {r : Rq} {b : List UInt8} (hb : encQ r = (b, 0)) (hr : RqOk r) {k : Nat} (hk : k < b.length) (c : UInt8) : ((decQ (b.set k c)).1 = r) ↔ b[k] = c := by
  have hc : checkQ r = 0 := by
    by_cases h : checkQ r = 0
    · exact h
    · unfold encQ at hb
      rw [if_pos (by rw [show (fieldsOf r).2 = checkQ r from rfl]; simp [h])] at hb
      exact absurd (congrArg Prod.snd hb) h
  constructor
  · intro h
    by_cases he : (decQ (b.set k c)).2.2 = 0
    · have h1 := (one_Q (b := b.set k c) he).2.2.1
      rw [h, hb] at h1
      have h2 : b = b.set k c := congrArg Prod.fst h1
      have h3 := congrArg (fun l => l[k]?) h2
      simp [hk] at h3
      exact h3
    · have h1 := (err_Q he).1
      rw [h] at h1
      exact absurd (by rw [h1]) (kindQ_not0 hc)
  · intro h
    have h2 : b.set k c = b := by rw [← h]; exact List.set_getElem_self hk
    rw [h2, (encQ_good hb hr).1]
theorem last_lawQ {y r : Rq} {c : Int} {u : UInt8} (h : (y = r) ↔ u = byt c) (hcb : ((byt c).toNat : Int) = c) : (decide (y.kind = r.kind) && decide (y.id = r.id) && decide (y.owner = r.owner) && decide (y.to = r.to) && decide (y.ses = r.ses) && decide (y.tic = r.tic) && decide (y.seat = r.seat) && decide (y.sec = r.sec) && decide (y.n = r.n) && decide (y.gate = r.gate)) = decide ((u.toNat : Int) = c) := by
  have h2 : ((u.toNat : Int) = c) ↔ u = byt c := by
    constructor
    · intro h3; rw [← hcb] at h3; exact UInt8.toNat.inj (by omega)
    · intro h3; rw [h3, hcb]
  rw [Bool.eq_iff_iff, decide_eq_true_eq, h2, ← h]
  cases y; cases r
  simp [and_assoc]

theorem lawRound_P (r : Rq) (hr : RqOk r) (n : Int) (hn : 0 ≤ n ∧ n ≤ 65535) (c : Int) (hc0 : 0 ≤ c ∧ c ≤ 255) : PC Tryz.prog 8 [.agg (r.c.map LV.sv), .v (.int .u16 n), .v (.int .u8 c)] (.b true) := by
 refine ⟨LC.of_go Tryz.func8 (c := _) rfl (by kernel_rfl) (by rw [Tryz.ntmps8]; simp) rfl rfl (by simp [LO.lt, LV.lts, LV.lt]) (by simp) ?_⟩
 intro B hA hmd
 refine .seq ?_
 refine .region rfl ?_
 refine R.box (h := ?_)
 refine R.assign (h := ?_)
 refine .n0 ?_
 refine .seq ?_
 refine .seq ?_
 refine .region rfl ?_
 first | refine R.loadA A35 (h := ?_) | refine R.loadN A35 (h := ?_) | refine R.loadP A35 (h := ?_)
 refine R.callP (es := [_]) (fun _ => farQ_P r) (h := ?_)
 refine .n0 ?_
 refine LGo.ifb (ht := fun hc => ?_) (hf := fun hc => ?_)
 ·
  refine .seq ?_
  refine .region rfl ?_
  refine R.callP (es := []) (fun _ => shown_P) (h := ?_)
  refine R.assign (h := ?_)
  refine .n0 ?_
  exact LGo.ret (ret_T Tryz.results8 hA hmd)
 ·
  have hs : r.ses.length ≤ 500 ∧ r.tic.length ≤ 500 := by simp at hc; omega
  obtain ⟨b, e, hbe⟩ : ∃ b e, encQ r = (b, e) := ⟨_, _, rfl⟩
  have hE := encQ_P r hr hs
  rw [hbe] at hE
  dsimp only at hE
  refine .skip ?_
  refine .seq ?_
  refine .region rfl ?_
  first | refine R.loadA A35 (h := ?_) | refine R.loadN A35 (h := ?_) | refine R.loadP A35 (h := ?_)
  refine R.callP (es := [_]) (fun _ => hE) (h := ?_)
  refine R.move (h := ?_)
  refine R.extract (h := ?_)
  refine R.extract (h := ?_)
  refine R.assign (h := ?_)
  refine R.assign (h := ?_)
  refine .n0 ?_
  refine .seq ?_
  refine .seq ?_
  refine .region rfl ?_
  refine R.move (h := ?_)
  refine R.bin (run_neq _ _ _ _ _ _) (h := ?_)
  refine .n0 ?_
  refine LGo.ifb (ht := fun hc2 => ?_) (hf := fun hc2 => ?_)
  ·
   obtain ⟨rfl, he⟩ := encQ_bad hbe (by simpa using hc2) hr
   refine .seq ?_
   refine .region rfl ?_
   refine R.move (h := ?_)
   first | refine R.len S37 (h := ?_) | refine R.lenRs S37 (h := ?_) | refine R.lenV (run_lenNil S37) (h := ?_)
   rw [bytesC_length]
   refine R.bin (run_eql _ _ _ _ _ _) (h := ?_)
   refine R.move (h := ?_)
   refine R.move (h := ?_)
   first | refine R.loadA A35 (h := ?_) | refine R.loadN A35 (h := ?_) | refine R.loadP A35 (h := ?_)
   refine R.callP (es := [_]) (fun _ => checkQ_P r hr) (h := ?_)
   refine R.bin (run_eql _ _ _ _ _ _) (h := ?_)
   refine R.and (h := ?_)
   refine R.move (h := ?_)
   refine R.callP (es := []) (fun _ => shown_P) (h := ?_)
   refine R.and (h := ?_)
   refine R.assign (h := ?_)
   refine .n0 ?_
   refine LGo.tru 6 (hb := by simp [he]) (h := ?_)
   exact LGo.ret (ret_T Tryz.results8 hA hmd)
  ·
   obtain rfl : e = 0 := by simpa using hc2
   obtain ⟨hd, hne, hle⟩ := encQ_good hbe hr
   have hpos : 0 < b.length := by cases b; exact absurd rfl hne; simp
   have hD := decQ_P b (by omega)
   rw [hd] at hD
   dsimp only at hD
   have hcb : ((byt c).toNat : Int) = c := byt_toNat c hc0.1 (by omega)
   refine .skip ?_
   refine .seq ?_
   refine .region rfl ?_
   refine R.move (h := ?_)
   refine R.callP (es := [_]) (fun _ => hD) (h := ?_)
   refine R.move (h := ?_)
   refine R.extract (h := ?_)
   refine R.extract (h := ?_)
   refine R.extract (h := ?_)
   refine R.alloc Z35 (h := ?_)
   refine R.storeA A35 (h := ?_)
   refine R.assign (h := ?_)
   refine R.assign (h := ?_)
   refine .n0 ?_
   refine .seq ?_
   refine .seq ?_
   refine .region rfl ?_
   first | refine R.loadA A35 (h := ?_) | refine R.loadN A35 (h := ?_) | refine R.loadP A35 (h := ?_)
   first | refine R.loadA A35 (h := ?_) | refine R.loadN A35 (h := ?_) | refine R.loadP A35 (h := ?_)
   refine R.binA (NE35 _ _ _ _ _ _ _ _ _ _ _ _ _ _ _ _ _ _ _ _ _ _) (h := ?_)
   refine R.move (h := ?_)
   refine R.move (h := ?_)
   refine R.bin (run_neq _ _ _ _ _ _) (h := ?_)
   refine R.or (h := ?_)
   refine R.move (h := ?_)
   refine R.move (h := ?_)
   refine R.bin (run_neq _ _ _ _ _ _) (h := ?_)
   refine R.or (h := ?_)
   refine R.move (h := ?_)
   refine R.move (h := ?_)
   first | refine R.len S37 (h := ?_) | refine R.lenRs S37 (h := ?_) | refine R.lenV (run_lenNil S37) (h := ?_)
   rw [bytesC_length]
   refine R.bin (run_eql _ _ _ _ _ _) (h := ?_)
   refine R.or (h := ?_)
   refine R.move (h := ?_)
   refine R.move (h := ?_)
   first | refine R.len S37 (h := ?_) | refine R.lenRs S37 (h := ?_) | refine R.lenV (run_lenNil S37) (h := ?_)
   rw [bytesC_length]
   refine R.bin (run_gtr _ _ _ _ _ _) (h := ?_)
   refine R.or (h := ?_)
   refine .n0 ?_
   refine LGo.ifb (ht := fun hc3 => ?_) (hf := fun hc3 => ?_)
   ·
    exfalso; revert hc3; simp [hne]; omega
   ·
    refine .skip ?_
    refine .seq ?_
    refine .region rfl ?_
    refine R.buildSliceR AP37 (xs := []) (es := []) (cs := []) (ys := []) (hcs := CellsOfs.nil) (hys := rfl) (h := ?_)
    refine R.move (h := ?_)
    refine R.appendS AP37 (hs := SrcOk.sl Tryz.underlying37 (bytesC_one _)) (hlen := by rw [bytesC_length]; simp; omega) (h := ?_)
    rw [List.nil_append]
    refine R.assign (h := ?_)
    refine .n0 ?_
    refine .seq ?_
    refine .region rfl ?_
    refine R.move (h := ?_)
    first | refine R.convI Tryz.runUnderlying49 Tryz.runUnderlying3 (h := ?_) | refine R.convW Tryz.runUnderlying49 Tryz.runUnderlying3 (h := ?_)
    refine R.move (h := ?_)
    first | refine R.len S37 (h := ?_) | refine R.lenRs S37 (h := ?_) | refine R.lenV (run_lenNil S37) (h := ?_)
    rw [bytesC_length]
    refine R.rem (h := ?_)
    obtain ⟨k, hk, hk2⟩ : ∃ k : Nat, n % (b.length : Int) = k ∧ k < b.length := ⟨(n % (b.length : Int)).toNat, by have := Int.emod_nonneg n (show (b.length : Int) ≠ 0 by omega); omega, by have := Int.emod_lt_of_pos n (show (0 : Int) < b.length by omega); omega⟩
    rw [hk]
    refine R.assign (h := ?_)
    refine .n0 ?_
    refine .seq ?_
    refine .region rfl ?_
    refine R.move (h := ?_)
    refine R.move (h := ?_)
    refine R.move (h := ?_)
    refine R.indexRs I37 (hj := fun _ => ⟨by omega, by rw [bytesC_length]; omega⟩) (h := ?_)
    rw [Int.toNat_natCast]
    refine R.storeRs1 O5 k 0 [SV.val (.int .u8 (b[k].toNat : Int))] (hj := by simp [bytesC, hk2]) (hoff := by omega) (h := ?_)
    rw [show (bytesC b).set k (List.set [SV.val (.int .u8 (b[k].toNat : Int))] 0 (SV.val (.int .u8 c))) = bytesC (b.set k (byt c)) from by rw [← bytesQ_set, hcb]; rfl]
    refine .n0 ?_
    refine .seq ?_
    refine .region rfl ?_
    refine R.move (h := ?_)
    refine R.callV (rd := [(3, .rs 5 1 (bytesC (b.set k (byt c))))]) (es := [_]) (fun _ => decQ_P (b.set k (byt c)) (by rw [List.length_set]; omega)) (oneL rfl) (h := ?_)
    refine R.move (h := ?_)
    refine R.extract (h := ?_)
    refine R.extract (h := ?_)
    refine R.extract (h := ?_)
    have hlaw := byte_lawQ hbe hr hk2 (byt c)
    generalize decQ (b.set k (byt c)) = p at hlaw ⊢
    obtain ⟨y, g⟩ := p
    dsimp only at hlaw ⊢
    refine R.alloc Z35 (h := ?_)
    refine R.storeA A35 (h := ?_)
    refine R.assign (h := ?_)
    refine R.assign (h := ?_)
    refine .n0 ?_
    refine .seq ?_
    refine .region rfl ?_
    first | refine R.loadA A35 (h := ?_) | refine R.loadN A35 (h := ?_) | refine R.loadP A35 (h := ?_)
    first | refine R.loadA A35 (h := ?_) | refine R.loadN A35 (h := ?_) | refine R.loadP A35 (h := ?_)
    refine R.binA (EQ35 _ _ _ _ _ _ _ _ _ _ _ _ _ _ _ _ _ _ _ _ _ _) (h := ?_)
    refine R.move (h := ?_)
    refine R.move (h := ?_)
    refine R.index I37 (hj := fun hg => ⟨by omega, by rw [Int.toNat_natCast]; simp [bytesC, hk2]; rfl⟩) (h := ?_)
    first | refine R.loadB O5 (h := ?_) | refine R.load1 O5 (h := ?_)
    refine R.move (h := ?_)
    refine R.bin (run_eql _ _ _ _ _ _) (h := ?_)
    refine R.bin (run_eqlB Tryz.underlying4 _ _ _ _) (h := ?_)
    refine R.move (h := ?_)
    refine R.callP (es := []) (fun _ => shown_P) (h := ?_)
    refine R.and (h := ?_)
    refine R.assign (h := ?_)
    refine Reg.nil ⟨fun _ => ⟨mixedO, by rfl, by rfl⟩, ?_⟩
    refine LGo.tru 6 (hb := by rw [last_lawQ hlaw hcb]; simp) (h := ?_)
    exact LGo.ret (ret_T Tryz.results8 hA hmd)

theorem decK1 : PC Tryz.prog 22 [.sv (.sl 1 (bytesC [12, 1, 1, 7]))] (.tup [.agg (zeroQ.c.map LV.sv), .i 0, .i 11]) := by
  have h := decQ_P [12, 1, 1, 7] (by decide)
  rw [show decQ [12, 1, 1, 7] = (zeroQ, 0, 11) from by kernel_rfl] at h
  exact h
theorem decK2 : PC Tryz.prog 22 [.sv (.sl 1 (bytesC []))] (.tup [.agg (zeroQ.c.map LV.sv), .i 0, .i 11]) := by
  have h := decQ_P [] (by decide)
  rw [show decQ [] = (zeroQ, 0, 11) from by kernel_rfl] at h
  exact h
theorem decK3 : PC Tryz.prog 22 [.sv (.sl 1 (bytesC [1, 1, 0]))] (.tup [.agg (zeroQ.c.map LV.sv), .i 1, .i 11]) := by
  have h := decQ_P [1, 1, 0] (by decide)
  rw [show decQ [1, 1, 0] = (zeroQ, 1, 11) from by kernel_rfl] at h
  exact h
theorem needsK1 : PC Tryz.prog 14 [.i 13] (.tup [.b false, .b true, .i 0]) := by
  have h := needsQ_P 13
  rw [show needsQ 13 = (false, true, 0) from by decide +kernel] at h
  exact h
theorem needsK2 : PC Tryz.prog 14 [.i 12] (.tup [.b false, .b false, .i 2]) := by
  have h := needsQ_P 12
  rw [show needsQ 12 = (false, false, 2) from by decide +kernel] at h
  exact h
theorem parseK1 : PC Tryz.prog 26 [.t [111, 112, 101, 110, 32, 48, 55, 32, 53]] (.tup [.agg (zeroQ.c.map LV.sv), .i 6]) := by
  have h := parseQ_P [111, 112, 101, 110, 32, 48, 55, 32, 53]
  rw [show parseQ [111, 112, 101, 110, 32, 48, 55, 32, 53] = (zeroQ, 6) from by kernel_rfl] at h
  exact h
theorem parseK2 : PC Tryz.prog 26 [.t [111, 112, 101, 110, 32, 55]] (.tup [.agg (zeroQ.c.map LV.sv), .i 6]) := by
  have h := parseQ_P [111, 112, 101, 110, 32, 55]
  rw [show parseQ [111, 112, 101, 110, 32, 55] = (zeroQ, 6) from by kernel_rfl] at h
  exact h
theorem parseK3 : PC Tryz.prog 26 [.t [111, 112, 101, 110, 32, 34, 55, 34, 32, 53]] (.tup [.agg (zeroQ.c.map LV.sv), .i 6]) := by
  have h := parseQ_P [111, 112, 101, 110, 32, 34, 55, 34, 32, 53]
  rw [show parseQ [111, 112, 101, 110, 32, 34, 55, 34, 32, 53] = (zeroQ, 6) from by kernel_rfl] at h
  exact h
def badQ : Rq := { openQ with id := 0 }
def moreQ : Rq := { openQ with seat := 1 }
theorem badQ_ok : RqOk badQ := ⟨by simp [badQ, openQ, R64], by simp [badQ], by simp [badQ, openQ], by simp [badQ, openQ], by simp [badQ, openQ, maxLen], by simp [badQ, openQ, maxLen], by simp [badQ, openQ, R64], by simp [badQ, openQ, R64], by simp [badQ, openQ, R64], by simp [badQ, openQ, R64]⟩
theorem moreQ_ok : RqOk moreQ := ⟨by simp [moreQ, openQ, R64], by simp [moreQ, openQ], by simp [moreQ, openQ], by simp [moreQ, openQ], by simp [moreQ, openQ, maxLen], by simp [moreQ, openQ, maxLen], by simp [moreQ, R64], by simp [moreQ, openQ, R64], by simp [moreQ, openQ, R64], by simp [moreQ, openQ, R64]⟩
theorem checkBad : PC Tryz.prog 20 [.agg (badQ.c.map LV.sv)] (.i 7) := by
  have h := checkQ_P badQ badQ_ok
  rw [show checkQ badQ = 7 from by decide +kernel] at h
  exact h
theorem checkMore : PC Tryz.prog 20 [.agg (moreQ.c.map LV.sv)] (.i 2) := by
  have h := checkQ_P moreQ moreQ_ok
  rw [show checkQ moreQ = 2 from by decide +kernel] at h
  exact h

theorem lawKnown_P : PC Tryz.prog 10 [] (.b true) := by
 refine ⟨LC.of_go Tryz.func10 (c := _) rfl (by kernel_rfl) (by rw [Tryz.ntmps10]; simp) rfl rfl (by simp [LO.lt, LV.lts, LV.lt]) (by simp) ?_⟩
 intro B hA hmd
 refine .seq ?_
 refine .region rfl ?_
 refine R.assign (h := ?_)
 refine .n0 ?_
 refine .seq ?_
 refine .region rfl ?_
 refine R.buildSliceF AP37 (bytesC [12, 1, 1, 7]) (xs := [_, _, _, _]) (es := [_, _, _, _]) (hcs := CellsOfs.cons (CellsOf.one rfl) (CellsOfs.cons (CellsOf.one rfl) (CellsOfs.cons (CellsOf.one rfl) (CellsOfs.cons (CellsOf.one rfl) (CellsOfs.nil))))) (h := ?_)
 refine R.callP (es := [_]) (fun _ => decK1) (h := ?_)
 refine R.move (h := ?_)
 refine R.extract (h := ?_)
 refine R.extract (h := ?_)
 refine R.extract (h := ?_)
 refine R.alloc Z35 (h := ?_)
 refine R.storeA A35 (h := ?_)
 refine R.assign (h := ?_)
 refine R.assign (h := ?_)
 refine .n0 ?_
 refine .seq ?_
 refine .region rfl ?_
 refine R.callP (es := [_]) (fun _ => PC.nilA decK2) (h := ?_)
 refine R.move (h := ?_)
 refine R.extract (h := ?_)
 refine R.extract (h := ?_)
 refine R.extract (h := ?_)
 refine R.alloc Z35 (h := ?_)
 refine R.storeA A35 (h := ?_)
 refine R.assign (h := ?_)
 refine R.assign (h := ?_)
 refine .n0 ?_
 refine .seq ?_
 refine .region rfl ?_
 refine R.buildSliceF AP37 (bytesC [1, 1, 0]) (xs := [_, _, _]) (es := [_, _, _]) (hcs := CellsOfs.cons (CellsOf.one rfl) (CellsOfs.cons (CellsOf.one rfl) (CellsOfs.cons (CellsOf.one rfl) (CellsOfs.nil)))) (h := ?_)
 refine R.callP (es := [_]) (fun _ => decK3) (h := ?_)
 refine R.move (h := ?_)
 refine R.extract (h := ?_)
 refine R.extract (h := ?_)
 refine R.extract (h := ?_)
 refine R.alloc Z35 (h := ?_)
 refine R.storeA A35 (h := ?_)
 refine R.assign (h := ?_)
 refine R.assign (h := ?_)
 refine .n0 ?_
 refine .seq ?_
 refine .region rfl ?_
 refine R.callP (es := [_]) (fun _ => needsK1) (h := ?_)
 refine R.move (h := ?_)
 refine R.extract (h := ?_)
 refine R.extract (h := ?_)
 refine R.extract (h := ?_)
 refine R.assign (h := ?_)
 refine R.assign (h := ?_)
 refine R.assign (h := ?_)
 refine .n0 ?_
 refine .seq ?_
 refine .region rfl ?_
 refine R.callP (es := [_]) (fun _ => needsK2) (h := ?_)
 refine R.move (h := ?_)
 refine R.extract (h := ?_)
 refine R.extract (h := ?_)
 refine R.extract (h := ?_)
 refine R.assign (h := ?_)
 refine R.assign (h := ?_)
 refine R.assign (h := ?_)
 refine .n0 ?_
 refine .seq ?_
 refine .region rfl ?_
 refine R.callP (es := []) (fun _ => open_P) (h := ?_)
 refine R.alloc Z35 (h := ?_)
 refine R.storeA A35 (h := ?_)
 refine .n0 ?_
 refine .seq ?_
 refine .region rfl ?_
 first | refine R.field F35_1 (h := ?_) | refine R.fieldAt F35_1 (h := ?_)
 refine R.storeB O28 (h := ?_)
 refine .n0 ?_
 refine .seq ?_
 refine .region rfl ?_
 refine R.callP (es := []) (fun _ => open_P) (h := ?_)
 refine R.alloc Z35 (h := ?_)
 refine R.storeA A35 (h := ?_)
 refine .n0 ?_
 refine .seq ?_
 refine .region rfl ?_
 first | refine R.field F35_6 (h := ?_) | refine R.fieldAt F35_6 (h := ?_)
 refine R.storeB O3 (h := ?_)
 refine .n0 ?_
 refine .seq ?_
 refine .region rfl ?_
 refine R.callP (es := [_]) (fun _ => parseK1) (h := ?_)
 refine R.move (h := ?_)
 refine R.extract (h := ?_)
 refine R.extract (h := ?_)
 refine R.alloc Z35 (h := ?_)
 refine R.storeA A35 (h := ?_)
 refine R.assign (h := ?_)
 refine .n0 ?_
 refine .seq ?_
 refine .region rfl ?_
 refine R.callP (es := [_]) (fun _ => parseK2) (h := ?_)
 refine R.move (h := ?_)
 refine R.extract (h := ?_)
 refine R.extract (h := ?_)
 refine R.alloc Z35 (h := ?_)
 refine R.storeA A35 (h := ?_)
 refine R.assign (h := ?_)
 refine .n0 ?_
 refine .seq ?_
 refine .region rfl ?_
 refine R.callP (es := [_]) (fun _ => parseK3) (h := ?_)
 refine R.move (h := ?_)
 refine R.extract (h := ?_)
 refine R.extract (h := ?_)
 refine R.alloc Z35 (h := ?_)
 refine R.storeA A35 (h := ?_)
 refine R.assign (h := ?_)
 refine .n0 ?_
 refine .seq ?_
 refine .region rfl ?_
 refine R.move (h := ?_)
 refine R.bin (run_eql _ _ _ _ _ _) (h := ?_)
 refine R.move (h := ?_)
 refine R.move (h := ?_)
 refine R.bin (run_eql _ _ _ _ _ _) (h := ?_)
 refine R.and (h := ?_)
 refine R.move (h := ?_)
 refine R.move (h := ?_)
 refine R.bin (run_eql _ _ _ _ _ _) (h := ?_)
 refine R.and (h := ?_)
 refine R.move (h := ?_)
 refine R.move (h := ?_)
 refine R.bin (run_eql _ _ _ _ _ _) (h := ?_)
 refine R.and (h := ?_)
 refine R.move (h := ?_)
 refine R.move (h := ?_)
 refine R.bin (run_eql _ _ _ _ _ _) (h := ?_)
 refine R.and (h := ?_)
 refine R.move (h := ?_)
 refine R.move (h := ?_)
 refine R.bin (run_eql _ _ _ _ _ _) (h := ?_)
 refine R.and (h := ?_)
 refine R.move (h := ?_)
 refine R.move (h := ?_)
 refine R.not (h := ?_)
 refine R.and (h := ?_)
 refine R.move (h := ?_)
 refine R.move (h := ?_)
 refine R.and (h := ?_)
 refine R.move (h := ?_)
 refine R.move (h := ?_)
 refine R.bin (run_eql _ _ _ _ _ _) (h := ?_)
 refine R.and (h := ?_)
 refine R.move (h := ?_)
 refine R.move (h := ?_)
 refine R.bin (run_eql _ _ _ _ _ _) (h := ?_)
 refine R.and (h := ?_)
 refine R.move (h := ?_)
 first | refine R.loadA A35 (h := ?_) | refine R.loadN A35 (h := ?_) | refine R.loadP A35 (h := ?_)
 refine R.callP (es := [_]) (fun _ => checkBad) (h := ?_)
 refine R.bin (run_eql _ _ _ _ _ _) (h := ?_)
 refine R.and (h := ?_)
 refine R.move (h := ?_)
 first | refine R.loadA A35 (h := ?_) | refine R.loadN A35 (h := ?_) | refine R.loadP A35 (h := ?_)
 refine R.callP (es := [_]) (fun _ => checkMore) (h := ?_)
 refine R.bin (run_eql _ _ _ _ _ _) (h := ?_)
 refine R.and (h := ?_)
 refine R.move (h := ?_)
 refine R.move (h := ?_)
 refine R.bin (run_eql _ _ _ _ _ _) (h := ?_)
 refine R.and (h := ?_)
 refine R.move (h := ?_)
 refine R.move (h := ?_)
 refine R.bin (run_eql _ _ _ _ _ _) (h := ?_)
 refine R.and (h := ?_)
 refine R.move (h := ?_)
 refine R.move (h := ?_)
 refine R.bin (run_eql _ _ _ _ _ _) (h := ?_)
 refine R.and (h := ?_)
 refine R.move (h := ?_)
 refine R.callP (es := []) (fun _ => shown_P) (h := ?_)
 refine R.and (h := ?_)
 refine R.assign (h := ?_)
 refine .n0 ?_
 exact LGo.ret (ret_T Tryz.results10 hA hmd)

end Go.Proofs.YtckbomkcnmcdaaaGreatDoor
