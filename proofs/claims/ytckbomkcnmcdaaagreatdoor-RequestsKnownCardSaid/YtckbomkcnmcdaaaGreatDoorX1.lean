/- requests: the laws RequestsRules, RequestsEncodes, RequestsDecodes, RequestsOne (walks). -/
import Derived.Test.YtckbomkcnmcdaaaGreatDoorPT
set_option linter.unusedSimpArgs false
set_option linter.unusedVariables false
namespace Go.Proofs.YtckbomkcnmcdaaaGreatDoor

theorem needsR_eq (k : Int) : needsQ k = needsR k := by
  unfold needsQ needsR
  by_cases h : maskOf k = 0
  · rw [if_pos h, if_pos ((word_mask k).2 h)]
  · rw [if_neg h, if_neg (fun h' => h ((word_mask k).1 h'))]
    have h3 := bit_has h (k := 3) (by omega) (by omega)
    have h4 := bit_has h (k := 4) (by omega) (by omega)
    have hb : ∀ j : Nat, bitQ (maskOf k) j = 0 ∨ bitQ (maskOf k) j = 1 := fun j => by unfold bitQ; omega
    rw [show hasQ k 3 = hasQ k ((3 : Nat) : Int) from rfl, show hasQ k 4 = hasQ k ((4 : Nat) : Int) from rfl, h3, h4]
    rcases hb 3 with e3 | e3 <;> rcases hb 4 with e4 | e4 <;> simp [e3, e4]
theorem rulesR_P' (kd : Int) : PC Tryz.prog 13 [.i kd] (.tup [.sv (.sl 5 ((rulesQ kd).1.map Rule.c)), .i (rulesQ kd).2]) := by rw [rules_eq]; exact rulesR_P kd
theorem needsR_P' (kd : Int) : PC Tryz.prog 15 [.i kd] (.tup [.b (needsQ kd).1, .b (needsQ kd).2.1, .i (needsQ kd).2.2]) := by rw [needsR_eq]; exact needsR_P kd
theorem encR9_P' (r : Rq) (hr : RqOk r) (hs : r.ses.length ≤ 500 ∧ r.tic.length ≤ 500) : PC Tryz.prog 19 [.agg (r.c.map LV.sv)] (.tup [.sv (.sl 1 (bytesC (encQ r).1)), .i (encQ r).2]) := by rw [encQ_eq hr]; exact encR9_P r hr hs
theorem decR9_P' (b : List UInt8) (hb : b.length ≤ 9000) : PC Tryz.prog 23 [.sv (.sl 1 (bytesC b))] (.tup [.agg ((decQ b).1.c.map LV.sv), .i (decQ b).2.1, .i (decQ b).2.2]) := by rw [← decR9_eq]; exact decR9_P b hb
theorem refCheckQ_P' (r : Rq) (hr : RqOk r) : PC Tryz.prog 21 [.agg (r.c.map LV.sv)] (.i (checkQ r)) := by rw [checkQ_eq r hr]; exact refCheckQ_P r hr

theorem lawRules_P (k : Int) : PC Tryz.prog 3 [.i k] (.b true) := by
 refine ⟨LC.of_go Tryz.func3 (c := _) rfl (by kernel_rfl) (by rw [Tryz.ntmps3]; simp) rfl rfl (by simp [LO.lt, LV.lts, LV.lt]) (by simp) ?_⟩
 intro B hA hmd
 refine .seq ?_
 refine .region rfl ?_
 refine R.assign (h := ?_)
 refine .n0 ?_
 refine .seq ?_
 refine .region rfl ?_
 refine R.move (h := ?_)
 refine R.callP (es := [_]) (fun _ => rulesQ_P k) (h := ?_)
 refine R.move (h := ?_)
 refine R.extract (h := ?_)
 refine R.extract (h := ?_)
 refine R.assign (h := ?_)
 refine R.assign (h := ?_)
 refine .n0 ?_
 refine .seq ?_
 refine .region rfl ?_
 refine R.move (h := ?_)
 refine R.callP (es := [_]) (fun _ => rulesR_P' k) (h := ?_)
 generalize (rulesQ k).2 = e
 have hrl := rulesQ_len k
 generalize (rulesQ k).1 = rs at hrl ⊢
 refine R.move (h := ?_)
 refine R.extract (h := ?_)
 refine R.extract (h := ?_)
 refine R.assign (h := ?_)
 refine R.assign (h := ?_)
 refine .n0 ?_
 refine .seq ?_
 refine .region rfl ?_
 refine R.move (h := ?_)
 refine R.callP (es := [_]) (fun _ => needsQ_P k) (h := ?_)
 refine R.move (h := ?_)
 refine R.extract (h := ?_)
 refine R.extract (h := ?_)
 refine R.extract (h := ?_)
 refine R.assign (h := ?_)
 refine R.assign (h := ?_)
 refine R.assign (h := ?_)
 refine .n0 ?_
 refine .seq ?_
 refine .region rfl ?_
 refine R.move (h := ?_)
 refine R.callP (es := [_]) (fun _ => needsR_P' k) (h := ?_)
 generalize needsQ k = nq
 refine R.move (h := ?_)
 refine R.extract (h := ?_)
 refine R.extract (h := ?_)
 refine R.extract (h := ?_)
 refine R.assign (h := ?_)
 refine R.assign (h := ?_)
 refine R.assign (h := ?_)
 refine .n0 ?_
 refine .seq ?_
 refine .seq ?_
 refine .region rfl ?_
 refine R.move (h := ?_)
 first | refine R.len S22 (h := ?_) | refine R.lenRs S22 (h := ?_) | refine R.lenV (run_lenNil S22) (h := ?_)
 refine R.move (h := ?_)
 first | refine R.len S22 (h := ?_) | refine R.lenRs S22 (h := ?_) | refine R.lenV (run_lenNil S22) (h := ?_)
 refine R.bin (run_neq _ _ _ _ _ _) (h := ?_)
 refine R.move (h := ?_)
 refine R.move (h := ?_)
 refine R.move (h := ?_)
 refine R.bin (run_neq _ _ _ _ _ _) (h := ?_)
 refine R.or (h := ?_)
 refine R.move (h := ?_)
 refine R.move (h := ?_)
 refine R.move (h := ?_)
 refine R.bin (run_neqB Tryz.underlying4 _ _ _ _) (h := ?_)
 refine R.or (h := ?_)
 refine R.move (h := ?_)
 refine R.move (h := ?_)
 refine R.move (h := ?_)
 refine R.bin (run_neqB Tryz.underlying4 _ _ _ _) (h := ?_)
 refine R.or (h := ?_)
 refine R.move (h := ?_)
 refine R.move (h := ?_)
 refine R.move (h := ?_)
 refine R.bin (run_neq _ _ _ _ _ _) (h := ?_)
 refine R.or (h := ?_)
 refine .n0 ?_
 refine LGo.ifb (ht := fun hc => ?_) (hf := fun hc => ?_)
 ·
  simp at hc
 ·
  refine .skip ?_
  refine .seq ?_
  refine .seq ?_
  refine .region rfl ?_
  refine R.assign (h := ?_)
  refine .n0 ?_
  refine .block ?_
  refine .loop ?_
  refine LGo.loopG (σ := Nat) (fun x => x ≤ rs.length) (fun x => [(13, (true, .i (x : Nat)))]) (fun x => []) (fun x => rs.length - x) (0) [(3, _), (5, _)] (Nat.zero_le _) (by repeat (first | exact trivial | refine ⟨rfl, ?_⟩)) (by repeat (first | exact trivial | refine ⟨rfl, ?_⟩)) (by repeat (first | exact trivial | refine ⟨rfl, ?_⟩)) ?_
  rintro j hj ih
  refine .seq ?_
  refine .seq ?_
  refine .region rfl ?_
  refine R.move (h := ?_)
  refine R.move (h := ?_)
  first | refine R.len S22 (h := ?_) | refine R.lenRs S22 (h := ?_) | refine R.lenV (run_lenNil S22) (h := ?_)
  rw [List.length_map]
  refine R.bin (run_lss _ _ _ _ _ _) (h := ?_)
  refine .n0 ?_
  refine LGo.ifd (ht := fun hc2 => ?_) (hf := fun hc2 => ?_)
  ·
   have hlt : j < rs.length := by omega
   have hx : (rs.map Rule.c)[((j : Nat) : Int).toNat]? = some rs[j].c := by simp [hlt]
   generalize rs[j] = x at hx
   refine .skip ?_
   refine .seq ?_
   refine .block ?_
   refine .seq ?_
   refine .region rfl ?_
   refine R.move (h := ?_)
   refine R.move (h := ?_)
   refine R.index I22 (hj := fun hg => ⟨by omega, hx⟩) (h := ?_)
   first | refine R.loadA A30 (h := ?_) | refine R.loadN A30 (h := ?_) | refine R.loadP A30 (h := ?_)
   refine R.move (h := ?_)
   refine R.move (h := ?_)
   refine R.index I22 (hj := fun hg => ⟨by omega, hx⟩) (h := ?_)
   first | refine R.loadA A30 (h := ?_) | refine R.loadN A30 (h := ?_) | refine R.loadP A30 (h := ?_)
   refine R.binA (NE30 _ _ _ _ _ _ _ _ _ _ _ _) (h := ?_)
   refine Reg.nil ⟨fun _ => ⟨mixedO, by rfl, by rfl⟩, ?_⟩
   refine LGo.ifb (ht := fun hc3 => ?_) (hf := fun hc3 => ?_)
   ·
    simp at hc3
   ·
    refine .skip ?_
    refine .inBlock ?_
    refine .region rfl ?_
    refine R.move (h := ?_)
    first | refine R.add (h := ?_) | refine R.addW (h := ?_)
    refine R.assign (h := ?_)
    refine .n0 ?_
    refine .inLoop ?_
    exact LGo.next _ (fun o h => by have := (hA o).1 h; omega) (by omega) (ih (j + 1) hlt (by omega)) (by repeat (first | exact trivial | refine ⟨rfl, ?_⟩)) (by repeat (first | exact trivial | refine ⟨rfl, ?_⟩))
  ·
   refine .exit rfl ?_
   refine .seq ?_
   refine .region rfl ?_
   refine R.callP (es := []) (fun _ => shown_P) (h := ?_)
   refine R.assign (h := ?_)
   refine .n0 ?_
   exact LGo.ret (ret_T Tryz.results3 hA hmd)

theorem lawEncodes_P (r : Rq) (hr : RqOk r) : PC Tryz.prog 4 [.agg (r.c.map LV.sv)] (.b true) := by
 refine ⟨LC.of_go Tryz.func4 (c := _) rfl (by kernel_rfl) (by rw [Tryz.ntmps4]; simp) rfl rfl (by simp [LO.lt, LV.lts, LV.lt]) (by simp) ?_⟩
 intro B hA hmd
 refine .seq ?_
 refine .region rfl ?_
 refine R.box (h := ?_)
 refine R.assign (h := ?_)
 refine .n0 ?_
 refine .seq ?_
 refine .seq ?_
 refine .region rfl ?_
 first | refine R.loadA A35 (h := ?_) | refine R.loadN A35 (h := ?_) | refine R.loadP A35 (h := ?_)
 refine R.callP (es := [_]) (fun _ => farQ_P r) (h := ?_)
 refine .n0 ?_
 refine LGo.ifb (ht := fun hc => ?_) (hf := fun hc => ?_)
 ·
  refine .seq ?_
  refine .region rfl ?_
  refine R.callP (es := []) (fun _ => shown_P) (h := ?_)
  refine R.assign (h := ?_)
  refine .n0 ?_
  exact LGo.ret (ret_T Tryz.results4 hA hmd)
 ·
  have hs : r.ses.length ≤ 500 ∧ r.tic.length ≤ 500 := by simp at hc; omega
  refine .skip ?_
  refine .seq ?_
  refine .region rfl ?_
  first | refine R.loadA A35 (h := ?_) | refine R.loadN A35 (h := ?_) | refine R.loadP A35 (h := ?_)
  refine R.callP (es := [_]) (fun _ => encQ_P r hr hs) (h := ?_)
  refine R.move (h := ?_)
  refine R.extract (h := ?_)
  refine R.extract (h := ?_)
  refine R.assign (h := ?_)
  refine R.assign (h := ?_)
  refine .n0 ?_
  refine .seq ?_
  refine .region rfl ?_
  first | refine R.loadA A35 (h := ?_) | refine R.loadN A35 (h := ?_) | refine R.loadP A35 (h := ?_)
  refine R.callP (es := [_]) (fun _ => encR9_P' r hr hs) (h := ?_)
  refine R.move (h := ?_)
  refine R.extract (h := ?_)
  refine R.extract (h := ?_)
  refine R.assign (h := ?_)
  refine R.assign (h := ?_)
  refine .n0 ?_
  refine .seq ?_
  refine .region rfl ?_
  refine R.move (h := ?_)
  refine R.toString Tryz.underlying37 Tryz.underlying5 Tryz.underlying9 (h := ?_)
  refine R.move (h := ?_)
  refine R.toString Tryz.underlying37 Tryz.underlying5 Tryz.underlying9 (h := ?_)
  refine R.bin (run_eqlT _ _ _ _ _) (h := ?_)
  refine R.move (h := ?_)
  refine R.move (h := ?_)
  refine R.move (h := ?_)
  refine R.bin (run_eql _ _ _ _ _ _) (h := ?_)
  refine R.and (h := ?_)
  refine R.move (h := ?_)
  first | refine R.loadA A35 (h := ?_) | refine R.loadN A35 (h := ?_) | refine R.loadP A35 (h := ?_)
  refine R.callP (es := [_]) (fun _ => checkQ_P r hr) (h := ?_)
  first | refine R.loadA A35 (h := ?_) | refine R.loadN A35 (h := ?_) | refine R.loadP A35 (h := ?_)
  refine R.callP (es := [_]) (fun _ => refCheckQ_P' r hr) (h := ?_)
  refine R.bin (run_eql _ _ _ _ _ _) (h := ?_)
  refine R.and (h := ?_)
  refine R.move (h := ?_)
  refine R.callP (es := []) (fun _ => shown_P) (h := ?_)
  refine R.and (h := ?_)
  refine R.assign (h := ?_)
  refine Reg.nil ⟨fun _ => ⟨mixedO, by rfl, by rfl⟩, ?_⟩
  refine LGo.tru 2 (h := ?_)
  exact LGo.ret (ret_T Tryz.results4 hA hmd)

theorem lawDecodes_P (b : List UInt8) : PC Tryz.prog 5 [.sv (.sl 1 (bytesC b))] (.b true) := by
 refine ⟨LC.of_go Tryz.func5 (c := _) rfl (by kernel_rfl) (by rw [Tryz.ntmps5]; simp) rfl rfl (by simp [LO.lt, LV.lts, LV.lt]) (by simp) ?_⟩
 intro B hA hmd
 refine .seq ?_
 refine .region rfl ?_
 refine R.assign (h := ?_)
 refine .n0 ?_
 refine .seq ?_
 refine .seq ?_
 refine .region rfl ?_
 refine R.move (h := ?_)
 first | refine R.len S37 (h := ?_) | refine R.lenRs S37 (h := ?_) | refine R.lenV (run_lenNil S37) (h := ?_)
 rw [bytesC_length]
 refine R.bin (run_gtr _ _ _ _ _ _) (h := ?_)
 refine .n0 ?_
 refine LGo.ifd (ht := fun hc => ?_) (hf := fun hc => ?_)
 ·
  refine .seq ?_
  refine .region rfl ?_
  refine R.callP (es := []) (fun _ => shown_P) (h := ?_)
  refine R.assign (h := ?_)
  refine .n0 ?_
  exact LGo.ret (ret_T Tryz.results5 hA hmd)
 ·
  refine .skip ?_
  refine .seq ?_
  refine .region rfl ?_
  refine R.move (h := ?_)
  refine R.toString Tryz.underlying37 Tryz.underlying5 Tryz.underlying9 (h := ?_)
  refine R.assign (h := ?_)
  refine .n0 ?_
  refine .seq ?_
  refine .region rfl ?_
  refine R.move (h := ?_)
  refine R.callP (es := [_]) (fun _ => decQ_P b (by omega)) (h := ?_)
  refine R.move (h := ?_)
  refine R.extract (h := ?_)
  refine R.extract (h := ?_)
  refine R.extract (h := ?_)
  refine R.alloc Z35 (h := ?_)
  refine R.storeA A35 (h := ?_)
  refine R.assign (h := ?_)
  refine R.assign (h := ?_)
  refine .n0 ?_
  refine .seq ?_
  refine .region rfl ?_
  refine R.move (h := ?_)
  refine R.callP (es := [_]) (fun _ => decR9_P' b (by omega)) (h := ?_)
  refine R.move (h := ?_)
  refine R.extract (h := ?_)
  refine R.extract (h := ?_)
  refine R.extract (h := ?_)
  refine R.alloc Z35 (h := ?_)
  refine R.storeA A35 (h := ?_)
  refine R.assign (h := ?_)
  refine R.assign (h := ?_)
  refine .n0 ?_
  refine .seq ?_
  refine .region rfl ?_
  first | refine R.loadA A35 (h := ?_) | refine R.loadN A35 (h := ?_) | refine R.loadP A35 (h := ?_)
  first | refine R.loadA A35 (h := ?_) | refine R.loadN A35 (h := ?_) | refine R.loadP A35 (h := ?_)
  refine R.binA (EQ35 _ _ _ _ _ _ _ _ _ _ _ _ _ _ _ _ _ _ _ _ _ _) (h := ?_)
  refine R.move (h := ?_)
  refine R.move (h := ?_)
  refine R.move (h := ?_)
  refine R.bin (run_eql _ _ _ _ _ _) (h := ?_)
  refine R.and (h := ?_)
  refine R.move (h := ?_)
  refine R.move (h := ?_)
  refine R.move (h := ?_)
  refine R.bin (run_eql _ _ _ _ _ _) (h := ?_)
  refine R.and (h := ?_)
  refine R.move (h := ?_)
  refine R.move (h := ?_)
  refine R.toString Tryz.underlying37 Tryz.underlying5 Tryz.underlying9 (h := ?_)
  refine R.move (h := ?_)
  refine R.bin (run_eqlT _ _ _ _ _) (h := ?_)
  refine R.and (h := ?_)
  refine R.move (h := ?_)
  refine R.callP (es := []) (fun _ => shown_P) (h := ?_)
  refine R.and (h := ?_)
  refine R.assign (h := ?_)
  refine .n0 ?_
  refine LGo.tru 2 (h := ?_)
  exact LGo.ret (ret_T Tryz.results5 hA hmd)

theorem lawOne_P (b : List UInt8) : PC Tryz.prog 7 [.sv (.sl 1 (bytesC b))] (.b true) := by
 refine ⟨LC.of_go Tryz.func7 (c := _) rfl (by kernel_rfl) (by rw [Tryz.ntmps7]; simp) rfl rfl (by simp [LO.lt, LV.lts, LV.lt]) (by simp) ?_⟩
 intro B hA hmd
 refine .seq ?_
 refine .region rfl ?_
 refine R.assign (h := ?_)
 refine .n0 ?_
 refine .seq ?_
 refine .seq ?_
 refine .region rfl ?_
 refine R.move (h := ?_)
 first | refine R.len S37 (h := ?_) | refine R.lenRs S37 (h := ?_) | refine R.lenV (run_lenNil S37) (h := ?_)
 rw [bytesC_length]
 refine R.bin (run_gtr _ _ _ _ _ _) (h := ?_)
 refine .n0 ?_
 refine LGo.ifd (ht := fun hc => ?_) (hf := fun hc => ?_)
 ·
  refine .seq ?_
  refine .region rfl ?_
  refine R.callP (es := []) (fun _ => shown_P) (h := ?_)
  refine R.assign (h := ?_)
  refine .n0 ?_
  exact LGo.ret (ret_T Tryz.results7 hA hmd)
 ·
  refine .skip ?_
  refine .seq ?_
  refine .region rfl ?_
  refine R.move (h := ?_)
  refine R.callP (es := [_]) (fun _ => decQ_P b (by omega)) (h := ?_)
  refine R.move (h := ?_)
  refine R.extract (h := ?_)
  refine R.extract (h := ?_)
  refine R.extract (h := ?_)
  refine R.alloc Z35 (h := ?_)
  refine R.storeA A35 (h := ?_)
  refine R.assign (h := ?_)
  refine R.assign (h := ?_)
  refine .n0 ?_
  refine .seq ?_
  refine .seq ?_
  refine .region rfl ?_
  refine R.move (h := ?_)
  refine R.bin (run_neq _ _ _ _ _ _) (h := ?_)
  refine .n0 ?_
  refine LGo.ifb (ht := fun hc2 => ?_) (hf := fun hc2 => ?_)
  ·
   obtain ⟨d1, d2, d3, d4⟩ := err_Q (b := b) (by simpa using hc2)
   rw [d1, d2]
   refine .seq ?_
   refine .region rfl ?_
   refine R.move (h := ?_)
   refine R.bin (run_eql _ _ _ _ _ _) (h := ?_)
   refine R.move (h := ?_)
   first | refine R.loadA A35 (h := ?_) | refine R.loadN A35 (h := ?_) | refine R.loadP A35 (h := ?_)
   refine R.build BF35 (is := []) (xs := []) (es := []) (h := ?_)
   refine R.binA (EQ35 _ _ _ _ _ _ _ _ _ _ _ _ _ _ _ _ _ _ _ _ _ _) (h := ?_)
   refine R.and (h := ?_)
   refine R.move (h := ?_)
   refine R.move (h := ?_)
   refine R.bin (run_geq _ _ _ _ _ _) (h := ?_)
   refine R.and (h := ?_)
   refine R.move (h := ?_)
   refine R.move (h := ?_)
   refine R.move (h := ?_)
   first | refine R.len S37 (h := ?_) | refine R.lenRs S37 (h := ?_) | refine R.lenV (run_lenNil S37) (h := ?_)
   rw [bytesC_length]
   refine R.bin (run_leq _ _ _ _ _ _) (h := ?_)
   refine R.and (h := ?_)
   refine R.move (h := ?_)
   refine R.callP (es := []) (fun _ => shown_P) (h := ?_)
   refine R.and (h := ?_)
   refine R.assign (h := ?_)
   refine .n0 ?_
   refine LGo.tru 2 (hb := by simp [d3, d4]) (h := ?_)
   exact LGo.ret (ret_T Tryz.results7 hA hmd)
  ·
   obtain ⟨h1, h2, h3, h6⟩ := one_Q (b := b) (by simpa using hc2)
   have h4 := encQ_P (decQ b).1 h1 (strs_Q500 h2)
   rw [h3] at h4
   have h5 := checkQ_P (decQ b).1 h1
   rw [h2] at h5
   rw [h6]
   refine .skip ?_
   refine .seq ?_
   refine .region rfl ?_
   first | refine R.loadA A35 (h := ?_) | refine R.loadN A35 (h := ?_) | refine R.loadP A35 (h := ?_)
   refine R.callP (es := [_]) (fun _ => h4) (h := ?_)
   refine R.move (h := ?_)
   refine R.extract (h := ?_)
   refine R.extract (h := ?_)
   refine R.assign (h := ?_)
   refine R.assign (h := ?_)
   refine .n0 ?_
   refine .seq ?_
   refine .region rfl ?_
   refine R.move (h := ?_)
   refine R.bin (run_eql _ _ _ _ _ _) (h := ?_)
   refine R.move (h := ?_)
   refine R.move (h := ?_)
   refine R.toString Tryz.underlying37 Tryz.underlying5 Tryz.underlying9 (h := ?_)
   refine R.move (h := ?_)
   refine R.toString Tryz.underlying37 Tryz.underlying5 Tryz.underlying9 (h := ?_)
   refine R.bin (run_eqlT _ _ _ _ _) (h := ?_)
   refine R.and (h := ?_)
   refine R.move (h := ?_)
   refine R.move (h := ?_)
   refine R.bin (run_eql _ _ _ _ _ _) (h := ?_)
   refine R.and (h := ?_)
   refine R.move (h := ?_)
   first | refine R.loadA A35 (h := ?_) | refine R.loadN A35 (h := ?_) | refine R.loadP A35 (h := ?_)
   refine R.callP (es := [_]) (fun _ => h5) (h := ?_)
   refine R.bin (run_eql _ _ _ _ _ _) (h := ?_)
   refine R.and (h := ?_)
   refine R.move (h := ?_)
   refine R.callP (es := []) (fun _ => shown_P) (h := ?_)
   refine R.and (h := ?_)
   refine R.assign (h := ?_)
   refine .n0 ?_
   refine LGo.tru 2 (hb := by simp) (h := ?_)
   exact LGo.ret (ret_T Tryz.results7 hA hmd)

end Go.Proofs.YtckbomkcnmcdaaaGreatDoor
