/- gates: a door; why a call is refused. -/
import Derived.Test.YtgcjjndhohellaaDoorGI
set_option linter.unusedSimpArgs false
set_option linter.unusedVariables false
namespace Go.Proofs.YtgcjjndhohellaaDoor

theorem idxI_P (l : List Int) (n : Int) (hl : l.length ≤ 100000) : PC Tryd.prog 72 [.sv (.sl 1 (ic .i64 l)), .i n] (.i (idxP (fun a => decide (n = a)) 0 l)) := by
 refine ⟨LC.of_go Tryd.func72 (c := _) rfl (by kernel_rfl) (by rw [Tryd.ntmps72]; simp) rfl rfl (by simp [LO.lt, LV.lts, LV.lt, lts_sv]) (by simp) ?_⟩
 intro B hA hmd
 obtain ⟨g, e1⟩ : ∃ g, idxP (fun a => decide (n = a)) 0 l = g := ⟨_, rfl⟩
 rw [e1]
 refine .seq ?_
 refine .region rfl ?_
 refine R.assign (h := ?_)
 refine .n0 ?_
 refine .seq ?_
 refine .seq ?_
 refine .region rfl ?_
 refine R.move (h := ?_)
 first | refine R.len S57 (h := ?_) | refine R.lenRs S57 (h := ?_) | refine R.lenV (run_lenNil S57) (h := ?_)
 rw [ic_len]
 refine R.move (h := ?_)
 refine .n0 ?_
 refine .block ?_
 refine .loop ?_
 refine LGo.loopG (σ := Nat) (fun x => x ≤ l.length ∧ idxP (fun a => decide (n = a)) x (l.drop x) = g) (fun x => [(8, (true, .i (x : Nat)))]) (fun x => []) (fun x => l.length - x) (0) [(0, _), (1, _), (7, _)] ⟨Nat.zero_le _, e1⟩ (by repeat (first | exact trivial | refine ⟨rfl, ?_⟩)) (by repeat (first | exact trivial | refine ⟨rfl, ?_⟩)) (by repeat (first | exact trivial | refine ⟨rfl, ?_⟩)) ?_
 rintro k ⟨hk, hq⟩ ih
 refine .seq ?_
 refine .region rfl ?_
 refine R.bin (run_lss _ _ _ _ _ _) (h := ?_)
 refine .n0 ?_
 refine .seq ?_
 refine LGo.ifd (ht := fun hc => ?_) (hf := fun hc => ?_)
 ·
  have hlt : k < l.length := by omega
  have hx := icA hlt
  have hd : l.drop k = l[k] :: l.drop (k + 1) := List.drop_eq_getElem_cons hlt
  rw [hd, idxP] at hq
  generalize l[k] = z at hx hq
  clear hd
  refine .skip ?_
  refine .seq ?_
  refine .block ?_
  refine .seq ?_
  refine .region rfl ?_
  refine R.move (h := ?_)
  refine R.assign (h := ?_)
  refine .n0 ?_
  refine .seq ?_
  refine .region rfl ?_
  refine R.move (h := ?_)
  refine R.move (h := ?_)
  refine R.move (h := ?_)
  refine R.index I57 (hj := fun hg => ⟨by omega, hx⟩) (h := ?_)
  first | refine R.loadB O3 (h := ?_) | refine R.load1 O3 (h := ?_)
  refine R.bin (run_eql _ _ _ _ _ _) (h := ?_)
  refine .n0 ?_
  refine LGo.ifd (ht := fun hc2 => ?_) (hf := fun hc2 => ?_)
  ·
   rw [if_pos (decide_eq_true hc2)] at hq
   rw [← hq]
   refine .seq ?_
   refine .region rfl ?_
   refine R.move (h := ?_)
   refine R.assign (h := ?_)
   refine .n0 ?_
   exact LGo.ret (ret_T Tryd.results72 hA hmd)
  ·
   rw [if_neg (by simpa using hc2)] at hq
   refine .skip ?_
   refine .inBlock ?_
   refine .region rfl ?_
   first | refine R.add (h := ?_) | refine R.addW (h := ?_)
   refine R.move (h := ?_)
   refine .n0 ?_
   refine .inLoop ?_
   exact LGo.next _ (fun o h => by have := (hA o).1 h; omega) (by omega) (ih (k + 1) ⟨by omega, hq⟩ (by omega)) (by repeat (first | exact trivial | refine ⟨rfl, ?_⟩)) (by repeat (first | exact trivial | refine ⟨rfl, ?_⟩))
 ·
  rw [List.drop_eq_nil_of_le (show l.length ≤ k by omega), idxP] at hq
  rw [← hq]
  refine .exit rfl ?_
  refine .seq ?_
  refine .region rfl ?_
  refine R.assign (h := ?_)
  refine .n0 ?_
  exact LGo.ret (ret_T Tryd.results72 hA hmd)

theorem any_cont (l : List Int) (n : Int) : (l.any fun a => decide (n = a)) = l.contains n := by
  induction l with
  | nil => rfl
  | cons a l ih => rw [List.any_cons, contains_cons', ih]; congr 1; rw [Bool.eq_iff_iff]; simp only [decide_eq_true_eq]; exact eq_comm

theorem contI_P (l : List Int) (n : Int) (hl : l.length ≤ 100000) : PC Tryd.prog 51 [.sv (.sl 1 (ic .i64 l)), .i n] (.b (l.contains n)) := by
 refine ⟨LC.of_go Tryd.func51 (c := _) rfl (by kernel_rfl) (by rw [Tryd.ntmps51]; simp) rfl rfl (by simp [LO.lt, LV.lts, LV.lt, lts_sv]) (by simp) ?_⟩
 intro B hA hmd
 rw [← any_cont, ← idxP_any]
 refine .seq ?_
 refine .region rfl ?_
 refine R.assign (h := ?_)
 refine .n0 ?_
 refine .seq ?_
 refine .region rfl ?_
 refine R.move (h := ?_)
 refine R.move (h := ?_)
 refine R.callP (es := [_, _]) (fun _ => idxI_P l n hl) (h := ?_)
 refine R.bin (run_geq _ _ _ _ _ _) (h := ?_)
 refine R.assign (h := ?_)
 refine .n0 ?_
 exact LGo.ret (ret_T Tryd.results51 hA hmd)

end Go.Proofs.YtgcjjndhohellaaDoor
