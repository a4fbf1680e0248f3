/- gates: a state copied; the check of a state; New. -/
import Derived.Test.YtgcjjndhohellaaDoorGC
set_option linter.unusedSimpArgs false
set_option linter.unusedVariables false
namespace Go.Proofs.YtgcjjndhohellaaDoor

def SmG (l : List GtG) : Prop := l.length ≤ 100000 ∧ ∀ g ∈ l, g.secs.length ≤ 100000
def SmS (s : GtS) : Prop := SmG s.gates ∧ s.ents.length ≤ 100000 ∧ ∀ x ∈ s.ents, U32 x.seat
theorem set_gate (l : List GtG) (k : Nat) (g : GtG) (h : l[k]? = some g) : (l.map GtG.c).set k (g.c.set 0 (.sl 1 (ic .i64 g.secs))) = l.map GtG.c := by
  have : g.c.set 0 (.sl 1 (ic .i64 g.secs)) = g.c := rfl
  rw [this, ← List.map_set]
  congr 1
  obtain ⟨hk, rfl⟩ := List.getElem?_eq_some_iff.1 h
  exact List.set_getElem_self hk
theorem gt_ones (l : List GtG) : ∀ e ∈ l.map GtG.c, e.length = 3 := by intro e he; obtain ⟨g, _, rfl⟩ := List.mem_map.1 he; rfl
theorem ge_ones (l : List GtE) : ∀ e ∈ l.map GtE.c, e.length = 5 := by intro e he; obtain ⟨g, _, rfl⟩ := List.mem_map.1 he; rfl

theorem cloneI_P (xs : List (List SV)) (hsz : ∀ e ∈ xs, e.length = 1) (hl : xs.length ≤ 100000) : PC Tryd.prog 64 [.sv (.sl 1 xs)] (.sv (.sl 1 xs)) := by
 refine ⟨LC.of_go Tryd.func64 (c := _) rfl (by kernel_rfl) (by rw [Tryd.ntmps64]; simp) rfl rfl (by simp [LO.lt, LV.lts, LV.lt, lts_sv]) (by simp) ?_⟩
 intro B hA hmd
 refine .seq ?_
 refine .region rfl ?_
 refine R.assign (h := ?_)
 refine .n0 ?_
 refine .seq ?_
 refine .seq ?_
 refine .region rfl ?_
 refine R.move (h := ?_)
 rcases Classical.em (xs = []) with h0 | h0
 ·
  refine R.nilU (hT := Tryd.underlying57) (h := ?_)
  refine .n0 ?_
  refine LGo.ifU (ht := ?_) (hf := ?_)
  ·
   refine .seq ?_
   refine .region rfl ?_
   refine R.assign (h := ?_)
   refine .n0 ?_
   subst h0
   refine LGo.nilSl 2 1 (h := ?_)
   exact LGo.ret (ret_T Tryd.results64 hA hmd)
  ·
   refine .skip ?_
   refine .seq ?_
   refine .region rfl ?_
   refine R.buildSliceR AP57 (xs := []) (es := []) (hcs := CellsOfs.nil) (h := ?_)
   refine R.move (h := ?_)
   refine R.appendS AP57 (hs := SrcOk.sl Tryd.underlying57 (hsz)) (hlen := by simp; omega) (h := ?_)
   refine R.assign (h := ?_)
   refine .n0 ?_
   first | refine LGo.frzT 2 (h := ?_) | refine LGo.nilSl 2 1 (h := ?_) | skip
   exact LGo.ret (ret_T Tryd.results64 hA hmd)
 ·
  refine R.nilF false (hT := Tryd.underlying57) (hne := fun _ => h0) (h := ?_)
  refine .n0 ?_
  refine LGo.ifb (ht := fun hc2 => by simp at hc2) (hf := fun hc2 => ?_)
  refine .skip ?_
  refine .seq ?_
  refine .region rfl ?_
  refine R.buildSliceR AP57 (xs := []) (es := []) (hcs := CellsOfs.nil) (h := ?_)
  refine R.move (h := ?_)
  refine R.appendS AP57 (hs := SrcOk.sl Tryd.underlying57 (hsz)) (hlen := by simp; omega) (h := ?_)
  refine R.assign (h := ?_)
  refine .n0 ?_
  first | refine LGo.frzT 2 (h := ?_) | refine LGo.nilSl 2 1 (h := ?_) | skip
  exact LGo.ret (ret_T Tryd.results64 hA hmd)

theorem clone_L (s : GtS) (hs : SmS s) : LC Tryd.prog 41 0 [.agg (s.c.map LV.sv)] [] (.agg [.sv (.sl 3 (s.gates.map GtG.c)), .ref 0]) [(0, .rs 40 5 (s.ents.map GtE.c))] 1 := by
 refine LC.of_go Tryd.func41 (c := _) rfl (by kernel_rfl) (by rw [Tryd.ntmps41]; simp) rfl rfl (by simp [LO.lt, LV.lts, LV.lt, lts_sv]) (by simp) ?_
 intro B hA hmd
 obtain ⟨⟨hg1, hg2⟩, he1, he2⟩ := hs
 refine .seq ?_
 refine .region rfl ?_
 refine R.box (h := ?_)
 refine R.alloc Z25 (h := ?_)
 refine .n0 ?_
 refine .seq ?_
 refine .region rfl ?_
 first | refine R.field F25_0 (h := ?_) | refine R.fieldAt F25_0 (h := ?_)
 first | refine R.loadB O22 (h := ?_) | refine R.load1 O22 (h := ?_)
 refine R.callX (es := [_]) [] (cloneG (s.gates.map GtG.c) (gt_ones _) (by rw [List.length_map]; exact hg1)) (h := ?_)
 first | refine R.field F25_1 (h := ?_) | refine R.fieldAt F25_1 (h := ?_)
 first | refine R.loadB O23 (h := ?_) | refine R.load1 O23 (h := ?_)
 refine R.callX (es := [_]) [] (cloneE (s.ents.map GtE.c) (ge_ones _) (by rw [List.length_map]; exact he1)) (h := ?_)
 first | refine R.field F25_0 (h := ?_) | refine R.fieldAt F25_0 (h := ?_)
 refine R.storeB O22 (h := ?_)
 first | refine R.field F25_1 (h := ?_) | refine R.fieldAt F25_1 (h := ?_)
 refine R.storeB O23 (h := ?_)
 refine Reg.nil ⟨fun _ => ⟨mixedO, by rfl, by rfl⟩, ?_⟩
 refine .seq ?_
 refine .seq ?_
 refine .region rfl ?_
 first | refine R.field F25_0 (h := ?_) | refine R.fieldAt F25_0 (h := ?_)
 first | refine R.loadB O22 (h := ?_) | refine R.load1 O22 (h := ?_)
 first | refine R.len S22 (h := ?_) | refine R.lenRs S22 (h := ?_) | refine R.lenV (run_lenNil S22) (h := ?_)
 rw [List.length_map]
 refine R.move (h := ?_)
 refine .n0 ?_
 refine .block ?_
 refine .loop ?_
 refine LGo.loopG (σ := Nat) (fun x => x ≤ s.gates.length) (fun x => [(15, (true, .i (x : Nat)))]) (fun x => [(0, .box 25 [.ref 2, .ref 3]), (1, .box 25 [.v (.slice none 0 0), .v (.slice none 0 0)]), (2, .rs 59 3 (s.gates.map GtG.c)), (3, .rs 40 5 (s.ents.map GtE.c))]) (fun x => s.gates.length - x) (0) [(1, _), (2, _), (14, _)] (Nat.zero_le _) (by repeat (first | exact trivial | refine ⟨rfl, ?_⟩)) (by repeat (first | exact trivial | refine ⟨rfl, ?_⟩)) (by repeat (first | exact trivial | refine ⟨rfl, ?_⟩)) ?_
 rintro k hk ih
 refine .seq ?_
 refine .region rfl ?_
 refine R.bin (run_lss _ _ _ _ _ _) (h := ?_)
 refine .n0 ?_
 refine .seq ?_
 refine LGo.ifd (ht := fun hc => ?_) (hf := fun hc => ?_)
 ·
  have hlt : k < s.gates.length := by omega
  have hx0 : s.gates[k]? = some s.gates[k] := List.getElem?_eq_getElem hlt
  have hx : (s.gates.map GtG.c)[k]? = some s.gates[k].c := by simp [hlt]
  have hsl := hg2 s.gates[k] (List.getElem_mem hlt)
  generalize s.gates[k] = g at hx hx0 hsl
  refine .skip ?_
  refine .seq ?_
  refine .block ?_
  refine .seq ?_
  refine .region rfl ?_
  refine R.move (h := ?_)
  refine R.assign (h := ?_)
  refine .n0 ?_
  refine .region rfl ?_
  first | refine R.field F25_0 (h := ?_) | refine R.fieldAt F25_0 (h := ?_)
  first | refine R.loadB O22 (h := ?_) | refine R.load1 O22 (h := ?_)
  refine R.move (h := ?_)
  first | refine R.field F25_0 (h := ?_) | refine R.fieldAt F25_0 (h := ?_)
  first | refine R.loadB O22 (h := ?_) | refine R.load1 O22 (h := ?_)
  refine R.move (h := ?_)
  refine R.indexRs I22 (hj := fun _ => ⟨by omega, by rw [List.length_map]; omega⟩) (h := ?_)
  first | refine R.field F59_0 (h := ?_) | refine R.fieldAt F59_0 (h := ?_)
  refine R.loadRs1 O57 k 0 (ev := g.c) (hj := fun _ => ⟨hx, rfl⟩) (h := ?_)
  refine R.callP (es := [_]) (fun _ => cloneI_P (ic .i64 g.secs) (ic_one _ _) (by rw [ic_len]; exact hsl)) (h := ?_)
  refine R.indexRs I22 (hj := fun _ => ⟨by omega, by rw [List.length_map]; omega⟩) (h := ?_)
  first | refine R.field F59_0 (h := ?_) | refine R.fieldAt F59_0 (h := ?_)
  refine R.storeRs1 O57 k 0 g.c (hj := hx) (h := ?_)
  rw [set_gate s.gates k g hx0]
  refine Reg.nil ⟨fun _ => ⟨mixedO, by rfl, by rfl⟩, ?_⟩
  refine .inBlock ?_
  refine .region rfl ?_
  first | refine R.add (h := ?_) | refine R.addW (h := ?_)
  refine R.move (h := ?_)
  refine .n0 ?_
  refine .inLoop ?_
  exact LGo.next _ (fun o h => by have := (hA o).1 h; omega) (by omega) (ih (k + 1) (by omega) (by omega)) (by repeat (first | exact trivial | refine ⟨rfl, ?_⟩)) ⟨rfl, rfl, rfl, rfl, trivial⟩
 ·
  refine LGo.pack 0 0 (h := ?_)
  refine LGo.frzBx 0 (h := ?_)
  refine .exit rfl ?_
  refine .seq ?_
  refine .region rfl ?_
  first | refine R.loadA A25 (h := ?_) | refine R.loadN A25 (h := ?_) | refine R.loadP A25 (h := ?_)
  refine R.storeA A25 (h := ?_)
  refine .n0 ?_
  exact LGo.ret (FnPost.finI [3] (res_A Tryd.results41 A25) hA hmd)

end Go.Proofs.YtgcjjndhohellaaDoor
