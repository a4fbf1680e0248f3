/- Texts of this claim, merged (UF to UJ); no condition. -/
import Derived.Test.YteccglgbkehdeaaGreatDoorPF6
set_option linter.unusedSimpArgs false
set_option linter.unusedVariables false
namespace Go.Proofs.YteccglgbkehdeaaGreatDoor
theorem printS_P (s : Sc) (hok : s.ok) (hn : s.near) : PC Tryz.prog 14 [.agg (s.c.map LV.sv)] (.tup [.t (printO s).1, .i (printO s).2]) := by
 refine ⟨LC.of_go Tryz.func14 (c := _) rfl (by kernel_rfl) (by rw [Tryz.ntmps14]; simp) rfl rfl (by simp [LO.lt, LV.lts, LV.lt, lts_sv]) (by simp) ?_⟩
 intro B hA hmd
 obtain ⟨g, e0⟩ : ∃ g, printO s = g := ⟨_, rfl⟩
 have e1 := e0
 unfold printO at e1
 rw [e0]
 refine .seq ?_
 refine .region rfl ?_
 refine R.box (h := ?_)
 refine R.assign (h := ?_)
 refine R.assign (h := ?_)
 refine .n0 ?_
 refine .seq ?_
 refine .seq ?_
 refine .region rfl ?_
 first | refine R.loadA A29 (h := ?_) | refine R.loadN A29 (h := ?_) | refine R.loadP A29 (h := ?_)
 refine R.callP (es := [_]) (fun _ => checkS_P s (hok.sm hn)) (h := ?_)
 refine R.move (h := ?_)
 refine R.extract (h := ?_)
 refine R.extract (h := ?_)
 refine R.assign (h := ?_)
 refine R.assign (h := ?_)
 refine .n0 ?_
 refine .seq ?_
 refine .region rfl ?_
 refine R.move (h := ?_)
 refine R.bin (run_neq _ _ _ _ _ _) (h := ?_)
 refine .n0 ?_
 refine LGo.ifb (ht := fun hc => ?_) (hf := fun hc => ?_)
 ·
  rw [if_pos (by simpa using hc)] at e1
  rw [← e1]
  refine .seq ?_
  refine .region rfl ?_
  refine R.move (h := ?_)
  refine R.assign (h := ?_)
  refine R.assign (h := ?_)
  refine .n0 ?_
  exact LGo.ret (ret_TT Tryz.results14 hA hmd)
 ·
  have hc0 : (checkS s).2 = 0 := by simpa using hc
  rw [if_neg (by rw [hc0]; decide)] at e1
  rw [← e1]
  dsimp only
  clear e0 e1
  obtain ⟨hb0, hel, hev⟩ := check_facts hc0
  obtain ⟨hv0, hg0, hg1, hg8, hk64⟩ := base_all hb0
  have hnw : newS s.gates = (⟨s.gates, []⟩, 0) := by unfold newS; rw [if_neg (by rw [hg0]; decide)]
  have hvB : VenB s.ven := ⟨hok.n1, hok.n2, hok.n3, hn.vl, fun x hx => ⟨(hn.vs x hx).1, (hn.vs x hx).2, (hok.vs x hx).2.2.1, (hok.vs x hx).2.2.2⟩⟩
  have hvl := printV_len hvB
  have hgo := hok.gs
  have hgl := printG_len (l := s.gates) (fun g hg => ⟨(hgo g hg).2.2.1, (hgo g hg).2.2.2, hn.gs g hg⟩) (by omega)
  have hwk := hok.w
  have hcn : s.calls.length ≤ 20 := by
    rcases hn.cl with h | h
    · exact h
    · have := base_cl hb0; omega
  have hen : s.evs.length ≤ 100 := by
    rcases hn.el with h | h
    · exact h
    · omega
  have hsg : SmS ⟨s.gates, []⟩ := ⟨⟨by show s.gates.length ≤ _; omega, fun g hg => by have := hn.gs g hg; omega⟩, by show (0:Nat) ≤ _; omega, by simp⟩
  have hgc : checkGS ⟨s.gates, []⟩ = 0 := by unfold checkGS; rw [if_neg (by rw [hg0]; decide)]; rfl
  obtain ⟨F, hF⟩ : ∃ F, printS s = F := ⟨_, rfl⟩
  rw [hF]
  unfold printS at hF
  obtain ⟨E0, hE0⟩ : ∃ E, (s.evs.map fun x => lnF (evF x)).flatten = E := ⟨_, rfl⟩
  rw [hE0] at hF
  have hF0 : F ≠ [] := by rw [← hF]; unfold blkS; simp
  refine .skip ?_
  refine .seq ?_
  refine .region rfl ?_
  refine R.alloc Z83 (h := ?_)
  refine .n0 ?_
  refine LGo.packNil 1 1 5 1 (h := ?_)
  refine .seq ?_
  refine .region rfl ?_
  refine R.makeFunc (es := []) (fs := [_]) (h := ?_)
  refine R.assign (h := ?_)
  refine .n0 ?_
  refine .seq ?_
  refine .region rfl ?_
  refine R.makeFunc (es := []) (fs := [_]) (h := ?_)
  refine R.assign (h := ?_)
  refine .n0 ?_
  refine .seq ?_
  refine .region rfl ?_
  first | refine R.field F29_0 (h := ?_) | refine R.fieldAt F29_0 (h := ?_)
  first | refine R.loadA A24 (h := ?_) | refine R.loadN A24 (h := ?_) | refine R.loadP A24 (h := ?_)
  refine R.callP (es := [_]) (fun _ => printV_P s.ven hv0 hvB) (h := ?_)
  refine R.move (h := ?_)
  refine R.extract (h := ?_)
  refine R.extract (h := ?_)
  refine R.assign (h := ?_)
  refine R.assign (h := ?_)
  refine .n0 ?_
  refine .seq ?_
  refine .region rfl ?_
  refine R.move (h := ?_)
  refine R.move (h := ?_)
  refine R.callX (es := [_, _]) (first := []) (cap := [_]) [1] (pl1_0 [118, 101, 110, 117, 101] (printV s.ven) (by decide) (by omega)) (h := ?_)
  refine .n0 ?_
  obtain ⟨M1, e1⟩ : ∃ M, blkS [118, 101, 110, 117, 101] (printV s.ven) = M := ⟨_, rfl⟩
  have hm1 : M1.length ≤ 6400 := by have := blkS_len [118, 101, 110, 117, 101] (printV s.ven) (by omega); rw [← e1]; simp only [List.length_cons, List.length_nil] at this; omega
  rw [e1] at hF ⊢
  refine .seq ?_
  refine .region rfl ?_
  refine R.move (h := ?_)
  refine R.callP (es := [_]) (fun _ => bareS_P [107, 101, 121]) (h := ?_)
  first | refine R.field F29_1 (h := ?_) | refine R.fieldAt F29_1 (h := ?_)
  first | refine R.loadB O9 (h := ?_) | refine R.load1 O9 (h := ?_)
  refine R.callP (es := [_]) (fun _ => quotedS_P s.key) (h := ?_)
  refine R.buildSliceG AP91 (ys := [fB [107, 101, 121], fQ s.key].map Fd.c) (xs := [_, _]) (es := [_, _]) (hcs := CellsOfs.cons (CellsOf.agg rfl) (CellsOfs.cons (CellsOf.agg rfl) (CellsOfs.nil))) (hys := rfl) (h := ?_)
  refine R.callX (es := [_]) (first := []) (cap := [_]) [1] (pl2 M1 (by omega) [fB [107, 101, 121], fQ s.key] (by simp)) (h := ?_)
  refine Reg.nil ⟨fun _ => ⟨mixedO, by rfl, by rfl⟩, ?_⟩
  obtain ⟨M2, e2⟩ : ∃ M, M1 ++ lnF [fB [107, 101, 121], fQ s.key] = M := ⟨_, rfl⟩
  have hm2 : M2.length ≤ 14700 := by have := joinW_len [fB [107, 101, 121], fQ s.key]; rw [← e2, List.length_append]; unfold lnF; rw [List.length_append]; show _ + (_ + 1) ≤ _; omega
  rw [e2] at hF ⊢
  refine .seq ?_
  refine .region rfl ?_
  first | refine R.field F29_2 (h := ?_) | refine R.fieldAt F29_2 (h := ?_)
  first | refine R.loadB O25 (h := ?_) | refine R.load1 O25 (h := ?_)
  refine R.callP (es := [_]) (fun _ => newS_P s.gates (by omega) (fun g hg => by have := hn.gs g hg; omega)) (h := ?_)
  rw [hnw]
  refine R.move (h := ?_)
  refine R.extract (h := ?_)
  refine R.extract (h := ?_)
  refine R.alloc Z99 (h := ?_)
  refine R.storeA A99 (h := ?_)
  refine R.assign (h := ?_)
  refine .n0 ?_
  refine .seq ?_
  refine .region rfl ?_
  first | refine R.loadA A99 (h := ?_) | refine R.loadN A99 (h := ?_) | refine R.loadP A99 (h := ?_)
  refine R.callP (es := [_]) (fun _ => print_P ⟨s.gates, []⟩ hsg hgc (fun g hg => ⟨(hgo g hg).2.2.1, (hgo g hg).2.2.2, (hgo g hg).2.1, by have := hn.gs g hg; have := listW_len g.secs; omega⟩) (by show s.gates.length ≤ 8; omega) hg1 (by simp) (by simp)) (h := ?_)
  refine R.move (h := ?_)
  refine R.extract (h := ?_)
  refine R.extract (h := ?_)
  refine R.assign (h := ?_)
  refine .n0 ?_
  refine .seq ?_
  refine .region rfl ?_
  refine R.move (h := ?_)
  refine R.move (h := ?_)
  refine R.callX (es := [_, _]) (first := []) (cap := [_]) [1] (pl1_1 M2 (by omega) [103, 97, 116, 101, 115] (printG ⟨s.gates, []⟩) (by decide) (by omega)) (h := ?_)
  refine .n0 ?_
  obtain ⟨M3, e3⟩ : ∃ M, M2 ++ blkS [103, 97, 116, 101, 115] (printG ⟨s.gates, []⟩) = M := ⟨_, rfl⟩
  have hm3 : M3.length ≤ 20000 := by have := blkS_len [103, 97, 116, 101, 115] (printG ⟨s.gates, []⟩) (by omega); rw [← e3, List.length_append]; simp only [List.length_cons, List.length_nil] at this; omega
  rw [e3] at hF ⊢
  refine .seq ?_
  refine .region rfl ?_
  refine R.move (h := ?_)
  refine R.callP (es := [_]) (fun _ => bareS_P [119, 111, 114, 107, 101, 114, 115]) (h := ?_)
  first | refine R.field F29_3 (h := ?_) | refine R.fieldAt F29_3 (h := ?_)
  first | refine R.loadB O3 (h := ?_) | refine R.load1 O3 (h := ?_)
  refine R.callP (es := [_]) (fun _ => digitsS_P s.workers hwk) (h := ?_)
  refine R.buildSliceG AP91 (ys := [fB [119, 111, 114, 107, 101, 114, 115], fD s.workers].map Fd.c) (xs := [_, _]) (es := [_, _]) (hcs := CellsOfs.cons (CellsOf.agg rfl) (CellsOfs.cons (CellsOf.agg rfl) (CellsOfs.nil))) (hys := rfl) (h := ?_)
  refine R.callX (es := [_]) (first := []) (cap := [_]) [1] (pl2 M3 (by omega) [fB [119, 111, 114, 107, 101, 114, 115], fD s.workers] (by simp)) (h := ?_)
  refine Reg.nil ⟨fun _ => ⟨mixedO, by rfl, by rfl⟩, ?_⟩
  obtain ⟨M4, e4⟩ : ∃ M, M3 ++ lnF [fB [119, 111, 114, 107, 101, 114, 115], fD s.workers] = M := ⟨_, rfl⟩
  have hm4 : M4.length ≤ 28300 := by have := joinW_len [fB [119, 111, 114, 107, 101, 114, 115], fD s.workers]; rw [← e4, List.length_append]; unfold lnF; rw [List.length_append]; show _ + (_ + 1) ≤ _; omega
  rw [e4] at hF ⊢
  refine .seq ?_
  refine .seq ?_
  refine .region rfl ?_
  first | refine R.field F29_4 (h := ?_) | refine R.fieldAt F29_4 (h := ?_)
  first | refine R.loadB O26 (h := ?_) | refine R.load1 O26 (h := ?_)
  first | refine R.len S26 (h := ?_) | refine R.lenRs S26 (h := ?_) | refine R.lenV (run_lenNil S26) (h := ?_)
  rw [List.length_map]
  refine R.move (h := ?_)
  refine .n0 ?_
  refine .block ?_
  refine .loop ?_
  refine LGo.loopG (σ := Nat × List UInt8) (fun x => x.1 ≤ s.calls.length ∧ x.2.length ≤ 28300 + 3100 * x.1 ∧ x.2 ++ ((s.calls.drop x.1).map fun c => lnF (callF c)).flatten ++ E0 = F) (fun x => [(71, (true, .i (x.1 : Nat)))]) (fun x => [(0, .box 29 (s.c.map LV.sv)), (1, .bx 83 [.ptr 1 0, .v undef] 1 5 1 (bytesC x.2))]) (fun x => s.calls.length - x.1) (0, M4) [(1, _), (6, _), (8, _), (69, _), (70, _)] ⟨Nat.zero_le _, by dsimp only; omega, hF⟩ (by repeat (first | exact trivial | refine ⟨rfl, ?_⟩)) (by repeat (first | exact trivial | refine ⟨rfl, ?_⟩)) (by repeat (first | exact trivial | refine ⟨rfl, ?_⟩)) ?_
  rintro ⟨k, acc⟩ ⟨hk, hal, hq⟩ ih
  dsimp only at * 
  refine .seq ?_
  refine .region rfl ?_
  refine R.bin (run_lss _ _ _ _ _ _) (h := ?_)
  refine .n0 ?_
  refine .seq ?_
  refine LGo.ifd (ht := fun hc2 => ?_) (hf := fun hc2 => ?_)
  ·
   have hlt : k < s.calls.length := by omega
   have hx : (s.calls.map SrC.c)[((k : Nat) : Int).toNat]? = some s.calls[k].c := by simp [hlt]
   have hd : s.calls.drop k = s.calls[k] :: s.calls.drop (k + 1) := List.drop_eq_getElem_cons hlt
   have hz := hok.cs s.calls[k] (List.getElem_mem hlt)
   have hzr := hn.cs s.calls[k] (List.getElem_mem hlt)
   rw [hd, List.map_cons, List.flatten_cons] at hq
   generalize s.calls[k] = z at hx hq hz hzr
   clear hd
   have hcl := callF_len hz hzr
   have hns := numsC_S hz
   have hnl : (numsC z).length = 10 := rfl
   rw [show callF z = (fB [99, 97, 108, 108] :: (numsC z).map fD) ++ [fQ z.raw] from rfl] at hq hcl
   refine .skip ?_
   refine .seq ?_
   refine .block ?_
   refine .seq ?_
   refine .region rfl ?_
   refine R.index I26 (hj := fun hg => ⟨by omega, hx⟩) (h := ?_)
   first | refine R.loadA A40 (h := ?_) | refine R.loadN A40 (h := ?_) | refine R.loadP A40 (h := ?_)
   refine R.alloc Z40 (h := ?_)
   refine R.storeA A40 (h := ?_)
   refine .n0 ?_
   refine .seq ?_
   refine .region rfl ?_
   refine R.callP (es := [_]) (fun _ => bareS_P [99, 97, 108, 108]) (h := ?_)
   refine R.buildSliceR AP91 (ys := [fB [99, 97, 108, 108]].map Fd.c) (xs := [_]) (es := [(true, .agg ((fB [99, 97, 108, 108]).c.map LV.sv))]) (hcs := CellsOfs.cons (CellsOf.agg rfl) CellsOfs.nil) (hys := rfl) (h := ?_)
   refine R.assign (h := ?_)
   refine .n0 ?_
   refine .seq ?_
   refine .seq ?_
   refine .region rfl ?_
   first | refine R.loadA A40 (h := ?_) | refine R.loadN A40 (h := ?_) | refine R.loadP A40 (h := ?_)
   refine R.callP (es := [_]) (fun _ => numbersS_P z hz) (h := ?_)
   generalize numsC z = nu at hq hcl hns hnl ⊢
   first | refine R.len S104 (h := ?_) | refine R.lenRs S104 (h := ?_) | refine R.lenV (run_lenNil S104) (h := ?_)
   rw [ic_len, hnl]
   refine R.move (h := ?_)
   refine .n0 ?_
   refine .block ?_
   refine .loop ?_
   rw [show [fB [99, 97, 108, 108]].map Fd.c = (fB [99, 97, 108, 108] :: (nu.take 0).map fD).map Fd.c from rfl]
   refine LGo.loopG (σ := Nat) (fun x => x ≤ 10) (fun x => [(80, (true, .i (x : Nat))), (15, (true, .ref 4))]) (fun x => [(0, .box 29 (s.c.map LV.sv)), (1, .bx 83 [.ptr 1 0, .v undef] 1 5 1 (bytesC acc)), (3, .box 40 (z.c.map LV.sv)), (4, .rs 95 2 ((fB [99, 97, 108, 108] :: (nu.take x).map fD).map Fd.c))]) (fun x => 10 - x) (0) [(1, _), (6, _), (8, _), (14, _), (69, _), (70, _), (71, _), (78, _), (79, _)] (Nat.zero_le _) (by repeat (first | exact trivial | refine ⟨rfl, ?_⟩)) (by repeat (first | exact trivial | refine ⟨rfl, ?_⟩)) (by repeat (first | exact trivial | refine ⟨rfl, ?_⟩)) ?_
   rintro j hj ih2
   refine .seq ?_
   refine .region rfl ?_
   refine R.bin (run_lss _ _ _ _ _ _) (h := ?_)
   refine .n0 ?_
   refine .seq ?_
   refine LGo.ifd (ht := fun hc3 => ?_) (hf := fun hc3 => ?_)
   ·
    have hltj : j < nu.length := by omega
    have hx2 := icA (l := nu) hltj
    have hm := hns _ (List.getElem_mem hltj)
    have hst : (fB [99, 97, 108, 108] :: (nu.take (j + 1)).map fD).map Fd.c = (fB [99, 97, 108, 108] :: (nu.take j).map fD).map Fd.c ++ [(fD nu[j]).c] := by rw [List.take_succ_eq_append_getElem hltj, List.map_append, ← List.cons_append, List.map_append]; rfl
    have htl : (nu.take j).length ≤ 10 := by rw [List.length_take]; omega
    generalize nu[j] = n at hx2 hm hst
    refine .skip ?_
    refine .seq ?_
    refine .block ?_
    refine .seq ?_
    refine .region rfl ?_
    refine R.index I104 (hj := fun hg => ⟨by omega, hx2⟩) (h := ?_)
    first | refine R.loadB O2 (h := ?_) | refine R.load1 O2 (h := ?_)
    refine R.assign (h := ?_)
    refine .n0 ?_
    refine .region rfl ?_
    refine R.move (h := ?_)
    refine R.move (h := ?_)
    refine R.callP (es := [_]) (fun _ => digitsS_P n hm) (h := ?_)
    refine R.buildSliceG AP91 (xs := [_]) (es := [_]) (hcs := CellsOfs.cons (CellsOf.agg rfl) CellsOfs.nil) (h := ?_)
    refine R.appendS AP91 (hs := SrcOk.sl Tryz.underlying91 (by simp [fD, Fd.c])) (hlen := by simp; omega) (h := ?_)
    refine R.assign (h := ?_)
    refine .n0 ?_
    refine .inBlock ?_
    refine .region rfl ?_
    first | refine R.add (h := ?_) | refine R.addW (h := ?_)
    refine R.move (h := ?_)
    refine .n0 ?_
    refine .inLoop ?_
    exact LGo.turn [0, 1, 2, 3, 5] (b := 0) (fun o h => by have := (hA o).1 h; omega) (ih2 (j + 1) (by omega) (by omega)) (by repeat (first | exact trivial | refine ⟨rfl, ?_⟩)) ⟨rfl, rfl, rfl, by rw [hst]; rfl, trivial⟩
   ·
    obtain rfl : j = 10 := by omega
    rw [show nu.take 10 = nu from by rw [← hnl, List.take_length]]
    refine .exit rfl ?_
    refine .region rfl ?_
    refine R.move (h := ?_)
    refine R.move (h := ?_)
    first | refine R.field F40_10 (h := ?_) | refine R.fieldAt F40_10 (h := ?_)
    first | refine R.loadB O9 (h := ?_) | refine R.load1 O9 (h := ?_)
    refine R.callP (es := [_]) (fun _ => quotedS_P z.raw) (h := ?_)
    refine R.buildSliceG AP91 (xs := [_]) (es := [_]) (hcs := CellsOfs.cons (CellsOf.agg rfl) CellsOfs.nil) (h := ?_)
    refine R.appendS AP91 (hs := SrcOk.sl Tryz.underlying91 (by simp [fQ, Fd.c])) (hlen := by simp; omega) (h := ?_)
    rw [show (fB [99, 97, 108, 108] :: nu.map fD).map Fd.c ++ [List.map unSv (List.map LV.sv (fQ z.raw).c)] = ((fB [99, 97, 108, 108] :: nu.map fD) ++ [fQ z.raw]).map Fd.c from by rw [List.map_append]; rfl]
    refine R.callX (es := [_]) (first := []) (cap := [_]) [1, 5] (pl2o acc (by omega) ((fB [99, 97, 108, 108] :: nu.map fD) ++ [fQ z.raw]) (by simp; omega)) (h := ?_)
    refine .n0 ?_
    refine .inBlock ?_
    refine .region rfl ?_
    first | refine R.add (h := ?_) | refine R.addW (h := ?_)
    refine R.move (h := ?_)
    refine .n0 ?_
    refine .inLoop ?_
    exact LGo.next _ (fun o h => by have := (hA o).1 h; omega) (by omega) (ih (k + 1, acc ++ lnF ((fB [99, 97, 108, 108] :: nu.map fD) ++ [fQ z.raw])) ⟨by dsimp only; omega, by dsimp only; rw [List.length_append]; omega, by dsimp only; rw [← hq]; simp⟩ (by dsimp only; omega)) (by repeat (first | exact trivial | refine ⟨rfl, ?_⟩)) ⟨rfl, rfl, trivial⟩
  ·
   rw [List.drop_eq_nil_of_le (show s.calls.length ≤ k by omega), List.map_nil, List.flatten_nil, List.append_nil] at hq
   have hal2 : acc.length ≤ 90300 := by omega
   rw [← hE0] at hq
   clear hF
   refine .exit rfl ?_
   refine .seq ?_
   refine .region rfl ?_
   refine R.callX (es := []) [] kinds_L (h := ?_)
   refine R.assign (h := ?_)
   refine .n0 ?_
   refine .seq ?_
   refine .seq ?_
   refine .region rfl ?_
   first | refine R.field F29_5 (h := ?_) | refine R.fieldAt F29_5 (h := ?_)
   first | refine R.loadB O27 (h := ?_) | refine R.load1 O27 (h := ?_)
   first | refine R.len S27 (h := ?_) | refine R.lenRs S27 (h := ?_) | refine R.lenV (run_lenNil S27) (h := ?_)
   rw [List.length_map]
   refine R.move (h := ?_)
   refine .n0 ?_
   refine .block ?_
   refine .loop ?_
   refine LGo.loopG (σ := Nat × List UInt8) (fun x => x.1 ≤ s.evs.length ∧ x.2.length ≤ 90300 + 80 * x.1 ∧ x.2 ++ ((s.evs.drop x.1).map fun x => lnF (evF x)).flatten = F) (fun x => [(103, (true, .i (x.1 : Nat)))]) (fun x => [(0, .box 29 (s.c.map LV.sv)), (1, .bx 83 [.ptr 1 0, .v undef] 1 5 1 (bytesC x.2)), (3, .box 110 [.t [], .i 0, .i 0, .i 0, .v .nilFunc, .t [115, 101, 110, 100], .i 0, .i 0, .i 2, .fn (.func 120) [] [], .t [112, 105, 99, 107], .i 0, .i 1000000, .i 1, .fn (.func 118) [] [.ptr 4 0, .ptr 5 0], .t [102, 97, 105, 114], .i 1, .i 1000, .i 1, .fn (.func 118) [] [.ptr 6 0, .ptr 7 0], .t [116, 105, 99, 107], .i 1, .i 1000000000, .i 1, .fn (.func 118) [] [.ptr 8 0, .ptr 9 0]]), (4, .box 2 [.i 0]), (5, .box 2 [.i 1000000]), (6, .box 2 [.i 1]), (7, .box 2 [.i 1000]), (8, .box 2 [.i 1]), (9, .box 2 [.i 1000000000])]) (fun x => s.evs.length - x.1) (0, acc) [(6, _), (8, _), (18, _), (101, _), (102, _)] ⟨Nat.zero_le _, by dsimp only; omega, hq⟩ (by repeat (first | exact trivial | refine ⟨rfl, ?_⟩)) (by repeat (first | exact trivial | refine ⟨rfl, ?_⟩)) (by repeat (first | exact trivial | refine ⟨rfl, ?_⟩)) ?_
   rintro ⟨m, ac⟩ ⟨hm, hcl, hq2⟩ ih3
   dsimp only at * 
   refine .seq ?_
   refine .region rfl ?_
   refine R.bin (run_lss _ _ _ _ _ _) (h := ?_)
   refine .n0 ?_
   refine .seq ?_
   refine LGo.ifd (ht := fun hc4 => ?_) (hf := fun hc4 => ?_)
   ·
    have hlt : m < s.evs.length := by omega
    have hx : (s.evs.map SrE.c)[((m : Nat) : Int).toNat]? = some s.evs[m].c := by simp [hlt]
    have hd : s.evs.drop m = s.evs[m] :: s.evs.drop (m + 1) := List.drop_eq_getElem_cons hlt
    have hz := hok.es s.evs[m] (List.getElem_mem hlt)
    have hzk := evE_0 (hev s.evs[m] (List.getElem_mem hlt))
    rw [hd, List.map_cons, List.flatten_cons] at hq2
    generalize s.evs[m] = z at hx hq2 hz hzk
    clear hd
    have hln := evF_len (x := z) hz.2.1 hz.2.2
    obtain ⟨kd, xa, xb⟩ := z
    dsimp only at hz hzk
    obtain ⟨_, hza, hzb⟩ := hz
    refine .skip ?_
    refine .seq ?_
    refine .block ?_
    refine .seq ?_
    refine .region rfl ?_
    refine R.index I27 (hj := fun hg => ⟨by omega, hx⟩) (h := ?_)
    first | refine R.loadA A58 (h := ?_) | refine R.loadN A58 (h := ?_) | refine R.loadP A58 (h := ?_)
    refine R.alloc Z58 (h := ?_)
    refine R.storeA A58 (h := ?_)
    refine .n0 ?_
    refine .region rfl ?_
    refine R.move (h := ?_)
    refine R.move (h := ?_)
    first | refine R.field F58_0 (h := ?_) | refine R.fieldAt F58_0 (h := ?_)
    first | refine R.loadB O3 (h := ?_) | refine R.load1 O3 (h := ?_)
    rcases (show kd = 1 ∨ kd = 2 ∨ kd = 3 ∨ kd = 4 from by omega) with rfl | rfl | rfl | rfl
    ·
     refine R.indexSub I106 (hj := fun _ => ⟨by dsimp only; omega, by dsimp only; omega⟩) (h := ?_)
     first | refine R.field F110_0 (h := ?_) | refine R.fieldAt F110_0 (h := ?_)
     first | refine R.loadB O9 (h := ?_) | refine R.load1 O9 (h := ?_)
     refine R.callP (es := [_]) (fun _ => bareS_P [115, 101, 110, 100]) (h := ?_)
     first | refine R.field F58_1 (h := ?_) | refine R.fieldAt F58_1 (h := ?_)
     first | refine R.loadB O2 (h := ?_) | refine R.load1 O2 (h := ?_)
     refine R.callP (es := [_]) (fun _ => digitsS_P xa hza) (h := ?_)
     first | refine R.field F58_2 (h := ?_) | refine R.fieldAt F58_2 (h := ?_)
     first | refine R.loadB O2 (h := ?_) | refine R.load1 O2 (h := ?_)
     refine R.callP (es := [_]) (fun _ => digitsS_P xb hzb) (h := ?_)
     refine R.buildSliceG AP91 (ys := [fB [115, 101, 110, 100], fD xa, fD xb].map Fd.c) (xs := [_, _, _]) (es := [_, _, _]) (hcs := CellsOfs.cons (CellsOf.agg rfl) (CellsOfs.cons (CellsOf.agg rfl) (CellsOfs.cons (CellsOf.agg rfl) (CellsOfs.nil)))) (hys := rfl) (h := ?_)
     refine R.move (h := ?_)
     first | refine R.field F58_0 (h := ?_) | refine R.fieldAt F58_0 (h := ?_)
     first | refine R.loadB O3 (h := ?_) | refine R.load1 O3 (h := ?_)
     refine R.indexSub I106 (hj := fun _ => ⟨by dsimp only; omega, by dsimp only; omega⟩) (h := ?_)
     first | refine R.field F110_3 (h := ?_) | refine R.fieldAt F110_3 (h := ?_)
     first | refine R.loadB O3 (h := ?_) | refine R.load1 O3 (h := ?_)
     first | refine R.add (h := ?_) | refine R.addW (h := ?_)
     refine R.sliceHi SF91 (ha := fun _ => by simp) (h := ?_)
     refine R.callX (es := [_]) (first := []) (cap := [_]) [1] (pl2 ac (by omega) (evF ⟨1, xa, xb⟩) (by show (3 : Nat) ≤ _; decide)) (h := ?_)
     refine Reg.nil ⟨fun _ => ⟨mixedO, by rfl, by rfl⟩, ?_⟩
     refine .inBlock ?_
     refine .region rfl ?_
     first | refine R.add (h := ?_) | refine R.addW (h := ?_)
     refine R.move (h := ?_)
     refine .n0 ?_
     refine .inLoop ?_
     exact LGo.next _ (fun o h => by have := (hA o).1 h; omega) (by omega) (ih3 (m + 1, ac ++ lnF (evF ⟨1, xa, xb⟩)) ⟨by dsimp only; omega, by dsimp only; rw [List.length_append]; omega, by dsimp only; rw [← hq2]; simp⟩ (by dsimp only; omega)) (by repeat (first | exact trivial | refine ⟨rfl, ?_⟩)) ⟨rfl, rfl, rfl, rfl, rfl, rfl, rfl, rfl, rfl, trivial⟩
    ·
     refine R.indexSub I106 (hj := fun _ => ⟨by dsimp only; omega, by dsimp only; omega⟩) (h := ?_)
     first | refine R.field F110_0 (h := ?_) | refine R.fieldAt F110_0 (h := ?_)
     first | refine R.loadB O9 (h := ?_) | refine R.load1 O9 (h := ?_)
     refine R.callP (es := [_]) (fun _ => bareS_P [112, 105, 99, 107]) (h := ?_)
     first | refine R.field F58_1 (h := ?_) | refine R.fieldAt F58_1 (h := ?_)
     first | refine R.loadB O2 (h := ?_) | refine R.load1 O2 (h := ?_)
     refine R.callP (es := [_]) (fun _ => digitsS_P xa hza) (h := ?_)
     first | refine R.field F58_2 (h := ?_) | refine R.fieldAt F58_2 (h := ?_)
     first | refine R.loadB O2 (h := ?_) | refine R.load1 O2 (h := ?_)
     refine R.callP (es := [_]) (fun _ => digitsS_P xb hzb) (h := ?_)
     refine R.buildSliceG AP91 (ys := [fB [112, 105, 99, 107], fD xa, fD xb].map Fd.c) (xs := [_, _, _]) (es := [_, _, _]) (hcs := CellsOfs.cons (CellsOf.agg rfl) (CellsOfs.cons (CellsOf.agg rfl) (CellsOfs.cons (CellsOf.agg rfl) (CellsOfs.nil)))) (hys := rfl) (h := ?_)
     refine R.move (h := ?_)
     first | refine R.field F58_0 (h := ?_) | refine R.fieldAt F58_0 (h := ?_)
     first | refine R.loadB O3 (h := ?_) | refine R.load1 O3 (h := ?_)
     refine R.indexSub I106 (hj := fun _ => ⟨by dsimp only; omega, by dsimp only; omega⟩) (h := ?_)
     first | refine R.field F110_3 (h := ?_) | refine R.fieldAt F110_3 (h := ?_)
     first | refine R.loadB O3 (h := ?_) | refine R.load1 O3 (h := ?_)
     first | refine R.add (h := ?_) | refine R.addW (h := ?_)
     refine R.sliceHi SF91 (ha := fun _ => by simp) (h := ?_)
     refine R.callX (es := [_]) (first := []) (cap := [_]) [1] (pl2 ac (by omega) (evF ⟨2, xa, xb⟩) (by show (2 : Nat) ≤ _; decide)) (h := ?_)
     refine Reg.nil ⟨fun _ => ⟨mixedO, by rfl, by rfl⟩, ?_⟩
     refine .inBlock ?_
     refine .region rfl ?_
     first | refine R.add (h := ?_) | refine R.addW (h := ?_)
     refine R.move (h := ?_)
     refine .n0 ?_
     refine .inLoop ?_
     exact LGo.next _ (fun o h => by have := (hA o).1 h; omega) (by omega) (ih3 (m + 1, ac ++ lnF (evF ⟨2, xa, xb⟩)) ⟨by dsimp only; omega, by dsimp only; rw [List.length_append]; omega, by dsimp only; rw [← hq2]; simp⟩ (by dsimp only; omega)) (by repeat (first | exact trivial | refine ⟨rfl, ?_⟩)) ⟨rfl, rfl, rfl, rfl, rfl, rfl, rfl, rfl, rfl, trivial⟩
    ·
     refine R.indexSub I106 (hj := fun _ => ⟨by dsimp only; omega, by dsimp only; omega⟩) (h := ?_)
     first | refine R.field F110_0 (h := ?_) | refine R.fieldAt F110_0 (h := ?_)
     first | refine R.loadB O9 (h := ?_) | refine R.load1 O9 (h := ?_)
     refine R.callP (es := [_]) (fun _ => bareS_P [102, 97, 105, 114]) (h := ?_)
     first | refine R.field F58_1 (h := ?_) | refine R.fieldAt F58_1 (h := ?_)
     first | refine R.loadB O2 (h := ?_) | refine R.load1 O2 (h := ?_)
     refine R.callP (es := [_]) (fun _ => digitsS_P xa hza) (h := ?_)
     first | refine R.field F58_2 (h := ?_) | refine R.fieldAt F58_2 (h := ?_)
     first | refine R.loadB O2 (h := ?_) | refine R.load1 O2 (h := ?_)
     refine R.callP (es := [_]) (fun _ => digitsS_P xb hzb) (h := ?_)
     refine R.buildSliceG AP91 (ys := [fB [102, 97, 105, 114], fD xa, fD xb].map Fd.c) (xs := [_, _, _]) (es := [_, _, _]) (hcs := CellsOfs.cons (CellsOf.agg rfl) (CellsOfs.cons (CellsOf.agg rfl) (CellsOfs.cons (CellsOf.agg rfl) (CellsOfs.nil)))) (hys := rfl) (h := ?_)
     refine R.move (h := ?_)
     first | refine R.field F58_0 (h := ?_) | refine R.fieldAt F58_0 (h := ?_)
     first | refine R.loadB O3 (h := ?_) | refine R.load1 O3 (h := ?_)
     refine R.indexSub I106 (hj := fun _ => ⟨by dsimp only; omega, by dsimp only; omega⟩) (h := ?_)
     first | refine R.field F110_3 (h := ?_) | refine R.fieldAt F110_3 (h := ?_)
     first | refine R.loadB O3 (h := ?_) | refine R.load1 O3 (h := ?_)
     first | refine R.add (h := ?_) | refine R.addW (h := ?_)
     refine R.sliceHi SF91 (ha := fun _ => by simp) (h := ?_)
     refine R.callX (es := [_]) (first := []) (cap := [_]) [1] (pl2 ac (by omega) (evF ⟨3, xa, xb⟩) (by show (2 : Nat) ≤ _; decide)) (h := ?_)
     refine Reg.nil ⟨fun _ => ⟨mixedO, by rfl, by rfl⟩, ?_⟩
     refine .inBlock ?_
     refine .region rfl ?_
     first | refine R.add (h := ?_) | refine R.addW (h := ?_)
     refine R.move (h := ?_)
     refine .n0 ?_
     refine .inLoop ?_
     exact LGo.next _ (fun o h => by have := (hA o).1 h; omega) (by omega) (ih3 (m + 1, ac ++ lnF (evF ⟨3, xa, xb⟩)) ⟨by dsimp only; omega, by dsimp only; rw [List.length_append]; omega, by dsimp only; rw [← hq2]; simp⟩ (by dsimp only; omega)) (by repeat (first | exact trivial | refine ⟨rfl, ?_⟩)) ⟨rfl, rfl, rfl, rfl, rfl, rfl, rfl, rfl, rfl, trivial⟩
    ·
     refine R.indexSub I106 (hj := fun _ => ⟨by dsimp only; omega, by dsimp only; omega⟩) (h := ?_)
     first | refine R.field F110_0 (h := ?_) | refine R.fieldAt F110_0 (h := ?_)
     first | refine R.loadB O9 (h := ?_) | refine R.load1 O9 (h := ?_)
     refine R.callP (es := [_]) (fun _ => bareS_P [116, 105, 99, 107]) (h := ?_)
     first | refine R.field F58_1 (h := ?_) | refine R.fieldAt F58_1 (h := ?_)
     first | refine R.loadB O2 (h := ?_) | refine R.load1 O2 (h := ?_)
     refine R.callP (es := [_]) (fun _ => digitsS_P xa hza) (h := ?_)
     first | refine R.field F58_2 (h := ?_) | refine R.fieldAt F58_2 (h := ?_)
     first | refine R.loadB O2 (h := ?_) | refine R.load1 O2 (h := ?_)
     refine R.callP (es := [_]) (fun _ => digitsS_P xb hzb) (h := ?_)
     refine R.buildSliceG AP91 (ys := [fB [116, 105, 99, 107], fD xa, fD xb].map Fd.c) (xs := [_, _, _]) (es := [_, _, _]) (hcs := CellsOfs.cons (CellsOf.agg rfl) (CellsOfs.cons (CellsOf.agg rfl) (CellsOfs.cons (CellsOf.agg rfl) (CellsOfs.nil)))) (hys := rfl) (h := ?_)
     refine R.move (h := ?_)
     first | refine R.field F58_0 (h := ?_) | refine R.fieldAt F58_0 (h := ?_)
     first | refine R.loadB O3 (h := ?_) | refine R.load1 O3 (h := ?_)
     refine R.indexSub I106 (hj := fun _ => ⟨by dsimp only; omega, by dsimp only; omega⟩) (h := ?_)
     first | refine R.field F110_3 (h := ?_) | refine R.fieldAt F110_3 (h := ?_)
     first | refine R.loadB O3 (h := ?_) | refine R.load1 O3 (h := ?_)
     first | refine R.add (h := ?_) | refine R.addW (h := ?_)
     refine R.sliceHi SF91 (ha := fun _ => by simp) (h := ?_)
     refine R.callX (es := [_]) (first := []) (cap := [_]) [1] (pl2 ac (by omega) (evF ⟨4, xa, xb⟩) (by show (2 : Nat) ≤ _; decide)) (h := ?_)
     refine Reg.nil ⟨fun _ => ⟨mixedO, by rfl, by rfl⟩, ?_⟩
     refine .inBlock ?_
     refine .region rfl ?_
     first | refine R.add (h := ?_) | refine R.addW (h := ?_)
     refine R.move (h := ?_)
     refine .n0 ?_
     refine .inLoop ?_
     exact LGo.next _ (fun o h => by have := (hA o).1 h; omega) (by omega) (ih3 (m + 1, ac ++ lnF (evF ⟨4, xa, xb⟩)) ⟨by dsimp only; omega, by dsimp only; rw [List.length_append]; omega, by dsimp only; rw [← hq2]; simp⟩ (by dsimp only; omega)) (by repeat (first | exact trivial | refine ⟨rfl, ?_⟩)) ⟨rfl, rfl, rfl, rfl, rfl, rfl, rfl, rfl, rfl, trivial⟩
   ·
    rw [List.drop_eq_nil_of_le (show s.evs.length ≤ m by omega), List.map_nil, List.flatten_nil, List.append_nil] at hq2
    subst hq2
    refine .exit rfl ?_
    refine .seq ?_
    refine .region rfl ?_
    refine R.callX (es := [_]) [1] (bs1 ac hF0 (by omega)) (h := ?_)
    refine R.assign (h := ?_)
    refine R.assign (h := ?_)
    refine .n0 ?_
    exact LGo.ret (ret_TT Tryz.results14 hA hmd)
theorem secV_eq (x : VnS) : secV x = [115, 101, 99, 116, 105, 111, 110, 32] ++ x.name ++ [32] ++ Lib.itoa x.queue ++ Lib.joinTail [32] (x.rows.map Lib.itoa) ++ [10] := by
  unfold secV lnV
  rw [Lib.join_cons, show Lib.joinTail [32] (x.name :: Lib.itoa x.queue :: x.rows.map Lib.itoa) = ([32] ++ x.name) ++ (([32] ++ Lib.itoa x.queue) ++ Lib.joinTail [32] (x.rows.map Lib.itoa)) from rfl]
  simp
theorem printV_eq (v : Ven) : printV v = ([115, 104, 97, 114, 100, 115, 32] ++ Lib.itoa v.shards ++ [10, 116, 116, 108, 32] ++ Lib.itoa v.ttl ++ [10, 115, 101, 115, 115, 105, 111, 110, 32] ++ Lib.itoa v.session ++ [10]) ++ (v.secs.map secV).flatten := by
  have h : ∀ a b : List UInt8, lnV [a, b] = a ++ [32] ++ b ++ [10] := fun a b => by
    unfold lnV
    rw [Lib.join_cons, show Lib.joinTail [32] [b] = ([32] ++ b) ++ [] from rfl]
    simp
  unfold printV
  rw [h, h, h]
  simp
theorem printVR_P (v : Ven) (h0 : (checkVen v).2 = 0) (hv : VenB v) : PC Tryz.prog 37 [.agg (v.c.map LV.sv)] (.tup [.t (printV v), .i 0]) := by
 refine ⟨LC.of_go Tryz.func37 (c := _) rfl (by kernel_rfl) (by rw [Tryz.ntmps37]; simp) rfl rfl (by simp [LO.lt, LV.lts, LV.lt, lts_sv]) (by simp) ?_⟩
 intro B hA hmd
 obtain ⟨F, hF⟩ : ∃ F, printV v = F := ⟨_, rfl⟩
 rw [hF]
 rw [printV_eq] at hF
 obtain ⟨n1, n2, n3, vl, vs⟩ := id hv
 have d1 := itoa_20 n1
 have d2 := itoa_20 n2
 have d3 := itoa_20 n3
 unfold S64 at n1 n2 n3
 refine .seq ?_
 refine .region rfl ?_
 refine R.box (h := ?_)
 refine R.assign (h := ?_)
 refine R.assign (h := ?_)
 refine .n0 ?_
 refine .seq ?_
 refine .region rfl ?_
 first | refine R.loadA A24 (h := ?_) | refine R.loadN A24 (h := ?_) | refine R.loadP A24 (h := ?_)
 refine R.callP (es := [_]) (fun _ => checkVenR_P v ⟨by omega, fun x hx => by have := (vs x hx).1; omega⟩) (h := ?_)
 refine R.move (h := ?_)
 refine R.extract (h := ?_)
 refine R.extract (h := ?_)
 rw [h0]
 refine R.assign (h := ?_)
 refine R.assign (h := ?_)
 refine .n0 ?_
 refine .seq ?_
 refine .seq ?_
 refine .region rfl ?_
 refine R.move (h := ?_)
 refine R.bin (run_neq _ _ _ _ _ _) (h := ?_)
 refine .n0 ?_
 refine LGo.ifb (ht := fun hc => by simp at hc) (hf := fun hc => ?_)
 refine .skip ?_
 refine .seq ?_
 refine .region rfl ?_
 first | refine R.field F24_0 (h := ?_) | refine R.fieldAt F24_0 (h := ?_)
 first | refine R.loadB O3 (h := ?_) | refine R.load1 O3 (h := ?_)
 refine R.callP (es := [_]) (fun _ => digitsR_P v.shards (by omega) (by omega)) (h := ?_)
 refine R.bin (run_addT _ _ _ ([115, 104, 97, 114, 100, 115, 32]) (Lib.itoa v.shards) (by first | omega | (simp only [List.length_append, List.length_cons, List.length_nil] at *; omega))) (h := ?_)
 refine R.bin (run_addT _ _ _ ([115, 104, 97, 114, 100, 115, 32] ++ Lib.itoa v.shards) ([10, 116, 116, 108, 32]) (by first | omega | (simp only [List.length_append, List.length_cons, List.length_nil] at *; omega))) (h := ?_)
 first | refine R.field F24_1 (h := ?_) | refine R.fieldAt F24_1 (h := ?_)
 first | refine R.loadB O2 (h := ?_) | refine R.load1 O2 (h := ?_)
 refine R.callP (es := [_]) (fun _ => digitsR_P v.ttl (by omega) (by omega)) (h := ?_)
 refine R.bin (run_addT _ _ _ ([115, 104, 97, 114, 100, 115, 32] ++ Lib.itoa v.shards ++ [10, 116, 116, 108, 32]) (Lib.itoa v.ttl) (by first | omega | (simp only [List.length_append, List.length_cons, List.length_nil] at *; omega))) (h := ?_)
 refine R.bin (run_addT _ _ _ ([115, 104, 97, 114, 100, 115, 32] ++ Lib.itoa v.shards ++ [10, 116, 116, 108, 32] ++ Lib.itoa v.ttl) ([10, 115, 101, 115, 115, 105, 111, 110, 32]) (by first | omega | (simp only [List.length_append, List.length_cons, List.length_nil] at *; omega))) (h := ?_)
 first | refine R.field F24_2 (h := ?_) | refine R.fieldAt F24_2 (h := ?_)
 first | refine R.loadB O2 (h := ?_) | refine R.load1 O2 (h := ?_)
 refine R.callP (es := [_]) (fun _ => digitsR_P v.session (by omega) (by omega)) (h := ?_)
 refine R.bin (run_addT _ _ _ ([115, 104, 97, 114, 100, 115, 32] ++ Lib.itoa v.shards ++ [10, 116, 116, 108, 32] ++ Lib.itoa v.ttl ++ [10, 115, 101, 115, 115, 105, 111, 110, 32]) (Lib.itoa v.session) (by first | omega | (simp only [List.length_append, List.length_cons, List.length_nil] at *; omega))) (h := ?_)
 refine R.bin (run_addT _ _ _ ([115, 104, 97, 114, 100, 115, 32] ++ Lib.itoa v.shards ++ [10, 116, 116, 108, 32] ++ Lib.itoa v.ttl ++ [10, 115, 101, 115, 115, 105, 111, 110, 32] ++ Lib.itoa v.session) ([10]) (by first | omega | (simp only [List.length_append, List.length_cons, List.length_nil] at *; omega))) (h := ?_)
 refine R.assign (h := ?_)
 refine Reg.nil ⟨fun _ => ⟨mixedO, by rfl, by rfl⟩, ?_⟩
 obtain ⟨M3, hM3⟩ : ∃ M, [115, 104, 97, 114, 100, 115, 32] ++ Lib.itoa v.shards ++ [10, 116, 116, 108, 32] ++ Lib.itoa v.ttl ++ [10, 115, 101, 115, 115, 105, 111, 110, 32] ++ Lib.itoa v.session ++ [10] = M := ⟨_, rfl⟩
 have hm3 : M3.length ≤ 200 := by rw [← hM3]; simp only [List.length_append, List.length_cons, List.length_nil]; omega
 rw [hM3] at hF ⊢
 refine .seq ?_
 refine .seq ?_
 refine .region rfl ?_
 refine R.assign (h := ?_)
 refine .n0 ?_
 refine .block ?_
 refine .loop ?_
 refine LGo.loopG (σ := Nat × List UInt8) (fun x => x.1 ≤ v.secs.length ∧ x.2.length ≤ 200 + 3000 * x.1 ∧ x.2 ++ ((v.secs.drop x.1).map secV).flatten = F) (fun x => [(7, (true, .i (x.1 : Nat))), (6, (true, .t x.2))]) (fun x => [(0, .box 24 (v.c.map LV.sv))]) (fun x => v.secs.length - x.1) (0, M3) [(1, _)] ⟨Nat.zero_le _, by dsimp only; omega, hF⟩ (by repeat (first | exact trivial | refine ⟨rfl, ?_⟩)) (by repeat (first | exact trivial | refine ⟨rfl, ?_⟩)) (by repeat (first | exact trivial | refine ⟨rfl, ?_⟩)) ?_
 rintro ⟨k, acc⟩ ⟨hk, hal, hq⟩ ih
 dsimp only at * 
 refine .seq ?_
 refine .seq ?_
 refine .region rfl ?_
 refine R.move (h := ?_)
 first | refine R.field F24_3 (h := ?_) | refine R.fieldAt F24_3 (h := ?_)
 first | refine R.loadB O22 (h := ?_) | refine R.load1 O22 (h := ?_)
 first | refine R.len S22 (h := ?_) | refine R.lenRs S22 (h := ?_) | refine R.lenV (run_lenNil S22) (h := ?_)
 rw [List.length_map]
 refine R.bin (run_lss _ _ _ _ _ _) (h := ?_)
 refine .n0 ?_
 refine LGo.ifd (ht := fun hc2 => ?_) (hf := fun hc2 => ?_)
 ·
  have hlt : k < v.secs.length := by omega
  have hx : (v.secs.map VnS.c)[((k : Nat) : Int).toNat]? = some v.secs[k].c := by simp [hlt]
  have hd : v.secs.drop k = v.secs[k] :: v.secs.drop (k + 1) := List.drop_eq_getElem_cons hlt
  have hz := vs v.secs[k] (List.getElem_mem hlt)
  rw [hd, List.map_cons, List.flatten_cons] at hq
  generalize v.secs[k] = z at hx hq hz
  clear hd
  obtain ⟨hz1, hz2, hz3, hz4⟩ := hz
  have hdq := itoa_20 hz4
  have hdr := itoas_len hz3
  unfold S64 at hz4
  obtain ⟨SZ, hSZ⟩ : ∃ S, secV z = S := ⟨_, rfl⟩
  rw [hSZ] at hq
  rw [secV_eq] at hSZ
  refine .skip ?_
  refine .seq ?_
  refine .block ?_
  refine .seq ?_
  refine .region rfl ?_
  first | refine R.field F24_3 (h := ?_) | refine R.fieldAt F24_3 (h := ?_)
  first | refine R.loadB O22 (h := ?_) | refine R.load1 O22 (h := ?_)
  refine R.move (h := ?_)
  refine R.index I22 (hj := fun hg => ⟨by omega, hx⟩) (h := ?_)
  first | refine R.loadA A80 (h := ?_) | refine R.loadN A80 (h := ?_) | refine R.loadP A80 (h := ?_)
  refine R.alloc Z80 (h := ?_)
  refine R.storeA A80 (h := ?_)
  refine .n0 ?_
  refine .seq ?_
  refine .region rfl ?_
  refine R.move (h := ?_)
  refine R.bin (run_addT _ _ _ (acc) ([115, 101, 99, 116, 105, 111, 110, 32]) (by first | omega | (simp only [List.length_append, List.length_cons, List.length_nil] at *; omega))) (h := ?_)
  first | refine R.field F80_0 (h := ?_) | refine R.fieldAt F80_0 (h := ?_)
  first | refine R.loadB O9 (h := ?_) | refine R.load1 O9 (h := ?_)
  refine R.bin (run_addT _ _ _ (acc ++ [115, 101, 99, 116, 105, 111, 110, 32]) (z.name) (by first | omega | (simp only [List.length_append, List.length_cons, List.length_nil] at *; omega))) (h := ?_)
  refine R.bin (run_addT _ _ _ (acc ++ [115, 101, 99, 116, 105, 111, 110, 32] ++ z.name) ([32]) (by first | omega | (simp only [List.length_append, List.length_cons, List.length_nil] at *; omega))) (h := ?_)
  first | refine R.field F80_2 (h := ?_) | refine R.fieldAt F80_2 (h := ?_)
  first | refine R.loadB O3 (h := ?_) | refine R.load1 O3 (h := ?_)
  refine R.callP (es := [_]) (fun _ => digitsR_P z.queue (by omega) (by omega)) (h := ?_)
  refine R.bin (run_addT _ _ _ (acc ++ [115, 101, 99, 116, 105, 111, 110, 32] ++ z.name ++ [32]) (Lib.itoa z.queue) (by first | omega | (simp only [List.length_append, List.length_cons, List.length_nil] at *; omega))) (h := ?_)
  refine R.assign (h := ?_)
  refine Reg.nil ⟨fun _ => ⟨mixedO, by rfl, by rfl⟩, ?_⟩
  refine .seq ?_
  refine .seq ?_
  refine .region rfl ?_
  refine R.assign (h := ?_)
  refine .n0 ?_
  refine .block ?_
  refine .loop ?_
  refine LGo.loopG (σ := Nat × List UInt8) (fun x => x.1 ≤ z.rows.length ∧ x.2.length ≤ acc.length + 200 + 23 * x.1 ∧ x.2 ++ Lib.joinTail [32] ((z.rows.drop x.1).map Lib.itoa) ++ [10] = acc ++ SZ) (fun x => [(9, (true, .i (x.1 : Nat))), (6, (true, .t x.2))]) (fun x => [(0, .box 24 (v.c.map LV.sv)), (1, .box 80 (z.c.map LV.sv))]) (fun x => z.rows.length - x.1) (0, acc ++ [115, 101, 99, 116, 105, 111, 110, 32] ++ z.name ++ [32] ++ Lib.itoa z.queue) [(1, _), (7, _), (8, _)] ⟨Nat.zero_le _, by dsimp only; simp only [List.length_append, List.length_cons, List.length_nil]; omega, by dsimp only; rw [← hSZ]; simp⟩ (by repeat (first | exact trivial | refine ⟨rfl, ?_⟩)) (by repeat (first | exact trivial | refine ⟨rfl, ?_⟩)) (by repeat (first | exact trivial | refine ⟨rfl, ?_⟩)) ?_
  rintro ⟨j, ad⟩ ⟨hj, hjl, hjq⟩ ih2
  dsimp only at * 
  refine .seq ?_
  refine .seq ?_
  refine .region rfl ?_
  refine R.move (h := ?_)
  first | refine R.field F80_1 (h := ?_) | refine R.fieldAt F80_1 (h := ?_)
  first | refine R.loadB O65 (h := ?_) | refine R.load1 O65 (h := ?_)
  first | refine R.len S65 (h := ?_) | refine R.lenRs S65 (h := ?_) | refine R.lenV (run_lenNil S65) (h := ?_)
  rw [ic_len]
  refine R.bin (run_lss _ _ _ _ _ _) (h := ?_)
  refine .n0 ?_
  refine LGo.ifd (ht := fun hc3 => ?_) (hf := fun hc3 => ?_)
  ·
   have hltj : j < z.rows.length := by omega
   have hx2 := icA (l := z.rows) hltj
   have hn := hz3 _ (List.getElem_mem hltj)
   rw [List.drop_eq_getElem_cons hltj, List.map_cons, show ∀ (b : List UInt8) l, Lib.joinTail [32] (b :: l) = ([32] ++ b) ++ Lib.joinTail [32] l from fun _ _ => rfl] at hjq
   generalize z.rows[j] = n at hx2 hn hjq
   have hdn := itoa_20 hn
   unfold S64 at hn
   refine .skip ?_
   refine .seq ?_
   refine .block ?_
   refine .region rfl ?_
   refine R.move (h := ?_)
   refine R.bin (run_addT _ _ _ (ad) ([32]) (by first | omega | (simp only [List.length_append, List.length_cons, List.length_nil] at *; omega))) (h := ?_)
   first | refine R.field F80_1 (h := ?_) | refine R.fieldAt F80_1 (h := ?_)
   first | refine R.loadB O65 (h := ?_) | refine R.load1 O65 (h := ?_)
   refine R.move (h := ?_)
   refine R.index I65 (hj := fun hg => ⟨by omega, hx2⟩) (h := ?_)
   first | refine R.loadB O3 (h := ?_) | refine R.load1 O3 (h := ?_)
   refine R.callP (es := [_]) (fun _ => digitsR_P n (by omega) (by omega)) (h := ?_)
   refine R.bin (run_addT _ _ _ (ad ++ [32]) (Lib.itoa n) (by first | omega | (simp only [List.length_append, List.length_cons, List.length_nil] at *; omega))) (h := ?_)
   refine R.assign (h := ?_)
   refine .n0 ?_
   refine .inBlock ?_
   refine .region rfl ?_
   refine R.move (h := ?_)
   first | refine R.add (h := ?_) | refine R.addW (h := ?_)
   refine R.assign (h := ?_)
   refine .n0 ?_
   refine .inLoop ?_
   exact LGo.next _ (fun o h => by have := (hA o).1 h; omega) (by omega) (ih2 (j + 1, ad ++ [32] ++ Lib.itoa n) ⟨by dsimp only; omega, by dsimp only; simp only [List.length_append, List.length_cons, List.length_nil]; omega, by dsimp only; rw [← hjq]; simp⟩ (by dsimp only; omega)) (by repeat (first | exact trivial | refine ⟨rfl, ?_⟩)) (by repeat (first | exact trivial | refine ⟨rfl, ?_⟩))
  ·
   obtain rfl : j = z.rows.length := by omega
   rw [List.drop_length, List.map_nil, show Lib.joinTail [32] [] = [] from rfl, List.append_nil] at hjq
   refine .exit rfl ?_
   refine .region rfl ?_
   refine R.move (h := ?_)
   refine R.bin (run_addT _ _ _ (ad) ([10]) (by first | omega | (simp only [List.length_append, List.length_cons, List.length_nil] at *; omega))) (h := ?_)
   rw [hjq]
   refine R.assign (h := ?_)
   refine .n0 ?_
   refine .inBlock ?_
   refine .region rfl ?_
   refine R.move (h := ?_)
   first | refine R.add (h := ?_) | refine R.addW (h := ?_)
   refine R.assign (h := ?_)
   refine .n0 ?_
   refine .inLoop ?_
   exact LGo.next _ (fun o h => by have := (hA o).1 h; omega) (by omega) (ih (k + 1, acc ++ SZ) ⟨by dsimp only; omega, by dsimp only; rw [← hjq, List.length_append, List.length_cons, List.length_nil]; omega, by dsimp only; rw [← hq]; simp⟩ (by dsimp only; omega)) (by repeat (first | exact trivial | refine ⟨rfl, ?_⟩)) (by repeat (first | exact trivial | refine ⟨rfl, ?_⟩))
 ·
  rw [List.drop_eq_nil_of_le (show v.secs.length ≤ k by omega), List.map_nil, List.flatten_nil, List.append_nil] at hq
  subst hq
  refine .exit rfl ?_
  refine .seq ?_
  refine .region rfl ?_
  refine R.move (h := ?_)
  refine R.assign (h := ?_)
  refine R.assign (h := ?_)
  refine .n0 ?_
  exact LGo.ret (ret_TT Tryz.results37 hA hmd)
theorem dg1 {n : Nat} (h : n < 10) : Lib.decDigits n = [UInt8.ofNat (48 + n)] := by rw [Lib.decDigits, dif_pos h]
theorem dgN {n : Nat} (h : ¬ n < 10) : Lib.decDigits n = Lib.decDigits (n / 10) ++ [UInt8.ofNat (48 + n % 10)] := by rw [Lib.decDigits, dif_neg h]
theorem itN (n : Nat) : Lib.itoa (n : Int) = Lib.decDigits n := by unfold Lib.itoa; rw [if_neg (by omega)]; simp
theorem it0 : Lib.itoa 0 = [48] := by rw [show (0 : Int) = ((0 : Nat) : Int) from rfl, itN, dg1 (by decide)]; rfl
theorem it1 : Lib.itoa 1 = [49] := by rw [show (1 : Int) = ((1 : Nat) : Int) from rfl, itN, dg1 (by decide)]; rfl
theorem it2 : Lib.itoa 2 = [50] := by rw [show (2 : Int) = ((2 : Nat) : Int) from rfl, itN, dg1 (by decide)]; rfl
theorem it3 : Lib.itoa 3 = [51] := by rw [show (3 : Int) = ((3 : Nat) : Int) from rfl, itN, dg1 (by decide)]; rfl
theorem it5 : Lib.itoa 5 = [53] := by rw [show (5 : Int) = ((5 : Nat) : Int) from rfl, itN, dg1 (by decide)]; rfl
theorem it7 : Lib.itoa 7 = [55] := by rw [show (7 : Int) = ((7 : Nat) : Int) from rfl, itN, dg1 (by decide)]; rfl
theorem it10 : Lib.itoa 10 = [49, 48] := by rw [show (10 : Int) = ((10 : Nat) : Int) from rfl, itN, dgN (by decide), dg1 (by decide)]; rfl
theorem it50 : Lib.itoa 50 = [53, 48] := by rw [show (50 : Int) = ((50 : Nat) : Int) from rfl, itN, dgN (by decide), dg1 (by decide)]; rfl
theorem it100 : Lib.itoa 100 = [49, 48, 48] := by rw [show (100 : Int) = ((100 : Nat) : Int) from rfl, itN, dgN (by decide), dgN (by decide), dg1 (by decide)]; rfl
def exV : List UInt8 := [115, 104, 97, 114, 100, 115, 32, 51, 10, 116, 116, 108, 32, 49, 48, 10, 115, 101, 115, 115, 105, 111, 110, 32, 49, 48, 48, 10, 115, 101, 99, 116, 105, 111, 110, 32, 104, 97, 108, 108, 32, 50, 32, 51, 32, 50, 10, 115, 101, 99, 116, 105, 111, 110, 32, 98, 111, 120, 32, 48, 32, 50, 10]
theorem ex_ven : printV exVen = exV := by
  rw [printV_eq]
  unfold exVen
  simp only [secV_eq, List.map_cons, List.map_nil, it0, it2, it3, it10, it100]
  decide +kernel
theorem listE0 : listW [0] = ([48], 0) := by
  unfold listW
  rw [if_neg (by decide), if_neg (by decide +kernel), if_neg (by decide +kernel), if_neg (by decide)]
  simp [listGo, runLen, sepL, runTxt, it0]
theorem ex_blk1 : blkS [118, 101, 110, 117, 101] exV = [118, 101, 110, 117, 101, 32, 53, 10] ++ exV := by
  unfold blkS
  rw [show (Lib.countByte exV 10) = 5 from by decide +kernel, show ((5 : Nat) : Int) = 5 from rfl, it5]
  rfl
theorem ex_ln1 : lnF [fB [107, 101, 121], fQ [107]] = [107, 101, 121, 32, 34, 107, 34, 10] := by decide +kernel
theorem ex_gat : printG ⟨[⟨[0], 0, 50⟩], []⟩ = [103, 97, 116, 101, 32, 48, 32, 53, 48, 32, 48, 10] := by
  unfold printG
  simp only [List.map_cons, List.map_nil, lineG, it0, it50, listE0]
  decide +kernel
theorem ex_blk2 : blkS [103, 97, 116, 101, 115] [103, 97, 116, 101, 32, 48, 32, 53, 48, 32, 48, 10] = [103, 97, 116, 101, 115, 32, 49, 10, 103, 97, 116, 101, 32, 48, 32, 53, 48, 32, 48, 10] := by
  unfold blkS
  rw [show (Lib.countByte [103, 97, 116, 101, 32, 48, 32, 53, 48, 32, 48, 10] 10) = 1 from by decide +kernel, show ((1 : Nat) : Int) = 1 from rfl, it1]
  rfl
theorem ex_ln2 : lnF [fB [119, 111, 114, 107, 101, 114, 115], fD 2] = [119, 111, 114, 107, 101, 114, 115, 32, 50, 10] := by
  unfold fD
  rw [it2]
  decide +kernel
theorem ex_c1 : lnF (callF ⟨1, 7, 0, 0, 0, 0, 0, 0, 0, 0, []⟩) = [99, 97, 108, 108, 32, 49, 32, 55, 32, 48, 32, 48, 32, 48, 32, 48, 32, 48, 32, 48, 32, 48, 32, 48, 32, 34, 34, 10] := by
  unfold callF numsC
  simp only [List.map_cons, List.map_nil, fD, it0, it1, it7]
  decide +kernel
theorem ex_c2 : lnF (callF ⟨2, 0, 0, 1, 0, 3, 0, 0, 0, 0, []⟩) = [99, 97, 108, 108, 32, 50, 32, 48, 32, 48, 32, 49, 32, 48, 32, 51, 32, 48, 32, 48, 32, 48, 32, 48, 32, 34, 34, 10] := by
  unfold callF numsC
  simp only [List.map_cons, List.map_nil, fD, it0, it1, it2, it3]
  decide +kernel
theorem ex_e1 : lnF (evF ⟨1, 0, 1⟩) = [115, 101, 110, 100, 32, 48, 32, 49, 10] := by
  rw [show evF ⟨1, 0, 1⟩ = [fB [115, 101, 110, 100], fD 0, fD 1] from rfl]
  simp only [fD, it0, it1]
  decide +kernel
theorem ex_e2 : lnF (evF ⟨2, 2, 0⟩) = [112, 105, 99, 107, 32, 50, 10] := by
  rw [show evF ⟨2, 2, 0⟩ = [fB [112, 105, 99, 107], fD 2] from rfl]
  simp only [fD, it2]
  decide +kernel
theorem ex_e3 : lnF (evF ⟨4, 5, 0⟩) = [116, 105, 99, 107, 32, 53, 10] := by
  rw [show evF ⟨4, 5, 0⟩ = [fB [116, 105, 99, 107], fD 5] from rfl]
  simp only [fD, it5]
  decide +kernel
theorem ex_e4 : lnF (evF ⟨2, 0, 0⟩) = [112, 105, 99, 107, 32, 48, 10] := by
  rw [show evF ⟨2, 0, 0⟩ = [fB [112, 105, 99, 107], fD 0] from rfl]
  simp only [fD, it0]
  decide +kernel
def exE : List UInt8 := [107, 101, 121, 32, 34, 107, 34, 10, 103, 97, 116, 101, 115, 32, 49, 10, 103, 97, 116, 101, 32, 48, 32, 53, 48, 32, 48, 10, 119, 111, 114, 107, 101, 114, 115, 32, 50, 10, 99, 97, 108, 108, 32, 49, 32, 55, 32, 48, 32, 48, 32, 48, 32, 48, 32, 48, 32, 48, 32, 48, 32, 48, 32, 34, 34, 10, 99, 97, 108, 108, 32, 50, 32, 48, 32, 48, 32, 49, 32, 48, 32, 51, 32, 48, 32, 48, 32, 48, 32, 48, 32, 34, 34, 10, 115, 101, 110, 100, 32, 48, 32, 49, 10, 112, 105, 99, 107, 32, 50, 10, 116, 105, 99, 107, 32, 53, 10, 112, 105, 99, 107, 32, 48, 10]
theorem ex_print : printS exSc = [118, 101, 110, 117, 101, 32, 53, 10] ++ exV ++ exE := by
  unfold printS
  rw [show exSc.ven = exVen from rfl, ex_ven, ex_blk1, show exSc.key = [107] from rfl, ex_ln1, show exSc.gates = [⟨[0], 0, 50⟩] from rfl, ex_gat, ex_blk2, show exSc.workers = 2 from rfl, ex_ln2,
    show exSc.calls = [⟨1, 7, 0, 0, 0, 0, 0, 0, 0, 0, []⟩, ⟨2, 0, 0, 1, 0, 3, 0, 0, 0, 0, []⟩] from rfl, show exSc.evs = [⟨1, 0, 1⟩, ⟨2, 2, 0⟩, ⟨4, 5, 0⟩, ⟨2, 0, 0⟩] from rfl]
  simp only [List.map_cons, List.map_nil, ex_c1, ex_c2, ex_e1, ex_e2, ex_e3, ex_e4, List.flatten_cons, List.flatten_nil, List.append_assoc, List.append_nil]
  rfl
theorem exSc_ok : exSc.ok := by
  refine ⟨by unfold R64; decide, by unfold R64; decide, by unfold R64; decide, by decide, ?_, by decide, by decide, ?_, by unfold R64; decide, by decide, exSc_sm.cs, by decide, ?_⟩
  · unfold R64; decide
  · unfold GtG.ok S64; decide
  · unfold R64; decide
theorem exSc_near : exSc.near := ⟨by decide, by decide, by decide, by decide, by decide, by decide, by decide, by decide⟩
theorem ex_c0 : (checkS exSc).2 = 0 := by decide +kernel
theorem ex_cN : (checkS { exSc with evs := [] }).2 = 0 := by decide +kernel
theorem ex_calls : sendsOf exSc.evs = [0] := by decide +kernel
def exEvs3 : List SrE := [⟨1, 0, 1⟩, ⟨1, 1, 3⟩, ⟨4, 5, 0⟩, ⟨2, 0, 0⟩]
def exSc3 : Sc := { exSc with evs := exEvs3 }
theorem exSc3_sm : exSc3.sm := ⟨exSc_sm.ven, exSc_sm.gl, exSc_sm.gs, exSc_sm.key, exSc_sm.cl, exSc_sm.cs, by decide⟩
theorem ex_check3 : checkS exSc3 = ([101, 118, 101, 110, 116, 32, 49], 7) := by
  have h2 : (baseS exSc3).2 = 0 := by decide +kernel
  have e0 : evT exSc3 [] ⟨1, 0, 1⟩ = 0 := by decide +kernel
  have e1 : evT exSc3 [0] ⟨1, 1, 3⟩ = 7 := by decide +kernel
  unfold checkS
  rw [if_neg (by simp [h2]), if_neg (by decide)]
  show chkGo exSc3 0 [] exEvs3 = _
  unfold exEvs3
  rw [chkGo, if_neg (by simp [e0]), chkGo]
  show (if evT exSc3 [0] ⟨1, 1, 3⟩ ≠ 0 then (partT [101, 118, 101, 110, 116] ((0 + 1 : Nat) : Int), evT exSc3 [0] ⟨1, 1, 3⟩) else _) = _
  rw [e1, if_pos (by decide)]
  unfold partT
  rw [show (((0 + 1 : Nat)) : Int) = 1 from rfl, it1]
  rfl
def exC3 : SrC := ⟨1, 7, 0, 0, 0, 0, 0, 0, 0, 1, []⟩
theorem exC3_ok : exC3.ok := by
  refine ⟨?_, ?_, ?_, ?_, ?_, ?_, ?_, ?_, ?_, ?_, ?_⟩ <;> first | (unfold R64; decide) | decide
theorem ex_pay3 : payS exC3 9 [] [] = ([2, 1, 1, 9, 2, 1, 7], 0) := by decide +kernel
def exWant : List SrE := [⟨1, 1, 2⟩, ⟨2, 1, 0⟩, ⟨4, 10, 0⟩]
theorem ex_decK : (chSt exSc [6, 3, 6, 1, 5, 3] (chunkL [6, 3, 6, 1, 5, 3]).length).1 = exWant := by rw [chSt_end]; decide +kernel
theorem exVen_B : VenB exVen := by
  refine ⟨by unfold S64; decide, by unfold S64; decide, by unfold S64; decide, by decide, ?_⟩
  unfold S64; decide
theorem ex_vc0 : (checkVen exVen).2 = 0 := by decide +kernel
theorem pvT (cx : Cx) (w : World) (sz : Nat) (ys : List (List SV)) (x : Value) (h : V cx w (.sv (.sl sz ys)) x) : V cx w (.pv fun _ => True) x := by
  simp only [V] at h ⊢
  refine ⟨trivial, ?_⟩
  simp only [VS] at h
  rcases h with ⟨h | ⟨a, c, h, _⟩, _⟩ | ⟨b, o, c, h, _⟩ <;> rw [h] <;> rfl
def WL : List LV → List LV → Prop
  | [], [] => True
  | a :: l, b :: m => (∀ cx w x, V cx w a x → V cx w b x) ∧ WL l m
  | _, _ => False
theorem WL.vs {cx : Cx} {w : World} : ∀ (l m : List LV) (x : List Value), WL l m → Vs cx w l x → Vs cx w m x
  | [], [], x, _, h => h
  | a :: l, b :: m, x, hw, h => by
    simp only [Vs] at h ⊢
    obtain ⟨y, r, h1, h2, h3⟩ := h
    exact ⟨y, r, h1, hw.1 cx w y h2, WL.vs l m r hw.2 h3⟩
  | [], _ :: _, _, hw, _ => hw.elim
  | _ :: _, [], _, hw, _ => hw.elim
theorem WL.agg {l m : List LV} (h : WL l m) (cx : Cx) (w : World) (x : Value) (hv : V cx w (.agg l) x) : V cx w (.agg m) x := by
  simp only [V] at hv ⊢
  obtain ⟨vs, h1, h2⟩ := hv
  exact ⟨vs, h1, WL.vs l m vs h h2⟩
theorem WL.tup {l m : List LV} (h : WL l m) (cx : Cx) (w : World) (x : Value) (hv : V cx w (.tup l) x) : V cx w (.tup m) x := by
  simp only [V] at hv ⊢
  obtain ⟨vs, h1, h2⟩ := hv
  exact ⟨vs, h1, WL.vs l m vs h h2⟩
theorem decW {cx : Cx} {w : World} {x : Value} (h : V cx w (.tup [.agg (exSc.cO 3), .i 0]) x) : V cx w (.tup [.agg [.i 3, .i 10, .i 100, .pv (fun _ => True), .t [107], .pv (fun _ => True), .i 2, .pv (fun _ => True), .ref 3], .i 0]) x :=
  WL.tup (l := [.agg (exSc.cO 3), .i 0]) (m := [.agg [.i 3, .i 10, .i 100, .pv (fun _ => True), .t [107], .pv (fun _ => True), .i 2, .pv (fun _ => True), .ref 3], .i 0]) ⟨WL.agg (l := [.i 3, .i 10, .i 100, .sv (.sl 3 (exVen.secs.map VnS.c)), .t [107], .sv (.sl 3 (exSc.gates.map GtG.c)), .i 2, .sv (.sl 11 (exSc.calls.map SrC.c)), .ref 3]) ⟨fun _ _ _ h => h, fun _ _ _ h => h, fun _ _ _ h => h, fun cx w x h => pvT cx w _ _ x h, fun _ _ _ h => h, fun cx w x h => pvT cx w _ _ x h, fun _ _ _ h => h, fun cx w x h => pvT cx w _ _ x h, fun _ _ _ h => h, trivial⟩, fun _ _ _ h => h, trivial⟩ cx w x h
theorem known_W : PC Tryz.prog 11 [] (.b true) := by
 refine ⟨LC.of_go Tryz.func11 (c := _) rfl (by kernel_rfl) (by rw [Tryz.ntmps11]; simp) rfl rfl (by simp [LO.lt, LV.lts, LV.lt, lts_sv]) (by simp) ?_⟩
 intro B hA hmd
 refine .seq ?_
 refine .region rfl ?_
 refine R.assign (h := ?_)
 refine .n0 ?_
 refine .seq ?_
 refine .region rfl ?_
 refine R.callX (es := []) [] exSc_L (h := ?_)
 refine R.alloc Z29 (h := ?_)
 refine R.storeA A29 (h := ?_)
 refine .n0 ?_
 refine .seq ?_
 refine .region rfl ?_
 first | refine R.loadA A29 (h := ?_) | refine R.loadN A29 (h := ?_) | refine R.loadP A29 (h := ?_)
 refine R.callXN (es := [_]) [] [(0, .rs 58 3 (exEvs.map SrE.c))] (.tup [.ref 2, .i 0]) (callsK_L exSc exSc_sm ex_c0) (fun _ _ _ h => h) (h := ?_)
 rw [ex_calls]
 refine R.move (h := ?_)
 refine R.extract (h := ?_)
 refine R.extract (h := ?_)
 refine R.assign (h := ?_)
 refine R.assign (h := ?_)
 refine .n0 ?_
 refine LGo.frz 2 (h := ?_)
 refine .seq ?_
 refine .region rfl ?_
 first | refine R.loadA A29 (h := ?_) | refine R.loadN A29 (h := ?_) | refine R.loadP A29 (h := ?_)
 refine R.callVA (es := [_]) (lvs := [.agg (exSc.c.map LV.sv)]) (rd := [(0, .rs 58 3 (exEvs.map SrE.c))]) (fun _ => printS_P exSc exSc_ok exSc_near) (hrd := oneL rfl) (h := ?_)
 rw [show printO exSc = (printS exSc, 0) from if_neg (by rw [ex_c0]; decide), ex_print]
 obtain ⟨XX, hXX⟩ : ∃ X, [118, 101, 110, 117, 101, 32, 53, 10] ++ exV ++ exE = X := ⟨_, rfl⟩
 have hxl : ([118, 101, 110, 117, 101, 32, 53, 10] ++ exV ++ exE).length ≤ 1000 := by decide +kernel
 rw [hXX]
 refine R.move (h := ?_)
 refine R.extract (h := ?_)
 refine R.extract (h := ?_)
 refine R.assign (h := ?_)
 refine R.assign (h := ?_)
 refine .n0 ?_
 refine .seq ?_
 refine .region rfl ?_
 first | refine R.loadA A29 (h := ?_) | refine R.loadN A29 (h := ?_) | refine R.loadP A29 (h := ?_)
 refine R.buildSliceF AP44 (bytesC [6, 3, 6, 1, 5, 3]) (xs := [_, _, _, _, _, _]) (es := [_, _, _, _, _, _]) (hcs := CellsOfs.cons (CellsOf.one rfl) (CellsOfs.cons (CellsOf.one rfl) (CellsOfs.cons (CellsOf.one rfl) (CellsOfs.cons (CellsOf.one rfl) (CellsOfs.cons (CellsOf.one rfl) (CellsOfs.cons (CellsOf.one rfl) (CellsOfs.nil))))))) (h := ?_)
 refine R.callXN (es := [_, _]) [] [(0, .rs 58 3 (exEvs.map SrE.c))] (.tup [.agg [.i 3, .i 10, .i 100, .pv (fun _ => True), .t [107], .pv (fun _ => True), .i 2, .pv (fun _ => True), .ref 3], .i 0]) (decodeK_L exSc exSc_sm exSc_cp [6, 3, 6, 1, 5, 3] (by decide) ex_cN) (fun cx w x h => decW h) (h := ?_)
 rw [ex_decK]
 refine R.move (h := ?_)
 refine R.extract (h := ?_)
 refine R.extract (h := ?_)
 refine R.alloc Z29 (h := ?_)
 refine R.storeA A29 (h := ?_)
 refine R.assign (h := ?_)
 refine .n0 ?_
 refine .seq ?_
 refine .region rfl ?_
 first | refine R.field F29_4 (h := ?_) | refine R.fieldAt F29_4 (h := ?_)
 first | refine R.loadB O26 (h := ?_) | refine R.load1 O26 (h := ?_)
 refine R.index I26 (hj := fun hg => ⟨by omega, rfl⟩) (h := ?_)
 first | refine R.loadA A40 (h := ?_) | refine R.loadN A40 (h := ?_) | refine R.loadP A40 (h := ?_)
 refine R.alloc Z40 (h := ?_)
 refine R.storeA A40 (h := ?_)
 refine .n0 ?_
 refine .seq ?_
 refine .region rfl ?_
 first | refine R.field F40_9 (h := ?_) | refine R.fieldAt F40_9 (h := ?_)
 refine R.storeB O3 (h := ?_)
 refine .n0 ?_
 refine .seq ?_
 refine .region rfl ?_
 first | refine R.loadA A40 (h := ?_) | refine R.loadN A40 (h := ?_) | refine R.loadP A40 (h := ?_)
 refine R.callP (es := [_, _, _, _]) (fun _ => payS_P exC3 exC3_ok 9 (by decide) [] [] (Nat.zero_le _) (Nat.zero_le _)) (h := ?_)
 rw [ex_pay3]
 refine R.move (h := ?_)
 refine R.extract (h := ?_)
 refine R.extract (h := ?_)
 refine R.assign (h := ?_)
 refine R.assign (h := ?_)
 refine .n0 ?_
 refine .seq ?_
 refine .region rfl ?_
 first | refine R.field F29_5 (h := ?_) | refine R.fieldAt F29_5 (h := ?_)
 first | refine R.loadB O27 (h := ?_) | refine R.load1 O27 (h := ?_)
 refine R.build BF58 (is := [0, 1, 2]) (xs := [_, _, _]) (es := [_, _, _]) (h := ?_)
 refine R.indexRs I27 (hj := fun _ => ⟨by decide, by decide⟩) (h := ?_)
 refine R.storeRsN A58 1 (SrE.c ⟨1, 1, 3⟩) (h1 := rfl) (hj := by decide) (h := ?_)
 refine .n0 ?_
 refine .seq ?_
 refine .region rfl ?_
 first | refine R.loadA A29 (h := ?_) | refine R.loadN A29 (h := ?_) | refine R.loadP A29 (h := ?_)
 refine R.callVA (es := [_]) (lvs := [.agg (exSc3.c.map LV.sv)]) (rd := [(0, .rs 58 3 (exEvs3.map SrE.c))]) (fun _ => checkS_P exSc3 exSc3_sm) (hrd := oneL rfl) (h := ?_)
 rw [ex_check3]
 refine R.move (h := ?_)
 refine R.extract (h := ?_)
 refine R.extract (h := ?_)
 refine R.assign (h := ?_)
 refine R.assign (h := ?_)
 refine .n0 ?_
 refine .seq ?_
 refine .region rfl ?_
 first | refine R.field F29_0 (h := ?_) | refine R.fieldAt F29_0 (h := ?_)
 first | refine R.loadA A24 (h := ?_) | refine R.loadN A24 (h := ?_) | refine R.loadP A24 (h := ?_)
 refine R.callP (es := [_]) (fun _ => printVR_P exVen ex_vc0 exVen_B) (h := ?_)
 rw [ex_ven]
 refine R.move (h := ?_)
 refine R.extract (h := ?_)
 refine R.extract (h := ?_)
 refine R.assign (h := ?_)
 refine R.assign (h := ?_)
 refine .n0 ?_
 refine .seq ?_
 refine .region rfl ?_
 refine R.build BF58 (is := [0, 1, 2]) (xs := [_, _, _]) (es := [_, _, _]) (h := ?_)
 refine R.build BF58 (is := [0, 1]) (xs := [_, _]) (es := [_, _]) (h := ?_)
 refine R.build BF58 (is := [0, 1]) (xs := [_, _]) (es := [_, _]) (h := ?_)
 refine R.buildSliceG AP27 (xs := [_, _, _]) (es := [_, _, _]) (hcs := CellsOfs.cons (CellsOf.agg rfl) (CellsOfs.cons (CellsOf.agg rfl) (CellsOfs.cons (CellsOf.agg rfl) CellsOfs.nil))) (h := ?_)
 refine R.assign (h := ?_)
 refine .n0 ?_
 refine .seq ?_
 refine .seq ?_
 refine .region rfl ?_
 refine R.move (h := ?_)
 refine R.bin (run_neq _ _ _ _ _ _) (h := ?_)
 refine R.move (h := ?_)
 refine R.move (h := ?_)
 refine R.bin (run_neq _ _ _ _ _ _) (h := ?_)
 refine R.or (h := ?_)
 refine R.move (h := ?_)
 refine R.move (h := ?_)
 refine R.bin (run_neq _ _ _ _ _ _) (h := ?_)
 refine R.or (h := ?_)
 refine R.move (h := ?_)
 refine R.move (h := ?_)
 refine R.bin (run_neq _ _ _ _ _ _) (h := ?_)
 refine R.or (h := ?_)
 refine R.move (h := ?_)
 refine R.move (h := ?_)
 refine R.bin (run_neq _ _ _ _ _ _) (h := ?_)
 refine R.or (h := ?_)
 refine R.move (h := ?_)
 refine R.move (h := ?_)
 refine R.buildSliceG AP65 (xs := [_]) (es := [_]) (hcs := CellsOfs.cons (CellsOf.one rfl) CellsOfs.nil) (h := ?_)
 refine R.callP (es := [_, _]) (fun _ => ints_P [0] [0] (by decide) (by decide)) (h := ?_)
 refine R.not (h := ?_)
 refine R.or (h := ?_)
 refine R.move (h := ?_)
 refine R.move (h := ?_)
 refine R.bin (run_neqT _ _ _ _ _) (h := ?_)
 refine R.or (h := ?_)
 refine R.move (h := ?_)
 first | refine R.field F29_5 (h := ?_) | refine R.fieldAt F29_5 (h := ?_)
 first | refine R.loadB O27 (h := ?_) | refine R.load1 O27 (h := ?_)
 first | refine R.len S27 (h := ?_) | refine R.lenRs S27 (h := ?_) | refine R.lenV (run_lenNil S27) (h := ?_)
 refine R.bin (run_neq _ _ _ _ _ _) (h := ?_)
 refine R.or (h := ?_)
 refine R.move (h := ?_)
 refine R.move (h := ?_)
 refine R.toString Tryz.underlying44 Tryz.underlying5 Tryz.underlying9 (h := ?_)
 refine R.bin (run_neqT _ _ _ _ _) (h := ?_)
 refine R.or (h := ?_)
 refine .n0 ?_
 refine LGo.ifb (ht := fun hc => by simp [exWant] at hc) (hf := fun hc => ?_)
 refine .skip ?_
 refine .seq ?_
 refine .seq ?_
 refine .region rfl ?_
 refine R.assign (h := ?_)
 refine .n0 ?_
 refine .block ?_
 refine .loop ?_
 refine LGo.loopG (σ := Nat) (fun x => x ≤ 3) (fun x => [(16, (true, .i (x : Nat)))]) (fun x => [(3, .rs 58 3 (exWant.map SrE.c)), (4, .box 29 [.i 3, .i 10, .i 100, .pv (fun _ => True), .t [107], .pv (fun _ => True), .i 2, .pv (fun _ => True), .ref 3])]) (fun x => 3 - x) (0) [(4, _), (6, _), (13, _), (15, _)] (Nat.zero_le _) (by repeat (first | exact trivial | refine ⟨rfl, ?_⟩)) (by repeat (first | exact trivial | refine ⟨rfl, ?_⟩)) (by repeat (first | exact trivial | refine ⟨rfl, ?_⟩)) ?_
 rintro k hk ih
 refine .seq ?_
 refine .seq ?_
 refine .region rfl ?_
 refine R.move (h := ?_)
 refine R.bin (run_lss _ _ _ _ _ _) (h := ?_)
 refine .n0 ?_
 refine LGo.ifd (ht := fun hc2 => ?_) (hf := fun hc2 => ?_)
 ·
  refine .skip ?_
  refine .seq ?_
  refine .block ?_
  refine .seq ?_
  refine .region rfl ?_
  rcases (show k = 0 ∨ k = 1 ∨ k = 2 from by omega) with rfl | rfl | rfl
  ·
   first | refine R.field F29_5 (h := ?_) | refine R.fieldAt F29_5 (h := ?_)
   first | refine R.loadB O27 (h := ?_) | refine R.load1 O27 (h := ?_)
   refine R.move (h := ?_)
   refine R.indexRs I27 (hj := fun _ => ⟨by decide, by decide⟩) (h := ?_)
   refine R.loadRsN A58 0 (ev := SrE.c ⟨1, 1, 2⟩) (hj := fun _ => rfl) (h := ?_)
   refine R.move (h := ?_)
   refine R.move (h := ?_)
   refine R.index I27 (hj := fun hg => ⟨by omega, rfl⟩) (h := ?_)
   first | refine R.loadA A58 (h := ?_) | refine R.loadN A58 (h := ?_) | refine R.loadP A58 (h := ?_)
   refine R.binA (NE58 _ _ _ _ _ _ _ _) (h := ?_)
   refine Reg.nil ⟨fun _ => ⟨mixedO, by rfl, by rfl⟩, ?_⟩
   refine LGo.ifb (ht := fun hc3 => by simp at hc3) (hf := fun hc3 => ?_)
   refine .skip ?_
   refine .inBlock ?_
   refine .region rfl ?_
   refine R.move (h := ?_)
   first | refine R.add (h := ?_) | refine R.addW (h := ?_)
   refine R.assign (h := ?_)
   refine .n0 ?_
   refine .inLoop ?_
   exact LGo.next _ (fun o h => by have := (hA o).1 h; omega) (by omega) (ih 1 (by decide) (by decide)) (by repeat (first | exact trivial | refine ⟨rfl, ?_⟩)) ⟨rfl, rfl, trivial⟩
  ·
   first | refine R.field F29_5 (h := ?_) | refine R.fieldAt F29_5 (h := ?_)
   first | refine R.loadB O27 (h := ?_) | refine R.load1 O27 (h := ?_)
   refine R.move (h := ?_)
   refine R.indexRs I27 (hj := fun _ => ⟨by decide, by decide⟩) (h := ?_)
   refine R.loadRsN A58 1 (ev := SrE.c ⟨2, 1, 0⟩) (hj := fun _ => rfl) (h := ?_)
   refine R.move (h := ?_)
   refine R.move (h := ?_)
   refine R.index I27 (hj := fun hg => ⟨by omega, rfl⟩) (h := ?_)
   first | refine R.loadA A58 (h := ?_) | refine R.loadN A58 (h := ?_) | refine R.loadP A58 (h := ?_)
   refine R.binA (NE58 _ _ _ _ _ _ _ _) (h := ?_)
   refine Reg.nil ⟨fun _ => ⟨mixedO, by rfl, by rfl⟩, ?_⟩
   refine LGo.ifb (ht := fun hc4 => by simp at hc4) (hf := fun hc4 => ?_)
   refine .skip ?_
   refine .inBlock ?_
   refine .region rfl ?_
   refine R.move (h := ?_)
   first | refine R.add (h := ?_) | refine R.addW (h := ?_)
   refine R.assign (h := ?_)
   refine .n0 ?_
   refine .inLoop ?_
   exact LGo.next _ (fun o h => by have := (hA o).1 h; omega) (by omega) (ih 2 (by decide) (by decide)) (by repeat (first | exact trivial | refine ⟨rfl, ?_⟩)) ⟨rfl, rfl, trivial⟩
  ·
   first | refine R.field F29_5 (h := ?_) | refine R.fieldAt F29_5 (h := ?_)
   first | refine R.loadB O27 (h := ?_) | refine R.load1 O27 (h := ?_)
   refine R.move (h := ?_)
   refine R.indexRs I27 (hj := fun _ => ⟨by decide, by decide⟩) (h := ?_)
   refine R.loadRsN A58 2 (ev := SrE.c ⟨4, 10, 0⟩) (hj := fun _ => rfl) (h := ?_)
   refine R.move (h := ?_)
   refine R.move (h := ?_)
   refine R.index I27 (hj := fun hg => ⟨by omega, rfl⟩) (h := ?_)
   first | refine R.loadA A58 (h := ?_) | refine R.loadN A58 (h := ?_) | refine R.loadP A58 (h := ?_)
   refine R.binA (NE58 _ _ _ _ _ _ _ _) (h := ?_)
   refine Reg.nil ⟨fun _ => ⟨mixedO, by rfl, by rfl⟩, ?_⟩
   refine LGo.ifb (ht := fun hc5 => by simp at hc5) (hf := fun hc5 => ?_)
   refine .skip ?_
   refine .inBlock ?_
   refine .region rfl ?_
   refine R.move (h := ?_)
   first | refine R.add (h := ?_) | refine R.addW (h := ?_)
   refine R.assign (h := ?_)
   refine .n0 ?_
   refine .inLoop ?_
   exact LGo.next _ (fun o h => by have := (hA o).1 h; omega) (by omega) (ih 3 (by decide) (by decide)) (by repeat (first | exact trivial | refine ⟨rfl, ?_⟩)) ⟨rfl, rfl, trivial⟩
 ·
  refine .exit rfl ?_
  refine .seq ?_
  refine .region rfl ?_
  refine R.move (h := ?_)
  refine R.move (h := ?_)
  refine R.bin (run_addT _ _ _ [118, 101, 110, 117, 101, 32, 53, 10] exV (by decide +kernel)) (h := ?_)
  refine R.bin (run_addT _ _ _ ([118, 101, 110, 117, 101, 32, 53, 10] ++ exV) exE (by decide +kernel)) (h := ?_)
  rw [hXX]
  refine R.bin (run_eqlT _ _ _ _ _) (h := ?_)
  refine R.move (h := ?_)
  refine R.callP (es := []) (fun _ => awake_P) (h := ?_)
  refine R.and (h := ?_)
  refine R.assign (h := ?_)
  refine .n0 ?_
  refine LGo.eqB 0 true (hb := by simp) (h := ?_)
  exact LGo.ret (ret_T Tryz.results11 hA hmd)
end Go.Proofs.YteccglgbkehdeaaGreatDoor
