/- gates: Print. -/
import Derived.Test.YtgcjjndhohellaaDoorGR
set_option linter.unusedSimpArgs false
set_option linter.unusedVariables false
namespace Go.Proofs.YtgcjjndhohellaaDoor

def lineG (g : GtG) : List UInt8 := [103, 97, 116, 101, 32] ++ Lib.itoa g.fr ++ [32] ++ Lib.itoa g.to ++ [32] ++ (listW g.secs).1 ++ [10]
def numsE (x : GtE) : List Int := [x.key.1, x.key.2.1, x.key.2.2, x.gate, x.time]
def spN (n : Int) : List UInt8 := [32] ++ Lib.decDigits n.toNat
def lineE (x : GtE) : List UInt8 := [105, 110] ++ ((numsE x).map spN).flatten ++ [10]
def printG (s : GtS) : List UInt8 := (s.gates.map lineG).flatten ++ (s.ents.map lineE).flatten
def adr1 : List UInt8 → LV
  | [] => .v (.pointer none)
  | _ :: _ => .ptr 1 0
theorem itoa_20 {n : Int} (h : S64 n) : (Lib.itoa n).length ≤ 22 := by
  unfold S64 at h
  unfold Lib.itoa
  split
  · have := decD_le 20 n.natAbs (by omega)
    simp only [List.length_cons]; omega
  · have := decD_le 20 n.toNat (by omega)
    omega
theorem dec_20 {n : Int} (h : 0 ≤ n ∧ n < 18446744073709551616) : (Lib.decDigits n.toNat).length ≤ 21 := decD_le 20 n.toNat (by omega)

theorem print_P (s : GtS) (hs : SmS s) (hc0 : checkGS s = 0) (hr : ∀ g ∈ s.gates, S64 g.fr ∧ S64 g.to ∧ (∀ n ∈ g.secs, S64 n) ∧ (listW g.secs).1.length ≤ 1000) (hg8 : s.gates.length ≤ 8) (h0 : 0 < s.gates.length) (he : ∀ x ∈ s.ents, U64 x.serial ∧ U64 x.epoch ∧ 0 ≤ x.gate ∧ S64 x.gate ∧ 0 ≤ x.time ∧ S64 x.time) (h5 : s.ents.length ≤ 500) :
    PC Tryd.prog 29 [.agg (s.c.map LV.sv)] (.tup [.t (printG s), .i 0]) := by
 refine ⟨LC.of_go Tryd.func29 (c := _) rfl (by kernel_rfl) (by rw [Tryd.ntmps29]; simp) rfl rfl (by simp [LO.lt, LV.lts, LV.lt, lts_sv]) (by simp) ?_⟩
 intro B hA hmd
 obtain ⟨⟨hg1, hg2⟩, he1, he2⟩ := id hs
 obtain ⟨F1, hF1⟩ : ∃ F, (s.gates.map lineG).flatten = F := ⟨_, rfl⟩
 obtain ⟨F2, hF2⟩ : ∃ F, printG s = F := ⟨_, rfl⟩
 rw [hF2]
 unfold printG at hF2
 rw [hF1] at hF2
 refine .seq ?_
 refine .region rfl ?_
 refine R.box (h := ?_)
 refine R.assign (h := ?_)
 refine R.assign (h := ?_)
 refine .n0 ?_
 refine .seq ?_
 refine .seq ?_
 refine .region rfl ?_
 first | refine R.loadA A25 (h := ?_) | refine R.loadN A25 (h := ?_) | refine R.loadP A25 (h := ?_)
 refine R.callP (es := [_]) (fun _ => checkGS_P s hs) (h := ?_)
 rw [hc0]
 refine R.assign (h := ?_)
 refine .n0 ?_
 refine .seq ?_
 refine .region rfl ?_
 refine R.move (h := ?_)
 refine R.bin (run_neq _ _ _ _ _ _) (h := ?_)
 refine .n0 ?_
 refine LGo.ifb (ht := fun hc => by simp at hc) (hf := fun hc => ?_)
 refine .skip ?_
 refine .seq ?_
 refine .region rfl ?_
 refine R.alloc Z81 (h := ?_)
 refine .n0 ?_
 refine .seq ?_
 refine .seq ?_
 refine .region rfl ?_
 first | refine R.field F25_0 (h := ?_) | refine R.fieldAt F25_0 (h := ?_)
 first | refine R.loadB O22 (h := ?_) | refine R.load1 O22 (h := ?_)
 first | refine R.len S22 (h := ?_) | refine R.lenRs S22 (h := ?_) | refine R.lenV (run_lenNil S22) (h := ?_)
 rw [List.length_map]
 refine R.move (h := ?_)
 refine .n0 ?_
 refine .block ?_
 refine .loop ?_
 refine LGo.packNil 1 1 5 1 (h := ?_)
 refine LGo.loopG (σ := Nat × List UInt8) (fun x => x.1 ≤ s.gates.length ∧ x.2.length ≤ 2000 * x.1 ∧ (0 < x.1 → x.2 ≠ []) ∧ x.2 ++ ((s.gates.drop x.1).map lineG).flatten = F1) (fun x => [(23, (true, .i (x.1 : Nat)))]) (fun x => [(0, .box 25 (s.c.map LV.sv)), (1, .bx 81 [adr1 x.2, .v undef] 1 5 1 (bytesC x.2))]) (fun x => s.gates.length - x.1) (0, []) [(1, _), (5, _), (21, _), (22, _)] ⟨Nat.zero_le _, Nat.zero_le _, fun h => absurd h (Nat.lt_irrefl _), hF1⟩ (by repeat (first | exact trivial | refine ⟨rfl, ?_⟩)) (by repeat (first | exact trivial | refine ⟨rfl, ?_⟩)) (by repeat (first | exact trivial | refine ⟨rfl, ?_⟩)) ?_
 rintro ⟨k, acc⟩ ⟨hk, hal, hne, hq⟩ ih
 dsimp only at * 
 refine .seq ?_
 refine .region rfl ?_
 refine R.bin (run_lss _ _ _ _ _ _) (h := ?_)
 refine .n0 ?_
 refine .seq ?_
 refine LGo.ifd (ht := fun hc2 => ?_) (hf := fun hc2 => ?_)
 ·
  have hlt : k < s.gates.length := by omega
  have hx : (s.gates.map GtG.c)[((k : Nat) : Int).toNat]? = some s.gates[k].c := by simp [hlt]
  have hd : s.gates.drop k = s.gates[k] :: s.gates.drop (k + 1) := List.drop_eq_getElem_cons hlt
  have hzr := hr s.gates[k] (List.getElem_mem hlt)
  have hzl := hg2 s.gates[k] (List.getElem_mem hlt)
  rw [hd, List.map_cons, List.flatten_cons] at hq
  generalize s.gates[k] = z at hx hq hzr hzl
  clear hd
  obtain ⟨hz1, hz2, hz3, hz4⟩ := hzr
  have hd1 := itoa_20 hz1
  have hd2 := itoa_20 hz2
  rw [show lineG z = [103, 97, 116, 101, 32] ++ Lib.itoa z.fr ++ [32] ++ Lib.itoa z.to ++ [32] ++ (listW z.secs).1 ++ [10] from rfl] at hq
  unfold S64 at hz1 hz2
  refine .skip ?_
  refine .seq ?_
  refine .block ?_
  refine .seq ?_
  refine .region rfl ?_
  refine R.index I22 (hj := fun hg => ⟨by omega, hx⟩) (h := ?_)
  first | refine R.loadA A59 (h := ?_) | refine R.loadN A59 (h := ?_) | refine R.loadP A59 (h := ?_)
  refine R.alloc Z59 (h := ?_)
  refine R.storeA A59 (h := ?_)
  refine .n0 ?_
  refine .seq ?_
  refine .region rfl ?_
  first | refine R.field F59_0 (h := ?_) | refine R.fieldAt F59_0 (h := ?_)
  first | refine R.loadB O57 (h := ?_) | refine R.load1 O57 (h := ?_)
  refine R.callP (es := [_]) (fun _ => list_P z.secs hzl hz3) (h := ?_)
  generalize (listW z.secs).1 = ls at hq hz4 ⊢
  refine R.move (h := ?_)
  refine R.extract (h := ?_)
  refine R.extract (h := ?_)
  refine R.assign (h := ?_)
  refine R.assign (h := ?_)
  refine .n0 ?_
  refine .region rfl ?_
  first | refine R.field F59_1 (h := ?_) | refine R.fieldAt F59_1 (h := ?_)
  first | refine R.loadB O2 (h := ?_) | refine R.load1 O2 (h := ?_)
  refine R.callP (es := [_]) (fun _ => digitsW_P z.fr (by omega) (by omega)) (h := ?_)
  generalize Lib.itoa z.fr = d1 at hq hd1 ⊢
  refine R.bin (run_addT _ _ _ ([103, 97, 116, 101, 32]) (d1) (by first | omega | (simp only [List.length_append, List.length_cons, List.length_nil] at *; omega))) (h := ?_)
  refine R.bin (run_addT _ _ _ ([103, 97, 116, 101, 32] ++ d1) ([32]) (by first | omega | (simp only [List.length_append, List.length_cons, List.length_nil] at *; omega))) (h := ?_)
  first | refine R.field F59_2 (h := ?_) | refine R.fieldAt F59_2 (h := ?_)
  first | refine R.loadB O2 (h := ?_) | refine R.load1 O2 (h := ?_)
  refine R.callP (es := [_]) (fun _ => digitsW_P z.to (by omega) (by omega)) (h := ?_)
  generalize Lib.itoa z.to = d2 at hq hd2 ⊢
  refine R.bin (run_addT _ _ _ ([103, 97, 116, 101, 32] ++ d1 ++ [32]) (d2) (by first | omega | (simp only [List.length_append, List.length_cons, List.length_nil] at *; omega))) (h := ?_)
  refine R.bin (run_addT _ _ _ ([103, 97, 116, 101, 32] ++ d1 ++ [32] ++ d2) ([32]) (by first | omega | (simp only [List.length_append, List.length_cons, List.length_nil] at *; omega))) (h := ?_)
  refine R.move (h := ?_)
  refine R.bin (run_addT _ _ _ ([103, 97, 116, 101, 32] ++ d1 ++ [32] ++ d2 ++ [32]) (ls) (by first | omega | (simp only [List.length_append, List.length_cons, List.length_nil] at *; omega))) (h := ?_)
  refine R.bin (run_addT _ _ _ ([103, 97, 116, 101, 32] ++ d1 ++ [32] ++ d2 ++ [32] ++ ls) ([10]) (by first | omega | (simp only [List.length_append, List.length_cons, List.length_nil] at *; omega))) (h := ?_)
  obtain ⟨ln, hln⟩ : ∃ ln, [103, 97, 116, 101, 32] ++ d1 ++ [32] ++ d2 ++ [32] ++ ls ++ [10] = ln := ⟨_, rfl⟩
  have hll : ln.length ≤ 1100 := by rw [← hln]; simp only [List.length_append, List.length_cons, List.length_nil]; omega
  have hl0 : ln ≠ [] := by rw [← hln]; simp
  rw [hln] at hq ⊢
  rcases acc with _ | ⟨c0, acc⟩
  ·
   refine R.callX (es := [_, _]) [1] (ws0 ln (by omega)) (h := ?_)
   refine Reg.nil ⟨fun _ => ⟨mixedO, by rfl, by rfl⟩, ?_⟩
   refine .inBlock ?_
   refine .region rfl ?_
   first | refine R.add (h := ?_) | refine R.addW (h := ?_)
   refine R.move (h := ?_)
   refine .n0 ?_
   refine .inLoop ?_
   exact LGo.next _ (fun o h => by have := (hA o).1 h; omega) (by omega) (ih (k + 1, ln) ⟨by dsimp only; omega, by dsimp only; omega, fun _ => hl0, by dsimp only; rw [← hq]; simp⟩ (by dsimp only; omega)) (by repeat (first | exact trivial | refine ⟨rfl, ?_⟩)) ⟨rfl, by dsimp only; cases ln with | nil => exact absurd rfl hl0 | cons a r => rfl, trivial⟩ (hLl := by dsimp only; cases ln with | nil => exact absurd rfl hl0 | cons a r => rfl)
  ·
   refine R.callX (es := [_, _]) [1] (ws1 (c0 :: acc) (by omega) ln (by omega)) (h := ?_)
   refine Reg.nil ⟨fun _ => ⟨mixedO, by rfl, by rfl⟩, ?_⟩
   refine .inBlock ?_
   refine .region rfl ?_
   first | refine R.add (h := ?_) | refine R.addW (h := ?_)
   refine R.move (h := ?_)
   refine .n0 ?_
   refine .inLoop ?_
   exact LGo.next _ (fun o h => by have := (hA o).1 h; omega) (by omega) (ih (k + 1, (c0 :: acc) ++ ln) ⟨by dsimp only; omega, by dsimp only; rw [List.length_append]; omega, fun _ => by simp, by dsimp only; rw [← hq]; simp⟩ (by dsimp only; omega)) (by repeat (first | exact trivial | refine ⟨rfl, ?_⟩)) ⟨rfl, rfl, trivial⟩
 ·
  rw [List.drop_eq_nil_of_le (show s.gates.length ≤ k by omega), List.map_nil, List.flatten_nil, List.append_nil] at hq
  have hne2 := hne (by omega)
  subst hq
  rcases acc with _ | ⟨c0, acc⟩
  · exact absurd rfl hne2
  rw [show adr1 (c0 :: acc) = .ptr 1 0 from rfl]
  generalize c0 :: acc = A at hal hF1 hF2 hne2 ⊢
  refine .exit rfl ?_
  refine .seq ?_
  refine .seq ?_
  refine .region rfl ?_
  first | refine R.field F25_1 (h := ?_) | refine R.fieldAt F25_1 (h := ?_)
  first | refine R.loadB O23 (h := ?_) | refine R.load1 O23 (h := ?_)
  first | refine R.len S23 (h := ?_) | refine R.lenRs S23 (h := ?_) | refine R.lenV (run_lenNil S23) (h := ?_)
  rw [List.length_map]
  refine R.move (h := ?_)
  refine .n0 ?_
  refine .block ?_
  refine .loop ?_
  refine LGo.loopG (σ := Nat × List UInt8) (fun x => x.1 ≤ s.ents.length ∧ x.2.length ≤ 16000 + 150 * x.1 ∧ x.2 ≠ [] ∧ x.2 ++ ((s.ents.drop x.1).map lineE).flatten = F2) (fun x => [(51, (true, .i (x.1 : Nat)))]) (fun x => [(0, .box 25 (s.c.map LV.sv)), (1, .bx 81 [.ptr 1 0, .v undef] 1 5 1 (bytesC x.2))]) (fun x => s.ents.length - x.1) (0, A) [(5, _), (49, _), (50, _)] ⟨Nat.zero_le _, by dsimp only; omega, hne2, hF2⟩ (by repeat (first | exact trivial | refine ⟨rfl, ?_⟩)) (by repeat (first | exact trivial | refine ⟨rfl, ?_⟩)) (by repeat (first | exact trivial | refine ⟨rfl, ?_⟩)) ?_
  rintro ⟨m, ac⟩ ⟨hm, hcl, hcn, hq2⟩ ih2
  dsimp only at * 
  refine .seq ?_
  refine .region rfl ?_
  refine R.bin (run_lss _ _ _ _ _ _) (h := ?_)
  refine .n0 ?_
  refine .seq ?_
  refine LGo.ifd (ht := fun hc3 => ?_) (hf := fun hc3 => ?_)
  ·
   have hlt : m < s.ents.length := by omega
   have hx : (s.ents.map GtE.c)[((m : Nat) : Int).toNat]? = some s.ents[m].c := by simp [hlt]
   have hd : s.ents.drop m = s.ents[m] :: s.ents.drop (m + 1) := List.drop_eq_getElem_cons hlt
   have hzr := he s.ents[m] (List.getElem_mem hlt)
   have hzu := he2 s.ents[m] (List.getElem_mem hlt)
   rw [hd, List.map_cons, List.flatten_cons] at hq2
   generalize s.ents[m] = z at hx hq2 hzr hzu
   clear hd
   obtain ⟨hz1, hz2, hz3, hz4, hz5, hz6⟩ := hzr
   obtain ⟨Z, hZ⟩ : ∃ Z, lineE z = Z := ⟨_, rfl⟩
   rw [hZ] at hq2
   unfold lineE at hZ
   have hnu : ∀ n ∈ numsE z, 0 ≤ n ∧ n < 18446744073709551616 := by
     intro n hn
     unfold S64 U64 U32 at *
     simp only [numsE, GtE.key, List.mem_cons, List.not_mem_nil, or_false] at hn
     rcases hn with rfl | rfl | rfl | rfl | rfl <;> omega
   have hnl : (numsE z).length = 5 := rfl
   unfold S64 at hz4 hz6
   refine .skip ?_
   refine .seq ?_
   refine .block ?_
   refine .seq ?_
   refine .region rfl ?_
   refine R.index I23 (hj := fun hg => ⟨by omega, hx⟩) (h := ?_)
   first | refine R.loadA A40 (h := ?_) | refine R.loadN A40 (h := ?_) | refine R.loadP A40 (h := ?_)
   refine R.alloc Z40 (h := ?_)
   refine R.storeA A40 (h := ?_)
   refine .n0 ?_
   refine .seq ?_
   refine .region rfl ?_
   first | refine R.loadA A40 (h := ?_) | refine R.loadN A40 (h := ?_) | refine R.loadP A40 (h := ?_)
   refine R.callP (es := [_]) (fun _ => keyOf_P z hzu) (h := ?_)
   refine R.alloc Z69 (h := ?_)
   refine R.storeA A69 (h := ?_)
   refine .n0 ?_
   refine .seq ?_
   refine .region rfl ?_
   refine R.callX (es := [_, _]) [1] (ws1 ac (by omega) [105, 110] (by decide)) (h := ?_)
   refine .n0 ?_
   refine .seq ?_
   refine .seq ?_
   refine .region rfl ?_
   refine R.indexArr I69 (hj := fun _ => ⟨by omega, by omega⟩) (h := ?_)
   first | refine R.loadB O27 (h := ?_) | refine R.load1 O27 (h := ?_)
   refine R.indexArr I69 (hj := fun _ => ⟨by omega, by omega⟩) (h := ?_)
   first | refine R.loadB O27 (h := ?_) | refine R.load1 O27 (h := ?_)
   refine R.indexArr I69 (hj := fun _ => ⟨by omega, by omega⟩) (h := ?_)
   first | refine R.loadB O27 (h := ?_) | refine R.load1 O27 (h := ?_)
   first | refine R.field F40_3 (h := ?_) | refine R.fieldAt F40_3 (h := ?_)
   first | refine R.loadB O3 (h := ?_) | refine R.load1 O3 (h := ?_)
   refine R.convI Tryd.runUnderlying3 Tryd.runUnderlying27 (h := ?_)
   first | refine R.field F40_4 (h := ?_) | refine R.fieldAt F40_4 (h := ?_)
   first | refine R.loadB O2 (h := ?_) | refine R.load1 O2 (h := ?_)
   refine R.convI Tryd.runUnderlying2 Tryd.runUnderlying27 (h := ?_)
   refine R.buildSliceF AP88 (ic .u64 (numsE z)) (xs := [_, _, _, _, _]) (es := [_, _, _, _, _]) (hcs := CellsOfs.cons (CellsOf.one rfl) (CellsOfs.cons (CellsOf.one rfl) (CellsOfs.cons (CellsOf.one rfl) (CellsOfs.cons (CellsOf.one rfl) (CellsOfs.cons (CellsOf.one rfl) CellsOfs.nil))))) (h := ?_)
   generalize numsE z = nu at hZ hnu hnl ⊢
   first | refine R.len S88 (h := ?_) | refine R.lenRs S88 (h := ?_) | refine R.lenV (run_lenNil S88) (h := ?_)
   rw [ic_len, hnl]
   refine R.move (h := ?_)
   refine .n0 ?_
   refine .block ?_
   refine .loop ?_
   refine LGo.loopG (σ := Nat × List UInt8) (fun x => x.1 ≤ 5 ∧ x.2.length ≤ ac.length + 2 + 24 * x.1 ∧ x.2 ≠ [] ∧ x.2 ++ ((nu.drop x.1).map spN).flatten ++ [10] = ac ++ Z) (fun x => [(72, (true, .i (x.1 : Nat)))]) (fun x => [(0, .box 25 (s.c.map LV.sv)), (1, .bx 81 [.ptr 1 0, .v undef] 1 5 1 (bytesC x.2))]) (fun x => 5 - x.1) (0, ac ++ [105, 110]) [(5, _), (49, _), (50, _), (51, _), (70, _), (71, _)] ⟨by dsimp only; omega, by dsimp only; rw [List.length_append]; exact Nat.le_refl _, by simp, by dsimp only; rw [← hZ]; simp⟩ (by repeat (first | exact trivial | refine ⟨rfl, ?_⟩)) (by repeat (first | exact trivial | refine ⟨rfl, ?_⟩)) (by repeat (first | exact trivial | refine ⟨rfl, ?_⟩)) ?_
   rintro ⟨j, ad⟩ ⟨hj, hdl, hdn, hq3⟩ ih3
   dsimp only at * 
   refine .seq ?_
   refine .region rfl ?_
   refine R.bin (run_lss _ _ _ _ _ _) (h := ?_)
   refine .n0 ?_
   refine .seq ?_
   refine LGo.ifd (ht := fun hc4 => ?_) (hf := fun hc4 => ?_)
   ·
    have hltj : j < nu.length := by omega
    have hx2 := icA' (q := .u64) hltj
    have hd : nu.drop j = nu[j] :: nu.drop (j + 1) := List.drop_eq_getElem_cons hltj
    have hn := hnu _ (List.getElem_mem hltj)
    rw [hd, List.map_cons, List.flatten_cons] at hq3
    generalize nu[j] = n at hx2 hq3 hn
    clear hd
    have hdc := dec_20 hn
    rw [show spN n = [32] ++ Lib.decDigits n.toNat from rfl] at hq3
    refine .skip ?_
    refine .seq ?_
    refine .block ?_
    refine .seq ?_
    refine .region rfl ?_
    refine R.index I88 (hj := fun hg => ⟨by omega, hx2⟩) (h := ?_)
    first | refine R.loadB O27 (h := ?_) | refine R.load1 O27 (h := ?_)
    refine R.assign (h := ?_)
    refine .n0 ?_
    refine .region rfl ?_
    refine R.move (h := ?_)
    refine R.callP (es := [_, _]) (fun _ => formatUint_P n hn.1 hn.2) (h := ?_)
    generalize Lib.decDigits n.toNat = dg at hq3 hdc ⊢
    refine R.bin (run_addT _ _ _ ([32]) (dg) (by first | omega | (simp only [List.length_append, List.length_cons, List.length_nil] at *; omega))) (h := ?_)
    refine R.callX (es := [_, _]) [1] (ws1 ad (by omega) ([32] ++ dg) (by first | omega | (simp only [List.length_append, List.length_cons, List.length_nil] at *; omega))) (h := ?_)
    refine .n0 ?_
    refine .inBlock ?_
    refine .region rfl ?_
    first | refine R.add (h := ?_) | refine R.addW (h := ?_)
    refine R.move (h := ?_)
    refine .n0 ?_
    refine .inLoop ?_
    exact LGo.next _ (fun o h => by have := (hA o).1 h; omega) (by omega) (ih3 (j + 1, ad ++ ([32] ++ dg)) ⟨by dsimp only; omega, by dsimp only; simp only [List.length_append, List.length_cons, List.length_nil]; omega, by simp, by dsimp only; rw [← hq3]; simp⟩ (by dsimp only; omega)) (by repeat (first | exact trivial | refine ⟨rfl, ?_⟩)) ⟨rfl, rfl, trivial⟩
   ·
    obtain rfl : j = 5 := by omega
    rw [List.drop_eq_nil_of_le (by omega), List.map_nil, List.flatten_nil, List.append_nil] at hq3
    refine .exit rfl ?_
    refine .region rfl ?_
    refine R.callX (es := [_, _]) [1] (ws1 ad (by omega) [10] (by decide)) (h := ?_)
    rw [hq3]
    refine .n0 ?_
    refine .inBlock ?_
    refine .region rfl ?_
    first | refine R.add (h := ?_) | refine R.addW (h := ?_)
    refine R.move (h := ?_)
    refine .n0 ?_
    refine .inLoop ?_
    exact LGo.next _ (fun o h => by have := (hA o).1 h; omega) (by omega) (ih2 (m + 1, ac ++ Z) ⟨by dsimp only; omega, by dsimp only; rw [← hq3, List.length_append, List.length_cons, List.length_nil]; omega, by rw [← hq3]; simp, by dsimp only; rw [← hq2]; simp⟩ (by dsimp only; omega)) (by repeat (first | exact trivial | refine ⟨rfl, ?_⟩)) ⟨rfl, rfl, trivial⟩
  ·
   rw [List.drop_eq_nil_of_le (show s.ents.length ≤ m by omega), List.map_nil, List.flatten_nil, List.append_nil] at hq2
   subst hq2
   refine .exit rfl ?_
   refine .seq ?_
   refine .region rfl ?_
   refine R.callX (es := [_]) [1] (bs1 ac hcn (by omega)) (h := ?_)
   refine R.assign (h := ?_)
   refine R.assign (h := ?_)
   refine .n0 ?_
   exact LGo.ret (ret_TT Tryd.results29 hA hmd)

end Go.Proofs.YtgcjjndhohellaaDoor
