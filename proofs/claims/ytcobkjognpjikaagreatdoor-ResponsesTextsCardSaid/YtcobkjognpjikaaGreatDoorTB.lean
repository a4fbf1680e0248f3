/- responses, the reference: Print, what is read from the fields of a line, Parse. -/
import Derived.Test.YtcobkjognpjikaaGreatDoorTA
import Derived.Test.YtcobkjognpjikaaGreatDoorPB
set_option linter.unusedSimpArgs false
set_option linter.unusedVariables false
namespace Go.Proofs.YtcobkjognpjikaaGreatDoor

/-! the reference -/
def readL : List Rule → List Fd → Option (List Fld)
  | [], _ => some []
  | _ :: _, [] => none
  | x :: rs, f :: fs => if (!decide (f.q = decide (x.kind = 2))) = true then none else if f.q = true then (readL rs fs).map (⟨x.tag, 0, f.s⟩ :: ·) else
      if (!decide ((intW f.s 0 9223372036854775807).2 = 0) || decide (x.high < (intW f.s 0 9223372036854775807).1)) = true then none else (readL rs fs).map (⟨x.tag, (intW f.s 0 9223372036854775807).1, []⟩ :: ·)
def fitsT (rs : List Rule) (fs : List Fd) : Option (List Fld) := if (!decide ((fs.length : Int) = rs.length)) = true then none else readL rs fs
def tryR (k : Int) (bad : Bool) (fs : List Fd) : Rs × Bool := match fitsT (rulesT k bad) fs with
  | none => (zeroS, false)
  | some l => if (decide ((!decide ((foldS k l).err = 0)) = bad) && decide (refCheckT (foldS k l) = 0)) = true then (foldS k l, true) else (zeroS, false)
def wordT (k : Int) : List UInt8 := if k = 0 then [110, 111, 110, 101] else rsNames2.getD k.toNat []
def parseGoT (nm : List UInt8) (fs : List Fd) : Nat → Nat → Rs × Int
  | 0, _ => (zeroS, 6)
  | n + 1, k => if nm = wordT (k : Int) then (if (tryR k false fs).2 = true then ((tryR k false fs).1, 0) else if (tryR k true fs).2 = true then ((tryR k true fs).1, 0) else parseGoT nm fs n (k + 1)) else parseGoT nm fs n (k + 1)
def parseT (line : List UInt8) : Rs × Int := if ((!decide ((split1 line).2 = 0) || decide (((split1 line).1.length : Int) = 0)) || (fd0 (split1 line).1).q) = true then (zeroS, 6) else parseGoT (fd0 (split1 line).1).s ((split1 line).1.drop 1) 14 0

theorem names2_at {k : Int} (h0 : 0 ≤ k) (h1 : k < 14) (h : ¬ k = 0) : (strsC rsNames2)[k.toNat]? = some [.val (.string ⟨(wordT k).toArray⟩)] := by
  have h2 : k.toNat < rsNames2.length := by simp [rsNames2]; omega
  rw [strsC, List.getElem?_map, wordT, if_neg h, List.getD_eq_getElem?_getD, List.getElem?_eq_getElem h2]
  rfl

theorem wordT_P (k : Int) (h0 : 0 ≤ k) (h1 : k < 14) : PC Tryz.prog 24 [.i k] (.t (wordT k)) := by
 refine ⟨LC.of_go Tryz.func24 (c := _) rfl (by kernel_rfl) (by rw [Tryz.ntmps24]; simp) rfl rfl (by simp [LO.lt, LV.lts, LV.lt]) (by simp) ?_⟩
 intro B hA hmd
 refine .seq ?_
 refine .region rfl ?_
 refine R.assign (h := ?_)
 refine .n0 ?_
 refine .seq ?_
 refine .seq ?_
 refine .region rfl ?_
 refine R.move (h := ?_)
 refine R.bin (run_eql _ _ _ _ _ _) (h := ?_)
 refine .n0 ?_
 refine LGo.ifd (ht := fun hc => ?_) (hf := fun hc => ?_)
 ·
  rw [show wordT k = [110, 111, 110, 101] from if_pos hc]
  refine .seq ?_
  refine .region rfl ?_
  refine R.assign (h := ?_)
  refine .n0 ?_
  exact LGo.ret (ret_T Tryz.results24 hA hmd)
 ·
  have hx := names2_at h0 h1 hc
  refine .skip ?_
  refine .seq ?_
  refine .region rfl ?_
  refine R.buildSliceF AP50 (strsC rsNames2) (xs := [_, _, _, _, _, _, _, _, _, _, _, _, _, _]) (es := [_, _, _, _, _, _, _, _, _, _, _, _, _, _]) (hcs := CellsOfs.cons (CellsOf.one rfl) (CellsOfs.cons (CellsOf.one rfl) (CellsOfs.cons (CellsOf.one rfl) (CellsOfs.cons (CellsOf.one rfl) (CellsOfs.cons (CellsOf.one rfl) (CellsOfs.cons (CellsOf.one rfl) (CellsOfs.cons (CellsOf.one rfl) (CellsOfs.cons (CellsOf.one rfl) (CellsOfs.cons (CellsOf.one rfl) (CellsOfs.cons (CellsOf.one rfl) (CellsOfs.cons (CellsOf.one rfl) (CellsOfs.cons (CellsOf.one rfl) (CellsOfs.cons (CellsOf.one rfl) (CellsOfs.cons (CellsOf.one rfl) (CellsOfs.nil))))))))))))))) (h := ?_)
  refine R.move (h := ?_)
  refine R.index I50 (hj := fun hg => ⟨by omega, hx⟩) (h := ?_)
  first | refine R.loadB O9 (h := ?_) | refine R.load1 O9 (h := ?_)
  refine R.assign (h := ?_)
  refine .n0 ?_
  exact LGo.ret (ret_T Tryz.results24 hA hmd)

def partR (f : Fld) : List UInt8 := if (decide (f.tag = 3) || decide (f.tag = 4)) = true then quote f.txt else Lib.itoa (IntKind.i64.wrap f.num)
def textR (w : List UInt8) (l : List Fld) : List UInt8 := l.foldl (fun s f => s ++ [32] ++ partR f) w
def printT (r : Rs) : List UInt8 × Int := if (!decide (refCheckT r = 0)) = true then ([], refCheckT r) else (textR (wordT r.kind) (messageT r), 0)
theorem textR_app (w : List UInt8) (l : List Fld) (f : Fld) : textR w (l ++ [f]) = textR w l ++ [32] ++ partR f := by unfold textR; rw [List.foldl_append]; rfl
theorem partR_len {f : Fld} (h4 : f.txt.length ≤ 500) : (partR f).length ≤ 2002 := by
  have h3 := quote_len f.txt
  have h2 := itoa_le (n := IntKind.i64.wrap f.num) (by rw [IntKind.wrap_i64]; omega) (by rw [IntKind.wrap_i64]; omega)
  unfold partR
  (repeat' split) <;> omega
theorem textR_len : ∀ (l : List Fld) (w : List UInt8), (∀ f ∈ l, f.txt.length ≤ 500) → (textR w l).length ≤ w.length + l.length * 2003
  | [], w, _ => by simp [textR]
  | f :: l, w, h => by
    have h1 := textR_len l (w ++ [32] ++ partR f) (fun g hg => h g (by simp [hg]))
    have h2 := partR_len (h f (by simp))
    have e : textR w (f :: l) = textR (w ++ [32] ++ partR f) l := rfl
    rw [e]
    simp only [List.length_append, List.length_cons, List.length_nil] at h1 ⊢
    omega
theorem wordT_len (k : Int) : (wordT k).length ≤ 8 := by
  unfold wordT
  split
  · simp
  · rw [List.getD_eq_getElem?_getD]
    by_cases h : k.toNat < rsNames2.length
    · have key : ∀ j : Fin rsNames2.length, (rsNames2[j.1]?.getD []).length ≤ 8 := by decide
      exact key ⟨k.toNat, h⟩
    · rw [List.getElem?_eq_none (by omega)]; simp
theorem messageT_500 {r : Rs} (hr : RsOk r) (hs : r.ses.length ≤ 500 ∧ r.tic.length ≤ 500) : ∀ f ∈ messageT r, f.txt.length ≤ 500 := fun f hf => by
  rw [← msg_eq] at hf
  exact (msgS_500 hr hs f hf).2
theorem messageT_5 (r : Rs) : (messageT r).length ≤ 5 := by rw [← msg_eq]; exact msgS_len r
theorem kind_14 {r : Rs} (hr : RsOk r) (h : refCheckT r = 0) : 0 ≤ r.kind ∧ r.kind < 14 := known_lt (checkS_known (by rw [checkS_eq r hr]; exact h))

theorem printT_P (r : Rs) (hr : RsOk r) (hs : r.ses.length ≤ 500 ∧ r.tic.length ≤ 500) : PC Tryz.prog 8 [.agg (r.c.map LV.sv)] (.tup [.t (printT r).1, .i (printT r).2]) := by
 refine ⟨LC.of_go Tryz.func8 (c := _) rfl (by kernel_rfl) (by rw [Tryz.ntmps8]; simp) rfl rfl (by simp [LO.lt, LV.lts, LV.lt]) (by simp) ?_⟩
 intro B hA hmd
 obtain ⟨g, e0⟩ : ∃ g, printT r = g := ⟨_, rfl⟩
 have e1 := e0
 unfold printT at e1
 rw [e0]
 have hall := messageT_500 hr hs
 have hml := messageT_5 r
 have hwl := wordT_len r.kind
 refine .seq ?_
 refine .region rfl ?_
 refine R.box (h := ?_)
 refine R.assign (h := ?_)
 refine R.assign (h := ?_)
 refine .n0 ?_
 refine .seq ?_
 refine .region rfl ?_
 first | refine R.loadA A25 (h := ?_) | refine R.loadN A25 (h := ?_) | refine R.loadP A25 (h := ?_)
 refine R.callP (es := [_]) (fun _ => refCheckT_P r hr) (h := ?_)
 refine R.assign (h := ?_)
 refine .n0 ?_
 refine .seq ?_
 refine .seq ?_
 refine .region rfl ?_
 refine R.move (h := ?_)
 refine R.bin (run_neq _ _ _ _ _ _) (h := ?_)
 refine .n0 ?_
 refine LGo.ifb (ht := fun hc => ?_) (hf := fun hc => ?_)
 ·
  rw [if_pos hc] at e1; rw [← e1]
  refine .seq ?_
  refine .region rfl ?_
  refine R.move (h := ?_)
  refine R.assign (h := ?_)
  refine R.assign (h := ?_)
  refine .n0 ?_
  exact LGo.ret (ret_TT Tryz.results8 hA hmd)
 ·
  rw [if_neg (by rw [hc]; simp)] at e1; rw [← e1]
  have hk := kind_14 hr (by simpa using hc)
  refine .skip ?_
  refine .seq ?_
  refine .region rfl ?_
  first | refine R.field F25_0 (h := ?_) | refine R.fieldAt F25_0 (h := ?_)
  first | refine R.loadB O3 (h := ?_) | refine R.load1 O3 (h := ?_)
  refine R.callP (es := [_]) (fun _ => wordT_P r.kind hk.1 hk.2) (h := ?_)
  refine R.assign (h := ?_)
  refine .n0 ?_
  refine .seq ?_
  refine .region rfl ?_
  first | refine R.loadA A25 (h := ?_) | refine R.loadN A25 (h := ?_) | refine R.loadP A25 (h := ?_)
  refine R.callP (es := [_]) (fun _ => messageT_P r) (h := ?_)
  generalize messageT r = l at hall hml ⊢
  refine R.assign (h := ?_)
  refine .n0 ?_
  refine .seq ?_
  refine .seq ?_
  refine .region rfl ?_
  refine R.assign (h := ?_)
  refine .n0 ?_
  refine .block ?_
  refine .loop ?_
  refine LGo.loopG (σ := Nat) (fun x => x ≤ l.length) (fun x => [(7, (true, .i (x : Nat))), (5, (true, .t (textR (wordT r.kind) (l.take x))))]) (fun x => [(0, .box 25 (r.c.map LV.sv))]) (fun x => l.length - x) (0) [(6, _)] (Nat.zero_le _) (by repeat (first | exact trivial | refine ⟨rfl, ?_⟩)) (by repeat (first | exact trivial | refine ⟨rfl, ?_⟩)) (by repeat (first | exact trivial | refine ⟨rfl, ?_⟩)) ?_
  rintro k hk2 ih
  refine .seq ?_
  refine .seq ?_
  refine .region rfl ?_
  refine R.move (h := ?_)
  refine R.move (h := ?_)
  first | refine R.len S61 (h := ?_) | refine R.lenRs S61 (h := ?_) | refine R.lenV (run_lenNil S61) (h := ?_)
  rw [List.length_map]
  refine R.bin (run_lss _ _ _ _ _ _) (h := ?_)
  refine .n0 ?_
  refine LGo.ifd (ht := fun hc2 => ?_) (hf := fun hc2 => ?_)
  ·
   have hlt : k < l.length := by omega
   have hx : (l.map Fld.c)[((k : Nat) : Int).toNat]? = some l[k].c := by simp [hlt]
   have htk : l.take (k + 1) = l.take k ++ [l[k]] := by rw [List.take_succ_eq_append_getElem hlt]
   have hft := hall l[k] (List.getElem_mem hlt)
   have htl := textR_len (l.take k) (wordT r.kind) (fun f hf => hall f (List.mem_of_mem_take hf))
   have hll : (l.take k).length ≤ 16 := by rw [List.length_take]; omega
   have hb : (textR (wordT r.kind) (l.take k)).length ≤ 8 + 16 * 2003 := Nat.le_trans htl (by have := Nat.mul_le_mul_right 2003 hll; omega)
   clear htl
   generalize l[k] = f at hx htk hft
   have hpl := partR_len hft
   refine .skip ?_
   refine .seq ?_
   refine .block ?_
   refine .seq ?_
   refine .region rfl ?_
   refine R.move (h := ?_)
   refine R.move (h := ?_)
   refine R.index I61 (hj := fun hg => ⟨by omega, hx⟩) (h := ?_)
   first | refine R.field F55_0 (h := ?_) | refine R.fieldAt F55_0 (h := ?_)
   first | refine R.loadB O3 (h := ?_) | refine R.load1 O3 (h := ?_)
   refine R.bin (run_eql _ _ _ _ _ _) (h := ?_)
   refine R.move (h := ?_)
   refine R.move (h := ?_)
   refine R.move (h := ?_)
   refine R.index I61 (hj := fun hg => ⟨by (simp at hg; omega), hx⟩) (h := ?_)
   first | refine R.field F55_0 (h := ?_) | refine R.fieldAt F55_0 (h := ?_)
   first | refine R.loadB O3 (h := ?_) | refine R.load1 O3 (h := ?_)
   refine R.bin (run_eql _ _ _ _ _ _) (h := ?_)
   refine R.or (h := ?_)
   refine .n0 ?_
   refine LGo.ifb (ht := fun hc3 => ?_) (hf := fun hc3 => ?_)
   ·
    have he : partR f = quote f.txt := if_pos hc3
    refine .region rfl ?_
    refine R.move (h := ?_)
    refine R.bin (run_addT _ _ _ (textR (wordT r.kind) (l.take k)) ([32]) (by simp; omega)) (h := ?_)
    refine R.move (h := ?_)
    refine R.move (h := ?_)
    refine R.index I61 (hj := fun hg => ⟨by omega, hx⟩) (h := ?_)
    first | refine R.field F55_2 (h := ?_) | refine R.fieldAt F55_2 (h := ?_)
    first | refine R.loadB O9 (h := ?_) | refine R.load1 O9 (h := ?_)
    refine R.callP (es := [_]) (fun _ => quoteR_P f.txt (by omega)) (h := ?_)
    rw [← he]
    refine R.bin (run_addT _ _ _ (textR (wordT r.kind) (l.take k) ++ [32]) (partR f) (by simp; omega)) (h := ?_)
    refine R.assign (h := ?_)
    refine .n0 ?_
    refine .inBlock ?_
    refine .region rfl ?_
    refine R.move (h := ?_)
    first | refine R.add (h := ?_) | refine R.addW (h := ?_)
    refine R.assign (h := ?_)
    refine .n0 ?_
    refine .inLoop ?_
    rw [show textR (wordT r.kind) (l.take k) ++ [32] ++ partR f = textR (wordT r.kind) (l.take (k + 1)) from by rw [htk, textR_app]]
    exact LGo.next _ (fun o h => by have := (hA o).1 h; omega) (by omega) (ih (k + 1) hlt (by omega)) (by repeat (first | exact trivial | refine ⟨rfl, ?_⟩)) ⟨rfl, trivial⟩
   ·
    have he : partR f = Lib.itoa (IntKind.i64.wrap f.num) := if_neg (by rw [hc3]; simp)
    refine .region rfl ?_
    refine R.move (h := ?_)
    refine R.bin (run_addT _ _ _ (textR (wordT r.kind) (l.take k)) ([32]) (by simp; omega)) (h := ?_)
    refine R.move (h := ?_)
    refine R.move (h := ?_)
    refine R.index I61 (hj := fun hg => ⟨by omega, hx⟩) (h := ?_)
    first | refine R.field F55_1 (h := ?_) | refine R.fieldAt F55_1 (h := ?_)
    first | refine R.loadB O22 (h := ?_) | refine R.load1 O22 (h := ?_)
    refine R.convW Tryz.runUnderlying22 Tryz.runUnderlying2 (h := ?_)
    refine R.callP (es := [_]) (fun _ => digitsR_P (IntKind.i64.wrap f.num) (by rw [IntKind.wrap_i64]; omega) (by rw [IntKind.wrap_i64]; omega)) (h := ?_)
    rw [← he]
    refine R.bin (run_addT _ _ _ (textR (wordT r.kind) (l.take k) ++ [32]) (partR f) (by simp; omega)) (h := ?_)
    refine R.assign (h := ?_)
    refine .n0 ?_
    refine .inBlock ?_
    refine .region rfl ?_
    refine R.move (h := ?_)
    first | refine R.add (h := ?_) | refine R.addW (h := ?_)
    refine R.assign (h := ?_)
    refine .n0 ?_
    refine .inLoop ?_
    rw [show textR (wordT r.kind) (l.take k) ++ [32] ++ partR f = textR (wordT r.kind) (l.take (k + 1)) from by rw [htk, textR_app]]
    exact LGo.next _ (fun o h => by have := (hA o).1 h; omega) (by omega) (ih (k + 1) hlt (by omega)) (by repeat (first | exact trivial | refine ⟨rfl, ?_⟩)) ⟨rfl, trivial⟩
  ·
   obtain rfl : k = l.length := by omega
   rw [List.take_length]
   refine .exit rfl ?_
   refine .seq ?_
   refine .region rfl ?_
   refine R.move (h := ?_)
   refine R.assign (h := ?_)
   refine R.assign (h := ?_)
   refine .n0 ?_
   exact LGo.ret (ret_TT Tryz.results8 hA hmd)

def optF : Option (List Fld) → List Fld × Bool
  | none => ([], false)
  | some l => (l, true)
theorem tryR_opt (k : Int) (bad : Bool) (fs : List Fd) : tryR k bad fs = if ((optF (fitsT (rulesT k bad) fs)).2 && decide ((!decide ((foldS k (optF (fitsT (rulesT k bad) fs)).1).err = 0)) = bad) && decide (refCheckT (foldS k (optF (fitsT (rulesT k bad) fs)).1) = 0)) = true then (foldS k (optF (fitsT (rulesT k bad) fs)).1, true) else (zeroS, false) := by
  unfold tryR
  cases fitsT (rulesT k bad) fs with
  | none => simp [optF]
  | some l => cases bad <;> by_cases h1 : (foldS k l).err = 0 <;> by_cases h2 : refCheckT (foldS k l) = 0 <;> simp [optF, h1, h2]

theorem fitsT_P (rs : List Rule) (fs : List Fd) (hr : Low63 rs) (hrl : rs.length ≤ 100) (hf : fs.length ≤ 10000) (hfl : ∀ f ∈ fs, f.s.length ≤ 100000) : PC Tryz.prog 34 [.sv (.sl 5 (rs.map Rule.c)), .sv (.sl 2 (fs.map Fd.c))] (.tup [.sv (.sl 3 ((optF (fitsT rs fs)).1.map Fld.c)), .b (optF (fitsT rs fs)).2]) := by
 refine ⟨LC.of_go Tryz.func34 (c := _) rfl (by kernel_rfl) (by rw [Tryz.ntmps34]; simp) rfl rfl (by simp [LO.lt, LV.lts, LV.lt]) (by simp) ?_⟩
 intro B hA hmd
 obtain ⟨g, e0⟩ : ∃ g, fitsT rs fs = g := ⟨_, rfl⟩
 have e1 := e0
 unfold fitsT at e1
 rw [e0]
 refine .seq ?_
 refine .region rfl ?_
 refine R.assign (h := ?_)
 refine R.assign (h := ?_)
 refine .n0 ?_
 refine .seq ?_
 refine .seq ?_
 refine .region rfl ?_
 refine R.move (h := ?_)
 first | refine R.len S64 (h := ?_) | refine R.lenRs S64 (h := ?_) | refine R.lenV (run_lenNil S64) (h := ?_)
 rw [List.length_map]
 refine R.move (h := ?_)
 first | refine R.len S72 (h := ?_) | refine R.lenRs S72 (h := ?_) | refine R.lenV (run_lenNil S72) (h := ?_)
 rw [List.length_map]
 refine R.bin (run_neq _ _ _ _ _ _) (h := ?_)
 refine .n0 ?_
 refine LGo.ifb (ht := fun hc => ?_) (hf := fun hc => ?_)
 ·
  rw [if_pos hc] at e1; rw [← e1]; rw [show optF none = ([], false) from rfl]
  refine .seq ?_
  refine .region rfl ?_
  refine R.assign (h := ?_)
  refine R.assign (h := ?_)
  refine .n0 ?_
  first | refine LGo.frzT 4 (h := ?_) | refine LGo.nilSl 4 3 (h := ?_) | skip
  exact LGo.ret (ret_TT Tryz.results34 hA hmd)
 ·
  rw [if_neg (by rw [hc]; simp)] at e1
  have hle : fs.length = rs.length := by simp at hc; omega
  refine .skip ?_
  refine .seq ?_
  refine .region rfl ?_
  refine R.assign (h := ?_)
  refine .n0 ?_
  refine .seq ?_
  refine .seq ?_
  refine .region rfl ?_
  refine R.assign (h := ?_)
  refine .n0 ?_
  refine .block ?_
  refine .loop ?_
  refine LGo.nilRs 6 55 3 (h := ?_)
  refine LGo.loopG (σ := Nat × List Fld) (fun x => x.1 ≤ rs.length ∧ x.2.length ≤ x.1 ∧ (readL (rs.drop x.1) (fs.drop x.1)).map (x.2 ++ ·) = g) (fun x => [(7, (true, .i (x.1 : Nat))), (6, (true, .ref 0))]) (fun x => [(0, .rs 55 3 (x.2.map Fld.c))]) (fun x => rs.length - x.1) (0, []) [(0, _), (1, _)] ⟨Nat.zero_le _, Nat.zero_le _, by rw [← e1]; show (readL rs fs).map _ = _; cases readL rs fs <;> rfl⟩ (by repeat (first | exact trivial | refine ⟨rfl, ?_⟩)) (by repeat (first | exact trivial | refine ⟨rfl, ?_⟩)) (by repeat (first | exact trivial | refine ⟨rfl, ?_⟩)) ?_
  rintro ⟨k, acc⟩ ⟨hk, hal, hq⟩ ih
  dsimp only at * 
  refine .seq ?_
  refine .seq ?_
  refine .region rfl ?_
  refine R.move (h := ?_)
  refine R.move (h := ?_)
  first | refine R.len S72 (h := ?_) | refine R.lenRs S72 (h := ?_) | refine R.lenV (run_lenNil S72) (h := ?_)
  rw [List.length_map]
  refine R.bin (run_lss _ _ _ _ _ _) (h := ?_)
  refine .n0 ?_
  refine LGo.ifd (ht := fun hc2 => ?_) (hf := fun hc2 => ?_)
  ·
   have hlt : k < rs.length := by omega
   have hlt2 : k < fs.length := by omega
   have hx : (rs.map Rule.c)[((k : Nat) : Int).toNat]? = some rs[k].c := by simp [hlt]
   have hy : (fs.map Fd.c)[((k : Nat) : Int).toNat]? = some fs[k].c := by simp [hlt2]
   have hd : rs.drop k = rs[k] :: rs.drop (k + 1) := List.drop_eq_getElem_cons hlt
   have hd2 : fs.drop k = fs[k] :: fs.drop (k + 1) := List.drop_eq_getElem_cons hlt2
   obtain ⟨-, hx1, hx2, hx3, hx4⟩ := hr rs[k] (List.getElem_mem hlt)
   have hfs := hfl fs[k] (List.getElem_mem hlt2)
   rw [hd, hd2, readL] at hq
   generalize rs[k] = x at hx hq hx1 hx2 hx3 hx4
   generalize fs[k] = f at hy hq hfs
   clear hd hd2
   have hin : 0 ≤ (intW f.s 0 9223372036854775807).1 ∧ (intW f.s 0 9223372036854775807).1 ≤ 9223372036854775807 := by rw [intW_cases]; (repeat' split) <;> (try dsimp only) <;> omega
   refine .skip ?_
   refine .seq ?_
   refine .block ?_
   refine .seq ?_
   refine .region rfl ?_
   refine R.move (h := ?_)
   refine R.move (h := ?_)
   refine R.index I72 (hj := fun hg => ⟨by omega, hx⟩) (h := ?_)
   first | refine R.field F88_0 (h := ?_) | refine R.fieldAt F88_0 (h := ?_)
   first | refine R.loadB O3 (h := ?_) | refine R.load1 O3 (h := ?_)
   refine R.build BF55 (is := [0]) (xs := [_]) (es := [_]) (h := ?_)
   refine R.alloc Z55 (h := ?_)
   refine R.storeA A55 (h := ?_)
   refine .n0 ?_
   refine .seq ?_
   refine .seq ?_
   refine .region rfl ?_
   refine R.move (h := ?_)
   refine R.move (h := ?_)
   refine R.index I64 (hj := fun hg => ⟨by omega, hy⟩) (h := ?_)
   first | refine R.field F68_1 (h := ?_) | refine R.fieldAt F68_1 (h := ?_)
   first | refine R.loadB O4 (h := ?_) | refine R.load1 O4 (h := ?_)
   refine R.move (h := ?_)
   refine R.move (h := ?_)
   refine R.index I72 (hj := fun hg => ⟨by omega, hx⟩) (h := ?_)
   first | refine R.field F88_1 (h := ?_) | refine R.fieldAt F88_1 (h := ?_)
   first | refine R.loadB O3 (h := ?_) | refine R.load1 O3 (h := ?_)
   refine R.bin (run_eql _ _ _ _ _ _) (h := ?_)
   refine R.bin (run_neqB Tryz.underlying4 _ _ _ _) (h := ?_)
   refine Reg.nil ⟨fun _ => ⟨mixedO, by rfl, by rfl⟩, ?_⟩
   refine LGo.ifb (ht := fun hc3 => ?_) (hf := fun hc3 => ?_)
   ·
    rw [if_pos hc3, Option.map_none] at hq; rw [← hq]; rw [show optF none = ([], false) from rfl]
    refine .seq ?_
    refine .region rfl ?_
    refine R.assign (h := ?_)
    refine R.assign (h := ?_)
    refine .n0 ?_
    first | refine LGo.frzT 4 (h := ?_) | refine LGo.nilSl 4 3 (h := ?_) | skip
    exact LGo.ret (ret_TT Tryz.results34 hA hmd)
   ·
    rw [if_neg (by rw [hc3]; simp)] at hq
    refine .skip ?_
    refine .seq ?_
    refine .seq ?_
    refine .region rfl ?_
    refine R.move (h := ?_)
    refine R.move (h := ?_)
    refine R.index I64 (hj := fun hg => ⟨by omega, hy⟩) (h := ?_)
    first | refine R.field F68_1 (h := ?_) | refine R.fieldAt F68_1 (h := ?_)
    first | refine R.loadB O4 (h := ?_) | refine R.load1 O4 (h := ?_)
    refine .n0 ?_
    refine LGo.ifb (ht := fun hc4 => ?_) (hf := fun hc4 => ?_)
    ·
     rw [if_pos hc4, Option.map_map] at hq
     obtain ⟨fx, hfx⟩ : ∃ fx : Fld, fx = ⟨x.tag, 0, f.s⟩ := ⟨_, rfl⟩
     rw [← hfx] at hq
     refine .region rfl ?_
     refine R.move (h := ?_)
     refine R.move (h := ?_)
     refine R.index I64 (hj := fun hg => ⟨by omega, hy⟩) (h := ?_)
     first | refine R.field F68_0 (h := ?_) | refine R.fieldAt F68_0 (h := ?_)
     first | refine R.loadB O9 (h := ?_) | refine R.load1 O9 (h := ?_)
     first | refine R.field F55_2 (h := ?_) | refine R.fieldAt F55_2 (h := ?_)
     refine R.storeB O9 (h := ?_)
     refine .n0 ?_
     refine .region rfl ?_
     refine R.move (h := ?_)
     first | refine R.loadA A55 (h := ?_) | refine R.loadN A55 (h := ?_) | refine R.loadP A55 (h := ?_)
     refine R.buildSliceG AP61 (xs := [_]) (es := [_]) (hcs := CellsOfs.cons (CellsOf.agg rfl) CellsOfs.nil) (h := ?_)
     refine R.appendS AP61 (hs := SrcOk.sl Tryz.underlying61 (by simp; rfl)) (hlen := by simp; omega) (h := ?_)
     refine R.assign (h := ?_)
     refine .n0 ?_
     refine .inBlock ?_
     refine .region rfl ?_
     refine R.move (h := ?_)
     first | refine R.add (h := ?_) | refine R.addW (h := ?_)
     refine R.assign (h := ?_)
     refine .n0 ?_
     refine .inLoop ?_
     exact LGo.turn [2] (b := 0) (fun o h => by have := (hA o).1 h; omega) (ih (k + 1, acc ++ [fx]) ⟨by dsimp only; omega, by dsimp only; rw [List.length_append, List.length_cons, List.length_nil]; omega, by dsimp only; rw [← hq]; congr 1; funext l; simp⟩ (by dsimp only; omega)) (by repeat (first | exact trivial | refine ⟨rfl, ?_⟩)) ⟨by rw [List.map_append, hfx]; rfl, trivial⟩
    ·
     rw [if_neg (by rw [hc4]; simp)] at hq
     refine .seq ?_
     refine .region rfl ?_
     refine R.move (h := ?_)
     refine R.move (h := ?_)
     refine R.index I64 (hj := fun hg => ⟨by omega, hy⟩) (h := ?_)
     first | refine R.field F68_0 (h := ?_) | refine R.fieldAt F68_0 (h := ?_)
     first | refine R.loadB O9 (h := ?_) | refine R.load1 O9 (h := ?_)
     refine R.callP (es := [_, _, _]) (fun _ => intR_P f.s 0 9223372036854775807 hfs) (h := ?_)
     rw [int_both]
     refine R.move (h := ?_)
     refine R.extract (h := ?_)
     refine R.extract (h := ?_)
     refine R.assign (h := ?_)
     refine R.assign (h := ?_)
     refine .n0 ?_
     refine .seq ?_
     refine .seq ?_
     refine .region rfl ?_
     refine R.move (h := ?_)
     refine R.bin (run_neq _ _ _ _ _ _) (h := ?_)
     refine R.move (h := ?_)
     refine R.move (h := ?_)
     refine R.convI Tryz.runUnderlying2 Tryz.runUnderlying22 (h := ?_)
     refine R.move (h := ?_)
     refine R.move (h := ?_)
     refine R.index I72 (hj := fun hg => ⟨by (simp at hg; omega), hx⟩) (h := ?_)
     first | refine R.field F88_3 (h := ?_) | refine R.fieldAt F88_3 (h := ?_)
     first | refine R.loadB O22 (h := ?_) | refine R.load1 O22 (h := ?_)
     refine R.bin (run_gtr _ _ _ _ _ _) (h := ?_)
     refine R.or (h := ?_)
     refine .n0 ?_
     refine LGo.ifb (ht := fun hc5 => ?_) (hf := fun hc5 => ?_)
     ·
      rw [if_pos hc5, Option.map_none] at hq; rw [← hq]; rw [show optF none = ([], false) from rfl]
      refine .seq ?_
      refine .region rfl ?_
      refine R.assign (h := ?_)
      refine R.assign (h := ?_)
      refine .n0 ?_
      first | refine LGo.frzT 4 (h := ?_) | refine LGo.nilSl 4 3 (h := ?_) | skip
      exact LGo.ret (ret_TT Tryz.results34 hA hmd)
     ·
      rw [if_neg (by rw [hc5]; simp), Option.map_map] at hq
      obtain ⟨fx, hfx⟩ : ∃ fx : Fld, fx = ⟨x.tag, (intW f.s 0 9223372036854775807).1, []⟩ := ⟨_, rfl⟩
      rw [← hfx] at hq
      refine .skip ?_
      refine .region rfl ?_
      refine R.move (h := ?_)
      refine R.convI Tryz.runUnderlying2 Tryz.runUnderlying22 (h := ?_)
      first | refine R.field F55_1 (h := ?_) | refine R.fieldAt F55_1 (h := ?_)
      refine R.storeB O22 (h := ?_)
      refine .n0 ?_
      refine .region rfl ?_
      refine R.move (h := ?_)
      first | refine R.loadA A55 (h := ?_) | refine R.loadN A55 (h := ?_) | refine R.loadP A55 (h := ?_)
      refine R.buildSliceG AP61 (xs := [_]) (es := [_]) (hcs := CellsOfs.cons (CellsOf.agg rfl) CellsOfs.nil) (h := ?_)
      refine R.appendS AP61 (hs := SrcOk.sl Tryz.underlying61 (by simp; rfl)) (hlen := by simp; omega) (h := ?_)
      refine R.assign (h := ?_)
      refine .n0 ?_
      refine .inBlock ?_
      refine .region rfl ?_
      refine R.move (h := ?_)
      first | refine R.add (h := ?_) | refine R.addW (h := ?_)
      refine R.assign (h := ?_)
      refine .n0 ?_
      refine .inLoop ?_
      exact LGo.turn [2] (b := 0) (fun o h => by have := (hA o).1 h; omega) (ih (k + 1, acc ++ [fx]) ⟨by dsimp only; omega, by dsimp only; rw [List.length_append, List.length_cons, List.length_nil]; omega, by dsimp only; rw [← hq]; congr 1; funext l; simp⟩ (by dsimp only; omega)) (by repeat (first | exact trivial | refine ⟨rfl, ?_⟩)) ⟨by rw [List.map_append, hfx]; rfl, trivial⟩
  ·
   rw [List.drop_eq_nil_of_le (show rs.length ≤ k by omega), readL, Option.map_some, List.append_nil] at hq
   rw [← hq]
   rw [show optF (some acc) = (acc, true) from rfl]
   refine .exit rfl ?_
   refine .seq ?_
   refine .region rfl ?_
   refine R.move (h := ?_)
   refine R.assign (h := ?_)
   refine R.assign (h := ?_)
   refine .n0 ?_
   first | refine LGo.frzT 4 (h := ?_) | refine LGo.nilSl 4 3 (h := ?_) | skip
   exact LGo.ret (ret_TT Tryz.results34 hA hmd)

theorem parseGoT_step (nm : List UInt8) (fs : List Fd) (n k : Nat) : parseGoT nm fs (n + 1) k = if nm = wordT (k : Int) then (if (tryR k false fs).2 = true then ((tryR k false fs).1, 0) else if (tryR k true fs).2 = true then ((tryR k true fs).1, 0) else parseGoT nm fs n (k + 1)) else parseGoT nm fs n (k + 1) := rfl
theorem rulesT_63 (k : Int) (bad : Bool) : Low63 (rulesT k bad) := by
  have h : ∃ e : Int, (!decide (e = 0)) = bad := by cases bad; exact ⟨0, rfl⟩; exact ⟨1, rfl⟩
  obtain ⟨e, rfl⟩ := h
  rw [← limits_eq]
  exact limitsS_63 k e
theorem readL_ok : ∀ (rs : List Rule) (fs : List Fd) (l : List Fld), (∀ f ∈ fs, f.s.length ≤ 2000) → readL rs fs = some l → (∀ x ∈ l, FldL x) ∧ l.length ≤ rs.length
  | [], fs, l, _, h => by rw [readL] at h; cases h; simp
  | x :: rs, [], l, _, h => by rw [readL] at h; cases h
  | x :: rs, f :: fs, l, hf, h => by
    have key : ∀ y : Fld, FldL y → (readL rs fs).map (y :: ·) = some l → (∀ x ∈ l, FldL x) ∧ l.length ≤ (x :: rs).length := by
      intro y hy h
      cases hr : readL rs fs with
      | none => rw [hr] at h; cases h
      | some m =>
        rw [hr] at h
        simp only [Option.map_some, Option.some.injEq] at h
        subst h
        obtain ⟨k1, k2⟩ := readL_ok rs fs m (fun g hg => hf g (by simp [hg])) hr
        exact ⟨fun z hz => (List.mem_cons.1 hz).elim (fun e => by rw [e]; exact hy) (k1 z), by simp; omega⟩
    rw [readL] at h
    split at h
    · cases h
    · split at h
      · exact key _ ⟨by simp, by simp, hf f (by simp)⟩ h
      · split at h
        · cases h
        · rename_i h3
          simp only [Bool.or_eq_true, not_or, decide_eq_true_eq, Bool.not_eq_true', decide_eq_false_iff_not, Classical.not_not] at h3
          have hin := intW_in (s := f.s) h3.1
          exact key _ ⟨hin.1, hin.2.1, by simp⟩ h
theorem optF_ok {rs : List Rule} {fs : List Fd} (hf : ∀ f ∈ fs, f.s.length ≤ 2000) : (∀ x ∈ (optF (fitsT rs fs)).1, FldL x) ∧ (optF (fitsT rs fs)).1.length ≤ rs.length := by
  unfold fitsT
  split
  · simp [optF]
  · cases h : readL rs fs with
    | none => simp [optF]
    | some l => exact readL_ok rs fs l hf h

theorem parseT_P (line : List UInt8) : PC Tryz.prog 10 [.t line] (.tup [.agg ((parseT line).1.c.map LV.sv), .i (parseT line).2]) := by
 refine ⟨LC.of_go Tryz.func10 (c := _) rfl (by kernel_rfl) (by rw [Tryz.ntmps10]; simp) rfl rfl (by simp [LO.lt, LV.lts, LV.lt]) (by simp) ?_⟩
 intro B hA hmd
 obtain ⟨g, e0⟩ : ∃ g, parseT line = g := ⟨_, rfl⟩
 have e1 := e0
 unfold parseT at e1
 rw [e0]
 have hsl := split1_len line
 refine .seq ?_
 refine .region rfl ?_
 refine R.alloc Z25 (h := ?_)
 refine R.assign (h := ?_)
 refine .n0 ?_
 refine .seq ?_
 refine .region rfl ?_
 refine R.move (h := ?_)
 refine R.callP (es := [_]) (fun _ => splitR_P line) (h := ?_)
 generalize (split1 line).2 = e at *
 generalize (split1 line).1 = fs at *
 obtain ⟨hl64, hfl⟩ := hsl
 have hrl : (fs.drop 1).length ≤ 64 := by rw [List.length_drop]; omega
 have hfr : ∀ f ∈ fs.drop 1, f.s.length ≤ 2000 := fun f hf => hfl f (List.mem_of_mem_drop hf)
 refine R.move (h := ?_)
 refine R.extract (h := ?_)
 refine R.extract (h := ?_)
 refine R.assign (h := ?_)
 refine R.assign (h := ?_)
 refine .n0 ?_
 refine .seq ?_
 refine .seq ?_
 refine .region rfl ?_
 refine R.move (h := ?_)
 refine R.bin (run_neq _ _ _ _ _ _) (h := ?_)
 refine R.move (h := ?_)
 refine R.move (h := ?_)
 first | refine R.len S64 (h := ?_) | refine R.lenRs S64 (h := ?_) | refine R.lenV (run_lenNil S64) (h := ?_)
 rw [List.length_map]
 refine R.bin (run_eql _ _ _ _ _ _) (h := ?_)
 refine R.or (h := ?_)
 refine R.move (h := ?_)
 refine R.move (h := ?_)
 refine R.index I64 (e := (fd0 fs).c) (hj := fun hg => ⟨by omega, fd0_at (by rintro rfl; simp at hg)⟩) (h := ?_)
 first | refine R.field F68_1 (h := ?_) | refine R.fieldAt F68_1 (h := ?_)
 first | refine R.loadB O4 (h := ?_) | refine R.load1 O4 (h := ?_)
 refine R.or (h := ?_)
 refine .n0 ?_
 refine LGo.ifb (ht := fun hc => ?_) (hf := fun hc => ?_)
 ·
  rw [if_pos hc] at e1; rw [← e1]
  refine .seq ?_
  refine .region rfl ?_
  refine R.build BF25 (is := []) (xs := []) (es := []) (h := ?_)
  refine R.storeA A25 (h := ?_)
  refine R.assign (h := ?_)
  refine .n0 ?_
  exact LGo.ret (ret_AT Tryz.results10 A25 hA hmd)
 ·
  rw [if_neg (by rw [hc]; simp)] at e1
  have hne : fs ≠ [] := by rintro rfl; simp at hc
  have hdr : (fs.map Fd.c).drop (Int.toNat 1) = (fs.drop 1).map Fd.c := by rw [List.map_drop]; rfl
  generalize fs.drop 1 = rest at e1 hrl hfr hdr
  refine .skip ?_
  refine .seq ?_
  refine .seq ?_
  refine .region rfl ?_
  refine R.assign (h := ?_)
  refine .n0 ?_
  refine .block ?_
  refine .loop ?_
  refine LGo.loopG (σ := Nat) (fun x => x ≤ 14 ∧ parseGoT (fd0 fs).s rest (14 - x) x = g) (fun x => [(6, (true, .i (x : Nat)))]) (fun x => [(0, .box 25 (zeroS.c.map LV.sv))]) (fun x => 14 - x) (0) [(2, _), (4, _)] ⟨by omega, e1⟩ (by repeat (first | exact trivial | refine ⟨rfl, ?_⟩)) (by repeat (first | exact trivial | refine ⟨rfl, ?_⟩)) (by repeat (first | exact trivial | refine ⟨rfl, ?_⟩)) ?_
  rintro k ⟨hk, hq⟩ ih
  refine .seq ?_
  refine .seq ?_
  refine .region rfl ?_
  refine R.move (h := ?_)
  refine R.bin (run_leq _ _ _ _ _ _) (h := ?_)
  refine .n0 ?_
  refine LGo.ifd (ht := fun hc2 => ?_) (hf := fun hc2 => ?_)
  ·
   have hk14 : k < 14 := by omega
   rw [show 14 - k = (14 - (k + 1)) + 1 from by omega, parseGoT_step] at hq
   refine .skip ?_
   refine .seq ?_
   refine .block ?_
   refine .seq ?_
   refine .seq ?_
   refine .region rfl ?_
   refine R.move (h := ?_)
   refine R.index I64 (e := (fd0 fs).c) (hj := fun _ => ⟨by omega, fd0_at hne⟩) (h := ?_)
   first | refine R.field F68_0 (h := ?_) | refine R.fieldAt F68_0 (h := ?_)
   first | refine R.loadB O9 (h := ?_) | refine R.load1 O9 (h := ?_)
   refine R.move (h := ?_)
   refine R.callP (es := [_]) (fun _ => wordT_P (k : Int) (by omega) (by omega)) (h := ?_)
   refine R.bin (run_neqT _ _ _ _ _) (h := ?_)
   refine Reg.nil ⟨fun _ => ⟨mixedO, by rfl, by rfl⟩, ?_⟩
   refine LGo.ifb (ht := fun hc3 => ?_) (hf := fun hc3 => ?_)
   ·
    rw [if_neg (show ¬ (fd0 fs).s = wordT (k : Int) from fun h => by rw [h] at hc3; simp at hc3)] at hq
    refine .exit rfl ?_
    refine .region rfl ?_
    refine R.move (h := ?_)
    first | refine R.add (h := ?_) | refine R.addW (h := ?_)
    refine R.assign (h := ?_)
    refine .n0 ?_
    refine .inLoop ?_
    exact LGo.next _ (fun o h => by have := (hA o).1 h; omega) (by omega) (ih (k + 1) ⟨by omega, hq⟩ (by omega)) (by repeat (first | exact trivial | refine ⟨rfl, ?_⟩)) ⟨rfl, trivial⟩
   ·
    rw [if_pos (show (fd0 fs).s = wordT (k : Int) from by simpa using hc3)] at hq
    refine .skip ?_
    refine .seq ?_
    refine .region rfl ?_
    refine R.assign (h := ?_)
    refine .n0 ?_
    refine .block ?_
    refine .loop ?_
    refine LGo.loopG (σ := Nat) (fun x => x ≤ 2 ∧ (0 < x → (tryR (k : Int) false rest).2 = false) ∧ (1 < x → (tryR (k : Int) true rest).2 = false)) (fun x => [(7, (true, .i (x : Nat)))]) (fun x => [(0, .box 25 (zeroS.c.map LV.sv))]) (fun x => 2 - x) (0) [(2, _), (4, _), (6, _)] ⟨by omega, fun h => absurd h (by omega), fun h => absurd h (by omega)⟩ (by repeat (first | exact trivial | refine ⟨rfl, ?_⟩)) (by repeat (first | exact trivial | refine ⟨rfl, ?_⟩)) (by repeat (first | exact trivial | refine ⟨rfl, ?_⟩)) ?_
    rintro j ⟨hj2, hj0, hj1⟩ ih2
    refine .seq ?_
    refine .seq ?_
    refine .region rfl ?_
    refine R.move (h := ?_)
    refine R.bin (run_lss _ _ _ _ _ _) (h := ?_)
    refine .n0 ?_
    refine LGo.ifd (ht := fun hc4 => ?_) (hf := fun hc4 => ?_)
    ·
     have hok := optF_ok (rs := rulesT (k : Int) (decide ((j : Int) = 1))) hfr
     have hll := rulesT_len (k : Int) (decide ((j : Int) = 1))
     have hro : RsOk (foldS (k : Int) (optF (fitsT (rulesT (k : Int) (decide ((j : Int) = 1))) rest)).1) := foldL_ok (by unfold R64; omega) hok.1
     have htr := tryR_opt (k : Int) (decide ((j : Int) = 1)) rest
     refine .skip ?_
     refine .seq ?_
     refine .block ?_
     refine .seq ?_
     refine .region rfl ?_
     refine R.move (h := ?_)
     refine R.move (h := ?_)
     refine R.bin (run_eql _ _ _ _ _ _) (h := ?_)
     refine R.callP (es := [_, _]) (fun _ => rulesT_P (k : Int) (decide ((j : Int) = 1))) (h := ?_)
     refine R.move (h := ?_)
     refine R.sliceLo SF64 (ha := fun _ => by rw [List.length_map]; have := List.length_pos_iff.2 hne; omega) (h := ?_)
     rw [hdr]
     refine R.callP (es := [_, _]) (fun _ => fitsT_P (rulesT (k : Int) (decide ((j : Int) = 1))) rest (rulesT_63 (k : Int) (decide ((j : Int) = 1))) (by omega) (by omega) (fun f hf => by have := hfr f hf; omega)) (h := ?_)
     refine R.move (h := ?_)
     refine R.extract (h := ?_)
     refine R.extract (h := ?_)
     refine R.assign (h := ?_)
     refine R.assign (h := ?_)
     refine Reg.nil ⟨fun _ => ⟨mixedO, by rfl, by rfl⟩, ?_⟩
     refine .seq ?_
     refine .region rfl ?_
     refine R.move (h := ?_)
     refine R.move (h := ?_)
     refine R.callP (es := [_, _]) (fun _ => withT_P (k : Int) (optF (fitsT (rulesT (k : Int) (decide ((j : Int) = 1))) rest)).1 (by omega)) (h := ?_)
     refine R.alloc Z25 (h := ?_)
     refine R.storeA A25 (h := ?_)
     refine .n0 ?_
     refine .seq ?_
     refine .region rfl ?_
     refine R.move (h := ?_)
     refine R.move (h := ?_)
     first | refine R.field F25_2 (h := ?_) | refine R.fieldAt F25_2 (h := ?_)
     first | refine R.loadB O23 (h := ?_) | refine R.load1 O23 (h := ?_)
     refine R.bin (run_neq _ _ _ _ _ _) (h := ?_)
     refine R.move (h := ?_)
     refine R.bin (run_eql _ _ _ _ _ _) (h := ?_)
     refine R.bin (run_eqlB Tryz.underlying4 _ _ _ _) (h := ?_)
     refine R.and (h := ?_)
     refine R.move (h := ?_)
     first | refine R.loadA A25 (h := ?_) | refine R.loadN A25 (h := ?_) | refine R.loadP A25 (h := ?_)
     refine R.callP (es := [_]) (fun _ => refCheckT_P (foldS (k : Int) (optF (fitsT (rulesT (k : Int) (decide ((j : Int) = 1))) rest)).1) hro) (h := ?_)
     refine R.bin (run_eql _ _ _ _ _ _) (h := ?_)
     refine R.and (h := ?_)
     refine .n0 ?_
     refine LGo.ifb (ht := fun hc5 => ?_) (hf := fun hc5 => ?_)
     ·
      rw [if_pos hc5] at htr
      have hg : (foldS (k : Int) (optF (fitsT (rulesT (k : Int) (decide ((j : Int) = 1))) rest)).1, (0 : Int)) = g := by
        rw [← hq]
        rcases (show j = 0 ∨ j = 1 from by omega) with rfl | rfl
        · rw [show decide (((0 : Nat) : Int) = 1) = false from rfl] at htr ⊢
          rw [htr, if_pos rfl]
        · rw [show decide (((1 : Nat) : Int) = 1) = true from rfl] at htr ⊢
          rw [if_neg (by rw [hj0 (by omega)]; simp), htr, if_pos rfl]
      rw [← hg]
      refine .seq ?_
      refine .region rfl ?_
      first | refine R.loadA A25 (h := ?_) | refine R.loadN A25 (h := ?_) | refine R.loadP A25 (h := ?_)
      refine R.storeA A25 (h := ?_)
      refine R.assign (h := ?_)
      refine .n0 ?_
      exact LGo.ret (ret_AT Tryz.results10 A25 hA hmd)
     ·
      rw [if_neg (by rw [hc5]; simp)] at htr
      have hno : (0 < j + 1 → (tryR (k : Int) false rest).2 = false) ∧ (1 < j + 1 → (tryR (k : Int) true rest).2 = false) := by
        rcases (show j = 0 ∨ j = 1 from by omega) with rfl | rfl
        · rw [show decide (((0 : Nat) : Int) = 1) = false from rfl] at htr
          exact ⟨fun _ => by rw [htr], fun h => absurd h (by omega)⟩
        · rw [show decide (((1 : Nat) : Int) = 1) = true from rfl] at htr
          exact ⟨fun _ => hj0 (by omega), fun _ => by rw [htr]⟩
      refine .skip ?_
      refine .inBlock ?_
      refine .region rfl ?_
      refine R.move (h := ?_)
      first | refine R.add (h := ?_) | refine R.addW (h := ?_)
      refine R.assign (h := ?_)
      refine .n0 ?_
      refine .inLoop ?_
      exact LGo.next _ (fun o h => by have := (hA o).1 h; omega) (by omega) (ih2 (j + 1) ⟨by omega, hno⟩ (by omega)) (by repeat (first | exact trivial | refine ⟨rfl, ?_⟩)) ⟨rfl, trivial⟩
    ·
     obtain rfl : j = 2 := by omega
     rw [if_neg (by rw [hj0 (by omega)]; simp), if_neg (by rw [hj1 (by omega)]; simp)] at hq
     refine .exit rfl ?_
     refine .inBlock ?_
     refine .region rfl ?_
     refine R.move (h := ?_)
     first | refine R.add (h := ?_) | refine R.addW (h := ?_)
     refine R.assign (h := ?_)
     refine .n0 ?_
     refine .inLoop ?_
     exact LGo.next _ (fun o h => by have := (hA o).1 h; omega) (by omega) (ih (k + 1) ⟨by omega, hq⟩ (by omega)) (by repeat (first | exact trivial | refine ⟨rfl, ?_⟩)) ⟨rfl, trivial⟩
  ·
   obtain rfl : k = 14 := by omega
   rw [show 14 - 14 = 0 from rfl, parseGoT] at hq
   rw [← hq]
   refine .exit rfl ?_
   refine .seq ?_
   refine .region rfl ?_
   refine R.build BF25 (is := []) (xs := []) (es := []) (h := ?_)
   refine R.storeA A25 (h := ?_)
   refine R.assign (h := ?_)
   refine .n0 ?_
   exact LGo.ret (ret_AT Tryz.results10 A25 hA hmd)

end Go.Proofs.YtcobkjognpjikaaGreatDoor
