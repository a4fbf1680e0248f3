/- requests: Print, and the reference's. -/
import Derived.Test.YtckbomkcnmcdaaaGreatDoorRC
import Derived.Test.YtckbomkcnmcdaaaGreatDoorQL
set_option linter.unusedSimpArgs false
set_option linter.unusedVariables false
namespace Go.Proofs.YtckbomkcnmcdaaaGreatDoor

theorem tabNq : (0, rqNames.map fun l => Value.string ⟨l.toArray⟩) ∈ tabs := by simp [tabs]
def rqName (k : Int) : List UInt8 := rqNames.getD k.toNat []
def partQ (f : Fld) : List UInt8 := if (ruleQ f.tag).kind = 2 then quote f.txt else Lib.decDigits f.num.toNat
def printQ (r : Rq) : List UInt8 × Int := if (!decide ((fieldsOf r).2 = 0)) = true then ([], (fieldsOf r).2) else (Lib.join (rqName r.kind :: (fieldsOf r).1.map partQ) [32], 0)
theorem rqName_at {k : Int} (h0 : 0 ≤ k) (h1 : k < 14) : (rqNames.map fun l => Value.string ⟨l.toArray⟩)[0 + k.toNat * 1]? = some (.string ⟨(rqName k).toArray⟩) := by
  have h : k.toNat < rqNames.length := by simp [rqNames]; omega
  rw [Nat.zero_add, Nat.mul_one, List.getElem?_map, rqName, List.getD_eq_getElem?_getD, List.getElem?_eq_getElem h]
  rfl
theorem digitsQ_20 {n : Int} (h0 : 0 ≤ n) (h1 : n < 18446744073709551616) : (Lib.decDigits n.toNat).length ≤ 21 := decD_le 20 n.toNat (by omega)
theorem partQ_len {f : Fld} (h1 : FldOk f) (h4 : f.txt.length ≤ 500) : (partQ f).length ≤ 2002 := by
  have h2 := digitsQ_20 h1.1 h1.2.1
  have h3 := quote_len f.txt
  unfold partQ
  (repeat' split) <;> omega
theorem joinTailQ_len (sep : List UInt8) (m : Nat) : ∀ l : List (List UInt8), (∀ x ∈ l, x.length ≤ m) → (Lib.joinTail sep l).length ≤ l.length * (m + sep.length)
  | [], _ => by simp [Lib.joinTail]
  | x :: l, h => by
    have h1 := joinTailQ_len sep m l (fun y hy => h y (by simp [hy]))
    have h2 := h x (by simp)
    simp only [Lib.joinTail, List.map_cons, List.flatten_cons, List.length_append, List.length_cons] at h1 ⊢
    rw [Nat.add_mul]
    omega
theorem rqName_len (k : Int) : (rqName k).length ≤ 8 := by
  unfold rqName
  rw [List.getD_eq_getElem?_getD]
  by_cases h : k.toNat < 14
  · have key : ∀ j : Fin 14, (rqNames[j.1]?.getD []).length ≤ 8 := by decide
    exact key ⟨k.toNat, h⟩
  · rw [List.getElem?_eq_none (by simp [rqNames]; omega)]; simp
theorem joinQ_len {r : Rq} (hr : RqOk r) (hs : r.ses.length ≤ 500 ∧ r.tic.length ≤ 500) : (Lib.join (rqName r.kind :: (fieldsOf r).1.map partQ) [32]).length ≤ 30000 := by
  rw [Lib.join_cons, List.length_append]
  have h5 := fieldsOf_500 hr hs
  have h1 := joinTailQ_len [32] 2002 ((fieldsOf r).1.map partQ) (fun x hx => by obtain ⟨f, hf, rfl⟩ := List.mem_map.1 hx; exact partQ_len (h5.1 f hf).1 (h5.1 f hf).2)
  have h2 := h5.2
  have h3 := rqName_len r.kind
  rw [List.length_map] at h1
  have h4 : (fieldsOf r).1.length * (2002 + [(32 : UInt8)].length) ≤ 9 * 2003 := Nat.mul_le_mul h2 (by simp)
  omega
theorem strsC_app1 (l : List (List UInt8)) (s : List UInt8) : strsC (l ++ [s]) = strsC l ++ [[.val (.string ⟨s.toArray⟩)]] := by unfold strsC; rw [List.map_append]; rfl
def wordParts (w : List UInt8) (l : List Fld) : List (List UInt8) := w :: l.map partQ
theorem wordParts_app (w : List UInt8) (l : List Fld) (f : Fld) : wordParts w (l ++ [f]) = wordParts w l ++ [partQ f] := by unfold wordParts; rw [List.map_append]; rfl

theorem printQ_P (r : Rq) (hr : RqOk r) (hs : r.ses.length ≤ 500 ∧ r.tic.length ≤ 500) : PC Tryz.prog 24 [.agg (r.c.map LV.sv)] (.tup [.t (printQ r).1, .i (printQ r).2]) := by
 refine ⟨LC.of_go Tryz.func24 (c := _) rfl (by kernel_rfl) (by rw [Tryz.ntmps24]; simp) rfl rfl (by simp [LO.lt, LV.lts, LV.lt]) (by simp) ?_⟩
 intro B hA hmd
 obtain ⟨g, e0⟩ : ∃ g, printQ r = g := ⟨_, rfl⟩
 have e1 := e0
 unfold printQ at e1
 rw [e0]
 have h5 := fieldsOf_500 hr hs
 have hjl := joinQ_len hr hs
 refine .seq ?_
 refine .region rfl ?_
 refine R.box (h := ?_)
 refine R.assign (h := ?_)
 refine R.assign (h := ?_)
 refine .n0 ?_
 refine .seq ?_
 refine .region rfl ?_
 first | refine R.loadA A35 (h := ?_) | refine R.loadN A35 (h := ?_) | refine R.loadP A35 (h := ?_)
 refine R.callP (es := [_]) (fun _ => fieldsOf_P r hr) (h := ?_)
 refine R.move (h := ?_)
 refine R.extract (h := ?_)
 refine R.extract (h := ?_)
 refine R.assign (h := ?_)
 refine R.assign (h := ?_)
 refine .n0 ?_
 refine .seq ?_
 refine .seq ?_
 refine .region rfl ?_
 refine R.move (h := ?_)
 refine R.bin (run_neq _ _ _ _ _ _) (h := ?_)
 refine .n0 ?_
 refine LGo.ifb (ht := fun hc => ?_) (hf := fun hc => ?_)
 ·
  rw [if_pos hc] at e1; rw [← e1]
  refine .seq ?_
  refine .region rfl ?_
  refine R.move (h := ?_)
  refine R.assign (h := ?_)
  refine R.assign (h := ?_)
  refine .n0 ?_
  exact LGo.ret (ret_TT Tryz.results24 hA hmd)
 ·
  rw [if_neg (by rw [hc]; simp)] at e1; rw [← e1]
  have hk := fieldsOf_kind (r := r) (by simpa using hc)
  have hall := h5.1
  have hl9 := h5.2
  rw [show rqName r.kind :: (fieldsOf r).1.map partQ = wordParts (rqName r.kind) (fieldsOf r).1 from rfl] at hjl ⊢
  generalize (fieldsOf r).1 = l at hall hl9 hjl ⊢
  refine .skip ?_
  refine .seq ?_
  refine .region rfl ?_
  first | refine R.field F35_0 (h := ?_) | refine R.fieldAt F35_0 (h := ?_)
  first | refine R.loadB O3 (h := ?_) | refine R.load1 O3 (h := ?_)
  refine R.gIndex I79 (hj := fun _ => by omega) (h := ?_)
  refine R.gLoad1 O9 (hm := tabNq) (hc := fun _ => rqName_at hk.1 hk.2) (h := ?_)
  refine R.buildSliceR AP80 (xs := [_]) (es := [_]) (hcs := CellsOfs.cons (CellsOf.one rfl) CellsOfs.nil) (h := ?_)
  refine R.assign (h := ?_)
  refine .n0 ?_
  refine .seq ?_
  refine .seq ?_
  refine .region rfl ?_
  refine R.move (h := ?_)
  first | refine R.len S66 (h := ?_) | refine R.lenRs S66 (h := ?_) | refine R.lenV (run_lenNil S66) (h := ?_)
  rw [List.length_map]
  refine R.move (h := ?_)
  refine .n0 ?_
  refine .block ?_
  refine .loop ?_
  refine LGo.loopG (σ := Nat) (fun x => x ≤ l.length) (fun x => [(24, (true, .i (x : Nat))), (6, (true, .ref 1))]) (fun x => [(0, .box 35 (r.c.map LV.sv)), (1, .rs 9 1 (strsC (wordParts (rqName r.kind) (l.take x))))]) (fun x => l.length - x) (0) [(22, _), (23, _)] (Nat.zero_le _) (by repeat (first | exact trivial | refine ⟨rfl, ?_⟩)) (by repeat (first | exact trivial | refine ⟨rfl, ?_⟩)) (by repeat (first | exact trivial | refine ⟨rfl, ?_⟩)) ?_
  rintro k hk2 ih
  refine .seq ?_
  refine .region rfl ?_
  refine R.bin (run_lss _ _ _ _ _ _) (h := ?_)
  refine .n0 ?_
  refine .seq ?_
  refine LGo.ifd (ht := fun hc2 => ?_) (hf := fun hc2 => ?_)
  ·
   have hlt : k < l.length := by omega
   have hx : (l.map Fld.c)[((k : Nat) : Int).toNat]? = some l[k].c := by simp [hlt]
   have htk : l.take (k + 1) = l.take k ++ [l[k]] := by rw [List.take_succ_eq_append_getElem hlt]
   have hfo := (hall l[k] (List.getElem_mem hlt)).1
   have hft := (hall l[k] (List.getElem_mem hlt)).2
   have hll : (l.take k).length ≤ 9 := by rw [List.length_take]; omega
   generalize l[k] = f at hx htk hfo hft
   have hwp : strsC (wordParts (rqName r.kind) (l.take (k + 1))) = strsC (wordParts (rqName r.kind) (l.take k)) ++ [[.val (.string ⟨(partQ f).toArray⟩)]] := by rw [htk, wordParts_app, strsC_app1]
   refine .skip ?_
   refine .seq ?_
   refine .block ?_
   refine .seq ?_
   refine .region rfl ?_
   refine R.index I66 (hj := fun hg => ⟨by omega, hx⟩) (h := ?_)
   first | refine R.loadA A78 (h := ?_) | refine R.loadN A78 (h := ?_) | refine R.loadP A78 (h := ?_)
   refine R.alloc Z78 (h := ?_)
   refine R.storeA A78 (h := ?_)
   refine .n0 ?_
   refine .seq ?_
   refine .seq ?_
   refine .region rfl ?_
   first | refine R.field F78_0 (h := ?_) | refine R.fieldAt F78_0 (h := ?_)
   first | refine R.loadB O3 (h := ?_) | refine R.load1 O3 (h := ?_)
   refine R.callP (es := [_]) (fun _ => ruleQ_P f.tag) (h := ?_)
   refine R.fieldV V30_1 (h := ?_)
   refine R.bin (run_eql _ _ _ _ _ _) (h := ?_)
   refine .n0 ?_
   refine LGo.ifd (ht := fun hc3 => ?_) (hf := fun hc3 => ?_)
   ·
    have he : partQ f = quote f.txt := if_pos hc3
    refine .seq ?_
    refine .region rfl ?_
    refine R.move (h := ?_)
    first | refine R.field F78_2 (h := ?_) | refine R.fieldAt F78_2 (h := ?_)
    first | refine R.loadB O9 (h := ?_) | refine R.load1 O9 (h := ?_)
    refine R.callP (es := [_]) (fun _ => quote_P f.txt (by omega)) (h := ?_)
    refine R.buildSliceG AP80 (xs := [_]) (es := [_]) (hcs := CellsOfs.cons (CellsOf.one rfl) CellsOfs.nil) (h := ?_)
    refine R.appendS AP80 (hs := SrcOk.sl Tryz.underlying80 (by simp)) (hlen := by rw [strsC_length]; unfold wordParts; simp; omega) (h := ?_)
    refine R.assign (h := ?_)
    refine .n0 ?_
    refine .exit rfl ?_
    refine .region rfl ?_
    first | refine R.add (h := ?_) | refine R.addW (h := ?_)
    refine R.move (h := ?_)
    refine .n0 ?_
    refine .inLoop ?_
    exact LGo.turn [0, 3] (b := 0) (fun o h => by have := (hA o).1 h; omega) (ih (k + 1) hlt (by omega)) (by repeat (first | exact trivial | refine ⟨rfl, ?_⟩)) ⟨rfl, by rw [hwp, he]; rfl, trivial⟩
   ·
    have he : partQ f = Lib.decDigits f.num.toNat := if_neg hc3
    refine .skip ?_
    refine .region rfl ?_
    refine R.move (h := ?_)
    first | refine R.field F78_1 (h := ?_) | refine R.fieldAt F78_1 (h := ?_)
    first | refine R.loadB O28 (h := ?_) | refine R.load1 O28 (h := ?_)
    refine R.callP (es := [_, _]) (fun _ => formatUint_P f.num hfo.1 hfo.2.1) (h := ?_)
    refine R.buildSliceG AP80 (xs := [_]) (es := [_]) (hcs := CellsOfs.cons (CellsOf.one rfl) CellsOfs.nil) (h := ?_)
    refine R.appendS AP80 (hs := SrcOk.sl Tryz.underlying80 (by simp)) (hlen := by rw [strsC_length]; unfold wordParts; simp; omega) (h := ?_)
    refine R.assign (h := ?_)
    refine .n0 ?_
    refine .inBlock ?_
    refine .region rfl ?_
    first | refine R.add (h := ?_) | refine R.addW (h := ?_)
    refine R.move (h := ?_)
    refine .n0 ?_
    refine .inLoop ?_
    exact LGo.turn [0, 3] (b := 0) (fun o h => by have := (hA o).1 h; omega) (ih (k + 1) hlt (by omega)) (by repeat (first | exact trivial | refine ⟨rfl, ?_⟩)) ⟨rfl, by rw [hwp, he]; rfl, trivial⟩
  ·
   obtain rfl : k = l.length := by omega
   rw [List.take_length]
   refine LGo.frz 1 (h := ?_)
   refine .exit rfl ?_
   refine .seq ?_
   refine .region rfl ?_
   refine R.move (h := ?_)
   refine R.callP (es := [_, _]) (fun _ => PC.strJoin (Entr.of Tryz.func48 rfl (by kernel_rfl)) Tryz.strings_Join_none Tryz.strings_Join (wordParts (rqName r.kind) l) [32] (by unfold wordParts; simp; omega) (by omega)) (h := ?_)
   refine R.assign (h := ?_)
   refine R.assign (h := ?_)
   refine .n0 ?_
   exact LGo.ret (ret_TT Tryz.results24 hA hmd)

def partR (f : Fld) : List UInt8 := if (decide (f.tag = 3) || decide (f.tag = 4)) = true then quote f.txt else Lib.itoa (IntKind.i64.wrap f.num)
def textR (w : List UInt8) (l : List Fld) : List UInt8 := l.foldl (fun s f => s ++ [32] ++ partR f) w
theorem textR_app (w : List UInt8) (l : List Fld) (f : Fld) : textR w (l ++ [f]) = textR w l ++ [32] ++ partR f := by unfold textR; rw [List.foldl_append]; rfl
theorem partR_len {f : Fld} (h4 : f.txt.length ≤ 500) : (partR f).length ≤ 2002 := by
  have h3 := quote_len f.txt
  have h2 := itoa_le (n := IntKind.i64.wrap f.num) (by rw [IntKind.wrap_i64]; omega) (by rw [IntKind.wrap_i64]; omega)
  unfold partR
  (repeat' split) <;> omega
theorem textR_len : ∀ (l : List Fld) (w : List UInt8), (∀ f ∈ l, f.txt.length ≤ 500) → (textR w l).length ≤ w.length + l.length * 2003
  | [], w, _ => by simp [textR]
  | f :: l, w, h => by
    have h1 := textR_len l (w ++ [32] ++ partR f) (fun g hg => h g (by simp [hg]))
    have h2 := partR_len (h f (by simp))
    have e : textR w (f :: l) = textR (w ++ [32] ++ partR f) l := rfl
    rw [e]
    simp only [List.length_append, List.length_cons, List.length_nil] at h1 ⊢
    omega
theorem wordQ_len (k : Int) : (wordQ k).length ≤ 8 := by
  unfold wordQ
  split
  · simp
  · rw [List.getD_eq_getElem?_getD]
    by_cases h : k.toNat < kindW.length
    · have key : ∀ j : Fin kindW.length, (kindW[j.1]?.getD []).length ≤ 8 := by decide
      exact key ⟨k.toNat, h⟩
    · rw [List.getElem?_eq_none (by omega)]; simp
def printR9 (r : Rq) : List UInt8 × Int := if (!decide (refCheckQ r = 0)) = true then ([], refCheckQ r) else (textR (wordQ r.kind) (messageR r), 0)
theorem messageR_len (r : Rq) : (messageR r).length ≤ 16 := by unfold messageR; rw [List.length_map]; exact rulesR_len _

theorem printR9_P (r : Rq) (hr : RqOk r) (hs : r.ses.length ≤ 500 ∧ r.tic.length ≤ 500) : PC Tryz.prog 25 [.agg (r.c.map LV.sv)] (.tup [.t (printR9 r).1, .i (printR9 r).2]) := by
 refine ⟨LC.of_go Tryz.func25 (c := _) rfl (by kernel_rfl) (by rw [Tryz.ntmps25]; simp) rfl rfl (by simp [LO.lt, LV.lts, LV.lt]) (by simp) ?_⟩
 intro B hA hmd
 obtain ⟨g, e0⟩ : ∃ g, printR9 r = g := ⟨_, rfl⟩
 have e1 := e0
 unfold printR9 at e1
 rw [e0]
 have hall := messageR_500 hr hs
 have hml := messageR_len r
 have hwl := wordQ_len r.kind
 refine .seq ?_
 refine .region rfl ?_
 refine R.box (h := ?_)
 refine R.assign (h := ?_)
 refine R.assign (h := ?_)
 refine .n0 ?_
 refine .seq ?_
 refine .region rfl ?_
 first | refine R.loadA A35 (h := ?_) | refine R.loadN A35 (h := ?_) | refine R.loadP A35 (h := ?_)
 refine R.callP (es := [_]) (fun _ => refCheckQ_P r hr) (h := ?_)
 refine R.assign (h := ?_)
 refine .n0 ?_
 refine .seq ?_
 refine .seq ?_
 refine .region rfl ?_
 refine R.move (h := ?_)
 refine R.bin (run_neq _ _ _ _ _ _) (h := ?_)
 refine .n0 ?_
 refine LGo.ifb (ht := fun hc => ?_) (hf := fun hc => ?_)
 ·
  rw [if_pos hc] at e1; rw [← e1]
  refine .seq ?_
  refine .region rfl ?_
  refine R.move (h := ?_)
  refine R.assign (h := ?_)
  refine R.assign (h := ?_)
  refine .n0 ?_
  exact LGo.ret (ret_TT Tryz.results25 hA hmd)
 ·
  rw [if_neg (by rw [hc]; simp)] at e1; rw [← e1]
  refine .skip ?_
  refine .seq ?_
  refine .region rfl ?_
  first | refine R.field F35_0 (h := ?_) | refine R.fieldAt F35_0 (h := ?_)
  first | refine R.loadB O3 (h := ?_) | refine R.load1 O3 (h := ?_)
  refine R.callP (es := [_]) (fun _ => wordQ_P r.kind) (h := ?_)
  refine R.assign (h := ?_)
  refine .n0 ?_
  refine .seq ?_
  refine .region rfl ?_
  first | refine R.loadA A35 (h := ?_) | refine R.loadN A35 (h := ?_) | refine R.loadP A35 (h := ?_)
  refine R.callP (es := [_]) (fun _ => messageR_P r hr) (h := ?_)
  generalize messageR r = l at hall hml ⊢
  refine R.assign (h := ?_)
  refine .n0 ?_
  refine .seq ?_
  refine .seq ?_
  refine .region rfl ?_
  refine R.assign (h := ?_)
  refine .n0 ?_
  refine .block ?_
  refine .loop ?_
  refine LGo.loopG (σ := Nat) (fun x => x ≤ l.length) (fun x => [(7, (true, .i (x : Nat))), (5, (true, .t (textR (wordQ r.kind) (l.take x))))]) (fun x => [(0, .box 35 (r.c.map LV.sv))]) (fun x => l.length - x) (0) [(6, _)] (Nat.zero_le _) (by repeat (first | exact trivial | refine ⟨rfl, ?_⟩)) (by repeat (first | exact trivial | refine ⟨rfl, ?_⟩)) (by repeat (first | exact trivial | refine ⟨rfl, ?_⟩)) ?_
  rintro k hk2 ih
  refine .seq ?_
  refine .seq ?_
  refine .region rfl ?_
  refine R.move (h := ?_)
  refine R.move (h := ?_)
  first | refine R.len S66 (h := ?_) | refine R.lenRs S66 (h := ?_) | refine R.lenV (run_lenNil S66) (h := ?_)
  rw [List.length_map]
  refine R.bin (run_lss _ _ _ _ _ _) (h := ?_)
  refine .n0 ?_
  refine LGo.ifd (ht := fun hc2 => ?_) (hf := fun hc2 => ?_)
  ·
   have hlt : k < l.length := by omega
   have hx : (l.map Fld.c)[((k : Nat) : Int).toNat]? = some l[k].c := by simp [hlt]
   have htk : l.take (k + 1) = l.take k ++ [l[k]] := by rw [List.take_succ_eq_append_getElem hlt]
   have hft := (hall l[k] (List.getElem_mem hlt)).2
   have htl := textR_len (l.take k) (wordQ r.kind) (fun f hf => (hall f (List.mem_of_mem_take hf)).2)
   have hll : (l.take k).length ≤ 16 := by rw [List.length_take]; omega
   have hb : (textR (wordQ r.kind) (l.take k)).length ≤ 8 + 16 * 2003 := Nat.le_trans htl (by have := Nat.mul_le_mul_right 2003 hll; omega)
   clear htl
   generalize l[k] = f at hx htk hft
   have hpl := partR_len hft
   refine .skip ?_
   refine .seq ?_
   refine .block ?_
   refine .seq ?_
   refine .region rfl ?_
   refine R.move (h := ?_)
   refine R.move (h := ?_)
   refine R.index I66 (hj := fun hg => ⟨by omega, hx⟩) (h := ?_)
   first | refine R.field F78_0 (h := ?_) | refine R.fieldAt F78_0 (h := ?_)
   first | refine R.loadB O3 (h := ?_) | refine R.load1 O3 (h := ?_)
   refine R.bin (run_eql _ _ _ _ _ _) (h := ?_)
   refine R.move (h := ?_)
   refine R.move (h := ?_)
   refine R.move (h := ?_)
   refine R.index I66 (hj := fun hg => ⟨by (simp at hg; omega), hx⟩) (h := ?_)
   first | refine R.field F78_0 (h := ?_) | refine R.fieldAt F78_0 (h := ?_)
   first | refine R.loadB O3 (h := ?_) | refine R.load1 O3 (h := ?_)
   refine R.bin (run_eql _ _ _ _ _ _) (h := ?_)
   refine R.or (h := ?_)
   refine .n0 ?_
   refine LGo.ifb (ht := fun hc3 => ?_) (hf := fun hc3 => ?_)
   ·
    have he : partR f = quote f.txt := if_pos hc3
    refine .region rfl ?_
    refine R.move (h := ?_)
    refine R.bin (run_addT _ _ _ (textR (wordQ r.kind) (l.take k)) ([32]) (by simp; omega)) (h := ?_)
    refine R.move (h := ?_)
    refine R.move (h := ?_)
    refine R.index I66 (hj := fun hg => ⟨by omega, hx⟩) (h := ?_)
    first | refine R.field F78_2 (h := ?_) | refine R.fieldAt F78_2 (h := ?_)
    first | refine R.loadB O9 (h := ?_) | refine R.load1 O9 (h := ?_)
    refine R.callP (es := [_]) (fun _ => quoteR_P f.txt (by omega)) (h := ?_)
    rw [← he]
    refine R.bin (run_addT _ _ _ (textR (wordQ r.kind) (l.take k) ++ [32]) (partR f) (by simp; omega)) (h := ?_)
    refine R.assign (h := ?_)
    refine .n0 ?_
    refine .inBlock ?_
    refine .region rfl ?_
    refine R.move (h := ?_)
    first | refine R.add (h := ?_) | refine R.addW (h := ?_)
    refine R.assign (h := ?_)
    refine .n0 ?_
    refine .inLoop ?_
    rw [show textR (wordQ r.kind) (l.take k) ++ [32] ++ partR f = textR (wordQ r.kind) (l.take (k + 1)) from by rw [htk, textR_app]]
    exact LGo.next _ (fun o h => by have := (hA o).1 h; omega) (by omega) (ih (k + 1) hlt (by omega)) (by repeat (first | exact trivial | refine ⟨rfl, ?_⟩)) ⟨rfl, trivial⟩
   ·
    have he : partR f = Lib.itoa (IntKind.i64.wrap f.num) := if_neg (by rw [hc3]; simp)
    refine .region rfl ?_
    refine R.move (h := ?_)
    refine R.bin (run_addT _ _ _ (textR (wordQ r.kind) (l.take k)) ([32]) (by simp; omega)) (h := ?_)
    refine R.move (h := ?_)
    refine R.move (h := ?_)
    refine R.index I66 (hj := fun hg => ⟨by omega, hx⟩) (h := ?_)
    first | refine R.field F78_1 (h := ?_) | refine R.fieldAt F78_1 (h := ?_)
    first | refine R.loadB O28 (h := ?_) | refine R.load1 O28 (h := ?_)
    refine R.convW Tryz.runUnderlying28 Tryz.runUnderlying2 (h := ?_)
    refine R.callP (es := [_]) (fun _ => digitsR_P (IntKind.i64.wrap f.num) (by rw [IntKind.wrap_i64]; omega) (by rw [IntKind.wrap_i64]; omega)) (h := ?_)
    rw [← he]
    refine R.bin (run_addT _ _ _ (textR (wordQ r.kind) (l.take k) ++ [32]) (partR f) (by simp; omega)) (h := ?_)
    refine R.assign (h := ?_)
    refine .n0 ?_
    refine .inBlock ?_
    refine .region rfl ?_
    refine R.move (h := ?_)
    first | refine R.add (h := ?_) | refine R.addW (h := ?_)
    refine R.assign (h := ?_)
    refine .n0 ?_
    refine .inLoop ?_
    rw [show textR (wordQ r.kind) (l.take k) ++ [32] ++ partR f = textR (wordQ r.kind) (l.take (k + 1)) from by rw [htk, textR_app]]
    exact LGo.next _ (fun o h => by have := (hA o).1 h; omega) (by omega) (ih (k + 1) hlt (by omega)) (by repeat (first | exact trivial | refine ⟨rfl, ?_⟩)) ⟨rfl, trivial⟩
  ·
   obtain rfl : k = l.length := by omega
   rw [List.take_length]
   refine .exit rfl ?_
   refine .seq ?_
   refine .region rfl ?_
   refine R.move (h := ?_)
   refine R.assign (h := ?_)
   refine R.assign (h := ?_)
   refine .n0 ?_
   exact LGo.ret (ret_TT Tryz.results25 hA hmd)

end Go.Proofs.YtckbomkcnmcdaaaGreatDoor
