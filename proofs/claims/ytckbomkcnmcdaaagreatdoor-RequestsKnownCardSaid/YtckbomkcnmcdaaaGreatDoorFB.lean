/- fields: needs, missing, bytes of a number and of a field. -/
import Derived.Test.YtckbomkcnmcdaaaGreatDoorFA
set_option linter.unusedSimpArgs false
set_option linter.unusedVariables false
namespace Go.Proofs.YtckbomkcnmcdaaaGreatDoor



def lacks (fs : List Fld) (r : Rule) : Bool := r.must && !(fldHas r.tag fs)
def missing (rs : List Rule) (n : Nat) (fs : List Fld) : Bool := (rs.take n).any (lacks fs)

theorem missing_P (rs : List Rule) (n : Nat) (fs : List Fld) (hn : n ≤ rs.length) (hrs : rs.length ≤ 100) (hfs : fs.length ≤ 100) : PC Tryz.prog 66 [.sv (.sl 5 (rs.map Rule.c)), .i n, .sv (.sl 3 (fs.map Fld.c))] (.b (missing rs n fs)) := by
  refine ⟨LC.of_go Tryz.func66 (c := _) rfl (by kernel_rfl) (by rw [Tryz.ntmps66]; simp) rfl rfl (by simp) (by simp) ?_⟩
  intro B hA hmd
  refine LGo.seq ?_
  refine LGo.region rfl ?_
  refine R.assign (h := ?_)
  refine Reg.nil ⟨fun h => (by cases h), ?_⟩
  refine LGo.seq ?_
  refine LGo.seq ?_
  refine LGo.region rfl ?_
  refine R.assign (h := ?_)
  refine Reg.nil ⟨fun h => (by cases h), ?_⟩
  refine LGo.block ?_
  refine LGo.loop ?_
  refine LGo.keep [(0, (true, .sv (.sl 5 (rs.map Rule.c)))), (1, (true, .i n)), (2, (true, .sv (.sl 3 (fs.map Fld.c)))), (7, (true, .i (0 : Nat)))] [] ⟨rfl, rfl, rfl, rfl, trivial⟩ trivial ?_
  refine LGo.loopK (σ := Nat) (fun k => k ≤ n ∧ missing rs n fs = ((rs.take n).drop k).any (lacks fs))
    (fun k => [(0, (true, .sv (.sl 5 (rs.map Rule.c)))), (1, (true, .i n)), (2, (true, .sv (.sl 3 (fs.map Fld.c)))), (7, (true, .i k))]) (fun _ => []) (fun _ => 0) (fun k => n - k) 0 ⟨by simp, by simp [missing]⟩ ?_
  rintro k ⟨hk, hq⟩ ih
  refine LGo.seq ?_
  refine LGo.seq ?_
  refine LGo.region rfl ?_
  refine R.move (h := ?_)
  refine R.move (h := ?_)
  refine R.bin (run_lss _ _ _ _ _ _) (h := ?_)
  refine Reg.nil ⟨fun h => (by cases h), ?_⟩
  refine LGo.ifd (ht := fun hc => ?_) (hf := fun hc => ?_)
  · -- then
    have hlt : k < rs.length := by omega
    have hx : (rs.map Rule.c)[((k : Nat) : Int).toNat]? = some (rs[k].c) := by simp [hlt]
    have hd : (rs.take n).drop k = rs[k] :: (rs.take n).drop (k + 1) := by
      rw [List.drop_eq_getElem_cons (by simp; omega)]; simp
    rw [hd, List.any_cons] at hq
    generalize rs[k] = x at hx hq
    clear hd
    refine LGo.skip ?_
    refine LGo.seq ?_
    refine LGo.block ?_
    refine LGo.seq ?_
    refine LGo.region rfl ?_
    refine R.move (h := ?_)
    refine R.move (h := ?_)
    refine R.move (h := ?_)
    refine R.index I22 (hj := fun _ => ⟨by omega, hx⟩) (h := ?_)
    first | refine R.field F30_0 (h := ?_) | refine R.fieldAt F30_0 (h := ?_)
    first | refine R.loadB O3 (h := ?_) | refine R.load1 O3 (h := ?_)
    refine R.callP (es := [_, _]) (fun _ => refFind_P fs _ hfs) (h := ?_)
    refine R.move (h := ?_)
    refine R.extract (h := ?_)
    refine R.extract (h := ?_)
    refine R.alloc Z78 (h := ?_)
    refine R.storeA A78 (h := ?_)
    refine R.assign (h := ?_)
    refine Reg.nil ⟨fun h => (by cases h), ?_⟩
    refine LGo.seq ?_
    refine LGo.region rfl ?_
    refine R.move (h := ?_)
    refine R.move (h := ?_)
    refine R.index I22 (hj := fun _ => ⟨by omega, hx⟩) (h := ?_)
    refine R.fieldAt F30_4 (hl := by simp [Rule.c]) (h := ?_)
    first | refine R.loadB O4 (h := ?_) | refine R.load1 O4 (h := ?_)
    refine R.move (h := ?_)
    refine R.move (h := ?_)
    refine R.not (h := ?_)
    refine R.and (h := ?_)
    refine Reg.nil ⟨fun h => (by cases h), ?_⟩
    refine LGo.ifb (ht := fun hc2 => ?_) (hf := fun hc2 => ?_)
    · -- then
      have e : missing rs n fs = true := by rw [hq]; simp [lacks, hc2]
      rw [e]
      refine LGo.seq ?_
      refine LGo.region rfl ?_
      refine R.assign (h := ?_)
      refine Reg.nil ⟨fun h => (by cases h), ?_⟩
      refine LGo.drop 0 (fun o h => (hA o).1 h) (by omega) [(6, (true, .b true))] [] ⟨rfl, trivial⟩ trivial (by simp [LV.lt]) (by simp) (h := ?_)
      exact LGo.ret (res1 Tryz.results66 hA hmd (by rfl) noHo (by rfl) (.inr rfl))
    · -- else
      have e : lacks fs x = false := hc2
      rw [e, Bool.false_or] at hq
      refine LGo.skip ?_
      refine LGo.inBlock ?_
      refine LGo.region rfl ?_
      refine R.move (h := ?_)
      first | refine R.add (h := ?_) | refine R.addW (h := ?_)
      refine R.assign (h := ?_)
      refine Reg.nil ⟨fun h => (by cases h), ?_⟩
      refine LGo.inLoop ?_
      exact LGo.next 0 (fun o h => (hA o).1 h) (by omega) (ih (k + 1) ⟨by omega, hq⟩ (by omega)) ⟨rfl, rfl, rfl, rfl, trivial⟩ trivial
  · -- else
    have hk' : k = n := by omega
    subst hk'
    have e : missing rs k fs = false := by rw [hq]; simp
    rw [e]
    refine LGo.exit rfl ?_
    refine LGo.seq ?_
    refine LGo.region rfl ?_
    refine R.assign (h := ?_)
    refine Reg.nil ⟨fun h => (by cases h), ?_⟩
    exact LGo.ret (res1 Tryz.results66 hA hmd (by rfl) noHo (by rfl) (.inr rfl))

def lawRules : List Rule := [⟨1, 1, 0, 300, true⟩, ⟨4, 2, 1, 3, false⟩]



def needs (rs : List Rule) : List Int := (rs.filter (fun r => r.must)).map Rule.tag
def tagsL (l : List Int) : List (List LV) := l.map fun t => [.i t]
def tagsC (l : List Int) : List (List SV) := l.map fun t => [.val (.int .i64 t)]
theorem tagsL_app (l : List Int) (t : Int) : tagsL (l ++ [t]) = tagsL l ++ [[.i t]] := by simp [tagsL]
theorem needs_take (rs : List Rule) (k : Nat) (h : k < rs.length) : needs (rs.take (k + 1)) = needs (rs.take k) ++ (if rs[k].must = true then [rs[k].tag] else []) := by
  simp only [needs, List.take_succ_eq_append_getElem h, List.filter_append, List.map_append]
  congr 1
  by_cases hm : rs[k].must = true <;> simp [hm]
theorem needs_len (rs : List Rule) : (needs rs).length ≤ rs.length := by
  simp only [needs, List.length_map]; exact List.length_filter_le _ _

theorem needs_P (rs : List Rule) (hrs : rs.length ≤ 100) : PC Tryz.prog 60 [.sv (.sl 5 (rs.map Rule.c))] (.sv (.sl 1 (tagsC (needs rs)))) := by
  refine ⟨LC.of_go Tryz.func60 (c := _) rfl (by kernel_rfl) (by rw [Tryz.ntmps60]; simp) rfl rfl (by simp) (by simp) ?_⟩
  intro B hA hmd
  refine LGo.seq ?_
  refine LGo.region rfl ?_
  refine R.assign (h := ?_)
  refine Reg.nil ⟨fun h => (by cases h), ?_⟩
  refine LGo.seq ?_
  refine LGo.region rfl ?_
  refine R.assign (h := ?_)
  refine Reg.nil ⟨fun h => (by cases h), ?_⟩
  refine LGo.seq ?_
  refine LGo.seq ?_
  refine LGo.region rfl ?_
  refine R.move (h := ?_)
  first | refine R.len S22 (h := ?_) | refine R.lenV (run_lenNil S22) (h := ?_)
  rw [List.length_map]
  refine R.move (h := ?_)
  refine Reg.nil ⟨fun h => (by cases h), ?_⟩
  refine LGo.block ?_
  refine LGo.loop ?_
  refine LGo.nilRow 3 3 1 (by rfl) ?_
  refine LGo.keep [(3, (true, .ref 0)), (6, (true, .sv (.sl 5 (rs.map Rule.c)))), (7, (true, .i rs.length)), (8, (true, .i (0 : Nat)))] [(0, .row 3 1 (tagsL (needs (rs.take 0))))] ⟨rfl, rfl, rfl, rfl, trivial⟩ ⟨rfl, trivial⟩ ?_
  refine LGo.loopK (σ := Nat) (fun k => k ≤ rs.length) (fun k => [(3, (true, .ref 0)), (6, (true, .sv (.sl 5 (rs.map Rule.c)))), (7, (true, .i rs.length)), (8, (true, .i k))]) (fun k => [(0, .row 3 1 (tagsL (needs (rs.take k))))]) (fun _ => 1) (fun k => rs.length - k) 0 (by simp) ?_
  rintro k hk ih
  refine LGo.seq ?_
  refine LGo.region rfl ?_
  refine R.bin (run_lss _ _ _ _ _ _) (h := ?_)
  refine Reg.nil ⟨fun h => (by cases h), ?_⟩
  refine LGo.seq ?_
  refine LGo.ifd (ht := fun hc => ?_) (hf := fun hc => ?_)
  · -- then
    have hlt : k < rs.length := by omega
    have hx : (rs.map Rule.c)[((k : Nat) : Int).toNat]? = some (rs[k].c) := by simp [hlt]
    have hnt := needs_take rs k hlt
    have hnl := needs_len (rs.take k)
    rw [List.length_take] at hnl
    generalize rs[k] = x at hx hnt
    refine LGo.skip ?_
    refine LGo.seq ?_
    refine LGo.block ?_
    refine LGo.seq ?_
    refine LGo.region rfl ?_
    refine R.index I22 (hj := fun _ => ⟨by omega, hx⟩) (h := ?_)
    first | refine R.loadA A30 (h := ?_) | refine R.loadN A30 (h := ?_)
    refine R.alloc Z30 (h := ?_)
    refine R.storeA A30 (h := ?_)
    refine Reg.nil ⟨fun h => (by cases h), ?_⟩
    refine LGo.seq ?_
    refine LGo.region rfl ?_
    first | refine R.field F30_4 (h := ?_) | refine R.fieldAt F30_4 (h := ?_)
    first | refine R.loadB O4 (h := ?_) | refine R.load1 O4 (h := ?_)
    refine Reg.nil ⟨fun h => (by cases h), ?_⟩
    refine LGo.ifb (ht := fun hc2 => ?_) (hf := fun hc2 => ?_)
    · -- then
      refine LGo.region rfl ?_
      refine R.move (h := ?_)
      first | refine R.field F30_0 (h := ?_) | refine R.fieldAt F30_0 (h := ?_)
      first | refine R.loadB O3 (h := ?_) | refine R.load1 O3 (h := ?_)
      refine R.buildSlice AP95 (xs := [_]) (es := [_]) (hcs := CellsOfs.cons (CellsOf.one rfl) CellsOfs.nil) (h := ?_)
      refine R.append AP95 (xs := tagsL (needs (rs.take k))) (ys := [[.i x.tag]]) (hs := SrcOk.row Tryz.underlying95 (by simp)) (hrd := oneL (by rfl)) (hlen := by simp [tagsL]; omega) (h := ?_)
      refine R.assign (h := ?_)
      refine Reg.nil ⟨fun h => (by cases h), ?_⟩
      refine LGo.inBlock ?_
      refine LGo.region rfl ?_
      first | refine R.add (h := ?_) | refine R.addW (h := ?_)
      refine R.move (h := ?_)
      refine Reg.nil ⟨fun h => (by cases h), ?_⟩
      refine LGo.inLoop ?_
      exact LGo.turn [3] (b := 0) (fun o h => (hA o).1 h) (ih (k + 1) hlt (by omega)) ⟨rfl, rfl, rfl, rfl, trivial⟩ ⟨by rw [hnt, if_pos hc2, tagsL_app]; simp [LO.mapI, tagsL, LV.mapIs, LV.mapI], trivial⟩ (hLl := by simp [LO.lt, tagsL, LV.lts, LV.lt])
    · -- else
      refine LGo.skip ?_
      refine LGo.inBlock ?_
      refine LGo.region rfl ?_
      first | refine R.add (h := ?_) | refine R.addW (h := ?_)
      refine R.move (h := ?_)
      refine Reg.nil ⟨fun h => (by cases h), ?_⟩
      refine LGo.inLoop ?_
      exact LGo.next 1 (fun o h => by have := (hA o).1 h; omega) (by omega) (ih (k + 1) hlt (by omega)) ⟨rfl, rfl, rfl, rfl, trivial⟩ ⟨by rw [hnt, if_neg (by simp [hc2]), List.append_nil]; rfl, trivial⟩ (hLl := by simp [LO.lt, tagsL, LV.lts, LV.lt])
  · -- else
    have hk' : k = rs.length := by omega
    subst hk'
    rw [List.take_length]
    refine LGo.exit rfl ?_
    refine LGo.seq ?_
    refine LGo.region rfl ?_
    refine R.move (h := ?_)
    refine R.assign (h := ?_)
    refine Reg.nil ⟨fun h => (by cases h), ?_⟩
    refine LGo.freeze 0 (ys := tagsC (needs rs)) (by rfl) (by simp [tagsL, tagsC]) ?_
    refine LGo.drop 0 (fun o h => (hA o).1 h) (by omega) [(2, (true, .sv (.sl 1 (tagsC (needs rs)))))] [] ⟨rfl, trivial⟩ trivial (by simp [LV.lt]) (by simp) (h := ?_)
    exact LGo.ret (res1 Tryz.results60 hA hmd (by rfl) noHo (by rfl) (.inr rfl))




theorem txt_nil (l : List UInt8) : decide ((⟨l.toArray⟩ : ByteArray) = ByteArray.mk #[]) = decide (l = []) := by
  congr 1
  simp [ByteArray.mk.injEq]
theorem txt_len (l : List UInt8) : (⟨l.toArray⟩ : ByteArray).size = l.length := by simp [ByteArray.size]

def odd (r : Rule) (x : Fld) : Bool := (decide (r.kind = 1) && !decide (x.txt = [])) || (decide (r.kind = 2) && !decide (x.num = 0))
def val (r : Rule) (x : Fld) : Int := if r.kind = 2 then x.txt.length else x.num
def one (r : Rule) (x : Fld) : Int := if odd r x = true then 2 else if (!within r (val r x)) = true then 7 else 0

theorem one_P (r : Rule) (x : Fld) (hx : x.txt.length ≤ 1000) : PC Tryz.prog 64 [.agg (r.c.map LV.sv), .agg (x.c.map LV.sv)] (.i (one r x)) := by
  refine ⟨LC.of_go Tryz.func64 (c := _) rfl (by kernel_rfl) (by rw [Tryz.ntmps64]; simp) rfl rfl (by simp) (by simp) ?_⟩
  intro B hA hmd
  refine LGo.seq ?_
  refine LGo.region rfl ?_
  refine R.box (h := ?_)
  refine R.box (h := ?_)
  refine R.assign (h := ?_)
  refine Reg.nil ⟨fun h => (by cases h), ?_⟩
  refine LGo.seq ?_
  refine LGo.seq ?_
  refine LGo.region rfl ?_
  first | refine R.field F30_1 (h := ?_) | refine R.fieldAt F30_1 (h := ?_)
  first | refine R.loadB O3 (h := ?_) | refine R.load1 O3 (h := ?_)
  refine R.bin (run_eql _ _ _ _ _ _) (h := ?_)
  refine R.move (h := ?_)
  first | refine R.field F78_2 (h := ?_) | refine R.fieldAt F78_2 (h := ?_)
  first | refine R.loadB O9 (h := ?_) | refine R.load1 O9 (h := ?_)
  refine R.bin (run_neqS _ _ _ _ _) (h := ?_)
  rw [txt_nil]
  refine R.and (h := ?_)
  refine R.move (h := ?_)
  first | refine R.field F30_1 (h := ?_) | refine R.fieldAt F30_1 (h := ?_)
  first | refine R.loadB O3 (h := ?_) | refine R.load1 O3 (h := ?_)
  refine R.bin (run_eql _ _ _ _ _ _) (h := ?_)
  refine R.move (h := ?_)
  first | refine R.field F78_1 (h := ?_) | refine R.fieldAt F78_1 (h := ?_)
  first | refine R.loadB O28 (h := ?_) | refine R.load1 O28 (h := ?_)
  refine R.bin (run_neq _ _ _ _ _ _) (h := ?_)
  refine R.and (h := ?_)
  refine R.or (h := ?_)
  refine Reg.nil ⟨fun h => (by cases h), ?_⟩
  refine LGo.ifb (ht := fun hc => ?_) (hf := fun hc => ?_)
  · -- then
    have e : one r x = 2 := by unfold one; rw [if_pos (by simpa [odd] using hc)]
    rw [e]
    refine LGo.seq ?_
    refine LGo.region rfl ?_
    refine R.assign (h := ?_)
    refine Reg.nil ⟨fun h => (by cases h), ?_⟩
    refine LGo.drop 0 (fun o h => (hA o).1 h) (by omega) [(4, (true, .i 2))] [] ⟨rfl, trivial⟩ trivial (by simp [LV.lt]) (by simp) (h := ?_)
    exact LGo.ret (res1 Tryz.results64 hA hmd (by rfl) noHo (by rfl) (.inr rfl))
  · -- else
    have eo : one r x = if (!within r (val r x)) = true then 7 else 0 := by unfold one; rw [if_neg (by simpa [odd] using hc)]
    rw [eo]
    refine LGo.skip ?_
    refine LGo.seq ?_
    refine LGo.region rfl ?_
    first | refine R.field F78_1 (h := ?_) | refine R.fieldAt F78_1 (h := ?_)
    first | refine R.loadB O28 (h := ?_) | refine R.load1 O28 (h := ?_)
    refine R.assign (h := ?_)
    refine Reg.nil ⟨fun h => (by cases h), ?_⟩
    refine LGo.seq ?_
    refine LGo.seq ?_
    refine LGo.region rfl ?_
    first | refine R.field F30_1 (h := ?_) | refine R.fieldAt F30_1 (h := ?_)
    first | refine R.loadB O3 (h := ?_) | refine R.load1 O3 (h := ?_)
    refine R.bin (run_eql _ _ _ _ _ _) (h := ?_)
    refine Reg.nil ⟨fun h => (by cases h), ?_⟩
    refine LGo.ifd (ht := fun hc2 => ?_) (hf := fun hc2 => ?_)
    · -- then
      have ev : val r x = (x.txt.length : Int) := by simp [val, hc2]
      refine LGo.region rfl ?_
      first | refine R.field F78_2 (h := ?_) | refine R.fieldAt F78_2 (h := ?_)
      first | refine R.loadB O9 (h := ?_) | refine R.load1 O9 (h := ?_)
      refine R.lenV (run_lenS Tryz.runUnderlying9) (h := ?_)
      rw [txt_len]
      first | refine R.convI Tryz.runUnderlying3 Tryz.runUnderlying28 (h := ?_) | refine R.convW Tryz.runUnderlying3 Tryz.runUnderlying28 (h := ?_)
      refine R.assign (h := ?_)
      refine Reg.nil ⟨fun h => (by cases h), ?_⟩
      refine LGo.seq ?_
      refine LGo.seq ?_
      refine LGo.region rfl ?_
      first | refine R.loadA A30 (h := ?_) | refine R.loadN A30 (h := ?_)
      refine R.move (h := ?_)
      refine R.callP (es := [_, _]) (fun _ => refWithin_P r _) (h := ?_)
      refine R.not (h := ?_)
      refine Reg.nil ⟨fun h => (by cases h), ?_⟩
      refine LGo.ifb (ht := fun hc3 => ?_) (hf := fun hc3 => ?_)
      · -- then
        rw [if_pos (by rw [ev]; exact hc3)]
        refine LGo.seq ?_
        refine LGo.region rfl ?_
        refine R.assign (h := ?_)
        refine Reg.nil ⟨fun h => (by cases h), ?_⟩
        refine LGo.drop 0 (fun o h => (hA o).1 h) (by omega) [(4, (true, .i 7))] [] ⟨rfl, trivial⟩ trivial (by simp [LV.lt]) (by simp) (h := ?_)
        exact LGo.ret (res1 Tryz.results64 hA hmd (by rfl) noHo (by rfl) (.inr rfl))
      · -- else
        rw [if_neg (by rw [ev]; simpa using hc3)]
        refine LGo.skip ?_
        refine LGo.seq ?_
        refine LGo.region rfl ?_
        refine R.assign (h := ?_)
        refine Reg.nil ⟨fun h => (by cases h), ?_⟩
        refine LGo.drop 0 (fun o h => (hA o).1 h) (by omega) [(4, (true, .i 0))] [] ⟨rfl, trivial⟩ trivial (by simp [LV.lt]) (by simp) (h := ?_)
        exact LGo.ret (res1 Tryz.results64 hA hmd (by rfl) noHo (by rfl) (.inr rfl))
    · -- else
      have ev : val r x = x.num := by simp [val, hc2]
      refine LGo.skip ?_
      refine LGo.seq ?_
      refine LGo.seq ?_
      refine LGo.region rfl ?_
      first | refine R.loadA A30 (h := ?_) | refine R.loadN A30 (h := ?_)
      refine R.move (h := ?_)
      refine R.callP (es := [_, _]) (fun _ => refWithin_P r _) (h := ?_)
      refine R.not (h := ?_)
      refine Reg.nil ⟨fun h => (by cases h), ?_⟩
      refine LGo.ifb (ht := fun hc4 => ?_) (hf := fun hc4 => ?_)
      · -- then
        rw [if_pos (by rw [ev]; exact hc4)]
        refine LGo.seq ?_
        refine LGo.region rfl ?_
        refine R.assign (h := ?_)
        refine Reg.nil ⟨fun h => (by cases h), ?_⟩
        refine LGo.drop 0 (fun o h => (hA o).1 h) (by omega) [(4, (true, .i 7))] [] ⟨rfl, trivial⟩ trivial (by simp [LV.lt]) (by simp) (h := ?_)
        exact LGo.ret (res1 Tryz.results64 hA hmd (by rfl) noHo (by rfl) (.inr rfl))
      · -- else
        rw [if_neg (by rw [ev]; simpa using hc4)]
        refine LGo.skip ?_
        refine LGo.seq ?_
        refine LGo.region rfl ?_
        refine R.assign (h := ?_)
        refine Reg.nil ⟨fun h => (by cases h), ?_⟩
        refine LGo.drop 0 (fun o h => (hA o).1 h) (by omega) [(4, (true, .i 0))] [] ⟨rfl, trivial⟩ trivial (by simp [LV.lt]) (by simp) (h := ?_)
        exact LGo.ret (res1 Tryz.results64 hA hmd (by rfl) noHo (by rfl) (.inr rfl))




def badR (k : Int) (prev r : Rule) : Bool := (((((decide (r.tag < 1) || decide (63 < r.tag)) || ((!decide (r.kind = 1)) && (!decide (r.kind = 2)))) || decide (r.high < r.low)) || (decide (r.kind = 2) && decide (400 < r.high))) || (decide (0 < k) && decide (r.tag ≤ prev.tag)))
def refGo (k : Nat) (prev : Rule) : List Rule → Int
  | [] => 0
  | r :: rs => if badR k prev r = true then 2 else refGo (k + 1) r rs
def refCheck (rs : List Rule) : Int := if 16 < rs.length then 3 else refGo 0 default rs
def prevOf (xs : List Rule) (k : Nat) : Rule := if k = 0 then default else xs.getD (k - 1) default

theorem refCheck_P (xs : List Rule) : PC Tryz.prog 62 [.sv (.sl 5 (xs.map Rule.c))] (.i (refCheck xs)) := by
  refine ⟨LC.of_go Tryz.func62 (c := _) rfl (by kernel_rfl) (by rw [Tryz.ntmps62]; simp) rfl rfl (by simp) (by simp) ?_⟩
  intro B hA hmd
  refine LGo.seq ?_
  refine LGo.region rfl ?_
  refine R.assign (h := ?_)
  refine Reg.nil ⟨fun h => (by cases h), ?_⟩
  refine LGo.seq ?_
  refine LGo.seq ?_
  refine LGo.region rfl ?_
  refine R.move (h := ?_)
  first | refine R.len S22 (h := ?_) | refine R.lenV (run_lenNil S22) (h := ?_)
  rw [List.length_map]
  refine R.bin (run_gtr _ _ _ _ _ _) (h := ?_)
  refine Reg.nil ⟨fun h => (by cases h), ?_⟩
  refine LGo.ifd (ht := fun hc => ?_) (hf := fun hc => ?_)
  · -- then
    have e : refCheck xs = 3 := by unfold refCheck; rw [if_pos (by omega)]
    rw [e]
    refine LGo.seq ?_
    refine LGo.region rfl ?_
    refine R.assign (h := ?_)
    refine Reg.nil ⟨fun h => (by cases h), ?_⟩
    exact LGo.ret (res1 Tryz.results62 hA hmd (by rfl) noHo (by rfl) (.inr rfl))
  · -- else
    have e : refCheck xs = refGo 0 default xs := by unfold refCheck; rw [if_neg (by omega)]
    rw [e]
    refine LGo.skip ?_
    refine LGo.seq ?_
    refine LGo.seq ?_
    refine LGo.region rfl ?_
    refine R.assign (h := ?_)
    refine Reg.nil ⟨fun h => (by cases h), ?_⟩
    refine LGo.block ?_
    refine LGo.loop ?_
    refine LGo.keep [(0, (true, .sv (.sl 5 (xs.map Rule.c)))), (3, (true, .i (0 : Nat)))] [] ⟨rfl, rfl, trivial⟩ trivial ?_
    refine LGo.loopK (σ := Nat) (fun k => k ≤ xs.length ∧ refGo 0 default xs = refGo k (prevOf xs k) (xs.drop k)) (fun k => [(0, (true, .sv (.sl 5 (xs.map Rule.c)))), (3, (true, .i k))]) (fun _ => []) (fun _ => 0) (fun k => xs.length - k) 0 ⟨by simp, by simp [prevOf]⟩ ?_
    rintro k ⟨hk, hq⟩ ih
    refine LGo.seq ?_
    refine LGo.seq ?_
    refine LGo.region rfl ?_
    refine R.move (h := ?_)
    refine R.move (h := ?_)
    first | refine R.len S22 (h := ?_) | refine R.lenV (run_lenNil S22) (h := ?_)
    rw [List.length_map]
    refine R.bin (run_lss _ _ _ _ _ _) (h := ?_)
    refine Reg.nil ⟨fun h => (by cases h), ?_⟩
    refine LGo.ifd (ht := fun hc2 => ?_) (hf := fun hc2 => ?_)
    · -- then
      have hlt : k < xs.length := by omega
      have hx : (xs.map Rule.c)[((k : Nat) : Int).toNat]? = some (xs[k].c) := by simp [hlt]
      have hd : xs.drop k = xs[k] :: xs.drop (k + 1) := List.drop_eq_getElem_cons hlt
      have hp1 : prevOf xs (k + 1) = xs[k] := by simp [prevOf, hlt]
      have hpv : 0 < k → (xs.map Rule.c)[((k : Int) - 1).toNat]? = some ((prevOf xs k).c) := fun h => by
        have h1 : ((k : Int) - 1).toNat = k - 1 := by omega
        have h2 : k - 1 < xs.length := by omega
        rw [h1]; simp [prevOf, show k ≠ 0 by omega, h2]
      rw [hd] at hq
      generalize xs[k] = ru at hx hq hp1
      generalize prevOf xs k = pv at hpv hq
      clear hd
      refine LGo.skip ?_
      refine LGo.seq ?_
      refine LGo.block ?_
      refine LGo.seq ?_
      refine LGo.region rfl ?_
      refine R.move (h := ?_)
      refine R.move (h := ?_)
      refine R.index I22 (hj := fun _ => ⟨by omega, hx⟩) (h := ?_)
      first | refine R.loadA A30 (h := ?_) | refine R.loadN A30 (h := ?_)
      refine R.alloc Z30 (h := ?_)
      refine R.storeA A30 (h := ?_)
      refine Reg.nil ⟨fun h => (by cases h), ?_⟩
      refine LGo.seq ?_
      refine LGo.region rfl ?_
      first | refine R.field F30_0 (h := ?_) | refine R.fieldAt F30_0 (h := ?_)
      first | refine R.loadB O3 (h := ?_) | refine R.load1 O3 (h := ?_)
      refine R.bin (run_lss _ _ _ _ _ _) (h := ?_)
      refine R.move (h := ?_)
      first | refine R.field F30_0 (h := ?_) | refine R.fieldAt F30_0 (h := ?_)
      first | refine R.loadB O3 (h := ?_) | refine R.load1 O3 (h := ?_)
      refine R.bin (run_gtr _ _ _ _ _ _) (h := ?_)
      refine R.or (h := ?_)
      refine R.move (h := ?_)
      first | refine R.field F30_1 (h := ?_) | refine R.fieldAt F30_1 (h := ?_)
      first | refine R.loadB O3 (h := ?_) | refine R.load1 O3 (h := ?_)
      refine R.bin (run_neq _ _ _ _ _ _) (h := ?_)
      refine R.move (h := ?_)
      first | refine R.field F30_1 (h := ?_) | refine R.fieldAt F30_1 (h := ?_)
      first | refine R.loadB O3 (h := ?_) | refine R.load1 O3 (h := ?_)
      refine R.bin (run_neq _ _ _ _ _ _) (h := ?_)
      refine R.and (h := ?_)
      refine R.or (h := ?_)
      refine R.move (h := ?_)
      first | refine R.field F30_2 (h := ?_) | refine R.fieldAt F30_2 (h := ?_)
      first | refine R.loadB O28 (h := ?_) | refine R.load1 O28 (h := ?_)
      first | refine R.field F30_3 (h := ?_) | refine R.fieldAt F30_3 (h := ?_)
      first | refine R.loadB O28 (h := ?_) | refine R.load1 O28 (h := ?_)
      refine R.bin (run_gtr _ _ _ _ _ _) (h := ?_)
      refine R.or (h := ?_)
      refine R.move (h := ?_)
      first | refine R.field F30_1 (h := ?_) | refine R.fieldAt F30_1 (h := ?_)
      first | refine R.loadB O3 (h := ?_) | refine R.load1 O3 (h := ?_)
      refine R.bin (run_eql _ _ _ _ _ _) (h := ?_)
      refine R.move (h := ?_)
      first | refine R.field F30_3 (h := ?_) | refine R.fieldAt F30_3 (h := ?_)
      first | refine R.loadB O28 (h := ?_) | refine R.load1 O28 (h := ?_)
      refine R.bin (run_gtr _ _ _ _ _ _) (h := ?_)
      refine R.and (h := ?_)
      refine R.or (h := ?_)
      refine R.move (h := ?_)
      refine R.move (h := ?_)
      refine R.bin (run_gtr _ _ _ _ _ _) (h := ?_)
      refine R.move (h := ?_)
      first | refine R.field F30_0 (h := ?_) | refine R.fieldAt F30_0 (h := ?_)
      first | refine R.loadB O3 (h := ?_) | refine R.load1 O3 (h := ?_)
      refine R.move (h := ?_)
      refine R.move (h := ?_)
      first | refine R.sub (h := ?_) | refine R.subW (h := ?_)
      refine R.index I22 (hj := fun hg => ⟨by simp at hg; omega, hpv (by simp at hg; omega)⟩) (h := ?_)
      first | refine R.field F30_0 (h := ?_) | refine R.fieldAt F30_0 (h := ?_)
      first | refine R.loadB O3 (h := ?_) | refine R.load1 O3 (h := ?_)
      refine R.bin (run_leq _ _ _ _ _ _) (h := ?_)
      refine R.and (h := ?_)
      refine R.or (h := ?_)
      refine Reg.nil ⟨fun _ => ⟨mixedO, by rfl, by rfl⟩, ?_⟩
      refine LGo.ifb (ht := fun hc3 => ?_) (hf := fun hc3 => ?_)
      · -- then
        have e2 : refGo k pv (ru :: xs.drop (k + 1)) = 2 := by simp only [refGo]; exact if_pos hc3
        rw [hq, e2]
        refine LGo.seq ?_
        refine LGo.region rfl ?_
        refine R.assign (h := ?_)
        refine Reg.nil ⟨fun h => (by cases h), ?_⟩
        refine LGo.drop 0 (fun o h => (hA o).1 h) (by omega) [(2, (true, .i 2))] [] ⟨rfl, trivial⟩ trivial (by simp [LV.lt]) (by simp) (h := ?_)
        exact LGo.ret (res1 Tryz.results62 hA hmd (by rfl) noHo (by rfl) (.inr rfl))
      · -- else
        have e2 : refGo k pv (ru :: xs.drop (k + 1)) = refGo (k + 1) ru (xs.drop (k + 1)) := by simp only [refGo]; exact if_neg (by rw [show badR k pv ru = false from hc3]; simp)
        rw [e2, ← hp1] at hq
        refine LGo.skip ?_
        refine LGo.inBlock ?_
        refine LGo.region rfl ?_
        refine R.move (h := ?_)
        first | refine R.add (h := ?_) | refine R.addW (h := ?_)
        refine R.assign (h := ?_)
        refine Reg.nil ⟨fun h => (by cases h), ?_⟩
        refine LGo.inLoop ?_
        exact LGo.next 0 (fun o h => (hA o).1 h) (by omega) (ih (k + 1) ⟨by omega, hq⟩ (by omega)) ⟨rfl, rfl, trivial⟩ trivial
    · -- else
      have hk' : k = xs.length := by omega
      subst hk'
      rw [List.drop_length] at hq
      simp only [refGo] at hq
      rw [hq]
      refine LGo.exit rfl ?_
      refine LGo.seq ?_
      refine LGo.region rfl ?_
      refine R.assign (h := ?_)
      refine Reg.nil ⟨fun h => (by cases h), ?_⟩
      exact LGo.ret (res1 Tryz.results62 hA hmd (by rfl) noHo (by rfl) (.inr rfl))




def numB : Nat → Int → List Int
  | 0, _ => []
  | k + 1, x => if x = 0 then [] else numB k (x / 256) ++ [x % 256]
theorem numB_len : ∀ (k : Nat) (x : Int), (numB k x).length ≤ k
  | 0, x => by simp [numB]
  | k + 1, x => by
    simp only [numB]
    split
    · simp
    · have := numB_len k (x / 256); simp; omega
theorem number_step (k : Nat) (x : Int) (h0 : 0 ≤ x) (h1 : x < 18446744073709551616) (hk : k ≤ 8) (hr : x ≠ 0 → LC Tryz.prog 91 0 [.u (x / 256)] [] (.ref 0) [(0, .rs 5 1 (ic .u8 (numB k (x / 256))))] 1) : LC Tryz.prog 91 0 [.u x] [] (.ref 0) [(0, .rs 5 1 (ic .u8 (numB (k + 1) x)))] 1 := by
  refine LC.of_go Tryz.func91 (c := _) rfl (by kernel_rfl) (by rw [Tryz.ntmps91]; simp) rfl rfl (by simp [LO.lt, LV.lts, LV.lt]) (by simp) ?_
  intro B hA hmd
  refine LGo.seq ?_
  refine LGo.region rfl ?_
  refine R.assign (h := ?_)
  refine Reg.nil ⟨fun h => (by cases h), ?_⟩
  refine LGo.seq ?_
  refine LGo.seq ?_
  refine LGo.region rfl ?_
  refine R.move (h := ?_)
  refine R.bin (run_eql _ _ _ _ _ _) (h := ?_)
  refine Reg.nil ⟨fun h => (by cases h), ?_⟩
  first | refine LGo.ifd (ht := fun hc => ?_) (hf := fun hc => ?_) | refine LGo.ifb (ht := fun hc => ?_) (hf := fun hc => ?_)
  · -- then 1
    subst hc
    have e : numB (k + 1) 0 = [] := rfl
    rw [e]
    refine LGo.seq ?_
    refine LGo.region rfl ?_
    refine R.assign (h := ?_)
    refine Reg.nil ⟨fun h => (by cases h), ?_⟩
    refine LGo.nilRs 2 5 1 rfl ?_
    exact LGo.ret (ret_T Tryz.results91 hA hmd)
  · -- else 1
    have hrec := hr hc
    have hl := numB_len k (x / 256)
    have e : numB (k + 1) x = numB k (x / 256) ++ [x % 256] := by simp only [numB, if_neg hc]
    rw [e, ← ic_snoc]
    refine LGo.skip ?_
    refine LGo.seq ?_
    refine LGo.region rfl ?_
    refine R.move (h := ?_)
    refine R.quo (h := ?_)
    refine R.callX (es := [_]) [] hrec (h := ?_)
    refine R.move (h := ?_)
    refine R.rem (h := ?_)
    first | refine R.convI Tryz.runUnderlying28 Tryz.runUnderlying5 (h := ?_) | refine R.convW Tryz.runUnderlying28 Tryz.runUnderlying5 (h := ?_)
    refine R.buildSliceG AP37 (xs := [_]) (es := [_]) (hcs := CellsOfs.cons (CellsOf.one rfl) CellsOfs.nil) (h := ?_)
    refine R.appendS AP37 (hs := SrcOk.sl Tryz.underlying37 (by simp)) (hlen := by rw [ic_len]; simp; omega) (h := ?_)
    refine R.assign (h := ?_)
    refine Reg.nil ⟨fun h => (by cases h), ?_⟩
    refine LGo.turn [1] (b := 0) (fun o h => (hA o).1 h) (E' := [(2, (true, .ref 0))]) (L' := [(0, .rs 5 1 (ic .u8 (numB k (x / 256)) ++ [[.val (.int .u8 (x % 256))]]))]) ?_ ⟨rfl, trivial⟩ ⟨rfl, trivial⟩
    exact LGo.ret (ret_T Tryz.results91 hA hmd)

theorem number_L : ∀ (k : Nat) (x : Int), 0 ≤ x → x < 256 ^ k → x < 18446744073709551616 → k ≤ 8 → LC Tryz.prog 91 0 [.u x] [] (.ref 0) [(0, .rs 5 1 (ic .u8 (numB (k + 1) x)))] 1
  | 0, x, h0, h1, h2, hk => number_step 0 x h0 h2 hk (fun h => absurd (show x = 0 by omega) h)
  | k + 1, x, h0, h1, h2, hk => number_step (k + 1) x h0 h2 hk (fun _ => number_L k (x / 256) (by omega) (by rw [Int.pow_succ] at h1; omega) (by omega) (by omega))
theorem number_9 (x : Int) (h0 : 0 ≤ x) (h1 : x < 18446744073709551616) : LC Tryz.prog 91 0 [.u x] [] (.ref 0) [(0, .rs 5 1 (ic .u8 (numB 9 x)))] 1 := number_L 8 x h0 (by omega) h1 (by omega)




def textI (l : List UInt8) : List Int := l.map fun c => (c.toNat : Int)
theorem textI_len (l : List UInt8) : (textI l).length = l.length := by simp [textI]
theorem bytesC_text (l : List UInt8) : bytesC l = ic .u8 (textI l) := bytesC_ic l
/-- how a field is written -/
def outB (r : Rule) (x : Fld) : List Int := if r.kind = 1 then [x.tag, ((numB 9 x.num).length : Int)] ++ numB 9 x.num else [x.tag, (x.txt.length : Int) / 256, (x.txt.length : Int) % 256] ++ textI x.txt
theorem outB_len (r : Rule) (x : Fld) : (outB r x).length ≤ x.txt.length + 11 := by
  have h := numB_len 9 x.num
  unfold outB
  split <;> simp [textI_len] <;> omega
theorem bytes_P (r : Rule) (x : Fld) (ht0 : 0 ≤ x.tag) (ht1 : x.tag < 256) (hn0 : 0 ≤ x.num) (hn1 : x.num < 18446744073709551616) (hx : x.txt.length ≤ 1000) :
    PC Tryz.prog 65 [.agg (r.c.map LV.sv), .agg (x.c.map LV.sv)] (.sv (.sl 1 (ic .u8 (outB r x)))) := by
  refine ⟨LC.of_go Tryz.func65 (c := _) rfl (by kernel_rfl) (by rw [Tryz.ntmps65]; simp) rfl rfl (by simp [LO.lt, LV.lts, LV.lt]) (by simp) ?_⟩
  intro B hA hmd
  refine LGo.seq ?_
  refine LGo.region rfl ?_
  refine R.box (h := ?_)
  refine R.box (h := ?_)
  refine R.assign (h := ?_)
  refine Reg.nil ⟨fun h => (by cases h), ?_⟩
  refine LGo.seq ?_
  refine LGo.seq ?_
  refine LGo.region rfl ?_
  first | refine R.field F30_1 (h := ?_) | refine R.fieldAt F30_1 (h := ?_)
  first | refine R.loadB O3 (h := ?_) | refine R.load1 O3 (h := ?_)
  refine R.bin (run_eql _ _ _ _ _ _) (h := ?_)
  refine Reg.nil ⟨fun h => (by cases h), ?_⟩
  refine LGo.ifd (ht := fun hc => ?_) (hf := fun hc => ?_)
  · -- then 1
    have hl := numB_len 9 x.num
    have e : outB r x = [x.tag, ((numB 9 x.num).length : Int)] ++ numB 9 x.num := by simp [outB, hc]
    rw [e, ic_app]
    refine LGo.seq ?_
    refine LGo.region rfl ?_
    first | refine R.field F78_1 (h := ?_) | refine R.fieldAt F78_1 (h := ?_)
    first | refine R.loadB O28 (h := ?_) | refine R.load1 O28 (h := ?_)
    refine R.callX (es := [_]) [] (number_9 x.num hn0 hn1) (h := ?_)
    refine R.assign (h := ?_)
    refine Reg.nil ⟨fun h => (by cases h), ?_⟩
    refine LGo.seq ?_
    refine LGo.region rfl ?_
    first | refine R.field F78_0 (h := ?_) | refine R.fieldAt F78_0 (h := ?_)
    first | refine R.loadB O3 (h := ?_) | refine R.load1 O3 (h := ?_)
    first | refine R.convI Tryz.runUnderlying3 Tryz.runUnderlying5 (h := ?_) | refine R.convW Tryz.runUnderlying3 Tryz.runUnderlying5 (h := ?_)
    refine R.move (h := ?_)
    first | refine R.len S37 (h := ?_) | refine R.lenRs S37 (h := ?_) | refine R.lenV (run_lenNil S37) (h := ?_)
    rw [ic_len]
    first | refine R.convI Tryz.runUnderlying3 Tryz.runUnderlying5 (h := ?_) | refine R.convW Tryz.runUnderlying3 Tryz.runUnderlying5 (h := ?_)
    refine R.buildSliceR AP37 (xs := [_, _]) (es := [_, _]) (hcs := CellsOfs.cons (CellsOf.one rfl) (CellsOfs.cons (CellsOf.one rfl) CellsOfs.nil)) (h := ?_)
    refine R.move (h := ?_)
    refine R.appendS AP37 (hs := SrcOk.rs Tryz.underlying37 (ic_one _ _)) (hlen := by rw [ic_len]; simp; omega) (h := ?_)
    refine R.assign (h := ?_)
    refine Reg.nil ⟨fun h => (by cases h), ?_⟩
    first | refine LGo.frzT 4 (h := ?_) | refine LGo.nilSl 4 1 (h := ?_) | skip
    exact LGo.ret (ret_T Tryz.results65 hA hmd)
  · -- else 1
    have e : outB r x = [x.tag, (x.txt.length : Int) / 256, (x.txt.length : Int) % 256] ++ textI x.txt := by simp [outB, hc]
    rw [e, ic_app, ← bytesC_text]
    refine LGo.skip ?_
    refine LGo.seq ?_
    refine LGo.region rfl ?_
    first | refine R.field F78_2 (h := ?_) | refine R.fieldAt F78_2 (h := ?_)
    first | refine R.loadB O9 (h := ?_) | refine R.load1 O9 (h := ?_)
    refine R.lenT Tryz.runUnderlying9 (h := ?_)
    refine R.assign (h := ?_)
    refine Reg.nil ⟨fun h => (by cases h), ?_⟩
    refine LGo.seq ?_
    refine LGo.region rfl ?_
    first | refine R.field F78_0 (h := ?_) | refine R.fieldAt F78_0 (h := ?_)
    first | refine R.loadB O3 (h := ?_) | refine R.load1 O3 (h := ?_)
    first | refine R.convI Tryz.runUnderlying3 Tryz.runUnderlying5 (h := ?_) | refine R.convW Tryz.runUnderlying3 Tryz.runUnderlying5 (h := ?_)
    refine R.move (h := ?_)
    refine R.quo (h := ?_)
    first | refine R.convI Tryz.runUnderlying3 Tryz.runUnderlying5 (h := ?_) | refine R.convW Tryz.runUnderlying3 Tryz.runUnderlying5 (h := ?_)
    refine R.move (h := ?_)
    refine R.rem (h := ?_)
    first | refine R.convI Tryz.runUnderlying3 Tryz.runUnderlying5 (h := ?_) | refine R.convW Tryz.runUnderlying3 Tryz.runUnderlying5 (h := ?_)
    refine R.buildSliceR AP37 (xs := [_, _, _]) (es := [_, _, _]) (hcs := CellsOfs.cons (CellsOf.one rfl) (CellsOfs.cons (CellsOf.one rfl) (CellsOfs.cons (CellsOf.one rfl) CellsOfs.nil))) (h := ?_)
    first | refine R.field F78_2 (h := ?_) | refine R.fieldAt F78_2 (h := ?_)
    first | refine R.loadB O9 (h := ?_) | refine R.load1 O9 (h := ?_)
    refine R.appendS AP37 (hs := SrcOk.strT Tryz.underlying9) (hlen := by rw [bytesC_length]; simp; omega) (h := ?_)
    refine R.assign (h := ?_)
    refine Reg.nil ⟨fun h => (by cases h), ?_⟩
    first | refine LGo.frzT 4 (h := ?_) | refine LGo.nilSl 4 1 (h := ?_) | skip
    exact LGo.ret (ret_T Tryz.results65 hA hmd)


end Go.Proofs.YtckbomkcnmcdaaaGreatDoor
