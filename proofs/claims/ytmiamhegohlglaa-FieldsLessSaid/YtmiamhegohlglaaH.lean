/- fields.needs: the tags that must be there. -/
import Derived.Test.YtmiamhegohlglaaG
set_option linter.unusedSimpArgs false
set_option linter.unusedVariables false
namespace Go.Proofs.Ytmiamhegohlglaa

def needs (rs : List Rule) : List Int := (rs.filter (fun r => r.must)).map Rule.tag
def tagsL (l : List Int) : List (List LV) := l.map fun t => [.i t]
def tagsC (l : List Int) : List (List SV) := l.map fun t => [.val (.int .i64 t)]
theorem tagsL_app (l : List Int) (t : Int) : tagsL (l ++ [t]) = tagsL l ++ [[.i t]] := by simp [tagsL]
theorem needs_take (rs : List Rule) (k : Nat) (h : k < rs.length) : needs (rs.take (k + 1)) = needs (rs.take k) ++ (if rs[k].must = true then [rs[k].tag] else []) := by
  simp only [needs, List.take_succ_eq_append_getElem h, List.filter_append, List.map_append]
  congr 1
  by_cases hm : rs[k].must = true <;> simp [hm]
theorem needs_len (rs : List Rule) : (needs rs).length ≤ rs.length := by
  simp only [needs, List.length_map]; exact List.length_filter_le _ _

theorem needs_P (rs : List Rule) (hrs : rs.length ≤ 100) : PC Try.prog 25 [.sv (.sl 5 (rs.map Rule.c))] (.sv (.sl 1 (tagsC (needs rs)))) := by
  refine ⟨LC.of_go Try.func25 (c := _) rfl (by kernel_rfl) (by rw [Try.ntmps25]; simp) rfl rfl (by simp) (by simp) ?_⟩
  intro B hA hmd
  refine LGo.seq ?_
  refine LGo.region rfl ?_  -- region 0
  refine R.assign (h := ?_)
  refine Reg.nil ⟨fun h => (by cases h), ?_⟩
  refine LGo.seq ?_
  refine LGo.region rfl ?_  -- region 1
  refine R.assign (h := ?_)
  refine Reg.nil ⟨fun h => (by cases h), ?_⟩
  refine LGo.seq ?_
  refine LGo.seq ?_
  refine LGo.region rfl ?_  -- region 2
  refine R.move (h := ?_)
  first | refine R.len S22 (h := ?_) | refine R.lenV (run_lenNil S22) (h := ?_)
  rw [List.length_map]
  refine R.move (h := ?_)
  refine Reg.nil ⟨fun h => (by cases h), ?_⟩
  refine LGo.block ?_
  refine LGo.loop ?_
  refine LGo.nilRow 3 3 1 (by rfl) ?_
  refine LGo.keep [(3, (true, .ref 0)), (6, (true, .sv (.sl 5 (rs.map Rule.c)))), (7, (true, .i rs.length)), (8, (true, .i (0 : Nat)))] [(0, .row 3 1 (tagsL (needs (rs.take 0))))] ⟨rfl, rfl, rfl, rfl, trivial⟩ ⟨rfl, trivial⟩ ?_
  refine LGo.loopK (σ := Nat) (fun k => k ≤ rs.length) (fun k => [(3, (true, .ref 0)), (6, (true, .sv (.sl 5 (rs.map Rule.c)))), (7, (true, .i rs.length)), (8, (true, .i k))]) (fun k => [(0, .row 3 1 (tagsL (needs (rs.take k))))]) (fun _ => 1) (fun k => rs.length - k) 0 (by simp) ?_
  rintro k hk ih
  refine LGo.seq ?_
  refine LGo.region rfl ?_  -- region 3
  refine R.bin (run_lss _ _ _ _ _ _) (h := ?_)
  refine Reg.nil ⟨fun h => (by cases h), ?_⟩
  refine LGo.seq ?_
  refine LGo.ifd (ht := fun hc => ?_) (hf := fun hc => ?_)
  · -- then
    have hlt : k < rs.length := by omega
    have hx : (rs.map Rule.c)[((k : Nat) : Int).toNat]? = some (rs[k].c) := by simp [hlt]
    have hnt := needs_take rs k hlt
    have hnl := needs_len (rs.take k)
    rw [List.length_take] at hnl
    generalize rs[k] = x at hx hnt
    refine LGo.skip ?_
    refine LGo.seq ?_
    refine LGo.block ?_
    refine LGo.seq ?_
    refine LGo.region rfl ?_  -- region 4
    refine R.index I22 (hj := fun _ => ⟨by omega, hx⟩) (h := ?_)
    first | refine R.loadA A45 (h := ?_) | refine R.loadN A45 (h := ?_)
    refine R.alloc Z45 (h := ?_)
    refine R.storeA A45 (h := ?_)
    refine Reg.nil ⟨fun h => (by cases h), ?_⟩
    refine LGo.seq ?_
    refine LGo.region rfl ?_  -- region 5
    first | refine R.field F45_4 (h := ?_) | refine R.fieldAt F45_4 (h := ?_)
    first | refine R.loadB O4 (h := ?_) | refine R.load1 O4 (h := ?_)
    refine Reg.nil ⟨fun h => (by cases h), ?_⟩
    refine LGo.ifb (ht := fun hc2 => ?_) (hf := fun hc2 => ?_)
    · -- then
      refine LGo.region rfl ?_  -- region 6
      refine R.move (h := ?_)
      first | refine R.field F45_0 (h := ?_) | refine R.fieldAt F45_0 (h := ?_)
      first | refine R.loadB O3 (h := ?_) | refine R.load1 O3 (h := ?_)
      refine R.buildSlice AP53 (xs := [_]) (es := [_]) (hcs := CellsOfs.cons (CellsOf.one rfl) CellsOfs.nil) (h := ?_)
      refine R.append AP53 (xs := tagsL (needs (rs.take k))) (ys := [[.i x.tag]]) (hs := SrcOk.row Try.underlying53 (by simp)) (hrd := oneL (by rfl)) (hlen := by simp [tagsL]; omega) (h := ?_)
      refine R.assign (h := ?_)
      refine Reg.nil ⟨fun h => (by cases h), ?_⟩
      refine LGo.inBlock ?_
      refine LGo.region rfl ?_  -- region 7
      first | refine R.add (h := ?_) | refine R.addW (h := ?_)
      refine R.move (h := ?_)
      refine Reg.nil ⟨fun h => (by cases h), ?_⟩
      refine LGo.inLoop ?_
      exact LGo.turn [3] (b := 0) (fun o h => (hA o).1 h) (ih (k + 1) hlt (by omega)) ⟨rfl, rfl, rfl, rfl, trivial⟩ ⟨by rw [hnt, if_pos hc2, tagsL_app]; simp [LO.mapI, tagsL, LV.mapIs, LV.mapI], trivial⟩ (hLl := by simp [LO.lt, tagsL, LV.lts, LV.lt])
    · -- else
      refine LGo.skip ?_
      refine LGo.inBlock ?_
      refine LGo.region rfl ?_  -- region 7
      first | refine R.add (h := ?_) | refine R.addW (h := ?_)
      refine R.move (h := ?_)
      refine Reg.nil ⟨fun h => (by cases h), ?_⟩
      refine LGo.inLoop ?_
      exact LGo.next 1 (fun o h => by have := (hA o).1 h; omega) (by omega) (ih (k + 1) hlt (by omega)) ⟨rfl, rfl, rfl, rfl, trivial⟩ ⟨by rw [hnt, if_neg (by simp [hc2]), List.append_nil]; rfl, trivial⟩ (hLl := by simp [LO.lt, tagsL, LV.lts, LV.lt])
  · -- else
    have hk' : k = rs.length := by omega
    subst hk'
    rw [List.take_length]
    refine LGo.exit rfl ?_
    refine LGo.seq ?_
    refine LGo.region rfl ?_  -- region 8
    refine R.move (h := ?_)
    refine R.assign (h := ?_)
    refine Reg.nil ⟨fun h => (by cases h), ?_⟩
    refine LGo.freeze 0 (ys := tagsC (needs rs)) (by rfl) (by simp [tagsL, tagsC]) ?_
    refine LGo.drop 0 (fun o h => (hA o).1 h) (by omega) [(2, (true, .sv (.sl 1 (tagsC (needs rs)))))] [] ⟨rfl, trivial⟩ trivial (by simp [LV.lt]) (by simp) (h := ?_)
    exact LGo.ret (res1 Try.results25 hA hmd (by rfl) noHo (by rfl) (.inr rfl))

end Go.Proofs.Ytmiamhegohlglaa
