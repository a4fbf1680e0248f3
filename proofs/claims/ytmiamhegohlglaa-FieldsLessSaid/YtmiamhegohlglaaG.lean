/- The reference's missing and Check; needs; the law's rules. -/
import Derived.Test.YtmiamhegohlglaaF
set_option linter.unusedSimpArgs false
set_option linter.unusedVariables false
namespace Go.Proofs.Ytmiamhegohlglaa

def lacks (fs : List Fld) (r : Rule) : Bool := r.must && !(fldHas r.tag fs)
def missing (rs : List Rule) (n : Nat) (fs : List Fld) : Bool := (rs.take n).any (lacks fs)

theorem missing_P (rs : List Rule) (n : Nat) (fs : List Fld) (hn : n ≤ rs.length) (hrs : rs.length ≤ 100) (hfs : fs.length ≤ 100) : PC Try.prog 29 [.sv (.sl 5 (rs.map Rule.c)), .i n, .sv (.sl 3 (fs.map Fld.c))] (.b (missing rs n fs)) := by
  refine ⟨LC.of_go Try.func29 (c := _) rfl (by kernel_rfl) (by rw [Try.ntmps29]; simp) rfl rfl (by simp) (by simp) ?_⟩
  intro B hA hmd
  refine LGo.seq ?_
  refine LGo.region rfl ?_  -- region 0
  refine R.assign (h := ?_)
  refine Reg.nil ⟨fun h => (by cases h), ?_⟩
  refine LGo.seq ?_
  refine LGo.seq ?_
  refine LGo.region rfl ?_  -- region 1
  refine R.assign (h := ?_)
  refine Reg.nil ⟨fun h => (by cases h), ?_⟩
  refine LGo.block ?_
  refine LGo.loop ?_
  refine LGo.keep [(0, (true, .sv (.sl 5 (rs.map Rule.c)))), (1, (true, .i n)), (2, (true, .sv (.sl 3 (fs.map Fld.c)))), (7, (true, .i (0 : Nat)))] [] ⟨rfl, rfl, rfl, rfl, trivial⟩ trivial ?_
  refine LGo.loopK (σ := Nat) (fun k => k ≤ n ∧ missing rs n fs = ((rs.take n).drop k).any (lacks fs))
    (fun k => [(0, (true, .sv (.sl 5 (rs.map Rule.c)))), (1, (true, .i n)), (2, (true, .sv (.sl 3 (fs.map Fld.c)))), (7, (true, .i k))]) (fun _ => []) (fun _ => 0) (fun k => n - k) 0 ⟨by simp, by simp [missing]⟩ ?_
  rintro k ⟨hk, hq⟩ ih
  refine LGo.seq ?_
  refine LGo.seq ?_
  refine LGo.region rfl ?_  -- region 2
  refine R.move (h := ?_)
  refine R.move (h := ?_)
  refine R.bin (run_lss _ _ _ _ _ _) (h := ?_)
  refine Reg.nil ⟨fun h => (by cases h), ?_⟩
  refine LGo.ifd (ht := fun hc => ?_) (hf := fun hc => ?_)
  · -- then
    have hlt : k < rs.length := by omega
    have hx : (rs.map Rule.c)[((k : Nat) : Int).toNat]? = some (rs[k].c) := by simp [hlt]
    have hd : (rs.take n).drop k = rs[k] :: (rs.take n).drop (k + 1) := by
      rw [List.drop_eq_getElem_cons (by simp; omega)]; simp
    rw [hd, List.any_cons] at hq
    generalize rs[k] = x at hx hq
    clear hd
    refine LGo.skip ?_
    refine LGo.seq ?_
    refine LGo.block ?_
    refine LGo.seq ?_
    refine LGo.region rfl ?_  -- region 4
    refine R.move (h := ?_)
    refine R.move (h := ?_)
    refine R.move (h := ?_)
    refine R.index I22 (hj := fun _ => ⟨by omega, hx⟩) (h := ?_)
    first | refine R.field F45_0 (h := ?_) | refine R.fieldAt F45_0 (h := ?_)
    first | refine R.loadB O3 (h := ?_) | refine R.load1 O3 (h := ?_)
    refine R.callP (es := [_, _]) (fun _ => refFind_P fs _ hfs) (h := ?_)
    refine R.move (h := ?_)
    refine R.extract (h := ?_)
    refine R.extract (h := ?_)
    refine R.alloc Z34 (h := ?_)
    refine R.storeA A34 (h := ?_)
    refine R.assign (h := ?_)
    refine Reg.nil ⟨fun h => (by cases h), ?_⟩
    refine LGo.seq ?_
    refine LGo.region rfl ?_  -- region 5
    refine R.move (h := ?_)
    refine R.move (h := ?_)
    refine R.index I22 (hj := fun _ => ⟨by omega, hx⟩) (h := ?_)
    refine R.fieldAt F45_4 (hl := by simp [Rule.c]) (h := ?_)
    first | refine R.loadB O4 (h := ?_) | refine R.load1 O4 (h := ?_)
    refine R.move (h := ?_)
    refine R.move (h := ?_)
    refine R.not (h := ?_)
    refine R.and (h := ?_)
    refine Reg.nil ⟨fun h => (by cases h), ?_⟩
    refine LGo.ifb (ht := fun hc2 => ?_) (hf := fun hc2 => ?_)
    · -- then
      have e : missing rs n fs = true := by rw [hq]; simp [lacks, hc2]
      rw [e]
      refine LGo.seq ?_
      refine LGo.region rfl ?_  -- region 6
      refine R.assign (h := ?_)
      refine Reg.nil ⟨fun h => (by cases h), ?_⟩
      refine LGo.drop 0 (fun o h => (hA o).1 h) (by omega) [(6, (true, .b true))] [] ⟨rfl, trivial⟩ trivial (by simp [LV.lt]) (by simp) (h := ?_)
      exact LGo.ret (res1 Try.results29 hA hmd (by rfl) noHo (by rfl) (.inr rfl))
    · -- else
      have e : lacks fs x = false := hc2
      rw [e, Bool.false_or] at hq
      refine LGo.skip ?_
      refine LGo.inBlock ?_
      refine LGo.region rfl ?_  -- region 3
      refine R.move (h := ?_)
      first | refine R.add (h := ?_) | refine R.addW (h := ?_)
      refine R.assign (h := ?_)
      refine Reg.nil ⟨fun h => (by cases h), ?_⟩
      refine LGo.inLoop ?_
      exact LGo.next 0 (fun o h => (hA o).1 h) (by omega) (ih (k + 1) ⟨by omega, hq⟩ (by omega)) ⟨rfl, rfl, rfl, rfl, trivial⟩ trivial
  · -- else
    have hk' : k = n := by omega
    subst hk'
    have e : missing rs k fs = false := by rw [hq]; simp
    rw [e]
    refine LGo.exit rfl ?_
    refine LGo.seq ?_
    refine LGo.region rfl ?_  -- region 7
    refine R.assign (h := ?_)
    refine Reg.nil ⟨fun h => (by cases h), ?_⟩
    exact LGo.ret (res1 Try.results29 hA hmd (by rfl) noHo (by rfl) (.inr rfl))

def lawRules : List Rule := [⟨1, 1, 0, 300, true⟩, ⟨4, 2, 1, 3, false⟩]
theorem lawRules_P : PC Try.prog 19 [] (.sv (.sl 5 (lawRules.map Rule.c))) := by
  refine ⟨LC.of_go Try.func19 (c := _) rfl (by kernel_rfl) (by rw [Try.ntmps19]; simp) rfl rfl (by simp) (by simp) ?_⟩
  intro B hA hmd
  refine LGo.seq ?_
  refine LGo.region rfl ?_  -- region 0
  refine R.assign (h := ?_)
  refine Reg.nil ⟨fun h => (by cases h), ?_⟩
  refine LGo.seq ?_
  refine LGo.region rfl ?_  -- region 1
  refine R.build BF45 (is := [0, 1, 3, 4]) (xs := [_, _, _, _]) (es := [_, _, _, _]) (h := ?_)
  refine R.build BF45 (is := [0, 1, 2, 3]) (xs := [_, _, _, _]) (es := [_, _, _, _]) (h := ?_)
  refine R.buildSliceF AP22 (lawRules.map Rule.c) (xs := [_, _]) (es := [_, _]) (hcs := CellsOfs.cons (CellsOf.agg rfl) (CellsOfs.cons (CellsOf.agg rfl) CellsOfs.nil)) (h := ?_)
  refine R.assign (h := ?_)
  refine Reg.nil ⟨fun h => (by cases h), ?_⟩
  exact LGo.ret (res1 Try.results19 hA hmd (by rfl) noHo (by rfl) (.inr rfl))

end Go.Proofs.Ytmiamhegohlglaa
