/- The reference's Check. -/
import Derived.Test.YtmiamhegohlglaaI
set_option linter.unusedSimpArgs false
set_option linter.unusedVariables false
namespace Go.Proofs.Ytmiamhegohlglaa

def badR (k : Int) (prev r : Rule) : Bool := (((((decide (r.tag < 1) || decide (63 < r.tag)) || ((!decide (r.kind = 1)) && (!decide (r.kind = 2)))) || decide (r.high < r.low)) || (decide (r.kind = 2) && decide (400 < r.high))) || (decide (0 < k) && decide (r.tag ≤ prev.tag)))
def refGo (k : Nat) (prev : Rule) : List Rule → Int
  | [] => 0
  | r :: rs => if badR k prev r = true then 2 else refGo (k + 1) r rs
def refCheck (rs : List Rule) : Int := if 16 < rs.length then 3 else refGo 0 default rs
def prevOf (xs : List Rule) (k : Nat) : Rule := if k = 0 then default else xs.getD (k - 1) default

theorem refCheck_P (xs : List Rule) : PC Try.prog 24 [.sv (.sl 5 (xs.map Rule.c))] (.i (refCheck xs)) := by
  refine ⟨LC.of_go Try.func24 (c := _) rfl (by kernel_rfl) (by rw [Try.ntmps24]; simp) rfl rfl (by simp) (by simp) ?_⟩
  intro B hA hmd
  refine LGo.seq ?_
  refine LGo.region rfl ?_  -- region 0
  refine R.assign (h := ?_)
  refine Reg.nil ⟨fun h => (by cases h), ?_⟩
  refine LGo.seq ?_
  refine LGo.seq ?_
  refine LGo.region rfl ?_  -- region 1
  refine R.move (h := ?_)
  first | refine R.len S22 (h := ?_) | refine R.lenV (run_lenNil S22) (h := ?_)
  rw [List.length_map]
  refine R.bin (run_gtr _ _ _ _ _ _) (h := ?_)
  refine Reg.nil ⟨fun h => (by cases h), ?_⟩
  refine LGo.ifd (ht := fun hc => ?_) (hf := fun hc => ?_)
  · -- then
    have e : refCheck xs = 3 := by unfold refCheck; rw [if_pos (by omega)]
    rw [e]
    refine LGo.seq ?_
    refine LGo.region rfl ?_  -- region 2
    refine R.assign (h := ?_)
    refine Reg.nil ⟨fun h => (by cases h), ?_⟩
    exact LGo.ret (res1 Try.results24 hA hmd (by rfl) noHo (by rfl) (.inr rfl))
  · -- else
    have e : refCheck xs = refGo 0 default xs := by unfold refCheck; rw [if_neg (by omega)]
    rw [e]
    refine LGo.skip ?_
    refine LGo.seq ?_
    refine LGo.seq ?_
    refine LGo.region rfl ?_  -- region 3
    refine R.assign (h := ?_)
    refine Reg.nil ⟨fun h => (by cases h), ?_⟩
    refine LGo.block ?_
    refine LGo.loop ?_
    refine LGo.keep [(0, (true, .sv (.sl 5 (xs.map Rule.c)))), (3, (true, .i (0 : Nat)))] [] ⟨rfl, rfl, trivial⟩ trivial ?_
    refine LGo.loopK (σ := Nat) (fun k => k ≤ xs.length ∧ refGo 0 default xs = refGo k (prevOf xs k) (xs.drop k)) (fun k => [(0, (true, .sv (.sl 5 (xs.map Rule.c)))), (3, (true, .i k))]) (fun _ => []) (fun _ => 0) (fun k => xs.length - k) 0 ⟨by simp, by simp [prevOf]⟩ ?_
    rintro k ⟨hk, hq⟩ ih
    refine LGo.seq ?_
    refine LGo.seq ?_
    refine LGo.region rfl ?_  -- region 4
    refine R.move (h := ?_)
    refine R.move (h := ?_)
    first | refine R.len S22 (h := ?_) | refine R.lenV (run_lenNil S22) (h := ?_)
    rw [List.length_map]
    refine R.bin (run_lss _ _ _ _ _ _) (h := ?_)
    refine Reg.nil ⟨fun h => (by cases h), ?_⟩
    refine LGo.ifd (ht := fun hc2 => ?_) (hf := fun hc2 => ?_)
    · -- then
      have hlt : k < xs.length := by omega
      have hx : (xs.map Rule.c)[((k : Nat) : Int).toNat]? = some (xs[k].c) := by simp [hlt]
      have hd : xs.drop k = xs[k] :: xs.drop (k + 1) := List.drop_eq_getElem_cons hlt
      have hp1 : prevOf xs (k + 1) = xs[k] := by simp [prevOf, hlt]
      have hpv : 0 < k → (xs.map Rule.c)[((k : Int) - 1).toNat]? = some ((prevOf xs k).c) := fun h => by
        have h1 : ((k : Int) - 1).toNat = k - 1 := by omega
        have h2 : k - 1 < xs.length := by omega
        rw [h1]; simp [prevOf, show k ≠ 0 by omega, h2]
      rw [hd] at hq
      generalize xs[k] = ru at hx hq hp1
      generalize prevOf xs k = pv at hpv hq
      clear hd
      refine LGo.skip ?_
      refine LGo.seq ?_
      refine LGo.block ?_
      refine LGo.seq ?_
      refine LGo.region rfl ?_  -- region 6
      refine R.move (h := ?_)
      refine R.move (h := ?_)
      refine R.index I22 (hj := fun _ => ⟨by omega, hx⟩) (h := ?_)
      first | refine R.loadA A45 (h := ?_) | refine R.loadN A45 (h := ?_)
      refine R.alloc Z45 (h := ?_)
      refine R.storeA A45 (h := ?_)
      refine Reg.nil ⟨fun h => (by cases h), ?_⟩
      refine LGo.seq ?_
      refine LGo.region rfl ?_  -- region 7 DRAWS
      first | refine R.field F45_0 (h := ?_) | refine R.fieldAt F45_0 (h := ?_)
      first | refine R.loadB O3 (h := ?_) | refine R.load1 O3 (h := ?_)
      refine R.bin (run_lss _ _ _ _ _ _) (h := ?_)
      refine R.move (h := ?_)
      first | refine R.field F45_0 (h := ?_) | refine R.fieldAt F45_0 (h := ?_)
      first | refine R.loadB O3 (h := ?_) | refine R.load1 O3 (h := ?_)
      refine R.bin (run_gtr _ _ _ _ _ _) (h := ?_)
      refine R.or (h := ?_)
      refine R.move (h := ?_)
      first | refine R.field F45_1 (h := ?_) | refine R.fieldAt F45_1 (h := ?_)
      first | refine R.loadB O3 (h := ?_) | refine R.load1 O3 (h := ?_)
      refine R.bin (run_neq _ _ _ _ _ _) (h := ?_)
      refine R.move (h := ?_)
      first | refine R.field F45_1 (h := ?_) | refine R.fieldAt F45_1 (h := ?_)
      first | refine R.loadB O3 (h := ?_) | refine R.load1 O3 (h := ?_)
      refine R.bin (run_neq _ _ _ _ _ _) (h := ?_)
      refine R.and (h := ?_)
      refine R.or (h := ?_)
      refine R.move (h := ?_)
      first | refine R.field F45_2 (h := ?_) | refine R.fieldAt F45_2 (h := ?_)
      first | refine R.loadB O32 (h := ?_) | refine R.load1 O32 (h := ?_)
      first | refine R.field F45_3 (h := ?_) | refine R.fieldAt F45_3 (h := ?_)
      first | refine R.loadB O32 (h := ?_) | refine R.load1 O32 (h := ?_)
      refine R.bin (run_gtr _ _ _ _ _ _) (h := ?_)
      refine R.or (h := ?_)
      refine R.move (h := ?_)
      first | refine R.field F45_1 (h := ?_) | refine R.fieldAt F45_1 (h := ?_)
      first | refine R.loadB O3 (h := ?_) | refine R.load1 O3 (h := ?_)
      refine R.bin (run_eql _ _ _ _ _ _) (h := ?_)
      refine R.move (h := ?_)
      first | refine R.field F45_3 (h := ?_) | refine R.fieldAt F45_3 (h := ?_)
      first | refine R.loadB O32 (h := ?_) | refine R.load1 O32 (h := ?_)
      refine R.bin (run_gtr _ _ _ _ _ _) (h := ?_)
      refine R.and (h := ?_)
      refine R.or (h := ?_)
      refine R.move (h := ?_)
      refine R.move (h := ?_)
      refine R.bin (run_gtr _ _ _ _ _ _) (h := ?_)
      refine R.move (h := ?_)
      first | refine R.field F45_0 (h := ?_) | refine R.fieldAt F45_0 (h := ?_)
      first | refine R.loadB O3 (h := ?_) | refine R.load1 O3 (h := ?_)
      refine R.move (h := ?_)
      refine R.move (h := ?_)
      first | refine R.sub (h := ?_) | refine R.subW (h := ?_)
      refine R.index I22 (hj := fun hg => ⟨by simp at hg; omega, hpv (by simp at hg; omega)⟩) (h := ?_)
      first | refine R.field F45_0 (h := ?_) | refine R.fieldAt F45_0 (h := ?_)
      first | refine R.loadB O3 (h := ?_) | refine R.load1 O3 (h := ?_)
      refine R.bin (run_leq _ _ _ _ _ _) (h := ?_)
      refine R.and (h := ?_)
      refine R.or (h := ?_)
      refine Reg.nil ⟨fun _ => ⟨mixedO, by rfl, by rfl⟩, ?_⟩
      refine LGo.ifb (ht := fun hc3 => ?_) (hf := fun hc3 => ?_)
      · -- then
        have e2 : refGo k pv (ru :: xs.drop (k + 1)) = 2 := by simp only [refGo]; exact if_pos hc3
        rw [hq, e2]
        refine LGo.seq ?_
        refine LGo.region rfl ?_  -- region 8
        refine R.assign (h := ?_)
        refine Reg.nil ⟨fun h => (by cases h), ?_⟩
        refine LGo.drop 0 (fun o h => (hA o).1 h) (by omega) [(2, (true, .i 2))] [] ⟨rfl, trivial⟩ trivial (by simp [LV.lt]) (by simp) (h := ?_)
        exact LGo.ret (res1 Try.results24 hA hmd (by rfl) noHo (by rfl) (.inr rfl))
      · -- else
        have e2 : refGo k pv (ru :: xs.drop (k + 1)) = refGo (k + 1) ru (xs.drop (k + 1)) := by simp only [refGo]; exact if_neg (by rw [show badR k pv ru = false from hc3]; simp)
        rw [e2, ← hp1] at hq
        refine LGo.skip ?_
        refine LGo.inBlock ?_
        refine LGo.region rfl ?_  -- region 5
        refine R.move (h := ?_)
        first | refine R.add (h := ?_) | refine R.addW (h := ?_)
        refine R.assign (h := ?_)
        refine Reg.nil ⟨fun h => (by cases h), ?_⟩
        refine LGo.inLoop ?_
        exact LGo.next 0 (fun o h => (hA o).1 h) (by omega) (ih (k + 1) ⟨by omega, hq⟩ (by omega)) ⟨rfl, rfl, trivial⟩ trivial
    · -- else
      have hk' : k = xs.length := by omega
      subst hk'
      rw [List.drop_length] at hq
      simp only [refGo] at hq
      rw [hq]
      refine LGo.exit rfl ?_
      refine LGo.seq ?_
      refine LGo.region rfl ?_  -- region 9
      refine R.assign (h := ?_)
      refine Reg.nil ⟨fun h => (by cases h), ?_⟩
      exact LGo.ret (res1 Try.results24 hA hmd (by rfl) noHo (by rfl) (.inr rfl))

end Go.Proofs.Ytmiamhegohlglaa
