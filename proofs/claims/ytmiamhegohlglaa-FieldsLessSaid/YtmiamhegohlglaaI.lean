/- The reference's one: is a field's value allowed by its rule. -/
import Derived.Test.YtmiamhegohlglaaH
set_option linter.unusedSimpArgs false
set_option linter.unusedVariables false
namespace Go.Proofs.Ytmiamhegohlglaa

theorem txt_nil (l : List UInt8) : decide ((⟨l.toArray⟩ : ByteArray) = ByteArray.mk #[]) = decide (l = []) := by
  congr 1
  simp [ByteArray.mk.injEq]
theorem txt_len (l : List UInt8) : (⟨l.toArray⟩ : ByteArray).size = l.length := by simp [ByteArray.size]

def odd (r : Rule) (x : Fld) : Bool := (decide (r.kind = 1) && !decide (x.txt = [])) || (decide (r.kind = 2) && !decide (x.num = 0))
def val (r : Rule) (x : Fld) : Int := if r.kind = 2 then x.txt.length else x.num
def one (r : Rule) (x : Fld) : Int := if odd r x = true then 2 else if (!within r (val r x)) = true then 7 else 0

theorem one_P (r : Rule) (x : Fld) (hx : x.txt.length ≤ 1000) : PC Try.prog 34 [.agg (r.c.map LV.sv), .agg (x.c.map LV.sv)] (.i (one r x)) := by
  refine ⟨LC.of_go Try.func34 (c := _) rfl (by kernel_rfl) (by rw [Try.ntmps34]; simp) rfl rfl (by simp) (by simp) ?_⟩
  intro B hA hmd
  refine LGo.seq ?_
  refine LGo.region rfl ?_  -- region 0
  refine R.box (h := ?_)
  refine R.box (h := ?_)
  refine R.assign (h := ?_)
  refine Reg.nil ⟨fun h => (by cases h), ?_⟩
  refine LGo.seq ?_
  refine LGo.seq ?_
  refine LGo.region rfl ?_  -- region 1
  first | refine R.field F45_1 (h := ?_) | refine R.fieldAt F45_1 (h := ?_)
  first | refine R.loadB O3 (h := ?_) | refine R.load1 O3 (h := ?_)
  refine R.bin (run_eql _ _ _ _ _ _) (h := ?_)
  refine R.move (h := ?_)
  first | refine R.field F34_2 (h := ?_) | refine R.fieldAt F34_2 (h := ?_)
  first | refine R.loadB O9 (h := ?_) | refine R.load1 O9 (h := ?_)
  refine R.bin (run_neqS _ _ _ _ _) (h := ?_)
  rw [txt_nil]
  refine R.and (h := ?_)
  refine R.move (h := ?_)
  first | refine R.field F45_1 (h := ?_) | refine R.fieldAt F45_1 (h := ?_)
  first | refine R.loadB O3 (h := ?_) | refine R.load1 O3 (h := ?_)
  refine R.bin (run_eql _ _ _ _ _ _) (h := ?_)
  refine R.move (h := ?_)
  first | refine R.field F34_1 (h := ?_) | refine R.fieldAt F34_1 (h := ?_)
  first | refine R.loadB O32 (h := ?_) | refine R.load1 O32 (h := ?_)
  refine R.bin (run_neq _ _ _ _ _ _) (h := ?_)
  refine R.and (h := ?_)
  refine R.or (h := ?_)
  refine Reg.nil ⟨fun h => (by cases h), ?_⟩
  refine LGo.ifb (ht := fun hc => ?_) (hf := fun hc => ?_)
  · -- then
    have e : one r x = 2 := by unfold one; rw [if_pos (by simpa [odd] using hc)]
    rw [e]
    refine LGo.seq ?_
    refine LGo.region rfl ?_  -- region 2
    refine R.assign (h := ?_)
    refine Reg.nil ⟨fun h => (by cases h), ?_⟩
    refine LGo.drop 0 (fun o h => (hA o).1 h) (by omega) [(4, (true, .i 2))] [] ⟨rfl, trivial⟩ trivial (by simp [LV.lt]) (by simp) (h := ?_)
    exact LGo.ret (res1 Try.results34 hA hmd (by rfl) noHo (by rfl) (.inr rfl))
  · -- else
    have eo : one r x = if (!within r (val r x)) = true then 7 else 0 := by unfold one; rw [if_neg (by simpa [odd] using hc)]
    rw [eo]
    refine LGo.skip ?_
    refine LGo.seq ?_
    refine LGo.region rfl ?_  -- region 3
    first | refine R.field F34_1 (h := ?_) | refine R.fieldAt F34_1 (h := ?_)
    first | refine R.loadB O32 (h := ?_) | refine R.load1 O32 (h := ?_)
    refine R.assign (h := ?_)
    refine Reg.nil ⟨fun h => (by cases h), ?_⟩
    refine LGo.seq ?_
    refine LGo.seq ?_
    refine LGo.region rfl ?_  -- region 4
    first | refine R.field F45_1 (h := ?_) | refine R.fieldAt F45_1 (h := ?_)
    first | refine R.loadB O3 (h := ?_) | refine R.load1 O3 (h := ?_)
    refine R.bin (run_eql _ _ _ _ _ _) (h := ?_)
    refine Reg.nil ⟨fun h => (by cases h), ?_⟩
    refine LGo.ifd (ht := fun hc2 => ?_) (hf := fun hc2 => ?_)
    · -- then
      have ev : val r x = (x.txt.length : Int) := by simp [val, hc2]
      refine LGo.region rfl ?_  -- region 5
      first | refine R.field F34_2 (h := ?_) | refine R.fieldAt F34_2 (h := ?_)
      first | refine R.loadB O9 (h := ?_) | refine R.load1 O9 (h := ?_)
      refine R.lenV (run_lenS Try.runUnderlying9) (h := ?_)
      rw [txt_len]
      first | refine R.convI Try.runUnderlying3 Try.runUnderlying32 (h := ?_) | refine R.convW Try.runUnderlying3 Try.runUnderlying32 (h := ?_)
      refine R.assign (h := ?_)
      refine Reg.nil ⟨fun h => (by cases h), ?_⟩
      refine LGo.seq ?_
      refine LGo.seq ?_
      refine LGo.region rfl ?_  -- region 6
      first | refine R.loadA A45 (h := ?_) | refine R.loadN A45 (h := ?_)
      refine R.move (h := ?_)
      refine R.callP (es := [_, _]) (fun _ => refWithin_P r _) (h := ?_)
      refine R.not (h := ?_)
      refine Reg.nil ⟨fun h => (by cases h), ?_⟩
      refine LGo.ifb (ht := fun hc3 => ?_) (hf := fun hc3 => ?_)
      · -- then
        rw [if_pos (by rw [ev]; exact hc3)]
        refine LGo.seq ?_
        refine LGo.region rfl ?_  -- region 7
        refine R.assign (h := ?_)
        refine Reg.nil ⟨fun h => (by cases h), ?_⟩
        refine LGo.drop 0 (fun o h => (hA o).1 h) (by omega) [(4, (true, .i 7))] [] ⟨rfl, trivial⟩ trivial (by simp [LV.lt]) (by simp) (h := ?_)
        exact LGo.ret (res1 Try.results34 hA hmd (by rfl) noHo (by rfl) (.inr rfl))
      · -- else
        rw [if_neg (by rw [ev]; simpa using hc3)]
        refine LGo.skip ?_
        refine LGo.seq ?_
        refine LGo.region rfl ?_  -- region 8
        refine R.assign (h := ?_)
        refine Reg.nil ⟨fun h => (by cases h), ?_⟩
        refine LGo.drop 0 (fun o h => (hA o).1 h) (by omega) [(4, (true, .i 0))] [] ⟨rfl, trivial⟩ trivial (by simp [LV.lt]) (by simp) (h := ?_)
        exact LGo.ret (res1 Try.results34 hA hmd (by rfl) noHo (by rfl) (.inr rfl))
    · -- else
      have ev : val r x = x.num := by simp [val, hc2]
      refine LGo.skip ?_
      refine LGo.seq ?_
      refine LGo.seq ?_
      refine LGo.region rfl ?_  -- region 6
      first | refine R.loadA A45 (h := ?_) | refine R.loadN A45 (h := ?_)
      refine R.move (h := ?_)
      refine R.callP (es := [_, _]) (fun _ => refWithin_P r _) (h := ?_)
      refine R.not (h := ?_)
      refine Reg.nil ⟨fun h => (by cases h), ?_⟩
      refine LGo.ifb (ht := fun hc4 => ?_) (hf := fun hc4 => ?_)
      · -- then
        rw [if_pos (by rw [ev]; exact hc4)]
        refine LGo.seq ?_
        refine LGo.region rfl ?_  -- region 7
        refine R.assign (h := ?_)
        refine Reg.nil ⟨fun h => (by cases h), ?_⟩
        refine LGo.drop 0 (fun o h => (hA o).1 h) (by omega) [(4, (true, .i 7))] [] ⟨rfl, trivial⟩ trivial (by simp [LV.lt]) (by simp) (h := ?_)
        exact LGo.ret (res1 Try.results34 hA hmd (by rfl) noHo (by rfl) (.inr rfl))
      · -- else
        rw [if_neg (by rw [ev]; simpa using hc4)]
        refine LGo.skip ?_
        refine LGo.seq ?_
        refine LGo.region rfl ?_  -- region 8
        refine R.assign (h := ?_)
        refine Reg.nil ⟨fun h => (by cases h), ?_⟩
        refine LGo.drop 0 (fun o h => (hA o).1 h) (by omega) [(4, (true, .i 0))] [] ⟨rfl, trivial⟩ trivial (by simp [LV.lt]) (by simp) (h := ?_)
        exact LGo.ret (res1 Try.results34 hA hmd (by rfl) noHo (by rfl) (.inr rfl))

end Go.Proofs.Ytmiamhegohlglaa
