/- The reference's bytes: how a field is written. -/
import Derived.Test.YtmiamhegohlglaaK
import Derived.Test.YtmiamhegohlglaaC22
set_option linter.unusedSimpArgs false
set_option linter.unusedVariables false
namespace Go.Proofs.Ytmiamhegohlglaa

def textI (l : List UInt8) : List Int := l.map fun c => (c.toNat : Int)
theorem textI_len (l : List UInt8) : (textI l).length = l.length := by simp [textI]
theorem bytesC_text (l : List UInt8) : bytesC l = ic .u8 (textI l) := bytesC_ic l
/-- how a field is written -/
def outB (r : Rule) (x : Fld) : List Int := if r.kind = 1 then [x.tag, ((numB 9 x.num).length : Int)] ++ numB 9 x.num else [x.tag, (x.txt.length : Int) / 256, (x.txt.length : Int) % 256] ++ textI x.txt
theorem outB_len (r : Rule) (x : Fld) : (outB r x).length ≤ x.txt.length + 11 := by
  have h := numB_len 9 x.num
  unfold outB
  split <;> simp [textI_len] <;> omega
theorem wrap_u8' (a : Int) (h0 : 0 ≤ a) (h1 : a < 256) : IntKind.u8.wrap a = a := wrap_u rfl h0 (by simp only [IntKind.bits]; omega)

theorem bytes_P (r : Rule) (x : Fld) (ht0 : 0 ≤ x.tag) (ht1 : x.tag < 256) (hn0 : 0 ≤ x.num) (hn1 : x.num < 18446744073709551616) (hx : x.txt.length ≤ 1000) :
    PC Try.prog 35 [.agg (r.c.map LV.sv), .agg (x.c.map LV.sv)] (.sv (.sl 1 (ic .u8 (outB r x)))) := by
  refine ⟨LC.of_go Try.func35 (c := _) rfl (by kernel_rfl) (by rw [Try.ntmps35]; simp) rfl rfl (by simp [LO.lt, LV.lts, LV.lt]) (by simp) ?_⟩
  intro B hA hmd
  refine LGo.seq ?_
  refine LGo.region rfl ?_  -- region 0
  refine R.box (h := ?_)
  refine R.box (h := ?_)
  refine R.assign (h := ?_)
  refine Reg.nil ⟨fun h => (by cases h), ?_⟩
  refine LGo.seq ?_
  refine LGo.seq ?_
  refine LGo.region rfl ?_  -- region 1
  first | refine R.field F45_1 (h := ?_) | refine R.fieldAt F45_1 (h := ?_)
  first | refine R.loadB O3 (h := ?_) | refine R.load1 O3 (h := ?_)
  refine R.bin (run_eql _ _ _ _ _ _) (h := ?_)
  refine Reg.nil ⟨fun h => (by cases h), ?_⟩
  refine LGo.ifd (ht := fun hc => ?_) (hf := fun hc => ?_)
  · -- then 1
    have hl := numB_len 9 x.num
    have e : outB r x = [x.tag, ((numB 9 x.num).length : Int)] ++ numB 9 x.num := by simp [outB, hc]
    rw [e, ic_app]
    refine LGo.seq ?_
    refine LGo.region rfl ?_  -- region 2
    first | refine R.field F34_1 (h := ?_) | refine R.fieldAt F34_1 (h := ?_)
    first | refine R.loadB O32 (h := ?_) | refine R.load1 O32 (h := ?_)
    refine R.callX (es := [_]) [] (number_9 x.num hn0 hn1) (h := ?_)
    refine R.assign (h := ?_)
    refine Reg.nil ⟨fun h => (by cases h), ?_⟩
    refine LGo.seq ?_
    refine LGo.region rfl ?_  -- region 3
    first | refine R.field F34_0 (h := ?_) | refine R.fieldAt F34_0 (h := ?_)
    first | refine R.loadB O3 (h := ?_) | refine R.load1 O3 (h := ?_)
    first | refine R.convI Try.runUnderlying3 Try.runUnderlying5 (h := ?_) | refine R.convW Try.runUnderlying3 Try.runUnderlying5 (h := ?_)
    refine R.move (h := ?_)
    first | refine R.len S23 (h := ?_) | refine R.lenRs S23 (h := ?_) | refine R.lenV (run_lenNil S23) (h := ?_)
    rw [ic_len]
    first | refine R.convI Try.runUnderlying3 Try.runUnderlying5 (h := ?_) | refine R.convW Try.runUnderlying3 Try.runUnderlying5 (h := ?_)
    refine R.buildSliceR AP23 (xs := [_, _]) (es := [_, _]) (hcs := CellsOfs.cons (CellsOf.one rfl) (CellsOfs.cons (CellsOf.one rfl) CellsOfs.nil)) (h := ?_)
    refine R.move (h := ?_)
    refine R.appendS AP23 (hs := SrcOk.rs Try.underlying23 (ic_one _ _)) (hlen := by rw [ic_len]; simp; omega) (h := ?_)
    refine R.assign (h := ?_)
    refine Reg.nil ⟨fun h => (by cases h), ?_⟩
    first | refine LGo.frzT 4 (h := ?_) | refine LGo.nilSl 4 1 (h := ?_) | skip
    exact LGo.ret (ret_T Try.results35 hA hmd)
  · -- else 1
    have e : outB r x = [x.tag, (x.txt.length : Int) / 256, (x.txt.length : Int) % 256] ++ textI x.txt := by simp [outB, hc]
    rw [e, ic_app, ← bytesC_text]
    refine LGo.skip ?_
    refine LGo.seq ?_
    refine LGo.region rfl ?_  -- region 4
    first | refine R.field F34_2 (h := ?_) | refine R.fieldAt F34_2 (h := ?_)
    first | refine R.loadB O9 (h := ?_) | refine R.load1 O9 (h := ?_)
    refine R.lenT Try.runUnderlying9 (h := ?_)
    refine R.assign (h := ?_)
    refine Reg.nil ⟨fun h => (by cases h), ?_⟩
    refine LGo.seq ?_
    refine LGo.region rfl ?_  -- region 5
    first | refine R.field F34_0 (h := ?_) | refine R.fieldAt F34_0 (h := ?_)
    first | refine R.loadB O3 (h := ?_) | refine R.load1 O3 (h := ?_)
    first | refine R.convI Try.runUnderlying3 Try.runUnderlying5 (h := ?_) | refine R.convW Try.runUnderlying3 Try.runUnderlying5 (h := ?_)
    refine R.move (h := ?_)
    refine R.quo (h := ?_)
    first | refine R.convI Try.runUnderlying3 Try.runUnderlying5 (h := ?_) | refine R.convW Try.runUnderlying3 Try.runUnderlying5 (h := ?_)
    refine R.move (h := ?_)
    refine R.rem (h := ?_)
    first | refine R.convI Try.runUnderlying3 Try.runUnderlying5 (h := ?_) | refine R.convW Try.runUnderlying3 Try.runUnderlying5 (h := ?_)
    refine R.buildSliceR AP23 (xs := [_, _, _]) (es := [_, _, _]) (hcs := CellsOfs.cons (CellsOf.one rfl) (CellsOfs.cons (CellsOf.one rfl) (CellsOfs.cons (CellsOf.one rfl) CellsOfs.nil))) (h := ?_)
    first | refine R.field F34_2 (h := ?_) | refine R.fieldAt F34_2 (h := ?_)
    first | refine R.loadB O9 (h := ?_) | refine R.load1 O9 (h := ?_)
    refine R.appendS AP23 (hs := SrcOk.strT Try.underlying9) (hlen := by rw [bytesC_length]; simp; omega) (h := ?_)
    refine R.assign (h := ?_)
    refine Reg.nil ⟨fun h => (by cases h), ?_⟩
    first | refine LGo.frzT 4 (h := ?_) | refine LGo.nilSl 4 1 (h := ?_) | skip
    exact LGo.ret (ret_T Try.results35 hA hmd)

end Go.Proofs.Ytmiamhegohlglaa
