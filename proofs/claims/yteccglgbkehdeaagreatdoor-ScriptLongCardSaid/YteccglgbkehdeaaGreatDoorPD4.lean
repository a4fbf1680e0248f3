/- Texts of this claim, merged (RR to DR); no condition. -/
import Derived.Test.YteccglgbkehdeaaGreatDoorPD3
import Derived.Test.YteccglgbkehdeaaGreatDoorRows
import Derived.Test.YteccglgbkehdeaaGreatDoorTie
import Derived.LaidMore
import Derived.Lay
import Derived.MakeChecks
import Derived.Lib.LaidTab
import Derived.OpenShut
import Derived.ChangeArms
import Derived.ProofKit
/- requests: Rules; the reference's kinds, tags, rules and check. -/
set_option linter.unusedSimpArgs false
set_option linter.unusedVariables false
namespace Go.Proofs.YteccglgbkehdeaaGreatDoor

def ruGo (m : Int) : Nat → Nat → List Rule → List Rule
  | 0, _, l => l
  | n + 1, k, l => if bitQ m k = 1 then ruGo m n (k + 1) (l ++ [ruleQ k]) else ruGo m n (k + 1) l
def rulesQ (k : Int) : List Rule × Int := if maskOf k = 0 then ([], 2) else (ruGo (maskOf k) 16 0 [], 0)

theorem rulesQ_P (kd : Int) : PC Tryz.prog 147 [.i kd] (.tup [.sv (.sl 5 ((rulesQ kd).1.map Rule.c)), .i (rulesQ kd).2]) := by
 refine ⟨LC.of_go Tryz.func147 (c := _) rfl (by kernel_rfl) (by rw [Tryz.ntmps147]; simp) rfl rfl (by simp [LO.lt, LV.lts, LV.lt, lts_sv]) (by simp) ?_⟩
 intro B hA hmd
 obtain ⟨g, e0⟩ : ∃ g, rulesQ kd = g := ⟨_, rfl⟩
 have e1 := e0
 unfold rulesQ at e1
 rw [e0]
 have hm := maskOf_lt kd
 refine .seq ?_
 refine .region rfl ?_
 refine R.assign (h := ?_)
 refine R.assign (h := ?_)
 refine .n0 ?_
 refine .seq ?_
 refine .region rfl ?_
 refine R.move (h := ?_)
 refine R.callP (es := [_]) (fun _ => mask_P kd) (h := ?_)
 refine R.assign (h := ?_)
 refine .n0 ?_
 refine .seq ?_
 refine .seq ?_
 refine .region rfl ?_
 refine R.move (h := ?_)
 refine R.bin (run_eql _ _ _ _ _ _) (h := ?_)
 refine .n0 ?_
 refine LGo.ifd (ht := fun hc => ?_) (hf := fun hc => ?_)
 ·
  rw [if_pos hc] at e1; rw [← e1]
  refine .seq ?_
  refine .region rfl ?_
  refine R.assign (h := ?_)
  refine R.assign (h := ?_)
  refine .n0 ?_
  first | refine LGo.frzT 2 (h := ?_) | refine LGo.nilSl 2 5 (h := ?_) | skip
  exact LGo.ret (ret_TT Tryz.results147 hA hmd)
 ·
  rw [if_neg hc] at e1
  generalize maskOf kd = m at *
  refine .skip ?_
  refine .seq ?_
  refine .region rfl ?_
  refine R.assign (h := ?_)
  refine .n0 ?_
  refine .seq ?_
  refine .seq ?_
  refine .region rfl ?_
  refine R.move (h := ?_)
  refine .n0 ?_
  refine .block ?_
  refine .loop ?_
  refine LGo.nilRs 5 215 5 (h := ?_)
  refine LGo.loopG (σ := Nat × Nat × List Rule) (fun x => x.1 + x.2.1 = 16 ∧ x.2.2.length ≤ x.2.1 ∧ (ruGo m x.1 x.2.1 x.2.2, (0 : Int)) = g) (fun x => [(11, (true, .i (x.2.1 : Nat))), (5, (true, .ref 0))]) (fun x => [(0, .rs 215 5 (x.2.2.map Rule.c))]) (fun x => x.1) ((16, 0, [])) [(4, _)] ⟨rfl, Nat.le_refl _, e1⟩ (by repeat (first | exact trivial | refine ⟨rfl, ?_⟩)) (by repeat (first | exact trivial | refine ⟨rfl, ?_⟩)) (by repeat (first | exact trivial | refine ⟨rfl, ?_⟩)) ?_
  rintro ⟨fu, k, acc⟩ ⟨q1, q2, e1⟩ ih
  dsimp only at * 
  refine .seq ?_
  refine .region rfl ?_
  refine R.bin (run_lss _ _ _ _ _ _) (h := ?_)
  refine .n0 ?_
  refine .seq ?_
  refine LGo.ifd (ht := fun hc2 => ?_) (hf := fun hc2 => ?_)
  ·
   obtain ⟨f, rfl⟩ : ∃ f, fu = f + 1 := ⟨fu - 1, by omega⟩
   rw [ruGo] at e1
   refine .skip ?_
   refine .seq ?_
   refine .block ?_
   refine .seq ?_
   refine .region rfl ?_
   refine R.move (h := ?_)
   refine R.assign (h := ?_)
   refine .n0 ?_
   refine .seq ?_
   refine .region rfl ?_
   refine R.move (h := ?_)
   refine R.move (h := ?_)
   refine R.shr (h := ?_)
   rw [shr_u16 m k (by omega)]
   refine R.bin (run_andE _ _ _ .u16 _ 1 (and1_u16 _ (div_lt m k hm.1 hm.2).1 (div_lt m k hm.1 hm.2).2)) (h := ?_)
   refine R.bin (run_eql _ _ _ _ _ _) (h := ?_)
   refine .n0 ?_
   refine LGo.ifd (ht := fun hc3 => ?_) (hf := fun hc3 => ?_)
   ·
    rw [if_pos (show bitQ m k = 1 from hc3)] at e1
    refine .region rfl ?_
    refine R.move (h := ?_)
    refine R.move (h := ?_)
    refine R.callP (es := [_]) (fun _ => ruleQ_P (k : Int)) (h := ?_)
    refine R.buildSliceG AP141 (xs := [_]) (es := [_]) (hcs := CellsOfs.cons (CellsOf.agg rfl) CellsOfs.nil) (h := ?_)
    refine R.appendS AP141 (hs := SrcOk.sl Tryz.underlying141 (by simp; rfl)) (hlen := by simp; omega) (h := ?_)
    refine R.assign (h := ?_)
    refine .n0 ?_
    refine .inBlock ?_
    refine .region rfl ?_
    first | refine R.add (h := ?_) | refine R.addW (h := ?_)
    refine R.move (h := ?_)
    refine .n0 ?_
    refine .inLoop ?_
    exact LGo.turn [1] (b := 0) (fun o h => by have := (hA o).1 h; omega) (ih (f, k + 1, acc ++ [ruleQ k]) ⟨by dsimp only; omega, by simp; omega, e1⟩ (by dsimp only; omega)) (by repeat (first | exact trivial | refine ⟨rfl, ?_⟩)) ⟨by rw [List.map_append]; rfl, trivial⟩
   ·
    rw [if_neg (show ¬ bitQ m k = 1 from hc3)] at e1
    refine .skip ?_
    refine .inBlock ?_
    refine .region rfl ?_
    first | refine R.add (h := ?_) | refine R.addW (h := ?_)
    refine R.move (h := ?_)
    refine .n0 ?_
    refine .inLoop ?_
    exact LGo.next _ (fun o h => by have := (hA o).1 h; omega) (by omega) (ih (f, k + 1, acc) ⟨by dsimp only; omega, by dsimp only; omega, e1⟩ (by dsimp only; omega)) (by repeat (first | exact trivial | refine ⟨rfl, ?_⟩)) (by repeat (first | exact trivial | refine ⟨rfl, ?_⟩))
  ·
   obtain rfl : fu = 0 := by omega
   rw [ruGo] at e1
   rw [← e1]
   refine .exit rfl ?_
   refine .seq ?_
   refine .region rfl ?_
   refine R.move (h := ?_)
   refine R.assign (h := ?_)
   refine R.assign (h := ?_)
   refine .n0 ?_
   first | refine LGo.frzT 2 (h := ?_) | refine LGo.nilSl 2 5 (h := ?_) | skip
   exact LGo.ret (ret_TT Tryz.results147 hA hmd)

/-- the words of the kinds of requests -/
def kindW : List (List UInt8) := [[], [111, 112, 101, 110], [104, 111, 108, 100], [98, 108, 111, 99, 107], [114, 101, 108, 101, 97, 115, 101], [98, 117, 121], [116, 114, 97, 110, 115, 102, 101, 114], [114, 101, 102, 117, 110, 100], [114, 101, 118, 111, 107, 101], [118, 97, 108, 105, 100, 97, 116, 101], [106, 111, 105, 110], [108, 101, 97, 118, 101], [], [101, 110, 116, 101, 114]]
def wordQ (k : Int) : List UInt8 := if k < 1 ∨ 13 < k then [] else kindW.getD k.toNat []
theorem kindW_at {k : Int} (h : ¬ (k < 1 ∨ 13 < k)) : (strsC kindW)[k.toNat]? = some [.val (.string ⟨(wordQ k).toArray⟩)] := by
  have h1 : k.toNat < kindW.length := by simp [kindW]; omega
  rw [strsC, List.getElem?_map, wordQ, if_neg h, List.getD_eq_getElem?_getD, List.getElem?_eq_getElem h1]
  rfl

theorem wordQ_P (k : Int) : PC Tryz.prog 81 [.i k] (.t (wordQ k)) := by
 refine ⟨LC.of_go Tryz.func81 (c := _) rfl (by kernel_rfl) (by rw [Tryz.ntmps81]; simp) rfl rfl (by simp [LO.lt, LV.lts, LV.lt, lts_sv]) (by simp) ?_⟩
 intro B hA hmd
 refine .seq ?_
 refine .region rfl ?_
 refine R.assign (h := ?_)
 refine .n0 ?_
 refine .seq ?_
 refine .seq ?_
 refine .region rfl ?_
 refine R.move (h := ?_)
 refine R.bin (run_lss _ _ _ _ _ _) (h := ?_)
 refine R.move (h := ?_)
 refine R.move (h := ?_)
 refine R.bin (run_gtr _ _ _ _ _ _) (h := ?_)
 refine R.or (h := ?_)
 refine .n0 ?_
 refine LGo.ifb (ht := fun hc => ?_) (hf := fun hc => ?_)
 ·
  rw [show wordQ k = [] from if_pos (by simpa using hc)]
  refine .seq ?_
  refine .region rfl ?_
  refine R.assign (h := ?_)
  refine .n0 ?_
  exact LGo.ret (ret_T Tryz.results81 hA hmd)
 ·
  have hk : ¬ (k < 1 ∨ 13 < k) := by simpa using hc
  have hx := kindW_at hk
  refine .skip ?_
  refine .seq ?_
  refine .region rfl ?_
  refine R.buildSliceF AP117 (strsC kindW) (xs := [_, _, _, _, _, _, _, _, _, _, _, _, _, _]) (es := [_, _, _, _, _, _, _, _, _, _, _, _, _, _]) (hcs := CellsOfs.cons (CellsOf.one rfl) (CellsOfs.cons (CellsOf.one rfl) (CellsOfs.cons (CellsOf.one rfl) (CellsOfs.cons (CellsOf.one rfl) (CellsOfs.cons (CellsOf.one rfl) (CellsOfs.cons (CellsOf.one rfl) (CellsOfs.cons (CellsOf.one rfl) (CellsOfs.cons (CellsOf.one rfl) (CellsOfs.cons (CellsOf.one rfl) (CellsOfs.cons (CellsOf.one rfl) (CellsOfs.cons (CellsOf.one rfl) (CellsOfs.cons (CellsOf.one rfl) (CellsOfs.cons (CellsOf.one rfl) (CellsOfs.cons (CellsOf.one rfl) (CellsOfs.nil))))))))))))))) (h := ?_)
  refine R.move (h := ?_)
  refine R.index I117 (hj := fun hg => ⟨by omega, hx⟩) (h := ?_)
  first | refine R.loadB O9 (h := ?_) | refine R.load1 O9 (h := ?_)
  refine R.assign (h := ?_)
  refine .n0 ?_
  exact LGo.ret (ret_T Tryz.results81 hA hmd)

def tagsQ (k : Int) : List Int := if k = 1 then [2] else if k = 2 then [3, 5] else if k = 4 then [3, 5] else if k = 5 then [3, 5] else if k = 8 then [3, 5] else if k = 3 then [3, 6, 7] else if k = 6 then [3, 4, 8] else if k = 7 then [3, 4] else if k = 9 then [4] else if k = 10 then [3, 6] else if k = 11 then [3, 6] else [4, 9]
theorem tagsQ_len (k : Int) : (tagsQ k).length ≤ 3 := by unfold tagsQ; (repeat' split) <;> simp
/-- has a kind the field with a tag -/
def hasGo (t : Int) : List Int → Bool
  | [] => decide (t = 1)
  | x :: l => if x = t then true else hasGo t l
def hasQ (k t : Int) : Bool := hasGo t (tagsQ k)

theorem tagsQ_P (k : Int) : PC Tryz.prog 212 [.i k] (.sv (.sl 1 (ic .i64 (tagsQ k)))) := by
 refine ⟨LC.of_go Tryz.func212 (c := _) rfl (by kernel_rfl) (by rw [Tryz.ntmps212]; simp) rfl rfl (by simp [LO.lt, LV.lts, LV.lt, lts_sv]) (by simp) ?_⟩
 intro B hA hmd
 obtain ⟨g, e0⟩ : ∃ g, tagsQ k = g := ⟨_, rfl⟩
 have e1 := e0
 unfold tagsQ at e1
 rw [e0]
 refine .seq ?_
 refine .region rfl ?_
 refine R.assign (h := ?_)
 refine .n0 ?_
 refine .seq ?_
 refine .seq ?_
 refine .region rfl ?_
 refine R.move (h := ?_)
 refine .n0 ?_
 refine .block ?_
 refine .seq ?_
 refine .region rfl ?_
 refine R.bin (run_eql _ _ _ _ _ _) (h := ?_)
 refine R.assign (h := ?_)
 refine .n0 ?_
 first | refine LGo.ifd (ht := fun hc => ?_) (hf := fun hc => ?_) | refine LGo.ifb (ht := fun hc => ?_) (hf := fun hc => ?_)
 ·
  rw [if_pos hc] at e1
  refine .seq ?_
  refine .region rfl ?_
  refine R.buildSliceG AP65 (xs := [_]) (es := [_]) (hcs := CellsOfs.cons (CellsOf.one rfl) CellsOfs.nil) (h := ?_)
  refine R.assign (h := ?_)
  refine .n0 ?_
  rw [← e1]
  exact LGo.ret (ret_T Tryz.results212 hA hmd)
 ·
  rw [if_neg hc] at e1
  refine .seq ?_
  refine .seq ?_
  refine .region rfl ?_
  refine R.bin (run_eql _ _ _ _ _ _) (h := ?_)
  refine R.assign (h := ?_)
  refine .n0 ?_
  first | refine LGo.ifd (ht := fun hc2 => ?_) (hf := fun hc2 => ?_) | refine LGo.ifb (ht := fun hc2 => ?_) (hf := fun hc2 => ?_)
  ·
   rw [if_pos hc2] at e1
   refine .skip ?_
   first | refine LGo.ifd (ht := fun _ => ?_) (hf := fun h => absurd hc2 h) | refine LGo.ifb (ht := fun _ => ?_) (hf := fun h => by rw [hc2] at h; cases h)
   refine .seq ?_
   refine .region rfl ?_
   refine R.buildSliceG AP65 (xs := [_, _]) (es := [_, _]) (hcs := CellsOfs.cons (CellsOf.one rfl) (CellsOfs.cons (CellsOf.one rfl) CellsOfs.nil)) (h := ?_)
   refine R.assign (h := ?_)
   refine .n0 ?_
   rw [← e1]
   exact LGo.ret (ret_T Tryz.results212 hA hmd)
  ·
   rw [if_neg hc2] at e1
   refine .seq ?_
   refine .region rfl ?_
   refine R.bin (run_eql _ _ _ _ _ _) (h := ?_)
   refine R.assign (h := ?_)
   refine .n0 ?_
   first | refine LGo.ifd (ht := fun hc4 => ?_) (hf := fun hc4 => ?_) | refine LGo.ifb (ht := fun hc4 => ?_) (hf := fun hc4 => ?_)
   ·
    rw [if_pos hc4] at e1
    refine .skip ?_
    first | refine LGo.ifd (ht := fun _ => ?_) (hf := fun h => absurd hc4 h) | refine LGo.ifb (ht := fun _ => ?_) (hf := fun h => by rw [hc4] at h; cases h)
    refine .seq ?_
    refine .region rfl ?_
    refine R.buildSliceG AP65 (xs := [_, _]) (es := [_, _]) (hcs := CellsOfs.cons (CellsOf.one rfl) (CellsOfs.cons (CellsOf.one rfl) CellsOfs.nil)) (h := ?_)
    refine R.assign (h := ?_)
    refine .n0 ?_
    rw [← e1]
    exact LGo.ret (ret_T Tryz.results212 hA hmd)
   ·
    rw [if_neg hc4] at e1
    refine .seq ?_
    refine .region rfl ?_
    refine R.bin (run_eql _ _ _ _ _ _) (h := ?_)
    refine R.assign (h := ?_)
    refine .n0 ?_
    first | refine LGo.ifd (ht := fun hc6 => ?_) (hf := fun hc6 => ?_) | refine LGo.ifb (ht := fun hc6 => ?_) (hf := fun hc6 => ?_)
    ·
     rw [if_pos hc6] at e1
     refine .skip ?_
     first | refine LGo.ifd (ht := fun _ => ?_) (hf := fun h => absurd hc6 h) | refine LGo.ifb (ht := fun _ => ?_) (hf := fun h => by rw [hc6] at h; cases h)
     refine .seq ?_
     refine .region rfl ?_
     refine R.buildSliceG AP65 (xs := [_, _]) (es := [_, _]) (hcs := CellsOfs.cons (CellsOf.one rfl) (CellsOfs.cons (CellsOf.one rfl) CellsOfs.nil)) (h := ?_)
     refine R.assign (h := ?_)
     refine .n0 ?_
     rw [← e1]
     exact LGo.ret (ret_T Tryz.results212 hA hmd)
    ·
     rw [if_neg hc6] at e1
     refine .region rfl ?_
     refine R.bin (run_eql _ _ _ _ _ _) (h := ?_)
     refine R.assign (h := ?_)
     refine .n0 ?_
     first | refine LGo.ifd (ht := fun hc8 => ?_) (hf := fun hc8 => ?_) | refine LGo.ifb (ht := fun hc8 => ?_) (hf := fun hc8 => ?_)
     ·
      rw [if_pos hc8] at e1
      refine .seq ?_
      refine .region rfl ?_
      refine R.buildSliceG AP65 (xs := [_, _]) (es := [_, _]) (hcs := CellsOfs.cons (CellsOf.one rfl) (CellsOfs.cons (CellsOf.one rfl) CellsOfs.nil)) (h := ?_)
      refine R.assign (h := ?_)
      refine .n0 ?_
      rw [← e1]
      exact LGo.ret (ret_T Tryz.results212 hA hmd)
     ·
      rw [if_neg hc8] at e1
      refine .seq ?_
      refine .region rfl ?_
      refine R.bin (run_eql _ _ _ _ _ _) (h := ?_)
      refine R.assign (h := ?_)
      refine .n0 ?_
      first | refine LGo.ifd (ht := fun hc9 => ?_) (hf := fun hc9 => ?_) | refine LGo.ifb (ht := fun hc9 => ?_) (hf := fun hc9 => ?_)
      ·
       rw [if_pos hc9] at e1
       refine .seq ?_
       refine .region rfl ?_
       refine R.buildSliceG AP65 (xs := [_, _, _]) (es := [_, _, _]) (hcs := CellsOfs.cons (CellsOf.one rfl) (CellsOfs.cons (CellsOf.one rfl) (CellsOfs.cons (CellsOf.one rfl) CellsOfs.nil))) (h := ?_)
       refine R.assign (h := ?_)
       refine .n0 ?_
       rw [← e1]
       exact LGo.ret (ret_T Tryz.results212 hA hmd)
      ·
       rw [if_neg hc9] at e1
       refine .seq ?_
       refine .region rfl ?_
       refine R.bin (run_eql _ _ _ _ _ _) (h := ?_)
       refine R.assign (h := ?_)
       refine .n0 ?_
       first | refine LGo.ifd (ht := fun hc10 => ?_) (hf := fun hc10 => ?_) | refine LGo.ifb (ht := fun hc10 => ?_) (hf := fun hc10 => ?_)
       ·
        rw [if_pos hc10] at e1
        refine .seq ?_
        refine .region rfl ?_
        refine R.buildSliceG AP65 (xs := [_, _, _]) (es := [_, _, _]) (hcs := CellsOfs.cons (CellsOf.one rfl) (CellsOfs.cons (CellsOf.one rfl) (CellsOfs.cons (CellsOf.one rfl) CellsOfs.nil))) (h := ?_)
        refine R.assign (h := ?_)
        refine .n0 ?_
        rw [← e1]
        exact LGo.ret (ret_T Tryz.results212 hA hmd)
       ·
        rw [if_neg hc10] at e1
        refine .seq ?_
        refine .region rfl ?_
        refine R.bin (run_eql _ _ _ _ _ _) (h := ?_)
        refine R.assign (h := ?_)
        refine .n0 ?_
        first | refine LGo.ifd (ht := fun hc11 => ?_) (hf := fun hc11 => ?_) | refine LGo.ifb (ht := fun hc11 => ?_) (hf := fun hc11 => ?_)
        ·
         rw [if_pos hc11] at e1
         refine .seq ?_
         refine .region rfl ?_
         refine R.buildSliceG AP65 (xs := [_, _]) (es := [_, _]) (hcs := CellsOfs.cons (CellsOf.one rfl) (CellsOfs.cons (CellsOf.one rfl) CellsOfs.nil)) (h := ?_)
         refine R.assign (h := ?_)
         refine .n0 ?_
         rw [← e1]
         exact LGo.ret (ret_T Tryz.results212 hA hmd)
        ·
         rw [if_neg hc11] at e1
         refine .seq ?_
         refine .region rfl ?_
         refine R.bin (run_eql _ _ _ _ _ _) (h := ?_)
         refine R.assign (h := ?_)
         refine .n0 ?_
         first | refine LGo.ifd (ht := fun hc12 => ?_) (hf := fun hc12 => ?_) | refine LGo.ifb (ht := fun hc12 => ?_) (hf := fun hc12 => ?_)
         ·
          rw [if_pos hc12] at e1
          refine .seq ?_
          refine .region rfl ?_
          refine R.buildSliceG AP65 (xs := [_]) (es := [_]) (hcs := CellsOfs.cons (CellsOf.one rfl) CellsOfs.nil) (h := ?_)
          refine R.assign (h := ?_)
          refine .n0 ?_
          rw [← e1]
          exact LGo.ret (ret_T Tryz.results212 hA hmd)
         ·
          rw [if_neg hc12] at e1
          refine .seq ?_
          refine .seq ?_
          refine .region rfl ?_
          refine R.bin (run_eql _ _ _ _ _ _) (h := ?_)
          refine R.assign (h := ?_)
          refine .n0 ?_
          first | refine LGo.ifd (ht := fun hc13 => ?_) (hf := fun hc13 => ?_) | refine LGo.ifb (ht := fun hc13 => ?_) (hf := fun hc13 => ?_)
          ·
           rw [if_pos hc13] at e1
           refine .skip ?_
           first | refine LGo.ifd (ht := fun _ => ?_) (hf := fun h => absurd hc13 h) | refine LGo.ifb (ht := fun _ => ?_) (hf := fun h => by rw [hc13] at h; cases h)
           refine .seq ?_
           refine .region rfl ?_
           refine R.buildSliceG AP65 (xs := [_, _]) (es := [_, _]) (hcs := CellsOfs.cons (CellsOf.one rfl) (CellsOfs.cons (CellsOf.one rfl) CellsOfs.nil)) (h := ?_)
           refine R.assign (h := ?_)
           refine .n0 ?_
           rw [← e1]
           exact LGo.ret (ret_T Tryz.results212 hA hmd)
          ·
           rw [if_neg hc13] at e1
           refine .region rfl ?_
           refine R.bin (run_eql _ _ _ _ _ _) (h := ?_)
           refine R.assign (h := ?_)
           refine .n0 ?_
           first | refine LGo.ifd (ht := fun hc15 => ?_) (hf := fun hc15 => ?_) | refine LGo.ifb (ht := fun hc15 => ?_) (hf := fun hc15 => ?_)
           ·
            rw [if_pos hc15] at e1
            refine .seq ?_
            refine .region rfl ?_
            refine R.buildSliceG AP65 (xs := [_, _]) (es := [_, _]) (hcs := CellsOfs.cons (CellsOf.one rfl) (CellsOfs.cons (CellsOf.one rfl) CellsOfs.nil)) (h := ?_)
            refine R.assign (h := ?_)
            refine .n0 ?_
            rw [← e1]
            exact LGo.ret (ret_T Tryz.results212 hA hmd)
           ·
            rw [if_neg hc15] at e1
            refine .skip ?_
            refine .inBlock ?_
            refine .seq ?_
            refine .region rfl ?_
            refine R.buildSliceG AP65 (xs := [_, _]) (es := [_, _]) (hcs := CellsOfs.cons (CellsOf.one rfl) (CellsOfs.cons (CellsOf.one rfl) CellsOfs.nil)) (h := ?_)
            refine R.assign (h := ?_)
            refine .n0 ?_
            rw [← e1]
            exact LGo.ret (ret_T Tryz.results212 hA hmd)

theorem hasQ_P (kd t : Int) : PC Tryz.prog 154 [.i kd, .i t] (.b (hasQ kd t)) := by
 refine ⟨LC.of_go Tryz.func154 (c := _) rfl (by kernel_rfl) (by rw [Tryz.ntmps154]; simp) rfl rfl (by simp [LO.lt, LV.lts, LV.lt, lts_sv]) (by simp) ?_⟩
 intro B hA hmd
 obtain ⟨g, e0⟩ : ∃ g, hasQ kd t = g := ⟨_, rfl⟩
 have e1 := e0
 unfold hasQ at e1
 rw [e0]
 have hln := tagsQ_len kd
 refine .seq ?_
 refine .region rfl ?_
 refine R.assign (h := ?_)
 refine .n0 ?_
 refine .seq ?_
 refine .region rfl ?_
 refine R.move (h := ?_)
 refine R.callP (es := [_]) (fun _ => tagsQ_P kd) (h := ?_)
 generalize tagsQ kd = xs at *
 refine R.assign (h := ?_)
 refine .n0 ?_
 refine .seq ?_
 refine .seq ?_
 refine .region rfl ?_
 refine R.assign (h := ?_)
 refine .n0 ?_
 refine .block ?_
 refine .loop ?_
 refine LGo.loopG (σ := Nat) (fun x => x ≤ xs.length ∧ hasGo t (xs.drop x) = g) (fun x => [(6, (true, .i (x : Nat)))]) (fun x => []) (fun x => xs.length - x) (0) [(1, _), (5, _)] ⟨Nat.zero_le _, by simpa using e1⟩ (by repeat (first | exact trivial | refine ⟨rfl, ?_⟩)) (by repeat (first | exact trivial | refine ⟨rfl, ?_⟩)) (by repeat (first | exact trivial | refine ⟨rfl, ?_⟩)) ?_
 rintro k ⟨hk, hq⟩ ih
 refine .seq ?_
 refine .seq ?_
 refine .region rfl ?_
 refine R.move (h := ?_)
 refine R.move (h := ?_)
 first | refine R.len S65 (h := ?_) | refine R.lenRs S65 (h := ?_) | refine R.lenV (run_lenNil S65) (h := ?_)
 rw [ic_len]
 refine R.bin (run_lss _ _ _ _ _ _) (h := ?_)
 refine .n0 ?_
 refine LGo.ifd (ht := fun hc => ?_) (hf := fun hc => ?_)
 ·
  have hlt : k < xs.length := by omega
  have hx : (ic .i64 xs)[((k : Nat) : Int).toNat]? = some [.val (.int .i64 xs[k])] := by rw [Int.toNat_natCast]; exact ic_get (List.getElem?_eq_getElem hlt)
  rw [List.drop_eq_getElem_cons hlt, hasGo] at hq
  generalize xs[k] = x at hx hq
  refine .skip ?_
  refine .seq ?_
  refine .block ?_
  refine .seq ?_
  refine .region rfl ?_
  refine R.move (h := ?_)
  refine R.move (h := ?_)
  refine R.index I65 (hj := fun hg => ⟨by omega, hx⟩) (h := ?_)
  first | refine R.loadB O3 (h := ?_) | refine R.load1 O3 (h := ?_)
  refine R.move (h := ?_)
  refine R.bin (run_eql _ _ _ _ _ _) (h := ?_)
  refine .n0 ?_
  refine LGo.ifd (ht := fun hc2 => ?_) (hf := fun hc2 => ?_)
  ·
   rw [if_pos hc2] at hq; rw [← hq]
   refine .seq ?_
   refine .region rfl ?_
   refine R.assign (h := ?_)
   refine .n0 ?_
   exact LGo.ret (ret_T Tryz.results154 hA hmd)
  ·
   rw [if_neg hc2] at hq
   refine .skip ?_
   refine .inBlock ?_
   refine .region rfl ?_
   refine R.move (h := ?_)
   first | refine R.add (h := ?_) | refine R.addW (h := ?_)
   refine R.assign (h := ?_)
   refine .n0 ?_
   refine .inLoop ?_
   exact LGo.next _ (fun o h => by have := (hA o).1 h; omega) (by omega) (ih (k + 1) ⟨hlt, hq⟩ (by omega)) (by repeat (first | exact trivial | refine ⟨rfl, ?_⟩)) (by repeat (first | exact trivial | refine ⟨rfl, ?_⟩))
 ·
  rw [List.drop_eq_nil_of_le (by omega), hasGo] at hq; rw [← hq]
  refine .exit rfl ?_
  refine .seq ?_
  refine .region rfl ?_
  refine R.move (h := ?_)
  refine R.bin (run_eql _ _ _ _ _ _) (h := ?_)
  refine R.assign (h := ?_)
  refine .n0 ?_
  exact LGo.ret (ret_T Tryz.results154 hA hmd)

theorem ruleR9_P (t : Int) : PC Tryz.prog 155 [.i t] (.agg ((ruleQ t).c.map LV.sv)) := by
 refine ⟨LC.of_go Tryz.func155 (c := _) rfl (by kernel_rfl) (by rw [Tryz.ntmps155]; simp) rfl rfl (by simp [LO.lt, LV.lts, LV.lt, lts_sv]) (by simp) ?_⟩
 intro B hA hmd
 obtain ⟨g, e0⟩ : ∃ g, ruleQ t = g := ⟨_, rfl⟩
 have e1 := e0
 unfold ruleQ at e1
 rw [e0]
 refine .seq ?_
 refine .region rfl ?_
 refine R.alloc Z215 (h := ?_)
 refine .n0 ?_
 refine .seq ?_
 refine .region rfl ?_
 refine R.move (h := ?_)
 refine R.build BF215 (is := [0, 1, 3, 4]) (xs := [_, _, _, _]) (es := [_, _, _, _]) (h := ?_)
 refine R.alloc Z215 (h := ?_)
 refine R.storeA A215 (h := ?_)
 refine .n0 ?_
 refine .seq ?_
 refine .seq ?_
 refine .region rfl ?_
 refine R.move (h := ?_)
 refine .n0 ?_
 refine .block ?_
 refine .seq ?_
 refine .region rfl ?_
 refine R.bin (run_eql _ _ _ _ _ _) (h := ?_)
 refine R.assign (h := ?_)
 refine .n0 ?_
 first | refine LGo.ifd (ht := fun hc => ?_) (hf := fun hc => ?_) | refine LGo.ifb (ht := fun hc => ?_) (hf := fun hc => ?_)
 ·
  rw [if_pos hc] at e1
  refine .region rfl ?_
  first | refine R.field F215_2 (h := ?_) | refine R.fieldAt F215_2 (h := ?_)
  refine R.storeB O41 (h := ?_)
  first | refine R.field F215_3 (h := ?_) | refine R.fieldAt F215_3 (h := ?_)
  refine R.storeB O41 (h := ?_)
  refine .n0 ?_
  refine .inBlock ?_
  refine .seq ?_
  refine .region rfl ?_
  first | refine R.loadA A215 (h := ?_) | refine R.loadN A215 (h := ?_) | refine R.loadP A215 (h := ?_)
  refine R.storeA A215 (h := ?_)
  refine .n0 ?_
  rw [← e1]
  exact LGo.ret (ret_A Tryz.results155 A215 hA hmd)
 ·
  rw [if_neg hc] at e1
  refine .seq ?_
  refine .seq ?_
  refine .region rfl ?_
  refine R.bin (run_eql _ _ _ _ _ _) (h := ?_)
  refine R.assign (h := ?_)
  refine .n0 ?_
  first | refine LGo.ifd (ht := fun hc2 => ?_) (hf := fun hc2 => ?_) | refine LGo.ifb (ht := fun hc2 => ?_) (hf := fun hc2 => ?_)
  ·
   rw [if_pos hc2] at e1
   refine .skip ?_
   first | refine LGo.ifd (ht := fun _ => ?_) (hf := fun h => absurd hc2 h) | refine LGo.ifb (ht := fun _ => ?_) (hf := fun h => by rw [hc2] at h; cases h)
   refine .region rfl ?_
   first | refine R.field F215_3 (h := ?_) | refine R.fieldAt F215_3 (h := ?_)
   refine R.storeB O41 (h := ?_)
   refine .n0 ?_
   refine .inBlock ?_
   refine .seq ?_
   refine .region rfl ?_
   first | refine R.loadA A215 (h := ?_) | refine R.loadN A215 (h := ?_) | refine R.loadP A215 (h := ?_)
   refine R.storeA A215 (h := ?_)
   refine .n0 ?_
   rw [← e1]
   exact LGo.ret (ret_A Tryz.results155 A215 hA hmd)
  ·
   rw [if_neg hc2] at e1
   refine .region rfl ?_
   refine R.bin (run_eql _ _ _ _ _ _) (h := ?_)
   refine R.assign (h := ?_)
   refine .n0 ?_
   first | refine LGo.ifd (ht := fun hc4 => ?_) (hf := fun hc4 => ?_) | refine LGo.ifb (ht := fun hc4 => ?_) (hf := fun hc4 => ?_)
   ·
    rw [if_pos hc4] at e1
    refine .region rfl ?_
    first | refine R.field F215_3 (h := ?_) | refine R.fieldAt F215_3 (h := ?_)
    refine R.storeB O41 (h := ?_)
    refine .n0 ?_
    refine .inBlock ?_
    refine .seq ?_
    refine .region rfl ?_
    first | refine R.loadA A215 (h := ?_) | refine R.loadN A215 (h := ?_) | refine R.loadP A215 (h := ?_)
    refine R.storeA A215 (h := ?_)
    refine .n0 ?_
    rw [← e1]
    exact LGo.ret (ret_A Tryz.results155 A215 hA hmd)
   ·
    rw [if_neg hc4] at e1
    refine .seq ?_
    refine .region rfl ?_
    refine R.bin (run_eql _ _ _ _ _ _) (h := ?_)
    refine R.assign (h := ?_)
    refine .n0 ?_
    first | refine LGo.ifd (ht := fun hc5 => ?_) (hf := fun hc5 => ?_) | refine LGo.ifb (ht := fun hc5 => ?_) (hf := fun hc5 => ?_)
    ·
     rw [if_pos hc5] at e1
     refine .region rfl ?_
     first | refine R.field F215_1 (h := ?_) | refine R.fieldAt F215_1 (h := ?_)
     refine R.storeB O3 (h := ?_)
     first | refine R.field F215_2 (h := ?_) | refine R.fieldAt F215_2 (h := ?_)
     refine R.storeB O41 (h := ?_)
     first | refine R.field F215_3 (h := ?_) | refine R.fieldAt F215_3 (h := ?_)
     refine R.storeB O41 (h := ?_)
     refine .n0 ?_
     refine .inBlock ?_
     refine .seq ?_
     refine .region rfl ?_
     first | refine R.loadA A215 (h := ?_) | refine R.loadN A215 (h := ?_) | refine R.loadP A215 (h := ?_)
     refine R.storeA A215 (h := ?_)
     refine .n0 ?_
     rw [← e1]
     exact LGo.ret (ret_A Tryz.results155 A215 hA hmd)
    ·
     rw [if_neg hc5] at e1
     refine .seq ?_
     refine .region rfl ?_
     refine R.bin (run_eql _ _ _ _ _ _) (h := ?_)
     refine R.assign (h := ?_)
     refine .n0 ?_
     first | refine LGo.ifd (ht := fun hc6 => ?_) (hf := fun hc6 => ?_) | refine LGo.ifb (ht := fun hc6 => ?_) (hf := fun hc6 => ?_)
     ·
      rw [if_pos hc6] at e1
      refine .region rfl ?_
      first | refine R.field F215_1 (h := ?_) | refine R.fieldAt F215_1 (h := ?_)
      refine R.storeB O3 (h := ?_)
      first | refine R.field F215_2 (h := ?_) | refine R.fieldAt F215_2 (h := ?_)
      refine R.storeB O41 (h := ?_)
      first | refine R.field F215_3 (h := ?_) | refine R.fieldAt F215_3 (h := ?_)
      refine R.storeB O41 (h := ?_)
      refine .n0 ?_
      refine .inBlock ?_
      refine .seq ?_
      refine .region rfl ?_
      first | refine R.loadA A215 (h := ?_) | refine R.loadN A215 (h := ?_) | refine R.loadP A215 (h := ?_)
      refine R.storeA A215 (h := ?_)
      refine .n0 ?_
      rw [← e1]
      exact LGo.ret (ret_A Tryz.results155 A215 hA hmd)
     ·
      rw [if_neg hc6] at e1
      refine .skip ?_
      refine .inBlock ?_
      refine .seq ?_
      refine .region rfl ?_
      first | refine R.loadA A215 (h := ?_) | refine R.loadN A215 (h := ?_) | refine R.loadP A215 (h := ?_)
      refine R.storeA A215 (h := ?_)
      refine .n0 ?_
      rw [← e1]
      exact LGo.ret (ret_A Tryz.results155 A215 hA hmd)

def numQ (r : Rq) (t : Int) : Int := if t = 1 then (if 9223372036854775807 < r.id then -1 else r.id) else if t = 2 then r.owner else if t = 5 then r.seat else if t = 6 then r.sec else if t = 7 then r.n else if t = 8 then r.to else r.gate
def txtQ (r : Rq) (t : Int) : List UInt8 := if t = 3 then r.ses else r.tic

theorem numQ_P (r : Rq) (hr : RqOk r) (t : Int) : PC Tryz.prog 209 [.agg (r.c.map LV.sv), .i t] (.i (numQ r t)) := by
 refine ⟨LC.of_go Tryz.func209 (c := _) rfl (by kernel_rfl) (by rw [Tryz.ntmps209]; simp) rfl rfl (by simp [LO.lt, LV.lts, LV.lt, lts_sv]) (by simp) ?_⟩
 intro B hA hmd
 have h1 := hr.id
 have h2 := hr.owner
 have h3 := hr.to
 obtain ⟨g, e0⟩ : ∃ g, numQ r t = g := ⟨_, rfl⟩
 have e1 := e0
 unfold numQ at e1
 rw [e0]
 refine .seq ?_
 refine .region rfl ?_
 refine R.box (h := ?_)
 refine R.assign (h := ?_)
 refine .n0 ?_
 refine .seq ?_
 refine .seq ?_
 refine .region rfl ?_
 refine R.move (h := ?_)
 refine .n0 ?_
 refine .block ?_
 refine .seq ?_
 refine .region rfl ?_
 refine R.bin (run_eql _ _ _ _ _ _) (h := ?_)
 refine R.assign (h := ?_)
 refine .n0 ?_
 first | refine LGo.ifd (ht := fun hc => ?_) (hf := fun hc => ?_) | refine LGo.ifb (ht := fun hc => ?_) (hf := fun hc => ?_)
 ·
  rw [if_pos hc] at e1
  refine .seq ?_
  refine .seq ?_
  refine .region rfl ?_
  first | refine R.field F48_1 (h := ?_) | refine R.fieldAt F48_1 (h := ?_)
  first | refine R.loadB O41 (h := ?_) | refine R.load1 O41 (h := ?_)
  refine R.bin (run_gtr _ _ _ _ _ _) (h := ?_)
  refine .n0 ?_
  first | refine LGo.ifd (ht := fun hc2 => ?_) (hf := fun hc2 => ?_) | refine LGo.ifb (ht := fun hc2 => ?_) (hf := fun hc2 => ?_)
  ·
   rw [if_pos hc2] at e1
   refine .seq ?_
   refine .region rfl ?_
   refine R.assign (h := ?_)
   refine .n0 ?_
   rw [← e1]
   exact LGo.ret (ret_T Tryz.results209 hA hmd)
  ·
   rw [if_neg hc2] at e1
   refine .skip ?_
   refine .seq ?_
   refine .region rfl ?_
   first | refine R.field F48_1 (h := ?_) | refine R.fieldAt F48_1 (h := ?_)
   first | refine R.loadB O41 (h := ?_) | refine R.load1 O41 (h := ?_)
   first | refine R.convI Tryz.runUnderlying41 Tryz.runUnderlying2 (h := ?_) | refine R.convW Tryz.runUnderlying41 Tryz.runUnderlying2 (h := ?_)
   refine R.assign (h := ?_)
   refine .n0 ?_
   rw [← e1]
   exact LGo.ret (ret_T Tryz.results209 hA hmd)
 ·
  rw [if_neg hc] at e1
  refine .seq ?_
  refine .region rfl ?_
  refine R.bin (run_eql _ _ _ _ _ _) (h := ?_)
  refine R.assign (h := ?_)
  refine .n0 ?_
  first | refine LGo.ifd (ht := fun hc3 => ?_) (hf := fun hc3 => ?_) | refine LGo.ifb (ht := fun hc3 => ?_) (hf := fun hc3 => ?_)
  ·
   rw [if_pos hc3] at e1
   refine .seq ?_
   refine .region rfl ?_
   first | refine R.field F48_2 (h := ?_) | refine R.fieldAt F48_2 (h := ?_)
   first | refine R.loadB O38 (h := ?_) | refine R.load1 O38 (h := ?_)
   first | refine R.convI Tryz.runUnderlying38 Tryz.runUnderlying2 (h := ?_) | refine R.convW Tryz.runUnderlying38 Tryz.runUnderlying2 (h := ?_)
   refine R.assign (h := ?_)
   refine .n0 ?_
   rw [← e1]
   exact LGo.ret (ret_T Tryz.results209 hA hmd)
  ·
   rw [if_neg hc3] at e1
   refine .seq ?_
   refine .region rfl ?_
   refine R.bin (run_eql _ _ _ _ _ _) (h := ?_)
   refine R.assign (h := ?_)
   refine .n0 ?_
   first | refine LGo.ifd (ht := fun hc4 => ?_) (hf := fun hc4 => ?_) | refine LGo.ifb (ht := fun hc4 => ?_) (hf := fun hc4 => ?_)
   ·
    rw [if_pos hc4] at e1
    refine .seq ?_
    refine .region rfl ?_
    first | refine R.field F48_6 (h := ?_) | refine R.fieldAt F48_6 (h := ?_)
    first | refine R.loadB O3 (h := ?_) | refine R.load1 O3 (h := ?_)
    refine R.assign (h := ?_)
    refine .n0 ?_
    rw [← e1]
    exact LGo.ret (ret_T Tryz.results209 hA hmd)
   ·
    rw [if_neg hc4] at e1
    refine .seq ?_
    refine .region rfl ?_
    refine R.bin (run_eql _ _ _ _ _ _) (h := ?_)
    refine R.assign (h := ?_)
    refine .n0 ?_
    first | refine LGo.ifd (ht := fun hc5 => ?_) (hf := fun hc5 => ?_) | refine LGo.ifb (ht := fun hc5 => ?_) (hf := fun hc5 => ?_)
    ·
     rw [if_pos hc5] at e1
     refine .seq ?_
     refine .region rfl ?_
     first | refine R.field F48_7 (h := ?_) | refine R.fieldAt F48_7 (h := ?_)
     first | refine R.loadB O3 (h := ?_) | refine R.load1 O3 (h := ?_)
     refine R.assign (h := ?_)
     refine .n0 ?_
     rw [← e1]
     exact LGo.ret (ret_T Tryz.results209 hA hmd)
    ·
     rw [if_neg hc5] at e1
     refine .seq ?_
     refine .region rfl ?_
     refine R.bin (run_eql _ _ _ _ _ _) (h := ?_)
     refine R.assign (h := ?_)
     refine .n0 ?_
     first | refine LGo.ifd (ht := fun hc6 => ?_) (hf := fun hc6 => ?_) | refine LGo.ifb (ht := fun hc6 => ?_) (hf := fun hc6 => ?_)
     ·
      rw [if_pos hc6] at e1
      refine .seq ?_
      refine .region rfl ?_
      first | refine R.field F48_8 (h := ?_) | refine R.fieldAt F48_8 (h := ?_)
      first | refine R.loadB O3 (h := ?_) | refine R.load1 O3 (h := ?_)
      refine R.assign (h := ?_)
      refine .n0 ?_
      rw [← e1]
      exact LGo.ret (ret_T Tryz.results209 hA hmd)
     ·
      rw [if_neg hc6] at e1
      refine .seq ?_
      refine .region rfl ?_
      refine R.bin (run_eql _ _ _ _ _ _) (h := ?_)
      refine R.assign (h := ?_)
      refine .n0 ?_
      first | refine LGo.ifd (ht := fun hc7 => ?_) (hf := fun hc7 => ?_) | refine LGo.ifb (ht := fun hc7 => ?_) (hf := fun hc7 => ?_)
      ·
       rw [if_pos hc7] at e1
       refine .seq ?_
       refine .region rfl ?_
       first | refine R.field F48_3 (h := ?_) | refine R.fieldAt F48_3 (h := ?_)
       first | refine R.loadB O38 (h := ?_) | refine R.load1 O38 (h := ?_)
       first | refine R.convI Tryz.runUnderlying38 Tryz.runUnderlying2 (h := ?_) | refine R.convW Tryz.runUnderlying38 Tryz.runUnderlying2 (h := ?_)
       refine R.assign (h := ?_)
       refine .n0 ?_
       rw [← e1]
       exact LGo.ret (ret_T Tryz.results209 hA hmd)
      ·
       rw [if_neg hc7] at e1
       refine .skip ?_
       refine .inBlock ?_
       refine .seq ?_
       refine .region rfl ?_
       first | refine R.field F48_9 (h := ?_) | refine R.fieldAt F48_9 (h := ?_)
       first | refine R.loadB O3 (h := ?_) | refine R.load1 O3 (h := ?_)
       refine R.assign (h := ?_)
       refine .n0 ?_
       rw [← e1]
       exact LGo.ret (ret_T Tryz.results209 hA hmd)

theorem txtQ_P (r : Rq) (t : Int) : PC Tryz.prog 208 [.agg (r.c.map LV.sv), .i t] (.t (txtQ r t)) := by
 refine ⟨LC.of_go Tryz.func208 (c := _) rfl (by kernel_rfl) (by rw [Tryz.ntmps208]; simp) rfl rfl (by simp [LO.lt, LV.lts, LV.lt, lts_sv]) (by simp) ?_⟩
 intro B hA hmd
 obtain ⟨g, e0⟩ : ∃ g, txtQ r t = g := ⟨_, rfl⟩
 have e1 := e0
 unfold txtQ at e1
 rw [e0]
 refine .seq ?_
 refine .region rfl ?_
 refine R.box (h := ?_)
 refine R.assign (h := ?_)
 refine .n0 ?_
 refine .seq ?_
 refine .seq ?_
 refine .region rfl ?_
 refine R.move (h := ?_)
 refine R.bin (run_eql _ _ _ _ _ _) (h := ?_)
 refine .n0 ?_
 first | refine LGo.ifd (ht := fun hc => ?_) (hf := fun hc => ?_) | refine LGo.ifb (ht := fun hc => ?_) (hf := fun hc => ?_)
 ·
  rw [if_pos hc] at e1
  refine .seq ?_
  refine .region rfl ?_
  first | refine R.field F48_4 (h := ?_) | refine R.fieldAt F48_4 (h := ?_)
  first | refine R.loadB O9 (h := ?_) | refine R.load1 O9 (h := ?_)
  refine R.assign (h := ?_)
  refine .n0 ?_
  rw [← e1]
  exact LGo.ret (ret_T Tryz.results208 hA hmd)
 ·
  rw [if_neg hc] at e1
  refine .skip ?_
  refine .seq ?_
  refine .region rfl ?_
  first | refine R.field F48_5 (h := ?_) | refine R.fieldAt F48_5 (h := ?_)
  first | refine R.loadB O9 (h := ?_) | refine R.load1 O9 (h := ?_)
  refine R.assign (h := ?_)
  refine .n0 ?_
  rw [← e1]
  exact LGo.ret (ret_T Tryz.results208 hA hmd)

def rrGo (kd : Int) : Nat → Nat → List Rule → List Rule
  | 0, _, l => l
  | n + 1, k, l => if hasQ kd k = true then rrGo kd n (k + 1) (l ++ [ruleQ k]) else rrGo kd n (k + 1) l
def rulesR (kd : Int) : List Rule × Int := if wordQ kd = [] then ([], 2) else (rrGo kd 9 1 [], 0)

/-- a field that a kind has not, and that is there -/
def bad1 (r : Rq) (t : Int) : Bool := ((decide (t = 3) || decide (t = 4)) && !decide (txtQ r t = [])) || (((!decide (t = 3)) && !decide (t = 4)) && !decide (numQ r t = 0))
def any1 (r : Rq) : Nat → Nat → Bool
  | 0, _ => false
  | n + 1, k => if hasQ r.kind k = true then any1 r n (k + 1) else if bad1 r k = true then true else any1 r n (k + 1)
def bad2 (r : Rq) (t : Int) : Bool := (decide (numQ r t < 0) || decide (uw (numQ r t) < (ruleQ t).low)) || decide ((ruleQ t).high < uw (numQ r t))
def any2 (r : Rq) : Nat → Nat → Bool
  | 0, _ => false
  | n + 1, k => if ((decide ((k : Int) = 3) || decide ((k : Int) = 4)) || !hasQ r.kind k) = true then any2 r n (k + 1) else if bad2 r k = true then true else any2 r n (k + 1)
def bad3 (r : Rq) (t : Int) : Bool := hasQ r.kind t && !decide (((txtQ r t).length : Int) = (ruleQ t).low)
def any3 (r : Rq) : Nat → Nat → Bool
  | 0, _ => false
  | n + 1, k => if bad3 r k = true then true else any3 r n (k + 1)
def refCheckQ (r : Rq) : Int := if wordQ r.kind = [] then 2 else if any1 r 8 2 = true then 2 else if any2 r 9 1 = true then 7 else if any3 r 2 3 = true then 3 else 0

theorem txtQ_len (r : Rq) (hr : RqOk r) (t : Int) : (txtQ r t).length ≤ maxLen := by
  have h1 := hr.ses
  have h2 := hr.tic
  unfold txtQ
  split <;> assumption

theorem refCheckQ_P (r : Rq) (hr : RqOk r) : PC Tryz.prog 150 [.agg (r.c.map LV.sv)] (.i (refCheckQ r)) := by
 refine ⟨LC.of_go Tryz.func150 (c := _) rfl (by kernel_rfl) (by rw [Tryz.ntmps150]; simp) rfl rfl (by simp [LO.lt, LV.lts, LV.lt, lts_sv]) (by simp) ?_⟩
 intro B hA hmd
 obtain ⟨g, e0⟩ : ∃ g, refCheckQ r = g := ⟨_, rfl⟩
 have e1 := e0
 unfold refCheckQ at e1
 rw [e0]
 refine .seq ?_
 refine .region rfl ?_
 refine R.box (h := ?_)
 refine R.assign (h := ?_)
 refine .n0 ?_
 refine .seq ?_
 refine .seq ?_
 refine .region rfl ?_
 first | refine R.field F48_0 (h := ?_) | refine R.fieldAt F48_0 (h := ?_)
 first | refine R.loadB O3 (h := ?_) | refine R.load1 O3 (h := ?_)
 refine R.callP (es := [_]) (fun _ => wordQ_P r.kind) (h := ?_)
 refine R.bin (run_eqlT _ _ _ _ _) (h := ?_)
 refine .n0 ?_
 refine LGo.ifd (ht := fun hc => ?_) (hf := fun hc => ?_)
 ·
  rw [if_pos hc] at e1; rw [← e1]
  refine .seq ?_
  refine .region rfl ?_
  refine R.assign (h := ?_)
  refine .n0 ?_
  exact LGo.ret (ret_T Tryz.results150 hA hmd)
 ·
  rw [if_neg hc] at e1
  refine .skip ?_
  refine .seq ?_
  refine .seq ?_
  refine .region rfl ?_
  refine R.assign (h := ?_)
  refine .n0 ?_
  refine .block ?_
  refine .loop ?_
  refine LGo.loopG (σ := Nat × Nat) (fun x => x.1 + x.2 = 10 ∧ 2 ≤ x.2 ∧ (if any1 r x.1 x.2 = true then (2 : Int) else if any2 r 9 1 = true then 7 else if any3 r 2 3 = true then 3 else 0) = g) (fun x => [(3, (true, .i (x.2 : Nat)))]) (fun x => [(0, .box 48 (r.c.map LV.sv))]) (fun x => x.1) ((8, 2)) [(1, _)] ⟨rfl, Nat.le_refl _, e1⟩ (by repeat (first | exact trivial | refine ⟨rfl, ?_⟩)) (by repeat (first | exact trivial | refine ⟨rfl, ?_⟩)) (by repeat (first | exact trivial | refine ⟨rfl, ?_⟩)) ?_
  rintro ⟨fu, k⟩ ⟨q1, q2, e1⟩ ih
  dsimp only at * 
  refine .seq ?_
  refine .seq ?_
  refine .region rfl ?_
  refine R.move (h := ?_)
  refine R.bin (run_leq _ _ _ _ _ _) (h := ?_)
  refine .n0 ?_
  refine LGo.ifd (ht := fun hc2 => ?_) (hf := fun hc2 => ?_)
  ·
   obtain ⟨f, rfl⟩ : ∃ f, fu = f + 1 := ⟨fu - 1, by omega⟩
   rw [any1] at e1
   refine .skip ?_
   refine .seq ?_
   refine .block ?_
   refine .seq ?_
   refine .seq ?_
   refine .region rfl ?_
   first | refine R.field F48_0 (h := ?_) | refine R.fieldAt F48_0 (h := ?_)
   first | refine R.loadB O3 (h := ?_) | refine R.load1 O3 (h := ?_)
   refine R.move (h := ?_)
   refine R.callP (es := [_, _]) (fun _ => hasQ_P r.kind (k : Int)) (h := ?_)
   refine .n0 ?_
   refine LGo.ifb (ht := fun hc3 => ?_) (hf := fun hc3 => ?_)
   ·
    rw [if_pos hc3] at e1
    refine .exit rfl ?_
    refine .region rfl ?_
    refine R.move (h := ?_)
    first | refine R.add (h := ?_) | refine R.addW (h := ?_)
    refine R.assign (h := ?_)
    refine .n0 ?_
    refine .inLoop ?_
    exact LGo.next _ (fun o h => by have := (hA o).1 h; omega) (by omega) (ih (f, k + 1) ⟨by dsimp only; omega, by dsimp only; omega, e1⟩ (by dsimp only; omega)) (by repeat (first | exact trivial | refine ⟨rfl, ?_⟩)) (by repeat (first | exact trivial | refine ⟨rfl, ?_⟩))
   ·
    rw [if_neg (show ¬ hasQ r.kind (k : Int) = true from by rw [hc3]; simp)] at e1
    refine .skip ?_
    refine .seq ?_
    refine .region rfl ?_
    refine R.move (h := ?_)
    refine R.bin (run_eql _ _ _ _ _ _) (h := ?_)
    refine R.move (h := ?_)
    refine R.move (h := ?_)
    refine R.bin (run_eql _ _ _ _ _ _) (h := ?_)
    refine R.or (h := ?_)
    refine R.move (h := ?_)
    first | refine R.loadA A48 (h := ?_) | refine R.loadN A48 (h := ?_) | refine R.loadP A48 (h := ?_)
    refine R.move (h := ?_)
    refine R.callP (es := [_, _]) (fun _ => txtQ_P r (k : Int)) (h := ?_)
    refine R.bin (run_neqT _ _ _ _ _) (h := ?_)
    refine R.and (h := ?_)
    refine R.move (h := ?_)
    refine R.move (h := ?_)
    refine R.bin (run_neq _ _ _ _ _ _) (h := ?_)
    refine R.move (h := ?_)
    refine R.move (h := ?_)
    refine R.bin (run_neq _ _ _ _ _ _) (h := ?_)
    refine R.and (h := ?_)
    refine R.move (h := ?_)
    first | refine R.loadA A48 (h := ?_) | refine R.loadN A48 (h := ?_) | refine R.loadP A48 (h := ?_)
    refine R.move (h := ?_)
    refine R.callP (es := [_, _]) (fun _ => numQ_P r hr (k : Int)) (h := ?_)
    refine R.bin (run_neq _ _ _ _ _ _) (h := ?_)
    refine R.and (h := ?_)
    refine R.or (h := ?_)
    refine .n0 ?_
    refine LGo.ifb (ht := fun hc4 => ?_) (hf := fun hc4 => ?_)
    ·
     rw [if_pos (show bad1 r (k : Int) = true from hc4), if_pos rfl] at e1; rw [← e1]
     refine .seq ?_
     refine .region rfl ?_
     refine R.assign (h := ?_)
     refine .n0 ?_
     exact LGo.ret (ret_T Tryz.results150 hA hmd)
    ·
     rw [if_neg (show ¬ bad1 r (k : Int) = true from by rw [show bad1 r (k : Int) = false from hc4]; simp)] at e1
     refine .skip ?_
     refine .inBlock ?_
     refine .region rfl ?_
     refine R.move (h := ?_)
     first | refine R.add (h := ?_) | refine R.addW (h := ?_)
     refine R.assign (h := ?_)
     refine .n0 ?_
     refine .inLoop ?_
     exact LGo.next _ (fun o h => by have := (hA o).1 h; omega) (by omega) (ih (f, k + 1) ⟨by dsimp only; omega, by dsimp only; omega, e1⟩ (by dsimp only; omega)) (by repeat (first | exact trivial | refine ⟨rfl, ?_⟩)) (by repeat (first | exact trivial | refine ⟨rfl, ?_⟩))
  ·
   obtain rfl : fu = 0 := by omega
   rw [any1, if_neg (by simp)] at e1
   refine .exit rfl ?_
   refine .seq ?_
   refine .seq ?_
   refine .region rfl ?_
   refine R.assign (h := ?_)
   refine .n0 ?_
   refine .block ?_
   refine .loop ?_
   refine LGo.loopG (σ := Nat × Nat) (fun x => x.1 + x.2 = 10 ∧ 1 ≤ x.2 ∧ (if any2 r x.1 x.2 = true then (7 : Int) else if any3 r 2 3 = true then 3 else 0) = g) (fun x => [(4, (true, .i (x.2 : Nat)))]) (fun x => [(0, .box 48 (r.c.map LV.sv))]) (fun x => x.1) ((9, 1)) [(1, _)] ⟨rfl, Nat.le_refl _, e1⟩ (by repeat (first | exact trivial | refine ⟨rfl, ?_⟩)) (by repeat (first | exact trivial | refine ⟨rfl, ?_⟩)) (by repeat (first | exact trivial | refine ⟨rfl, ?_⟩)) ?_
   rintro ⟨fu, k⟩ ⟨q1, q2, e1⟩ ih2
   dsimp only at * 
   refine .seq ?_
   refine .seq ?_
   refine .region rfl ?_
   refine R.move (h := ?_)
   refine R.bin (run_leq _ _ _ _ _ _) (h := ?_)
   refine .n0 ?_
   refine LGo.ifd (ht := fun hc5 => ?_) (hf := fun hc5 => ?_)
   ·
    obtain ⟨f, rfl⟩ : ∃ f, fu = f + 1 := ⟨fu - 1, by omega⟩
    rw [any2] at e1
    refine .skip ?_
    refine .seq ?_
    refine .block ?_
    refine .seq ?_
    refine .seq ?_
    refine .region rfl ?_
    refine R.move (h := ?_)
    refine R.bin (run_eql _ _ _ _ _ _) (h := ?_)
    refine R.move (h := ?_)
    refine R.move (h := ?_)
    refine R.bin (run_eql _ _ _ _ _ _) (h := ?_)
    refine R.or (h := ?_)
    refine R.move (h := ?_)
    first | refine R.field F48_0 (h := ?_) | refine R.fieldAt F48_0 (h := ?_)
    first | refine R.loadB O3 (h := ?_) | refine R.load1 O3 (h := ?_)
    refine R.move (h := ?_)
    refine R.callP (es := [_, _]) (fun _ => hasQ_P r.kind (k : Int)) (h := ?_)
    refine R.not (h := ?_)
    refine R.or (h := ?_)
    refine .n0 ?_
    refine LGo.ifb (ht := fun hc6 => ?_) (hf := fun hc6 => ?_)
    ·
     rw [if_pos hc6] at e1
     refine .exit rfl ?_
     refine .region rfl ?_
     refine R.move (h := ?_)
     first | refine R.add (h := ?_) | refine R.addW (h := ?_)
     refine R.assign (h := ?_)
     refine .n0 ?_
     refine .inLoop ?_
     exact LGo.next _ (fun o h => by have := (hA o).1 h; omega) (by omega) (ih2 (f, k + 1) ⟨by dsimp only; omega, by dsimp only; omega, e1⟩ (by dsimp only; omega)) (by repeat (first | exact trivial | refine ⟨rfl, ?_⟩)) (by repeat (first | exact trivial | refine ⟨rfl, ?_⟩))
    ·
     rw [if_neg (show ¬ ((decide ((k : Int) = 3) || decide ((k : Int) = 4)) || !hasQ r.kind (k : Int)) = true from by rw [hc6]; simp)] at e1
     refine .skip ?_
     refine .seq ?_
     refine .region rfl ?_
     first | refine R.loadA A48 (h := ?_) | refine R.loadN A48 (h := ?_) | refine R.loadP A48 (h := ?_)
     refine R.move (h := ?_)
     refine R.callP (es := [_, _]) (fun _ => numQ_P r hr (k : Int)) (h := ?_)
     refine R.assign (h := ?_)
     refine .n0 ?_
     refine .seq ?_
     refine .region rfl ?_
     refine R.move (h := ?_)
     refine R.bin (run_lss _ _ _ _ _ _) (h := ?_)
     refine R.move (h := ?_)
     refine R.move (h := ?_)
     refine R.convW Tryz.runUnderlying2 Tryz.runUnderlying41 (h := ?_)
     rw [uw_wrap]
     refine R.move (h := ?_)
     refine R.callP (es := [_]) (fun _ => ruleR9_P (k : Int)) (h := ?_)
     refine R.fieldV V215_2 (h := ?_)
     refine R.bin (run_lss _ _ _ _ _ _) (h := ?_)
     refine R.or (h := ?_)
     refine R.move (h := ?_)
     refine R.move (h := ?_)
     refine R.convW Tryz.runUnderlying2 Tryz.runUnderlying41 (h := ?_)
     rw [uw_wrap]
     refine R.move (h := ?_)
     refine R.callP (es := [_]) (fun _ => ruleR9_P (k : Int)) (h := ?_)
     refine R.fieldV V215_3 (h := ?_)
     refine R.bin (run_gtr _ _ _ _ _ _) (h := ?_)
     refine R.or (h := ?_)
     refine .n0 ?_
     refine LGo.ifb (ht := fun hc7 => ?_) (hf := fun hc7 => ?_)
     ·
      rw [if_pos (show bad2 r (k : Int) = true from hc7), if_pos rfl] at e1; rw [← e1]
      refine .seq ?_
      refine .region rfl ?_
      refine R.assign (h := ?_)
      refine .n0 ?_
      exact LGo.ret (ret_T Tryz.results150 hA hmd)
     ·
      rw [if_neg (show ¬ bad2 r (k : Int) = true from by rw [show bad2 r (k : Int) = false from hc7]; simp)] at e1
      refine .skip ?_
      refine .inBlock ?_
      refine .region rfl ?_
      refine R.move (h := ?_)
      first | refine R.add (h := ?_) | refine R.addW (h := ?_)
      refine R.assign (h := ?_)
      refine .n0 ?_
      refine .inLoop ?_
      exact LGo.next _ (fun o h => by have := (hA o).1 h; omega) (by omega) (ih2 (f, k + 1) ⟨by dsimp only; omega, by dsimp only; omega, e1⟩ (by dsimp only; omega)) (by repeat (first | exact trivial | refine ⟨rfl, ?_⟩)) (by repeat (first | exact trivial | refine ⟨rfl, ?_⟩))
   ·
    obtain rfl : fu = 0 := by omega
    rw [any2, if_neg (by simp)] at e1
    refine .exit rfl ?_
    refine .seq ?_
    refine .seq ?_
    refine .region rfl ?_
    refine R.assign (h := ?_)
    refine .n0 ?_
    refine .block ?_
    refine .loop ?_
    refine LGo.loopG (σ := Nat × Nat) (fun x => x.1 + x.2 = 5 ∧ 3 ≤ x.2 ∧ (if any3 r x.1 x.2 = true then (3 : Int) else 0) = g) (fun x => [(6, (true, .i (x.2 : Nat)))]) (fun x => [(0, .box 48 (r.c.map LV.sv))]) (fun x => x.1) ((2, 3)) [(1, _)] ⟨rfl, Nat.le_refl _, e1⟩ (by repeat (first | exact trivial | refine ⟨rfl, ?_⟩)) (by repeat (first | exact trivial | refine ⟨rfl, ?_⟩)) (by repeat (first | exact trivial | refine ⟨rfl, ?_⟩)) ?_
    rintro ⟨fu, k⟩ ⟨q1, q2, e1⟩ ih3
    dsimp only at * 
    refine .seq ?_
    refine .seq ?_
    refine .region rfl ?_
    refine R.move (h := ?_)
    refine R.bin (run_leq _ _ _ _ _ _) (h := ?_)
    refine .n0 ?_
    refine LGo.ifd (ht := fun hc8 => ?_) (hf := fun hc8 => ?_)
    ·
     obtain ⟨f, rfl⟩ : ∃ f, fu = f + 1 := ⟨fu - 1, by omega⟩
     rw [any3] at e1
     have hln := txtQ_len r hr (k : Int)
     refine .skip ?_
     refine .seq ?_
     refine .block ?_
     refine .seq ?_
     refine .region rfl ?_
     first | refine R.field F48_0 (h := ?_) | refine R.fieldAt F48_0 (h := ?_)
     first | refine R.loadB O3 (h := ?_) | refine R.load1 O3 (h := ?_)
     refine R.move (h := ?_)
     refine R.callP (es := [_, _]) (fun _ => hasQ_P r.kind (k : Int)) (h := ?_)
     refine R.move (h := ?_)
     first | refine R.loadA A48 (h := ?_) | refine R.loadN A48 (h := ?_) | refine R.loadP A48 (h := ?_)
     refine R.move (h := ?_)
     refine R.callP (es := [_, _]) (fun _ => txtQ_P r (k : Int)) (h := ?_)
     refine R.lenT Tryz.runUnderlying9 (h := ?_)
     refine R.convW Tryz.runUnderlying3 Tryz.runUnderlying41 (h := ?_)
     rw [show IntKind.u64.wrap ((txtQ r (k : Int)).length : Int) = ((txtQ r (k : Int)).length : Int) from by rw [IntKind.wrap_u64]; unfold maxLen at hln; omega]
     refine R.move (h := ?_)
     refine R.callP (es := [_]) (fun _ => ruleR9_P (k : Int)) (h := ?_)
     refine R.fieldV V215_2 (h := ?_)
     refine R.bin (run_neq _ _ _ _ _ _) (h := ?_)
     refine R.and (h := ?_)
     refine .n0 ?_
     refine LGo.ifb (ht := fun hc9 => ?_) (hf := fun hc9 => ?_)
     ·
      rw [if_pos (show bad3 r (k : Int) = true from hc9), if_pos rfl] at e1; rw [← e1]
      refine .seq ?_
      refine .region rfl ?_
      refine R.assign (h := ?_)
      refine .n0 ?_
      exact LGo.ret (ret_T Tryz.results150 hA hmd)
     ·
      rw [if_neg (show ¬ bad3 r (k : Int) = true from by rw [show bad3 r (k : Int) = false from hc9]; simp)] at e1
      refine .skip ?_
      refine .inBlock ?_
      refine .region rfl ?_
      refine R.move (h := ?_)
      first | refine R.add (h := ?_) | refine R.addW (h := ?_)
      refine R.assign (h := ?_)
      refine .n0 ?_
      refine .inLoop ?_
      exact LGo.next _ (fun o h => by have := (hA o).1 h; omega) (by omega) (ih3 (f, k + 1) ⟨by dsimp only; omega, by dsimp only; omega, e1⟩ (by dsimp only; omega)) (by repeat (first | exact trivial | refine ⟨rfl, ?_⟩)) (by repeat (first | exact trivial | refine ⟨rfl, ?_⟩))
    ·
     obtain rfl : fu = 0 := by omega
     rw [any3, if_neg (by simp)] at e1
     rw [← e1]
     refine .exit rfl ?_
     refine .seq ?_
     refine .region rfl ?_
     refine R.assign (h := ?_)
     refine .n0 ?_
     exact LGo.ret (ret_T Tryz.results150 hA hmd)

end Go.Proofs.YteccglgbkehdeaaGreatDoor
/- requests: the rules and the check are the reference's. -/
set_option linter.unusedSimpArgs false
set_option linter.unusedVariables false
namespace Go.Proofs.YteccglgbkehdeaaGreatDoor


theorem kinds14 {k : Int} (h0 : 0 ≤ k) (h1 : k < 14) : k = 0 ∨ k = 1 ∨ k = 2 ∨ k = 3 ∨ k = 4 ∨ k = 5 ∨ k = 6 ∨ k = 7 ∨ k = 8 ∨ k = 9 ∨ k = 10 ∨ k = 11 ∨ k = 12 ∨ k = 13 := by omega
theorem mask_out {k : Int} (h : k < 0 ∨ 14 ≤ k) : maskOf k = 0 := if_pos h
theorem word_out {k : Int} (h : k < 0 ∨ 14 ≤ k) : wordQ k = [] := if_pos (by omega)
theorem word_mask (k : Int) : wordQ k = [] ↔ maskOf k = 0 := by
  by_cases h : k < 0 ∨ 14 ≤ k
  · simp [mask_out h, word_out h]
  · rcases kinds14 (k := k) (by omega) (by omega) with rfl | rfl | rfl | rfl | rfl | rfl | rfl | rfl | rfl | rfl | rfl | rfl | rfl | rfl <;> decide +kernel
/-- the bits of a kind's mask are its tags -/
theorem bit_has {kd : Int} (hk : maskOf kd ≠ 0) {k : Nat} (h1 : 1 ≤ k) (h2 : k ≤ 9) : hasQ kd k = !decide (bitQ (maskOf kd) k = 0) := by
  have h : ¬ (kd < 0 ∨ 14 ≤ kd) := fun h => hk (mask_out h)
  obtain ⟨j, rfl⟩ : ∃ j : Nat, kd = j := ⟨kd.toNat, by omega⟩
  have key : ((List.range 14).all fun j => (List.range 10).all fun k => decide (maskOf (j : Int) = 0) || decide (k = 0) || (hasQ j k == !decide (bitQ (maskOf (j : Int)) k = 0))) = true := by decide +kernel
  have k1 := List.all_eq_true.1 (List.all_eq_true.1 key j (List.mem_range.2 (by omega))) k (List.mem_range.2 (by omega))
  simp only [Bool.or_eq_true, decide_eq_true_eq, beq_iff_eq] at k1
  rcases k1 with (k1 | k1) | k1
  · exact absurd k1 hk
  · omega
  · exact k1
def nzF (f : Fld) : Bool := (!decide (f.num = 0)) || !decide (f.txt = [])
def nbF (x : Rule) (f : Fld) (is : Bool) : Bool := decide (x.kind = 1) && (((!is) || decide (f.num < x.low)) || decide (x.high < f.num))
def lbF (x : Rule) (f : Fld) : Bool := decide (x.kind = 2) && !decide ((f.txt.length : Int) = x.low)
def Ub (m : Int) (r : Rq) : Nat → Nat → Bool
  | 0, _ => false
  | n + 1, k => (decide (bitQ m k = 0) && nzF (fieldQ r k).1) || Ub m r n (k + 1)
def Nb (m : Int) (r : Rq) : Nat → Nat → Bool
  | 0, _ => false
  | n + 1, k => ((!decide (bitQ m k = 0)) && nbF (ruleQ k) (fieldQ r k).1 (fieldQ r k).2) || Nb m r n (k + 1)
def Lb (m : Int) (r : Rq) : Nat → Nat → Bool
  | 0, _ => false
  | n + 1, k => ((!decide (bitQ m k = 0)) && lbF (ruleQ k) (fieldQ r k).1) || Lb m r n (k + 1)
theorem foGo_snd (m : Int) (r : Rq) : ∀ (n k : Nat) (l : List Fld) (e : Int), e = 0 ∨ e = 3 ∨ e = 7 →
    (foGo m r n k l e).2 = if Ub m r n k = true then 2 else if (Nb m r n k || decide (e = 7)) = true then 7 else if (Lb m r n k || decide (e = 3)) = true then 3 else 0
  | 0, k, l, e, he => by
    rcases he with rfl | rfl | rfl <;> simp [foGo, Ub, Nb, Lb]
  | n + 1, k, l, e, he => by
    rw [foGo, Ub, Nb, Lb]
    by_cases hb : bitQ m k = 0
    · rw [if_pos hb]
      by_cases hz : nzF (fieldQ r k).1 = true
      · rw [if_pos (by exact hz)]
        simp [hb, hz]
      · rw [if_neg (by exact hz), foGo_snd m r n (k + 1) l e he]
        simp only [Bool.not_eq_true] at hz
        simp [hb, hz]
    · rw [if_neg hb, foGo_snd m r n (k + 1) _ _ ?_]
      · have hd : decide (bitQ m k = 0) = false := by simp [hb]
        rw [hd]
        simp only [Bool.false_and, Bool.false_or, Bool.not_false, Bool.true_and]
        by_cases hn : nbF (ruleQ k) (fieldQ r k).1 (fieldQ r k).2 = true
        · rw [show errQ (ruleQ k) (fieldQ r k).1 (fieldQ r k).2 e = 7 from if_pos hn, hn]
          simp
        · simp only [Bool.not_eq_true] at hn
          by_cases hl : lbF (ruleQ k) (fieldQ r k).1 = true
          · rw [hn, hl]
            rcases he with rfl | rfl | rfl
            · rw [show errQ (ruleQ k) (fieldQ r k).1 (fieldQ r k).2 0 = 3 from by unfold errQ; rw [if_neg (by rw [show (_ && _) = false from hn]; simp), if_pos (by rw [show (_ && _) = true from hl]; simp)]]
              simp
            · rw [show errQ (ruleQ k) (fieldQ r k).1 (fieldQ r k).2 3 = 3 from by unfold errQ; rw [if_neg (by rw [show (_ && _) = false from hn]; simp), if_neg (by simp)]]
              simp
            · rw [show errQ (ruleQ k) (fieldQ r k).1 (fieldQ r k).2 7 = 7 from by unfold errQ; rw [if_neg (by rw [show (_ && _) = false from hn]; simp), if_neg (by simp)]]
              simp
          · simp only [Bool.not_eq_true] at hl
            rw [hn, hl, show errQ (ruleQ k) (fieldQ r k).1 (fieldQ r k).2 e = e from by unfold errQ; rw [if_neg (by rw [show (_ && _) = false from hn]; simp), if_neg (by rw [show (decide ((ruleQ k).kind = 2) && !decide (((fieldQ r k).1.txt.length : Int) = (ruleQ k).low)) = false from hl]; simp)]]
            simp
      · unfold errQ
        split
        · exact .inr (.inr rfl)
        · split
          · exact .inr (.inl rfl)
          · exact he
theorem tags9 {k : Nat} (h1 : 1 ≤ k) (h2 : k ≤ 9) : k = 1 ∨ k = 2 ∨ k = 3 ∨ k = 4 ∨ k = 5 ∨ k = 6 ∨ k = 7 ∨ k = 8 ∨ k = 9 := by omega
theorem uw_zero {n : Int} (h : R64 n) : uw n = 0 ↔ n = 0 := by unfold R64 at h; unfold uw; omega
theorem bad1_eq (r : Rq) (hr : RqOk r) {k : Nat} (h1 : 2 ≤ k) (h2 : k ≤ 9) : bad1 r k = nzF (fieldQ r k).1 := by
  have e1 := uw_zero hr.seat; have e2 := uw_zero hr.sec; have e3 := uw_zero hr.n; have e4 := uw_zero hr.gate
  rcases tags9 (k := k) (by omega) h2 with rfl | rfl | rfl | rfl | rfl | rfl | rfl | rfl | rfl
  · omega
  all_goals simp [bad1, nzF, fieldQ, numQ, txtQ, e1, e2, e3, e4]
theorem bad2_eq (r : Rq) (hr : RqOk r) {k : Nat} (h1 : 1 ≤ k) (h2 : k ≤ 9) : ((!(decide ((k : Int) = 3) || decide ((k : Int) = 4))) && bad2 r k) = nbF (ruleQ k) (fieldQ r k).1 (fieldQ r k).2 := by
  have b1 := hr.id; have b2 := hr.owner; have b3 := hr.to
  have b4 := hr.seat; have b5 := hr.sec; have b6 := hr.n; have b7 := hr.gate
  unfold R64 at b4 b5 b6 b7
  rcases tags9 (k := k) (by omega) h2 with rfl | rfl | rfl | rfl | rfl | rfl | rfl | rfl | rfl
  all_goals
    rw [Bool.eq_iff_iff]
    simp [bad2, nbF, fieldQ, numQ, ruleQ, uw]
  all_goals (try split) <;> omega
theorem any1_eq (r : Rq) (hr : RqOk r) (hk : maskOf r.kind ≠ 0) : ∀ n k : Nat, 2 ≤ k → k + n = 10 → any1 r n k = Ub (maskOf r.kind) r n k
  | 0, k, _, _ => rfl
  | n + 1, k, h1, h2 => by
    rw [any1, Ub, any1_eq r hr hk n (k + 1) (by omega) (by omega), bad1_eq r hr h1 (by omega), bit_has hk (by omega) (by omega)]
    by_cases hb : bitQ (maskOf r.kind) k = 0
    · simp only [hb, decide_true, Bool.not_true, Bool.false_eq_true, if_false, Bool.true_and]
      cases nzF (fieldQ r k).1 <;> simp
    · simp [hb]
theorem any2_eq (r : Rq) (hr : RqOk r) (hk : maskOf r.kind ≠ 0) : ∀ n k : Nat, 1 ≤ k → k + n = 10 → any2 r n k = Nb (maskOf r.kind) r n k
  | 0, k, _, _ => rfl
  | n + 1, k, h1, h2 => by
    rw [any2, Nb, any2_eq r hr hk n (k + 1) (by omega) (by omega), ← bad2_eq r hr h1 (by omega), bit_has hk (by omega) (by omega)]
    cases (decide ((k : Int) = 3) || decide ((k : Int) = 4)) <;> cases decide (bitQ (maskOf r.kind) k = 0) <;> cases bad2 r k <;> simp
theorem Lb_high (m : Int) (r : Rq) : ∀ n k : Nat, 5 ≤ k → k + n = 10 → Lb m r n k = false
  | 0, _, _, _ => rfl
  | n + 1, k, h1, h2 => by
    rw [Lb, Lb_high m r n (k + 1) (by omega) (by omega)]
    have : lbF (ruleQ k) (fieldQ r k).1 = false := by
      rcases tags9 (k := k) (by omega) (by omega) with rfl | rfl | rfl | rfl | rfl | rfl | rfl | rfl | rfl <;> first | omega | simp [lbF, ruleQ]
    rw [this]; simp
theorem any3_eq (r : Rq) (hk : maskOf r.kind ≠ 0) : any3 r 2 3 = Lb (maskOf r.kind) r 9 1 := by
  have h3 := bit_has hk (k := 3) (by omega) (by omega)
  have h4 := bit_has hk (k := 4) (by omega) (by omega)
  have l1 : lbF (ruleQ ((1 : Nat) : Int)) (fieldQ r ((1 : Nat) : Int)).1 = false := by simp [lbF, ruleQ]
  have l2 : lbF (ruleQ ((2 : Nat) : Int)) (fieldQ r ((2 : Nat) : Int)).1 = false := by simp [lbF, ruleQ]
  have l3 : lbF (ruleQ ((3 : Nat) : Int)) (fieldQ r ((3 : Nat) : Int)).1 = !decide (((txtQ r 3).length : Int) = (ruleQ 3).low) := by simp [lbF, ruleQ, fieldQ, txtQ]
  have l4 : lbF (ruleQ ((4 : Nat) : Int)) (fieldQ r ((4 : Nat) : Int)).1 = !decide (((txtQ r 4).length : Int) = (ruleQ 4).low) := by simp [lbF, ruleQ, fieldQ, txtQ]
  rw [Lb, Lb, Lb, Lb, Lb_high _ r 5 5 (by omega) rfl, l1, l2, l3, l4, ← h3, ← h4]
  simp only [any3, bad3, Nat.reduceAdd, Bool.and_false, Bool.false_or, Bool.or_false]
  show (if (hasQ r.kind 3 && _) = true then true else if (hasQ r.kind 4 && _) = true then true else false) = _
  cases (hasQ r.kind 3 && !decide (((txtQ r 3).length : Int) = (ruleQ 3).low)) <;> cases (hasQ r.kind 4 && !decide (((txtQ r 4).length : Int) = (ruleQ 4).low)) <;> rfl
/-- Check is the reference's -/
theorem checkQ_eq (r : Rq) (hr : RqOk r) : checkQ r = refCheckQ r := by
  unfold checkQ fieldsOf refCheckQ
  by_cases hk : maskOf r.kind = 0
  · rw [if_pos hk, if_pos ((word_mask _).2 hk)]
  · rw [if_neg hk, if_neg (fun h => hk ((word_mask _).1 h)), foGo_snd _ r 9 1 [] 0 (.inl rfl), any1_eq r hr hk 8 2 (by omega) rfl, any2_eq r hr hk 9 1 (by omega) rfl, any3_eq r hk]
    have hb : decide (bitQ (maskOf r.kind) 1 = 0) = false := by
      have h := bit_has hk (k := 1) (by omega) (by omega)
      have h1 : hasQ r.kind ((1 : Nat) : Int) = true := by
        unfold hasQ
        have : ∀ l : List Int, hasGo ((1 : Nat) : Int) l = true := by
          intro l
          induction l with
          | nil => rfl
          | cons x l ih => rw [hasGo]; split <;> first | rfl | exact ih
        exact this _
      rw [h1] at h
      simpa using h.symm
    rw [Ub, hb]
    simp

end Go.Proofs.YteccglgbkehdeaaGreatDoor
/- fields: the plain law: Encode, Decode and the reference's come to the same; what is decoded is what was encoded. -/
set_option linter.unusedSimpArgs false
set_option linter.unusedVariables false
namespace Go.Proofs.YteccglgbkehdeaaGreatDoor



def finR (rs : List Rule) (b : List UInt8) (acc : List Fld) : List Fld × Int × Int := if missing rs rs.length acc = true then ([], (b.length : Int), 11) else (acc, 0, 0)
def idxN (t : Int) (rs : List Rule) : Nat := (idx (fun x => decide (Rule.tag x = t)) 0 rs).toNat
def decR (rs : List Rule) (b : List UInt8) : Nat → Int → List Fld → Nat → List Fld × Int × Int
  | 0, _, acc, _ => finR rs b acc
  | n + 1, last, acc, k =>
    match b[k]? with
    | none => finR rs b acc
    | some c =>
      if ((!ruleHas c.toNat rs || decide ((ruleAt c.toNat rs).tag ≤ last)) || missing rs (idxN c.toNat rs) acc) = true then ([], (k : Int), 11)
      else if (!(readV (ruleAt c.toNat rs) (b.drop (k + 1))).2.2) = true then ([], (k : Int), 11)
      else decR rs b n (readV (ruleAt c.toNat rs) (b.drop (k + 1))).1.tag (acc ++ [(readV (ruleAt c.toNat rs) (b.drop (k + 1))).1]) (k + 1 + (readV (ruleAt c.toNat rs) (b.drop (k + 1))).2.1.toNat)
def decodeR (rs : List Rule) (b : List UInt8) : List Fld × Int × Int := if refCheck rs = 0 then decR rs b b.length 0 [] 0 else ([], 0, refCheck rs)
/-! reading -/
/-! what is missing -/
theorem checkGo_asc : ∀ (rs : List Rule) (last : Int), 0 ≤ last → checkGo last rs = 0 → rs.Pairwise (fun a b => a.tag < b.tag)
  | [], _, _, _ => List.Pairwise.nil
  | r :: rs, last, h0, h => by
    have h1 := checkGo_ok (r :: rs) last h0 h
    have hr := h1 r (by simp)
    have h2 : checkGo r.tag rs = 0 := by
      simp only [checkGo] at h
      split at h
      · cases h
      · split at h
        · exact h
        · split at h
          · cases h
          · exact h
    exact List.Pairwise.cons (fun q hq => (checkGo_ok rs r.tag (by omega) h2 q hq).1) (checkGo_asc rs r.tag (by omega) h2)
theorem check_asc {rs : List Rule} (h : check rs = 0) : rs.Pairwise (fun a b => a.tag < b.tag) := by
  unfold check at h
  split at h
  · cases h
  · exact checkGo_asc rs 0 (by omega) h
def rem (rs : List Rule) (acc : List Fld) : List Int := (needs rs).filter (fun t => !fldHas t acc)
theorem rem_lack (rs : List Rule) (acc : List Fld) : lackF rs acc = decide (0 < ((rem rs acc).length : Int)) := by
  unfold lackF rem
  rw [Bool.eq_iff_iff, List.any_eq_true, decide_eq_true_iff]
  constructor
  · rintro ⟨t, h1, h2⟩
    have : t ∈ (needs rs).filter (fun t => !fldHas t acc) := List.mem_filter.2 ⟨h1, h2⟩
    have := List.length_pos_of_mem this
    omega
  · intro h
    obtain ⟨t, ht⟩ := List.exists_mem_of_length_pos (by omega : 0 < ((needs rs).filter (fun t => !fldHas t acc)).length)
    obtain ⟨h1, h2⟩ := List.mem_filter.1 ht
    exact ⟨t, h1, h2⟩
/-! the two decodings -/
def fin (b : List UInt8) (acc : List Fld) (d : List Fld × List UInt8 × List Int) : List Fld × Int × Int :=
  if (decide ((0 : Int) < d.2.1.length) || decide ((0 : Int) < d.2.2.length)) = true then ([], (b.length : Int) - d.2.1.length, 11) else (acc ++ d.1, 0, 0)
/-! bytes -/
def BytL (l : List Int) : Prop := ∀ y ∈ l, 0 ≤ y ∧ y < 256
theorem BytL.app {l m : List Int} (h : BytL l) (h2 : BytL m) : BytL (l ++ m) := fun y hy => by
  rcases List.mem_append.1 hy with h' | h'
  · exact h y h'
  · exact h2 y h'
theorem BytL.cons {x : Int} {l : List Int} (h0 : 0 ≤ x) (h1 : x < 256) (h : BytL l) : BytL (x :: l) := fun y hy => by
  rcases List.mem_cons.1 hy with rfl | h'
  · exact ⟨h0, h1⟩
  · exact h y h'
theorem low_byt (x : Int) : ∀ n, BytL (low x n)
  | 0 => fun y hy => by simp [low] at hy
  | n + 1 => BytL.cons (Int.emod_nonneg _ (by omega)) (Int.emod_lt_of_pos _ (by omega)) (low_byt x n)
theorem digs_byt (x : Int) : BytL (digs x) := low_byt x _
theorem textI_byt (l : List UInt8) : BytL (textI l) := fun y hy => by
  obtain ⟨c, _, rfl⟩ := List.mem_map.1 hy
  exact ⟨u8_ge c, u8_lt c⟩
def fldG (r : Rule) (x : Fld) : List Int := if r.kind = 1 then ((digs x.num).length : Int) :: digs x.num else ((x.txt.length : Int) / 256) :: ((x.txt.length : Int) % 256) :: textI x.txt
theorem fldB_G (r : Rule) (x : Fld) : fldB r x = x.tag :: fldG r x := by
  unfold fldB fldG
  split <;> rfl
theorem fldG_byt (r : Rule) (x : Fld) (h : FldOk x) : BytL (fldG r x) := by
  have h1 := digs_len x.num h.1 h.2.1
  have h2 := h.2.2
  unfold fldG
  split
  · exact BytL.cons (by omega) (by omega) (digs_byt _)
  · exact BytL.cons (by omega) (by omega) (BytL.cons (by omega) (by omega) (textI_byt _))
theorem encF_byt {rs : List Rule} (hrs : ∀ r ∈ rs, 0 < r.tag ∧ r.tag ≤ 63) : ∀ (fs : List Fld) (last : Int), (∀ x ∈ fs, FldOk x) → BytL (encF rs last fs).2
  | [], _, _ => fun y hy => by simp [encF] at hy
  | x :: fs, last, h => by
    simp only [encF]
    split
    · intro y hy; simp at hy
    · rename_i h1
      split
      · have hr : ruleHas x.tag rs = true := by
          cases hh : ruleHas x.tag rs with
          | true => rfl
          | false => rw [hh] at h1; simp at h1
        obtain ⟨hm, ht⟩ := ruleAt_mem hr
        have hb := hrs _ hm
        rw [ht] at hb
        rw [fldB_G]
        exact (BytL.cons (by omega) (by omega) (fldG_byt _ x (h x (by simp)))).app (encF_byt hrs fs x.tag (fun y hy => h y (by simp [hy])))
      · intro y hy; simp at hy
theorem encode_byt (rs : List Rule) (fs : List Fld) (h : ∀ x ∈ fs, FldOk x) : BytL (encode rs fs).1 := by
  have hnil : BytL [] := fun y hy => by simp at hy
  unfold encode
  split
  · rename_i hc
    have hk := (check_ok hc).2
    split
    · exact hnil
    · split
      · split
        · exact hnil
        · exact encF_byt (fun r hr => ⟨(hk r hr).1, (hk r hr).2.1⟩) fs 0 h
      · exact hnil
  · exact hnil
def encBy (rs : List Rule) (fs : List Fld) : List UInt8 := (encode rs fs).1.map byt
/-! numbers -/
/-! a field, read and written -/
/-- the fields of a message ascend -/
theorem encF_asc {rs : List Rule} : ∀ (fs : List Fld) (last : Int), (encF rs last fs).1 = 0 → (fs.map Fld.tag).Pairwise (· < ·) ∧ ∀ x ∈ fs, last < x.tag ∧ ruleHas x.tag rs = true
  | [], _, _ => ⟨List.Pairwise.nil, by simp⟩
  | x :: fs, last, h => by
    simp only [encF] at h
    split at h
    · cases h
    · rename_i h1
      rw [Bool.not_eq_true, Bool.or_eq_false_iff] at h1
      have h2 : ruleHas x.tag rs = true := by simpa using h1.1
      have h3 : last < x.tag := by simpa using h1.2
      split at h
      · obtain ⟨i1, i2⟩ := encF_asc fs x.tag h
        refine ⟨?_, fun y hy => ?_⟩
        · simp only [List.map_cons, List.pairwise_cons]
          refine ⟨fun t ht => ?_, i1⟩
          obtain ⟨y, hy, rfl⟩ := List.mem_map.1 ht
          exact (i2 y hy).1
        · rcases List.mem_cons.1 hy with rfl | hy
          · exact ⟨h3, h2⟩
          · have := i2 y hy
            exact ⟨by omega, this.2⟩
      · rename_i h4; exact absurd h h4
theorem asc_len : ∀ (m l : List Int), m.Pairwise (· < ·) → l.Pairwise (· < ·) → (∀ t ∈ l, t ∈ m) → l.length ≤ m.length
  | [], l, _, _, h => by
    cases l with
    | nil => simp
    | cons a l => exact absurd (h a (by simp)) (by simp)
  | t :: m, [], _, _, _ => by simp
  | t :: m, s :: l, hm, hl, h => by
    have hm' := List.pairwise_cons.1 hm
    have hl' := List.pairwise_cons.1 hl
    have hs : t ≤ s := by
      rcases List.mem_cons.1 (h s (by simp)) with h1 | h1
      · omega
      · have := hm'.1 s h1; omega
    have hsub : ∀ u ∈ l, u ∈ m := fun u hu => by
      have h1 := hl'.1 u hu
      rcases List.mem_cons.1 (h u (by simp [hu])) with h2 | h2
      · omega
      · exact h2
    have := asc_len m l hm'.2 hl'.2 hsub
    simp only [List.length_cons]
    omega
theorem encF_len {rs : List Rule} (hc : check rs = 0) (fs : List Fld) (last : Int) (h : (encF rs last fs).1 = 0) : fs.length ≤ 16 := by
  obtain ⟨h1, h2⟩ := encF_asc fs last h
  have h3 := asc_len (rs.map Rule.tag) (fs.map Fld.tag) (List.pairwise_map.2 (check_asc hc)) h1 (fun t ht => by
    obtain ⟨x, hx, rfl⟩ := List.mem_map.1 ht
    obtain ⟨hm, ht'⟩ := ruleAt_mem (h2 x hx).2
    exact List.mem_map.2 ⟨_, hm, ht'⟩)
  rw [List.length_map, List.length_map] at h3
  have := (check_ok hc).1
  omega

/-- the answers of Encode -/
theorem encode_ok {rs : List Rule} {fs : List Fld} (h : (encode rs fs).2 = 0) : check rs = 0 ∧ (encF rs 0 fs).1 = 0 ∧ rem rs fs = [] ∧ (encode rs fs).1 = (encF rs 0 fs).2 := by
  unfold encode at h ⊢
  split at h
  · rename_i hc
    rw [if_pos hc]
    split at h
    · cases h
    · rename_i h1
      rw [if_neg h1]
      split at h
      · rename_i h2
        rw [if_pos h2]
        split at h
        · cases h
        · rename_i h3
          rw [if_neg h3]
          refine ⟨hc, h2, ?_, rfl⟩
          rw [rem_lack] at h3
          exact List.eq_nil_of_length_eq_zero (by have := of_decide_eq_false (Bool.not_eq_true _ ▸ h3); omega)
      · rename_i h2; exact absurd h h2
  · rename_i hc; exact absurd h hc
theorem encode_err {rs : List Rule} {fs : List Fld} (h : (encode rs fs).2 ≠ 0) : (encode rs fs).1 = [] := by
  unfold encode at h ⊢
  split
  · split
    · rfl
    · split
      · split
        · rfl
        · rename_i hc h1 h2 h3
          rw [if_pos hc, if_neg h1, if_pos h2, if_neg h3] at h
          exact absurd rfl h
      · rfl
  · rfl
/-! beginnings of messages; rules that allow less -/
/-! rules that allow less -/
/-! what the laws take -/
theorem encode_PB (rs : List Rule) (fs : List Fld) (hrs : rs.length ≤ 100) (hfs : fs.length ≤ 100) (hok : ∀ x ∈ fs, FldOk x) : PC Tryz.prog 148 [.sv (.sl 5 (rs.map Rule.c)), .sv (.sl 3 (fs.map Fld.c))] (.tup [.sv (.sl 1 (bytesC (encBy rs fs))), .i (encode rs fs).2]) := by
  have h := encode_P rs fs hrs hfs hok
  rw [ic_byt _ (encode_byt rs fs hok)] at h
  exact h
theorem fldB_len500 (r : Rule) (x : Fld) (hx : FldOk x) (h : x.txt.length ≤ 500) : (fldB r x).length ≤ 503 := by
  have h1 := digs_len x.num hx.1 hx.2.1
  unfold fldB
  split <;> simp [textI_len] <;> omega
theorem encF_len500 {rs : List Rule} : ∀ (fs : List Fld) (last : Int), (∀ x ∈ fs, FldOk x ∧ x.txt.length ≤ 500) → (encF rs last fs).2.length ≤ 503 * fs.length
  | [], _, _ => by simp [encF]
  | x :: fs, last, h => by
    simp only [encF]
    split
    · simp
    · split
      · have h1 := fldB_len500 (ruleAt x.tag rs) x (h x (by simp)).1 (h x (by simp)).2
        have h2 := encF_len500 (rs := rs) fs x.tag (fun y hy => h y (by simp [hy]))
        simp only [List.length_append, List.length_cons]
        omega
      · simp
theorem encBy_len {rs : List Rule} {l : List Fld} (h : ∀ x ∈ l, FldOk x ∧ x.txt.length ≤ 500) : (encBy rs l).length ≤ 8048 := by
  unfold encBy
  rw [List.length_map]
  by_cases he : (encode rs l).2 = 0
  · obtain ⟨hc, h1, _, h3⟩ := encode_ok he
    rw [h3]
    have := encF_len500 (rs := rs) l 0 h
    have := encF_len hc l 0 h1
    omega
  · rw [encode_err he]; simp
end Go.Proofs.YteccglgbkehdeaaGreatDoor
/- requests: fields into a request; Encode, Decode, Needs. -/
set_option linter.unusedSimpArgs false
set_option linter.unusedVariables false
namespace Go.Proofs.YteccglgbkehdeaaGreatDoor

abbrev zeroQ : Rq := ⟨0, 0, 0, 0, [], [], 0, 0, 0, 0⟩
def putQ (r : Rq) (f : Fld) : Rq := if f.tag = 1 then { r with id := f.num } else if f.tag = 2 then { r with owner := IntKind.u32.wrap f.num } else if f.tag = 3 then { r with ses := f.txt } else if f.tag = 4 then { r with tic := f.txt } else if f.tag = 5 then { r with seat := IntKind.i64.wrap f.num }
  else if f.tag = 6 then { r with sec := IntKind.i64.wrap f.num } else if f.tag = 7 then { r with n := IntKind.i64.wrap f.num } else if f.tag = 8 then { r with to := IntKind.u32.wrap f.num } else if f.tag = 9 then { r with gate := IntKind.i64.wrap f.num } else r
def foldQ (r : Rq) (l : List Fld) : Rq := l.foldl putQ r

theorem fieldQ_500 {r : Rq} (hr : RqOk r) (hs : r.ses.length ≤ 500 ∧ r.tic.length ≤ 500) (t : Int) : FldOk (fieldQ r t).1 ∧ (fieldQ r t).1.txt.length ≤ 500 := by
  have h1 := hr.id; have h3 := hr.owner; have h4 := hr.to
  have h2 := uw_lt
  obtain ⟨h5, h6⟩ := hs
  unfold fieldQ
  (repeat' split) <;> simp only [FldOk] <;> refine ⟨⟨?_, ?_, ?_⟩, ?_⟩ <;> first | exact (h2 _).1 | exact (h2 _).2 | (simp only [List.length_nil]; omega) | omega
theorem foGo_500 {m : Int} {r : Rq} (hr : RqOk r) (hs : r.ses.length ≤ 500 ∧ r.tic.length ≤ 500) : ∀ (n k : Nat) (l : List Fld) (e : Int), (∀ f ∈ l, FldOk f ∧ f.txt.length ≤ 500) → (∀ f ∈ (foGo m r n k l e).1, FldOk f ∧ f.txt.length ≤ 500) ∧ (foGo m r n k l e).1.length ≤ l.length + n
  | 0, k, l, e, hl => by
    rw [foGo]
    split
    · simp
    · exact ⟨hl, by simp⟩
  | n + 1, k, l, e, hl => by
    rw [foGo]
    split
    · split
      · simp
      · have := foGo_500 (m := m) hr hs n (k + 1) l e hl
        exact ⟨this.1, by omega⟩
    · have := foGo_500 hr hs n (k + 1) (l ++ [(fieldQ r k).1]) (errQ (ruleQ k) (fieldQ r k).1 (fieldQ r k).2 e) (m := m) (fun f hf => by
        rcases List.mem_append.1 hf with h | h
        · exact hl f h
        · rw [List.mem_singleton.1 h]; exact fieldQ_500 hr hs _)
      rw [List.length_append, List.length_cons, List.length_nil] at this
      exact ⟨this.1, by omega⟩
theorem fieldsOf_500 {r : Rq} (hr : RqOk r) (hs : r.ses.length ≤ 500 ∧ r.tic.length ≤ 500) : (∀ f ∈ (fieldsOf r).1, FldOk f ∧ f.txt.length ≤ 500) ∧ (fieldsOf r).1.length ≤ 9 := by
  unfold fieldsOf
  split
  · simp
  · have := foGo_500 (m := maskOf r.kind) hr hs 9 1 [] 0 (by simp)
    simpa using this
theorem ruGo_len (m : Int) : ∀ (n k : Nat) (l : List Rule), (ruGo m n k l).length ≤ l.length + n
  | 0, k, l => by simp [ruGo]
  | n + 1, k, l => by
    rw [ruGo]
    split
    · have := ruGo_len m n (k + 1) (l ++ [ruleQ k]); simp at this; omega
    · have := ruGo_len m n (k + 1) l; omega
theorem rulesQ_len (k : Int) : (rulesQ k).1.length ≤ 16 := by
  unfold rulesQ
  split
  · simp
  · have := ruGo_len (maskOf k) 16 0 []; simpa using this
theorem fieldsOf_kind {r : Rq} (h : (fieldsOf r).2 = 0) : 0 ≤ r.kind ∧ r.kind < 14 := by
  by_cases hk : r.kind < 0 ∨ 14 ≤ r.kind
  · unfold fieldsOf at h
    rw [if_pos (mask_out hk)] at h
    cases h
  · omega
def encQ (r : Rq) : List UInt8 × Int := if (!decide ((fieldsOf r).2 = 0)) = true then ([], (fieldsOf r).2) else if (!decide ((encode (rulesQ r.kind).1 (fieldsOf r).1).2 = 0)) = true then ([], (encode (rulesQ r.kind).1 (fieldsOf r).1).2) else (byt r.kind :: encBy (rulesQ r.kind).1 (fieldsOf r).1, 0)
def needsQ (k : Int) : Bool × Bool × Int := if maskOf k = 0 then (false, false, 2) else (decide (bitQ (maskOf k) 3 = 1), decide (bitQ (maskOf k) 4 = 1), 0)
/-- requests.Decode -/
def decQ : List UInt8 → Rq × Int × Int
  | [] => (zeroQ, 0, 11)
  | c :: b => if (!decide ((rulesQ c.toNat).2 = 0)) = true then (zeroQ, 0, 11) else if (!decide ((decode (rulesQ c.toNat).1 b).2.2 = 0)) = true then (zeroQ, (decode (rulesQ c.toNat).1 b).2.1 + 1, 11) else (foldQ { zeroQ with kind := c.toNat } (decode (rulesQ c.toNat).1 b).1, 0, 0)

theorem needsQ_P (kd : Int) : PC Tryz.prog 144 [.i kd] (.tup [.b (needsQ kd).1, .b (needsQ kd).2.1, .i (needsQ kd).2.2]) := by
 refine ⟨LC.of_go Tryz.func144 (c := _) rfl (by kernel_rfl) (by rw [Tryz.ntmps144]; simp) rfl rfl (by simp [LO.lt, LV.lts, LV.lt, lts_sv]) (by simp) ?_⟩
 intro B hA hmd
 obtain ⟨g, e0⟩ : ∃ g, needsQ kd = g := ⟨_, rfl⟩
 have e1 := e0
 unfold needsQ at e1
 rw [e0]
 have hm := maskOf_lt kd
 refine .seq ?_
 refine .region rfl ?_
 refine R.assign (h := ?_)
 refine R.assign (h := ?_)
 refine R.assign (h := ?_)
 refine .n0 ?_
 refine .seq ?_
 refine .region rfl ?_
 refine R.move (h := ?_)
 refine R.callP (es := [_]) (fun _ => mask_P kd) (h := ?_)
 refine R.assign (h := ?_)
 refine .n0 ?_
 refine .seq ?_
 refine .seq ?_
 refine .region rfl ?_
 refine R.move (h := ?_)
 refine R.bin (run_eql _ _ _ _ _ _) (h := ?_)
 refine .n0 ?_
 refine LGo.ifd (ht := fun hc => ?_) (hf := fun hc => ?_)
 ·
  rw [if_pos hc] at e1; rw [← e1]
  refine .seq ?_
  refine .region rfl ?_
  refine R.assign (h := ?_)
  refine R.assign (h := ?_)
  refine R.assign (h := ?_)
  refine .n0 ?_
  exact LGo.ret (ret_TTT Tryz.results144 hA hmd)
 ·
  rw [if_neg hc] at e1; rw [← e1]
  generalize maskOf kd = m at *
  refine .skip ?_
  refine .seq ?_
  refine .region rfl ?_
  refine R.move (h := ?_)
  refine R.shr (h := ?_)
  rw [show min (Int.toNat 3) IntKind.u16.bits = 3 from rfl]
  refine R.bin (run_andE _ _ _ .u16 _ 1 (and1_u16 _ (div_lt m 3 hm.1 hm.2).1 (div_lt m 3 hm.1 hm.2).2)) (h := ?_)
  refine R.bin (run_eql _ _ _ _ _ _) (h := ?_)
  refine R.move (h := ?_)
  refine R.shr (h := ?_)
  rw [show min (Int.toNat 4) IntKind.u16.bits = 4 from rfl]
  refine R.bin (run_andE _ _ _ .u16 _ 1 (and1_u16 _ (div_lt m 4 hm.1 hm.2).1 (div_lt m 4 hm.1 hm.2).2)) (h := ?_)
  refine R.bin (run_eql _ _ _ _ _ _) (h := ?_)
  refine R.assign (h := ?_)
  refine R.assign (h := ?_)
  refine R.assign (h := ?_)
  refine .n0 ?_
  exact LGo.ret (ret_TTT Tryz.results144 hA hmd)


end Go.Proofs.YteccglgbkehdeaaGreatDoor
/- words: what may stand plain between quotes, letters of escapes, quoting. -/
set_option linter.unusedSimpArgs false
set_option linter.unusedVariables false
namespace Go.Proofs.YteccglgbkehdeaaGreatDoor

def plainC (c : UInt8) : Bool := decide (32 ≤ c.toNat) && decide (c.toNat ≤ 126) && !decide (c.toNat = 34) && !decide (c.toNat = 92)
def escL (c : UInt8) : UInt8 := if c.toNat = 34 then 34 else if c.toNat = 92 then 92 else if c.toNat = 10 then 110 else if c.toNat = 13 then 114 else if c.toNat = 9 then 116 else 0
def hexT : List UInt8 := [48, 49, 50, 51, 52, 53, 54, 55, 56, 57, 97, 98, 99, 100, 101, 102]
def hexD (n : Nat) : UInt8 := hexT.getD n 0
def escaped (c : UInt8) : List UInt8 := if plainC c = true then [c] else if escL c ≠ 0 then [92, escL c] else [92, 120, hexD (c.toNat / 16), hexD (c.toNat % 16)]
def quote (s : List UInt8) : List UInt8 := 34 :: (s.flatMap escaped ++ [34])
/-- the value of a digit of base 16; 16: it is none -/
def hexV (c : UInt8) : Nat := hexT.idxOf c
def unesc : List UInt8 → UInt8 × Nat
  | [] => (0, 0)
  | a :: r =>
    if a.toNat = 34 then (34, 1) else if a.toNat = 92 then (92, 1) else if a.toNat = 110 then (10, 1) else if a.toNat = 114 then (13, 1) else if a.toNat = 116 then (9, 1)
    else if a.toNat ≠ 120 then (0, 0) else match r with
      | h :: l :: _ => if 16 ≤ hexV h ∨ 16 ≤ hexV l then (0, 0) else if (plainC (UInt8.ofNat (16 * hexV h + hexV l)) || decide (escL (UInt8.ofNat (16 * hexV h + hexV l)) ≠ 0)) = true then (0, 0) else (UInt8.ofNat (16 * hexV h + hexV l), 3)
      | _ => (0, 0)
def unqGo : Nat → List UInt8 → List UInt8 → Nat → List UInt8 × Nat
  | 0, _, _, _ => ([], 0)
  | _ + 1, [], _, _ => ([], 0)
  | f + 1, c :: r, acc, i =>
    if c.toNat = 34 then (acc, i + 1) else if c.toNat = 92 then (if (unesc r).2 = 0 then ([], 0) else unqGo f (r.drop (unesc r).2) (acc ++ [(unesc r).1]) (i + 1 + (unesc r).2))
    else if plainC c = true then unqGo f r (acc ++ [c]) (i + 1) else ([], 0)
def unq : List UInt8 → List UInt8 × Nat
  | [] => ([], 0)
  | a :: r => if a.toNat = 34 then unqGo (r.length + 1) r [] 1 else ([], 0)

theorem u8_all {p : UInt8 → Prop} [DecidablePred p] (h : ((List.range 256).all fun n => decide (p (UInt8.ofNat n))) = true) (c : UInt8) : p c := by
  have h1 := List.all_eq_true.1 h c.toNat (List.mem_range.2 c.toNat_lt)
  have h2 : UInt8.ofNat c.toNat = c := UInt8.ofNat_toNat
  rw [h2] at h1
  exact of_decide_eq_true h1

end Go.Proofs.YteccglgbkehdeaaGreatDoor
/- gates: what is a gate, when it is open; the check of gates. -/
set_option linter.unusedSimpArgs false
set_option linter.unusedVariables false
namespace Go.Proofs.YteccglgbkehdeaaGreatDoor

/-- a gate: its sections, from when and until when it is open -/
structure GtG where
  secs : List Int
  fr : Int
  to : Int
  deriving DecidableEq
instance : Inhabited GtG := ⟨⟨[], 0, 0⟩⟩
/-- an entry -/
structure GtE where
  seat : Int
  serial : Int
  epoch : Int
  gate : Int
  time : Int
  deriving DecidableEq
instance : Inhabited GtE := ⟨⟨0, 0, 0, 0, 0⟩⟩
structure GtS where
  gates : List GtG
  ents : List GtE
  deriving DecidableEq
/-- a call -/
structure GtC where
  gate : Int
  seat : Int
  owner : Int
  serial : Int
  epoch : Int
  sec : Int
  now : Int
def GtG.c (g : GtG) : List SV := [.sl 1 (ic .i64 g.secs), .val (.int .i64 g.fr), .val (.int .i64 g.to)]
def GtE.c (x : GtE) : List SV := [.val (.int .u32 x.seat), .val (.int .u64 x.serial), .val (.int .u64 x.epoch), .val (.int .i64 x.gate), .val (.int .i64 x.time)]
def GtS.c (s : GtS) : List SV := [.sl 3 (s.gates.map GtG.c), .sl 5 (s.ents.map GtE.c)]
def GtC.c (x : GtC) : List SV := [.val (.int .i64 x.gate), .val (.int .u32 x.seat), .val (.int .u32 x.owner), .val (.int .u64 x.serial), .val (.int .u64 x.epoch), .val (.int .i64 x.sec), .val (.int .i64 x.now)]
def S64 (n : Int) : Prop := -9223372036854775808 ≤ n ∧ n ≤ 9223372036854775807
def U64 (n : Int) : Prop := 0 ≤ n ∧ n < 18446744073709551616
def U32 (n : Int) : Prop := 0 ≤ n ∧ n < 4294967296
def GtG.ok (g : GtG) : Prop := g.secs.length ≤ maxLen ∧ (∀ n ∈ g.secs, S64 n) ∧ S64 g.fr ∧ S64 g.to
def GtE.ok (x : GtE) : Prop := U32 x.seat ∧ U64 x.serial ∧ U64 x.epoch ∧ S64 x.gate ∧ S64 x.time
def GtS.ok (s : GtS) : Prop := s.gates.length ≤ maxLen ∧ (∀ g ∈ s.gates, g.ok) ∧ s.ents.length ≤ maxLen ∧ ∀ x ∈ s.ents, x.ok
def GtC.ok (x : GtC) : Prop := S64 x.gate ∧ U32 x.seat ∧ U32 x.owner ∧ U64 x.serial ∧ U64 x.epoch ∧ S64 x.sec ∧ S64 x.now
def GtS.zero : GtS := ⟨[], []⟩
def GtE.zero : GtE := ⟨0, 0, 0, 0, 0⟩
/-- sections ascend, below 8: the last of them -/
def goodGo : List Int → Int → Option Int
  | [], last => some last
  | n :: r, last => if (decide (n ≤ last) || decide (8 ≤ n)) = true then none else goodGo r n
def goodG (g : GtG) : Bool := match goodGo g.secs (-1) with
  | none => false
  | some last => (decide (0 ≤ last) && decide (0 ≤ g.fr)) && decide (g.fr < g.to)
def openI (g : GtG) (t : Int) : Int := if t < g.fr then -1 else if g.to ≤ t then 1 else 0
def checkG (l : List GtG) : Int := if 8 < (l.length : Int) then 3 else if (decide ((l.length : Int) = 0) || l.any fun g => !goodG g) = true then 6 else 0
abbrev K3 := Int × Int × Int
def GtE.key (x : GtE) : K3 := (x.seat, x.epoch, x.serial)
def GtC.key (x : GtC) : K3 := (x.seat, x.epoch, x.serial)
def K3.v (k : K3) : List Value := [.int .u64 k.1, .int .u64 k.2.1, .int .u64 k.2.2]
def cmpI (x y : Int) : Int := if x < y then -1 else if y < x then 1 else 0
def cmpK (a b : K3) : Int := if cmpI a.1 b.1 = 0 then (if cmpI a.2.1 b.2.1 = 0 then cmpI a.2.2 b.2.2 else cmpI a.2.1 b.2.1) else cmpI a.1 b.1
/-- the order of keys -/
def ltK (a b : K3) : Prop := a.1 < b.1 ∨ a.1 = b.1 ∧ (a.2.1 < b.2.1 ∨ a.2.1 = b.2.1 ∧ a.2.2 < b.2.2)
/-- what is wrong with an entry behind another one -/
def badE (gs : List GtG) (p : Option GtE) (x : GtE) : Bool :=
  ((decide (x.gate < 0) || decide ((gs.length : Int) ≤ x.gate)) || !decide (openI (gs.getD x.gate.toNat default) x.time = 0)) || (match p with | none => false | some y => decide (0 ≤ cmpK y.key x.key))
def badGo (gs : List GtG) : Option GtE → List GtE → Bool
  | _, [] => false
  | p, x :: r => badE gs p x || badGo gs (some x) r
def checkGS (s : GtS) : Int := if checkG s.gates ≠ 0 then checkG s.gates else if 500 < (s.ents.length : Int) then 3 else if badGo s.gates none s.ents = true then 6 else 0
def GtC.ent (c : GtC) : GtE := ⟨c.seat, c.serial, c.epoch, c.gate, c.now⟩
def hasK (k : K3) (l : List GtE) : Bool := l.any fun x => decide (x.key = k)
/-- why a call is refused; 0: it is not -/
def refuse (gs : List GtG) (es : List GtE) (c : GtC) : Int :=
  if (decide (c.gate < 0) || decide ((gs.length : Int) ≤ c.gate)) = true then 4 else
  if (!(gs.getD c.gate.toNat default).secs.contains c.sec) = true then 15 else
  if openI (gs.getD c.gate.toNat default) c.now < 0 then 18 else
  if 0 < openI (gs.getD c.gate.toNat default) c.now then 13 else
  if hasK c.key es = true then 8 else
  if (es.length : Int) = 500 then 5 else 0
def insE (x : GtE) : List GtE → List GtE
  | [] => [x]
  | y :: l => if cmpK y.key x.key < 0 then y :: insE x l else x :: y :: l
def enterS (s : GtS) (c : GtC) : GtS × Int := if checkGS s ≠ 0 then (GtS.zero, checkGS s) else if refuse s.gates s.ents c ≠ 0 then (GtS.zero, refuse s.gates s.ents c) else (⟨s.gates, insE c.ent s.ents⟩, 0)
def findS (s : GtS) (k : K3) : GtE × Int := if checkGS s ≠ 0 then (GtE.zero, checkGS s) else match s.ents.find? (fun x => decide (x.key = k)) with
  | none => (GtE.zero, 4)
  | some x => (x, 0)
def countE (g : Int) (l : List GtE) : Int := l.foldl (fun n x => if x.gate = g then n + 1 else n) 0
def countS (s : GtS) (g : Int) : Int × Int := if checkGS s ≠ 0 then (0, checkGS s) else if (decide (g < 0) || decide ((s.gates.length : Int) ≤ g)) = true then (0, 4) else (countE g s.ents, 0)
def newS (l : List GtG) : GtS × Int := if checkG l ≠ 0 then (GtS.zero, checkG l) else (⟨l, []⟩, 0)

def finG (x : GtG) : Option Int → Bool
  | none => false
  | some last => (decide (0 ≤ last) && decide (0 ≤ x.fr)) && decide (x.fr < x.to)
theorem goodG_fin (x : GtG) : goodG x = finG x (goodGo x.secs (-1)) := by unfold goodG finG; cases goodGo x.secs (-1) <;> rfl
theorem icA {l : List Int} {j : Nat} (h : j < l.length) : (ic .i64 l)[((j : Nat) : Int).toNat]? = some [.val (.int .i64 l[j])] := by
  rw [Int.toNat_natCast]; exact ic_get (List.getElem?_eq_getElem h)

theorem good_P (z : GtG) (hz : z.secs.length ≤ 100000) : PC Tryz.prog 182 [.agg (z.c.map LV.sv)] (.b (goodG z)) := by
 refine ⟨LC.of_go Tryz.func182 (c := _) rfl (by kernel_rfl) (by rw [Tryz.ntmps182]; simp) rfl rfl (by simp [LO.lt, LV.lts, LV.lt, lts_sv]) (by simp) ?_⟩
 intro B hA hmd
 obtain ⟨g, e0⟩ : ∃ g, goodG z = g := ⟨_, rfl⟩
 have e1 := e0
 rw [goodG_fin] at e1
 rw [e0]
 refine .seq ?_
 refine .region rfl ?_
 refine R.box (h := ?_)
 refine R.assign (h := ?_)
 refine .n0 ?_
 refine .seq ?_
 refine .region rfl ?_
 refine R.assign (h := ?_)
 refine .n0 ?_
 refine .seq ?_
 refine .seq ?_
 refine .region rfl ?_
 first | refine R.field F71_0 (h := ?_) | refine R.fieldAt F71_0 (h := ?_)
 first | refine R.loadB O65 (h := ?_) | refine R.load1 O65 (h := ?_)
 first | refine R.len S65 (h := ?_) | refine R.lenRs S65 (h := ?_) | refine R.lenV (run_lenNil S65) (h := ?_)
 rw [ic_len]
 refine R.move (h := ?_)
 refine .n0 ?_
 refine .block ?_
 refine .loop ?_
 refine LGo.loopG (σ := Nat × Int) (fun x => x.1 ≤ z.secs.length ∧ finG z (goodGo (z.secs.drop x.1) x.2) = g) (fun x => [(9, (true, .i (x.1 : Nat))), (3, (true, .i x.2))]) (fun x => [(0, .box 71 (z.c.map LV.sv))]) (fun x => z.secs.length - x.1) (0, -1) [(1, _), (7, _), (8, _)] ⟨Nat.zero_le _, e1⟩ (by repeat (first | exact trivial | refine ⟨rfl, ?_⟩)) (by repeat (first | exact trivial | refine ⟨rfl, ?_⟩)) (by repeat (first | exact trivial | refine ⟨rfl, ?_⟩)) ?_
 rintro ⟨k, last⟩ ⟨hk, hq⟩ ih
 dsimp only at * 
 refine .seq ?_
 refine .region rfl ?_
 refine R.bin (run_lss _ _ _ _ _ _) (h := ?_)
 refine .n0 ?_
 refine .seq ?_
 refine LGo.ifd (ht := fun hc => ?_) (hf := fun hc => ?_)
 ·
  have hlt : k < z.secs.length := by omega
  have hx := icA hlt
  have hd : z.secs.drop k = z.secs[k] :: z.secs.drop (k + 1) := List.drop_eq_getElem_cons hlt
  rw [hd, goodGo] at hq
  generalize z.secs[k] = n at hx hq
  clear hd
  refine .skip ?_
  refine .seq ?_
  refine .block ?_
  refine .seq ?_
  refine .region rfl ?_
  refine R.index I65 (hj := fun hg => ⟨by omega, hx⟩) (h := ?_)
  first | refine R.loadB O3 (h := ?_) | refine R.load1 O3 (h := ?_)
  refine R.assign (h := ?_)
  refine .n0 ?_
  refine .seq ?_
  refine .seq ?_
  refine .region rfl ?_
  refine R.move (h := ?_)
  refine R.move (h := ?_)
  refine R.bin (run_leq _ _ _ _ _ _) (h := ?_)
  refine R.move (h := ?_)
  refine R.move (h := ?_)
  refine R.bin (run_geq _ _ _ _ _ _) (h := ?_)
  refine R.or (h := ?_)
  refine .n0 ?_
  refine LGo.ifb (ht := fun hc2 => ?_) (hf := fun hc2 => ?_)
  ·
   rw [if_pos hc2] at hq
   rw [← hq]
   refine .seq ?_
   refine .region rfl ?_
   refine R.assign (h := ?_)
   refine .n0 ?_
   exact LGo.ret (ret_T Tryz.results182 hA hmd)
  ·
   rw [if_neg (by rw [hc2]; simp)] at hq
   refine .skip ?_
   refine .region rfl ?_
   refine R.move (h := ?_)
   refine R.assign (h := ?_)
   refine .n0 ?_
   refine .inBlock ?_
   refine .region rfl ?_
   first | refine R.add (h := ?_) | refine R.addW (h := ?_)
   refine R.move (h := ?_)
   refine .n0 ?_
   refine .inLoop ?_
   exact LGo.next _ (fun o h => by have := (hA o).1 h; omega) (by omega) (ih (k + 1, n) ⟨by omega, hq⟩ (by omega)) (by repeat (first | exact trivial | refine ⟨rfl, ?_⟩)) ⟨rfl, trivial⟩
 ·
  rw [List.drop_eq_nil_of_le (show z.secs.length ≤ k by omega), goodGo] at hq
  rw [← hq]
  refine .exit rfl ?_
  refine .seq ?_
  refine .region rfl ?_
  refine R.move (h := ?_)
  refine R.bin (run_geq _ _ _ _ _ _) (h := ?_)
  refine R.move (h := ?_)
  first | refine R.field F71_1 (h := ?_) | refine R.fieldAt F71_1 (h := ?_)
  first | refine R.loadB O2 (h := ?_) | refine R.load1 O2 (h := ?_)
  refine R.bin (run_geq _ _ _ _ _ _) (h := ?_)
  refine R.and (h := ?_)
  refine R.move (h := ?_)
  first | refine R.field F71_1 (h := ?_) | refine R.fieldAt F71_1 (h := ?_)
  first | refine R.loadB O2 (h := ?_) | refine R.load1 O2 (h := ?_)
  first | refine R.field F71_2 (h := ?_) | refine R.fieldAt F71_2 (h := ?_)
  first | refine R.loadB O2 (h := ?_) | refine R.load1 O2 (h := ?_)
  refine R.bin (run_lss _ _ _ _ _ _) (h := ?_)
  refine R.and (h := ?_)
  refine R.assign (h := ?_)
  refine .n0 ?_
  exact LGo.ret (ret_T Tryz.results182 hA hmd)

theorem notGood_P (x : GtG) (hx0 : x.secs.length ≤ 100000) : PC Tryz.prog 181 [.agg (x.c.map LV.sv)] (.b (!goodG x)) := by
 refine ⟨LC.of_go Tryz.func181 (c := _) rfl (by kernel_rfl) (by rw [Tryz.ntmps181]; simp) rfl rfl (by simp [LO.lt, LV.lts, LV.lt, lts_sv]) (by simp) ?_⟩
 intro B hA hmd
 refine .seq ?_
 refine .region rfl ?_
 refine R.box (h := ?_)
 refine R.assign (h := ?_)
 refine .n0 ?_
 refine .seq ?_
 refine .region rfl ?_
 first | refine R.loadA A71 (h := ?_) | refine R.loadN A71 (h := ?_) | refine R.loadP A71 (h := ?_)
 refine R.callP (es := [_]) (fun _ => good_P x hx0) (h := ?_)
 refine R.not (h := ?_)
 refine R.assign (h := ?_)
 refine .n0 ?_
 exact LGo.ret (ret_T Tryz.results181 hA hmd)

/-- the place of the first element that p takes; -1: none -/
def idxP {α : Type} (p : α → Bool) : Nat → List α → Int
  | _, [] => -1
  | k, x :: xs => if p x = true then (k : Int) else idxP p (k + 1) xs
theorem idxP_any {α : Type} (p : α → Bool) : ∀ (xs : List α) (k : Nat), decide (0 ≤ idxP p k xs) = xs.any p
  | [], k => rfl
  | x :: xs, k => by
    rw [idxP, List.any_cons]
    cases h : p x
    · simpa using idxP_any p xs (k + 1)
    · simp

theorem idxGood_P (l : List GtG) (hl : l.length ≤ 100000) (hs : ∀ g ∈ l, g.secs.length ≤ 100000) : PC Tryz.prog 231 [.sv (.sl 3 (l.map GtG.c)), .fn (.func 181) [] []] (.i (idxP (fun x => !goodG x) 0 l)) := by
 refine ⟨LC.of_go Tryz.func231 (c := _) rfl (by kernel_rfl) (by rw [Tryz.ntmps231]; simp) rfl rfl (by simp [LO.lt, LV.lts, LV.lt, lts_sv]) (by simp) ?_⟩
 intro B hA hmd
 obtain ⟨g, e1⟩ : ∃ g, idxP (fun x => !goodG x) 0 l = g := ⟨_, rfl⟩
 rw [e1]
 refine .seq ?_
 refine .region rfl ?_
 refine R.assign (h := ?_)
 refine .n0 ?_
 refine .seq ?_
 refine .seq ?_
 refine .region rfl ?_
 refine R.move (h := ?_)
 first | refine R.len S25 (h := ?_) | refine R.lenRs S25 (h := ?_) | refine R.lenV (run_lenNil S25) (h := ?_)
 rw [List.length_map]
 refine R.move (h := ?_)
 refine .n0 ?_
 refine .block ?_
 refine .loop ?_
 refine LGo.loopG (σ := Nat) (fun x => x ≤ l.length ∧ idxP (fun x => !goodG x) x (l.drop x) = g) (fun x => [(8, (true, .i (x : Nat)))]) (fun x => []) (fun x => l.length - x) (0) [(0, _), (1, _), (7, _)] ⟨Nat.zero_le _, e1⟩ (by repeat (first | exact trivial | refine ⟨rfl, ?_⟩)) (by repeat (first | exact trivial | refine ⟨rfl, ?_⟩)) (by repeat (first | exact trivial | refine ⟨rfl, ?_⟩)) ?_
 rintro k ⟨hk, hq⟩ ih
 refine .seq ?_
 refine .region rfl ?_
 refine R.bin (run_lss _ _ _ _ _ _) (h := ?_)
 refine .n0 ?_
 refine .seq ?_
 refine LGo.ifd (ht := fun hc => ?_) (hf := fun hc => ?_)
 ·
  have hlt : k < l.length := by omega
  have hx : (l.map GtG.c)[((k : Nat) : Int).toNat]? = some l[k].c := by simp [hlt]
  have hd : l.drop k = l[k] :: l.drop (k + 1) := List.drop_eq_getElem_cons hlt
  rw [hd, idxP] at hq
  have hx0 := hs l[k] (List.getElem_mem hlt)
  generalize l[k] = x at hx hq hx0
  clear hd
  refine .skip ?_
  refine .seq ?_
  refine .block ?_
  refine .seq ?_
  refine .region rfl ?_
  refine R.move (h := ?_)
  refine R.assign (h := ?_)
  refine .n0 ?_
  refine .seq ?_
  refine .region rfl ?_
  refine R.move (h := ?_)
  refine R.move (h := ?_)
  refine R.move (h := ?_)
  refine R.index I25 (hj := fun hg => ⟨by omega, hx⟩) (h := ?_)
  first | refine R.loadA A71 (h := ?_) | refine R.loadN A71 (h := ?_) | refine R.loadP A71 (h := ?_)
  refine R.callRd (m := 0) (avs := [_]) (es := [_]) (first := []) (cap := []) (notGood_P x hx0).lc (hL := noHo) (h := ?_)
  refine .n0 ?_
  refine LGo.ifb (ht := fun hc2 => ?_) (hf := fun hc2 => ?_)
  ·
   rw [if_pos hc2] at hq
   rw [← hq]
   refine .seq ?_
   refine .region rfl ?_
   refine R.move (h := ?_)
   refine R.assign (h := ?_)
   refine .n0 ?_
   exact LGo.ret (ret_T Tryz.results231 hA hmd)
  ·
   rw [if_neg (by rw [hc2]; simp)] at hq
   refine .skip ?_
   refine .inBlock ?_
   refine .region rfl ?_
   first | refine R.add (h := ?_) | refine R.addW (h := ?_)
   refine R.move (h := ?_)
   refine .n0 ?_
   refine .inLoop ?_
   exact LGo.next _ (fun o h => by have := (hA o).1 h; omega) (by omega) (ih (k + 1) ⟨by omega, hq⟩ (by omega)) (by repeat (first | exact trivial | refine ⟨rfl, ?_⟩)) (by repeat (first | exact trivial | refine ⟨rfl, ?_⟩))
 ·
  rw [List.drop_eq_nil_of_le (show l.length ≤ k by omega), idxP] at hq
  rw [← hq]
  refine .exit rfl ?_
  refine .seq ?_
  refine .region rfl ?_
  refine R.assign (h := ?_)
  refine .n0 ?_
  exact LGo.ret (ret_T Tryz.results231 hA hmd)

theorem hasBad_P (l : List GtG) (hl : l.length ≤ 100000) (hs : ∀ g ∈ l, g.secs.length ≤ 100000) : PC Tryz.prog 180 [.sv (.sl 3 (l.map GtG.c)), .fn (.func 181) [] []] (.b (l.any fun x => !goodG x)) := by
 refine ⟨LC.of_go Tryz.func180 (c := _) rfl (by kernel_rfl) (by rw [Tryz.ntmps180]; simp) rfl rfl (by simp [LO.lt, LV.lts, LV.lt, lts_sv]) (by simp) ?_⟩
 intro B hA hmd
 refine .seq ?_
 refine .region rfl ?_
 refine R.assign (h := ?_)
 refine .n0 ?_
 refine .seq ?_
 refine .region rfl ?_
 refine R.move (h := ?_)
 refine R.move (h := ?_)
 refine R.callP (es := [_, _]) (fun _ => idxGood_P l hl hs) (h := ?_)
 refine R.bin (run_geq _ _ _ _ _ _) (h := ?_)
 rw [idxP_any]
 refine R.assign (h := ?_)
 refine .n0 ?_
 exact LGo.ret (ret_T Tryz.results180 hA hmd)

theorem checkG_P (l : List GtG) (hl : l.length ≤ 100000) (hs : ∀ g ∈ l, g.secs.length ≤ 100000) : PC Tryz.prog 111 [.sv (.sl 3 (l.map GtG.c))] (.i (checkG l)) := by
 refine ⟨LC.of_go Tryz.func111 (c := _) rfl (by kernel_rfl) (by rw [Tryz.ntmps111]; simp) rfl rfl (by simp [LO.lt, LV.lts, LV.lt, lts_sv]) (by simp) ?_⟩
 intro B hA hmd
 obtain ⟨g, e0⟩ : ∃ g, checkG l = g := ⟨_, rfl⟩
 have e1 := e0
 unfold checkG at e1
 rw [e0]
 refine .seq ?_
 refine .region rfl ?_
 refine R.assign (h := ?_)
 refine .n0 ?_
 refine .seq ?_
 refine .block ?_
 refine .seq ?_
 refine .region rfl ?_
 refine R.move (h := ?_)
 first | refine R.len S25 (h := ?_) | refine R.lenRs S25 (h := ?_) | refine R.lenV (run_lenNil S25) (h := ?_)
 rw [List.length_map]
 refine R.bin (run_gtr _ _ _ _ _ _) (h := ?_)
 refine R.assign (h := ?_)
 refine .n0 ?_
 refine LGo.ifd (ht := fun hc => ?_) (hf := fun hc => ?_)
 ·
  rw [if_pos hc] at e1
  refine .seq ?_
  refine .region rfl ?_
  refine R.assign (h := ?_)
  refine .n0 ?_
  rw [← e1]
  exact LGo.ret (ret_T Tryz.results111 hA hmd)
 ·
  rw [if_neg hc] at e1
  refine .seq ?_
  refine .region rfl ?_
  refine R.move (h := ?_)
  first | refine R.len S25 (h := ?_) | refine R.lenRs S25 (h := ?_) | refine R.lenV (run_lenNil S25) (h := ?_)
  rw [List.length_map]
  refine R.bin (run_eql _ _ _ _ _ _) (h := ?_)
  refine R.move (h := ?_)
  refine R.move (h := ?_)
  refine R.callP (es := [_, _]) (fun _ => hasBad_P l (by omega) hs) (h := ?_)
  refine R.or (h := ?_)
  refine R.assign (h := ?_)
  refine .n0 ?_
  refine LGo.ifb (ht := fun hc2 => ?_) (hf := fun hc2 => ?_)
  ·
   rw [if_pos hc2] at e1
   refine .seq ?_
   refine .region rfl ?_
   refine R.assign (h := ?_)
   refine .n0 ?_
   rw [← e1]
   exact LGo.ret (ret_T Tryz.results111 hA hmd)
  ·
   rw [if_neg (by rw [hc2]; simp)] at e1
   refine .skip ?_
   refine .inBlock ?_
   refine .seq ?_
   refine .region rfl ?_
   refine R.assign (h := ?_)
   refine .n0 ?_
   rw [← e1]
   exact LGo.ret (ret_T Tryz.results111 hA hmd)

end Go.Proofs.YteccglgbkehdeaaGreatDoor
/- gates: keys, and how they are compared; the check of a state. -/
set_option linter.unusedSimpArgs false
set_option linter.unusedVariables false
namespace Go.Proofs.YteccglgbkehdeaaGreatDoor

def cmpL : List Int → List Int → Int
  | [], [] => 0
  | [], _ :: _ => -1
  | _ :: _, [] => 1
  | a :: l, b :: m => if cmpI a b = 0 then cmpL l m else cmpI a b
end Go.Proofs.YteccglgbkehdeaaGreatDoor
/- gates: copies of slices; a copy of a state. -/
set_option linter.unusedSimpArgs false
set_option linter.unusedVariables false
namespace Go.Proofs.YteccglgbkehdeaaGreatDoor

theorem cloneG (xs : List (List SV)) (hsz : ∀ e ∈ xs, e.length = 3) (hl : xs.length ≤ 100000) : LC Tryz.prog 162 0 [.sv (.sl 3 xs)] [] (.ref 0) [(0, .rs 71 3 xs)] 1 := by
 refine LC.of_go Tryz.func162 (c := _) rfl (by kernel_rfl) (by rw [Tryz.ntmps162]; simp) rfl rfl (by simp [LO.lt, LV.lts, LV.lt, lts_sv]) (by simp) ?_
 intro B hA hmd
 refine .seq ?_
 refine .region rfl ?_
 refine R.assign (h := ?_)
 refine .n0 ?_
 refine .seq ?_
 refine .seq ?_
 refine .region rfl ?_
 refine R.move (h := ?_)
 rcases Classical.em (xs = []) with h0 | h0
 ·
  refine R.nilU (hT := Tryz.underlying25) (h := ?_)
  refine .n0 ?_
  refine LGo.ifU (ht := ?_) (hf := ?_)
  ·
   refine .seq ?_
   refine .region rfl ?_
   refine R.assign (h := ?_)
   refine .n0 ?_
   subst h0
   refine LGo.nilRs 2 71 3 (h := ?_)
   exact LGo.ret (FnPost.finI [0] (res_T Tryz.results162) hA hmd)
  ·
   refine .skip ?_
   refine .seq ?_
   refine .region rfl ?_
   refine R.buildSliceR AP25 (xs := []) (es := []) (hcs := CellsOfs.nil) (h := ?_)
   refine R.move (h := ?_)
   refine R.appendS AP25 (hs := SrcOk.sl Tryz.underlying25 (hsz)) (hlen := by simp; omega) (h := ?_)
   refine R.assign (h := ?_)
   refine .n0 ?_
   exact LGo.ret (FnPost.finI [1] (res_T Tryz.results162) hA hmd)
 ·
  refine R.nilF false (hT := Tryz.underlying25) (hne := fun _ => h0) (h := ?_)
  refine .n0 ?_
  refine LGo.ifb (ht := fun hc2 => by simp at hc2) (hf := fun hc2 => ?_)
  refine .skip ?_
  refine .seq ?_
  refine .region rfl ?_
  refine R.buildSliceR AP25 (xs := []) (es := []) (hcs := CellsOfs.nil) (h := ?_)
  refine R.move (h := ?_)
  refine R.appendS AP25 (hs := SrcOk.sl Tryz.underlying25 (hsz)) (hlen := by simp; omega) (h := ?_)
  refine R.assign (h := ?_)
  refine .n0 ?_
  exact LGo.ret (FnPost.finI [1] (res_T Tryz.results162) hA hmd)

theorem cloneE (xs : List (List SV)) (hsz : ∀ e ∈ xs, e.length = 5) (hl : xs.length ≤ 100000) : LC Tryz.prog 183 0 [.sv (.sl 5 xs)] [] (.ref 0) [(0, .rs 178 5 xs)] 1 := by
 refine LC.of_go Tryz.func183 (c := _) rfl (by kernel_rfl) (by rw [Tryz.ntmps183]; simp) rfl rfl (by simp [LO.lt, LV.lts, LV.lt, lts_sv]) (by simp) ?_
 intro B hA hmd
 refine .seq ?_
 refine .region rfl ?_
 refine R.assign (h := ?_)
 refine .n0 ?_
 refine .seq ?_
 refine .seq ?_
 refine .region rfl ?_
 refine R.move (h := ?_)
 rcases Classical.em (xs = []) with h0 | h0
 ·
  refine R.nilU (hT := Tryz.underlying97) (h := ?_)
  refine .n0 ?_
  refine LGo.ifU (ht := ?_) (hf := ?_)
  ·
   refine .seq ?_
   refine .region rfl ?_
   refine R.assign (h := ?_)
   refine .n0 ?_
   subst h0
   refine LGo.nilRs 2 178 5 (h := ?_)
   exact LGo.ret (FnPost.finI [0] (res_T Tryz.results183) hA hmd)
  ·
   refine .skip ?_
   refine .seq ?_
   refine .region rfl ?_
   refine R.buildSliceR AP97 (xs := []) (es := []) (hcs := CellsOfs.nil) (h := ?_)
   refine R.move (h := ?_)
   refine R.appendS AP97 (hs := SrcOk.sl Tryz.underlying97 (hsz)) (hlen := by simp; omega) (h := ?_)
   refine R.assign (h := ?_)
   refine .n0 ?_
   exact LGo.ret (FnPost.finI [1] (res_T Tryz.results183) hA hmd)
 ·
  refine R.nilF false (hT := Tryz.underlying97) (hne := fun _ => h0) (h := ?_)
  refine .n0 ?_
  refine LGo.ifb (ht := fun hc2 => by simp at hc2) (hf := fun hc2 => ?_)
  refine .skip ?_
  refine .seq ?_
  refine .region rfl ?_
  refine R.buildSliceR AP97 (xs := []) (es := []) (hcs := CellsOfs.nil) (h := ?_)
  refine R.move (h := ?_)
  refine R.appendS AP97 (hs := SrcOk.sl Tryz.underlying97 (hsz)) (hlen := by simp; omega) (h := ?_)
  refine R.assign (h := ?_)
  refine .n0 ?_
  exact LGo.ret (FnPost.finI [1] (res_T Tryz.results183) hA hmd)

end Go.Proofs.YteccglgbkehdeaaGreatDoor
/- gates: a state copied; the check of a state; New. -/
set_option linter.unusedSimpArgs false
set_option linter.unusedVariables false
namespace Go.Proofs.YteccglgbkehdeaaGreatDoor

def SmG (l : List GtG) : Prop := l.length ≤ 100000 ∧ ∀ g ∈ l, g.secs.length ≤ 100000
def SmS (s : GtS) : Prop := SmG s.gates ∧ s.ents.length ≤ 100000 ∧ ∀ x ∈ s.ents, U32 x.seat
theorem set_gate (l : List GtG) (k : Nat) (g : GtG) (h : l[k]? = some g) : (l.map GtG.c).set k (g.c.set 0 (.sl 1 (ic .i64 g.secs))) = l.map GtG.c := by
  have : g.c.set 0 (.sl 1 (ic .i64 g.secs)) = g.c := rfl
  rw [this, ← List.map_set]
  congr 1
  obtain ⟨hk, rfl⟩ := List.getElem?_eq_some_iff.1 h
  exact List.set_getElem_self hk
theorem gt_ones (l : List GtG) : ∀ e ∈ l.map GtG.c, e.length = 3 := by intro e he; obtain ⟨g, _, rfl⟩ := List.mem_map.1 he; rfl
theorem ge_ones (l : List GtE) : ∀ e ∈ l.map GtE.c, e.length = 5 := by intro e he; obtain ⟨g, _, rfl⟩ := List.mem_map.1 he; rfl

theorem cloneI_P (xs : List (List SV)) (hsz : ∀ e ∈ xs, e.length = 1) (hl : xs.length ≤ 100000) : PC Tryz.prog 161 [.sv (.sl 1 xs)] (.sv (.sl 1 xs)) := by
 refine ⟨LC.of_go Tryz.func161 (c := _) rfl (by kernel_rfl) (by rw [Tryz.ntmps161]; simp) rfl rfl (by simp [LO.lt, LV.lts, LV.lt, lts_sv]) (by simp) ?_⟩
 intro B hA hmd
 refine .seq ?_
 refine .region rfl ?_
 refine R.assign (h := ?_)
 refine .n0 ?_
 refine .seq ?_
 refine .seq ?_
 refine .region rfl ?_
 refine R.move (h := ?_)
 rcases Classical.em (xs = []) with h0 | h0
 ·
  refine R.nilU (hT := Tryz.underlying65) (h := ?_)
  refine .n0 ?_
  refine LGo.ifU (ht := ?_) (hf := ?_)
  ·
   refine .seq ?_
   refine .region rfl ?_
   refine R.assign (h := ?_)
   refine .n0 ?_
   subst h0
   refine LGo.nilSl 2 1 (h := ?_)
   exact LGo.ret (ret_T Tryz.results161 hA hmd)
  ·
   refine .skip ?_
   refine .seq ?_
   refine .region rfl ?_
   refine R.buildSliceR AP65 (xs := []) (es := []) (hcs := CellsOfs.nil) (h := ?_)
   refine R.move (h := ?_)
   refine R.appendS AP65 (hs := SrcOk.sl Tryz.underlying65 (hsz)) (hlen := by simp; omega) (h := ?_)
   refine R.assign (h := ?_)
   refine .n0 ?_
   first | refine LGo.frzT 2 (h := ?_) | refine LGo.nilSl 2 1 (h := ?_) | skip
   exact LGo.ret (ret_T Tryz.results161 hA hmd)
 ·
  refine R.nilF false (hT := Tryz.underlying65) (hne := fun _ => h0) (h := ?_)
  refine .n0 ?_
  refine LGo.ifb (ht := fun hc2 => by simp at hc2) (hf := fun hc2 => ?_)
  refine .skip ?_
  refine .seq ?_
  refine .region rfl ?_
  refine R.buildSliceR AP65 (xs := []) (es := []) (hcs := CellsOfs.nil) (h := ?_)
  refine R.move (h := ?_)
  refine R.appendS AP65 (hs := SrcOk.sl Tryz.underlying65 (hsz)) (hlen := by simp; omega) (h := ?_)
  refine R.assign (h := ?_)
  refine .n0 ?_
  first | refine LGo.frzT 2 (h := ?_) | refine LGo.nilSl 2 1 (h := ?_) | skip
  exact LGo.ret (ret_T Tryz.results161 hA hmd)

theorem clone_L (s : GtS) (hs : SmS s) : LC Tryz.prog 112 0 [.agg (s.c.map LV.sv)] [] (.agg [.sv (.sl 3 (s.gates.map GtG.c)), .ref 0]) [(0, .rs 178 5 (s.ents.map GtE.c))] 1 := by
 refine LC.of_go Tryz.func112 (c := _) rfl (by kernel_rfl) (by rw [Tryz.ntmps112]; simp) rfl rfl (by simp [LO.lt, LV.lts, LV.lt, lts_sv]) (by simp) ?_
 intro B hA hmd
 obtain ⟨⟨hg1, hg2⟩, he1, he2⟩ := hs
 refine .seq ?_
 refine .region rfl ?_
 refine R.box (h := ?_)
 refine R.alloc Z99 (h := ?_)
 refine .n0 ?_
 refine .seq ?_
 refine .region rfl ?_
 first | refine R.field F99_0 (h := ?_) | refine R.fieldAt F99_0 (h := ?_)
 first | refine R.loadB O25 (h := ?_) | refine R.load1 O25 (h := ?_)
 refine R.callX (es := [_]) [] (cloneG (s.gates.map GtG.c) (gt_ones _) (by rw [List.length_map]; exact hg1)) (h := ?_)
 first | refine R.field F99_1 (h := ?_) | refine R.fieldAt F99_1 (h := ?_)
 first | refine R.loadB O97 (h := ?_) | refine R.load1 O97 (h := ?_)
 refine R.callX (es := [_]) [] (cloneE (s.ents.map GtE.c) (ge_ones _) (by rw [List.length_map]; exact he1)) (h := ?_)
 first | refine R.field F99_0 (h := ?_) | refine R.fieldAt F99_0 (h := ?_)
 refine R.storeB O25 (h := ?_)
 first | refine R.field F99_1 (h := ?_) | refine R.fieldAt F99_1 (h := ?_)
 refine R.storeB O97 (h := ?_)
 refine Reg.nil ⟨fun _ => ⟨mixedO, by rfl, by rfl⟩, ?_⟩
 refine .seq ?_
 refine .seq ?_
 refine .region rfl ?_
 first | refine R.field F99_0 (h := ?_) | refine R.fieldAt F99_0 (h := ?_)
 first | refine R.loadB O25 (h := ?_) | refine R.load1 O25 (h := ?_)
 first | refine R.len S25 (h := ?_) | refine R.lenRs S25 (h := ?_) | refine R.lenV (run_lenNil S25) (h := ?_)
 rw [List.length_map]
 refine R.move (h := ?_)
 refine .n0 ?_
 refine .block ?_
 refine .loop ?_
 refine LGo.loopG (σ := Nat) (fun x => x ≤ s.gates.length) (fun x => [(15, (true, .i (x : Nat)))]) (fun x => [(0, .box 99 [.ref 2, .ref 3]), (1, .box 99 [.v (.slice none 0 0), .v (.slice none 0 0)]), (2, .rs 71 3 (s.gates.map GtG.c)), (3, .rs 178 5 (s.ents.map GtE.c))]) (fun x => s.gates.length - x) (0) [(1, _), (2, _), (14, _)] (Nat.zero_le _) (by repeat (first | exact trivial | refine ⟨rfl, ?_⟩)) (by repeat (first | exact trivial | refine ⟨rfl, ?_⟩)) (by repeat (first | exact trivial | refine ⟨rfl, ?_⟩)) ?_
 rintro k hk ih
 refine .seq ?_
 refine .region rfl ?_
 refine R.bin (run_lss _ _ _ _ _ _) (h := ?_)
 refine .n0 ?_
 refine .seq ?_
 refine LGo.ifd (ht := fun hc => ?_) (hf := fun hc => ?_)
 ·
  have hlt : k < s.gates.length := by omega
  have hx0 : s.gates[k]? = some s.gates[k] := List.getElem?_eq_getElem hlt
  have hx : (s.gates.map GtG.c)[k]? = some s.gates[k].c := by simp [hlt]
  have hsl := hg2 s.gates[k] (List.getElem_mem hlt)
  generalize s.gates[k] = g at hx hx0 hsl
  refine .skip ?_
  refine .seq ?_
  refine .block ?_
  refine .seq ?_
  refine .region rfl ?_
  refine R.move (h := ?_)
  refine R.assign (h := ?_)
  refine .n0 ?_
  refine .region rfl ?_
  first | refine R.field F99_0 (h := ?_) | refine R.fieldAt F99_0 (h := ?_)
  first | refine R.loadB O25 (h := ?_) | refine R.load1 O25 (h := ?_)
  refine R.move (h := ?_)
  first | refine R.field F99_0 (h := ?_) | refine R.fieldAt F99_0 (h := ?_)
  first | refine R.loadB O25 (h := ?_) | refine R.load1 O25 (h := ?_)
  refine R.move (h := ?_)
  refine R.indexRs I25 (hj := fun _ => ⟨by omega, by rw [List.length_map]; omega⟩) (h := ?_)
  first | refine R.field F71_0 (h := ?_) | refine R.fieldAt F71_0 (h := ?_)
  refine R.loadRs1 O65 k 0 (ev := g.c) (hj := fun _ => ⟨hx, rfl⟩) (h := ?_)
  refine R.callP (es := [_]) (fun _ => cloneI_P (ic .i64 g.secs) (ic_one _ _) (by rw [ic_len]; exact hsl)) (h := ?_)
  refine R.indexRs I25 (hj := fun _ => ⟨by omega, by rw [List.length_map]; omega⟩) (h := ?_)
  first | refine R.field F71_0 (h := ?_) | refine R.fieldAt F71_0 (h := ?_)
  refine R.storeRs1 O65 k 0 g.c (hj := hx) (h := ?_)
  rw [set_gate s.gates k g hx0]
  refine Reg.nil ⟨fun _ => ⟨mixedO, by rfl, by rfl⟩, ?_⟩
  refine .inBlock ?_
  refine .region rfl ?_
  first | refine R.add (h := ?_) | refine R.addW (h := ?_)
  refine R.move (h := ?_)
  refine .n0 ?_
  refine .inLoop ?_
  exact LGo.next _ (fun o h => by have := (hA o).1 h; omega) (by omega) (ih (k + 1) (by omega) (by omega)) (by repeat (first | exact trivial | refine ⟨rfl, ?_⟩)) ⟨rfl, rfl, rfl, rfl, trivial⟩
 ·
  refine LGo.pack 0 0 (h := ?_)
  refine LGo.frzBx 0 (h := ?_)
  refine .exit rfl ?_
  refine .seq ?_
  refine .region rfl ?_
  first | refine R.loadA A99 (h := ?_) | refine R.loadN A99 (h := ?_) | refine R.loadP A99 (h := ?_)
  refine R.storeA A99 (h := ?_)
  refine .n0 ?_
  exact LGo.ret (FnPost.finI [3] (res_A Tryz.results112 A99) hA hmd)

end Go.Proofs.YteccglgbkehdeaaGreatDoor
/- gates: the check of a state, New. -/
set_option linter.unusedSimpArgs false
set_option linter.unusedVariables false
namespace Go.Proofs.YteccglgbkehdeaaGreatDoor

def prevE (l : List GtE) (k : Nat) : Option GtE := if k = 0 then none else some (l.getD (k - 1) default)
theorem LC.argsW {P : Program} {f : FuncId} {m k : Nat} {lvs lvs' : List LV} {out : LV} {Hi Ho : List (Nat × LO)} (h : LC P f m lvs Hi out Ho k) (hl : LV.lts m lvs' = true) (hv : ∀ cx w vs, Vs cx w lvs' vs → Vs cx w lvs vs) : LC P f m lvs' Hi out Ho k :=
  ⟨h.entr, hl, h.rng, h.hlt, h.hos, fun cx w vs hA hH ham hvs => h.go cx w vs hA hH ham (hv cx w vs hvs)⟩
theorem vs_aggNil {cx : Cx} {w : World} {x : LV} (sz : Nat) {vs : List Value} (h : Vs cx w [.agg [x, .v (.slice none 0 0)]] vs) : Vs cx w [.agg [x, .sv (.sl sz [])]] vs := by
  simp only [Vs, V] at h ⊢
  obtain ⟨v, r, rfl, ⟨us, rfl, a, r1, rfl, h1, b, r2, rfl, h2, rfl⟩, rfl⟩ := h
  refine ⟨_, _, rfl, ⟨_, rfl, _, _, rfl, h1, _, _, rfl, ?_, rfl⟩, rfl⟩
  simp only [VS] at h2 ⊢
  exact .inl ⟨.inl h2, trivial⟩
theorem cloneN_L (l : List GtG) (hl : l.length ≤ 100000) (hs : ∀ g ∈ l, g.secs.length ≤ 100000) : LC Tryz.prog 112 0 [.agg [.sv (.sl 3 (l.map GtG.c)), .v (.slice none 0 0)]] [] (.agg [.sv (.sl 3 (l.map GtG.c)), .ref 0]) [(0, .rs 178 5 [])] 1 :=
  LC.argsW (clone_L ⟨l, []⟩ ⟨⟨hl, hs⟩, by simp, by simp⟩) (by rfl) (fun _ _ _ h => vs_aggNil 5 h)

theorem newS_P (l : List GtG) (hl : l.length ≤ 100000) (hs : ∀ g ∈ l, g.secs.length ≤ 100000) : PC Tryz.prog 48 [.sv (.sl 3 (l.map GtG.c))] (.tup [.agg ((newS l).1.c.map LV.sv), .i (newS l).2]) := by
 refine ⟨LC.of_go Tryz.func48 (c := _) rfl (by kernel_rfl) (by rw [Tryz.ntmps48]; simp) rfl rfl (by simp [LO.lt, LV.lts, LV.lt, lts_sv]) (by simp) ?_⟩
 intro B hA hmd
 obtain ⟨g, e0⟩ : ∃ g, newS l = g := ⟨_, rfl⟩
 have e1 := e0
 unfold newS at e1
 rw [e0]
 refine .seq ?_
 refine .region rfl ?_
 refine R.alloc Z99 (h := ?_)
 refine R.assign (h := ?_)
 refine .n0 ?_
 refine .seq ?_
 refine .seq ?_
 refine .region rfl ?_
 refine R.move (h := ?_)
 refine R.callP (es := [_]) (fun _ => checkG_P l hl hs) (h := ?_)
 refine R.assign (h := ?_)
 refine .n0 ?_
 refine .seq ?_
 refine .region rfl ?_
 refine R.move (h := ?_)
 refine R.bin (run_neq _ _ _ _ _ _) (h := ?_)
 refine .n0 ?_
 refine LGo.ifb (ht := fun hc => ?_) (hf := fun hc => ?_)
 ·
  rw [if_pos (by simpa using hc)] at e1
  rw [← e1]
  refine .seq ?_
  refine .region rfl ?_
  refine R.build BF99 (is := []) (xs := []) (es := []) (h := ?_)
  refine R.move (h := ?_)
  refine R.storeA A99 (h := ?_)
  refine R.assign (h := ?_)
  refine .n0 ?_
  refine LGo.packNil 0 0 71 3 (h := ?_)
  refine LGo.frzBx 0 (h := ?_)
  refine LGo.packNil 0 1 178 5 (h := ?_)
  refine LGo.frzBx 0 (h := ?_)
  exact LGo.ret (ret_AT Tryz.results48 A99 hA hmd)
 ·
  rw [if_neg (by simpa using hc)] at e1
  rw [← e1]
  refine .skip ?_
  refine .seq ?_
  refine .region rfl ?_
  refine R.move (h := ?_)
  refine R.build BF99 (is := [0]) (xs := [_]) (es := [_]) (h := ?_)
  refine R.callX (es := [_]) [] (cloneN_L l hl hs) (h := ?_)
  refine R.storeA A99 (h := ?_)
  refine R.assign (h := ?_)
  refine .n0 ?_
  refine LGo.pack 0 1 (h := ?_)
  refine LGo.frzBx 0 (h := ?_)
  exact LGo.ret (ret_AT Tryz.results48 A99 hA hmd)

end Go.Proofs.YteccglgbkehdeaaGreatDoor
/- requests, the reference: a field into a request; Needs, message, Encode, Decode. -/
set_option linter.unusedSimpArgs false
set_option linter.unusedVariables false
namespace Go.Proofs.YteccglgbkehdeaaGreatDoor

def needsR (k : Int) : Bool × Bool × Int := if wordQ k = [] then (false, false, 2) else (hasQ k 3, hasQ k 4, 0)
def msgOne (r : Rq) (u : Rule) : Fld := if u.kind = 2 then ⟨u.tag, 0, txtQ r u.tag⟩ else ⟨u.tag, uw (numQ r u.tag), []⟩
def messageR (r : Rq) : List Fld := (rulesR r.kind).1.map (msgOne r)
theorem needsR_P (kd : Int) : PC Tryz.prog 149 [.i kd] (.tup [.b (needsR kd).1, .b (needsR kd).2.1, .i (needsR kd).2.2]) := by
 refine ⟨LC.of_go Tryz.func149 (c := _) rfl (by kernel_rfl) (by rw [Tryz.ntmps149]; simp) rfl rfl (by simp [LO.lt, LV.lts, LV.lt, lts_sv]) (by simp) ?_⟩
 intro B hA hmd
 obtain ⟨g, e0⟩ : ∃ g, needsR kd = g := ⟨_, rfl⟩
 have e1 := e0
 unfold needsR at e1
 rw [e0]
 refine .seq ?_
 refine .region rfl ?_
 refine R.assign (h := ?_)
 refine R.assign (h := ?_)
 refine R.assign (h := ?_)
 refine .n0 ?_
 refine .seq ?_
 refine .seq ?_
 refine .region rfl ?_
 refine R.move (h := ?_)
 refine R.callP (es := [_]) (fun _ => wordQ_P kd) (h := ?_)
 refine R.bin (run_eqlT _ _ _ _ _) (h := ?_)
 refine .n0 ?_
 first | refine LGo.ifd (ht := fun hc => ?_) (hf := fun hc => ?_) | refine LGo.ifb (ht := fun hc => ?_) (hf := fun hc => ?_)
 ·
  rw [if_pos hc] at e1
  refine .seq ?_
  refine .region rfl ?_
  refine R.assign (h := ?_)
  refine R.assign (h := ?_)
  refine R.assign (h := ?_)
  refine .n0 ?_
  rw [← e1]
  exact LGo.ret (ret_TTT Tryz.results149 hA hmd)
 ·
  rw [if_neg hc] at e1
  refine .skip ?_
  refine .seq ?_
  refine .region rfl ?_
  refine R.move (h := ?_)
  refine R.callP (es := [_, _]) (fun _ => hasQ_P kd _) (h := ?_)
  refine R.move (h := ?_)
  refine R.callP (es := [_, _]) (fun _ => hasQ_P kd _) (h := ?_)
  refine R.assign (h := ?_)
  refine R.assign (h := ?_)
  refine R.assign (h := ?_)
  refine .n0 ?_
  rw [← e1]
  exact LGo.ret (ret_TTT Tryz.results149 hA hmd)

def encR9 (r : Rq) : List UInt8 × Int := if (!decide (refCheckQ r = 0)) = true then ([], refCheckQ r) else (byt r.kind :: encBy (rulesR r.kind).1 (messageR r), 0)

end Go.Proofs.YteccglgbkehdeaaGreatDoor
/- gates, the reference: the checks, New. -/
set_option linter.unusedSimpArgs false
set_option linter.unusedVariables false
namespace Go.Proofs.YteccglgbkehdeaaGreatDoor

def lastI (l : List Int) (k : Nat) : Int := if k = 0 then -1 else l.getD (k - 1) 0
theorem lastI_succ {l : List Int} {k : Nat} (h : k < l.length) : lastI l (k + 1) = l[k] := by unfold lastI; rw [if_neg (by omega)]; simp [h]
theorem goodG_not {z : GtG} (h : ((decide ((z.secs.length : Int) = 0) || decide (z.fr < 0)) || decide (z.fr ≥ z.to)) = true) : goodG z = false := by
  rw [goodG_fin]
  simp only [Bool.or_eq_true, decide_eq_true_eq] at h
  rcases h with (h | h) | h
  · have : z.secs = [] := List.length_eq_zero_iff.1 (by omega)
    rw [this]; rfl
  · cases goodGo z.secs (-1) with
    | none => rfl
    | some a => unfold finG; rw [decide_eq_false (show ¬ 0 ≤ z.fr by omega)]; simp
  · cases goodGo z.secs (-1) with
    | none => rfl
    | some a => unfold finG; rw [decide_eq_false (show ¬ z.fr < z.to by omega)]; simp
theorem good_ref {l : List Int} {k : Nat} {n : Int} (h : 0 < k → 0 ≤ lastI l k) : (decide (n ≤ lastI l k) || decide (8 ≤ n)) = ((decide (n < 0) || decide (n ≥ 8)) || (decide ((k : Int) > 0) && decide (n ≤ l.getD (k - 1) 0))) := by
  rw [Bool.eq_iff_iff]
  simp only [Bool.or_eq_true, Bool.and_eq_true, decide_eq_true_eq]
  unfold lastI at h ⊢
  by_cases h0 : k = 0
  · subst h0; simp; omega
  · rw [if_neg h0] at h ⊢
    have := h (by omega)
    omega
theorem ic_prev {l : List Int} {k : Nat} (h : 0 < k) (hk : k ≤ l.length) : (ic .i64 l)[((k : Int) - 1).toNat]? = some [.val (.int .i64 (l.getD (k - 1) 0))] := by
  have hlt : k - 1 < l.length := by omega
  rw [show ((k : Int) - 1).toNat = k - 1 from by omega, List.getD_eq_getElem?_getD, List.getElem?_eq_getElem hlt]
  exact ic_get (List.getElem?_eq_getElem hlt)
def ltR (a b : GtE) : Bool := if (!decide (a.seat = b.seat)) = true then decide (a.seat < b.seat) else if (!decide (a.epoch = b.epoch)) = true then decide (a.epoch < b.epoch) else decide (a.serial < b.serial)
theorem goodR_P (z : GtG) (hz : z.secs.length ≤ 100000) : PC Tryz.prog 191 [.agg (z.c.map LV.sv)] (.b (goodG z)) := by
 refine ⟨LC.of_go Tryz.func191 (c := _) rfl (by kernel_rfl) (by rw [Tryz.ntmps191]; simp) rfl rfl (by simp [LO.lt, LV.lts, LV.lt, lts_sv]) (by simp) ?_⟩
 intro B hA hmd
 obtain ⟨g, e0⟩ : ∃ g, goodG z = g := ⟨_, rfl⟩
 have e1 := e0
 rw [goodG_fin] at e1
 rw [e0]
 refine .seq ?_
 refine .region rfl ?_
 refine R.box (h := ?_)
 refine R.assign (h := ?_)
 refine .n0 ?_
 refine .seq ?_
 refine .seq ?_
 refine .region rfl ?_
 first | refine R.field F71_0 (h := ?_) | refine R.fieldAt F71_0 (h := ?_)
 first | refine R.loadB O65 (h := ?_) | refine R.load1 O65 (h := ?_)
 first | refine R.len S65 (h := ?_) | refine R.lenRs S65 (h := ?_) | refine R.lenV (run_lenNil S65) (h := ?_)
 rw [ic_len]
 refine R.bin (run_eql _ _ _ _ _ _) (h := ?_)
 refine R.move (h := ?_)
 first | refine R.field F71_1 (h := ?_) | refine R.fieldAt F71_1 (h := ?_)
 first | refine R.loadB O2 (h := ?_) | refine R.load1 O2 (h := ?_)
 refine R.bin (run_lss _ _ _ _ _ _) (h := ?_)
 refine R.or (h := ?_)
 refine R.move (h := ?_)
 first | refine R.field F71_1 (h := ?_) | refine R.fieldAt F71_1 (h := ?_)
 first | refine R.loadB O2 (h := ?_) | refine R.load1 O2 (h := ?_)
 first | refine R.field F71_2 (h := ?_) | refine R.fieldAt F71_2 (h := ?_)
 first | refine R.loadB O2 (h := ?_) | refine R.load1 O2 (h := ?_)
 refine R.bin (run_geq _ _ _ _ _ _) (h := ?_)
 refine R.or (h := ?_)
 refine .n0 ?_
 refine LGo.ifb (ht := fun hc => ?_) (hf := fun hc => ?_)
 ·
  rw [goodG_not hc] at e0
  rw [← e0]
  refine .seq ?_
  refine .region rfl ?_
  refine R.assign (h := ?_)
  refine .n0 ?_
  exact LGo.ret (ret_T Tryz.results191 hA hmd)
 ·
  simp only [Bool.or_eq_false_iff, decide_eq_false_iff_not] at hc
  refine .skip ?_
  refine .seq ?_
  refine .seq ?_
  refine .region rfl ?_
  refine R.assign (h := ?_)
  refine .n0 ?_
  refine .block ?_
  refine .loop ?_
  refine LGo.loopG (σ := Nat) (fun x => x ≤ z.secs.length ∧ (0 < x → 0 ≤ lastI z.secs x) ∧ finG z (goodGo (z.secs.drop x) (lastI z.secs x)) = g) (fun x => [(3, (true, .i (x : Nat)))]) (fun x => [(0, .box 71 (z.c.map LV.sv))]) (fun x => z.secs.length - x) (0) [(1, _)] ⟨Nat.zero_le _, fun h => absurd h (by omega), e1⟩ (by repeat (first | exact trivial | refine ⟨rfl, ?_⟩)) (by repeat (first | exact trivial | refine ⟨rfl, ?_⟩)) (by repeat (first | exact trivial | refine ⟨rfl, ?_⟩)) ?_
  rintro k ⟨hk, hl0, hq⟩ ih
  refine .seq ?_
  refine .seq ?_
  refine .region rfl ?_
  refine R.move (h := ?_)
  first | refine R.field F71_0 (h := ?_) | refine R.fieldAt F71_0 (h := ?_)
  first | refine R.loadB O65 (h := ?_) | refine R.load1 O65 (h := ?_)
  first | refine R.len S65 (h := ?_) | refine R.lenRs S65 (h := ?_) | refine R.lenV (run_lenNil S65) (h := ?_)
  rw [ic_len]
  refine R.bin (run_lss _ _ _ _ _ _) (h := ?_)
  refine .n0 ?_
  refine LGo.ifd (ht := fun hc2 => ?_) (hf := fun hc2 => ?_)
  ·
   have hlt : k < z.secs.length := by omega
   have hx := icA hlt
   have hls := lastI_succ hlt
   have hd : z.secs.drop k = z.secs[k] :: z.secs.drop (k + 1) := List.drop_eq_getElem_cons hlt
   rw [hd, goodGo, good_ref hl0] at hq
   generalize z.secs[k] = n at hx hq hls
   clear hd
   refine .skip ?_
   refine .seq ?_
   refine .block ?_
   refine .seq ?_
   refine .region rfl ?_
   first | refine R.field F71_0 (h := ?_) | refine R.fieldAt F71_0 (h := ?_)
   first | refine R.loadB O65 (h := ?_) | refine R.load1 O65 (h := ?_)
   refine R.move (h := ?_)
   refine R.index I65 (hj := fun hg => ⟨by omega, hx⟩) (h := ?_)
   first | refine R.loadB O3 (h := ?_) | refine R.load1 O3 (h := ?_)
   refine R.assign (h := ?_)
   refine .n0 ?_
   refine .seq ?_
   refine .region rfl ?_
   refine R.move (h := ?_)
   refine R.bin (run_lss _ _ _ _ _ _) (h := ?_)
   refine R.move (h := ?_)
   refine R.move (h := ?_)
   refine R.bin (run_geq _ _ _ _ _ _) (h := ?_)
   refine R.or (h := ?_)
   refine R.move (h := ?_)
   refine R.move (h := ?_)
   refine R.bin (run_gtr _ _ _ _ _ _) (h := ?_)
   refine R.move (h := ?_)
   refine R.move (h := ?_)
   first | refine R.field F71_0 (h := ?_) | refine R.fieldAt F71_0 (h := ?_)
   first | refine R.loadB O65 (h := ?_) | refine R.load1 O65 (h := ?_)
   refine R.move (h := ?_)
   first | refine R.sub (h := ?_) | refine R.subW (h := ?_)
   refine R.index I65 (hj := fun hg => ⟨by (simp at hg; omega), (by simp at hg; exact ic_prev (by omega) (by omega))⟩) (h := ?_)
   first | refine R.loadB O3 (h := ?_) | refine R.load1 O3 (h := ?_)
   refine R.bin (run_leq _ _ _ _ _ _) (h := ?_)
   refine R.and (hgy := fun hg h => by rw [h, hg]; rfl) (h := ?_)
   refine R.or (h := ?_)
   refine .n0 ?_
   refine LGo.ifb (ht := fun hc3 => ?_) (hf := fun hc3 => ?_)
   ·
    rw [hc3, if_pos rfl] at hq
    rw [← hq]
    rw [show finG z none = false from rfl]
    refine .seq ?_
    refine .region rfl ?_
    refine R.assign (h := ?_)
    refine .n0 ?_
    exact LGo.ret (ret_T Tryz.results191 hA hmd)
   ·
    rw [hc3, if_neg (by simp), ← hls] at hq
    simp only [Bool.or_eq_false_iff, decide_eq_false_iff_not] at hc3
    refine .skip ?_
    refine .inBlock ?_
    refine .region rfl ?_
    refine R.move (h := ?_)
    first | refine R.add (h := ?_) | refine R.addW (h := ?_)
    refine R.assign (h := ?_)
    refine .n0 ?_
    refine .inLoop ?_
    exact LGo.next _ (fun o h => by have := (hA o).1 h; omega) (by omega) (ih (k + 1) ⟨by omega, fun _ => by omega, hq⟩ (by omega)) (by repeat (first | exact trivial | refine ⟨rfl, ?_⟩)) ⟨rfl, trivial⟩
  ·
   rw [List.drop_eq_nil_of_le (show z.secs.length ≤ k by omega), goodGo] at hq
   have hl1 := hl0 (by omega)
   rw [finG, decide_eq_true hl1, decide_eq_true (show 0 ≤ z.fr by omega), decide_eq_true (show z.fr < z.to by omega)] at hq
   rw [← hq]
   rw [show ((true && true) && true) = true from rfl]
   refine .exit rfl ?_
   refine .seq ?_
   refine .region rfl ?_
   refine R.assign (h := ?_)
   refine .n0 ?_
   exact LGo.ret (ret_T Tryz.results191 hA hmd)

theorem gatesR_P (l : List GtG) (hl : l.length ≤ 100000) (hs : ∀ g ∈ l, g.secs.length ≤ 100000) : PC Tryz.prog 124 [.sv (.sl 3 (l.map GtG.c))] (.i (checkG l)) := by
 refine ⟨LC.of_go Tryz.func124 (c := _) rfl (by kernel_rfl) (by rw [Tryz.ntmps124]; simp) rfl rfl (by simp [LO.lt, LV.lts, LV.lt, lts_sv]) (by simp) ?_⟩
 intro B hA hmd
 obtain ⟨g, e0⟩ : ∃ g, checkG l = g := ⟨_, rfl⟩
 have e1 := e0
 unfold checkG at e1
 rw [e0]
 refine .seq ?_
 refine .region rfl ?_
 refine R.assign (h := ?_)
 refine .n0 ?_
 refine .seq ?_
 refine .seq ?_
 refine .region rfl ?_
 refine R.move (h := ?_)
 first | refine R.len S25 (h := ?_) | refine R.lenRs S25 (h := ?_) | refine R.lenV (run_lenNil S25) (h := ?_)
 rw [List.length_map]
 refine R.bin (run_gtr _ _ _ _ _ _) (h := ?_)
 refine .n0 ?_
 refine LGo.ifd (ht := fun hc => ?_) (hf := fun hc => ?_)
 ·
  rw [if_pos (by omega)] at e1
  rw [← e1]
  refine .seq ?_
  refine .region rfl ?_
  refine R.assign (h := ?_)
  refine .n0 ?_
  exact LGo.ret (ret_T Tryz.results124 hA hmd)
 ·
  rw [if_neg (by omega)] at e1
  refine .skip ?_
  refine .seq ?_
  refine .seq ?_
  refine .region rfl ?_
  refine R.move (h := ?_)
  first | refine R.len S25 (h := ?_) | refine R.lenRs S25 (h := ?_) | refine R.lenV (run_lenNil S25) (h := ?_)
  rw [List.length_map]
  refine R.bin (run_eql _ _ _ _ _ _) (h := ?_)
  refine .n0 ?_
  refine LGo.ifd (ht := fun hc2 => ?_) (hf := fun hc2 => ?_)
  ·
   rw [decide_eq_true hc2, Bool.true_or, if_pos rfl] at e1
   rw [← e1]
   refine .seq ?_
   refine .region rfl ?_
   refine R.assign (h := ?_)
   refine .n0 ?_
   exact LGo.ret (ret_T Tryz.results124 hA hmd)
  ·
   rw [decide_eq_false hc2, Bool.false_or] at e1
   refine .skip ?_
   refine .seq ?_
   refine .seq ?_
   refine .region rfl ?_
   refine R.assign (h := ?_)
   refine .n0 ?_
   refine .block ?_
   refine .loop ?_
   refine LGo.loopG (σ := Nat) (fun x => x ≤ l.length ∧ (if ((l.drop x).any fun g => !goodG g) = true then (6 : Int) else 0) = g) (fun x => [(3, (true, .i (x : Nat)))]) (fun x => []) (fun x => l.length - x) (0) [(0, _)] ⟨Nat.zero_le _, e1⟩ (by repeat (first | exact trivial | refine ⟨rfl, ?_⟩)) (by repeat (first | exact trivial | refine ⟨rfl, ?_⟩)) (by repeat (first | exact trivial | refine ⟨rfl, ?_⟩)) ?_
   rintro k ⟨hk, hq⟩ ih
   refine .seq ?_
   refine .seq ?_
   refine .region rfl ?_
   refine R.move (h := ?_)
   refine R.move (h := ?_)
   first | refine R.len S25 (h := ?_) | refine R.lenRs S25 (h := ?_) | refine R.lenV (run_lenNil S25) (h := ?_)
   rw [List.length_map]
   refine R.bin (run_lss _ _ _ _ _ _) (h := ?_)
   refine .n0 ?_
   refine LGo.ifd (ht := fun hc3 => ?_) (hf := fun hc3 => ?_)
   ·
    have hlt : k < l.length := by omega
    have hx : (l.map GtG.c)[((k : Nat) : Int).toNat]? = some l[k].c := by simp [hlt]
    have hd : l.drop k = l[k] :: l.drop (k + 1) := List.drop_eq_getElem_cons hlt
    rw [hd, List.any_cons] at hq
    have hx0 := hs l[k] (List.getElem_mem hlt)
    generalize l[k] = x at hx hq hx0
    clear hd
    refine .skip ?_
    refine .seq ?_
    refine .block ?_
    refine .seq ?_
    refine .region rfl ?_
    refine R.move (h := ?_)
    refine R.move (h := ?_)
    refine R.index I25 (hj := fun hg => ⟨by omega, hx⟩) (h := ?_)
    first | refine R.loadA A71 (h := ?_) | refine R.loadN A71 (h := ?_) | refine R.loadP A71 (h := ?_)
    refine R.callP (es := [_]) (fun _ => goodR_P x hx0) (h := ?_)
    refine R.not (h := ?_)
    refine .n0 ?_
    refine LGo.ifb (ht := fun hc4 => ?_) (hf := fun hc4 => ?_)
    ·
     rw [hc4, Bool.true_or, if_pos rfl] at hq
     rw [← hq]
     refine .seq ?_
     refine .region rfl ?_
     refine R.assign (h := ?_)
     refine .n0 ?_
     exact LGo.ret (ret_T Tryz.results124 hA hmd)
    ·
     rw [hc4, Bool.false_or] at hq
     refine .skip ?_
     refine .inBlock ?_
     refine .region rfl ?_
     refine R.move (h := ?_)
     first | refine R.add (h := ?_) | refine R.addW (h := ?_)
     refine R.assign (h := ?_)
     refine .n0 ?_
     refine .inLoop ?_
     exact LGo.next _ (fun o h => by have := (hA o).1 h; omega) (by omega) (ih (k + 1) ⟨by omega, hq⟩ (by omega)) (by repeat (first | exact trivial | refine ⟨rfl, ?_⟩)) (by repeat (first | exact trivial | refine ⟨rfl, ?_⟩))
   ·
    rw [List.drop_eq_nil_of_le (show l.length ≤ k by omega), List.any_nil] at hq
    rw [← hq]
    refine .exit rfl ?_
    refine .seq ?_
    refine .region rfl ?_
    refine R.assign (h := ?_)
    refine .n0 ?_
    exact LGo.ret (ret_T Tryz.results124 hA hmd)

end Go.Proofs.YteccglgbkehdeaaGreatDoor
/- gates, the reference: what is in a list, Find, Count, Copy, New; equal states, equal errors. -/
set_option linter.unusedSimpArgs false
set_option linter.unusedVariables false
namespace Go.Proofs.YteccglgbkehdeaaGreatDoor

def tkC (a o b e : Int) : List LV := [.v (.int .u32 a), .v (.int .u32 o), .v (.int .u64 b), .v (.int .u64 e)]

theorem copyR_P (s : GtS) (hs : SmS s) : PC Tryz.prog 125 [.agg (s.c.map LV.sv)] (.agg (s.c.map LV.sv)) := by
 refine ⟨LC.of_go Tryz.func125 (c := _) rfl (by kernel_rfl) (by rw [Tryz.ntmps125]; simp) rfl rfl (by simp [LO.lt, LV.lts, LV.lt, lts_sv]) (by simp) ?_⟩
 intro B hA hmd
 obtain ⟨⟨hg1, hg2⟩, he1, he2⟩ := id hs
 refine .seq ?_
 refine .region rfl ?_
 refine R.box (h := ?_)
 refine R.alloc Z99 (h := ?_)
 refine .n0 ?_
 refine .seq ?_
 refine .region rfl ?_
 refine R.alloc Z99 (h := ?_)
 refine .n0 ?_
 refine .seq ?_
 refine .seq ?_
 refine .region rfl ?_
 refine R.assign (h := ?_)
 refine .n0 ?_
 refine .block ?_
 refine .loop ?_
 refine LGo.packNil 2 0 71 3 (h := ?_)
 refine LGo.loopG (σ := Nat) (fun x => x ≤ s.gates.length) (fun x => [(4, (true, .i (x : Nat)))]) (fun x => [(0, .box 99 (s.c.map LV.sv)), (1, .box 99 [.v (.slice none 0 0), .v (.slice none 0 0)]), (2, .bx 99 [.v undef, .v (.slice none 0 0)] 0 71 3 ((s.gates.take x).map GtG.c))]) (fun x => s.gates.length - x) (0) [(1, _), (2, _), (3, _)] (Nat.zero_le _) (by repeat (first | exact trivial | refine ⟨rfl, ?_⟩)) (by repeat (first | exact trivial | refine ⟨rfl, ?_⟩)) (by repeat (first | exact trivial | refine ⟨rfl, ?_⟩)) ?_
 rintro k hk ih
 refine .seq ?_
 refine .seq ?_
 refine .region rfl ?_
 refine R.move (h := ?_)
 first | refine R.field F99_0 (h := ?_) | refine R.fieldAt F99_0 (h := ?_)
 first | refine R.loadB O25 (h := ?_) | refine R.load1 O25 (h := ?_)
 first | refine R.len S25 (h := ?_) | refine R.lenRs S25 (h := ?_) | refine R.lenV (run_lenNil S25) (h := ?_)
 rw [List.length_map]
 refine R.bin (run_lss _ _ _ _ _ _) (h := ?_)
 refine .n0 ?_
 refine LGo.ifd (ht := fun hc => ?_) (hf := fun hc => ?_)
 ·
  refine LGo.unpack 2 (h := ?_)
  have hlt : k < s.gates.length := by omega
  have hx : (s.gates.map GtG.c)[((k : Nat) : Int).toNat]? = some s.gates[k].c := by simp [hlt]
  have hd : s.gates.drop k = s.gates[k] :: s.gates.drop (k + 1) := List.drop_eq_getElem_cons hlt
  have hsl := hg2 s.gates[k] (List.getElem_mem hlt)
  have htk : s.gates.take (k + 1) = s.gates.take k ++ [s.gates[k]] := List.take_succ_eq_append_getElem hlt
  generalize s.gates[k] = z at hx hsl htk
  clear hd
  refine .skip ?_
  refine .seq ?_
  refine .block ?_
  refine .seq ?_
  refine .region rfl ?_
  first | refine R.field F99_0 (h := ?_) | refine R.fieldAt F99_0 (h := ?_)
  first | refine R.loadB O25 (h := ?_) | refine R.load1 O25 (h := ?_)
  refine R.move (h := ?_)
  refine R.index I25 (hj := fun hg => ⟨by omega, hx⟩) (h := ?_)
  first | refine R.loadA A71 (h := ?_) | refine R.loadN A71 (h := ?_) | refine R.loadP A71 (h := ?_)
  refine R.alloc Z71 (h := ?_)
  refine R.storeA A71 (h := ?_)
  refine .n0 ?_
  refine .seq ?_
  refine .region rfl ?_
  refine R.buildSliceR AP65 (xs := []) (es := []) (hcs := CellsOfs.nil) (h := ?_)
  first | refine R.field F71_0 (h := ?_) | refine R.fieldAt F71_0 (h := ?_)
  first | refine R.loadB O65 (h := ?_) | refine R.load1 O65 (h := ?_)
  refine R.appendS AP65 (hs := SrcOk.sl Tryz.underlying65 (ic_one _ _)) (hlen := by rw [ic_len]; simp; omega) (h := ?_)
  first | refine R.field F71_0 (h := ?_) | refine R.fieldAt F71_0 (h := ?_)
  refine R.storeB O65 (h := ?_)
  refine .n0 ?_
  refine LGo.pack 4 0 (h := ?_)
  refine LGo.frzBx 4 (h := ?_)
  refine .region rfl ?_
  first | refine R.field F99_0 (h := ?_) | refine R.fieldAt F99_0 (h := ?_)
  first | refine R.loadB O25 (h := ?_) | refine R.load1 O25 (h := ?_)
  first | refine R.loadA A71 (h := ?_) | refine R.loadN A71 (h := ?_) | refine R.loadP A71 (h := ?_)
  refine R.buildSliceG AP25 (xs := [_]) (es := [_]) (hcs := CellsOfs.cons (CellsOf.agg rfl) CellsOfs.nil) (h := ?_)
  refine R.appendS AP25 (hs := SrcOk.sl Tryz.underlying25 (by simp; rfl)) (hlen := by simp; omega) (h := ?_)
  first | refine R.field F99_0 (h := ?_) | refine R.fieldAt F99_0 (h := ?_)
  refine R.storeB O25 (h := ?_)
  refine .n0 ?_
  refine .inBlock ?_
  refine .region rfl ?_
  refine R.move (h := ?_)
  first | refine R.add (h := ?_) | refine R.addW (h := ?_)
  refine R.assign (h := ?_)
  refine .n0 ?_
  refine .inLoop ?_
  refine LGo.pack 2 0 (h := ?_)
  exact LGo.next _ (fun o h => by have := (hA o).1 h; omega) (by omega) (ih (k + 1) hlt (by omega)) (by repeat (first | exact trivial | refine ⟨rfl, ?_⟩)) ⟨rfl, rfl, by rw [htk, List.map_append]; rfl, trivial⟩
 ·
  obtain rfl : k = s.gates.length := by omega
  rw [List.take_length]
  refine LGo.frzBx 2 (h := ?_)
  refine .exit rfl ?_
  refine .seq ?_
  refine .region rfl ?_
  refine R.buildSliceR AP97 (xs := []) (es := []) (hcs := CellsOfs.nil) (h := ?_)
  first | refine R.field F99_1 (h := ?_) | refine R.fieldAt F99_1 (h := ?_)
  first | refine R.loadB O97 (h := ?_) | refine R.load1 O97 (h := ?_)
  refine R.appendS AP97 (hs := SrcOk.sl Tryz.underlying97 (ge_ones _)) (hlen := by rw [List.length_map]; simp; omega) (h := ?_)
  first | refine R.field F99_1 (h := ?_) | refine R.fieldAt F99_1 (h := ?_)
  refine R.storeB O97 (h := ?_)
  refine .n0 ?_
  refine LGo.pack 2 1 (h := ?_)
  refine LGo.frzBx 2 (h := ?_)
  refine .seq ?_
  refine .region rfl ?_
  first | refine R.loadA A99 (h := ?_) | refine R.loadN A99 (h := ?_) | refine R.loadP A99 (h := ?_)
  refine R.storeA A99 (h := ?_)
  refine .n0 ?_
  exact LGo.ret (ret_A Tryz.results125 A99 hA hmd)

end Go.Proofs.YteccglgbkehdeaaGreatDoor
/- gates, the reference: New, Enter, Play; equal states, equal errors. -/
set_option linter.unusedSimpArgs false
set_option linter.unusedVariables false
namespace Go.Proofs.YteccglgbkehdeaaGreatDoor

def SortK (l : List GtE) : Prop := l.Pairwise fun x y => ltK x.key y.key
/-- no two entries have one key -/
def DistK (l : List GtE) : Prop := l.Pairwise fun x y => x.key ≠ y.key
def sortE (l : List GtE) : List GtE := l.foldl (fun a x => insE x a) []
/-! the check -/
/-- an entry that lies as0 it must -/
def okE (gs : List GtG) (x : GtE) : Prop := 0 ≤ x.gate ∧ x.gate < gs.length ∧ openI (gs.getD x.gate.toNat default) x.time = 0
/-! calls in a row -/
def stepD (gs : List GtG) (es : List GtE) (c : GtC) : List GtE := if refuse gs es c = 0 then es ++ [c.ent] else es
def playD (gs : List GtG) : List GtE → List GtC → List GtE × List Int
  | es, [] => (es, [])
  | es, c :: l => ((playD gs (stepD gs es c) l).1, refuse gs es c :: (playD gs (stepD gs es c) l).2)
def playS (s : GtS) (l : List GtC) : GtS × List Int × Int := if checkGS s ≠ 0 then (GtS.zero, [], checkGS s) else if 1000 < (l.length : Int) then (GtS.zero, [], 3) else (⟨s.gates, sortE (playD s.gates s.ents l).1⟩, (playD s.gates s.ents l).2, 0)
def playR (gs : List GtG) : List GtE → List GtC → List GtE × List Int
  | es, [] => (es, [])
  | es, c :: l =>
    if (enterS ⟨gs, es⟩ c).2 = 0 then ((playR gs (enterS ⟨gs, es⟩ c).1.ents l).1, (enterS ⟨gs, es⟩ c).2 :: (playR gs (enterS ⟨gs, es⟩ c).1.ents l).2)
    else ((playR gs es l).1, (enterS ⟨gs, es⟩ c).2 :: (playR gs es l).2)
/-! the laws -/
/-- the calls that were answered 0 -/
def goodC (gs : List GtG) : List GtE → List GtC → List GtC
  | _, [] => []
  | es, c :: l => if refuse gs es c = 0 then c :: goodC gs (stepD gs es c) l else goodC gs (stepD gs es c) l
/-- what makes a call good, but for the others -/
def goodP (gs : List GtG) (c : GtC) : Prop := 0 ≤ c.gate ∧ c.gate < gs.length ∧ c.sec ∈ (gs.getD c.gate.toNat default).secs ∧ openI (gs.getD c.gate.toNat default) c.now = 0
theorem copyN_P (l : List GtG) (hl : l.length ≤ 100000) (hs : ∀ g ∈ l, g.secs.length ≤ 100000) : PC Tryz.prog 125 [.agg [.sv (.sl 3 (l.map GtG.c)), .v (.slice none 0 0)]] (.agg ((GtS.mk l []).c.map LV.sv)) :=
  PC.args (copyR_P ⟨l, []⟩ ⟨⟨hl, hs⟩, by simp, by simp⟩) (by rfl) (fun _ _ _ h => vs_aggNil 5 h)

theorem newR_P (l : List GtG) (hl : l.length ≤ 100000) (hs : ∀ g ∈ l, g.secs.length ≤ 100000) : PC Tryz.prog 58 [.sv (.sl 3 (l.map GtG.c))] (.tup [.agg ((newS l).1.c.map LV.sv), .i (newS l).2]) := by
 refine ⟨LC.of_go Tryz.func58 (c := _) rfl (by kernel_rfl) (by rw [Tryz.ntmps58]; simp) rfl rfl (by simp [LO.lt, LV.lts, LV.lt, lts_sv]) (by simp) ?_⟩
 intro B hA hmd
 obtain ⟨g, e0⟩ : ∃ g, newS l = g := ⟨_, rfl⟩
 have e1 := e0
 unfold newS at e1
 rw [e0]
 refine .seq ?_
 refine .region rfl ?_
 refine R.alloc Z99 (h := ?_)
 refine R.assign (h := ?_)
 refine .n0 ?_
 refine .seq ?_
 refine .region rfl ?_
 refine R.move (h := ?_)
 refine R.callP (es := [_]) (fun _ => gatesR_P l hl hs) (h := ?_)
 refine R.assign (h := ?_)
 refine .n0 ?_
 refine .seq ?_
 refine .seq ?_
 refine .region rfl ?_
 refine R.move (h := ?_)
 refine R.bin (run_neq _ _ _ _ _ _) (h := ?_)
 refine .n0 ?_
 refine LGo.ifb (ht := fun hc => ?_) (hf := fun hc => ?_)
 ·
  rw [if_pos (by simpa using hc)] at e1
  rw [← e1]
  refine .seq ?_
  refine .region rfl ?_
  refine R.build BF99 (is := []) (xs := []) (es := []) (h := ?_)
  refine R.move (h := ?_)
  refine R.storeA A99 (h := ?_)
  refine R.assign (h := ?_)
  refine .n0 ?_
  refine LGo.packNil 0 0 71 3 (h := ?_)
  refine LGo.frzBx 0 (h := ?_)
  refine LGo.packNil 0 1 178 5 (h := ?_)
  refine LGo.frzBx 0 (h := ?_)
  exact LGo.ret (ret_AT Tryz.results58 A99 hA hmd)
 ·
  rw [if_neg (by simpa using hc)] at e1
  rw [← e1]
  refine .skip ?_
  refine .seq ?_
  refine .region rfl ?_
  refine R.move (h := ?_)
  refine R.build BF99 (is := [0]) (xs := [_]) (es := [_]) (h := ?_)
  refine R.callP (es := [_]) (fun _ => copyN_P l hl hs) (h := ?_)
  refine R.storeA A99 (h := ?_)
  refine R.assign (h := ?_)
  refine .n0 ?_
  exact LGo.ret (ret_AT Tryz.results58 A99 hA hmd)

/-- how many entries are before x -/
def posE (x : GtE) : List GtE → Nat
  | [] => 0
  | y :: l => if cmpK y.key x.key < 0 then posE x l + 1 else 0
def finE (s : GtS) (c : GtC) (r : Int) : GtS × Int := if r ≠ 0 then (GtS.zero, r) else (⟨s.gates, insE c.ent s.ents⟩, 0)
end Go.Proofs.YteccglgbkehdeaaGreatDoor
/- What the package-level tables hold, and a start that meets the condition. -/
set_option linter.unusedSimpArgs false
set_option linter.unusedVariables false
namespace Go.Proofs.YteccglgbkehdeaaGreatDoor
open Go.ChangeShapes Go.WideShapes Go.Deep Go.RowKit Go.ChangeAt

def dlaid : List (String × DataW Unit) := [("math/bits.deBruijn32tab", Rows.laid_math_bits_deBruijn32tab), ("math/bits.deBruijn64tab", Rows.laid_math_bits_deBruijn64tab), ("internal/strconv.uint64pow10", Rows.laid_internal_strconv_uint64pow10), ("unicode/utf8.acceptRanges", Rows.laid_unicode_utf8_acceptRanges), ("groundling/requests.masks", Rows.laid_groundling_requests_masks), ("unicode/utf8.first", Rows.laid_unicode_utf8_first)]
theorem own : ownKnob Tryz.prog.godebug = none := by kernel_rfl
theorem door_met (os : Os) (args : Array Value) : laidMetH Tryz.prog dlaid ((World.laidAll Tryz.prog os dlaid).forCall (fun _ _ => 0) ⟨#[], args, []⟩).memory := by
  rw [MakeChecks.laidMetH_plain _ _ _ (by kernel_rfl)]; exact laidMet_laidAll _ (by kernel_rfl) (by kernel_rfl)
theorem laidVars_at {P : Program} {w : World} : ∀ {l : List (String × DataW Unit)} {ps : List MemPlace}, DataW.LaidVars P w l ps → ∀ nd ∈ l, ∃ g t cs fuel p, P.globalNamed nd.1 = some g ∧ (P.globals[g]?).map (·.type) = some t ∧ w.var? P nd.1 = some cs ∧ DataW.trod (fun _ => ()) P w 0 (fun _ => true) false fuel t cs.toList = some (nd.2, p)
  | [], _, _, nd, h => by cases h
  | x :: l, ps, h, nd, hm => by
    obtain ⟨g, t, cs, fuel, p, q, h1, h2, h3, h4, h5, _⟩ := h
    rcases List.mem_cons.1 hm with rfl | hm
    · exact ⟨g, t, cs, fuel, p, h1, h2, h3, h4⟩
    · exact laidVars_at h5 nd hm
/-- cells that read as0 a datum are these cells -/
def Reads (P : Program) (t : TypeId) (d : DataW Unit) (cells : List Value) : Prop := ∀ (w : World) (fuel : Nat) (cs : List Value) (p : List MemPlace), DataW.trod (fun _ => ()) P w 0 (fun _ => true) false fuel t cs = some (d, p) → cs = cells
theorem Reads.int {P : Program} {t : TypeId} {k : IntKind} {z : Int} (ht : P.underlying t = some (.int k)) : Reads P t (.lit (.int k z)) [.int k z] := fun w fuel cs p h => by
  obtain ⟨z', rfl, he, _⟩ := DataW.trod_int ht h
  cases he
  rfl
theorem Reads.str {P : Program} {t : TypeId} {l : List UInt8} (ht : P.underlying t = some .string) : Reads P t (.lit (.string l)) [.string ⟨l.toArray⟩] := fun w fuel cs p h => by
  obtain ⟨⟨s⟩, rfl, he, _⟩ := DataW.trod_string ht h
  cases he
  simp
theorem chunks {sz : Nat} : ∀ (cl : List (List Value)) (cs : List Value), cs.length = cl.length * sz → (∀ i c, cl[i]? = some c → (cs.drop (i * sz)).take sz = c) → cs = cl.flatten
  | [], cs, hl, _ => by simpa using hl
  | c :: cl, cs, hl, h => by
    have h0 := h 0 c rfl
    simp only [Nat.zero_mul, List.drop_zero] at h0
    simp only [List.length_cons, Nat.add_mul, Nat.one_mul] at hl
    have ih := chunks (sz := sz) cl (cs.drop sz) (by rw [List.length_drop]; omega) (fun i c hc => by
      have := h (i + 1) c (by simpa using hc)
      rw [List.drop_drop, show sz + i * sz = (i + 1) * sz from by rw [Nat.add_mul]; omega]
      exact this)
    rw [List.flatten_cons, ← ih, ← h0, List.take_append_drop]
theorem Reads.arr {P : Program} {t e : TypeId} {n sz : Nat} {ds : List (DataW Unit)} {cl : List (List Value)} (ht : P.underlying t = some (.array n e)) (hs : P.cellsOf e = sz) (hct : P.cellsOf t = n * sz) (hn : cl.length = n)
    (h : ∀ (i : Nat) (d : DataW Unit) (c : List Value), ds[i]? = some d → cl[i]? = some c → Reads P e d c) : Reads P t (.agg ds) cl.flatten := fun w fuel cs p hr => by
  obtain ⟨xs, m, _, hx, hcl, hxl, hat⟩ := DataW.trod_array ht hr
  rw [hs] at hat
  have hds : ds = xs.map (·.1) := by have := congrArg Prod.fst hx; simpa using this
  refine chunks (sz := sz) cl cs (by rw [hcl, hct, hn]) (fun i c hc => ?_)
  have hi : i < n := by have := (List.getElem?_eq_some_iff.1 hc).1; omega
  have h1 := hat i hi
  rw [List.getElem?_eq_getElem (by omega)] at h1
  exact h i xs[i].1 c (by rw [hds]; simp [hxl, hi]) hc w m _ xs[i].2 h1
theorem flat1 : ∀ l : List Value, (l.map fun v => [v]).flatten = l
  | [] => rfl
  | v :: l => by rw [List.map_cons, List.flatten_cons, flat1 l]; rfl
def tabDs : DataW Unit → List (DataW Unit)
  | .agg ds => ds
  | _ => []
theorem tab_of_mem {P : Program} {W : World} {l : List (String × DataW Unit)} {name : String} {dt : DataW Unit} {cells : List Value} {g : Nat} {t : TypeId}
    (hg : P.globalNamed name = some g) (hty : (P.globals[g]?).map (·.type) = some t) (hr : Reads P t dt cells) (hm : (name, dt) ∈ l) (h : laidMet P l W) : ∃ T fr, W.heap[g]? = some (.cells cells.toArray T fr) := by
  obtain ⟨ps, hv, _⟩ := h
  obtain ⟨g', t', cs, fuel, p, hg', ht', hvar, hd⟩ := laidVars_at hv _ hm
  obtain rfl := Option.some.inj (hg.symm.trans hg')
  obtain rfl := Option.some.inj (hty.symm.trans ht')
  have hcs := hr W fuel _ p hd
  unfold World.var? at hvar
  dsimp only at hvar hg'
  rw [hg', Option.bind_some] at hvar
  cases hb : W.heap[g]? with
  | none => rw [hb] at hvar; cases hvar
  | some o =>
    rw [hb] at hvar
    cases o with
    | cells c T fr =>
      simp only [Option.some.injEq] at hvar
      subst hvar
      exact ⟨T, fr, by rw [← hcs]⟩
    | _ => cases hvar
theorem reads3 : Reads Tryz.prog 317 Rows.laid_internal_strconv_uint64pow10 (Lib.pow10Tab.map (Value.int .u64)) := by
  have h := Reads.arr (sz := 1) (cl := (Lib.pow10Tab.map (Value.int .u64)).map fun v => [v]) (ds := tabDs Rows.laid_internal_strconv_uint64pow10) Tryz.underlying317 (by kernel_rfl) (by kernel_rfl) (by rfl) (fun i d c hd hc => by
    match i, hd, hc with
    | 0, hd, hc => cases hd; cases hc; exact Reads.int Tryz.underlying41
    | 1, hd, hc => cases hd; cases hc; exact Reads.int Tryz.underlying41
    | 2, hd, hc => cases hd; cases hc; exact Reads.int Tryz.underlying41
    | 3, hd, hc => cases hd; cases hc; exact Reads.int Tryz.underlying41
    | 4, hd, hc => cases hd; cases hc; exact Reads.int Tryz.underlying41
    | 5, hd, hc => cases hd; cases hc; exact Reads.int Tryz.underlying41
    | 6, hd, hc => cases hd; cases hc; exact Reads.int Tryz.underlying41
    | 7, hd, hc => cases hd; cases hc; exact Reads.int Tryz.underlying41
    | 8, hd, hc => cases hd; cases hc; exact Reads.int Tryz.underlying41
    | 9, hd, hc => cases hd; cases hc; exact Reads.int Tryz.underlying41
    | 10, hd, hc => cases hd; cases hc; exact Reads.int Tryz.underlying41
    | 11, hd, hc => cases hd; cases hc; exact Reads.int Tryz.underlying41
    | 12, hd, hc => cases hd; cases hc; exact Reads.int Tryz.underlying41
    | 13, hd, hc => cases hd; cases hc; exact Reads.int Tryz.underlying41
    | 14, hd, hc => cases hd; cases hc; exact Reads.int Tryz.underlying41
    | 15, hd, hc => cases hd; cases hc; exact Reads.int Tryz.underlying41
    | 16, hd, hc => cases hd; cases hc; exact Reads.int Tryz.underlying41
    | 17, hd, hc => cases hd; cases hc; exact Reads.int Tryz.underlying41
    | 18, hd, hc => cases hd; cases hc; exact Reads.int Tryz.underlying41
    | 19, hd, hc => cases hd; cases hc; exact Reads.int Tryz.underlying41
    | j + 20, hd, hc => exact absurd (show j + 20 < 20 from (List.getElem?_eq_some_iff.1 hc).1) (by omega))
  rw [flat1] at h
  exact h
theorem reads2 : Reads Tryz.prog 303 Rows.laid_groundling_requests_masks (maskTab.map (Value.int .u16)) := by
  have h := Reads.arr (sz := 1) (cl := (maskTab.map (Value.int .u16)).map fun v => [v]) (ds := tabDs Rows.laid_groundling_requests_masks) Tryz.underlying303 (by kernel_rfl) (by kernel_rfl) (by rfl) (fun i d c hd hc => by
    match i, hd, hc with
    | 0, hd, hc => cases hd; cases hc; exact Reads.int Tryz.underlying75
    | 1, hd, hc => cases hd; cases hc; exact Reads.int Tryz.underlying75
    | 2, hd, hc => cases hd; cases hc; exact Reads.int Tryz.underlying75
    | 3, hd, hc => cases hd; cases hc; exact Reads.int Tryz.underlying75
    | 4, hd, hc => cases hd; cases hc; exact Reads.int Tryz.underlying75
    | 5, hd, hc => cases hd; cases hc; exact Reads.int Tryz.underlying75
    | 6, hd, hc => cases hd; cases hc; exact Reads.int Tryz.underlying75
    | 7, hd, hc => cases hd; cases hc; exact Reads.int Tryz.underlying75
    | 8, hd, hc => cases hd; cases hc; exact Reads.int Tryz.underlying75
    | 9, hd, hc => cases hd; cases hc; exact Reads.int Tryz.underlying75
    | 10, hd, hc => cases hd; cases hc; exact Reads.int Tryz.underlying75
    | 11, hd, hc => cases hd; cases hc; exact Reads.int Tryz.underlying75
    | 12, hd, hc => cases hd; cases hc; exact Reads.int Tryz.underlying75
    | 13, hd, hc => cases hd; cases hc; exact Reads.int Tryz.underlying75
    | j + 14, hd, hc => exact absurd (show j + 14 < 14 from (List.getElem?_eq_some_iff.1 hc).1) (by omega))
  rw [flat1] at h
  exact h
theorem amb_of_laid {W : World} (h : laidMetH Tryz.prog dlaid W) : Amb (cx0 W).pr W := by
  rw [MakeChecks.laidMetH_plain _ _ _ (by kernel_rfl)] at h
  refine Amb.of_heap (fun p hp => ?_)
  have h3 := tab_of_mem (name := "internal/strconv.uint64pow10") (g := 3) (t := 317) (by kernel_rfl) (by kernel_rfl) reads3 (show _ ∈ dlaid from List.mem_cons_of_mem _ (List.mem_cons_of_mem _ (List.mem_cons_self ..))) h
  have h2 := tab_of_mem (name := "groundling/requests.masks") (g := 2) (t := 303) (by kernel_rfl) (by kernel_rfl) reads2 (show _ ∈ dlaid from List.mem_cons_of_mem _ (List.mem_cons_of_mem _ (List.mem_cons_of_mem _ (List.mem_cons_of_mem _ (List.mem_cons_self ..))))) h
  simp only [tabs, List.mem_cons, List.not_mem_nil, or_false] at hp
  rcases hp with rfl | rfl
  · exact ⟨by decide, h3⟩
  · exact ⟨by decide, h2⟩
end Go.Proofs.YteccglgbkehdeaaGreatDoor
