/- requests: Rules; the reference's kinds, tags, rules and check. -/
import Derived.Test.YtcobkjognpjikaaGreatDoorRQ
set_option linter.unusedSimpArgs false
set_option linter.unusedVariables false
namespace Go.Proofs.YtcobkjognpjikaaGreatDoor

def ruGo (m : Int) : Nat → Nat → List Rule → List Rule
  | 0, _, l => l
  | n + 1, k, l => if bitQ m k = 1 then ruGo m n (k + 1) (l ++ [ruleQ k]) else ruGo m n (k + 1) l
def rulesQ (k : Int) : List Rule × Int := if maskOf k = 0 then ([], 2) else (ruGo (maskOf k) 16 0 [], 0)

theorem rulesQ_P (kd : Int) : PC Tryz.prog 69 [.i kd] (.tup [.sv (.sl 5 ((rulesQ kd).1.map Rule.c)), .i (rulesQ kd).2]) := by
 refine ⟨LC.of_go Tryz.func69 (c := _) rfl (by kernel_rfl) (by rw [Tryz.ntmps69]; simp) rfl rfl (by simp [LO.lt, LV.lts, LV.lt]) (by simp) ?_⟩
 intro B hA hmd
 obtain ⟨g, e0⟩ : ∃ g, rulesQ kd = g := ⟨_, rfl⟩
 have e1 := e0
 unfold rulesQ at e1
 rw [e0]
 have hm := maskOf_lt kd
 refine .seq ?_
 refine .region rfl ?_
 refine R.assign (h := ?_)
 refine R.assign (h := ?_)
 refine .n0 ?_
 refine .seq ?_
 refine .region rfl ?_
 refine R.move (h := ?_)
 refine R.callP (es := [_]) (fun _ => mask_P kd) (h := ?_)
 refine R.assign (h := ?_)
 refine .n0 ?_
 refine .seq ?_
 refine .seq ?_
 refine .region rfl ?_
 refine R.move (h := ?_)
 refine R.bin (run_eql _ _ _ _ _ _) (h := ?_)
 refine .n0 ?_
 refine LGo.ifd (ht := fun hc => ?_) (hf := fun hc => ?_)
 ·
  rw [if_pos hc] at e1; rw [← e1]
  refine .seq ?_
  refine .region rfl ?_
  refine R.assign (h := ?_)
  refine R.assign (h := ?_)
  refine .n0 ?_
  first | refine LGo.frzT 2 (h := ?_) | refine LGo.nilSl 2 5 (h := ?_) | skip
  exact LGo.ret (ret_TT Tryz.results69 hA hmd)
 ·
  rw [if_neg hc] at e1
  generalize maskOf kd = m at *
  refine .skip ?_
  refine .seq ?_
  refine .region rfl ?_
  refine R.assign (h := ?_)
  refine .n0 ?_
  refine .seq ?_
  refine .seq ?_
  refine .region rfl ?_
  refine R.move (h := ?_)
  refine .n0 ?_
  refine .block ?_
  refine .loop ?_
  refine LGo.nilRs 5 88 5 (h := ?_)
  refine LGo.loopG (σ := Nat × Nat × List Rule) (fun x => x.1 + x.2.1 = 16 ∧ x.2.2.length ≤ x.2.1 ∧ (ruGo m x.1 x.2.1 x.2.2, (0 : Int)) = g) (fun x => [(11, (true, .i (x.2.1 : Nat))), (5, (true, .ref 0))]) (fun x => [(0, .rs 88 5 (x.2.2.map Rule.c))]) (fun x => x.1) ((16, 0, [])) [(4, _)] ⟨rfl, Nat.le_refl _, e1⟩ (by repeat (first | exact trivial | refine ⟨rfl, ?_⟩)) (by repeat (first | exact trivial | refine ⟨rfl, ?_⟩)) (by repeat (first | exact trivial | refine ⟨rfl, ?_⟩)) ?_
  rintro ⟨fu, k, acc⟩ ⟨q1, q2, e1⟩ ih
  dsimp only at * 
  refine .seq ?_
  refine .region rfl ?_
  refine R.bin (run_lss _ _ _ _ _ _) (h := ?_)
  refine .n0 ?_
  refine .seq ?_
  refine LGo.ifd (ht := fun hc2 => ?_) (hf := fun hc2 => ?_)
  ·
   obtain ⟨f, rfl⟩ : ∃ f, fu = f + 1 := ⟨fu - 1, by omega⟩
   rw [ruGo] at e1
   refine .skip ?_
   refine .seq ?_
   refine .block ?_
   refine .seq ?_
   refine .region rfl ?_
   refine R.move (h := ?_)
   refine R.assign (h := ?_)
   refine .n0 ?_
   refine .seq ?_
   refine .region rfl ?_
   refine R.move (h := ?_)
   refine R.move (h := ?_)
   refine R.shr (h := ?_)
   rw [shr_u16 m k (by omega)]
   refine R.bin (run_andE _ _ _ .u16 _ 1 (and1_u16 _ (div_lt m k hm.1 hm.2).1 (div_lt m k hm.1 hm.2).2)) (h := ?_)
   refine R.bin (run_eql _ _ _ _ _ _) (h := ?_)
   refine .n0 ?_
   refine LGo.ifd (ht := fun hc3 => ?_) (hf := fun hc3 => ?_)
   ·
    rw [if_pos (show bitQ m k = 1 from hc3)] at e1
    refine .region rfl ?_
    refine R.move (h := ?_)
    refine R.move (h := ?_)
    refine R.callP (es := [_]) (fun _ => ruleQ_P (k : Int)) (h := ?_)
    refine R.buildSliceG AP72 (xs := [_]) (es := [_]) (hcs := CellsOfs.cons (CellsOf.agg rfl) CellsOfs.nil) (h := ?_)
    refine R.appendS AP72 (hs := SrcOk.sl Tryz.underlying72 (by simp; rfl)) (hlen := by simp; omega) (h := ?_)
    refine R.assign (h := ?_)
    refine .n0 ?_
    refine .inBlock ?_
    refine .region rfl ?_
    first | refine R.add (h := ?_) | refine R.addW (h := ?_)
    refine R.move (h := ?_)
    refine .n0 ?_
    refine .inLoop ?_
    exact LGo.turn [1] (b := 0) (fun o h => by have := (hA o).1 h; omega) (ih (f, k + 1, acc ++ [ruleQ k]) ⟨by dsimp only; omega, by simp; omega, e1⟩ (by dsimp only; omega)) (by repeat (first | exact trivial | refine ⟨rfl, ?_⟩)) ⟨by rw [List.map_append]; rfl, trivial⟩
   ·
    rw [if_neg (show ¬ bitQ m k = 1 from hc3)] at e1
    refine .skip ?_
    refine .inBlock ?_
    refine .region rfl ?_
    first | refine R.add (h := ?_) | refine R.addW (h := ?_)
    refine R.move (h := ?_)
    refine .n0 ?_
    refine .inLoop ?_
    exact LGo.next _ (fun o h => by have := (hA o).1 h; omega) (by omega) (ih (f, k + 1, acc) ⟨by dsimp only; omega, by dsimp only; omega, e1⟩ (by dsimp only; omega)) (by repeat (first | exact trivial | refine ⟨rfl, ?_⟩)) (by repeat (first | exact trivial | refine ⟨rfl, ?_⟩))
  ·
   obtain rfl : fu = 0 := by omega
   rw [ruGo] at e1
   rw [← e1]
   refine .exit rfl ?_
   refine .seq ?_
   refine .region rfl ?_
   refine R.move (h := ?_)
   refine R.assign (h := ?_)
   refine R.assign (h := ?_)
   refine .n0 ?_
   first | refine LGo.frzT 2 (h := ?_) | refine LGo.nilSl 2 5 (h := ?_) | skip
   exact LGo.ret (ret_TT Tryz.results69 hA hmd)

/-- the words of the kinds of requests -/
def kindW : List (List UInt8) := [[], [111, 112, 101, 110], [104, 111, 108, 100], [98, 108, 111, 99, 107], [114, 101, 108, 101, 97, 115, 101], [98, 117, 121], [116, 114, 97, 110, 115, 102, 101, 114], [114, 101, 102, 117, 110, 100], [114, 101, 118, 111, 107, 101], [118, 97, 108, 105, 100, 97, 116, 101], [106, 111, 105, 110], [108, 101, 97, 118, 101], [], [101, 110, 116, 101, 114]]
def wordQ (k : Int) : List UInt8 := if k < 1 ∨ 13 < k then [] else kindW.getD k.toNat []
theorem kindW_at {k : Int} (h : ¬ (k < 1 ∨ 13 < k)) : (strsC kindW)[k.toNat]? = some [.val (.string ⟨(wordQ k).toArray⟩)] := by
  have h1 : k.toNat < kindW.length := by simp [kindW]; omega
  rw [strsC, List.getElem?_map, wordQ, if_neg h, List.getD_eq_getElem?_getD, List.getElem?_eq_getElem h1]
  rfl

theorem wordQ_P (k : Int) : PC Tryz.prog 103 [.i k] (.t (wordQ k)) := by
 refine ⟨LC.of_go Tryz.func103 (c := _) rfl (by kernel_rfl) (by rw [Tryz.ntmps103]; simp) rfl rfl (by simp [LO.lt, LV.lts, LV.lt]) (by simp) ?_⟩
 intro B hA hmd
 refine .seq ?_
 refine .region rfl ?_
 refine R.assign (h := ?_)
 refine .n0 ?_
 refine .seq ?_
 refine .seq ?_
 refine .region rfl ?_
 refine R.move (h := ?_)
 refine R.bin (run_lss _ _ _ _ _ _) (h := ?_)
 refine R.move (h := ?_)
 refine R.move (h := ?_)
 refine R.bin (run_gtr _ _ _ _ _ _) (h := ?_)
 refine R.or (h := ?_)
 refine .n0 ?_
 refine LGo.ifb (ht := fun hc => ?_) (hf := fun hc => ?_)
 ·
  rw [show wordQ k = [] from if_pos (by simpa using hc)]
  refine .seq ?_
  refine .region rfl ?_
  refine R.assign (h := ?_)
  refine .n0 ?_
  exact LGo.ret (ret_T Tryz.results103 hA hmd)
 ·
  have hk : ¬ (k < 1 ∨ 13 < k) := by simpa using hc
  have hx := kindW_at hk
  refine .skip ?_
  refine .seq ?_
  refine .region rfl ?_
  refine R.buildSliceF AP50 (strsC kindW) (xs := [_, _, _, _, _, _, _, _, _, _, _, _, _, _]) (es := [_, _, _, _, _, _, _, _, _, _, _, _, _, _]) (hcs := CellsOfs.cons (CellsOf.one rfl) (CellsOfs.cons (CellsOf.one rfl) (CellsOfs.cons (CellsOf.one rfl) (CellsOfs.cons (CellsOf.one rfl) (CellsOfs.cons (CellsOf.one rfl) (CellsOfs.cons (CellsOf.one rfl) (CellsOfs.cons (CellsOf.one rfl) (CellsOfs.cons (CellsOf.one rfl) (CellsOfs.cons (CellsOf.one rfl) (CellsOfs.cons (CellsOf.one rfl) (CellsOfs.cons (CellsOf.one rfl) (CellsOfs.cons (CellsOf.one rfl) (CellsOfs.cons (CellsOf.one rfl) (CellsOfs.cons (CellsOf.one rfl) (CellsOfs.nil))))))))))))))) (h := ?_)
  refine R.move (h := ?_)
  refine R.index I50 (hj := fun hg => ⟨by omega, hx⟩) (h := ?_)
  first | refine R.loadB O9 (h := ?_) | refine R.load1 O9 (h := ?_)
  refine R.assign (h := ?_)
  refine .n0 ?_
  exact LGo.ret (ret_T Tryz.results103 hA hmd)

def tagsQ (k : Int) : List Int := if k = 1 then [2] else if k = 2 then [3, 5] else if k = 4 then [3, 5] else if k = 5 then [3, 5] else if k = 8 then [3, 5] else if k = 3 then [3, 6, 7] else if k = 6 then [3, 4, 8] else if k = 7 then [3, 4] else if k = 9 then [4] else if k = 10 then [3, 6] else if k = 11 then [3, 6] else [4, 9]
theorem tagsQ_len (k : Int) : (tagsQ k).length ≤ 3 := by unfold tagsQ; (repeat' split) <;> simp
/-- has a kind the field with a tag -/
def hasGo (t : Int) : List Int → Bool
  | [] => decide (t = 1)
  | x :: l => if x = t then true else hasGo t l
def hasQ (k t : Int) : Bool := hasGo t (tagsQ k)

theorem tagsQ_P (k : Int) : PC Tryz.prog 121 [.i k] (.sv (.sl 1 (ic .i64 (tagsQ k)))) := by
 refine ⟨LC.of_go Tryz.func121 (c := _) rfl (by kernel_rfl) (by rw [Tryz.ntmps121]; simp) rfl rfl (by simp [LO.lt, LV.lts, LV.lt]) (by simp) ?_⟩
 intro B hA hmd
 obtain ⟨g, e0⟩ : ∃ g, tagsQ k = g := ⟨_, rfl⟩
 have e1 := e0
 unfold tagsQ at e1
 rw [e0]
 refine .seq ?_
 refine .region rfl ?_
 refine R.assign (h := ?_)
 refine .n0 ?_
 refine .seq ?_
 refine .seq ?_
 refine .region rfl ?_
 refine R.move (h := ?_)
 refine .n0 ?_
 refine .block ?_
 refine .seq ?_
 refine .region rfl ?_
 refine R.bin (run_eql _ _ _ _ _ _) (h := ?_)
 refine R.assign (h := ?_)
 refine .n0 ?_
 first | refine LGo.ifd (ht := fun hc => ?_) (hf := fun hc => ?_) | refine LGo.ifb (ht := fun hc => ?_) (hf := fun hc => ?_)
 ·
  rw [if_pos hc] at e1
  refine .seq ?_
  refine .region rfl ?_
  refine R.buildSliceG AP81 (xs := [_]) (es := [_]) (hcs := CellsOfs.cons (CellsOf.one rfl) CellsOfs.nil) (h := ?_)
  refine R.assign (h := ?_)
  refine .n0 ?_
  rw [← e1]
  exact LGo.ret (ret_T Tryz.results121 hA hmd)
 ·
  rw [if_neg hc] at e1
  refine .seq ?_
  refine .seq ?_
  refine .region rfl ?_
  refine R.bin (run_eql _ _ _ _ _ _) (h := ?_)
  refine R.assign (h := ?_)
  refine .n0 ?_
  first | refine LGo.ifd (ht := fun hc2 => ?_) (hf := fun hc2 => ?_) | refine LGo.ifb (ht := fun hc2 => ?_) (hf := fun hc2 => ?_)
  ·
   rw [if_pos hc2] at e1
   refine .skip ?_
   first | refine LGo.ifd (ht := fun _ => ?_) (hf := fun h => absurd hc2 h) | refine LGo.ifb (ht := fun _ => ?_) (hf := fun h => by rw [hc2] at h; cases h)
   refine .seq ?_
   refine .region rfl ?_
   refine R.buildSliceG AP81 (xs := [_, _]) (es := [_, _]) (hcs := CellsOfs.cons (CellsOf.one rfl) (CellsOfs.cons (CellsOf.one rfl) CellsOfs.nil)) (h := ?_)
   refine R.assign (h := ?_)
   refine .n0 ?_
   rw [← e1]
   exact LGo.ret (ret_T Tryz.results121 hA hmd)
  ·
   rw [if_neg hc2] at e1
   refine .seq ?_
   refine .region rfl ?_
   refine R.bin (run_eql _ _ _ _ _ _) (h := ?_)
   refine R.assign (h := ?_)
   refine .n0 ?_
   first | refine LGo.ifd (ht := fun hc4 => ?_) (hf := fun hc4 => ?_) | refine LGo.ifb (ht := fun hc4 => ?_) (hf := fun hc4 => ?_)
   ·
    rw [if_pos hc4] at e1
    refine .skip ?_
    first | refine LGo.ifd (ht := fun _ => ?_) (hf := fun h => absurd hc4 h) | refine LGo.ifb (ht := fun _ => ?_) (hf := fun h => by rw [hc4] at h; cases h)
    refine .seq ?_
    refine .region rfl ?_
    refine R.buildSliceG AP81 (xs := [_, _]) (es := [_, _]) (hcs := CellsOfs.cons (CellsOf.one rfl) (CellsOfs.cons (CellsOf.one rfl) CellsOfs.nil)) (h := ?_)
    refine R.assign (h := ?_)
    refine .n0 ?_
    rw [← e1]
    exact LGo.ret (ret_T Tryz.results121 hA hmd)
   ·
    rw [if_neg hc4] at e1
    refine .seq ?_
    refine .region rfl ?_
    refine R.bin (run_eql _ _ _ _ _ _) (h := ?_)
    refine R.assign (h := ?_)
    refine .n0 ?_
    first | refine LGo.ifd (ht := fun hc6 => ?_) (hf := fun hc6 => ?_) | refine LGo.ifb (ht := fun hc6 => ?_) (hf := fun hc6 => ?_)
    ·
     rw [if_pos hc6] at e1
     refine .skip ?_
     first | refine LGo.ifd (ht := fun _ => ?_) (hf := fun h => absurd hc6 h) | refine LGo.ifb (ht := fun _ => ?_) (hf := fun h => by rw [hc6] at h; cases h)
     refine .seq ?_
     refine .region rfl ?_
     refine R.buildSliceG AP81 (xs := [_, _]) (es := [_, _]) (hcs := CellsOfs.cons (CellsOf.one rfl) (CellsOfs.cons (CellsOf.one rfl) CellsOfs.nil)) (h := ?_)
     refine R.assign (h := ?_)
     refine .n0 ?_
     rw [← e1]
     exact LGo.ret (ret_T Tryz.results121 hA hmd)
    ·
     rw [if_neg hc6] at e1
     refine .region rfl ?_
     refine R.bin (run_eql _ _ _ _ _ _) (h := ?_)
     refine R.assign (h := ?_)
     refine .n0 ?_
     first | refine LGo.ifd (ht := fun hc8 => ?_) (hf := fun hc8 => ?_) | refine LGo.ifb (ht := fun hc8 => ?_) (hf := fun hc8 => ?_)
     ·
      rw [if_pos hc8] at e1
      refine .seq ?_
      refine .region rfl ?_
      refine R.buildSliceG AP81 (xs := [_, _]) (es := [_, _]) (hcs := CellsOfs.cons (CellsOf.one rfl) (CellsOfs.cons (CellsOf.one rfl) CellsOfs.nil)) (h := ?_)
      refine R.assign (h := ?_)
      refine .n0 ?_
      rw [← e1]
      exact LGo.ret (ret_T Tryz.results121 hA hmd)
     ·
      rw [if_neg hc8] at e1
      refine .seq ?_
      refine .region rfl ?_
      refine R.bin (run_eql _ _ _ _ _ _) (h := ?_)
      refine R.assign (h := ?_)
      refine .n0 ?_
      first | refine LGo.ifd (ht := fun hc9 => ?_) (hf := fun hc9 => ?_) | refine LGo.ifb (ht := fun hc9 => ?_) (hf := fun hc9 => ?_)
      ·
       rw [if_pos hc9] at e1
       refine .seq ?_
       refine .region rfl ?_
       refine R.buildSliceG AP81 (xs := [_, _, _]) (es := [_, _, _]) (hcs := CellsOfs.cons (CellsOf.one rfl) (CellsOfs.cons (CellsOf.one rfl) (CellsOfs.cons (CellsOf.one rfl) CellsOfs.nil))) (h := ?_)
       refine R.assign (h := ?_)
       refine .n0 ?_
       rw [← e1]
       exact LGo.ret (ret_T Tryz.results121 hA hmd)
      ·
       rw [if_neg hc9] at e1
       refine .seq ?_
       refine .region rfl ?_
       refine R.bin (run_eql _ _ _ _ _ _) (h := ?_)
       refine R.assign (h := ?_)
       refine .n0 ?_
       first | refine LGo.ifd (ht := fun hc10 => ?_) (hf := fun hc10 => ?_) | refine LGo.ifb (ht := fun hc10 => ?_) (hf := fun hc10 => ?_)
       ·
        rw [if_pos hc10] at e1
        refine .seq ?_
        refine .region rfl ?_
        refine R.buildSliceG AP81 (xs := [_, _, _]) (es := [_, _, _]) (hcs := CellsOfs.cons (CellsOf.one rfl) (CellsOfs.cons (CellsOf.one rfl) (CellsOfs.cons (CellsOf.one rfl) CellsOfs.nil))) (h := ?_)
        refine R.assign (h := ?_)
        refine .n0 ?_
        rw [← e1]
        exact LGo.ret (ret_T Tryz.results121 hA hmd)
       ·
        rw [if_neg hc10] at e1
        refine .seq ?_
        refine .region rfl ?_
        refine R.bin (run_eql _ _ _ _ _ _) (h := ?_)
        refine R.assign (h := ?_)
        refine .n0 ?_
        first | refine LGo.ifd (ht := fun hc11 => ?_) (hf := fun hc11 => ?_) | refine LGo.ifb (ht := fun hc11 => ?_) (hf := fun hc11 => ?_)
        ·
         rw [if_pos hc11] at e1
         refine .seq ?_
         refine .region rfl ?_
         refine R.buildSliceG AP81 (xs := [_, _]) (es := [_, _]) (hcs := CellsOfs.cons (CellsOf.one rfl) (CellsOfs.cons (CellsOf.one rfl) CellsOfs.nil)) (h := ?_)
         refine R.assign (h := ?_)
         refine .n0 ?_
         rw [← e1]
         exact LGo.ret (ret_T Tryz.results121 hA hmd)
        ·
         rw [if_neg hc11] at e1
         refine .seq ?_
         refine .region rfl ?_
         refine R.bin (run_eql _ _ _ _ _ _) (h := ?_)
         refine R.assign (h := ?_)
         refine .n0 ?_
         first | refine LGo.ifd (ht := fun hc12 => ?_) (hf := fun hc12 => ?_) | refine LGo.ifb (ht := fun hc12 => ?_) (hf := fun hc12 => ?_)
         ·
          rw [if_pos hc12] at e1
          refine .seq ?_
          refine .region rfl ?_
          refine R.buildSliceG AP81 (xs := [_]) (es := [_]) (hcs := CellsOfs.cons (CellsOf.one rfl) CellsOfs.nil) (h := ?_)
          refine R.assign (h := ?_)
          refine .n0 ?_
          rw [← e1]
          exact LGo.ret (ret_T Tryz.results121 hA hmd)
         ·
          rw [if_neg hc12] at e1
          refine .seq ?_
          refine .seq ?_
          refine .region rfl ?_
          refine R.bin (run_eql _ _ _ _ _ _) (h := ?_)
          refine R.assign (h := ?_)
          refine .n0 ?_
          first | refine LGo.ifd (ht := fun hc13 => ?_) (hf := fun hc13 => ?_) | refine LGo.ifb (ht := fun hc13 => ?_) (hf := fun hc13 => ?_)
          ·
           rw [if_pos hc13] at e1
           refine .skip ?_
           first | refine LGo.ifd (ht := fun _ => ?_) (hf := fun h => absurd hc13 h) | refine LGo.ifb (ht := fun _ => ?_) (hf := fun h => by rw [hc13] at h; cases h)
           refine .seq ?_
           refine .region rfl ?_
           refine R.buildSliceG AP81 (xs := [_, _]) (es := [_, _]) (hcs := CellsOfs.cons (CellsOf.one rfl) (CellsOfs.cons (CellsOf.one rfl) CellsOfs.nil)) (h := ?_)
           refine R.assign (h := ?_)
           refine .n0 ?_
           rw [← e1]
           exact LGo.ret (ret_T Tryz.results121 hA hmd)
          ·
           rw [if_neg hc13] at e1
           refine .region rfl ?_
           refine R.bin (run_eql _ _ _ _ _ _) (h := ?_)
           refine R.assign (h := ?_)
           refine .n0 ?_
           first | refine LGo.ifd (ht := fun hc15 => ?_) (hf := fun hc15 => ?_) | refine LGo.ifb (ht := fun hc15 => ?_) (hf := fun hc15 => ?_)
           ·
            rw [if_pos hc15] at e1
            refine .seq ?_
            refine .region rfl ?_
            refine R.buildSliceG AP81 (xs := [_, _]) (es := [_, _]) (hcs := CellsOfs.cons (CellsOf.one rfl) (CellsOfs.cons (CellsOf.one rfl) CellsOfs.nil)) (h := ?_)
            refine R.assign (h := ?_)
            refine .n0 ?_
            rw [← e1]
            exact LGo.ret (ret_T Tryz.results121 hA hmd)
           ·
            rw [if_neg hc15] at e1
            refine .skip ?_
            refine .inBlock ?_
            refine .seq ?_
            refine .region rfl ?_
            refine R.buildSliceG AP81 (xs := [_, _]) (es := [_, _]) (hcs := CellsOfs.cons (CellsOf.one rfl) (CellsOfs.cons (CellsOf.one rfl) CellsOfs.nil)) (h := ?_)
            refine R.assign (h := ?_)
            refine .n0 ?_
            rw [← e1]
            exact LGo.ret (ret_T Tryz.results121 hA hmd)

theorem hasQ_P (kd t : Int) : PC Tryz.prog 104 [.i kd, .i t] (.b (hasQ kd t)) := by
 refine ⟨LC.of_go Tryz.func104 (c := _) rfl (by kernel_rfl) (by rw [Tryz.ntmps104]; simp) rfl rfl (by simp [LO.lt, LV.lts, LV.lt]) (by simp) ?_⟩
 intro B hA hmd
 obtain ⟨g, e0⟩ : ∃ g, hasQ kd t = g := ⟨_, rfl⟩
 have e1 := e0
 unfold hasQ at e1
 rw [e0]
 have hln := tagsQ_len kd
 refine .seq ?_
 refine .region rfl ?_
 refine R.assign (h := ?_)
 refine .n0 ?_
 refine .seq ?_
 refine .region rfl ?_
 refine R.move (h := ?_)
 refine R.callP (es := [_]) (fun _ => tagsQ_P kd) (h := ?_)
 generalize tagsQ kd = xs at *
 refine R.assign (h := ?_)
 refine .n0 ?_
 refine .seq ?_
 refine .seq ?_
 refine .region rfl ?_
 refine R.assign (h := ?_)
 refine .n0 ?_
 refine .block ?_
 refine .loop ?_
 refine LGo.loopG (σ := Nat) (fun x => x ≤ xs.length ∧ hasGo t (xs.drop x) = g) (fun x => [(6, (true, .i (x : Nat)))]) (fun x => []) (fun x => xs.length - x) (0) [(1, _), (5, _)] ⟨Nat.zero_le _, by simpa using e1⟩ (by repeat (first | exact trivial | refine ⟨rfl, ?_⟩)) (by repeat (first | exact trivial | refine ⟨rfl, ?_⟩)) (by repeat (first | exact trivial | refine ⟨rfl, ?_⟩)) ?_
 rintro k ⟨hk, hq⟩ ih
 refine .seq ?_
 refine .seq ?_
 refine .region rfl ?_
 refine R.move (h := ?_)
 refine R.move (h := ?_)
 first | refine R.len S81 (h := ?_) | refine R.lenRs S81 (h := ?_) | refine R.lenV (run_lenNil S81) (h := ?_)
 rw [ic_len]
 refine R.bin (run_lss _ _ _ _ _ _) (h := ?_)
 refine .n0 ?_
 refine LGo.ifd (ht := fun hc => ?_) (hf := fun hc => ?_)
 ·
  have hlt : k < xs.length := by omega
  have hx : (ic .i64 xs)[((k : Nat) : Int).toNat]? = some [.val (.int .i64 xs[k])] := by rw [Int.toNat_natCast]; exact ic_get (List.getElem?_eq_getElem hlt)
  rw [List.drop_eq_getElem_cons hlt, hasGo] at hq
  generalize xs[k] = x at hx hq
  refine .skip ?_
  refine .seq ?_
  refine .block ?_
  refine .seq ?_
  refine .region rfl ?_
  refine R.move (h := ?_)
  refine R.move (h := ?_)
  refine R.index I81 (hj := fun hg => ⟨by omega, hx⟩) (h := ?_)
  first | refine R.loadB O3 (h := ?_) | refine R.load1 O3 (h := ?_)
  refine R.move (h := ?_)
  refine R.bin (run_eql _ _ _ _ _ _) (h := ?_)
  refine .n0 ?_
  refine LGo.ifd (ht := fun hc2 => ?_) (hf := fun hc2 => ?_)
  ·
   rw [if_pos hc2] at hq; rw [← hq]
   refine .seq ?_
   refine .region rfl ?_
   refine R.assign (h := ?_)
   refine .n0 ?_
   exact LGo.ret (ret_T Tryz.results104 hA hmd)
  ·
   rw [if_neg hc2] at hq
   refine .skip ?_
   refine .inBlock ?_
   refine .region rfl ?_
   refine R.move (h := ?_)
   first | refine R.add (h := ?_) | refine R.addW (h := ?_)
   refine R.assign (h := ?_)
   refine .n0 ?_
   refine .inLoop ?_
   exact LGo.next _ (fun o h => by have := (hA o).1 h; omega) (by omega) (ih (k + 1) ⟨hlt, hq⟩ (by omega)) (by repeat (first | exact trivial | refine ⟨rfl, ?_⟩)) (by repeat (first | exact trivial | refine ⟨rfl, ?_⟩))
 ·
  rw [List.drop_eq_nil_of_le (by omega), hasGo] at hq; rw [← hq]
  refine .exit rfl ?_
  refine .seq ?_
  refine .region rfl ?_
  refine R.move (h := ?_)
  refine R.bin (run_eql _ _ _ _ _ _) (h := ?_)
  refine R.assign (h := ?_)
  refine .n0 ?_
  exact LGo.ret (ret_T Tryz.results104 hA hmd)

theorem ruleR9_P (t : Int) : PC Tryz.prog 105 [.i t] (.agg ((ruleQ t).c.map LV.sv)) := by
 refine ⟨LC.of_go Tryz.func105 (c := _) rfl (by kernel_rfl) (by rw [Tryz.ntmps105]; simp) rfl rfl (by simp [LO.lt, LV.lts, LV.lt]) (by simp) ?_⟩
 intro B hA hmd
 obtain ⟨g, e0⟩ : ∃ g, ruleQ t = g := ⟨_, rfl⟩
 have e1 := e0
 unfold ruleQ at e1
 rw [e0]
 refine .seq ?_
 refine .region rfl ?_
 refine R.alloc Z88 (h := ?_)
 refine .n0 ?_
 refine .seq ?_
 refine .region rfl ?_
 refine R.move (h := ?_)
 refine R.build BF88 (is := [0, 1, 3, 4]) (xs := [_, _, _, _]) (es := [_, _, _, _]) (h := ?_)
 refine R.alloc Z88 (h := ?_)
 refine R.storeA A88 (h := ?_)
 refine .n0 ?_
 refine .seq ?_
 refine .seq ?_
 refine .region rfl ?_
 refine R.move (h := ?_)
 refine .n0 ?_
 refine .block ?_
 refine .seq ?_
 refine .region rfl ?_
 refine R.bin (run_eql _ _ _ _ _ _) (h := ?_)
 refine R.assign (h := ?_)
 refine .n0 ?_
 first | refine LGo.ifd (ht := fun hc => ?_) (hf := fun hc => ?_) | refine LGo.ifb (ht := fun hc => ?_) (hf := fun hc => ?_)
 ·
  rw [if_pos hc] at e1
  refine .region rfl ?_
  first | refine R.field F88_2 (h := ?_) | refine R.fieldAt F88_2 (h := ?_)
  refine R.storeB O22 (h := ?_)
  first | refine R.field F88_3 (h := ?_) | refine R.fieldAt F88_3 (h := ?_)
  refine R.storeB O22 (h := ?_)
  refine .n0 ?_
  refine .inBlock ?_
  refine .seq ?_
  refine .region rfl ?_
  first | refine R.loadA A88 (h := ?_) | refine R.loadN A88 (h := ?_) | refine R.loadP A88 (h := ?_)
  refine R.storeA A88 (h := ?_)
  refine .n0 ?_
  rw [← e1]
  exact LGo.ret (ret_A Tryz.results105 A88 hA hmd)
 ·
  rw [if_neg hc] at e1
  refine .seq ?_
  refine .seq ?_
  refine .region rfl ?_
  refine R.bin (run_eql _ _ _ _ _ _) (h := ?_)
  refine R.assign (h := ?_)
  refine .n0 ?_
  first | refine LGo.ifd (ht := fun hc2 => ?_) (hf := fun hc2 => ?_) | refine LGo.ifb (ht := fun hc2 => ?_) (hf := fun hc2 => ?_)
  ·
   rw [if_pos hc2] at e1
   refine .skip ?_
   first | refine LGo.ifd (ht := fun _ => ?_) (hf := fun h => absurd hc2 h) | refine LGo.ifb (ht := fun _ => ?_) (hf := fun h => by rw [hc2] at h; cases h)
   refine .region rfl ?_
   first | refine R.field F88_3 (h := ?_) | refine R.fieldAt F88_3 (h := ?_)
   refine R.storeB O22 (h := ?_)
   refine .n0 ?_
   refine .inBlock ?_
   refine .seq ?_
   refine .region rfl ?_
   first | refine R.loadA A88 (h := ?_) | refine R.loadN A88 (h := ?_) | refine R.loadP A88 (h := ?_)
   refine R.storeA A88 (h := ?_)
   refine .n0 ?_
   rw [← e1]
   exact LGo.ret (ret_A Tryz.results105 A88 hA hmd)
  ·
   rw [if_neg hc2] at e1
   refine .region rfl ?_
   refine R.bin (run_eql _ _ _ _ _ _) (h := ?_)
   refine R.assign (h := ?_)
   refine .n0 ?_
   first | refine LGo.ifd (ht := fun hc4 => ?_) (hf := fun hc4 => ?_) | refine LGo.ifb (ht := fun hc4 => ?_) (hf := fun hc4 => ?_)
   ·
    rw [if_pos hc4] at e1
    refine .region rfl ?_
    first | refine R.field F88_3 (h := ?_) | refine R.fieldAt F88_3 (h := ?_)
    refine R.storeB O22 (h := ?_)
    refine .n0 ?_
    refine .inBlock ?_
    refine .seq ?_
    refine .region rfl ?_
    first | refine R.loadA A88 (h := ?_) | refine R.loadN A88 (h := ?_) | refine R.loadP A88 (h := ?_)
    refine R.storeA A88 (h := ?_)
    refine .n0 ?_
    rw [← e1]
    exact LGo.ret (ret_A Tryz.results105 A88 hA hmd)
   ·
    rw [if_neg hc4] at e1
    refine .seq ?_
    refine .region rfl ?_
    refine R.bin (run_eql _ _ _ _ _ _) (h := ?_)
    refine R.assign (h := ?_)
    refine .n0 ?_
    first | refine LGo.ifd (ht := fun hc5 => ?_) (hf := fun hc5 => ?_) | refine LGo.ifb (ht := fun hc5 => ?_) (hf := fun hc5 => ?_)
    ·
     rw [if_pos hc5] at e1
     refine .region rfl ?_
     first | refine R.field F88_1 (h := ?_) | refine R.fieldAt F88_1 (h := ?_)
     refine R.storeB O3 (h := ?_)
     first | refine R.field F88_2 (h := ?_) | refine R.fieldAt F88_2 (h := ?_)
     refine R.storeB O22 (h := ?_)
     first | refine R.field F88_3 (h := ?_) | refine R.fieldAt F88_3 (h := ?_)
     refine R.storeB O22 (h := ?_)
     refine .n0 ?_
     refine .inBlock ?_
     refine .seq ?_
     refine .region rfl ?_
     first | refine R.loadA A88 (h := ?_) | refine R.loadN A88 (h := ?_) | refine R.loadP A88 (h := ?_)
     refine R.storeA A88 (h := ?_)
     refine .n0 ?_
     rw [← e1]
     exact LGo.ret (ret_A Tryz.results105 A88 hA hmd)
    ·
     rw [if_neg hc5] at e1
     refine .seq ?_
     refine .region rfl ?_
     refine R.bin (run_eql _ _ _ _ _ _) (h := ?_)
     refine R.assign (h := ?_)
     refine .n0 ?_
     first | refine LGo.ifd (ht := fun hc6 => ?_) (hf := fun hc6 => ?_) | refine LGo.ifb (ht := fun hc6 => ?_) (hf := fun hc6 => ?_)
     ·
      rw [if_pos hc6] at e1
      refine .region rfl ?_
      first | refine R.field F88_1 (h := ?_) | refine R.fieldAt F88_1 (h := ?_)
      refine R.storeB O3 (h := ?_)
      first | refine R.field F88_2 (h := ?_) | refine R.fieldAt F88_2 (h := ?_)
      refine R.storeB O22 (h := ?_)
      first | refine R.field F88_3 (h := ?_) | refine R.fieldAt F88_3 (h := ?_)
      refine R.storeB O22 (h := ?_)
      refine .n0 ?_
      refine .inBlock ?_
      refine .seq ?_
      refine .region rfl ?_
      first | refine R.loadA A88 (h := ?_) | refine R.loadN A88 (h := ?_) | refine R.loadP A88 (h := ?_)
      refine R.storeA A88 (h := ?_)
      refine .n0 ?_
      rw [← e1]
      exact LGo.ret (ret_A Tryz.results105 A88 hA hmd)
     ·
      rw [if_neg hc6] at e1
      refine .skip ?_
      refine .inBlock ?_
      refine .seq ?_
      refine .region rfl ?_
      first | refine R.loadA A88 (h := ?_) | refine R.loadN A88 (h := ?_) | refine R.loadP A88 (h := ?_)
      refine R.storeA A88 (h := ?_)
      refine .n0 ?_
      rw [← e1]
      exact LGo.ret (ret_A Tryz.results105 A88 hA hmd)

def numQ (r : Rq) (t : Int) : Int := if t = 1 then (if 9223372036854775807 < r.id then -1 else r.id) else if t = 2 then r.owner else if t = 5 then r.seat else if t = 6 then r.sec else if t = 7 then r.n else if t = 8 then r.to else r.gate
def txtQ (r : Rq) (t : Int) : List UInt8 := if t = 3 then r.ses else r.tic

def rrGo (kd : Int) : Nat → Nat → List Rule → List Rule
  | 0, _, l => l
  | n + 1, k, l => if hasQ kd k = true then rrGo kd n (k + 1) (l ++ [ruleQ k]) else rrGo kd n (k + 1) l
def rulesR (kd : Int) : List Rule × Int := if wordQ kd = [] then ([], 2) else (rrGo kd 9 1 [], 0)

theorem rulesR_P (kd : Int) : PC Tryz.prog 77 [.i kd] (.tup [.sv (.sl 5 ((rulesR kd).1.map Rule.c)), .i (rulesR kd).2]) := by
 refine ⟨LC.of_go Tryz.func77 (c := _) rfl (by kernel_rfl) (by rw [Tryz.ntmps77]; simp) rfl rfl (by simp [LO.lt, LV.lts, LV.lt]) (by simp) ?_⟩
 intro B hA hmd
 obtain ⟨g, e0⟩ : ∃ g, rulesR kd = g := ⟨_, rfl⟩
 have e1 := e0
 unfold rulesR at e1
 rw [e0]
 refine .seq ?_
 refine .region rfl ?_
 refine R.assign (h := ?_)
 refine R.assign (h := ?_)
 refine .n0 ?_
 refine .seq ?_
 refine .seq ?_
 refine .region rfl ?_
 refine R.move (h := ?_)
 refine R.callP (es := [_]) (fun _ => wordQ_P kd) (h := ?_)
 refine R.bin (run_eqlT _ _ _ _ _) (h := ?_)
 refine .n0 ?_
 refine LGo.ifd (ht := fun hc => ?_) (hf := fun hc => ?_)
 ·
  rw [if_pos hc] at e1; rw [← e1]
  refine .seq ?_
  refine .region rfl ?_
  refine R.assign (h := ?_)
  refine R.assign (h := ?_)
  refine .n0 ?_
  first | refine LGo.frzT 2 (h := ?_) | refine LGo.nilSl 2 5 (h := ?_) | skip
  exact LGo.ret (ret_TT Tryz.results77 hA hmd)
 ·
  rw [if_neg hc] at e1
  refine .skip ?_
  refine .seq ?_
  refine .region rfl ?_
  refine R.assign (h := ?_)
  refine .n0 ?_
  refine .seq ?_
  refine .seq ?_
  refine .region rfl ?_
  refine R.assign (h := ?_)
  refine .n0 ?_
  refine .block ?_
  refine .loop ?_
  refine LGo.nilRs 4 88 5 (h := ?_)
  refine LGo.loopG (σ := Nat × Nat × List Rule) (fun x => x.1 + x.2.1 = 10 ∧ x.2.2.length ≤ x.2.1 ∧ (rrGo kd x.1 x.2.1 x.2.2, (0 : Int)) = g) (fun x => [(5, (true, .i (x.2.1 : Nat))), (4, (true, .ref 0))]) (fun x => [(0, .rs 88 5 (x.2.2.map Rule.c))]) (fun x => x.1) ((9, 1, [])) [(0, _)] ⟨rfl, Nat.zero_le _, e1⟩ (by repeat (first | exact trivial | refine ⟨rfl, ?_⟩)) (by repeat (first | exact trivial | refine ⟨rfl, ?_⟩)) (by repeat (first | exact trivial | refine ⟨rfl, ?_⟩)) ?_
  rintro ⟨fu, k, acc⟩ ⟨q1, q2, e1⟩ ih
  dsimp only at * 
  refine .seq ?_
  refine .seq ?_
  refine .region rfl ?_
  refine R.move (h := ?_)
  refine R.bin (run_leq _ _ _ _ _ _) (h := ?_)
  refine .n0 ?_
  refine LGo.ifd (ht := fun hc2 => ?_) (hf := fun hc2 => ?_)
  ·
   obtain ⟨f, rfl⟩ : ∃ f, fu = f + 1 := ⟨fu - 1, by omega⟩
   rw [rrGo] at e1
   refine .skip ?_
   refine .seq ?_
   refine .block ?_
   refine .seq ?_
   refine .region rfl ?_
   refine R.move (h := ?_)
   refine R.move (h := ?_)
   refine R.callP (es := [_, _]) (fun _ => hasQ_P kd (k : Int)) (h := ?_)
   refine .n0 ?_
   refine LGo.ifb (ht := fun hc3 => ?_) (hf := fun hc3 => ?_)
   ·
    rw [if_pos hc3] at e1
    refine .region rfl ?_
    refine R.move (h := ?_)
    refine R.move (h := ?_)
    refine R.callP (es := [_]) (fun _ => ruleR9_P (k : Int)) (h := ?_)
    refine R.buildSliceG AP72 (xs := [_]) (es := [_]) (hcs := CellsOfs.cons (CellsOf.agg rfl) CellsOfs.nil) (h := ?_)
    refine R.appendS AP72 (hs := SrcOk.sl Tryz.underlying72 (by simp; rfl)) (hlen := by simp; omega) (h := ?_)
    refine R.assign (h := ?_)
    refine .n0 ?_
    refine .inBlock ?_
    refine .region rfl ?_
    refine R.move (h := ?_)
    first | refine R.add (h := ?_) | refine R.addW (h := ?_)
    refine R.assign (h := ?_)
    refine .n0 ?_
    refine .inLoop ?_
    exact LGo.turn [1] (b := 0) (fun o h => by have := (hA o).1 h; omega) (ih (f, k + 1, acc ++ [ruleQ k]) ⟨by dsimp only; omega, by simp; omega, e1⟩ (by dsimp only; omega)) (by repeat (first | exact trivial | refine ⟨rfl, ?_⟩)) ⟨by rw [List.map_append]; rfl, trivial⟩
   ·
    rw [if_neg (by rw [hc3]; simp)] at e1
    refine .skip ?_
    refine .inBlock ?_
    refine .region rfl ?_
    refine R.move (h := ?_)
    first | refine R.add (h := ?_) | refine R.addW (h := ?_)
    refine R.assign (h := ?_)
    refine .n0 ?_
    refine .inLoop ?_
    exact LGo.next _ (fun o h => by have := (hA o).1 h; omega) (by omega) (ih (f, k + 1, acc) ⟨by dsimp only; omega, by dsimp only; omega, e1⟩ (by dsimp only; omega)) (by repeat (first | exact trivial | refine ⟨rfl, ?_⟩)) (by repeat (first | exact trivial | refine ⟨rfl, ?_⟩))
  ·
   obtain rfl : fu = 0 := by omega
   rw [rrGo] at e1
   rw [← e1]
   refine .exit rfl ?_
   refine .seq ?_
   refine .region rfl ?_
   refine R.move (h := ?_)
   refine R.assign (h := ?_)
   refine R.assign (h := ?_)
   refine .n0 ?_
   first | refine LGo.frzT 2 (h := ?_) | refine LGo.nilSl 2 5 (h := ?_) | skip
   exact LGo.ret (ret_TT Tryz.results77 hA hmd)

/-- a field that a kind has not, and that is there -/
def bad1 (r : Rq) (t : Int) : Bool := ((decide (t = 3) || decide (t = 4)) && !decide (txtQ r t = [])) || (((!decide (t = 3)) && !decide (t = 4)) && !decide (numQ r t = 0))
def any1 (r : Rq) : Nat → Nat → Bool
  | 0, _ => false
  | n + 1, k => if hasQ r.kind k = true then any1 r n (k + 1) else if bad1 r k = true then true else any1 r n (k + 1)
def bad2 (r : Rq) (t : Int) : Bool := (decide (numQ r t < 0) || decide (uw (numQ r t) < (ruleQ t).low)) || decide ((ruleQ t).high < uw (numQ r t))
def any2 (r : Rq) : Nat → Nat → Bool
  | 0, _ => false
  | n + 1, k => if ((decide ((k : Int) = 3) || decide ((k : Int) = 4)) || !hasQ r.kind k) = true then any2 r n (k + 1) else if bad2 r k = true then true else any2 r n (k + 1)
def bad3 (r : Rq) (t : Int) : Bool := hasQ r.kind t && !decide (((txtQ r t).length : Int) = (ruleQ t).low)
def any3 (r : Rq) : Nat → Nat → Bool
  | 0, _ => false
  | n + 1, k => if bad3 r k = true then true else any3 r n (k + 1)
def refCheckQ (r : Rq) : Int := if wordQ r.kind = [] then 2 else if any1 r 8 2 = true then 2 else if any2 r 9 1 = true then 7 else if any3 r 2 3 = true then 3 else 0

end Go.Proofs.YtcobkjognpjikaaGreatDoor
