/- requests: Rules; the reference's kinds, tags, rules and check. -/
import Derived.Test.YtcobkjognpjikaaDoorRQ
set_option linter.unusedSimpArgs false
set_option linter.unusedVariables false
namespace Go.Proofs.YtcobkjognpjikaaDoor

def ruGo (m : Int) : Nat → Nat → List Rule → List Rule
  | 0, _, l => l
  | n + 1, k, l => if bitQ m k = 1 then ruGo m n (k + 1) (l ++ [ruleQ k]) else ruGo m n (k + 1) l
def rulesQ (k : Int) : List Rule × Int := if maskOf k = 0 then ([], 2) else (ruGo (maskOf k) 16 0 [], 0)

theorem rulesQ_P (kd : Int) : PC Tryd.prog 69 [.i kd] (.tup [.sv (.sl 5 ((rulesQ kd).1.map Rule.c)), .i (rulesQ kd).2]) := by
  refine ⟨LC.of_go Tryd.func69 (c := _) rfl (by kernel_rfl) (by rw [Tryd.ntmps69]; simp) rfl rfl (by simp [LO.lt, LV.lts, LV.lt]) (by simp) ?_⟩
  intro B hA hmd
  obtain ⟨g, e0⟩ : ∃ g, rulesQ kd = g := ⟨_, rfl⟩
  have e1 := e0
  unfold rulesQ at e1
  rw [e0]
  have hm := maskOf_lt kd
  refine LGo.seq ?_
  refine LGo.region rfl ?_  -- region 0
  refine R.assign (h := ?_)
  refine R.assign (h := ?_)
  refine Reg.nil ⟨fun h => (by cases h), ?_⟩
  refine LGo.seq ?_
  refine LGo.region rfl ?_  -- region 1
  refine R.move (h := ?_)
  refine R.callP (es := [_]) (fun _ => mask_P kd) (h := ?_)
  refine R.assign (h := ?_)
  refine Reg.nil ⟨fun h => (by cases h), ?_⟩
  refine LGo.seq ?_
  refine LGo.seq ?_
  refine LGo.region rfl ?_  -- region 2
  refine R.move (h := ?_)
  refine R.bin (run_eql _ _ _ _ _ _) (h := ?_)
  refine Reg.nil ⟨fun h => (by cases h), ?_⟩
  refine LGo.ifd (ht := fun hc => ?_) (hf := fun hc => ?_)
  · -- then 1
    rw [if_pos hc] at e1; rw [← e1]
    refine LGo.seq ?_
    refine LGo.region rfl ?_  -- region 3
    refine R.assign (h := ?_)
    refine R.assign (h := ?_)
    refine Reg.nil ⟨fun h => (by cases h), ?_⟩
    first | refine LGo.frzT 2 (h := ?_) | refine LGo.nilSl 2 5 (h := ?_) | skip
    exact LGo.ret (ret_TT Tryd.results69 hA hmd)
  · -- else 1
    rw [if_neg hc] at e1
    generalize maskOf kd = m at *
    refine LGo.skip ?_
    refine LGo.seq ?_
    refine LGo.region rfl ?_  -- region 4
    refine R.assign (h := ?_)
    refine Reg.nil ⟨fun h => (by cases h), ?_⟩
    refine LGo.seq ?_
    refine LGo.seq ?_
    refine LGo.region rfl ?_  -- region 5
    refine R.move (h := ?_)
    refine Reg.nil ⟨fun h => (by cases h), ?_⟩
    refine LGo.block ?_
    refine LGo.loop ?_
    refine LGo.nilRs 5 69 5 (h := ?_)
    refine LGo.loopG (σ := Nat × Nat × List Rule) (fun x => x.1 + x.2.1 = 16 ∧ x.2.2.length ≤ x.2.1 ∧ (ruGo m x.1 x.2.1 x.2.2, (0 : Int)) = g) (fun x => [(11, (true, .i (x.2.1 : Nat))), (5, (true, .ref 0))]) (fun x => [(0, .rs 69 5 (x.2.2.map Rule.c))]) (fun x => x.1) ((16, 0, [])) [(4, _)] ⟨rfl, Nat.le_refl _, e1⟩ (by repeat (first | exact trivial | refine ⟨rfl, ?_⟩)) (by repeat (first | exact trivial | refine ⟨rfl, ?_⟩)) (by repeat (first | exact trivial | refine ⟨rfl, ?_⟩)) ?_
    rintro ⟨fu, k, acc⟩ ⟨q1, q2, e1⟩ ih
    dsimp only at * 
    refine LGo.seq ?_
    refine LGo.region rfl ?_  -- region 6
    refine R.bin (run_lss _ _ _ _ _ _) (h := ?_)
    refine Reg.nil ⟨fun h => (by cases h), ?_⟩
    refine LGo.seq ?_
    refine LGo.ifd (ht := fun hc2 => ?_) (hf := fun hc2 => ?_)
    · -- then 2
      obtain ⟨f, rfl⟩ : ∃ f, fu = f + 1 := ⟨fu - 1, by omega⟩
      rw [ruGo] at e1
      refine LGo.skip ?_
      refine LGo.seq ?_
      refine LGo.block ?_
      refine LGo.seq ?_
      refine LGo.region rfl ?_  -- region 7
      refine R.move (h := ?_)
      refine R.assign (h := ?_)
      refine Reg.nil ⟨fun h => (by cases h), ?_⟩
      refine LGo.seq ?_
      refine LGo.region rfl ?_  -- region 8
      refine R.move (h := ?_)
      refine R.move (h := ?_)
      refine R.shr (h := ?_)
      rw [shr_u16 m k (by omega)]
      refine R.bin (run_andE _ _ _ .u16 _ 1 (and1_u16 _ (div_lt m k hm.1 hm.2).1 (div_lt m k hm.1 hm.2).2)) (h := ?_)
      refine R.bin (run_eql _ _ _ _ _ _) (h := ?_)
      refine Reg.nil ⟨fun h => (by cases h), ?_⟩
      refine LGo.ifd (ht := fun hc3 => ?_) (hf := fun hc3 => ?_)
      · -- then 3
        rw [if_pos (show bitQ m k = 1 from hc3)] at e1
        refine LGo.region rfl ?_  -- region 9
        refine R.move (h := ?_)
        refine R.move (h := ?_)
        refine R.callP (es := [_]) (fun _ => ruleQ_P (k : Int)) (h := ?_)
        refine R.buildSliceG AP63 (xs := [_]) (es := [_]) (hcs := CellsOfs.cons (CellsOf.agg rfl) CellsOfs.nil) (h := ?_)
        refine R.appendS AP63 (hs := SrcOk.sl Tryd.underlying63 (by simp; rfl)) (hlen := by simp; omega) (h := ?_)
        refine R.assign (h := ?_)
        refine Reg.nil ⟨fun h => (by cases h), ?_⟩
        refine LGo.inBlock ?_
        refine LGo.region rfl ?_  -- region 10
        first | refine R.add (h := ?_) | refine R.addW (h := ?_)
        refine R.move (h := ?_)
        refine Reg.nil ⟨fun h => (by cases h), ?_⟩
        refine LGo.inLoop ?_
        exact LGo.turn [1] (b := 0) (fun o h => by have := (hA o).1 h; omega) (ih (f, k + 1, acc ++ [ruleQ k]) ⟨by dsimp only; omega, by simp; omega, e1⟩ (by dsimp only; omega)) (by repeat (first | exact trivial | refine ⟨rfl, ?_⟩)) ⟨by rw [List.map_append]; rfl, trivial⟩
      · -- else 3
        rw [if_neg (show ¬ bitQ m k = 1 from hc3)] at e1
        refine LGo.skip ?_
        refine LGo.inBlock ?_
        refine LGo.region rfl ?_  -- region 10
        first | refine R.add (h := ?_) | refine R.addW (h := ?_)
        refine R.move (h := ?_)
        refine Reg.nil ⟨fun h => (by cases h), ?_⟩
        refine LGo.inLoop ?_
        exact LGo.next _ (fun o h => by have := (hA o).1 h; omega) (by omega) (ih (f, k + 1, acc) ⟨by dsimp only; omega, by dsimp only; omega, e1⟩ (by dsimp only; omega)) (by repeat (first | exact trivial | refine ⟨rfl, ?_⟩)) (by repeat (first | exact trivial | refine ⟨rfl, ?_⟩))
    · -- else 2
      obtain rfl : fu = 0 := by omega
      rw [ruGo] at e1
      rw [← e1]
      refine LGo.exit rfl ?_
      refine LGo.seq ?_
      refine LGo.region rfl ?_  -- region 11
      refine R.move (h := ?_)
      refine R.assign (h := ?_)
      refine R.assign (h := ?_)
      refine Reg.nil ⟨fun h => (by cases h), ?_⟩
      first | refine LGo.frzT 2 (h := ?_) | refine LGo.nilSl 2 5 (h := ?_) | skip
      exact LGo.ret (ret_TT Tryd.results69 hA hmd)

/-- the words of the kinds of requests -/
def kindW : List (List UInt8) := [[], [111, 112, 101, 110], [104, 111, 108, 100], [98, 108, 111, 99, 107], [114, 101, 108, 101, 97, 115, 101], [98, 117, 121], [116, 114, 97, 110, 115, 102, 101, 114], [114, 101, 102, 117, 110, 100], [114, 101, 118, 111, 107, 101], [118, 97, 108, 105, 100, 97, 116, 101], [106, 111, 105, 110], [108, 101, 97, 118, 101], [], [101, 110, 116, 101, 114]]
def wordQ (k : Int) : List UInt8 := if k < 1 ∨ 13 < k then [] else kindW.getD k.toNat []
theorem kindW_at {k : Int} (h : ¬ (k < 1 ∨ 13 < k)) : (strsC kindW)[k.toNat]? = some [.val (.string ⟨(wordQ k).toArray⟩)] := by
  have h1 : k.toNat < kindW.length := by simp [kindW]; omega
  rw [strsC, List.getElem?_map, wordQ, if_neg h, List.getD_eq_getElem?_getD, List.getElem?_eq_getElem h1]
  rfl

theorem wordQ_P (k : Int) : PC Tryd.prog 48 [.i k] (.t (wordQ k)) := by
  refine ⟨LC.of_go Tryd.func48 (c := _) rfl (by kernel_rfl) (by rw [Tryd.ntmps48]; simp) rfl rfl (by simp [LO.lt, LV.lts, LV.lt]) (by simp) ?_⟩
  intro B hA hmd
  refine LGo.seq ?_
  refine LGo.region rfl ?_  -- region 0
  refine R.assign (h := ?_)
  refine Reg.nil ⟨fun h => (by cases h), ?_⟩
  refine LGo.seq ?_
  refine LGo.seq ?_
  refine LGo.region rfl ?_  -- region 1
  refine R.move (h := ?_)
  refine R.bin (run_lss _ _ _ _ _ _) (h := ?_)
  refine R.move (h := ?_)
  refine R.move (h := ?_)
  refine R.bin (run_gtr _ _ _ _ _ _) (h := ?_)
  refine R.or (h := ?_)
  refine Reg.nil ⟨fun h => (by cases h), ?_⟩
  refine LGo.ifb (ht := fun hc => ?_) (hf := fun hc => ?_)
  · -- then 1
    rw [show wordQ k = [] from if_pos (by simpa using hc)]
    refine LGo.seq ?_
    refine LGo.region rfl ?_  -- region 2
    refine R.assign (h := ?_)
    refine Reg.nil ⟨fun h => (by cases h), ?_⟩
    exact LGo.ret (ret_T Tryd.results48 hA hmd)
  · -- else 1
    have hk : ¬ (k < 1 ∨ 13 < k) := by simpa using hc
    have hx := kindW_at hk
    refine LGo.skip ?_
    refine LGo.seq ?_
    refine LGo.region rfl ?_  -- region 3
    refine R.buildSliceF AP90 (strsC kindW) (xs := [_, _, _, _, _, _, _, _, _, _, _, _, _, _]) (es := [_, _, _, _, _, _, _, _, _, _, _, _, _, _]) (hcs := CellsOfs.cons (CellsOf.one rfl) (CellsOfs.cons (CellsOf.one rfl) (CellsOfs.cons (CellsOf.one rfl) (CellsOfs.cons (CellsOf.one rfl) (CellsOfs.cons (CellsOf.one rfl) (CellsOfs.cons (CellsOf.one rfl) (CellsOfs.cons (CellsOf.one rfl) (CellsOfs.cons (CellsOf.one rfl) (CellsOfs.cons (CellsOf.one rfl) (CellsOfs.cons (CellsOf.one rfl) (CellsOfs.cons (CellsOf.one rfl) (CellsOfs.cons (CellsOf.one rfl) (CellsOfs.cons (CellsOf.one rfl) (CellsOfs.cons (CellsOf.one rfl) (CellsOfs.nil))))))))))))))) (h := ?_)
    refine R.move (h := ?_)
    refine R.index I90 (hj := fun hg => ⟨by omega, hx⟩) (h := ?_)
    first | refine R.loadB O9 (h := ?_) | refine R.load1 O9 (h := ?_)
    refine R.assign (h := ?_)
    refine Reg.nil ⟨fun h => (by cases h), ?_⟩
    exact LGo.ret (ret_T Tryd.results48 hA hmd)

def tagsQ (k : Int) : List Int := if k = 1 then [2] else if k = 2 then [3, 5] else if k = 4 then [3, 5] else if k = 5 then [3, 5] else if k = 8 then [3, 5] else if k = 3 then [3, 6, 7] else if k = 6 then [3, 4, 8] else if k = 7 then [3, 4] else if k = 9 then [4] else if k = 10 then [3, 6] else if k = 11 then [3, 6] else [4, 9]
theorem tagsQ_len (k : Int) : (tagsQ k).length ≤ 3 := by unfold tagsQ; (repeat' split) <;> simp
/-- has a kind the field with a tag -/
def hasGo (t : Int) : List Int → Bool
  | [] => decide (t = 1)
  | x :: l => if x = t then true else hasGo t l
def hasQ (k t : Int) : Bool := hasGo t (tagsQ k)

theorem tagsQ_P (k : Int) : PC Tryd.prog 74 [.i k] (.sv (.sl 1 (ic .i64 (tagsQ k)))) := by
  refine ⟨LC.of_go Tryd.func74 (c := _) rfl (by kernel_rfl) (by rw [Tryd.ntmps74]; simp) rfl rfl (by simp [LO.lt, LV.lts, LV.lt]) (by simp) ?_⟩
  intro B hA hmd
  obtain ⟨g, e0⟩ : ∃ g, tagsQ k = g := ⟨_, rfl⟩
  have e1 := e0
  unfold tagsQ at e1
  rw [e0]
  refine LGo.seq ?_
  refine LGo.region rfl ?_  -- region 0
  refine R.assign (h := ?_)
  refine Reg.nil ⟨fun h => (by cases h), ?_⟩
  refine LGo.seq ?_
  refine LGo.seq ?_
  refine LGo.region rfl ?_  -- region 1
  refine R.move (h := ?_)
  refine Reg.nil ⟨fun h => (by cases h), ?_⟩
  refine LGo.block ?_
  refine LGo.seq ?_
  refine LGo.region rfl ?_  -- region 2
  refine R.bin (run_eql _ _ _ _ _ _) (h := ?_)
  refine R.assign (h := ?_)
  refine Reg.nil ⟨fun h => (by cases h), ?_⟩
  first | refine LGo.ifd (ht := fun hc => ?_) (hf := fun hc => ?_) | refine LGo.ifb (ht := fun hc => ?_) (hf := fun hc => ?_)
  · -- then 1
    rw [if_pos hc] at e1
    refine LGo.seq ?_
    refine LGo.region rfl ?_  -- region 3
    refine R.buildSliceG AP81 (xs := [_]) (es := [_]) (hcs := CellsOfs.cons (CellsOf.one rfl) CellsOfs.nil) (h := ?_)
    refine R.assign (h := ?_)
    refine Reg.nil ⟨fun h => (by cases h), ?_⟩
    rw [← e1]
    exact LGo.ret (ret_T Tryd.results74 hA hmd)
  · -- else 1
    rw [if_neg hc] at e1
    refine LGo.seq ?_
    refine LGo.seq ?_
    refine LGo.region rfl ?_  -- region 4
    refine R.bin (run_eql _ _ _ _ _ _) (h := ?_)
    refine R.assign (h := ?_)
    refine Reg.nil ⟨fun h => (by cases h), ?_⟩
    first | refine LGo.ifd (ht := fun hc2 => ?_) (hf := fun hc2 => ?_) | refine LGo.ifb (ht := fun hc2 => ?_) (hf := fun hc2 => ?_)
    · -- then 2
      rw [if_pos hc2] at e1
      refine LGo.skip ?_
      first | refine LGo.ifd (ht := fun _ => ?_) (hf := fun h => absurd hc2 h) | refine LGo.ifb (ht := fun _ => ?_) (hf := fun h => by rw [hc2] at h; cases h)
      refine LGo.seq ?_
      refine LGo.region rfl ?_  -- region 8
      refine R.buildSliceG AP81 (xs := [_, _]) (es := [_, _]) (hcs := CellsOfs.cons (CellsOf.one rfl) (CellsOfs.cons (CellsOf.one rfl) CellsOfs.nil)) (h := ?_)
      refine R.assign (h := ?_)
      refine Reg.nil ⟨fun h => (by cases h), ?_⟩
      rw [← e1]
      exact LGo.ret (ret_T Tryd.results74 hA hmd)
    · -- else 2
      rw [if_neg hc2] at e1
      refine LGo.seq ?_
      refine LGo.region rfl ?_  -- region 5
      refine R.bin (run_eql _ _ _ _ _ _) (h := ?_)
      refine R.assign (h := ?_)
      refine Reg.nil ⟨fun h => (by cases h), ?_⟩
      first | refine LGo.ifd (ht := fun hc4 => ?_) (hf := fun hc4 => ?_) | refine LGo.ifb (ht := fun hc4 => ?_) (hf := fun hc4 => ?_)
      · -- then 4
        rw [if_pos hc4] at e1
        refine LGo.skip ?_
        first | refine LGo.ifd (ht := fun _ => ?_) (hf := fun h => absurd hc4 h) | refine LGo.ifb (ht := fun _ => ?_) (hf := fun h => by rw [hc4] at h; cases h)
        refine LGo.seq ?_
        refine LGo.region rfl ?_  -- region 8
        refine R.buildSliceG AP81 (xs := [_, _]) (es := [_, _]) (hcs := CellsOfs.cons (CellsOf.one rfl) (CellsOfs.cons (CellsOf.one rfl) CellsOfs.nil)) (h := ?_)
        refine R.assign (h := ?_)
        refine Reg.nil ⟨fun h => (by cases h), ?_⟩
        rw [← e1]
        exact LGo.ret (ret_T Tryd.results74 hA hmd)
      · -- else 4
        rw [if_neg hc4] at e1
        refine LGo.seq ?_
        refine LGo.region rfl ?_  -- region 6
        refine R.bin (run_eql _ _ _ _ _ _) (h := ?_)
        refine R.assign (h := ?_)
        refine Reg.nil ⟨fun h => (by cases h), ?_⟩
        first | refine LGo.ifd (ht := fun hc6 => ?_) (hf := fun hc6 => ?_) | refine LGo.ifb (ht := fun hc6 => ?_) (hf := fun hc6 => ?_)
        · -- then 6
          rw [if_pos hc6] at e1
          refine LGo.skip ?_
          first | refine LGo.ifd (ht := fun _ => ?_) (hf := fun h => absurd hc6 h) | refine LGo.ifb (ht := fun _ => ?_) (hf := fun h => by rw [hc6] at h; cases h)
          refine LGo.seq ?_
          refine LGo.region rfl ?_  -- region 8
          refine R.buildSliceG AP81 (xs := [_, _]) (es := [_, _]) (hcs := CellsOfs.cons (CellsOf.one rfl) (CellsOfs.cons (CellsOf.one rfl) CellsOfs.nil)) (h := ?_)
          refine R.assign (h := ?_)
          refine Reg.nil ⟨fun h => (by cases h), ?_⟩
          rw [← e1]
          exact LGo.ret (ret_T Tryd.results74 hA hmd)
        · -- else 6
          rw [if_neg hc6] at e1
          refine LGo.region rfl ?_  -- region 7
          refine R.bin (run_eql _ _ _ _ _ _) (h := ?_)
          refine R.assign (h := ?_)
          refine Reg.nil ⟨fun h => (by cases h), ?_⟩
          first | refine LGo.ifd (ht := fun hc8 => ?_) (hf := fun hc8 => ?_) | refine LGo.ifb (ht := fun hc8 => ?_) (hf := fun hc8 => ?_)
          · -- then 8
            rw [if_pos hc8] at e1
            refine LGo.seq ?_
            refine LGo.region rfl ?_  -- region 8
            refine R.buildSliceG AP81 (xs := [_, _]) (es := [_, _]) (hcs := CellsOfs.cons (CellsOf.one rfl) (CellsOfs.cons (CellsOf.one rfl) CellsOfs.nil)) (h := ?_)
            refine R.assign (h := ?_)
            refine Reg.nil ⟨fun h => (by cases h), ?_⟩
            rw [← e1]
            exact LGo.ret (ret_T Tryd.results74 hA hmd)
          · -- else 8
            rw [if_neg hc8] at e1
            refine LGo.seq ?_
            refine LGo.region rfl ?_  -- region 9
            refine R.bin (run_eql _ _ _ _ _ _) (h := ?_)
            refine R.assign (h := ?_)
            refine Reg.nil ⟨fun h => (by cases h), ?_⟩
            first | refine LGo.ifd (ht := fun hc9 => ?_) (hf := fun hc9 => ?_) | refine LGo.ifb (ht := fun hc9 => ?_) (hf := fun hc9 => ?_)
            · -- then 9
              rw [if_pos hc9] at e1
              refine LGo.seq ?_
              refine LGo.region rfl ?_  -- region 10
              refine R.buildSliceG AP81 (xs := [_, _, _]) (es := [_, _, _]) (hcs := CellsOfs.cons (CellsOf.one rfl) (CellsOfs.cons (CellsOf.one rfl) (CellsOfs.cons (CellsOf.one rfl) CellsOfs.nil))) (h := ?_)
              refine R.assign (h := ?_)
              refine Reg.nil ⟨fun h => (by cases h), ?_⟩
              rw [← e1]
              exact LGo.ret (ret_T Tryd.results74 hA hmd)
            · -- else 9
              rw [if_neg hc9] at e1
              refine LGo.seq ?_
              refine LGo.region rfl ?_  -- region 11
              refine R.bin (run_eql _ _ _ _ _ _) (h := ?_)
              refine R.assign (h := ?_)
              refine Reg.nil ⟨fun h => (by cases h), ?_⟩
              first | refine LGo.ifd (ht := fun hc10 => ?_) (hf := fun hc10 => ?_) | refine LGo.ifb (ht := fun hc10 => ?_) (hf := fun hc10 => ?_)
              · -- then 10
                rw [if_pos hc10] at e1
                refine LGo.seq ?_
                refine LGo.region rfl ?_  -- region 12
                refine R.buildSliceG AP81 (xs := [_, _, _]) (es := [_, _, _]) (hcs := CellsOfs.cons (CellsOf.one rfl) (CellsOfs.cons (CellsOf.one rfl) (CellsOfs.cons (CellsOf.one rfl) CellsOfs.nil))) (h := ?_)
                refine R.assign (h := ?_)
                refine Reg.nil ⟨fun h => (by cases h), ?_⟩
                rw [← e1]
                exact LGo.ret (ret_T Tryd.results74 hA hmd)
              · -- else 10
                rw [if_neg hc10] at e1
                refine LGo.seq ?_
                refine LGo.region rfl ?_  -- region 13
                refine R.bin (run_eql _ _ _ _ _ _) (h := ?_)
                refine R.assign (h := ?_)
                refine Reg.nil ⟨fun h => (by cases h), ?_⟩
                first | refine LGo.ifd (ht := fun hc11 => ?_) (hf := fun hc11 => ?_) | refine LGo.ifb (ht := fun hc11 => ?_) (hf := fun hc11 => ?_)
                · -- then 11
                  rw [if_pos hc11] at e1
                  refine LGo.seq ?_
                  refine LGo.region rfl ?_  -- region 14
                  refine R.buildSliceG AP81 (xs := [_, _]) (es := [_, _]) (hcs := CellsOfs.cons (CellsOf.one rfl) (CellsOfs.cons (CellsOf.one rfl) CellsOfs.nil)) (h := ?_)
                  refine R.assign (h := ?_)
                  refine Reg.nil ⟨fun h => (by cases h), ?_⟩
                  rw [← e1]
                  exact LGo.ret (ret_T Tryd.results74 hA hmd)
                · -- else 11
                  rw [if_neg hc11] at e1
                  refine LGo.seq ?_
                  refine LGo.region rfl ?_  -- region 15
                  refine R.bin (run_eql _ _ _ _ _ _) (h := ?_)
                  refine R.assign (h := ?_)
                  refine Reg.nil ⟨fun h => (by cases h), ?_⟩
                  first | refine LGo.ifd (ht := fun hc12 => ?_) (hf := fun hc12 => ?_) | refine LGo.ifb (ht := fun hc12 => ?_) (hf := fun hc12 => ?_)
                  · -- then 12
                    rw [if_pos hc12] at e1
                    refine LGo.seq ?_
                    refine LGo.region rfl ?_  -- region 16
                    refine R.buildSliceG AP81 (xs := [_]) (es := [_]) (hcs := CellsOfs.cons (CellsOf.one rfl) CellsOfs.nil) (h := ?_)
                    refine R.assign (h := ?_)
                    refine Reg.nil ⟨fun h => (by cases h), ?_⟩
                    rw [← e1]
                    exact LGo.ret (ret_T Tryd.results74 hA hmd)
                  · -- else 12
                    rw [if_neg hc12] at e1
                    refine LGo.seq ?_
                    refine LGo.seq ?_
                    refine LGo.region rfl ?_  -- region 17
                    refine R.bin (run_eql _ _ _ _ _ _) (h := ?_)
                    refine R.assign (h := ?_)
                    refine Reg.nil ⟨fun h => (by cases h), ?_⟩
                    first | refine LGo.ifd (ht := fun hc13 => ?_) (hf := fun hc13 => ?_) | refine LGo.ifb (ht := fun hc13 => ?_) (hf := fun hc13 => ?_)
                    · -- then 13
                      rw [if_pos hc13] at e1
                      refine LGo.skip ?_
                      first | refine LGo.ifd (ht := fun _ => ?_) (hf := fun h => absurd hc13 h) | refine LGo.ifb (ht := fun _ => ?_) (hf := fun h => by rw [hc13] at h; cases h)
                      refine LGo.seq ?_
                      refine LGo.region rfl ?_  -- region 19
                      refine R.buildSliceG AP81 (xs := [_, _]) (es := [_, _]) (hcs := CellsOfs.cons (CellsOf.one rfl) (CellsOfs.cons (CellsOf.one rfl) CellsOfs.nil)) (h := ?_)
                      refine R.assign (h := ?_)
                      refine Reg.nil ⟨fun h => (by cases h), ?_⟩
                      rw [← e1]
                      exact LGo.ret (ret_T Tryd.results74 hA hmd)
                    · -- else 13
                      rw [if_neg hc13] at e1
                      refine LGo.region rfl ?_  -- region 18
                      refine R.bin (run_eql _ _ _ _ _ _) (h := ?_)
                      refine R.assign (h := ?_)
                      refine Reg.nil ⟨fun h => (by cases h), ?_⟩
                      first | refine LGo.ifd (ht := fun hc15 => ?_) (hf := fun hc15 => ?_) | refine LGo.ifb (ht := fun hc15 => ?_) (hf := fun hc15 => ?_)
                      · -- then 15
                        rw [if_pos hc15] at e1
                        refine LGo.seq ?_
                        refine LGo.region rfl ?_  -- region 19
                        refine R.buildSliceG AP81 (xs := [_, _]) (es := [_, _]) (hcs := CellsOfs.cons (CellsOf.one rfl) (CellsOfs.cons (CellsOf.one rfl) CellsOfs.nil)) (h := ?_)
                        refine R.assign (h := ?_)
                        refine Reg.nil ⟨fun h => (by cases h), ?_⟩
                        rw [← e1]
                        exact LGo.ret (ret_T Tryd.results74 hA hmd)
                      · -- else 15
                        rw [if_neg hc15] at e1
                        refine LGo.skip ?_
                        refine LGo.inBlock ?_
                        refine LGo.seq ?_
                        refine LGo.region rfl ?_  -- region 20
                        refine R.buildSliceG AP81 (xs := [_, _]) (es := [_, _]) (hcs := CellsOfs.cons (CellsOf.one rfl) (CellsOfs.cons (CellsOf.one rfl) CellsOfs.nil)) (h := ?_)
                        refine R.assign (h := ?_)
                        refine Reg.nil ⟨fun h => (by cases h), ?_⟩
                        rw [← e1]
                        exact LGo.ret (ret_T Tryd.results74 hA hmd)

theorem hasQ_P (kd t : Int) : PC Tryd.prog 49 [.i kd, .i t] (.b (hasQ kd t)) := by
  refine ⟨LC.of_go Tryd.func49 (c := _) rfl (by kernel_rfl) (by rw [Tryd.ntmps49]; simp) rfl rfl (by simp [LO.lt, LV.lts, LV.lt]) (by simp) ?_⟩
  intro B hA hmd
  obtain ⟨g, e0⟩ : ∃ g, hasQ kd t = g := ⟨_, rfl⟩
  have e1 := e0
  unfold hasQ at e1
  rw [e0]
  have hln := tagsQ_len kd
  refine LGo.seq ?_
  refine LGo.region rfl ?_  -- region 0
  refine R.assign (h := ?_)
  refine Reg.nil ⟨fun h => (by cases h), ?_⟩
  refine LGo.seq ?_
  refine LGo.region rfl ?_  -- region 1
  refine R.move (h := ?_)
  refine R.callP (es := [_]) (fun _ => tagsQ_P kd) (h := ?_)
  generalize tagsQ kd = xs at *
  refine R.assign (h := ?_)
  refine Reg.nil ⟨fun h => (by cases h), ?_⟩
  refine LGo.seq ?_
  refine LGo.seq ?_
  refine LGo.region rfl ?_  -- region 2
  refine R.assign (h := ?_)
  refine Reg.nil ⟨fun h => (by cases h), ?_⟩
  refine LGo.block ?_
  refine LGo.loop ?_
  refine LGo.loopG (σ := Nat) (fun x => x ≤ xs.length ∧ hasGo t (xs.drop x) = g) (fun x => [(6, (true, .i (x : Nat)))]) (fun x => []) (fun x => xs.length - x) (0) [(1, _), (5, _)] ⟨Nat.zero_le _, by simpa using e1⟩ (by repeat (first | exact trivial | refine ⟨rfl, ?_⟩)) (by repeat (first | exact trivial | refine ⟨rfl, ?_⟩)) (by repeat (first | exact trivial | refine ⟨rfl, ?_⟩)) ?_
  rintro k ⟨hk, hq⟩ ih
  refine LGo.seq ?_
  refine LGo.seq ?_
  refine LGo.region rfl ?_  -- region 3
  refine R.move (h := ?_)
  refine R.move (h := ?_)
  first | refine R.len S81 (h := ?_) | refine R.lenRs S81 (h := ?_) | refine R.lenV (run_lenNil S81) (h := ?_)
  rw [ic_len]
  refine R.bin (run_lss _ _ _ _ _ _) (h := ?_)
  refine Reg.nil ⟨fun h => (by cases h), ?_⟩
  refine LGo.ifd (ht := fun hc => ?_) (hf := fun hc => ?_)
  · -- then 1
    have hlt : k < xs.length := by omega
    have hx : (ic .i64 xs)[((k : Nat) : Int).toNat]? = some [.val (.int .i64 xs[k])] := by rw [Int.toNat_natCast]; exact ic_get (List.getElem?_eq_getElem hlt)
    rw [List.drop_eq_getElem_cons hlt, hasGo] at hq
    generalize xs[k] = x at hx hq
    refine LGo.skip ?_
    refine LGo.seq ?_
    refine LGo.block ?_
    refine LGo.seq ?_
    refine LGo.region rfl ?_  -- region 5
    refine R.move (h := ?_)
    refine R.move (h := ?_)
    refine R.index I81 (hj := fun hg => ⟨by omega, hx⟩) (h := ?_)
    first | refine R.loadB O3 (h := ?_) | refine R.load1 O3 (h := ?_)
    refine R.move (h := ?_)
    refine R.bin (run_eql _ _ _ _ _ _) (h := ?_)
    refine Reg.nil ⟨fun h => (by cases h), ?_⟩
    refine LGo.ifd (ht := fun hc2 => ?_) (hf := fun hc2 => ?_)
    · -- then 2
      rw [if_pos hc2] at hq; rw [← hq]
      refine LGo.seq ?_
      refine LGo.region rfl ?_  -- region 6
      refine R.assign (h := ?_)
      refine Reg.nil ⟨fun h => (by cases h), ?_⟩
      exact LGo.ret (ret_T Tryd.results49 hA hmd)
    · -- else 2
      rw [if_neg hc2] at hq
      refine LGo.skip ?_
      refine LGo.inBlock ?_
      refine LGo.region rfl ?_  -- region 4
      refine R.move (h := ?_)
      first | refine R.add (h := ?_) | refine R.addW (h := ?_)
      refine R.assign (h := ?_)
      refine Reg.nil ⟨fun h => (by cases h), ?_⟩
      refine LGo.inLoop ?_
      exact LGo.next _ (fun o h => by have := (hA o).1 h; omega) (by omega) (ih (k + 1) ⟨hlt, hq⟩ (by omega)) (by repeat (first | exact trivial | refine ⟨rfl, ?_⟩)) (by repeat (first | exact trivial | refine ⟨rfl, ?_⟩))
  · -- else 1
    rw [List.drop_eq_nil_of_le (by omega), hasGo] at hq; rw [← hq]
    refine LGo.exit rfl ?_
    refine LGo.seq ?_
    refine LGo.region rfl ?_  -- region 7
    refine R.move (h := ?_)
    refine R.bin (run_eql _ _ _ _ _ _) (h := ?_)
    refine R.assign (h := ?_)
    refine Reg.nil ⟨fun h => (by cases h), ?_⟩
    exact LGo.ret (ret_T Tryd.results49 hA hmd)

theorem ruleR9_P (t : Int) : PC Tryd.prog 52 [.i t] (.agg ((ruleQ t).c.map LV.sv)) := by
  refine ⟨LC.of_go Tryd.func52 (c := _) rfl (by kernel_rfl) (by rw [Tryd.ntmps52]; simp) rfl rfl (by simp [LO.lt, LV.lts, LV.lt]) (by simp) ?_⟩
  intro B hA hmd
  obtain ⟨g, e0⟩ : ∃ g, ruleQ t = g := ⟨_, rfl⟩
  have e1 := e0
  unfold ruleQ at e1
  rw [e0]
  refine LGo.seq ?_
  refine LGo.region rfl ?_  -- region 0
  refine R.alloc Z69 (h := ?_)
  refine Reg.nil ⟨fun h => (by cases h), ?_⟩
  refine LGo.seq ?_
  refine LGo.region rfl ?_  -- region 1
  refine R.move (h := ?_)
  refine R.build BF69 (is := [0, 1, 3, 4]) (xs := [_, _, _, _]) (es := [_, _, _, _]) (h := ?_)
  refine R.alloc Z69 (h := ?_)
  refine R.storeA A69 (h := ?_)
  refine Reg.nil ⟨fun h => (by cases h), ?_⟩
  refine LGo.seq ?_
  refine LGo.seq ?_
  refine LGo.region rfl ?_  -- region 2
  refine R.move (h := ?_)
  refine Reg.nil ⟨fun h => (by cases h), ?_⟩
  refine LGo.block ?_
  refine LGo.seq ?_
  refine LGo.region rfl ?_  -- region 3
  refine R.bin (run_eql _ _ _ _ _ _) (h := ?_)
  refine R.assign (h := ?_)
  refine Reg.nil ⟨fun h => (by cases h), ?_⟩
  first | refine LGo.ifd (ht := fun hc => ?_) (hf := fun hc => ?_) | refine LGo.ifb (ht := fun hc => ?_) (hf := fun hc => ?_)
  · -- then 1
    rw [if_pos hc] at e1
    refine LGo.region rfl ?_  -- region 4
    first | refine R.field F69_2 (h := ?_) | refine R.fieldAt F69_2 (h := ?_)
    refine R.storeB O22 (h := ?_)
    first | refine R.field F69_3 (h := ?_) | refine R.fieldAt F69_3 (h := ?_)
    refine R.storeB O22 (h := ?_)
    refine Reg.nil ⟨fun h => (by cases h), ?_⟩
    refine LGo.inBlock ?_
    refine LGo.seq ?_
    refine LGo.region rfl ?_  -- region 12
    first | refine R.loadA A69 (h := ?_) | refine R.loadN A69 (h := ?_)
    refine R.storeA A69 (h := ?_)
    refine Reg.nil ⟨fun h => (by cases h), ?_⟩
    rw [← e1]
    exact LGo.ret (ret_A Tryd.results52 A69 hA hmd)
  · -- else 1
    rw [if_neg hc] at e1
    refine LGo.seq ?_
    refine LGo.seq ?_
    refine LGo.region rfl ?_  -- region 5
    refine R.bin (run_eql _ _ _ _ _ _) (h := ?_)
    refine R.assign (h := ?_)
    refine Reg.nil ⟨fun h => (by cases h), ?_⟩
    first | refine LGo.ifd (ht := fun hc2 => ?_) (hf := fun hc2 => ?_) | refine LGo.ifb (ht := fun hc2 => ?_) (hf := fun hc2 => ?_)
    · -- then 2
      rw [if_pos hc2] at e1
      refine LGo.skip ?_
      first | refine LGo.ifd (ht := fun _ => ?_) (hf := fun h => absurd hc2 h) | refine LGo.ifb (ht := fun _ => ?_) (hf := fun h => by rw [hc2] at h; cases h)
      refine LGo.region rfl ?_  -- region 7
      first | refine R.field F69_3 (h := ?_) | refine R.fieldAt F69_3 (h := ?_)
      refine R.storeB O22 (h := ?_)
      refine Reg.nil ⟨fun h => (by cases h), ?_⟩
      refine LGo.inBlock ?_
      refine LGo.seq ?_
      refine LGo.region rfl ?_  -- region 12
      first | refine R.loadA A69 (h := ?_) | refine R.loadN A69 (h := ?_)
      refine R.storeA A69 (h := ?_)
      refine Reg.nil ⟨fun h => (by cases h), ?_⟩
      rw [← e1]
      exact LGo.ret (ret_A Tryd.results52 A69 hA hmd)
    · -- else 2
      rw [if_neg hc2] at e1
      refine LGo.region rfl ?_  -- region 6
      refine R.bin (run_eql _ _ _ _ _ _) (h := ?_)
      refine R.assign (h := ?_)
      refine Reg.nil ⟨fun h => (by cases h), ?_⟩
      first | refine LGo.ifd (ht := fun hc4 => ?_) (hf := fun hc4 => ?_) | refine LGo.ifb (ht := fun hc4 => ?_) (hf := fun hc4 => ?_)
      · -- then 4
        rw [if_pos hc4] at e1
        refine LGo.region rfl ?_  -- region 7
        first | refine R.field F69_3 (h := ?_) | refine R.fieldAt F69_3 (h := ?_)
        refine R.storeB O22 (h := ?_)
        refine Reg.nil ⟨fun h => (by cases h), ?_⟩
        refine LGo.inBlock ?_
        refine LGo.seq ?_
        refine LGo.region rfl ?_  -- region 12
        first | refine R.loadA A69 (h := ?_) | refine R.loadN A69 (h := ?_)
        refine R.storeA A69 (h := ?_)
        refine Reg.nil ⟨fun h => (by cases h), ?_⟩
        rw [← e1]
        exact LGo.ret (ret_A Tryd.results52 A69 hA hmd)
      · -- else 4
        rw [if_neg hc4] at e1
        refine LGo.seq ?_
        refine LGo.region rfl ?_  -- region 8
        refine R.bin (run_eql _ _ _ _ _ _) (h := ?_)
        refine R.assign (h := ?_)
        refine Reg.nil ⟨fun h => (by cases h), ?_⟩
        first | refine LGo.ifd (ht := fun hc5 => ?_) (hf := fun hc5 => ?_) | refine LGo.ifb (ht := fun hc5 => ?_) (hf := fun hc5 => ?_)
        · -- then 5
          rw [if_pos hc5] at e1
          refine LGo.region rfl ?_  -- region 9
          first | refine R.field F69_1 (h := ?_) | refine R.fieldAt F69_1 (h := ?_)
          refine R.storeB O3 (h := ?_)
          first | refine R.field F69_2 (h := ?_) | refine R.fieldAt F69_2 (h := ?_)
          refine R.storeB O22 (h := ?_)
          first | refine R.field F69_3 (h := ?_) | refine R.fieldAt F69_3 (h := ?_)
          refine R.storeB O22 (h := ?_)
          refine Reg.nil ⟨fun h => (by cases h), ?_⟩
          refine LGo.inBlock ?_
          refine LGo.seq ?_
          refine LGo.region rfl ?_  -- region 12
          first | refine R.loadA A69 (h := ?_) | refine R.loadN A69 (h := ?_)
          refine R.storeA A69 (h := ?_)
          refine Reg.nil ⟨fun h => (by cases h), ?_⟩
          rw [← e1]
          exact LGo.ret (ret_A Tryd.results52 A69 hA hmd)
        · -- else 5
          rw [if_neg hc5] at e1
          refine LGo.seq ?_
          refine LGo.region rfl ?_  -- region 10
          refine R.bin (run_eql _ _ _ _ _ _) (h := ?_)
          refine R.assign (h := ?_)
          refine Reg.nil ⟨fun h => (by cases h), ?_⟩
          first | refine LGo.ifd (ht := fun hc6 => ?_) (hf := fun hc6 => ?_) | refine LGo.ifb (ht := fun hc6 => ?_) (hf := fun hc6 => ?_)
          · -- then 6
            rw [if_pos hc6] at e1
            refine LGo.region rfl ?_  -- region 11
            first | refine R.field F69_1 (h := ?_) | refine R.fieldAt F69_1 (h := ?_)
            refine R.storeB O3 (h := ?_)
            first | refine R.field F69_2 (h := ?_) | refine R.fieldAt F69_2 (h := ?_)
            refine R.storeB O22 (h := ?_)
            first | refine R.field F69_3 (h := ?_) | refine R.fieldAt F69_3 (h := ?_)
            refine R.storeB O22 (h := ?_)
            refine Reg.nil ⟨fun h => (by cases h), ?_⟩
            refine LGo.inBlock ?_
            refine LGo.seq ?_
            refine LGo.region rfl ?_  -- region 12
            first | refine R.loadA A69 (h := ?_) | refine R.loadN A69 (h := ?_)
            refine R.storeA A69 (h := ?_)
            refine Reg.nil ⟨fun h => (by cases h), ?_⟩
            rw [← e1]
            exact LGo.ret (ret_A Tryd.results52 A69 hA hmd)
          · -- else 6
            rw [if_neg hc6] at e1
            refine LGo.skip ?_
            refine LGo.inBlock ?_
            refine LGo.seq ?_
            refine LGo.region rfl ?_  -- region 12
            first | refine R.loadA A69 (h := ?_) | refine R.loadN A69 (h := ?_)
            refine R.storeA A69 (h := ?_)
            refine Reg.nil ⟨fun h => (by cases h), ?_⟩
            rw [← e1]
            exact LGo.ret (ret_A Tryd.results52 A69 hA hmd)

def numQ (r : Rq) (t : Int) : Int := if t = 1 then (if 9223372036854775807 < r.id then -1 else r.id) else if t = 2 then r.owner else if t = 5 then r.seat else if t = 6 then r.sec else if t = 7 then r.n else if t = 8 then r.to else r.gate
def txtQ (r : Rq) (t : Int) : List UInt8 := if t = 3 then r.ses else r.tic

theorem numQ_P (r : Rq) (hr : RqOk r) (t : Int) : PC Tryd.prog 51 [.agg (r.c.map LV.sv), .i t] (.i (numQ r t)) := by
  refine ⟨LC.of_go Tryd.func51 (c := _) rfl (by kernel_rfl) (by rw [Tryd.ntmps51]; simp) rfl rfl (by simp [LO.lt, LV.lts, LV.lt]) (by simp) ?_⟩
  intro B hA hmd
  have h1 := hr.id
  have h2 := hr.owner
  have h3 := hr.to
  obtain ⟨g, e0⟩ : ∃ g, numQ r t = g := ⟨_, rfl⟩
  have e1 := e0
  unfold numQ at e1
  rw [e0]
  refine LGo.seq ?_
  refine LGo.region rfl ?_  -- region 0
  refine R.box (h := ?_)
  refine R.assign (h := ?_)
  refine Reg.nil ⟨fun h => (by cases h), ?_⟩
  refine LGo.seq ?_
  refine LGo.seq ?_
  refine LGo.region rfl ?_  -- region 1
  refine R.move (h := ?_)
  refine Reg.nil ⟨fun h => (by cases h), ?_⟩
  refine LGo.block ?_
  refine LGo.seq ?_
  refine LGo.region rfl ?_  -- region 2
  refine R.bin (run_eql _ _ _ _ _ _) (h := ?_)
  refine R.assign (h := ?_)
  refine Reg.nil ⟨fun h => (by cases h), ?_⟩
  first | refine LGo.ifd (ht := fun hc => ?_) (hf := fun hc => ?_) | refine LGo.ifb (ht := fun hc => ?_) (hf := fun hc => ?_)
  · -- then 1
    rw [if_pos hc] at e1
    refine LGo.seq ?_
    refine LGo.seq ?_
    refine LGo.region rfl ?_  -- region 3
    first | refine R.field F37_1 (h := ?_) | refine R.fieldAt F37_1 (h := ?_)
    first | refine R.loadB O22 (h := ?_) | refine R.load1 O22 (h := ?_)
    refine R.bin (run_gtr _ _ _ _ _ _) (h := ?_)
    refine Reg.nil ⟨fun h => (by cases h), ?_⟩
    first | refine LGo.ifd (ht := fun hc2 => ?_) (hf := fun hc2 => ?_) | refine LGo.ifb (ht := fun hc2 => ?_) (hf := fun hc2 => ?_)
    · -- then 2
      rw [if_pos hc2] at e1
      refine LGo.seq ?_
      refine LGo.region rfl ?_  -- region 4
      refine R.assign (h := ?_)
      refine Reg.nil ⟨fun h => (by cases h), ?_⟩
      rw [← e1]
      exact LGo.ret (ret_T Tryd.results51 hA hmd)
    · -- else 2
      rw [if_neg hc2] at e1
      refine LGo.skip ?_
      refine LGo.seq ?_
      refine LGo.region rfl ?_  -- region 5
      first | refine R.field F37_1 (h := ?_) | refine R.fieldAt F37_1 (h := ?_)
      first | refine R.loadB O22 (h := ?_) | refine R.load1 O22 (h := ?_)
      first | refine R.convI Tryd.runUnderlying22 Tryd.runUnderlying2 (h := ?_) | refine R.convW Tryd.runUnderlying22 Tryd.runUnderlying2 (h := ?_)
      refine R.assign (h := ?_)
      refine Reg.nil ⟨fun h => (by cases h), ?_⟩
      rw [← e1]
      exact LGo.ret (ret_T Tryd.results51 hA hmd)
  · -- else 1
    rw [if_neg hc] at e1
    refine LGo.seq ?_
    refine LGo.region rfl ?_  -- region 6
    refine R.bin (run_eql _ _ _ _ _ _) (h := ?_)
    refine R.assign (h := ?_)
    refine Reg.nil ⟨fun h => (by cases h), ?_⟩
    first | refine LGo.ifd (ht := fun hc3 => ?_) (hf := fun hc3 => ?_) | refine LGo.ifb (ht := fun hc3 => ?_) (hf := fun hc3 => ?_)
    · -- then 3
      rw [if_pos hc3] at e1
      refine LGo.seq ?_
      refine LGo.region rfl ?_  -- region 7
      first | refine R.field F37_2 (h := ?_) | refine R.fieldAt F37_2 (h := ?_)
      first | refine R.loadB O35 (h := ?_) | refine R.load1 O35 (h := ?_)
      first | refine R.convI Tryd.runUnderlying35 Tryd.runUnderlying2 (h := ?_) | refine R.convW Tryd.runUnderlying35 Tryd.runUnderlying2 (h := ?_)
      refine R.assign (h := ?_)
      refine Reg.nil ⟨fun h => (by cases h), ?_⟩
      rw [← e1]
      exact LGo.ret (ret_T Tryd.results51 hA hmd)
    · -- else 3
      rw [if_neg hc3] at e1
      refine LGo.seq ?_
      refine LGo.region rfl ?_  -- region 8
      refine R.bin (run_eql _ _ _ _ _ _) (h := ?_)
      refine R.assign (h := ?_)
      refine Reg.nil ⟨fun h => (by cases h), ?_⟩
      first | refine LGo.ifd (ht := fun hc4 => ?_) (hf := fun hc4 => ?_) | refine LGo.ifb (ht := fun hc4 => ?_) (hf := fun hc4 => ?_)
      · -- then 4
        rw [if_pos hc4] at e1
        refine LGo.seq ?_
        refine LGo.region rfl ?_  -- region 9
        first | refine R.field F37_6 (h := ?_) | refine R.fieldAt F37_6 (h := ?_)
        first | refine R.loadB O3 (h := ?_) | refine R.load1 O3 (h := ?_)
        refine R.assign (h := ?_)
        refine Reg.nil ⟨fun h => (by cases h), ?_⟩
        rw [← e1]
        exact LGo.ret (ret_T Tryd.results51 hA hmd)
      · -- else 4
        rw [if_neg hc4] at e1
        refine LGo.seq ?_
        refine LGo.region rfl ?_  -- region 10
        refine R.bin (run_eql _ _ _ _ _ _) (h := ?_)
        refine R.assign (h := ?_)
        refine Reg.nil ⟨fun h => (by cases h), ?_⟩
        first | refine LGo.ifd (ht := fun hc5 => ?_) (hf := fun hc5 => ?_) | refine LGo.ifb (ht := fun hc5 => ?_) (hf := fun hc5 => ?_)
        · -- then 5
          rw [if_pos hc5] at e1
          refine LGo.seq ?_
          refine LGo.region rfl ?_  -- region 11
          first | refine R.field F37_7 (h := ?_) | refine R.fieldAt F37_7 (h := ?_)
          first | refine R.loadB O3 (h := ?_) | refine R.load1 O3 (h := ?_)
          refine R.assign (h := ?_)
          refine Reg.nil ⟨fun h => (by cases h), ?_⟩
          rw [← e1]
          exact LGo.ret (ret_T Tryd.results51 hA hmd)
        · -- else 5
          rw [if_neg hc5] at e1
          refine LGo.seq ?_
          refine LGo.region rfl ?_  -- region 12
          refine R.bin (run_eql _ _ _ _ _ _) (h := ?_)
          refine R.assign (h := ?_)
          refine Reg.nil ⟨fun h => (by cases h), ?_⟩
          first | refine LGo.ifd (ht := fun hc6 => ?_) (hf := fun hc6 => ?_) | refine LGo.ifb (ht := fun hc6 => ?_) (hf := fun hc6 => ?_)
          · -- then 6
            rw [if_pos hc6] at e1
            refine LGo.seq ?_
            refine LGo.region rfl ?_  -- region 13
            first | refine R.field F37_8 (h := ?_) | refine R.fieldAt F37_8 (h := ?_)
            first | refine R.loadB O3 (h := ?_) | refine R.load1 O3 (h := ?_)
            refine R.assign (h := ?_)
            refine Reg.nil ⟨fun h => (by cases h), ?_⟩
            rw [← e1]
            exact LGo.ret (ret_T Tryd.results51 hA hmd)
          · -- else 6
            rw [if_neg hc6] at e1
            refine LGo.seq ?_
            refine LGo.region rfl ?_  -- region 14
            refine R.bin (run_eql _ _ _ _ _ _) (h := ?_)
            refine R.assign (h := ?_)
            refine Reg.nil ⟨fun h => (by cases h), ?_⟩
            first | refine LGo.ifd (ht := fun hc7 => ?_) (hf := fun hc7 => ?_) | refine LGo.ifb (ht := fun hc7 => ?_) (hf := fun hc7 => ?_)
            · -- then 7
              rw [if_pos hc7] at e1
              refine LGo.seq ?_
              refine LGo.region rfl ?_  -- region 15
              first | refine R.field F37_3 (h := ?_) | refine R.fieldAt F37_3 (h := ?_)
              first | refine R.loadB O35 (h := ?_) | refine R.load1 O35 (h := ?_)
              first | refine R.convI Tryd.runUnderlying35 Tryd.runUnderlying2 (h := ?_) | refine R.convW Tryd.runUnderlying35 Tryd.runUnderlying2 (h := ?_)
              refine R.assign (h := ?_)
              refine Reg.nil ⟨fun h => (by cases h), ?_⟩
              rw [← e1]
              exact LGo.ret (ret_T Tryd.results51 hA hmd)
            · -- else 7
              rw [if_neg hc7] at e1
              refine LGo.skip ?_
              refine LGo.inBlock ?_
              refine LGo.seq ?_
              refine LGo.region rfl ?_  -- region 16
              first | refine R.field F37_9 (h := ?_) | refine R.fieldAt F37_9 (h := ?_)
              first | refine R.loadB O3 (h := ?_) | refine R.load1 O3 (h := ?_)
              refine R.assign (h := ?_)
              refine Reg.nil ⟨fun h => (by cases h), ?_⟩
              rw [← e1]
              exact LGo.ret (ret_T Tryd.results51 hA hmd)

theorem txtQ_P (r : Rq) (t : Int) : PC Tryd.prog 50 [.agg (r.c.map LV.sv), .i t] (.t (txtQ r t)) := by
  refine ⟨LC.of_go Tryd.func50 (c := _) rfl (by kernel_rfl) (by rw [Tryd.ntmps50]; simp) rfl rfl (by simp [LO.lt, LV.lts, LV.lt]) (by simp) ?_⟩
  intro B hA hmd
  obtain ⟨g, e0⟩ : ∃ g, txtQ r t = g := ⟨_, rfl⟩
  have e1 := e0
  unfold txtQ at e1
  rw [e0]
  refine LGo.seq ?_
  refine LGo.region rfl ?_  -- region 0
  refine R.box (h := ?_)
  refine R.assign (h := ?_)
  refine Reg.nil ⟨fun h => (by cases h), ?_⟩
  refine LGo.seq ?_
  refine LGo.seq ?_
  refine LGo.region rfl ?_  -- region 1
  refine R.move (h := ?_)
  refine R.bin (run_eql _ _ _ _ _ _) (h := ?_)
  refine Reg.nil ⟨fun h => (by cases h), ?_⟩
  first | refine LGo.ifd (ht := fun hc => ?_) (hf := fun hc => ?_) | refine LGo.ifb (ht := fun hc => ?_) (hf := fun hc => ?_)
  · -- then 1
    rw [if_pos hc] at e1
    refine LGo.seq ?_
    refine LGo.region rfl ?_  -- region 2
    first | refine R.field F37_4 (h := ?_) | refine R.fieldAt F37_4 (h := ?_)
    first | refine R.loadB O9 (h := ?_) | refine R.load1 O9 (h := ?_)
    refine R.assign (h := ?_)
    refine Reg.nil ⟨fun h => (by cases h), ?_⟩
    rw [← e1]
    exact LGo.ret (ret_T Tryd.results50 hA hmd)
  · -- else 1
    rw [if_neg hc] at e1
    refine LGo.skip ?_
    refine LGo.seq ?_
    refine LGo.region rfl ?_  -- region 3
    first | refine R.field F37_5 (h := ?_) | refine R.fieldAt F37_5 (h := ?_)
    first | refine R.loadB O9 (h := ?_) | refine R.load1 O9 (h := ?_)
    refine R.assign (h := ?_)
    refine Reg.nil ⟨fun h => (by cases h), ?_⟩
    rw [← e1]
    exact LGo.ret (ret_T Tryd.results50 hA hmd)

def rrGo (kd : Int) : Nat → Nat → List Rule → List Rule
  | 0, _, l => l
  | n + 1, k, l => if hasQ kd k = true then rrGo kd n (k + 1) (l ++ [ruleQ k]) else rrGo kd n (k + 1) l
def rulesR (kd : Int) : List Rule × Int := if wordQ kd = [] then ([], 2) else (rrGo kd 9 1 [], 0)

theorem rulesR_P (kd : Int) : PC Tryd.prog 70 [.i kd] (.tup [.sv (.sl 5 ((rulesR kd).1.map Rule.c)), .i (rulesR kd).2]) := by
  refine ⟨LC.of_go Tryd.func70 (c := _) rfl (by kernel_rfl) (by rw [Tryd.ntmps70]; simp) rfl rfl (by simp [LO.lt, LV.lts, LV.lt]) (by simp) ?_⟩
  intro B hA hmd
  obtain ⟨g, e0⟩ : ∃ g, rulesR kd = g := ⟨_, rfl⟩
  have e1 := e0
  unfold rulesR at e1
  rw [e0]
  refine LGo.seq ?_
  refine LGo.region rfl ?_  -- region 0
  refine R.assign (h := ?_)
  refine R.assign (h := ?_)
  refine Reg.nil ⟨fun h => (by cases h), ?_⟩
  refine LGo.seq ?_
  refine LGo.seq ?_
  refine LGo.region rfl ?_  -- region 1
  refine R.move (h := ?_)
  refine R.callP (es := [_]) (fun _ => wordQ_P kd) (h := ?_)
  refine R.bin (run_eqlT _ _ _ _ _) (h := ?_)
  refine Reg.nil ⟨fun h => (by cases h), ?_⟩
  refine LGo.ifd (ht := fun hc => ?_) (hf := fun hc => ?_)
  · -- then 1
    rw [if_pos hc] at e1; rw [← e1]
    refine LGo.seq ?_
    refine LGo.region rfl ?_  -- region 2
    refine R.assign (h := ?_)
    refine R.assign (h := ?_)
    refine Reg.nil ⟨fun h => (by cases h), ?_⟩
    first | refine LGo.frzT 2 (h := ?_) | refine LGo.nilSl 2 5 (h := ?_) | skip
    exact LGo.ret (ret_TT Tryd.results70 hA hmd)
  · -- else 1
    rw [if_neg hc] at e1
    refine LGo.skip ?_
    refine LGo.seq ?_
    refine LGo.region rfl ?_  -- region 3
    refine R.assign (h := ?_)
    refine Reg.nil ⟨fun h => (by cases h), ?_⟩
    refine LGo.seq ?_
    refine LGo.seq ?_
    refine LGo.region rfl ?_  -- region 4
    refine R.assign (h := ?_)
    refine Reg.nil ⟨fun h => (by cases h), ?_⟩
    refine LGo.block ?_
    refine LGo.loop ?_
    refine LGo.nilRs 4 69 5 (h := ?_)
    refine LGo.loopG (σ := Nat × Nat × List Rule) (fun x => x.1 + x.2.1 = 10 ∧ x.2.2.length ≤ x.2.1 ∧ (rrGo kd x.1 x.2.1 x.2.2, (0 : Int)) = g) (fun x => [(5, (true, .i (x.2.1 : Nat))), (4, (true, .ref 0))]) (fun x => [(0, .rs 69 5 (x.2.2.map Rule.c))]) (fun x => x.1) ((9, 1, [])) [(0, _)] ⟨rfl, Nat.zero_le _, e1⟩ (by repeat (first | exact trivial | refine ⟨rfl, ?_⟩)) (by repeat (first | exact trivial | refine ⟨rfl, ?_⟩)) (by repeat (first | exact trivial | refine ⟨rfl, ?_⟩)) ?_
    rintro ⟨fu, k, acc⟩ ⟨q1, q2, e1⟩ ih
    dsimp only at * 
    refine LGo.seq ?_
    refine LGo.seq ?_
    refine LGo.region rfl ?_  -- region 5
    refine R.move (h := ?_)
    refine R.bin (run_leq _ _ _ _ _ _) (h := ?_)
    refine Reg.nil ⟨fun h => (by cases h), ?_⟩
    refine LGo.ifd (ht := fun hc2 => ?_) (hf := fun hc2 => ?_)
    · -- then 2
      obtain ⟨f, rfl⟩ : ∃ f, fu = f + 1 := ⟨fu - 1, by omega⟩
      rw [rrGo] at e1
      refine LGo.skip ?_
      refine LGo.seq ?_
      refine LGo.block ?_
      refine LGo.seq ?_
      refine LGo.region rfl ?_  -- region 7
      refine R.move (h := ?_)
      refine R.move (h := ?_)
      refine R.callP (es := [_, _]) (fun _ => hasQ_P kd (k : Int)) (h := ?_)
      refine Reg.nil ⟨fun h => (by cases h), ?_⟩
      refine LGo.ifb (ht := fun hc3 => ?_) (hf := fun hc3 => ?_)
      · -- then 3
        rw [if_pos hc3] at e1
        refine LGo.region rfl ?_  -- region 8
        refine R.move (h := ?_)
        refine R.move (h := ?_)
        refine R.callP (es := [_]) (fun _ => ruleR9_P (k : Int)) (h := ?_)
        refine R.buildSliceG AP63 (xs := [_]) (es := [_]) (hcs := CellsOfs.cons (CellsOf.agg rfl) CellsOfs.nil) (h := ?_)
        refine R.appendS AP63 (hs := SrcOk.sl Tryd.underlying63 (by simp; rfl)) (hlen := by simp; omega) (h := ?_)
        refine R.assign (h := ?_)
        refine Reg.nil ⟨fun h => (by cases h), ?_⟩
        refine LGo.inBlock ?_
        refine LGo.region rfl ?_  -- region 6
        refine R.move (h := ?_)
        first | refine R.add (h := ?_) | refine R.addW (h := ?_)
        refine R.assign (h := ?_)
        refine Reg.nil ⟨fun h => (by cases h), ?_⟩
        refine LGo.inLoop ?_
        exact LGo.turn [1] (b := 0) (fun o h => by have := (hA o).1 h; omega) (ih (f, k + 1, acc ++ [ruleQ k]) ⟨by dsimp only; omega, by simp; omega, e1⟩ (by dsimp only; omega)) (by repeat (first | exact trivial | refine ⟨rfl, ?_⟩)) ⟨by rw [List.map_append]; rfl, trivial⟩
      · -- else 3
        rw [if_neg (by rw [hc3]; simp)] at e1
        refine LGo.skip ?_
        refine LGo.inBlock ?_
        refine LGo.region rfl ?_  -- region 6
        refine R.move (h := ?_)
        first | refine R.add (h := ?_) | refine R.addW (h := ?_)
        refine R.assign (h := ?_)
        refine Reg.nil ⟨fun h => (by cases h), ?_⟩
        refine LGo.inLoop ?_
        exact LGo.next _ (fun o h => by have := (hA o).1 h; omega) (by omega) (ih (f, k + 1, acc) ⟨by dsimp only; omega, by dsimp only; omega, e1⟩ (by dsimp only; omega)) (by repeat (first | exact trivial | refine ⟨rfl, ?_⟩)) (by repeat (first | exact trivial | refine ⟨rfl, ?_⟩))
    · -- else 2
      obtain rfl : fu = 0 := by omega
      rw [rrGo] at e1
      rw [← e1]
      refine LGo.exit rfl ?_
      refine LGo.seq ?_
      refine LGo.region rfl ?_  -- region 9
      refine R.move (h := ?_)
      refine R.assign (h := ?_)
      refine R.assign (h := ?_)
      refine Reg.nil ⟨fun h => (by cases h), ?_⟩
      first | refine LGo.frzT 2 (h := ?_) | refine LGo.nilSl 2 5 (h := ?_) | skip
      exact LGo.ret (ret_TT Tryd.results70 hA hmd)

/-- a field that a kind has not, and that is there -/
def bad1 (r : Rq) (t : Int) : Bool := ((decide (t = 3) || decide (t = 4)) && !decide (txtQ r t = [])) || (((!decide (t = 3)) && !decide (t = 4)) && !decide (numQ r t = 0))
def any1 (r : Rq) : Nat → Nat → Bool
  | 0, _ => false
  | n + 1, k => if hasQ r.kind k = true then any1 r n (k + 1) else if bad1 r k = true then true else any1 r n (k + 1)
def bad2 (r : Rq) (t : Int) : Bool := (decide (numQ r t < 0) || decide (uw (numQ r t) < (ruleQ t).low)) || decide ((ruleQ t).high < uw (numQ r t))
def any2 (r : Rq) : Nat → Nat → Bool
  | 0, _ => false
  | n + 1, k => if ((decide ((k : Int) = 3) || decide ((k : Int) = 4)) || !hasQ r.kind k) = true then any2 r n (k + 1) else if bad2 r k = true then true else any2 r n (k + 1)
def bad3 (r : Rq) (t : Int) : Bool := hasQ r.kind t && !decide (((txtQ r t).length : Int) = (ruleQ t).low)
def any3 (r : Rq) : Nat → Nat → Bool
  | 0, _ => false
  | n + 1, k => if bad3 r k = true then true else any3 r n (k + 1)
def refCheckQ (r : Rq) : Int := if wordQ r.kind = [] then 2 else if any1 r 8 2 = true then 2 else if any2 r 9 1 = true then 7 else if any3 r 2 3 = true then 3 else 0

theorem txtQ_len (r : Rq) (hr : RqOk r) (t : Int) : (txtQ r t).length ≤ maxLen := by
  have h1 := hr.ses
  have h2 := hr.tic
  unfold txtQ
  split <;> assumption

theorem refCheckQ_P (r : Rq) (hr : RqOk r) : PC Tryd.prog 24 [.agg (r.c.map LV.sv)] (.i (refCheckQ r)) := by
  refine ⟨LC.of_go Tryd.func24 (c := _) rfl (by kernel_rfl) (by rw [Tryd.ntmps24]; simp) rfl rfl (by simp [LO.lt, LV.lts, LV.lt]) (by simp) ?_⟩
  intro B hA hmd
  obtain ⟨g, e0⟩ : ∃ g, refCheckQ r = g := ⟨_, rfl⟩
  have e1 := e0
  unfold refCheckQ at e1
  rw [e0]
  refine LGo.seq ?_
  refine LGo.region rfl ?_  -- region 0
  refine R.box (h := ?_)
  refine R.assign (h := ?_)
  refine Reg.nil ⟨fun h => (by cases h), ?_⟩
  refine LGo.seq ?_
  refine LGo.seq ?_
  refine LGo.region rfl ?_  -- region 1
  first | refine R.field F37_0 (h := ?_) | refine R.fieldAt F37_0 (h := ?_)
  first | refine R.loadB O3 (h := ?_) | refine R.load1 O3 (h := ?_)
  refine R.callP (es := [_]) (fun _ => wordQ_P r.kind) (h := ?_)
  refine R.bin (run_eqlT _ _ _ _ _) (h := ?_)
  refine Reg.nil ⟨fun h => (by cases h), ?_⟩
  refine LGo.ifd (ht := fun hc => ?_) (hf := fun hc => ?_)
  · -- then 1
    rw [if_pos hc] at e1; rw [← e1]
    refine LGo.seq ?_
    refine LGo.region rfl ?_  -- region 2
    refine R.assign (h := ?_)
    refine Reg.nil ⟨fun h => (by cases h), ?_⟩
    exact LGo.ret (ret_T Tryd.results24 hA hmd)
  · -- else 1
    rw [if_neg hc] at e1
    refine LGo.skip ?_
    refine LGo.seq ?_
    refine LGo.seq ?_
    refine LGo.region rfl ?_  -- region 3
    refine R.assign (h := ?_)
    refine Reg.nil ⟨fun h => (by cases h), ?_⟩
    refine LGo.block ?_
    refine LGo.loop ?_
    refine LGo.loopG (σ := Nat × Nat) (fun x => x.1 + x.2 = 10 ∧ 2 ≤ x.2 ∧ (if any1 r x.1 x.2 = true then (2 : Int) else if any2 r 9 1 = true then 7 else if any3 r 2 3 = true then 3 else 0) = g) (fun x => [(3, (true, .i (x.2 : Nat)))]) (fun x => [(0, .box 37 (r.c.map LV.sv))]) (fun x => x.1) ((8, 2)) [(1, _)] ⟨rfl, Nat.le_refl _, e1⟩ (by repeat (first | exact trivial | refine ⟨rfl, ?_⟩)) (by repeat (first | exact trivial | refine ⟨rfl, ?_⟩)) (by repeat (first | exact trivial | refine ⟨rfl, ?_⟩)) ?_
    rintro ⟨fu, k⟩ ⟨q1, q2, e1⟩ ih
    dsimp only at * 
    refine LGo.seq ?_
    refine LGo.seq ?_
    refine LGo.region rfl ?_  -- region 4
    refine R.move (h := ?_)
    refine R.bin (run_leq _ _ _ _ _ _) (h := ?_)
    refine Reg.nil ⟨fun h => (by cases h), ?_⟩
    refine LGo.ifd (ht := fun hc2 => ?_) (hf := fun hc2 => ?_)
    · -- then 2
      obtain ⟨f, rfl⟩ : ∃ f, fu = f + 1 := ⟨fu - 1, by omega⟩
      rw [any1] at e1
      refine LGo.skip ?_
      refine LGo.seq ?_
      refine LGo.block ?_
      refine LGo.seq ?_
      refine LGo.seq ?_
      refine LGo.region rfl ?_  -- region 6
      first | refine R.field F37_0 (h := ?_) | refine R.fieldAt F37_0 (h := ?_)
      first | refine R.loadB O3 (h := ?_) | refine R.load1 O3 (h := ?_)
      refine R.move (h := ?_)
      refine R.callP (es := [_, _]) (fun _ => hasQ_P r.kind (k : Int)) (h := ?_)
      refine Reg.nil ⟨fun h => (by cases h), ?_⟩
      refine LGo.ifb (ht := fun hc3 => ?_) (hf := fun hc3 => ?_)
      · -- then 3
        rw [if_pos hc3] at e1
        refine LGo.exit rfl ?_
        refine LGo.region rfl ?_  -- region 5
        refine R.move (h := ?_)
        first | refine R.add (h := ?_) | refine R.addW (h := ?_)
        refine R.assign (h := ?_)
        refine Reg.nil ⟨fun h => (by cases h), ?_⟩
        refine LGo.inLoop ?_
        exact LGo.next _ (fun o h => by have := (hA o).1 h; omega) (by omega) (ih (f, k + 1) ⟨by dsimp only; omega, by dsimp only; omega, e1⟩ (by dsimp only; omega)) (by repeat (first | exact trivial | refine ⟨rfl, ?_⟩)) (by repeat (first | exact trivial | refine ⟨rfl, ?_⟩))
      · -- else 3
        rw [if_neg (show ¬ hasQ r.kind (k : Int) = true from by rw [hc3]; simp)] at e1
        refine LGo.skip ?_
        refine LGo.seq ?_
        refine LGo.region rfl ?_  -- region 7
        refine R.move (h := ?_)
        refine R.bin (run_eql _ _ _ _ _ _) (h := ?_)
        refine R.move (h := ?_)
        refine R.move (h := ?_)
        refine R.bin (run_eql _ _ _ _ _ _) (h := ?_)
        refine R.or (h := ?_)
        refine R.move (h := ?_)
        first | refine R.loadA A37 (h := ?_) | refine R.loadN A37 (h := ?_)
        refine R.move (h := ?_)
        refine R.callP (es := [_, _]) (fun _ => txtQ_P r (k : Int)) (h := ?_)
        refine R.bin (run_neqT _ _ _ _ _) (h := ?_)
        refine R.and (h := ?_)
        refine R.move (h := ?_)
        refine R.move (h := ?_)
        refine R.bin (run_neq _ _ _ _ _ _) (h := ?_)
        refine R.move (h := ?_)
        refine R.move (h := ?_)
        refine R.bin (run_neq _ _ _ _ _ _) (h := ?_)
        refine R.and (h := ?_)
        refine R.move (h := ?_)
        first | refine R.loadA A37 (h := ?_) | refine R.loadN A37 (h := ?_)
        refine R.move (h := ?_)
        refine R.callP (es := [_, _]) (fun _ => numQ_P r hr (k : Int)) (h := ?_)
        refine R.bin (run_neq _ _ _ _ _ _) (h := ?_)
        refine R.and (h := ?_)
        refine R.or (h := ?_)
        refine Reg.nil ⟨fun h => (by cases h), ?_⟩
        refine LGo.ifb (ht := fun hc4 => ?_) (hf := fun hc4 => ?_)
        · -- then 4
          rw [if_pos (show bad1 r (k : Int) = true from hc4), if_pos rfl] at e1; rw [← e1]
          refine LGo.seq ?_
          refine LGo.region rfl ?_  -- region 8
          refine R.assign (h := ?_)
          refine Reg.nil ⟨fun h => (by cases h), ?_⟩
          exact LGo.ret (ret_T Tryd.results24 hA hmd)
        · -- else 4
          rw [if_neg (show ¬ bad1 r (k : Int) = true from by rw [show bad1 r (k : Int) = false from hc4]; simp)] at e1
          refine LGo.skip ?_
          refine LGo.inBlock ?_
          refine LGo.region rfl ?_  -- region 5
          refine R.move (h := ?_)
          first | refine R.add (h := ?_) | refine R.addW (h := ?_)
          refine R.assign (h := ?_)
          refine Reg.nil ⟨fun h => (by cases h), ?_⟩
          refine LGo.inLoop ?_
          exact LGo.next _ (fun o h => by have := (hA o).1 h; omega) (by omega) (ih (f, k + 1) ⟨by dsimp only; omega, by dsimp only; omega, e1⟩ (by dsimp only; omega)) (by repeat (first | exact trivial | refine ⟨rfl, ?_⟩)) (by repeat (first | exact trivial | refine ⟨rfl, ?_⟩))
    · -- else 2
      obtain rfl : fu = 0 := by omega
      rw [any1, if_neg (by simp)] at e1
      refine LGo.exit rfl ?_
      refine LGo.seq ?_
      refine LGo.seq ?_
      refine LGo.region rfl ?_  -- region 9
      refine R.assign (h := ?_)
      refine Reg.nil ⟨fun h => (by cases h), ?_⟩
      refine LGo.block ?_
      refine LGo.loop ?_
      refine LGo.loopG (σ := Nat × Nat) (fun x => x.1 + x.2 = 10 ∧ 1 ≤ x.2 ∧ (if any2 r x.1 x.2 = true then (7 : Int) else if any3 r 2 3 = true then 3 else 0) = g) (fun x => [(4, (true, .i (x.2 : Nat)))]) (fun x => [(0, .box 37 (r.c.map LV.sv))]) (fun x => x.1) ((9, 1)) [(1, _)] ⟨rfl, Nat.le_refl _, e1⟩ (by repeat (first | exact trivial | refine ⟨rfl, ?_⟩)) (by repeat (first | exact trivial | refine ⟨rfl, ?_⟩)) (by repeat (first | exact trivial | refine ⟨rfl, ?_⟩)) ?_
      rintro ⟨fu, k⟩ ⟨q1, q2, e1⟩ ih2
      dsimp only at * 
      refine LGo.seq ?_
      refine LGo.seq ?_
      refine LGo.region rfl ?_  -- region 10
      refine R.move (h := ?_)
      refine R.bin (run_leq _ _ _ _ _ _) (h := ?_)
      refine Reg.nil ⟨fun h => (by cases h), ?_⟩
      refine LGo.ifd (ht := fun hc5 => ?_) (hf := fun hc5 => ?_)
      · -- then 5
        obtain ⟨f, rfl⟩ : ∃ f, fu = f + 1 := ⟨fu - 1, by omega⟩
        rw [any2] at e1
        refine LGo.skip ?_
        refine LGo.seq ?_
        refine LGo.block ?_
        refine LGo.seq ?_
        refine LGo.seq ?_
        refine LGo.region rfl ?_  -- region 12
        refine R.move (h := ?_)
        refine R.bin (run_eql _ _ _ _ _ _) (h := ?_)
        refine R.move (h := ?_)
        refine R.move (h := ?_)
        refine R.bin (run_eql _ _ _ _ _ _) (h := ?_)
        refine R.or (h := ?_)
        refine R.move (h := ?_)
        first | refine R.field F37_0 (h := ?_) | refine R.fieldAt F37_0 (h := ?_)
        first | refine R.loadB O3 (h := ?_) | refine R.load1 O3 (h := ?_)
        refine R.move (h := ?_)
        refine R.callP (es := [_, _]) (fun _ => hasQ_P r.kind (k : Int)) (h := ?_)
        refine R.not (h := ?_)
        refine R.or (h := ?_)
        refine Reg.nil ⟨fun h => (by cases h), ?_⟩
        refine LGo.ifb (ht := fun hc6 => ?_) (hf := fun hc6 => ?_)
        · -- then 6
          rw [if_pos hc6] at e1
          refine LGo.exit rfl ?_
          refine LGo.region rfl ?_  -- region 11
          refine R.move (h := ?_)
          first | refine R.add (h := ?_) | refine R.addW (h := ?_)
          refine R.assign (h := ?_)
          refine Reg.nil ⟨fun h => (by cases h), ?_⟩
          refine LGo.inLoop ?_
          exact LGo.next _ (fun o h => by have := (hA o).1 h; omega) (by omega) (ih2 (f, k + 1) ⟨by dsimp only; omega, by dsimp only; omega, e1⟩ (by dsimp only; omega)) (by repeat (first | exact trivial | refine ⟨rfl, ?_⟩)) (by repeat (first | exact trivial | refine ⟨rfl, ?_⟩))
        · -- else 6
          rw [if_neg (show ¬ ((decide ((k : Int) = 3) || decide ((k : Int) = 4)) || !hasQ r.kind (k : Int)) = true from by rw [hc6]; simp)] at e1
          refine LGo.skip ?_
          refine LGo.seq ?_
          refine LGo.region rfl ?_  -- region 13
          first | refine R.loadA A37 (h := ?_) | refine R.loadN A37 (h := ?_)
          refine R.move (h := ?_)
          refine R.callP (es := [_, _]) (fun _ => numQ_P r hr (k : Int)) (h := ?_)
          refine R.assign (h := ?_)
          refine Reg.nil ⟨fun h => (by cases h), ?_⟩
          refine LGo.seq ?_
          refine LGo.region rfl ?_  -- region 14
          refine R.move (h := ?_)
          refine R.bin (run_lss _ _ _ _ _ _) (h := ?_)
          refine R.move (h := ?_)
          refine R.move (h := ?_)
          refine R.convW Tryd.runUnderlying2 Tryd.runUnderlying22 (h := ?_)
          rw [uw_wrap]
          refine R.move (h := ?_)
          refine R.callP (es := [_]) (fun _ => ruleR9_P (k : Int)) (h := ?_)
          refine R.fieldV V69_2 (h := ?_)
          refine R.bin (run_lss _ _ _ _ _ _) (h := ?_)
          refine R.or (h := ?_)
          refine R.move (h := ?_)
          refine R.move (h := ?_)
          refine R.convW Tryd.runUnderlying2 Tryd.runUnderlying22 (h := ?_)
          rw [uw_wrap]
          refine R.move (h := ?_)
          refine R.callP (es := [_]) (fun _ => ruleR9_P (k : Int)) (h := ?_)
          refine R.fieldV V69_3 (h := ?_)
          refine R.bin (run_gtr _ _ _ _ _ _) (h := ?_)
          refine R.or (h := ?_)
          refine Reg.nil ⟨fun h => (by cases h), ?_⟩
          refine LGo.ifb (ht := fun hc7 => ?_) (hf := fun hc7 => ?_)
          · -- then 7
            rw [if_pos (show bad2 r (k : Int) = true from hc7), if_pos rfl] at e1; rw [← e1]
            refine LGo.seq ?_
            refine LGo.region rfl ?_  -- region 15
            refine R.assign (h := ?_)
            refine Reg.nil ⟨fun h => (by cases h), ?_⟩
            exact LGo.ret (ret_T Tryd.results24 hA hmd)
          · -- else 7
            rw [if_neg (show ¬ bad2 r (k : Int) = true from by rw [show bad2 r (k : Int) = false from hc7]; simp)] at e1
            refine LGo.skip ?_
            refine LGo.inBlock ?_
            refine LGo.region rfl ?_  -- region 11
            refine R.move (h := ?_)
            first | refine R.add (h := ?_) | refine R.addW (h := ?_)
            refine R.assign (h := ?_)
            refine Reg.nil ⟨fun h => (by cases h), ?_⟩
            refine LGo.inLoop ?_
            exact LGo.next _ (fun o h => by have := (hA o).1 h; omega) (by omega) (ih2 (f, k + 1) ⟨by dsimp only; omega, by dsimp only; omega, e1⟩ (by dsimp only; omega)) (by repeat (first | exact trivial | refine ⟨rfl, ?_⟩)) (by repeat (first | exact trivial | refine ⟨rfl, ?_⟩))
      · -- else 5
        obtain rfl : fu = 0 := by omega
        rw [any2, if_neg (by simp)] at e1
        refine LGo.exit rfl ?_
        refine LGo.seq ?_
        refine LGo.seq ?_
        refine LGo.region rfl ?_  -- region 16
        refine R.assign (h := ?_)
        refine Reg.nil ⟨fun h => (by cases h), ?_⟩
        refine LGo.block ?_
        refine LGo.loop ?_
        refine LGo.loopG (σ := Nat × Nat) (fun x => x.1 + x.2 = 5 ∧ 3 ≤ x.2 ∧ (if any3 r x.1 x.2 = true then (3 : Int) else 0) = g) (fun x => [(6, (true, .i (x.2 : Nat)))]) (fun x => [(0, .box 37 (r.c.map LV.sv))]) (fun x => x.1) ((2, 3)) [(1, _)] ⟨rfl, Nat.le_refl _, e1⟩ (by repeat (first | exact trivial | refine ⟨rfl, ?_⟩)) (by repeat (first | exact trivial | refine ⟨rfl, ?_⟩)) (by repeat (first | exact trivial | refine ⟨rfl, ?_⟩)) ?_
        rintro ⟨fu, k⟩ ⟨q1, q2, e1⟩ ih3
        dsimp only at * 
        refine LGo.seq ?_
        refine LGo.seq ?_
        refine LGo.region rfl ?_  -- region 17
        refine R.move (h := ?_)
        refine R.bin (run_leq _ _ _ _ _ _) (h := ?_)
        refine Reg.nil ⟨fun h => (by cases h), ?_⟩
        refine LGo.ifd (ht := fun hc8 => ?_) (hf := fun hc8 => ?_)
        · -- then 8
          obtain ⟨f, rfl⟩ : ∃ f, fu = f + 1 := ⟨fu - 1, by omega⟩
          rw [any3] at e1
          have hln := txtQ_len r hr (k : Int)
          refine LGo.skip ?_
          refine LGo.seq ?_
          refine LGo.block ?_
          refine LGo.seq ?_
          refine LGo.region rfl ?_  -- region 19
          first | refine R.field F37_0 (h := ?_) | refine R.fieldAt F37_0 (h := ?_)
          first | refine R.loadB O3 (h := ?_) | refine R.load1 O3 (h := ?_)
          refine R.move (h := ?_)
          refine R.callP (es := [_, _]) (fun _ => hasQ_P r.kind (k : Int)) (h := ?_)
          refine R.move (h := ?_)
          first | refine R.loadA A37 (h := ?_) | refine R.loadN A37 (h := ?_)
          refine R.move (h := ?_)
          refine R.callP (es := [_, _]) (fun _ => txtQ_P r (k : Int)) (h := ?_)
          refine R.lenT Tryd.runUnderlying9 (h := ?_)
          refine R.convW Tryd.runUnderlying3 Tryd.runUnderlying22 (h := ?_)
          rw [show IntKind.u64.wrap ((txtQ r (k : Int)).length : Int) = ((txtQ r (k : Int)).length : Int) from by rw [IntKind.wrap_u64]; unfold maxLen at hln; omega]
          refine R.move (h := ?_)
          refine R.callP (es := [_]) (fun _ => ruleR9_P (k : Int)) (h := ?_)
          refine R.fieldV V69_2 (h := ?_)
          refine R.bin (run_neq _ _ _ _ _ _) (h := ?_)
          refine R.and (h := ?_)
          refine Reg.nil ⟨fun h => (by cases h), ?_⟩
          refine LGo.ifb (ht := fun hc9 => ?_) (hf := fun hc9 => ?_)
          · -- then 9
            rw [if_pos (show bad3 r (k : Int) = true from hc9), if_pos rfl] at e1; rw [← e1]
            refine LGo.seq ?_
            refine LGo.region rfl ?_  -- region 20
            refine R.assign (h := ?_)
            refine Reg.nil ⟨fun h => (by cases h), ?_⟩
            exact LGo.ret (ret_T Tryd.results24 hA hmd)
          · -- else 9
            rw [if_neg (show ¬ bad3 r (k : Int) = true from by rw [show bad3 r (k : Int) = false from hc9]; simp)] at e1
            refine LGo.skip ?_
            refine LGo.inBlock ?_
            refine LGo.region rfl ?_  -- region 18
            refine R.move (h := ?_)
            first | refine R.add (h := ?_) | refine R.addW (h := ?_)
            refine R.assign (h := ?_)
            refine Reg.nil ⟨fun h => (by cases h), ?_⟩
            refine LGo.inLoop ?_
            exact LGo.next _ (fun o h => by have := (hA o).1 h; omega) (by omega) (ih3 (f, k + 1) ⟨by dsimp only; omega, by dsimp only; omega, e1⟩ (by dsimp only; omega)) (by repeat (first | exact trivial | refine ⟨rfl, ?_⟩)) (by repeat (first | exact trivial | refine ⟨rfl, ?_⟩))
        · -- else 8
          obtain rfl : fu = 0 := by omega
          rw [any3, if_neg (by simp)] at e1
          rw [← e1]
          refine LGo.exit rfl ?_
          refine LGo.seq ?_
          refine LGo.region rfl ?_  -- region 21
          refine R.assign (h := ?_)
          refine Reg.nil ⟨fun h => (by cases h), ?_⟩
          exact LGo.ret (ret_T Tryd.results24 hA hmd)

end Go.Proofs.YtcobkjognpjikaaDoor
