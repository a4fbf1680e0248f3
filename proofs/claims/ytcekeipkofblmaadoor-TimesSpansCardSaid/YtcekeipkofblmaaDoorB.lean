/- times: spans, and the reference's. -/
import Derived.Test.YtcekeipkofblmaaDoorA
set_option linter.unusedSimpArgs false
set_option linter.unusedVariables false
namespace Go.Proofs.YtcekeipkofblmaaDoor

def spsC (l : List Sp) : List (List SV) := l.map spC
def rowsSp (l : List (List Sp)) : List (List SV) := l.map fun s => [.sl 2 (spsC s)]
theorem spsC_length (l : List Sp) : (spsC l).length = l.length := by simp [spsC]
theorem rowsSp_length (l : List (List Sp)) : (rowsSp l).length = l.length := by simp [rowsSp]
def RS (s : Sp) : Prop := R64 s.1 ∧ R64 s.2
/-- the first that is wrong -/
def listS : List Sp → Int
  | [] => 0
  | s :: l => if chkS s = 0 then listS l else chkS s
def longS : List (List Sp) → Bool
  | [] => false
  | l :: ls => decide ((200 : Int) < l.length) || longS ls
def listsS : List (List Sp) → Int
  | [] => 0
  | l :: ls => if listS l = 0 then listsS ls else listS l
def checkS (ls : List (List Sp)) : Int := if longS ls = true then 3 else listsS ls
def orS : List Int → Int
  | [] => 0
  | x :: l => if x = 0 then orS l else x
def inS (l : List Sp) (t : Int) : Bool := l.any fun s => decide (s.1 ≤ t) && decide (t < s.2)
def sameGo : List Sp → List Sp → Bool
  | x :: a, y :: b => if (!(decide (x.1 = y.1) && decide (x.2 = y.2))) = true then false else sameGo a b
  | _, _ => true
def same (a b : List Sp) : Bool := if (!decide ((a.length : Int) = b.length)) = true then false else sameGo a b
theorem sameGo_iff : ∀ (a b : List Sp), a.length = b.length → (sameGo a b = true ↔ a = b)
  | [], [], _ => by simp [sameGo]
  | [], _ :: _, h => by simp at h
  | _ :: _, [], h => by simp at h
  | x :: a, y :: b, h => by
    have ih := sameGo_iff a b (by simpa using h)
    by_cases hxy : x = y
    · subst hxy; simp [sameGo, ih]
    · have : ¬(x.1 = y.1 ∧ x.2 = y.2) := fun e => hxy (Prod.ext e.1 e.2)
      simp only [sameGo]
      rw [if_pos (by simp; omega)]
      simp [hxy]
theorem same_iff (a b : List Sp) : same a b = true ↔ a = b := by
  unfold same
  by_cases h : a.length = b.length
  · rw [if_neg (by simp [h])]; exact sameGo_iff a b h
  · rw [if_pos (by simp; omega)]
    simp only [Bool.false_eq_true, false_iff]
    intro e; exact h (by rw [e])
theorem same_self (a : List Sp) : same a a = true := (same_iff a a).2 rfl

theorem check_P (s : Sp) : PC Tryd.prog 26 [spV s] (.i (chkS s)) := by
  refine ⟨LC.of_go Tryd.func26 (c := _) rfl (by kernel_rfl) (by rw [Tryd.ntmps26]; simp) rfl rfl (by simp [LO.lt, LV.lts, LV.lt]) (by simp) ?_⟩
  intro B hA hmd
  rw [spV_c]
  obtain ⟨g, e0⟩ : ∃ g, chkS s = g := ⟨_, rfl⟩
  have e1 := e0
  unfold chkS at e1
  rw [e0]
  refine LGo.seq ?_
  refine LGo.region rfl ?_  -- region 0
  refine R.box (h := ?_)
  refine R.assign (h := ?_)
  refine Reg.nil ⟨fun h => (by cases h), ?_⟩
  refine LGo.seq ?_
  refine LGo.block ?_
  refine LGo.seq ?_
  refine LGo.region rfl ?_  -- region 1
  first | refine R.field F43_0 (h := ?_) | refine R.fieldAt F43_0 (h := ?_)
  first | refine R.loadB O2 (h := ?_) | refine R.load1 O2 (h := ?_)
  first | refine R.field F43_1 (h := ?_) | refine R.fieldAt F43_1 (h := ?_)
  first | refine R.loadB O2 (h := ?_) | refine R.load1 O2 (h := ?_)
  refine R.buildSliceF AP34 (ic .i64 [s.1, s.2]) (xs := [_, _]) (es := [_, _]) (hcs := CellsOfs.cons (CellsOf.one rfl) (CellsOfs.cons (CellsOf.one rfl) CellsOfs.nil)) (h := ?_)
  refine R.callP (es := [_]) (fun _ => none_P s.1 s.2) (h := ?_)
  refine R.assign (h := ?_)
  refine Reg.nil ⟨fun h => (by cases h), ?_⟩
  first | refine LGo.ifd (ht := fun hc => ?_) (hf := fun hc => ?_) | refine LGo.ifb (ht := fun hc => ?_) (hf := fun hc => ?_)
  · -- then 1
    refine LGo.seq ?_
    refine LGo.region rfl ?_  -- region 2
    refine R.assign (h := ?_)
    refine Reg.nil ⟨fun h => (by cases h), ?_⟩
    obtain rfl : g = 7 := by
      clear hA hmd
      try simp only [Bool.or_eq_true, Bool.and_eq_true, decide_eq_true_eq, Bool.or_eq_false_iff, Bool.and_eq_false_iff, decide_eq_false_iff_not, Bool.not_eq_true', Bool.not_eq_false', Bool.not_eq_true, Bool.not_eq_false, Bool.false_eq_true, Bool.true_eq_false, iff_true, true_iff, iff_false, false_iff] at *
      rw [← e1]
      clear e0 e1
      (repeat' split) <;> first | (exfalso; omega) | rfl | (congr 1; omega) | (congr 2; omega) | (simp; omega)
    exact LGo.ret (ret_T Tryd.results26 hA hmd)
  · -- else 1
    refine LGo.seq ?_
    refine LGo.region rfl ?_  -- region 3
    first | refine R.field F43_0 (h := ?_) | refine R.fieldAt F43_0 (h := ?_)
    first | refine R.loadB O2 (h := ?_) | refine R.load1 O2 (h := ?_)
    first | refine R.field F43_1 (h := ?_) | refine R.fieldAt F43_1 (h := ?_)
    first | refine R.loadB O2 (h := ?_) | refine R.load1 O2 (h := ?_)
    refine R.bin (run_geq _ _ _ _ _ _) (h := ?_)
    refine R.assign (h := ?_)
    refine Reg.nil ⟨fun h => (by cases h), ?_⟩
    first | refine LGo.ifd (ht := fun hc2 => ?_) (hf := fun hc2 => ?_) | refine LGo.ifb (ht := fun hc2 => ?_) (hf := fun hc2 => ?_)
    · -- then 2
      refine LGo.seq ?_
      refine LGo.region rfl ?_  -- region 4
      refine R.assign (h := ?_)
      refine Reg.nil ⟨fun h => (by cases h), ?_⟩
      obtain rfl : g = 6 := by
        clear hA hmd
        try simp only [Bool.or_eq_true, Bool.and_eq_true, decide_eq_true_eq, Bool.or_eq_false_iff, Bool.and_eq_false_iff, decide_eq_false_iff_not, Bool.not_eq_true', Bool.not_eq_false', Bool.not_eq_true, Bool.not_eq_false, Bool.false_eq_true, Bool.true_eq_false, iff_true, true_iff, iff_false, false_iff] at *
        rw [← e1]
        clear e0 e1
        (repeat' split) <;> first | (exfalso; omega) | rfl | (congr 1; omega) | (congr 2; omega) | (simp; omega)
      exact LGo.ret (ret_T Tryd.results26 hA hmd)
    · -- else 2
      refine LGo.skip ?_
      refine LGo.inBlock ?_
      refine LGo.seq ?_
      refine LGo.region rfl ?_  -- region 5
      refine R.assign (h := ?_)
      refine Reg.nil ⟨fun h => (by cases h), ?_⟩
      obtain rfl : g = 0 := by
        clear hA hmd
        try simp only [Bool.or_eq_true, Bool.and_eq_true, decide_eq_true_eq, Bool.or_eq_false_iff, Bool.and_eq_false_iff, decide_eq_false_iff_not, Bool.not_eq_true', Bool.not_eq_false', Bool.not_eq_true, Bool.not_eq_false, Bool.false_eq_true, Bool.true_eq_false, iff_true, true_iff, iff_false, false_iff] at *
        rw [← e1]
        clear e0 e1
        (repeat' split) <;> first | (exfalso; omega) | rfl | (congr 1; omega) | (congr 2; omega) | (simp; omega)
      exact LGo.ret (ret_T Tryd.results26 hA hmd)

theorem rcheck_P (s : Sp) : PC Tryd.prog 32 [spV s] (.i (chkS s)) := by
  refine ⟨LC.of_go Tryd.func32 (c := _) rfl (by kernel_rfl) (by rw [Tryd.ntmps32]; simp) rfl rfl (by simp [LO.lt, LV.lts, LV.lt]) (by simp) ?_⟩
  intro B hA hmd
  rw [spV_c]
  have eb : bothT s.1 s.2 = if s.1 < 0 ∨ s.2 < 0 then 7 else 0 := rfl
  obtain ⟨g, e0⟩ : ∃ g, chkS s = g := ⟨_, rfl⟩
  have e1 := e0
  unfold chkS at e1
  rw [e0]
  refine LGo.seq ?_
  refine LGo.region rfl ?_  -- region 0
  refine R.box (h := ?_)
  refine R.assign (h := ?_)
  refine Reg.nil ⟨fun h => (by cases h), ?_⟩
  refine LGo.seq ?_
  refine LGo.region rfl ?_  -- region 1
  first | refine R.field F43_0 (h := ?_) | refine R.fieldAt F43_0 (h := ?_)
  by_cases hnn : s.1 < 0 ∨ s.2 < 0
  · -- case neg
    rw [if_pos hnn] at eb
    rw [if_pos hnn] at e1
    rw [← e1]
    first | refine R.loadB O2 (h := ?_) | refine R.load1 O2 (h := ?_)
    first | refine R.field F43_1 (h := ?_) | refine R.fieldAt F43_1 (h := ?_)
    first | refine R.loadB O2 (h := ?_) | refine R.load1 O2 (h := ?_)
    refine R.callP (es := [_, _]) (fun _ => both_P s.1 s.2) (h := ?_)
    rw [eb]
    refine R.assign (h := ?_)
    refine Reg.nil ⟨fun h => (by cases h), ?_⟩
    refine LGo.seq ?_
    refine LGo.seq ?_
    refine LGo.region rfl ?_  -- region 2
    refine R.move (h := ?_)
    refine R.bin (run_eql _ _ _ _ _ _) (h := ?_)
    refine R.move (h := ?_)
    first | refine R.field F43_0 (h := ?_) | refine R.fieldAt F43_0 (h := ?_)
    first | refine R.loadB O2 (h := ?_) | refine R.load1 O2 (h := ?_)
    first | refine R.field F43_1 (h := ?_) | refine R.fieldAt F43_1 (h := ?_)
    first | refine R.loadB O2 (h := ?_) | refine R.load1 O2 (h := ?_)
    refine R.bin (run_geq _ _ _ _ _ _) (h := ?_)
    refine R.and (h := ?_)
    refine Reg.nil ⟨fun h => (by cases h), ?_⟩
    refine LGo.ifb (ht := fun hc => by simp at hc) (hf := fun hc => ?_)
    refine LGo.skip ?_
    refine LGo.seq ?_
    refine LGo.region rfl ?_  -- region 4
    refine R.move (h := ?_)
    refine R.assign (h := ?_)
    refine Reg.nil ⟨fun h => (by cases h), ?_⟩
    exact LGo.ret (ret_T Tryd.results32 hA hmd)
  · -- case pos
    rw [if_neg hnn] at eb
    rw [if_neg hnn] at e1
    first | refine R.loadB O2 (h := ?_) | refine R.load1 O2 (h := ?_)
    first | refine R.field F43_1 (h := ?_) | refine R.fieldAt F43_1 (h := ?_)
    first | refine R.loadB O2 (h := ?_) | refine R.load1 O2 (h := ?_)
    refine R.callP (es := [_, _]) (fun _ => both_P s.1 s.2) (h := ?_)
    rw [eb]
    refine R.assign (h := ?_)
    refine Reg.nil ⟨fun h => (by cases h), ?_⟩
    refine LGo.seq ?_
    refine LGo.seq ?_
    refine LGo.region rfl ?_  -- region 2
    refine R.move (h := ?_)
    refine R.bin (run_eql _ _ _ _ _ _) (h := ?_)
    refine R.move (h := ?_)
    first | refine R.field F43_0 (h := ?_) | refine R.fieldAt F43_0 (h := ?_)
    first | refine R.loadB O2 (h := ?_) | refine R.load1 O2 (h := ?_)
    first | refine R.field F43_1 (h := ?_) | refine R.fieldAt F43_1 (h := ?_)
    first | refine R.loadB O2 (h := ?_) | refine R.load1 O2 (h := ?_)
    refine R.bin (run_geq _ _ _ _ _ _) (h := ?_)
    refine R.and (h := ?_)
    refine Reg.nil ⟨fun h => (by cases h), ?_⟩
    refine LGo.ifb (ht := fun hc2 => ?_) (hf := fun hc2 => ?_)
    · -- then 2
      rw [if_pos (by simpa using hc2)] at e1; rw [← e1]
      refine LGo.region rfl ?_  -- region 3
      refine R.assign (h := ?_)
      refine Reg.nil ⟨fun h => (by cases h), ?_⟩
      refine LGo.seq ?_
      refine LGo.region rfl ?_  -- region 4
      refine R.move (h := ?_)
      refine R.assign (h := ?_)
      refine Reg.nil ⟨fun h => (by cases h), ?_⟩
      exact LGo.ret (ret_T Tryd.results32 hA hmd)
    · -- else 2
      rw [if_neg (by simpa using hc2)] at e1; rw [← e1]
      refine LGo.skip ?_
      refine LGo.seq ?_
      refine LGo.region rfl ?_  -- region 4
      refine R.move (h := ?_)
      refine R.assign (h := ?_)
      refine Reg.nil ⟨fun h => (by cases h), ?_⟩
      exact LGo.ret (ret_T Tryd.results32 hA hmd)

theorem or_P (l : List Int) (hl : l.length ≤ 100000) : PC Tryd.prog 45 [.sv (.sl 1 (ic .i64 l))] (.i (orS l)) := by
  refine ⟨LC.of_go Tryd.func45 (c := _) rfl (by kernel_rfl) (by rw [Tryd.ntmps45]; simp) rfl rfl (by simp [LO.lt, LV.lts, LV.lt]) (by simp) ?_⟩
  intro B hA hmd
  refine LGo.seq ?_
  refine LGo.region rfl ?_  -- region 0
  refine R.assign (h := ?_)
  refine Reg.nil ⟨fun h => (by cases h), ?_⟩
  refine LGo.seq ?_
  refine LGo.region rfl ?_  -- region 1
  refine R.assign (h := ?_)
  refine Reg.nil ⟨fun h => (by cases h), ?_⟩
  refine LGo.seq ?_
  refine LGo.seq ?_
  refine LGo.region rfl ?_  -- region 2
  refine R.move (h := ?_)
  first | refine R.len S74 (h := ?_) | refine R.lenRs S74 (h := ?_) | refine R.lenV (run_lenNil S74) (h := ?_)
  rw [ic_len]
  refine R.move (h := ?_)
  refine Reg.nil ⟨fun h => (by cases h), ?_⟩
  refine LGo.block ?_
  refine LGo.loop ?_
  refine LGo.loopG (σ := Nat) (fun x => x ≤ l.length ∧ orS l = orS (l.drop x)) (fun x => [(8, (true, .i (x : Nat)))]) (fun x => []) (fun x => l.length - x) (0) [(3, _), (6, _), (7, _)] ⟨by simp, by simp⟩ (by repeat (first | exact trivial | refine ⟨rfl, ?_⟩)) (by repeat (first | exact trivial | refine ⟨rfl, ?_⟩)) (by repeat (first | exact trivial | refine ⟨rfl, ?_⟩)) ?_
  rintro k ⟨hk, hq⟩ ih
  refine LGo.seq ?_
  refine LGo.region rfl ?_  -- region 3
  refine R.bin (run_lss _ _ _ _ _ _) (h := ?_)
  refine Reg.nil ⟨fun h => (by cases h), ?_⟩
  refine LGo.seq ?_
  refine LGo.ifd (ht := fun hc => ?_) (hf := fun hc => ?_)
  · -- then 1
    have hlt : k < l.length := by omega
    have hx : (ic .i64 l)[((k : Nat) : Int).toNat]? = some [.val (.int .i64 l[k])] := by simp [ic, hlt]
    rw [List.drop_eq_getElem_cons hlt] at hq
    generalize l[k] = x at hx hq
    refine LGo.skip ?_
    refine LGo.seq ?_
    refine LGo.block ?_
    refine LGo.seq ?_
    refine LGo.region rfl ?_  -- region 4
    refine R.index I74 (hj := fun hg => ⟨by omega, hx⟩) (h := ?_)
    first | refine R.loadB O22 (h := ?_) | refine R.load1 O22 (h := ?_)
    refine R.assign (h := ?_)
    refine Reg.nil ⟨fun h => (by cases h), ?_⟩
    refine LGo.seq ?_
    refine LGo.region rfl ?_  -- region 5
    refine R.move (h := ?_)
    refine R.move (h := ?_)
    refine R.bin (run_neq _ _ _ _ _ _) (h := ?_)
    refine Reg.nil ⟨fun h => (by cases h), ?_⟩
    refine LGo.ifb (ht := fun hc2 => ?_) (hf := fun hc2 => ?_)
    · -- then 2
      have e2 : orS (x :: l.drop (k + 1)) = x := by simp only [orS]; rw [if_neg (by simpa using hc2)]
      rw [hq, e2]
      refine LGo.seq ?_
      refine LGo.region rfl ?_  -- region 6
      refine R.move (h := ?_)
      refine R.assign (h := ?_)
      refine Reg.nil ⟨fun h => (by cases h), ?_⟩
      exact LGo.ret (ret_T Tryd.results45 hA hmd)
    · -- else 2
      have e2 : orS (x :: l.drop (k + 1)) = orS (l.drop (k + 1)) := by simp only [orS]; rw [if_pos (by simpa using hc2)]
      rw [e2] at hq
      refine LGo.skip ?_
      refine LGo.inBlock ?_
      refine LGo.region rfl ?_  -- region 7
      first | refine R.add (h := ?_) | refine R.addW (h := ?_)
      refine R.move (h := ?_)
      refine Reg.nil ⟨fun h => (by cases h), ?_⟩
      refine LGo.inLoop ?_
      exact LGo.next _ (fun o h => by have := (hA o).1 h; omega) (by omega) (ih (k + 1) ⟨hlt, hq⟩ (by omega)) (by repeat (first | exact trivial | refine ⟨rfl, ?_⟩)) (by repeat (first | exact trivial | refine ⟨rfl, ?_⟩))
  · -- else 1
    have hk' : k = l.length := by omega
    subst hk'
    rw [List.drop_length] at hq
    simp only [orS] at hq
    rw [hq]
    refine LGo.exit rfl ?_
    refine LGo.seq ?_
    refine LGo.region rfl ?_  -- region 8
    refine R.move (h := ?_)
    refine R.assign (h := ?_)
    refine Reg.nil ⟨fun h => (by cases h), ?_⟩
    exact LGo.ret (ret_T Tryd.results45 hA hmd)

theorem meet_P (a b : Sp) : PC Tryd.prog 30 [spV a, spV b] (.tup [spV (meetS a b).1, .b (meetS a b).2.1, .i (meetS a b).2.2]) := by
  refine ⟨LC.of_go Tryd.func30 (c := _) rfl (by kernel_rfl) (by rw [Tryd.ntmps30]; simp) rfl rfl (by simp [LO.lt, LV.lts, LV.lt]) (by simp) ?_⟩
  intro B hA hmd
  rw [spV_c a, spV_c b]
  have eo : orS [chkS a, chkS b] = if chkS a = 0 then (if chkS b = 0 then 0 else chkS b) else chkS a := rfl
  obtain ⟨g, e0⟩ : ∃ g, meetS a b = g := ⟨_, rfl⟩
  have e1 := e0
  unfold meetS at e1
  rw [e0]
  refine LGo.seq ?_
  refine LGo.region rfl ?_  -- region 0
  refine R.box (h := ?_)
  refine R.box (h := ?_)
  refine R.alloc Z43 (h := ?_)
  refine R.assign (h := ?_)
  refine R.assign (h := ?_)
  refine Reg.nil ⟨fun h => (by cases h), ?_⟩
  refine LGo.seq ?_
  refine LGo.seq ?_
  refine LGo.region rfl ?_  -- region 1 DRAWS
  first | refine R.loadA A43 (h := ?_) | refine R.loadN A43 (h := ?_)
  refine R.callP (es := [_]) (fun _ => check_P a) (h := ?_)
  first | refine R.loadA A43 (h := ?_) | refine R.loadN A43 (h := ?_)
  refine R.callP (es := [_]) (fun _ => check_P b) (h := ?_)
  refine R.buildSliceF AP74 (ic .i64 [chkS a, chkS b]) (xs := [_, _]) (es := [_, _]) (hcs := CellsOfs.cons (CellsOf.one rfl) (CellsOfs.cons (CellsOf.one rfl) CellsOfs.nil)) (h := ?_)
  refine R.callP (es := [_]) (fun _ => or_P [chkS a, chkS b] (by simp)) (h := ?_)
  refine R.assign (h := ?_)
  refine Reg.nil ⟨fun _ => ⟨mixedO, by rfl, by rfl⟩, ?_⟩
  refine LGo.seq ?_
  refine LGo.region rfl ?_  -- region 2
  refine R.move (h := ?_)
  refine R.bin (run_neq _ _ _ _ _ _) (h := ?_)
  refine Reg.nil ⟨fun h => (by cases h), ?_⟩
  refine LGo.ifb (ht := fun hc => ?_) (hf := fun hc => ?_)
  · -- then 1
    obtain rfl : g = ((0, 0), false, orS [chkS a, chkS b]) := by
      rw [← e1, eo]
      rw [eo] at hc
      simp only [Bool.not_eq_true', decide_eq_false_iff_not] at hc
      split
      · rename_i h1
        rw [if_pos h1] at hc
        split
        · rename_i h2; rw [if_pos h2] at hc; exact absurd rfl hc
        · rfl
      · rfl
    refine LGo.seq ?_
    refine LGo.region rfl ?_  -- region 3
    first | refine R.loadA A43 (h := ?_) | refine R.loadN A43 (h := ?_)
    refine R.move (h := ?_)
    refine R.storeA A43 (h := ?_)
    refine R.assign (h := ?_)
    refine R.assign (h := ?_)
    refine Reg.nil ⟨fun h => (by cases h), ?_⟩
    exact LGo.ret (ret_ATT Tryd.results30 A43 hA hmd)
  · -- else 1
    have ha : chkS a = 0 ∧ chkS b = 0 := by
      rw [eo] at hc
      simp only [Bool.not_eq_false', decide_eq_true_eq] at hc
      by_cases h1 : chkS a = 0
      · rw [if_pos h1] at hc
        by_cases h2 : chkS b = 0
        · exact ⟨h1, h2⟩
        · rw [if_neg h2] at hc; exact absurd hc h2
      · rw [if_neg h1] at hc; exact absurd hc h1
    rw [if_pos ha.1, if_pos ha.2] at e1
    refine LGo.skip ?_
    refine LGo.seq ?_
    refine LGo.region rfl ?_  -- region 4
    first | refine R.field F43_0 (h := ?_) | refine R.fieldAt F43_0 (h := ?_)
    first | refine R.loadB O2 (h := ?_) | refine R.load1 O2 (h := ?_)
    first | refine R.field F43_0 (h := ?_) | refine R.fieldAt F43_0 (h := ?_)
    first | refine R.loadB O2 (h := ?_) | refine R.load1 O2 (h := ?_)
    refine R.maxI (h := ?_)
    first | refine R.field F43_1 (h := ?_) | refine R.fieldAt F43_1 (h := ?_)
    first | refine R.loadB O2 (h := ?_) | refine R.load1 O2 (h := ?_)
    first | refine R.field F43_1 (h := ?_) | refine R.fieldAt F43_1 (h := ?_)
    first | refine R.loadB O2 (h := ?_) | refine R.load1 O2 (h := ?_)
    refine R.minI (h := ?_)
    refine R.build BF43 (is := [0, 1]) (xs := [_, _]) (es := [_, _]) (h := ?_)
    refine R.alloc Z43 (h := ?_)
    refine R.storeA A43 (h := ?_)
    refine Reg.nil ⟨fun h => (by cases h), ?_⟩
    refine LGo.seq ?_
    refine LGo.seq ?_
    refine LGo.region rfl ?_  -- region 5
    first | refine R.field F43_0 (h := ?_) | refine R.fieldAt F43_0 (h := ?_)
    first | refine R.loadB O2 (h := ?_) | refine R.load1 O2 (h := ?_)
    first | refine R.field F43_1 (h := ?_) | refine R.fieldAt F43_1 (h := ?_)
    first | refine R.loadB O2 (h := ?_) | refine R.load1 O2 (h := ?_)
    refine R.bin (run_geq _ _ _ _ _ _) (h := ?_)
    refine Reg.nil ⟨fun h => (by cases h), ?_⟩
    refine LGo.ifd (ht := fun hc2 => ?_) (hf := fun hc2 => ?_)
    · -- then 2
      rw [if_pos hc2] at e1; rw [← e1]
      refine LGo.seq ?_
      refine LGo.region rfl ?_  -- region 6
      first | refine R.loadA A43 (h := ?_) | refine R.loadN A43 (h := ?_)
      refine R.storeA A43 (h := ?_)
      refine R.assign (h := ?_)
      refine R.assign (h := ?_)
      refine Reg.nil ⟨fun h => (by cases h), ?_⟩
      exact LGo.ret (ret_ATT Tryd.results30 A43 hA hmd)
    · -- else 2
      rw [if_neg hc2] at e1; rw [← e1]
      refine LGo.skip ?_
      refine LGo.seq ?_
      refine LGo.region rfl ?_  -- region 7
      first | refine R.loadA A43 (h := ?_) | refine R.loadN A43 (h := ?_)
      refine R.storeA A43 (h := ?_)
      refine R.assign (h := ?_)
      refine R.assign (h := ?_)
      refine Reg.nil ⟨fun h => (by cases h), ?_⟩
      exact LGo.ret (ret_ATT Tryd.results30 A43 hA hmd)

theorem list_P (l : List Sp) (hl : l.length ≤ 100000) : PC Tryd.prog 46 [.sv (.sl 2 (spsC l))] (.i (listS l)) := by
  refine ⟨LC.of_go Tryd.func46 (c := _) rfl (by kernel_rfl) (by rw [Tryd.ntmps46]; simp) rfl rfl (by simp [LO.lt, LV.lts, LV.lt]) (by simp) ?_⟩
  intro B hA hmd
  refine LGo.seq ?_
  refine LGo.region rfl ?_  -- region 0
  refine R.assign (h := ?_)
  refine Reg.nil ⟨fun h => (by cases h), ?_⟩
  refine LGo.seq ?_
  refine LGo.seq ?_
  refine LGo.region rfl ?_  -- region 1
  refine R.assign (h := ?_)
  refine Reg.nil ⟨fun h => (by cases h), ?_⟩
  refine LGo.block ?_
  refine LGo.loop ?_
  refine LGo.loopG (σ := Nat) (fun x => x ≤ l.length ∧ listS l = listS (l.drop x)) (fun x => [(3, (true, .i (x : Nat)))]) (fun x => []) (fun x => l.length - x) (0) [(0, _)] ⟨by simp, by simp⟩ (by repeat (first | exact trivial | refine ⟨rfl, ?_⟩)) (by repeat (first | exact trivial | refine ⟨rfl, ?_⟩)) (by repeat (first | exact trivial | refine ⟨rfl, ?_⟩)) ?_
  rintro k ⟨hk, hq⟩ ih
  refine LGo.seq ?_
  refine LGo.seq ?_
  refine LGo.region rfl ?_  -- region 2
  refine R.move (h := ?_)
  refine R.move (h := ?_)
  first | refine R.len S36 (h := ?_) | refine R.lenRs S36 (h := ?_) | refine R.lenV (run_lenNil S36) (h := ?_)
  rw [spsC_length]
  refine R.bin (run_lss _ _ _ _ _ _) (h := ?_)
  refine Reg.nil ⟨fun h => (by cases h), ?_⟩
  refine LGo.ifd (ht := fun hc => ?_) (hf := fun hc => ?_)
  · -- then 1
    have hlt : k < l.length := by omega
    have hx : (spsC l)[((k : Nat) : Int).toNat]? = some (spC l[k]) := by simp [spsC, hlt]
    have hd : l.drop k = l[k] :: l.drop (k + 1) := List.drop_eq_getElem_cons hlt
    rw [hd] at hq
    generalize l[k] = s at hx hq
    clear hd
    refine LGo.skip ?_
    refine LGo.seq ?_
    refine LGo.block ?_
    refine LGo.seq ?_
    refine LGo.region rfl ?_  -- region 4
    refine R.move (h := ?_)
    refine R.move (h := ?_)
    refine R.index I36 (hj := fun hg => ⟨by omega, hx⟩) (h := ?_)
    first | refine R.loadA A43 (h := ?_) | refine R.loadN A43 (h := ?_)
    refine R.callP (es := [_]) (fun _ => rcheck_P s) (h := ?_)
    refine R.assign (h := ?_)
    refine Reg.nil ⟨fun h => (by cases h), ?_⟩
    refine LGo.seq ?_
    refine LGo.region rfl ?_  -- region 5
    refine R.move (h := ?_)
    refine R.bin (run_neq _ _ _ _ _ _) (h := ?_)
    refine Reg.nil ⟨fun h => (by cases h), ?_⟩
    refine LGo.ifb (ht := fun hc2 => ?_) (hf := fun hc2 => ?_)
    · -- then 2
      have e2 : listS (s :: l.drop (k + 1)) = chkS s := by simp only [listS]; rw [if_neg (by simpa using hc2)]
      rw [hq, e2]
      refine LGo.seq ?_
      refine LGo.region rfl ?_  -- region 6
      refine R.move (h := ?_)
      refine R.assign (h := ?_)
      refine Reg.nil ⟨fun h => (by cases h), ?_⟩
      exact LGo.ret (ret_T Tryd.results46 hA hmd)
    · -- else 2
      have e2 : listS (s :: l.drop (k + 1)) = listS (l.drop (k + 1)) := by simp only [listS]; rw [if_pos (by simpa using hc2)]
      rw [e2] at hq
      refine LGo.skip ?_
      refine LGo.inBlock ?_
      refine LGo.region rfl ?_  -- region 3
      refine R.move (h := ?_)
      first | refine R.add (h := ?_) | refine R.addW (h := ?_)
      refine R.assign (h := ?_)
      refine Reg.nil ⟨fun h => (by cases h), ?_⟩
      refine LGo.inLoop ?_
      exact LGo.next _ (fun o h => by have := (hA o).1 h; omega) (by omega) (ih (k + 1) ⟨hlt, hq⟩ (by omega)) (by repeat (first | exact trivial | refine ⟨rfl, ?_⟩)) (by repeat (first | exact trivial | refine ⟨rfl, ?_⟩))
  · -- else 1
    have hk' : k = l.length := by omega
    subst hk'
    rw [List.drop_length] at hq
    simp only [listS] at hq
    rw [hq]
    refine LGo.exit rfl ?_
    refine LGo.seq ?_
    refine LGo.region rfl ?_  -- region 7
    refine R.assign (h := ?_)
    refine Reg.nil ⟨fun h => (by cases h), ?_⟩
    exact LGo.ret (ret_T Tryd.results46 hA hmd)

theorem in_P (l : List Sp) (t : Int) (hl : l.length ≤ 100000) : PC Tryd.prog 27 [.sv (.sl 2 (spsC l)), .i t] (.b (inS l t)) := by
  refine ⟨LC.of_go Tryd.func27 (c := _) rfl (by kernel_rfl) (by rw [Tryd.ntmps27]; simp) rfl rfl (by simp [LO.lt, LV.lts, LV.lt]) (by simp) ?_⟩
  intro B hA hmd
  refine LGo.seq ?_
  refine LGo.region rfl ?_  -- region 0
  refine R.assign (h := ?_)
  refine Reg.nil ⟨fun h => (by cases h), ?_⟩
  refine LGo.seq ?_
  refine LGo.seq ?_
  refine LGo.region rfl ?_  -- region 1
  refine R.assign (h := ?_)
  refine Reg.nil ⟨fun h => (by cases h), ?_⟩
  refine LGo.block ?_
  refine LGo.loop ?_
  refine LGo.loopG (σ := Nat) (fun x => x ≤ l.length ∧ inS l t = inS (l.drop x) t) (fun x => [(5, (true, .i (x : Nat)))]) (fun x => []) (fun x => l.length - x) (0) [(0, _), (1, _)] ⟨by simp, by simp⟩ (by repeat (first | exact trivial | refine ⟨rfl, ?_⟩)) (by repeat (first | exact trivial | refine ⟨rfl, ?_⟩)) (by repeat (first | exact trivial | refine ⟨rfl, ?_⟩)) ?_
  rintro k ⟨hk, hq⟩ ih
  refine LGo.seq ?_
  refine LGo.seq ?_
  refine LGo.region rfl ?_  -- region 2
  refine R.move (h := ?_)
  refine R.move (h := ?_)
  first | refine R.len S36 (h := ?_) | refine R.lenRs S36 (h := ?_) | refine R.lenV (run_lenNil S36) (h := ?_)
  rw [spsC_length]
  refine R.bin (run_lss _ _ _ _ _ _) (h := ?_)
  refine Reg.nil ⟨fun h => (by cases h), ?_⟩
  refine LGo.ifd (ht := fun hc => ?_) (hf := fun hc => ?_)
  · -- then 1
    have hlt : k < l.length := by omega
    have hx : (spsC l)[((k : Nat) : Int).toNat]? = some (spC l[k]) := by simp [spsC, hlt]
    have hd : l.drop k = l[k] :: l.drop (k + 1) := List.drop_eq_getElem_cons hlt
    rw [hd] at hq
    generalize l[k] = s at hx hq
    clear hd
    refine LGo.skip ?_
    refine LGo.seq ?_
    refine LGo.block ?_
    refine LGo.seq ?_
    refine LGo.region rfl ?_  -- region 4
    refine R.move (h := ?_)
    refine R.move (h := ?_)
    refine R.move (h := ?_)
    refine R.index I36 (hj := fun hg => ⟨by omega, hx⟩) (h := ?_)
    first | refine R.field F43_0 (h := ?_) | refine R.fieldAt F43_0 (h := ?_)
    first | refine R.loadB O2 (h := ?_) | refine R.load1 O2 (h := ?_)
    refine R.bin (run_geq _ _ _ _ _ _) (h := ?_)
    refine R.move (h := ?_)
    refine R.move (h := ?_)
    refine R.move (h := ?_)
    refine R.move (h := ?_)
    refine R.index I36 (hj := fun hg => ⟨by (simp at hg; omega), hx⟩) (h := ?_)
    first | refine R.field F43_1 (h := ?_) | refine R.fieldAt F43_1 (h := ?_)
    first | refine R.loadB O2 (h := ?_) | refine R.load1 O2 (h := ?_)
    refine R.bin (run_lss _ _ _ _ _ _) (h := ?_)
    refine R.and (h := ?_)
    refine Reg.nil ⟨fun h => (by cases h), ?_⟩
    refine LGo.ifb (ht := fun hc2 => ?_) (hf := fun hc2 => ?_)
    · -- then 2
      have e2 : inS (s :: l.drop (k + 1)) t = true := by simp only [inS, List.any_cons]; simp at hc2; simp [hc2]
      rw [hq, e2]
      refine LGo.seq ?_
      refine LGo.region rfl ?_  -- region 5
      refine R.assign (h := ?_)
      refine Reg.nil ⟨fun h => (by cases h), ?_⟩
      exact LGo.ret (ret_T Tryd.results27 hA hmd)
    · -- else 2
      have e2 : inS (s :: l.drop (k + 1)) t = inS (l.drop (k + 1)) t := by simp only [inS, List.any_cons]; rw [show (decide (s.1 ≤ t) && decide (t < s.2)) = false from by simpa using hc2]; rfl
      rw [e2] at hq
      refine LGo.skip ?_
      refine LGo.inBlock ?_
      refine LGo.region rfl ?_  -- region 3
      refine R.move (h := ?_)
      first | refine R.add (h := ?_) | refine R.addW (h := ?_)
      refine R.assign (h := ?_)
      refine Reg.nil ⟨fun h => (by cases h), ?_⟩
      refine LGo.inLoop ?_
      exact LGo.next _ (fun o h => by have := (hA o).1 h; omega) (by omega) (ih (k + 1) ⟨hlt, hq⟩ (by omega)) (by repeat (first | exact trivial | refine ⟨rfl, ?_⟩)) (by repeat (first | exact trivial | refine ⟨rfl, ?_⟩))
  · -- else 1
    have hk' : k = l.length := by omega
    subst hk'
    rw [List.drop_length] at hq
    have hq2 : inS l t = false := hq.trans rfl
    rw [hq2]
    refine LGo.exit rfl ?_
    refine LGo.seq ?_
    refine LGo.region rfl ?_  -- region 6
    refine R.assign (h := ?_)
    refine Reg.nil ⟨fun h => (by cases h), ?_⟩
    exact LGo.ret (ret_T Tryd.results27 hA hmd)

theorem same_P (a b : List Sp) (ha : a.length ≤ 100000) (hb : b.length ≤ 100000) : PC Tryd.prog 28 [.sv (.sl 2 (spsC a)), .sv (.sl 2 (spsC b))] (.b (same a b)) := by
  refine ⟨LC.of_go Tryd.func28 (c := _) rfl (by kernel_rfl) (by rw [Tryd.ntmps28]; simp) rfl rfl (by simp [LO.lt, LV.lts, LV.lt]) (by simp) ?_⟩
  intro B hA hmd
  refine LGo.seq ?_
  refine LGo.region rfl ?_  -- region 0
  refine R.assign (h := ?_)
  refine Reg.nil ⟨fun h => (by cases h), ?_⟩
  refine LGo.seq ?_
  refine LGo.seq ?_
  refine LGo.region rfl ?_  -- region 1
  refine R.move (h := ?_)
  first | refine R.len S36 (h := ?_) | refine R.lenRs S36 (h := ?_) | refine R.lenV (run_lenNil S36) (h := ?_)
  rw [spsC_length]
  refine R.move (h := ?_)
  first | refine R.len S36 (h := ?_) | refine R.lenRs S36 (h := ?_) | refine R.lenV (run_lenNil S36) (h := ?_)
  rw [spsC_length]
  refine R.bin (run_neq _ _ _ _ _ _) (h := ?_)
  refine Reg.nil ⟨fun h => (by cases h), ?_⟩
  first | refine LGo.ifd (ht := fun hc => ?_) (hf := fun hc => ?_) | refine LGo.ifb (ht := fun hc => ?_) (hf := fun hc => ?_)
  · -- then 1
    have e : same a b = false := by unfold same; rw [if_pos hc]
    rw [e]
    refine LGo.seq ?_
    refine LGo.region rfl ?_  -- region 2
    refine R.assign (h := ?_)
    refine Reg.nil ⟨fun h => (by cases h), ?_⟩
    exact LGo.ret (ret_T Tryd.results28 hA hmd)
  · -- else 1
    have e : same a b = sameGo a b := by unfold same; rw [if_neg (by rw [hc]; simp)]
    rw [e]
    have hll : a.length = b.length := by simp at hc; omega
    refine LGo.skip ?_
    refine LGo.seq ?_
    refine LGo.seq ?_
    refine LGo.region rfl ?_  -- region 3
    refine R.assign (h := ?_)
    refine Reg.nil ⟨fun h => (by cases h), ?_⟩
    refine LGo.block ?_
    refine LGo.loop ?_
    refine LGo.loopG (σ := Nat) (fun x => x ≤ a.length ∧ sameGo a b = sameGo (a.drop x) (b.drop x)) (fun x => [(5, (true, .i (x : Nat)))]) (fun x => []) (fun x => a.length - x) (0) [(0, _), (1, _)] ⟨by simp, by simp⟩ (by repeat (first | exact trivial | refine ⟨rfl, ?_⟩)) (by repeat (first | exact trivial | refine ⟨rfl, ?_⟩)) (by repeat (first | exact trivial | refine ⟨rfl, ?_⟩)) ?_
    rintro k ⟨hk, hq⟩ ih
    refine LGo.seq ?_
    refine LGo.seq ?_
    refine LGo.region rfl ?_  -- region 4
    refine R.move (h := ?_)
    refine R.move (h := ?_)
    first | refine R.len S36 (h := ?_) | refine R.lenRs S36 (h := ?_) | refine R.lenV (run_lenNil S36) (h := ?_)
    rw [spsC_length]
    refine R.bin (run_lss _ _ _ _ _ _) (h := ?_)
    refine Reg.nil ⟨fun h => (by cases h), ?_⟩
    refine LGo.ifd (ht := fun hc2 => ?_) (hf := fun hc2 => ?_)
    · -- then 2
      have hlt : k < a.length := by omega
      have hltb : k < b.length := by omega
      have hx : (spsC a)[((k : Nat) : Int).toNat]? = some (spC a[k]) := by simp [spsC, hlt]
      have hy : (spsC b)[((k : Nat) : Int).toNat]? = some (spC b[k]) := by simp [spsC, hltb]
      rw [List.drop_eq_getElem_cons hlt, List.drop_eq_getElem_cons hltb] at hq
      generalize a[k] = x at hx hq
      generalize b[k] = y at hy hq
      refine LGo.skip ?_
      refine LGo.seq ?_
      refine LGo.block ?_
      refine LGo.seq ?_
      refine LGo.region rfl ?_  -- region 6 DRAWS
      refine R.move (h := ?_)
      refine R.move (h := ?_)
      refine R.index I36 (hj := fun hg => ⟨by omega, hx⟩) (h := ?_)
      first | refine R.loadA A43 (h := ?_) | refine R.loadN A43 (h := ?_)
      refine R.move (h := ?_)
      refine R.move (h := ?_)
      refine R.index I36 (hj := fun hg => ⟨by omega, hy⟩) (h := ?_)
      first | refine R.loadA A43 (h := ?_) | refine R.loadN A43 (h := ?_)
      refine R.binA (NE43 _ _ _ _ _ _) (h := ?_)
      refine Reg.nil ⟨fun _ => ⟨mixedO, by rfl, by rfl⟩, ?_⟩
      first | refine LGo.ifd (ht := fun hc3 => ?_) (hf := fun hc3 => ?_) | refine LGo.ifb (ht := fun hc3 => ?_) (hf := fun hc3 => ?_)
      · -- then 3
        have e2 : sameGo (x :: a.drop (k + 1)) (y :: b.drop (k + 1)) = false := by simp only [sameGo]; exact if_pos hc3
        rw [hq, e2]
        refine LGo.seq ?_
        refine LGo.region rfl ?_  -- region 7
        refine R.assign (h := ?_)
        refine Reg.nil ⟨fun h => (by cases h), ?_⟩
        exact LGo.ret (ret_T Tryd.results28 hA hmd)
      · -- else 3
        have e2 : sameGo (x :: a.drop (k + 1)) (y :: b.drop (k + 1)) = sameGo (a.drop (k + 1)) (b.drop (k + 1)) := by simp only [sameGo]; rw [if_neg (by rw [hc3]; simp)]
        rw [e2] at hq
        refine LGo.skip ?_
        refine LGo.inBlock ?_
        refine LGo.region rfl ?_  -- region 5
        refine R.move (h := ?_)
        first | refine R.add (h := ?_) | refine R.addW (h := ?_)
        refine R.assign (h := ?_)
        refine Reg.nil ⟨fun h => (by cases h), ?_⟩
        refine LGo.inLoop ?_
        exact LGo.next _ (fun o h => by have := (hA o).1 h; omega) (by omega) (ih (k + 1) ⟨hlt, hq⟩ (by omega)) (by repeat (first | exact trivial | refine ⟨rfl, ?_⟩)) (by repeat (first | exact trivial | refine ⟨rfl, ?_⟩))
    · -- else 2
      have hk' : k = a.length := by omega
      subst hk'
      rw [List.drop_length] at hq
      simp only [sameGo] at hq
      rw [hq]
      refine LGo.exit rfl ?_
      refine LGo.seq ?_
      refine LGo.region rfl ?_  -- region 8
      refine R.assign (h := ?_)
      refine Reg.nil ⟨fun h => (by cases h), ?_⟩
      exact LGo.ret (ret_T Tryd.results28 hA hmd)

end Go.Proofs.YtcekeipkofblmaaDoor
