/- words: what may stand plain between quotes, letters of escapes, quoting. -/
import Derived.Test.YtcobkjognpjikaaDoorT
set_option linter.unusedSimpArgs false
set_option linter.unusedVariables false
namespace Go.Proofs.YtcobkjognpjikaaDoor

def plainC (c : UInt8) : Bool := decide (32 ≤ c.toNat) && decide (c.toNat ≤ 126) && !decide (c.toNat = 34) && !decide (c.toNat = 92)
def escL (c : UInt8) : UInt8 := if c.toNat = 34 then 34 else if c.toNat = 92 then 92 else if c.toNat = 10 then 110 else if c.toNat = 13 then 114 else if c.toNat = 9 then 116 else 0
def hexT : List UInt8 := [48, 49, 50, 51, 52, 53, 54, 55, 56, 57, 97, 98, 99, 100, 101, 102]
def hexD (n : Nat) : UInt8 := hexT.getD n 0
def escaped (c : UInt8) : List UInt8 := if plainC c = true then [c] else if escL c ≠ 0 then [92, escL c] else [92, 120, hexD (c.toNat / 16), hexD (c.toNat % 16)]
def quote (s : List UInt8) : List UInt8 := 34 :: (s.flatMap escaped ++ [34])
/-- the value of a digit of base 16; 16: it is none -/
def hexV (c : UInt8) : Nat := hexT.idxOf c
def unesc : List UInt8 → UInt8 × Nat
  | [] => (0, 0)
  | a :: r =>
    if a.toNat = 34 then (34, 1) else if a.toNat = 92 then (92, 1) else if a.toNat = 110 then (10, 1) else if a.toNat = 114 then (13, 1) else if a.toNat = 116 then (9, 1)
    else if a.toNat ≠ 120 then (0, 0) else match r with
      | h :: l :: _ => if 16 ≤ hexV h ∨ 16 ≤ hexV l then (0, 0) else if (plainC (UInt8.ofNat (16 * hexV h + hexV l)) || decide (escL (UInt8.ofNat (16 * hexV h + hexV l)) ≠ 0)) = true then (0, 0) else (UInt8.ofNat (16 * hexV h + hexV l), 3)
      | _ => (0, 0)
def unqGo : Nat → List UInt8 → List UInt8 → Nat → List UInt8 × Nat
  | 0, _, _, _ => ([], 0)
  | _ + 1, [], _, _ => ([], 0)
  | f + 1, c :: r, acc, i =>
    if c.toNat = 34 then (acc, i + 1) else if c.toNat = 92 then (if (unesc r).2 = 0 then ([], 0) else unqGo f (r.drop (unesc r).2) (acc ++ [(unesc r).1]) (i + 1 + (unesc r).2))
    else if plainC c = true then unqGo f r (acc ++ [c]) (i + 1) else ([], 0)
def unq : List UInt8 → List UInt8 × Nat
  | [] => ([], 0)
  | a :: r => if a.toNat = 34 then unqGo (r.length + 1) r [] 1 else ([], 0)

theorem u8_all {p : UInt8 → Prop} [DecidablePred p] (h : ((List.range 256).all fun n => decide (p (UInt8.ofNat n))) = true) (c : UInt8) : p c := by
  have h1 := List.all_eq_true.1 h c.toNat (List.mem_range.2 c.toNat_lt)
  have h2 : UInt8.ofNat c.toNat = c := UInt8.ofNat_toNat
  rw [h2] at h1
  exact of_decide_eq_true h1

theorem tabE : (1, escTab.map (Value.int .u8)) ∈ tabs := by simp [tabs]
theorem plainC_int (c : UInt8) : plainC c = (decide ((c.toNat : Int) ≥ 32) && decide ((c.toNat : Int) ≤ 126) && !decide ((c.toNat : Int) = 34) && !decide ((c.toNat : Int) = 92)) := by
  rw [Bool.eq_iff_iff]
  simp [plainC]
  omega

theorem isPlain_P (c : UInt8) : PC Tryd.prog 76 [.y c.toNat] (.b (plainC c)) := by
  refine ⟨LC.of_go Tryd.func76 (c := _) rfl (by kernel_rfl) (by rw [Tryd.ntmps76]; simp) rfl rfl (by simp [LO.lt, LV.lts, LV.lt]) (by simp) ?_⟩
  intro B hA hmd
  rw [plainC_int]
  refine LGo.seq ?_
  refine LGo.region rfl ?_  -- region 0
  refine R.assign (h := ?_)
  refine Reg.nil ⟨fun h => (by cases h), ?_⟩
  refine LGo.seq ?_
  refine LGo.region rfl ?_  -- region 1
  refine R.move (h := ?_)
  refine R.bin (run_geq _ _ _ _ _ _) (h := ?_)
  refine R.move (h := ?_)
  refine R.move (h := ?_)
  refine R.bin (run_leq _ _ _ _ _ _) (h := ?_)
  refine R.and (h := ?_)
  refine R.move (h := ?_)
  refine R.move (h := ?_)
  refine R.bin (run_neq _ _ _ _ _ _) (h := ?_)
  refine R.and (h := ?_)
  refine R.move (h := ?_)
  refine R.move (h := ?_)
  refine R.bin (run_neq _ _ _ _ _ _) (h := ?_)
  refine R.and (h := ?_)
  refine R.assign (h := ?_)
  refine Reg.nil ⟨fun h => (by cases h), ?_⟩
  exact LGo.ret (ret_T Tryd.results76 hA hmd)

theorem letterOf_P (c : UInt8) : PC Tryd.prog 75 [.y c.toNat] (.y (escL c).toNat) := by
  refine ⟨LC.of_go Tryd.func75 (c := _) rfl (by kernel_rfl) (by rw [Tryd.ntmps75]; simp) rfl rfl (by simp [LO.lt, LV.lts, LV.lt]) (by simp) ?_⟩
  intro B hA hmd
  refine LGo.seq ?_
  refine LGo.region rfl ?_  -- region 0
  refine R.assign (h := ?_)
  refine Reg.nil ⟨fun h => (by cases h), ?_⟩
  refine LGo.seq ?_
  refine LGo.seq ?_
  refine LGo.region rfl ?_  -- region 1
  refine R.gLoadN A137 (hm := tabE) (h := ?_)
  refine R.move (h := ?_)
  refine Reg.nil ⟨fun h => (by cases h), ?_⟩
  refine LGo.block ?_
  refine LGo.loop ?_
  refine LGo.loopG (σ := Nat) (fun x => x ≤ 5 ∧ (1 ≤ x → c.toNat ≠ 34) ∧ (2 ≤ x → c.toNat ≠ 92) ∧ (3 ≤ x → c.toNat ≠ 10) ∧ (4 ≤ x → c.toNat ≠ 13) ∧ (5 ≤ x → c.toNat ≠ 9)) (fun x => [(6, (true, .i (x : Nat)))]) (fun x => []) (fun x => 5 - x) (0) [(0, _), (5, _)] ⟨by omega, by omega, by omega, by omega, by omega, by omega⟩ (by repeat (first | exact trivial | refine ⟨rfl, ?_⟩)) (by repeat (first | exact trivial | refine ⟨rfl, ?_⟩)) (by repeat (first | exact trivial | refine ⟨rfl, ?_⟩)) ?_
  rintro k ⟨hk, q1, q2, q3, q4, q5⟩ ih
  refine LGo.seq ?_
  refine LGo.region rfl ?_  -- region 2
  refine R.bin (run_lss _ _ _ _ _ _) (h := ?_)
  refine Reg.nil ⟨fun h => (by cases h), ?_⟩
  refine LGo.seq ?_
  refine LGo.ifd (ht := fun hc => ?_) (hf := fun hc => ?_)
  · -- then 1
    refine LGo.skip ?_
    refine LGo.seq ?_
    refine LGo.block ?_
    refine LGo.seq ?_
    refine LGo.region rfl ?_  -- region 3
    rcases (show k = 0 ∨ k = 1 ∨ k = 2 ∨ k = 3 ∨ k = 4 by omega) with rfl | rfl | rfl | rfl | rfl
    · -- case a
      refine R.indexVN IV137 (hj := fun _ => by omega) (h := ?_)
      have he : ((((escTab.map (Value.int .u8)).drop (Int.toNat ((0 : Nat) : Int) * 2)).take 2).map LV.v) = [.y 34, .y 34] := rfl
      rw [he]
      clear he
      refine R.alloc Z136 (h := ?_)
      refine R.storeA A136 (h := ?_)
      refine Reg.nil ⟨fun h => (by cases h), ?_⟩
      refine LGo.seq ?_
      refine LGo.region rfl ?_  -- region 4
      first | refine R.field F136_0 (h := ?_) | refine R.fieldAt F136_0 (h := ?_)
      first | refine R.loadB O5 (h := ?_) | refine R.load1 O5 (h := ?_)
      refine R.move (h := ?_)
      refine R.bin (run_eql _ _ _ _ _ _) (h := ?_)
      refine Reg.nil ⟨fun h => (by cases h), ?_⟩
      first | refine LGo.ifd (ht := fun hc2 => ?_) (hf := fun hc2 => ?_) | refine LGo.ifb (ht := fun hc2 => ?_) (hf := fun hc2 => ?_)
      · -- then 2
        rw [show escL c = 34 from by unfold escL; rw [if_pos (by omega)]]
        refine LGo.seq ?_
        refine LGo.region rfl ?_  -- region 5
        first | refine R.field F136_1 (h := ?_) | refine R.fieldAt F136_1 (h := ?_)
        first | refine R.loadB O5 (h := ?_) | refine R.load1 O5 (h := ?_)
        refine R.assign (h := ?_)
        refine Reg.nil ⟨fun h => (by cases h), ?_⟩
        exact LGo.ret (ret_T Tryd.results75 hA hmd)
      · -- else 2
        refine LGo.skip ?_
        refine LGo.inBlock ?_
        refine LGo.region rfl ?_  -- region 6
        first | refine R.add (h := ?_) | refine R.addW (h := ?_)
        refine R.move (h := ?_)
        refine Reg.nil ⟨fun h => (by cases h), ?_⟩
        refine LGo.inLoop ?_
        exact LGo.next _ (fun o h => by have := (hA o).1 h; omega) (by omega) (ih 1 ⟨by omega, by omega, by omega, by omega, by omega, by omega⟩ (by omega)) (by repeat (first | exact trivial | refine ⟨rfl, ?_⟩)) (by repeat (first | exact trivial | refine ⟨rfl, ?_⟩))
    · -- case b
      refine R.indexVN IV137 (hj := fun _ => by omega) (h := ?_)
      have he : ((((escTab.map (Value.int .u8)).drop (Int.toNat ((1 : Nat) : Int) * 2)).take 2).map LV.v) = [.y 92, .y 92] := rfl
      rw [he]
      clear he
      refine R.alloc Z136 (h := ?_)
      refine R.storeA A136 (h := ?_)
      refine Reg.nil ⟨fun h => (by cases h), ?_⟩
      refine LGo.seq ?_
      refine LGo.region rfl ?_  -- region 4
      first | refine R.field F136_0 (h := ?_) | refine R.fieldAt F136_0 (h := ?_)
      first | refine R.loadB O5 (h := ?_) | refine R.load1 O5 (h := ?_)
      refine R.move (h := ?_)
      refine R.bin (run_eql _ _ _ _ _ _) (h := ?_)
      refine Reg.nil ⟨fun h => (by cases h), ?_⟩
      first | refine LGo.ifd (ht := fun hc3 => ?_) (hf := fun hc3 => ?_) | refine LGo.ifb (ht := fun hc3 => ?_) (hf := fun hc3 => ?_)
      · -- then 3
        rw [show escL c = 92 from by unfold escL; rw [if_neg (q1 (by omega)), if_pos (by omega)]]
        refine LGo.seq ?_
        refine LGo.region rfl ?_  -- region 5
        first | refine R.field F136_1 (h := ?_) | refine R.fieldAt F136_1 (h := ?_)
        first | refine R.loadB O5 (h := ?_) | refine R.load1 O5 (h := ?_)
        refine R.assign (h := ?_)
        refine Reg.nil ⟨fun h => (by cases h), ?_⟩
        exact LGo.ret (ret_T Tryd.results75 hA hmd)
      · -- else 3
        refine LGo.skip ?_
        refine LGo.inBlock ?_
        refine LGo.region rfl ?_  -- region 6
        first | refine R.add (h := ?_) | refine R.addW (h := ?_)
        refine R.move (h := ?_)
        refine Reg.nil ⟨fun h => (by cases h), ?_⟩
        refine LGo.inLoop ?_
        exact LGo.next _ (fun o h => by have := (hA o).1 h; omega) (by omega) (ih 2 ⟨by omega, by omega, by omega, by omega, by omega, by omega⟩ (by omega)) (by repeat (first | exact trivial | refine ⟨rfl, ?_⟩)) (by repeat (first | exact trivial | refine ⟨rfl, ?_⟩))
    · -- case c
      refine R.indexVN IV137 (hj := fun _ => by omega) (h := ?_)
      have he : ((((escTab.map (Value.int .u8)).drop (Int.toNat ((2 : Nat) : Int) * 2)).take 2).map LV.v) = [.y 10, .y 110] := rfl
      rw [he]
      clear he
      refine R.alloc Z136 (h := ?_)
      refine R.storeA A136 (h := ?_)
      refine Reg.nil ⟨fun h => (by cases h), ?_⟩
      refine LGo.seq ?_
      refine LGo.region rfl ?_  -- region 4
      first | refine R.field F136_0 (h := ?_) | refine R.fieldAt F136_0 (h := ?_)
      first | refine R.loadB O5 (h := ?_) | refine R.load1 O5 (h := ?_)
      refine R.move (h := ?_)
      refine R.bin (run_eql _ _ _ _ _ _) (h := ?_)
      refine Reg.nil ⟨fun h => (by cases h), ?_⟩
      first | refine LGo.ifd (ht := fun hc4 => ?_) (hf := fun hc4 => ?_) | refine LGo.ifb (ht := fun hc4 => ?_) (hf := fun hc4 => ?_)
      · -- then 4
        rw [show escL c = 110 from by unfold escL; rw [if_neg (q1 (by omega)), if_neg (q2 (by omega)), if_pos (by omega)]]
        refine LGo.seq ?_
        refine LGo.region rfl ?_  -- region 5
        first | refine R.field F136_1 (h := ?_) | refine R.fieldAt F136_1 (h := ?_)
        first | refine R.loadB O5 (h := ?_) | refine R.load1 O5 (h := ?_)
        refine R.assign (h := ?_)
        refine Reg.nil ⟨fun h => (by cases h), ?_⟩
        exact LGo.ret (ret_T Tryd.results75 hA hmd)
      · -- else 4
        refine LGo.skip ?_
        refine LGo.inBlock ?_
        refine LGo.region rfl ?_  -- region 6
        first | refine R.add (h := ?_) | refine R.addW (h := ?_)
        refine R.move (h := ?_)
        refine Reg.nil ⟨fun h => (by cases h), ?_⟩
        refine LGo.inLoop ?_
        exact LGo.next _ (fun o h => by have := (hA o).1 h; omega) (by omega) (ih 3 ⟨by omega, by omega, by omega, by omega, by omega, by omega⟩ (by omega)) (by repeat (first | exact trivial | refine ⟨rfl, ?_⟩)) (by repeat (first | exact trivial | refine ⟨rfl, ?_⟩))
    · -- case d
      refine R.indexVN IV137 (hj := fun _ => by omega) (h := ?_)
      have he : ((((escTab.map (Value.int .u8)).drop (Int.toNat ((3 : Nat) : Int) * 2)).take 2).map LV.v) = [.y 13, .y 114] := rfl
      rw [he]
      clear he
      refine R.alloc Z136 (h := ?_)
      refine R.storeA A136 (h := ?_)
      refine Reg.nil ⟨fun h => (by cases h), ?_⟩
      refine LGo.seq ?_
      refine LGo.region rfl ?_  -- region 4
      first | refine R.field F136_0 (h := ?_) | refine R.fieldAt F136_0 (h := ?_)
      first | refine R.loadB O5 (h := ?_) | refine R.load1 O5 (h := ?_)
      refine R.move (h := ?_)
      refine R.bin (run_eql _ _ _ _ _ _) (h := ?_)
      refine Reg.nil ⟨fun h => (by cases h), ?_⟩
      first | refine LGo.ifd (ht := fun hc5 => ?_) (hf := fun hc5 => ?_) | refine LGo.ifb (ht := fun hc5 => ?_) (hf := fun hc5 => ?_)
      · -- then 5
        rw [show escL c = 114 from by unfold escL; rw [if_neg (q1 (by omega)), if_neg (q2 (by omega)), if_neg (q3 (by omega)), if_pos (by omega)]]
        refine LGo.seq ?_
        refine LGo.region rfl ?_  -- region 5
        first | refine R.field F136_1 (h := ?_) | refine R.fieldAt F136_1 (h := ?_)
        first | refine R.loadB O5 (h := ?_) | refine R.load1 O5 (h := ?_)
        refine R.assign (h := ?_)
        refine Reg.nil ⟨fun h => (by cases h), ?_⟩
        exact LGo.ret (ret_T Tryd.results75 hA hmd)
      · -- else 5
        refine LGo.skip ?_
        refine LGo.inBlock ?_
        refine LGo.region rfl ?_  -- region 6
        first | refine R.add (h := ?_) | refine R.addW (h := ?_)
        refine R.move (h := ?_)
        refine Reg.nil ⟨fun h => (by cases h), ?_⟩
        refine LGo.inLoop ?_
        exact LGo.next _ (fun o h => by have := (hA o).1 h; omega) (by omega) (ih 4 ⟨by omega, by omega, by omega, by omega, by omega, by omega⟩ (by omega)) (by repeat (first | exact trivial | refine ⟨rfl, ?_⟩)) (by repeat (first | exact trivial | refine ⟨rfl, ?_⟩))
    · -- case e
      refine R.indexVN IV137 (hj := fun _ => by omega) (h := ?_)
      have he : ((((escTab.map (Value.int .u8)).drop (Int.toNat ((4 : Nat) : Int) * 2)).take 2).map LV.v) = [.y 9, .y 116] := rfl
      rw [he]
      clear he
      refine R.alloc Z136 (h := ?_)
      refine R.storeA A136 (h := ?_)
      refine Reg.nil ⟨fun h => (by cases h), ?_⟩
      refine LGo.seq ?_
      refine LGo.region rfl ?_  -- region 4
      first | refine R.field F136_0 (h := ?_) | refine R.fieldAt F136_0 (h := ?_)
      first | refine R.loadB O5 (h := ?_) | refine R.load1 O5 (h := ?_)
      refine R.move (h := ?_)
      refine R.bin (run_eql _ _ _ _ _ _) (h := ?_)
      refine Reg.nil ⟨fun h => (by cases h), ?_⟩
      first | refine LGo.ifd (ht := fun hc6 => ?_) (hf := fun hc6 => ?_) | refine LGo.ifb (ht := fun hc6 => ?_) (hf := fun hc6 => ?_)
      · -- then 6
        rw [show escL c = 116 from by unfold escL; rw [if_neg (q1 (by omega)), if_neg (q2 (by omega)), if_neg (q3 (by omega)), if_neg (q4 (by omega)), if_pos (by omega)]]
        refine LGo.seq ?_
        refine LGo.region rfl ?_  -- region 5
        first | refine R.field F136_1 (h := ?_) | refine R.fieldAt F136_1 (h := ?_)
        first | refine R.loadB O5 (h := ?_) | refine R.load1 O5 (h := ?_)
        refine R.assign (h := ?_)
        refine Reg.nil ⟨fun h => (by cases h), ?_⟩
        exact LGo.ret (ret_T Tryd.results75 hA hmd)
      · -- else 6
        refine LGo.skip ?_
        refine LGo.inBlock ?_
        refine LGo.region rfl ?_  -- region 6
        first | refine R.add (h := ?_) | refine R.addW (h := ?_)
        refine R.move (h := ?_)
        refine Reg.nil ⟨fun h => (by cases h), ?_⟩
        refine LGo.inLoop ?_
        exact LGo.next _ (fun o h => by have := (hA o).1 h; omega) (by omega) (ih 5 ⟨by omega, by omega, by omega, by omega, by omega, by omega⟩ (by omega)) (by repeat (first | exact trivial | refine ⟨rfl, ?_⟩)) (by repeat (first | exact trivial | refine ⟨rfl, ?_⟩))
  · -- else 1
    rw [show escL c = 0 from by unfold escL; rw [if_neg (q1 (by omega)), if_neg (q2 (by omega)), if_neg (q3 (by omega)), if_neg (q4 (by omega)), if_neg (q5 (by omega))]]
    refine LGo.exit rfl ?_
    refine LGo.seq ?_
    refine LGo.region rfl ?_  -- region 7
    refine R.assign (h := ?_)
    refine Reg.nil ⟨fun h => (by cases h), ?_⟩
    exact LGo.ret (ret_T Tryd.results75 hA hmd)

theorem hexT_at (c : UInt8) : hexT[c.toNat / 16]? = some (hexD (c.toNat / 16)) ∧ hexT[c.toNat % 16]? = some (hexD (c.toNat % 16)) := by
  have h := c.toNat_lt
  have h1 : c.toNat / 16 < hexT.length := by simp [hexT]; omega
  have h2 : c.toNat % 16 < hexT.length := by simp [hexT]; omega
  simp [hexD, List.getD, List.getElem?_eq_getElem h1, List.getElem?_eq_getElem h2]
theorem escaped_len (c : UInt8) : (escaped c).length ≤ 4 := by unfold escaped; repeat' split <;> simp
theorem flat_len4 : ∀ s : List UInt8, (s.flatMap escaped).length ≤ 4 * s.length
  | [] => by simp
  | c :: s => by have h1 := flat_len4 s; have h2 := escaped_len c; simp only [List.flatMap_cons, List.length_append, List.length_cons]; omega
theorem quote_len (s : List UInt8) : (quote s).length ≤ 4 * s.length + 2 := by have := flat_len4 s; simp only [quote, List.length_cons, List.length_append, List.length_nil]; omega
theorem take_flat {s : List UInt8} {k : Nat} (h : k < s.length) : (s.take (k + 1)).flatMap escaped = (s.take k).flatMap escaped ++ escaped s[k] := by
  rw [List.take_succ_eq_append_getElem h, List.flatMap_append]; simp

theorem and15 (c : UInt8) : IntKind.u8.wrap ((BitVec.ofInt IntKind.u8.bits (c.toNat : Int) &&& BitVec.ofInt IntKind.u8.bits 15).toNat) = ((c.toNat % 16 : Nat) : Int) :=
  u8_all (p := fun c => IntKind.u8.wrap ((BitVec.ofInt IntKind.u8.bits (c.toNat : Int) &&& BitVec.ofInt IntKind.u8.bits 15).toNat) = ((c.toNat % 16 : Nat) : Int)) (by decide +kernel) c

theorem quote_P (s : List UInt8) (hs : s.length ≤ 100000) : PC Tryd.prog 54 [.t s] (.t (quote s)) := by
  refine ⟨LC.of_go Tryd.func54 (c := _) rfl (by kernel_rfl) (by rw [Tryd.ntmps54]; simp) rfl rfl (by simp [LO.lt, LV.lts, LV.lt]) (by simp) ?_⟩
  intro B hA hmd
  refine LGo.seq ?_
  refine LGo.region rfl ?_  -- region 0
  refine R.assign (h := ?_)
  refine Reg.nil ⟨fun h => (by cases h), ?_⟩
  refine LGo.seq ?_
  refine LGo.region rfl ?_  -- region 1
  refine R.move (h := ?_)
  refine R.lenT Tryd.runUnderlying9 (h := ?_)
  first | refine R.add (h := ?_) | refine R.addW (h := ?_)
  refine R.makeOwn AP28 (k := .u8) (by kernel_rfl) (h0 := Int.le_refl 0) (hlc := by omega) (hm := by omega) (h := ?_)
  rw [show ic .u8 (List.replicate (Int.toNat 0) 0) = bytesC [] from rfl]
  refine R.assign (h := ?_)
  refine Reg.nil ⟨fun h => (by cases h), ?_⟩
  refine LGo.seq ?_
  refine LGo.region rfl ?_  -- region 2
  refine R.move (h := ?_)
  refine R.buildSliceG AP28 (xs := [_]) (es := [_]) (hcs := CellsOfs.cons (CellsOf.one rfl) CellsOfs.nil) (h := ?_)
  refine R.appendS AP28 (hs := SrcOk.sl Tryd.underlying28 (by simp)) (hlen := by rw [bytesC_length]; simp only [List.length_cons, List.length_nil]; omega) (h := ?_)
  refine R.assign (h := ?_)
  refine Reg.nil ⟨fun h => (by cases h), ?_⟩
  refine LGo.seq ?_
  refine LGo.seq ?_
  refine LGo.region rfl ?_  -- region 3
  refine R.move (h := ?_)
  refine R.lenT Tryd.runUnderlying9 (h := ?_)
  refine R.move (h := ?_)
  refine Reg.nil ⟨fun h => (by cases h), ?_⟩
  refine LGo.block ?_
  refine LGo.loop ?_
  refine LGo.loopG (σ := Nat) (fun x => x ≤ s.length) (fun x => [(16, (true, .i (x : Nat))), (3, (true, .ref 1))]) (fun x => [(1, .rs 5 1 (bytesC (34 :: (s.take x).flatMap escaped)))]) (fun x => s.length - x) (0) [(0, _), (15, _)] (Nat.zero_le _) (by repeat (first | exact trivial | refine ⟨rfl, ?_⟩)) (by repeat (first | exact trivial | refine ⟨rfl, ?_⟩)) (by repeat (first | exact trivial | refine ⟨rfl, ?_⟩)) ?_
  rintro k hk ih
  refine LGo.seq ?_
  refine LGo.region rfl ?_  -- region 4
  refine R.bin (run_lss _ _ _ _ _ _) (h := ?_)
  refine Reg.nil ⟨fun h => (by cases h), ?_⟩
  refine LGo.seq ?_
  refine LGo.ifd (ht := fun hc => ?_) (hf := fun hc => ?_)
  · -- then 1
    have hlt : k < s.length := by omega
    have hx : s[((k : Nat) : Int).toNat]? = some s[k] := by rw [Int.toNat_natCast]; exact List.getElem?_eq_getElem hlt
    have htf := take_flat hlt
    have hfl := flat_len4 (s.take k)
    rw [List.length_take] at hfl
    generalize s[k] = c at hx htf
    have hcl := c.toNat_lt
    refine LGo.skip ?_
    refine LGo.seq ?_
    refine LGo.block ?_
    refine LGo.seq ?_
    refine LGo.region rfl ?_  -- region 5
    refine R.move (h := ?_)
    refine R.assign (h := ?_)
    refine Reg.nil ⟨fun h => (by cases h), ?_⟩
    refine LGo.seq ?_
    refine LGo.region rfl ?_  -- region 6
    refine R.move (h := ?_)
    refine R.move (h := ?_)
    refine R.indexT Tryd.runUnderlying9 (hj := fun hg => ⟨by omega, hx⟩) (h := ?_)
    refine R.assign (h := ?_)
    refine Reg.nil ⟨fun h => (by cases h), ?_⟩
    refine LGo.seq ?_
    refine LGo.region rfl ?_  -- region 7
    refine R.move (h := ?_)
    refine R.callP (es := [_]) (fun _ => letterOf_P c) (h := ?_)
    refine R.assign (h := ?_)
    refine Reg.nil ⟨fun h => (by cases h), ?_⟩
    refine LGo.block ?_
    refine LGo.seq ?_
    refine LGo.region rfl ?_  -- region 9
    refine R.move (h := ?_)
    refine R.callP (es := [_]) (fun _ => isPlain_P c) (h := ?_)
    refine R.assign (h := ?_)
    refine Reg.nil ⟨fun h => (by cases h), ?_⟩
    refine LGo.ifb (ht := fun hc2 => ?_) (hf := fun hc2 => ?_)
    · -- then 2
      have he : escaped c = [c] := by unfold escaped; rw [if_pos hc2]
      refine LGo.region rfl ?_  -- region 10
      refine R.move (h := ?_)
      refine R.move (h := ?_)
      refine R.buildSliceG AP28 (xs := [_]) (es := [_]) (hcs := CellsOfs.cons (CellsOf.one rfl) CellsOfs.nil) (h := ?_)
      refine R.appendS AP28 (hs := SrcOk.sl Tryd.underlying28 (by simp)) (hlen := by rw [bytesC_length]; simp only [List.length_cons, List.length_nil]; omega) (h := ?_)
      refine R.assign (h := ?_)
      refine Reg.nil ⟨fun h => (by cases h), ?_⟩
      refine LGo.inBlock ?_
      refine LGo.inBlock ?_
      refine LGo.region rfl ?_  -- region 13
      first | refine R.add (h := ?_) | refine R.addW (h := ?_)
      refine R.move (h := ?_)
      refine Reg.nil ⟨fun h => (by cases h), ?_⟩
      refine LGo.inLoop ?_
      exact LGo.turn [0, 2] (b := 0) (fun o h => by have := (hA o).1 h; omega) (ih (k + 1) (by omega) (by omega)) (by repeat (first | exact trivial | refine ⟨rfl, ?_⟩)) ⟨by rw [htf, he, ← List.cons_append, bytesC_app]; rfl, trivial⟩
    · -- else 2
      refine LGo.seq ?_
      refine LGo.region rfl ?_  -- region 11
      refine R.move (h := ?_)
      refine R.bin (run_neq _ _ _ _ _ _) (h := ?_)
      refine R.assign (h := ?_)
      refine Reg.nil ⟨fun h => (by cases h), ?_⟩
      refine LGo.ifb (ht := fun hc3 => ?_) (hf := fun hc3 => ?_)
      · -- then 3
        have he : escaped c = [92, escL c] := by
          unfold escaped
          rw [if_neg (by rw [hc2]; simp), if_pos (by intro h; rw [h] at hc3; simp at hc3)]
        refine LGo.region rfl ?_  -- region 12
        refine R.move (h := ?_)
        refine R.move (h := ?_)
        refine R.buildSliceG AP28 (xs := [_, _]) (es := [_, _]) (hcs := CellsOfs.cons (CellsOf.one rfl) (CellsOfs.cons (CellsOf.one rfl) CellsOfs.nil)) (h := ?_)
        refine R.appendS AP28 (hs := SrcOk.sl Tryd.underlying28 (by simp)) (hlen := by rw [bytesC_length]; simp only [List.length_cons, List.length_nil]; omega) (h := ?_)
        refine R.assign (h := ?_)
        refine Reg.nil ⟨fun h => (by cases h), ?_⟩
        refine LGo.inBlock ?_
        refine LGo.inBlock ?_
        refine LGo.region rfl ?_  -- region 13
        first | refine R.add (h := ?_) | refine R.addW (h := ?_)
        refine R.move (h := ?_)
        refine Reg.nil ⟨fun h => (by cases h), ?_⟩
        refine LGo.inLoop ?_
        exact LGo.turn [0, 2] (b := 0) (fun o h => by have := (hA o).1 h; omega) (ih (k + 1) (by omega) (by omega)) (by repeat (first | exact trivial | refine ⟨rfl, ?_⟩)) ⟨by rw [htf, he, ← List.cons_append, bytesC_app]; rfl, trivial⟩
      · -- else 3
        have he : escaped c = [92, 120, hexD (c.toNat / 16), hexD (c.toNat % 16)] := by
          unfold escaped
          rw [if_neg (by rw [hc2]; simp), if_neg (by
            intro h; apply h
            have : ((escL c).toNat : Int) = 0 := by simpa using hc3
            exact UInt8.toNat_inj.1 (by rw [show (0 : UInt8).toNat = 0 from rfl]; omega))]
        refine LGo.region rfl ?_  -- region 8 DRAWS
        refine R.move (h := ?_)
        refine R.move (h := ?_)
        refine R.shr (h := ?_)
        rw [show (c.toNat : Int) / 2 ^ (min (Int.toNat 4) IntKind.u8.bits) = ((c.toNat / 16 : Nat) : Int) from by rw [show min (Int.toNat 4) IntKind.u8.bits = 4 from rfl]; omega]
        refine R.indexT Tryd.runUnderlying9 (l := hexT) (c := hexD (c.toNat / 16)) (hj := fun _ => ⟨by omega, by rw [Int.toNat_natCast]; exact (hexT_at c).1⟩) (h := ?_)
        refine R.move (h := ?_)
        refine R.bin (run_andE _ _ _ .u8 _ 15 (and15 c)) (h := ?_)
        refine R.indexT Tryd.runUnderlying9 (l := hexT) (c := hexD (c.toNat % 16)) (hj := fun _ => ⟨by omega, by rw [Int.toNat_natCast]; exact (hexT_at c).2⟩) (h := ?_)
        refine R.buildSliceG AP28 (xs := [_, _, _, _]) (es := [_, _, _, _]) (hcs := CellsOfs.cons (CellsOf.one rfl) (CellsOfs.cons (CellsOf.one rfl) (CellsOfs.cons (CellsOf.one rfl) (CellsOfs.cons (CellsOf.one rfl) CellsOfs.nil)))) (h := ?_)
        refine R.appendS AP28 (hs := SrcOk.sl Tryd.underlying28 (by simp)) (hlen := by rw [bytesC_length]; simp only [List.length_cons, List.length_nil]; omega) (h := ?_)
        refine R.assign (h := ?_)
        refine Reg.nil ⟨fun _ => ⟨mixedO, by rfl, by rfl⟩, ?_⟩
        refine LGo.inBlock ?_
        refine LGo.inBlock ?_
        refine LGo.region rfl ?_  -- region 13
        first | refine R.add (h := ?_) | refine R.addW (h := ?_)
        refine R.move (h := ?_)
        refine Reg.nil ⟨fun h => (by cases h), ?_⟩
        refine LGo.inLoop ?_
        exact LGo.turn [0, 2] (b := 0) (fun o h => by have := (hA o).1 h; omega) (ih (k + 1) (by omega) (by omega)) (by repeat (first | exact trivial | refine ⟨rfl, ?_⟩)) ⟨by rw [htf, he, ← List.cons_append, bytesC_app]; rfl, trivial⟩
  · -- else 1
    obtain rfl : k = s.length := by omega
    have hfl := flat_len4 s
    rw [List.take_length]
    refine LGo.exit rfl ?_
    refine LGo.seq ?_
    refine LGo.region rfl ?_  -- region 14
    refine R.move (h := ?_)
    refine R.buildSliceF AP28 (bytesC [34]) (xs := [_]) (es := [_]) (hcs := CellsOfs.cons (CellsOf.one rfl) CellsOfs.nil) (h := ?_)
    refine R.appendF AP28 (hs := SrcOk.sl Tryd.underlying28 (bytesC_one _)) (hlen := by simp only [bytesC_length, List.length_cons, List.length_nil]; omega) (h := ?_)
    rw [← bytesC_app, show (34 :: s.flatMap escaped) ++ [34] = quote s from rfl]
    refine R.toString Tryd.underlying28 Tryd.underlying5 Tryd.underlying9 (h := ?_)
    refine R.assign (h := ?_)
    refine Reg.nil ⟨fun h => (by cases h), ?_⟩
    exact LGo.ret (ret_T Tryd.results54 hA hmd)

end Go.Proofs.YtcobkjognpjikaaDoor
