/- trial -/
import Derived.Test.YtmiamhegohlglaaT
set_option linter.unusedSimpArgs false
set_option linter.unusedVariables false
namespace Go.Proofs.Ytmiamhegohlglaa

structure Rule where
  tag : Int
  kind : Int
  low : Int
  high : Int
  must : Bool
instance : Inhabited Rule := ⟨⟨0,0,0,0,false⟩⟩
def Rule.c (r : Rule) : List SV := [.val (.int .i64 r.tag), .val (.int .i64 r.kind), .val (.int .u64 r.low), .val (.int .u64 r.high), .val (.bool r.must)]
def within (r : Rule) (n : Int) : Bool := decide (r.low ≤ n) && decide (n ≤ r.high)

theorem within_P (ru : Rule) (x : Int) : PC Try.prog 38 [.agg (ru.c.map LV.sv), .u x] (.b (within ru x)) := by
  refine ⟨LC.of_go Try.func38 (c := _) rfl (by kernel_rfl) (by rw [Try.ntmps38]; simp) rfl rfl (by simp) (by simp) ?_⟩
  intro B hA hmd
  refine LGo.seq ?_
  refine LGo.region rfl ?_  -- region 0
  refine R.box (h := ?_)  -- t2 := box
  refine R.assign (h := ?_)  -- t4 := assign
  refine Reg.nil ⟨fun h => (by cases h), ?_⟩
  refine LGo.seq ?_
  refine LGo.region rfl ?_  -- region 1
  refine R.move (h := ?_)  -- t5 := move
  first | refine R.field F45_2 (h := ?_) | refine R.fieldAt F45_2 (h := ?_)  -- t6 := fieldAddr
  first | refine R.loadB O32 (h := ?_) | refine R.load1 O32 (h := ?_)  -- t7 := load
  refine R.bin (run_geq _ _ _ _ _ _) (h := ?_)  -- t8 := binOp
  refine R.move (h := ?_)  -- t9 := move
  refine R.move (h := ?_)  -- t10 := move
  first | refine R.field F45_3 (h := ?_) | refine R.fieldAt F45_3 (h := ?_)  -- t11 := fieldAddr
  first | refine R.loadB O32 (h := ?_) | refine R.load1 O32 (h := ?_)  -- t12 := load
  refine R.bin (run_leq _ _ _ _ _ _) (h := ?_)  -- t13 := binOp
  refine R.and (h := ?_)  -- t14 := pick
  refine R.assign (h := ?_)  -- t4 := assign
  refine Reg.nil ⟨fun h => (by cases h), ?_⟩
  refine LGo.drop 0 (fun o h => (hA o).1 h) (by omega) [(4, (true, .b (within ru x)))] [] ⟨rfl, trivial⟩ trivial (by simp [LV.lt]) (by simp) (h := ?_)
  exact LGo.ret (res1 Try.results38 hA hmd (by rfl) noHo (by rfl) (.inr rfl))

def checkGo (last : Int) : List Rule → Int
  | [] => 0
  | r :: rs => if (decide (r.tag ≤ last) || decide (63 < r.tag) || decide (r.high < r.low)) = true then 2 else if r.kind = 1 then checkGo r.tag rs else if (!decide (r.kind = 2) || decide (400 < r.high)) = true then 2 else checkGo r.tag rs
def check (rs : List Rule) : Int := if 16 < rs.length then 3 else checkGo 0 rs

theorem check_P (xs : List Rule) : PC Try.prog 23 [.sv (.sl 5 (xs.map Rule.c))] (.i (check xs)) := by
  refine ⟨LC.of_go Try.func23 (c := _) rfl (by kernel_rfl) (by rw [Try.ntmps23]; simp) rfl rfl (by simp) (by simp) ?_⟩
  intro B hA hmd
  refine LGo.seq ?_
  refine LGo.region rfl ?_  -- region 0
  refine R.assign (h := ?_)  -- t2 := assign
  refine Reg.nil ⟨fun h => (by cases h), ?_⟩
  refine LGo.seq ?_
  refine LGo.seq ?_
  refine LGo.region rfl ?_  -- region 1
  refine R.move (h := ?_)  -- t6 := move
  first | refine R.len S22 (h := ?_) | refine R.lenV (run_lenNil S22) (h := ?_)  -- t7 := call
  refine R.bin (run_gtr _ _ _ _ _ _) (h := ?_)  -- t8 := binOp
  refine Reg.nil ⟨fun h => (by cases h), ?_⟩
  rw [List.length_map]
  refine LGo.ifd (ht := fun hc => ?_) (hf := fun hc => ?_)
  · -- then
    refine LGo.seq ?_
    refine LGo.region rfl ?_  -- region 2
    refine R.assign (h := ?_)  -- t2 := assign
    refine Reg.nil ⟨fun h => (by cases h), ?_⟩
    have e : check xs = 3 := by unfold check; rw [if_pos (by omega)]
    rw [e]
    exact LGo.ret (res1 Try.results23 hA hmd (by rfl) noHo (by rfl) (.inr rfl))
  · -- else
    refine LGo.skip ?_
    refine LGo.seq ?_
    refine LGo.region rfl ?_  -- region 3
    refine R.assign (h := ?_)  -- t3 := assign
    refine Reg.nil ⟨fun h => (by cases h), ?_⟩
    refine LGo.seq ?_
    refine LGo.seq ?_
    refine LGo.region rfl ?_  -- region 4
    refine R.move (h := ?_)  -- t9 := move
    first | refine R.len S22 (h := ?_) | refine R.lenV (run_lenNil S22) (h := ?_)  -- t10 := call
    refine R.move (h := ?_)  -- t11 := move
    refine Reg.nil ⟨fun h => (by cases h), ?_⟩
    refine LGo.block ?_
    refine LGo.loop ?_
    have e : check xs = checkGo 0 xs := by unfold check; rw [if_neg (by omega)]
    rw [e]
    rw [List.length_map]
    refine LGo.keep [(3, (true, .i 0)), (9, (true, .sv (.sl 5 (xs.map Rule.c)))), (10, (true, .i xs.length)), (11, (true, .i (0 : Nat)))] [] ⟨rfl, rfl, rfl, rfl, trivial⟩ trivial ?_
    refine LGo.loopK (σ := Nat × Int) (fun x => x.1 ≤ xs.length ∧ checkGo 0 xs = checkGo x.2 (xs.drop x.1))
      (fun x => [(3, (true, .i x.2)), (9, (true, .sv (.sl 5 (xs.map Rule.c)))), (10, (true, .i xs.length)), (11, (true, .i x.1))]) (fun _ => []) (fun _ => 0) (fun x => xs.length - x.1) (0, 0) ⟨by simp, by simp⟩ ?_
    rintro ⟨k, last⟩ ⟨hk, hq⟩ ih
    simp only at hk hq ih ⊢
    refine LGo.seq ?_
    refine LGo.region rfl ?_  -- region 5
    refine R.bin (run_lss _ _ _ _ _ _) (h := ?_)  -- t12 := binOp
    refine Reg.nil ⟨fun h => (by cases h), ?_⟩
    refine LGo.seq ?_
    refine LGo.ifd (ht := fun hc => ?_) (hf := fun hc => ?_)
    · -- then
      have hlt : k < xs.length := by omega
      have hx : (xs.map Rule.c)[((k : Nat) : Int).toNat]? = some (xs[k].c) := by simp [hlt]
      have hd : xs.drop k = xs[k] :: xs.drop (k + 1) := List.drop_eq_getElem_cons hlt
      rw [hd] at hq
      generalize xs[k] = ru at hx hq
      clear hd
      refine LGo.skip ?_
      refine LGo.seq ?_
      refine LGo.block ?_
      refine LGo.seq ?_
      refine LGo.region rfl ?_  -- region 6
      refine R.index I22 (hj := fun _ => ⟨by omega, hx⟩) (h := ?_)  -- t13 := indexAddr
      first | refine R.loadA A45 (h := ?_) | refine R.loadN A45 (h := ?_)  -- t14 := load
      refine R.alloc Z45 (h := ?_)  -- t5 := alloc
      refine R.storeA A45 (h := ?_)  -- _ := store
      refine Reg.nil ⟨fun h => (by cases h), ?_⟩
      refine LGo.seq ?_
      refine LGo.block ?_
      refine LGo.seq ?_
      refine LGo.region rfl ?_  -- region 7
      first | refine R.field F45_0 (h := ?_) | refine R.fieldAt F45_0 (h := ?_)  -- t16 := fieldAddr
      first | refine R.loadB O3 (h := ?_) | refine R.load1 O3 (h := ?_)  -- t17 := load
      refine R.move (h := ?_)  -- t18 := move
      refine R.bin (run_leq _ _ _ _ _ _) (h := ?_)  -- t19 := binOp
      refine R.move (h := ?_)  -- t20 := move
      first | refine R.field F45_0 (h := ?_) | refine R.fieldAt F45_0 (h := ?_)  -- t21 := fieldAddr
      first | refine R.loadB O3 (h := ?_) | refine R.load1 O3 (h := ?_)  -- t22 := load
      refine R.bin (run_gtr _ _ _ _ _ _) (h := ?_)  -- t23 := binOp
      refine R.or (h := ?_)  -- t24 := pick
      refine R.move (h := ?_)  -- t25 := move
      first | refine R.field F45_2 (h := ?_) | refine R.fieldAt F45_2 (h := ?_)  -- t26 := fieldAddr
      first | refine R.loadB O32 (h := ?_) | refine R.load1 O32 (h := ?_)  -- t27 := load
      first | refine R.field F45_3 (h := ?_) | refine R.fieldAt F45_3 (h := ?_)  -- t28 := fieldAddr
      first | refine R.loadB O32 (h := ?_) | refine R.load1 O32 (h := ?_)  -- t29 := load
      refine R.bin (run_gtr _ _ _ _ _ _) (h := ?_)  -- t30 := binOp
      refine R.or (h := ?_)  -- t31 := pick
      refine R.assign (h := ?_)  -- t15 := assign
      refine Reg.nil ⟨fun h => (by cases h), ?_⟩
      refine LGo.ifb (ht := fun hc1 => ?_) (hf := fun hc1 => ?_)
      · -- then
        refine LGo.seq ?_
        refine LGo.region rfl ?_  -- region 8
        refine R.assign (h := ?_)  -- t2 := assign
        refine Reg.nil ⟨fun h => (by cases h), ?_⟩
        rw [hq, checkGo, if_pos hc1]
        refine LGo.drop 0 (fun o h => (hA o).1 h) (by omega) [(2, (true, .i 2))] [] ⟨rfl, trivial⟩ trivial (by simp [LV.lt]) (by simp) (h := ?_)
        exact LGo.ret (res1 Try.results23 hA hmd (by rfl) noHo (by rfl) (.inr rfl))
      · -- else
        rw [checkGo, if_neg (by rw [hc1]; simp)] at hq
        refine LGo.seq ?_
        refine LGo.region rfl ?_  -- region 9
        first | refine R.field F45_1 (h := ?_) | refine R.fieldAt F45_1 (h := ?_)  -- t33 := fieldAddr
        first | refine R.loadB O3 (h := ?_) | refine R.load1 O3 (h := ?_)  -- t34 := load
        refine R.bin (run_eql _ _ _ _ _ _) (h := ?_)  -- t35 := binOp
        refine R.assign (h := ?_)  -- t32 := assign
        refine Reg.nil ⟨fun h => (by cases h), ?_⟩
        refine LGo.ifd (ht := fun hc2 => ?_) (hf := fun hc2 => ?_)
        · -- then
          rw [if_pos hc2] at hq
          refine LGo.skip ?_
          refine LGo.inBlock ?_
          refine LGo.region rfl ?_  -- region 12
          first | refine R.field F45_0 (h := ?_) | refine R.fieldAt F45_0 (h := ?_)  -- t45 := fieldAddr
          first | refine R.loadB O3 (h := ?_) | refine R.load1 O3 (h := ?_)  -- t46 := load
          refine R.assign (h := ?_)  -- t3 := assign
          refine Reg.nil ⟨fun h => (by cases h), ?_⟩
          refine LGo.inBlock ?_
          refine LGo.region rfl ?_  -- region 13
          refine R.add (h := ?_)  -- t47 := binOp
          refine R.move (h := ?_)  -- t11 := move
          refine Reg.nil ⟨fun h => (by cases h), ?_⟩
          refine LGo.inLoop ?_
          exact LGo.next 0 (fun o h => (hA o).1 h) (by omega) (ih (k + 1, ru.tag) ⟨by omega, hq⟩ (by simp; omega)) ⟨rfl, rfl, rfl, rfl, trivial⟩ trivial
        · -- else
          rw [if_neg hc2] at hq
          refine LGo.seq ?_
          refine LGo.region rfl ?_  -- region 10
          first | refine R.field F45_1 (h := ?_) | refine R.fieldAt F45_1 (h := ?_)  -- t37 := fieldAddr
          first | refine R.loadB O3 (h := ?_) | refine R.load1 O3 (h := ?_)  -- t38 := load
          refine R.bin (run_neq _ _ _ _ _ _) (h := ?_)  -- t39 := binOp
          refine R.move (h := ?_)  -- t40 := move
          first | refine R.field F45_3 (h := ?_) | refine R.fieldAt F45_3 (h := ?_)  -- t41 := fieldAddr
          first | refine R.loadB O32 (h := ?_) | refine R.load1 O32 (h := ?_)  -- t42 := load
          refine R.bin (run_gtr _ _ _ _ _ _) (h := ?_)  -- t43 := binOp
          refine R.or (h := ?_)  -- t44 := pick
          refine R.assign (h := ?_)  -- t36 := assign
          refine Reg.nil ⟨fun h => (by cases h), ?_⟩
          refine LGo.ifb (ht := fun hc3 => ?_) (hf := fun hc3 => ?_)
          · -- then
            rw [if_pos hc3] at hq
            refine LGo.seq ?_
            refine LGo.region rfl ?_  -- region 11
            refine R.assign (h := ?_)  -- t2 := assign
            refine Reg.nil ⟨fun h => (by cases h), ?_⟩
            rw [hq]
            refine LGo.drop 0 (fun o h => (hA o).1 h) (by omega) [(2, (true, .i 2))] [] ⟨rfl, trivial⟩ trivial (by simp [LV.lt]) (by simp) (h := ?_)
            exact LGo.ret (res1 Try.results23 hA hmd (by rfl) noHo (by rfl) (.inr rfl))
          · -- else
            rw [if_neg (by rw [hc3]; simp)] at hq
            refine LGo.skip ?_
            refine LGo.inBlock ?_
            refine LGo.region rfl ?_  -- region 12
            first | refine R.field F45_0 (h := ?_) | refine R.fieldAt F45_0 (h := ?_)  -- t45 := fieldAddr
            first | refine R.loadB O3 (h := ?_) | refine R.load1 O3 (h := ?_)  -- t46 := load
            refine R.assign (h := ?_)  -- t3 := assign
            refine Reg.nil ⟨fun h => (by cases h), ?_⟩
            refine LGo.inBlock ?_
            refine LGo.region rfl ?_  -- region 13
            refine R.add (h := ?_)  -- t47 := binOp
            refine R.move (h := ?_)  -- t11 := move
            refine Reg.nil ⟨fun h => (by cases h), ?_⟩
            refine LGo.inLoop ?_
            exact LGo.next 0 (fun o h => (hA o).1 h) (by omega) (ih (k + 1, ru.tag) ⟨by omega, hq⟩ (by simp; omega)) ⟨rfl, rfl, rfl, rfl, trivial⟩ trivial
    · -- else
      refine LGo.exit rfl ?_
      refine LGo.seq ?_
      refine LGo.region rfl ?_  -- region 14
      refine R.assign (h := ?_)  -- t2 := assign
      refine Reg.nil ⟨fun h => (by cases h), ?_⟩
      have hd : xs.drop k = [] := List.drop_eq_nil_of_le (by omega)
      rw [hq, hd, checkGo]
      exact LGo.ret (res1 Try.results23 hA hmd (by rfl) noHo (by rfl) (.inr rfl))
end Go.Proofs.Ytmiamhegohlglaa
