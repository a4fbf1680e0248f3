/- Looking for an element by its tag: slices.IndexFunc, fields.find, Find and ruled. -/
import Derived.Test.YtmiamhegohlglaaA
import Derived.Test.YtmiamhegohlglaaD
set_option linter.unusedSimpArgs false
set_option linter.unusedVariables false
namespace Go.Proofs.Ytmiamhegohlglaa

structure Fld where
  tag : Int
  num : Int
  txt : List UInt8
instance : Inhabited Fld := ⟨⟨0, 0, []⟩⟩
def Fld.c (x : Fld) : List SV := [.val (.int .i64 x.tag), .val (.int .u64 x.num), .val (.string ⟨x.txt.toArray⟩)]

/-- the place of the first element that p takes, counted from k; -1: none -/
def idx {α : Type} (p : α → Bool) : Nat → List α → Int
  | _, [] => -1
  | k, x :: xs => if p x = true then (k : Int) else idx p (k + 1) xs

theorem idx_spec {α : Type} (p : α → Bool) : ∀ (xs : List α) (k : Nat), (idx p k xs = -1 ∧ xs.find? p = none) ∨ ∃ (j : Nat) (hj : j < xs.length), idx p k xs = (k + j : Int) ∧ xs.find? p = some xs[j]
  | [], k => .inl ⟨rfl, rfl⟩
  | x :: xs, k => by
    by_cases h : p x = true
    · exact .inr ⟨0, by simp, by simp [idx, h], by simp [h]⟩
    · rcases idx_spec p xs (k + 1) with ⟨h1, h2⟩ | ⟨j, hj, h1, h2⟩
      · exact .inl ⟨by simp [idx, h, h1], by simp [h, h2]⟩
      · refine .inr ⟨j + 1, by simpa using hj, ?_, by simp [h, h2]⟩
        simp only [idx, if_neg h, h1]; push_cast; omega
theorem upHi {x : LO} {L : List (Nat × LO)} (h : hp L 0 = some x) : ∀ (o : Nat) (y : LO), hp [(0, x)] o = some y → hp L o = some y := by
  intro o y hy
  simp only [hp, List.lookup_cons, List.lookup_nil] at hy
  cases ho : (o == 0) with
  | true => rw [ho] at hy; cases hy; have : o = 0 := by simpa using ho
            subst this; exact h
  | false => rw [ho] at hy; cases hy

def fldAt (tag : Int) (xs : List Fld) : Fld := (xs.find? (fun x => decide (Fld.tag x = tag))).getD default
def fldHas (tag : Int) (xs : List Fld) : Bool := (xs.find? (fun x => decide (Fld.tag x = tag))).isSome
def ruleAt (tag : Int) (xs : List Rule) : Rule := (xs.find? (fun x => decide (Rule.tag x = tag))).getD default
def ruleHas (tag : Int) (xs : List Rule) : Bool := (xs.find? (fun x => decide (Rule.tag x = tag))).isSome


theorem fld_cl (x : Fld) (tag : Int) : LC Try.prog 32 1 [.agg (x.c.map LV.sv), .ptr 0 0] [(0, .box 3 [.i tag])] (.b (decide (x.tag = tag))) [(0, .box 3 [.i tag])] 0 := by
  refine LC.of_go Try.func32 (c := _) rfl (by kernel_rfl) (by rw [Try.ntmps32]; simp) rfl rfl (by simp [LO.lt, LV.lts, LV.lt]) (by simp) ?_
  intro B hA hmd
  refine LGo.seq ?_
  refine LGo.region rfl ?_  -- region 0
  refine R.box (h := ?_)  -- t2 := box
  refine R.assign (h := ?_)  -- t3 := assign
  refine Reg.nil ⟨fun h => (by cases h), ?_⟩
  refine LGo.seq ?_
  refine LGo.region rfl ?_  -- region 1
  refine R.field F34_0 (h := ?_)
  refine R.loadB O3 (h := ?_)
  refine R.loadB O3 (h := ?_)
  refine R.bin (run_eql _ _ _ _ _ _) (h := ?_)  -- t7 := binOp
  refine R.assign (h := ?_)  -- t3 := assign
  refine Reg.nil ⟨fun h => (by cases h), ?_⟩
  refine LGo.drop 1 (fun o h => (hA o).1 h) (by omega) [(3, (true, .b (decide (x.tag = tag))))] [(0, .box 3 [.i tag])] ⟨rfl, trivial⟩ ⟨rfl, trivial⟩ (by simp [LV.lt]) (by simp [LO.lt, LV.lts, LV.lt]) (h := ?_)
  exact LGo.ret (res1 Try.results32 hA hmd (by rfl) (fun _ _ h => h) (by rfl) (.inr rfl))

theorem fld_idx (xs : List Fld) (tag : Int) (hxs : xs.length ≤ 100) : LC Try.prog 40 1 [.sv (.sl 3 (xs.map Fld.c)), .fn (.func 32) [] [.ptr 0 0]] [(0, .box 3 [.i tag])] (.i (idx (fun x => decide (Fld.tag x = tag)) 0 xs)) [(0, .box 3 [.i tag])] 0 := by
  refine LC.of_go Try.func40 (c := _) rfl (by kernel_rfl) (by rw [Try.ntmps40]; simp) rfl rfl (by simp [LO.lt, LV.lts, LV.lt]) (by simp) ?_
  intro B hA hmd
  refine LGo.seq ?_
  refine LGo.region rfl ?_  -- region 0
  refine R.assign (h := ?_)  -- t4 := assign
  refine Reg.nil ⟨fun h => (by cases h), ?_⟩
  refine LGo.seq ?_
  refine LGo.seq ?_
  refine LGo.region rfl ?_  -- region 1
  refine R.move (h := ?_)  -- t6 := move
  refine R.len S26 (h := ?_)
  refine R.move (h := ?_)  -- t8 := move
  refine Reg.nil ⟨fun h => (by cases h), ?_⟩
  rw [List.length_map]
  refine LGo.block ?_
  refine LGo.loop ?_
  refine LGo.keep [(0, (true, .sv (.sl 3 (xs.map Fld.c)))), (1, (true, .fn (.func 32) [] [.ptr 0 0])), (7, (true, .i xs.length)), (8, (true, .i (0 : Nat)))] [(0, .box 3 [.i tag])] ⟨rfl, rfl, rfl, rfl, trivial⟩ ⟨rfl, trivial⟩ ?_
  refine LGo.loopK (σ := Nat) (fun k => k ≤ xs.length ∧ idx (fun x => decide (Fld.tag x = tag)) 0 xs = idx (fun x => decide (Fld.tag x = tag)) k (xs.drop k))
    (fun k => [(0, (true, .sv (.sl 3 (xs.map Fld.c)))), (1, (true, .fn (.func 32) [] [.ptr 0 0])), (7, (true, .i xs.length)), (8, (true, .i k))]) (fun _ => [(0, .box 3 [.i tag])]) (fun _ => 1) (fun k => xs.length - k) 0 ⟨by simp, by simp⟩ ?_
  rintro k ⟨hk, hq⟩ ih
  refine LGo.seq ?_
  refine LGo.region rfl ?_  -- region 2
  refine R.bin (run_lss _ _ _ _ _ _) (h := ?_)  -- t9 := binOp
  refine Reg.nil ⟨fun h => (by cases h), ?_⟩
  refine LGo.seq ?_
  refine LGo.ifd (ht := fun hc => ?_) (hf := fun hc => ?_)
  · -- then
    have hlt : k < xs.length := by omega
    have hx : (xs.map Fld.c)[((k : Nat) : Int).toNat]? = some (xs[k].c) := by simp [hlt]
    have hd : xs.drop k = xs[k] :: xs.drop (k + 1) := List.drop_eq_getElem_cons hlt
    rw [hd] at hq
    generalize xs[k] = x at hx hq
    clear hd
    refine LGo.skip ?_
    refine LGo.seq ?_
    refine LGo.block ?_
    refine LGo.seq ?_
    refine LGo.region rfl ?_  -- region 3
    refine R.move (h := ?_)  -- t10 := move
    refine R.assign (h := ?_)  -- t5 := assign
    refine Reg.nil ⟨fun h => (by cases h), ?_⟩
    refine LGo.seq ?_
    refine LGo.region rfl ?_  -- region 4
    refine R.move (h := ?_)  -- t11 := move
    refine R.move (h := ?_)  -- t12 := move
    refine R.move (h := ?_)  -- t13 := move
    refine R.index I26 (hj := fun _ => ⟨by omega, hx⟩) (h := ?_)  -- t14 := indexAddr
    refine R.loadN A34 (h := ?_)  -- t15 := load
    refine R.callRd (m := 1) (avs := [_]) (out := .b (decide (x.tag = tag))) (es := [_]) (first := []) (cap := [.ptr 0 0]) (fld_cl x tag) (hL := fun _ _ h => h) (h := ?_)
    refine Reg.nil ⟨fun h => (by cases h), ?_⟩
    refine LGo.ifd (ht := fun hc1 => ?_) (hf := fun hc1 => ?_)
    · -- then
      refine LGo.seq ?_
      refine LGo.region rfl ?_  -- region 5
      refine R.move (h := ?_)  -- t17 := move
      refine R.assign (h := ?_)  -- t4 := assign
      refine Reg.nil ⟨fun h => (by cases h), ?_⟩
      have e : idx (fun x => decide (Fld.tag x = tag)) k (x :: xs.drop (k + 1)) = k := by simp [idx, hc1]
      rw [hq, e]
      exact LGo.ret (res1 Try.results40 hA hmd (by rfl) (fun _ _ h => h) (by rfl) (.inr rfl))
    · -- else
      have e : idx (fun x => decide (Fld.tag x = tag)) k (x :: xs.drop (k + 1)) = idx (fun x => decide (Fld.tag x = tag)) (k + 1) (xs.drop (k + 1)) := by simp [idx, hc1]
      rw [e] at hq
      refine LGo.skip ?_
      refine LGo.inBlock ?_
      refine LGo.region rfl ?_  -- region 6
      refine R.add (h := ?_)
      refine R.move (h := ?_)  -- t8 := move
      refine Reg.nil ⟨fun h => (by cases h), ?_⟩
      refine LGo.inLoop ?_
      exact LGo.next 1 (fun o h => (hA o).1 h) (by omega) (ih (k + 1) ⟨by omega, hq⟩ (by omega)) ⟨rfl, rfl, rfl, rfl, trivial⟩ ⟨rfl, trivial⟩
  · -- else
    have hk' : k = xs.length := by omega
    subst hk'
    simp only [List.drop_length, idx] at hq
    rw [hq]
    refine LGo.exit rfl ?_
    refine LGo.seq ?_
    refine LGo.region rfl ?_  -- region 7
    refine R.assign (h := ?_)  -- t4 := assign
    refine Reg.nil ⟨fun h => (by cases h), ?_⟩
    exact LGo.ret (res1 Try.results40 hA hmd (by rfl) (fun _ _ h => h) (by rfl) (.inr rfl))

theorem fld_find (xs : List Fld) (tag : Int) (hxs : xs.length ≤ 100) : LC Try.prog 31 1 [.sv (.sl 3 (xs.map Fld.c)), .fn (.func 32) [] [.ptr 0 0]] [(0, .box 3 [.i tag])] (.tup [.agg ((fldAt tag xs).c.map LV.sv), .b (fldHas tag xs)]) [(0, .box 3 [.i tag])] 0 := by
  refine LC.of_go Try.func31 (c := _) rfl (by kernel_rfl) (by rw [Try.ntmps31]; simp) rfl rfl (by simp [LO.lt, LV.lts, LV.lt]) (by simp) ?_
  intro B hA hmd
  refine LGo.seq ?_
  refine LGo.region rfl ?_  -- region 0
  refine R.alloc Z34 (h := ?_)  -- t4 := alloc
  refine R.assign (h := ?_)  -- t5 := assign
  refine Reg.nil ⟨fun h => (by cases h), ?_⟩
  refine LGo.seq ?_
  refine LGo.region rfl ?_  -- region 1
  refine R.move (h := ?_)  -- t8 := move
  refine R.move (h := ?_)  -- t9 := move
  refine R.callRd (m := 1) (avs := [_, _]) (out := .i (idx (fun x => decide (Fld.tag x = tag)) 0 xs)) (es := [_, _]) (first := []) (cap := []) (fld_idx xs tag hxs) (hL := upHi (by rfl)) (h := ?_)
  refine R.assign (h := ?_)  -- t6 := assign
  refine Reg.nil ⟨fun h => (by cases h), ?_⟩
  refine LGo.seq ?_
  refine LGo.seq ?_
  refine LGo.region rfl ?_  -- region 2
  refine R.move (h := ?_)  -- t11 := move
  refine R.bin (run_lss _ _ _ _ _ _) (h := ?_)  -- t12 := binOp
  refine Reg.nil ⟨fun h => (by cases h), ?_⟩
  have hsp := idx_spec (fun x => decide (Fld.tag x = tag)) xs 0
  refine LGo.ifd (ht := fun hc => ?_) (hf := fun hc => ?_)
  · -- then
    have e : fldAt tag xs = default ∧ fldHas tag xs = false := by
      rcases hsp with ⟨h1, h2⟩ | ⟨j, hj, h1, h2⟩
      · simp [fldAt, fldHas, h2]
      · omega
    rw [e.1, e.2]
    refine LGo.seq ?_
    refine LGo.region rfl ?_  -- region 3
    refine R.alloc Z34 (h := ?_)  -- t7 := alloc
    refine Reg.nil ⟨fun h => (by cases h), ?_⟩
    refine LGo.seq ?_
    refine LGo.region rfl ?_  -- region 4
    refine R.loadA A34 (h := ?_)
    refine R.storeA A34 (h := ?_)  -- _ := store
    refine R.assign (h := ?_)  -- t5 := assign
    refine Reg.nil ⟨fun h => (by cases h), ?_⟩
    exact LGo.ret (resD1 Try.results31 A34 hA hmd (by omega) (upHi (by rfl)) (by rfl) (by rfl) (by rfl) (by rfl) (.inr rfl))
  · -- else
    rcases hsp with ⟨h1, h2⟩ | ⟨j, hj, h1, h2⟩
    · omega
    have hx : (xs.map Fld.c)[(idx (fun x => decide (Fld.tag x = tag)) 0 xs).toNat]? = some (xs[j].c) := by rw [h1]; simp [hj]
    have e : fldAt tag xs = xs[j] ∧ fldHas tag xs = true := by simp [fldAt, fldHas, h2]
    rw [e.1, e.2]
    generalize xs[j] = x at hx ⊢
    refine LGo.skip ?_
    refine LGo.seq ?_
    refine LGo.region rfl ?_  -- region 5
    refine R.move (h := ?_)  -- t14 := move
    refine R.move (h := ?_)  -- t15 := move
    refine R.index I26 (hj := fun _ => ⟨by omega, hx⟩) (h := ?_)  -- t16 := indexAddr
    refine R.loadN A34 (h := ?_)
    refine R.storeA A34 (h := ?_)  -- _ := store
    refine R.assign (h := ?_)  -- t5 := assign
    refine Reg.nil ⟨fun h => (by cases h), ?_⟩
    exact LGo.ret (resD1 Try.results31 A34 hA hmd (by omega) (upHi (by rfl)) (by rfl) (by rfl) (by rfl) (by rfl) (.inr rfl))

theorem fld_pub (xs : List Fld) (tag : Int) (hxs : xs.length ≤ 100) : PC Try.prog 16 [.sv (.sl 3 (xs.map Fld.c)), .i tag] (.tup [.agg ((fldAt tag xs).c.map LV.sv), .b (fldHas tag xs)]) := by
  refine ⟨LC.of_go Try.func16 (c := _) rfl (by kernel_rfl) (by rw [Try.ntmps16]; simp) rfl rfl (by simp) (by simp) ?_⟩
  intro B hA hmd
  refine LGo.seq ?_
  refine LGo.region rfl ?_  -- region 0
  refine R.box (h := ?_)  -- t3 := box
  refine R.alloc Z34 (h := ?_)  -- t4 := alloc
  refine R.assign (h := ?_)  -- t5 := assign
  refine Reg.nil ⟨fun h => (by cases h), ?_⟩
  refine LGo.seq ?_
  refine LGo.region rfl ?_  -- region 1
  refine R.move (h := ?_)  -- t6 := move
  refine R.makeFunc (es := []) (fs := [_]) (h := ?_)  -- t7 := makeFunc
  refine R.callRd (m := 1) (avs := [_, _]) (out := .tup [.agg ((fldAt tag xs).c.map LV.sv), .b (fldHas tag xs)]) (es := [_, _]) (first := []) (cap := []) (fld_find xs tag hxs) (hL := upHi (by rfl)) (h := ?_)
  refine R.extract (h := ?_)  -- t9 := extract
  refine R.extract (h := ?_)  -- t10 := extract
  refine R.storeA A34 (h := ?_)  -- _ := store
  refine R.assign (h := ?_)  -- t5 := assign
  refine Reg.nil ⟨fun h => (by cases h), ?_⟩
  exact LGo.ret (resD1 Try.results16 A34 hA hmd (by omega) noHo (by rfl) (by rfl) (by rfl) (by rfl) (.inr rfl))


theorem rule_cl (x : Rule) (tag : Int) : LC Try.prog 37 1 [.agg (x.c.map LV.sv), .ptr 0 0] [(0, .box 3 [.i tag])] (.b (decide (x.tag = tag))) [(0, .box 3 [.i tag])] 0 := by
  refine LC.of_go Try.func37 (c := _) rfl (by kernel_rfl) (by rw [Try.ntmps37]; simp) rfl rfl (by simp [LO.lt, LV.lts, LV.lt]) (by simp) ?_
  intro B hA hmd
  refine LGo.seq ?_
  refine LGo.region rfl ?_  -- region 0
  refine R.box (h := ?_)  -- t2 := box
  refine R.assign (h := ?_)  -- t3 := assign
  refine Reg.nil ⟨fun h => (by cases h), ?_⟩
  refine LGo.seq ?_
  refine LGo.region rfl ?_  -- region 1
  refine R.field F45_0 (h := ?_)
  refine R.loadB O3 (h := ?_)
  refine R.loadB O3 (h := ?_)
  refine R.bin (run_eql _ _ _ _ _ _) (h := ?_)  -- t7 := binOp
  refine R.assign (h := ?_)  -- t3 := assign
  refine Reg.nil ⟨fun h => (by cases h), ?_⟩
  refine LGo.drop 1 (fun o h => (hA o).1 h) (by omega) [(3, (true, .b (decide (x.tag = tag))))] [(0, .box 3 [.i tag])] ⟨rfl, trivial⟩ ⟨rfl, trivial⟩ (by simp [LV.lt]) (by simp [LO.lt, LV.lts, LV.lt]) (h := ?_)
  exact LGo.ret (res1 Try.results37 hA hmd (by rfl) (fun _ _ h => h) (by rfl) (.inr rfl))

theorem rule_idx (xs : List Rule) (tag : Int) (hxs : xs.length ≤ 100) : LC Try.prog 43 1 [.sv (.sl 5 (xs.map Rule.c)), .fn (.func 37) [] [.ptr 0 0]] [(0, .box 3 [.i tag])] (.i (idx (fun x => decide (Rule.tag x = tag)) 0 xs)) [(0, .box 3 [.i tag])] 0 := by
  refine LC.of_go Try.func43 (c := _) rfl (by kernel_rfl) (by rw [Try.ntmps43]; simp) rfl rfl (by simp [LO.lt, LV.lts, LV.lt]) (by simp) ?_
  intro B hA hmd
  refine LGo.seq ?_
  refine LGo.region rfl ?_  -- region 0
  refine R.assign (h := ?_)  -- t4 := assign
  refine Reg.nil ⟨fun h => (by cases h), ?_⟩
  refine LGo.seq ?_
  refine LGo.seq ?_
  refine LGo.region rfl ?_  -- region 1
  refine R.move (h := ?_)  -- t6 := move
  refine R.len S22 (h := ?_)
  refine R.move (h := ?_)  -- t8 := move
  refine Reg.nil ⟨fun h => (by cases h), ?_⟩
  rw [List.length_map]
  refine LGo.block ?_
  refine LGo.loop ?_
  refine LGo.keep [(0, (true, .sv (.sl 5 (xs.map Rule.c)))), (1, (true, .fn (.func 37) [] [.ptr 0 0])), (7, (true, .i xs.length)), (8, (true, .i (0 : Nat)))] [(0, .box 3 [.i tag])] ⟨rfl, rfl, rfl, rfl, trivial⟩ ⟨rfl, trivial⟩ ?_
  refine LGo.loopK (σ := Nat) (fun k => k ≤ xs.length ∧ idx (fun x => decide (Rule.tag x = tag)) 0 xs = idx (fun x => decide (Rule.tag x = tag)) k (xs.drop k))
    (fun k => [(0, (true, .sv (.sl 5 (xs.map Rule.c)))), (1, (true, .fn (.func 37) [] [.ptr 0 0])), (7, (true, .i xs.length)), (8, (true, .i k))]) (fun _ => [(0, .box 3 [.i tag])]) (fun _ => 1) (fun k => xs.length - k) 0 ⟨by simp, by simp⟩ ?_
  rintro k ⟨hk, hq⟩ ih
  refine LGo.seq ?_
  refine LGo.region rfl ?_  -- region 2
  refine R.bin (run_lss _ _ _ _ _ _) (h := ?_)  -- t9 := binOp
  refine Reg.nil ⟨fun h => (by cases h), ?_⟩
  refine LGo.seq ?_
  refine LGo.ifd (ht := fun hc => ?_) (hf := fun hc => ?_)
  · -- then
    have hlt : k < xs.length := by omega
    have hx : (xs.map Rule.c)[((k : Nat) : Int).toNat]? = some (xs[k].c) := by simp [hlt]
    have hd : xs.drop k = xs[k] :: xs.drop (k + 1) := List.drop_eq_getElem_cons hlt
    rw [hd] at hq
    generalize xs[k] = x at hx hq
    clear hd
    refine LGo.skip ?_
    refine LGo.seq ?_
    refine LGo.block ?_
    refine LGo.seq ?_
    refine LGo.region rfl ?_  -- region 3
    refine R.move (h := ?_)  -- t10 := move
    refine R.assign (h := ?_)  -- t5 := assign
    refine Reg.nil ⟨fun h => (by cases h), ?_⟩
    refine LGo.seq ?_
    refine LGo.region rfl ?_  -- region 4
    refine R.move (h := ?_)  -- t11 := move
    refine R.move (h := ?_)  -- t12 := move
    refine R.move (h := ?_)  -- t13 := move
    refine R.index I22 (hj := fun _ => ⟨by omega, hx⟩) (h := ?_)  -- t14 := indexAddr
    refine R.loadN A45 (h := ?_)  -- t15 := load
    refine R.callRd (m := 1) (avs := [_]) (out := .b (decide (x.tag = tag))) (es := [_]) (first := []) (cap := [.ptr 0 0]) (rule_cl x tag) (hL := fun _ _ h => h) (h := ?_)
    refine Reg.nil ⟨fun h => (by cases h), ?_⟩
    refine LGo.ifd (ht := fun hc1 => ?_) (hf := fun hc1 => ?_)
    · -- then
      refine LGo.seq ?_
      refine LGo.region rfl ?_  -- region 5
      refine R.move (h := ?_)  -- t17 := move
      refine R.assign (h := ?_)  -- t4 := assign
      refine Reg.nil ⟨fun h => (by cases h), ?_⟩
      have e : idx (fun x => decide (Rule.tag x = tag)) k (x :: xs.drop (k + 1)) = k := by simp [idx, hc1]
      rw [hq, e]
      exact LGo.ret (res1 Try.results43 hA hmd (by rfl) (fun _ _ h => h) (by rfl) (.inr rfl))
    · -- else
      have e : idx (fun x => decide (Rule.tag x = tag)) k (x :: xs.drop (k + 1)) = idx (fun x => decide (Rule.tag x = tag)) (k + 1) (xs.drop (k + 1)) := by simp [idx, hc1]
      rw [e] at hq
      refine LGo.skip ?_
      refine LGo.inBlock ?_
      refine LGo.region rfl ?_  -- region 6
      refine R.add (h := ?_)
      refine R.move (h := ?_)  -- t8 := move
      refine Reg.nil ⟨fun h => (by cases h), ?_⟩
      refine LGo.inLoop ?_
      exact LGo.next 1 (fun o h => (hA o).1 h) (by omega) (ih (k + 1) ⟨by omega, hq⟩ (by omega)) ⟨rfl, rfl, rfl, rfl, trivial⟩ ⟨rfl, trivial⟩
  · -- else
    have hk' : k = xs.length := by omega
    subst hk'
    simp only [List.drop_length, idx] at hq
    rw [hq]
    refine LGo.exit rfl ?_
    refine LGo.seq ?_
    refine LGo.region rfl ?_  -- region 7
    refine R.assign (h := ?_)  -- t4 := assign
    refine Reg.nil ⟨fun h => (by cases h), ?_⟩
    exact LGo.ret (res1 Try.results43 hA hmd (by rfl) (fun _ _ h => h) (by rfl) (.inr rfl))

theorem rule_find (xs : List Rule) (tag : Int) (hxs : xs.length ≤ 100) : LC Try.prog 36 1 [.sv (.sl 5 (xs.map Rule.c)), .fn (.func 37) [] [.ptr 0 0]] [(0, .box 3 [.i tag])] (.tup [.agg ((ruleAt tag xs).c.map LV.sv), .b (ruleHas tag xs)]) [(0, .box 3 [.i tag])] 0 := by
  refine LC.of_go Try.func36 (c := _) rfl (by kernel_rfl) (by rw [Try.ntmps36]; simp) rfl rfl (by simp [LO.lt, LV.lts, LV.lt]) (by simp) ?_
  intro B hA hmd
  refine LGo.seq ?_
  refine LGo.region rfl ?_  -- region 0
  refine R.alloc Z45 (h := ?_)  -- t4 := alloc
  refine R.assign (h := ?_)  -- t5 := assign
  refine Reg.nil ⟨fun h => (by cases h), ?_⟩
  refine LGo.seq ?_
  refine LGo.region rfl ?_  -- region 1
  refine R.move (h := ?_)  -- t8 := move
  refine R.move (h := ?_)  -- t9 := move
  refine R.callRd (m := 1) (avs := [_, _]) (out := .i (idx (fun x => decide (Rule.tag x = tag)) 0 xs)) (es := [_, _]) (first := []) (cap := []) (rule_idx xs tag hxs) (hL := upHi (by rfl)) (h := ?_)
  refine R.assign (h := ?_)  -- t6 := assign
  refine Reg.nil ⟨fun h => (by cases h), ?_⟩
  refine LGo.seq ?_
  refine LGo.seq ?_
  refine LGo.region rfl ?_  -- region 2
  refine R.move (h := ?_)  -- t11 := move
  refine R.bin (run_lss _ _ _ _ _ _) (h := ?_)  -- t12 := binOp
  refine Reg.nil ⟨fun h => (by cases h), ?_⟩
  have hsp := idx_spec (fun x => decide (Rule.tag x = tag)) xs 0
  refine LGo.ifd (ht := fun hc => ?_) (hf := fun hc => ?_)
  · -- then
    have e : ruleAt tag xs = default ∧ ruleHas tag xs = false := by
      rcases hsp with ⟨h1, h2⟩ | ⟨j, hj, h1, h2⟩
      · simp [ruleAt, ruleHas, h2]
      · omega
    rw [e.1, e.2]
    refine LGo.seq ?_
    refine LGo.region rfl ?_  -- region 3
    refine R.alloc Z45 (h := ?_)  -- t7 := alloc
    refine Reg.nil ⟨fun h => (by cases h), ?_⟩
    refine LGo.seq ?_
    refine LGo.region rfl ?_  -- region 4
    refine R.loadA A45 (h := ?_)
    refine R.storeA A45 (h := ?_)  -- _ := store
    refine R.assign (h := ?_)  -- t5 := assign
    refine Reg.nil ⟨fun h => (by cases h), ?_⟩
    exact LGo.ret (resD1 Try.results36 A45 hA hmd (by omega) (upHi (by rfl)) (by rfl) (by rfl) (by rfl) (by rfl) (.inr rfl))
  · -- else
    rcases hsp with ⟨h1, h2⟩ | ⟨j, hj, h1, h2⟩
    · omega
    have hx : (xs.map Rule.c)[(idx (fun x => decide (Rule.tag x = tag)) 0 xs).toNat]? = some (xs[j].c) := by rw [h1]; simp [hj]
    have e : ruleAt tag xs = xs[j] ∧ ruleHas tag xs = true := by simp [ruleAt, ruleHas, h2]
    rw [e.1, e.2]
    generalize xs[j] = x at hx ⊢
    refine LGo.skip ?_
    refine LGo.seq ?_
    refine LGo.region rfl ?_  -- region 5
    refine R.move (h := ?_)  -- t14 := move
    refine R.move (h := ?_)  -- t15 := move
    refine R.index I22 (hj := fun _ => ⟨by omega, hx⟩) (h := ?_)  -- t16 := indexAddr
    refine R.loadN A45 (h := ?_)
    refine R.storeA A45 (h := ?_)  -- _ := store
    refine R.assign (h := ?_)  -- t5 := assign
    refine Reg.nil ⟨fun h => (by cases h), ?_⟩
    exact LGo.ret (resD1 Try.results36 A45 hA hmd (by omega) (upHi (by rfl)) (by rfl) (by rfl) (by rfl) (by rfl) (.inr rfl))

theorem rule_pub (xs : List Rule) (tag : Int) (hxs : xs.length ≤ 100) : PC Try.prog 26 [.sv (.sl 5 (xs.map Rule.c)), .i tag] (.tup [.agg ((ruleAt tag xs).c.map LV.sv), .b (ruleHas tag xs)]) := by
  refine ⟨LC.of_go Try.func26 (c := _) rfl (by kernel_rfl) (by rw [Try.ntmps26]; simp) rfl rfl (by simp) (by simp) ?_⟩
  intro B hA hmd
  refine LGo.seq ?_
  refine LGo.region rfl ?_  -- region 0
  refine R.box (h := ?_)  -- t3 := box
  refine R.alloc Z45 (h := ?_)  -- t4 := alloc
  refine R.assign (h := ?_)  -- t5 := assign
  refine Reg.nil ⟨fun h => (by cases h), ?_⟩
  refine LGo.seq ?_
  refine LGo.region rfl ?_  -- region 1
  refine R.move (h := ?_)  -- t6 := move
  refine R.makeFunc (es := []) (fs := [_]) (h := ?_)  -- t7 := makeFunc
  refine R.callRd (m := 1) (avs := [_, _]) (out := .tup [.agg ((ruleAt tag xs).c.map LV.sv), .b (ruleHas tag xs)]) (es := [_, _]) (first := []) (cap := []) (rule_find xs tag hxs) (hL := upHi (by rfl)) (h := ?_)
  refine R.extract (h := ?_)  -- t9 := extract
  refine R.extract (h := ?_)  -- t10 := extract
  refine R.storeA A45 (h := ?_)  -- _ := store
  refine R.assign (h := ?_)  -- t5 := assign
  refine Reg.nil ⟨fun h => (by cases h), ?_⟩
  exact LGo.ret (resD1 Try.results26 A45 hA hmd (by omega) noHo (by rfl) (by rfl) (by rfl) (by rfl) (.inr rfl))

end Go.Proofs.Ytmiamhegohlglaa
