/- requests: Rules; the reference's kinds, tags, rules and check. -/
import Derived.Test.YtcobkjognpjikaaGreatDoorRQ
set_option linter.unusedSimpArgs false
set_option linter.unusedVariables false
namespace Go.Proofs.YtcobkjognpjikaaGreatDoor

def ruGo (m : Int) : Nat → Nat → List Rule → List Rule
  | 0, _, l => l
  | n + 1, k, l => if bitQ m k = 1 then ruGo m n (k + 1) (l ++ [ruleQ k]) else ruGo m n (k + 1) l
def rulesQ (k : Int) : List Rule × Int := if maskOf k = 0 then ([], 2) else (ruGo (maskOf k) 16 0 [], 0)

theorem rulesQ_P (kd : Int) : PC Tryz.prog 69 [.i kd] (.tup [.sv (.sl 5 ((rulesQ kd).1.map Rule.c)), .i (rulesQ kd).2]) := by
 refine ⟨LC.of_go Tryz.func69 (c := _) rfl (by kernel_rfl) (by rw [Tryz.ntmps69]; simp) rfl rfl (by simp [LO.lt, LV.lts, LV.lt]) (by simp) ?_⟩
 intro B hA hmd
 obtain ⟨g, e0⟩ : ∃ g, rulesQ kd = g := ⟨_, rfl⟩
 have e1 := e0
 unfold rulesQ at e1
 rw [e0]
 have hm := maskOf_lt kd
 refine .seq ?_
 refine .region rfl ?_
 refine R.assign (h := ?_)
 refine R.assign (h := ?_)
 refine .n0 ?_
 refine .seq ?_
 refine .region rfl ?_
 refine R.move (h := ?_)
 refine R.callP (es := [_]) (fun _ => mask_P kd) (h := ?_)
 refine R.assign (h := ?_)
 refine .n0 ?_
 refine .seq ?_
 refine .seq ?_
 refine .region rfl ?_
 refine R.move (h := ?_)
 refine R.bin (run_eql _ _ _ _ _ _) (h := ?_)
 refine .n0 ?_
 refine LGo.ifd (ht := fun hc => ?_) (hf := fun hc => ?_)
 ·
  rw [if_pos hc] at e1; rw [← e1]
  refine .seq ?_
  refine .region rfl ?_
  refine R.assign (h := ?_)
  refine R.assign (h := ?_)
  refine .n0 ?_
  first | refine LGo.frzT 2 (h := ?_) | refine LGo.nilSl 2 5 (h := ?_) | skip
  exact LGo.ret (ret_TT Tryz.results69 hA hmd)
 ·
  rw [if_neg hc] at e1
  generalize maskOf kd = m at *
  refine .skip ?_
  refine .seq ?_
  refine .region rfl ?_
  refine R.assign (h := ?_)
  refine .n0 ?_
  refine .seq ?_
  refine .seq ?_
  refine .region rfl ?_
  refine R.move (h := ?_)
  refine .n0 ?_
  refine .block ?_
  refine .loop ?_
  refine LGo.nilRs 5 88 5 (h := ?_)
  refine LGo.loopG (σ := Nat × Nat × List Rule) (fun x => x.1 + x.2.1 = 16 ∧ x.2.2.length ≤ x.2.1 ∧ (ruGo m x.1 x.2.1 x.2.2, (0 : Int)) = g) (fun x => [(11, (true, .i (x.2.1 : Nat))), (5, (true, .ref 0))]) (fun x => [(0, .rs 88 5 (x.2.2.map Rule.c))]) (fun x => x.1) ((16, 0, [])) [(4, _)] ⟨rfl, Nat.le_refl _, e1⟩ (by repeat (first | exact trivial | refine ⟨rfl, ?_⟩)) (by repeat (first | exact trivial | refine ⟨rfl, ?_⟩)) (by repeat (first | exact trivial | refine ⟨rfl, ?_⟩)) ?_
  rintro ⟨fu, k, acc⟩ ⟨q1, q2, e1⟩ ih
  dsimp only at * 
  refine .seq ?_
  refine .region rfl ?_
  refine R.bin (run_lss _ _ _ _ _ _) (h := ?_)
  refine .n0 ?_
  refine .seq ?_
  refine LGo.ifd (ht := fun hc2 => ?_) (hf := fun hc2 => ?_)
  ·
   obtain ⟨f, rfl⟩ : ∃ f, fu = f + 1 := ⟨fu - 1, by omega⟩
   rw [ruGo] at e1
   refine .skip ?_
   refine .seq ?_
   refine .block ?_
   refine .seq ?_
   refine .region rfl ?_
   refine R.move (h := ?_)
   refine R.assign (h := ?_)
   refine .n0 ?_
   refine .seq ?_
   refine .region rfl ?_
   refine R.move (h := ?_)
   refine R.move (h := ?_)
   refine R.shr (h := ?_)
   rw [shr_u16 m k (by omega)]
   refine R.bin (run_andE _ _ _ .u16 _ 1 (and1_u16 _ (div_lt m k hm.1 hm.2).1 (div_lt m k hm.1 hm.2).2)) (h := ?_)
   refine R.bin (run_eql _ _ _ _ _ _) (h := ?_)
   refine .n0 ?_
   refine LGo.ifd (ht := fun hc3 => ?_) (hf := fun hc3 => ?_)
   ·
    rw [if_pos (show bitQ m k = 1 from hc3)] at e1
    refine .region rfl ?_
    refine R.move (h := ?_)
    refine R.move (h := ?_)
    refine R.callP (es := [_]) (fun _ => ruleQ_P (k : Int)) (h := ?_)
    refine R.buildSliceG AP72 (xs := [_]) (es := [_]) (hcs := CellsOfs.cons (CellsOf.agg rfl) CellsOfs.nil) (h := ?_)
    refine R.appendS AP72 (hs := SrcOk.sl Tryz.underlying72 (by simp; rfl)) (hlen := by simp; omega) (h := ?_)
    refine R.assign (h := ?_)
    refine .n0 ?_
    refine .inBlock ?_
    refine .region rfl ?_
    first | refine R.add (h := ?_) | refine R.addW (h := ?_)
    refine R.move (h := ?_)
    refine .n0 ?_
    refine .inLoop ?_
    exact LGo.turn [1] (b := 0) (fun o h => by have := (hA o).1 h; omega) (ih (f, k + 1, acc ++ [ruleQ k]) ⟨by dsimp only; omega, by simp; omega, e1⟩ (by dsimp only; omega)) (by repeat (first | exact trivial | refine ⟨rfl, ?_⟩)) ⟨by rw [List.map_append]; rfl, trivial⟩
   ·
    rw [if_neg (show ¬ bitQ m k = 1 from hc3)] at e1
    refine .skip ?_
    refine .inBlock ?_
    refine .region rfl ?_
    first | refine R.add (h := ?_) | refine R.addW (h := ?_)
    refine R.move (h := ?_)
    refine .n0 ?_
    refine .inLoop ?_
    exact LGo.next _ (fun o h => by have := (hA o).1 h; omega) (by omega) (ih (f, k + 1, acc) ⟨by dsimp only; omega, by dsimp only; omega, e1⟩ (by dsimp only; omega)) (by repeat (first | exact trivial | refine ⟨rfl, ?_⟩)) (by repeat (first | exact trivial | refine ⟨rfl, ?_⟩))
  ·
   obtain rfl : fu = 0 := by omega
   rw [ruGo] at e1
   rw [← e1]
   refine .exit rfl ?_
   refine .seq ?_
   refine .region rfl ?_
   refine R.move (h := ?_)
   refine R.assign (h := ?_)
   refine R.assign (h := ?_)
   refine .n0 ?_
   first | refine LGo.frzT 2 (h := ?_) | refine LGo.nilSl 2 5 (h := ?_) | skip
   exact LGo.ret (ret_TT Tryz.results69 hA hmd)

/-- the words of the kinds of requests -/
def kindW : List (List UInt8) := [[], [111, 112, 101, 110], [104, 111, 108, 100], [98, 108, 111, 99, 107], [114, 101, 108, 101, 97, 115, 101], [98, 117, 121], [116, 114, 97, 110, 115, 102, 101, 114], [114, 101, 102, 117, 110, 100], [114, 101, 118, 111, 107, 101], [118, 97, 108, 105, 100, 97, 116, 101], [106, 111, 105, 110], [108, 101, 97, 118, 101], [], [101, 110, 116, 101, 114]]
def wordQ (k : Int) : List UInt8 := if k < 1 ∨ 13 < k then [] else kindW.getD k.toNat []
def tagsQ (k : Int) : List Int := if k = 1 then [2] else if k = 2 then [3, 5] else if k = 4 then [3, 5] else if k = 5 then [3, 5] else if k = 8 then [3, 5] else if k = 3 then [3, 6, 7] else if k = 6 then [3, 4, 8] else if k = 7 then [3, 4] else if k = 9 then [4] else if k = 10 then [3, 6] else if k = 11 then [3, 6] else [4, 9]
/-- has a kind the field with a tag -/
def hasGo (t : Int) : List Int → Bool
  | [] => decide (t = 1)
  | x :: l => if x = t then true else hasGo t l
def hasQ (k t : Int) : Bool := hasGo t (tagsQ k)

def numQ (r : Rq) (t : Int) : Int := if t = 1 then (if 9223372036854775807 < r.id then -1 else r.id) else if t = 2 then r.owner else if t = 5 then r.seat else if t = 6 then r.sec else if t = 7 then r.n else if t = 8 then r.to else r.gate
def txtQ (r : Rq) (t : Int) : List UInt8 := if t = 3 then r.ses else r.tic

def rrGo (kd : Int) : Nat → Nat → List Rule → List Rule
  | 0, _, l => l
  | n + 1, k, l => if hasQ kd k = true then rrGo kd n (k + 1) (l ++ [ruleQ k]) else rrGo kd n (k + 1) l
def rulesR (kd : Int) : List Rule × Int := if wordQ kd = [] then ([], 2) else (rrGo kd 9 1 [], 0)

/-- a field that a kind has not, and that is there -/
def bad1 (r : Rq) (t : Int) : Bool := ((decide (t = 3) || decide (t = 4)) && !decide (txtQ r t = [])) || (((!decide (t = 3)) && !decide (t = 4)) && !decide (numQ r t = 0))
def any1 (r : Rq) : Nat → Nat → Bool
  | 0, _ => false
  | n + 1, k => if hasQ r.kind k = true then any1 r n (k + 1) else if bad1 r k = true then true else any1 r n (k + 1)
def bad2 (r : Rq) (t : Int) : Bool := (decide (numQ r t < 0) || decide (uw (numQ r t) < (ruleQ t).low)) || decide ((ruleQ t).high < uw (numQ r t))
def any2 (r : Rq) : Nat → Nat → Bool
  | 0, _ => false
  | n + 1, k => if ((decide ((k : Int) = 3) || decide ((k : Int) = 4)) || !hasQ r.kind k) = true then any2 r n (k + 1) else if bad2 r k = true then true else any2 r n (k + 1)
def bad3 (r : Rq) (t : Int) : Bool := hasQ r.kind t && !decide (((txtQ r t).length : Int) = (ruleQ t).low)
def any3 (r : Rq) : Nat → Nat → Bool
  | 0, _ => false
  | n + 1, k => if bad3 r k = true then true else any3 r n (k + 1)
def refCheckQ (r : Rq) : Int := if wordQ r.kind = [] then 2 else if any1 r 8 2 = true then 2 else if any2 r 9 1 = true then 7 else if any3 r 2 3 = true then 3 else 0

end Go.Proofs.YtcobkjognpjikaaGreatDoor
