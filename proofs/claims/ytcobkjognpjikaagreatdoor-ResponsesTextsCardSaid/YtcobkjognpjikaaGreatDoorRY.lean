/- responses: the reference's functions. -/
import Derived.Test.YtcobkjognpjikaaGreatDoorRW
set_option linter.unusedSimpArgs false
set_option linter.unusedVariables false
namespace Go.Proofs.YtcobkjognpjikaaGreatDoor

def askedS (k : Int) : Bool := decide ((rulesR k).2 = 0)
def usesS (k : Int) (bad : Bool) (t : Int) : Bool := if t ≤ 2 then true else if bad = true then false else if k = 1 then (decide (t = 3) || decide (t = 8)) else if k = 2 then decide (t = 8) else if k = 3 then ((decide (t = 5) || decide (t = 6)) || decide (t = 8)) else if k = 5 then decide (t = 4) else if k = 6 then decide (t = 4) else if k = 10 then decide (t = 7) else false
def ruleT (k t : Int) : Rule := if t = 1 then (if k = 0 then ⟨t, 1, 0, 0, true⟩ else ⟨t, 1, 1, 9223372036854775807, true⟩) else if t = 2 then ⟨t, 1, 0, 255, true⟩ else if t = 3 then ⟨t, 2, 44, 44, true⟩ else if t = 4 then ⟨t, 2, 56, 56, true⟩ else if t = 8 then ⟨t, 1, 0, 9223372036854775807, true⟩ else ⟨t, 1, 0, 2147483647, true⟩
def fieldT (r : Rs) (t : Int) : Fld × Bool := if t = 1 then (⟨t, r.id, []⟩, true) else if t = 2 then (⟨t, uw r.err, []⟩, decide (r.err ≥ 0)) else if t = 3 then (⟨t, uw 0, r.ses⟩, decide ((0 : Int) ≥ 0)) else if t = 4 then (⟨t, uw 0, r.tic⟩, decide ((0 : Int) ≥ 0)) else if t = 5 then (⟨t, uw r.seat, []⟩, decide (r.seat ≥ 0))
  else if t = 6 then (⟨t, uw r.n, []⟩, decide (r.n ≥ 0)) else if t = 7 then (⟨t, uw r.place, []⟩, decide (r.place ≥ 0)) else if t = 8 then (⟨t, uw r.dl, []⟩, decide (r.dl ≥ 0)) else (⟨t, uw 0, []⟩, decide ((0 : Int) ≥ 0))
def badOf (r : Rs) : Bool := !decide (r.err = 0)
def anyG (p : Nat → Bool) : Nat → Nat → Bool
  | 0, _ => false
  | n + 1, k => if p k = true then true else anyG p n (k + 1)
def gGo {α : Type} (p : Nat → Bool) (f : Nat → α) : Nat → Nat → List α → List α
  | 0, _, l => l
  | n + 1, k, l => if p k = true then gGo p f n (k + 1) (l ++ [f k]) else gGo p f n (k + 1) l
def badT1 (r : Rs) (t : Nat) : Bool := (!usesS r.kind (badOf r) t) && ((!decide ((fieldT r t).1.num = 0)) || !decide ((fieldT r t).1.txt = []))
def badT2 (r : Rs) (t : Nat) : Bool := (usesS r.kind (badOf r) t && decide ((ruleT r.kind t).kind = 1)) && (((!(fieldT r t).2) || decide ((fieldT r t).1.num < (ruleT r.kind t).low)) || decide ((ruleT r.kind t).high < (fieldT r t).1.num))
def badT3 (r : Rs) (t : Nat) : Bool := usesS r.kind (badOf r) t && !decide (((fieldT r t).1.txt.length : Int) = (ruleT r.kind t).low)
def refCheckT (r : Rs) : Int := if (((!decide (r.kind = 0)) && !askedS r.kind) || (decide (r.kind = 0) && ((!decide (r.id = 0)) || !decide (r.err = 11)))) = true then 2 else if anyG (badT1 r) 6 3 = true then 2 else if anyG (badT2 r) 8 1 = true then 7 else if anyG (badT3 r) 2 3 = true then 3 else 0
def rulesT (k : Int) (bad : Bool) : List Rule := gGo (fun t => usesS k bad t) (fun t => ruleT k t) 8 1 []
def messageT (r : Rs) : List Fld := gGo (fun t => usesS r.kind (badOf r) t) (fun t => (fieldT r t).1) 8 1 []
def encT (r : Rs) : List UInt8 × Int := if (!decide (refCheckT r = 0)) = true then ([], refCheckT r) else (byt r.kind :: encBy (rulesT r.kind (badOf r)) (messageT r), 0)
theorem fieldT_len (r : Rs) (hr : RsOk r) (t : Int) : (fieldT r t).1.txt.length ≤ maxLen := by
  have h1 := hr.ses
  have h2 := hr.tic
  unfold fieldT
  (repeat' split) <;> simp [*]
theorem gGo_len {α : Type} (p : Nat → Bool) (f : Nat → α) : ∀ (n k : Nat) (l : List α), (gGo p f n k l).length ≤ l.length + n
  | 0, _, l => by simp [gGo]
  | n + 1, k, l => by
    rw [gGo]
    split
    · have := gGo_len p f n (k + 1) (l ++ [f k]); simp at this; omega
    · have := gGo_len p f n (k + 1) l; omega
theorem askedS_P (k : Int) : PC Tryz.prog 53 [.i k] (.b (askedS k)) := by
 refine ⟨LC.of_go Tryz.func53 (c := _) rfl (by kernel_rfl) (by rw [Tryz.ntmps53]; simp) rfl rfl (by simp [LO.lt, LV.lts, LV.lt]) (by simp) ?_⟩
 intro B hA hmd
 unfold askedS
 refine .seq ?_
 refine .region rfl ?_
 refine R.assign (h := ?_)
 refine .n0 ?_
 refine .seq ?_
 refine .region rfl ?_
 refine R.move (h := ?_)
 refine R.callP (es := [_]) (fun _ => rulesR_P k) (h := ?_)
 refine R.move (h := ?_)
 refine R.extract (h := ?_)
 refine R.extract (h := ?_)
 refine R.assign (h := ?_)
 refine R.assign (h := ?_)
 refine .n0 ?_
 refine .seq ?_
 refine .region rfl ?_
 refine R.move (h := ?_)
 refine R.bin (run_eql _ _ _ _ _ _) (h := ?_)
 refine R.assign (h := ?_)
 refine .n0 ?_
 exact LGo.ret (ret_T Tryz.results53 hA hmd)

theorem usesS_P (k : Int) (bad : Bool) (t : Int) : PC Tryz.prog 55 [.i k, .b bad, .i t] (.b (usesS k bad t)) := by
 refine ⟨LC.of_go Tryz.func55 (c := _) rfl (by kernel_rfl) (by rw [Tryz.ntmps55]; simp) rfl rfl (by simp [LO.lt, LV.lts, LV.lt]) (by simp) ?_⟩
 intro B hA hmd
 obtain ⟨g, e0⟩ : ∃ g, usesS k bad t = g := ⟨_, rfl⟩
 have e1 := e0
 unfold usesS at e1
 rw [e0]
 refine .seq ?_
 refine .region rfl ?_
 refine R.assign (h := ?_)
 refine .n0 ?_
 refine .seq ?_
 refine .seq ?_
 refine .region rfl ?_
 refine R.move (h := ?_)
 refine R.bin (run_leq _ _ _ _ _ _) (h := ?_)
 refine .n0 ?_
 first | refine LGo.ifd (ht := fun hc => ?_) (hf := fun hc => ?_) | refine LGo.ifb (ht := fun hc => ?_) (hf := fun hc => ?_)
 ·
  rw [if_pos hc] at e1
  refine .seq ?_
  refine .region rfl ?_
  refine R.assign (h := ?_)
  refine .n0 ?_
  rw [← e1]
  exact LGo.ret (ret_T Tryz.results55 hA hmd)
 ·
  rw [if_neg hc] at e1
  refine .skip ?_
  refine .seq ?_
  refine .seq ?_
  refine .region rfl ?_
  refine R.move (h := ?_)
  refine .n0 ?_
  refine LGo.ifb (ht := fun hc2 => ?_) (hf := fun hc2 => ?_)
  ·
   rw [if_pos hc2] at e1
   refine .seq ?_
   refine .region rfl ?_
   refine R.assign (h := ?_)
   refine .n0 ?_
   rw [← e1]
   exact LGo.ret (ret_T Tryz.results55 hA hmd)
  ·
   rw [if_neg (by rw [hc2]; simp)] at e1
   refine .skip ?_
   refine .seq ?_
   refine .seq ?_
   refine .region rfl ?_
   refine R.move (h := ?_)
   refine .n0 ?_
   refine .block ?_
   refine .seq ?_
   refine .region rfl ?_
   refine R.bin (run_eql _ _ _ _ _ _) (h := ?_)
   refine R.assign (h := ?_)
   refine .n0 ?_
   first | refine LGo.ifd (ht := fun hc3 => ?_) (hf := fun hc3 => ?_) | refine LGo.ifb (ht := fun hc3 => ?_) (hf := fun hc3 => ?_)
   ·
    rw [if_pos hc3] at e1
    refine .seq ?_
    refine .region rfl ?_
    refine R.move (h := ?_)
    refine R.bin (run_eql _ _ _ _ _ _) (h := ?_)
    refine R.move (h := ?_)
    refine R.move (h := ?_)
    refine R.bin (run_eql _ _ _ _ _ _) (h := ?_)
    refine R.or (h := ?_)
    refine R.assign (h := ?_)
    refine .n0 ?_
    rw [← e1]
    exact LGo.ret (ret_T Tryz.results55 hA hmd)
   ·
    rw [if_neg hc3] at e1
    refine .seq ?_
    refine .region rfl ?_
    refine R.bin (run_eql _ _ _ _ _ _) (h := ?_)
    refine R.assign (h := ?_)
    refine .n0 ?_
    first | refine LGo.ifd (ht := fun hc4 => ?_) (hf := fun hc4 => ?_) | refine LGo.ifb (ht := fun hc4 => ?_) (hf := fun hc4 => ?_)
    ·
     rw [if_pos hc4] at e1
     refine .seq ?_
     refine .region rfl ?_
     refine R.move (h := ?_)
     refine R.bin (run_eql _ _ _ _ _ _) (h := ?_)
     refine R.assign (h := ?_)
     refine .n0 ?_
     rw [← e1]
     exact LGo.ret (ret_T Tryz.results55 hA hmd)
    ·
     rw [if_neg hc4] at e1
     refine .seq ?_
     refine .region rfl ?_
     refine R.bin (run_eql _ _ _ _ _ _) (h := ?_)
     refine R.assign (h := ?_)
     refine .n0 ?_
     first | refine LGo.ifd (ht := fun hc5 => ?_) (hf := fun hc5 => ?_) | refine LGo.ifb (ht := fun hc5 => ?_) (hf := fun hc5 => ?_)
     ·
      rw [if_pos hc5] at e1
      refine .seq ?_
      refine .region rfl ?_
      refine R.move (h := ?_)
      refine R.bin (run_eql _ _ _ _ _ _) (h := ?_)
      refine R.move (h := ?_)
      refine R.move (h := ?_)
      refine R.bin (run_eql _ _ _ _ _ _) (h := ?_)
      refine R.or (h := ?_)
      refine R.move (h := ?_)
      refine R.move (h := ?_)
      refine R.bin (run_eql _ _ _ _ _ _) (h := ?_)
      refine R.or (h := ?_)
      refine R.assign (h := ?_)
      refine .n0 ?_
      rw [← e1]
      exact LGo.ret (ret_T Tryz.results55 hA hmd)
     ·
      rw [if_neg hc5] at e1
      refine .seq ?_
      refine .seq ?_
      refine .region rfl ?_
      refine R.bin (run_eql _ _ _ _ _ _) (h := ?_)
      refine R.assign (h := ?_)
      refine .n0 ?_
      first | refine LGo.ifd (ht := fun hc6 => ?_) (hf := fun hc6 => ?_) | refine LGo.ifb (ht := fun hc6 => ?_) (hf := fun hc6 => ?_)
      ·
       rw [if_pos hc6] at e1
       refine .skip ?_
       first | refine LGo.ifd (ht := fun _ => ?_) (hf := fun h => absurd hc6 h) | refine LGo.ifb (ht := fun _ => ?_) (hf := fun h => by rw [hc6] at h; cases h)
       refine .seq ?_
       refine .region rfl ?_
       refine R.move (h := ?_)
       refine R.bin (run_eql _ _ _ _ _ _) (h := ?_)
       refine R.assign (h := ?_)
       refine .n0 ?_
       rw [← e1]
       exact LGo.ret (ret_T Tryz.results55 hA hmd)
      ·
       rw [if_neg hc6] at e1
       refine .region rfl ?_
       refine R.bin (run_eql _ _ _ _ _ _) (h := ?_)
       refine R.assign (h := ?_)
       refine .n0 ?_
       first | refine LGo.ifd (ht := fun hc8 => ?_) (hf := fun hc8 => ?_) | refine LGo.ifb (ht := fun hc8 => ?_) (hf := fun hc8 => ?_)
       ·
        rw [if_pos hc8] at e1
        refine .seq ?_
        refine .region rfl ?_
        refine R.move (h := ?_)
        refine R.bin (run_eql _ _ _ _ _ _) (h := ?_)
        refine R.assign (h := ?_)
        refine .n0 ?_
        rw [← e1]
        exact LGo.ret (ret_T Tryz.results55 hA hmd)
       ·
        rw [if_neg hc8] at e1
        refine .seq ?_
        refine .region rfl ?_
        refine R.bin (run_eql _ _ _ _ _ _) (h := ?_)
        refine R.assign (h := ?_)
        refine .n0 ?_
        first | refine LGo.ifd (ht := fun hc9 => ?_) (hf := fun hc9 => ?_) | refine LGo.ifb (ht := fun hc9 => ?_) (hf := fun hc9 => ?_)
        ·
         rw [if_pos hc9] at e1
         refine .seq ?_
         refine .region rfl ?_
         refine R.move (h := ?_)
         refine R.bin (run_eql _ _ _ _ _ _) (h := ?_)
         refine R.assign (h := ?_)
         refine .n0 ?_
         rw [← e1]
         exact LGo.ret (ret_T Tryz.results55 hA hmd)
        ·
         rw [if_neg hc9] at e1
         refine .skip ?_
         refine .inBlock ?_
         refine .seq ?_
         refine .region rfl ?_
         refine R.assign (h := ?_)
         refine .n0 ?_
         rw [← e1]
         exact LGo.ret (ret_T Tryz.results55 hA hmd)

theorem ruleT_P (k t : Int) : PC Tryz.prog 56 [.i k, .i t] (.agg ((ruleT k t).c.map LV.sv)) := by
 refine ⟨LC.of_go Tryz.func56 (c := _) rfl (by kernel_rfl) (by rw [Tryz.ntmps56]; simp) rfl rfl (by simp [LO.lt, LV.lts, LV.lt]) (by simp) ?_⟩
 intro B hA hmd
 obtain ⟨g, e0⟩ : ∃ g, ruleT k t = g := ⟨_, rfl⟩
 have e1 := e0
 unfold ruleT at e1
 rw [e0]
 refine .seq ?_
 refine .region rfl ?_
 refine R.alloc Z88 (h := ?_)
 refine .n0 ?_
 refine .seq ?_
 refine .region rfl ?_
 refine R.move (h := ?_)
 refine R.build BF88 (is := [0, 1, 3, 4]) (xs := [_, _, _, _]) (es := [_, _, _, _]) (h := ?_)
 refine R.alloc Z88 (h := ?_)
 refine R.storeA A88 (h := ?_)
 refine .n0 ?_
 refine .seq ?_
 refine .seq ?_
 refine .region rfl ?_
 refine R.move (h := ?_)
 refine .n0 ?_
 refine .block ?_
 refine .seq ?_
 refine .region rfl ?_
 refine R.bin (run_eql _ _ _ _ _ _) (h := ?_)
 refine R.assign (h := ?_)
 refine .n0 ?_
 first | refine LGo.ifd (ht := fun hc => ?_) (hf := fun hc => ?_) | refine LGo.ifb (ht := fun hc => ?_) (hf := fun hc => ?_)
 ·
  rw [if_pos hc] at e1
  refine .seq ?_
  refine .region rfl ?_
  first | refine R.field F88_2 (h := ?_) | refine R.fieldAt F88_2 (h := ?_)
  refine R.storeB O22 (h := ?_)
  first | refine R.field F88_3 (h := ?_) | refine R.fieldAt F88_3 (h := ?_)
  refine R.storeB O22 (h := ?_)
  refine .n0 ?_
  refine .seq ?_
  refine .region rfl ?_
  refine R.move (h := ?_)
  refine R.bin (run_eql _ _ _ _ _ _) (h := ?_)
  refine .n0 ?_
  first | refine LGo.ifd (ht := fun hc2 => ?_) (hf := fun hc2 => ?_) | refine LGo.ifb (ht := fun hc2 => ?_) (hf := fun hc2 => ?_)
  ·
   rw [if_pos hc2] at e1
   refine .region rfl ?_
   first | refine R.field F88_2 (h := ?_) | refine R.fieldAt F88_2 (h := ?_)
   refine R.storeB O22 (h := ?_)
   first | refine R.field F88_3 (h := ?_) | refine R.fieldAt F88_3 (h := ?_)
   refine R.storeB O22 (h := ?_)
   refine .n0 ?_
   refine .inBlock ?_
   refine .seq ?_
   refine .region rfl ?_
   first | refine R.loadA A88 (h := ?_) | refine R.loadN A88 (h := ?_) | refine R.loadP A88 (h := ?_)
   refine R.storeA A88 (h := ?_)
   refine .n0 ?_
   rw [← e1]
   exact LGo.ret (ret_A Tryz.results56 A88 hA hmd)
  ·
   rw [if_neg hc2] at e1
   refine .skip ?_
   refine .inBlock ?_
   refine .seq ?_
   refine .region rfl ?_
   first | refine R.loadA A88 (h := ?_) | refine R.loadN A88 (h := ?_) | refine R.loadP A88 (h := ?_)
   refine R.storeA A88 (h := ?_)
   refine .n0 ?_
   rw [← e1]
   exact LGo.ret (ret_A Tryz.results56 A88 hA hmd)
 ·
  rw [if_neg hc] at e1
  refine .seq ?_
  refine .region rfl ?_
  refine R.bin (run_eql _ _ _ _ _ _) (h := ?_)
  refine R.assign (h := ?_)
  refine .n0 ?_
  first | refine LGo.ifd (ht := fun hc3 => ?_) (hf := fun hc3 => ?_) | refine LGo.ifb (ht := fun hc3 => ?_) (hf := fun hc3 => ?_)
  ·
   rw [if_pos hc3] at e1
   refine .region rfl ?_
   first | refine R.field F88_3 (h := ?_) | refine R.fieldAt F88_3 (h := ?_)
   refine R.storeB O22 (h := ?_)
   refine .n0 ?_
   refine .inBlock ?_
   refine .seq ?_
   refine .region rfl ?_
   first | refine R.loadA A88 (h := ?_) | refine R.loadN A88 (h := ?_) | refine R.loadP A88 (h := ?_)
   refine R.storeA A88 (h := ?_)
   refine .n0 ?_
   rw [← e1]
   exact LGo.ret (ret_A Tryz.results56 A88 hA hmd)
  ·
   rw [if_neg hc3] at e1
   refine .seq ?_
   refine .region rfl ?_
   refine R.bin (run_eql _ _ _ _ _ _) (h := ?_)
   refine R.assign (h := ?_)
   refine .n0 ?_
   first | refine LGo.ifd (ht := fun hc4 => ?_) (hf := fun hc4 => ?_) | refine LGo.ifb (ht := fun hc4 => ?_) (hf := fun hc4 => ?_)
   ·
    rw [if_pos hc4] at e1
    refine .region rfl ?_
    first | refine R.field F88_1 (h := ?_) | refine R.fieldAt F88_1 (h := ?_)
    refine R.storeB O3 (h := ?_)
    first | refine R.field F88_2 (h := ?_) | refine R.fieldAt F88_2 (h := ?_)
    refine R.storeB O22 (h := ?_)
    first | refine R.field F88_3 (h := ?_) | refine R.fieldAt F88_3 (h := ?_)
    refine R.storeB O22 (h := ?_)
    refine .n0 ?_
    refine .inBlock ?_
    refine .seq ?_
    refine .region rfl ?_
    first | refine R.loadA A88 (h := ?_) | refine R.loadN A88 (h := ?_) | refine R.loadP A88 (h := ?_)
    refine R.storeA A88 (h := ?_)
    refine .n0 ?_
    rw [← e1]
    exact LGo.ret (ret_A Tryz.results56 A88 hA hmd)
   ·
    rw [if_neg hc4] at e1
    refine .seq ?_
    refine .region rfl ?_
    refine R.bin (run_eql _ _ _ _ _ _) (h := ?_)
    refine R.assign (h := ?_)
    refine .n0 ?_
    first | refine LGo.ifd (ht := fun hc5 => ?_) (hf := fun hc5 => ?_) | refine LGo.ifb (ht := fun hc5 => ?_) (hf := fun hc5 => ?_)
    ·
     rw [if_pos hc5] at e1
     refine .region rfl ?_
     first | refine R.field F88_1 (h := ?_) | refine R.fieldAt F88_1 (h := ?_)
     refine R.storeB O3 (h := ?_)
     first | refine R.field F88_2 (h := ?_) | refine R.fieldAt F88_2 (h := ?_)
     refine R.storeB O22 (h := ?_)
     first | refine R.field F88_3 (h := ?_) | refine R.fieldAt F88_3 (h := ?_)
     refine R.storeB O22 (h := ?_)
     refine .n0 ?_
     refine .inBlock ?_
     refine .seq ?_
     refine .region rfl ?_
     first | refine R.loadA A88 (h := ?_) | refine R.loadN A88 (h := ?_) | refine R.loadP A88 (h := ?_)
     refine R.storeA A88 (h := ?_)
     refine .n0 ?_
     rw [← e1]
     exact LGo.ret (ret_A Tryz.results56 A88 hA hmd)
    ·
     rw [if_neg hc5] at e1
     refine .seq ?_
     refine .region rfl ?_
     refine R.bin (run_eql _ _ _ _ _ _) (h := ?_)
     refine R.assign (h := ?_)
     refine .n0 ?_
     first | refine LGo.ifd (ht := fun hc6 => ?_) (hf := fun hc6 => ?_) | refine LGo.ifb (ht := fun hc6 => ?_) (hf := fun hc6 => ?_)
     ·
      rw [if_pos hc6] at e1
      refine .region rfl ?_
      first | refine R.field F88_3 (h := ?_) | refine R.fieldAt F88_3 (h := ?_)
      refine R.storeB O22 (h := ?_)
      refine .n0 ?_
      refine .inBlock ?_
      refine .seq ?_
      refine .region rfl ?_
      first | refine R.loadA A88 (h := ?_) | refine R.loadN A88 (h := ?_) | refine R.loadP A88 (h := ?_)
      refine R.storeA A88 (h := ?_)
      refine .n0 ?_
      rw [← e1]
      exact LGo.ret (ret_A Tryz.results56 A88 hA hmd)
     ·
      rw [if_neg hc6] at e1
      refine .skip ?_
      refine .inBlock ?_
      refine .seq ?_
      refine .region rfl ?_
      first | refine R.loadA A88 (h := ?_) | refine R.loadN A88 (h := ?_) | refine R.loadP A88 (h := ?_)
      refine R.storeA A88 (h := ?_)
      refine .n0 ?_
      rw [← e1]
      exact LGo.ret (ret_A Tryz.results56 A88 hA hmd)

theorem fieldT_P (r : Rs) (t : Int) : PC Tryz.prog 54 [.agg (r.c.map LV.sv), .i t] (.tup [.agg ((fieldT r t).1.c.map LV.sv), .b (fieldT r t).2]) := by
 refine ⟨LC.of_go Tryz.func54 (c := _) rfl (by kernel_rfl) (by rw [Tryz.ntmps54]; simp) rfl rfl (by simp [LO.lt, LV.lts, LV.lt]) (by simp) ?_⟩
 intro B hA hmd
 obtain ⟨g, e0⟩ : ∃ g, fieldT r t = g := ⟨_, rfl⟩
 have e1 := e0
 unfold fieldT at e1
 rw [e0]
 refine .seq ?_
 refine .region rfl ?_
 refine R.box (h := ?_)
 refine R.alloc Z55 (h := ?_)
 refine R.assign (h := ?_)
 refine .n0 ?_
 refine .seq ?_
 refine .region rfl ?_
 refine R.move (h := ?_)
 refine R.build BF55 (is := [0]) (xs := [_]) (es := [_]) (h := ?_)
 refine R.alloc Z55 (h := ?_)
 refine R.storeA A55 (h := ?_)
 refine .n0 ?_
 refine .seq ?_
 refine .region rfl ?_
 refine R.assign (h := ?_)
 refine .n0 ?_
 refine .seq ?_
 refine .seq ?_
 refine .region rfl ?_
 refine R.move (h := ?_)
 refine .n0 ?_
 refine .block ?_
 refine .seq ?_
 refine .region rfl ?_
 refine R.bin (run_eql _ _ _ _ _ _) (h := ?_)
 refine R.assign (h := ?_)
 refine .n0 ?_
 first | refine LGo.ifd (ht := fun hc => ?_) (hf := fun hc => ?_) | refine LGo.ifb (ht := fun hc => ?_) (hf := fun hc => ?_)
 ·
  rw [if_pos hc] at e1
  refine .seq ?_
  refine .region rfl ?_
  first | refine R.field F25_1 (h := ?_) | refine R.fieldAt F25_1 (h := ?_)
  first | refine R.loadB O22 (h := ?_) | refine R.load1 O22 (h := ?_)
  first | refine R.field F55_1 (h := ?_) | refine R.fieldAt F55_1 (h := ?_)
  refine R.storeB O22 (h := ?_)
  refine .n0 ?_
  refine .seq ?_
  refine .region rfl ?_
  first | refine R.loadA A55 (h := ?_) | refine R.loadN A55 (h := ?_) | refine R.loadP A55 (h := ?_)
  refine R.storeA A55 (h := ?_)
  refine R.assign (h := ?_)
  refine .n0 ?_
  rw [← e1]
  exact LGo.ret (ret_AT Tryz.results54 A55 hA hmd)
 ·
  rw [if_neg hc] at e1
  refine .seq ?_
  refine .region rfl ?_
  refine R.bin (run_eql _ _ _ _ _ _) (h := ?_)
  refine R.assign (h := ?_)
  refine .n0 ?_
  first | refine LGo.ifd (ht := fun hc2 => ?_) (hf := fun hc2 => ?_) | refine LGo.ifb (ht := fun hc2 => ?_) (hf := fun hc2 => ?_)
  ·
   rw [if_pos hc2] at e1
   refine .region rfl ?_
   first | refine R.field F25_2 (h := ?_) | refine R.fieldAt F25_2 (h := ?_)
   first | refine R.loadB O23 (h := ?_) | refine R.load1 O23 (h := ?_)
   refine R.assign (h := ?_)
   refine .n0 ?_
   refine .inBlock ?_
   refine .seq ?_
   refine .region rfl ?_
   refine R.move (h := ?_)
   refine R.convW Tryz.runUnderlying2 Tryz.runUnderlying22 (h := ?_)
   rw [uw_wrap]
   first | refine R.field F55_1 (h := ?_) | refine R.fieldAt F55_1 (h := ?_)
   refine R.storeB O22 (h := ?_)
   refine .n0 ?_
   refine .seq ?_
   refine .region rfl ?_
   first | refine R.loadA A55 (h := ?_) | refine R.loadN A55 (h := ?_) | refine R.loadP A55 (h := ?_)
   refine R.move (h := ?_)
   refine R.bin (run_geq _ _ _ _ _ _) (h := ?_)
   refine R.storeA A55 (h := ?_)
   refine R.assign (h := ?_)
   refine .n0 ?_
   rw [← e1]
   exact LGo.ret (ret_AT Tryz.results54 A55 hA hmd)
  ·
   rw [if_neg hc2] at e1
   refine .seq ?_
   refine .region rfl ?_
   refine R.bin (run_eql _ _ _ _ _ _) (h := ?_)
   refine R.assign (h := ?_)
   refine .n0 ?_
   first | refine LGo.ifd (ht := fun hc3 => ?_) (hf := fun hc3 => ?_) | refine LGo.ifb (ht := fun hc3 => ?_) (hf := fun hc3 => ?_)
   ·
    rw [if_pos hc3] at e1
    refine .region rfl ?_
    first | refine R.field F25_3 (h := ?_) | refine R.fieldAt F25_3 (h := ?_)
    first | refine R.loadB O9 (h := ?_) | refine R.load1 O9 (h := ?_)
    first | refine R.field F55_2 (h := ?_) | refine R.fieldAt F55_2 (h := ?_)
    refine R.storeB O9 (h := ?_)
    refine .n0 ?_
    refine .inBlock ?_
    refine .seq ?_
    refine .region rfl ?_
    refine R.move (h := ?_)
    refine R.convW Tryz.runUnderlying2 Tryz.runUnderlying22 (h := ?_)
    rw [uw_wrap]
    first | refine R.field F55_1 (h := ?_) | refine R.fieldAt F55_1 (h := ?_)
    refine R.storeB O22 (h := ?_)
    refine .n0 ?_
    refine .seq ?_
    refine .region rfl ?_
    first | refine R.loadA A55 (h := ?_) | refine R.loadN A55 (h := ?_) | refine R.loadP A55 (h := ?_)
    refine R.move (h := ?_)
    refine R.bin (run_geq _ _ _ _ _ _) (h := ?_)
    refine R.storeA A55 (h := ?_)
    refine R.assign (h := ?_)
    refine .n0 ?_
    rw [← e1]
    exact LGo.ret (ret_AT Tryz.results54 A55 hA hmd)
   ·
    rw [if_neg hc3] at e1
    refine .seq ?_
    refine .region rfl ?_
    refine R.bin (run_eql _ _ _ _ _ _) (h := ?_)
    refine R.assign (h := ?_)
    refine .n0 ?_
    first | refine LGo.ifd (ht := fun hc4 => ?_) (hf := fun hc4 => ?_) | refine LGo.ifb (ht := fun hc4 => ?_) (hf := fun hc4 => ?_)
    ·
     rw [if_pos hc4] at e1
     refine .region rfl ?_
     first | refine R.field F25_4 (h := ?_) | refine R.fieldAt F25_4 (h := ?_)
     first | refine R.loadB O9 (h := ?_) | refine R.load1 O9 (h := ?_)
     first | refine R.field F55_2 (h := ?_) | refine R.fieldAt F55_2 (h := ?_)
     refine R.storeB O9 (h := ?_)
     refine .n0 ?_
     refine .inBlock ?_
     refine .seq ?_
     refine .region rfl ?_
     refine R.move (h := ?_)
     refine R.convW Tryz.runUnderlying2 Tryz.runUnderlying22 (h := ?_)
     rw [uw_wrap]
     first | refine R.field F55_1 (h := ?_) | refine R.fieldAt F55_1 (h := ?_)
     refine R.storeB O22 (h := ?_)
     refine .n0 ?_
     refine .seq ?_
     refine .region rfl ?_
     first | refine R.loadA A55 (h := ?_) | refine R.loadN A55 (h := ?_) | refine R.loadP A55 (h := ?_)
     refine R.move (h := ?_)
     refine R.bin (run_geq _ _ _ _ _ _) (h := ?_)
     refine R.storeA A55 (h := ?_)
     refine R.assign (h := ?_)
     refine .n0 ?_
     rw [← e1]
     exact LGo.ret (ret_AT Tryz.results54 A55 hA hmd)
    ·
     rw [if_neg hc4] at e1
     refine .seq ?_
     refine .region rfl ?_
     refine R.bin (run_eql _ _ _ _ _ _) (h := ?_)
     refine R.assign (h := ?_)
     refine .n0 ?_
     first | refine LGo.ifd (ht := fun hc5 => ?_) (hf := fun hc5 => ?_) | refine LGo.ifb (ht := fun hc5 => ?_) (hf := fun hc5 => ?_)
     ·
      rw [if_pos hc5] at e1
      refine .region rfl ?_
      first | refine R.field F25_5 (h := ?_) | refine R.fieldAt F25_5 (h := ?_)
      first | refine R.loadB O3 (h := ?_) | refine R.load1 O3 (h := ?_)
      refine R.assign (h := ?_)
      refine .n0 ?_
      refine .inBlock ?_
      refine .seq ?_
      refine .region rfl ?_
      refine R.move (h := ?_)
      refine R.convW Tryz.runUnderlying2 Tryz.runUnderlying22 (h := ?_)
      rw [uw_wrap]
      first | refine R.field F55_1 (h := ?_) | refine R.fieldAt F55_1 (h := ?_)
      refine R.storeB O22 (h := ?_)
      refine .n0 ?_
      refine .seq ?_
      refine .region rfl ?_
      first | refine R.loadA A55 (h := ?_) | refine R.loadN A55 (h := ?_) | refine R.loadP A55 (h := ?_)
      refine R.move (h := ?_)
      refine R.bin (run_geq _ _ _ _ _ _) (h := ?_)
      refine R.storeA A55 (h := ?_)
      refine R.assign (h := ?_)
      refine .n0 ?_
      rw [← e1]
      exact LGo.ret (ret_AT Tryz.results54 A55 hA hmd)
     ·
      rw [if_neg hc5] at e1
      refine .seq ?_
      refine .region rfl ?_
      refine R.bin (run_eql _ _ _ _ _ _) (h := ?_)
      refine R.assign (h := ?_)
      refine .n0 ?_
      first | refine LGo.ifd (ht := fun hc6 => ?_) (hf := fun hc6 => ?_) | refine LGo.ifb (ht := fun hc6 => ?_) (hf := fun hc6 => ?_)
      ·
       rw [if_pos hc6] at e1
       refine .region rfl ?_
       first | refine R.field F25_6 (h := ?_) | refine R.fieldAt F25_6 (h := ?_)
       first | refine R.loadB O3 (h := ?_) | refine R.load1 O3 (h := ?_)
       refine R.assign (h := ?_)
       refine .n0 ?_
       refine .inBlock ?_
       refine .seq ?_
       refine .region rfl ?_
       refine R.move (h := ?_)
       refine R.convW Tryz.runUnderlying2 Tryz.runUnderlying22 (h := ?_)
       rw [uw_wrap]
       first | refine R.field F55_1 (h := ?_) | refine R.fieldAt F55_1 (h := ?_)
       refine R.storeB O22 (h := ?_)
       refine .n0 ?_
       refine .seq ?_
       refine .region rfl ?_
       first | refine R.loadA A55 (h := ?_) | refine R.loadN A55 (h := ?_) | refine R.loadP A55 (h := ?_)
       refine R.move (h := ?_)
       refine R.bin (run_geq _ _ _ _ _ _) (h := ?_)
       refine R.storeA A55 (h := ?_)
       refine R.assign (h := ?_)
       refine .n0 ?_
       rw [← e1]
       exact LGo.ret (ret_AT Tryz.results54 A55 hA hmd)
      ·
       rw [if_neg hc6] at e1
       refine .seq ?_
       refine .region rfl ?_
       refine R.bin (run_eql _ _ _ _ _ _) (h := ?_)
       refine R.assign (h := ?_)
       refine .n0 ?_
       first | refine LGo.ifd (ht := fun hc7 => ?_) (hf := fun hc7 => ?_) | refine LGo.ifb (ht := fun hc7 => ?_) (hf := fun hc7 => ?_)
       ·
        rw [if_pos hc7] at e1
        refine .region rfl ?_
        first | refine R.field F25_7 (h := ?_) | refine R.fieldAt F25_7 (h := ?_)
        first | refine R.loadB O3 (h := ?_) | refine R.load1 O3 (h := ?_)
        refine R.assign (h := ?_)
        refine .n0 ?_
        refine .inBlock ?_
        refine .seq ?_
        refine .region rfl ?_
        refine R.move (h := ?_)
        refine R.convW Tryz.runUnderlying2 Tryz.runUnderlying22 (h := ?_)
        rw [uw_wrap]
        first | refine R.field F55_1 (h := ?_) | refine R.fieldAt F55_1 (h := ?_)
        refine R.storeB O22 (h := ?_)
        refine .n0 ?_
        refine .seq ?_
        refine .region rfl ?_
        first | refine R.loadA A55 (h := ?_) | refine R.loadN A55 (h := ?_) | refine R.loadP A55 (h := ?_)
        refine R.move (h := ?_)
        refine R.bin (run_geq _ _ _ _ _ _) (h := ?_)
        refine R.storeA A55 (h := ?_)
        refine R.assign (h := ?_)
        refine .n0 ?_
        rw [← e1]
        exact LGo.ret (ret_AT Tryz.results54 A55 hA hmd)
       ·
        rw [if_neg hc7] at e1
        refine .seq ?_
        refine .region rfl ?_
        refine R.bin (run_eql _ _ _ _ _ _) (h := ?_)
        refine R.assign (h := ?_)
        refine .n0 ?_
        first | refine LGo.ifd (ht := fun hc8 => ?_) (hf := fun hc8 => ?_) | refine LGo.ifb (ht := fun hc8 => ?_) (hf := fun hc8 => ?_)
        ·
         rw [if_pos hc8] at e1
         refine .region rfl ?_
         first | refine R.field F25_8 (h := ?_) | refine R.fieldAt F25_8 (h := ?_)
         first | refine R.loadB O2 (h := ?_) | refine R.load1 O2 (h := ?_)
         refine R.assign (h := ?_)
         refine .n0 ?_
         refine .inBlock ?_
         refine .seq ?_
         refine .region rfl ?_
         refine R.move (h := ?_)
         refine R.convW Tryz.runUnderlying2 Tryz.runUnderlying22 (h := ?_)
         rw [uw_wrap]
         first | refine R.field F55_1 (h := ?_) | refine R.fieldAt F55_1 (h := ?_)
         refine R.storeB O22 (h := ?_)
         refine .n0 ?_
         refine .seq ?_
         refine .region rfl ?_
         first | refine R.loadA A55 (h := ?_) | refine R.loadN A55 (h := ?_) | refine R.loadP A55 (h := ?_)
         refine R.move (h := ?_)
         refine R.bin (run_geq _ _ _ _ _ _) (h := ?_)
         refine R.storeA A55 (h := ?_)
         refine R.assign (h := ?_)
         refine .n0 ?_
         rw [← e1]
         exact LGo.ret (ret_AT Tryz.results54 A55 hA hmd)
        ·
         rw [if_neg hc8] at e1
         refine .skip ?_
         refine .inBlock ?_
         refine .seq ?_
         refine .region rfl ?_
         refine R.move (h := ?_)
         refine R.convW Tryz.runUnderlying2 Tryz.runUnderlying22 (h := ?_)
         rw [uw_wrap]
         first | refine R.field F55_1 (h := ?_) | refine R.fieldAt F55_1 (h := ?_)
         refine R.storeB O22 (h := ?_)
         refine .n0 ?_
         refine .seq ?_
         refine .region rfl ?_
         first | refine R.loadA A55 (h := ?_) | refine R.loadN A55 (h := ?_) | refine R.loadP A55 (h := ?_)
         refine R.move (h := ?_)
         refine R.bin (run_geq _ _ _ _ _ _) (h := ?_)
         refine R.storeA A55 (h := ?_)
         refine R.assign (h := ?_)
         refine .n0 ?_
         rw [← e1]
         exact LGo.ret (ret_AT Tryz.results54 A55 hA hmd)

theorem refCheckT_P (r : Rs) (hr : RsOk r) : PC Tryz.prog 23 [.agg (r.c.map LV.sv)] (.i (refCheckT r)) := by
 refine ⟨LC.of_go Tryz.func23 (c := _) rfl (by kernel_rfl) (by rw [Tryz.ntmps23]; simp) rfl rfl (by simp [LO.lt, LV.lts, LV.lt]) (by simp) ?_⟩
 intro B hA hmd
 obtain ⟨g, e0⟩ : ∃ g, refCheckT r = g := ⟨_, rfl⟩
 have e1 := e0
 unfold refCheckT at e1
 rw [e0]
 refine .seq ?_
 refine .region rfl ?_
 refine R.box (h := ?_)
 refine R.assign (h := ?_)
 refine .n0 ?_
 refine .seq ?_
 refine .seq ?_
 refine .region rfl ?_
 first | refine R.field F25_0 (h := ?_) | refine R.fieldAt F25_0 (h := ?_)
 first | refine R.loadB O3 (h := ?_) | refine R.load1 O3 (h := ?_)
 refine R.bin (run_neq _ _ _ _ _ _) (h := ?_)
 refine R.move (h := ?_)
 first | refine R.field F25_0 (h := ?_) | refine R.fieldAt F25_0 (h := ?_)
 first | refine R.loadB O3 (h := ?_) | refine R.load1 O3 (h := ?_)
 refine R.callP (es := [_]) (fun _ => askedS_P r.kind) (h := ?_)
 refine R.not (h := ?_)
 refine R.and (h := ?_)
 refine R.move (h := ?_)
 first | refine R.field F25_0 (h := ?_) | refine R.fieldAt F25_0 (h := ?_)
 first | refine R.loadB O3 (h := ?_) | refine R.load1 O3 (h := ?_)
 refine R.bin (run_eql _ _ _ _ _ _) (h := ?_)
 refine R.move (h := ?_)
 first | refine R.field F25_1 (h := ?_) | refine R.fieldAt F25_1 (h := ?_)
 first | refine R.loadB O22 (h := ?_) | refine R.load1 O22 (h := ?_)
 refine R.bin (run_neq _ _ _ _ _ _) (h := ?_)
 refine R.move (h := ?_)
 first | refine R.field F25_2 (h := ?_) | refine R.fieldAt F25_2 (h := ?_)
 first | refine R.loadB O23 (h := ?_) | refine R.load1 O23 (h := ?_)
 refine R.bin (run_neq _ _ _ _ _ _) (h := ?_)
 refine R.or (hgy := fun h1 h2 => by rw [h1, h2]; rfl) (h := ?_)
 refine R.and (hgy := fun h1 h2 => by rw [h1, h2]; rfl) (h := ?_)
 refine R.or (h := ?_)
 refine .n0 ?_
 refine LGo.ifb (ht := fun hc => ?_) (hf := fun hc => ?_)
 ·
  rw [if_pos hc] at e1; rw [← e1]
  refine .seq ?_
  refine .region rfl ?_
  refine R.assign (h := ?_)
  refine .n0 ?_
  exact LGo.ret (ret_T Tryz.results23 hA hmd)
 ·
  rw [if_neg (by rw [hc]; simp)] at e1
  refine .skip ?_
  refine .seq ?_
  refine .region rfl ?_
  first | refine R.field F25_2 (h := ?_) | refine R.fieldAt F25_2 (h := ?_)
  first | refine R.loadB O23 (h := ?_) | refine R.load1 O23 (h := ?_)
  refine R.bin (run_neq _ _ _ _ _ _) (h := ?_)
  rw [show (!decide (r.err = 0)) = badOf r from rfl]
  refine R.assign (h := ?_)
  refine .n0 ?_
  refine .seq ?_
  refine .seq ?_
  refine .region rfl ?_
  refine R.assign (h := ?_)
  refine .n0 ?_
  refine .block ?_
  refine .loop ?_
  refine LGo.loopG (σ := Nat × Nat) (fun x => x.1 + x.2 = 9 ∧ 3 ≤ x.2 ∧ (if anyG (badT1 r) x.1 x.2 = true then (2 : Int) else if anyG (badT2 r) 8 1 = true then 7 else if anyG (badT3 r) 2 3 = true then 3 else 0) = g) (fun x => [(4, (true, .i (x.2 : Nat)))]) (fun x => [(0, .box 25 (r.c.map LV.sv))]) (fun x => x.1) ((6, 3)) [(1, _), (3, _)] ⟨rfl, Nat.le_refl _, e1⟩ (by repeat (first | exact trivial | refine ⟨rfl, ?_⟩)) (by repeat (first | exact trivial | refine ⟨rfl, ?_⟩)) (by repeat (first | exact trivial | refine ⟨rfl, ?_⟩)) ?_
  rintro ⟨fu, k⟩ ⟨q1, q2, e1⟩ ih
  dsimp only at * 
  refine .seq ?_
  refine .seq ?_
  refine .region rfl ?_
  refine R.move (h := ?_)
  refine R.bin (run_leq _ _ _ _ _ _) (h := ?_)
  refine .n0 ?_
  refine LGo.ifd (ht := fun hc2 => ?_) (hf := fun hc2 => ?_)
  ·
   obtain ⟨f, rfl⟩ : ∃ f, fu = f + 1 := ⟨fu - 1, by omega⟩
   rw [anyG] at e1
   refine .skip ?_
   refine .seq ?_
   refine .block ?_
   refine .seq ?_
   refine .region rfl ?_
   first | refine R.loadA A25 (h := ?_) | refine R.loadN A25 (h := ?_) | refine R.loadP A25 (h := ?_)
   refine R.move (h := ?_)
   refine R.callP (es := [_, _]) (fun _ => fieldT_P r (k : Int)) (h := ?_)
   refine R.move (h := ?_)
   refine R.extract (h := ?_)
   refine R.extract (h := ?_)
   refine R.alloc Z55 (h := ?_)
   refine R.storeA A55 (h := ?_)
   refine R.assign (h := ?_)
   refine .n0 ?_
   refine .seq ?_
   refine .region rfl ?_
   first | refine R.field F25_0 (h := ?_) | refine R.fieldAt F25_0 (h := ?_)
   first | refine R.loadB O3 (h := ?_) | refine R.load1 O3 (h := ?_)
   refine R.move (h := ?_)
   refine R.move (h := ?_)
   refine R.callP (es := [_, _, _]) (fun _ => usesS_P r.kind (badOf r) (k : Int)) (h := ?_)
   refine R.not (h := ?_)
   refine R.move (h := ?_)
   first | refine R.field F55_1 (h := ?_) | refine R.fieldAt F55_1 (h := ?_)
   first | refine R.loadB O22 (h := ?_) | refine R.load1 O22 (h := ?_)
   refine R.bin (run_neq _ _ _ _ _ _) (h := ?_)
   refine R.move (h := ?_)
   first | refine R.field F55_2 (h := ?_) | refine R.fieldAt F55_2 (h := ?_)
   first | refine R.loadB O9 (h := ?_) | refine R.load1 O9 (h := ?_)
   refine R.bin (run_neqT _ _ _ _ _) (h := ?_)
   refine R.or (h := ?_)
   refine R.and (h := ?_)
   refine .n0 ?_
   refine LGo.ifb (ht := fun hc3 => ?_) (hf := fun hc3 => ?_)
   ·
    rw [if_pos (show badT1 r k = true from hc3), if_pos rfl] at e1; rw [← e1]
    refine .seq ?_
    refine .region rfl ?_
    refine R.assign (h := ?_)
    refine .n0 ?_
    exact LGo.ret (ret_T Tryz.results23 hA hmd)
   ·
    rw [if_neg (show ¬ badT1 r k = true from by rw [show badT1 r k = false from hc3]; simp)] at e1
    refine .skip ?_
    refine .inBlock ?_
    refine .region rfl ?_
    refine R.move (h := ?_)
    first | refine R.add (h := ?_) | refine R.addW (h := ?_)
    refine R.assign (h := ?_)
    refine .n0 ?_
    refine .inLoop ?_
    exact LGo.next _ (fun o h => by have := (hA o).1 h; omega) (by omega) (ih (f, k + 1) ⟨by dsimp only; omega, by dsimp only; omega, e1⟩ (by dsimp only; omega)) (by repeat (first | exact trivial | refine ⟨rfl, ?_⟩)) (by repeat (first | exact trivial | refine ⟨rfl, ?_⟩))
  ·
   obtain rfl : fu = 0 := by omega
   rw [anyG, if_neg (by simp)] at e1
   refine .exit rfl ?_
   refine .seq ?_
   refine .seq ?_
   refine .region rfl ?_
   refine R.assign (h := ?_)
   refine .n0 ?_
   refine .block ?_
   refine .loop ?_
   refine LGo.loopG (σ := Nat × Nat) (fun x => x.1 + x.2 = 9 ∧ 1 ≤ x.2 ∧ (if anyG (badT2 r) x.1 x.2 = true then (7 : Int) else if anyG (badT3 r) 2 3 = true then 3 else 0) = g) (fun x => [(7, (true, .i (x.2 : Nat)))]) (fun x => [(0, .box 25 (r.c.map LV.sv))]) (fun x => x.1) ((8, 1)) [(1, _), (3, _)] ⟨rfl, Nat.le_refl _, e1⟩ (by repeat (first | exact trivial | refine ⟨rfl, ?_⟩)) (by repeat (first | exact trivial | refine ⟨rfl, ?_⟩)) (by repeat (first | exact trivial | refine ⟨rfl, ?_⟩)) ?_
   rintro ⟨fu, k⟩ ⟨q1, q2, e1⟩ ih2
   dsimp only at * 
   refine .seq ?_
   refine .seq ?_
   refine .region rfl ?_
   refine R.move (h := ?_)
   refine R.bin (run_leq _ _ _ _ _ _) (h := ?_)
   refine .n0 ?_
   refine LGo.ifd (ht := fun hc4 => ?_) (hf := fun hc4 => ?_)
   ·
    obtain ⟨f, rfl⟩ : ∃ f, fu = f + 1 := ⟨fu - 1, by omega⟩
    rw [anyG] at e1
    refine .skip ?_
    refine .seq ?_
    refine .block ?_
    refine .seq ?_
    refine .region rfl ?_
    first | refine R.loadA A25 (h := ?_) | refine R.loadN A25 (h := ?_) | refine R.loadP A25 (h := ?_)
    refine R.move (h := ?_)
    refine R.callP (es := [_, _]) (fun _ => fieldT_P r (k : Int)) (h := ?_)
    refine R.move (h := ?_)
    refine R.extract (h := ?_)
    refine R.extract (h := ?_)
    refine R.alloc Z55 (h := ?_)
    refine R.storeA A55 (h := ?_)
    refine R.assign (h := ?_)
    refine .n0 ?_
    refine .seq ?_
    refine .region rfl ?_
    first | refine R.field F25_0 (h := ?_) | refine R.fieldAt F25_0 (h := ?_)
    first | refine R.loadB O3 (h := ?_) | refine R.load1 O3 (h := ?_)
    refine R.move (h := ?_)
    refine R.callP (es := [_, _]) (fun _ => ruleT_P r.kind (k : Int)) (h := ?_)
    refine R.alloc Z88 (h := ?_)
    refine R.storeA A88 (h := ?_)
    refine .n0 ?_
    refine .seq ?_
    refine .region rfl ?_
    first | refine R.field F25_0 (h := ?_) | refine R.fieldAt F25_0 (h := ?_)
    first | refine R.loadB O3 (h := ?_) | refine R.load1 O3 (h := ?_)
    refine R.move (h := ?_)
    refine R.move (h := ?_)
    refine R.callP (es := [_, _, _]) (fun _ => usesS_P r.kind (badOf r) (k : Int)) (h := ?_)
    refine R.move (h := ?_)
    first | refine R.field F88_1 (h := ?_) | refine R.fieldAt F88_1 (h := ?_)
    first | refine R.loadB O3 (h := ?_) | refine R.load1 O3 (h := ?_)
    refine R.bin (run_eql _ _ _ _ _ _) (h := ?_)
    refine R.and (h := ?_)
    refine R.move (h := ?_)
    refine R.move (h := ?_)
    refine R.not (h := ?_)
    refine R.move (h := ?_)
    first | refine R.field F55_1 (h := ?_) | refine R.fieldAt F55_1 (h := ?_)
    first | refine R.loadB O22 (h := ?_) | refine R.load1 O22 (h := ?_)
    first | refine R.field F88_2 (h := ?_) | refine R.fieldAt F88_2 (h := ?_)
    first | refine R.loadB O22 (h := ?_) | refine R.load1 O22 (h := ?_)
    refine R.bin (run_lss _ _ _ _ _ _) (h := ?_)
    refine R.or (h := ?_)
    refine R.move (h := ?_)
    first | refine R.field F55_1 (h := ?_) | refine R.fieldAt F55_1 (h := ?_)
    first | refine R.loadB O22 (h := ?_) | refine R.load1 O22 (h := ?_)
    first | refine R.field F88_3 (h := ?_) | refine R.fieldAt F88_3 (h := ?_)
    first | refine R.loadB O22 (h := ?_) | refine R.load1 O22 (h := ?_)
    refine R.bin (run_gtr _ _ _ _ _ _) (h := ?_)
    refine R.or (h := ?_)
    refine R.and (h := ?_)
    refine .n0 ?_
    refine LGo.ifb (ht := fun hc5 => ?_) (hf := fun hc5 => ?_)
    ·
     rw [if_pos (show badT2 r k = true from hc5), if_pos rfl] at e1; rw [← e1]
     refine .seq ?_
     refine .region rfl ?_
     refine R.assign (h := ?_)
     refine .n0 ?_
     exact LGo.ret (ret_T Tryz.results23 hA hmd)
    ·
     rw [if_neg (show ¬ badT2 r k = true from by rw [show badT2 r k = false from hc5]; simp)] at e1
     refine .skip ?_
     refine .inBlock ?_
     refine .region rfl ?_
     refine R.move (h := ?_)
     first | refine R.add (h := ?_) | refine R.addW (h := ?_)
     refine R.assign (h := ?_)
     refine .n0 ?_
     refine .inLoop ?_
     exact LGo.next _ (fun o h => by have := (hA o).1 h; omega) (by omega) (ih2 (f, k + 1) ⟨by dsimp only; omega, by dsimp only; omega, e1⟩ (by dsimp only; omega)) (by repeat (first | exact trivial | refine ⟨rfl, ?_⟩)) (by repeat (first | exact trivial | refine ⟨rfl, ?_⟩))
   ·
    obtain rfl : fu = 0 := by omega
    rw [anyG, if_neg (by simp)] at e1
    refine .exit rfl ?_
    refine .seq ?_
    refine .seq ?_
    refine .region rfl ?_
    refine R.assign (h := ?_)
    refine .n0 ?_
    refine .block ?_
    refine .loop ?_
    refine LGo.loopG (σ := Nat × Nat) (fun x => x.1 + x.2 = 5 ∧ 3 ≤ x.2 ∧ (if anyG (badT3 r) x.1 x.2 = true then (3 : Int) else 0) = g) (fun x => [(11, (true, .i (x.2 : Nat)))]) (fun x => [(0, .box 25 (r.c.map LV.sv))]) (fun x => x.1) ((2, 3)) [(1, _), (3, _)] ⟨rfl, Nat.le_refl _, e1⟩ (by repeat (first | exact trivial | refine ⟨rfl, ?_⟩)) (by repeat (first | exact trivial | refine ⟨rfl, ?_⟩)) (by repeat (first | exact trivial | refine ⟨rfl, ?_⟩)) ?_
    rintro ⟨fu, k⟩ ⟨q1, q2, e1⟩ ih3
    dsimp only at * 
    refine .seq ?_
    refine .seq ?_
    refine .region rfl ?_
    refine R.move (h := ?_)
    refine R.bin (run_leq _ _ _ _ _ _) (h := ?_)
    refine .n0 ?_
    refine LGo.ifd (ht := fun hc6 => ?_) (hf := fun hc6 => ?_)
    ·
     obtain ⟨f, rfl⟩ : ∃ f, fu = f + 1 := ⟨fu - 1, by omega⟩
     rw [anyG] at e1
     have hln := fieldT_len r hr (k : Int)
     refine .skip ?_
     refine .seq ?_
     refine .block ?_
     refine .seq ?_
     refine .region rfl ?_
     first | refine R.loadA A25 (h := ?_) | refine R.loadN A25 (h := ?_) | refine R.loadP A25 (h := ?_)
     refine R.move (h := ?_)
     refine R.callP (es := [_, _]) (fun _ => fieldT_P r (k : Int)) (h := ?_)
     refine R.move (h := ?_)
     refine R.extract (h := ?_)
     refine R.extract (h := ?_)
     refine R.alloc Z55 (h := ?_)
     refine R.storeA A55 (h := ?_)
     refine R.assign (h := ?_)
     refine .n0 ?_
     refine .seq ?_
     refine .region rfl ?_
     first | refine R.field F25_0 (h := ?_) | refine R.fieldAt F25_0 (h := ?_)
     first | refine R.loadB O3 (h := ?_) | refine R.load1 O3 (h := ?_)
     refine R.move (h := ?_)
     refine R.move (h := ?_)
     refine R.callP (es := [_, _, _]) (fun _ => usesS_P r.kind (badOf r) (k : Int)) (h := ?_)
     refine R.move (h := ?_)
     first | refine R.field F55_2 (h := ?_) | refine R.fieldAt F55_2 (h := ?_)
     first | refine R.loadB O9 (h := ?_) | refine R.load1 O9 (h := ?_)
     refine R.lenT Tryz.runUnderlying9 (h := ?_)
     refine R.convW Tryz.runUnderlying3 Tryz.runUnderlying22 (h := ?_)
     rw [show IntKind.u64.wrap ((fieldT r (k : Int)).1.txt.length : Int) = ((fieldT r (k : Int)).1.txt.length : Int) from by rw [IntKind.wrap_u64]; unfold maxLen at hln; omega]
     first | refine R.field F25_0 (h := ?_) | refine R.fieldAt F25_0 (h := ?_)
     first | refine R.loadB O3 (h := ?_) | refine R.load1 O3 (h := ?_)
     refine R.move (h := ?_)
     refine R.callP (es := [_, _]) (fun _ => ruleT_P r.kind (k : Int)) (h := ?_)
     refine R.fieldV V88_2 (h := ?_)
     refine R.bin (run_neq _ _ _ _ _ _) (h := ?_)
     refine R.and (h := ?_)
     refine Reg.nil ⟨fun _ => ⟨mixedO, by rfl, by rfl⟩, ?_⟩
     refine LGo.ifb (ht := fun hc7 => ?_) (hf := fun hc7 => ?_)
     ·
      rw [if_pos (show badT3 r k = true from hc7), if_pos rfl] at e1; rw [← e1]
      refine .seq ?_
      refine .region rfl ?_
      refine R.assign (h := ?_)
      refine .n0 ?_
      exact LGo.ret (ret_T Tryz.results23 hA hmd)
     ·
      rw [if_neg (show ¬ badT3 r k = true from by rw [show badT3 r k = false from hc7]; simp)] at e1
      refine .skip ?_
      refine .inBlock ?_
      refine .region rfl ?_
      refine R.move (h := ?_)
      first | refine R.add (h := ?_) | refine R.addW (h := ?_)
      refine R.assign (h := ?_)
      refine .n0 ?_
      refine .inLoop ?_
      exact LGo.next _ (fun o h => by have := (hA o).1 h; omega) (by omega) (ih3 (f, k + 1) ⟨by dsimp only; omega, by dsimp only; omega, e1⟩ (by dsimp only; omega)) (by repeat (first | exact trivial | refine ⟨rfl, ?_⟩)) (by repeat (first | exact trivial | refine ⟨rfl, ?_⟩))
    ·
     obtain rfl : fu = 0 := by omega
     rw [anyG, if_neg (by simp)] at e1
     rw [← e1]
     refine .exit rfl ?_
     refine .seq ?_
     refine .region rfl ?_
     refine R.assign (h := ?_)
     refine .n0 ?_
     exact LGo.ret (ret_T Tryz.results23 hA hmd)

theorem rulesT_P (kd : Int) (bad : Bool) : PC Tryz.prog 35 [.i kd, .b bad] (.sv (.sl 5 ((rulesT kd bad).map Rule.c))) := by
 refine ⟨LC.of_go Tryz.func35 (c := _) rfl (by kernel_rfl) (by rw [Tryz.ntmps35]; simp) rfl rfl (by simp [LO.lt, LV.lts, LV.lt]) (by simp) ?_⟩
 intro B hA hmd
 obtain ⟨g, e0⟩ : ∃ g, rulesT kd bad = g := ⟨_, rfl⟩
 have e1 := e0
 unfold rulesT at e1
 rw [e0]
 refine .seq ?_
 refine .region rfl ?_
 refine R.assign (h := ?_)
 refine .n0 ?_
 refine .seq ?_
 refine .region rfl ?_
 refine R.assign (h := ?_)
 refine .n0 ?_
 refine .seq ?_
 refine .seq ?_
 refine .region rfl ?_
 refine R.assign (h := ?_)
 refine .n0 ?_
 refine .block ?_
 refine .loop ?_
 refine LGo.nilRs 5 88 5 (h := ?_)
 refine LGo.loopG (σ := Nat × Nat × List Rule) (fun x => x.1 + x.2.1 = 9 ∧ x.2.2.length ≤ x.2.1 ∧ gGo (fun t => usesS kd bad t) (fun t => ruleT kd t) x.1 x.2.1 x.2.2 = g) (fun x => [(6, (true, .i (x.2.1 : Nat))), (5, (true, .ref 0))]) (fun x => [(0, .rs 88 5 (x.2.2.map Rule.c))]) (fun x => x.1) ((8, 1, [])) [(0, _), (1, _)] ⟨rfl, Nat.zero_le _, e1⟩ (by repeat (first | exact trivial | refine ⟨rfl, ?_⟩)) (by repeat (first | exact trivial | refine ⟨rfl, ?_⟩)) (by repeat (first | exact trivial | refine ⟨rfl, ?_⟩)) ?_
 rintro ⟨fu, k, acc⟩ ⟨q1, q2, e1⟩ ih
 dsimp only at * 
 refine .seq ?_
 refine .seq ?_
 refine .region rfl ?_
 refine R.move (h := ?_)
 refine R.bin (run_leq _ _ _ _ _ _) (h := ?_)
 refine .n0 ?_
 refine LGo.ifd (ht := fun hc => ?_) (hf := fun hc => ?_)
 ·
  obtain ⟨f, rfl⟩ : ∃ f, fu = f + 1 := ⟨fu - 1, by omega⟩
  rw [gGo] at e1
  refine .skip ?_
  refine .seq ?_
  refine .block ?_
  refine .seq ?_
  refine .region rfl ?_
  refine R.move (h := ?_)
  refine R.move (h := ?_)
  refine R.move (h := ?_)
  refine R.callP (es := [_, _, _]) (fun _ => usesS_P kd bad (k : Int)) (h := ?_)
  refine .n0 ?_
  refine LGo.ifb (ht := fun hc2 => ?_) (hf := fun hc2 => ?_)
  ·
   rw [if_pos hc2] at e1
   refine .region rfl ?_
   refine R.move (h := ?_)
   refine R.move (h := ?_)
   refine R.move (h := ?_)
   refine R.callP (es := [_, _]) (fun _ => ruleT_P kd (k : Int)) (h := ?_)
   refine R.buildSliceG AP72 (xs := [_]) (es := [_]) (hcs := CellsOfs.cons (CellsOf.agg rfl) CellsOfs.nil) (h := ?_)
   refine R.appendS AP72 (hs := SrcOk.sl Tryz.underlying72 (by simp; rfl)) (hlen := by simp; omega) (h := ?_)
   refine R.assign (h := ?_)
   refine .n0 ?_
   refine .inBlock ?_
   refine .region rfl ?_
   refine R.move (h := ?_)
   first | refine R.add (h := ?_) | refine R.addW (h := ?_)
   refine R.assign (h := ?_)
   refine .n0 ?_
   refine .inLoop ?_
   exact LGo.turn [1] (b := 0) (fun o h => by have := (hA o).1 h; omega) (ih (f, k + 1, acc ++ [ruleT kd k]) ⟨by dsimp only; omega, by simp; omega, e1⟩ (by dsimp only; omega)) (by repeat (first | exact trivial | refine ⟨rfl, ?_⟩)) ⟨by rw [List.map_append]; rfl, trivial⟩
  ·
   rw [if_neg (by rw [hc2]; simp)] at e1
   refine .skip ?_
   refine .inBlock ?_
   refine .region rfl ?_
   refine R.move (h := ?_)
   first | refine R.add (h := ?_) | refine R.addW (h := ?_)
   refine R.assign (h := ?_)
   refine .n0 ?_
   refine .inLoop ?_
   exact LGo.next _ (fun o h => by have := (hA o).1 h; omega) (by omega) (ih (f, k + 1, acc) ⟨by dsimp only; omega, by dsimp only; omega, e1⟩ (by dsimp only; omega)) (by repeat (first | exact trivial | refine ⟨rfl, ?_⟩)) (by repeat (first | exact trivial | refine ⟨rfl, ?_⟩))
 ·
  obtain rfl : fu = 0 := by omega
  rw [gGo] at e1
  rw [← e1]
  refine .exit rfl ?_
  refine .seq ?_
  refine .region rfl ?_
  refine R.move (h := ?_)
  refine R.assign (h := ?_)
  refine .n0 ?_
  first | refine LGo.frzT 4 (h := ?_) | refine LGo.nilSl 4 5 (h := ?_) | skip
  exact LGo.ret (ret_T Tryz.results35 hA hmd)

theorem messageT_P (r : Rs) : PC Tryz.prog 25 [.agg (r.c.map LV.sv)] (.sv (.sl 3 ((messageT r).map Fld.c))) := by
 refine ⟨LC.of_go Tryz.func25 (c := _) rfl (by kernel_rfl) (by rw [Tryz.ntmps25]; simp) rfl rfl (by simp [LO.lt, LV.lts, LV.lt]) (by simp) ?_⟩
 intro B hA hmd
 obtain ⟨g, e0⟩ : ∃ g, messageT r = g := ⟨_, rfl⟩
 have e1 := e0
 unfold messageT at e1
 rw [e0]
 refine .seq ?_
 refine .region rfl ?_
 refine R.box (h := ?_)
 refine R.assign (h := ?_)
 refine .n0 ?_
 refine .seq ?_
 refine .region rfl ?_
 refine R.assign (h := ?_)
 refine .n0 ?_
 refine .seq ?_
 refine .seq ?_
 refine .region rfl ?_
 refine R.assign (h := ?_)
 refine .n0 ?_
 refine .block ?_
 refine .loop ?_
 refine LGo.nilRs 3 55 3 (h := ?_)
 refine LGo.loopG (σ := Nat × Nat × List Fld) (fun x => x.1 + x.2.1 = 9 ∧ x.2.2.length ≤ x.2.1 ∧ gGo (fun t => usesS r.kind (badOf r) t) (fun t => (fieldT r t).1) x.1 x.2.1 x.2.2 = g) (fun x => [(4, (true, .i (x.2.1 : Nat))), (3, (true, .ref 1))]) (fun x => [(0, .box 25 (r.c.map LV.sv)), (1, .rs 55 3 (x.2.2.map Fld.c))]) (fun x => x.1) ((8, 1, [])) [(1, _)] ⟨rfl, Nat.zero_le _, e1⟩ (by repeat (first | exact trivial | refine ⟨rfl, ?_⟩)) (by repeat (first | exact trivial | refine ⟨rfl, ?_⟩)) (by repeat (first | exact trivial | refine ⟨rfl, ?_⟩)) ?_
 rintro ⟨fu, k, acc⟩ ⟨q1, q2, e1⟩ ih
 dsimp only at * 
 refine .seq ?_
 refine .seq ?_
 refine .region rfl ?_
 refine R.move (h := ?_)
 refine R.bin (run_leq _ _ _ _ _ _) (h := ?_)
 refine .n0 ?_
 refine LGo.ifd (ht := fun hc => ?_) (hf := fun hc => ?_)
 ·
  obtain ⟨f, rfl⟩ : ∃ f, fu = f + 1 := ⟨fu - 1, by omega⟩
  rw [gGo] at e1
  refine .skip ?_
  refine .seq ?_
  refine .block ?_
  refine .seq ?_
  refine .region rfl ?_
  first | refine R.field F25_0 (h := ?_) | refine R.fieldAt F25_0 (h := ?_)
  first | refine R.loadB O3 (h := ?_) | refine R.load1 O3 (h := ?_)
  first | refine R.field F25_2 (h := ?_) | refine R.fieldAt F25_2 (h := ?_)
  first | refine R.loadB O23 (h := ?_) | refine R.load1 O23 (h := ?_)
  refine R.bin (run_neq _ _ _ _ _ _) (h := ?_)
  rw [show (!decide (r.err = 0)) = badOf r from rfl]
  refine R.move (h := ?_)
  refine R.callP (es := [_, _, _]) (fun _ => usesS_P r.kind (badOf r) (k : Int)) (h := ?_)
  refine .n0 ?_
  refine LGo.ifb (ht := fun hc2 => ?_) (hf := fun hc2 => ?_)
  ·
   rw [if_pos hc2] at e1
   refine .seq ?_
   refine .region rfl ?_
   first | refine R.loadA A25 (h := ?_) | refine R.loadN A25 (h := ?_) | refine R.loadP A25 (h := ?_)
   refine R.move (h := ?_)
   refine R.callP (es := [_, _]) (fun _ => fieldT_P r (k : Int)) (h := ?_)
   refine R.move (h := ?_)
   refine R.extract (h := ?_)
   refine R.extract (h := ?_)
   refine R.alloc Z55 (h := ?_)
   refine R.storeA A55 (h := ?_)
   refine R.assign (h := ?_)
   refine .n0 ?_
   refine .region rfl ?_
   refine R.move (h := ?_)
   first | refine R.loadA A55 (h := ?_) | refine R.loadN A55 (h := ?_) | refine R.loadP A55 (h := ?_)
   refine R.buildSliceG AP61 (xs := [_]) (es := [_]) (hcs := CellsOfs.cons (CellsOf.agg rfl) CellsOfs.nil) (h := ?_)
   refine R.appendS AP61 (hs := SrcOk.sl Tryz.underlying61 (by simp; rfl)) (hlen := by simp; omega) (h := ?_)
   refine R.assign (h := ?_)
   refine .n0 ?_
   refine .inBlock ?_
   refine .region rfl ?_
   refine R.move (h := ?_)
   first | refine R.add (h := ?_) | refine R.addW (h := ?_)
   refine R.assign (h := ?_)
   refine .n0 ?_
   refine .inLoop ?_
   exact LGo.turn [0, 3] (b := 0) (fun o h => by have := (hA o).1 h; omega) (ih (f, k + 1, acc ++ [(fieldT r k).1]) ⟨by dsimp only; omega, by simp; omega, e1⟩ (by dsimp only; omega)) (by repeat (first | exact trivial | refine ⟨rfl, ?_⟩)) ⟨rfl, by rw [List.map_append]; rfl, trivial⟩
  ·
   rw [if_neg (by rw [hc2]; simp)] at e1
   refine .skip ?_
   refine .inBlock ?_
   refine .region rfl ?_
   refine R.move (h := ?_)
   first | refine R.add (h := ?_) | refine R.addW (h := ?_)
   refine R.assign (h := ?_)
   refine .n0 ?_
   refine .inLoop ?_
   exact LGo.next _ (fun o h => by have := (hA o).1 h; omega) (by omega) (ih (f, k + 1, acc) ⟨by dsimp only; omega, by dsimp only; omega, e1⟩ (by dsimp only; omega)) (by repeat (first | exact trivial | refine ⟨rfl, ?_⟩)) (by repeat (first | exact trivial | refine ⟨rfl, ?_⟩))
 ·
  obtain rfl : fu = 0 := by omega
  rw [gGo] at e1
  rw [← e1]
  refine .exit rfl ?_
  refine .seq ?_
  refine .region rfl ?_
  refine R.move (h := ?_)
  refine R.assign (h := ?_)
  refine .n0 ?_
  first | refine LGo.frzT 2 (h := ?_) | refine LGo.nilSl 2 3 (h := ?_) | skip
  exact LGo.ret (ret_T Tryz.results25 hA hmd)

theorem rulesT_len (k : Int) (b : Bool) : (rulesT k b).length ≤ 8 := by have := gGo_len (fun t => usesS k b t) (fun t => ruleT k t) 8 1 []; simpa [rulesT] using this
end Go.Proofs.YtcobkjognpjikaaGreatDoor
