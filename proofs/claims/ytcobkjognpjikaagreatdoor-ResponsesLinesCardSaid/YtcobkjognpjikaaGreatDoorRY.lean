/- responses: the reference's functions. -/
import Derived.Test.YtcobkjognpjikaaGreatDoorRW
set_option linter.unusedSimpArgs false
set_option linter.unusedVariables false
namespace Go.Proofs.YtcobkjognpjikaaGreatDoor

def askedS (k : Int) : Bool := decide ((rulesR k).2 = 0)
def usesS (k : Int) (bad : Bool) (t : Int) : Bool := if t ≤ 2 then true else if bad = true then false else if k = 1 then (decide (t = 3) || decide (t = 8)) else if k = 2 then decide (t = 8) else if k = 3 then ((decide (t = 5) || decide (t = 6)) || decide (t = 8)) else if k = 5 then decide (t = 4) else if k = 6 then decide (t = 4) else if k = 10 then decide (t = 7) else false
def ruleT (k t : Int) : Rule := if t = 1 then (if k = 0 then ⟨t, 1, 0, 0, true⟩ else ⟨t, 1, 1, 9223372036854775807, true⟩) else if t = 2 then ⟨t, 1, 0, 255, true⟩ else if t = 3 then ⟨t, 2, 44, 44, true⟩ else if t = 4 then ⟨t, 2, 56, 56, true⟩ else if t = 8 then ⟨t, 1, 0, 9223372036854775807, true⟩ else ⟨t, 1, 0, 2147483647, true⟩
def fieldT (r : Rs) (t : Int) : Fld × Bool := if t = 1 then (⟨t, r.id, []⟩, true) else if t = 2 then (⟨t, uw r.err, []⟩, decide (r.err ≥ 0)) else if t = 3 then (⟨t, uw 0, r.ses⟩, decide ((0 : Int) ≥ 0)) else if t = 4 then (⟨t, uw 0, r.tic⟩, decide ((0 : Int) ≥ 0)) else if t = 5 then (⟨t, uw r.seat, []⟩, decide (r.seat ≥ 0))
  else if t = 6 then (⟨t, uw r.n, []⟩, decide (r.n ≥ 0)) else if t = 7 then (⟨t, uw r.place, []⟩, decide (r.place ≥ 0)) else if t = 8 then (⟨t, uw r.dl, []⟩, decide (r.dl ≥ 0)) else (⟨t, uw 0, []⟩, decide ((0 : Int) ≥ 0))
def badOf (r : Rs) : Bool := !decide (r.err = 0)
def anyG (p : Nat → Bool) : Nat → Nat → Bool
  | 0, _ => false
  | n + 1, k => if p k = true then true else anyG p n (k + 1)
def gGo {α : Type} (p : Nat → Bool) (f : Nat → α) : Nat → Nat → List α → List α
  | 0, _, l => l
  | n + 1, k, l => if p k = true then gGo p f n (k + 1) (l ++ [f k]) else gGo p f n (k + 1) l
def badT1 (r : Rs) (t : Nat) : Bool := (!usesS r.kind (badOf r) t) && ((!decide ((fieldT r t).1.num = 0)) || !decide ((fieldT r t).1.txt = []))
def badT2 (r : Rs) (t : Nat) : Bool := (usesS r.kind (badOf r) t && decide ((ruleT r.kind t).kind = 1)) && (((!(fieldT r t).2) || decide ((fieldT r t).1.num < (ruleT r.kind t).low)) || decide ((ruleT r.kind t).high < (fieldT r t).1.num))
def badT3 (r : Rs) (t : Nat) : Bool := usesS r.kind (badOf r) t && !decide (((fieldT r t).1.txt.length : Int) = (ruleT r.kind t).low)
def refCheckT (r : Rs) : Int := if (((!decide (r.kind = 0)) && !askedS r.kind) || (decide (r.kind = 0) && ((!decide (r.id = 0)) || !decide (r.err = 11)))) = true then 2 else if anyG (badT1 r) 6 3 = true then 2 else if anyG (badT2 r) 8 1 = true then 7 else if anyG (badT3 r) 2 3 = true then 3 else 0
def rulesT (k : Int) (bad : Bool) : List Rule := gGo (fun t => usesS k bad t) (fun t => ruleT k t) 8 1 []
def messageT (r : Rs) : List Fld := gGo (fun t => usesS r.kind (badOf r) t) (fun t => (fieldT r t).1) 8 1 []
def encT (r : Rs) : List UInt8 × Int := if (!decide (refCheckT r = 0)) = true then ([], refCheckT r) else (byt r.kind :: encBy (rulesT r.kind (badOf r)) (messageT r), 0)
end Go.Proofs.YtcobkjognpjikaaGreatDoor
