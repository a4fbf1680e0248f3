/- responses: the reference's Decode, Refused, Of, Malformed. -/
import Derived.Test.YtcobkjognpjikaaGreatDoorRX
import Derived.Test.YtcobkjognpjikaaGreatDoorRY
set_option linter.unusedSimpArgs false
set_option linter.unusedVariables false
namespace Go.Proofs.YtcobkjognpjikaaGreatDoor

def tryT (kd : Int) (bad : Bool) (b : List UInt8) : Rs × Bool := if (decode (rulesT kd bad) b).2.2 = 0 then (if (decide ((!decide ((foldS kd (decode (rulesT kd bad) b).1).err = 0)) = bad) && decide (refCheckT (foldS kd (decode (rulesT kd bad) b).1) = 0)) = true then (foldS kd (decode (rulesT kd bad) b).1, true) else (zeroS, false)) else (zeroS, false)
def goT (kd : Int) (b : List UInt8) : Nat → Nat → Rs × Int
  | 0, _ => (zeroS, 11)
  | n + 1, k => if (tryT kd (decide ((k : Int) = 1)) b).2 = true then ((tryT kd (decide ((k : Int) = 1)) b).1, 0) else goT kd b n (k + 1)
def decRs : List UInt8 → Rs × Int
  | [] => (zeroS, 11)
  | c :: b => if ((!decide ((c.toNat : Int) = 0)) && !askedS c.toNat) = true then (zeroS, 11) else goT c.toNat b 2 0
def refusedT (q : Rq) (e : Int) : Rs × Int := if (decide (refCheckQ q = 0) && (decide (e < 1) || decide (255 < e))) = true then (zeroS, 7) else if (!decide (refCheckQ q = 0)) = true then (zeroS, refCheckQ q) else ({ zeroS with kind := q.kind, id := q.id, err := e }, 0)
def o2 (q : Rq) : Rs := { zeroS with kind := q.kind, id := q.id }
def o3 (q : Rq) (s : List UInt8) : Rs := if usesS q.kind false 3 = true then { o2 q with ses := s } else o2 q
def o4 (q : Rq) (s t : List UInt8) : Rs := if usesS q.kind false 4 = true then { o3 q s with tic := t } else o3 q s
def o5 (q : Rq) (x : Mr) (s t : List UInt8) : Rs := if usesS q.kind false 5 = true then { o4 q s t with seat := x.seat } else o4 q s t
def o6 (q : Rq) (x : Mr) (s t : List UInt8) : Rs := if usesS q.kind false 6 = true then { o5 q x s t with n := x.n } else o5 q x s t
def o7 (q : Rq) (x : Mr) (s t : List UInt8) : Rs := if usesS q.kind false 7 = true then { o6 q x s t with place := x.place } else o6 q x s t
def o8 (q : Rq) (x : Mr) (s t : List UInt8) : Rs := if usesS q.kind false 8 = true then { o7 q x s t with dl := x.dl } else o7 q x s t
def ofT (q : Rq) (x : Mr) (s t : List UInt8) : Rs × Int := if (!decide (refCheckQ q = 0)) = true then (zeroS, refCheckQ q) else if (!decide (x.err = 0)) = true then refusedT q x.err else if (!decide (refCheckT (o8 q x s t) = 0)) = true then (zeroS, refCheckT (o8 q x s t)) else (o8 q x s t, 0)

end Go.Proofs.YtcobkjognpjikaaGreatDoor
