/- requests: Op, and the reference's. -/
import Derived.Test.YtckbomkcnmcdaaaGreatDoorX1
set_option linter.unusedSimpArgs false
set_option linter.unusedVariables false
namespace Go.Proofs.YtckbomkcnmcdaaaGreatDoor

/-- what a token, a ticket and an operation say -/
structure Tk where
  owner : Int
  til : Int
structure Tt where
  seat : Int
  owner : Int
  serial : Int
  epoch : Int
structure Mo where
  kind : Int
  owner : Int
  til : Int
  seat : Int
  sec : Int
  n : Int
  to : Int
  t : Tt
  now : Int
def Tk.c (x : Tk) : List SV := [.val (.int .u32 x.owner), .val (.int .i64 x.til)]
def Tt.c (x : Tt) : List SV := [.val (.int .u32 x.seat), .val (.int .u32 x.owner), .val (.int .u64 x.serial), .val (.int .u64 x.epoch)]
def Mo.c (x : Mo) : List SV := [.val (.int .i64 x.kind), .val (.int .u32 x.owner), .val (.int .i64 x.til), .val (.int .i64 x.seat), .val (.int .i64 x.sec), .val (.int .i64 x.n), .val (.int .u32 x.to), .val (.int .u32 x.t.seat), .val (.int .u32 x.t.owner), .val (.int .u64 x.t.serial), .val (.int .u64 x.t.epoch), .val (.int .i64 x.now)]
abbrev zeroT : Tt := ⟨0, 0, 0, 0⟩
abbrev zeroM : Mo := ⟨0, 0, 0, 0, 0, 0, 0, zeroT, 0⟩
def opOf (r : Rq) (x : Tk) (k : Tt) (a b : Bool) : Mo := ⟨if r.kind = 13 then 9 else r.kind, if a = true then x.owner else r.owner, if a = true then x.til else 0, r.seat, r.sec, r.n, r.to, if b = true then k else zeroT, 0⟩
def opQ (r : Rq) (x : Tk) (k : Tt) : Mo × Int := if (!decide (checkQ r = 0)) = true then (zeroM, checkQ r) else (opOf r x k (needsQ r.kind).1 (needsQ r.kind).2.1, 0)
def opR9 (r : Rq) (x : Tk) (k : Tt) : Mo × Int := if (!decide (checkQ r = 0)) = true then (zeroM, checkQ r) else (opOf r x k (hasQ r.kind 3) (hasQ r.kind 4), 0)
end Go.Proofs.YtckbomkcnmcdaaaGreatDoor
