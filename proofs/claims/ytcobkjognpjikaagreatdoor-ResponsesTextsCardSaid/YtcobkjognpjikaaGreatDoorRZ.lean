/- responses: the reference's Decode, Refused, Of, Malformed. -/
import Derived.Test.YtcobkjognpjikaaGreatDoorRX
import Derived.Test.YtcobkjognpjikaaGreatDoorRY
set_option linter.unusedSimpArgs false
set_option linter.unusedVariables false
namespace Go.Proofs.YtcobkjognpjikaaGreatDoor

def tryT (kd : Int) (bad : Bool) (b : List UInt8) : Rs × Bool := if (decode (rulesT kd bad) b).2.2 = 0 then (if (decide ((!decide ((foldS kd (decode (rulesT kd bad) b).1).err = 0)) = bad) && decide (refCheckT (foldS kd (decode (rulesT kd bad) b).1) = 0)) = true then (foldS kd (decode (rulesT kd bad) b).1, true) else (zeroS, false)) else (zeroS, false)
def goT (kd : Int) (b : List UInt8) : Nat → Nat → Rs × Int
  | 0, _ => (zeroS, 11)
  | n + 1, k => if (tryT kd (decide ((k : Int) = 1)) b).2 = true then ((tryT kd (decide ((k : Int) = 1)) b).1, 0) else goT kd b n (k + 1)
def decRs : List UInt8 → Rs × Int
  | [] => (zeroS, 11)
  | c :: b => if ((!decide ((c.toNat : Int) = 0)) && !askedS c.toNat) = true then (zeroS, 11) else goT c.toNat b 2 0
def refusedT (q : Rq) (e : Int) : Rs × Int := if (decide (refCheckQ q = 0) && (decide (e < 1) || decide (255 < e))) = true then (zeroS, 7) else if (!decide (refCheckQ q = 0)) = true then (zeroS, refCheckQ q) else ({ zeroS with kind := q.kind, id := q.id, err := e }, 0)
def o2 (q : Rq) : Rs := { zeroS with kind := q.kind, id := q.id }
def o3 (q : Rq) (s : List UInt8) : Rs := if usesS q.kind false 3 = true then { o2 q with ses := s } else o2 q
def o4 (q : Rq) (s t : List UInt8) : Rs := if usesS q.kind false 4 = true then { o3 q s with tic := t } else o3 q s
def o5 (q : Rq) (x : Mr) (s t : List UInt8) : Rs := if usesS q.kind false 5 = true then { o4 q s t with seat := x.seat } else o4 q s t
def o6 (q : Rq) (x : Mr) (s t : List UInt8) : Rs := if usesS q.kind false 6 = true then { o5 q x s t with n := x.n } else o5 q x s t
def o7 (q : Rq) (x : Mr) (s t : List UInt8) : Rs := if usesS q.kind false 7 = true then { o6 q x s t with place := x.place } else o6 q x s t
def o8 (q : Rq) (x : Mr) (s t : List UInt8) : Rs := if usesS q.kind false 8 = true then { o7 q x s t with dl := x.dl } else o7 q x s t
def ofT (q : Rq) (x : Mr) (s t : List UInt8) : Rs × Int := if (!decide (refCheckQ q = 0)) = true then (zeroS, refCheckQ q) else if (!decide (x.err = 0)) = true then refusedT q x.err else if (!decide (refCheckT (o8 q x s t) = 0)) = true then (zeroS, refCheckT (o8 q x s t)) else (o8 q x s t, 0)

theorem withT_P (kd : Int) (l : List Fld) (hl : l.length ≤ 100) : PC Tryz.prog 36 [.i kd, .sv (.sl 3 (l.map Fld.c))] (.agg ((foldS kd l).c.map LV.sv)) := by
 refine ⟨LC.of_go Tryz.func36 (c := _) rfl (by kernel_rfl) (by rw [Tryz.ntmps36]; simp) rfl rfl (by simp [LO.lt, LV.lts, LV.lt]) (by simp) ?_⟩
 intro B hA hmd
 refine .seq ?_
 refine .region rfl ?_
 refine R.alloc Z25 (h := ?_)
 refine .n0 ?_
 refine .seq ?_
 refine .region rfl ?_
 refine R.move (h := ?_)
 refine R.build BF25 (is := [0]) (xs := [_]) (es := [_]) (h := ?_)
 refine R.alloc Z25 (h := ?_)
 refine R.storeA A25 (h := ?_)
 refine .n0 ?_
 refine .seq ?_
 refine .seq ?_
 refine .region rfl ?_
 refine R.assign (h := ?_)
 refine .n0 ?_
 refine .block ?_
 refine .loop ?_
 refine LGo.loopG (σ := Nat) (fun x => x ≤ l.length) (fun x => [(6, (true, .i (x : Nat)))]) (fun x => [(0, .box 25 (zeroS.c.map LV.sv)), (1, .box 25 ((foldS kd (l.take x)).c.map LV.sv))]) (fun x => l.length - x) (0) [(1, _), (4, _), (5, _)] (Nat.zero_le _) (by repeat (first | exact trivial | refine ⟨rfl, ?_⟩)) (by repeat (first | exact trivial | refine ⟨rfl, ?_⟩)) (by repeat (first | exact trivial | refine ⟨rfl, ?_⟩)) ?_
 rintro k hk2 ih
 refine .seq ?_
 refine .seq ?_
 refine .region rfl ?_
 refine R.move (h := ?_)
 refine R.move (h := ?_)
 first | refine R.len S61 (h := ?_) | refine R.lenRs S61 (h := ?_) | refine R.lenV (run_lenNil S61) (h := ?_)
 rw [List.length_map]
 refine R.bin (run_lss _ _ _ _ _ _) (h := ?_)
 refine .n0 ?_
 refine LGo.ifd (ht := fun hc => ?_) (hf := fun hc => ?_)
 ·
  have hlt : k < l.length := by omega
  have hx : (l.map Fld.c)[((k : Nat) : Int).toNat]? = some l[k].c := by simp [hlt]
  have htk : foldS kd (l.take (k + 1)) = putS (foldS kd (l.take k)) l[k] := by unfold foldS; rw [List.take_succ_eq_append_getElem hlt, List.foldl_append]; rfl
  generalize l[k] = f at hx htk
  generalize foldS kd (l.take k) = rk at *
  unfold putS at htk
  refine .skip ?_
  refine .seq ?_
  refine .block ?_
  refine .seq ?_
  refine .region rfl ?_
  refine R.move (h := ?_)
  refine R.move (h := ?_)
  refine R.index I61 (hj := fun hg => ⟨by omega, hx⟩) (h := ?_)
  first | refine R.loadA A55 (h := ?_) | refine R.loadN A55 (h := ?_) | refine R.loadP A55 (h := ?_)
  refine R.alloc Z55 (h := ?_)
  refine R.storeA A55 (h := ?_)
  refine .n0 ?_
  refine .seq ?_
  refine .region rfl ?_
  first | refine R.field F55_0 (h := ?_) | refine R.fieldAt F55_0 (h := ?_)
  first | refine R.loadB O3 (h := ?_) | refine R.load1 O3 (h := ?_)
  refine .n0 ?_
  refine .block ?_
  refine .seq ?_
  refine .region rfl ?_
  refine R.bin (run_eql _ _ _ _ _ _) (h := ?_)
  refine R.assign (h := ?_)
  refine .n0 ?_
  first | refine LGo.ifd (ht := fun hc2 => ?_) (hf := fun hc2 => ?_) | refine LGo.ifb (ht := fun hc2 => ?_) (hf := fun hc2 => ?_)
  ·
   rw [if_pos hc2] at htk
   refine .region rfl ?_
   first | refine R.field F55_1 (h := ?_) | refine R.fieldAt F55_1 (h := ?_)
   first | refine R.loadB O22 (h := ?_) | refine R.load1 O22 (h := ?_)
   first | refine R.field F25_1 (h := ?_) | refine R.fieldAt F25_1 (h := ?_)
   refine R.storeB O22 (h := ?_)
   refine .n0 ?_
   refine .inBlock ?_
   refine .inBlock ?_
   refine .region rfl ?_
   refine R.move (h := ?_)
   first | refine R.add (h := ?_) | refine R.addW (h := ?_)
   refine R.assign (h := ?_)
   refine .n0 ?_
   refine .inLoop ?_
   exact LGo.next _ (fun o h => by have := (hA o).1 h; omega) (by omega) (ih (k + 1) hlt (by omega)) (by repeat (first | exact trivial | refine ⟨rfl, ?_⟩)) ⟨rfl, by rw [htk]; rfl, trivial⟩
  ·
   rw [if_neg hc2] at htk
   refine .seq ?_
   refine .region rfl ?_
   refine R.bin (run_eql _ _ _ _ _ _) (h := ?_)
   refine R.assign (h := ?_)
   refine .n0 ?_
   first | refine LGo.ifd (ht := fun hc3 => ?_) (hf := fun hc3 => ?_) | refine LGo.ifb (ht := fun hc3 => ?_) (hf := fun hc3 => ?_)
   ·
    rw [if_pos hc3] at htk
    refine .region rfl ?_
    first | refine R.field F55_1 (h := ?_) | refine R.fieldAt F55_1 (h := ?_)
    first | refine R.loadB O22 (h := ?_) | refine R.load1 O22 (h := ?_)
    refine R.convW Tryz.runUnderlying22 Tryz.runUnderlying23 (h := ?_)
    first | refine R.field F25_2 (h := ?_) | refine R.fieldAt F25_2 (h := ?_)
    refine R.storeB O23 (h := ?_)
    refine .n0 ?_
    refine .inBlock ?_
    refine .inBlock ?_
    refine .region rfl ?_
    refine R.move (h := ?_)
    first | refine R.add (h := ?_) | refine R.addW (h := ?_)
    refine R.assign (h := ?_)
    refine .n0 ?_
    refine .inLoop ?_
    exact LGo.next _ (fun o h => by have := (hA o).1 h; omega) (by omega) (ih (k + 1) hlt (by omega)) (by repeat (first | exact trivial | refine ⟨rfl, ?_⟩)) ⟨rfl, by rw [htk]; rfl, trivial⟩
   ·
    rw [if_neg hc3] at htk
    refine .seq ?_
    refine .region rfl ?_
    refine R.bin (run_eql _ _ _ _ _ _) (h := ?_)
    refine R.assign (h := ?_)
    refine .n0 ?_
    first | refine LGo.ifd (ht := fun hc4 => ?_) (hf := fun hc4 => ?_) | refine LGo.ifb (ht := fun hc4 => ?_) (hf := fun hc4 => ?_)
    ·
     rw [if_pos hc4] at htk
     refine .region rfl ?_
     first | refine R.field F55_2 (h := ?_) | refine R.fieldAt F55_2 (h := ?_)
     first | refine R.loadB O9 (h := ?_) | refine R.load1 O9 (h := ?_)
     first | refine R.field F25_3 (h := ?_) | refine R.fieldAt F25_3 (h := ?_)
     refine R.storeB O9 (h := ?_)
     refine .n0 ?_
     refine .inBlock ?_
     refine .inBlock ?_
     refine .region rfl ?_
     refine R.move (h := ?_)
     first | refine R.add (h := ?_) | refine R.addW (h := ?_)
     refine R.assign (h := ?_)
     refine .n0 ?_
     refine .inLoop ?_
     exact LGo.next _ (fun o h => by have := (hA o).1 h; omega) (by omega) (ih (k + 1) hlt (by omega)) (by repeat (first | exact trivial | refine ⟨rfl, ?_⟩)) ⟨rfl, by rw [htk]; rfl, trivial⟩
    ·
     rw [if_neg hc4] at htk
     refine .seq ?_
     refine .region rfl ?_
     refine R.bin (run_eql _ _ _ _ _ _) (h := ?_)
     refine R.assign (h := ?_)
     refine .n0 ?_
     first | refine LGo.ifd (ht := fun hc5 => ?_) (hf := fun hc5 => ?_) | refine LGo.ifb (ht := fun hc5 => ?_) (hf := fun hc5 => ?_)
     ·
      rw [if_pos hc5] at htk
      refine .region rfl ?_
      first | refine R.field F55_2 (h := ?_) | refine R.fieldAt F55_2 (h := ?_)
      first | refine R.loadB O9 (h := ?_) | refine R.load1 O9 (h := ?_)
      first | refine R.field F25_4 (h := ?_) | refine R.fieldAt F25_4 (h := ?_)
      refine R.storeB O9 (h := ?_)
      refine .n0 ?_
      refine .inBlock ?_
      refine .inBlock ?_
      refine .region rfl ?_
      refine R.move (h := ?_)
      first | refine R.add (h := ?_) | refine R.addW (h := ?_)
      refine R.assign (h := ?_)
      refine .n0 ?_
      refine .inLoop ?_
      exact LGo.next _ (fun o h => by have := (hA o).1 h; omega) (by omega) (ih (k + 1) hlt (by omega)) (by repeat (first | exact trivial | refine ⟨rfl, ?_⟩)) ⟨rfl, by rw [htk]; rfl, trivial⟩
     ·
      rw [if_neg hc5] at htk
      refine .seq ?_
      refine .region rfl ?_
      refine R.bin (run_eql _ _ _ _ _ _) (h := ?_)
      refine R.assign (h := ?_)
      refine .n0 ?_
      first | refine LGo.ifd (ht := fun hc6 => ?_) (hf := fun hc6 => ?_) | refine LGo.ifb (ht := fun hc6 => ?_) (hf := fun hc6 => ?_)
      ·
       rw [if_pos hc6] at htk
       refine .region rfl ?_
       first | refine R.field F55_1 (h := ?_) | refine R.fieldAt F55_1 (h := ?_)
       first | refine R.loadB O22 (h := ?_) | refine R.load1 O22 (h := ?_)
       refine R.convW Tryz.runUnderlying22 Tryz.runUnderlying3 (h := ?_)
       first | refine R.field F25_5 (h := ?_) | refine R.fieldAt F25_5 (h := ?_)
       refine R.storeB O3 (h := ?_)
       refine .n0 ?_
       refine .inBlock ?_
       refine .inBlock ?_
       refine .region rfl ?_
       refine R.move (h := ?_)
       first | refine R.add (h := ?_) | refine R.addW (h := ?_)
       refine R.assign (h := ?_)
       refine .n0 ?_
       refine .inLoop ?_
       exact LGo.next _ (fun o h => by have := (hA o).1 h; omega) (by omega) (ih (k + 1) hlt (by omega)) (by repeat (first | exact trivial | refine ⟨rfl, ?_⟩)) ⟨rfl, by rw [htk]; rfl, trivial⟩
      ·
       rw [if_neg hc6] at htk
       refine .seq ?_
       refine .region rfl ?_
       refine R.bin (run_eql _ _ _ _ _ _) (h := ?_)
       refine R.assign (h := ?_)
       refine .n0 ?_
       first | refine LGo.ifd (ht := fun hc7 => ?_) (hf := fun hc7 => ?_) | refine LGo.ifb (ht := fun hc7 => ?_) (hf := fun hc7 => ?_)
       ·
        rw [if_pos hc7] at htk
        refine .region rfl ?_
        first | refine R.field F55_1 (h := ?_) | refine R.fieldAt F55_1 (h := ?_)
        first | refine R.loadB O22 (h := ?_) | refine R.load1 O22 (h := ?_)
        refine R.convW Tryz.runUnderlying22 Tryz.runUnderlying3 (h := ?_)
        first | refine R.field F25_6 (h := ?_) | refine R.fieldAt F25_6 (h := ?_)
        refine R.storeB O3 (h := ?_)
        refine .n0 ?_
        refine .inBlock ?_
        refine .inBlock ?_
        refine .region rfl ?_
        refine R.move (h := ?_)
        first | refine R.add (h := ?_) | refine R.addW (h := ?_)
        refine R.assign (h := ?_)
        refine .n0 ?_
        refine .inLoop ?_
        exact LGo.next _ (fun o h => by have := (hA o).1 h; omega) (by omega) (ih (k + 1) hlt (by omega)) (by repeat (first | exact trivial | refine ⟨rfl, ?_⟩)) ⟨rfl, by rw [htk]; rfl, trivial⟩
       ·
        rw [if_neg hc7] at htk
        refine .seq ?_
        refine .region rfl ?_
        refine R.bin (run_eql _ _ _ _ _ _) (h := ?_)
        refine R.assign (h := ?_)
        refine .n0 ?_
        first | refine LGo.ifd (ht := fun hc8 => ?_) (hf := fun hc8 => ?_) | refine LGo.ifb (ht := fun hc8 => ?_) (hf := fun hc8 => ?_)
        ·
         rw [if_pos hc8] at htk
         refine .region rfl ?_
         first | refine R.field F55_1 (h := ?_) | refine R.fieldAt F55_1 (h := ?_)
         first | refine R.loadB O22 (h := ?_) | refine R.load1 O22 (h := ?_)
         refine R.convW Tryz.runUnderlying22 Tryz.runUnderlying3 (h := ?_)
         first | refine R.field F25_7 (h := ?_) | refine R.fieldAt F25_7 (h := ?_)
         refine R.storeB O3 (h := ?_)
         refine .n0 ?_
         refine .inBlock ?_
         refine .inBlock ?_
         refine .region rfl ?_
         refine R.move (h := ?_)
         first | refine R.add (h := ?_) | refine R.addW (h := ?_)
         refine R.assign (h := ?_)
         refine .n0 ?_
         refine .inLoop ?_
         exact LGo.next _ (fun o h => by have := (hA o).1 h; omega) (by omega) (ih (k + 1) hlt (by omega)) (by repeat (first | exact trivial | refine ⟨rfl, ?_⟩)) ⟨rfl, by rw [htk]; rfl, trivial⟩
        ·
         rw [if_neg hc8] at htk
         refine .seq ?_
         refine .region rfl ?_
         refine R.bin (run_eql _ _ _ _ _ _) (h := ?_)
         refine R.assign (h := ?_)
         refine .n0 ?_
         first | refine LGo.ifd (ht := fun hc9 => ?_) (hf := fun hc9 => ?_) | refine LGo.ifb (ht := fun hc9 => ?_) (hf := fun hc9 => ?_)
         ·
          rw [if_pos hc9] at htk
          refine .region rfl ?_
          first | refine R.field F55_1 (h := ?_) | refine R.fieldAt F55_1 (h := ?_)
          first | refine R.loadB O22 (h := ?_) | refine R.load1 O22 (h := ?_)
          refine R.convW Tryz.runUnderlying22 Tryz.runUnderlying2 (h := ?_)
          first | refine R.field F25_8 (h := ?_) | refine R.fieldAt F25_8 (h := ?_)
          refine R.storeB O2 (h := ?_)
          refine .n0 ?_
          refine .inBlock ?_
          refine .inBlock ?_
          refine .region rfl ?_
          refine R.move (h := ?_)
          first | refine R.add (h := ?_) | refine R.addW (h := ?_)
          refine R.assign (h := ?_)
          refine .n0 ?_
          refine .inLoop ?_
          exact LGo.next _ (fun o h => by have := (hA o).1 h; omega) (by omega) (ih (k + 1) hlt (by omega)) (by repeat (first | exact trivial | refine ⟨rfl, ?_⟩)) ⟨rfl, by rw [htk]; rfl, trivial⟩
         ·
          rw [if_neg hc9] at htk
          refine .skip ?_
          refine .inBlock ?_
          refine .inBlock ?_
          refine .region rfl ?_
          refine R.move (h := ?_)
          first | refine R.add (h := ?_) | refine R.addW (h := ?_)
          refine R.assign (h := ?_)
          refine .n0 ?_
          refine .inLoop ?_
          exact LGo.next _ (fun o h => by have := (hA o).1 h; omega) (by omega) (ih (k + 1) hlt (by omega)) (by repeat (first | exact trivial | refine ⟨rfl, ?_⟩)) ⟨rfl, by rw [htk]; rfl, trivial⟩
 ·
  obtain rfl : k = l.length := by omega
  rw [List.take_length]
  refine .exit rfl ?_
  refine .seq ?_
  refine .region rfl ?_
  first | refine R.loadA A25 (h := ?_) | refine R.loadN A25 (h := ?_) | refine R.loadP A25 (h := ?_)
  refine R.storeA A25 (h := ?_)
  refine .n0 ?_
  exact LGo.ret (ret_A Tryz.results36 A25 hA hmd)

end Go.Proofs.YtcobkjognpjikaaGreatDoor
