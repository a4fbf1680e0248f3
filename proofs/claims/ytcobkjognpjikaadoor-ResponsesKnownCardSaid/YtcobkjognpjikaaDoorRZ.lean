/- responses: the reference's Decode, Refused, Of, Malformed. -/
import Derived.Test.YtcobkjognpjikaaDoorRX
import Derived.Test.YtcobkjognpjikaaDoorRY
set_option linter.unusedSimpArgs false
set_option linter.unusedVariables false
namespace Go.Proofs.YtcobkjognpjikaaDoor

def tryT (kd : Int) (bad : Bool) (b : List UInt8) : Rs × Bool := if (decode (rulesT kd bad) b).2.2 = 0 then (if (decide ((!decide ((foldS kd (decode (rulesT kd bad) b).1).err = 0)) = bad) && decide (refCheckT (foldS kd (decode (rulesT kd bad) b).1) = 0)) = true then (foldS kd (decode (rulesT kd bad) b).1, true) else (zeroS, false)) else (zeroS, false)
def goT (kd : Int) (b : List UInt8) : Nat → Nat → Rs × Int
  | 0, _ => (zeroS, 11)
  | n + 1, k => if (tryT kd (decide ((k : Int) = 1)) b).2 = true then ((tryT kd (decide ((k : Int) = 1)) b).1, 0) else goT kd b n (k + 1)
def decT : List UInt8 → Rs × Int
  | [] => (zeroS, 11)
  | c :: b => if ((!decide ((c.toNat : Int) = 0)) && !askedS c.toNat) = true then (zeroS, 11) else goT c.toNat b 2 0
def refusedT (q : Rq) (e : Int) : Rs × Int := if (decide (refCheckQ q = 0) && (decide (e < 1) || decide (255 < e))) = true then (zeroS, 7) else if (!decide (refCheckQ q = 0)) = true then (zeroS, refCheckQ q) else ({ zeroS with kind := q.kind, id := q.id, err := e }, 0)
def o2 (q : Rq) : Rs := { zeroS with kind := q.kind, id := q.id }
def o3 (q : Rq) (s : List UInt8) : Rs := if usesS q.kind false 3 = true then { o2 q with ses := s } else o2 q
def o4 (q : Rq) (s t : List UInt8) : Rs := if usesS q.kind false 4 = true then { o3 q s with tic := t } else o3 q s
def o5 (q : Rq) (x : Mr) (s t : List UInt8) : Rs := if usesS q.kind false 5 = true then { o4 q s t with seat := x.seat } else o4 q s t
def o6 (q : Rq) (x : Mr) (s t : List UInt8) : Rs := if usesS q.kind false 6 = true then { o5 q x s t with n := x.n } else o5 q x s t
def o7 (q : Rq) (x : Mr) (s t : List UInt8) : Rs := if usesS q.kind false 7 = true then { o6 q x s t with place := x.place } else o6 q x s t
def o8 (q : Rq) (x : Mr) (s t : List UInt8) : Rs := if usesS q.kind false 8 = true then { o7 q x s t with dl := x.dl } else o7 q x s t
theorem o8_ok {q : Rq} (hq : RqOk q) {x : Mr} {s t : List UInt8} (hx : MrOk x) (hs : s.length ≤ maxLen ∧ t.length ≤ maxLen) : RsOk (o8 q x s t) := by
  have h2 : RsOk (o2 q) := { zeroS_ok hq.kind with id := hq.id }
  have h3 : RsOk (o3 q s) := by unfold o3; split; exact { h2 with ses := hs.1 }; exact h2
  have h4 : RsOk (o4 q s t) := by unfold o4; split; exact { h3 with tic := hs.2 }; exact h3
  have h5 : RsOk (o5 q x s t) := by unfold o5; split; exact { h4 with seat := hx.seat }; exact h4
  have h6 : RsOk (o6 q x s t) := by unfold o6; split; exact { h5 with n := hx.n }; exact h5
  have h7 : RsOk (o7 q x s t) := by unfold o7; split; exact { h6 with place := hx.place }; exact h6
  unfold o8; split; exact { h7 with dl := hx.dl }; exact h7
def ofT (q : Rq) (x : Mr) (s t : List UInt8) : Rs × Int := if (!decide (refCheckQ q = 0)) = true then (zeroS, refCheckQ q) else if (!decide (x.err = 0)) = true then refusedT q x.err else if (!decide (refCheckT (o8 q x s t) = 0)) = true then (zeroS, refCheckT (o8 q x s t)) else (o8 q x s t, 0)

theorem withT_P (kd : Int) (l : List Fld) (hl : l.length ≤ 100) : PC Tryd.prog 45 [.i kd, .sv (.sl 3 (l.map Fld.c))] (.agg ((foldS kd l).c.map LV.sv)) := by
  refine ⟨LC.of_go Tryd.func45 (c := _) rfl (by kernel_rfl) (by rw [Tryd.ntmps45]; simp) rfl rfl (by simp [LO.lt, LV.lts, LV.lt]) (by simp) ?_⟩
  intro B hA hmd
  refine LGo.seq ?_
  refine LGo.region rfl ?_  -- region 0
  refine R.alloc Z25 (h := ?_)
  refine Reg.nil ⟨fun h => (by cases h), ?_⟩
  refine LGo.seq ?_
  refine LGo.region rfl ?_  -- region 1
  refine R.move (h := ?_)
  refine R.build BF25 (is := [0]) (xs := [_]) (es := [_]) (h := ?_)
  refine R.alloc Z25 (h := ?_)
  refine R.storeA A25 (h := ?_)
  refine Reg.nil ⟨fun h => (by cases h), ?_⟩
  refine LGo.seq ?_
  refine LGo.seq ?_
  refine LGo.region rfl ?_  -- region 2
  refine R.assign (h := ?_)
  refine Reg.nil ⟨fun h => (by cases h), ?_⟩
  refine LGo.block ?_
  refine LGo.loop ?_
  refine LGo.loopG (σ := Nat) (fun x => x ≤ l.length) (fun x => [(6, (true, .i (x : Nat)))]) (fun x => [(0, .box 25 (zeroS.c.map LV.sv)), (1, .box 25 ((foldS kd (l.take x)).c.map LV.sv))]) (fun x => l.length - x) (0) [(1, _), (4, _), (5, _)] (Nat.zero_le _) (by repeat (first | exact trivial | refine ⟨rfl, ?_⟩)) (by repeat (first | exact trivial | refine ⟨rfl, ?_⟩)) (by repeat (first | exact trivial | refine ⟨rfl, ?_⟩)) ?_
  rintro k hk2 ih
  refine LGo.seq ?_
  refine LGo.seq ?_
  refine LGo.region rfl ?_  -- region 3
  refine R.move (h := ?_)
  refine R.move (h := ?_)
  first | refine R.len S55 (h := ?_) | refine R.lenRs S55 (h := ?_) | refine R.lenV (run_lenNil S55) (h := ?_)
  rw [List.length_map]
  refine R.bin (run_lss _ _ _ _ _ _) (h := ?_)
  refine Reg.nil ⟨fun h => (by cases h), ?_⟩
  refine LGo.ifd (ht := fun hc => ?_) (hf := fun hc => ?_)
  · -- then 1
    have hlt : k < l.length := by omega
    have hx : (l.map Fld.c)[((k : Nat) : Int).toNat]? = some l[k].c := by simp [hlt]
    have htk : foldS kd (l.take (k + 1)) = putS (foldS kd (l.take k)) l[k] := by unfold foldS; rw [List.take_succ_eq_append_getElem hlt, List.foldl_append]; rfl
    generalize l[k] = f at hx htk
    generalize foldS kd (l.take k) = rk at *
    unfold putS at htk
    refine LGo.skip ?_
    refine LGo.seq ?_
    refine LGo.block ?_
    refine LGo.seq ?_
    refine LGo.region rfl ?_  -- region 5
    refine R.move (h := ?_)
    refine R.move (h := ?_)
    refine R.index I55 (hj := fun hg => ⟨by omega, hx⟩) (h := ?_)
    first | refine R.loadA A60 (h := ?_) | refine R.loadN A60 (h := ?_)
    refine R.alloc Z60 (h := ?_)
    refine R.storeA A60 (h := ?_)
    refine Reg.nil ⟨fun h => (by cases h), ?_⟩
    refine LGo.seq ?_
    refine LGo.region rfl ?_  -- region 6
    first | refine R.field F60_0 (h := ?_) | refine R.fieldAt F60_0 (h := ?_)
    first | refine R.loadB O3 (h := ?_) | refine R.load1 O3 (h := ?_)
    refine Reg.nil ⟨fun h => (by cases h), ?_⟩
    refine LGo.block ?_
    refine LGo.seq ?_
    refine LGo.region rfl ?_  -- region 7
    refine R.bin (run_eql _ _ _ _ _ _) (h := ?_)
    refine R.assign (h := ?_)
    refine Reg.nil ⟨fun h => (by cases h), ?_⟩
    first | refine LGo.ifd (ht := fun hc2 => ?_) (hf := fun hc2 => ?_) | refine LGo.ifb (ht := fun hc2 => ?_) (hf := fun hc2 => ?_)
    · -- then 2
      rw [if_pos hc2] at htk
      refine LGo.region rfl ?_  -- region 8
      first | refine R.field F60_1 (h := ?_) | refine R.fieldAt F60_1 (h := ?_)
      first | refine R.loadB O22 (h := ?_) | refine R.load1 O22 (h := ?_)
      first | refine R.field F25_1 (h := ?_) | refine R.fieldAt F25_1 (h := ?_)
      refine R.storeB O22 (h := ?_)
      refine Reg.nil ⟨fun h => (by cases h), ?_⟩
      refine LGo.inBlock ?_
      refine LGo.inBlock ?_
      refine LGo.region rfl ?_  -- region 4
      refine R.move (h := ?_)
      first | refine R.add (h := ?_) | refine R.addW (h := ?_)
      refine R.assign (h := ?_)
      refine Reg.nil ⟨fun h => (by cases h), ?_⟩
      refine LGo.inLoop ?_
      exact LGo.next _ (fun o h => by have := (hA o).1 h; omega) (by omega) (ih (k + 1) hlt (by omega)) (by repeat (first | exact trivial | refine ⟨rfl, ?_⟩)) ⟨rfl, by rw [htk]; rfl, trivial⟩
    · -- else 2
      rw [if_neg hc2] at htk
      refine LGo.seq ?_
      refine LGo.region rfl ?_  -- region 9
      refine R.bin (run_eql _ _ _ _ _ _) (h := ?_)
      refine R.assign (h := ?_)
      refine Reg.nil ⟨fun h => (by cases h), ?_⟩
      first | refine LGo.ifd (ht := fun hc3 => ?_) (hf := fun hc3 => ?_) | refine LGo.ifb (ht := fun hc3 => ?_) (hf := fun hc3 => ?_)
      · -- then 3
        rw [if_pos hc3] at htk
        refine LGo.region rfl ?_  -- region 10
        first | refine R.field F60_1 (h := ?_) | refine R.fieldAt F60_1 (h := ?_)
        first | refine R.loadB O22 (h := ?_) | refine R.load1 O22 (h := ?_)
        refine R.convW Tryd.runUnderlying22 Tryd.runUnderlying23 (h := ?_)
        first | refine R.field F25_2 (h := ?_) | refine R.fieldAt F25_2 (h := ?_)
        refine R.storeB O23 (h := ?_)
        refine Reg.nil ⟨fun h => (by cases h), ?_⟩
        refine LGo.inBlock ?_
        refine LGo.inBlock ?_
        refine LGo.region rfl ?_  -- region 4
        refine R.move (h := ?_)
        first | refine R.add (h := ?_) | refine R.addW (h := ?_)
        refine R.assign (h := ?_)
        refine Reg.nil ⟨fun h => (by cases h), ?_⟩
        refine LGo.inLoop ?_
        exact LGo.next _ (fun o h => by have := (hA o).1 h; omega) (by omega) (ih (k + 1) hlt (by omega)) (by repeat (first | exact trivial | refine ⟨rfl, ?_⟩)) ⟨rfl, by rw [htk]; rfl, trivial⟩
      · -- else 3
        rw [if_neg hc3] at htk
        refine LGo.seq ?_
        refine LGo.region rfl ?_  -- region 11
        refine R.bin (run_eql _ _ _ _ _ _) (h := ?_)
        refine R.assign (h := ?_)
        refine Reg.nil ⟨fun h => (by cases h), ?_⟩
        first | refine LGo.ifd (ht := fun hc4 => ?_) (hf := fun hc4 => ?_) | refine LGo.ifb (ht := fun hc4 => ?_) (hf := fun hc4 => ?_)
        · -- then 4
          rw [if_pos hc4] at htk
          refine LGo.region rfl ?_  -- region 12
          first | refine R.field F60_2 (h := ?_) | refine R.fieldAt F60_2 (h := ?_)
          first | refine R.loadB O9 (h := ?_) | refine R.load1 O9 (h := ?_)
          first | refine R.field F25_3 (h := ?_) | refine R.fieldAt F25_3 (h := ?_)
          refine R.storeB O9 (h := ?_)
          refine Reg.nil ⟨fun h => (by cases h), ?_⟩
          refine LGo.inBlock ?_
          refine LGo.inBlock ?_
          refine LGo.region rfl ?_  -- region 4
          refine R.move (h := ?_)
          first | refine R.add (h := ?_) | refine R.addW (h := ?_)
          refine R.assign (h := ?_)
          refine Reg.nil ⟨fun h => (by cases h), ?_⟩
          refine LGo.inLoop ?_
          exact LGo.next _ (fun o h => by have := (hA o).1 h; omega) (by omega) (ih (k + 1) hlt (by omega)) (by repeat (first | exact trivial | refine ⟨rfl, ?_⟩)) ⟨rfl, by rw [htk]; rfl, trivial⟩
        · -- else 4
          rw [if_neg hc4] at htk
          refine LGo.seq ?_
          refine LGo.region rfl ?_  -- region 13
          refine R.bin (run_eql _ _ _ _ _ _) (h := ?_)
          refine R.assign (h := ?_)
          refine Reg.nil ⟨fun h => (by cases h), ?_⟩
          first | refine LGo.ifd (ht := fun hc5 => ?_) (hf := fun hc5 => ?_) | refine LGo.ifb (ht := fun hc5 => ?_) (hf := fun hc5 => ?_)
          · -- then 5
            rw [if_pos hc5] at htk
            refine LGo.region rfl ?_  -- region 14
            first | refine R.field F60_2 (h := ?_) | refine R.fieldAt F60_2 (h := ?_)
            first | refine R.loadB O9 (h := ?_) | refine R.load1 O9 (h := ?_)
            first | refine R.field F25_4 (h := ?_) | refine R.fieldAt F25_4 (h := ?_)
            refine R.storeB O9 (h := ?_)
            refine Reg.nil ⟨fun h => (by cases h), ?_⟩
            refine LGo.inBlock ?_
            refine LGo.inBlock ?_
            refine LGo.region rfl ?_  -- region 4
            refine R.move (h := ?_)
            first | refine R.add (h := ?_) | refine R.addW (h := ?_)
            refine R.assign (h := ?_)
            refine Reg.nil ⟨fun h => (by cases h), ?_⟩
            refine LGo.inLoop ?_
            exact LGo.next _ (fun o h => by have := (hA o).1 h; omega) (by omega) (ih (k + 1) hlt (by omega)) (by repeat (first | exact trivial | refine ⟨rfl, ?_⟩)) ⟨rfl, by rw [htk]; rfl, trivial⟩
          · -- else 5
            rw [if_neg hc5] at htk
            refine LGo.seq ?_
            refine LGo.region rfl ?_  -- region 15
            refine R.bin (run_eql _ _ _ _ _ _) (h := ?_)
            refine R.assign (h := ?_)
            refine Reg.nil ⟨fun h => (by cases h), ?_⟩
            first | refine LGo.ifd (ht := fun hc6 => ?_) (hf := fun hc6 => ?_) | refine LGo.ifb (ht := fun hc6 => ?_) (hf := fun hc6 => ?_)
            · -- then 6
              rw [if_pos hc6] at htk
              refine LGo.region rfl ?_  -- region 16
              first | refine R.field F60_1 (h := ?_) | refine R.fieldAt F60_1 (h := ?_)
              first | refine R.loadB O22 (h := ?_) | refine R.load1 O22 (h := ?_)
              refine R.convW Tryd.runUnderlying22 Tryd.runUnderlying3 (h := ?_)
              first | refine R.field F25_5 (h := ?_) | refine R.fieldAt F25_5 (h := ?_)
              refine R.storeB O3 (h := ?_)
              refine Reg.nil ⟨fun h => (by cases h), ?_⟩
              refine LGo.inBlock ?_
              refine LGo.inBlock ?_
              refine LGo.region rfl ?_  -- region 4
              refine R.move (h := ?_)
              first | refine R.add (h := ?_) | refine R.addW (h := ?_)
              refine R.assign (h := ?_)
              refine Reg.nil ⟨fun h => (by cases h), ?_⟩
              refine LGo.inLoop ?_
              exact LGo.next _ (fun o h => by have := (hA o).1 h; omega) (by omega) (ih (k + 1) hlt (by omega)) (by repeat (first | exact trivial | refine ⟨rfl, ?_⟩)) ⟨rfl, by rw [htk]; rfl, trivial⟩
            · -- else 6
              rw [if_neg hc6] at htk
              refine LGo.seq ?_
              refine LGo.region rfl ?_  -- region 17
              refine R.bin (run_eql _ _ _ _ _ _) (h := ?_)
              refine R.assign (h := ?_)
              refine Reg.nil ⟨fun h => (by cases h), ?_⟩
              first | refine LGo.ifd (ht := fun hc7 => ?_) (hf := fun hc7 => ?_) | refine LGo.ifb (ht := fun hc7 => ?_) (hf := fun hc7 => ?_)
              · -- then 7
                rw [if_pos hc7] at htk
                refine LGo.region rfl ?_  -- region 18
                first | refine R.field F60_1 (h := ?_) | refine R.fieldAt F60_1 (h := ?_)
                first | refine R.loadB O22 (h := ?_) | refine R.load1 O22 (h := ?_)
                refine R.convW Tryd.runUnderlying22 Tryd.runUnderlying3 (h := ?_)
                first | refine R.field F25_6 (h := ?_) | refine R.fieldAt F25_6 (h := ?_)
                refine R.storeB O3 (h := ?_)
                refine Reg.nil ⟨fun h => (by cases h), ?_⟩
                refine LGo.inBlock ?_
                refine LGo.inBlock ?_
                refine LGo.region rfl ?_  -- region 4
                refine R.move (h := ?_)
                first | refine R.add (h := ?_) | refine R.addW (h := ?_)
                refine R.assign (h := ?_)
                refine Reg.nil ⟨fun h => (by cases h), ?_⟩
                refine LGo.inLoop ?_
                exact LGo.next _ (fun o h => by have := (hA o).1 h; omega) (by omega) (ih (k + 1) hlt (by omega)) (by repeat (first | exact trivial | refine ⟨rfl, ?_⟩)) ⟨rfl, by rw [htk]; rfl, trivial⟩
              · -- else 7
                rw [if_neg hc7] at htk
                refine LGo.seq ?_
                refine LGo.region rfl ?_  -- region 19
                refine R.bin (run_eql _ _ _ _ _ _) (h := ?_)
                refine R.assign (h := ?_)
                refine Reg.nil ⟨fun h => (by cases h), ?_⟩
                first | refine LGo.ifd (ht := fun hc8 => ?_) (hf := fun hc8 => ?_) | refine LGo.ifb (ht := fun hc8 => ?_) (hf := fun hc8 => ?_)
                · -- then 8
                  rw [if_pos hc8] at htk
                  refine LGo.region rfl ?_  -- region 20
                  first | refine R.field F60_1 (h := ?_) | refine R.fieldAt F60_1 (h := ?_)
                  first | refine R.loadB O22 (h := ?_) | refine R.load1 O22 (h := ?_)
                  refine R.convW Tryd.runUnderlying22 Tryd.runUnderlying3 (h := ?_)
                  first | refine R.field F25_7 (h := ?_) | refine R.fieldAt F25_7 (h := ?_)
                  refine R.storeB O3 (h := ?_)
                  refine Reg.nil ⟨fun h => (by cases h), ?_⟩
                  refine LGo.inBlock ?_
                  refine LGo.inBlock ?_
                  refine LGo.region rfl ?_  -- region 4
                  refine R.move (h := ?_)
                  first | refine R.add (h := ?_) | refine R.addW (h := ?_)
                  refine R.assign (h := ?_)
                  refine Reg.nil ⟨fun h => (by cases h), ?_⟩
                  refine LGo.inLoop ?_
                  exact LGo.next _ (fun o h => by have := (hA o).1 h; omega) (by omega) (ih (k + 1) hlt (by omega)) (by repeat (first | exact trivial | refine ⟨rfl, ?_⟩)) ⟨rfl, by rw [htk]; rfl, trivial⟩
                · -- else 8
                  rw [if_neg hc8] at htk
                  refine LGo.seq ?_
                  refine LGo.region rfl ?_  -- region 21
                  refine R.bin (run_eql _ _ _ _ _ _) (h := ?_)
                  refine R.assign (h := ?_)
                  refine Reg.nil ⟨fun h => (by cases h), ?_⟩
                  first | refine LGo.ifd (ht := fun hc9 => ?_) (hf := fun hc9 => ?_) | refine LGo.ifb (ht := fun hc9 => ?_) (hf := fun hc9 => ?_)
                  · -- then 9
                    rw [if_pos hc9] at htk
                    refine LGo.region rfl ?_  -- region 22
                    first | refine R.field F60_1 (h := ?_) | refine R.fieldAt F60_1 (h := ?_)
                    first | refine R.loadB O22 (h := ?_) | refine R.load1 O22 (h := ?_)
                    refine R.convW Tryd.runUnderlying22 Tryd.runUnderlying2 (h := ?_)
                    first | refine R.field F25_8 (h := ?_) | refine R.fieldAt F25_8 (h := ?_)
                    refine R.storeB O2 (h := ?_)
                    refine Reg.nil ⟨fun h => (by cases h), ?_⟩
                    refine LGo.inBlock ?_
                    refine LGo.inBlock ?_
                    refine LGo.region rfl ?_  -- region 4
                    refine R.move (h := ?_)
                    first | refine R.add (h := ?_) | refine R.addW (h := ?_)
                    refine R.assign (h := ?_)
                    refine Reg.nil ⟨fun h => (by cases h), ?_⟩
                    refine LGo.inLoop ?_
                    exact LGo.next _ (fun o h => by have := (hA o).1 h; omega) (by omega) (ih (k + 1) hlt (by omega)) (by repeat (first | exact trivial | refine ⟨rfl, ?_⟩)) ⟨rfl, by rw [htk]; rfl, trivial⟩
                  · -- else 9
                    rw [if_neg hc9] at htk
                    refine LGo.skip ?_
                    refine LGo.inBlock ?_
                    refine LGo.inBlock ?_
                    refine LGo.region rfl ?_  -- region 4
                    refine R.move (h := ?_)
                    first | refine R.add (h := ?_) | refine R.addW (h := ?_)
                    refine R.assign (h := ?_)
                    refine Reg.nil ⟨fun h => (by cases h), ?_⟩
                    refine LGo.inLoop ?_
                    exact LGo.next _ (fun o h => by have := (hA o).1 h; omega) (by omega) (ih (k + 1) hlt (by omega)) (by repeat (first | exact trivial | refine ⟨rfl, ?_⟩)) ⟨rfl, by rw [htk]; rfl, trivial⟩
  · -- else 1
    obtain rfl : k = l.length := by omega
    rw [List.take_length]
    refine LGo.exit rfl ?_
    refine LGo.seq ?_
    refine LGo.region rfl ?_  -- region 23
    first | refine R.loadA A25 (h := ?_) | refine R.loadN A25 (h := ?_)
    refine R.storeA A25 (h := ?_)
    refine Reg.nil ⟨fun h => (by cases h), ?_⟩
    exact LGo.ret (ret_A Tryd.results45 A25 hA hmd)

theorem decT_nil : PC Tryd.prog 17 [.sv (.sl 1 (bytesC []))] (.tup [.agg (zeroS.c.map LV.sv), .i 11]) := by
  refine ⟨LC.of_go Tryd.func17 (c := _) rfl (by kernel_rfl) (by rw [Tryd.ntmps17]; simp) rfl rfl (by simp [LO.lt, LV.lts, LV.lt]) (by simp) ?_⟩
  intro B hA hmd
  refine LGo.seq ?_
  refine LGo.region rfl ?_  -- region 0
  refine R.alloc Z25 (h := ?_)
  refine R.assign (h := ?_)
  refine Reg.nil ⟨fun h => (by cases h), ?_⟩
  refine LGo.seq ?_
  refine LGo.seq ?_
  refine LGo.region rfl ?_  -- region 1
  refine R.move (h := ?_)
  first | refine R.len S28 (h := ?_) | refine R.lenRs S28 (h := ?_) | refine R.lenV (run_lenNil S28) (h := ?_)
  rw [show ((bytesC []).length : Int) = 0 from rfl]
  refine R.bin (run_eql _ _ _ _ _ _) (h := ?_)
  refine R.move (h := ?_)
  refine R.move (h := ?_)
  refine R.skip (.v undef) (es := [_, _]) (h := ?_)
  refine R.skip (.y 0) (es := [_]) (h := ?_)
  refine R.skip (.b false) (es := [_, _]) (h := ?_)
  refine R.skip (.b false) (es := [_]) (h := ?_)
  refine R.move (h := ?_)
  refine R.skip (.v undef) (es := [_, _]) (h := ?_)
  refine R.skip (.y 0) (es := [_]) (h := ?_)
  refine R.skip (.i 0) (es := [_]) (h := ?_)
  refine R.skip (.b false) (es := [_, _]) (h := ?_)
  refine R.skip (.b true) (es := [_]) (h := ?_)
  refine R.skip (.b false) (es := [_, _, _]) (h := ?_)
  refine R.or (h := ?_)
  refine Reg.nil ⟨fun h => (by cases h), ?_⟩
  refine LGo.ifb (ht := fun hc => ?_) (hf := fun hc => by simp at hc)
  refine LGo.seq ?_
  refine LGo.region rfl ?_  -- region 2
  refine R.build BF25 (is := []) (xs := []) (es := []) (h := ?_)
  refine R.storeA A25 (h := ?_)
  refine R.assign (h := ?_)
  refine Reg.nil ⟨fun h => (by cases h), ?_⟩
  exact LGo.ret (ret_AT Tryd.results17 A25 hA hmd)

theorem decT_cons (c : UInt8) (rest : List UInt8) (hb : rest.length ≤ 9000) : PC Tryd.prog 17 [.sv (.sl 1 (bytesC (c :: rest)))] (.tup [.agg ((decT (c :: rest)).1.c.map LV.sv), .i (decT (c :: rest)).2]) := by
  refine ⟨LC.of_go Tryd.func17 (c := _) rfl (by kernel_rfl) (by rw [Tryd.ntmps17]; simp) rfl rfl (by simp [LO.lt, LV.lts, LV.lt]) (by simp) ?_⟩
  intro B hA hmd
  have hcl := u8_lt c
  have hcg := u8_ge c
  obtain ⟨g, e0⟩ : ∃ g, decT (c :: rest) = g := ⟨_, rfl⟩
  have e1 := e0
  rw [decT] at e1
  rw [e0]
  refine LGo.seq ?_
  refine LGo.region rfl ?_  -- region 0
  refine R.alloc Z25 (h := ?_)
  refine R.assign (h := ?_)
  refine Reg.nil ⟨fun h => (by cases h), ?_⟩
  refine LGo.seq ?_
  refine LGo.seq ?_
  refine LGo.region rfl ?_  -- region 1
  refine R.move (h := ?_)
  first | refine R.len S28 (h := ?_) | refine R.lenRs S28 (h := ?_) | refine R.lenV (run_lenNil S28) (h := ?_)
  rw [show ((bytesC (c :: rest)).length : Int) = (rest.length : Int) + 1 from by rw [bytesC_length]; simp]
  refine R.bin (run_eql _ _ _ _ _ _) (h := ?_)
  rw [show decide ((rest.length : Int) + 1 = 0) = false from by simp; omega]
  refine R.move (h := ?_)
  refine R.move (h := ?_)
  refine R.index I28 (e := [.val (.int .u8 c.toNat)]) (hj := fun _ => ⟨by decide, rfl⟩) (h := ?_)
  first | refine R.loadB O5 (h := ?_) | refine R.load1 O5 (h := ?_)
  refine R.bin (run_neq _ _ _ _ _ _) (h := ?_)
  refine R.move (h := ?_)
  refine R.move (h := ?_)
  refine R.index I28 (e := [.val (.int .u8 c.toNat)]) (hj := fun _ => ⟨by decide, rfl⟩) (h := ?_)
  first | refine R.loadB O5 (h := ?_) | refine R.load1 O5 (h := ?_)
  first | refine R.convI Tryd.runUnderlying5 Tryd.runUnderlying3 (h := ?_) | refine R.convW Tryd.runUnderlying5 Tryd.runUnderlying3 (h := ?_)
  refine R.callP (es := [_]) (fun _ => askedS_P (c.toNat : Int)) (h := ?_)
  refine R.not (h := ?_)
  refine R.and (hgy := fun h1 h2 => by rw [h2]; rfl) (h := ?_)
  refine R.or (h := ?_)
  refine Reg.nil ⟨fun h => (by cases h), ?_⟩
  refine LGo.ifb (ht := fun hc => ?_) (hf := fun hc => ?_)
  · -- then 1
    rw [if_pos (by simpa using hc)] at e1; rw [← e1]
    refine LGo.seq ?_
    refine LGo.region rfl ?_  -- region 2
    refine R.build BF25 (is := []) (xs := []) (es := []) (h := ?_)
    refine R.storeA A25 (h := ?_)
    refine R.assign (h := ?_)
    refine Reg.nil ⟨fun h => (by cases h), ?_⟩
    exact LGo.ret (ret_AT Tryd.results17 A25 hA hmd)
  · -- else 1
    rw [if_neg (by simpa using hc)] at e1
    refine LGo.skip ?_
    refine LGo.seq ?_
    refine LGo.region rfl ?_  -- region 3
    refine R.move (h := ?_)
    refine R.index I28 (e := [.val (.int .u8 c.toNat)]) (hj := fun _ => ⟨by decide, rfl⟩) (h := ?_)
    first | refine R.loadB O5 (h := ?_) | refine R.load1 O5 (h := ?_)
    first | refine R.convI Tryd.runUnderlying5 Tryd.runUnderlying3 (h := ?_) | refine R.convW Tryd.runUnderlying5 Tryd.runUnderlying3 (h := ?_)
    refine R.assign (h := ?_)
    refine Reg.nil ⟨fun h => (by cases h), ?_⟩
    refine LGo.seq ?_
    refine LGo.seq ?_
    refine LGo.region rfl ?_  -- region 4
    refine R.assign (h := ?_)
    refine Reg.nil ⟨fun h => (by cases h), ?_⟩
    refine LGo.block ?_
    refine LGo.loop ?_
    refine LGo.loopG (σ := Nat × Nat) (fun x => x.1 + x.2 = 2 ∧ goT (c.toNat : Int) rest x.1 x.2 = g) (fun x => [(5, (true, .i (x.2 : Nat)))]) (fun x => [(0, .box 25 (zeroS.c.map LV.sv))]) (fun x => x.1) ((2, 0)) [(0, _), (2, _), (4, _)] ⟨rfl, e1⟩ (by repeat (first | exact trivial | refine ⟨rfl, ?_⟩)) (by repeat (first | exact trivial | refine ⟨rfl, ?_⟩)) (by repeat (first | exact trivial | refine ⟨rfl, ?_⟩)) ?_
    rintro ⟨fu, k⟩ ⟨q1, e1⟩ ih
    dsimp only at * 
    refine LGo.seq ?_
    refine LGo.seq ?_
    refine LGo.region rfl ?_  -- region 5
    refine R.move (h := ?_)
    refine R.bin (run_lss _ _ _ _ _ _) (h := ?_)
    refine Reg.nil ⟨fun h => (by cases h), ?_⟩
    refine LGo.ifd (ht := fun hc2 => ?_) (hf := fun hc2 => ?_)
    · -- then 2
      obtain ⟨f, rfl⟩ : ∃ f, fu = f + 1 := ⟨fu - 1, by omega⟩
      refine LGo.skip ?_
      refine LGo.seq ?_
      refine LGo.block ?_
      refine LGo.seq ?_
      refine LGo.region rfl ?_  -- region 7 DRAWS
      refine R.move (h := ?_)
      refine R.move (h := ?_)
      refine R.bin (run_eql _ _ _ _ _ _) (h := ?_)
      refine R.callP (es := [_, _]) (fun _ => rulesT_P (c.toNat : Int) (decide ((k : Int) = 1))) (h := ?_)
      refine R.move (h := ?_)
      refine R.sliceLo SF28 (ha := fun _ => ⟨by omega, by rw [bytesC_length]; simp; omega⟩) (h := ?_)
      rw [show (bytesC (c :: rest)).drop (Int.toNat 1) = bytesC rest from rfl]
      refine R.callP (es := [_, _]) (fun _ => decodeR_P' (rulesT (c.toNat : Int) (decide ((k : Int) = 1))) rest (by have := rulesT_len (c.toNat : Int) (decide ((k : Int) = 1)); omega) (by omega)) (h := ?_)
      refine R.move (h := ?_)
      refine R.extract (h := ?_)
      refine R.extract (h := ?_)
      refine R.extract (h := ?_)
      refine R.assign (h := ?_)
      refine R.assign (h := ?_)
      refine R.assign (h := ?_)
      refine Reg.nil ⟨fun _ => ⟨mixedO, by rfl, by rfl⟩, ?_⟩
      refine LGo.seq ?_
      refine LGo.seq ?_
      refine LGo.region rfl ?_  -- region 8
      refine R.move (h := ?_)
      refine R.bin (run_neq _ _ _ _ _ _) (h := ?_)
      refine Reg.nil ⟨fun h => (by cases h), ?_⟩
      refine LGo.ifb (ht := fun hc3 => ?_) (hf := fun hc3 => ?_)
      · -- then 3
        rw [goT, if_neg (show ¬ (tryT (c.toNat : Int) (decide ((k : Int) = 1)) rest).2 = true from by rw [show (tryT (c.toNat : Int) (decide ((k : Int) = 1)) rest) = (zeroS, false) from if_neg (by simpa using hc3)]; simp)] at e1
        refine LGo.exit rfl ?_
        refine LGo.region rfl ?_  -- region 6
        refine R.move (h := ?_)
        first | refine R.add (h := ?_) | refine R.addW (h := ?_)
        refine R.assign (h := ?_)
        refine Reg.nil ⟨fun h => (by cases h), ?_⟩
        refine LGo.inLoop ?_
        exact LGo.next _ (fun o h => by have := (hA o).1 h; omega) (by omega) (ih (f, k + 1) ⟨by dsimp only; omega, e1⟩ (by dsimp only; omega)) (by repeat (first | exact trivial | refine ⟨rfl, ?_⟩)) (by repeat (first | exact trivial | refine ⟨rfl, ?_⟩))
      · -- else 3
        have hd : (decode (rulesT (c.toNat : Int) (decide ((k : Int) = 1))) rest).2.2 = 0 := by simpa using hc3
        have hdl := decode_flds hd
        refine LGo.skip ?_
        refine LGo.seq ?_
        refine LGo.region rfl ?_  -- region 9
        refine R.move (h := ?_)
        refine R.move (h := ?_)
        refine R.callP (es := [_, _]) (fun _ => withT_P (c.toNat : Int) (decode (rulesT (c.toNat : Int) (decide ((k : Int) = 1))) rest).1 hdl.1) (h := ?_)
        refine R.alloc Z25 (h := ?_)
        refine R.storeA A25 (h := ?_)
        refine Reg.nil ⟨fun h => (by cases h), ?_⟩
        refine LGo.seq ?_
        refine LGo.region rfl ?_  -- region 10
        first | refine R.field F25_2 (h := ?_) | refine R.fieldAt F25_2 (h := ?_)
        first | refine R.loadB O23 (h := ?_) | refine R.load1 O23 (h := ?_)
        refine R.bin (run_neq _ _ _ _ _ _) (h := ?_)
        refine R.move (h := ?_)
        refine R.bin (run_eql _ _ _ _ _ _) (h := ?_)
        refine R.bin (run_eqlB Tryd.underlying4 _ _ _ _) (h := ?_)
        refine R.move (h := ?_)
        first | refine R.loadA A25 (h := ?_) | refine R.loadN A25 (h := ?_)
        refine R.callP (es := [_]) (fun _ => refCheckT_P (foldS (c.toNat : Int) (decode (rulesT (c.toNat : Int) (decide ((k : Int) = 1))) rest).1) (foldS_ok (byte_R64 c) hdl.2)) (h := ?_)
        refine R.bin (run_eql _ _ _ _ _ _) (h := ?_)
        refine R.and (h := ?_)
        refine Reg.nil ⟨fun h => (by cases h), ?_⟩
        refine LGo.ifb (ht := fun hc4 => ?_) (hf := fun hc4 => ?_)
        · -- then 4
          have ht : (tryT (c.toNat : Int) (decide ((k : Int) = 1)) rest) = ((foldS (c.toNat : Int) (decode (rulesT (c.toNat : Int) (decide ((k : Int) = 1))) rest).1), true) := by rw [tryT, if_pos hd, if_pos hc4]
          rw [goT, if_pos (show (tryT (c.toNat : Int) (decide ((k : Int) = 1)) rest).2 = true from by rw [ht]), ht] at e1
          rw [← e1]
          refine LGo.seq ?_
          refine LGo.region rfl ?_  -- region 11
          first | refine R.loadA A25 (h := ?_) | refine R.loadN A25 (h := ?_)
          refine R.storeA A25 (h := ?_)
          refine R.assign (h := ?_)
          refine Reg.nil ⟨fun h => (by cases h), ?_⟩
          exact LGo.ret (ret_AT Tryd.results17 A25 hA hmd)
        · -- else 4
          rw [goT, if_neg (show ¬ (tryT (c.toNat : Int) (decide ((k : Int) = 1)) rest).2 = true from by rw [show (tryT (c.toNat : Int) (decide ((k : Int) = 1)) rest) = (zeroS, false) from by rw [tryT, if_pos hd, if_neg (by rw [hc4]; simp)]]; simp)] at e1
          refine LGo.skip ?_
          refine LGo.inBlock ?_
          refine LGo.region rfl ?_  -- region 6
          refine R.move (h := ?_)
          first | refine R.add (h := ?_) | refine R.addW (h := ?_)
          refine R.assign (h := ?_)
          refine Reg.nil ⟨fun h => (by cases h), ?_⟩
          refine LGo.inLoop ?_
          exact LGo.next _ (fun o h => by have := (hA o).1 h; omega) (by omega) (ih (f, k + 1) ⟨by dsimp only; omega, e1⟩ (by dsimp only; omega)) (by repeat (first | exact trivial | refine ⟨rfl, ?_⟩)) (by repeat (first | exact trivial | refine ⟨rfl, ?_⟩))
    · -- else 2
      obtain rfl : fu = 0 := by omega
      rw [goT] at e1
      rw [← e1]
      refine LGo.exit rfl ?_
      refine LGo.seq ?_
      refine LGo.region rfl ?_  -- region 12
      refine R.build BF25 (is := []) (xs := []) (es := []) (h := ?_)
      refine R.storeA A25 (h := ?_)
      refine R.assign (h := ?_)
      refine Reg.nil ⟨fun h => (by cases h), ?_⟩
      exact LGo.ret (ret_AT Tryd.results17 A25 hA hmd)

theorem decT_P (b : List UInt8) (hb : b.length ≤ 9000) : PC Tryd.prog 17 [.sv (.sl 1 (bytesC b))] (.tup [.agg ((decT b).1.c.map LV.sv), .i (decT b).2]) := by
  cases b with
  | nil => exact decT_nil
  | cons c rest => exact decT_cons c rest (by simp at hb; omega)

theorem refusedT_P (q : Rq) (hq : RqOk q) (e : Int) : PC Tryd.prog 21 [.agg (q.c.map LV.sv), .i e] (.tup [.agg ((refusedT q e).1.c.map LV.sv), .i (refusedT q e).2]) := by
  refine ⟨LC.of_go Tryd.func21 (c := _) rfl (by kernel_rfl) (by rw [Tryd.ntmps21]; simp) rfl rfl (by simp [LO.lt, LV.lts, LV.lt]) (by simp) ?_⟩
  intro B hA hmd
  obtain ⟨g, e0⟩ : ∃ g, refusedT q e = g := ⟨_, rfl⟩
  have e1 := e0
  unfold refusedT at e1
  rw [e0]
  refine LGo.seq ?_
  refine LGo.region rfl ?_  -- region 0
  refine R.box (h := ?_)
  refine R.alloc Z25 (h := ?_)
  refine R.assign (h := ?_)
  refine Reg.nil ⟨fun h => (by cases h), ?_⟩
  refine LGo.seq ?_
  refine LGo.region rfl ?_  -- region 1
  first | refine R.loadA A37 (h := ?_) | refine R.loadN A37 (h := ?_)
  refine R.callP (es := [_]) (fun _ => refCheckQ_P q hq) (h := ?_)
  refine R.assign (h := ?_)
  refine Reg.nil ⟨fun h => (by cases h), ?_⟩
  refine LGo.seq ?_
  refine LGo.seq ?_
  refine LGo.region rfl ?_  -- region 2
  refine R.move (h := ?_)
  refine R.bin (run_eql _ _ _ _ _ _) (h := ?_)
  refine R.move (h := ?_)
  refine R.move (h := ?_)
  refine R.bin (run_lss _ _ _ _ _ _) (h := ?_)
  refine R.move (h := ?_)
  refine R.move (h := ?_)
  refine R.bin (run_gtr _ _ _ _ _ _) (h := ?_)
  refine R.or (h := ?_)
  refine R.and (h := ?_)
  refine Reg.nil ⟨fun h => (by cases h), ?_⟩
  refine LGo.ifb (ht := fun hc => ?_) (hf := fun hc => ?_)
  · -- then 1
    rw [if_pos hc] at e1
    refine LGo.region rfl ?_  -- region 3
    refine R.assign (h := ?_)
    refine Reg.nil ⟨fun h => (by cases h), ?_⟩
    refine LGo.seq ?_
    refine LGo.seq ?_
    refine LGo.region rfl ?_  -- region 4
    refine R.move (h := ?_)
    refine R.bin (run_neq _ _ _ _ _ _) (h := ?_)
    refine Reg.nil ⟨fun h => (by cases h), ?_⟩
    refine LGo.ifb (ht := fun hc2 => ?_) (hf := fun hc2 => by simp at hc2)
    refine LGo.seq ?_
    refine LGo.region rfl ?_  -- region 5
    refine R.build BF25 (is := []) (xs := []) (es := []) (h := ?_)
    refine R.move (h := ?_)
    refine R.storeA A25 (h := ?_)
    refine R.assign (h := ?_)
    refine Reg.nil ⟨fun h => (by cases h), ?_⟩
    rw [← e1]
    exact LGo.ret (ret_AT Tryd.results21 A25 hA hmd)
  · -- else 1
    rw [if_neg (by rw [hc]; simp)] at e1
    refine LGo.skip ?_
    refine LGo.seq ?_
    refine LGo.seq ?_
    refine LGo.region rfl ?_  -- region 4
    refine R.move (h := ?_)
    refine R.bin (run_neq _ _ _ _ _ _) (h := ?_)
    refine Reg.nil ⟨fun h => (by cases h), ?_⟩
    refine LGo.ifb (ht := fun hc3 => ?_) (hf := fun hc3 => ?_)
    · -- then 3
      rw [if_pos hc3] at e1
      refine LGo.seq ?_
      refine LGo.region rfl ?_  -- region 5
      refine R.build BF25 (is := []) (xs := []) (es := []) (h := ?_)
      refine R.move (h := ?_)
      refine R.storeA A25 (h := ?_)
      refine R.assign (h := ?_)
      refine Reg.nil ⟨fun h => (by cases h), ?_⟩
      rw [← e1]
      exact LGo.ret (ret_AT Tryd.results21 A25 hA hmd)
    · -- else 3
      rw [if_neg (by rw [hc3]; simp)] at e1
      refine LGo.skip ?_
      refine LGo.seq ?_
      refine LGo.region rfl ?_  -- region 6
      first | refine R.field F37_0 (h := ?_) | refine R.fieldAt F37_0 (h := ?_)
      first | refine R.loadB O3 (h := ?_) | refine R.load1 O3 (h := ?_)
      first | refine R.field F37_1 (h := ?_) | refine R.fieldAt F37_1 (h := ?_)
      first | refine R.loadB O22 (h := ?_) | refine R.load1 O22 (h := ?_)
      refine R.move (h := ?_)
      refine R.build BF25 (is := [0, 1, 2]) (xs := [_, _, _]) (es := [_, _, _]) (h := ?_)
      refine R.storeA A25 (h := ?_)
      refine R.assign (h := ?_)
      refine Reg.nil ⟨fun h => (by cases h), ?_⟩
      rw [← e1]
      exact LGo.ret (ret_AT Tryd.results21 A25 hA hmd)

theorem malformedT_P : PC Tryd.prog 23 [] (.agg (({ zeroS with err := 11 } : Rs).c.map LV.sv)) := by
  refine ⟨LC.of_go Tryd.func23 (c := _) rfl (by kernel_rfl) (by rw [Tryd.ntmps23]; simp) rfl rfl (by simp [LO.lt, LV.lts, LV.lt]) (by simp) ?_⟩
  intro B hA hmd
  refine LGo.seq ?_
  refine LGo.region rfl ?_  -- region 0
  refine R.alloc Z25 (h := ?_)
  refine Reg.nil ⟨fun h => (by cases h), ?_⟩
  refine LGo.seq ?_
  refine LGo.region rfl ?_  -- region 1
  refine R.build BF25 (is := [2]) (xs := [_]) (es := [_]) (h := ?_)
  refine R.storeA A25 (h := ?_)
  refine Reg.nil ⟨fun h => (by cases h), ?_⟩
  exact LGo.ret (ret_A Tryd.results23 A25 hA hmd)

theorem ofT_P (q : Rq) (hq : RqOk q) (rp : Mr) (hx : MrOk rp) (s t : List UInt8) (hs : s.length ≤ 1000 ∧ t.length ≤ 1000) : PC Tryd.prog 19 [.agg (q.c.map LV.sv), .agg (rp.c.map LV.sv), .t s, .t t] (.tup [.agg ((ofT q rp s t).1.c.map LV.sv), .i (ofT q rp s t).2]) := by
  refine ⟨LC.of_go Tryd.func19 (c := _) rfl (by kernel_rfl) (by rw [Tryd.ntmps19]; simp) rfl rfl (by simp [LO.lt, LV.lts, LV.lt]) (by simp) ?_⟩
  intro B hA hmd
  obtain ⟨g, e0⟩ : ∃ g, ofT q rp s t = g := ⟨_, rfl⟩
  have e1 := e0
  unfold ofT at e1
  rw [e0]
  refine LGo.seq ?_
  refine LGo.region rfl ?_  -- region 0
  refine R.box (h := ?_)
  refine R.box (h := ?_)
  refine R.alloc Z25 (h := ?_)
  refine R.assign (h := ?_)
  refine Reg.nil ⟨fun h => (by cases h), ?_⟩
  refine LGo.seq ?_
  refine LGo.region rfl ?_  -- region 1
  first | refine R.loadA A37 (h := ?_) | refine R.loadN A37 (h := ?_)
  refine R.callP (es := [_]) (fun _ => refCheckQ_P q hq) (h := ?_)
  refine R.assign (h := ?_)
  refine Reg.nil ⟨fun h => (by cases h), ?_⟩
  refine LGo.seq ?_
  refine LGo.seq ?_
  refine LGo.region rfl ?_  -- region 2
  refine R.move (h := ?_)
  refine R.bin (run_neq _ _ _ _ _ _) (h := ?_)
  refine Reg.nil ⟨fun h => (by cases h), ?_⟩
  refine LGo.ifb (ht := fun hc => ?_) (hf := fun hc => ?_)
  · -- then 1
    rw [if_pos hc] at e1; rw [← e1]
    refine LGo.seq ?_
    refine LGo.region rfl ?_  -- region 3
    refine R.build BF25 (is := []) (xs := []) (es := []) (h := ?_)
    refine R.move (h := ?_)
    refine R.storeA A25 (h := ?_)
    refine R.assign (h := ?_)
    refine Reg.nil ⟨fun h => (by cases h), ?_⟩
    exact LGo.ret (ret_AT Tryd.results19 A25 hA hmd)
  · -- else 1
    rw [if_neg (by rw [hc]; simp)] at e1
    refine LGo.skip ?_
    refine LGo.seq ?_
    refine LGo.seq ?_
    refine LGo.region rfl ?_  -- region 4
    first | refine R.field F41_0 (h := ?_) | refine R.fieldAt F41_0 (h := ?_)
    first | refine R.loadB O23 (h := ?_) | refine R.load1 O23 (h := ?_)
    refine R.bin (run_neq _ _ _ _ _ _) (h := ?_)
    refine Reg.nil ⟨fun h => (by cases h), ?_⟩
    refine LGo.ifb (ht := fun hc2 => ?_) (hf := fun hc2 => ?_)
    · -- then 2
      rw [if_pos hc2] at e1; rw [← e1]
      refine LGo.seq ?_
      refine LGo.region rfl ?_  -- region 5
      first | refine R.loadA A37 (h := ?_) | refine R.loadN A37 (h := ?_)
      first | refine R.field F41_0 (h := ?_) | refine R.fieldAt F41_0 (h := ?_)
      first | refine R.loadB O23 (h := ?_) | refine R.load1 O23 (h := ?_)
      refine R.callP (es := [_, _]) (fun _ => refusedT_P q hq rp.err) (h := ?_)
      refine R.extract (h := ?_)
      refine R.extract (h := ?_)
      refine R.storeA A25 (h := ?_)
      refine R.assign (h := ?_)
      refine Reg.nil ⟨fun h => (by cases h), ?_⟩
      exact LGo.ret (ret_AT Tryd.results19 A25 hA hmd)
    · -- else 2
      rw [if_neg (by rw [hc2]; simp)] at e1
      refine LGo.skip ?_
      refine LGo.seq ?_
      refine LGo.region rfl ?_  -- region 6
      first | refine R.field F37_0 (h := ?_) | refine R.fieldAt F37_0 (h := ?_)
      first | refine R.loadB O3 (h := ?_) | refine R.load1 O3 (h := ?_)
      first | refine R.field F37_1 (h := ?_) | refine R.fieldAt F37_1 (h := ?_)
      first | refine R.loadB O22 (h := ?_) | refine R.load1 O22 (h := ?_)
      refine R.build BF25 (is := [0, 1]) (xs := [_, _]) (es := [_, _]) (h := ?_)
      refine R.alloc Z25 (h := ?_)
      refine R.storeA A25 (h := ?_)
      refine Reg.nil ⟨fun h => (by cases h), ?_⟩
      refine LGo.seq ?_
      refine LGo.seq ?_
      refine LGo.region rfl ?_  -- region 7
      first | refine R.field F37_0 (h := ?_) | refine R.fieldAt F37_0 (h := ?_)
      first | refine R.loadB O3 (h := ?_) | refine R.load1 O3 (h := ?_)
      refine R.callP (es := [_, _, _]) (fun _ => usesS_P q.kind false _) (h := ?_)
      refine Reg.nil ⟨fun h => (by cases h), ?_⟩
      refine LGo.cut (σ := Unit) (fun x => True) (fun x => []) (fun x => [(0, .box 37 (q.c.map LV.sv)), (1, .box 41 (rp.c.map LV.sv)), (2, .box 25 (zeroS.c.map LV.sv)), (3, .box 25 ((o3 q s).c.map LV.sv))]) 4 [(3, _), (4, _), (5, _), (8, _), (11, _)] (by repeat (first | exact trivial | refine ⟨rfl, ?_⟩)) ?_ (fun hcut => ?_)
      · -- the cond C3
        rintro u _
        refine LGo.seq ?_
        refine LGo.seq ?_
        refine LGo.region rfl ?_  -- region 9
        first | refine R.field F37_0 (h := ?_) | refine R.fieldAt F37_0 (h := ?_)
        first | refine R.loadB O3 (h := ?_) | refine R.load1 O3 (h := ?_)
        refine R.callP (es := [_, _, _]) (fun _ => usesS_P q.kind false _) (h := ?_)
        refine Reg.nil ⟨fun h => (by cases h), ?_⟩
        refine LGo.cut (σ := Unit) (fun x => True) (fun x => []) (fun x => [(0, .box 37 (q.c.map LV.sv)), (1, .box 41 (rp.c.map LV.sv)), (2, .box 25 (zeroS.c.map LV.sv)), (3, .box 25 ((o4 q s t).c.map LV.sv))]) 4 [(4, _), (5, _), (8, _), (11, _)] (by repeat (first | exact trivial | refine ⟨rfl, ?_⟩)) ?_ (fun hcut => ?_)
        · -- the cond C4
          rintro u _
          refine LGo.seq ?_
          refine LGo.seq ?_
          refine LGo.region rfl ?_  -- region 11
          first | refine R.field F37_0 (h := ?_) | refine R.fieldAt F37_0 (h := ?_)
          first | refine R.loadB O3 (h := ?_) | refine R.load1 O3 (h := ?_)
          refine R.callP (es := [_, _, _]) (fun _ => usesS_P q.kind false _) (h := ?_)
          refine Reg.nil ⟨fun h => (by cases h), ?_⟩
          refine LGo.cut (σ := Unit) (fun x => True) (fun x => []) (fun x => [(0, .box 37 (q.c.map LV.sv)), (1, .box 41 (rp.c.map LV.sv)), (2, .box 25 (zeroS.c.map LV.sv)), (3, .box 25 ((o5 q rp s t).c.map LV.sv))]) 4 [(4, _), (5, _), (8, _), (11, _)] (by repeat (first | exact trivial | refine ⟨rfl, ?_⟩)) ?_ (fun hcut => ?_)
          · -- the cond C5
            rintro u _
            refine LGo.seq ?_
            refine LGo.seq ?_
            refine LGo.region rfl ?_  -- region 13
            first | refine R.field F37_0 (h := ?_) | refine R.fieldAt F37_0 (h := ?_)
            first | refine R.loadB O3 (h := ?_) | refine R.load1 O3 (h := ?_)
            refine R.callP (es := [_, _, _]) (fun _ => usesS_P q.kind false _) (h := ?_)
            refine Reg.nil ⟨fun h => (by cases h), ?_⟩
            refine LGo.cut (σ := Unit) (fun x => True) (fun x => []) (fun x => [(0, .box 37 (q.c.map LV.sv)), (1, .box 41 (rp.c.map LV.sv)), (2, .box 25 (zeroS.c.map LV.sv)), (3, .box 25 ((o6 q rp s t).c.map LV.sv))]) 4 [(4, _), (5, _), (8, _), (11, _)] (by repeat (first | exact trivial | refine ⟨rfl, ?_⟩)) ?_ (fun hcut => ?_)
            · -- the cond C6
              rintro u _
              refine LGo.seq ?_
              refine LGo.seq ?_
              refine LGo.region rfl ?_  -- region 15
              first | refine R.field F37_0 (h := ?_) | refine R.fieldAt F37_0 (h := ?_)
              first | refine R.loadB O3 (h := ?_) | refine R.load1 O3 (h := ?_)
              refine R.callP (es := [_, _, _]) (fun _ => usesS_P q.kind false _) (h := ?_)
              refine Reg.nil ⟨fun h => (by cases h), ?_⟩
              refine LGo.cut (σ := Unit) (fun x => True) (fun x => []) (fun x => [(0, .box 37 (q.c.map LV.sv)), (1, .box 41 (rp.c.map LV.sv)), (2, .box 25 (zeroS.c.map LV.sv)), (3, .box 25 ((o7 q rp s t).c.map LV.sv))]) 4 [(4, _), (5, _), (8, _), (11, _)] (by repeat (first | exact trivial | refine ⟨rfl, ?_⟩)) ?_ (fun hcut => ?_)
              · -- the cond C7
                rintro u _
                refine LGo.seq ?_
                refine LGo.seq ?_
                refine LGo.region rfl ?_  -- region 17
                first | refine R.field F37_0 (h := ?_) | refine R.fieldAt F37_0 (h := ?_)
                first | refine R.loadB O3 (h := ?_) | refine R.load1 O3 (h := ?_)
                refine R.callP (es := [_, _, _]) (fun _ => usesS_P q.kind false _) (h := ?_)
                refine Reg.nil ⟨fun h => (by cases h), ?_⟩
                refine LGo.cut (σ := Unit) (fun x => True) (fun x => []) (fun x => [(0, .box 37 (q.c.map LV.sv)), (1, .box 41 (rp.c.map LV.sv)), (2, .box 25 (zeroS.c.map LV.sv)), (3, .box 25 ((o8 q rp s t).c.map LV.sv))]) 4 [(8, _), (11, _)] (by repeat (first | exact trivial | refine ⟨rfl, ?_⟩)) ?_ (fun hcut => ?_)
                · -- the cond C8
                  rintro u _
                  refine LGo.seq ?_
                  refine LGo.region rfl ?_  -- region 19
                  first | refine R.loadA A25 (h := ?_) | refine R.loadN A25 (h := ?_)
                  refine R.callP (es := [_]) (fun _ => refCheckT_P (o8 q rp s t) (o8_ok hq hx ⟨by unfold maxLen; omega, by unfold maxLen; omega⟩)) (h := ?_)
                  refine R.assign (h := ?_)
                  refine Reg.nil ⟨fun h => (by cases h), ?_⟩
                  refine LGo.seq ?_
                  refine LGo.seq ?_
                  refine LGo.region rfl ?_  -- region 20
                  refine R.move (h := ?_)
                  refine R.bin (run_neq _ _ _ _ _ _) (h := ?_)
                  refine Reg.nil ⟨fun h => (by cases h), ?_⟩
                  refine LGo.ifb (ht := fun hc9 => ?_) (hf := fun hc9 => ?_)
                  · -- then 9
                    rw [if_pos hc9] at e1; rw [← e1]
                    refine LGo.seq ?_
                    refine LGo.region rfl ?_  -- region 21
                    refine R.build BF25 (is := []) (xs := []) (es := []) (h := ?_)
                    refine R.move (h := ?_)
                    refine R.storeA A25 (h := ?_)
                    refine R.assign (h := ?_)
                    refine Reg.nil ⟨fun h => (by cases h), ?_⟩
                    exact LGo.ret (ret_AT Tryd.results19 A25 hA hmd)
                  · -- else 9
                    rw [if_neg (by rw [hc9]; simp)] at e1; rw [← e1]
                    refine LGo.skip ?_
                    refine LGo.seq ?_
                    refine LGo.region rfl ?_  -- region 22
                    first | refine R.loadA A25 (h := ?_) | refine R.loadN A25 (h := ?_)
                    refine R.storeA A25 (h := ?_)
                    refine R.assign (h := ?_)
                    refine Reg.nil ⟨fun h => (by cases h), ?_⟩
                    exact LGo.ret (ret_AT Tryd.results19 A25 hA hmd)
                · -- the ways of C8
                  refine LGo.ifb (ht := fun hc8 => ?_) (hf := fun hc8 => ?_)
                  · -- then 8
                    refine LGo.region rfl ?_  -- region 18
                    first | refine R.field F41_3 (h := ?_) | refine R.fieldAt F41_3 (h := ?_)
                    first | refine R.loadB O2 (h := ?_) | refine R.load1 O2 (h := ?_)
                    first | refine R.field F25_8 (h := ?_) | refine R.fieldAt F25_8 (h := ?_)
                    refine R.storeB O2 (h := ?_)
                    refine Reg.nil ⟨fun h => (by cases h), ?_⟩
                    exact LGo.next _ (fun o h => by have := (hA o).1 h; omega) (by omega) (hcut () trivial) (by repeat (first | exact trivial | refine ⟨rfl, ?_⟩)) ⟨rfl, rfl, rfl, by rw [show o8 q rp s t = _ from if_pos hc8]; rfl, trivial⟩
                  · -- else 8
                    refine LGo.skip ?_
                    exact LGo.next _ (fun o h => by have := (hA o).1 h; omega) (by omega) (hcut () trivial) (by repeat (first | exact trivial | refine ⟨rfl, ?_⟩)) ⟨rfl, rfl, rfl, by rw [show o8 q rp s t = _ from if_neg (by rw [hc8]; simp)]; rfl, trivial⟩
              · -- the ways of C7
                refine LGo.ifb (ht := fun hc7 => ?_) (hf := fun hc7 => ?_)
                · -- then 7
                  refine LGo.region rfl ?_  -- region 16
                  first | refine R.field F41_5 (h := ?_) | refine R.fieldAt F41_5 (h := ?_)
                  first | refine R.loadB O3 (h := ?_) | refine R.load1 O3 (h := ?_)
                  first | refine R.field F25_7 (h := ?_) | refine R.fieldAt F25_7 (h := ?_)
                  refine R.storeB O3 (h := ?_)
                  refine Reg.nil ⟨fun h => (by cases h), ?_⟩
                  exact LGo.next _ (fun o h => by have := (hA o).1 h; omega) (by omega) (hcut () trivial) (by repeat (first | exact trivial | refine ⟨rfl, ?_⟩)) ⟨rfl, rfl, rfl, by rw [show o7 q rp s t = _ from if_pos hc7]; rfl, trivial⟩
                · -- else 7
                  refine LGo.skip ?_
                  exact LGo.next _ (fun o h => by have := (hA o).1 h; omega) (by omega) (hcut () trivial) (by repeat (first | exact trivial | refine ⟨rfl, ?_⟩)) ⟨rfl, rfl, rfl, by rw [show o7 q rp s t = _ from if_neg (by rw [hc7]; simp)]; rfl, trivial⟩
            · -- the ways of C6
              refine LGo.ifb (ht := fun hc6 => ?_) (hf := fun hc6 => ?_)
              · -- then 6
                refine LGo.region rfl ?_  -- region 14
                first | refine R.field F41_2 (h := ?_) | refine R.fieldAt F41_2 (h := ?_)
                first | refine R.loadB O3 (h := ?_) | refine R.load1 O3 (h := ?_)
                first | refine R.field F25_6 (h := ?_) | refine R.fieldAt F25_6 (h := ?_)
                refine R.storeB O3 (h := ?_)
                refine Reg.nil ⟨fun h => (by cases h), ?_⟩
                exact LGo.next _ (fun o h => by have := (hA o).1 h; omega) (by omega) (hcut () trivial) (by repeat (first | exact trivial | refine ⟨rfl, ?_⟩)) ⟨rfl, rfl, rfl, by rw [show o6 q rp s t = _ from if_pos hc6]; rfl, trivial⟩
              · -- else 6
                refine LGo.skip ?_
                exact LGo.next _ (fun o h => by have := (hA o).1 h; omega) (by omega) (hcut () trivial) (by repeat (first | exact trivial | refine ⟨rfl, ?_⟩)) ⟨rfl, rfl, rfl, by rw [show o6 q rp s t = _ from if_neg (by rw [hc6]; simp)]; rfl, trivial⟩
          · -- the ways of C5
            refine LGo.ifb (ht := fun hc5 => ?_) (hf := fun hc5 => ?_)
            · -- then 5
              refine LGo.region rfl ?_  -- region 12
              first | refine R.field F41_1 (h := ?_) | refine R.fieldAt F41_1 (h := ?_)
              first | refine R.loadB O3 (h := ?_) | refine R.load1 O3 (h := ?_)
              first | refine R.field F25_5 (h := ?_) | refine R.fieldAt F25_5 (h := ?_)
              refine R.storeB O3 (h := ?_)
              refine Reg.nil ⟨fun h => (by cases h), ?_⟩
              exact LGo.next _ (fun o h => by have := (hA o).1 h; omega) (by omega) (hcut () trivial) (by repeat (first | exact trivial | refine ⟨rfl, ?_⟩)) ⟨rfl, rfl, rfl, by rw [show o5 q rp s t = _ from if_pos hc5]; rfl, trivial⟩
            · -- else 5
              refine LGo.skip ?_
              exact LGo.next _ (fun o h => by have := (hA o).1 h; omega) (by omega) (hcut () trivial) (by repeat (first | exact trivial | refine ⟨rfl, ?_⟩)) ⟨rfl, rfl, rfl, by rw [show o5 q rp s t = _ from if_neg (by rw [hc5]; simp)]; rfl, trivial⟩
        · -- the ways of C4
          refine LGo.ifb (ht := fun hc4 => ?_) (hf := fun hc4 => ?_)
          · -- then 4
            refine LGo.region rfl ?_  -- region 10
            refine R.move (h := ?_)
            first | refine R.field F25_4 (h := ?_) | refine R.fieldAt F25_4 (h := ?_)
            refine R.storeB O9 (h := ?_)
            refine Reg.nil ⟨fun h => (by cases h), ?_⟩
            exact LGo.next _ (fun o h => by have := (hA o).1 h; omega) (by omega) (hcut () trivial) (by repeat (first | exact trivial | refine ⟨rfl, ?_⟩)) ⟨rfl, rfl, rfl, by rw [show o4 q s t = _ from if_pos hc4]; rfl, trivial⟩
          · -- else 4
            refine LGo.skip ?_
            exact LGo.next _ (fun o h => by have := (hA o).1 h; omega) (by omega) (hcut () trivial) (by repeat (first | exact trivial | refine ⟨rfl, ?_⟩)) ⟨rfl, rfl, rfl, by rw [show o4 q s t = _ from if_neg (by rw [hc4]; simp)]; rfl, trivial⟩
      · -- the ways of C3
        refine LGo.ifb (ht := fun hc3 => ?_) (hf := fun hc3 => ?_)
        · -- then 3
          refine LGo.region rfl ?_  -- region 8
          refine R.move (h := ?_)
          first | refine R.field F25_3 (h := ?_) | refine R.fieldAt F25_3 (h := ?_)
          refine R.storeB O9 (h := ?_)
          refine Reg.nil ⟨fun h => (by cases h), ?_⟩
          exact LGo.next _ (fun o h => by have := (hA o).1 h; omega) (by omega) (hcut () trivial) (by repeat (first | exact trivial | refine ⟨rfl, ?_⟩)) ⟨rfl, rfl, rfl, by rw [show o3 q s = _ from if_pos hc3]; rfl, trivial⟩
        · -- else 3
          refine LGo.skip ?_
          exact LGo.next _ (fun o h => by have := (hA o).1 h; omega) (by omega) (hcut () trivial) (by repeat (first | exact trivial | refine ⟨rfl, ?_⟩)) ⟨rfl, rfl, rfl, by rw [show o3 q s = _ from if_neg (by rw [hc3]; simp)]; rfl, trivial⟩

end Go.Proofs.YtcobkjognpjikaaDoor
