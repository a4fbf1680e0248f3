/- requests: fields into a request; Encode, Decode, Needs. -/
import Derived.Test.YtckbomkcnmcdaaaGreatDoorPQ
import Derived.Test.YtckbomkcnmcdaaaGreatDoorFE
set_option linter.unusedSimpArgs false
set_option linter.unusedVariables false
namespace Go.Proofs.YtckbomkcnmcdaaaGreatDoor

abbrev zeroQ : Rq := ⟨0, 0, 0, 0, [], [], 0, 0, 0, 0⟩
def putQ (r : Rq) (f : Fld) : Rq := if f.tag = 1 then { r with id := f.num } else if f.tag = 2 then { r with owner := IntKind.u32.wrap f.num } else if f.tag = 3 then { r with ses := f.txt } else if f.tag = 4 then { r with tic := f.txt } else if f.tag = 5 then { r with seat := IntKind.i64.wrap f.num }
  else if f.tag = 6 then { r with sec := IntKind.i64.wrap f.num } else if f.tag = 7 then { r with n := IntKind.i64.wrap f.num } else if f.tag = 8 then { r with to := IntKind.u32.wrap f.num } else if f.tag = 9 then { r with gate := IntKind.i64.wrap f.num } else r
def foldQ (r : Rq) (l : List Fld) : Rq := l.foldl putQ r

theorem putQ_P (r : Rq) (l : List Fld) (hl : l.length ≤ 100) : PC Tryz.prog 43 [.agg (r.c.map LV.sv), .sv (.sl 3 (l.map Fld.c))] (.agg ((foldQ r l).c.map LV.sv)) := by
 refine ⟨LC.of_go Tryz.func43 (c := _) rfl (by kernel_rfl) (by rw [Tryz.ntmps43]; simp) rfl rfl (by simp [LO.lt, LV.lts, LV.lt]) (by simp) ?_⟩
 intro B hA hmd
 refine .seq ?_
 refine .region rfl ?_
 refine R.box (h := ?_)
 refine R.alloc Z35 (h := ?_)
 refine .n0 ?_
 refine .seq ?_
 refine .seq ?_
 refine .region rfl ?_
 refine R.move (h := ?_)
 first | refine R.len S66 (h := ?_) | refine R.lenRs S66 (h := ?_) | refine R.lenV (run_lenNil S66) (h := ?_)
 rw [List.length_map]
 refine R.move (h := ?_)
 refine .n0 ?_
 refine .block ?_
 refine .loop ?_
 refine LGo.loopG (σ := Nat) (fun x => x ≤ l.length) (fun x => [(9, (true, .i (x : Nat)))]) (fun x => [(0, .box 35 ((foldQ r (l.take x)).c.map LV.sv)), (1, .box 35 (zeroQ.c.map LV.sv))]) (fun x => l.length - x) (0) [(2, _), (4, _), (7, _), (8, _)] (Nat.zero_le _) (by repeat (first | exact trivial | refine ⟨rfl, ?_⟩)) (by repeat (first | exact trivial | refine ⟨rfl, ?_⟩)) (by repeat (first | exact trivial | refine ⟨rfl, ?_⟩)) ?_
 rintro k hk2 ih
 refine .seq ?_
 refine .region rfl ?_
 refine R.bin (run_lss _ _ _ _ _ _) (h := ?_)
 refine .n0 ?_
 refine .seq ?_
 refine LGo.ifd (ht := fun hc => ?_) (hf := fun hc => ?_)
 ·
  have hlt : k < l.length := by omega
  have hx : (l.map Fld.c)[((k : Nat) : Int).toNat]? = some l[k].c := by simp [hlt]
  have htk : foldQ r (l.take (k + 1)) = putQ (foldQ r (l.take k)) l[k] := by unfold foldQ; rw [List.take_succ_eq_append_getElem hlt, List.foldl_append]; rfl
  generalize l[k] = f at hx htk
  generalize foldQ r (l.take k) = rk at htk ⊢
  obtain ⟨rn, hrn⟩ : ∃ rn, putQ rk f = rn := ⟨_, rfl⟩
  rw [hrn] at htk
  unfold putQ at hrn
  refine .skip ?_
  refine .seq ?_
  refine .block ?_
  refine .seq ?_
  refine .region rfl ?_
  refine R.index I66 (hj := fun hg => ⟨by omega, hx⟩) (h := ?_)
  first | refine R.loadA A78 (h := ?_) | refine R.loadN A78 (h := ?_) | refine R.loadP A78 (h := ?_)
  refine R.alloc Z78 (h := ?_)
  refine R.storeA A78 (h := ?_)
  refine .n0 ?_
  refine .seq ?_
  refine .region rfl ?_
  first | refine R.field F78_0 (h := ?_) | refine R.fieldAt F78_0 (h := ?_)
  first | refine R.loadB O3 (h := ?_) | refine R.load1 O3 (h := ?_)
  refine .n0 ?_
  refine .block ?_
  refine .seq ?_
  refine .region rfl ?_
  refine R.bin (run_eql _ _ _ _ _ _) (h := ?_)
  refine R.assign (h := ?_)
  refine .n0 ?_
  refine LGo.ifd (ht := fun hc2 => ?_) (hf := fun hc2 => ?_)
  ·
   rw [if_pos hc2] at hrn
   subst hrn
   refine .region rfl ?_
   first | refine R.field F78_1 (h := ?_) | refine R.fieldAt F78_1 (h := ?_)
   first | refine R.loadB O28 (h := ?_) | refine R.load1 O28 (h := ?_)
   first | refine R.field F35_1 (h := ?_) | refine R.fieldAt F35_1 (h := ?_)
   refine R.storeB O28 (h := ?_)
   refine .n0 ?_
   refine .inBlock ?_
   refine .inBlock ?_
   refine .region rfl ?_
   first | refine R.add (h := ?_) | refine R.addW (h := ?_)
   refine R.move (h := ?_)
   refine .n0 ?_
   refine .inLoop ?_
   exact LGo.next _ (fun o h => by have := (hA o).1 h; omega) (by omega) (ih (k + 1) hlt (by omega)) (by repeat (first | exact trivial | refine ⟨rfl, ?_⟩)) ⟨by rw [htk]; rfl, rfl, trivial⟩
  ·
   rw [if_neg hc2] at hrn
   refine .seq ?_
   refine .region rfl ?_
   refine R.bin (run_eql _ _ _ _ _ _) (h := ?_)
   refine R.assign (h := ?_)
   refine .n0 ?_
   refine LGo.ifd (ht := fun hc3 => ?_) (hf := fun hc3 => ?_)
   ·
    rw [if_pos hc3] at hrn
    subst hrn
    refine .region rfl ?_
    first | refine R.field F78_1 (h := ?_) | refine R.fieldAt F78_1 (h := ?_)
    first | refine R.loadB O28 (h := ?_) | refine R.load1 O28 (h := ?_)
    refine R.convW Tryz.runUnderlying28 Tryz.runUnderlying33 (h := ?_)
    first | refine R.field F35_2 (h := ?_) | refine R.fieldAt F35_2 (h := ?_)
    refine R.storeB O33 (h := ?_)
    refine .n0 ?_
    refine .inBlock ?_
    refine .inBlock ?_
    refine .region rfl ?_
    first | refine R.add (h := ?_) | refine R.addW (h := ?_)
    refine R.move (h := ?_)
    refine .n0 ?_
    refine .inLoop ?_
    exact LGo.next _ (fun o h => by have := (hA o).1 h; omega) (by omega) (ih (k + 1) hlt (by omega)) (by repeat (first | exact trivial | refine ⟨rfl, ?_⟩)) ⟨by rw [htk]; rfl, rfl, trivial⟩
   ·
    rw [if_neg hc3] at hrn
    refine .seq ?_
    refine .region rfl ?_
    refine R.bin (run_eql _ _ _ _ _ _) (h := ?_)
    refine R.assign (h := ?_)
    refine .n0 ?_
    refine LGo.ifd (ht := fun hc4 => ?_) (hf := fun hc4 => ?_)
    ·
     rw [if_pos hc4] at hrn
     subst hrn
     refine .region rfl ?_
     first | refine R.field F78_2 (h := ?_) | refine R.fieldAt F78_2 (h := ?_)
     first | refine R.loadB O9 (h := ?_) | refine R.load1 O9 (h := ?_)
     first | refine R.field F35_4 (h := ?_) | refine R.fieldAt F35_4 (h := ?_)
     refine R.storeB O9 (h := ?_)
     refine .n0 ?_
     refine .inBlock ?_
     refine .inBlock ?_
     refine .region rfl ?_
     first | refine R.add (h := ?_) | refine R.addW (h := ?_)
     refine R.move (h := ?_)
     refine .n0 ?_
     refine .inLoop ?_
     exact LGo.next _ (fun o h => by have := (hA o).1 h; omega) (by omega) (ih (k + 1) hlt (by omega)) (by repeat (first | exact trivial | refine ⟨rfl, ?_⟩)) ⟨by rw [htk]; rfl, rfl, trivial⟩
    ·
     rw [if_neg hc4] at hrn
     refine .seq ?_
     refine .region rfl ?_
     refine R.bin (run_eql _ _ _ _ _ _) (h := ?_)
     refine R.assign (h := ?_)
     refine .n0 ?_
     refine LGo.ifd (ht := fun hc5 => ?_) (hf := fun hc5 => ?_)
     ·
      rw [if_pos hc5] at hrn
      subst hrn
      refine .region rfl ?_
      first | refine R.field F78_2 (h := ?_) | refine R.fieldAt F78_2 (h := ?_)
      first | refine R.loadB O9 (h := ?_) | refine R.load1 O9 (h := ?_)
      first | refine R.field F35_5 (h := ?_) | refine R.fieldAt F35_5 (h := ?_)
      refine R.storeB O9 (h := ?_)
      refine .n0 ?_
      refine .inBlock ?_
      refine .inBlock ?_
      refine .region rfl ?_
      first | refine R.add (h := ?_) | refine R.addW (h := ?_)
      refine R.move (h := ?_)
      refine .n0 ?_
      refine .inLoop ?_
      exact LGo.next _ (fun o h => by have := (hA o).1 h; omega) (by omega) (ih (k + 1) hlt (by omega)) (by repeat (first | exact trivial | refine ⟨rfl, ?_⟩)) ⟨by rw [htk]; rfl, rfl, trivial⟩
     ·
      rw [if_neg hc5] at hrn
      refine .seq ?_
      refine .region rfl ?_
      refine R.bin (run_eql _ _ _ _ _ _) (h := ?_)
      refine R.assign (h := ?_)
      refine .n0 ?_
      refine LGo.ifd (ht := fun hc6 => ?_) (hf := fun hc6 => ?_)
      ·
       rw [if_pos hc6] at hrn
       subst hrn
       refine .region rfl ?_
       first | refine R.field F78_1 (h := ?_) | refine R.fieldAt F78_1 (h := ?_)
       first | refine R.loadB O28 (h := ?_) | refine R.load1 O28 (h := ?_)
       refine R.convW Tryz.runUnderlying28 Tryz.runUnderlying3 (h := ?_)
       first | refine R.field F35_6 (h := ?_) | refine R.fieldAt F35_6 (h := ?_)
       refine R.storeB O3 (h := ?_)
       refine .n0 ?_
       refine .inBlock ?_
       refine .inBlock ?_
       refine .region rfl ?_
       first | refine R.add (h := ?_) | refine R.addW (h := ?_)
       refine R.move (h := ?_)
       refine .n0 ?_
       refine .inLoop ?_
       exact LGo.next _ (fun o h => by have := (hA o).1 h; omega) (by omega) (ih (k + 1) hlt (by omega)) (by repeat (first | exact trivial | refine ⟨rfl, ?_⟩)) ⟨by rw [htk]; rfl, rfl, trivial⟩
      ·
       rw [if_neg hc6] at hrn
       refine .seq ?_
       refine .region rfl ?_
       refine R.bin (run_eql _ _ _ _ _ _) (h := ?_)
       refine R.assign (h := ?_)
       refine .n0 ?_
       refine LGo.ifd (ht := fun hc7 => ?_) (hf := fun hc7 => ?_)
       ·
        rw [if_pos hc7] at hrn
        subst hrn
        refine .region rfl ?_
        first | refine R.field F78_1 (h := ?_) | refine R.fieldAt F78_1 (h := ?_)
        first | refine R.loadB O28 (h := ?_) | refine R.load1 O28 (h := ?_)
        refine R.convW Tryz.runUnderlying28 Tryz.runUnderlying3 (h := ?_)
        first | refine R.field F35_7 (h := ?_) | refine R.fieldAt F35_7 (h := ?_)
        refine R.storeB O3 (h := ?_)
        refine .n0 ?_
        refine .inBlock ?_
        refine .inBlock ?_
        refine .region rfl ?_
        first | refine R.add (h := ?_) | refine R.addW (h := ?_)
        refine R.move (h := ?_)
        refine .n0 ?_
        refine .inLoop ?_
        exact LGo.next _ (fun o h => by have := (hA o).1 h; omega) (by omega) (ih (k + 1) hlt (by omega)) (by repeat (first | exact trivial | refine ⟨rfl, ?_⟩)) ⟨by rw [htk]; rfl, rfl, trivial⟩
       ·
        rw [if_neg hc7] at hrn
        refine .seq ?_
        refine .region rfl ?_
        refine R.bin (run_eql _ _ _ _ _ _) (h := ?_)
        refine R.assign (h := ?_)
        refine .n0 ?_
        refine LGo.ifd (ht := fun hc8 => ?_) (hf := fun hc8 => ?_)
        ·
         rw [if_pos hc8] at hrn
         subst hrn
         refine .region rfl ?_
         first | refine R.field F78_1 (h := ?_) | refine R.fieldAt F78_1 (h := ?_)
         first | refine R.loadB O28 (h := ?_) | refine R.load1 O28 (h := ?_)
         refine R.convW Tryz.runUnderlying28 Tryz.runUnderlying3 (h := ?_)
         first | refine R.field F35_8 (h := ?_) | refine R.fieldAt F35_8 (h := ?_)
         refine R.storeB O3 (h := ?_)
         refine .n0 ?_
         refine .inBlock ?_
         refine .inBlock ?_
         refine .region rfl ?_
         first | refine R.add (h := ?_) | refine R.addW (h := ?_)
         refine R.move (h := ?_)
         refine .n0 ?_
         refine .inLoop ?_
         exact LGo.next _ (fun o h => by have := (hA o).1 h; omega) (by omega) (ih (k + 1) hlt (by omega)) (by repeat (first | exact trivial | refine ⟨rfl, ?_⟩)) ⟨by rw [htk]; rfl, rfl, trivial⟩
        ·
         rw [if_neg hc8] at hrn
         refine .seq ?_
         refine .region rfl ?_
         refine R.bin (run_eql _ _ _ _ _ _) (h := ?_)
         refine R.assign (h := ?_)
         refine .n0 ?_
         refine LGo.ifd (ht := fun hc9 => ?_) (hf := fun hc9 => ?_)
         ·
          rw [if_pos hc9] at hrn
          subst hrn
          refine .region rfl ?_
          first | refine R.field F78_1 (h := ?_) | refine R.fieldAt F78_1 (h := ?_)
          first | refine R.loadB O28 (h := ?_) | refine R.load1 O28 (h := ?_)
          refine R.convW Tryz.runUnderlying28 Tryz.runUnderlying33 (h := ?_)
          first | refine R.field F35_3 (h := ?_) | refine R.fieldAt F35_3 (h := ?_)
          refine R.storeB O33 (h := ?_)
          refine .n0 ?_
          refine .inBlock ?_
          refine .inBlock ?_
          refine .region rfl ?_
          first | refine R.add (h := ?_) | refine R.addW (h := ?_)
          refine R.move (h := ?_)
          refine .n0 ?_
          refine .inLoop ?_
          exact LGo.next _ (fun o h => by have := (hA o).1 h; omega) (by omega) (ih (k + 1) hlt (by omega)) (by repeat (first | exact trivial | refine ⟨rfl, ?_⟩)) ⟨by rw [htk]; rfl, rfl, trivial⟩
         ·
          rw [if_neg hc9] at hrn
          refine .seq ?_
          refine .region rfl ?_
          refine R.bin (run_eql _ _ _ _ _ _) (h := ?_)
          refine R.assign (h := ?_)
          refine .n0 ?_
          refine LGo.ifd (ht := fun hc10 => ?_) (hf := fun hc10 => ?_)
          ·
           rw [if_pos hc10] at hrn
           subst hrn
           refine .region rfl ?_
           first | refine R.field F78_1 (h := ?_) | refine R.fieldAt F78_1 (h := ?_)
           first | refine R.loadB O28 (h := ?_) | refine R.load1 O28 (h := ?_)
           refine R.convW Tryz.runUnderlying28 Tryz.runUnderlying3 (h := ?_)
           first | refine R.field F35_9 (h := ?_) | refine R.fieldAt F35_9 (h := ?_)
           refine R.storeB O3 (h := ?_)
           refine .n0 ?_
           refine .inBlock ?_
           refine .inBlock ?_
           refine .region rfl ?_
           first | refine R.add (h := ?_) | refine R.addW (h := ?_)
           refine R.move (h := ?_)
           refine .n0 ?_
           refine .inLoop ?_
           exact LGo.next _ (fun o h => by have := (hA o).1 h; omega) (by omega) (ih (k + 1) hlt (by omega)) (by repeat (first | exact trivial | refine ⟨rfl, ?_⟩)) ⟨by rw [htk]; rfl, rfl, trivial⟩
          ·
           rw [if_neg hc10] at hrn
           subst hrn
           refine .skip ?_
           refine .inBlock ?_
           refine .inBlock ?_
           refine .region rfl ?_
           first | refine R.add (h := ?_) | refine R.addW (h := ?_)
           refine R.move (h := ?_)
           refine .n0 ?_
           refine .inLoop ?_
           exact LGo.next _ (fun o h => by have := (hA o).1 h; omega) (by omega) (ih (k + 1) hlt (by omega)) (by repeat (first | exact trivial | refine ⟨rfl, ?_⟩)) ⟨by rw [htk]; rfl, rfl, trivial⟩
 ·
  obtain rfl : k = l.length := by omega
  rw [List.take_length]
  refine .exit rfl ?_
  refine .seq ?_
  refine .region rfl ?_
  first | refine R.loadA A35 (h := ?_) | refine R.loadN A35 (h := ?_) | refine R.loadP A35 (h := ?_)
  refine R.storeA A35 (h := ?_)
  refine .n0 ?_
  exact LGo.ret (ret_A Tryz.results43 A35 hA hmd)

theorem fieldQ_500 {r : Rq} (hr : RqOk r) (hs : r.ses.length ≤ 500 ∧ r.tic.length ≤ 500) (t : Int) : FldOk (fieldQ r t).1 ∧ (fieldQ r t).1.txt.length ≤ 500 := by
  have h1 := hr.id; have h3 := hr.owner; have h4 := hr.to
  have h2 := uw_lt
  obtain ⟨h5, h6⟩ := hs
  unfold fieldQ
  (repeat' split) <;> simp only [FldOk] <;> refine ⟨⟨?_, ?_, ?_⟩, ?_⟩ <;> first | exact (h2 _).1 | exact (h2 _).2 | (simp only [List.length_nil]; omega) | omega
theorem foGo_500 {m : Int} {r : Rq} (hr : RqOk r) (hs : r.ses.length ≤ 500 ∧ r.tic.length ≤ 500) : ∀ (n k : Nat) (l : List Fld) (e : Int), (∀ f ∈ l, FldOk f ∧ f.txt.length ≤ 500) → (∀ f ∈ (foGo m r n k l e).1, FldOk f ∧ f.txt.length ≤ 500) ∧ (foGo m r n k l e).1.length ≤ l.length + n
  | 0, k, l, e, hl => by
    rw [foGo]
    split
    · simp
    · exact ⟨hl, by simp⟩
  | n + 1, k, l, e, hl => by
    rw [foGo]
    split
    · split
      · simp
      · have := foGo_500 (m := m) hr hs n (k + 1) l e hl
        exact ⟨this.1, by omega⟩
    · have := foGo_500 hr hs n (k + 1) (l ++ [(fieldQ r k).1]) (errQ (ruleQ k) (fieldQ r k).1 (fieldQ r k).2 e) (m := m) (fun f hf => by
        rcases List.mem_append.1 hf with h | h
        · exact hl f h
        · rw [List.mem_singleton.1 h]; exact fieldQ_500 hr hs _)
      rw [List.length_append, List.length_cons, List.length_nil] at this
      exact ⟨this.1, by omega⟩
theorem fieldsOf_500 {r : Rq} (hr : RqOk r) (hs : r.ses.length ≤ 500 ∧ r.tic.length ≤ 500) : (∀ f ∈ (fieldsOf r).1, FldOk f ∧ f.txt.length ≤ 500) ∧ (fieldsOf r).1.length ≤ 9 := by
  unfold fieldsOf
  split
  · simp
  · have := foGo_500 (m := maskOf r.kind) hr hs 9 1 [] 0 (by simp)
    simpa using this
theorem ruGo_len (m : Int) : ∀ (n k : Nat) (l : List Rule), (ruGo m n k l).length ≤ l.length + n
  | 0, k, l => by simp [ruGo]
  | n + 1, k, l => by
    rw [ruGo]
    split
    · have := ruGo_len m n (k + 1) (l ++ [ruleQ k]); simp at this; omega
    · have := ruGo_len m n (k + 1) l; omega
theorem rulesQ_len (k : Int) : (rulesQ k).1.length ≤ 16 := by
  unfold rulesQ
  split
  · simp
  · have := ruGo_len (maskOf k) 16 0 []; simpa using this
theorem fieldsOf_kind {r : Rq} (h : (fieldsOf r).2 = 0) : 0 ≤ r.kind ∧ r.kind < 14 := by
  by_cases hk : r.kind < 0 ∨ 14 ≤ r.kind
  · unfold fieldsOf at h
    rw [if_pos (mask_out hk)] at h
    cases h
  · omega
def encQ (r : Rq) : List UInt8 × Int := if (!decide ((fieldsOf r).2 = 0)) = true then ([], (fieldsOf r).2) else if (!decide ((encode (rulesQ r.kind).1 (fieldsOf r).1).2 = 0)) = true then ([], (encode (rulesQ r.kind).1 (fieldsOf r).1).2) else (byt r.kind :: encBy (rulesQ r.kind).1 (fieldsOf r).1, 0)
theorem decode_at (rs : List Rule) (b : List UInt8) : 0 ≤ (decode rs b).2.1 ∧ (decode rs b).2.1 ≤ b.length := by
  rcases decode_cases rs b with ⟨_, h⟩ | ⟨_, a, h1, h2, h⟩ | ⟨_, l, h, _⟩
  · rw [h]; simp
  · rw [h]; exact ⟨h1, h2⟩
  · rw [h]; simp
def needsQ (k : Int) : Bool × Bool × Int := if maskOf k = 0 then (false, false, 2) else (decide (bitQ (maskOf k) 3 = 1), decide (bitQ (maskOf k) 4 = 1), 0)
/-- requests.Decode -/
def decQ : List UInt8 → Rq × Int × Int
  | [] => (zeroQ, 0, 11)
  | c :: b => if (!decide ((rulesQ c.toNat).2 = 0)) = true then (zeroQ, 0, 11) else if (!decide ((decode (rulesQ c.toNat).1 b).2.2 = 0)) = true then (zeroQ, (decode (rulesQ c.toNat).1 b).2.1 + 1, 11) else (foldQ { zeroQ with kind := c.toNat } (decode (rulesQ c.toNat).1 b).1, 0, 0)

theorem encQ_P (r : Rq) (hr : RqOk r) (hs : r.ses.length ≤ 500 ∧ r.tic.length ≤ 500) : PC Tryz.prog 18 [.agg (r.c.map LV.sv)] (.tup [.sv (.sl 1 (bytesC (encQ r).1)), .i (encQ r).2]) := by
 refine ⟨LC.of_go Tryz.func18 (c := _) rfl (by kernel_rfl) (by rw [Tryz.ntmps18]; simp) rfl rfl (by simp [LO.lt, LV.lts, LV.lt]) (by simp) ?_⟩
 intro B hA hmd
 obtain ⟨g, e0⟩ : ∃ g, encQ r = g := ⟨_, rfl⟩
 have e1 := e0
 unfold encQ at e1
 rw [e0]
 have h5 := fieldsOf_500 hr hs
 have h6 := rulesQ_len r.kind
 refine .seq ?_
 refine .region rfl ?_
 refine R.box (h := ?_)
 refine R.assign (h := ?_)
 refine R.assign (h := ?_)
 refine .n0 ?_
 refine .seq ?_
 refine .region rfl ?_
 first | refine R.loadA A35 (h := ?_) | refine R.loadN A35 (h := ?_) | refine R.loadP A35 (h := ?_)
 refine R.callP (es := [_]) (fun _ => fieldsOf_P r hr) (h := ?_)
 refine R.move (h := ?_)
 refine R.extract (h := ?_)
 refine R.extract (h := ?_)
 refine R.assign (h := ?_)
 refine R.assign (h := ?_)
 refine .n0 ?_
 refine .seq ?_
 refine .seq ?_
 refine .region rfl ?_
 refine R.move (h := ?_)
 refine R.bin (run_neq _ _ _ _ _ _) (h := ?_)
 refine .n0 ?_
 refine LGo.ifb (ht := fun hc => ?_) (hf := fun hc => ?_)
 ·
  rw [if_pos hc] at e1; rw [← e1]
  refine .seq ?_
  refine .region rfl ?_
  refine R.move (h := ?_)
  refine R.assign (h := ?_)
  refine R.assign (h := ?_)
  refine .n0 ?_
  first | refine LGo.frzT 2 (h := ?_) | refine LGo.nilSl 2 1 (h := ?_) | skip
  exact LGo.ret (ret_TT Tryz.results18 hA hmd)
 ·
  rw [if_neg (by rw [hc]; simp)] at e1
  have hk := fieldsOf_kind (by simpa using hc)
  refine .skip ?_
  refine .seq ?_
  refine .region rfl ?_
  first | refine R.field F35_0 (h := ?_) | refine R.fieldAt F35_0 (h := ?_)
  first | refine R.loadB O3 (h := ?_) | refine R.load1 O3 (h := ?_)
  refine R.callP (es := [_]) (fun _ => rulesQ_P r.kind) (h := ?_)
  refine R.move (h := ?_)
  refine R.extract (h := ?_)
  refine R.extract (h := ?_)
  refine R.assign (h := ?_)
  refine R.assign (h := ?_)
  refine .n0 ?_
  refine .seq ?_
  refine .region rfl ?_
  refine R.move (h := ?_)
  refine R.move (h := ?_)
  refine R.callP (es := [_, _]) (fun _ => encode_PB (rulesQ r.kind).1 (fieldsOf r).1 (by omega) (by omega) (fun f hf => (h5.1 f hf).1)) (h := ?_)
  refine R.move (h := ?_)
  refine R.extract (h := ?_)
  refine R.extract (h := ?_)
  refine R.assign (h := ?_)
  refine R.assign (h := ?_)
  refine .n0 ?_
  refine .seq ?_
  refine .seq ?_
  refine .region rfl ?_
  refine R.move (h := ?_)
  refine R.bin (run_neq _ _ _ _ _ _) (h := ?_)
  refine .n0 ?_
  refine LGo.ifb (ht := fun hc2 => ?_) (hf := fun hc2 => ?_)
  ·
   rw [if_pos hc2] at e1; rw [← e1]
   refine .seq ?_
   refine .region rfl ?_
   refine R.move (h := ?_)
   refine R.assign (h := ?_)
   refine R.assign (h := ?_)
   refine .n0 ?_
   first | refine LGo.frzT 2 (h := ?_) | refine LGo.nilSl 2 1 (h := ?_) | skip
   exact LGo.ret (ret_TT Tryz.results18 hA hmd)
  ·
   rw [if_neg (by rw [hc2]; simp)] at e1; rw [← e1]
   refine .skip ?_
   refine .seq ?_
   refine .region rfl ?_
   first | refine R.field F35_0 (h := ?_) | refine R.fieldAt F35_0 (h := ?_)
   first | refine R.loadB O3 (h := ?_) | refine R.load1 O3 (h := ?_)
   refine R.convW Tryz.runUnderlying3 Tryz.runUnderlying5 (h := ?_)
   rw [show IntKind.u8.wrap r.kind = ((byt r.kind).toNat : Int) from by rw [byt_toNat _ hk.1 (by omega), IntKind.wrap_u8]; omega]
   refine R.buildSliceR AP37 (xs := [_]) (es := [_]) (hcs := CellsOfs.cons (CellsOf.one rfl) CellsOfs.nil) (h := ?_)
   refine R.move (h := ?_)
   refine R.appendS AP37 (hs := SrcOk.sl Tryz.underlying37 (bytesC_one _)) (hlen := by have h500 := encBy_len (rs := (rulesQ r.kind).1) h5.1; simp; rw [bytesC_length]; omega) (h := ?_)
   refine R.assign (h := ?_)
   refine R.assign (h := ?_)
   refine .n0 ?_
   first | refine LGo.frzT 2 (h := ?_) | refine LGo.nilSl 2 1 (h := ?_) | skip
   exact LGo.ret (ret_TT Tryz.results18 hA hmd)

theorem needsQ_P (kd : Int) : PC Tryz.prog 14 [.i kd] (.tup [.b (needsQ kd).1, .b (needsQ kd).2.1, .i (needsQ kd).2.2]) := by
 refine ⟨LC.of_go Tryz.func14 (c := _) rfl (by kernel_rfl) (by rw [Tryz.ntmps14]; simp) rfl rfl (by simp [LO.lt, LV.lts, LV.lt]) (by simp) ?_⟩
 intro B hA hmd
 obtain ⟨g, e0⟩ : ∃ g, needsQ kd = g := ⟨_, rfl⟩
 have e1 := e0
 unfold needsQ at e1
 rw [e0]
 have hm := maskOf_lt kd
 refine .seq ?_
 refine .region rfl ?_
 refine R.assign (h := ?_)
 refine R.assign (h := ?_)
 refine R.assign (h := ?_)
 refine .n0 ?_
 refine .seq ?_
 refine .region rfl ?_
 refine R.move (h := ?_)
 refine R.callP (es := [_]) (fun _ => mask_P kd) (h := ?_)
 refine R.assign (h := ?_)
 refine .n0 ?_
 refine .seq ?_
 refine .seq ?_
 refine .region rfl ?_
 refine R.move (h := ?_)
 refine R.bin (run_eql _ _ _ _ _ _) (h := ?_)
 refine .n0 ?_
 refine LGo.ifd (ht := fun hc => ?_) (hf := fun hc => ?_)
 ·
  rw [if_pos hc] at e1; rw [← e1]
  refine .seq ?_
  refine .region rfl ?_
  refine R.assign (h := ?_)
  refine R.assign (h := ?_)
  refine R.assign (h := ?_)
  refine .n0 ?_
  exact LGo.ret (ret_TTT Tryz.results14 hA hmd)
 ·
  rw [if_neg hc] at e1; rw [← e1]
  generalize maskOf kd = m at *
  refine .skip ?_
  refine .seq ?_
  refine .region rfl ?_
  refine R.move (h := ?_)
  refine R.shr (h := ?_)
  rw [show min (Int.toNat 3) IntKind.u16.bits = 3 from rfl]
  refine R.bin (run_andE _ _ _ .u16 _ 1 (and1_u16 _ (div_lt m 3 hm.1 hm.2).1 (div_lt m 3 hm.1 hm.2).2)) (h := ?_)
  refine R.bin (run_eql _ _ _ _ _ _) (h := ?_)
  refine R.move (h := ?_)
  refine R.shr (h := ?_)
  rw [show min (Int.toNat 4) IntKind.u16.bits = 4 from rfl]
  refine R.bin (run_andE _ _ _ .u16 _ 1 (and1_u16 _ (div_lt m 4 hm.1 hm.2).1 (div_lt m 4 hm.1 hm.2).2)) (h := ?_)
  refine R.bin (run_eql _ _ _ _ _ _) (h := ?_)
  refine R.assign (h := ?_)
  refine R.assign (h := ?_)
  refine R.assign (h := ?_)
  refine .n0 ?_
  exact LGo.ret (ret_TTT Tryz.results14 hA hmd)

theorem decQ_cons (c : UInt8) (b : List UInt8) (hb : (c :: b).length ≤ 9000) : PC Tryz.prog 22 [.sv (.sl 1 (bytesC (c :: b)))] (.tup [.agg ((decQ (c :: b)).1.c.map LV.sv), .i (decQ (c :: b)).2.1, .i (decQ (c :: b)).2.2]) := by
 refine ⟨LC.of_go Tryz.func22 (c := _) rfl (by kernel_rfl) (by rw [Tryz.ntmps22]; simp) rfl rfl (by simp [LO.lt, LV.lts, LV.lt]) (by simp) ?_⟩
 intro B hA hmd
 obtain ⟨g, e0⟩ : ∃ g, decQ (c :: b) = g := ⟨_, rfl⟩
 have e1 := e0
 rw [decQ] at e1
 rw [e0]
 have hcl := c.toNat_lt
 have hat := decode_at (rulesQ c.toNat).1 b
 have hbl : b.length + 1 ≤ 9000 := by simpa using hb
 have hdl := decode_len (rulesQ c.toNat).1 b
 refine .seq ?_
 refine .region rfl ?_
 refine R.alloc Z35 (h := ?_)
 refine R.assign (h := ?_)
 refine R.assign (h := ?_)
 refine .n0 ?_
 refine .seq ?_
 refine .seq ?_
 refine .region rfl ?_
 refine R.move (h := ?_)
 first | refine R.len S37 (h := ?_) | refine R.lenRs S37 (h := ?_) | refine R.lenV (run_lenNil S37) (h := ?_)
 rw [bytesC_length]
 refine R.bin (run_eql _ _ _ _ _ _) (h := ?_)
 refine .n0 ?_
 refine LGo.ifb (ht := fun hc => by simp at hc; omega) (hf := fun hc => ?_)
 refine .skip ?_
 refine .seq ?_
 refine .region rfl ?_
 refine R.move (h := ?_)
 refine R.index I37 (hj := fun hg => ⟨by omega, rfl⟩) (h := ?_)
 first | refine R.loadB O5 (h := ?_) | refine R.load1 O5 (h := ?_)
 first | refine R.convI Tryz.runUnderlying5 Tryz.runUnderlying3 (h := ?_) | refine R.convW Tryz.runUnderlying5 Tryz.runUnderlying3 (h := ?_)
 refine R.assign (h := ?_)
 refine .n0 ?_
 refine .seq ?_
 refine .region rfl ?_
 refine R.move (h := ?_)
 refine R.callP (es := [_]) (fun _ => rulesQ_P c.toNat) (h := ?_)
 refine R.move (h := ?_)
 refine R.extract (h := ?_)
 refine R.extract (h := ?_)
 refine R.assign (h := ?_)
 refine R.assign (h := ?_)
 refine .n0 ?_
 refine .seq ?_
 refine .seq ?_
 refine .region rfl ?_
 refine R.move (h := ?_)
 refine R.bin (run_neq _ _ _ _ _ _) (h := ?_)
 refine .n0 ?_
 refine LGo.ifb (ht := fun hc2 => ?_) (hf := fun hc2 => ?_)
 ·
  rw [if_pos hc2] at e1; rw [← e1]
  refine .seq ?_
  refine .region rfl ?_
  refine R.build BF35 (is := []) (xs := []) (es := []) (h := ?_)
  refine R.storeA A35 (h := ?_)
  refine R.assign (h := ?_)
  refine R.assign (h := ?_)
  refine .n0 ?_
  exact LGo.ret (ret_ATT Tryz.results22 A35 hA hmd)
 ·
  rw [if_neg (by rw [hc2]; simp)] at e1
  refine .skip ?_
  refine .seq ?_
  refine .region rfl ?_
  refine R.move (h := ?_)
  refine R.move (h := ?_)
  refine R.sliceLo SF37 (ha := fun _ => by rw [bytesC_length]; simp; omega) (h := ?_)
  rw [bytesC_drop, show Int.toNat 1 = 1 from rfl, List.drop_succ_cons, List.drop_zero]
  refine R.callP (es := [_, _]) (fun _ => decode_P (rulesQ c.toNat).1 b (by have := rulesQ_len c.toNat; omega) (by simp at hb; omega)) (h := ?_)
  refine R.move (h := ?_)
  refine R.extract (h := ?_)
  refine R.extract (h := ?_)
  refine R.extract (h := ?_)
  refine R.assign (h := ?_)
  refine R.assign (h := ?_)
  refine R.assign (h := ?_)
  refine .n0 ?_
  refine .seq ?_
  refine .seq ?_
  refine .region rfl ?_
  refine R.move (h := ?_)
  refine R.bin (run_neq _ _ _ _ _ _) (h := ?_)
  refine .n0 ?_
  refine LGo.ifb (ht := fun hc3 => ?_) (hf := fun hc3 => ?_)
  ·
   rw [if_pos hc3] at e1; rw [← e1]
   refine .seq ?_
   refine .region rfl ?_
   refine R.build BF35 (is := []) (xs := []) (es := []) (h := ?_)
   refine R.move (h := ?_)
   first | refine R.add (h := ?_) | refine R.addW (h := ?_)
   refine R.storeA A35 (h := ?_)
   refine R.assign (h := ?_)
   refine R.assign (h := ?_)
   refine .n0 ?_
   exact LGo.ret (ret_ATT Tryz.results22 A35 hA hmd)
  ·
   rw [if_neg (by rw [hc3]; simp)] at e1; rw [← e1]
   refine .skip ?_
   refine .seq ?_
   refine .region rfl ?_
   refine R.move (h := ?_)
   refine R.build BF35 (is := [0]) (xs := [_]) (es := [_]) (h := ?_)
   refine R.move (h := ?_)
   refine R.callP (es := [_, _]) (fun _ => putQ_P { zeroQ with kind := c.toNat } (decode (rulesQ c.toNat).1 b).1 (by omega)) (h := ?_)
   refine R.storeA A35 (h := ?_)
   refine R.assign (h := ?_)
   refine R.assign (h := ?_)
   refine .n0 ?_
   exact LGo.ret (ret_ATT Tryz.results22 A35 hA hmd)

theorem decQ_nil : PC Tryz.prog 22 [.sv (.sl 1 (bytesC []))] (.tup [.agg (zeroQ.c.map LV.sv), .i 0, .i 11]) := by
 refine ⟨LC.of_go Tryz.func22 (c := _) rfl (by kernel_rfl) (by rw [Tryz.ntmps22]; simp) rfl rfl (by simp [LO.lt, LV.lts, LV.lt]) (by simp) ?_⟩
 intro B hA hmd
 refine .seq ?_
 refine .region rfl ?_
 refine R.alloc Z35 (h := ?_)
 refine R.assign (h := ?_)
 refine R.assign (h := ?_)
 refine .n0 ?_
 refine .seq ?_
 refine .seq ?_
 refine .region rfl ?_
 refine R.move (h := ?_)
 first | refine R.len S37 (h := ?_) | refine R.lenRs S37 (h := ?_) | refine R.lenV (run_lenNil S37) (h := ?_)
 refine R.bin (run_eql _ _ _ _ _ _) (h := ?_)
 refine .n0 ?_
 refine LGo.ifb (ht := fun hc => ?_) (hf := fun hc => by rw [bytesC_length] at hc; simp at hc)
 refine .seq ?_
 refine .region rfl ?_
 refine R.build BF35 (is := []) (xs := []) (es := []) (h := ?_)
 refine R.storeA A35 (h := ?_)
 refine R.assign (h := ?_)
 refine R.assign (h := ?_)
 refine .n0 ?_
 exact LGo.ret (ret_ATT Tryz.results22 A35 hA hmd)

theorem decQ_P (b : List UInt8) (hb : b.length ≤ 9000) : PC Tryz.prog 22 [.sv (.sl 1 (bytesC b))] (.tup [.agg ((decQ b).1.c.map LV.sv), .i (decQ b).2.1, .i (decQ b).2.2]) := by
  cases b with
  | nil => exact decQ_nil
  | cons c b => exact decQ_cons c b hb

end Go.Proofs.YtckbomkcnmcdaaaGreatDoor
