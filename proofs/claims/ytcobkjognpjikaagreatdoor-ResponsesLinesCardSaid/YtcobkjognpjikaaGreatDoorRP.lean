/- responses: Print. -/
import Derived.Test.YtcobkjognpjikaaGreatDoorRW
import Derived.Test.YtcobkjognpjikaaGreatDoorL
set_option linter.unusedSimpArgs false
set_option linter.unusedVariables false
namespace Go.Proofs.YtcobkjognpjikaaGreatDoor

theorem tabN : (0, rsNames.map fun l => Value.string ⟨l.toArray⟩) ∈ tabs := by simp [tabs]
def rsName (k : Int) : List UInt8 := rsNames.getD k.toNat []
def pieceS (r : Rs) (t : Int) : List UInt8 := if t = 3 then quote (fieldS r t).txt else if t = 4 then quote (fieldS r t).txt else Lib.decDigits (fieldS r t).num.toNat
def printS (r : Rs) : List UInt8 × Int := if (!decide (checkS r = 0)) = true then ([], checkS r) else (Lib.join (rsName r.kind :: (tagsT r.kind r.err).map (pieceS r)) [32], 0)
theorem rsName_at {k : Int} (h0 : 0 ≤ k) (h1 : k < 14) : (rsNames.map fun l => Value.string ⟨l.toArray⟩)[0 + k.toNat * 1]? = some (.string ⟨(rsName k).toArray⟩) := by
  have h : k.toNat < rsNames.length := by simp [rsNames]; omega
  rw [Nat.zero_add, Nat.mul_one, List.getElem?_map, rsName, List.getD_eq_getElem?_getD, List.getElem?_eq_getElem h]
  rfl
theorem digits_20 {n : Int} (h0 : 0 ≤ n) (h1 : n < 18446744073709551616) : (Lib.decDigits n.toNat).length ≤ 20 := by
  have : ∀ (k u : Nat), u < 10 ^ (k + 1) → (Lib.decDigits u).length ≤ k + 1 := by
    intro k
    induction k with
    | zero => intro u h; rw [Lib.decDigits, dif_pos (by omega)]; simp
    | succ k ih =>
      intro u h
      rw [Lib.decDigits]
      split
      · simp
      · have := ih (u / 10) (by rw [Nat.pow_succ] at h; omega)
        simp; omega
  exact this 19 n.toNat (by omega)
theorem pieceS_len {r : Rs} (hr : RsOk r) (hs : r.ses.length ≤ 500 ∧ r.tic.length ≤ 500) (t : Int) : (pieceS r t).length ≤ 4002 := by
  have h1 := fieldS_ok hr hs t
  have h2 := digits_20 h1.1 h1.2.1
  have h3 := quote_len (fieldS r t).txt
  have h4 := h1.2.2
  unfold pieceS
  (repeat' split) <;> omega
theorem joinTail_len (sep : List UInt8) (m : Nat) : ∀ l : List (List UInt8), (∀ x ∈ l, x.length ≤ m) → (Lib.joinTail sep l).length ≤ l.length * (m + sep.length)
  | [], _ => by simp [Lib.joinTail]
  | x :: l, h => by
    have h1 := joinTail_len sep m l (fun y hy => h y (by simp [hy]))
    have h2 := h x (by simp)
    simp only [Lib.joinTail, List.map_cons, List.flatten_cons, List.length_append, List.length_cons] at h1 ⊢
    rw [Nat.add_mul]
    omega
theorem rsName_len (k : Int) : (rsName k).length ≤ 8 := by
  unfold rsName
  rw [List.getD_eq_getElem?_getD]
  by_cases h : k.toNat < 14
  · have key : ∀ j : Fin 14, (rsNames[j.1]?.getD []).length ≤ 8 := by decide
    exact key ⟨k.toNat, h⟩
  · rw [List.getElem?_eq_none (by simp [rsNames]; omega)]; simp
theorem join_len {r : Rs} (hr : RsOk r) (hs : r.ses.length ≤ 500 ∧ r.tic.length ≤ 500) : (Lib.join (rsName r.kind :: (tagsT r.kind r.err).map (pieceS r)) [32]).length ≤ 100000 := by
  rw [Lib.join_cons, List.length_append]
  have h1 := joinTail_len [32] 4002 ((tagsT r.kind r.err).map (pieceS r)) (fun x hx => by obtain ⟨t, _, rfl⟩ := List.mem_map.1 hx; exact pieceS_len hr hs t)
  have h2 := tagsT_len r.kind r.err
  have h3 := rsName_len r.kind
  rw [List.length_map] at h1
  have h4 : (tagsT r.kind r.err).length * (4002 + [(32 : UInt8)].length) ≤ 5 * 4003 := Nat.mul_le_mul h2 (by simp)
  omega

theorem printS_P (r : Rs) (hr : RsOk r) (hs : r.ses.length ≤ 500 ∧ r.tic.length ≤ 500) : PC Tryz.prog 7 [.agg (r.c.map LV.sv)] (.tup [.t (printS r).1, .i (printS r).2]) := by
 refine ⟨LC.of_go Tryz.func7 (c := _) rfl (by kernel_rfl) (by rw [Tryz.ntmps7]; simp) rfl rfl (by simp [LO.lt, LV.lts, LV.lt]) (by simp) ?_⟩
 intro B hA hmd
 obtain ⟨g, e0⟩ : ∃ g, printS r = g := ⟨_, rfl⟩
 have e1 := e0
 unfold printS at e1
 rw [e0]
 have htl := tagsT_len r.kind r.err
 refine .seq ?_
 refine .region rfl ?_
 refine R.box (h := ?_)
 refine R.assign (h := ?_)
 refine R.assign (h := ?_)
 refine .n0 ?_
 refine .seq ?_
 refine .seq ?_
 refine .region rfl ?_
 first | refine R.loadA A25 (h := ?_) | refine R.loadN A25 (h := ?_) | refine R.loadP A25 (h := ?_)
 refine R.callP (es := [_]) (fun _ => checkS_P r hr) (h := ?_)
 refine R.assign (h := ?_)
 refine .n0 ?_
 refine .seq ?_
 refine .region rfl ?_
 refine R.move (h := ?_)
 refine R.bin (run_neq _ _ _ _ _ _) (h := ?_)
 refine .n0 ?_
 refine LGo.ifb (ht := fun hc => ?_) (hf := fun hc => ?_)
 ·
  rw [if_pos hc] at e1; rw [← e1]
  refine .seq ?_
  refine .region rfl ?_
  refine R.move (h := ?_)
  refine R.assign (h := ?_)
  refine R.assign (h := ?_)
  refine .n0 ?_
  exact LGo.ret (ret_TT Tryz.results7 hA hmd)
 ·
  rw [if_neg (by rw [hc]; simp)] at e1; rw [← e1]
  have hk := known_lt (checkS_known (by simpa using hc))
  refine .skip ?_
  refine .seq ?_
  refine .region rfl ?_
  first | refine R.field F25_0 (h := ?_) | refine R.fieldAt F25_0 (h := ?_)
  first | refine R.loadB O3 (h := ?_) | refine R.load1 O3 (h := ?_)
  refine R.gIndex I49 (hj := fun _ => by omega) (h := ?_)
  refine R.gLoad1 O9 (hm := tabN) (hc := fun _ => rsName_at hk.1 hk.2) (h := ?_)
  refine R.buildSliceR AP50 (xs := [_]) (es := [_]) (hcs := CellsOfs.cons (CellsOf.one rfl) CellsOfs.nil) (h := ?_)
  refine R.alloc Z50 (h := ?_)
  refine R.storeB O50 (h := ?_)
  refine .n0 ?_
  refine .seq ?_
  refine .seq ?_
  refine .region rfl ?_
  first | refine R.field F25_0 (h := ?_) | refine R.fieldAt F25_0 (h := ?_)
  first | refine R.loadB O3 (h := ?_) | refine R.load1 O3 (h := ?_)
  first | refine R.field F25_2 (h := ?_) | refine R.fieldAt F25_2 (h := ?_)
  first | refine R.loadB O23 (h := ?_) | refine R.load1 O23 (h := ?_)
  refine R.callN (es := [_, _]) (tags_L r.kind r.err) (h := ?_)
  refine .n0 ?_
  refine .block ?_
  refine LGo.pack 2 0 (h := ?_)
  refine LGo.turn [0, 2, 3, 4] (b := 0) (fun o h => by have := (hA o).1 h; omega) (E' := [(1, (true, .ptr 0 0)), (5, (true, .ptr 1 0)), (22, (true, .fn (.func 45) [] [.ptr 3 0, .ptr 2 0]))]) (L' := [(0, .box 25 (r.c.map LV.sv)), (1, .bx 50 [.v undef] 0 9 1 (strsC (rsName r.kind :: ((tagsT r.kind r.err).take 0).map (pieceS r)))), (2, .box 3 [.i r.kind]), (3, .box 23 [.i r.err])]) ?_ (by repeat (first | exact trivial | refine ⟨rfl, ?_⟩)) (by repeat (first | exact trivial | refine ⟨rfl, ?_⟩))
  refine LGo.rangeN (fun fn ac bc => [(0, .box 25 (r.c.map LV.sv)), (1, .bx 50 [.v undef] 0 9 1 (strsC (rsName r.kind :: ((tagsT r.kind r.err).take (tagsT r.kind r.err).length).map (pieceS r)))), (2, .box 3 [.i r.kind]), (3, .box 23 [.i r.err]), (4, .raw (.deferred (some []))), (5, .loop fn Tryz.f7.ntmps [(1, (true, .ptr 0 0)), (5, (true, .ptr 1 0)), (22, (true, .fn (.func 45) [] [.ptr 3 0, .ptr 2 0]))] #[23] ac bc .ready none)]) (hit := fun fn ac bc hac hbc => ?_) (h := fun fn => ?_)
  ·
   suffices hgo : YGo Tryz.prog 5 6 ((tagsT r.kind r.err).map LV.i) (HoldsT 3 2 r.kind r.err) (fun j => [(0, .box 25 (r.c.map LV.sv)), (1, .bx 50 [.v undef] 0 9 1 (strsC (rsName r.kind :: ((tagsT r.kind r.err).take j).map (pieceS r)))), (2, .box 3 [.i r.kind]), (3, .box 23 [.i r.err]), (4, .raw (.deferred (some []))), (5, .loop fn Tryz.f7.ntmps [(1, (true, .ptr 0 0)), (5, (true, .ptr 1 0)), (22, (true, .fn (.func 45) [] [.ptr 3 0, .ptr 2 0]))] #[23] ac bc .ready none)]) from by
     have hr := tags1_L r.kind r.err (by decide) (by decide) (by decide) hgo
     exact hr
   refine ⟨fun j hj => rfl, fun j hj => by simp [LO.lt, LV.lts, LV.lt, lts_sv], fun j hj => ⟨rfl, rfl⟩, fun j hj => ?_⟩
   have hj' : j < (tagsT r.kind r.err).length := by simpa using hj
   rw [List.getElem_map]
   have htk : (tagsT r.kind r.err).take (j + 1) = (tagsT r.kind r.err).take j ++ [(tagsT r.kind r.err)[j]] := by rw [List.take_succ_eq_append_getElem hj']
   try dsimp only
   rw [htk, List.map_append, ← List.cons_append, List.map_cons, List.map_nil, ← strsC_snoc]
   generalize (tagsT r.kind r.err)[j] = t at *
   refine Yld.walk 6 ((6, (true, .i t)) :: (23, (true, .i t)) :: [(1, (true, .ptr 0 0)), (5, (true, .ptr 1 0)), (22, (true, .fn (.func 45) [] [.ptr 3 0, .ptr 2 0]))]) (hpN := by rw [show Tryz.f7.ntmps = 45 from Tryz.ntmps7]; simp) (hA := ?_) (hB := ?_)
   · intro l B' hA' hmd'; subst hac
     refine .region rfl ?_
     refine R.assign (h := ?_)
     refine .n0 ?_
     exact LGo.done (fun cx a w hr => ⟨rfl, cx, hr⟩)
   · intro l B' hA' hmd'; subst hbc
     refine LGo.unpack 1 (h := ?_)
     refine .block ?_
     refine .seq ?_
     refine .region rfl ?_
     have hfo := fieldS_ok hr hs t
     first | refine R.loadA A25 (h := ?_) | refine R.loadN A25 (h := ?_) | refine R.loadP A25 (h := ?_)
     refine R.move (h := ?_)
     refine R.callP (es := [_, _]) (fun _ => fieldS_P r t) (h := ?_)
     refine R.alloc Z55 (h := ?_)
     refine R.storeA A55 (h := ?_)
     refine .n0 ?_
     refine .seq ?_
     refine .region rfl ?_
     refine R.move (h := ?_)
     refine .n0 ?_
     refine .block ?_
     refine .seq ?_
     refine .seq ?_
     refine .region rfl ?_
     refine R.bin (run_eql _ _ _ _ _ _) (h := ?_)
     refine R.assign (h := ?_)
     refine .n0 ?_
     refine LGo.ifd (ht := fun hc2 => ?_) (hf := fun hc2 => ?_)
     ·
      rw [show pieceS r t = quote (fieldS r t).txt from if_pos hc2]
      refine .skip ?_
      first | refine LGo.ifd (ht := fun _ => ?_) (hf := fun h => absurd hc2 h) | refine LGo.ifb (ht := fun _ => ?_) (hf := fun h => by rw [hc2] at h; cases h)
      refine .region rfl ?_
      first | refine R.loadB O50 (h := ?_) | refine R.load1 O50 (h := ?_)
      first | refine R.field F55_2 (h := ?_) | refine R.fieldAt F55_2 (h := ?_)
      first | refine R.loadB O9 (h := ?_) | refine R.load1 O9 (h := ?_)
      refine R.callP (es := [_]) (fun _ => quote_P (fieldS r t).txt (by have := hfo.2.2; omega)) (h := ?_)
      refine R.buildSliceG AP50 (xs := [_]) (es := [_]) (hcs := CellsOfs.cons (CellsOf.one rfl) CellsOfs.nil) (h := ?_)
      refine R.appendS AP50 (hs := SrcOk.sl Tryz.underlying50 (by simp)) (hlen := by rw [strsC_length]; simp; omega) (h := ?_)
      refine R.storeB O50 (h := ?_)
      refine Reg.nil ⟨fun _ => ⟨mixedO, by rfl, by rfl⟩, ?_⟩
      refine .inBlock ?_
      refine .inBlock ?_
      refine LGo.pack 1 0 (h := ?_)
      refine LGo.drop 6 (fun o h => (hA' o).1 h) (by omega) [] ((5, .loop fn Tryz.f7.ntmps [(1, (true, .ptr 0 0)), (5, (true, .ptr 1 0)), (22, (true, .fn (.func 45) [] [.ptr 3 0, .ptr 2 0]))] #[23] ac _ .busy none) :: (4, .raw (.deferred (some []))) :: [(0, .box 25 (r.c.map LV.sv)), (1, .bx 50 [.v undef] 0 9 1 (strsC (rsName r.kind :: ((tagsT r.kind r.err).take j).map (pieceS r)) ++ [[.val (.string ⟨(quote (fieldS r t).txt).toArray⟩)]])), (2, .box 3 [.i r.kind]), (3, .box 23 [.i r.err])]) trivial (by repeat (first | exact trivial | refine ⟨rfl, ?_⟩)) (by simp) (by simp [LO.lt, LV.lts, LV.lt, lts_sv]) (h := ?_)
      refine LGo.done (RoundEnd.go rfl (fun o z hz hne => ?_) rfl)
      rcases o with _ | _ | _ | _ | _ | _ | o <;> first | exact absurd rfl hne | exact hz
     ·
      refine .region rfl ?_
      refine R.bin (run_eql _ _ _ _ _ _) (h := ?_)
      refine R.assign (h := ?_)
      refine .n0 ?_
      refine LGo.ifd (ht := fun hc4 => ?_) (hf := fun hc4 => ?_)
      ·
       rw [show pieceS r t = quote (fieldS r t).txt from by unfold pieceS; rw [if_neg hc2, if_pos hc4]]
       refine .region rfl ?_
       first | refine R.loadB O50 (h := ?_) | refine R.load1 O50 (h := ?_)
       first | refine R.field F55_2 (h := ?_) | refine R.fieldAt F55_2 (h := ?_)
       first | refine R.loadB O9 (h := ?_) | refine R.load1 O9 (h := ?_)
       refine R.callP (es := [_]) (fun _ => quote_P (fieldS r t).txt (by have := hfo.2.2; omega)) (h := ?_)
       refine R.buildSliceG AP50 (xs := [_]) (es := [_]) (hcs := CellsOfs.cons (CellsOf.one rfl) CellsOfs.nil) (h := ?_)
       refine R.appendS AP50 (hs := SrcOk.sl Tryz.underlying50 (by simp)) (hlen := by rw [strsC_length]; simp; omega) (h := ?_)
       refine R.storeB O50 (h := ?_)
       refine Reg.nil ⟨fun _ => ⟨mixedO, by rfl, by rfl⟩, ?_⟩
       refine .inBlock ?_
       refine .inBlock ?_
       refine LGo.pack 1 0 (h := ?_)
       refine LGo.drop 6 (fun o h => (hA' o).1 h) (by omega) [] ((5, .loop fn Tryz.f7.ntmps [(1, (true, .ptr 0 0)), (5, (true, .ptr 1 0)), (22, (true, .fn (.func 45) [] [.ptr 3 0, .ptr 2 0]))] #[23] ac _ .busy none) :: (4, .raw (.deferred (some []))) :: [(0, .box 25 (r.c.map LV.sv)), (1, .bx 50 [.v undef] 0 9 1 (strsC (rsName r.kind :: ((tagsT r.kind r.err).take j).map (pieceS r)) ++ [[.val (.string ⟨(quote (fieldS r t).txt).toArray⟩)]])), (2, .box 3 [.i r.kind]), (3, .box 23 [.i r.err])]) trivial (by repeat (first | exact trivial | refine ⟨rfl, ?_⟩)) (by simp) (by simp [LO.lt, LV.lts, LV.lt, lts_sv]) (h := ?_)
       refine LGo.done (RoundEnd.go rfl (fun o z hz hne => ?_) rfl)
       rcases o with _ | _ | _ | _ | _ | _ | o <;> first | exact absurd rfl hne | exact hz
      ·
       rw [show pieceS r t = Lib.decDigits (fieldS r t).num.toNat from by unfold pieceS; rw [if_neg hc2, if_neg hc4]]
       refine .region rfl ?_
       first | refine R.loadB O50 (h := ?_) | refine R.load1 O50 (h := ?_)
       first | refine R.field F55_1 (h := ?_) | refine R.fieldAt F55_1 (h := ?_)
       first | refine R.loadB O22 (h := ?_) | refine R.load1 O22 (h := ?_)
       refine R.callP (es := [_, _]) (fun _ => formatUint_P (fieldS r t).num hfo.1 hfo.2.1) (h := ?_)
       refine R.buildSliceG AP50 (xs := [_]) (es := [_]) (hcs := CellsOfs.cons (CellsOf.one rfl) CellsOfs.nil) (h := ?_)
       refine R.appendS AP50 (hs := SrcOk.sl Tryz.underlying50 (by simp)) (hlen := by rw [strsC_length]; simp; omega) (h := ?_)
       refine R.storeB O50 (h := ?_)
       refine Reg.nil ⟨fun _ => ⟨mixedO, by rfl, by rfl⟩, ?_⟩
       refine .inBlock ?_
       refine .inBlock ?_
       refine LGo.pack 1 0 (h := ?_)
       refine LGo.drop 6 (fun o h => (hA' o).1 h) (by omega) [] ((5, .loop fn Tryz.f7.ntmps [(1, (true, .ptr 0 0)), (5, (true, .ptr 1 0)), (22, (true, .fn (.func 45) [] [.ptr 3 0, .ptr 2 0]))] #[23] ac _ .busy none) :: (4, .raw (.deferred (some []))) :: [(0, .box 25 (r.c.map LV.sv)), (1, .bx 50 [.v undef] 0 9 1 (strsC (rsName r.kind :: ((tagsT r.kind r.err).take j).map (pieceS r)) ++ [[.val (.string ⟨(Lib.decDigits (fieldS r t).num.toNat).toArray⟩)]])), (2, .box 3 [.i r.kind]), (3, .box 23 [.i r.err])]) trivial (by repeat (first | exact trivial | refine ⟨rfl, ?_⟩)) (by simp) (by simp [LO.lt, LV.lts, LV.lt, lts_sv]) (h := ?_)
       refine LGo.done (RoundEnd.go rfl (fun o z hz hne => ?_) rfl)
       rcases o with _ | _ | _ | _ | _ | _ | o <;> first | exact absurd rfl hne | exact hz
  ·
   rw [List.take_length]
   refine LGo.frzBx 1 (h := ?_)
   refine .inBlock ?_
   refine .seq ?_
   refine .region rfl ?_
   first | refine R.loadB O50 (h := ?_) | refine R.load1 O50 (h := ?_)
   refine R.callP (es := [_, _]) (fun _ => PC.strJoin (Entr.of Tryz.func22 rfl (by kernel_rfl)) Tryz.strings_Join_none Tryz.strings_Join (rsName r.kind :: (tagsT r.kind r.err).map (pieceS r)) [32] (by simp; have := tagsT_len r.kind r.err; omega) (by have := join_len hr hs; omega)) (h := ?_)
   refine R.assign (h := ?_)
   refine R.assign (h := ?_)
   refine .n0 ?_
   exact LGo.ret (FnPost.mark (by rfl) (ret_TT Tryz.results7 hA hmd))

end Go.Proofs.YtcobkjognpjikaaGreatDoor
