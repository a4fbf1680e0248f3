/- words: Join, and the reference's. -/
import Derived.Test.YtmjpkfjgknbfeaaGreatDoorQN
set_option linter.unusedSimpArgs false
set_option linter.unusedVariables false
namespace Go.Proofs.YtmjpkfjgknbfeaaGreatDoor

theorem strsC_snoc1 (l : List (List UInt8)) (s : List UInt8) : strsC (l ++ [s]) = strsC l ++ [[.val (.string ⟨s.toArray⟩)]] := by unfold strsC; rw [List.map_append]; rfl
def badF (f : Fd) : Bool := !f.q && !bareC f.s
def longA (l : List Fd) : Bool := l.any fun f => decide (2000 < f.s.length)
def badA (l : List Fd) : Bool := l.any badF
def joinW (l : List Fd) : List UInt8 × Int := if 64 < (l.length : Int) then ([], 3) else if longA l = true then ([], 3) else if badA l = true then ([], 6) else if 8192 < ((lineF l).length : Int) then ([], 3) else (lineF l, 0)
theorem formF_len {f : Fd} (h : f.s.length ≤ 2000) : (formF f).length ≤ 8002 := by
  unfold formF
  split
  · have := quote_len f.s; omega
  · omega
theorem lineF_bound : ∀ l : List Fd, (∀ f ∈ l, f.s.length ≤ 2000) → (lineF l).length ≤ 8003 * l.length
  | [], _ => by simp [lineF, Lib.join_nil]
  | [f], h => by rw [lineF_one]; have := formF_len (h f (by simp)); simp; omega
  | f :: g :: l, h => by
    have h1 := lineF_bound (g :: l) (fun x hx => h x (by simp [hx]))
    have h2 := formF_len (h f (by simp))
    rw [lineF_cons]
    simp only [List.length_append, List.length_cons] at h1 ⊢
    omega
theorem any_take {p : Fd → Bool} {l : List Fd} {k : Nat} (h : k < l.length) : (l.take (k + 1)).any p = ((l.take k).any p || p l[k]) := by
  rw [List.take_succ_eq_append_getElem h, List.any_append]; simp
theorem long_no {l : List Fd} (h : longA l = false) : ∀ f ∈ l, f.s.length ≤ 2000 := by
  intro f hf
  unfold longA at h
  rw [List.any_eq_false] at h
  have := h f hf
  simpa using this
theorem long_yes {l : List Fd} {f : Fd} (hf : f ∈ l) (h : 2000 < f.s.length) : longA l = true := by
  unfold longA
  rw [List.any_eq_true]
  exact ⟨f, hf, by simpa using h⟩

theorem joinW_P (l : List Fd) (hl : l.length ≤ 100000) : PC Tryz.prog 17 [.sv (.sl 2 (l.map Fd.c))] (.tup [.t (joinW l).1, .i (joinW l).2]) := by
 refine ⟨LC.of_go Tryz.func17 (c := _) rfl (by kernel_rfl) (by rw [Tryz.ntmps17]; simp) rfl rfl (by simp [LO.lt, LV.lts, LV.lt]) (by simp) ?_⟩
 intro B hA hmd
 obtain ⟨g, e0⟩ : ∃ g, joinW l = g := ⟨_, rfl⟩
 have e1 := e0
 unfold joinW at e1
 rw [e0]
 refine .seq ?_
 refine .region rfl ?_
 refine R.assign (h := ?_)
 refine R.assign (h := ?_)
 refine .n0 ?_
 refine .seq ?_
 refine .seq ?_
 refine .region rfl ?_
 refine R.move (h := ?_)
 first | refine R.len S34 (h := ?_) | refine R.lenRs S34 (h := ?_) | refine R.lenV (run_lenNil S34) (h := ?_)
 rw [List.length_map]
 refine R.bin (run_gtr _ _ _ _ _ _) (h := ?_)
 refine .n0 ?_
 refine LGo.ifd (ht := fun hc => ?_) (hf := fun hc => ?_)
 ·
  rw [if_pos hc] at e1; rw [← e1]
  refine .seq ?_
  refine .region rfl ?_
  refine R.assign (h := ?_)
  refine R.assign (h := ?_)
  refine .n0 ?_
  exact LGo.ret (ret_TT Tryz.results17 hA hmd)
 ·
  rw [if_neg hc] at e1
  refine .skip ?_
  refine .seq ?_
  refine .region rfl ?_
  refine R.assign (h := ?_)
  refine .n0 ?_
  refine .seq ?_
  refine .region rfl ?_
  refine R.assign (h := ?_)
  refine .n0 ?_
  refine .seq ?_
  refine .seq ?_
  refine .region rfl ?_
  refine R.move (h := ?_)
  first | refine R.len S34 (h := ?_) | refine R.lenRs S34 (h := ?_) | refine R.lenV (run_lenNil S34) (h := ?_)
  rw [List.length_map]
  refine R.move (h := ?_)
  refine .n0 ?_
  refine .block ?_
  refine .loop ?_
  refine LGo.nilRs 5 9 1 (h := ?_)
  refine LGo.loopG (σ := Nat × Int) (fun x => x.1 ≤ l.length ∧ longA (l.take x.1) = false ∧ x.2 = (if badA (l.take x.1) = true then 6 else 0)) (fun x => [(15, (true, .i (x.1 : Nat))), (5, (true, .ref 0)), (4, (true, .i x.2))]) (fun x => [(0, .rs 9 1 (strsC ((l.take x.1).map formF)))]) (fun x => l.length - x.1) (0, 0) [(13, _), (14, _)] ⟨Nat.zero_le _, rfl, rfl⟩ (by repeat (first | exact trivial | refine ⟨rfl, ?_⟩)) (by repeat (first | exact trivial | refine ⟨rfl, ?_⟩)) (by repeat (first | exact trivial | refine ⟨rfl, ?_⟩)) ?_
  rintro ⟨k, e⟩ ⟨hk, hlk, he⟩ ih
  dsimp only at * 
  refine .seq ?_
  refine .region rfl ?_
  refine R.bin (run_lss _ _ _ _ _ _) (h := ?_)
  refine .n0 ?_
  refine .seq ?_
  refine LGo.ifd (ht := fun hc2 => ?_) (hf := fun hc2 => ?_)
  ·
   have hlt : k < l.length := by omega
   have hx : (l.map Fd.c)[((k : Nat) : Int).toNat]? = some l[k].c := by simp [hlt]
   have hla := any_take (p := fun f => decide (2000 < f.s.length)) hlt
   have hba := any_take (p := badF) hlt
   have htk : (l.take (k + 1)).map formF = (l.take k).map formF ++ [formF l[k]] := by rw [List.take_succ_eq_append_getElem hlt, List.map_append]; rfl
   have hmem : l[k] ∈ l := List.getElem_mem hlt
   have hll : (l.take k).length ≤ 64 := by rw [List.length_take]; omega
   generalize l[k] = f at hx hla hba htk hmem
   have hst : strsC ((l.take (k + 1)).map formF) = strsC ((l.take k).map formF) ++ [[.val (.string ⟨(formF f).toArray⟩)]] := by rw [htk, strsC_snoc1]
   refine .skip ?_
   refine .seq ?_
   refine .block ?_
   refine .seq ?_
   refine .region rfl ?_
   refine R.index I34 (hj := fun hg => ⟨by omega, hx⟩) (h := ?_)
   first | refine R.loadA A47 (h := ?_) | refine R.loadN A47 (h := ?_) | refine R.loadP A47 (h := ?_)
   refine R.alloc Z47 (h := ?_)
   refine R.storeA A47 (h := ?_)
   refine .n0 ?_
   refine .seq ?_
   refine .seq ?_
   refine .region rfl ?_
   first | refine R.field F47_0 (h := ?_) | refine R.fieldAt F47_0 (h := ?_)
   first | refine R.loadB O9 (h := ?_) | refine R.load1 O9 (h := ?_)
   refine R.lenT Tryz.runUnderlying9 (h := ?_)
   refine R.bin (run_gtr _ _ _ _ _ _) (h := ?_)
   refine .n0 ?_
   refine LGo.ifd (ht := fun hc3 => ?_) (hf := fun hc3 => ?_)
   ·
    rw [if_pos (long_yes hmem (by omega))] at e1; rw [← e1]
    refine .seq ?_
    refine .region rfl ?_
    refine R.assign (h := ?_)
    refine R.assign (h := ?_)
    refine .n0 ?_
    exact LGo.ret (ret_TT Tryz.results17 hA hmd)
   ·
    have hls : decide (2000 < f.s.length) = false := by simp; omega
    rw [show (l.take (k + 1)).any (fun f => decide (2000 < f.s.length)) = longA (l.take (k + 1)) from rfl, show (l.take k).any (fun f => decide (2000 < f.s.length)) = longA (l.take k) from rfl, hls, hlk] at hla
    rw [show (l.take (k + 1)).any badF = badA (l.take (k + 1)) from rfl, show (l.take k).any badF = badA (l.take k) from rfl] at hba
    refine .skip ?_
    refine .seq ?_
    refine .region rfl ?_
    first | refine R.field F47_0 (h := ?_) | refine R.fieldAt F47_0 (h := ?_)
    first | refine R.loadB O9 (h := ?_) | refine R.load1 O9 (h := ?_)
    refine R.assign (h := ?_)
    refine .n0 ?_
    refine .seq ?_
    refine .seq ?_
    refine .region rfl ?_
    first | refine R.field F47_1 (h := ?_) | refine R.fieldAt F47_1 (h := ?_)
    first | refine R.loadB O4 (h := ?_) | refine R.load1 O4 (h := ?_)
    refine .n0 ?_
    refine LGo.ifb (ht := fun hc4 => ?_) (hf := fun hc4 => ?_)
    ·
     have hfo : formF f = quote f.s := if_pos hc4
     have hbf : badF f = false := by unfold badF; rw [hc4]; rfl
     refine .region rfl ?_
     refine R.move (h := ?_)
     refine R.callP (es := [_]) (fun _ => quote_P f.s (by omega)) (h := ?_)
     rw [← hfo]
     refine R.assign (h := ?_)
     refine .n0 ?_
     refine .region rfl ?_
     refine R.move (h := ?_)
     refine R.move (h := ?_)
     refine R.buildSliceG AP61 (xs := [_]) (es := [_]) (hcs := CellsOfs.cons (CellsOf.one rfl) CellsOfs.nil) (h := ?_)
     refine R.appendS AP61 (hs := SrcOk.sl Tryz.underlying61 (by simp)) (hlen := by rw [strsC_length]; simp; omega) (h := ?_)
     refine R.assign (h := ?_)
     refine .n0 ?_
     refine .inBlock ?_
     refine .region rfl ?_
     first | refine R.add (h := ?_) | refine R.addW (h := ?_)
     refine R.move (h := ?_)
     refine .n0 ?_
     refine .inLoop ?_
     exact LGo.turn [2] (b := 0) (fun o h => by have := (hA o).1 h; omega) (ih (k + 1, e) ⟨by dsimp only; omega, hla, by dsimp only; rw [hba, hbf, Bool.or_false]; exact he⟩ (by dsimp only; omega)) (by repeat (first | exact trivial | refine ⟨rfl, ?_⟩)) ⟨by rw [hst]; rfl, trivial⟩
    ·
     have hfo : formF f = f.s := if_neg (by rw [hc4]; simp)
     refine .seq ?_
     refine .region rfl ?_
     refine R.move (h := ?_)
     refine R.callP (es := [_]) (fun _ => isBare_P f.s (by omega)) (h := ?_)
     refine R.not (h := ?_)
     refine .n0 ?_
     refine LGo.ifb (ht := fun hc5 => ?_) (hf := fun hc5 => ?_)
     ·
      have hbf : badF f = true := by unfold badF; rw [hc4]; simpa using hc5
      refine .region rfl ?_
      refine R.assign (h := ?_)
      refine .n0 ?_
      refine .region rfl ?_
      refine R.move (h := ?_)
      refine R.move (h := ?_)
      refine R.buildSliceG AP61 (xs := [_]) (es := [_]) (hcs := CellsOfs.cons (CellsOf.one rfl) CellsOfs.nil) (h := ?_)
      refine R.appendS AP61 (hs := SrcOk.sl Tryz.underlying61 (by simp)) (hlen := by rw [strsC_length]; simp; omega) (h := ?_)
      refine R.assign (h := ?_)
      refine .n0 ?_
      refine .inBlock ?_
      refine .region rfl ?_
      first | refine R.add (h := ?_) | refine R.addW (h := ?_)
      refine R.move (h := ?_)
      refine .n0 ?_
      refine .inLoop ?_
      exact LGo.turn [2] (b := 0) (fun o h => by have := (hA o).1 h; omega) (ih (k + 1, 6) ⟨by dsimp only; omega, hla, by dsimp only; rw [hba, hbf, Bool.or_true]; rfl⟩ (by dsimp only; omega)) (by repeat (first | exact trivial | refine ⟨rfl, ?_⟩)) ⟨by rw [hst, hfo]; rfl, trivial⟩
     ·
      have hbf : badF f = false := by unfold badF; rw [hc4]; simpa using hc5
      refine .skip ?_
      refine .region rfl ?_
      refine R.move (h := ?_)
      refine R.move (h := ?_)
      refine R.buildSliceG AP61 (xs := [_]) (es := [_]) (hcs := CellsOfs.cons (CellsOf.one rfl) CellsOfs.nil) (h := ?_)
      refine R.appendS AP61 (hs := SrcOk.sl Tryz.underlying61 (by simp)) (hlen := by rw [strsC_length]; simp; omega) (h := ?_)
      refine R.assign (h := ?_)
      refine .n0 ?_
      refine .inBlock ?_
      refine .region rfl ?_
      first | refine R.add (h := ?_) | refine R.addW (h := ?_)
      refine R.move (h := ?_)
      refine .n0 ?_
      refine .inLoop ?_
      exact LGo.turn [2] (b := 0) (fun o h => by have := (hA o).1 h; omega) (ih (k + 1, e) ⟨by dsimp only; omega, hla, by dsimp only; rw [hba, hbf, Bool.or_false]; exact he⟩ (by dsimp only; omega)) (by repeat (first | exact trivial | refine ⟨rfl, ?_⟩)) ⟨by rw [hst, hfo]; rfl, trivial⟩
  ·
   obtain rfl : k = l.length := by omega
   rw [List.take_length] at hlk he
   rw [List.take_length]
   rw [if_neg (by rw [hlk]; simp)] at e1
   have hbd := lineF_bound l (long_no hlk)
   refine LGo.frz 0 (h := ?_)
   refine .exit rfl ?_
   refine .seq ?_
   refine .region rfl ?_
   refine R.move (h := ?_)
   refine R.callP (es := [_, _]) (fun _ => PC.strJoin (Entr.of Tryz.func43 rfl (by kernel_rfl)) Tryz.strings_Join_none Tryz.strings_Join (l.map formF) [32] (by rw [List.length_map]; omega) (by show (lineF l).length ≤ _; omega)) (h := ?_)
   rw [show Lib.join (l.map formF) [32] = lineF l from rfl]
   refine R.assign (h := ?_)
   refine .n0 ?_
   refine .seq ?_
   refine .block ?_
   refine .seq ?_
   refine .region rfl ?_
   refine R.move (h := ?_)
   refine R.bin (run_neq _ _ _ _ _ _) (h := ?_)
   refine R.assign (h := ?_)
   refine .n0 ?_
   refine LGo.ifb (ht := fun hc6 => ?_) (hf := fun hc6 => ?_)
   ·
    have hb : badA l = true := by cases h : badA l with | true => rfl | false => rw [h] at he; simp [he] at hc6
    rw [if_pos hb] at e1 he; rw [he, ← e1]
    refine .seq ?_
    refine .region rfl ?_
    refine R.move (h := ?_)
    refine R.assign (h := ?_)
    refine R.assign (h := ?_)
    refine .n0 ?_
    exact LGo.ret (ret_TT Tryz.results17 hA hmd)
   ·
    have hb : ¬ badA l = true := by intro h; rw [if_pos h] at he; simp [he] at hc6
    rw [if_neg hb] at e1
    refine .seq ?_
    refine .region rfl ?_
    refine R.move (h := ?_)
    refine R.lenT Tryz.runUnderlying9 (h := ?_)
    refine R.bin (run_gtr _ _ _ _ _ _) (h := ?_)
    refine R.assign (h := ?_)
    refine .n0 ?_
    refine LGo.ifd (ht := fun hc7 => ?_) (hf := fun hc7 => ?_)
    ·
     rw [if_pos hc7] at e1; rw [← e1]
     refine .seq ?_
     refine .region rfl ?_
     refine R.assign (h := ?_)
     refine R.assign (h := ?_)
     refine .n0 ?_
     exact LGo.ret (ret_TT Tryz.results17 hA hmd)
    ·
     rw [if_neg hc7] at e1; rw [← e1]
     refine .skip ?_
     refine .inBlock ?_
     refine .seq ?_
     refine .region rfl ?_
     refine R.move (h := ?_)
     refine R.assign (h := ?_)
     refine R.assign (h := ?_)
     refine .n0 ?_
     exact LGo.ret (ret_TT Tryz.results17 hA hmd)

end Go.Proofs.YtmjpkfjgknbfeaaGreatDoor
