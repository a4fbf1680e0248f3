/- words: Join, and the reference's. -/
import Derived.Test.YtmjpkfjgknbfeaaDoorQN
set_option linter.unusedSimpArgs false
set_option linter.unusedVariables false
namespace Go.Proofs.YtmjpkfjgknbfeaaDoor

theorem strsC_snoc1 (l : List (List UInt8)) (s : List UInt8) : strsC (l ++ [s]) = strsC l ++ [[.val (.string ⟨s.toArray⟩)]] := by unfold strsC; rw [List.map_append]; rfl
def badF (f : Fd) : Bool := !f.q && !bareC f.s
def longA (l : List Fd) : Bool := l.any fun f => decide (2000 < f.s.length)
def badA (l : List Fd) : Bool := l.any badF
def joinW (l : List Fd) : List UInt8 × Int := if 64 < (l.length : Int) then ([], 3) else if longA l = true then ([], 3) else if badA l = true then ([], 6) else if 8192 < ((lineF l).length : Int) then ([], 3) else (lineF l, 0)
theorem formF_len {f : Fd} (h : f.s.length ≤ 2000) : (formF f).length ≤ 8002 := by
  unfold formF
  split
  · have := quote_len f.s; omega
  · omega
theorem lineF_snoc (l : List Fd) (f : Fd) : lineF (l ++ [f]) = if l = [] then formF f else lineF l ++ [32] ++ formF f := by
  cases l with
  | nil => rw [if_pos rfl, List.nil_append, lineF_one]
  | cons a l =>
    rw [if_neg (by simp)]
    unfold lineF
    rw [List.cons_append, List.map_cons, Lib.join_cons, List.map_cons, Lib.join_cons, List.map_append]
    simp [Lib.joinTail]
theorem lineF_bound : ∀ l : List Fd, (∀ f ∈ l, f.s.length ≤ 2000) → (lineF l).length ≤ 8003 * l.length
  | [], _ => by simp [lineF, Lib.join_nil]
  | [f], h => by rw [lineF_one]; have := formF_len (h f (by simp)); simp; omega
  | f :: g :: l, h => by
    have h1 := lineF_bound (g :: l) (fun x hx => h x (by simp [hx]))
    have h2 := formF_len (h f (by simp))
    rw [lineF_cons]
    simp only [List.length_append, List.length_cons] at h1 ⊢
    omega
theorem any_take {p : Fd → Bool} {l : List Fd} {k : Nat} (h : k < l.length) : (l.take (k + 1)).any p = ((l.take k).any p || p l[k]) := by
  rw [List.take_succ_eq_append_getElem h, List.any_append]; simp
theorem long_no {l : List Fd} (h : longA l = false) : ∀ f ∈ l, f.s.length ≤ 2000 := by
  intro f hf
  unfold longA at h
  rw [List.any_eq_false] at h
  have := h f hf
  simpa using this
theorem long_yes {l : List Fd} {f : Fd} (hf : f ∈ l) (h : 2000 < f.s.length) : longA l = true := by
  unfold longA
  rw [List.any_eq_true]
  exact ⟨f, hf, by simpa using h⟩

theorem joinW_P (l : List Fd) (hl : l.length ≤ 100000) : PC Tryd.prog 24 [.sv (.sl 2 (l.map Fd.c))] (.tup [.t (joinW l).1, .i (joinW l).2]) := by
 refine ⟨LC.of_go Tryd.func24 (c := _) rfl (by kernel_rfl) (by rw [Tryd.ntmps24]; simp) rfl rfl (by simp [LO.lt, LV.lts, LV.lt]) (by simp) ?_⟩
 intro B hA hmd
 obtain ⟨g, e0⟩ : ∃ g, joinW l = g := ⟨_, rfl⟩
 have e1 := e0
 unfold joinW at e1
 rw [e0]
 refine .seq ?_
 refine .region rfl ?_
 refine R.assign (h := ?_)
 refine R.assign (h := ?_)
 refine .n0 ?_
 refine .seq ?_
 refine .seq ?_
 refine .region rfl ?_
 refine R.move (h := ?_)
 first | refine R.len S23 (h := ?_) | refine R.lenRs S23 (h := ?_) | refine R.lenV (run_lenNil S23) (h := ?_)
 rw [List.length_map]
 refine R.bin (run_gtr _ _ _ _ _ _) (h := ?_)
 refine .n0 ?_
 refine LGo.ifd (ht := fun hc => ?_) (hf := fun hc => ?_)
 ·
  rw [if_pos hc] at e1; rw [← e1]
  refine .seq ?_
  refine .region rfl ?_
  refine R.assign (h := ?_)
  refine R.assign (h := ?_)
  refine .n0 ?_
  exact LGo.ret (ret_TT Tryd.results24 hA hmd)
 ·
  rw [if_neg hc] at e1
  refine .skip ?_
  refine .seq ?_
  refine .region rfl ?_
  refine R.assign (h := ?_)
  refine .n0 ?_
  refine .seq ?_
  refine .region rfl ?_
  refine R.assign (h := ?_)
  refine .n0 ?_
  refine .seq ?_
  refine .seq ?_
  refine .region rfl ?_
  refine R.move (h := ?_)
  first | refine R.len S23 (h := ?_) | refine R.lenRs S23 (h := ?_) | refine R.lenV (run_lenNil S23) (h := ?_)
  rw [List.length_map]
  refine R.move (h := ?_)
  refine .n0 ?_
  refine .block ?_
  refine .loop ?_
  refine LGo.nilRs 5 9 1 (h := ?_)
  refine LGo.loopG (σ := Nat × Int) (fun x => x.1 ≤ l.length ∧ longA (l.take x.1) = false ∧ x.2 = (if badA (l.take x.1) = true then 6 else 0)) (fun x => [(15, (true, .i (x.1 : Nat))), (5, (true, .ref 0)), (4, (true, .i x.2))]) (fun x => [(0, .rs 9 1 (strsC ((l.take x.1).map formF)))]) (fun x => l.length - x.1) (0, 0) [(13, _), (14, _)] ⟨Nat.zero_le _, rfl, rfl⟩ (by repeat (first | exact trivial | refine ⟨rfl, ?_⟩)) (by repeat (first | exact trivial | refine ⟨rfl, ?_⟩)) (by repeat (first | exact trivial | refine ⟨rfl, ?_⟩)) ?_
  rintro ⟨k, e⟩ ⟨hk, hlk, he⟩ ih
  dsimp only at * 
  refine .seq ?_
  refine .region rfl ?_
  refine R.bin (run_lss _ _ _ _ _ _) (h := ?_)
  refine .n0 ?_
  refine .seq ?_
  refine LGo.ifd (ht := fun hc2 => ?_) (hf := fun hc2 => ?_)
  ·
   have hlt : k < l.length := by omega
   have hx : (l.map Fd.c)[((k : Nat) : Int).toNat]? = some l[k].c := by simp [hlt]
   have hla := any_take (p := fun f => decide (2000 < f.s.length)) hlt
   have hba := any_take (p := badF) hlt
   have htk : (l.take (k + 1)).map formF = (l.take k).map formF ++ [formF l[k]] := by rw [List.take_succ_eq_append_getElem hlt, List.map_append]; rfl
   have hmem : l[k] ∈ l := List.getElem_mem hlt
   have hll : (l.take k).length ≤ 64 := by rw [List.length_take]; omega
   generalize l[k] = f at hx hla hba htk hmem
   have hst : strsC ((l.take (k + 1)).map formF) = strsC ((l.take k).map formF) ++ [[.val (.string ⟨(formF f).toArray⟩)]] := by rw [htk, strsC_snoc1]
   refine .skip ?_
   refine .seq ?_
   refine .block ?_
   refine .seq ?_
   refine .region rfl ?_
   refine R.index I23 (hj := fun hg => ⟨by omega, hx⟩) (h := ?_)
   first | refine R.loadA A43 (h := ?_) | refine R.loadN A43 (h := ?_) | refine R.loadP A43 (h := ?_)
   refine R.alloc Z43 (h := ?_)
   refine R.storeA A43 (h := ?_)
   refine .n0 ?_
   refine .seq ?_
   refine .seq ?_
   refine .region rfl ?_
   first | refine R.field F43_0 (h := ?_) | refine R.fieldAt F43_0 (h := ?_)
   first | refine R.loadB O9 (h := ?_) | refine R.load1 O9 (h := ?_)
   refine R.lenT Tryd.runUnderlying9 (h := ?_)
   refine R.bin (run_gtr _ _ _ _ _ _) (h := ?_)
   refine .n0 ?_
   refine LGo.ifd (ht := fun hc3 => ?_) (hf := fun hc3 => ?_)
   ·
    rw [if_pos (long_yes hmem (by omega))] at e1; rw [← e1]
    refine .seq ?_
    refine .region rfl ?_
    refine R.assign (h := ?_)
    refine R.assign (h := ?_)
    refine .n0 ?_
    exact LGo.ret (ret_TT Tryd.results24 hA hmd)
   ·
    have hls : decide (2000 < f.s.length) = false := by simp; omega
    rw [show (l.take (k + 1)).any (fun f => decide (2000 < f.s.length)) = longA (l.take (k + 1)) from rfl, show (l.take k).any (fun f => decide (2000 < f.s.length)) = longA (l.take k) from rfl, hls, hlk] at hla
    rw [show (l.take (k + 1)).any badF = badA (l.take (k + 1)) from rfl, show (l.take k).any badF = badA (l.take k) from rfl] at hba
    refine .skip ?_
    refine .seq ?_
    refine .region rfl ?_
    first | refine R.field F43_0 (h := ?_) | refine R.fieldAt F43_0 (h := ?_)
    first | refine R.loadB O9 (h := ?_) | refine R.load1 O9 (h := ?_)
    refine R.assign (h := ?_)
    refine .n0 ?_
    refine .seq ?_
    refine .seq ?_
    refine .region rfl ?_
    first | refine R.field F43_1 (h := ?_) | refine R.fieldAt F43_1 (h := ?_)
    first | refine R.loadB O4 (h := ?_) | refine R.load1 O4 (h := ?_)
    refine .n0 ?_
    refine LGo.ifb (ht := fun hc4 => ?_) (hf := fun hc4 => ?_)
    ·
     have hfo : formF f = quote f.s := if_pos hc4
     have hbf : badF f = false := by unfold badF; rw [hc4]; rfl
     refine .region rfl ?_
     refine R.move (h := ?_)
     refine R.callP (es := [_]) (fun _ => quote_P f.s (by omega)) (h := ?_)
     rw [← hfo]
     refine R.assign (h := ?_)
     refine .n0 ?_
     refine .region rfl ?_
     refine R.move (h := ?_)
     refine R.move (h := ?_)
     refine R.buildSliceG AP59 (xs := [_]) (es := [_]) (hcs := CellsOfs.cons (CellsOf.one rfl) CellsOfs.nil) (h := ?_)
     refine R.appendS AP59 (hs := SrcOk.sl Tryd.underlying59 (by simp)) (hlen := by rw [strsC_length]; simp; omega) (h := ?_)
     refine R.assign (h := ?_)
     refine .n0 ?_
     refine .inBlock ?_
     refine .region rfl ?_
     first | refine R.add (h := ?_) | refine R.addW (h := ?_)
     refine R.move (h := ?_)
     refine .n0 ?_
     refine .inLoop ?_
     exact LGo.turn [2] (b := 0) (fun o h => by have := (hA o).1 h; omega) (ih (k + 1, e) ⟨by dsimp only; omega, hla, by dsimp only; rw [hba, hbf, Bool.or_false]; exact he⟩ (by dsimp only; omega)) (by repeat (first | exact trivial | refine ⟨rfl, ?_⟩)) ⟨by rw [hst]; rfl, trivial⟩
    ·
     have hfo : formF f = f.s := if_neg (by rw [hc4]; simp)
     refine .seq ?_
     refine .region rfl ?_
     refine R.move (h := ?_)
     refine R.callP (es := [_]) (fun _ => isBare_P f.s (by omega)) (h := ?_)
     refine R.not (h := ?_)
     refine .n0 ?_
     refine LGo.ifb (ht := fun hc5 => ?_) (hf := fun hc5 => ?_)
     ·
      have hbf : badF f = true := by unfold badF; rw [hc4]; simpa using hc5
      refine .region rfl ?_
      refine R.assign (h := ?_)
      refine .n0 ?_
      refine .region rfl ?_
      refine R.move (h := ?_)
      refine R.move (h := ?_)
      refine R.buildSliceG AP59 (xs := [_]) (es := [_]) (hcs := CellsOfs.cons (CellsOf.one rfl) CellsOfs.nil) (h := ?_)
      refine R.appendS AP59 (hs := SrcOk.sl Tryd.underlying59 (by simp)) (hlen := by rw [strsC_length]; simp; omega) (h := ?_)
      refine R.assign (h := ?_)
      refine .n0 ?_
      refine .inBlock ?_
      refine .region rfl ?_
      first | refine R.add (h := ?_) | refine R.addW (h := ?_)
      refine R.move (h := ?_)
      refine .n0 ?_
      refine .inLoop ?_
      exact LGo.turn [2] (b := 0) (fun o h => by have := (hA o).1 h; omega) (ih (k + 1, 6) ⟨by dsimp only; omega, hla, by dsimp only; rw [hba, hbf, Bool.or_true]; rfl⟩ (by dsimp only; omega)) (by repeat (first | exact trivial | refine ⟨rfl, ?_⟩)) ⟨by rw [hst, hfo]; rfl, trivial⟩
     ·
      have hbf : badF f = false := by unfold badF; rw [hc4]; simpa using hc5
      refine .skip ?_
      refine .region rfl ?_
      refine R.move (h := ?_)
      refine R.move (h := ?_)
      refine R.buildSliceG AP59 (xs := [_]) (es := [_]) (hcs := CellsOfs.cons (CellsOf.one rfl) CellsOfs.nil) (h := ?_)
      refine R.appendS AP59 (hs := SrcOk.sl Tryd.underlying59 (by simp)) (hlen := by rw [strsC_length]; simp; omega) (h := ?_)
      refine R.assign (h := ?_)
      refine .n0 ?_
      refine .inBlock ?_
      refine .region rfl ?_
      first | refine R.add (h := ?_) | refine R.addW (h := ?_)
      refine R.move (h := ?_)
      refine .n0 ?_
      refine .inLoop ?_
      exact LGo.turn [2] (b := 0) (fun o h => by have := (hA o).1 h; omega) (ih (k + 1, e) ⟨by dsimp only; omega, hla, by dsimp only; rw [hba, hbf, Bool.or_false]; exact he⟩ (by dsimp only; omega)) (by repeat (first | exact trivial | refine ⟨rfl, ?_⟩)) ⟨by rw [hst, hfo]; rfl, trivial⟩
  ·
   obtain rfl : k = l.length := by omega
   rw [List.take_length] at hlk he
   rw [List.take_length]
   rw [if_neg (by rw [hlk]; simp)] at e1
   have hbd := lineF_bound l (long_no hlk)
   refine LGo.frz 0 (h := ?_)
   refine .exit rfl ?_
   refine .seq ?_
   refine .region rfl ?_
   refine R.move (h := ?_)
   refine R.callP (es := [_, _]) (fun _ => PC.strJoin (Entr.of Tryd.func43 rfl (by kernel_rfl)) Tryd.strings_Join_none Tryd.strings_Join (l.map formF) [32] (by rw [List.length_map]; omega) (by show (lineF l).length ≤ _; omega)) (h := ?_)
   rw [show Lib.join (l.map formF) [32] = lineF l from rfl]
   refine R.assign (h := ?_)
   refine .n0 ?_
   refine .seq ?_
   refine .block ?_
   refine .seq ?_
   refine .region rfl ?_
   refine R.move (h := ?_)
   refine R.bin (run_neq _ _ _ _ _ _) (h := ?_)
   refine R.assign (h := ?_)
   refine .n0 ?_
   refine LGo.ifb (ht := fun hc6 => ?_) (hf := fun hc6 => ?_)
   ·
    have hb : badA l = true := by cases h : badA l with | true => rfl | false => rw [h] at he; simp [he] at hc6
    rw [if_pos hb] at e1 he; rw [he, ← e1]
    refine .seq ?_
    refine .region rfl ?_
    refine R.move (h := ?_)
    refine R.assign (h := ?_)
    refine R.assign (h := ?_)
    refine .n0 ?_
    exact LGo.ret (ret_TT Tryd.results24 hA hmd)
   ·
    have hb : ¬ badA l = true := by intro h; rw [if_pos h] at he; simp [he] at hc6
    rw [if_neg hb] at e1
    refine .seq ?_
    refine .region rfl ?_
    refine R.move (h := ?_)
    refine R.lenT Tryd.runUnderlying9 (h := ?_)
    refine R.bin (run_gtr _ _ _ _ _ _) (h := ?_)
    refine R.assign (h := ?_)
    refine .n0 ?_
    refine LGo.ifd (ht := fun hc7 => ?_) (hf := fun hc7 => ?_)
    ·
     rw [if_pos hc7] at e1; rw [← e1]
     refine .seq ?_
     refine .region rfl ?_
     refine R.assign (h := ?_)
     refine R.assign (h := ?_)
     refine .n0 ?_
     exact LGo.ret (ret_TT Tryd.results24 hA hmd)
    ·
     rw [if_neg hc7] at e1; rw [← e1]
     refine .skip ?_
     refine .inBlock ?_
     refine .seq ?_
     refine .region rfl ?_
     refine R.move (h := ?_)
     refine R.assign (h := ?_)
     refine R.assign (h := ?_)
     refine .n0 ?_
     exact LGo.ret (ret_TT Tryd.results24 hA hmd)

theorem joinR_P (l : List Fd) (hl : l.length ≤ 100000) : PC Tryd.prog 25 [.sv (.sl 2 (l.map Fd.c))] (.tup [.t (joinW l).1, .i (joinW l).2]) := by
 refine ⟨LC.of_go Tryd.func25 (c := _) rfl (by kernel_rfl) (by rw [Tryd.ntmps25]; simp) rfl rfl (by simp [LO.lt, LV.lts, LV.lt]) (by simp) ?_⟩
 intro B hA hmd
 obtain ⟨g, e0⟩ : ∃ g, joinW l = g := ⟨_, rfl⟩
 have e1 := e0
 unfold joinW at e1
 rw [e0]
 refine .seq ?_
 refine .region rfl ?_
 refine R.assign (h := ?_)
 refine R.assign (h := ?_)
 refine .n0 ?_
 refine .seq ?_
 refine .seq ?_
 refine .region rfl ?_
 refine R.move (h := ?_)
 first | refine R.len S23 (h := ?_) | refine R.lenRs S23 (h := ?_) | refine R.lenV (run_lenNil S23) (h := ?_)
 rw [List.length_map]
 refine R.bin (run_gtr _ _ _ _ _ _) (h := ?_)
 refine .n0 ?_
 refine LGo.ifd (ht := fun hc => ?_) (hf := fun hc => ?_)
 ·
  rw [if_pos hc] at e1; rw [← e1]
  refine .seq ?_
  refine .region rfl ?_
  refine R.assign (h := ?_)
  refine R.assign (h := ?_)
  refine .n0 ?_
  exact LGo.ret (ret_TT Tryd.results25 hA hmd)
 ·
  rw [if_neg hc] at e1
  refine .skip ?_
  refine .seq ?_
  refine .seq ?_
  refine .region rfl ?_
  refine R.assign (h := ?_)
  refine .n0 ?_
  refine .block ?_
  refine .loop ?_
  refine LGo.loopG (σ := Nat) (fun x => x ≤ l.length ∧ longA (l.take x) = false) (fun x => [(4, (true, .i (x : Nat)))]) (fun x => []) (fun x => l.length - x) (0) [(0, _)] ⟨Nat.zero_le _, rfl⟩ (by repeat (first | exact trivial | refine ⟨rfl, ?_⟩)) (by repeat (first | exact trivial | refine ⟨rfl, ?_⟩)) (by repeat (first | exact trivial | refine ⟨rfl, ?_⟩)) ?_
  rintro k ⟨hk, hlk⟩ ih
  refine .seq ?_
  refine .seq ?_
  refine .region rfl ?_
  refine R.move (h := ?_)
  refine R.move (h := ?_)
  first | refine R.len S23 (h := ?_) | refine R.lenRs S23 (h := ?_) | refine R.lenV (run_lenNil S23) (h := ?_)
  rw [List.length_map]
  refine R.bin (run_lss _ _ _ _ _ _) (h := ?_)
  refine .n0 ?_
  refine LGo.ifd (ht := fun hc2 => ?_) (hf := fun hc2 => ?_)
  ·
   have hlt : k < l.length := by omega
   have hx : (l.map Fd.c)[((k : Nat) : Int).toNat]? = some l[k].c := by simp [hlt]
   have hla := any_take (p := fun f => decide (2000 < f.s.length)) hlt
   have hmem : l[k] ∈ l := List.getElem_mem hlt
   generalize l[k] = f at hx hla hmem
   refine .skip ?_
   refine .seq ?_
   refine .block ?_
   refine .seq ?_
   refine .region rfl ?_
   refine R.move (h := ?_)
   refine R.move (h := ?_)
   refine R.index I23 (hj := fun hg => ⟨by omega, hx⟩) (h := ?_)
   first | refine R.field F43_0 (h := ?_) | refine R.fieldAt F43_0 (h := ?_)
   first | refine R.loadB O9 (h := ?_) | refine R.load1 O9 (h := ?_)
   refine R.lenT Tryd.runUnderlying9 (h := ?_)
   refine R.bin (run_gtr _ _ _ _ _ _) (h := ?_)
   refine .n0 ?_
   refine LGo.ifd (ht := fun hc3 => ?_) (hf := fun hc3 => ?_)
   ·
    rw [if_pos (long_yes hmem (by omega))] at e1; rw [← e1]
    refine .seq ?_
    refine .region rfl ?_
    refine R.assign (h := ?_)
    refine R.assign (h := ?_)
    refine .n0 ?_
    exact LGo.ret (ret_TT Tryd.results25 hA hmd)
   ·
    have hls : decide (2000 < f.s.length) = false := by simp; omega
    rw [show (l.take (k + 1)).any (fun f => decide (2000 < f.s.length)) = longA (l.take (k + 1)) from rfl, show (l.take k).any (fun f => decide (2000 < f.s.length)) = longA (l.take k) from rfl, hls, hlk] at hla
    refine .skip ?_
    refine .inBlock ?_
    refine .region rfl ?_
    refine R.move (h := ?_)
    first | refine R.add (h := ?_) | refine R.addW (h := ?_)
    refine R.assign (h := ?_)
    refine .n0 ?_
    refine .inLoop ?_
    exact LGo.next _ (fun o h => by have := (hA o).1 h; omega) (by omega) (ih (k + 1) ⟨hlt, hla⟩ (by omega)) (by repeat (first | exact trivial | refine ⟨rfl, ?_⟩)) (by repeat (first | exact trivial | refine ⟨rfl, ?_⟩))
  ·
   obtain rfl : k = l.length := by omega
   rw [List.take_length] at hlk
   rw [if_neg (by rw [hlk]; simp)] at e1
   have hln := long_no hlk
   refine .exit rfl ?_
   refine .seq ?_
   refine .region rfl ?_
   refine R.assign (h := ?_)
   refine .n0 ?_
   refine .seq ?_
   refine .seq ?_
   refine .region rfl ?_
   refine R.assign (h := ?_)
   refine .n0 ?_
   refine .block ?_
   refine .loop ?_
   refine LGo.loopG (σ := Nat) (fun x => x ≤ l.length ∧ badA (l.take x) = false) (fun x => [(6, (true, .i (x : Nat))), (5, (true, .t (lineF (l.take x))))]) (fun x => []) (fun x => l.length - x) (0) [(0, _)] ⟨Nat.zero_le _, rfl⟩ (by repeat (first | exact trivial | refine ⟨rfl, ?_⟩)) (by repeat (first | exact trivial | refine ⟨rfl, ?_⟩)) (by repeat (first | exact trivial | refine ⟨rfl, ?_⟩)) ?_
   rintro k ⟨hk, hbk⟩ ih2
   refine .seq ?_
   refine .seq ?_
   refine .region rfl ?_
   refine R.move (h := ?_)
   refine R.move (h := ?_)
   first | refine R.len S23 (h := ?_) | refine R.lenRs S23 (h := ?_) | refine R.lenV (run_lenNil S23) (h := ?_)
   rw [List.length_map]
   refine R.bin (run_lss _ _ _ _ _ _) (h := ?_)
   refine .n0 ?_
   refine LGo.ifd (ht := fun hc4 => ?_) (hf := fun hc4 => ?_)
   ·
    have hlt : k < l.length := by omega
    have hx : (l.map Fd.c)[((k : Nat) : Int).toNat]? = some l[k].c := by simp [hlt]
    have hba := any_take (p := badF) hlt
    rw [show (l.take (k + 1)).any badF = badA (l.take (k + 1)) from rfl, show (l.take k).any badF = badA (l.take k) from rfl, hbk, Bool.false_or] at hba
    have hsn := lineF_snoc (l.take k) l[k]
    rw [← List.take_succ_eq_append_getElem hlt] at hsn
    have hmem : l[k] ∈ l := List.getElem_mem hlt
    have hfl := hln l[k] hmem
    have hbd := lineF_bound (l.take k) (fun f hf => hln f (List.mem_of_mem_take hf))
    have hbl : (l.take k).length ≤ 64 := by rw [List.length_take]; omega
    have hnil : l.take k = [] ↔ k = 0 := by
      constructor
      · intro h; have h2 : (l.take k).length = 0 := by rw [h]; rfl
        rw [List.length_take] at h2; omega
      · intro h; rw [h]; rfl
    generalize l[k] = f at hx hba hsn hfl hmem
    have hform := formF_len hfl
    refine .skip ?_
    refine .seq ?_
    refine .block ?_
    refine .seq ?_
    refine .seq ?_
    refine .region rfl ?_
    refine R.move (h := ?_)
    refine R.move (h := ?_)
    refine R.index I23 (hj := fun hg => ⟨by omega, hx⟩) (h := ?_)
    first | refine R.field F43_1 (h := ?_) | refine R.fieldAt F43_1 (h := ?_)
    first | refine R.loadB O4 (h := ?_) | refine R.load1 O4 (h := ?_)
    refine R.not (h := ?_)
    refine R.move (h := ?_)
    refine R.move (h := ?_)
    refine R.move (h := ?_)
    refine R.index I23 (hj := fun hg => ⟨by (simp at hg; omega), hx⟩) (h := ?_)
    first | refine R.field F43_0 (h := ?_) | refine R.fieldAt F43_0 (h := ?_)
    first | refine R.loadB O9 (h := ?_) | refine R.load1 O9 (h := ?_)
    refine R.callP (es := [_]) (fun _ => bareR_P f.s (by omega)) (h := ?_)
    refine R.not (h := ?_)
    refine R.and (h := ?_)
    refine .n0 ?_
    refine LGo.ifb (ht := fun hc5 => ?_) (hf := fun hc5 => ?_)
    ·
     have hbf : badF f = true := by unfold badF; simp only [Bool.or_eq_true, Bool.and_eq_true, decide_eq_true_eq, Bool.or_eq_false_iff, Bool.and_eq_false_iff, decide_eq_false_iff_not, Bool.not_eq_true', Bool.not_eq_false', Bool.not_eq_true, Bool.not_eq_false, Bool.false_eq_true, Bool.true_eq_false, iff_true, true_iff, iff_false, false_iff] at hc5 ⊢; exact hc5
     rw [if_pos (show badA l = true from by unfold badA; rw [List.any_eq_true]; exact ⟨f, hmem, hbf⟩)] at e1; rw [← e1]
     refine .seq ?_
     refine .region rfl ?_
     refine R.assign (h := ?_)
     refine R.assign (h := ?_)
     refine .n0 ?_
     exact LGo.ret (ret_TT Tryd.results25 hA hmd)
    ·
     have hbf : badF f = false := by unfold badF; simp only [Bool.or_eq_true, Bool.and_eq_true, decide_eq_true_eq, Bool.or_eq_false_iff, Bool.and_eq_false_iff, decide_eq_false_iff_not, Bool.not_eq_true', Bool.not_eq_false', Bool.not_eq_true, Bool.not_eq_false, Bool.false_eq_true, Bool.true_eq_false, iff_true, true_iff, iff_false, false_iff] at hc5 ⊢; exact hc5
     rw [hbf] at hba
     refine .skip ?_
     refine .seq ?_
     refine .seq ?_
     refine .region rfl ?_
     refine R.move (h := ?_)
     refine R.bin (run_gtr _ _ _ _ _ _) (h := ?_)
     refine .n0 ?_
     refine LGo.cut (σ := List UInt8) (fun x => lineF (l.take (k + 1)) = x ++ formF f ∧ x.length ≤ 600000) (fun x => [(5, (true, .t x))]) (fun x => []) 0 [(0, _), (6, _), (36, _), (37, _), (38, _), (39, _), (40, _), (41, _), (42, _)] (by repeat (first | exact trivial | refine ⟨rfl, ?_⟩)) ?_ (fun hcut => ?_)
     ·
      rintro o ⟨hso, hol⟩
      refine .seq ?_
      refine .region rfl ?_
      refine R.move (h := ?_)
      refine R.move (h := ?_)
      refine R.index I23 (hj := fun hg => ⟨by omega, hx⟩) (h := ?_)
      first | refine R.field F43_1 (h := ?_) | refine R.fieldAt F43_1 (h := ?_)
      first | refine R.loadB O4 (h := ?_) | refine R.load1 O4 (h := ?_)
      refine .n0 ?_
      refine LGo.ifb (ht := fun hc7 => ?_) (hf := fun hc7 => ?_)
      ·
       have hfo : formF f = quote f.s := if_pos hc7
       rw [hfo] at hso hform
       refine .region rfl ?_
       refine R.move (h := ?_)
       refine R.move (h := ?_)
       refine R.move (h := ?_)
       refine R.index I23 (hj := fun hg => ⟨by omega, hx⟩) (h := ?_)
       first | refine R.field F43_0 (h := ?_) | refine R.fieldAt F43_0 (h := ?_)
       first | refine R.loadB O9 (h := ?_) | refine R.load1 O9 (h := ?_)
       refine R.callP (es := [_]) (fun _ => quoteR_P f.s (by omega)) (h := ?_)
       refine R.bin (run_addT _ _ _ (o) (quote f.s) (by first | omega | (simp; omega))) (h := ?_)
       rw [← hso]
       refine R.assign (h := ?_)
       refine .n0 ?_
       refine .inBlock ?_
       refine .region rfl ?_
       refine R.move (h := ?_)
       first | refine R.add (h := ?_) | refine R.addW (h := ?_)
       refine R.assign (h := ?_)
       refine .n0 ?_
       refine .inLoop ?_
       exact LGo.next _ (fun o h => by have := (hA o).1 h; omega) (by omega) (ih2 (k + 1) ⟨hlt, hba⟩ (by omega)) (by repeat (first | exact trivial | refine ⟨rfl, ?_⟩)) (by repeat (first | exact trivial | refine ⟨rfl, ?_⟩))
      ·
       have hfo : formF f = f.s := if_neg (by rw [hc7]; simp)
       rw [hfo] at hso hform
       refine .region rfl ?_
       refine R.move (h := ?_)
       refine R.move (h := ?_)
       refine R.move (h := ?_)
       refine R.index I23 (hj := fun hg => ⟨by omega, hx⟩) (h := ?_)
       first | refine R.field F43_0 (h := ?_) | refine R.fieldAt F43_0 (h := ?_)
       first | refine R.loadB O9 (h := ?_) | refine R.load1 O9 (h := ?_)
       refine R.bin (run_addT _ _ _ (o) (f.s) (by first | omega | (simp; omega))) (h := ?_)
       rw [← hso]
       refine R.assign (h := ?_)
       refine .n0 ?_
       refine .inBlock ?_
       refine .region rfl ?_
       refine R.move (h := ?_)
       first | refine R.add (h := ?_) | refine R.addW (h := ?_)
       refine R.assign (h := ?_)
       refine .n0 ?_
       refine .inLoop ?_
       exact LGo.next _ (fun o h => by have := (hA o).1 h; omega) (by omega) (ih2 (k + 1) ⟨hlt, hba⟩ (by omega)) (by repeat (first | exact trivial | refine ⟨rfl, ?_⟩)) (by repeat (first | exact trivial | refine ⟨rfl, ?_⟩))
     ·
      refine LGo.ifd (ht := fun hc6 => ?_) (hf := fun hc6 => ?_)
      ·
       rw [if_neg (by rw [hnil]; omega)] at hsn
       refine .region rfl ?_
       refine R.move (h := ?_)
       refine R.bin (run_addT _ _ _ (lineF (l.take k)) ([32]) (by first | omega | (simp; omega))) (h := ?_)
       refine R.assign (h := ?_)
       refine .n0 ?_
       exact LGo.next _ (fun o h => by have := (hA o).1 h; omega) (by omega) (hcut (lineF (l.take k) ++ [32]) ⟨hsn, by rw [List.length_append]; simp; omega⟩) (by repeat (first | exact trivial | refine ⟨rfl, ?_⟩)) (by repeat (first | exact trivial | refine ⟨rfl, ?_⟩))
      ·
       refine .skip ?_
       have hk0 : k = 0 := by omega
       rw [if_pos (hnil.2 hk0)] at hsn
       exact LGo.next _ (fun o h => by have := (hA o).1 h; omega) (by omega) (hcut (lineF (l.take k)) ⟨by rw [hsn, hnil.2 hk0]; rfl, by omega⟩) (by repeat (first | exact trivial | refine ⟨rfl, ?_⟩)) (by repeat (first | exact trivial | refine ⟨rfl, ?_⟩))
   ·
    obtain rfl : k = l.length := by omega
    rw [List.take_length] at hbk
    rw [List.take_length]
    rw [if_neg (by rw [hbk]; simp)] at e1
    refine .exit rfl ?_
    refine .seq ?_
    refine .seq ?_
    refine .region rfl ?_
    refine R.move (h := ?_)
    refine R.lenT Tryd.runUnderlying9 (h := ?_)
    refine R.bin (run_gtr _ _ _ _ _ _) (h := ?_)
    refine .n0 ?_
    refine LGo.ifd (ht := fun hc8 => ?_) (hf := fun hc8 => ?_)
    ·
     rw [if_pos hc8] at e1; rw [← e1]
     refine .seq ?_
     refine .region rfl ?_
     refine R.assign (h := ?_)
     refine R.assign (h := ?_)
     refine .n0 ?_
     exact LGo.ret (ret_TT Tryd.results25 hA hmd)
    ·
     rw [if_neg hc8] at e1; rw [← e1]
     refine .skip ?_
     refine .seq ?_
     refine .region rfl ?_
     refine R.move (h := ?_)
     refine R.assign (h := ?_)
     refine R.assign (h := ?_)
     refine .n0 ?_
     exact LGo.ret (ret_TT Tryd.results25 hA hmd)

end Go.Proofs.YtmjpkfjgknbfeaaDoor
