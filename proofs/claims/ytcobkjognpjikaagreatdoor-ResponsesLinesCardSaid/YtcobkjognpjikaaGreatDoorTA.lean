/- responses: what is read from the fields of a line; Parse. -/
import Derived.Test.YtcobkjognpjikaaGreatDoorRP
import Derived.Test.YtcobkjognpjikaaGreatDoorRX
import Derived.Test.YtcobkjognpjikaaGreatDoorQM
set_option linter.unusedSimpArgs false
set_option linter.unusedVariables false
namespace Go.Proofs.YtcobkjognpjikaaGreatDoor

def rsNames2 : List (List UInt8) := [[], [111, 112, 101, 110], [104, 111, 108, 100], [98, 108, 111, 99, 107], [114, 101, 108, 101, 97, 115, 101], [98, 117, 121], [116, 114, 97, 110, 115, 102, 101, 114], [114, 101, 102, 117, 110, 100], [114, 101, 118, 111, 107, 101], [118, 97, 108, 105, 100, 97, 116, 101], [106, 111, 105, 110], [108, 101, 97, 118, 101], [], [101, 110, 116, 101, 114]]
/-- the fields of a message that the fields of a line say -/
def readGo : List Rule → List Fd → List Fld → List Fld × Bool
  | [], _, acc => (acc, true)
  | _ :: _, [], _ => ([], false)
  | x :: rs, f :: fs, acc => if (!decide (f.q = decide (x.kind = 2))) = true then ([], false) else if f.q = true then readGo rs fs (acc ++ [⟨x.tag, 0, f.s⟩]) else
      if (!decide ((intW f.s x.low x.high).2 = 0)) = true then ([], false) else readGo rs fs (acc ++ [⟨x.tag, (intW f.s x.low x.high).1, []⟩])
def readQ (rs : List Rule) (fs : List Fd) : List Fld × Bool := if (!decide ((fs.length : Int) = rs.length)) = true then ([], false) else readGo rs fs []
/-- rules whose numbers are numbers of 63 bits -/
def Low63 (rs : List Rule) : Prop := ∀ x ∈ rs, (x.kind = 1 ∨ x.kind = 2) ∧ 0 ≤ x.low ∧ x.low ≤ 9223372036854775807 ∧ 0 ≤ x.high ∧ x.high ≤ 9223372036854775807
theorem intW_cases (s : List UInt8) (lo hi : Int) : intW s lo hi = if decC s = true ∧ inI (decV s) = true ∧ lo ≤ decV s ∧ decV s ≤ hi then (decV s, 0) else if decC s = false then (0, 6) else (0, 7) := by
  unfold intW
  cases h1 : decC s <;> cases h2 : inI (decV s) <;> simp
  by_cases h3 : lo ≤ decV s
  · by_cases h4 : decV s ≤ hi
    · rw [if_neg (by omega), if_pos ⟨h3, h4⟩]
    · rw [if_pos (by omega), if_neg (by omega)]
  · rw [if_pos (by omega), if_neg (by omega)]
theorem intW_in {s : List UInt8} {lo hi : Int} (h : (intW s lo hi).2 = 0) : lo ≤ (intW s lo hi).1 ∧ (intW s lo hi).1 ≤ hi ∧ decC s = true ∧ (intW s lo hi).1 = decV s := by
  rw [intW_cases] at h ⊢
  split at h
  · rename_i h1
    rw [if_pos h1]
    exact ⟨h1.2.2.1, h1.2.2.2, h1.1, rfl⟩
  · split at h <;> cases h
theorem limitS_63 (k t : Int) : ((limitS k t).kind = 1 ∨ (limitS k t).kind = 2) ∧ 0 ≤ (limitS k t).low ∧ (limitS k t).low ≤ 9223372036854775807 ∧ 0 ≤ (limitS k t).high ∧ (limitS k t).high ≤ 9223372036854775807 := by
  unfold limitS
  (repeat' split) <;> simp
theorem limitsS_63 (k e : Int) : Low63 (limitsS k e) := fun x hx => by
  obtain ⟨t, _, rfl⟩ := List.mem_map.1 hx
  exact limitS_63 k t
/-- a field that a line's fields say -/
def FldL (x : Fld) : Prop := 0 ≤ x.num ∧ x.num ≤ 9223372036854775807 ∧ x.txt.length ≤ 2000
theorem putL_ok {r : Rs} {f : Fld} (hr : RsOk r) (hf : FldL f) : RsOk (putS r f) := by
  have h1 := hf.2.2
  have h2 : f.txt.length ≤ maxLen := by unfold maxLen; omega
  unfold putS
  (repeat' split) <;> first | exact hr | exact { hr with id := ⟨hf.1, by have := hf.2.1; dsimp only; omega⟩ } | exact { hr with err := sw_ok _ } | exact { hr with ses := h2 } | exact { hr with tic := h2 } | exact { hr with seat := sw_ok _ } | exact { hr with n := sw_ok _ } | exact { hr with place := sw_ok _ } | exact { hr with dl := sw_ok _ }
theorem foldL_go : ∀ (l : List Fld) (r : Rs), RsOk r → (∀ x ∈ l, FldL x) → RsOk (l.foldl putS r)
  | [], r, h, _ => h
  | f :: l, r, h, hl => foldL_go l (putS r f) (putL_ok h (hl f (by simp))) (fun x hx => hl x (by simp [hx]))
theorem foldL_ok {k : Int} {l : List Fld} (hk : R64 k) (hl : ∀ x ∈ l, FldL x) : RsOk (foldS k l) := foldL_go l _ (zeroS_ok hk) hl
theorem readGo_ok : ∀ (rs : List Rule) (fs : List Fd) (acc : List Fld), Low63 rs → (∀ f ∈ fs, f.s.length ≤ 2000) → (∀ x ∈ acc, FldL x) → (∀ x ∈ (readGo rs fs acc).1, FldL x) ∧ (readGo rs fs acc).1.length ≤ acc.length + rs.length
  | [], fs, acc, _, _, h => by rw [readGo]; exact ⟨h, by simp⟩
  | x :: rs, [], acc, _, _, _ => by rw [readGo]; simp
  | x :: rs, f :: fs, acc, h1, h2, h3 => by
    have h1' : Low63 rs := fun y hy => h1 y (by simp [hy])
    have h2' : ∀ g ∈ fs, g.s.length ≤ 2000 := fun g hg => h2 g (by simp [hg])
    have hx := h1 x (by simp)
    rw [readGo]
    split
    · simp
    split
    · have := readGo_ok rs fs (acc ++ [⟨x.tag, 0, f.s⟩]) h1' h2' (fun y hy => (List.mem_append.1 hy).elim (h3 y) (fun h => by rw [List.mem_singleton.1 h]; exact ⟨by simp, by simp, h2 f (by simp)⟩))
      refine ⟨this.1, ?_⟩
      have := this.2
      simp only [List.length_append, List.length_cons, List.length_nil] at this ⊢
      omega
    split
    · simp
    · rename_i h9
      have hin := intW_in (s := f.s) (lo := x.low) (hi := x.high) (by simpa using h9)
      have := readGo_ok rs fs (acc ++ [⟨x.tag, (intW f.s x.low x.high).1, []⟩]) h1' h2' (fun y hy => (List.mem_append.1 hy).elim (h3 y) (fun h => by rw [List.mem_singleton.1 h]; exact ⟨by show 0 ≤ (intW f.s x.low x.high).1; omega, by show (intW f.s x.low x.high).1 ≤ _; omega, by simp⟩))
      refine ⟨this.1, ?_⟩
      have := this.2
      simp only [List.length_append, List.length_cons, List.length_nil] at this ⊢
      omega
theorem readQ_ok {rs : List Rule} {fs : List Fd} (h1 : Low63 rs) (h2 : ∀ f ∈ fs, f.s.length ≤ 2000) : (∀ x ∈ (readQ rs fs).1, FldL x) ∧ (readQ rs fs).1.length ≤ rs.length := by
  unfold readQ
  split
  · simp
  · have := readGo_ok rs fs [] h1 h2 (by simp)
    exact ⟨this.1, by simpa using this.2⟩
theorem longF_go : ∀ (l : List Fd) (b : Bool), l.foldl (fun b f => b || decide (2000 < (f.s.length : Int))) b = false → b = false ∧ ∀ f ∈ l, f.s.length ≤ 2000
  | [], b, h => ⟨h, by simp⟩
  | a :: l, b, h => by
    obtain ⟨h1, h2⟩ := longF_go l _ h
    simp only [Bool.or_eq_false_iff, decide_eq_false_iff_not] at h1
    exact ⟨h1.1, fun f hf => (List.mem_cons.1 hf).elim (fun e => by rw [e]; omega) (h2 f)⟩
theorem split1_len (s : List UInt8) : (split1 s).1.length ≤ 64 ∧ ∀ f ∈ (split1 s).1, f.s.length ≤ 2000 := by
  unfold split1
  split
  · simp
  split
  · simp
  split
  · simp
  split
  · simp
  · rename_i h
    simp only [Bool.or_eq_true, decide_eq_true_eq, not_or] at h
    exact ⟨by show (fldsG (s.length + 1) s).1.length ≤ 64; omega, (longF_go _ _ (by simpa [longF] using h.1)).2⟩
def fd0 (fs : List Fd) : Fd := fs.headD ⟨[], false⟩
theorem fd0_at {fs : List Fd} (h : fs ≠ []) : (fs.map Fd.c)[Int.toNat 0]? = some (fd0 fs).c := by
  cases fs with
  | nil => exact absurd rfl h
  | cons a l => rfl
/-- what the fields behind the word say, of a kind and a form -/
def tryP (k form : Int) (fs : List Fd) : Rs × Bool := if (readQ (limitsS k form) fs).2 = true then acceptS k form (readQ (limitsS k form) fs).1 else (zeroS, false)
def parseGo (nm : List UInt8) (fs : List Fd) : Nat → Nat → Rs × Int
  | 0, _ => (zeroS, 6)
  | n + 1, k => if nm = rsName (k : Int) then (if (tryP k 0 fs).2 = true then ((tryP k 0 fs).1, 0) else if (tryP k 11 fs).2 = true then ((tryP k 11 fs).1, 0) else parseGo nm fs n (k + 1)) else parseGo nm fs n (k + 1)
def parseS (line : List UInt8) : Rs × Int := if ((!decide ((split1 line).2 = 0) || decide (((split1 line).1.length : Int) = 0)) || (fd0 (split1 line).1).q) = true then (zeroS, 6) else parseGo (fd0 (split1 line).1).s ((split1 line).1.drop 1) 14 0

theorem readQ_P (rs : List Rule) (fs : List Fd) (hr : Low63 rs) (hrl : rs.length ≤ 100) (hf : fs.length ≤ 10000) (hfl : ∀ f ∈ fs, f.s.length ≤ 100000) : PC Tryz.prog 30 [.sv (.sl 5 (rs.map Rule.c)), .sv (.sl 2 (fs.map Fd.c))] (.tup [.sv (.sl 3 ((readQ rs fs).1.map Fld.c)), .b (readQ rs fs).2]) := by
 refine ⟨LC.of_go Tryz.func30 (c := _) rfl (by kernel_rfl) (by rw [Tryz.ntmps30]; simp) rfl rfl (by simp [LO.lt, LV.lts, LV.lt]) (by simp) ?_⟩
 intro B hA hmd
 obtain ⟨g, e0⟩ : ∃ g, readQ rs fs = g := ⟨_, rfl⟩
 have e1 := e0
 unfold readQ at e1
 rw [e0]
 refine .seq ?_
 refine .region rfl ?_
 refine R.assign (h := ?_)
 refine R.assign (h := ?_)
 refine .n0 ?_
 refine .seq ?_
 refine .seq ?_
 refine .region rfl ?_
 refine R.move (h := ?_)
 first | refine R.len S64 (h := ?_) | refine R.lenRs S64 (h := ?_) | refine R.lenV (run_lenNil S64) (h := ?_)
 rw [List.length_map]
 refine R.move (h := ?_)
 first | refine R.len S72 (h := ?_) | refine R.lenRs S72 (h := ?_) | refine R.lenV (run_lenNil S72) (h := ?_)
 rw [List.length_map]
 refine R.bin (run_neq _ _ _ _ _ _) (h := ?_)
 refine .n0 ?_
 refine LGo.ifb (ht := fun hc => ?_) (hf := fun hc => ?_)
 ·
  rw [if_pos hc] at e1; rw [← e1]
  refine .seq ?_
  refine .region rfl ?_
  refine R.assign (h := ?_)
  refine R.assign (h := ?_)
  refine .n0 ?_
  first | refine LGo.frzT 4 (h := ?_) | refine LGo.nilSl 4 3 (h := ?_) | skip
  exact LGo.ret (ret_TT Tryz.results30 hA hmd)
 ·
  rw [if_neg (by rw [hc]; simp)] at e1
  have hle : fs.length = rs.length := by simp at hc; omega
  refine .skip ?_
  refine .seq ?_
  refine .region rfl ?_
  refine R.assign (h := ?_)
  refine .n0 ?_
  refine .seq ?_
  refine .seq ?_
  refine .region rfl ?_
  refine R.move (h := ?_)
  first | refine R.len S72 (h := ?_) | refine R.lenRs S72 (h := ?_) | refine R.lenV (run_lenNil S72) (h := ?_)
  rw [List.length_map]
  refine R.move (h := ?_)
  refine .n0 ?_
  refine .block ?_
  refine .loop ?_
  refine LGo.nilRs 6 55 3 (h := ?_)
  refine LGo.loopG (σ := Nat × List Fld) (fun x => x.1 ≤ rs.length ∧ x.2.length ≤ x.1 ∧ readGo (rs.drop x.1) (fs.drop x.1) x.2 = g) (fun x => [(19, (true, .i (x.1 : Nat))), (6, (true, .ref 0))]) (fun x => [(0, .rs 55 3 (x.2.map Fld.c))]) (fun x => rs.length - x.1) (0, []) [(1, _), (17, _), (18, _)] ⟨Nat.zero_le _, Nat.zero_le _, e1⟩ (by repeat (first | exact trivial | refine ⟨rfl, ?_⟩)) (by repeat (first | exact trivial | refine ⟨rfl, ?_⟩)) (by repeat (first | exact trivial | refine ⟨rfl, ?_⟩)) ?_
  rintro ⟨k, acc⟩ ⟨hk, hal, hq⟩ ih
  dsimp only at * 
  refine .seq ?_
  refine .region rfl ?_
  refine R.bin (run_lss _ _ _ _ _ _) (h := ?_)
  refine .n0 ?_
  refine .seq ?_
  refine LGo.ifd (ht := fun hc2 => ?_) (hf := fun hc2 => ?_)
  ·
   have hlt : k < rs.length := by omega
   have hlt2 : k < fs.length := by omega
   have hx : (rs.map Rule.c)[((k : Nat) : Int).toNat]? = some rs[k].c := by simp [hlt]
   have hy : (fs.map Fd.c)[((k : Nat) : Int).toNat]? = some fs[k].c := by simp [hlt2]
   have hd : rs.drop k = rs[k] :: rs.drop (k + 1) := List.drop_eq_getElem_cons hlt
   have hd2 : fs.drop k = fs[k] :: fs.drop (k + 1) := List.drop_eq_getElem_cons hlt2
   obtain ⟨-, hx1, hx2, hx3, hx4⟩ := hr rs[k] (List.getElem_mem hlt)
   have hfs := hfl fs[k] (List.getElem_mem hlt2)
   rw [hd, hd2, readGo] at hq
   generalize rs[k] = x at hx hq hx1 hx2 hx3 hx4
   generalize fs[k] = f at hy hq hfs
   clear hd hd2
   refine .skip ?_
   refine .seq ?_
   refine .block ?_
   refine .seq ?_
   refine .region rfl ?_
   refine R.move (h := ?_)
   refine R.index I72 (hj := fun hg => ⟨by omega, hx⟩) (h := ?_)
   first | refine R.loadA A88 (h := ?_) | refine R.loadN A88 (h := ?_) | refine R.loadP A88 (h := ?_)
   refine R.alloc Z88 (h := ?_)
   refine R.assign (h := ?_)
   refine R.storeA A88 (h := ?_)
   refine .n0 ?_
   refine .seq ?_
   refine .region rfl ?_
   first | refine R.field F88_0 (h := ?_) | refine R.fieldAt F88_0 (h := ?_)
   first | refine R.loadB O3 (h := ?_) | refine R.load1 O3 (h := ?_)
   refine R.build BF55 (is := [0]) (xs := [_]) (es := [_]) (h := ?_)
   refine R.alloc Z55 (h := ?_)
   refine R.storeA A55 (h := ?_)
   refine .n0 ?_
   refine .seq ?_
   refine .block ?_
   refine .seq ?_
   refine .region rfl ?_
   refine R.move (h := ?_)
   refine R.move (h := ?_)
   refine R.index I64 (hj := fun hg => ⟨by omega, hy⟩) (h := ?_)
   first | refine R.field F68_1 (h := ?_) | refine R.fieldAt F68_1 (h := ?_)
   first | refine R.loadB O4 (h := ?_) | refine R.load1 O4 (h := ?_)
   first | refine R.field F88_1 (h := ?_) | refine R.fieldAt F88_1 (h := ?_)
   first | refine R.loadB O3 (h := ?_) | refine R.load1 O3 (h := ?_)
   refine R.bin (run_eql _ _ _ _ _ _) (h := ?_)
   refine R.bin (run_neqB Tryz.underlying4 _ _ _ _) (h := ?_)
   refine R.assign (h := ?_)
   refine Reg.nil ⟨fun _ => ⟨mixedO, by rfl, by rfl⟩, ?_⟩
   refine LGo.ifb (ht := fun hc3 => ?_) (hf := fun hc3 => ?_)
   ·
    rw [if_pos hc3] at hq; rw [← hq]
    refine .seq ?_
    refine .region rfl ?_
    refine R.assign (h := ?_)
    refine R.assign (h := ?_)
    refine .n0 ?_
    first | refine LGo.frzT 4 (h := ?_) | refine LGo.nilSl 4 3 (h := ?_) | skip
    exact LGo.ret (ret_TT Tryz.results30 hA hmd)
   ·
    rw [if_neg (by rw [hc3]; simp)] at hq
    refine .seq ?_
    refine .region rfl ?_
    refine R.move (h := ?_)
    refine R.move (h := ?_)
    refine R.index I64 (hj := fun hg => ⟨by omega, hy⟩) (h := ?_)
    first | refine R.field F68_1 (h := ?_) | refine R.fieldAt F68_1 (h := ?_)
    first | refine R.loadB O4 (h := ?_) | refine R.load1 O4 (h := ?_)
    refine R.assign (h := ?_)
    refine .n0 ?_
    refine LGo.ifb (ht := fun hc4 => ?_) (hf := fun hc4 => ?_)
    ·
     rw [if_pos hc4] at hq
     obtain ⟨fx, hfx⟩ : ∃ fx : Fld, fx = ⟨x.tag, 0, f.s⟩ := ⟨_, rfl⟩
     rw [← hfx] at hq
     refine .region rfl ?_
     refine R.move (h := ?_)
     refine R.move (h := ?_)
     refine R.index I64 (hj := fun hg => ⟨by omega, hy⟩) (h := ?_)
     first | refine R.field F68_0 (h := ?_) | refine R.fieldAt F68_0 (h := ?_)
     first | refine R.loadB O9 (h := ?_) | refine R.load1 O9 (h := ?_)
     first | refine R.field F55_2 (h := ?_) | refine R.fieldAt F55_2 (h := ?_)
     refine R.storeB O9 (h := ?_)
     refine .n0 ?_
     refine .inBlock ?_
     refine .region rfl ?_
     refine R.move (h := ?_)
     first | refine R.loadA A55 (h := ?_) | refine R.loadN A55 (h := ?_) | refine R.loadP A55 (h := ?_)
     refine R.buildSliceG AP61 (xs := [_]) (es := [_]) (hcs := CellsOfs.cons (CellsOf.agg rfl) CellsOfs.nil) (h := ?_)
     refine R.appendS AP61 (hs := SrcOk.sl Tryz.underlying61 (by simp; rfl)) (hlen := by simp; omega) (h := ?_)
     refine R.assign (h := ?_)
     refine .n0 ?_
     refine .inBlock ?_
     refine .region rfl ?_
     first | refine R.add (h := ?_) | refine R.addW (h := ?_)
     refine R.move (h := ?_)
     refine .n0 ?_
     refine .inLoop ?_
     exact LGo.turn [3] (b := 0) (fun o h => by have := (hA o).1 h; omega) (ih (k + 1, acc ++ [fx]) ⟨by dsimp only; omega, by dsimp only; rw [List.length_append, List.length_cons, List.length_nil]; omega, hq⟩ (by dsimp only; omega)) (by repeat (first | exact trivial | refine ⟨rfl, ?_⟩)) ⟨by rw [List.map_append, hfx]; rfl, trivial⟩
    ·
     rw [if_neg (by rw [hc4]; simp)] at hq
     refine .seq ?_
     refine .region rfl ?_
     refine R.move (h := ?_)
     refine R.move (h := ?_)
     refine R.index I64 (hj := fun hg => ⟨by omega, hy⟩) (h := ?_)
     first | refine R.field F68_0 (h := ?_) | refine R.fieldAt F68_0 (h := ?_)
     first | refine R.loadB O9 (h := ?_) | refine R.load1 O9 (h := ?_)
     first | refine R.field F88_2 (h := ?_) | refine R.fieldAt F88_2 (h := ?_)
     first | refine R.loadB O22 (h := ?_) | refine R.load1 O22 (h := ?_)
     refine R.convI Tryz.runUnderlying22 Tryz.runUnderlying2 (h := ?_)
     first | refine R.field F88_3 (h := ?_) | refine R.fieldAt F88_3 (h := ?_)
     first | refine R.loadB O22 (h := ?_) | refine R.load1 O22 (h := ?_)
     refine R.convI Tryz.runUnderlying22 Tryz.runUnderlying2 (h := ?_)
     refine R.callP (es := [_, _, _]) (fun _ => int_P f.s x.low x.high hfs) (h := ?_)
     refine R.move (h := ?_)
     refine R.extract (h := ?_)
     refine R.extract (h := ?_)
     refine R.assign (h := ?_)
     refine R.assign (h := ?_)
     refine Reg.nil ⟨fun _ => ⟨mixedO, by rfl, by rfl⟩, ?_⟩
     refine .seq ?_
     refine .seq ?_
     refine .region rfl ?_
     refine R.move (h := ?_)
     refine R.bin (run_neq _ _ _ _ _ _) (h := ?_)
     refine .n0 ?_
     refine LGo.ifb (ht := fun hc5 => ?_) (hf := fun hc5 => ?_)
     ·
      rw [if_pos hc5] at hq; rw [← hq]
      refine .seq ?_
      refine .region rfl ?_
      refine R.assign (h := ?_)
      refine R.assign (h := ?_)
      refine .n0 ?_
      first | refine LGo.frzT 4 (h := ?_) | refine LGo.nilSl 4 3 (h := ?_) | skip
      exact LGo.ret (ret_TT Tryz.results30 hA hmd)
     ·
      rw [if_neg (by rw [hc5]; simp)] at hq
      have hin := intW_in (s := f.s) (lo := x.low) (hi := x.high) (by simpa using hc5)
      obtain ⟨fx, hfx⟩ : ∃ fx : Fld, fx = ⟨x.tag, (intW f.s x.low x.high).1, []⟩ := ⟨_, rfl⟩
      rw [← hfx] at hq
      refine .skip ?_
      refine .region rfl ?_
      refine R.move (h := ?_)
      refine R.convI Tryz.runUnderlying2 Tryz.runUnderlying22 (h := ?_)
      first | refine R.field F55_1 (h := ?_) | refine R.fieldAt F55_1 (h := ?_)
      refine R.storeB O22 (h := ?_)
      refine .n0 ?_
      refine .inBlock ?_
      refine .region rfl ?_
      refine R.move (h := ?_)
      first | refine R.loadA A55 (h := ?_) | refine R.loadN A55 (h := ?_) | refine R.loadP A55 (h := ?_)
      refine R.buildSliceG AP61 (xs := [_]) (es := [_]) (hcs := CellsOfs.cons (CellsOf.agg rfl) CellsOfs.nil) (h := ?_)
      refine R.appendS AP61 (hs := SrcOk.sl Tryz.underlying61 (by simp; rfl)) (hlen := by simp; omega) (h := ?_)
      refine R.assign (h := ?_)
      refine .n0 ?_
      refine .inBlock ?_
      refine .region rfl ?_
      first | refine R.add (h := ?_) | refine R.addW (h := ?_)
      refine R.move (h := ?_)
      refine .n0 ?_
      refine .inLoop ?_
      exact LGo.turn [3] (b := 0) (fun o h => by have := (hA o).1 h; omega) (ih (k + 1, acc ++ [fx]) ⟨by dsimp only; omega, by dsimp only; rw [List.length_append, List.length_cons, List.length_nil]; omega, hq⟩ (by dsimp only; omega)) (by repeat (first | exact trivial | refine ⟨rfl, ?_⟩)) ⟨by rw [List.map_append, hfx]; rfl, trivial⟩
  ·
   rw [List.drop_eq_nil_of_le (show rs.length ≤ k by omega), readGo] at hq
   rw [← hq]
   refine .exit rfl ?_
   refine .seq ?_
   refine .region rfl ?_
   refine R.move (h := ?_)
   refine R.assign (h := ?_)
   refine R.assign (h := ?_)
   refine .n0 ?_
   first | refine LGo.frzT 4 (h := ?_) | refine LGo.nilSl 4 3 (h := ?_) | skip
   exact LGo.ret (ret_TT Tryz.results30 hA hmd)

theorem names_uniq {i j : Nat} (hi : i < 14) (hj : j < 14) (h : rsName (i : Int) = rsName (j : Int)) : i = j := by
  have key : ((List.range 14).all fun i => (List.range 14).all fun j => !decide (rsName (i : Int) = rsName (j : Int)) || decide (i = j)) = true := by decide +kernel
  have k1 := List.all_eq_true.1 (List.all_eq_true.1 key i (List.mem_range.2 hi)) j (List.mem_range.2 hj)
  simp only [Bool.or_eq_true, decide_eq_true_eq, Bool.not_eq_true', decide_eq_false_iff_not] at k1
  rcases k1 with k1 | k1
  · exact absurd h k1
  · exact k1
theorem lts_v {α : Type} (m : Nat) (f : α → Value) : ∀ l : List α, LV.lts m (l.map (LV.v ∘ f)) = true
  | [] => rfl
  | a :: l => by rw [List.map_cons, LV.lts, lts_v m f l]; rfl
theorem IV1 : IndexV1F Tryz.prog 49 14 := ⟨9, Tryz.runUnderlying49, Tryz.isAgg9, Tryz.sizeOf9⟩
theorem rsName_at2 {k : Nat} (h1 : k < 14) : (rsNames.map fun l => Value.string ⟨l.toArray⟩)[((k : Nat) : Int).toNat]? = some (.string ⟨(rsName (k : Int)).toArray⟩) := by
  have h := rsName_at (k := (k : Int)) (by omega) (by omega)
  rwa [Nat.zero_add, Nat.mul_one] at h
theorem tryP_cases (k : Int) (fs : List Fd) : (tryP k 0 fs).2 = true ∨ ((tryP k 0 fs).2 = false ∧ (tryP k 11 fs).2 = true) ∨ ((tryP k 0 fs).2 = false ∧ (tryP k 11 fs).2 = false) := by
  cases (tryP k 0 fs).2 <;> cases (tryP k 11 fs).2 <;> simp
theorem parseGo_step (nm : List UInt8) (fs : List Fd) (n k : Nat) : parseGo nm fs (n + 1) k = if nm = rsName (k : Int) then (if (tryP k 0 fs).2 = true then ((tryP k 0 fs).1, 0) else if (tryP k 11 fs).2 = true then ((tryP k 11 fs).1, 0) else parseGo nm fs n (k + 1)) else parseGo nm fs n (k + 1) := rfl

theorem parseS_P (line : List UInt8) : PC Tryz.prog 9 [.t line] (.tup [.agg ((parseS line).1.c.map LV.sv), .i (parseS line).2]) := by
 refine ⟨LC.of_go Tryz.func9 (c := _) rfl (by kernel_rfl) (by rw [Tryz.ntmps9]; simp) rfl rfl (by simp [LO.lt, LV.lts, LV.lt]) (by simp) ?_⟩
 intro B hA hmd
 obtain ⟨g, e0⟩ : ∃ g, parseS line = g := ⟨_, rfl⟩
 have e1 := e0
 unfold parseS at e1
 rw [e0]
 have hsl := split1_len line
 refine .seq ?_
 refine .region rfl ?_
 refine R.alloc Z25 (h := ?_)
 refine R.alloc Z23 (h := ?_)
 refine .n0 ?_
 refine .seq ?_
 refine .region rfl ?_
 refine R.move (h := ?_)
 refine R.callP (es := [_]) (fun _ => split_P line) (h := ?_)
 generalize (split1 line).2 = e at *
 generalize (split1 line).1 = fs at *
 obtain ⟨hl64, hfl⟩ := hsl
 have hrl : (fs.drop 1).length ≤ 64 := by rw [List.length_drop]; omega
 have hfr : ∀ f ∈ fs.drop 1, f.s.length ≤ 2000 := fun f hf => hfl f (List.mem_of_mem_drop hf)
 refine R.move (h := ?_)
 refine R.extract (h := ?_)
 refine R.extract (h := ?_)
 refine R.alloc Z64 (h := ?_)
 refine R.storeB O64 (h := ?_)
 refine R.assign (h := ?_)
 refine .n0 ?_
 refine .seq ?_
 refine .seq ?_
 refine .region rfl ?_
 refine R.move (h := ?_)
 refine R.bin (run_neq _ _ _ _ _ _) (h := ?_)
 refine R.move (h := ?_)
 first | refine R.loadB O64 (h := ?_) | refine R.load1 O64 (h := ?_)
 first | refine R.len S64 (h := ?_) | refine R.lenRs S64 (h := ?_) | refine R.lenV (run_lenNil S64) (h := ?_)
 rw [List.length_map]
 refine R.bin (run_eql _ _ _ _ _ _) (h := ?_)
 refine R.or (h := ?_)
 refine R.move (h := ?_)
 first | refine R.loadB O64 (h := ?_) | refine R.load1 O64 (h := ?_)
 refine R.index I64 (e := (fd0 fs).c) (hj := fun hg => ⟨by omega, fd0_at (by rintro rfl; simp at hg)⟩) (h := ?_)
 first | refine R.field F68_1 (h := ?_) | refine R.fieldAt F68_1 (h := ?_)
 first | refine R.loadB O4 (h := ?_) | refine R.load1 O4 (h := ?_)
 refine R.or (h := ?_)
 refine .n0 ?_
 refine LGo.ifb (ht := fun hc => ?_) (hf := fun hc => ?_)
 ·
  rw [if_pos hc] at e1; rw [← e1]
  refine .seq ?_
  refine .region rfl ?_
  refine R.build BF25 (is := []) (xs := []) (es := []) (h := ?_)
  refine R.storeA A25 (h := ?_)
  refine R.storeB O23 (h := ?_)
  refine .n0 ?_
  exact LGo.ret (ret_AB Tryz.results9 A25 O23 hA hmd)
 ·
  rw [if_neg (by rw [hc]; simp)] at e1
  have hne : fs ≠ [] := by rintro rfl; simp at hc
  have hdr : (fs.map Fd.c).drop (Int.toNat 1) = (fs.drop 1).map Fd.c := by rw [List.map_drop]; rfl
  generalize fs.drop 1 = rest at e1 hrl hfr hdr
  refine .skip ?_
  refine .seq ?_
  refine .seq ?_
  refine .region rfl ?_
  refine R.gLoadN A49 (hm := tabN) (h := ?_)
  refine R.move (h := ?_)
  refine .n0 ?_
  refine .block ?_
  refine .loop ?_
  refine LGo.loopG (σ := Nat) (fun x => x ≤ 14 ∧ parseGo (fd0 fs).s rest (14 - x) x = g) (fun x => [(33, (true, .i (x : Nat)))]) (fun x => [(0, .box 25 (zeroS.c.map LV.sv)), (1, .box 23 [.i 0]), (2, .box 64 [.sv (.sl 2 (fs.map Fd.c))])]) (fun x => 14 - x) (0) [(2, _), (3, _), (4, _), (32, _)] ⟨by omega, e1⟩ (by repeat (first | exact trivial | refine ⟨rfl, ?_⟩)) (by repeat (first | exact trivial | refine ⟨rfl, ?_⟩)) (by repeat (first | exact trivial | refine ⟨rfl, ?_⟩)) ?_
  rintro k ⟨hk, hq⟩ ih
  refine .seq ?_
  refine .region rfl ?_
  refine R.bin (run_lss _ _ _ _ _ _) (h := ?_)
  refine .n0 ?_
  refine .seq ?_
  refine LGo.ifd (ht := fun hc2 => ?_) (hf := fun hc2 => ?_)
  ·
   have hk14 : k < 14 := by omega
   rw [show 14 - k = (14 - (k + 1)) + 1 from by omega, parseGo_step] at hq
   refine .skip ?_
   refine .seq ?_
   refine .block ?_
   refine .seq ?_
   refine .region rfl ?_
   refine R.move (h := ?_)
   refine R.indexV1 IV1 (hj := fun _ => ⟨by omega, by omega, rsName_at2 hk14⟩) (h := ?_)
   refine R.alloc Z3 (h := ?_)
   refine R.storeB O3 (h := ?_)
   refine R.assign (h := ?_)
   refine .n0 ?_
   refine .seq ?_
   refine .seq ?_
   refine .region rfl ?_
   refine R.move (h := ?_)
   first | refine R.loadB O64 (h := ?_) | refine R.load1 O64 (h := ?_)
   refine R.index I64 (e := (fd0 fs).c) (hj := fun _ => ⟨by omega, fd0_at hne⟩) (h := ?_)
   first | refine R.field F68_0 (h := ?_) | refine R.fieldAt F68_0 (h := ?_)
   first | refine R.loadB O9 (h := ?_) | refine R.load1 O9 (h := ?_)
   rcases tryP_cases (k : Int) rest with h0 | ⟨h0, h1⟩ | ⟨h0, h1⟩
   ·
    refine R.bin (run_neqT _ _ _ _ _) (h := ?_)
    refine .n0 ?_
    refine LGo.ifb (ht := fun hc3 => ?_) (hf := fun hc3 => ?_)
    ·
     rw [if_neg (show ¬ (fd0 fs).s = rsName (k : Int) from fun h => by rw [h] at hc3; simp at hc3)] at hq
     refine .exit rfl ?_
     refine .region rfl ?_
     first | refine R.add (h := ?_) | refine R.addW (h := ?_)
     refine R.move (h := ?_)
     refine .n0 ?_
     refine .inLoop ?_
     exact LGo.next _ (fun o h => by have := (hA o).1 h; omega) (by omega) (ih (k + 1) ⟨by omega, hq⟩ (by omega)) (by repeat (first | exact trivial | refine ⟨rfl, ?_⟩)) ⟨rfl, rfl, rfl, trivial⟩
    ·
     rw [if_pos (show (fd0 fs).s = rsName (k : Int) from by simp at hc3; exact hc3.symm)] at hq
     rw [if_pos h0] at hq
     rw [← hq]
     refine .skip ?_
     refine .block ?_
     refine LGo.keep [(2, (true, .ptr 0 0)), (3, (true, .ptr 1 0)), (4, (true, .ptr 2 0)), (6, (true, .ptr 3 0)), (32, (true, .agg ((rsNames.map fun l => Value.string ⟨l.toArray⟩).map LV.v))), (33, (true, .i (k : Nat)))] [(0, .box 25 (zeroS.c.map LV.sv)), (1, .box 23 [.i 0]), (2, .box 64 [.sv (.sl 2 (fs.map Fd.c))]), (3, .box 3 [.i (k : Nat)])] (by repeat (first | exact trivial | refine ⟨rfl, ?_⟩)) (by repeat (first | exact trivial | refine ⟨rfl, ?_⟩)) ?_
     refine LGo.rangeR (fun fn ac bc => [(0, .box 25 ((tryP (k : Int) 0 rest).1.c.map LV.sv)), (1, .box 23 [.i 0]), (2, .box 64 [.sv (.sl 2 (fs.map Fd.c))]), (3, .box 3 [.i (k : Nat)]), (4, .raw (.deferred (some []))), (5, .loop fn Tryz.f9.ntmps [(2, (true, .ptr 0 0)), (3, (true, .ptr 1 0)), (4, (true, .ptr 2 0)), (6, (true, .ptr 3 0)), (32, (true, .agg ((rsNames.map fun l => Value.string ⟨l.toArray⟩).map LV.v))), (33, (true, .i (k : Nat)))] #[43] ac bc .done (some .ret))]) (hit := fun fn ac bc hac hbc => ?_) (h := fun fn => ?_)
     ·

      have yr : ∀ fv : Int, (tryP (k : Int) fv rest).2 = true → Yld Tryz.prog 5 [.i fv] [(0, .box 25 (zeroS.c.map LV.sv)), (1, .box 23 [.i 0]), (2, .box 64 [.sv (.sl 2 (fs.map Fd.c))]), (3, .box 3 [.i (k : Nat)]), (4, .raw (.deferred (some []))), (5, .loop fn Tryz.f9.ntmps [(2, (true, .ptr 0 0)), (3, (true, .ptr 1 0)), (4, (true, .ptr 2 0)), (6, (true, .ptr 3 0)), (32, (true, .agg ((rsNames.map fun l => Value.string ⟨l.toArray⟩).map LV.v))), (33, (true, .i (k : Nat)))] #[43] ac bc .ready none)] false [(0, .box 25 ((tryP (k : Int) fv rest).1.c.map LV.sv)), (1, .box 23 [.i 0]), (2, .box 64 [.sv (.sl 2 (fs.map Fd.c))]), (3, .box 3 [.i (k : Nat)]), (4, .raw (.deferred (some []))), (5, .loop fn Tryz.f9.ntmps [(2, (true, .ptr 0 0)), (3, (true, .ptr 1 0)), (4, (true, .ptr 2 0)), (6, (true, .ptr 3 0)), (32, (true, .agg ((rsNames.map fun l => Value.string ⟨l.toArray⟩).map LV.v))), (33, (true, .i (k : Nat)))] #[43] ac bc .done (some .ret))] := by
        intro fv hyes
        refine Yld.walk 6 ((8, (true, .i fv)) :: (43, (true, .i fv)) :: [(2, (true, .ptr 0 0)), (3, (true, .ptr 1 0)), (4, (true, .ptr 2 0)), (6, (true, .ptr 3 0)), (32, (true, .agg ((rsNames.map fun l => Value.string ⟨l.toArray⟩).map LV.v))), (33, (true, .i (k : Nat)))]) (hpN := by rw [show Tryz.f9.ntmps = 66 from Tryz.ntmps9]; simp) (hA := ?_) (hB := ?_)
        · intro l B' hA' hmd'; subst hac
          refine .region rfl ?_
          refine R.assign (h := ?_)
          refine .n0 ?_
          exact LGo.done (fun cx a w hr => ⟨rfl, cx, hr⟩)
        · intro l B' hA' hmd'; subst hbc
          refine .block ?_
          refine .seq ?_
          refine .region rfl ?_
          first | refine R.loadB O3 (h := ?_) | refine R.load1 O3 (h := ?_)
          refine R.move (h := ?_)
          refine R.callP (es := [_, _]) (fun _ => limitsS_P (k : Int) fv) (h := ?_)
          first | refine R.loadB O64 (h := ?_) | refine R.load1 O64 (h := ?_)
          refine R.sliceLo SF64 (ha := fun _ => by rw [List.length_map]; have := List.length_pos_iff.2 hne; omega) (h := ?_)
          rw [hdr]
          refine R.callP (es := [_, _]) (fun _ => readQ_P (limitsS (k : Int) fv) rest (limitsS_63 (k : Int) fv) (by have := limitsS_len (k : Int) fv; omega) (by omega) (fun f hf => by have := hfr f hf; omega)) (h := ?_)
          refine R.move (h := ?_)
          refine R.extract (h := ?_)
          refine R.extract (h := ?_)
          refine R.assign (h := ?_)
          refine R.assign (h := ?_)
          refine Reg.nil ⟨fun _ => ⟨mixedO, by rfl, by rfl⟩, ?_⟩
          refine .seq ?_
          refine .seq ?_
          refine .region rfl ?_
          refine R.move (h := ?_)
          refine R.not (h := ?_)
          refine .n0 ?_
          refine LGo.ifb (ht := fun hc4 => by unfold tryP at hyes; rw [if_neg (by simpa using hc4)] at hyes; cases hyes) (hf := fun hc4 => ?_)
          refine .skip ?_
          refine .seq ?_
          refine .region rfl ?_
          have hok := readQ_ok (limitsS_63 (k : Int) fv) hfr
          have hll := limitsS_len (k : Int) fv
          have hro : RsOk (foldS (k : Int) (readQ (limitsS (k : Int) fv) rest).1) := foldL_ok (by unfold R64; omega) hok.1
          have hta : (tryP (k : Int) fv rest) = (acceptS (k : Int) fv (readQ (limitsS (k : Int) fv) rest).1) := by unfold tryP; rw [if_pos (by simpa using (show (!(readQ (limitsS (k : Int) fv) rest).2) = false by assumption))]
          first | refine R.loadB O3 (h := ?_) | refine R.load1 O3 (h := ?_)
          refine R.move (h := ?_)
          refine R.move (h := ?_)
          refine R.callP (es := [_, _, _]) (fun _ => acceptS_P (k : Int) fv (readQ (limitsS (k : Int) fv) rest).1 (by omega) hro) (h := ?_)
          refine R.move (h := ?_)
          refine R.extract (h := ?_)
          refine R.extract (h := ?_)
          refine R.alloc Z25 (h := ?_)
          refine R.storeA A25 (h := ?_)
          refine R.assign (h := ?_)
          refine .n0 ?_
          refine .seq ?_
          refine .region rfl ?_
          refine R.move (h := ?_)
          refine .n0 ?_
          refine LGo.ifb (ht := fun hc5 => ?_) (hf := fun hc5 => by rw [hta] at hyes; rw [hyes] at hc5; cases hc5)
          refine .seq ?_
          refine .region rfl ?_
          first | refine R.loadA A25 (h := ?_) | refine R.loadN A25 (h := ?_) | refine R.loadP A25 (h := ?_)
          refine R.storeA A25 (h := ?_)
          refine R.storeB O23 (h := ?_)
          refine .n0 ?_
          rw [hta]
          refine LGo.drop 6 (fun o h => (hA' o).1 h) (by omega) [] ((5, .loop fn Tryz.f9.ntmps [(2, (true, .ptr 0 0)), (3, (true, .ptr 1 0)), (4, (true, .ptr 2 0)), (6, (true, .ptr 3 0)), (32, (true, .agg ((rsNames.map fun l => Value.string ⟨l.toArray⟩).map LV.v))), (33, (true, .i (k : Nat)))] #[43] ac _ .busy none) :: (4, .raw (.deferred (some []))) :: [(0, .box 25 ((acceptS (k : Int) fv (readQ (limitsS (k : Int) fv) rest).1).1.c.map LV.sv)), (1, .box 23 [.i 0]), (2, .box 64 [.sv (.sl 2 (fs.map Fd.c))]), (3, .box 3 [.i (k : Nat)])]) trivial (by repeat (first | exact trivial | refine ⟨rfl, ?_⟩)) (by simp) (by simp [LO.lt, LV.lts, LV.lt, lts_sv, lts_v]) (h := ?_)
          refine LGo.ret (RoundEnd.ret rfl (fun o z hz hne => ?_) rfl)
          rcases o with _ | _ | _ | _ | _ | _ | o <;> first | exact absurd rfl hne | exact hz
      have hr := forms_stop (y := 5) (m := 6) (by decide) rfl (by simp [LO.lt, LV.lts, LV.lt, lts_sv, lts_v]) rfl (yr 0 h0)
      exact hr
     ·
      exact (FnPost.mark (by rfl) (ret_AB Tryz.results9 A25 O23 hA hmd))
   ·
    refine R.bin (run_neqT _ _ _ _ _) (h := ?_)
    refine .n0 ?_
    refine LGo.ifb (ht := fun hc6 => ?_) (hf := fun hc6 => ?_)
    ·
     rw [if_neg (show ¬ (fd0 fs).s = rsName (k : Int) from fun h => by rw [h] at hc6; simp at hc6)] at hq
     refine .exit rfl ?_
     refine .region rfl ?_
     first | refine R.add (h := ?_) | refine R.addW (h := ?_)
     refine R.move (h := ?_)
     refine .n0 ?_
     refine .inLoop ?_
     exact LGo.next _ (fun o h => by have := (hA o).1 h; omega) (by omega) (ih (k + 1) ⟨by omega, hq⟩ (by omega)) (by repeat (first | exact trivial | refine ⟨rfl, ?_⟩)) ⟨rfl, rfl, rfl, trivial⟩
    ·
     rw [if_pos (show (fd0 fs).s = rsName (k : Int) from by simp at hc6; exact hc6.symm)] at hq
     rw [if_neg (by rw [h0]; simp), if_pos h1] at hq
     rw [← hq]
     refine .skip ?_
     refine .block ?_
     refine LGo.keep [(2, (true, .ptr 0 0)), (3, (true, .ptr 1 0)), (4, (true, .ptr 2 0)), (6, (true, .ptr 3 0)), (32, (true, .agg ((rsNames.map fun l => Value.string ⟨l.toArray⟩).map LV.v))), (33, (true, .i (k : Nat)))] [(0, .box 25 (zeroS.c.map LV.sv)), (1, .box 23 [.i 0]), (2, .box 64 [.sv (.sl 2 (fs.map Fd.c))]), (3, .box 3 [.i (k : Nat)])] (by repeat (first | exact trivial | refine ⟨rfl, ?_⟩)) (by repeat (first | exact trivial | refine ⟨rfl, ?_⟩)) ?_
     refine LGo.rangeR (fun fn ac bc => [(0, .box 25 ((tryP (k : Int) 11 rest).1.c.map LV.sv)), (1, .box 23 [.i 0]), (2, .box 64 [.sv (.sl 2 (fs.map Fd.c))]), (3, .box 3 [.i (k : Nat)]), (4, .raw (.deferred (some []))), (5, .loop fn Tryz.f9.ntmps [(2, (true, .ptr 0 0)), (3, (true, .ptr 1 0)), (4, (true, .ptr 2 0)), (6, (true, .ptr 3 0)), (32, (true, .agg ((rsNames.map fun l => Value.string ⟨l.toArray⟩).map LV.v))), (33, (true, .i (k : Nat)))] #[43] ac bc .done (some .ret))]) (hit := fun fn ac bc hac hbc => ?_) (h := fun fn => ?_)
     ·

      have yg : ∀ fv : Int, (tryP (k : Int) fv rest).2 = false → Yld Tryz.prog 5 [.i fv] [(0, .box 25 (zeroS.c.map LV.sv)), (1, .box 23 [.i 0]), (2, .box 64 [.sv (.sl 2 (fs.map Fd.c))]), (3, .box 3 [.i (k : Nat)]), (4, .raw (.deferred (some []))), (5, .loop fn Tryz.f9.ntmps [(2, (true, .ptr 0 0)), (3, (true, .ptr 1 0)), (4, (true, .ptr 2 0)), (6, (true, .ptr 3 0)), (32, (true, .agg ((rsNames.map fun l => Value.string ⟨l.toArray⟩).map LV.v))), (33, (true, .i (k : Nat)))] #[43] ac bc .ready none)] true [(0, .box 25 (zeroS.c.map LV.sv)), (1, .box 23 [.i 0]), (2, .box 64 [.sv (.sl 2 (fs.map Fd.c))]), (3, .box 3 [.i (k : Nat)]), (4, .raw (.deferred (some []))), (5, .loop fn Tryz.f9.ntmps [(2, (true, .ptr 0 0)), (3, (true, .ptr 1 0)), (4, (true, .ptr 2 0)), (6, (true, .ptr 3 0)), (32, (true, .agg ((rsNames.map fun l => Value.string ⟨l.toArray⟩).map LV.v))), (33, (true, .i (k : Nat)))] #[43] ac bc .ready none)] := by
        intro fv hno
        refine Yld.walk 6 ((8, (true, .i fv)) :: (43, (true, .i fv)) :: [(2, (true, .ptr 0 0)), (3, (true, .ptr 1 0)), (4, (true, .ptr 2 0)), (6, (true, .ptr 3 0)), (32, (true, .agg ((rsNames.map fun l => Value.string ⟨l.toArray⟩).map LV.v))), (33, (true, .i (k : Nat)))]) (hpN := by rw [show Tryz.f9.ntmps = 66 from Tryz.ntmps9]; simp) (hA := ?_) (hB := ?_)
        · intro l B' hA' hmd'; subst hac
          refine .region rfl ?_
          refine R.assign (h := ?_)
          refine .n0 ?_
          exact LGo.done (fun cx a w hr => ⟨rfl, cx, hr⟩)
        · intro l B' hA' hmd'; subst hbc
          refine .block ?_
          refine .seq ?_
          refine .region rfl ?_
          first | refine R.loadB O3 (h := ?_) | refine R.load1 O3 (h := ?_)
          refine R.move (h := ?_)
          refine R.callP (es := [_, _]) (fun _ => limitsS_P (k : Int) fv) (h := ?_)
          first | refine R.loadB O64 (h := ?_) | refine R.load1 O64 (h := ?_)
          refine R.sliceLo SF64 (ha := fun _ => by rw [List.length_map]; have := List.length_pos_iff.2 hne; omega) (h := ?_)
          rw [hdr]
          refine R.callP (es := [_, _]) (fun _ => readQ_P (limitsS (k : Int) fv) rest (limitsS_63 (k : Int) fv) (by have := limitsS_len (k : Int) fv; omega) (by omega) (fun f hf => by have := hfr f hf; omega)) (h := ?_)
          refine R.move (h := ?_)
          refine R.extract (h := ?_)
          refine R.extract (h := ?_)
          refine R.assign (h := ?_)
          refine R.assign (h := ?_)
          refine Reg.nil ⟨fun _ => ⟨mixedO, by rfl, by rfl⟩, ?_⟩
          refine .seq ?_
          refine .seq ?_
          refine .region rfl ?_
          refine R.move (h := ?_)
          refine R.not (h := ?_)
          refine .n0 ?_
          refine LGo.ifb (ht := fun hc7 => ?_) (hf := fun hc7 => ?_)
          ·
           refine .exit rfl ?_
           refine LGo.drop 6 (fun o h => (hA' o).1 h) (by omega) [] ((5, .loop fn Tryz.f9.ntmps [(2, (true, .ptr 0 0)), (3, (true, .ptr 1 0)), (4, (true, .ptr 2 0)), (6, (true, .ptr 3 0)), (32, (true, .agg ((rsNames.map fun l => Value.string ⟨l.toArray⟩).map LV.v))), (33, (true, .i (k : Nat)))] #[43] ac _ .busy none) :: (4, .raw (.deferred (some []))) :: [(0, .box 25 (zeroS.c.map LV.sv)), (1, .box 23 [.i 0]), (2, .box 64 [.sv (.sl 2 (fs.map Fd.c))]), (3, .box 3 [.i (k : Nat)])]) trivial (by repeat (first | exact trivial | refine ⟨rfl, ?_⟩)) (by simp) (by simp [LO.lt, LV.lts, LV.lt, lts_sv, lts_v]) (h := ?_)
           refine LGo.done (RoundEnd.go rfl (fun o z hz hne => ?_) rfl)
           rcases o with _ | _ | _ | _ | _ | _ | o <;> first | exact absurd rfl hne | exact hz
          ·
           have hok := readQ_ok (limitsS_63 (k : Int) fv) hfr
           have hll := limitsS_len (k : Int) fv
           have hro : RsOk (foldS (k : Int) (readQ (limitsS (k : Int) fv) rest).1) := foldL_ok (by unfold R64; omega) hok.1
           refine .skip ?_
           refine .seq ?_
           refine .region rfl ?_
           first | refine R.loadB O3 (h := ?_) | refine R.load1 O3 (h := ?_)
           refine R.move (h := ?_)
           refine R.move (h := ?_)
           refine R.callP (es := [_, _, _]) (fun _ => acceptS_P (k : Int) fv (readQ (limitsS (k : Int) fv) rest).1 (by omega) hro) (h := ?_)
           refine R.move (h := ?_)
           refine R.extract (h := ?_)
           refine R.extract (h := ?_)
           refine R.alloc Z25 (h := ?_)
           refine R.storeA A25 (h := ?_)
           refine R.assign (h := ?_)
           refine .n0 ?_
           refine .seq ?_
           refine .region rfl ?_
           refine R.move (h := ?_)
           refine .n0 ?_
           refine LGo.ifb (ht := fun hc8 => by unfold tryP at hno; rw [if_pos (by simpa using hc7)] at hno; rw [hno] at hc8; cases hc8) (hf := fun hc8 => ?_)
           refine .skip ?_
           refine .inBlock ?_
           refine LGo.drop 6 (fun o h => (hA' o).1 h) (by omega) [] ((5, .loop fn Tryz.f9.ntmps [(2, (true, .ptr 0 0)), (3, (true, .ptr 1 0)), (4, (true, .ptr 2 0)), (6, (true, .ptr 3 0)), (32, (true, .agg ((rsNames.map fun l => Value.string ⟨l.toArray⟩).map LV.v))), (33, (true, .i (k : Nat)))] #[43] ac _ .busy none) :: (4, .raw (.deferred (some []))) :: [(0, .box 25 (zeroS.c.map LV.sv)), (1, .box 23 [.i 0]), (2, .box 64 [.sv (.sl 2 (fs.map Fd.c))]), (3, .box 3 [.i (k : Nat)])]) trivial (by repeat (first | exact trivial | refine ⟨rfl, ?_⟩)) (by simp) (by simp [LO.lt, LV.lts, LV.lt, lts_sv, lts_v]) (h := ?_)
           refine LGo.done (RoundEnd.go rfl (fun o z hz hne => ?_) rfl)
           rcases o with _ | _ | _ | _ | _ | _ | o <;> first | exact absurd rfl hne | exact hz
      have yr : ∀ fv : Int, (tryP (k : Int) fv rest).2 = true → Yld Tryz.prog 5 [.i fv] [(0, .box 25 (zeroS.c.map LV.sv)), (1, .box 23 [.i 0]), (2, .box 64 [.sv (.sl 2 (fs.map Fd.c))]), (3, .box 3 [.i (k : Nat)]), (4, .raw (.deferred (some []))), (5, .loop fn Tryz.f9.ntmps [(2, (true, .ptr 0 0)), (3, (true, .ptr 1 0)), (4, (true, .ptr 2 0)), (6, (true, .ptr 3 0)), (32, (true, .agg ((rsNames.map fun l => Value.string ⟨l.toArray⟩).map LV.v))), (33, (true, .i (k : Nat)))] #[43] ac bc .ready none)] false [(0, .box 25 ((tryP (k : Int) fv rest).1.c.map LV.sv)), (1, .box 23 [.i 0]), (2, .box 64 [.sv (.sl 2 (fs.map Fd.c))]), (3, .box 3 [.i (k : Nat)]), (4, .raw (.deferred (some []))), (5, .loop fn Tryz.f9.ntmps [(2, (true, .ptr 0 0)), (3, (true, .ptr 1 0)), (4, (true, .ptr 2 0)), (6, (true, .ptr 3 0)), (32, (true, .agg ((rsNames.map fun l => Value.string ⟨l.toArray⟩).map LV.v))), (33, (true, .i (k : Nat)))] #[43] ac bc .done (some .ret))] := by
        intro fv hyes
        refine Yld.walk 6 ((8, (true, .i fv)) :: (43, (true, .i fv)) :: [(2, (true, .ptr 0 0)), (3, (true, .ptr 1 0)), (4, (true, .ptr 2 0)), (6, (true, .ptr 3 0)), (32, (true, .agg ((rsNames.map fun l => Value.string ⟨l.toArray⟩).map LV.v))), (33, (true, .i (k : Nat)))]) (hpN := by rw [show Tryz.f9.ntmps = 66 from Tryz.ntmps9]; simp) (hA := ?_) (hB := ?_)
        · intro l B' hA' hmd'; subst hac
          refine .region rfl ?_
          refine R.assign (h := ?_)
          refine .n0 ?_
          exact LGo.done (fun cx a w hr => ⟨rfl, cx, hr⟩)
        · intro l B' hA' hmd'; subst hbc
          refine .block ?_
          refine .seq ?_
          refine .region rfl ?_
          first | refine R.loadB O3 (h := ?_) | refine R.load1 O3 (h := ?_)
          refine R.move (h := ?_)
          refine R.callP (es := [_, _]) (fun _ => limitsS_P (k : Int) fv) (h := ?_)
          first | refine R.loadB O64 (h := ?_) | refine R.load1 O64 (h := ?_)
          refine R.sliceLo SF64 (ha := fun _ => by rw [List.length_map]; have := List.length_pos_iff.2 hne; omega) (h := ?_)
          rw [hdr]
          refine R.callP (es := [_, _]) (fun _ => readQ_P (limitsS (k : Int) fv) rest (limitsS_63 (k : Int) fv) (by have := limitsS_len (k : Int) fv; omega) (by omega) (fun f hf => by have := hfr f hf; omega)) (h := ?_)
          refine R.move (h := ?_)
          refine R.extract (h := ?_)
          refine R.extract (h := ?_)
          refine R.assign (h := ?_)
          refine R.assign (h := ?_)
          refine Reg.nil ⟨fun _ => ⟨mixedO, by rfl, by rfl⟩, ?_⟩
          refine .seq ?_
          refine .seq ?_
          refine .region rfl ?_
          refine R.move (h := ?_)
          refine R.not (h := ?_)
          refine .n0 ?_
          refine LGo.ifb (ht := fun hc9 => by unfold tryP at hyes; rw [if_neg (by simpa using hc9)] at hyes; cases hyes) (hf := fun hc9 => ?_)
          refine .skip ?_
          refine .seq ?_
          refine .region rfl ?_
          have hok := readQ_ok (limitsS_63 (k : Int) fv) hfr
          have hll := limitsS_len (k : Int) fv
          have hro : RsOk (foldS (k : Int) (readQ (limitsS (k : Int) fv) rest).1) := foldL_ok (by unfold R64; omega) hok.1
          have hta : (tryP (k : Int) fv rest) = (acceptS (k : Int) fv (readQ (limitsS (k : Int) fv) rest).1) := by unfold tryP; rw [if_pos (by simpa using (show (!(readQ (limitsS (k : Int) fv) rest).2) = false by assumption))]
          first | refine R.loadB O3 (h := ?_) | refine R.load1 O3 (h := ?_)
          refine R.move (h := ?_)
          refine R.move (h := ?_)
          refine R.callP (es := [_, _, _]) (fun _ => acceptS_P (k : Int) fv (readQ (limitsS (k : Int) fv) rest).1 (by omega) hro) (h := ?_)
          refine R.move (h := ?_)
          refine R.extract (h := ?_)
          refine R.extract (h := ?_)
          refine R.alloc Z25 (h := ?_)
          refine R.storeA A25 (h := ?_)
          refine R.assign (h := ?_)
          refine .n0 ?_
          refine .seq ?_
          refine .region rfl ?_
          refine R.move (h := ?_)
          refine .n0 ?_
          refine LGo.ifb (ht := fun hc10 => ?_) (hf := fun hc10 => by rw [hta] at hyes; rw [hyes] at hc10; cases hc10)
          refine .seq ?_
          refine .region rfl ?_
          first | refine R.loadA A25 (h := ?_) | refine R.loadN A25 (h := ?_) | refine R.loadP A25 (h := ?_)
          refine R.storeA A25 (h := ?_)
          refine R.storeB O23 (h := ?_)
          refine .n0 ?_
          rw [hta]
          refine LGo.drop 6 (fun o h => (hA' o).1 h) (by omega) [] ((5, .loop fn Tryz.f9.ntmps [(2, (true, .ptr 0 0)), (3, (true, .ptr 1 0)), (4, (true, .ptr 2 0)), (6, (true, .ptr 3 0)), (32, (true, .agg ((rsNames.map fun l => Value.string ⟨l.toArray⟩).map LV.v))), (33, (true, .i (k : Nat)))] #[43] ac _ .busy none) :: (4, .raw (.deferred (some []))) :: [(0, .box 25 ((acceptS (k : Int) fv (readQ (limitsS (k : Int) fv) rest).1).1.c.map LV.sv)), (1, .box 23 [.i 0]), (2, .box 64 [.sv (.sl 2 (fs.map Fd.c))]), (3, .box 3 [.i (k : Nat)])]) trivial (by repeat (first | exact trivial | refine ⟨rfl, ?_⟩)) (by simp) (by simp [LO.lt, LV.lts, LV.lt, lts_sv, lts_v]) (h := ?_)
          refine LGo.ret (RoundEnd.ret rfl (fun o z hz hne => ?_) rfl)
          rcases o with _ | _ | _ | _ | _ | _ | o <;> first | exact absurd rfl hne | exact hz
      have hr := forms_go (y := 5) (m := 6) (by decide) rfl (by simp [LO.lt, LV.lts, LV.lt, lts_sv, lts_v]) rfl rfl (yg 0 h0) (yr 11 h1)
      exact hr
     ·
      exact (FnPost.mark (by rfl) (ret_AB Tryz.results9 A25 O23 hA hmd))
   ·
    refine R.bin (run_neqT _ _ _ _ _) (h := ?_)
    refine .n0 ?_
    refine LGo.ifb (ht := fun hc11 => ?_) (hf := fun hc11 => ?_)
    ·
     rw [if_neg (show ¬ (fd0 fs).s = rsName (k : Int) from fun h => by rw [h] at hc11; simp at hc11)] at hq
     refine .exit rfl ?_
     refine .region rfl ?_
     first | refine R.add (h := ?_) | refine R.addW (h := ?_)
     refine R.move (h := ?_)
     refine .n0 ?_
     refine .inLoop ?_
     exact LGo.next _ (fun o h => by have := (hA o).1 h; omega) (by omega) (ih (k + 1) ⟨by omega, hq⟩ (by omega)) (by repeat (first | exact trivial | refine ⟨rfl, ?_⟩)) ⟨rfl, rfl, rfl, trivial⟩
    ·
     rw [if_pos (show (fd0 fs).s = rsName (k : Int) from by simp at hc11; exact hc11.symm)] at hq
     rw [if_neg (by rw [h0]; simp), if_neg (by rw [h1]; simp)] at hq
     refine .skip ?_
     refine .block ?_
     refine LGo.keep [(2, (true, .ptr 0 0)), (3, (true, .ptr 1 0)), (4, (true, .ptr 2 0)), (6, (true, .ptr 3 0)), (32, (true, .agg ((rsNames.map fun l => Value.string ⟨l.toArray⟩).map LV.v))), (33, (true, .i (k : Nat)))] [(0, .box 25 (zeroS.c.map LV.sv)), (1, .box 23 [.i 0]), (2, .box 64 [.sv (.sl 2 (fs.map Fd.c))]), (3, .box 3 [.i (k : Nat)])] (by repeat (first | exact trivial | refine ⟨rfl, ?_⟩)) (by repeat (first | exact trivial | refine ⟨rfl, ?_⟩)) ?_
     refine LGo.rangeN (fun fn ac bc => [(0, .box 25 (zeroS.c.map LV.sv)), (1, .box 23 [.i 0]), (2, .box 64 [.sv (.sl 2 (fs.map Fd.c))]), (3, .box 3 [.i (k : Nat)]), (4, .raw (.deferred (some []))), (5, .loop fn Tryz.f9.ntmps [(2, (true, .ptr 0 0)), (3, (true, .ptr 1 0)), (4, (true, .ptr 2 0)), (6, (true, .ptr 3 0)), (32, (true, .agg ((rsNames.map fun l => Value.string ⟨l.toArray⟩).map LV.v))), (33, (true, .i (k : Nat)))] #[43] ac bc .ready none)]) (hit := fun fn ac bc hac hbc => ?_) (h := fun fn => ?_)
     ·

      have yg : ∀ fv : Int, (tryP (k : Int) fv rest).2 = false → Yld Tryz.prog 5 [.i fv] [(0, .box 25 (zeroS.c.map LV.sv)), (1, .box 23 [.i 0]), (2, .box 64 [.sv (.sl 2 (fs.map Fd.c))]), (3, .box 3 [.i (k : Nat)]), (4, .raw (.deferred (some []))), (5, .loop fn Tryz.f9.ntmps [(2, (true, .ptr 0 0)), (3, (true, .ptr 1 0)), (4, (true, .ptr 2 0)), (6, (true, .ptr 3 0)), (32, (true, .agg ((rsNames.map fun l => Value.string ⟨l.toArray⟩).map LV.v))), (33, (true, .i (k : Nat)))] #[43] ac bc .ready none)] true [(0, .box 25 (zeroS.c.map LV.sv)), (1, .box 23 [.i 0]), (2, .box 64 [.sv (.sl 2 (fs.map Fd.c))]), (3, .box 3 [.i (k : Nat)]), (4, .raw (.deferred (some []))), (5, .loop fn Tryz.f9.ntmps [(2, (true, .ptr 0 0)), (3, (true, .ptr 1 0)), (4, (true, .ptr 2 0)), (6, (true, .ptr 3 0)), (32, (true, .agg ((rsNames.map fun l => Value.string ⟨l.toArray⟩).map LV.v))), (33, (true, .i (k : Nat)))] #[43] ac bc .ready none)] := by
        intro fv hno
        refine Yld.walk 6 ((8, (true, .i fv)) :: (43, (true, .i fv)) :: [(2, (true, .ptr 0 0)), (3, (true, .ptr 1 0)), (4, (true, .ptr 2 0)), (6, (true, .ptr 3 0)), (32, (true, .agg ((rsNames.map fun l => Value.string ⟨l.toArray⟩).map LV.v))), (33, (true, .i (k : Nat)))]) (hpN := by rw [show Tryz.f9.ntmps = 66 from Tryz.ntmps9]; simp) (hA := ?_) (hB := ?_)
        · intro l B' hA' hmd'; subst hac
          refine .region rfl ?_
          refine R.assign (h := ?_)
          refine .n0 ?_
          exact LGo.done (fun cx a w hr => ⟨rfl, cx, hr⟩)
        · intro l B' hA' hmd'; subst hbc
          refine .block ?_
          refine .seq ?_
          refine .region rfl ?_
          first | refine R.loadB O3 (h := ?_) | refine R.load1 O3 (h := ?_)
          refine R.move (h := ?_)
          refine R.callP (es := [_, _]) (fun _ => limitsS_P (k : Int) fv) (h := ?_)
          first | refine R.loadB O64 (h := ?_) | refine R.load1 O64 (h := ?_)
          refine R.sliceLo SF64 (ha := fun _ => by rw [List.length_map]; have := List.length_pos_iff.2 hne; omega) (h := ?_)
          rw [hdr]
          refine R.callP (es := [_, _]) (fun _ => readQ_P (limitsS (k : Int) fv) rest (limitsS_63 (k : Int) fv) (by have := limitsS_len (k : Int) fv; omega) (by omega) (fun f hf => by have := hfr f hf; omega)) (h := ?_)
          refine R.move (h := ?_)
          refine R.extract (h := ?_)
          refine R.extract (h := ?_)
          refine R.assign (h := ?_)
          refine R.assign (h := ?_)
          refine Reg.nil ⟨fun _ => ⟨mixedO, by rfl, by rfl⟩, ?_⟩
          refine .seq ?_
          refine .seq ?_
          refine .region rfl ?_
          refine R.move (h := ?_)
          refine R.not (h := ?_)
          refine .n0 ?_
          refine LGo.ifb (ht := fun hc12 => ?_) (hf := fun hc12 => ?_)
          ·
           refine .exit rfl ?_
           refine LGo.drop 6 (fun o h => (hA' o).1 h) (by omega) [] ((5, .loop fn Tryz.f9.ntmps [(2, (true, .ptr 0 0)), (3, (true, .ptr 1 0)), (4, (true, .ptr 2 0)), (6, (true, .ptr 3 0)), (32, (true, .agg ((rsNames.map fun l => Value.string ⟨l.toArray⟩).map LV.v))), (33, (true, .i (k : Nat)))] #[43] ac _ .busy none) :: (4, .raw (.deferred (some []))) :: [(0, .box 25 (zeroS.c.map LV.sv)), (1, .box 23 [.i 0]), (2, .box 64 [.sv (.sl 2 (fs.map Fd.c))]), (3, .box 3 [.i (k : Nat)])]) trivial (by repeat (first | exact trivial | refine ⟨rfl, ?_⟩)) (by simp) (by simp [LO.lt, LV.lts, LV.lt, lts_sv, lts_v]) (h := ?_)
           refine LGo.done (RoundEnd.go rfl (fun o z hz hne => ?_) rfl)
           rcases o with _ | _ | _ | _ | _ | _ | o <;> first | exact absurd rfl hne | exact hz
          ·
           have hok := readQ_ok (limitsS_63 (k : Int) fv) hfr
           have hll := limitsS_len (k : Int) fv
           have hro : RsOk (foldS (k : Int) (readQ (limitsS (k : Int) fv) rest).1) := foldL_ok (by unfold R64; omega) hok.1
           refine .skip ?_
           refine .seq ?_
           refine .region rfl ?_
           first | refine R.loadB O3 (h := ?_) | refine R.load1 O3 (h := ?_)
           refine R.move (h := ?_)
           refine R.move (h := ?_)
           refine R.callP (es := [_, _, _]) (fun _ => acceptS_P (k : Int) fv (readQ (limitsS (k : Int) fv) rest).1 (by omega) hro) (h := ?_)
           refine R.move (h := ?_)
           refine R.extract (h := ?_)
           refine R.extract (h := ?_)
           refine R.alloc Z25 (h := ?_)
           refine R.storeA A25 (h := ?_)
           refine R.assign (h := ?_)
           refine .n0 ?_
           refine .seq ?_
           refine .region rfl ?_
           refine R.move (h := ?_)
           refine .n0 ?_
           refine LGo.ifb (ht := fun hc13 => by unfold tryP at hno; rw [if_pos (by simpa using hc12)] at hno; rw [hno] at hc13; cases hc13) (hf := fun hc13 => ?_)
           refine .skip ?_
           refine .inBlock ?_
           refine LGo.drop 6 (fun o h => (hA' o).1 h) (by omega) [] ((5, .loop fn Tryz.f9.ntmps [(2, (true, .ptr 0 0)), (3, (true, .ptr 1 0)), (4, (true, .ptr 2 0)), (6, (true, .ptr 3 0)), (32, (true, .agg ((rsNames.map fun l => Value.string ⟨l.toArray⟩).map LV.v))), (33, (true, .i (k : Nat)))] #[43] ac _ .busy none) :: (4, .raw (.deferred (some []))) :: [(0, .box 25 (zeroS.c.map LV.sv)), (1, .box 23 [.i 0]), (2, .box 64 [.sv (.sl 2 (fs.map Fd.c))]), (3, .box 3 [.i (k : Nat)])]) trivial (by repeat (first | exact trivial | refine ⟨rfl, ?_⟩)) (by simp) (by simp [LO.lt, LV.lts, LV.lt, lts_sv, lts_v]) (h := ?_)
           refine LGo.done (RoundEnd.go rfl (fun o z hz hne => ?_) rfl)
           rcases o with _ | _ | _ | _ | _ | _ | o <;> first | exact absurd rfl hne | exact hz
      have hr := forms_go (y := 5) (m := 6) (by decide) rfl (by simp [LO.lt, LV.lts, LV.lt, lts_sv, lts_v]) rfl rfl (yg 0 h0) (yg 11 h1)
      exact hr
     ·
      refine .inBlock ?_
      refine .inBlock ?_
      refine .region rfl ?_
      first | refine R.add (h := ?_) | refine R.addW (h := ?_)
      refine R.move (h := ?_)
      refine .n0 ?_
      refine .inLoop ?_
      have hnm : (fd0 fs).s = rsName (k : Int) := by simp at hc11; exact hc11.symm
      refine LGo.keep [(2, (true, .ptr 0 0)), (3, (true, .ptr 1 0)), (4, (true, .ptr 2 0)), (32, (true, .agg ((rsNames.map fun l => Value.string ⟨l.toArray⟩).map LV.v))), (33, (true, .i ((k + 1 : Nat) : Int)))] [(0, .box 25 (zeroS.c.map LV.sv)), (1, .box 23 [.i 0]), (2, .box 64 [.sv (.sl 2 (fs.map Fd.c))]), (4, .raw (.deferred (some [])))] (by repeat (first | exact trivial | refine ⟨rfl, ?_⟩)) (by repeat (first | exact trivial | refine ⟨rfl, ?_⟩)) ?_
      refine LGo.loopK (σ := Nat) (fun j => j ≤ 14 ∧ k < j ∧ parseGo (fd0 fs).s rest (14 - j) j = g) (fun j => [(2, (true, .ptr 0 0)), (3, (true, .ptr 1 0)), (4, (true, .ptr 2 0)), (32, (true, .agg ((rsNames.map fun l => Value.string ⟨l.toArray⟩).map LV.v))), (33, (true, .i ((j : Nat) : Int)))]) (fun _ => [(0, .box 25 (zeroS.c.map LV.sv)), (1, .box 23 [.i 0]), (2, .box 64 [.sv (.sl 2 (fs.map Fd.c))]), (4, .raw (.deferred (some [])))]) (fun _ => 6) (fun j => 14 - j) (k + 1) ⟨by omega, by omega, hq⟩ ?_
      rintro j ⟨hj, hkj, hqj⟩ ih2
      refine .seq ?_
      refine .region rfl ?_
      refine R.bin (run_lss _ _ _ _ _ _) (h := ?_)
      refine .n0 ?_
      refine .seq ?_
      refine LGo.ifd (ht := fun hc20 => ?_) (hf := fun hc20 => ?_)
      ·
       have hj14 : j < 14 := by omega
       rw [show 14 - j = (14 - (j + 1)) + 1 from by omega, parseGo_step] at hqj
       have hne2 : ¬ (fd0 fs).s = rsName (j : Int) := fun h => by have := names_uniq hk14 hj14 (hnm.symm.trans h); omega
       rw [if_neg hne2] at hqj
       refine .skip ?_
       refine .seq ?_
       refine .block ?_
       refine .seq ?_
       refine .region rfl ?_
       refine R.move (h := ?_)
       refine R.indexV1 IV1 (hj := fun _ => ⟨by omega, by omega, rsName_at2 hj14⟩) (h := ?_)
       refine R.alloc Z3 (h := ?_)
       refine R.storeB O3 (h := ?_)
       refine R.assign (h := ?_)
       refine .n0 ?_
       refine .seq ?_
       refine .seq ?_
       refine .region rfl ?_
       refine R.move (h := ?_)
       first | refine R.loadB O64 (h := ?_) | refine R.load1 O64 (h := ?_)
       refine R.index I64 (e := (fd0 fs).c) (hj := fun _ => ⟨by omega, fd0_at hne⟩) (h := ?_)
       first | refine R.field F68_0 (h := ?_) | refine R.fieldAt F68_0 (h := ?_)
       first | refine R.loadB O9 (h := ?_) | refine R.load1 O9 (h := ?_)
       refine R.bin (run_neqT _ _ _ _ _) (h := ?_)
       refine .n0 ?_
       refine LGo.ifb (ht := fun hc21 => ?_) (hf := fun hc21 => ?_)
       ·
        refine .exit rfl ?_
        refine .region rfl ?_
        first | refine R.add (h := ?_) | refine R.addW (h := ?_)
        refine R.move (h := ?_)
        refine .n0 ?_
        refine .inLoop ?_
        exact LGo.next _ (fun o h => by have := (hA o).1 h; omega) (by omega) (ih2 (j + 1) ⟨by omega, by omega, hqj⟩ (by omega)) (by repeat (first | exact trivial | refine ⟨rfl, ?_⟩)) ⟨rfl, rfl, rfl, rfl, trivial⟩
       ·
        exfalso
        simp at hc21
        exact hne2 hc21.symm
      ·
       obtain rfl : j = 14 := by omega
       rw [show 14 - 14 = 0 from rfl, parseGo] at hqj
       rw [← hqj]
       refine .exit rfl ?_
       refine .seq ?_
       refine .region rfl ?_
       refine R.build BF25 (is := []) (xs := []) (es := []) (h := ?_)
       refine R.storeA A25 (h := ?_)
       refine R.storeB O23 (h := ?_)
       refine .n0 ?_
       exact LGo.ret (FnPost.mark (by rfl) (ret_AB Tryz.results9 A25 O23 hA hmd))
  ·
   obtain rfl : k = 14 := by omega
   rw [show 14 - 14 = 0 from rfl, parseGo] at hq
   rw [← hq]
   refine .exit rfl ?_
   refine .seq ?_
   refine .region rfl ?_
   refine R.build BF25 (is := []) (xs := []) (es := []) (h := ?_)
   refine R.storeA A25 (h := ?_)
   refine R.storeB O23 (h := ?_)
   refine .n0 ?_
   exact LGo.ret (ret_AB Tryz.results9 A25 O23 hA hmd)

end Go.Proofs.YtcobkjognpjikaaGreatDoor
