/- requests: Parse. -/
import Derived.Test.YtckbomkcnmcdaaaGreatDoorRE
set_option linter.unusedSimpArgs false
set_option linter.unusedVariables false
namespace Go.Proofs.YtckbomkcnmcdaaaGreatDoor

set_option linter.unusedSimpArgs false
theorem longF_go : ∀ (l : List Fd) (b : Bool), l.foldl (fun b f => b || decide (2000 < (f.s.length : Int))) b = false → b = false ∧ ∀ f ∈ l, f.s.length ≤ 2000
  | [], b, h => ⟨h, by simp⟩
  | a :: l, b, h => by
    obtain ⟨h1, h2⟩ := longF_go l _ h
    simp only [Bool.or_eq_false_iff, decide_eq_false_iff_not] at h1
    exact ⟨h1.1, fun f hf => (List.mem_cons.1 hf).elim (fun e => by rw [e]; omega) (h2 f)⟩
theorem split1_len (s : List UInt8) : (split1 s).1.length ≤ 64 ∧ ∀ f ∈ (split1 s).1, f.s.length ≤ 2000 := by
  unfold split1
  split
  · simp
  split
  · simp
  split
  · simp
  split
  · simp
  · rename_i h
    simp only [Bool.or_eq_true, decide_eq_true_eq, not_or] at h
    exact ⟨by show (fldsG (s.length + 1) s).1.length ≤ 64; omega, (longF_go _ _ (by simpa [longF] using h.1)).2⟩
theorem ruleQ_63 (t : Int) : 0 ≤ (ruleQ t).low ∧ (ruleQ t).low < 9223372036854775808 ∧ 0 ≤ (ruleQ t).high ∧ (ruleQ t).high < 9223372036854775808 := by
  unfold ruleQ
  (repeat' split) <;> simp
theorem ruGo_of (m : Int) : ∀ (n k : Nat) (l : List Rule), (∀ x ∈ l, ∃ t : Int, x = ruleQ t) → ∀ x ∈ ruGo m n k l, ∃ t : Int, x = ruleQ t
  | 0, k, l, h => by rw [ruGo]; exact h
  | n + 1, k, l, h => by
    rw [ruGo]
    split
    · exact ruGo_of m n (k + 1) _ (fun x hx => (List.mem_append.1 hx).elim (h x) (fun h1 => ⟨k, List.mem_singleton.1 h1⟩))
    · exact ruGo_of m n (k + 1) l h
theorem rulesQ_of (k : Int) : ∀ x ∈ (rulesQ k).1, ∃ t : Int, x = ruleQ t := by
  unfold rulesQ
  split
  · simp
  · exact ruGo_of _ 16 0 [] (by simp)
theorem rulesQ_63 (k : Int) : Low63 (rulesQ k).1 := fun x hx => by
  obtain ⟨t, rfl⟩ := rulesQ_of k x hx
  exact ruleQ_63 t
/-- a field that a line's fields say -/
def FldL (x : Fld) : Prop := 0 ≤ x.num ∧ x.num < 9223372036854775808 ∧ x.txt.length ≤ 2000
theorem readGo_ok : ∀ (rs : List Rule) (fs : List Fd) (acc : List Fld), Low63 rs → (∀ f ∈ fs, f.s.length ≤ 2000) → (∀ x ∈ acc, FldL x) → (∀ x ∈ (readGo rs fs acc).1, FldL x) ∧ (readGo rs fs acc).1.length ≤ acc.length + rs.length
  | [], fs, acc, _, _, h => by rw [readGo]; exact ⟨h, by simp⟩
  | x :: rs, [], acc, _, _, _ => by rw [readGo]; simp
  | x :: rs, f :: fs, acc, h1, h2, h3 => by
    have h1' : Low63 rs := fun y hy => h1 y (by simp [hy])
    have h2' : ∀ g ∈ fs, g.s.length ≤ 2000 := fun g hg => h2 g (by simp [hg])
    have hx := h1 x (by simp)
    rw [readGo]
    split
    · simp
    split
    · have := readGo_ok rs fs (acc ++ [⟨x.tag, 0, f.s⟩]) h1' h2' (fun y hy => (List.mem_append.1 hy).elim (h3 y) (fun h => by rw [List.mem_singleton.1 h]; exact ⟨by simp, by simp, h2 f (by simp)⟩))
      refine ⟨this.1, ?_⟩
      have := this.2
      simp only [List.length_append, List.length_cons, List.length_nil] at this ⊢
      omega
    split
    · simp
    · rename_i h9
      have hin := intW_in (s := f.s) (lo := x.low) (hi := x.high) (by simpa using h9)
      have := readGo_ok rs fs (acc ++ [⟨x.tag, (intW f.s x.low x.high).1, []⟩]) h1' h2' (fun y hy => (List.mem_append.1 hy).elim (h3 y) (fun h => by rw [List.mem_singleton.1 h]; exact ⟨by show 0 ≤ (intW f.s x.low x.high).1; omega, by show (intW f.s x.low x.high).1 < _; omega, by simp⟩))
      refine ⟨this.1, ?_⟩
      have := this.2
      simp only [List.length_append, List.length_cons, List.length_nil] at this ⊢
      omega
theorem readQ_ok {rs : List Rule} {fs : List Fd} (h1 : Low63 rs) (h2 : ∀ f ∈ fs, f.s.length ≤ 2000) : (∀ x ∈ (readQ rs fs).1, FldL x) ∧ (readQ rs fs).1.length ≤ rs.length := by
  unfold readQ
  split
  · simp
  · have := readGo_ok rs fs [] h1 h2 (by simp)
    exact ⟨this.1, by simpa using this.2⟩
theorem putQ_ok {r : Rq} {f : Fld} (hr : RqOk r) (hf : 0 ≤ f.num ∧ f.num < 18446744073709551616 ∧ f.txt.length ≤ 2000) : RqOk (putQ r f) := by
  have w1 : ∀ n : Int, R64 (IntKind.i64.wrap n) := fun n => by unfold R64; rw [IntKind.wrap_i64]; omega
  have w2 : ∀ n : Int, 0 ≤ IntKind.u32.wrap n ∧ IntKind.u32.wrap n < 4294967296 := fun n => by rw [IntKind.wrap_u32]; omega
  have ht : f.txt.length ≤ maxLen := by have : (2000 : Nat) ≤ maxLen := by decide
                                        omega
  unfold putQ
  (repeat' split) <;> constructor <;> first | exact hr.kind | exact hr.id | exact hr.owner | exact hr.to | exact hr.ses | exact hr.tic | exact hr.seat | exact hr.sec | exact hr.n | exact hr.gate | exact w1 _ | exact w2 _ | exact ht | exact ⟨hf.1, hf.2.1⟩
theorem foldQ_ok {r : Rq} : ∀ {l : List Fld}, RqOk r → (∀ f ∈ l, 0 ≤ f.num ∧ f.num < 18446744073709551616 ∧ f.txt.length ≤ 2000) → RqOk (foldQ r l) := by
  intro l
  induction l generalizing r with
  | nil => intro h _; exact h
  | cons f l ih => intro h hf; exact ih (r := putQ r f) (putQ_ok h (hf f (by simp))) (fun g hg => hf g (by simp [hg]))
theorem kindQ_ok (k : Nat) (h : k ≤ 255) : RqOk { zeroQ with kind := (k : Int) } := by
  constructor <;> first | (unfold R64; dsimp only; omega) | (dsimp only; omega) | (simp [maxLen])
def candQ (k : Nat) (rest : List Fd) : Rq := foldQ { zeroQ with kind := (k : Int) } (readQ (rulesQ k).1 rest).1
theorem candQ_ok {k : Nat} {rest : List Fd} (hk : k ≤ 255) (h2 : ∀ f ∈ rest, f.s.length ≤ 2000) : RqOk (candQ k rest) :=
  foldQ_ok (kindQ_ok k hk) fun f hf => by have := (readQ_ok (rulesQ_63 k) h2).1 f hf; exact ⟨this.1, by have := this.2.1; omega, this.2.2⟩
def okQ (k : Nat) (rest : List Fd) : Bool := (readQ (rulesQ k).1 rest).2 && decide (checkQ (candQ k rest) = 0)
def pGo (nm : List UInt8) (rest : List Fd) : Nat → Nat → Rq × Int
  | 0, _ => (zeroQ, 6)
  | n + 1, k => if (!decide (rqName k = nm)) = true then pGo nm rest n (k + 1) else if okQ k rest = true then (candQ k rest, 0) else pGo nm rest n (k + 1)
abbrev fd0 (fs : List Fd) : Fd := fs.headD ⟨[], false⟩
def parseQ (line : List UInt8) : Rq × Int := if ((!decide ((split1 line).2 = 0) || decide (((split1 line).1.length : Int) = 0)) || (fd0 (split1 line).1).q) = true then (zeroQ, 6) else pGo (fd0 (split1 line).1).s ((split1 line).1.drop 1) 14 0
theorem IV1 : IndexV1F Tryz.prog 79 14 := ⟨9, Tryz.runUnderlying79, Tryz.isAgg9, Tryz.sizeOf9⟩
theorem fd0_at {fs : List Fd} (h : fs ≠ []) : (fs.map Fd.c)[Int.toNat 0]? = some (fd0 fs).c := by cases fs with | nil => exact absurd rfl h | cons a l => rfl
theorem rqName_at2 {k : Nat} (h1 : k < 14) : (rqNames.map fun l => Value.string ⟨l.toArray⟩)[((k : Nat) : Int).toNat]? = some (.string ⟨(rqName (k : Int)).toArray⟩) := by
  have := rqName_at (k := (k : Int)) (by omega) (by omega)
  rwa [Nat.zero_add, Nat.mul_one] at this

theorem parseQ_P (line : List UInt8) : PC Tryz.prog 26 [.t line] (.tup [.agg ((parseQ line).1.c.map LV.sv), .i (parseQ line).2]) := by
 refine ⟨LC.of_go Tryz.func26 (c := _) rfl (by kernel_rfl) (by rw [Tryz.ntmps26]; simp) rfl rfl (by simp [LO.lt, LV.lts, LV.lt]) (by simp) ?_⟩
 intro B hA hmd
 obtain ⟨g, e0⟩ : ∃ g, parseQ line = g := ⟨_, rfl⟩
 have e1 := e0
 unfold parseQ at e1
 rw [e0]
 have hsl := split1_len line
 refine .seq ?_
 refine .region rfl ?_
 refine R.alloc Z35 (h := ?_)
 refine R.assign (h := ?_)
 refine .n0 ?_
 refine .seq ?_
 refine .region rfl ?_
 refine R.move (h := ?_)
 refine R.callP (es := [_]) (fun _ => split_P line) (h := ?_)
 generalize (split1 line).2 = e at *
 generalize (split1 line).1 = fs at *
 obtain ⟨hl64, hfl⟩ := hsl
 have hfr : ∀ f ∈ fs.drop 1, f.s.length ≤ 2000 := fun f hf => hfl f (List.mem_of_mem_drop hf)
 refine R.move (h := ?_)
 refine R.extract (h := ?_)
 refine R.extract (h := ?_)
 refine R.assign (h := ?_)
 refine R.assign (h := ?_)
 refine .n0 ?_
 refine .seq ?_
 refine .seq ?_
 refine .region rfl ?_
 refine R.move (h := ?_)
 refine R.bin (run_neq _ _ _ _ _ _) (h := ?_)
 refine R.move (h := ?_)
 refine R.move (h := ?_)
 first | refine R.len S85 (h := ?_) | refine R.lenRs S85 (h := ?_) | refine R.lenV (run_lenNil S85) (h := ?_)
 rw [List.length_map]
 refine R.bin (run_eql _ _ _ _ _ _) (h := ?_)
 refine R.or (h := ?_)
 refine R.move (h := ?_)
 refine R.move (h := ?_)
 refine R.index I85 (e := (fd0 fs).c) (hj := fun hg => ⟨by omega, fd0_at (by rintro rfl; simp at hg)⟩) (h := ?_)
 first | refine R.field F89_1 (h := ?_) | refine R.fieldAt F89_1 (h := ?_)
 first | refine R.loadB O4 (h := ?_) | refine R.load1 O4 (h := ?_)
 refine R.or (h := ?_)
 refine .n0 ?_
 refine LGo.ifb (ht := fun hc => ?_) (hf := fun hc => ?_)
 ·
  rw [if_pos hc] at e1; rw [← e1]
  refine .seq ?_
  refine .region rfl ?_
  refine R.build BF35 (is := []) (xs := []) (es := []) (h := ?_)
  refine R.storeA A35 (h := ?_)
  refine R.assign (h := ?_)
  refine .n0 ?_
  exact LGo.ret (ret_AT Tryz.results26 A35 hA hmd)
 ·
  rw [if_neg (by rw [hc]; simp)] at e1
  have hne : fs ≠ [] := by rintro rfl; simp at hc
  refine .skip ?_
  refine .seq ?_
  refine .seq ?_
  refine .region rfl ?_
  refine R.gLoadN A79 (hm := tabNq) (h := ?_)
  refine R.move (h := ?_)
  refine .n0 ?_
  refine .block ?_
  refine .loop ?_
  refine LGo.loopG (σ := Nat) (fun x => x ≤ 14 ∧ pGo (fd0 fs).s (fs.drop 1) (14 - x) x = g) (fun x => [(33, (true, .i (x : Nat)))]) (fun x => [(0, .box 35 (zeroQ.c.map LV.sv))]) (fun x => 14 - x) (0) [(2, _), (4, _), (32, _)] ⟨by omega, e1⟩ (by repeat (first | exact trivial | refine ⟨rfl, ?_⟩)) (by repeat (first | exact trivial | refine ⟨rfl, ?_⟩)) (by repeat (first | exact trivial | refine ⟨rfl, ?_⟩)) ?_
  rintro k ⟨hk, hq⟩ ih
  refine .seq ?_
  refine .region rfl ?_
  refine R.bin (run_lss _ _ _ _ _ _) (h := ?_)
  refine .n0 ?_
  refine .seq ?_
  refine LGo.ifd (ht := fun hc2 => ?_) (hf := fun hc2 => ?_)
  ·
   have hk14 : k < 14 := by omega
   rw [show 14 - k = (14 - (k + 1)) + 1 from by omega, pGo] at hq
   refine .skip ?_
   refine .seq ?_
   refine .block ?_
   refine .seq ?_
   refine .region rfl ?_
   refine R.move (h := ?_)
   refine R.indexV1 IV1 (hj := fun _ => ⟨by omega, by omega, rqName_at2 hk14⟩) (h := ?_)
   refine R.assign (h := ?_)
   refine R.assign (h := ?_)
   refine .n0 ?_
   refine .seq ?_
   refine .seq ?_
   refine .region rfl ?_
   refine R.move (h := ?_)
   refine R.move (h := ?_)
   refine R.index I85 (e := (fd0 fs).c) (hj := fun _ => ⟨by omega, fd0_at hne⟩) (h := ?_)
   first | refine R.field F89_0 (h := ?_) | refine R.fieldAt F89_0 (h := ?_)
   first | refine R.loadB O9 (h := ?_) | refine R.load1 O9 (h := ?_)
   refine R.bin (run_neqT _ _ _ _ _) (h := ?_)
   refine .n0 ?_
   refine LGo.ifb (ht := fun hc3 => ?_) (hf := fun hc3 => ?_)
   ·
    rw [if_pos hc3] at hq
    refine .exit rfl ?_
    refine .region rfl ?_
    first | refine R.add (h := ?_) | refine R.addW (h := ?_)
    refine R.move (h := ?_)
    refine .n0 ?_
    refine .inLoop ?_
    exact LGo.next _ (fun o h => by have := (hA o).1 h; omega) (by omega) (ih (k + 1) ⟨by omega, hq⟩ (by omega)) (by repeat (first | exact trivial | refine ⟨rfl, ?_⟩)) ⟨rfl, trivial⟩
   ·
    rw [if_neg (by rw [hc3]; simp)] at hq
    refine .skip ?_
    refine .seq ?_
    refine .region rfl ?_
    refine R.move (h := ?_)
    refine R.callP (es := [_]) (fun _ => rulesQ_P (k : Int)) (h := ?_)
    refine R.move (h := ?_)
    refine R.extract (h := ?_)
    refine R.extract (h := ?_)
    refine R.assign (h := ?_)
    refine R.assign (h := ?_)
    refine .n0 ?_
    refine .seq ?_
    refine .region rfl ?_
    refine R.move (h := ?_)
    refine R.move (h := ?_)
    refine R.sliceLo SF85 (ha := fun _ => by rw [List.length_map]; have := List.length_pos_iff.2 hne; omega) (h := ?_)
    rw [show (fs.map Fd.c).drop (Int.toNat 1) = (fs.drop 1).map Fd.c from by rw [List.map_drop]; rfl]
    refine R.callP (es := [_, _]) (fun _ => readQ_P (rulesQ (k : Int)).1 (fs.drop 1) (rulesQ_63 k) (by have := rulesQ_len (k : Int); omega) (by rw [List.length_drop]; omega) (fun f hf => by have := hfl f (List.mem_of_mem_drop hf); omega)) (h := ?_)
    refine R.move (h := ?_)
    refine R.extract (h := ?_)
    refine R.extract (h := ?_)
    refine R.assign (h := ?_)
    refine R.assign (h := ?_)
    refine .n0 ?_
    refine .seq ?_
    refine .region rfl ?_
    refine R.move (h := ?_)
    refine R.build BF35 (is := [0]) (xs := [_]) (es := [_]) (h := ?_)
    refine R.move (h := ?_)
    refine R.callP (es := [_, _]) (fun _ => putQ_P { zeroQ with kind := (k : Int) } (readQ (rulesQ (k : Int)).1 (fs.drop 1)).1 (by have := (readQ_ok (rulesQ_63 k) hfr).2; have := rulesQ_len (k : Int); omega)) (h := ?_)
    refine R.alloc Z35 (h := ?_)
    refine R.storeA A35 (h := ?_)
    refine .n0 ?_
    refine .seq ?_
    refine .region rfl ?_
    refine R.move (h := ?_)
    refine R.move (h := ?_)
    first | refine R.loadA A35 (h := ?_) | refine R.loadN A35 (h := ?_) | refine R.loadP A35 (h := ?_)
    refine R.callP (es := [_]) (fun _ => checkQ_P (candQ k (fs.drop 1)) (candQ_ok (by omega) hfr)) (h := ?_)
    refine R.bin (run_eql _ _ _ _ _ _) (h := ?_)
    refine R.and (h := ?_)
    refine .n0 ?_
    refine LGo.ifb (ht := fun hc4 => ?_) (hf := fun hc4 => ?_)
    ·
     rw [if_pos (show okQ k (fs.drop 1) = true from hc4)] at hq
     rw [← hq]
     refine .seq ?_
     refine .region rfl ?_
     first | refine R.loadA A35 (h := ?_) | refine R.loadN A35 (h := ?_) | refine R.loadP A35 (h := ?_)
     refine R.storeA A35 (h := ?_)
     refine R.assign (h := ?_)
     refine .n0 ?_
     exact LGo.ret (ret_AT Tryz.results26 A35 hA hmd)
    ·
     rw [if_neg (show ¬ okQ k (fs.drop 1) = true from fun h => by rw [show okQ k (fs.drop 1) = false from hc4] at h; cases h)] at hq
     refine .skip ?_
     refine .inBlock ?_
     refine .region rfl ?_
     first | refine R.add (h := ?_) | refine R.addW (h := ?_)
     refine R.move (h := ?_)
     refine .n0 ?_
     refine .inLoop ?_
     exact LGo.next _ (fun o h => by have := (hA o).1 h; omega) (by omega) (ih (k + 1) ⟨by omega, hq⟩ (by omega)) (by repeat (first | exact trivial | refine ⟨rfl, ?_⟩)) ⟨rfl, trivial⟩
  ·
   obtain rfl : k = 14 := by omega
   rw [show 14 - 14 = 0 from rfl, pGo] at hq
   rw [← hq]
   refine .exit rfl ?_
   refine .seq ?_
   refine .region rfl ?_
   refine R.build BF35 (is := []) (xs := []) (es := []) (h := ?_)
   refine R.storeA A35 (h := ?_)
   refine R.assign (h := ?_)
   refine .n0 ?_
   exact LGo.ret (ret_AT Tryz.results26 A35 hA hmd)

end Go.Proofs.YtckbomkcnmcdaaaGreatDoor
