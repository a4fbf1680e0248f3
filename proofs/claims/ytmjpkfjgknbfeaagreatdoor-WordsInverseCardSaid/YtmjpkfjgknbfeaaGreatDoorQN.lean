/- words: Name, Unquote, and the reference's; when two lists of fields are the same. -/
import Derived.Test.YtmjpkfjgknbfeaaGreatDoorQM
set_option linter.unusedSimpArgs false
set_option linter.unusedVariables false
namespace Go.Proofs.YtmjpkfjgknbfeaaGreatDoor

def lowC (c : UInt8) : Bool := decide (97 ≤ c.toNat) && decide (c.toNat ≤ 122)
def nameB (c : UInt8) : Bool := lowC c || digC c || decide (c.toNat = 45)
def nameC (s : List UInt8) : Bool := if s = [] ∨ 16 < s.length ∨ lowC (s.headD 0) = false then false else s.all nameB
def nameSet : List UInt8 := [97, 98, 99, 100, 101, 102, 103, 104, 105, 106, 107, 108, 109, 110, 111, 112, 113, 114, 115, 116, 117, 118, 119, 120, 121, 122, 48, 49, 50, 51, 52, 53, 54, 55, 56, 57, 45]
theorem trimN_P (s : List UInt8) (hs : s.length ≤ 100000) : PC Tryz.prog 41 [.t s, .t nameSet] (.t (Lib.trimS s nameSet)) := by
  generalize hp : nameSet = p
  exact PC.of_val (Entr.of Tryz.func41 rfl (by kernel_rfl)) (by simp [LV.lts, LV.lt]) fun cx w vs hl ham hv => by
    obtain ⟨v1, v2, rfl, h2, h3⟩ : ∃ v1 v2, vs = [v1, v2] ∧ V cx w (.t s) v1 ∧ V cx w (.t p) v2 := by
      simp only [Vs] at hv
      obtain ⟨v1, r1, rfl, h1, v2, r2, rfl, h2, rfl⟩ := hv
      exact ⟨_, _, rfl, h1, h2⟩
    rw [h2.val, h3.val]
    refine (Any.strings_Trim_laid Tryz.lays160 (by kernel_rfl) ⟨s.toArray⟩ ⟨p.toArray⟩ w (by show s.toArray.size ≤ _; simp; omega) (by rw [← hp]; decide) (by rw [← hp]; exact ascii_of_all (by decide))).mono ?_
    rintro e w' ⟨rfl, hb⟩
    exact ⟨rfl, hb⟩
theorem nameSet_contains (c : UInt8) : nameSet.contains c = nameB c := u8_all (p := fun c => nameSet.contains c = nameB c) (by decide +kernel) c
theorem trimN_nil (t : List UInt8) : Lib.trimS t nameSet = [] ↔ t.all nameB = true := by
  have h : ∀ l : List UInt8, l.dropWhile (nameSet.contains ·) = [] ↔ l.all nameB = true := by
    intro l
    induction l with
    | nil => simp
    | cons a l ih =>
      rw [List.dropWhile_cons, List.all_cons, nameSet_contains]
      cases nameB a
      · simp
      · simpa using ih
  unfold Lib.trimS Lib.trimLeftS Lib.trimRightS
  rw [h]
  constructor
  · intro h1
    have h2 : (t.reverse.dropWhile (nameSet.contains ·)) = [] := by
      cases h3 : t.reverse.dropWhile (nameSet.contains ·) with
      | nil => rfl
      | cons a l =>
        exfalso
        have h4 : nameSet.contains a = false := dw_head h3
        rw [nameSet_contains] at h4
        rw [h3] at h1
        simp [h4] at h1
    rw [h] at h2
    simpa using h2
  · intro h1
    have h2 : t.reverse.dropWhile (nameSet.contains ·) = [] := by rw [h]; simpa using h1
    rw [h2]; rfl
theorem nameC_bad {s : List UInt8} (h : s = [] ∨ 16 < s.length ∨ lowC (s.headD 0) = false) : nameC s = false := if_pos h
theorem nameC_all {s : List UInt8} (h : ¬ (s = [] ∨ 16 < s.length ∨ lowC (s.headD 0) = false)) : nameC s = s.all nameB := if_neg h
theorem low_not {c : UInt8} : lowC c = false ↔ c.toNat < 97 ∨ 122 < c.toNat := by unfold lowC; rw [Bool.and_eq_false_iff, decide_eq_false_iff_not, decide_eq_false_iff_not]; omega

theorem name_P (s : List UInt8) (hs : s.length ≤ 100000) : PC Tryz.prog 15 [.t s] (.b (nameC s)) := by
 refine ⟨LC.of_go Tryz.func15 (c := _) rfl (by kernel_rfl) (by rw [Tryz.ntmps15]; simp) rfl rfl (by simp [LO.lt, LV.lts, LV.lt]) (by simp) ?_⟩
 intro B hA hmd
 refine .seq ?_
 refine .region rfl ?_
 refine R.assign (h := ?_)
 refine .n0 ?_
 refine .seq ?_
 refine .seq ?_
 refine .region rfl ?_
 refine R.move (h := ?_)
 refine R.bin (run_eqlT _ _ _ _ _) (h := ?_)
 refine R.move (h := ?_)
 refine R.move (h := ?_)
 refine R.lenT Tryz.runUnderlying9 (h := ?_)
 refine R.bin (run_gtr _ _ _ _ _ _) (h := ?_)
 refine R.or (h := ?_)
 refine R.move (h := ?_)
 refine R.move (h := ?_)
 refine R.indexT Tryz.runUnderlying9 (c := s.headD 0) (hj := fun hg => ⟨by omega, by cases s with | nil => simp at hg | cons a r => rfl⟩) (h := ?_)
 refine R.bin (run_lss _ _ _ _ _ _) (h := ?_)
 refine R.or (h := ?_)
 refine R.move (h := ?_)
 refine R.move (h := ?_)
 refine R.indexT Tryz.runUnderlying9 (c := s.headD 0) (hj := fun hg => ⟨by omega, by cases s with | nil => simp at hg | cons a r => rfl⟩) (h := ?_)
 refine R.bin (run_gtr _ _ _ _ _ _) (h := ?_)
 refine R.or (h := ?_)
 refine .n0 ?_
 refine LGo.ifb (ht := fun hc => ?_) (hf := fun hc => ?_)
 ·
  rw [nameC_bad (s := s) (by simp only [Bool.or_eq_true, Bool.and_eq_true, decide_eq_true_eq, Bool.or_eq_false_iff, Bool.and_eq_false_iff, decide_eq_false_iff_not, Bool.not_eq_true', Bool.not_eq_false', Bool.not_eq_true, Bool.not_eq_false, Bool.false_eq_true, Bool.true_eq_false, iff_true, true_iff, iff_false, false_iff] at hc; rw [low_not]; rcases hc with ((h | h) | h) | h; exact .inl h; exact .inr (.inl (by omega)); exact .inr (.inr (by omega)); exact .inr (.inr (by omega)))]
  refine .seq ?_
  refine .region rfl ?_
  refine R.assign (h := ?_)
  refine .n0 ?_
  exact LGo.ret (ret_T Tryz.results15 hA hmd)
 ·
  have hn : nameC s = decide (Lib.trimS s nameSet = []) := by
    rw [nameC_all (s := s) (by simp only [Bool.or_eq_true, Bool.and_eq_true, decide_eq_true_eq, Bool.or_eq_false_iff, Bool.and_eq_false_iff, decide_eq_false_iff_not, Bool.not_eq_true', Bool.not_eq_false', Bool.not_eq_true, Bool.not_eq_false, Bool.false_eq_true, Bool.true_eq_false, iff_true, true_iff, iff_false, false_iff] at hc; rw [low_not]; rintro (h | h | h); exact hc.1.1.1 h; exact hc.1.1.2 (by omega); omega), Bool.eq_iff_iff, decide_eq_true_eq, trimN_nil]
  rw [hn]
  refine .skip ?_
  refine .seq ?_
  refine .region rfl ?_
  refine R.move (h := ?_)
  refine R.callP (es := [_, _]) (fun _ => trimN_P s hs) (h := ?_)
  refine R.bin (run_eqlT _ _ _ _ _) (h := ?_)
  refine R.assign (h := ?_)
  refine .n0 ?_
  exact LGo.ret (ret_T Tryz.results15 hA hmd)

def unqW (s : List UInt8) : List UInt8 × Int := if (unq s).2 = 0 ∨ (unq s).2 < s.length then ([], 6) else ((unq s).1, 0)

theorem unquoteW_P (s : List UInt8) (hs : s.length ≤ 100000) : PC Tryz.prog 13 [.t s] (.tup [.t (unqW s).1, .i (unqW s).2]) := by
 refine ⟨LC.of_go Tryz.func13 (c := _) rfl (by kernel_rfl) (by rw [Tryz.ntmps13]; simp) rfl rfl (by simp [LO.lt, LV.lts, LV.lt]) (by simp) ?_⟩
 intro B hA hmd
 obtain ⟨g, e0⟩ : ∃ g, unqW s = g := ⟨_, rfl⟩
 have e1 := e0
 unfold unqW at e1
 rw [e0]
 have hul := unq_le s
 refine .seq ?_
 refine .region rfl ?_
 refine R.assign (h := ?_)
 refine R.assign (h := ?_)
 refine .n0 ?_
 refine .seq ?_
 refine .region rfl ?_
 refine R.move (h := ?_)
 refine R.callP (es := [_]) (fun _ => unquote_P s hs) (h := ?_)
 refine R.move (h := ?_)
 refine R.extract (h := ?_)
 refine R.extract (h := ?_)
 refine R.assign (h := ?_)
 refine R.assign (h := ?_)
 refine .n0 ?_
 refine .seq ?_
 refine .seq ?_
 refine .region rfl ?_
 refine R.move (h := ?_)
 refine R.bin (run_eql _ _ _ _ _ _) (h := ?_)
 refine R.move (h := ?_)
 refine R.move (h := ?_)
 refine R.move (h := ?_)
 refine R.lenT Tryz.runUnderlying9 (h := ?_)
 refine R.bin (run_lss _ _ _ _ _ _) (h := ?_)
 refine R.or (h := ?_)
 refine .n0 ?_
 refine LGo.ifb (ht := fun hc => ?_) (hf := fun hc => ?_)
 ·
  rw [if_pos (by simp only [Bool.or_eq_true, Bool.and_eq_true, decide_eq_true_eq, Bool.or_eq_false_iff, Bool.and_eq_false_iff, decide_eq_false_iff_not, Bool.not_eq_true', Bool.not_eq_false', Bool.not_eq_true, Bool.not_eq_false, Bool.false_eq_true, Bool.true_eq_false, iff_true, true_iff, iff_false, false_iff] at hc; omega)] at e1; rw [← e1]
  refine .seq ?_
  refine .region rfl ?_
  refine R.assign (h := ?_)
  refine R.assign (h := ?_)
  refine .n0 ?_
  exact LGo.ret (ret_TT Tryz.results13 hA hmd)
 ·
  rw [if_neg (by simp only [Bool.or_eq_true, Bool.and_eq_true, decide_eq_true_eq, Bool.or_eq_false_iff, Bool.and_eq_false_iff, decide_eq_false_iff_not, Bool.not_eq_true', Bool.not_eq_false', Bool.not_eq_true, Bool.not_eq_false, Bool.false_eq_true, Bool.true_eq_false, iff_true, true_iff, iff_false, false_iff] at hc; omega)] at e1; rw [← e1]
  refine .skip ?_
  refine .seq ?_
  refine .region rfl ?_
  refine R.move (h := ?_)
  refine R.assign (h := ?_)
  refine R.assign (h := ?_)
  refine .n0 ?_
  exact LGo.ret (ret_TT Tryz.results13 hA hmd)

theorem sameF_P (l : List Fd) (hl : l.length ≤ 100000) : PC Tryz.prog 18 [.sv (.sl 2 (l.map Fd.c)), .sv (.sl 2 (l.map Fd.c))] (.b true) := by
 refine ⟨LC.of_go Tryz.func18 (c := _) rfl (by kernel_rfl) (by rw [Tryz.ntmps18]; simp) rfl rfl (by simp [LO.lt, LV.lts, LV.lt]) (by simp) ?_⟩
 intro B hA hmd
 refine .seq ?_
 refine .region rfl ?_
 refine R.assign (h := ?_)
 refine .n0 ?_
 refine .seq ?_
 refine .seq ?_
 refine .region rfl ?_
 refine R.move (h := ?_)
 first | refine R.len S34 (h := ?_) | refine R.lenRs S34 (h := ?_) | refine R.lenV (run_lenNil S34) (h := ?_)
 rw [List.length_map]
 refine R.move (h := ?_)
 first | refine R.len S34 (h := ?_) | refine R.lenRs S34 (h := ?_) | refine R.lenV (run_lenNil S34) (h := ?_)
 rw [List.length_map]
 refine R.bin (run_neq _ _ _ _ _ _) (h := ?_)
 refine .n0 ?_
 refine LGo.ifb (ht := fun hc => ?_) (hf := fun hc => ?_)
 ·
  simp at hc
 ·
  refine .skip ?_
  refine .seq ?_
  refine .seq ?_
  refine .region rfl ?_
  refine R.assign (h := ?_)
  refine .n0 ?_
  refine .block ?_
  refine .loop ?_
  refine LGo.loopG (σ := Nat) (fun x => x ≤ l.length) (fun x => [(5, (true, .i (x : Nat)))]) (fun x => []) (fun x => l.length - x) (0) [(0, _), (1, _)] (Nat.zero_le _) (by repeat (first | exact trivial | refine ⟨rfl, ?_⟩)) (by repeat (first | exact trivial | refine ⟨rfl, ?_⟩)) (by repeat (first | exact trivial | refine ⟨rfl, ?_⟩)) ?_
  rintro k hk ih
  refine .seq ?_
  refine .seq ?_
  refine .region rfl ?_
  refine R.move (h := ?_)
  refine R.move (h := ?_)
  first | refine R.len S34 (h := ?_) | refine R.lenRs S34 (h := ?_) | refine R.lenV (run_lenNil S34) (h := ?_)
  rw [List.length_map]
  refine R.bin (run_lss _ _ _ _ _ _) (h := ?_)
  refine .n0 ?_
  refine LGo.ifd (ht := fun hc2 => ?_) (hf := fun hc2 => ?_)
  ·
   have hlt : k < l.length := by omega
   have hx : (l.map Fd.c)[((k : Nat) : Int).toNat]? = some l[k].c := by simp [hlt]
   generalize l[k] = f at hx
   refine .skip ?_
   refine .seq ?_
   refine .block ?_
   refine .seq ?_
   refine .region rfl ?_
   refine R.move (h := ?_)
   refine R.move (h := ?_)
   refine R.index I34 (hj := fun hg => ⟨by omega, hx⟩) (h := ?_)
   first | refine R.loadA A47 (h := ?_) | refine R.loadN A47 (h := ?_) | refine R.loadP A47 (h := ?_)
   refine R.move (h := ?_)
   refine R.move (h := ?_)
   refine R.index I34 (hj := fun hg => ⟨by omega, hx⟩) (h := ?_)
   first | refine R.loadA A47 (h := ?_) | refine R.loadN A47 (h := ?_) | refine R.loadP A47 (h := ?_)
   refine R.binA (NE47 _ _ _ _ _ _) (h := ?_)
   refine Reg.nil ⟨fun _ => ⟨mixedO, by rfl, by rfl⟩, ?_⟩
   refine LGo.ifb (ht := fun hc3 => ?_) (hf := fun hc3 => ?_)
   ·
    simp at hc3
   ·
    refine .skip ?_
    refine .inBlock ?_
    refine .region rfl ?_
    refine R.move (h := ?_)
    first | refine R.add (h := ?_) | refine R.addW (h := ?_)
    refine R.assign (h := ?_)
    refine .n0 ?_
    refine .inLoop ?_
    exact LGo.next _ (fun o h => by have := (hA o).1 h; omega) (by omega) (ih (k + 1) hlt (by omega)) (by repeat (first | exact trivial | refine ⟨rfl, ?_⟩)) (by repeat (first | exact trivial | refine ⟨rfl, ?_⟩))
  ·
   refine .exit rfl ?_
   refine .seq ?_
   refine .region rfl ?_
   refine R.assign (h := ?_)
   refine .n0 ?_
   exact LGo.ret (ret_T Tryz.results18 hA hmd)

end Go.Proofs.YtmjpkfjgknbfeaaGreatDoor
