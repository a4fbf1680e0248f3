/- Texts of this claim, merged (Y to TO); no condition. -/
import Derived.Test.YteccglgbkehdeaaGreatDoorPE6
/- How arguments are read: scripts, what is asked, faults. -/
set_option linter.unusedSimpArgs false
set_option linter.unusedVariables false
namespace Go.Proofs.YteccglgbkehdeaaGreatDoor

section
open Go.ChangeShapes Go.WideShapes Go.Deep Go.RowKit Go.ChangeAt
variable {H : Type} {enc : TypeId × Value → H} {w : World}
theorem rd_Ca : Rd enc Tryz.prog w 40 (fun ss => ∃ x : SrC, ss = x.c ∧ x.ok) := by
  refine (Rd.struct (S := fun j s => match j with
    | 0 => ∃ n, s = .val (.int .i64 n) ∧ (-9223372036854775808 ≤ n ∧ n ≤ 9223372036854775807)
    | 1 => ∃ n, s = .val (.int .u32 n) ∧ (0 ≤ n ∧ n < 4294967296)
    | 2 => ∃ n, s = .val (.int .u32 n) ∧ (0 ≤ n ∧ n < 4294967296)
    | 3 => ∃ n, s = .val (.int .i64 n) ∧ (-9223372036854775808 ≤ n ∧ n ≤ 9223372036854775807)
    | 4 => ∃ n, s = .val (.int .i64 n) ∧ (-9223372036854775808 ≤ n ∧ n ≤ 9223372036854775807)
    | 5 => ∃ n, s = .val (.int .i64 n) ∧ (-9223372036854775808 ≤ n ∧ n ≤ 9223372036854775807)
    | 6 => ∃ n, s = .val (.int .i64 n) ∧ (-9223372036854775808 ≤ n ∧ n ≤ 9223372036854775807)
    | 7 => ∃ n, s = .val (.int .i64 n) ∧ (-9223372036854775808 ≤ n ∧ n ≤ 9223372036854775807)
    | 8 => ∃ n, s = .val (.int .i64 n) ∧ (-9223372036854775808 ≤ n ∧ n ≤ 9223372036854775807)
    | 9 => ∃ n, s = .val (.int .i64 n) ∧ (-9223372036854775808 ≤ n ∧ n ≤ 9223372036854775807)
    | _ => ∃ l : List UInt8, s = .val (.string ⟨l.toArray⟩) ∧ l.length ≤ maxLen) Tryz.underlying40 (by kernel_rfl) (by kernel_rfl) (fun j f hj => ?_)).mono ?_
  · match j, hj with
    | 0, hj => cases hj; exact (Rd.int Tryz.underlying3).mono (fun ss ⟨s, h, n, h1, h2, h3⟩ => ⟨s, h, n, h1, Int.le_trans (by decide) h2, Int.le_trans h3 (by decide)⟩)
    | 1, hj => cases hj; exact (Rd.int Tryz.underlying38).mono (fun ss ⟨s, h, n, h1, h2, h3⟩ => ⟨s, h, n, h1, Int.le_trans (by decide) h2, Int.lt_of_le_of_lt h3 (by decide)⟩)
    | 2, hj => cases hj; exact (Rd.int Tryz.underlying38).mono (fun ss ⟨s, h, n, h1, h2, h3⟩ => ⟨s, h, n, h1, Int.le_trans (by decide) h2, Int.lt_of_le_of_lt h3 (by decide)⟩)
    | 3, hj => cases hj; exact (Rd.int Tryz.underlying3).mono (fun ss ⟨s, h, n, h1, h2, h3⟩ => ⟨s, h, n, h1, Int.le_trans (by decide) h2, Int.le_trans h3 (by decide)⟩)
    | 4, hj => cases hj; exact (Rd.int Tryz.underlying3).mono (fun ss ⟨s, h, n, h1, h2, h3⟩ => ⟨s, h, n, h1, Int.le_trans (by decide) h2, Int.le_trans h3 (by decide)⟩)
    | 5, hj => cases hj; exact (Rd.int Tryz.underlying3).mono (fun ss ⟨s, h, n, h1, h2, h3⟩ => ⟨s, h, n, h1, Int.le_trans (by decide) h2, Int.le_trans h3 (by decide)⟩)
    | 6, hj => cases hj; exact (Rd.int Tryz.underlying3).mono (fun ss ⟨s, h, n, h1, h2, h3⟩ => ⟨s, h, n, h1, Int.le_trans (by decide) h2, Int.le_trans h3 (by decide)⟩)
    | 7, hj => cases hj; exact (Rd.int Tryz.underlying3).mono (fun ss ⟨s, h, n, h1, h2, h3⟩ => ⟨s, h, n, h1, Int.le_trans (by decide) h2, Int.le_trans h3 (by decide)⟩)
    | 8, hj => cases hj; exact (Rd.int Tryz.underlying3).mono (fun ss ⟨s, h, n, h1, h2, h3⟩ => ⟨s, h, n, h1, Int.le_trans (by decide) h2, Int.le_trans h3 (by decide)⟩)
    | 9, hj => cases hj; exact (Rd.int Tryz.underlying3).mono (fun ss ⟨s, h, n, h1, h2, h3⟩ => ⟨s, h, n, h1, Int.le_trans (by decide) h2, Int.le_trans h3 (by decide)⟩)
    | 10, hj => cases hj; exact Rd.string Tryz.underlying9
    | j + 11, hj => simp at hj
  · rintro ss ⟨hl, h⟩
    match ss, hl with
    | [a0, a1, a2, a3, a4, a5, a6, a7, a8, a9, a10], _ =>
      obtain ⟨n0, rfl, h0⟩ := h 0 a0 rfl
      obtain ⟨n1, rfl, h1⟩ := h 1 a1 rfl
      obtain ⟨n2, rfl, h2⟩ := h 2 a2 rfl
      obtain ⟨n3, rfl, h3⟩ := h 3 a3 rfl
      obtain ⟨n4, rfl, h4⟩ := h 4 a4 rfl
      obtain ⟨n5, rfl, h5⟩ := h 5 a5 rfl
      obtain ⟨n6, rfl, h6⟩ := h 6 a6 rfl
      obtain ⟨n7, rfl, h7⟩ := h 7 a7 rfl
      obtain ⟨n8, rfl, h8⟩ := h 8 a8 rfl
      obtain ⟨n9, rfl, h9⟩ := h 9 a9 rfl
      obtain ⟨n10, rfl, h10⟩ := h 10 a10 rfl
      exact ⟨⟨n0, n1, n2, n3, n4, n5, n6, n7, n8, n9, n10⟩, rfl, ⟨h0, h1, h2, h3, h4, h5, h6, h7, h8, h9, h10⟩⟩
theorem rd_As : Rd enc Tryz.prog w 43 (fun ss => ∃ (x : SrC) (n : Int) (t b : List UInt8), ss = x.c ++ [.val (.int .u64 n), .val (.string ⟨t.toArray⟩), .val (.string ⟨b.toArray⟩)] ∧ x.ok ∧ (0 ≤ n ∧ n < 18446744073709551616) ∧ t.length ≤ maxLen ∧ b.length ≤ maxLen) := by
  refine (Rd.struct2 (S := fun j ss => match j with
    | 0 => ∃ x : SrC, ss = x.c ∧ x.ok
    | 1 => ∃ n, ss = [SV.val (.int .u64 n)] ∧ (0 ≤ n ∧ n < 18446744073709551616)
    | 2 => ∃ l : List UInt8, ss = [SV.val (.string ⟨l.toArray⟩)] ∧ l.length ≤ maxLen
    | _ => ∃ l : List UInt8, ss = [SV.val (.string ⟨l.toArray⟩)] ∧ l.length ≤ maxLen) Tryz.underlying43 (by kernel_rfl) (fun j f hj => ?_)).mono ?_
  · match j, hj with
    | 0, hj => cases hj; exact rd_Ca
    | 1, hj => cases hj; exact (Rd.int Tryz.underlying41).mono (fun ss ⟨s, h, n, h1, h2, h3⟩ => ⟨n, by rw [h, h1], Int.le_trans (by decide) h2, Int.lt_of_le_of_lt h3 (by decide)⟩)
    | 2, hj => cases hj; exact (Rd.string Tryz.underlying9).mono (fun ss ⟨s, h, l, h1, h2⟩ => ⟨l, by rw [h, h1], h2⟩)
    | 3, hj => cases hj; exact (Rd.string Tryz.underlying9).mono (fun ss ⟨s, h, l, h1, h2⟩ => ⟨l, by rw [h, h1], h2⟩)
    | j + 4, hj => simp at hj
  · rintro ss ⟨parts, hl, rfl, h⟩
    match parts, hl with
    | [a0, a1, a2, a3], _ =>
      obtain ⟨x, rfl, h0⟩ := h 0 a0 rfl
      obtain ⟨n, rfl, h1⟩ := h 1 a1 rfl
      obtain ⟨t, rfl, h2⟩ := h 2 a2 rfl
      obtain ⟨b, rfl, h3⟩ := h 3 a3 rfl
      exact ⟨x, n, t, b, by simp, h0, h1, h2, h3⟩
end
end Go.Proofs.YteccglgbkehdeaaGreatDoor
/- scripts: the law's own check. -/
set_option linter.unusedSimpArgs false
set_option linter.unusedVariables false
namespace Go.Proofs.YteccglgbkehdeaaGreatDoor

theorem exSc_sm : exSc.sm := by
  refine ⟨⟨by decide, by decide⟩, by decide, by decide, by decide, by decide, fun c hc => ?_, by decide⟩
  simp only [exSc, List.mem_cons, List.not_mem_nil, or_false] at hc
  rcases hc with rfl | rfl
  · refine ⟨?_, ?_, ?_, ?_, ?_, ?_, ?_, ?_, ?_, ?_, ?_⟩ <;> first | (unfold R64; decide) | decide
  · refine ⟨?_, ?_, ?_, ?_, ?_, ?_, ?_, ?_, ?_, ?_, ?_⟩ <;> first | (unfold R64; decide) | decide
def exEvs2 : List SrE := [⟨1, 0, 1⟩, ⟨1, 0, 2⟩, ⟨4, 5, 0⟩, ⟨2, 0, 0⟩]
def exSc2 : Sc := { exSc with evs := exEvs2 }
theorem exSc2_sm : exSc2.sm := ⟨exSc_sm.ven, exSc_sm.gl, exSc_sm.gs, exSc_sm.key, exSc_sm.cl, exSc_sm.cs, by decide⟩
theorem exSc_cp : exSc.cp := ⟨by decide, by decide, by decide, by decide, by decide⟩
def tickL (l : List SrE) : Bool := l.any fun x => decide (x.kind = 4)
def exC1 : SrC := ⟨1, 7, 0, 0, 0, 0, 0, 0, 0, 0, []⟩
theorem exC1_ok : exC1.ok := exSc_sm.cs _ (by simp [exSc, exC1])
theorem ex_size : sizeS exSc = ((4, 1, 2, 5), 0) := by decide +kernel
theorem ex_shrink : shrinkS tickL exSc 100 = ({ exSc with evs := [⟨4, 5, 0⟩] }, 5, 0) := by decide +kernel
theorem ex_pay : payS exC1 9 [] [] = ([1, 1, 1, 9, 2, 1, 7], 0) := by decide +kernel
theorem ex_check2 : checkS exSc2 = ([101, 118, 101, 110, 116, 32, 49], 8) := by
  have h : Lib.itoa 1 = [49] := by unfold Lib.itoa; rw [if_neg (by decide)]; rw [Lib.decDigits]; decide
  have h1 : ∀ k ks l, chkGo exSc2 k ks l = chkGo exSc2 k ks l := fun _ _ _ => rfl
  have h2 : (baseS exSc2).2 = 0 := by decide +kernel
  have e0 : evT exSc2 [] ⟨1, 0, 1⟩ = 0 := by decide +kernel
  have e1 : evT exSc2 [0] ⟨1, 0, 2⟩ = 8 := by decide +kernel
  unfold checkS
  rw [if_neg (by simp [h2]), if_neg (by decide)]
  show chkGo exSc2 0 [] exEvs2 = _
  unfold exEvs2
  rw [chkGo, if_neg (by simp [e0]), chkGo]
  show (if evT exSc2 [0] ⟨1, 0, 2⟩ ≠ 0 then (partT [101, 118, 101, 110, 116] ((0 + 1 : Nat) : Int), evT exSc2 [0] ⟨1, 0, 2⟩) else _) = _
  rw [e1, if_pos (by decide)]
  unfold partT
  rw [show (((0 + 1 : Nat)) : Int) = 1 from rfl, h]
  rfl

theorem awake_P : PC Tryz.prog 13 [] (.b true) := by
 refine ⟨LC.of_go Tryz.func13 (c := _) rfl (by kernel_rfl) (by rw [Tryz.ntmps13]; simp) rfl rfl (by simp [LO.lt, LV.lts, LV.lt, lts_sv]) (by simp) ?_⟩
 intro B hA hmd
 refine .seq ?_
 refine .region rfl ?_
 refine R.assign (h := ?_)
 refine .n0 ?_
 refine .seq ?_
 refine .region rfl ?_
 refine R.callX (es := []) [] exSc_L (h := ?_)
 refine R.alloc Z29 (h := ?_)
 refine R.storeA A29 (h := ?_)
 refine .n0 ?_
 refine .seq ?_
 refine .region rfl ?_
 first | refine R.loadA A29 (h := ?_) | refine R.loadN A29 (h := ?_) | refine R.loadP A29 (h := ?_)
 refine R.callVA (es := [_]) (lvs := [.agg (exSc.c.map LV.sv)]) (rd := [(0, .rs 58 3 (exEvs.map SrE.c))]) (fun _ => sizeS_P exSc exSc_sm) (hrd := oneL rfl) (h := ?_)
 rw [ex_size]
 refine R.move (h := ?_)
 refine R.extract (h := ?_)
 refine R.extract (h := ?_)
 refine R.alloc Z62 (h := ?_)
 refine R.storeA A62 (h := ?_)
 refine R.assign (h := ?_)
 refine .n0 ?_
 refine .seq ?_
 refine .region rfl ?_
 first | refine R.loadA A29 (h := ?_) | refine R.loadN A29 (h := ?_) | refine R.loadP A29 (h := ?_)
 refine R.callX (es := [_, _, _]) [0] (shrinkO_L exSc exSc_sm exSc_cp (ff := 38) (pf := tickL) (by decide) (fun _ es hes => ticks_P { exSc with evs := es } (by have := hes.length_le; have h4 : exSc.evs.length = 4 := rfl; unfold maxLen; dsimp only; omega)) 100 (by unfold R64; decide)) (h := ?_)
 rw [ex_shrink]
 refine R.move (h := ?_)
 refine R.extract (h := ?_)
 refine R.extract (h := ?_)
 refine R.extract (h := ?_)
 refine R.alloc Z29 (h := ?_)
 refine R.storeA A29 (h := ?_)
 refine R.assign (h := ?_)
 refine R.assign (h := ?_)
 refine .n0 ?_
 refine .seq ?_
 refine .region rfl ?_
 first | refine R.field F29_4 (h := ?_) | refine R.fieldAt F29_4 (h := ?_)
 first | refine R.loadB O26 (h := ?_) | refine R.load1 O26 (h := ?_)
 refine R.index I26 (hj := fun hg => ⟨by omega, rfl⟩) (h := ?_)
 first | refine R.loadA A40 (h := ?_) | refine R.loadN A40 (h := ?_) | refine R.loadP A40 (h := ?_)
 refine R.callP (es := [_, _, _, _]) (fun _ => payS_P exC1 exC1_ok 9 (by decide) [] [] (Nat.zero_le _) (Nat.zero_le _)) (h := ?_)
 rw [ex_pay]
 refine R.move (h := ?_)
 refine R.extract (h := ?_)
 refine R.extract (h := ?_)
 refine R.assign (h := ?_)
 refine R.assign (h := ?_)
 refine .n0 ?_
 refine .seq ?_
 refine .region rfl ?_
 first | refine R.field F29_5 (h := ?_) | refine R.fieldAt F29_5 (h := ?_)
 first | refine R.loadB O27 (h := ?_) | refine R.load1 O27 (h := ?_)
 refine R.build BF58 (is := [0, 2]) (xs := [_, _]) (es := [_, _]) (h := ?_)
 refine R.indexRs I27 (hj := fun _ => ⟨by decide, by decide⟩) (h := ?_)
 refine R.storeRsN A58 1 (SrE.c ⟨1, 0, 2⟩) (h1 := rfl) (hj := by decide) (h := ?_)
 refine .n0 ?_
 refine .seq ?_
 refine .region rfl ?_
 first | refine R.loadA A29 (h := ?_) | refine R.loadN A29 (h := ?_) | refine R.loadP A29 (h := ?_)
 refine R.callVA (es := [_]) (lvs := [.agg (exSc2.c.map LV.sv)]) (rd := [(0, .rs 58 3 (exEvs2.map SrE.c))]) (fun _ => checkS_P exSc2 exSc2_sm) (hrd := oneL rfl) (h := ?_)
 rw [ex_check2]
 refine R.move (h := ?_)
 refine R.extract (h := ?_)
 refine R.extract (h := ?_)
 refine R.assign (h := ?_)
 refine R.assign (h := ?_)
 refine .n0 ?_
 refine .seq ?_
 refine .region rfl ?_
 refine R.move (h := ?_)
 refine R.bin (run_eql _ _ _ _ _ _) (h := ?_)
 refine R.move (h := ?_)
 refine R.move (h := ?_)
 refine R.bin (run_eql _ _ _ _ _ _) (h := ?_)
 refine R.and (h := ?_)
 refine R.move (h := ?_)
 refine R.move (h := ?_)
 refine R.bin (run_eql _ _ _ _ _ _) (h := ?_)
 refine R.and (h := ?_)
 refine R.move (h := ?_)
 refine R.move (h := ?_)
 refine R.bin (run_eql _ _ _ _ _ _) (h := ?_)
 refine R.and (h := ?_)
 refine R.move (h := ?_)
 first | refine R.loadA A62 (h := ?_) | refine R.loadN A62 (h := ?_) | refine R.loadP A62 (h := ?_)
 refine R.build BF62 (is := [0, 1, 2, 3]) (xs := [_, _, _, _]) (es := [_, _, _, _]) (h := ?_)
 refine R.binA (EQ62 _ _ _ _ _ _ _ _ _ _) (h := ?_)
 refine R.and (h := ?_)
 refine R.move (h := ?_)
 refine R.move (h := ?_)
 refine R.bin (run_eql _ _ _ _ _ _) (h := ?_)
 refine R.and (h := ?_)
 refine R.move (h := ?_)
 first | refine R.field F29_5 (h := ?_) | refine R.fieldAt F29_5 (h := ?_)
 first | refine R.loadB O27 (h := ?_) | refine R.load1 O27 (h := ?_)
 first | refine R.len S27 (h := ?_) | refine R.lenRs S27 (h := ?_) | refine R.lenV (run_lenNil S27) (h := ?_)
 refine R.bin (run_eql _ _ _ _ _ _) (h := ?_)
 refine R.and (h := ?_)
 refine R.move (h := ?_)
 first | refine R.field F29_5 (h := ?_) | refine R.fieldAt F29_5 (h := ?_)
 first | refine R.loadB O27 (h := ?_) | refine R.load1 O27 (h := ?_)
 refine R.index I27 (hj := fun hg => ⟨by (simp at hg; omega), rfl⟩) (h := ?_)
 first | refine R.loadA A58 (h := ?_) | refine R.loadN A58 (h := ?_) | refine R.loadP A58 (h := ?_)
 refine R.build BF58 (is := [0, 1]) (xs := [_, _]) (es := [_, _]) (h := ?_)
 refine R.binA (EQ58 _ _ _ _ _ _ _ _) (h := ?_)
 refine R.and (h := ?_)
 refine R.move (h := ?_)
 refine R.move (h := ?_)
 refine R.toString Tryz.underlying44 Tryz.underlying5 Tryz.underlying9 (h := ?_)
 refine R.bin (run_eqlT _ _ _ _ _) (h := ?_)
 refine R.and (h := ?_)
 refine R.move (h := ?_)
 refine R.move (h := ?_)
 refine R.bin (run_eqlT _ _ _ _ _) (h := ?_)
 refine R.and (h := ?_)
 refine R.assign (h := ?_)
 refine .n0 ?_
 exact LGo.ret (ret_T Tryz.results13 hA hmd)

end Go.Proofs.YteccglgbkehdeaaGreatDoor
/- venues, the reference: the check. -/
set_option linter.unusedSimpArgs false
set_option linter.unusedVariables false
namespace Go.Proofs.YteccglgbkehdeaaGreatDoor

/-- the places of a row, of a section's rows, of sections -/
def plC (i k n : Int) : List SV := [.val (.int .i64 i), .val (.int .i64 k), .val (.int .i64 n)]
def plRow (i k : Int) (m : Nat) : List (List SV) := (List.range m).map fun (n : Nat) => plC i k n
def plRows (i : Int) : Nat → List Int → List (List SV)
  | _, [] => []
  | k, n :: r => plRow i k n.toNat ++ plRows i (k + 1) r
def plSecs : Nat → List VnS → List (List SV)
  | _, [] => []
  | i, x :: r => plRows i 0 x.rows ++ plSecs (i + 1) r
def goodV (x : VnS) : Prop := x.rows.length ≤ 16 ∧ ∀ n ∈ x.rows, 1 ≤ n ∧ n ≤ 64
def sumV (l : List VnS) : Int := l.foldl (fun a x => x.rows.foldl (fun a n => a + n) a) 0
/-- the check of a venue in two steps: its sections one by one, then all places -/
def secGo : Nat → List VnS → List VnS → Option (Int × Int)
  | _, _, [] => none
  | k, bf, x :: r => if checkV x bf ≠ 0 then some (k, checkV x bf) else secGo (k + 1) (bf ++ [x]) r
def finV (n : Nat) : Option (Int × Int) → Int × Int
  | some r => r
  | none => if 4096 < (n : Int) then (-1, 3) else (0, 0)
end Go.Proofs.YteccglgbkehdeaaGreatDoor
/- scripts, the reference: Check. -/
set_option linter.unusedSimpArgs false
set_option linter.unusedVariables false
namespace Go.Proofs.YteccglgbkehdeaaGreatDoor

def evQ (lo hi : Int) (z : SrE) (bf : List SrE) : Int :=
  if (decide (hi > 0) && (decide (z.a < lo) || decide (z.a > hi))) = true then 7 else if (decide (z.kind = 1) && bf.any fun y => decide (y.kind = 1) && decide (y.a = z.a)) = true then 8 else 0

end Go.Proofs.YteccglgbkehdeaaGreatDoor
/- scripts, the reference: equal numbers, venues, gates, scripts. -/
set_option linter.unusedSimpArgs false
set_option linter.unusedVariables false
namespace Go.Proofs.YteccglgbkehdeaaGreatDoor

structure Sc.sm2 (s : Sc) : Prop where
  vl : s.ven.secs.length ≤ 100000
  vr : ∀ x ∈ s.ven.secs, x.rows.length ≤ 100000
  gl : s.gates.length ≤ 100000
  gs : ∀ x ∈ s.gates, x.secs.length ≤ 100000
  cl : s.calls.length ≤ 100000
  el : s.evs.length ≤ 100000

end Go.Proofs.YteccglgbkehdeaaGreatDoor
/- scripts, and the reference: Size, Calls, Cut, Shrink. -/
set_option linter.unusedSimpArgs false
set_option linter.unusedVariables false
namespace Go.Proofs.YteccglgbkehdeaaGreatDoor

def callsS (s : Sc) : List Int × Int := if (checkS s).2 ≠ 0 then ([], (checkS s).2) else (sendsOf s.evs, 0)
def badCut (s : Sc) (fr n : Int) : Bool := (((decide (fr < 0) || decide (n < 0)) || decide (fr > (s.evs.length : Int))) || decide (n > (s.evs.length : Int) - fr))
def cutS (s : Sc) (fr n : Int) : Sc × Int :=
  if (checkS s).2 ≠ 0 then (scZero, (checkS s).2) else if badCut s fr n = true then (scZero, 7) else ({ s with evs := leftS s.evs fr.toNat n.toNat }, 0)
end Go.Proofs.YteccglgbkehdeaaGreatDoor
/- scripts: the laws ScriptChecks, ScriptShrinks (walks). -/
set_option linter.unusedSimpArgs false
set_option linter.unusedVariables false
namespace Go.Proofs.YteccglgbkehdeaaGreatDoor

theorem Sc.near.sm2 {s : Sc} (hn : s.near) : s.sm2 :=
  ⟨by have := hn.vl; omega, fun x hx => by have := (hn.vs x hx).2; omega, by have := hn.gl; omega, fun x hx => by have := hn.gs x hx; omega, by have := hn.cl; omega, by have := hn.el; omega⟩
theorem Sc.sm2.evs {s : Sc} (h : s.sm2) (l : List SrE) (hl : l.length ≤ 100000) : ({ s with evs := l } : Sc).sm2 := ⟨h.vl, h.vr, h.gl, h.gs, h.cl, hl⟩
end Go.Proofs.YteccglgbkehdeaaGreatDoor
/- scripts: Payload, and the reference's, of strings of any size; the law ScriptPayloads (walk). -/
set_option linter.unusedSimpArgs false
set_option linter.unusedVariables false
namespace Go.Proofs.YteccglgbkehdeaaGreatDoor

theorem encQ2_L (r : Rq) (hr : RqOk r) : LC Tryz.prog 77 0 [.agg (r.c.map LV.sv)] [] (.tup [.ref 0, .i (encQ r).2]) [(0, .rs 5 1 (bytesC (encQ r).1))] 1 := by
 refine LC.of_go Tryz.func77 (c := _) rfl (by kernel_rfl) (by rw [Tryz.ntmps77]; simp) rfl rfl (by simp [LO.lt, LV.lts, LV.lt, lts_sv]) (by simp) ?_
 intro B hA hmd
 obtain ⟨g, e0⟩ : ∃ g, encQ r = g := ⟨_, rfl⟩
 have e1 := e0
 unfold encQ at e1
 rw [e0]
 have h6 := rulesQ_len r.kind
 refine .seq ?_
 refine .region rfl ?_
 refine R.box (h := ?_)
 refine R.assign (h := ?_)
 refine R.assign (h := ?_)
 refine .n0 ?_
 refine .seq ?_
 refine .region rfl ?_
 first | refine R.loadA A48 (h := ?_) | refine R.loadN A48 (h := ?_) | refine R.loadP A48 (h := ?_)
 refine R.callP (es := [_]) (fun _ => fieldsOf_P r hr) (h := ?_)
 refine R.move (h := ?_)
 refine R.extract (h := ?_)
 refine R.extract (h := ?_)
 refine R.assign (h := ?_)
 refine R.assign (h := ?_)
 refine .n0 ?_
 refine .seq ?_
 refine .seq ?_
 refine .region rfl ?_
 refine R.move (h := ?_)
 refine R.bin (run_neq _ _ _ _ _ _) (h := ?_)
 refine .n0 ?_
 refine LGo.ifb (ht := fun hc => ?_) (hf := fun hc => ?_)
 ·
  rw [if_pos hc] at e1; rw [← e1]
  refine .seq ?_
  refine .region rfl ?_
  refine R.move (h := ?_)
  refine R.assign (h := ?_)
  refine R.assign (h := ?_)
  refine .n0 ?_
  refine LGo.nilRs 2 5 1 (h := ?_)
  exact LGo.ret (FnPost.finI [1] (res_TT Tryz.results77) hA hmd)
 ·
  rw [if_neg (by rw [hc]; simp)] at e1
  have hk := fieldsOf_kind (by simpa using hc)
  have h5 := fieldsOf_500 hr (strs_Q500 (show checkQ r = 0 from (show (fieldsOf r).2 = 0 by simpa using hc)))
  refine .skip ?_
  refine .seq ?_
  refine .region rfl ?_
  first | refine R.field F48_0 (h := ?_) | refine R.fieldAt F48_0 (h := ?_)
  first | refine R.loadB O3 (h := ?_) | refine R.load1 O3 (h := ?_)
  refine R.callP (es := [_]) (fun _ => rulesQ_P r.kind) (h := ?_)
  refine R.move (h := ?_)
  refine R.extract (h := ?_)
  refine R.extract (h := ?_)
  refine R.assign (h := ?_)
  refine R.assign (h := ?_)
  refine .n0 ?_
  refine .seq ?_
  refine .region rfl ?_
  refine R.move (h := ?_)
  refine R.move (h := ?_)
  refine R.callP (es := [_, _]) (fun _ => encode_PB (rulesQ r.kind).1 (fieldsOf r).1 (by omega) (by omega) (fun f hf => (h5.1 f hf).1)) (h := ?_)
  refine R.move (h := ?_)
  refine R.extract (h := ?_)
  refine R.extract (h := ?_)
  refine R.assign (h := ?_)
  refine R.assign (h := ?_)
  refine .n0 ?_
  refine .seq ?_
  refine .seq ?_
  refine .region rfl ?_
  refine R.move (h := ?_)
  refine R.bin (run_neq _ _ _ _ _ _) (h := ?_)
  refine .n0 ?_
  refine LGo.ifb (ht := fun hc2 => ?_) (hf := fun hc2 => ?_)
  ·
   rw [if_pos hc2] at e1; rw [← e1]
   refine .seq ?_
   refine .region rfl ?_
   refine R.move (h := ?_)
   refine R.assign (h := ?_)
   refine R.assign (h := ?_)
   refine .n0 ?_
   refine LGo.nilRs 2 5 1 (h := ?_)
   exact LGo.ret (FnPost.finI [1] (res_TT Tryz.results77) hA hmd)
  ·
   rw [if_neg (by rw [hc2]; simp)] at e1; rw [← e1]
   refine .skip ?_
   refine .seq ?_
   refine .region rfl ?_
   first | refine R.field F48_0 (h := ?_) | refine R.fieldAt F48_0 (h := ?_)
   first | refine R.loadB O3 (h := ?_) | refine R.load1 O3 (h := ?_)
   refine R.convW Tryz.runUnderlying3 Tryz.runUnderlying5 (h := ?_)
   rw [show IntKind.u8.wrap r.kind = ((byt r.kind).toNat : Int) from by rw [byt_toNat _ hk.1 (by omega), IntKind.wrap_u8]; omega]
   refine R.buildSliceR AP44 (xs := [_]) (es := [_]) (hcs := CellsOfs.cons (CellsOf.one rfl) CellsOfs.nil) (h := ?_)
   refine R.move (h := ?_)
   refine R.appendS AP44 (hs := SrcOk.sl Tryz.underlying44 (bytesC_one _)) (hlen := by have h500 := encBy_len (rs := (rulesQ r.kind).1) h5.1; simp; rw [bytesC_length]; omega) (h := ?_)
   refine R.assign (h := ?_)
   refine R.assign (h := ?_)
   refine .n0 ?_
   exact LGo.ret (FnPost.finI [2] (res_TT Tryz.results77) hA hmd)

theorem encR9_L (r : Rq) (hr : RqOk r) : LC Tryz.prog 79 0 [.agg (r.c.map LV.sv)] [] (.tup [.ref 0, .i (encQ r).2]) [(0, .rs 5 1 (bytesC (encQ r).1))] 1 := by
 refine LC.of_go Tryz.func79 (c := _) rfl (by kernel_rfl) (by rw [Tryz.ntmps79]; simp) rfl rfl (by simp [LO.lt, LV.lts, LV.lt, lts_sv]) (by simp) ?_
 intro B hA hmd
 rw [encQ_eq hr]
 obtain ⟨g, e0⟩ : ∃ g, encR9 r = g := ⟨_, rfl⟩
 have e1 := e0
 unfold encR9 at e1
 rw [e0]
 refine .seq ?_
 refine .region rfl ?_
 refine R.box (h := ?_)
 refine R.assign (h := ?_)
 refine R.assign (h := ?_)
 refine .n0 ?_
 refine .seq ?_
 refine .region rfl ?_
 first | refine R.loadA A48 (h := ?_) | refine R.loadN A48 (h := ?_) | refine R.loadP A48 (h := ?_)
 refine R.callP (es := [_]) (fun _ => refCheckQ_P r hr) (h := ?_)
 refine R.assign (h := ?_)
 refine .n0 ?_
 refine .seq ?_
 refine .seq ?_
 refine .region rfl ?_
 refine R.move (h := ?_)
 refine R.bin (run_neq _ _ _ _ _ _) (h := ?_)
 refine .n0 ?_
 refine LGo.ifb (ht := fun hc => ?_) (hf := fun hc => ?_)
 ·
  rw [if_pos hc] at e1; rw [← e1]
  refine .seq ?_
  refine .region rfl ?_
  refine R.move (h := ?_)
  refine R.assign (h := ?_)
  refine R.assign (h := ?_)
  refine .n0 ?_
  refine LGo.nilRs 2 5 1 (h := ?_)
  exact LGo.ret (FnPost.finI [1] (res_TT Tryz.results79) hA hmd)
 ·
  rw [if_neg (by rw [hc]; simp)] at e1; rw [← e1]
  have hk := refCheckQ_kind (r := r) (by simpa using hc)
  have hs := strs_Q500 (show checkQ r = 0 by rw [checkQ_eq r hr]; simpa using hc)
  refine .skip ?_
  refine .seq ?_
  refine .region rfl ?_
  first | refine R.field F48_0 (h := ?_) | refine R.fieldAt F48_0 (h := ?_)
  first | refine R.loadB O3 (h := ?_) | refine R.load1 O3 (h := ?_)
  refine R.callP (es := [_]) (fun _ => rulesR_P r.kind) (h := ?_)
  refine R.move (h := ?_)
  refine R.extract (h := ?_)
  refine R.extract (h := ?_)
  refine R.assign (h := ?_)
  refine R.assign (h := ?_)
  refine .n0 ?_
  refine .seq ?_
  refine .region rfl ?_
  refine R.move (h := ?_)
  first | refine R.loadA A48 (h := ?_) | refine R.loadN A48 (h := ?_) | refine R.loadP A48 (h := ?_)
  refine R.callP (es := [_]) (fun _ => messageR_P r hr) (h := ?_)
  refine R.callP (es := [_, _]) (fun _ => encodeR_PB (rulesR r.kind).1 (messageR r) (by have := rulesR_len r.kind; omega) (by unfold messageR; rw [List.length_map]; have := rulesR_len r.kind; omega) (fun f hf => (messageR_500 hr hs f hf).1)) (h := ?_)
  refine R.move (h := ?_)
  refine R.extract (h := ?_)
  refine R.extract (h := ?_)
  refine R.assign (h := ?_)
  refine R.assign (h := ?_)
  refine .n0 ?_
  refine .seq ?_
  refine .region rfl ?_
  first | refine R.field F48_0 (h := ?_) | refine R.fieldAt F48_0 (h := ?_)
  first | refine R.loadB O3 (h := ?_) | refine R.load1 O3 (h := ?_)
  refine R.convW Tryz.runUnderlying3 Tryz.runUnderlying5 (h := ?_)
  rw [show IntKind.u8.wrap r.kind = ((byt r.kind).toNat : Int) from by rw [byt_toNat _ hk.1 (by omega), IntKind.wrap_u8]; omega]
  refine R.buildSliceR AP44 (xs := [_]) (es := [_]) (hcs := CellsOfs.cons (CellsOf.one rfl) CellsOfs.nil) (h := ?_)
  refine R.move (h := ?_)
  refine R.appendS AP44 (hs := SrcOk.sl Tryz.underlying44 (bytesC_one _)) (hlen := by have h500 := encBy_len (rs := (rulesR r.kind).1) (messageR_500 hr hs); simp; rw [bytesC_length]; omega) (h := ?_)
  refine R.assign (h := ?_)
  refine R.assign (h := ?_)
  refine .n0 ?_
  exact LGo.ret (FnPost.finI [2] (res_TT Tryz.results79) hA hmd)

theorem enc_check {r : Rq} (h : (encQ r).2 = 0) : checkQ r = 0 := by
  unfold encQ at h
  split at h
  · rename_i h1; exact absurd h (by simpa using h1)
  · rename_i h1; exact (show (fieldsOf r).2 = 0 by simpa using h1)
theorem encQ2_len {r : Rq} (hr : RqOk r) : (encQ r).1.length ≤ 100000 ∧ ((encQ r).2 = 0 → 0 < (encQ r).1.length) := by
  by_cases h : checkQ r = 0
  · exact encQ_len hr (strs_Q500 h)
  · have h0 : (encQ r).1 = [] := by unfold encQ; rw [if_pos (by simpa using (show ¬ (fieldsOf r).2 = 0 from h))]
    exact ⟨by rw [h0]; exact Nat.zero_le _, fun h2 => absurd (enc_check h2) h⟩
def payZ (c : SrC) (rid : Int) (tok blob : List UInt8) : List UInt8 × Int :=
  if aloneS c ≠ 0 then ([], aloneS c) else if c.kind = 0 then (c.raw, 0) else
  if (encQ (reqZ c rid tok blob)).2 ≠ 0 then ([], (encQ (reqZ c rid tok blob)).2) else (spoilB c.spoil (encQ (reqZ c rid tok blob)).1, 0)
/-- a call that is right by itself has a request -/
theorem alone_req {c : SrC} (h : aloneS c = 0) (hk : c.kind ≠ 0) (rid : Int) (tok blob : List UInt8) : (reqS c rid tok blob).1 = reqZ c rid tok blob := by
  have h1 : (reqS c 1 [] []).2 = 0 := by
    unfold aloneS at h
    by_cases a1 : (decide (c.kind = 0) && !bareCall c) = true
    · rw [if_pos a1] at h; cases h
    rw [if_neg a1] at h
    by_cases a2 : (!decide (c.kind = 0) && !decide (c.raw = [])) = true
    · rw [if_pos a2] at h; cases h
    rw [if_neg a2] at h
    by_cases a3 : 600 < (c.raw.length : Int)
    · rw [if_pos a3] at h; cases h
    rw [if_neg a3, if_neg hk] at h
    by_cases a4 : (reqS c 1 [] []).2 = 0
    · exact a4
    · rw [if_pos a4] at h; exact h
  refine reqS_Z ?_
  unfold reqS at h1 ⊢
  split at h1
  · cases h1
  · rename_i h2; rw [if_neg h2]
theorem pay_eq (c : SrC) (rid : Int) (tok blob : List UInt8) : payZ c rid tok blob = payS c rid tok blob := by
  unfold payZ payS
  by_cases h : aloneS c = 0
  · by_cases hk : c.kind = 0
    · rw [if_pos hk, if_pos hk]
    · rw [if_neg hk, if_neg hk, alone_req h hk]
  · rw [if_pos h, if_pos h]

theorem payS2_P (c : SrC) (h : c.ok) (rid : Int) (hi : 0 ≤ rid ∧ rid < 18446744073709551616) (tok blob : List UInt8) (ht : tok.length ≤ 1000) (hb : blob.length ≤ 1000) : PC Tryz.prog 19 [.agg (c.c.map LV.sv), .v (.int .u64 rid), .t tok, .t blob] (.tup [.sv (.sl 1 (bytesC (payS c rid tok blob).1)), .i (payS c rid tok blob).2]) := by
 refine ⟨LC.of_go Tryz.func19 (c := _) rfl (by kernel_rfl) (by rw [Tryz.ntmps19]; simp) rfl rfl (by simp [LO.lt, LV.lts, LV.lt, lts_sv]) (by simp) ?_⟩
 intro B hA hmd
 obtain ⟨g, e0⟩ : ∃ g, payS c rid tok blob = g := ⟨_, rfl⟩
 have e1 := e0
 unfold payS at e1
 rw [e0]
 have hsp := h.spoil
 unfold R64 at hsp
 refine .seq ?_
 refine .region rfl ?_
 refine R.box (h := ?_)
 refine R.assign (h := ?_)
 refine R.assign (h := ?_)
 refine .n0 ?_
 refine .seq ?_
 refine .seq ?_
 refine .region rfl ?_
 first | refine R.loadA A40 (h := ?_) | refine R.loadN A40 (h := ?_) | refine R.loadP A40 (h := ?_)
 refine R.callP (es := [_]) (fun _ => aloneS_P c h) (h := ?_)
 refine R.assign (h := ?_)
 refine .n0 ?_
 refine .seq ?_
 refine .region rfl ?_
 refine R.move (h := ?_)
 refine R.bin (run_neq _ _ _ _ _ _) (h := ?_)
 refine .n0 ?_
 refine LGo.ifb (ht := fun hc => ?_) (hf := fun hc => ?_)
 ·
  rw [if_pos (by simpa using hc)] at e1
  rw [← e1]
  refine .seq ?_
  refine .region rfl ?_
  refine R.move (h := ?_)
  refine R.assign (h := ?_)
  refine R.assign (h := ?_)
  refine .n0 ?_
  first | refine LGo.frzT 8 (h := ?_) | refine LGo.nilSl 8 1 (h := ?_) | skip
  exact LGo.ret (ret_TT Tryz.results19 hA hmd)
 ·
  rw [if_neg (by simpa using hc)] at e1
  refine .skip ?_
  refine .seq ?_
  refine .seq ?_
  refine .region rfl ?_
  first | refine R.field F40_0 (h := ?_) | refine R.fieldAt F40_0 (h := ?_)
  first | refine R.loadB O3 (h := ?_) | refine R.load1 O3 (h := ?_)
  refine R.bin (run_eql _ _ _ _ _ _) (h := ?_)
  refine .n0 ?_
  refine LGo.ifd (ht := fun hc2 => ?_) (hf := fun hc2 => ?_)
  ·
   have hrw := alone_raw (show aloneS c = 0 by simpa using hc)
   rw [if_pos hc2] at e1
   rw [← e1]
   refine .seq ?_
   refine .region rfl ?_
   first | refine R.field F40_10 (h := ?_) | refine R.fieldAt F40_10 (h := ?_)
   first | refine R.loadB O9 (h := ?_) | refine R.load1 O9 (h := ?_)
   refine R.toBytes Tryz.underlying9 Tryz.underlying44 Tryz.underlying5 (hl := by first | omega | (simp; omega)) (h := ?_)
   refine R.assign (h := ?_)
   refine R.assign (h := ?_)
   refine .n0 ?_
   first | refine LGo.frzT 8 (h := ?_) | refine LGo.nilSl 8 1 (h := ?_) | skip
   exact LGo.ret (ret_TT Tryz.results19 hA hmd)
  ·
   rw [if_neg hc2] at e1
   have hro := reqS_ok h hi (tok := tok) (blob := blob) (by omega) (by omega)
   have hel := encQ2_len hro
   have hL := encQ2_L _ hro
   generalize (encQ (reqS c rid tok blob).1).1 = b at e1 hel hL
   generalize (encQ (reqS c rid tok blob).1).2 = er at e1 hel hL
   refine .skip ?_
   refine .seq ?_
   refine .region rfl ?_
   first | refine R.loadA A40 (h := ?_) | refine R.loadN A40 (h := ?_) | refine R.loadP A40 (h := ?_)
   refine R.move (h := ?_)
   refine R.move (h := ?_)
   refine R.move (h := ?_)
   refine R.callP (es := [_, _, _, _]) (fun _ => reqS_P c rid tok blob) (h := ?_)
   refine R.move (h := ?_)
   refine R.extract (h := ?_)
   refine R.extract (h := ?_)
   refine R.alloc Z48 (h := ?_)
   refine R.storeA A48 (h := ?_)
   refine R.assign (h := ?_)
   refine .n0 ?_
   refine .seq ?_
   refine .region rfl ?_
   first | refine R.loadA A48 (h := ?_) | refine R.loadN A48 (h := ?_) | refine R.loadP A48 (h := ?_)
   refine R.callX (es := [_]) [] hL (h := ?_)
   refine R.move (h := ?_)
   refine R.extract (h := ?_)
   refine R.extract (h := ?_)
   refine R.assign (h := ?_)
   refine R.assign (h := ?_)
   refine .n0 ?_
   refine .seq ?_
   refine .seq ?_
   refine .region rfl ?_
   refine R.move (h := ?_)
   refine R.bin (run_neq _ _ _ _ _ _) (h := ?_)
   refine .n0 ?_
   refine LGo.ifb (ht := fun hc3 => ?_) (hf := fun hc3 => ?_)
   ·
    rw [if_pos (by simpa using hc3)] at e1
    rw [← e1]
    refine .seq ?_
    refine .region rfl ?_
    refine R.move (h := ?_)
    refine R.assign (h := ?_)
    refine R.assign (h := ?_)
    refine .n0 ?_
    first | refine LGo.frzT 8 (h := ?_) | refine LGo.nilSl 8 1 (h := ?_) | skip
    exact LGo.ret (ret_TT Tryz.results19 hA hmd)
   ·
    have he0 : er = 0 := by simpa using hc3
    have hbl := hel.2 he0
    rw [if_neg (by simp [he0])] at e1
    unfold spoilB at e1
    refine .skip ?_
    refine .seq ?_
    refine .seq ?_
    refine .region rfl ?_
    first | refine R.field F40_9 (h := ?_) | refine R.fieldAt F40_9 (h := ?_)
    first | refine R.loadB O3 (h := ?_) | refine R.load1 O3 (h := ?_)
    refine R.bin (run_gtr _ _ _ _ _ _) (h := ?_)
    refine .n0 ?_
    refine LGo.ifd (ht := fun hc4 => ?_) (hf := fun hc4 => ?_)
    ·
     rw [if_pos hc4] at e1
     refine .region rfl ?_
     refine R.move (h := ?_)
     first | refine R.field F40_9 (h := ?_) | refine R.fieldAt F40_9 (h := ?_)
     first | refine R.loadB O3 (h := ?_) | refine R.load1 O3 (h := ?_)
     first | refine R.sub (h := ?_) | refine R.subW (h := ?_)
     refine R.move (h := ?_)
     first | refine R.len S44 (h := ?_) | refine R.lenRs S44 (h := ?_) | refine R.lenV (run_lenNil S44) (h := ?_)
     rw [bytesC_length]
     refine R.rem (h := ?_)
     obtain ⟨k, hk, hk2⟩ : ∃ k : Nat, (c.spoil - 1) % (b.length : Int) = k ∧ k < b.length := ⟨((c.spoil - 1) % (b.length : Int)).toNat, by have := Int.emod_nonneg (c.spoil - 1) (show (b.length : Int) ≠ 0 by omega); omega, by have := Int.emod_lt_of_pos (c.spoil - 1) (show (0 : Int) < b.length by omega); omega⟩
     rw [hk]
     rw [hk, Int.toNat_natCast, List.getD_eq_getElem?_getD, List.getElem?_eq_getElem hk2, Option.getD_some] at e1
     refine R.indexRs I44 (hj := fun _ => ⟨by omega, by rw [bytesC_length]; omega⟩) (h := ?_)
     rw [Int.toNat_natCast]
     refine R.loadRs1 O5 k 0 (ev := [SV.val (.int .u8 (b[k].toNat : Int))]) (c := SV.val (.int .u8 (b[k].toNat : Int))) (hj := fun _ => ⟨by simp [bytesC, hk2], rfl⟩) (h := ?_)
     refine R.addW (h := ?_)
     rw [u8_inc]
     refine R.indexRs I44 (hj := fun _ => ⟨by omega, by rw [bytesC_length]; omega⟩) (h := ?_)
     rw [Int.toNat_natCast]
     refine R.storeRs1 O5 k 0 [SV.val (.int .u8 (b[k].toNat : Int))] (hj := by simp [bytesC, hk2]) (h := ?_)
     rw [show (bytesC b).set k (List.set [SV.val (.int .u8 (b[k].toNat : Int))] 0 (SV.val (.int .u8 ((b[k] + 1).toNat : Int)))) = bytesC (b.set k (b[k] + 1)) from bytes_set1 b k (b[k] + 1)]
     rw [← e1]
     refine .n0 ?_
     refine .seq ?_
     refine .region rfl ?_
     refine R.move (h := ?_)
     refine R.assign (h := ?_)
     refine R.assign (h := ?_)
     refine .n0 ?_
     first | refine LGo.frzT 8 (h := ?_) | refine LGo.nilSl 8 1 (h := ?_) | skip
     exact LGo.ret (ret_TT Tryz.results19 hA hmd)
    ·
     rw [if_neg hc4] at e1
     rw [← e1]
     refine .skip ?_
     refine .seq ?_
     refine .region rfl ?_
     refine R.move (h := ?_)
     refine R.assign (h := ?_)
     refine R.assign (h := ?_)
     refine .n0 ?_
     first | refine LGo.frzT 8 (h := ?_) | refine LGo.nilSl 8 1 (h := ?_) | skip
     exact LGo.ret (ret_TT Tryz.results19 hA hmd)

theorem payR_P (c : SrC) (h : c.ok) (rid : Int) (hi : 0 ≤ rid ∧ rid < 18446744073709551616) (tok blob : List UInt8) (ht : tok.length ≤ 1000) (hb : blob.length ≤ 1000) : PC Tryz.prog 20 [.agg (c.c.map LV.sv), .v (.int .u64 rid), .t tok, .t blob] (.tup [.sv (.sl 1 (bytesC (payS c rid tok blob).1)), .i (payS c rid tok blob).2]) := by
 refine ⟨LC.of_go Tryz.func20 (c := _) rfl (by kernel_rfl) (by rw [Tryz.ntmps20]; simp) rfl rfl (by simp [LO.lt, LV.lts, LV.lt, lts_sv]) (by simp) ?_⟩
 intro B hA hmd
 rw [← pay_eq]
 obtain ⟨g, e0⟩ : ∃ g, payZ c rid tok blob = g := ⟨_, rfl⟩
 have e1 := e0
 unfold payZ at e1
 rw [e0]
 have hsp := h.spoil
 unfold R64 at hsp
 refine .seq ?_
 refine .region rfl ?_
 refine R.box (h := ?_)
 refine R.assign (h := ?_)
 refine R.assign (h := ?_)
 refine .n0 ?_
 refine .seq ?_
 refine .region rfl ?_
 first | refine R.loadA A40 (h := ?_) | refine R.loadN A40 (h := ?_) | refine R.loadP A40 (h := ?_)
 refine R.callP (es := [_]) (fun _ => aloneRS_P c h) (h := ?_)
 refine R.assign (h := ?_)
 refine .n0 ?_
 refine .seq ?_
 refine .seq ?_
 refine .region rfl ?_
 refine R.move (h := ?_)
 refine R.bin (run_neq _ _ _ _ _ _) (h := ?_)
 refine .n0 ?_
 refine LGo.ifb (ht := fun hc => ?_) (hf := fun hc => ?_)
 ·
  rw [if_pos (by simpa using hc)] at e1
  rw [← e1]
  refine .seq ?_
  refine .region rfl ?_
  refine R.move (h := ?_)
  refine R.assign (h := ?_)
  refine R.assign (h := ?_)
  refine .n0 ?_
  first | refine LGo.frzT 8 (h := ?_) | refine LGo.nilSl 8 1 (h := ?_) | skip
  exact LGo.ret (ret_TT Tryz.results20 hA hmd)
 ·
  rw [if_neg (by simpa using hc)] at e1
  refine .skip ?_
  refine .seq ?_
  refine .seq ?_
  refine .region rfl ?_
  first | refine R.field F40_0 (h := ?_) | refine R.fieldAt F40_0 (h := ?_)
  first | refine R.loadB O3 (h := ?_) | refine R.load1 O3 (h := ?_)
  refine R.bin (run_eql _ _ _ _ _ _) (h := ?_)
  refine .n0 ?_
  refine LGo.ifd (ht := fun hc2 => ?_) (hf := fun hc2 => ?_)
  ·
   have hrw := alone_raw (show aloneS c = 0 by simpa using hc)
   rw [if_pos hc2] at e1
   rw [← e1]
   refine .seq ?_
   refine .region rfl ?_
   first | refine R.field F40_10 (h := ?_) | refine R.fieldAt F40_10 (h := ?_)
   first | refine R.loadB O9 (h := ?_) | refine R.load1 O9 (h := ?_)
   refine R.toBytes Tryz.underlying9 Tryz.underlying44 Tryz.underlying5 (hl := by first | omega | (simp; omega)) (h := ?_)
   refine R.assign (h := ?_)
   refine R.assign (h := ?_)
   refine .n0 ?_
   first | refine LGo.frzT 8 (h := ?_) | refine LGo.nilSl 8 1 (h := ?_) | skip
   exact LGo.ret (ret_TT Tryz.results20 hA hmd)
  ·
   rw [if_neg hc2] at e1
   have hro := reqZ_ok h hi (tok := tok) (blob := blob) (by omega) (by omega)
   have hel := encQ2_len hro
   have hL := encR9_L _ hro
   generalize (encQ (reqZ c rid tok blob)).1 = b at e1 hel hL
   generalize (encQ (reqZ c rid tok blob)).2 = er at e1 hel hL
   refine .skip ?_
   refine .seq ?_
   refine .region rfl ?_
   first | refine R.loadA A40 (h := ?_) | refine R.loadN A40 (h := ?_) | refine R.loadP A40 (h := ?_)
   refine R.move (h := ?_)
   refine R.move (h := ?_)
   refine R.move (h := ?_)
   refine R.callP (es := [_, _, _, _]) (fun _ => reqZ_P c rid tok blob) (h := ?_)
   refine R.callX (es := [_]) [] hL (h := ?_)
   refine R.move (h := ?_)
   refine R.extract (h := ?_)
   refine R.extract (h := ?_)
   refine R.assign (h := ?_)
   refine R.assign (h := ?_)
   refine .n0 ?_
   refine .seq ?_
   refine .seq ?_
   refine .region rfl ?_
   refine R.move (h := ?_)
   refine R.bin (run_neq _ _ _ _ _ _) (h := ?_)
   refine .n0 ?_
   refine LGo.ifb (ht := fun hc3 => ?_) (hf := fun hc3 => ?_)
   ·
    rw [if_pos (by simpa using hc3)] at e1
    rw [← e1]
    refine .seq ?_
    refine .region rfl ?_
    refine R.move (h := ?_)
    refine R.assign (h := ?_)
    refine R.assign (h := ?_)
    refine .n0 ?_
    first | refine LGo.frzT 8 (h := ?_) | refine LGo.nilSl 8 1 (h := ?_) | skip
    exact LGo.ret (ret_TT Tryz.results20 hA hmd)
   ·
    have he0 : er = 0 := by simpa using hc3
    have hbl := hel.2 he0
    rw [if_neg (by simp [he0])] at e1
    unfold spoilB at e1
    refine .skip ?_
    refine .seq ?_
    refine .seq ?_
    refine .region rfl ?_
    first | refine R.field F40_9 (h := ?_) | refine R.fieldAt F40_9 (h := ?_)
    first | refine R.loadB O3 (h := ?_) | refine R.load1 O3 (h := ?_)
    refine R.bin (run_gtr _ _ _ _ _ _) (h := ?_)
    refine .n0 ?_
    refine LGo.ifd (ht := fun hc4 => ?_) (hf := fun hc4 => ?_)
    ·
     rw [if_pos hc4] at e1
     refine .seq ?_
     refine .region rfl ?_
     first | refine R.field F40_9 (h := ?_) | refine R.fieldAt F40_9 (h := ?_)
     first | refine R.loadB O3 (h := ?_) | refine R.load1 O3 (h := ?_)
     first | refine R.sub (h := ?_) | refine R.subW (h := ?_)
     refine R.move (h := ?_)
     first | refine R.len S44 (h := ?_) | refine R.lenRs S44 (h := ?_) | refine R.lenV (run_lenNil S44) (h := ?_)
     rw [bytesC_length]
     refine R.rem (h := ?_)
     obtain ⟨k, hk, hk2⟩ : ∃ k : Nat, (c.spoil - 1) % (b.length : Int) = k ∧ k < b.length := ⟨((c.spoil - 1) % (b.length : Int)).toNat, by have := Int.emod_nonneg (c.spoil - 1) (show (b.length : Int) ≠ 0 by omega); omega, by have := Int.emod_lt_of_pos (c.spoil - 1) (show (0 : Int) < b.length by omega); omega⟩
     rw [hk]
     rw [hk, Int.toNat_natCast, List.getD_eq_getElem?_getD, List.getElem?_eq_getElem hk2, Option.getD_some] at e1
     refine R.assign (h := ?_)
     refine .n0 ?_
     refine .region rfl ?_
     refine R.move (h := ?_)
     refine R.move (h := ?_)
     refine R.move (h := ?_)
     refine R.move (h := ?_)
     refine R.indexRs I44 (hj := fun _ => ⟨by omega, by rw [bytesC_length]; omega⟩) (h := ?_)
     rw [Int.toNat_natCast]
     refine R.loadRs1 O5 k 0 (ev := [SV.val (.int .u8 (b[k].toNat : Int))]) (c := SV.val (.int .u8 (b[k].toNat : Int))) (hj := fun _ => ⟨by simp [bytesC, hk2], rfl⟩) (h := ?_)
     refine R.addW (h := ?_)
     rw [u8_inc]
     refine R.indexRs I44 (hj := fun _ => ⟨by omega, by rw [bytesC_length]; omega⟩) (h := ?_)
     rw [Int.toNat_natCast]
     refine R.storeRs1 O5 k 0 [SV.val (.int .u8 (b[k].toNat : Int))] (hj := by simp [bytesC, hk2]) (h := ?_)
     rw [show (bytesC b).set k (List.set [SV.val (.int .u8 (b[k].toNat : Int))] 0 (SV.val (.int .u8 ((b[k] + 1).toNat : Int)))) = bytesC (b.set k (b[k] + 1)) from bytes_set1 b k (b[k] + 1)]
     rw [← e1]
     refine .n0 ?_
     refine .seq ?_
     refine .region rfl ?_
     refine R.move (h := ?_)
     refine R.assign (h := ?_)
     refine R.assign (h := ?_)
     refine .n0 ?_
     first | refine LGo.frzT 8 (h := ?_) | refine LGo.nilSl 8 1 (h := ?_) | skip
     exact LGo.ret (ret_TT Tryz.results20 hA hmd)
    ·
     rw [if_neg hc4] at e1
     rw [← e1]
     refine .skip ?_
     refine .seq ?_
     refine .region rfl ?_
     refine R.move (h := ?_)
     refine R.assign (h := ?_)
     refine R.assign (h := ?_)
     refine .n0 ?_
     first | refine LGo.frzT 8 (h := ?_) | refine LGo.nilSl 8 1 (h := ?_) | skip
     exact LGo.ret (ret_TT Tryz.results20 hA hmd)

theorem decR9Q_P (b : List UInt8) (hb : b.length ≤ 9000) : PC Tryz.prog 21 [.sv (.sl 1 (bytesC b))] (.tup [.agg ((decQ b).1.c.map LV.sv), .i (decQ b).2.1, .i (decQ b).2.2]) := by rw [← decR9_eq]; exact decR9_P b hb
theorem ses_ok (t : List UInt8) (n : Nat) (b : Bool) : ((decide (t = []) || decide ((if b = true then orZ t n else []) = [])) || decide ((if b = true then orZ t n else []) = t)) = true := by
  unfold orZ
  cases b
  · simp
  · by_cases h : t = []
    · simp [h]
    · simp [h]

theorem payloads_W (x : SrC) (hx0 : x.ok) (rid : Int) (hi : 0 ≤ rid ∧ rid < 18446744073709551616) (tok blob : List UInt8) (ht : tok.length ≤ maxLen) (hb : blob.length ≤ maxLen) : PC Tryz.prog 4 [.agg ((x.c ++ [SV.val (.int .u64 rid), SV.val (.string ⟨tok.toArray⟩), SV.val (.string ⟨blob.toArray⟩)]).map LV.sv)] (.b true) := by
 refine ⟨LC.of_go Tryz.func4 (c := _) rfl (by kernel_rfl) (by rw [Tryz.ntmps4]; simp) rfl rfl (by simp [LO.lt, LV.lts, LV.lt, lts_sv]) (by simp) ?_⟩
 intro B hA hmd
 have hrw := hx0.raw
 unfold maxLen at ht hb hrw
 refine .seq ?_
 refine .region rfl ?_
 refine R.box (h := ?_)
 refine R.assign (h := ?_)
 refine .n0 ?_
 refine .seq ?_
 refine .seq ?_
 refine .region rfl ?_
 first | refine R.field F43_0 (h := ?_) | refine R.fieldAt F43_0 (h := ?_)
 first | refine R.field F40_10 (h := ?_) | refine R.fieldAt F40_10 (h := ?_)
 first | refine R.loadB O9 (h := ?_) | refine R.load1 O9 (h := ?_)
 refine R.lenT Tryz.runUnderlying9 (h := ?_)
 refine R.bin (run_gtr _ _ _ _ _ _) (h := ?_)
 refine R.move (h := ?_)
 first | refine R.field F43_2 (h := ?_) | refine R.fieldAt F43_2 (h := ?_)
 first | refine R.loadB O9 (h := ?_) | refine R.load1 O9 (h := ?_)
 refine R.lenT Tryz.runUnderlying9 (h := ?_)
 refine R.bin (run_gtr _ _ _ _ _ _) (h := ?_)
 refine R.or (h := ?_)
 refine R.move (h := ?_)
 first | refine R.field F43_3 (h := ?_) | refine R.fieldAt F43_3 (h := ?_)
 first | refine R.loadB O9 (h := ?_) | refine R.load1 O9 (h := ?_)
 refine R.lenT Tryz.runUnderlying9 (h := ?_)
 refine R.bin (run_gtr _ _ _ _ _ _) (h := ?_)
 refine R.or (h := ?_)
 refine .n0 ?_
 refine LGo.ifb (ht := fun hc => ?_) (hf := fun hc => ?_)
 ·
  refine .seq ?_
  refine .region rfl ?_
  refine R.callP (es := []) (fun _ => awake_P) (h := ?_)
  refine R.assign (h := ?_)
  refine .n0 ?_
  exact LGo.ret (ret_T Tryz.results4 hA hmd)
 ·
  simp only [Bool.or_eq_false_iff, decide_eq_false_iff_not] at hc
  have hP := payS2_P x hx0 rid hi tok blob (by omega) (by omega)
  have hQ := payR_P x hx0 rid hi tok blob (by omega) (by omega)
  obtain ⟨⟨b, e⟩, hpe⟩ : ∃ p, payS x rid tok blob = p := ⟨_, rfl⟩
  rw [hpe] at hP hQ
  dsimp only at hP hQ
  refine .skip ?_
  refine .seq ?_
  refine .region rfl ?_
  first | refine R.field F43_0 (h := ?_) | refine R.fieldAt F43_0 (h := ?_)
  first | refine R.loadA A40 (h := ?_) | refine R.loadN A40 (h := ?_) | refine R.loadP A40 (h := ?_)
  first | refine R.field F43_1 (h := ?_) | refine R.fieldAt F43_1 (h := ?_)
  first | refine R.loadB O41 (h := ?_) | refine R.load1 O41 (h := ?_)
  first | refine R.field F43_2 (h := ?_) | refine R.fieldAt F43_2 (h := ?_)
  first | refine R.loadB O9 (h := ?_) | refine R.load1 O9 (h := ?_)
  first | refine R.field F43_3 (h := ?_) | refine R.fieldAt F43_3 (h := ?_)
  first | refine R.loadB O9 (h := ?_) | refine R.load1 O9 (h := ?_)
  refine R.callP (es := [_, _, _, _]) (fun _ => hP) (h := ?_)
  refine R.move (h := ?_)
  refine R.extract (h := ?_)
  refine R.extract (h := ?_)
  refine R.assign (h := ?_)
  refine R.assign (h := ?_)
  refine .n0 ?_
  refine .seq ?_
  refine .region rfl ?_
  first | refine R.field F43_0 (h := ?_) | refine R.fieldAt F43_0 (h := ?_)
  first | refine R.loadA A40 (h := ?_) | refine R.loadN A40 (h := ?_) | refine R.loadP A40 (h := ?_)
  first | refine R.field F43_1 (h := ?_) | refine R.fieldAt F43_1 (h := ?_)
  first | refine R.loadB O41 (h := ?_) | refine R.load1 O41 (h := ?_)
  first | refine R.field F43_2 (h := ?_) | refine R.fieldAt F43_2 (h := ?_)
  first | refine R.loadB O9 (h := ?_) | refine R.load1 O9 (h := ?_)
  first | refine R.field F43_3 (h := ?_) | refine R.fieldAt F43_3 (h := ?_)
  first | refine R.loadB O9 (h := ?_) | refine R.load1 O9 (h := ?_)
  refine R.callP (es := [_, _, _, _]) (fun _ => hQ) (h := ?_)
  refine R.move (h := ?_)
  refine R.extract (h := ?_)
  refine R.extract (h := ?_)
  refine R.assign (h := ?_)
  refine R.assign (h := ?_)
  refine .n0 ?_
  refine .seq ?_
  refine .seq ?_
  refine .region rfl ?_
  refine R.move (h := ?_)
  refine R.toString Tryz.underlying44 Tryz.underlying5 Tryz.underlying9 (h := ?_)
  refine R.move (h := ?_)
  refine R.toString Tryz.underlying44 Tryz.underlying5 Tryz.underlying9 (h := ?_)
  refine R.bin (run_neqT _ _ _ _ _) (h := ?_)
  refine R.move (h := ?_)
  refine R.move (h := ?_)
  refine R.move (h := ?_)
  refine R.bin (run_neq _ _ _ _ _ _) (h := ?_)
  refine R.or (h := ?_)
  refine .n0 ?_
  refine LGo.eqB 61 false (hb := by simp) (h := ?_)
  refine LGo.ifb (ht := fun hc2 => by simp at hc2) (hf := fun hc2 => ?_)
  refine .skip ?_
  refine .seq ?_
  refine .region rfl ?_
  first | refine R.field F43_0 (h := ?_) | refine R.fieldAt F43_0 (h := ?_)
  first | refine R.loadA A40 (h := ?_) | refine R.loadN A40 (h := ?_) | refine R.loadP A40 (h := ?_)
  refine R.alloc Z40 (h := ?_)
  refine R.storeA A40 (h := ?_)
  refine .n0 ?_
  refine .seq ?_
  refine .seq ?_
  refine .region rfl ?_
  refine R.move (h := ?_)
  refine R.bin (run_neq _ _ _ _ _ _) (h := ?_)
  refine R.move (h := ?_)
  first | refine R.field F40_0 (h := ?_) | refine R.fieldAt F40_0 (h := ?_)
  first | refine R.loadB O3 (h := ?_) | refine R.load1 O3 (h := ?_)
  refine R.bin (run_eql _ _ _ _ _ _) (h := ?_)
  refine R.or (h := ?_)
  refine R.move (h := ?_)
  first | refine R.field F40_9 (h := ?_) | refine R.fieldAt F40_9 (h := ?_)
  first | refine R.loadB O3 (h := ?_) | refine R.load1 O3 (h := ?_)
  refine R.bin (run_gtr _ _ _ _ _ _) (h := ?_)
  refine R.or (h := ?_)
  refine .n0 ?_
  refine LGo.ifb (ht := fun hc3 => ?_) (hf := fun hc3 => ?_)
  ·
   refine .seq ?_
   refine .region rfl ?_
   refine R.callP (es := []) (fun _ => awake_P) (h := ?_)
   refine R.assign (h := ?_)
   refine .n0 ?_
   exact LGo.ret (ret_T Tryz.results4 hA hmd)
  ·
   simp only [Bool.or_eq_false_iff, Bool.not_eq_eq_eq_not, Bool.not_false, decide_eq_true_eq, decide_eq_false_iff_not] at hc3
   obtain ⟨⟨rfl, hk⟩, hsp⟩ := hc3
   have hro := reqZ_ok hx0 hi (tok := tok) (blob := blob) (by omega) (by omega)
   have hdec : b.length ≤ 9000 ∧ decQ b = (reqZ x rid tok blob, 0, 0) := by
     rw [← pay_eq] at hpe
     unfold payZ at hpe
     by_cases h0 : aloneS x = 0
     · rw [if_neg (show ¬ aloneS x ≠ 0 from fun h => h h0), if_neg hk] at hpe
       by_cases h1 : (encQ (reqZ x rid tok blob)).2 = 0
       · rw [if_neg (show ¬ (encQ (reqZ x rid tok blob)).2 ≠ 0 from fun h => h h1)] at hpe
         obtain ⟨b2, r1, r2, _, r4⟩ := round_Q hro (enc_check h1)
         have hb2 : b = b2 := by
           have := congrArg Prod.fst hpe
           unfold spoilB at this
           dsimp only at this
           rw [if_neg hsp, r1] at this
           exact this.symm
         rw [hb2]
         exact ⟨by omega, r2⟩
       · rw [if_pos h1] at hpe; exact absurd (congrArg Prod.snd hpe) h1
     · rw [if_pos h0] at hpe; exact absurd (congrArg Prod.snd hpe) h0
   have hD := decR9Q_P b hdec.1
   rw [hdec.2] at hD
   dsimp only at hD
   refine .skip ?_
   refine .seq ?_
   refine .region rfl ?_
   refine R.move (h := ?_)
   refine R.callP (es := [_]) (fun _ => hD) (h := ?_)
   refine R.move (h := ?_)
   refine R.extract (h := ?_)
   refine R.extract (h := ?_)
   refine R.extract (h := ?_)
   refine R.alloc Z48 (h := ?_)
   refine R.storeA A48 (h := ?_)
   refine R.assign (h := ?_)
   refine R.assign (h := ?_)
   refine .n0 ?_
   refine .seq ?_
   refine .region rfl ?_
   refine R.move (h := ?_)
   refine R.bin (run_eql _ _ _ _ _ _) (h := ?_)
   refine R.move (h := ?_)
   first | refine R.field F48_0 (h := ?_) | refine R.fieldAt F48_0 (h := ?_)
   first | refine R.loadB O3 (h := ?_) | refine R.load1 O3 (h := ?_)
   first | refine R.field F40_0 (h := ?_) | refine R.fieldAt F40_0 (h := ?_)
   first | refine R.loadB O3 (h := ?_) | refine R.load1 O3 (h := ?_)
   refine R.bin (run_eql _ _ _ _ _ _) (h := ?_)
   refine R.and (h := ?_)
   refine R.move (h := ?_)
   first | refine R.field F48_1 (h := ?_) | refine R.fieldAt F48_1 (h := ?_)
   first | refine R.loadB O41 (h := ?_) | refine R.load1 O41 (h := ?_)
   first | refine R.field F43_1 (h := ?_) | refine R.fieldAt F43_1 (h := ?_)
   first | refine R.loadB O41 (h := ?_) | refine R.load1 O41 (h := ?_)
   refine R.bin (run_eql _ _ _ _ _ _) (h := ?_)
   refine R.and (h := ?_)
   refine R.move (h := ?_)
   first | refine R.field F48_2 (h := ?_) | refine R.fieldAt F48_2 (h := ?_)
   first | refine R.loadB O38 (h := ?_) | refine R.load1 O38 (h := ?_)
   first | refine R.field F40_1 (h := ?_) | refine R.fieldAt F40_1 (h := ?_)
   first | refine R.loadB O38 (h := ?_) | refine R.load1 O38 (h := ?_)
   refine R.bin (run_eql _ _ _ _ _ _) (h := ?_)
   refine R.and (h := ?_)
   refine R.move (h := ?_)
   first | refine R.field F48_3 (h := ?_) | refine R.fieldAt F48_3 (h := ?_)
   first | refine R.loadB O38 (h := ?_) | refine R.load1 O38 (h := ?_)
   first | refine R.field F40_2 (h := ?_) | refine R.fieldAt F40_2 (h := ?_)
   first | refine R.loadB O38 (h := ?_) | refine R.load1 O38 (h := ?_)
   refine R.bin (run_eql _ _ _ _ _ _) (h := ?_)
   refine R.and (h := ?_)
   refine R.move (h := ?_)
   first | refine R.field F48_6 (h := ?_) | refine R.fieldAt F48_6 (h := ?_)
   first | refine R.loadB O3 (h := ?_) | refine R.load1 O3 (h := ?_)
   first | refine R.field F40_5 (h := ?_) | refine R.fieldAt F40_5 (h := ?_)
   first | refine R.loadB O3 (h := ?_) | refine R.load1 O3 (h := ?_)
   refine R.bin (run_eql _ _ _ _ _ _) (h := ?_)
   refine R.and (h := ?_)
   refine R.move (h := ?_)
   first | refine R.field F48_7 (h := ?_) | refine R.fieldAt F48_7 (h := ?_)
   first | refine R.loadB O3 (h := ?_) | refine R.load1 O3 (h := ?_)
   first | refine R.field F40_6 (h := ?_) | refine R.fieldAt F40_6 (h := ?_)
   first | refine R.loadB O3 (h := ?_) | refine R.load1 O3 (h := ?_)
   refine R.bin (run_eql _ _ _ _ _ _) (h := ?_)
   refine R.and (h := ?_)
   refine R.move (h := ?_)
   first | refine R.field F48_8 (h := ?_) | refine R.fieldAt F48_8 (h := ?_)
   first | refine R.loadB O3 (h := ?_) | refine R.load1 O3 (h := ?_)
   first | refine R.field F40_7 (h := ?_) | refine R.fieldAt F40_7 (h := ?_)
   first | refine R.loadB O3 (h := ?_) | refine R.load1 O3 (h := ?_)
   refine R.bin (run_eql _ _ _ _ _ _) (h := ?_)
   refine R.and (h := ?_)
   refine R.move (h := ?_)
   first | refine R.field F48_9 (h := ?_) | refine R.fieldAt F48_9 (h := ?_)
   first | refine R.loadB O3 (h := ?_) | refine R.load1 O3 (h := ?_)
   first | refine R.field F40_8 (h := ?_) | refine R.fieldAt F40_8 (h := ?_)
   first | refine R.loadB O3 (h := ?_) | refine R.load1 O3 (h := ?_)
   refine R.bin (run_eql _ _ _ _ _ _) (h := ?_)
   refine R.and (h := ?_)
   refine R.move (h := ?_)
   first | refine R.field F43_2 (h := ?_) | refine R.fieldAt F43_2 (h := ?_)
   first | refine R.loadB O9 (h := ?_) | refine R.load1 O9 (h := ?_)
   refine R.bin (run_eqlT _ _ _ _ _) (h := ?_)
   refine R.move (h := ?_)
   first | refine R.field F48_4 (h := ?_) | refine R.fieldAt F48_4 (h := ?_)
   first | refine R.loadB O9 (h := ?_) | refine R.load1 O9 (h := ?_)
   refine R.bin (run_eqlT _ _ _ _ _) (h := ?_)
   refine R.or (h := ?_)
   refine R.move (h := ?_)
   first | refine R.field F48_4 (h := ?_) | refine R.fieldAt F48_4 (h := ?_)
   first | refine R.loadB O9 (h := ?_) | refine R.load1 O9 (h := ?_)
   first | refine R.field F43_2 (h := ?_) | refine R.fieldAt F43_2 (h := ?_)
   first | refine R.loadB O9 (h := ?_) | refine R.load1 O9 (h := ?_)
   refine R.bin (run_eqlT _ _ _ _ _) (h := ?_)
   refine R.or (h := ?_)
   refine R.and (h := ?_)
   refine R.move (h := ?_)
   first | refine R.field F43_3 (h := ?_) | refine R.fieldAt F43_3 (h := ?_)
   first | refine R.loadB O9 (h := ?_) | refine R.load1 O9 (h := ?_)
   refine R.bin (run_eqlT _ _ _ _ _) (h := ?_)
   refine R.move (h := ?_)
   first | refine R.field F48_5 (h := ?_) | refine R.fieldAt F48_5 (h := ?_)
   first | refine R.loadB O9 (h := ?_) | refine R.load1 O9 (h := ?_)
   refine R.bin (run_eqlT _ _ _ _ _) (h := ?_)
   refine R.or (h := ?_)
   refine R.move (h := ?_)
   first | refine R.field F48_5 (h := ?_) | refine R.fieldAt F48_5 (h := ?_)
   first | refine R.loadB O9 (h := ?_) | refine R.load1 O9 (h := ?_)
   first | refine R.field F43_3 (h := ?_) | refine R.fieldAt F43_3 (h := ?_)
   first | refine R.loadB O9 (h := ?_) | refine R.load1 O9 (h := ?_)
   refine R.bin (run_eqlT _ _ _ _ _) (h := ?_)
   refine R.or (h := ?_)
   refine R.and (h := ?_)
   refine R.move (h := ?_)
   refine R.callP (es := []) (fun _ => awake_P) (h := ?_)
   refine R.and (h := ?_)
   refine R.assign (h := ?_)
   refine .n0 ?_
   have hs1 := ses_ok tok 44 (needsQ x.kind).1
   have hs2 := ses_ok blob 56 (needsQ x.kind).2.1
   refine LGo.eqB 2 true (hb := by unfold reqZ; dsimp only; rw [hs1, hs2]; simp) (h := ?_)
   exact LGo.ret (ret_T Tryz.results4 hA hmd)

end Go.Proofs.YteccglgbkehdeaaGreatDoor
