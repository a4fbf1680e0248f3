/- requests, the reference: Parse. -/
import Derived.Test.YtckbomkcnmcdaaaGreatDoorRF
set_option linter.unusedSimpArgs false
set_option linter.unusedVariables false
namespace Go.Proofs.YtckbomkcnmcdaaaGreatDoor

def kindGo (nm : List UInt8) : Nat → Nat → Int → Int
  | 0, _, kd => kd
  | n + 1, k, kd => kindGo nm n (k + 1) (if nm = wordQ (k : Int) then (k : Int) else kd)
def kindOf (nm : List UInt8) : Int := kindGo nm 13 1 0
theorem kindGo_lt (nm : List UInt8) : ∀ (n k : Nat) (kd : Int), 0 ≤ kd → kd < 14 → k + n ≤ 14 → 0 ≤ kindGo nm n k kd ∧ kindGo nm n k kd < 14
  | 0, k, kd, h0, h1, _ => ⟨h0, h1⟩
  | n + 1, k, kd, h0, h1, h2 => by
    rw [kindGo]
    split <;> exact kindGo_lt nm n (k + 1) _ (by omega) (by omega) (by omega)
theorem kindOf_lt (nm : List UInt8) : 0 ≤ kindOf nm ∧ kindOf nm < 14 := kindGo_lt nm 13 1 0 (by decide) (by decide) (by decide)
def readR : List Rule → List Fd → Rq → Option Rq
  | [], _, r => some r
  | _ :: _, [], _ => none
  | x :: rs, f :: fs, r => if x.kind = 2 then (if (!f.q) = true then none else readR rs fs (putQ r ⟨x.tag, 0, f.s⟩)) else
      if ((!decide ((intW f.s 0 9223372036854775807).2 = 0) || f.q) || decide (x.high < (intW f.s 0 9223372036854775807).1)) = true then none else readR rs fs (putQ r ⟨x.tag, (intW f.s 0 9223372036854775807).1, []⟩)
def parseR2 (kd : Int) (fs : List Fd) : Rq × Int := if (!decide ((rulesQ kd).2 = 0) || !decide ((fs.length : Int) = ((rulesQ kd).1.length : Int) + 1)) = true then (zeroQ, 6) else
  match readR (rulesQ kd).1 (fs.drop 1) { zeroQ with kind := kd } with
  | none => (zeroQ, 6)
  | some r => if (!decide (refCheckQ r = 0)) = true then (zeroQ, 6) else (r, 0)
def parseR9 (line : List UInt8) : Rq × Int := if ((!decide ((split1 line).2 = 0) || decide (((split1 line).1.length : Int) = 0)) || (fd0 (split1 line).1).q) = true then (zeroQ, 6) else parseR2 (kindOf (fd0 (split1 line).1).s) (split1 line).1
theorem intW_63 (s : List UInt8) : 0 ≤ (intW s 0 9223372036854775807).1 ∧ (intW s 0 9223372036854775807).1 ≤ 9223372036854775807 := by
  by_cases h : (intW s 0 9223372036854775807).2 = 0
  · have := intW_in h; omega
  · unfold intW at h ⊢
    split
    · simp
    · split
      · simp
      · rename_i h1 h2; rw [if_neg h1, if_neg h2] at h; exact absurd rfl h

theorem parseR9_P (line : List UInt8) : PC Tryz.prog 27 [.t line] (.tup [.agg ((parseR9 line).1.c.map LV.sv), .i (parseR9 line).2]) := by
 refine ⟨LC.of_go Tryz.func27 (c := _) rfl (by kernel_rfl) (by rw [Tryz.ntmps27]; simp) rfl rfl (by simp [LO.lt, LV.lts, LV.lt]) (by simp) ?_⟩
 intro B hA hmd
 obtain ⟨g, e0⟩ : ∃ g, parseR9 line = g := ⟨_, rfl⟩
 have e1 := e0
 unfold parseR9 at e1
 rw [e0]
 have hsl := split1_len line
 refine .seq ?_
 refine .region rfl ?_
 refine R.alloc Z35 (h := ?_)
 refine R.assign (h := ?_)
 refine .n0 ?_
 refine .seq ?_
 refine .region rfl ?_
 refine R.build BF35 (is := []) (xs := []) (es := []) (h := ?_)
 refine R.alloc Z35 (h := ?_)
 refine R.storeA A35 (h := ?_)
 refine .n0 ?_
 refine .seq ?_
 refine .region rfl ?_
 refine R.move (h := ?_)
 refine R.callP (es := [_]) (fun _ => splitR_P line) (h := ?_)
 generalize (split1 line).2 = e at *
 generalize (split1 line).1 = fs at *
 obtain ⟨hl64, hfl⟩ := hsl
 refine R.move (h := ?_)
 refine R.extract (h := ?_)
 refine R.extract (h := ?_)
 refine R.assign (h := ?_)
 refine R.assign (h := ?_)
 refine .n0 ?_
 refine .seq ?_
 refine .seq ?_
 refine .region rfl ?_
 refine R.move (h := ?_)
 refine R.bin (run_neq _ _ _ _ _ _) (h := ?_)
 refine R.move (h := ?_)
 refine R.move (h := ?_)
 first | refine R.len S85 (h := ?_) | refine R.lenRs S85 (h := ?_) | refine R.lenV (run_lenNil S85) (h := ?_)
 rw [List.length_map]
 refine R.bin (run_eql _ _ _ _ _ _) (h := ?_)
 refine R.or (h := ?_)
 refine R.move (h := ?_)
 refine R.move (h := ?_)
 refine R.index I85 (e := (fd0 fs).c) (hj := fun hg => ⟨by omega, fd0_at (by rintro rfl; simp at hg)⟩) (h := ?_)
 first | refine R.field F89_1 (h := ?_) | refine R.fieldAt F89_1 (h := ?_)
 first | refine R.loadB O4 (h := ?_) | refine R.load1 O4 (h := ?_)
 refine R.or (h := ?_)
 refine .n0 ?_
 refine LGo.ifb (ht := fun hc => ?_) (hf := fun hc => ?_)
 ·
  rw [if_pos hc] at e1; rw [← e1]
  refine .seq ?_
  refine .region rfl ?_
  first | refine R.loadA A35 (h := ?_) | refine R.loadN A35 (h := ?_) | refine R.loadP A35 (h := ?_)
  refine R.storeA A35 (h := ?_)
  refine R.assign (h := ?_)
  refine .n0 ?_
  exact LGo.ret (ret_AT Tryz.results27 A35 hA hmd)
 ·
  rw [if_neg (by rw [hc]; simp)] at e1
  have hne : fs ≠ [] := by rintro rfl; simp at hc
  refine .skip ?_
  refine .seq ?_
  refine .region rfl ?_
  refine R.alloc Z35 (h := ?_)
  refine .n0 ?_
  refine .seq ?_
  refine .seq ?_
  refine .region rfl ?_
  refine R.assign (h := ?_)
  refine .n0 ?_
  refine .block ?_
  refine .loop ?_
  refine LGo.loopG (σ := Nat × Int) (fun x => 1 ≤ x.1 ∧ x.1 ≤ 14 ∧ kindGo (fd0 fs).s (14 - x.1) x.1 x.2 = kindOf (fd0 fs).s) (fun x => [(8, (true, .i (x.1 : Nat)))]) (fun x => [(0, .box 35 (zeroQ.c.map LV.sv)), (1, .box 35 (zeroQ.c.map LV.sv)), (2, .box 35 (({ zeroQ with kind := x.2 } : Rq).c.map LV.sv))]) (fun x => 14 - x.1) (1, 0) [(2, _), (4, _), (5, _), (7, _)] ⟨by decide, by decide, rfl⟩ (by repeat (first | exact trivial | refine ⟨rfl, ?_⟩)) (by repeat (first | exact trivial | refine ⟨rfl, ?_⟩)) (by repeat (first | exact trivial | refine ⟨rfl, ?_⟩)) ?_
  rintro ⟨k, kd⟩ ⟨hk1, hk, hq⟩ ih
  dsimp only at * 
  refine .seq ?_
  refine .seq ?_
  refine .region rfl ?_
  refine R.move (h := ?_)
  refine R.bin (run_leq _ _ _ _ _ _) (h := ?_)
  refine .n0 ?_
  refine LGo.ifd (ht := fun hc2 => ?_) (hf := fun hc2 => ?_)
  ·
   rw [show 14 - k = (14 - (k + 1)) + 1 from by omega, kindGo] at hq
   refine .skip ?_
   refine .seq ?_
   refine .block ?_
   refine .seq ?_
   refine .region rfl ?_
   refine R.move (h := ?_)
   refine R.index I85 (e := (fd0 fs).c) (hj := fun _ => ⟨by omega, fd0_at hne⟩) (h := ?_)
   first | refine R.field F89_0 (h := ?_) | refine R.fieldAt F89_0 (h := ?_)
   first | refine R.loadB O9 (h := ?_) | refine R.load1 O9 (h := ?_)
   refine R.move (h := ?_)
   refine R.callP (es := [_]) (fun _ => wordQ_P (k : Int)) (h := ?_)
   refine R.bin (run_eqlT _ _ _ _ _) (h := ?_)
   refine Reg.nil ⟨fun _ => ⟨mixedO, by rfl, by rfl⟩, ?_⟩
   refine LGo.ifd (ht := fun hc3 => ?_) (hf := fun hc3 => ?_)
   ·
    rw [if_pos hc3] at hq
    refine .region rfl ?_
    refine R.move (h := ?_)
    first | refine R.field F35_0 (h := ?_) | refine R.fieldAt F35_0 (h := ?_)
    refine R.storeB O3 (h := ?_)
    refine .n0 ?_
    refine .inBlock ?_
    refine .region rfl ?_
    refine R.move (h := ?_)
    first | refine R.add (h := ?_) | refine R.addW (h := ?_)
    refine R.assign (h := ?_)
    refine .n0 ?_
    refine .inLoop ?_
    exact LGo.next _ (fun o h => by have := (hA o).1 h; omega) (by omega) (ih (k + 1, (k : Int)) ⟨by dsimp only; omega, by dsimp only; omega, hq⟩ (by dsimp only; omega)) (by repeat (first | exact trivial | refine ⟨rfl, ?_⟩)) ⟨rfl, rfl, rfl, trivial⟩
   ·
    rw [if_neg hc3] at hq
    refine .skip ?_
    refine .inBlock ?_
    refine .region rfl ?_
    refine R.move (h := ?_)
    first | refine R.add (h := ?_) | refine R.addW (h := ?_)
    refine R.assign (h := ?_)
    refine .n0 ?_
    refine .inLoop ?_
    exact LGo.next _ (fun o h => by have := (hA o).1 h; omega) (by omega) (ih (k + 1, kd) ⟨by dsimp only; omega, by dsimp only; omega, hq⟩ (by dsimp only; omega)) (by repeat (first | exact trivial | refine ⟨rfl, ?_⟩)) ⟨rfl, rfl, rfl, trivial⟩
  ·
   obtain rfl : k = 14 := by omega
   rw [show 14 - 14 = 0 from rfl, kindGo] at hq
   have hkl := kindOf_lt (fd0 fs).s
   rw [← hq] at e1 hkl
   unfold parseR2 at e1
   clear hq
   refine .exit rfl ?_
   refine .seq ?_
   refine .region rfl ?_
   first | refine R.field F35_0 (h := ?_) | refine R.fieldAt F35_0 (h := ?_)
   first | refine R.loadB O3 (h := ?_) | refine R.load1 O3 (h := ?_)
   refine R.callP (es := [_]) (fun _ => rulesR_P kd) (h := ?_)
   rw [← rules_eq]
   have h63 := rulesQ_63 kd
   have hrl := rulesQ_len kd
   generalize (rulesQ kd).2 = er at *
   generalize (rulesQ kd).1 = rs at *
   refine R.move (h := ?_)
   refine R.extract (h := ?_)
   refine R.extract (h := ?_)
   refine R.assign (h := ?_)
   refine R.assign (h := ?_)
   refine .n0 ?_
   refine .seq ?_
   refine .seq ?_
   refine .region rfl ?_
   refine R.move (h := ?_)
   refine R.bin (run_neq _ _ _ _ _ _) (h := ?_)
   refine R.move (h := ?_)
   refine R.move (h := ?_)
   first | refine R.len S85 (h := ?_) | refine R.lenRs S85 (h := ?_) | refine R.lenV (run_lenNil S85) (h := ?_)
   rw [List.length_map]
   refine R.move (h := ?_)
   first | refine R.len S22 (h := ?_) | refine R.lenRs S22 (h := ?_) | refine R.lenV (run_lenNil S22) (h := ?_)
   rw [List.length_map]
   first | refine R.add (h := ?_) | refine R.addW (h := ?_)
   refine R.bin (run_neq _ _ _ _ _ _) (h := ?_)
   refine R.or (h := ?_)
   refine .n0 ?_
   refine LGo.ifb (ht := fun hc4 => ?_) (hf := fun hc4 => ?_)
   ·
    rw [if_pos hc4] at e1; rw [← e1]
    refine .seq ?_
    refine .region rfl ?_
    first | refine R.loadA A35 (h := ?_) | refine R.loadN A35 (h := ?_) | refine R.loadP A35 (h := ?_)
    refine R.storeA A35 (h := ?_)
    refine R.assign (h := ?_)
    refine .n0 ?_
    exact LGo.ret (ret_AT Tryz.results27 A35 hA hmd)
   ·
    rw [if_neg (by rw [hc4]; simp)] at e1
    have hle : fs.length = rs.length + 1 := by simp only [Bool.or_eq_true, Bool.and_eq_true, decide_eq_true_eq, Bool.or_eq_false_iff, Bool.and_eq_false_iff, decide_eq_false_iff_not, Bool.not_eq_true', Bool.not_eq_false', Bool.not_eq_true, Bool.not_eq_false, Bool.false_eq_true, Bool.true_eq_false, iff_true, true_iff, iff_false, false_iff] at hc4; omega
    obtain ⟨res, hres⟩ : ∃ res, readR rs (fs.drop 1) { zeroQ with kind := kd } = res := ⟨_, rfl⟩
    rw [hres] at e1
    refine .skip ?_
    refine .seq ?_
    refine .seq ?_
    refine .region rfl ?_
    refine R.assign (h := ?_)
    refine .n0 ?_
    refine .block ?_
    refine .loop ?_
    refine LGo.loopG (σ := Nat × Rq) (fun x => x.1 ≤ rs.length ∧ RqOk x.2 ∧ readR (rs.drop x.1) (fs.drop (x.1 + 1)) x.2 = res) (fun x => [(10, (true, .i (x.1 : Nat)))]) (fun x => [(0, .box 35 (zeroQ.c.map LV.sv)), (1, .box 35 (zeroQ.c.map LV.sv)), (2, .box 35 (x.2.c.map LV.sv))]) (fun x => rs.length - x.1) (0, { zeroQ with kind := kd }) [(2, _), (4, _), (5, _), (7, _), (9, _)] ⟨Nat.zero_le _, by have := kindQ_ok kd.toNat (by omega); rwa [show ((kd.toNat : Nat) : Int) = kd from by omega] at this, hres⟩ (by repeat (first | exact trivial | refine ⟨rfl, ?_⟩)) (by repeat (first | exact trivial | refine ⟨rfl, ?_⟩)) (by repeat (first | exact trivial | refine ⟨rfl, ?_⟩)) ?_
    rintro ⟨k, r⟩ ⟨hk, hro, hq⟩ ih2
    dsimp only at * 
    refine .seq ?_
    refine .seq ?_
    refine .region rfl ?_
    refine R.move (h := ?_)
    refine R.move (h := ?_)
    first | refine R.len S22 (h := ?_) | refine R.lenRs S22 (h := ?_) | refine R.lenV (run_lenNil S22) (h := ?_)
    rw [List.length_map]
    refine R.bin (run_lss _ _ _ _ _ _) (h := ?_)
    refine .n0 ?_
    refine LGo.ifd (ht := fun hc5 => ?_) (hf := fun hc5 => ?_)
    ·
     have hlt : k < rs.length := by omega
     have hlt2 : k + 1 < fs.length := by omega
     have hx : (rs.map Rule.c)[((k : Nat) : Int).toNat]? = some rs[k].c := by simp [hlt]
     have hy : (fs.map Fd.c)[((k : Int) + 1).toNat]? = some fs[k + 1].c := by rw [show ((k : Int) + 1).toNat = k + 1 from by omega]; simp [hlt2]
     have hd : rs.drop k = rs[k] :: rs.drop (k + 1) := List.drop_eq_getElem_cons hlt
     have hd2 : fs.drop (k + 1) = fs[k + 1] :: fs.drop (k + 1 + 1) := List.drop_eq_getElem_cons hlt2
     have hx63 := h63 rs[k] (List.getElem_mem hlt)
     have hf2 := hfl fs[k + 1] (List.getElem_mem hlt2)
     rw [hd, hd2, readR] at hq
     generalize rs[k] = x at hx hq hx63
     generalize fs[k + 1] = f at hy hq hf2
     have hfs : f.s.length ≤ 100000 := by omega
     clear hd hd2
     have hin := intW_63 f.s
     refine .skip ?_
     refine .seq ?_
     refine .block ?_
     refine .seq ?_
     refine .region rfl ?_
     refine R.move (h := ?_)
     refine R.move (h := ?_)
     first | refine R.add (h := ?_) | refine R.addW (h := ?_)
     refine R.index I85 (hj := fun hg => ⟨by omega, hy⟩) (h := ?_)
     first | refine R.loadA A89 (h := ?_) | refine R.loadN A89 (h := ?_) | refine R.loadP A89 (h := ?_)
     refine R.alloc Z89 (h := ?_)
     refine R.storeA A89 (h := ?_)
     refine .n0 ?_
     refine .seq ?_
     refine .region rfl ?_
     refine R.move (h := ?_)
     refine R.move (h := ?_)
     refine R.index I22 (hj := fun hg => ⟨by omega, hx⟩) (h := ?_)
     first | refine R.field F30_0 (h := ?_) | refine R.fieldAt F30_0 (h := ?_)
     first | refine R.loadB O3 (h := ?_) | refine R.load1 O3 (h := ?_)
     refine R.build BF78 (is := [0]) (xs := [_]) (es := [_]) (h := ?_)
     refine R.alloc Z78 (h := ?_)
     refine R.storeA A78 (h := ?_)
     refine .n0 ?_
     refine .seq ?_
     refine .seq ?_
     refine .region rfl ?_
     refine R.move (h := ?_)
     refine R.move (h := ?_)
     refine R.index I22 (hj := fun hg => ⟨by omega, hx⟩) (h := ?_)
     first | refine R.field F30_1 (h := ?_) | refine R.fieldAt F30_1 (h := ?_)
     first | refine R.loadB O3 (h := ?_) | refine R.load1 O3 (h := ?_)
     refine R.bin (run_eql _ _ _ _ _ _) (h := ?_)
     refine .n0 ?_
     refine LGo.ifd (ht := fun hc6 => ?_) (hf := fun hc6 => ?_)
     ·
      rw [if_pos hc6] at hq
      refine .seq ?_
      refine .seq ?_
      refine .region rfl ?_
      first | refine R.field F89_1 (h := ?_) | refine R.fieldAt F89_1 (h := ?_)
      first | refine R.loadB O4 (h := ?_) | refine R.load1 O4 (h := ?_)
      refine R.not (h := ?_)
      refine .n0 ?_
      refine LGo.ifb (ht := fun hc7 => ?_) (hf := fun hc7 => ?_)
      ·
       rw [if_pos hc7] at hq; rw [← hq] at e1; dsimp only at e1; rw [← e1]
       refine .seq ?_
       refine .region rfl ?_
       first | refine R.loadA A35 (h := ?_) | refine R.loadN A35 (h := ?_) | refine R.loadP A35 (h := ?_)
       refine R.storeA A35 (h := ?_)
       refine R.assign (h := ?_)
       refine .n0 ?_
       exact LGo.ret (ret_AT Tryz.results27 A35 hA hmd)
      ·
       rw [if_neg (by rw [hc7]; simp)] at hq
       obtain ⟨fx, hfx, hfo⟩ : ∃ fx : Fld, (⟨x.tag, 0, f.s⟩ : Fld) = fx ∧ (0 ≤ fx.num ∧ fx.num < 18446744073709551616 ∧ fx.txt.length ≤ 2000) := ⟨_, rfl, by simp, by simp, hf2⟩
       rw [hfx] at hq
       refine .skip ?_
       refine .region rfl ?_
       first | refine R.field F89_0 (h := ?_) | refine R.fieldAt F89_0 (h := ?_)
       first | refine R.loadB O9 (h := ?_) | refine R.load1 O9 (h := ?_)
       first | refine R.field F78_2 (h := ?_) | refine R.fieldAt F78_2 (h := ?_)
       refine R.storeB O9 (h := ?_)
       refine .n0 ?_
       refine .region rfl ?_
       first | refine R.loadA A35 (h := ?_) | refine R.loadN A35 (h := ?_) | refine R.loadP A35 (h := ?_)
       first | refine R.loadA A78 (h := ?_) | refine R.loadN A78 (h := ?_) | refine R.loadP A78 (h := ?_)
       refine R.callP (es := [_, _]) (fun _ => withQ_P r fx) (hes := fun h => by rw [← hfx]; rfl) (h := ?_)
       refine R.storeA A35 (h := ?_)
       refine .n0 ?_
       refine .inBlock ?_
       refine .region rfl ?_
       refine R.move (h := ?_)
       first | refine R.add (h := ?_) | refine R.addW (h := ?_)
       refine R.assign (h := ?_)
       refine .n0 ?_
       refine .inLoop ?_
       exact LGo.next _ (fun o h => by have := (hA o).1 h; omega) (by omega) (ih2 (k + 1, putQ r fx) ⟨by dsimp only; omega, putQ_ok hro hfo, hq⟩ (by dsimp only; omega)) (by repeat (first | exact trivial | refine ⟨rfl, ?_⟩)) ⟨rfl, rfl, rfl, trivial⟩
     ·
      rw [if_neg hc6] at hq
      refine .seq ?_
      refine .region rfl ?_
      first | refine R.field F89_0 (h := ?_) | refine R.fieldAt F89_0 (h := ?_)
      first | refine R.loadB O9 (h := ?_) | refine R.load1 O9 (h := ?_)
      refine R.callP (es := [_, _, _]) (fun _ => intR_P f.s 0 9223372036854775807 hfs) (h := ?_)
      rw [int_both]
      refine R.move (h := ?_)
      refine R.extract (h := ?_)
      refine R.extract (h := ?_)
      refine R.assign (h := ?_)
      refine R.assign (h := ?_)
      refine .n0 ?_
      refine .seq ?_
      refine .seq ?_
      refine .region rfl ?_
      refine R.move (h := ?_)
      refine R.bin (run_neq _ _ _ _ _ _) (h := ?_)
      refine R.move (h := ?_)
      first | refine R.field F89_1 (h := ?_) | refine R.fieldAt F89_1 (h := ?_)
      first | refine R.loadB O4 (h := ?_) | refine R.load1 O4 (h := ?_)
      refine R.or (h := ?_)
      refine R.move (h := ?_)
      refine R.move (h := ?_)
      refine R.convI Tryz.runUnderlying2 Tryz.runUnderlying28 (h := ?_)
      refine R.move (h := ?_)
      refine R.move (h := ?_)
      refine R.index I22 (hj := fun hg => ⟨by (simp at hg; omega), hx⟩) (h := ?_)
      first | refine R.field F30_3 (h := ?_) | refine R.fieldAt F30_3 (h := ?_)
      first | refine R.loadB O28 (h := ?_) | refine R.load1 O28 (h := ?_)
      refine R.bin (run_gtr _ _ _ _ _ _) (h := ?_)
      refine R.or (h := ?_)
      refine .n0 ?_
      refine LGo.ifb (ht := fun hc8 => ?_) (hf := fun hc8 => ?_)
      ·
       rw [if_pos hc8] at hq; rw [← hq] at e1; dsimp only at e1; rw [← e1]
       refine .seq ?_
       refine .region rfl ?_
       first | refine R.loadA A35 (h := ?_) | refine R.loadN A35 (h := ?_) | refine R.loadP A35 (h := ?_)
       refine R.storeA A35 (h := ?_)
       refine R.assign (h := ?_)
       refine .n0 ?_
       exact LGo.ret (ret_AT Tryz.results27 A35 hA hmd)
      ·
       rw [if_neg (by rw [hc8]; simp)] at hq
       obtain ⟨fx, hfx, hfo⟩ : ∃ fx : Fld, (⟨x.tag, (intW f.s 0 9223372036854775807).1, []⟩ : Fld) = fx ∧ (0 ≤ fx.num ∧ fx.num < 18446744073709551616 ∧ fx.txt.length ≤ 2000) := ⟨_, rfl, by dsimp only; omega, by dsimp only; omega, by simp⟩
       rw [hfx] at hq
       refine .skip ?_
       refine .region rfl ?_
       refine R.move (h := ?_)
       refine R.convI Tryz.runUnderlying2 Tryz.runUnderlying28 (h := ?_)
       first | refine R.field F78_1 (h := ?_) | refine R.fieldAt F78_1 (h := ?_)
       refine R.storeB O28 (h := ?_)
       refine .n0 ?_
       refine .region rfl ?_
       first | refine R.loadA A35 (h := ?_) | refine R.loadN A35 (h := ?_) | refine R.loadP A35 (h := ?_)
       first | refine R.loadA A78 (h := ?_) | refine R.loadN A78 (h := ?_) | refine R.loadP A78 (h := ?_)
       refine R.callP (es := [_, _]) (fun _ => withQ_P r fx) (hes := fun h => by rw [← hfx]; rfl) (h := ?_)
       refine R.storeA A35 (h := ?_)
       refine .n0 ?_
       refine .inBlock ?_
       refine .region rfl ?_
       refine R.move (h := ?_)
       first | refine R.add (h := ?_) | refine R.addW (h := ?_)
       refine R.assign (h := ?_)
       refine .n0 ?_
       refine .inLoop ?_
       exact LGo.next _ (fun o h => by have := (hA o).1 h; omega) (by omega) (ih2 (k + 1, putQ r fx) ⟨by dsimp only; omega, putQ_ok hro hfo, hq⟩ (by dsimp only; omega)) (by repeat (first | exact trivial | refine ⟨rfl, ?_⟩)) ⟨rfl, rfl, rfl, trivial⟩
    ·
     rw [List.drop_eq_nil_of_le (show rs.length ≤ k by omega), readR] at hq
     rw [← hq] at e1
     dsimp only at e1
     refine .exit rfl ?_
     refine .seq ?_
     refine .seq ?_
     refine .region rfl ?_
     first | refine R.loadA A35 (h := ?_) | refine R.loadN A35 (h := ?_) | refine R.loadP A35 (h := ?_)
     refine R.callP (es := [_]) (fun _ => refCheckQ_P r hro) (h := ?_)
     refine R.bin (run_neq _ _ _ _ _ _) (h := ?_)
     refine .n0 ?_
     refine LGo.ifb (ht := fun hc9 => ?_) (hf := fun hc9 => ?_)
     ·
      rw [if_pos hc9] at e1; rw [← e1]
      refine .seq ?_
      refine .region rfl ?_
      first | refine R.loadA A35 (h := ?_) | refine R.loadN A35 (h := ?_) | refine R.loadP A35 (h := ?_)
      refine R.storeA A35 (h := ?_)
      refine R.assign (h := ?_)
      refine .n0 ?_
      exact LGo.ret (ret_AT Tryz.results27 A35 hA hmd)
     ·
      rw [if_neg (by rw [hc9]; simp)] at e1; rw [← e1]
      refine .skip ?_
      refine .seq ?_
      refine .region rfl ?_
      first | refine R.loadA A35 (h := ?_) | refine R.loadN A35 (h := ?_) | refine R.loadP A35 (h := ?_)
      refine R.storeA A35 (h := ?_)
      refine R.assign (h := ?_)
      refine .n0 ?_
      exact LGo.ret (ret_AT Tryz.results27 A35 hA hmd)

end Go.Proofs.YtckbomkcnmcdaaaGreatDoor
