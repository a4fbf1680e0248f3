/- Texts of this claim, merged (TE to TE); no condition. -/
import Derived.Test.YteccglgbkehdeaaGreatDoorPB6
/- scripts: the laws ScriptChecks, ScriptShrinks (walks). -/
set_option linter.unusedSimpArgs false
set_option linter.unusedVariables false
namespace Go.Proofs.YteccglgbkehdeaaGreatDoor

theorem Sc.near.sm2 {s : Sc} (hn : s.near) : s.sm2 :=
  ⟨by have := hn.vl; omega, fun x hx => by have := (hn.vs x hx).2; omega, by have := hn.gl; omega, fun x hx => by have := hn.gs x hx; omega, by have := hn.cl; omega, by have := hn.el; omega⟩
theorem Sc.sm2.evs {s : Sc} (h : s.sm2) (l : List SrE) (hl : l.length ≤ 100000) : ({ s with evs := l } : Sc).sm2 := ⟨h.vl, h.vr, h.gl, h.gs, h.cl, hl⟩
theorem zero_sm2 : scZero.sm2 := ⟨Nat.zero_le _, fun _ h => (by cases h), Nat.zero_le _, fun _ h => (by cases h), Nat.zero_le _, Nat.zero_le _⟩
theorem left_le (l : List SrE) (a b : Nat) : (leftS l a b).length ≤ l.length := (leftS_sub l a b).length_le
theorem cut_sm2 {s : Sc} (h : s.sm2) (fr n : Int) : (cutS s fr n).1.sm2 := by
  unfold cutS
  split
  · exact zero_sm2
  · split
    · exact zero_sm2
    · exact h.evs _ (by have := left_le s.evs fr.toNat n.toNat; have := h.el; omega)
theorem shrink_sm2 {s : Sc} (h : s.sm2) (pf : List SrE → Bool) (most : Int) : (shrinkS pf s most).1.sm2 := by
  by_cases h0 : (shrinkS pf s most).2.2 = 0
  · obtain ⟨_, h2, h3⟩ := shrink_ok h0
    rw [h2]
    exact h.evs _ (by have := h3.sub.length_le; have := h.el; dsimp only at *; omega)
  · have : (shrinkS pf s most).1 = scZero := by
      unfold shrinkS at h0 ⊢
      split
      · rfl
      · rename_i h1
        rw [if_neg h1] at h0
        split
        · rfl
        · rename_i h2
          rw [if_neg h2] at h0
          split
          · rfl
          · rename_i h3; rw [if_neg h3] at h0; exact absurd rfl h0
    rw [this]; exact zero_sm2
theorem sameRT {a : Sc} (h : a.sm2) : PC Tryz.prog 17 [.agg (a.c.map LV.sv), .agg (a.c.map LV.sv)] (.b true) := by
  have := sameR_P a a h h
  rwa [decide_eq_true rfl] at this
theorem intsT {a : List Int} (h : a.length ≤ 100000) : PC Tryz.prog 33 [.sv (.sl 1 (ic .i64 a)), .sv (.sl 1 (ic .i64 a))] (.b true) := by
  have := ints_P a a h h
  rwa [decide_eq_true rfl] at this
theorem calls_len (s : Sc) : (callsS s).1.length ≤ s.evs.length := by
  unfold callsS
  split
  · exact Nat.zero_le _
  · exact sends_len _

theorem checks_W (s : Sc) (hok : s.ok) (fr n : Int) (hf : R64 fr) (hnn : R64 n) : PC Tryz.prog 7 [.agg (s.c.map LV.sv), .i fr, .i n] (.b true) := by
 refine ⟨LC.of_go Tryz.func7 (c := _) rfl (by kernel_rfl) (by rw [Tryz.ntmps7]; simp) rfl rfl (by simp [LO.lt, LV.lts, LV.lt, lts_sv]) (by simp) ?_⟩
 intro B hA hmd
 refine .seq ?_
 refine .region rfl ?_
 refine R.box (h := ?_)
 refine R.assign (h := ?_)
 refine .n0 ?_
 refine .seq ?_
 refine .seq ?_
 refine .region rfl ?_
 first | refine R.loadA A29 (h := ?_) | refine R.loadN A29 (h := ?_) | refine R.loadP A29 (h := ?_)
 refine R.callP (es := [_]) (fun _ => far_P s hok) (h := ?_)
 refine .n0 ?_
 refine LGo.ifb (ht := fun hc => ?_) (hf := fun hc => ?_)
 ·
  refine .seq ?_
  refine .region rfl ?_
  refine R.callP (es := []) (fun _ => awake_P) (h := ?_)
  refine R.assign (h := ?_)
  refine .n0 ?_
  exact LGo.ret (ret_T Tryz.results7 hA hmd)
 ·
  have hn := far_near hc
  have hs := hok.sm hn
  have h2 := hn.sm2
  refine .skip ?_
  refine .seq ?_
  refine .region rfl ?_
  first | refine R.loadA A29 (h := ?_) | refine R.loadN A29 (h := ?_) | refine R.loadP A29 (h := ?_)
  refine R.callP (es := [_]) (fun _ => checkS_P s hs) (h := ?_)
  refine R.move (h := ?_)
  refine R.extract (h := ?_)
  refine R.extract (h := ?_)
  refine R.assign (h := ?_)
  refine R.assign (h := ?_)
  refine .n0 ?_
  refine .seq ?_
  refine .region rfl ?_
  first | refine R.loadA A29 (h := ?_) | refine R.loadN A29 (h := ?_) | refine R.loadP A29 (h := ?_)
  refine R.callP (es := [_]) (fun _ => checkR_P s hs) (h := ?_)
  refine R.move (h := ?_)
  refine R.extract (h := ?_)
  refine R.extract (h := ?_)
  refine R.assign (h := ?_)
  refine R.assign (h := ?_)
  refine .n0 ?_
  refine .seq ?_
  refine .region rfl ?_
  first | refine R.loadA A29 (h := ?_) | refine R.loadN A29 (h := ?_) | refine R.loadP A29 (h := ?_)
  refine R.callP (es := [_]) (fun _ => sizeS_P s hs) (h := ?_)
  refine R.move (h := ?_)
  refine R.extract (h := ?_)
  refine R.extract (h := ?_)
  refine R.alloc Z62 (h := ?_)
  refine R.storeA A62 (h := ?_)
  refine R.assign (h := ?_)
  refine .n0 ?_
  refine .seq ?_
  refine .region rfl ?_
  first | refine R.loadA A29 (h := ?_) | refine R.loadN A29 (h := ?_) | refine R.loadP A29 (h := ?_)
  refine R.callP (es := [_]) (fun _ => sizeR_P s hs) (h := ?_)
  refine R.move (h := ?_)
  refine R.extract (h := ?_)
  refine R.extract (h := ?_)
  refine R.alloc Z62 (h := ?_)
  refine R.storeA A62 (h := ?_)
  refine R.assign (h := ?_)
  refine .n0 ?_
  refine .seq ?_
  refine .seq ?_
  refine .region rfl ?_
  refine R.move (h := ?_)
  refine R.move (h := ?_)
  refine R.bin (run_neqT _ _ _ _ _) (h := ?_)
  refine R.move (h := ?_)
  refine R.move (h := ?_)
  refine R.move (h := ?_)
  refine R.bin (run_neq _ _ _ _ _ _) (h := ?_)
  refine R.or (h := ?_)
  refine R.move (h := ?_)
  first | refine R.loadA A62 (h := ?_) | refine R.loadN A62 (h := ?_) | refine R.loadP A62 (h := ?_)
  first | refine R.loadA A62 (h := ?_) | refine R.loadN A62 (h := ?_) | refine R.loadP A62 (h := ?_)
  refine R.binA (NE62 _ _ _ _ _ _ _ _ _ _) (h := ?_)
  refine R.or (h := ?_)
  refine R.move (h := ?_)
  refine R.move (h := ?_)
  refine R.move (h := ?_)
  refine R.bin (run_neq _ _ _ _ _ _) (h := ?_)
  refine R.or (h := ?_)
  refine .n0 ?_
  refine LGo.eqB 59 false (hb := by simp) (h := ?_)
  refine LGo.ifb (ht := fun hc2 => by simp at hc2) (hf := fun hc2 => ?_)
  refine .skip ?_
  refine .seq ?_
  refine .region rfl ?_
  first | refine R.loadA A29 (h := ?_) | refine R.loadN A29 (h := ?_) | refine R.loadP A29 (h := ?_)
  refine R.callP (es := [_]) (fun _ => callsS_P s hs) (h := ?_)
  refine R.move (h := ?_)
  refine R.extract (h := ?_)
  refine R.extract (h := ?_)
  refine R.assign (h := ?_)
  refine R.assign (h := ?_)
  refine .n0 ?_
  refine .seq ?_
  refine .region rfl ?_
  first | refine R.loadA A29 (h := ?_) | refine R.loadN A29 (h := ?_) | refine R.loadP A29 (h := ?_)
  refine R.callP (es := [_]) (fun _ => callsR_P s hs) (h := ?_)
  refine R.move (h := ?_)
  refine R.extract (h := ?_)
  refine R.extract (h := ?_)
  refine R.assign (h := ?_)
  refine R.assign (h := ?_)
  refine .n0 ?_
  refine .seq ?_
  refine .region rfl ?_
  first | refine R.loadA A29 (h := ?_) | refine R.loadN A29 (h := ?_) | refine R.loadP A29 (h := ?_)
  refine R.move (h := ?_)
  refine R.move (h := ?_)
  refine R.callP (es := [_, _, _]) (fun _ => cutS_P s hs hn.cp fr n hf hnn) (h := ?_)
  refine R.move (h := ?_)
  refine R.extract (h := ?_)
  refine R.extract (h := ?_)
  refine R.alloc Z29 (h := ?_)
  refine R.storeA A29 (h := ?_)
  refine R.assign (h := ?_)
  refine .n0 ?_
  refine .seq ?_
  refine .region rfl ?_
  first | refine R.loadA A29 (h := ?_) | refine R.loadN A29 (h := ?_) | refine R.loadP A29 (h := ?_)
  refine R.move (h := ?_)
  refine R.move (h := ?_)
  refine R.callP (es := [_, _, _]) (fun _ => cutRR_P s hs fr n hf hnn) (h := ?_)
  refine R.move (h := ?_)
  refine R.extract (h := ?_)
  refine R.extract (h := ?_)
  refine R.alloc Z29 (h := ?_)
  refine R.storeA A29 (h := ?_)
  refine R.assign (h := ?_)
  refine .n0 ?_
  refine .seq ?_
  refine .region rfl ?_
  refine R.move (h := ?_)
  refine R.move (h := ?_)
  refine R.callP (es := [_, _]) (fun _ => intsT (a := (callsS s).1) (by have := calls_len s; have := h2.el; omega)) (h := ?_)
  refine R.move (h := ?_)
  refine R.move (h := ?_)
  refine R.move (h := ?_)
  refine R.bin (run_eql _ _ _ _ _ _) (h := ?_)
  refine R.and (h := ?_)
  refine R.move (h := ?_)
  refine R.move (h := ?_)
  refine R.move (h := ?_)
  refine R.bin (run_eql _ _ _ _ _ _) (h := ?_)
  refine R.and (h := ?_)
  refine R.move (h := ?_)
  first | refine R.loadA A29 (h := ?_) | refine R.loadN A29 (h := ?_) | refine R.loadP A29 (h := ?_)
  first | refine R.loadA A29 (h := ?_) | refine R.loadN A29 (h := ?_) | refine R.loadP A29 (h := ?_)
  refine R.callP (es := [_, _]) (fun _ => sameRT (cut_sm2 h2 fr n)) (h := ?_)
  refine R.and (h := ?_)
  refine R.move (h := ?_)
  refine R.callP (es := []) (fun _ => awake_P) (h := ?_)
  refine R.and (h := ?_)
  refine R.assign (h := ?_)
  refine .n0 ?_
  refine LGo.eqB 6 true (hb := by simp) (h := ?_)
  exact LGo.ret (ret_T Tryz.results7 hA hmd)

theorem shrinkN_P (s : Sc) (hs : s.sm) (most : Int) : PC Tryz.prog 22 [.agg (s.c.map LV.sv), .v .nilFunc, .i most] (.tup [.agg (scZero.c.map LV.sv), .i 0, .i (if (checkS s).2 ≠ 0 then (checkS s).2 else 1)]) := by
 refine ⟨LC.of_go Tryz.func22 (c := _) rfl (by kernel_rfl) (by rw [Tryz.ntmps22]; simp) rfl rfl (by simp [LO.lt, LV.lts, LV.lt, lts_sv]) (by simp) ?_⟩
 intro B hA hmd
 refine .seq ?_
 refine .region rfl ?_
 refine R.box (h := ?_)
 refine R.box (h := ?_)
 refine R.box (h := ?_)
 refine R.alloc Z29 (h := ?_)
 refine R.alloc Z3 (h := ?_)
 refine R.assign (h := ?_)
 refine .n0 ?_
 refine .seq ?_
 refine .region rfl ?_
 first | refine R.loadA A29 (h := ?_) | refine R.loadN A29 (h := ?_) | refine R.loadP A29 (h := ?_)
 refine R.callP (es := [_]) (fun _ => checkS_P s hs) (h := ?_)
 refine R.move (h := ?_)
 refine R.extract (h := ?_)
 refine R.extract (h := ?_)
 refine R.assign (h := ?_)
 refine .n0 ?_
 refine .seq ?_
 refine .block ?_
 refine .seq ?_
 refine .region rfl ?_
 refine R.move (h := ?_)
 refine R.bin (run_neq _ _ _ _ _ _) (h := ?_)
 refine R.assign (h := ?_)
 refine .n0 ?_
 refine LGo.ifb (ht := fun hc => ?_) (hf := fun hc => ?_)
 ·
  rw [if_pos (by simpa using hc)]
  refine .seq ?_
  refine .region rfl ?_
  first | refine R.loadA A29 (h := ?_) | refine R.loadN A29 (h := ?_) | refine R.loadP A29 (h := ?_)
  refine R.move (h := ?_)
  refine R.storeA A29 (h := ?_)
  refine R.storeB O3 (h := ?_)
  refine R.assign (h := ?_)
  refine .n0 ?_
  refine LGo.packNil 3 3 80 3 (h := ?_)
  refine LGo.frzBx 3 (h := ?_)
  refine LGo.packNil 3 5 71 3 (h := ?_)
  refine LGo.frzBx 3 (h := ?_)
  refine LGo.packNil 3 7 40 11 (h := ?_)
  refine LGo.frzBx 3 (h := ?_)
  refine LGo.packNil 3 8 58 3 (h := ?_)
  refine LGo.frzBx 3 (h := ?_)
  exact LGo.ret (ret_ABT Tryz.results22 A29 O3 hA hmd)
 ·
  rw [if_neg (by simpa using hc)]
  refine .seq ?_
  refine .region rfl ?_
  first | refine R.loadB O30 (h := ?_) | refine R.load1 O30 (h := ?_)
  refine R.fnT (hT := Tryz.underlying30) (h := ?_)
  refine R.assign (h := ?_)
  refine .n0 ?_
  refine LGo.ifb (ht := fun hc2 => ?_) (hf := fun hc2 => by simp at hc2)
  refine .seq ?_
  refine .region rfl ?_
  first | refine R.loadA A29 (h := ?_) | refine R.loadN A29 (h := ?_) | refine R.loadP A29 (h := ?_)
  refine R.storeA A29 (h := ?_)
  refine R.storeB O3 (h := ?_)
  refine R.assign (h := ?_)
  refine .n0 ?_
  refine LGo.packNil 3 3 80 3 (h := ?_)
  refine LGo.frzBx 3 (h := ?_)
  refine LGo.packNil 3 5 71 3 (h := ?_)
  refine LGo.frzBx 3 (h := ?_)
  refine LGo.packNil 3 7 40 11 (h := ?_)
  refine LGo.frzBx 3 (h := ?_)
  refine LGo.packNil 3 8 58 3 (h := ?_)
  refine LGo.frzBx 3 (h := ?_)
  exact LGo.ret (ret_ABT Tryz.results22 A29 O3 hA hmd)

theorem fault_hff {s : Sc} {ks : List UInt8} (hks : ks.length ≤ 100000) (least : Int) : (checkS s).2 = 0 → ∀ es : List SrE, es.Sublist s.evs → PC Tryz.prog 23 ([.agg [.sv (.sl 1 (bytesC ks)), .i least]] ++ [.agg ((Sc.c { s with evs := es }).map LV.sv)]) (.b (failsP ks least es)) := fun h es he => by
  obtain ⟨_, hel, hev⟩ := check_facts h
  exact fault_P { s with evs := es } (by have := he.length_le; dsimp only; omega) (fun y hy hk => by have := evE_0 (hev y (he.subset hy)); omega) ks hks least

theorem shrinks_W (s : Sc) (hok : s.ok) (ks : List UInt8) (hkl : ks.length ≤ maxLen) (least most : Int) (hm : R64 most) : PC Tryz.prog 5 [.agg (s.c.map LV.sv), .agg [.sv (.sl 1 (bytesC ks)), .i least], .i most] (.b true) := by
 refine ⟨LC.of_go Tryz.func5 (c := _) rfl (by kernel_rfl) (by rw [Tryz.ntmps5]; simp) rfl rfl (by simp [LO.lt, LV.lts, LV.lt, lts_sv]) (by simp) ?_⟩
 intro B hA hmd
 unfold maxLen at hkl
 refine .seq ?_
 refine .region rfl ?_
 refine R.box (h := ?_)
 refine R.box (h := ?_)
 refine R.assign (h := ?_)
 refine .n0 ?_
 refine .seq ?_
 refine .seq ?_
 refine .region rfl ?_
 first | refine R.loadA A29 (h := ?_) | refine R.loadN A29 (h := ?_) | refine R.loadP A29 (h := ?_)
 refine R.callP (es := [_]) (fun _ => far_P s hok) (h := ?_)
 refine R.move (h := ?_)
 first | refine R.field F53_0 (h := ?_) | refine R.fieldAt F53_0 (h := ?_)
 first | refine R.loadB O44 (h := ?_) | refine R.load1 O44 (h := ?_)
 first | refine R.len S44 (h := ?_) | refine R.lenRs S44 (h := ?_) | refine R.lenV (run_lenNil S44) (h := ?_)
 rw [bytesC_length]
 refine R.bin (run_gtr _ _ _ _ _ _) (h := ?_)
 refine R.or (h := ?_)
 refine .n0 ?_
 refine LGo.ifb (ht := fun hc => ?_) (hf := fun hc => ?_)
 ·
  refine .seq ?_
  refine .region rfl ?_
  refine R.callP (es := []) (fun _ => awake_P) (h := ?_)
  refine R.assign (h := ?_)
  refine .n0 ?_
  exact LGo.ret (ret_T Tryz.results5 hA hmd)
 ·
  simp only [Bool.or_eq_false_iff, decide_eq_false_iff_not] at hc
  obtain ⟨hc, hc20⟩ := hc
  have hks : ks.length ≤ 100000 := by omega
  have hn := far_near hc
  have hs := hok.sm hn
  have h2 := hn.sm2
  refine .skip ?_
  refine .seq ?_
  refine .region rfl ?_
  first | refine R.loadA A29 (h := ?_) | refine R.loadN A29 (h := ?_) | refine R.loadP A29 (h := ?_)
  first | refine R.loadA A53 (h := ?_) | refine R.loadN A53 (h := ?_) | refine R.loadP A53 (h := ?_)
  refine R.makeFunc (es := [_]) (fs := []) (h := ?_)
  refine R.move (h := ?_)
  refine R.callP (es := [_, _, _]) (fun _ => shrink_P s hs hn.cp ks least (ff := 23) (pf := failsP ks least) (fault_hff hks least) most hm) (h := ?_)
  refine R.move (h := ?_)
  refine R.extract (h := ?_)
  refine R.extract (h := ?_)
  refine R.extract (h := ?_)
  refine R.alloc Z29 (h := ?_)
  refine R.storeA A29 (h := ?_)
  refine R.assign (h := ?_)
  refine R.assign (h := ?_)
  refine .n0 ?_
  refine .seq ?_
  refine .region rfl ?_
  first | refine R.loadA A29 (h := ?_) | refine R.loadN A29 (h := ?_) | refine R.loadP A29 (h := ?_)
  first | refine R.field F53_0 (h := ?_) | refine R.fieldAt F53_0 (h := ?_)
  first | refine R.loadB O44 (h := ?_) | refine R.load1 O44 (h := ?_)
  first | refine R.field F53_1 (h := ?_) | refine R.fieldAt F53_1 (h := ?_)
  first | refine R.loadB O2 (h := ?_) | refine R.load1 O2 (h := ?_)
  refine R.move (h := ?_)
  refine R.callP (es := [_, _, _, _]) (fun _ => shrinkR_P s hs ks hks least most hm) (h := ?_)
  refine R.move (h := ?_)
  refine R.extract (h := ?_)
  refine R.extract (h := ?_)
  refine R.extract (h := ?_)
  refine R.alloc Z29 (h := ?_)
  refine R.storeA A29 (h := ?_)
  refine R.assign (h := ?_)
  refine R.assign (h := ?_)
  refine .n0 ?_
  refine .seq ?_
  refine .seq ?_
  refine .region rfl ?_
  refine R.move (h := ?_)
  refine R.move (h := ?_)
  refine R.bin (run_neq _ _ _ _ _ _) (h := ?_)
  refine R.move (h := ?_)
  refine R.move (h := ?_)
  refine R.move (h := ?_)
  refine R.bin (run_neq _ _ _ _ _ _) (h := ?_)
  refine R.or (h := ?_)
  refine R.move (h := ?_)
  first | refine R.loadA A29 (h := ?_) | refine R.loadN A29 (h := ?_) | refine R.loadP A29 (h := ?_)
  first | refine R.loadA A29 (h := ?_) | refine R.loadN A29 (h := ?_) | refine R.loadP A29 (h := ?_)
  refine R.callP (es := [_, _]) (fun _ => sameRT (shrink_sm2 h2 (failsP ks least) most)) (h := ?_)
  refine R.not (h := ?_)
  refine R.or (h := ?_)
  refine .n0 ?_
  refine LGo.eqB 57 false (hb := by simp) (h := ?_)
  refine LGo.ifb (ht := fun hc2 => by simp at hc2) (hf := fun hc2 => ?_)
  refine .skip ?_
  refine .seq ?_
  refine .region rfl ?_
  first | refine R.loadA A29 (h := ?_) | refine R.loadN A29 (h := ?_) | refine R.loadP A29 (h := ?_)
  refine R.move (h := ?_)
  refine R.callP (es := [_, _, _]) (fun _ => shrinkN_P s hs most) (h := ?_)
  refine R.move (h := ?_)
  refine R.extract (h := ?_)
  refine R.extract (h := ?_)
  refine R.extract (h := ?_)
  refine R.assign (h := ?_)
  refine R.assign (h := ?_)
  refine .n0 ?_
  refine .seq ?_
  refine .region rfl ?_
  first | refine R.loadA A29 (h := ?_) | refine R.loadN A29 (h := ?_) | refine R.loadP A29 (h := ?_)
  refine R.callP (es := [_]) (fun _ => checkR_P s hs) (h := ?_)
  refine R.move (h := ?_)
  refine R.extract (h := ?_)
  refine R.extract (h := ?_)
  refine R.assign (h := ?_)
  refine R.assign (h := ?_)
  refine .n0 ?_
  refine .seq ?_
  refine .seq ?_
  refine .region rfl ?_
  refine R.move (h := ?_)
  refine R.bin (run_eql _ _ _ _ _ _) (h := ?_)
  refine .n0 ?_
  refine LGo.ifd (ht := fun hc3 => ?_) (hf := fun hc3 => ?_)
  ·

   refine .region rfl ?_
   refine R.assign (h := ?_)
   refine .n0 ?_
   refine .seq ?_
   refine .region rfl ?_
   refine R.move (h := ?_)
   refine R.bin (run_eql _ _ _ _ _ _) (h := ?_)
   refine R.move (h := ?_)
   refine R.move (h := ?_)
   refine R.move (h := ?_)
   refine R.bin (run_eql _ _ _ _ _ _) (h := ?_)
   refine R.and (h := ?_)
   refine R.move (h := ?_)
   refine R.callP (es := []) (fun _ => awake_P) (h := ?_)
   refine R.and (h := ?_)
   refine R.assign (h := ?_)
   refine .n0 ?_
   refine LGo.eqB 6 true (hb := by simp [hc3]) (h := ?_)
   exact LGo.ret (ret_T Tryz.results5 hA hmd)
  ·

   refine .skip ?_
   refine .seq ?_
   refine .region rfl ?_
   refine R.move (h := ?_)
   refine R.bin (run_eql _ _ _ _ _ _) (h := ?_)
   refine R.move (h := ?_)
   refine R.move (h := ?_)
   refine R.move (h := ?_)
   refine R.bin (run_eql _ _ _ _ _ _) (h := ?_)
   refine R.and (h := ?_)
   refine R.move (h := ?_)
   refine R.callP (es := []) (fun _ => awake_P) (h := ?_)
   refine R.and (h := ?_)
   refine R.assign (h := ?_)
   refine .n0 ?_
   refine LGo.eqB 6 true (hb := by simp [hc3]) (h := ?_)
   exact LGo.ret (ret_T Tryz.results5 hA hmd)

end Go.Proofs.YteccglgbkehdeaaGreatDoor
