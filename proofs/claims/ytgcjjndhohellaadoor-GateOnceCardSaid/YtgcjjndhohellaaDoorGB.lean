/- gates: keys, and how they are compared; the check of a state. -/
import Derived.Test.YtgcjjndhohellaaDoorGA
set_option linter.unusedSimpArgs false
set_option linter.unusedVariables false
namespace Go.Proofs.YtgcjjndhohellaaDoor

theorem icA' {q : IntKind} {l : List Int} {j : Nat} (h : j < l.length) : (ic q l)[((j : Nat) : Int).toNat]? = some [.val (.int q l[j])] := by
  rw [Int.toNat_natCast]; exact ic_get (List.getElem?_eq_getElem h)
def cmpL : List Int → List Int → Int
  | [], [] => 0
  | [], _ :: _ => -1
  | _ :: _, [] => 1
  | a :: l, b :: m => if cmpI a b = 0 then cmpL l m else cmpI a b
theorem cmpL_K (a b : K3) : cmpL [a.1, a.2.1, a.2.2] [b.1, b.2.1, b.2.2] = cmpK a b := by
  unfold cmpK
  simp only [cmpL]
  split
  · split
    · split
      · rename_i h; exact h.symm
      · rfl
    · rfl
  · rfl

theorem isNaN_P (n : Int) : PC Tryd.prog 94 [.u n] (.b false) := by
 refine ⟨LC.of_go Tryd.func94 (c := _) rfl (by kernel_rfl) (by rw [Tryd.ntmps94]; simp) rfl rfl (by simp [LO.lt, LV.lts, LV.lt, lts_sv]) (by simp) ?_⟩
 intro B hA hmd
 refine .seq ?_
 refine .region rfl ?_
 refine R.assign (h := ?_)
 refine .n0 ?_
 refine .seq ?_
 refine .region rfl ?_
 refine R.move (h := ?_)
 refine R.move (h := ?_)
 refine R.bin (run_neq _ _ _ _ _ _) (h := ?_)
 refine R.assign (h := ?_)
 refine .n0 ?_
 refine LGo.eqB 2 false (hb := by simp) (h := ?_)
 exact LGo.ret (ret_T Tryd.results94 hA hmd)

theorem cmpI_P (a b : Int) : PC Tryd.prog 75 [.u a, .u b] (.i (cmpI a b)) := by
 refine ⟨LC.of_go Tryd.func75 (c := _) rfl (by kernel_rfl) (by rw [Tryd.ntmps75]; simp) rfl rfl (by simp [LO.lt, LV.lts, LV.lt, lts_sv]) (by simp) ?_⟩
 intro B hA hmd
 obtain ⟨g, e0⟩ : ∃ g, cmpI a b = g := ⟨_, rfl⟩
 have e1 := e0
 unfold cmpI at e1
 rw [e0]
 refine .seq ?_
 refine .region rfl ?_
 refine R.assign (h := ?_)
 refine .n0 ?_
 refine .seq ?_
 refine .region rfl ?_
 refine R.move (h := ?_)
 refine R.callP (es := [_]) (fun _ => isNaN_P _) (h := ?_)
 refine R.assign (h := ?_)
 refine .n0 ?_
 refine .seq ?_
 refine .region rfl ?_
 refine R.move (h := ?_)
 refine R.callP (es := [_]) (fun _ => isNaN_P _) (h := ?_)
 refine R.assign (h := ?_)
 refine .n0 ?_
 refine .seq ?_
 refine .seq ?_
 refine .region rfl ?_
 refine R.move (h := ?_)
 refine .n0 ?_
 refine LGo.ifb (ht := fun hc => by simp at hc) (hf := fun hc => ?_)
 refine .skip ?_
 refine .seq ?_
 refine .seq ?_
 refine .region rfl ?_
 refine R.move (h := ?_)
 refine .n0 ?_
 refine LGo.ifb (ht := fun hc2 => by simp at hc2) (hf := fun hc2 => ?_)
 refine .skip ?_
 refine .seq ?_
 refine .seq ?_
 refine .region rfl ?_
 refine R.move (h := ?_)
 refine R.move (h := ?_)
 refine R.bin (run_lss _ _ _ _ _ _) (h := ?_)
 refine .n0 ?_
 refine LGo.ifd (ht := fun hc3 => ?_) (hf := fun hc3 => ?_)
 ·
  rw [if_pos hc3] at e1
  refine .seq ?_
  refine .region rfl ?_
  refine R.assign (h := ?_)
  refine .n0 ?_
  rw [← e1]
  exact LGo.ret (ret_T Tryd.results75 hA hmd)
 ·
  rw [if_neg hc3] at e1
  refine .skip ?_
  refine .seq ?_
  refine .seq ?_
  refine .region rfl ?_
  refine R.move (h := ?_)
  refine R.move (h := ?_)
  refine R.bin (run_gtr _ _ _ _ _ _) (h := ?_)
  refine .n0 ?_
  refine LGo.ifd (ht := fun hc4 => ?_) (hf := fun hc4 => ?_)
  ·
   rw [if_pos hc4] at e1
   refine .seq ?_
   refine .region rfl ?_
   refine R.assign (h := ?_)
   refine .n0 ?_
   rw [← e1]
   exact LGo.ret (ret_T Tryd.results75 hA hmd)
  ·
   rw [if_neg hc4] at e1
   refine .skip ?_
   refine .seq ?_
   refine .region rfl ?_
   refine R.assign (h := ?_)
   refine .n0 ?_
   rw [← e1]
   exact LGo.ret (ret_T Tryd.results75 hA hmd)

theorem cmpL_P (l m : List Int) (hl : l.length ≤ 1000) (hm : m.length ≤ 1000) : PC Tryd.prog 58 [.sv (.sl 1 (ic .u64 l)), .sv (.sl 1 (ic .u64 m))] (.i (cmpL l m)) := by
 refine ⟨LC.of_go Tryd.func58 (c := _) rfl (by kernel_rfl) (by rw [Tryd.ntmps58]; simp) rfl rfl (by simp [LO.lt, LV.lts, LV.lt, lts_sv]) (by simp) ?_⟩
 intro B hA hmd
 obtain ⟨g, e1⟩ : ∃ g, cmpL l m = g := ⟨_, rfl⟩
 rw [e1]
 refine .seq ?_
 refine .region rfl ?_
 refine R.assign (h := ?_)
 refine .n0 ?_
 refine .seq ?_
 refine .seq ?_
 refine .region rfl ?_
 refine R.move (h := ?_)
 first | refine R.len S88 (h := ?_) | refine R.lenRs S88 (h := ?_) | refine R.lenV (run_lenNil S88) (h := ?_)
 rw [ic_len]
 refine R.move (h := ?_)
 refine .n0 ?_
 refine .block ?_
 refine .loop ?_
 refine LGo.loopG (σ := Nat) (fun x => x ≤ l.length ∧ x ≤ m.length ∧ cmpL (l.drop x) (m.drop x) = g) (fun x => [(11, (true, .i (x : Nat)))]) (fun x => []) (fun x => l.length - x) (0) [(0, _), (1, _), (9, _), (10, _)] ⟨Nat.zero_le _, Nat.zero_le _, e1⟩ (by repeat (first | exact trivial | refine ⟨rfl, ?_⟩)) (by repeat (first | exact trivial | refine ⟨rfl, ?_⟩)) (by repeat (first | exact trivial | refine ⟨rfl, ?_⟩)) ?_
 rintro k ⟨hk, hkm, hq⟩ ih
 refine .seq ?_
 refine .region rfl ?_
 refine R.bin (run_lss _ _ _ _ _ _) (h := ?_)
 refine .n0 ?_
 refine .seq ?_
 refine LGo.ifd (ht := fun hc => ?_) (hf := fun hc => ?_)
 ·
  have hlt : k < l.length := by omega
  have hx := icA' (q := .u64) hlt
  have hd : l.drop k = l[k] :: l.drop (k + 1) := List.drop_eq_getElem_cons hlt
  rw [hd] at hq
  generalize l[k] = p at hx hq
  clear hd
  refine .skip ?_
  refine .seq ?_
  refine .block ?_
  refine .seq ?_
  refine .region rfl ?_
  refine R.move (h := ?_)
  refine R.index I88 (hj := fun hg => ⟨by omega, hx⟩) (h := ?_)
  first | refine R.loadB O27 (h := ?_) | refine R.load1 O27 (h := ?_)
  refine R.assign (h := ?_)
  refine R.assign (h := ?_)
  refine .n0 ?_
  refine .seq ?_
  refine .seq ?_
  refine .region rfl ?_
  refine R.move (h := ?_)
  refine R.move (h := ?_)
  first | refine R.len S88 (h := ?_) | refine R.lenRs S88 (h := ?_) | refine R.lenV (run_lenNil S88) (h := ?_)
  rw [ic_len]
  refine R.bin (run_geq _ _ _ _ _ _) (h := ?_)
  refine .n0 ?_
  refine LGo.ifd (ht := fun hc2 => ?_) (hf := fun hc2 => ?_)
  ·
   rw [List.drop_eq_nil_of_le (show m.length ≤ k by omega), cmpL] at hq
   rw [← hq]
   refine .seq ?_
   refine .region rfl ?_
   refine R.assign (h := ?_)
   refine .n0 ?_
   exact LGo.ret (ret_T Tryd.results58 hA hmd)
  ·
   have hlt2 : k < m.length := by omega
   have hy := icA' (q := .u64) hlt2
   have hd : m.drop k = m[k] :: m.drop (k + 1) := List.drop_eq_getElem_cons hlt2
   rw [hd, cmpL] at hq
   generalize m[k] = q at hy hq
   clear hd
   refine .skip ?_
   refine .seq ?_
   refine .region rfl ?_
   refine R.move (h := ?_)
   refine R.move (h := ?_)
   refine R.index I88 (hj := fun hg => ⟨by omega, hy⟩) (h := ?_)
   first | refine R.loadB O27 (h := ?_) | refine R.load1 O27 (h := ?_)
   refine R.assign (h := ?_)
   refine .n0 ?_
   refine .seq ?_
   refine .region rfl ?_
   refine R.move (h := ?_)
   refine R.move (h := ?_)
   refine R.callP (es := [_, _]) (fun _ => cmpI_P p q) (h := ?_)
   refine R.assign (h := ?_)
   refine .n0 ?_
   refine .seq ?_
   refine .region rfl ?_
   refine R.move (h := ?_)
   refine R.bin (run_neq _ _ _ _ _ _) (h := ?_)
   refine .n0 ?_
   refine LGo.ifb (ht := fun hc3 => ?_) (hf := fun hc3 => ?_)
   ·
    rw [if_neg (by simpa using hc3)] at hq
    rw [← hq]
    refine .seq ?_
    refine .region rfl ?_
    refine R.move (h := ?_)
    refine R.assign (h := ?_)
    refine .n0 ?_
    exact LGo.ret (ret_T Tryd.results58 hA hmd)
   ·
    rw [if_pos (by simpa using hc3)] at hq
    refine .skip ?_
    refine .inBlock ?_
    refine .region rfl ?_
    first | refine R.add (h := ?_) | refine R.addW (h := ?_)
    refine R.move (h := ?_)
    refine .n0 ?_
    refine .inLoop ?_
    exact LGo.next _ (fun o h => by have := (hA o).1 h; omega) (by omega) (ih (k + 1) ⟨by omega, by omega, hq⟩ (by omega)) (by repeat (first | exact trivial | refine ⟨rfl, ?_⟩)) (by repeat (first | exact trivial | refine ⟨rfl, ?_⟩))
 ·
  rw [List.drop_eq_nil_of_le (show l.length ≤ k by omega)] at hq
  refine .exit rfl ?_
  refine .seq ?_
  refine .seq ?_
  refine .region rfl ?_
  refine R.move (h := ?_)
  first | refine R.len S88 (h := ?_) | refine R.lenRs S88 (h := ?_) | refine R.lenV (run_lenNil S88) (h := ?_)
  rw [ic_len]
  refine R.move (h := ?_)
  first | refine R.len S88 (h := ?_) | refine R.lenRs S88 (h := ?_) | refine R.lenV (run_lenNil S88) (h := ?_)
  rw [ic_len]
  refine R.bin (run_lss _ _ _ _ _ _) (h := ?_)
  refine .n0 ?_
  refine LGo.ifd (ht := fun hc4 => ?_) (hf := fun hc4 => ?_)
  ·
   have hd : m.drop k = m[k] :: m.drop (k + 1) := List.drop_eq_getElem_cons (by omega)
   rw [hd, cmpL] at hq
   rw [← hq]
   refine .seq ?_
   refine .region rfl ?_
   refine R.assign (h := ?_)
   refine .n0 ?_
   exact LGo.ret (ret_T Tryd.results58 hA hmd)
  ·
   rw [List.drop_eq_nil_of_le (show m.length ≤ k by omega), cmpL] at hq
   rw [← hq]
   refine .skip ?_
   refine .seq ?_
   refine .region rfl ?_
   refine R.assign (h := ?_)
   refine .n0 ?_
   exact LGo.ret (ret_T Tryd.results58 hA hmd)

theorem K3_len (k : K3) : (K3.v k).length = 3 := rfl
theorem cmpK_P' (a b : K3) : PC Tryd.prog 58 [.sv (.sl 1 (ic .u64 [a.1, a.2.1, a.2.2])), .sv (.sl 1 (ic .u64 [b.1, b.2.1, b.2.2]))] (.i (cmpK a b)) := by
  rw [← cmpL_K]
  exact cmpL_P _ _ (by simp) (by simp)
theorem keyOf_P (x : GtE) (hx0 : U32 x.seat) : PC Tryd.prog 39 [.agg (x.c.map LV.sv)] (.agg ((K3.v x.key).map LV.v)) := by
 refine ⟨LC.of_go Tryd.func39 (c := _) rfl (by kernel_rfl) (by rw [Tryd.ntmps39]; simp) rfl rfl (by simp [LO.lt, LV.lts, LV.lt, lts_sv]) (by simp) ?_⟩
 intro B hA hmd
 refine .seq ?_
 refine .region rfl ?_
 refine R.box (h := ?_)
 refine R.alloc Z69 (h := ?_)
 refine .n0 ?_
 refine .seq ?_
 refine .region rfl ?_
 first | refine R.field F40_0 (h := ?_) | refine R.fieldAt F40_0 (h := ?_)
 first | refine R.loadB O26 (h := ?_) | refine R.load1 O26 (h := ?_)
 unfold U32 at hx0
 refine R.convI Tryd.runUnderlying26 Tryd.runUnderlying27 (h := ?_)
 first | refine R.field F40_2 (h := ?_) | refine R.fieldAt F40_2 (h := ?_)
 first | refine R.loadB O27 (h := ?_) | refine R.load1 O27 (h := ?_)
 first | refine R.field F40_1 (h := ?_) | refine R.fieldAt F40_1 (h := ?_)
 first | refine R.loadB O27 (h := ?_) | refine R.load1 O27 (h := ?_)
 refine R.buildX BX69 (is := [0, 1, 2]) (xs := [_, _, _]) (es := [_, _, _]) (h := ?_)
 refine R.storeA A69 (h := ?_)
 refine .n0 ?_
 exact LGo.ret (ret_A Tryd.results39 A69 hA hmd)

theorem before_P (a b : K3) : PC Tryd.prog 38 [.agg ((K3.v a).map LV.v), .agg ((K3.v b).map LV.v)] (.i (cmpK a b)) := by
 refine ⟨LC.of_go Tryd.func38 (c := _) rfl (by kernel_rfl) (by rw [Tryd.ntmps38]; simp) rfl rfl (by simp [LO.lt, LV.lts, LV.lt, lts_sv]) (by simp) ?_⟩
 intro B hA hmd
 refine .seq ?_
 refine .region rfl ?_
 refine R.box (h := ?_)
 refine R.box (h := ?_)
 refine R.assign (h := ?_)
 refine .n0 ?_
 refine .seq ?_
 refine .region rfl ?_
 first | refine R.sliceArr AR69 (h := ?_) | refine R.sliceAt AR69 (h := ?_)
 first | refine R.sliceArr AR69 (h := ?_) | refine R.sliceAt AR69 (h := ?_)
 refine R.callV (rd := [(1, .box 69 ((K3.v b).map LV.v)), (0, .box 69 ((K3.v a).map LV.v))]) (es := [_, _]) (fun _ => cmpK_P' a b) (fun _ _ h => h) (h := ?_)
 refine R.assign (h := ?_)
 refine Reg.nil ⟨fun _ => ⟨mixedO, by rfl, by rfl⟩, ?_⟩
 exact LGo.ret (ret_T Tryd.results38 hA hmd)

end Go.Proofs.YtgcjjndhohellaaDoor
