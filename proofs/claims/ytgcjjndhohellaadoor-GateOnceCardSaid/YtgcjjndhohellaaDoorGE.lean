/- gates: the check of a state, New. -/
import Derived.Test.YtgcjjndhohellaaDoorGD
set_option linter.unusedSimpArgs false
set_option linter.unusedVariables false
namespace Go.Proofs.YtgcjjndhohellaaDoor

def prevE (l : List GtE) (k : Nat) : Option GtE := if k = 0 then none else some (l.getD (k - 1) default)
theorem prevE_succ {l : List GtE} {k : Nat} (h : k < l.length) : prevE l (k + 1) = some l[k] := by unfold prevE; rw [if_neg (by omega)]; simp [h]
theorem bad_prev (gs : List GtG) (l : List GtE) (k : Nat) (x : GtE) : badE gs (prevE l k) x = (((decide (x.gate < 0) || decide (x.gate ≥ gs.length)) || !decide (openI (gs.getD x.gate.toNat default) x.time = 0)) || (decide ((k : Int) > 0) && decide (cmpK (l.getD (k - 1) default).key x.key ≥ 0))) := by
  unfold badE prevE
  by_cases h : k = 0
  · subst h; simp
  · rw [if_neg h]
    simp only [show ((k : Int) > 0) from by omega, decide_true, Bool.true_and]
theorem en_at {l : List GtE} {k : Nat} (h : 0 < k) (hk : k ≤ l.length) : (l.map GtE.c)[((k : Int) - 1).toNat]? = some (l.getD (k - 1) default).c := by
  have hlt : k - 1 < l.length := by omega
  rw [show ((k : Int) - 1).toNat = k - 1 from by omega, List.getElem?_map, List.getElem?_eq_getElem hlt, List.getD_eq_getElem?_getD, List.getElem?_eq_getElem hlt]
  rfl
theorem gt_at {l : List GtG} {n : Int} (h0 : 0 ≤ n) (h : n < l.length) : (l.map GtG.c)[n.toNat]? = some (l.getD n.toNat default).c := by
  have hlt : n.toNat < l.length := by omega
  rw [List.getElem?_map, List.getElem?_eq_getElem hlt, List.getD_eq_getElem?_getD, List.getElem?_eq_getElem hlt]
  rfl
theorem seat_at {l : List GtE} (h : ∀ x ∈ l, U32 x.seat) (k : Nat) : U32 (l.getD k default).seat := by
  rw [List.getD_eq_getElem?_getD]
  by_cases hk : k < l.length
  · rw [List.getElem?_eq_getElem hk]; exact h _ (List.getElem_mem hk)
  · rw [List.getElem?_eq_none (by omega)]; unfold U32; decide

theorem checkGS_P (s : GtS) (hs : SmS s) : PC Tryd.prog 23 [.agg (s.c.map LV.sv)] (.i (checkGS s)) := by
 refine ⟨LC.of_go Tryd.func23 (c := _) rfl (by kernel_rfl) (by rw [Tryd.ntmps23]; simp) rfl rfl (by simp [LO.lt, LV.lts, LV.lt, lts_sv]) (by simp) ?_⟩
 intro B hA hmd
 obtain ⟨⟨hg1, hg2⟩, he1, he2⟩ := hs
 obtain ⟨g, e0⟩ : ∃ g, checkGS s = g := ⟨_, rfl⟩
 have e1 := e0
 unfold checkGS at e1
 rw [e0]
 refine .seq ?_
 refine .region rfl ?_
 refine R.box (h := ?_)
 refine R.assign (h := ?_)
 refine .n0 ?_
 refine .seq ?_
 refine .seq ?_
 refine .region rfl ?_
 first | refine R.field F25_0 (h := ?_) | refine R.fieldAt F25_0 (h := ?_)
 first | refine R.loadB O22 (h := ?_) | refine R.load1 O22 (h := ?_)
 refine R.callP (es := [_]) (fun _ => checkG_P s.gates hg1 hg2) (h := ?_)
 refine R.assign (h := ?_)
 refine .n0 ?_
 refine .seq ?_
 refine .region rfl ?_
 refine R.move (h := ?_)
 refine R.bin (run_neq _ _ _ _ _ _) (h := ?_)
 refine .n0 ?_
 refine LGo.ifb (ht := fun hc => ?_) (hf := fun hc => ?_)
 ·
  rw [if_pos (by simpa using hc)] at e1
  rw [← e1]
  refine .seq ?_
  refine .region rfl ?_
  refine R.move (h := ?_)
  refine R.assign (h := ?_)
  refine .n0 ?_
  exact LGo.ret (ret_T Tryd.results23 hA hmd)
 ·
  rw [if_neg (by simpa using hc)] at e1
  refine .skip ?_
  refine .seq ?_
  refine .seq ?_
  refine .region rfl ?_
  first | refine R.field F25_1 (h := ?_) | refine R.fieldAt F25_1 (h := ?_)
  first | refine R.loadB O23 (h := ?_) | refine R.load1 O23 (h := ?_)
  first | refine R.len S23 (h := ?_) | refine R.lenRs S23 (h := ?_) | refine R.lenV (run_lenNil S23) (h := ?_)
  rw [List.length_map]
  refine R.bin (run_gtr _ _ _ _ _ _) (h := ?_)
  refine .n0 ?_
  refine LGo.ifd (ht := fun hc2 => ?_) (hf := fun hc2 => ?_)
  ·
   rw [if_pos (by omega)] at e1
   rw [← e1]
   refine .seq ?_
   refine .region rfl ?_
   refine R.assign (h := ?_)
   refine .n0 ?_
   exact LGo.ret (ret_T Tryd.results23 hA hmd)
  ·
   rw [if_neg (by omega)] at e1
   refine .skip ?_
   refine .seq ?_
   refine .seq ?_
   refine .region rfl ?_
   first | refine R.field F25_1 (h := ?_) | refine R.fieldAt F25_1 (h := ?_)
   first | refine R.loadB O23 (h := ?_) | refine R.load1 O23 (h := ?_)
   first | refine R.len S23 (h := ?_) | refine R.lenRs S23 (h := ?_) | refine R.lenV (run_lenNil S23) (h := ?_)
   rw [List.length_map]
   refine R.move (h := ?_)
   refine .n0 ?_
   refine .block ?_
   refine .loop ?_
   refine LGo.loopG (σ := Nat) (fun x => x ≤ s.ents.length ∧ (if badGo s.gates (prevE s.ents x) (s.ents.drop x) = true then (6 : Int) else 0) = g) (fun x => [(19, (true, .i (x : Nat)))]) (fun x => [(0, .box 25 (s.c.map LV.sv))]) (fun x => s.ents.length - x) (0) [(1, _), (17, _), (18, _)] ⟨Nat.zero_le _, e1⟩ (by repeat (first | exact trivial | refine ⟨rfl, ?_⟩)) (by repeat (first | exact trivial | refine ⟨rfl, ?_⟩)) (by repeat (first | exact trivial | refine ⟨rfl, ?_⟩)) ?_
   rintro k ⟨hk, hq⟩ ih
   refine .seq ?_
   refine .region rfl ?_
   refine R.bin (run_lss _ _ _ _ _ _) (h := ?_)
   refine .n0 ?_
   refine .seq ?_
   refine LGo.ifd (ht := fun hc3 => ?_) (hf := fun hc3 => ?_)
   ·
    have hlt : k < s.ents.length := by omega
    have hx : (s.ents.map GtE.c)[((k : Nat) : Int).toNat]? = some s.ents[k].c := by simp [hlt]
    have hd : s.ents.drop k = s.ents[k] :: s.ents.drop (k + 1) := List.drop_eq_getElem_cons hlt
    have hxs := he2 s.ents[k] (List.getElem_mem hlt)
    have hpv := prevE_succ hlt
    rw [hd, badGo, bad_prev] at hq
    generalize s.ents[k] = x at hx hq hxs hpv
    clear hd
    refine .skip ?_
    refine .seq ?_
    refine .block ?_
    refine .seq ?_
    refine .region rfl ?_
    refine R.move (h := ?_)
    refine R.index I23 (hj := fun hg => ⟨by omega, hx⟩) (h := ?_)
    first | refine R.loadA A40 (h := ?_) | refine R.loadN A40 (h := ?_) | refine R.loadP A40 (h := ?_)
    refine R.alloc Z40 (h := ?_)
    refine R.assign (h := ?_)
    refine R.storeA A40 (h := ?_)
    refine .n0 ?_
    refine .seq ?_
    refine .region rfl ?_
    first | refine R.field F40_3 (h := ?_) | refine R.fieldAt F40_3 (h := ?_)
    first | refine R.loadB O3 (h := ?_) | refine R.load1 O3 (h := ?_)
    refine R.bin (run_lss _ _ _ _ _ _) (h := ?_)
    refine R.move (h := ?_)
    first | refine R.field F40_3 (h := ?_) | refine R.fieldAt F40_3 (h := ?_)
    first | refine R.loadB O3 (h := ?_) | refine R.load1 O3 (h := ?_)
    first | refine R.field F25_0 (h := ?_) | refine R.fieldAt F25_0 (h := ?_)
    first | refine R.loadB O22 (h := ?_) | refine R.load1 O22 (h := ?_)
    first | refine R.len S22 (h := ?_) | refine R.lenRs S22 (h := ?_) | refine R.lenV (run_lenNil S22) (h := ?_)
    rw [List.length_map]
    refine R.bin (run_geq _ _ _ _ _ _) (h := ?_)
    refine R.or (h := ?_)
    refine R.move (h := ?_)
    first | refine R.field F25_0 (h := ?_) | refine R.fieldAt F25_0 (h := ?_)
    first | refine R.loadB O22 (h := ?_) | refine R.load1 O22 (h := ?_)
    first | refine R.field F40_3 (h := ?_) | refine R.fieldAt F40_3 (h := ?_)
    first | refine R.loadB O3 (h := ?_) | refine R.load1 O3 (h := ?_)
    refine R.index I22 (hj := fun hg => ⟨by (simp at hg; omega), (by simp at hg; exact gt_at (by omega) (by omega))⟩) (h := ?_)
    first | refine R.loadA A59 (h := ?_) | refine R.loadN A59 (h := ?_) | refine R.loadP A59 (h := ?_)
    first | refine R.field F40_4 (h := ?_) | refine R.fieldAt F40_4 (h := ?_)
    first | refine R.loadB O2 (h := ?_) | refine R.load1 O2 (h := ?_)
    refine R.callP (es := [_, _]) (fun _ => open_P (s.gates.getD x.gate.toNat default) x.time) (h := ?_)
    refine R.bin (run_neq _ _ _ _ _ _) (h := ?_)
    refine R.or (h := ?_)
    refine R.move (h := ?_)
    refine R.move (h := ?_)
    refine R.bin (run_gtr _ _ _ _ _ _) (h := ?_)
    refine R.move (h := ?_)
    first | refine R.field F25_1 (h := ?_) | refine R.fieldAt F25_1 (h := ?_)
    first | refine R.loadB O23 (h := ?_) | refine R.load1 O23 (h := ?_)
    refine R.move (h := ?_)
    first | refine R.sub (h := ?_) | refine R.subW (h := ?_)
    refine R.index I23 (hj := fun hg => ⟨by (simp at hg; omega), (by simp at hg; exact en_at (by omega) (by omega))⟩) (h := ?_)
    first | refine R.loadA A40 (h := ?_) | refine R.loadN A40 (h := ?_) | refine R.loadP A40 (h := ?_)
    refine R.callP (es := [_]) (fun _ => keyOf_P (s.ents.getD (k - 1) default) (seat_at he2 _)) (h := ?_)
    first | refine R.loadA A40 (h := ?_) | refine R.loadN A40 (h := ?_) | refine R.loadP A40 (h := ?_)
    refine R.callP (es := [_]) (fun _ => keyOf_P x hxs) (h := ?_)
    refine R.callP (es := [_, _]) (fun _ => before_P (s.ents.getD (k - 1) default).key x.key) (h := ?_)
    refine R.bin (run_geq _ _ _ _ _ _) (h := ?_)
    refine R.and (hgy := fun hg h => by rw [h, hg]; rfl) (h := ?_)
    refine R.or (h := ?_)
    refine Reg.nil ⟨fun _ => ⟨mixedO, by rfl, by rfl⟩, ?_⟩
    refine LGo.ifb (ht := fun hc4 => ?_) (hf := fun hc4 => ?_)
    ·
     rw [hc4, Bool.true_or, if_pos rfl] at hq
     rw [← hq]
     refine .seq ?_
     refine .region rfl ?_
     refine R.assign (h := ?_)
     refine .n0 ?_
     exact LGo.ret (ret_T Tryd.results23 hA hmd)
    ·
     rw [hc4, Bool.false_or, ← hpv] at hq
     refine .skip ?_
     refine .inBlock ?_
     refine .region rfl ?_
     first | refine R.add (h := ?_) | refine R.addW (h := ?_)
     refine R.move (h := ?_)
     refine .n0 ?_
     refine .inLoop ?_
     exact LGo.next _ (fun o h => by have := (hA o).1 h; omega) (by omega) (ih (k + 1) ⟨by omega, hq⟩ (by omega)) (by repeat (first | exact trivial | refine ⟨rfl, ?_⟩)) ⟨rfl, trivial⟩
   ·
    rw [List.drop_eq_nil_of_le (show s.ents.length ≤ k by omega), badGo] at hq
    rw [← hq]
    refine .exit rfl ?_
    refine .seq ?_
    refine .region rfl ?_
    refine R.assign (h := ?_)
    refine .n0 ?_
    exact LGo.ret (ret_T Tryd.results23 hA hmd)

theorem LC.argsW {P : Program} {f : FuncId} {m k : Nat} {lvs lvs' : List LV} {out : LV} {Hi Ho : List (Nat × LO)} (h : LC P f m lvs Hi out Ho k) (hl : LV.lts m lvs' = true) (hv : ∀ cx w vs, Vs cx w lvs' vs → Vs cx w lvs vs) : LC P f m lvs' Hi out Ho k :=
  ⟨h.entr, hl, h.rng, h.hlt, h.hos, fun cx w vs hA hH ham hvs => h.go cx w vs hA hH ham (hv cx w vs hvs)⟩
theorem vs_aggNil {cx : Cx} {w : World} {x : LV} (sz : Nat) {vs : List Value} (h : Vs cx w [.agg [x, .v (.slice none 0 0)]] vs) : Vs cx w [.agg [x, .sv (.sl sz [])]] vs := by
  simp only [Vs, V] at h ⊢
  obtain ⟨v, r, rfl, ⟨us, rfl, a, r1, rfl, h1, b, r2, rfl, h2, rfl⟩, rfl⟩ := h
  refine ⟨_, _, rfl, ⟨_, rfl, _, _, rfl, h1, _, _, rfl, ?_, rfl⟩, rfl⟩
  simp only [VS] at h2 ⊢
  exact .inl ⟨.inl h2, trivial⟩
theorem cloneN_L (l : List GtG) (hl : l.length ≤ 100000) (hs : ∀ g ∈ l, g.secs.length ≤ 100000) : LC Tryd.prog 41 0 [.agg [.sv (.sl 3 (l.map GtG.c)), .v (.slice none 0 0)]] [] (.agg [.sv (.sl 3 (l.map GtG.c)), .ref 0]) [(0, .rs 40 5 [])] 1 :=
  LC.argsW (clone_L ⟨l, []⟩ ⟨⟨hl, hs⟩, by simp, by simp⟩) (by rfl) (fun _ _ _ h => vs_aggNil 5 h)

theorem newS_P (l : List GtG) (hl : l.length ≤ 100000) (hs : ∀ g ∈ l, g.secs.length ≤ 100000) : PC Tryd.prog 21 [.sv (.sl 3 (l.map GtG.c))] (.tup [.agg ((newS l).1.c.map LV.sv), .i (newS l).2]) := by
 refine ⟨LC.of_go Tryd.func21 (c := _) rfl (by kernel_rfl) (by rw [Tryd.ntmps21]; simp) rfl rfl (by simp [LO.lt, LV.lts, LV.lt, lts_sv]) (by simp) ?_⟩
 intro B hA hmd
 obtain ⟨g, e0⟩ : ∃ g, newS l = g := ⟨_, rfl⟩
 have e1 := e0
 unfold newS at e1
 rw [e0]
 refine .seq ?_
 refine .region rfl ?_
 refine R.alloc Z25 (h := ?_)
 refine R.assign (h := ?_)
 refine .n0 ?_
 refine .seq ?_
 refine .seq ?_
 refine .region rfl ?_
 refine R.move (h := ?_)
 refine R.callP (es := [_]) (fun _ => checkG_P l hl hs) (h := ?_)
 refine R.assign (h := ?_)
 refine .n0 ?_
 refine .seq ?_
 refine .region rfl ?_
 refine R.move (h := ?_)
 refine R.bin (run_neq _ _ _ _ _ _) (h := ?_)
 refine .n0 ?_
 refine LGo.ifb (ht := fun hc => ?_) (hf := fun hc => ?_)
 ·
  rw [if_pos (by simpa using hc)] at e1
  rw [← e1]
  refine .seq ?_
  refine .region rfl ?_
  refine R.build BF25 (is := []) (xs := []) (es := []) (h := ?_)
  refine R.move (h := ?_)
  refine R.storeA A25 (h := ?_)
  refine R.assign (h := ?_)
  refine .n0 ?_
  refine LGo.packNil 0 0 59 3 (h := ?_)
  refine LGo.frzBx 0 (h := ?_)
  refine LGo.packNil 0 1 40 5 (h := ?_)
  refine LGo.frzBx 0 (h := ?_)
  exact LGo.ret (ret_AT Tryd.results21 A25 hA hmd)
 ·
  rw [if_neg (by simpa using hc)] at e1
  rw [← e1]
  refine .skip ?_
  refine .seq ?_
  refine .region rfl ?_
  refine R.move (h := ?_)
  refine R.build BF25 (is := [0]) (xs := [_]) (es := [_]) (h := ?_)
  refine R.callX (es := [_]) [] (cloneN_L l hl hs) (h := ?_)
  refine R.storeA A25 (h := ?_)
  refine R.assign (h := ?_)
  refine .n0 ?_
  refine LGo.pack 0 1 (h := ?_)
  refine LGo.frzBx 0 (h := ?_)
  exact LGo.ret (ret_AT Tryd.results21 A25 hA hmd)

end Go.Proofs.YtgcjjndhohellaaDoor
