/- Texts of this claim, merged (GH to DR); no condition. -/
import Derived.Test.YteccglgbkehdeaaGreatDoorPE4
import Derived.Test.YteccglgbkehdeaaGreatDoorRows
import Derived.Test.YteccglgbkehdeaaGreatDoorTie
import Derived.LaidMore
import Derived.Lay
import Derived.MakeChecks
import Derived.Lib.LaidTab
import Derived.OpenShut
import Derived.ChangeArms
import Derived.ProofKit
/- gates, the reference: New, Enter, Play; equal states, equal errors. -/
set_option linter.unusedSimpArgs false
set_option linter.unusedVariables false
namespace Go.Proofs.YteccglgbkehdeaaGreatDoor

def SortK (l : List GtE) : Prop := l.Pairwise fun x y => ltK x.key y.key
/-- no two entries have one key -/
def DistK (l : List GtE) : Prop := l.Pairwise fun x y => x.key ≠ y.key
def sortE (l : List GtE) : List GtE := l.foldl (fun a x => insE x a) []
/-! the check -/
/-- an entry that lies as0 it must -/
def okE (gs : List GtG) (x : GtE) : Prop := 0 ≤ x.gate ∧ x.gate < gs.length ∧ openI (gs.getD x.gate.toNat default) x.time = 0
/-! calls in a row -/
def stepD (gs : List GtG) (es : List GtE) (c : GtC) : List GtE := if refuse gs es c = 0 then es ++ [c.ent] else es
def playD (gs : List GtG) : List GtE → List GtC → List GtE × List Int
  | es, [] => (es, [])
  | es, c :: l => ((playD gs (stepD gs es c) l).1, refuse gs es c :: (playD gs (stepD gs es c) l).2)
def playS (s : GtS) (l : List GtC) : GtS × List Int × Int := if checkGS s ≠ 0 then (GtS.zero, [], checkGS s) else if 1000 < (l.length : Int) then (GtS.zero, [], 3) else (⟨s.gates, sortE (playD s.gates s.ents l).1⟩, (playD s.gates s.ents l).2, 0)
def playR (gs : List GtG) : List GtE → List GtC → List GtE × List Int
  | es, [] => (es, [])
  | es, c :: l =>
    if (enterS ⟨gs, es⟩ c).2 = 0 then ((playR gs (enterS ⟨gs, es⟩ c).1.ents l).1, (enterS ⟨gs, es⟩ c).2 :: (playR gs (enterS ⟨gs, es⟩ c).1.ents l).2)
    else ((playR gs es l).1, (enterS ⟨gs, es⟩ c).2 :: (playR gs es l).2)
/-! the laws -/
/-- the calls that were answered 0 -/
def goodC (gs : List GtG) : List GtE → List GtC → List GtC
  | _, [] => []
  | es, c :: l => if refuse gs es c = 0 then c :: goodC gs (stepD gs es c) l else goodC gs (stepD gs es c) l
/-- what makes a call good, but for the others -/
def goodP (gs : List GtG) (c : GtC) : Prop := 0 ≤ c.gate ∧ c.gate < gs.length ∧ c.sec ∈ (gs.getD c.gate.toNat default).secs ∧ openI (gs.getD c.gate.toNat default) c.now = 0
/-- how many entries are before x -/
def posE (x : GtE) : List GtE → Nat
  | [] => 0
  | y :: l => if cmpK y.key x.key < 0 then posE x l + 1 else 0
def finE (s : GtS) (c : GtC) (r : Int) : GtS × Int := if r ≠ 0 then (GtS.zero, r) else (⟨s.gates, insE c.ent s.ents⟩, 0)
end Go.Proofs.YteccglgbkehdeaaGreatDoor
/- requests, the reference: Decode; what the two return is the same. -/
set_option linter.unusedSimpArgs false
set_option linter.unusedVariables false
namespace Go.Proofs.YteccglgbkehdeaaGreatDoor

/-- groundlingref09.Decode -/
def decR9 : List UInt8 → Rq × Int × Int
  | [] => (zeroQ, 0, 11)
  | c :: b => if wordQ c.toNat = [] then (zeroQ, 0, 11) else if (!decide ((decode (rulesR c.toNat).1 b).2.2 = 0)) = true then (zeroQ, (decode (rulesR c.toNat).1 b).2.1 + 1, 11) else (foldQ { zeroQ with kind := c.toNat } (decode (rulesR c.toNat).1 b).1, 0, 0)

theorem decR9_cons (c : UInt8) (b : List UInt8) (hb : (c :: b).length ≤ 9000) : PC Tryz.prog 21 [.sv (.sl 1 (bytesC (c :: b)))] (.tup [.agg ((decR9 (c :: b)).1.c.map LV.sv), .i (decR9 (c :: b)).2.1, .i (decR9 (c :: b)).2.2]) := by
 refine ⟨LC.of_go Tryz.func21 (c := _) rfl (by kernel_rfl) (by rw [Tryz.ntmps21]; simp) rfl rfl (by simp [LO.lt, LV.lts, LV.lt, lts_sv]) (by simp) ?_⟩
 intro B hA hmd
 obtain ⟨g, e0⟩ : ∃ g, decR9 (c :: b) = g := ⟨_, rfl⟩
 have e1 := e0
 rw [decR9] at e1
 rw [e0]
 have hcl := c.toNat_lt
 have hat := decode_at (rulesR c.toNat).1 b
 have hbl : b.length + 1 ≤ 9000 := by simpa using hb
 have hdl := decode_len (rulesR c.toNat).1 b
 refine .seq ?_
 refine .region rfl ?_
 refine R.alloc Z48 (h := ?_)
 refine R.assign (h := ?_)
 refine R.assign (h := ?_)
 refine .n0 ?_
 refine .seq ?_
 refine .seq ?_
 refine .region rfl ?_
 refine R.move (h := ?_)
 first | refine R.len S44 (h := ?_) | refine R.lenRs S44 (h := ?_) | refine R.lenV (run_lenNil S44) (h := ?_)
 rw [bytesC_length]
 refine R.bin (run_eql _ _ _ _ _ _) (h := ?_)
 refine R.move (h := ?_)
 refine R.move (h := ?_)
 refine R.index I44 (hj := fun hg => ⟨by (simp at hg; omega), rfl⟩) (h := ?_)
 first | refine R.loadB O5 (h := ?_) | refine R.load1 O5 (h := ?_)
 first | refine R.convI Tryz.runUnderlying5 Tryz.runUnderlying3 (h := ?_) | refine R.convW Tryz.runUnderlying5 Tryz.runUnderlying3 (h := ?_)
 refine R.callP (es := [_]) (fun _ => wordQ_P c.toNat) (hes := fun h => by rw [List.map_cons, List.map_nil, entLV_eq h]) (h := ?_)
 refine R.bin (run_eqlT _ _ _ _ _) (h := ?_)
 refine R.or (h := ?_)
 refine .n0 ?_
 refine LGo.ifb (ht := fun hc => ?_) (hf := fun hc => ?_)
 ·
  rw [if_pos (by simp at hc; exact hc.resolve_left (by omega))] at e1; rw [← e1]
  refine .seq ?_
  refine .region rfl ?_
  refine R.build BF48 (is := []) (xs := []) (es := []) (h := ?_)
  refine R.storeA A48 (h := ?_)
  refine R.assign (h := ?_)
  refine R.assign (h := ?_)
  refine .n0 ?_
  exact LGo.ret (ret_ATT Tryz.results21 A48 hA hmd)
 ·
  rw [if_neg (by simp at hc; exact hc.2)] at e1
  refine .skip ?_
  refine .seq ?_
  refine .region rfl ?_
  refine R.move (h := ?_)
  refine R.index I44 (hj := fun hg => ⟨by omega, rfl⟩) (h := ?_)
  first | refine R.loadB O5 (h := ?_) | refine R.load1 O5 (h := ?_)
  first | refine R.convI Tryz.runUnderlying5 Tryz.runUnderlying3 (h := ?_) | refine R.convW Tryz.runUnderlying5 Tryz.runUnderlying3 (h := ?_)
  refine R.build BF48 (is := [0]) (xs := [_]) (es := [_]) (h := ?_)
  refine R.alloc Z48 (h := ?_)
  refine R.storeA A48 (h := ?_)
  refine .n0 ?_
  refine .seq ?_
  refine .region rfl ?_
  first | refine R.field F48_0 (h := ?_) | refine R.fieldAt F48_0 (h := ?_)
  first | refine R.loadB O3 (h := ?_) | refine R.load1 O3 (h := ?_)
  refine R.callP (es := [_]) (fun _ => rulesR_P c.toNat) (h := ?_)
  refine R.move (h := ?_)
  refine R.extract (h := ?_)
  refine R.extract (h := ?_)
  refine R.assign (h := ?_)
  refine R.assign (h := ?_)
  refine .n0 ?_
  refine .seq ?_
  refine .region rfl ?_
  refine R.move (h := ?_)
  refine R.move (h := ?_)
  refine R.sliceLo SF44 (ha := fun _ => by rw [bytesC_length]; simp; omega) (h := ?_)
  rw [bytesC_drop, show Int.toNat 1 = 1 from rfl, List.drop_succ_cons, List.drop_zero]
  refine R.callP (es := [_, _]) (fun _ => decodeR_P' (rulesR c.toNat).1 b (by have := rulesR_len c.toNat; omega) (by omega)) (h := ?_)
  refine R.move (h := ?_)
  refine R.extract (h := ?_)
  refine R.extract (h := ?_)
  refine R.extract (h := ?_)
  refine R.assign (h := ?_)
  refine R.assign (h := ?_)
  refine R.assign (h := ?_)
  refine .n0 ?_
  refine .seq ?_
  refine .seq ?_
  refine .region rfl ?_
  refine R.move (h := ?_)
  refine R.bin (run_neq _ _ _ _ _ _) (h := ?_)
  refine .n0 ?_
  refine LGo.ifb (ht := fun hc2 => ?_) (hf := fun hc2 => ?_)
  ·
   rw [if_pos hc2] at e1; rw [← e1]
   refine .seq ?_
   refine .region rfl ?_
   refine R.build BF48 (is := []) (xs := []) (es := []) (h := ?_)
   refine R.move (h := ?_)
   first | refine R.add (h := ?_) | refine R.addW (h := ?_)
   refine R.storeA A48 (h := ?_)
   refine R.assign (h := ?_)
   refine R.assign (h := ?_)
   refine .n0 ?_
   exact LGo.ret (ret_ATT Tryz.results21 A48 hA hmd)
  ·
   rw [if_neg (by rw [hc2]; simp)] at e1; rw [← e1]
   generalize (decode (rulesR c.toNat).1 b).1 = l at *
   refine .skip ?_
   refine .seq ?_
   refine .seq ?_
   refine .region rfl ?_
   refine R.assign (h := ?_)
   refine .n0 ?_
   refine .block ?_
   refine .loop ?_
   refine LGo.loopG (σ := Nat) (fun x => x ≤ l.length) (fun x => [(11, (true, .i (x : Nat)))]) (fun x => [(0, .box 48 (zeroQ.c.map LV.sv)), (1, .box 48 ((foldQ { zeroQ with kind := c.toNat } (l.take x)).c.map LV.sv))]) (fun x => l.length - x) (0) [(2, _), (5, _), (8, _)] (Nat.zero_le _) (by repeat (first | exact trivial | refine ⟨rfl, ?_⟩)) (by repeat (first | exact trivial | refine ⟨rfl, ?_⟩)) (by repeat (first | exact trivial | refine ⟨rfl, ?_⟩)) ?_
   rintro k hk2 ih
   refine .seq ?_
   refine .seq ?_
   refine .region rfl ?_
   refine R.move (h := ?_)
   refine R.move (h := ?_)
   first | refine R.len S144 (h := ?_) | refine R.lenRs S144 (h := ?_) | refine R.lenV (run_lenNil S144) (h := ?_)
   rw [List.length_map]
   refine R.bin (run_lss _ _ _ _ _ _) (h := ?_)
   refine .n0 ?_
   refine LGo.ifd (ht := fun hc3 => ?_) (hf := fun hc3 => ?_)
   ·
    have hlt : k < l.length := by omega
    have hx : (l.map Fld.c)[((k : Nat) : Int).toNat]? = some l[k].c := by simp [hlt]
    have htk : foldQ { zeroQ with kind := c.toNat } (l.take (k + 1)) = putQ (foldQ { zeroQ with kind := c.toNat } (l.take k)) l[k] := by unfold foldQ; rw [List.take_succ_eq_append_getElem hlt, List.foldl_append]; rfl
    generalize l[k] = f at hx htk
    generalize foldQ { zeroQ with kind := c.toNat } (l.take k) = rk at htk ⊢
    refine .skip ?_
    refine .seq ?_
    refine .block ?_
    refine .region rfl ?_
    first | refine R.loadA A48 (h := ?_) | refine R.loadN A48 (h := ?_) | refine R.loadP A48 (h := ?_)
    refine R.move (h := ?_)
    refine R.move (h := ?_)
    refine R.index I144 (hj := fun hg => ⟨by omega, hx⟩) (h := ?_)
    first | refine R.loadA A149 (h := ?_) | refine R.loadN A149 (h := ?_) | refine R.loadP A149 (h := ?_)
    refine R.callP (es := [_, _]) (fun _ => withQ_P rk f) (h := ?_)
    refine R.storeA A48 (h := ?_)
    refine Reg.nil ⟨fun _ => ⟨mixedO, by rfl, by rfl⟩, ?_⟩
    refine .inBlock ?_
    refine .region rfl ?_
    refine R.move (h := ?_)
    first | refine R.add (h := ?_) | refine R.addW (h := ?_)
    refine R.assign (h := ?_)
    refine .n0 ?_
    refine .inLoop ?_
    exact LGo.next _ (fun o h => by have := (hA o).1 h; omega) (by omega) (ih (k + 1) hlt (by omega)) (by repeat (first | exact trivial | refine ⟨rfl, ?_⟩)) ⟨rfl, by rw [htk]; rfl, trivial⟩
   ·
    obtain rfl : k = l.length := by omega
    rw [List.take_length]
    refine .exit rfl ?_
    refine .seq ?_
    refine .region rfl ?_
    first | refine R.loadA A48 (h := ?_) | refine R.loadN A48 (h := ?_) | refine R.loadP A48 (h := ?_)
    refine R.storeA A48 (h := ?_)
    refine R.assign (h := ?_)
    refine R.assign (h := ?_)
    refine .n0 ?_
    exact LGo.ret (ret_ATT Tryz.results21 A48 hA hmd)

theorem decR9_nil : PC Tryz.prog 21 [.sv (.sl 1 (bytesC []))] (.tup [.agg (zeroQ.c.map LV.sv), .i 0, .i 11]) := by
 refine ⟨LC.of_go Tryz.func21 (c := _) rfl (by kernel_rfl) (by rw [Tryz.ntmps21]; simp) rfl rfl (by simp [LO.lt, LV.lts, LV.lt, lts_sv]) (by simp) ?_⟩
 intro B hA hmd
 refine .seq ?_
 refine .region rfl ?_
 refine R.alloc Z48 (h := ?_)
 refine R.assign (h := ?_)
 refine R.assign (h := ?_)
 refine .n0 ?_
 refine .seq ?_
 refine .seq ?_
 refine .region rfl ?_
 refine R.move (h := ?_)
 first | refine R.len S44 (h := ?_) | refine R.lenRs S44 (h := ?_) | refine R.lenV (run_lenNil S44) (h := ?_)
 refine R.bin (run_eql _ _ _ _ _ _) (h := ?_)
 refine R.move (h := ?_)
 refine R.move (h := ?_)
 refine R.skip (.v undef) (es := [_, _]) (h := ?_)
 refine R.skip (.v undef) (es := [_]) (h := ?_)
 refine R.skip (.v undef) (es := [_]) (h := ?_)
 refine R.skip (.v undef) (es := [_, _]) (h := ?_)
 refine R.skip (.b false) (es := [_, _]) (h := ?_)
 refine R.or (h := ?_)
 refine .n0 ?_
 refine LGo.ifb (ht := fun hc => ?_) (hf := fun hc => by rw [bytesC_length] at hc; simp at hc)
 refine .seq ?_
 refine .region rfl ?_
 refine R.build BF48 (is := []) (xs := []) (es := []) (h := ?_)
 refine R.storeA A48 (h := ?_)
 refine R.assign (h := ?_)
 refine R.assign (h := ?_)
 refine .n0 ?_
 exact LGo.ret (ret_ATT Tryz.results21 A48 hA hmd)

theorem decR9_P (b : List UInt8) (hb : b.length ≤ 9000) : PC Tryz.prog 21 [.sv (.sl 1 (bytesC b))] (.tup [.agg ((decR9 b).1.c.map LV.sv), .i (decR9 b).2.1, .i (decR9 b).2.2]) := by
  cases b with
  | nil => exact decR9_nil
  | cons c b => exact decR9_cons c b hb
theorem decR9_eq (b : List UInt8) : decR9 b = decQ b := by
  cases b with
  | nil => rfl
  | cons c b =>
    rw [decR9, decQ, ← rules_eq]
    by_cases h : wordQ c.toNat = []
    · have h2 : (rulesQ c.toNat).2 = 2 := by rw [rules_eq]; unfold rulesR; rw [if_pos h]
      rw [if_pos h, if_pos (show (!decide ((rulesQ (c.toNat : Int)).2 = 0)) = true from by rw [h2]; rfl)]
    · have h2 : (rulesQ c.toNat).2 = 0 := by rw [rules_eq]; unfold rulesR; rw [if_neg h]
      rw [if_neg h, if_neg (show ¬ (!decide ((rulesQ (c.toNat : Int)).2 = 0)) = true from by rw [h2]; simp)]

end Go.Proofs.YteccglgbkehdeaaGreatDoor
/- requests: what a request that is one has for fields; Encode and Print are the reference's. -/
set_option linter.unusedSimpArgs false
set_option linter.unusedVariables false
namespace Go.Proofs.YteccglgbkehdeaaGreatDoor


/-- the tags of a kind -/
def tagL (k : Int) : List Int := if wordQ k = [] then [] else 1 :: tagsQ k
theorem rulesQ_tags (k : Int) : (rulesQ k).1 = (tagL k).map ruleQ := by
  by_cases h : k < 0 ∨ 14 ≤ k
  · simp [rulesQ, tagL, mask_out h, word_out h]
  · rcases kinds14 (k := k) (by omega) (by omega) with rfl | rfl | rfl | rfl | rfl | rfl | rfl | rfl | rfl | rfl | rfl | rfl | rfl | rfl <;> kernel_rfl
theorem tagL_asc (k : Int) : (tagL k).Pairwise (· < ·) ∧ ∀ t ∈ tagL k, 1 ≤ t ∧ t ≤ 9 := by
  unfold tagL
  split
  · simp
  · generalize hT : tagsQ k = T
    unfold tagsQ at hT
    (repeat' split at hT) <;> subst hT <;> simp
theorem tagL_filter {k : Int} (hk : maskOf k ≠ 0) : ((List.range' 1 9).filter fun t => !decide (bitQ (maskOf k) t = 0)).map (fun t : Nat => (t : Int)) = tagL k := by
  have h : ¬ (k < 0 ∨ 14 ≤ k) := fun h => hk (mask_out h)
  rcases kinds14 (k := k) (by omega) (by omega) with rfl | rfl | rfl | rfl | rfl | rfl | rfl | rfl | rfl | rfl | rfl | rfl | rfl | rfl <;> first | exact absurd rfl hk | (exfalso; revert hk; decide +kernel) | decide +kernel
theorem mem_tagL {k : Int} (hk : maskOf k ≠ 0) {t : Nat} (h1 : 1 ≤ t) (h2 : t ≤ 9) : (t : Int) ∈ tagL k ↔ bitQ (maskOf k) t ≠ 0 := by
  rw [← tagL_filter hk, List.mem_map]
  constructor
  · rintro ⟨u, hu, he⟩
    obtain rfl : u = t := by omega
    have := (List.mem_filter.1 hu).2
    simpa using this
  · intro h
    exact ⟨t, List.mem_filter.2 ⟨List.mem_range'_1.2 ⟨h1, by omega⟩, by simpa using h⟩, rfl⟩
theorem Ub_iff (m : Int) (r : Rq) : ∀ n k : Nat, Ub m r n k = false ↔ ∀ j, k ≤ j → j < k + n → bitQ m j = 0 → nzF (fieldQ r j).1 = false
  | 0, k => by simp [Ub]; omega
  | n + 1, k => by
    rw [Ub, Bool.or_eq_false_iff, Ub_iff m r n (k + 1)]
    constructor
    · rintro ⟨h1, h2⟩ j hj hj2 hb
      by_cases he : j = k
      · subst he; simpa [hb] using h1
      · exact h2 j (by omega) (by omega) hb
    · intro h
      refine ⟨?_, fun j h1 h2 hb => h j (by omega) (by omega) hb⟩
      by_cases hb : bitQ m k = 0
      · rw [h k (Nat.le_refl _) (by omega) hb]; simp
      · simp [hb]
theorem Nb_iff (m : Int) (r : Rq) : ∀ n k : Nat, Nb m r n k = false ↔ ∀ j, k ≤ j → j < k + n → bitQ m j ≠ 0 → nbF (ruleQ j) (fieldQ r j).1 (fieldQ r j).2 = false
  | 0, k => by simp [Nb]; omega
  | n + 1, k => by
    rw [Nb, Bool.or_eq_false_iff, Nb_iff m r n (k + 1)]
    constructor
    · rintro ⟨h1, h2⟩ j hj hj2 hb
      by_cases he : j = k
      · subst he; simpa [hb] using h1
      · exact h2 j (by omega) (by omega) hb
    · intro h
      refine ⟨?_, fun j h1 h2 hb => h j (by omega) (by omega) hb⟩
      by_cases hb : bitQ m k = 0
      · simp [hb]
      · rw [h k (Nat.le_refl _) (by omega) hb]; simp
theorem Lb_iff (m : Int) (r : Rq) : ∀ n k : Nat, Lb m r n k = false ↔ ∀ j, k ≤ j → j < k + n → bitQ m j ≠ 0 → lbF (ruleQ j) (fieldQ r j).1 = false
  | 0, k => by simp [Lb]; omega
  | n + 1, k => by
    rw [Lb, Bool.or_eq_false_iff, Lb_iff m r n (k + 1)]
    constructor
    · rintro ⟨h1, h2⟩ j hj hj2 hb
      by_cases he : j = k
      · subst he; simpa [hb] using h1
      · exact h2 j (by omega) (by omega) hb
    · intro h
      refine ⟨?_, fun j h1 h2 hb => h j (by omega) (by omega) hb⟩
      by_cases hb : bitQ m k = 0
      · simp [hb]
      · rw [h k (Nat.le_refl _) (by omega) hb]; simp
theorem foGo_ok (m : Int) (r : Rq) : ∀ (n k : Nat) (l : List Fld) (e : Int), Ub m r n k = false → (foGo m r n k l e).2 = 0 → (foGo m r n k l e).1 = l ++ ((List.range' k n).filter fun t => !decide (bitQ m t = 0)).map fun t : Nat => (fieldQ r t).1
  | 0, k, l, e, _, h => by
    rw [foGo] at h ⊢
    split
    · rename_i h0; rw [if_pos h0] at h; simp_all
    · simp
  | n + 1, k, l, e, hu, h => by
    have hu2 : Ub m r n (k + 1) = false := by rw [Ub, Bool.or_eq_false_iff] at hu; exact hu.2
    have hu1 : bitQ m k = 0 → nzF (fieldQ r k).1 = false := fun hb => by rw [Ub, Bool.or_eq_false_iff] at hu; simpa [hb] using hu.1
    rw [foGo] at h ⊢
    rw [List.range'_succ, List.filter_cons]
    by_cases hb : bitQ m k = 0
    · rw [if_pos hb, if_neg (by have := hu1 hb; unfold nzF at this; rw [this]; simp)] at h ⊢
      rw [foGo_ok m r n (k + 1) l e hu2 h]
      simp [hb]
    · rw [if_neg hb] at h ⊢
      rw [foGo_ok m r n (k + 1) _ _ hu2 h]
      simp [hb]
/-- when a request is one -/
theorem check_iff (r : Rq) : checkQ r = 0 ↔ maskOf r.kind ≠ 0 ∧ ∀ t : Int, 1 ≤ t → t ≤ 9 → (t ∉ tagL r.kind → nzF (fieldQ r t).1 = false) ∧ (t ∈ tagL r.kind → nbF (ruleQ t) (fieldQ r t).1 (fieldQ r t).2 = false ∧ lbF (ruleQ t) (fieldQ r t).1 = false) := by
  unfold checkQ fieldsOf
  by_cases hk : maskOf r.kind = 0
  · rw [if_pos hk]; simp [hk]
  · rw [if_neg hk, foGo_snd _ r 9 1 [] 0 (.inl rfl)]
    have hU := Ub_iff (maskOf r.kind) r 9 1
    have hN := Nb_iff (maskOf r.kind) r 9 1
    have hL := Lb_iff (maskOf r.kind) r 9 1
    have nat : ∀ {t : Int}, 1 ≤ t → t ≤ 9 → ∃ j : Nat, t = j ∧ 1 ≤ j ∧ j ≤ 9 := fun {t} h1 h2 => ⟨t.toNat, by omega, by omega, by omega⟩
    constructor
    · intro h
      have h1 : Ub (maskOf r.kind) r 9 1 = false := by cases hh : Ub (maskOf r.kind) r 9 1 with | false => rfl | true => rw [hh] at h; simp at h
      rw [h1] at h
      have h2 : Nb (maskOf r.kind) r 9 1 = false := by cases hh : Nb (maskOf r.kind) r 9 1 with | false => rfl | true => rw [hh] at h; simp at h
      rw [h2] at h
      have h3 : Lb (maskOf r.kind) r 9 1 = false := by cases hh : Lb (maskOf r.kind) r 9 1 with | false => rfl | true => rw [hh] at h; simp at h
      refine ⟨hk, fun t t1 t2 => ?_⟩
      obtain ⟨j, rfl, j1, j2⟩ := nat t1 t2
      have hm := mem_tagL hk j1 j2
      exact ⟨fun hn => hU.1 h1 j j1 (by omega) (by by_cases hb : bitQ (maskOf r.kind) j = 0; exact hb; exact absurd (hm.2 hb) hn), fun hn => ⟨hN.1 h2 j j1 (by omega) (hm.1 hn), hL.1 h3 j j1 (by omega) (hm.1 hn)⟩⟩
    · rintro ⟨_, h⟩
      have h1 : Ub (maskOf r.kind) r 9 1 = false := hU.2 fun j j1 j2 hb => (h j (by omega) (by omega)).1 (fun hm => (mem_tagL hk (by omega) (by omega)).1 hm hb)
      have h2 : Nb (maskOf r.kind) r 9 1 = false := hN.2 fun j j1 j2 hb => ((h j (by omega) (by omega)).2 ((mem_tagL hk (by omega) (by omega)).2 hb)).1
      have h3 : Lb (maskOf r.kind) r 9 1 = false := hL.2 fun j j1 j2 hb => ((h j (by omega) (by omega)).2 ((mem_tagL hk (by omega) (by omega)).2 hb)).2
      rw [h1, h2, h3]; simp
/-- the fields of a request that is one -/
theorem fields_list {r : Rq} (h : checkQ r = 0) : (fieldsOf r).1 = (tagL r.kind).map fun t => (fieldQ r t).1 := by
  have hk := ((check_iff r).1 h).1
  unfold checkQ fieldsOf at h
  rw [if_neg hk] at h
  have hu : Ub (maskOf r.kind) r 9 1 = false := by
    rw [foGo_snd _ r 9 1 [] 0 (.inl rfl)] at h
    cases hh : Ub (maskOf r.kind) r 9 1 with | false => rfl | true => rw [hh] at h; simp at h
  unfold fieldsOf
  rw [if_neg hk, foGo_ok _ r 9 1 [] 0 hu h, ← tagL_filter hk, List.map_map]
  rfl
theorem fieldQ_tag (r : Rq) (t : Int) : (fieldQ r t).1.tag = t := by unfold fieldQ; (repeat' split) <;> rfl
theorem ruleQ_tag (t : Int) : (ruleQ t).tag = t := by unfold ruleQ; (repeat' split) <;> rfl
theorem itags9 {t : Int} (h1 : 1 ≤ t) (h2 : t ≤ 9) : t = 1 ∨ t = 2 ∨ t = 3 ∨ t = 4 ∨ t = 5 ∨ t = 6 ∨ t = 7 ∨ t = 8 ∨ t = 9 := by omega
theorem msgQ_eq {r : Rq} (hr : RqOk r) (h : checkQ r = 0) : messageR r = (fieldsOf r).1 := by
  rw [fields_list h]
  unfold messageR
  rw [← rules_eq, rulesQ_tags, List.map_map]
  apply List.map_congr_left
  intro t ht
  have hb := (tagL_asc r.kind).2 t ht
  have hn := (((check_iff r).1 h).2 t hb.1 hb.2).2 ht
  have b1 := hr.id; have b2 := hr.owner; have b3 := hr.to
  have h1 := hn.1
  show msgOne r (ruleQ t) = (fieldQ r t).1
  rcases itags9 hb.1 hb.2 with rfl | rfl | rfl | rfl | rfl | rfl | rfl | rfl | rfl
  all_goals simp [msgOne, ruleQ, fieldQ, numQ, txtQ, nbF, uw] at h1 ⊢
  all_goals (try split) <;> omega
theorem qrule_map : ∀ (T : List Int) {t : Int}, t ∈ T → (T.map ruleQ).find? (fun x => decide (x.tag = t)) = some (ruleQ t)
  | [], t, h => by simp at h
  | u :: T, t, h => by
    rw [List.map_cons, List.find?_cons]
    by_cases hu : u = t
    · subst hu; simp [ruleQ_tag]
    · have : decide ((ruleQ u).tag = t) = false := by simp [ruleQ_tag, hu]
      rw [this]
      exact qrule_map T (by rcases List.mem_cons.1 h with h | h; exact absurd h.symm hu; exact h)
theorem qfld_map {F : Int → Fld} (hF : ∀ t, (F t).tag = t) : ∀ (T : List Int) {t : Int}, t ∈ T → fldHas t (T.map F) = true
  | [], t, h => by simp at h
  | u :: T, t, h => by
    unfold fldHas
    rw [List.map_cons, List.find?_cons]
    by_cases hu : u = t
    · subst hu; simp [hF]
    · have : decide ((F u).tag = t) = false := by simp [hF, hu]
      rw [this]
      exact qfld_map hF T (by rcases List.mem_cons.1 h with h | h; exact absurd h.symm hu; exact h)
theorem qruleAt (k : Int) {t : Int} (h : t ∈ tagL k) : ruleHas t (rulesQ k).1 = true ∧ ruleAt t (rulesQ k).1 = ruleQ t := by
  have := qrule_map (tagL k) h
  unfold ruleHas ruleAt
  rw [rulesQ_tags, this]
  exact ⟨rfl, rfl⟩
theorem tagL_len (k : Int) : (tagL k).length ≤ 4 := by unfold tagL; have := tagsQ_len k; split <;> simp; omega
theorem qcheck (k : Int) : check (rulesQ k).1 = 0 := by
  have hk : ∀ t : Int, 1 ≤ t → t ≤ 9 → ((ruleQ t).low ≤ (ruleQ t).high) ∧ ((ruleQ t).kind = 1 ∨ (ruleQ t).kind = 2 ∧ (ruleQ t).high ≤ 400) := by
    intro t h1 h2
    unfold ruleQ
    (repeat' split) <;> simp
  have key : ∀ (T : List Int) (last : Int), T.Pairwise (· < ·) → (∀ t ∈ T, last < t ∧ 1 ≤ t ∧ t ≤ 9) → checkGo last (T.map ruleQ) = 0 := by
    intro T
    induction T with
    | nil => intro last _ _; rfl
    | cons t T ih =>
      intro last hp hm
      obtain ⟨h1, h2, h3⟩ := hm t (by simp)
      obtain ⟨h4, h5⟩ := hk t h2 h3
      rw [List.map_cons, checkGo, ruleQ_tag, if_neg (by simp; omega)]
      have ih' := ih t (List.pairwise_cons.1 hp).2 (fun u hu => ⟨(List.pairwise_cons.1 hp).1 u hu, (hm u (by simp [hu])).2⟩)
      rcases h5 with h5 | ⟨h5, h6⟩
      · rw [if_pos h5]; exact ih'
      · rw [if_neg (by omega), if_neg (by simp [h5]; omega)]; exact ih'
  unfold check
  rw [if_neg (by have := rulesQ_len k; omega), rulesQ_tags]
  have h := tagL_asc k
  exact key (tagL k) 0 h.1 (fun t ht => ⟨by have := (h.2 t ht).1; omega, h.2 t ht⟩)
theorem qencF_map {rs : List Rule} {F : Int → Fld} (hF : ∀ t, (F t).tag = t) : ∀ (T : List Int) (last : Int), T.Pairwise (· < ·) → (∀ t ∈ T, last < t ∧ ruleHas t rs = true ∧ fldE (ruleAt t rs) (F t) = 0) → (encF rs last (T.map F)).1 = 0
  | [], last, _, _ => rfl
  | t :: T, last, hp, h => by
    obtain ⟨h1, h2, h3⟩ := h t (by simp)
    rw [List.map_cons, encF, hF, if_neg (by simp [h2]; omega), if_pos h3]
    exact qencF_map hF T t (List.pairwise_cons.1 hp).2 (fun u hu => ⟨(List.pairwise_cons.1 hp).1 u hu, (h u (by simp [hu])).2⟩)
theorem qfldE {r : Rq} {t : Int} (h1 : 1 ≤ t) (h2 : t ≤ 9) (hn : nbF (ruleQ t) (fieldQ r t).1 (fieldQ r t).2 = false) (hl : lbF (ruleQ t) (fieldQ r t).1 = false) : fldE (ruleQ t) (fieldQ r t).1 = 0 := by
  rcases itags9 h1 h2 with rfl | rfl | rfl | rfl | rfl | rfl | rfl | rfl | rfl
  all_goals simp [fldE, nbF, lbF, ruleQ, fieldQ, within] at hn hl ⊢
  all_goals omega
theorem qenc_ok {r : Rq} (h : checkQ r = 0) : (encode (rulesQ r.kind).1 (fieldsOf r).1).2 = 0 := by
  have hp := ((check_iff r).1 h).2
  have ha := tagL_asc r.kind
  rw [fields_list h]
  have hE : (encF (rulesQ r.kind).1 0 ((tagL r.kind).map fun t => (fieldQ r t).1)).1 = 0 := by
    refine qencF_map (fieldQ_tag r) _ 0 ha.1 (fun t ht => ?_)
    obtain ⟨h1, h2⟩ := qruleAt r.kind ht
    have h3 := ha.2 t ht
    refine ⟨by omega, h1, ?_⟩
    rw [h2]
    exact qfldE h3.1 h3.2 ((hp t h3.1 h3.2).2 ht).1 ((hp t h3.1 h3.2).2 ht).2
  have hL : lackF (rulesQ r.kind).1 ((tagL r.kind).map fun t => (fieldQ r t).1) = false := by
    unfold lackF
    rw [List.any_eq_false]
    intro t ht
    unfold needs at ht
    rw [rulesQ_tags] at ht
    obtain ⟨x, hx, rfl⟩ := List.mem_map.1 ht
    obtain ⟨u, hu, rfl⟩ := List.mem_map.1 (List.mem_filter.1 hx).1
    rw [ruleQ_tag]
    simp [qfld_map (fieldQ_tag r) _ hu]
  unfold encode
  rw [if_pos (qcheck _), if_neg (by rw [List.length_map]; have := tagL_len r.kind; omega), if_pos hE, if_neg (by rw [hL]; simp)]
theorem encQ_eq {r : Rq} (hr : RqOk r) : encQ r = encR9 r := by
  unfold encQ encR9
  rw [← checkQ_eq r hr]
  by_cases h : checkQ r = 0
  · rw [if_neg (by rw [show (fieldsOf r).2 = 0 from h]; simp), if_neg (by rw [qenc_ok h]; simp), if_neg (by rw [h]; simp), ← rules_eq, msgQ_eq hr h]
  · rw [if_pos (by simp [show (fieldsOf r).2 ≠ 0 from h]), if_pos (by simp [h])]; rfl

end Go.Proofs.YteccglgbkehdeaaGreatDoor
/- requests: what is decoded is what was encoded, and the other way round. -/
set_option linter.unusedSimpArgs false
set_option linter.unusedVariables false
namespace Go.Proofs.YteccglgbkehdeaaGreatDoor


theorem putQ_ok {r : Rq} {f : Fld} (hr : RqOk r) (hf : 0 ≤ f.num ∧ f.num < 18446744073709551616 ∧ f.txt.length ≤ 2000) : RqOk (putQ r f) := by
  have w1 : ∀ n : Int, R64 (IntKind.i64.wrap n) := fun n => by unfold R64; rw [IntKind.wrap_i64]; omega
  have w2 : ∀ n : Int, 0 ≤ IntKind.u32.wrap n ∧ IntKind.u32.wrap n < 4294967296 := fun n => by rw [IntKind.wrap_u32]; omega
  have ht : f.txt.length ≤ maxLen := by have : (2000 : Nat) ≤ maxLen := by decide
                                        omega
  unfold putQ
  (repeat' split) <;> constructor <;> first | exact hr.kind | exact hr.id | exact hr.owner | exact hr.to | exact hr.ses | exact hr.tic | exact hr.seat | exact hr.sec | exact hr.n | exact hr.gate | exact w1 _ | exact w2 _ | exact ht | exact ⟨hf.1, hf.2.1⟩
theorem foldQ_ok {r : Rq} : ∀ {l : List Fld}, RqOk r → (∀ f ∈ l, 0 ≤ f.num ∧ f.num < 18446744073709551616 ∧ f.txt.length ≤ 2000) → RqOk (foldQ r l) := by
  intro l
  induction l generalizing r with
  | nil => intro h _; exact h
  | cons f l ih => intro h hf; exact ih (r := putQ r f) (putQ_ok h (hf f (by simp))) (fun g hg => hf g (by simp [hg]))
theorem kindQ_ok (k : Nat) (h : k ≤ 255) : RqOk { zeroQ with kind := (k : Int) } := by
  constructor <;> first | (unfold R64; dsimp only; omega) | (dsimp only; omega) | (simp [maxLen])

theorem putQ_kind (r : Rq) (f : Fld) : (putQ r f).kind = r.kind := by unfold putQ; (repeat' split) <;> rfl
theorem foldQ_kind : ∀ (l : List Fld) (r : Rq), (foldQ r l).kind = r.kind
  | [], _ => rfl
  | f :: l, r => by
    have : foldQ r (f :: l) = foldQ (putQ r f) l := rfl
    rw [this, foldQ_kind l, putQ_kind]
/-- a field as0 its rule wants it -/
def FldR (f : Fld) : Prop := 1 ≤ f.tag ∧ f.tag ≤ 9 ∧ fldE (ruleQ f.tag) f = 0
theorem put_getQ (r : Rq) (f : Fld) (hf : FldR f) : fieldQ (putQ r f) f.tag = (f, true) := by
  obtain ⟨t, n, l⟩ := f
  obtain ⟨h1, h2, h3⟩ := hf
  simp only at h1 h2 h3
  rcases itags9 h1 h2 with rfl | rfl | rfl | rfl | rfl | rfl | rfl | rfl | rfl
  all_goals simp [fldE, ruleQ, within] at h3
  all_goals (repeat' (split at h3)) <;> try (simp at h3; done)
  all_goals simp [putQ, fieldQ, uw, IntKind.wrap_i64, IntKind.wrap_u32]
  all_goals simp_all
  all_goals omega
theorem put_otherQ (r : Rq) (f : Fld) {t : Int} (h1 : 1 ≤ t) (h2 : t ≤ 9) (hf : 1 ≤ f.tag ∧ f.tag ≤ 9) (hne : f.tag ≠ t) : fieldQ (putQ r f) t = fieldQ r t := by
  obtain ⟨u, n, l⟩ := f
  simp only at hf hne
  rcases itags9 h1 h2 with rfl | rfl | rfl | rfl | rfl | rfl | rfl | rfl | rfl <;> rcases itags9 hf.1 hf.2 with rfl | rfl | rfl | rfl | rfl | rfl | rfl | rfl | rfl <;> first | exact absurd rfl hne | rfl
theorem fold_otherQ : ∀ (l : List Fld) (r : Rq) {t : Int}, 1 ≤ t → t ≤ 9 → (∀ f ∈ l, (1 ≤ f.tag ∧ f.tag ≤ 9) ∧ f.tag ≠ t) → fieldQ (foldQ r l) t = fieldQ r t
  | [], _, _, _, _, _ => rfl
  | f :: l, r, t, h1, h2, h => by
    have e : foldQ r (f :: l) = foldQ (putQ r f) l := rfl
    rw [e, fold_otherQ l _ h1 h2 (fun g hg => h g (by simp [hg])), put_otherQ r f h1 h2 (h f (by simp)).1 (h f (by simp)).2]
theorem fold_getQ : ∀ (l : List Fld) (r : Rq), (l.map Fld.tag).Pairwise (· < ·) → (∀ f ∈ l, FldR f) → ∀ f ∈ l, fieldQ (foldQ r l) f.tag = (f, true)
  | [], _, _, _, f, hf => by simp at hf
  | g :: l, r, hp, hv, f, hf => by
    rw [List.map_cons] at hp
    have hp1 := (List.pairwise_cons.1 hp).1
    have hp2 := (List.pairwise_cons.1 hp).2
    have e : foldQ r (g :: l) = foldQ (putQ r g) l := rfl
    rw [e]
    rcases List.mem_cons.1 hf with rfl | hf
    · have hg := hv f (by simp)
      rw [fold_otherQ l _ hg.1 hg.2.1 (fun x hx => ⟨⟨(hv x (by simp [hx])).1, (hv x (by simp [hx])).2.1⟩, by have := hp1 x.tag (List.mem_map.2 ⟨x, hx, rfl⟩); omega⟩)]
      exact put_getQ r f hg
    · exact fold_getQ l _ hp2 (fun x hx => hv x (by simp [hx])) f hf
theorem rules_mask {k : Int} (h : maskOf k ≠ 0) : (rulesQ k).2 = 0 := by unfold rulesQ; rw [if_neg h]
theorem dec_fldOk {f : Fld} (h : FldOk f) : 0 ≤ f.num ∧ f.num < 18446744073709551616 ∧ f.txt.length ≤ 2000 := ⟨h.1, h.2.1, by have := h.2.2; omega⟩
theorem Rq_ext {a b : Rq} (ha : RqOk a) (hb : RqOk b) (hk : a.kind = b.kind) (h : ∀ t : Int, 1 ≤ t → t ≤ 9 → (fieldQ a t).1 = (fieldQ b t).1) : a = b := by
  have inj : ∀ {x y : Int}, R64 x → R64 y → uw x = uw y → x = y := by intro x y hx hy he; unfold R64 at hx hy; unfold uw at he; omega
  have h1 := h 1 (by omega) (by omega); have h2 := h 2 (by omega) (by omega); have h3 := h 3 (by omega) (by omega); have h4 := h 4 (by omega) (by omega)
  have h5 := h 5 (by omega) (by omega); have h6 := h 6 (by omega) (by omega); have h7 := h 7 (by omega) (by omega); have h8 := h 8 (by omega) (by omega); have h9 := h 9 (by omega) (by omega)
  have a1 := ha.seat; have a2 := ha.sec; have a3 := ha.n; have a4 := ha.gate
  have b1 := hb.seat; have b2 := hb.sec; have b3 := hb.n; have b4 := hb.gate
  obtain ⟨k, i, o, w, s, t, x, y, z, v⟩ := a
  obtain ⟨k', i', o', w', s', t', x', y', z', v'⟩ := b
  simp [fieldQ] at h1 h2 h3 h4 h5 h6 h7 h8 h9 hk
  subst hk h1 h2 h3 h4 h8
  obtain rfl : x = x' := inj a1 b1 h5
  obtain rfl : y = y' := inj a2 b2 h6
  obtain rfl : z = z' := inj a3 b3 h7
  obtain rfl : v = v' := inj a4 b4 h9
  rfl
theorem nz_none {r : Rq} {t : Int} (h : nzF (fieldQ r t).1 = false) : (fieldQ r t).1 = ⟨t, 0, []⟩ := by
  have ht := fieldQ_tag r t
  generalize (fieldQ r t).1 = f at h ht
  obtain ⟨a, b, c⟩ := f
  simp [nzF] at h ht
  rw [h.1, h.2, ht]
theorem strs_Q {r : Rq} (h : checkQ r = 0) : r.ses.length ≤ 56 ∧ r.tic.length ≤ 56 := by
  have hp := ((check_iff r).1 h).2
  constructor
  · by_cases hm : (3 : Int) ∈ tagL r.kind
    · have := ((hp 3 (by omega) (by omega)).2 hm).2; simp [lbF, ruleQ, fieldQ] at this; omega
    · have := (hp 3 (by omega) (by omega)).1 hm; simp [nzF, fieldQ] at this; rw [this]; simp
  · by_cases hm : (4 : Int) ∈ tagL r.kind
    · have := ((hp 4 (by omega) (by omega)).2 hm).2; simp [lbF, ruleQ, fieldQ] at this; omega
    · have := (hp 4 (by omega) (by omega)).1 hm; simp [nzF, fieldQ] at this; rw [this]; simp
theorem strs_Q500 {r : Rq} (h : checkQ r = 0) : r.ses.length ≤ 500 ∧ r.tic.length ≤ 500 := by have := strs_Q h; omega
theorem tags_of_fields {r : Rq} (h : checkQ r = 0) : (fieldsOf r).1.map Fld.tag = tagL r.kind := by
  rw [fields_list h, List.map_map]
  conv => rhs; rw [← List.map_id (tagL r.kind)]
  apply List.map_congr_left
  intro t _
  exact fieldQ_tag r t
theorem fields_R {r : Rq} (h : checkQ r = 0) : ∀ f ∈ (fieldsOf r).1, FldR f := by
  intro f hf
  rw [fields_list h] at hf
  obtain ⟨t, ht, rfl⟩ := List.mem_map.1 hf
  have hb := (tagL_asc r.kind).2 t ht
  have hn := (((check_iff r).1 h).2 t hb.1 hb.2).2 ht
  unfold FldR
  rw [fieldQ_tag]
  exact ⟨hb.1, hb.2, qfldE hb.1 hb.2 hn.1 hn.2⟩
/-- a request is made of its fields -/
theorem fold_backQ {r : Rq} (hr : RqOk r) (h : checkQ r = 0) : foldQ { zeroQ with kind := r.kind } (fieldsOf r).1 = r := by
  have hk := fieldsOf_kind (r := r) h
  have h5 := fieldsOf_500 hr (strs_Q500 h)
  have ht := tags_of_fields h
  have hR := fields_R h
  refine Rq_ext (foldQ_ok (by have := kindQ_ok r.kind.toNat (by omega); rwa [show ((r.kind.toNat : Nat) : Int) = r.kind from by omega] at this) (fun f hf => dec_fldOk (h5.1 f hf).1)) hr (foldQ_kind _ _) (fun t t1 t2 => ?_)
  by_cases hm : t ∈ tagL r.kind
  · have := fold_getQ (fieldsOf r).1 { zeroQ with kind := r.kind } (by rw [ht]; exact (tagL_asc _).1) hR (fieldQ r t).1 (by rw [fields_list h]; exact List.mem_map.2 ⟨t, hm, rfl⟩)
    rw [fieldQ_tag] at this
    rw [this]
  · rw [nz_none ((((check_iff r).1 h).2 t t1 t2).1 hm)]
    rw [fold_otherQ _ _ t1 t2 (fun f hf => ⟨⟨(hR f hf).1, (hR f hf).2.1⟩, fun e => hm (by rw [← ht, ← e]; exact List.mem_map.2 ⟨f, hf, rfl⟩)⟩)]
    rcases itags9 t1 t2 with rfl | rfl | rfl | rfl | rfl | rfl | rfl | rfl | rfl <;> rfl
/-- what is encoded is decoded -/
theorem round_Q {r : Rq} (hr : RqOk r) (h : checkQ r = 0) : ∃ b, encQ r = (b, 0) ∧ decQ b = (r, 0, 0) ∧ b ≠ [] ∧ b.length ≤ 1024 := by
  have hk := fieldsOf_kind (r := r) h
  have hm := ((check_iff r).1 h).1
  have h5 := fieldsOf_500 hr (strs_Q500 h)
  have hs := strs_Q h
  refine ⟨byt r.kind :: encBy (rulesQ r.kind).1 (fieldsOf r).1, ?_, ?_, by simp, ?_⟩
  · unfold encQ; rw [if_neg (by rw [show (fieldsOf r).2 = 0 from h]; simp), if_neg (by rw [qenc_ok h]; simp)]
  · have hc : ((byt r.kind).toNat : Int) = r.kind := byt_toNat _ hk.1 (by omega)
    rw [decQ, hc, if_neg (by rw [rules_mask hm]; simp), round_law (fun x hx => (h5.1 x hx).1) (qenc_ok h), if_neg (by simp), fold_backQ hr h]
  · have hl : ∀ x ∈ (fieldsOf r).1, FldOk x ∧ x.txt.length ≤ 56 := by
      intro x hx
      refine ⟨(h5.1 x hx).1, ?_⟩
      rw [fields_list h] at hx
      obtain ⟨t, _, rfl⟩ := List.mem_map.1 hx
      unfold fieldQ
      (repeat' split) <;> simp only [List.length_nil] <;> omega
    have key : ∀ (fs : List Fld) (last : Int), (∀ x ∈ fs, FldOk x ∧ x.txt.length ≤ 56) → (encF (rulesQ r.kind).1 last fs).2.length ≤ 59 * fs.length := by
      intro fs
      induction fs with
      | nil => intro last _; simp [encF]
      | cons x fs ih =>
        intro last hx
        have i1 := ih x.tag (fun y hy => hx y (by simp [hy]))
        have i2 := digs_len x.num (hx x (by simp)).1.1 (hx x (by simp)).1.2.1
        have i3 := (hx x (by simp)).2
        have i4 : ∀ q : Rule, (fldB q x).length ≤ 59 := by intro q; unfold fldB; split <;> simp [textI_len] <;> omega
        rw [encF]
        split
        · simp
        · split
          · have := i4 (ruleAt x.tag (rulesQ r.kind).1); simp only [List.length_append, List.length_cons]; omega
          · simp
    obtain ⟨_, _, _, h3⟩ := encode_ok (qenc_ok h)
    have k1 := key (fieldsOf r).1 0 hl
    have k2 := h5.2
    unfold encBy
    rw [List.length_cons, List.length_map, h3]
    omega

end Go.Proofs.YteccglgbkehdeaaGreatDoor
/- What the package-level tables hold, and a start that meets the condition. -/
set_option linter.unusedSimpArgs false
set_option linter.unusedVariables false
namespace Go.Proofs.YteccglgbkehdeaaGreatDoor
open Go.ChangeShapes Go.WideShapes Go.Deep Go.RowKit Go.ChangeAt

def dlaid : List (String × DataW Unit) := [("math/bits.deBruijn32tab", Rows.laid_math_bits_deBruijn32tab), ("math/bits.deBruijn64tab", Rows.laid_math_bits_deBruijn64tab), ("internal/strconv.uint64pow10", Rows.laid_internal_strconv_uint64pow10), ("unicode/utf8.acceptRanges", Rows.laid_unicode_utf8_acceptRanges), ("groundling/requests.masks", Rows.laid_groundling_requests_masks), ("unicode/utf8.first", Rows.laid_unicode_utf8_first)]
theorem own : ownKnob Tryz.prog.godebug = none := by kernel_rfl
theorem door_met (os : Os) (args : Array Value) : laidMetH Tryz.prog dlaid ((World.laidAll Tryz.prog os dlaid).forCall (fun _ _ => 0) ⟨#[], args, []⟩).memory := by
  rw [MakeChecks.laidMetH_plain _ _ _ (by kernel_rfl)]; exact laidMet_laidAll _ (by kernel_rfl) (by kernel_rfl)
theorem laidVars_at {P : Program} {w : World} : ∀ {l : List (String × DataW Unit)} {ps : List MemPlace}, DataW.LaidVars P w l ps → ∀ nd ∈ l, ∃ g t cs fuel p, P.globalNamed nd.1 = some g ∧ (P.globals[g]?).map (·.type) = some t ∧ w.var? P nd.1 = some cs ∧ DataW.trod (fun _ => ()) P w 0 (fun _ => true) false fuel t cs.toList = some (nd.2, p)
  | [], _, _, nd, h => by cases h
  | x :: l, ps, h, nd, hm => by
    obtain ⟨g, t, cs, fuel, p, q, h1, h2, h3, h4, h5, _⟩ := h
    rcases List.mem_cons.1 hm with rfl | hm
    · exact ⟨g, t, cs, fuel, p, h1, h2, h3, h4⟩
    · exact laidVars_at h5 nd hm
/-- cells that read as0 a datum are these cells -/
def Reads (P : Program) (t : TypeId) (d : DataW Unit) (cells : List Value) : Prop := ∀ (w : World) (fuel : Nat) (cs : List Value) (p : List MemPlace), DataW.trod (fun _ => ()) P w 0 (fun _ => true) false fuel t cs = some (d, p) → cs = cells
theorem Reads.int {P : Program} {t : TypeId} {k : IntKind} {z : Int} (ht : P.underlying t = some (.int k)) : Reads P t (.lit (.int k z)) [.int k z] := fun w fuel cs p h => by
  obtain ⟨z', rfl, he, _⟩ := DataW.trod_int ht h
  cases he
  rfl
theorem Reads.str {P : Program} {t : TypeId} {l : List UInt8} (ht : P.underlying t = some .string) : Reads P t (.lit (.string l)) [.string ⟨l.toArray⟩] := fun w fuel cs p h => by
  obtain ⟨⟨s⟩, rfl, he, _⟩ := DataW.trod_string ht h
  cases he
  simp
theorem chunks {sz : Nat} : ∀ (cl : List (List Value)) (cs : List Value), cs.length = cl.length * sz → (∀ i c, cl[i]? = some c → (cs.drop (i * sz)).take sz = c) → cs = cl.flatten
  | [], cs, hl, _ => by simpa using hl
  | c :: cl, cs, hl, h => by
    have h0 := h 0 c rfl
    simp only [Nat.zero_mul, List.drop_zero] at h0
    simp only [List.length_cons, Nat.add_mul, Nat.one_mul] at hl
    have ih := chunks (sz := sz) cl (cs.drop sz) (by rw [List.length_drop]; omega) (fun i c hc => by
      have := h (i + 1) c (by simpa using hc)
      rw [List.drop_drop, show sz + i * sz = (i + 1) * sz from by rw [Nat.add_mul]; omega]
      exact this)
    rw [List.flatten_cons, ← ih, ← h0, List.take_append_drop]
theorem Reads.arr {P : Program} {t e : TypeId} {n sz : Nat} {ds : List (DataW Unit)} {cl : List (List Value)} (ht : P.underlying t = some (.array n e)) (hs : P.cellsOf e = sz) (hct : P.cellsOf t = n * sz) (hn : cl.length = n)
    (h : ∀ (i : Nat) (d : DataW Unit) (c : List Value), ds[i]? = some d → cl[i]? = some c → Reads P e d c) : Reads P t (.agg ds) cl.flatten := fun w fuel cs p hr => by
  obtain ⟨xs, m, _, hx, hcl, hxl, hat⟩ := DataW.trod_array ht hr
  rw [hs] at hat
  have hds : ds = xs.map (·.1) := by have := congrArg Prod.fst hx; simpa using this
  refine chunks (sz := sz) cl cs (by rw [hcl, hct, hn]) (fun i c hc => ?_)
  have hi : i < n := by have := (List.getElem?_eq_some_iff.1 hc).1; omega
  have h1 := hat i hi
  rw [List.getElem?_eq_getElem (by omega)] at h1
  exact h i xs[i].1 c (by rw [hds]; simp [hxl, hi]) hc w m _ xs[i].2 h1
theorem flat1 : ∀ l : List Value, (l.map fun v => [v]).flatten = l
  | [] => rfl
  | v :: l => by rw [List.map_cons, List.flatten_cons, flat1 l]; rfl
def tabDs : DataW Unit → List (DataW Unit)
  | .agg ds => ds
  | _ => []
theorem tab_of_mem {P : Program} {W : World} {l : List (String × DataW Unit)} {name : String} {dt : DataW Unit} {cells : List Value} {g : Nat} {t : TypeId}
    (hg : P.globalNamed name = some g) (hty : (P.globals[g]?).map (·.type) = some t) (hr : Reads P t dt cells) (hm : (name, dt) ∈ l) (h : laidMet P l W) : ∃ T fr, W.heap[g]? = some (.cells cells.toArray T fr) := by
  obtain ⟨ps, hv, _⟩ := h
  obtain ⟨g', t', cs, fuel, p, hg', ht', hvar, hd⟩ := laidVars_at hv _ hm
  obtain rfl := Option.some.inj (hg.symm.trans hg')
  obtain rfl := Option.some.inj (hty.symm.trans ht')
  have hcs := hr W fuel _ p hd
  unfold World.var? at hvar
  dsimp only at hvar hg'
  rw [hg', Option.bind_some] at hvar
  cases hb : W.heap[g]? with
  | none => rw [hb] at hvar; cases hvar
  | some o =>
    rw [hb] at hvar
    cases o with
    | cells c T fr =>
      simp only [Option.some.injEq] at hvar
      subst hvar
      exact ⟨T, fr, by rw [← hcs]⟩
    | _ => cases hvar
theorem reads3 : Reads Tryz.prog 317 Rows.laid_internal_strconv_uint64pow10 (Lib.pow10Tab.map (Value.int .u64)) := by
  have h := Reads.arr (sz := 1) (cl := (Lib.pow10Tab.map (Value.int .u64)).map fun v => [v]) (ds := tabDs Rows.laid_internal_strconv_uint64pow10) Tryz.underlying317 (by kernel_rfl) (by kernel_rfl) (by rfl) (fun i d c hd hc => by
    match i, hd, hc with
    | 0, hd, hc => cases hd; cases hc; exact Reads.int Tryz.underlying41
    | 1, hd, hc => cases hd; cases hc; exact Reads.int Tryz.underlying41
    | 2, hd, hc => cases hd; cases hc; exact Reads.int Tryz.underlying41
    | 3, hd, hc => cases hd; cases hc; exact Reads.int Tryz.underlying41
    | 4, hd, hc => cases hd; cases hc; exact Reads.int Tryz.underlying41
    | 5, hd, hc => cases hd; cases hc; exact Reads.int Tryz.underlying41
    | 6, hd, hc => cases hd; cases hc; exact Reads.int Tryz.underlying41
    | 7, hd, hc => cases hd; cases hc; exact Reads.int Tryz.underlying41
    | 8, hd, hc => cases hd; cases hc; exact Reads.int Tryz.underlying41
    | 9, hd, hc => cases hd; cases hc; exact Reads.int Tryz.underlying41
    | 10, hd, hc => cases hd; cases hc; exact Reads.int Tryz.underlying41
    | 11, hd, hc => cases hd; cases hc; exact Reads.int Tryz.underlying41
    | 12, hd, hc => cases hd; cases hc; exact Reads.int Tryz.underlying41
    | 13, hd, hc => cases hd; cases hc; exact Reads.int Tryz.underlying41
    | 14, hd, hc => cases hd; cases hc; exact Reads.int Tryz.underlying41
    | 15, hd, hc => cases hd; cases hc; exact Reads.int Tryz.underlying41
    | 16, hd, hc => cases hd; cases hc; exact Reads.int Tryz.underlying41
    | 17, hd, hc => cases hd; cases hc; exact Reads.int Tryz.underlying41
    | 18, hd, hc => cases hd; cases hc; exact Reads.int Tryz.underlying41
    | 19, hd, hc => cases hd; cases hc; exact Reads.int Tryz.underlying41
    | j + 20, hd, hc => exact absurd (show j + 20 < 20 from (List.getElem?_eq_some_iff.1 hc).1) (by omega))
  rw [flat1] at h
  exact h
theorem reads2 : Reads Tryz.prog 303 Rows.laid_groundling_requests_masks (maskTab.map (Value.int .u16)) := by
  have h := Reads.arr (sz := 1) (cl := (maskTab.map (Value.int .u16)).map fun v => [v]) (ds := tabDs Rows.laid_groundling_requests_masks) Tryz.underlying303 (by kernel_rfl) (by kernel_rfl) (by rfl) (fun i d c hd hc => by
    match i, hd, hc with
    | 0, hd, hc => cases hd; cases hc; exact Reads.int Tryz.underlying75
    | 1, hd, hc => cases hd; cases hc; exact Reads.int Tryz.underlying75
    | 2, hd, hc => cases hd; cases hc; exact Reads.int Tryz.underlying75
    | 3, hd, hc => cases hd; cases hc; exact Reads.int Tryz.underlying75
    | 4, hd, hc => cases hd; cases hc; exact Reads.int Tryz.underlying75
    | 5, hd, hc => cases hd; cases hc; exact Reads.int Tryz.underlying75
    | 6, hd, hc => cases hd; cases hc; exact Reads.int Tryz.underlying75
    | 7, hd, hc => cases hd; cases hc; exact Reads.int Tryz.underlying75
    | 8, hd, hc => cases hd; cases hc; exact Reads.int Tryz.underlying75
    | 9, hd, hc => cases hd; cases hc; exact Reads.int Tryz.underlying75
    | 10, hd, hc => cases hd; cases hc; exact Reads.int Tryz.underlying75
    | 11, hd, hc => cases hd; cases hc; exact Reads.int Tryz.underlying75
    | 12, hd, hc => cases hd; cases hc; exact Reads.int Tryz.underlying75
    | 13, hd, hc => cases hd; cases hc; exact Reads.int Tryz.underlying75
    | j + 14, hd, hc => exact absurd (show j + 14 < 14 from (List.getElem?_eq_some_iff.1 hc).1) (by omega))
  rw [flat1] at h
  exact h
theorem amb_of_laid {W : World} (h : laidMetH Tryz.prog dlaid W) : Amb (cx0 W).pr W := by
  rw [MakeChecks.laidMetH_plain _ _ _ (by kernel_rfl)] at h
  refine Amb.of_heap (fun p hp => ?_)
  have h3 := tab_of_mem (name := "internal/strconv.uint64pow10") (g := 3) (t := 317) (by kernel_rfl) (by kernel_rfl) reads3 (show _ ∈ dlaid from List.mem_cons_of_mem _ (List.mem_cons_of_mem _ (List.mem_cons_self ..))) h
  have h2 := tab_of_mem (name := "groundling/requests.masks") (g := 2) (t := 303) (by kernel_rfl) (by kernel_rfl) reads2 (show _ ∈ dlaid from List.mem_cons_of_mem _ (List.mem_cons_of_mem _ (List.mem_cons_of_mem _ (List.mem_cons_of_mem _ (List.mem_cons_self ..))))) h
  simp only [tabs, List.mem_cons, List.not_mem_nil, or_false] at hp
  rcases hp with rfl | rfl
  · exact ⟨by decide, h3⟩
  · exact ⟨by decide, h2⟩
end Go.Proofs.YteccglgbkehdeaaGreatDoor
