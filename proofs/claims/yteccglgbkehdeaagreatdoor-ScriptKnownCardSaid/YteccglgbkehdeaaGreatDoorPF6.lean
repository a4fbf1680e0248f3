/- Texts of this claim, merged (SU to UE); no condition. -/
import Derived.Test.YteccglgbkehdeaaGreatDoorPF5
set_option linter.unusedSimpArgs false
set_option linter.unusedVariables false
namespace Go.Proofs.YteccglgbkehdeaaGreatDoor
theorem exSc_sm : exSc.sm := by
  refine ⟨⟨by decide, by decide⟩, by decide, by decide, by decide, by decide, fun c hc => ?_, by decide⟩
  simp only [exSc, List.mem_cons, List.not_mem_nil, or_false] at hc
  rcases hc with rfl | rfl
  · refine ⟨?_, ?_, ?_, ?_, ?_, ?_, ?_, ?_, ?_, ?_, ?_⟩ <;> first | (unfold R64; decide) | decide
  · refine ⟨?_, ?_, ?_, ?_, ?_, ?_, ?_, ?_, ?_, ?_, ?_⟩ <;> first | (unfold R64; decide) | decide
def exEvs2 : List SrE := [⟨1, 0, 1⟩, ⟨1, 0, 2⟩, ⟨4, 5, 0⟩, ⟨2, 0, 0⟩]
def exSc2 : Sc := { exSc with evs := exEvs2 }
theorem exSc2_sm : exSc2.sm := ⟨exSc_sm.ven, exSc_sm.gl, exSc_sm.gs, exSc_sm.key, exSc_sm.cl, exSc_sm.cs, by decide⟩
theorem exSc_cp : exSc.cp := ⟨by decide, by decide, by decide, by decide, by decide⟩
def tickL (l : List SrE) : Bool := l.any fun x => decide (x.kind = 4)
def exC1 : SrC := ⟨1, 7, 0, 0, 0, 0, 0, 0, 0, 0, []⟩
theorem exC1_ok : exC1.ok := exSc_sm.cs _ (by simp [exSc, exC1])
theorem ex_size : sizeS exSc = ((4, 1, 2, 5), 0) := by decide +kernel
theorem ex_shrink : shrinkS tickL exSc 100 = ({ exSc with evs := [⟨4, 5, 0⟩] }, 5, 0) := by decide +kernel
theorem ex_pay : payS exC1 9 [] [] = ([1, 1, 1, 9, 2, 1, 7], 0) := by decide +kernel
theorem ex_check2 : checkS exSc2 = ([101, 118, 101, 110, 116, 32, 49], 8) := by
  have h : Lib.itoa 1 = [49] := by unfold Lib.itoa; rw [if_neg (by decide)]; rw [Lib.decDigits]; decide
  have h1 : ∀ k ks l, chkGo exSc2 k ks l = chkGo exSc2 k ks l := fun _ _ _ => rfl
  have h2 : (baseS exSc2).2 = 0 := by decide +kernel
  have e0 : evT exSc2 [] ⟨1, 0, 1⟩ = 0 := by decide +kernel
  have e1 : evT exSc2 [0] ⟨1, 0, 2⟩ = 8 := by decide +kernel
  unfold checkS
  rw [if_neg (by simp [h2]), if_neg (by decide)]
  show chkGo exSc2 0 [] exEvs2 = _
  unfold exEvs2
  rw [chkGo, if_neg (by simp [e0]), chkGo]
  show (if evT exSc2 [0] ⟨1, 0, 2⟩ ≠ 0 then (partT [101, 118, 101, 110, 116] ((0 + 1 : Nat) : Int), evT exSc2 [0] ⟨1, 0, 2⟩) else _) = _
  rw [e1, if_pos (by decide)]
  unfold partT
  rw [show (((0 + 1 : Nat)) : Int) = 1 from rfl, h]
  rfl
theorem awake_P : PC Tryz.prog 13 [] (.b true) := by
 refine ⟨LC.of_go Tryz.func13 (c := _) rfl (by kernel_rfl) (by rw [Tryz.ntmps13]; simp) rfl rfl (by simp [LO.lt, LV.lts, LV.lt, lts_sv]) (by simp) ?_⟩
 intro B hA hmd
 refine .seq ?_
 refine .region rfl ?_
 refine R.assign (h := ?_)
 refine .n0 ?_
 refine .seq ?_
 refine .region rfl ?_
 refine R.callX (es := []) [] exSc_L (h := ?_)
 refine R.alloc Z29 (h := ?_)
 refine R.storeA A29 (h := ?_)
 refine .n0 ?_
 refine .seq ?_
 refine .region rfl ?_
 first | refine R.loadA A29 (h := ?_) | refine R.loadN A29 (h := ?_) | refine R.loadP A29 (h := ?_)
 refine R.callVA (es := [_]) (lvs := [.agg (exSc.c.map LV.sv)]) (rd := [(0, .rs 58 3 (exEvs.map SrE.c))]) (fun _ => sizeS_P exSc exSc_sm) (hrd := oneL rfl) (h := ?_)
 rw [ex_size]
 refine R.move (h := ?_)
 refine R.extract (h := ?_)
 refine R.extract (h := ?_)
 refine R.alloc Z62 (h := ?_)
 refine R.storeA A62 (h := ?_)
 refine R.assign (h := ?_)
 refine .n0 ?_
 refine .seq ?_
 refine .region rfl ?_
 first | refine R.loadA A29 (h := ?_) | refine R.loadN A29 (h := ?_) | refine R.loadP A29 (h := ?_)
 refine R.callX (es := [_, _, _]) [0] (shrinkO_L exSc exSc_sm exSc_cp (ff := 38) (pf := tickL) (by decide) (fun _ es hes => ticks_P { exSc with evs := es } (by have := hes.length_le; have h4 : exSc.evs.length = 4 := rfl; unfold maxLen; dsimp only; omega)) 100 (by unfold R64; decide)) (h := ?_)
 rw [ex_shrink]
 refine R.move (h := ?_)
 refine R.extract (h := ?_)
 refine R.extract (h := ?_)
 refine R.extract (h := ?_)
 refine R.alloc Z29 (h := ?_)
 refine R.storeA A29 (h := ?_)
 refine R.assign (h := ?_)
 refine R.assign (h := ?_)
 refine .n0 ?_
 refine .seq ?_
 refine .region rfl ?_
 first | refine R.field F29_4 (h := ?_) | refine R.fieldAt F29_4 (h := ?_)
 first | refine R.loadB O26 (h := ?_) | refine R.load1 O26 (h := ?_)
 refine R.index I26 (hj := fun hg => ⟨by omega, rfl⟩) (h := ?_)
 first | refine R.loadA A40 (h := ?_) | refine R.loadN A40 (h := ?_) | refine R.loadP A40 (h := ?_)
 refine R.callP (es := [_, _, _, _]) (fun _ => payS_P exC1 exC1_ok 9 (by decide) [] [] (Nat.zero_le _) (Nat.zero_le _)) (h := ?_)
 rw [ex_pay]
 refine R.move (h := ?_)
 refine R.extract (h := ?_)
 refine R.extract (h := ?_)
 refine R.assign (h := ?_)
 refine R.assign (h := ?_)
 refine .n0 ?_
 refine .seq ?_
 refine .region rfl ?_
 first | refine R.field F29_5 (h := ?_) | refine R.fieldAt F29_5 (h := ?_)
 first | refine R.loadB O27 (h := ?_) | refine R.load1 O27 (h := ?_)
 refine R.build BF58 (is := [0, 2]) (xs := [_, _]) (es := [_, _]) (h := ?_)
 refine R.indexRs I27 (hj := fun _ => ⟨by decide, by decide⟩) (h := ?_)
 refine R.storeRsN A58 1 (SrE.c ⟨1, 0, 2⟩) (h1 := rfl) (hj := by decide) (h := ?_)
 refine .n0 ?_
 refine .seq ?_
 refine .region rfl ?_
 first | refine R.loadA A29 (h := ?_) | refine R.loadN A29 (h := ?_) | refine R.loadP A29 (h := ?_)
 refine R.callVA (es := [_]) (lvs := [.agg (exSc2.c.map LV.sv)]) (rd := [(0, .rs 58 3 (exEvs2.map SrE.c))]) (fun _ => checkS_P exSc2 exSc2_sm) (hrd := oneL rfl) (h := ?_)
 rw [ex_check2]
 refine R.move (h := ?_)
 refine R.extract (h := ?_)
 refine R.extract (h := ?_)
 refine R.assign (h := ?_)
 refine R.assign (h := ?_)
 refine .n0 ?_
 refine .seq ?_
 refine .region rfl ?_
 refine R.move (h := ?_)
 refine R.bin (run_eql _ _ _ _ _ _) (h := ?_)
 refine R.move (h := ?_)
 refine R.move (h := ?_)
 refine R.bin (run_eql _ _ _ _ _ _) (h := ?_)
 refine R.and (h := ?_)
 refine R.move (h := ?_)
 refine R.move (h := ?_)
 refine R.bin (run_eql _ _ _ _ _ _) (h := ?_)
 refine R.and (h := ?_)
 refine R.move (h := ?_)
 refine R.move (h := ?_)
 refine R.bin (run_eql _ _ _ _ _ _) (h := ?_)
 refine R.and (h := ?_)
 refine R.move (h := ?_)
 first | refine R.loadA A62 (h := ?_) | refine R.loadN A62 (h := ?_) | refine R.loadP A62 (h := ?_)
 refine R.build BF62 (is := [0, 1, 2, 3]) (xs := [_, _, _, _]) (es := [_, _, _, _]) (h := ?_)
 refine R.binA (EQ62 _ _ _ _ _ _ _ _ _ _) (h := ?_)
 refine R.and (h := ?_)
 refine R.move (h := ?_)
 refine R.move (h := ?_)
 refine R.bin (run_eql _ _ _ _ _ _) (h := ?_)
 refine R.and (h := ?_)
 refine R.move (h := ?_)
 first | refine R.field F29_5 (h := ?_) | refine R.fieldAt F29_5 (h := ?_)
 first | refine R.loadB O27 (h := ?_) | refine R.load1 O27 (h := ?_)
 first | refine R.len S27 (h := ?_) | refine R.lenRs S27 (h := ?_) | refine R.lenV (run_lenNil S27) (h := ?_)
 refine R.bin (run_eql _ _ _ _ _ _) (h := ?_)
 refine R.and (h := ?_)
 refine R.move (h := ?_)
 first | refine R.field F29_5 (h := ?_) | refine R.fieldAt F29_5 (h := ?_)
 first | refine R.loadB O27 (h := ?_) | refine R.load1 O27 (h := ?_)
 refine R.index I27 (hj := fun hg => ⟨by (simp at hg; omega), rfl⟩) (h := ?_)
 first | refine R.loadA A58 (h := ?_) | refine R.loadN A58 (h := ?_) | refine R.loadP A58 (h := ?_)
 refine R.build BF58 (is := [0, 1]) (xs := [_, _]) (es := [_, _]) (h := ?_)
 refine R.binA (EQ58 _ _ _ _ _ _ _ _) (h := ?_)
 refine R.and (h := ?_)
 refine R.move (h := ?_)
 refine R.move (h := ?_)
 refine R.toString Tryz.underlying44 Tryz.underlying5 Tryz.underlying9 (h := ?_)
 refine R.bin (run_eqlT _ _ _ _ _) (h := ?_)
 refine R.and (h := ?_)
 refine R.move (h := ?_)
 refine R.move (h := ?_)
 refine R.bin (run_eqlT _ _ _ _ _) (h := ?_)
 refine R.and (h := ?_)
 refine R.assign (h := ?_)
 refine .n0 ?_
 exact LGo.ret (ret_T Tryz.results13 hA hmd)
/-- the places of a row, of a section's rows, of sections -/
def plC (i k n : Int) : List SV := [.val (.int .i64 i), .val (.int .i64 k), .val (.int .i64 n)]
def plRow (i k : Int) (m : Nat) : List (List SV) := (List.range m).map fun (n : Nat) => plC i k n
def plRows (i : Int) : Nat → List Int → List (List SV)
  | _, [] => []
  | k, n :: r => plRow i k n.toNat ++ plRows i (k + 1) r
def plSecs : Nat → List VnS → List (List SV)
  | _, [] => []
  | i, x :: r => plRows i 0 x.rows ++ plSecs (i + 1) r
theorem plRow_len (i k : Int) (m : Nat) : (plRow i k m).length = m := by unfold plRow; rw [List.length_map, List.length_range]
theorem foldl_add (l : List Int) : ∀ a : Int, l.foldl (fun a n => a + n) a = a + l.foldl (fun a n => a + n) 0 := by
  induction l with
  | nil => intro a; simp
  | cons x l ih => intro a; rw [List.foldl_cons, List.foldl_cons, ih (a + x), ih (0 + x)]; omega
theorem plRows_len (i : Int) : ∀ (l : List Int) (k : Nat), (∀ n ∈ l, 1 ≤ n ∧ n ≤ 64) → ((plRows i k l).length : Int) = l.foldl (fun a n => a + n) 0 ∧ (plRows i k l).length ≤ 64 * l.length
  | [], k, _ => ⟨rfl, Nat.zero_le _⟩
  | n :: r, k, h => by
    obtain ⟨h1, h2⟩ := plRows_len i r (k + 1) (fun m hm => h m (List.mem_cons_of_mem _ hm))
    have hn := h n (by simp)
    rw [plRows, List.length_append, plRow_len, List.foldl_cons, foldl_add, List.length_cons]
    omega
def goodV (x : VnS) : Prop := x.rows.length ≤ 16 ∧ ∀ n ∈ x.rows, 1 ≤ n ∧ n ≤ 64
theorem plSecs_len : ∀ (l : List VnS) (i : Nat), (∀ x ∈ l, goodV x) → ∀ a : Int, a + ((plSecs i l).length : Int) = l.foldl (fun a x => x.rows.foldl (fun a n => a + n) a) a ∧ (plSecs i l).length ≤ 1024 * l.length
  | [], i, _, a => by simp [plSecs]
  | x :: r, i, h, a => by
    have hx := h x (by simp)
    obtain ⟨h1, h2⟩ := plRows_len i x.rows 0 hx.2
    obtain ⟨h3, h4⟩ := plSecs_len r (i + 1) (fun y hy => h y (List.mem_cons_of_mem _ hy)) (x.rows.foldl (fun a n => a + n) a)
    rw [plSecs, List.length_append, List.foldl_cons, List.length_cons, ← h3, foldl_add x.rows a]
    have := hx.1
    omega
/-- the check of a venue in two steps: its sections one by one, then all places -/
def secGo : Nat → List VnS → List VnS → Option (Int × Int)
  | _, _, [] => none
  | k, bf, x :: r => if checkV x bf ≠ 0 then some (k, checkV x bf) else secGo (k + 1) (bf ++ [x]) r
theorem secGo_good : ∀ (l : List VnS) (k : Nat) (bf : List VnS), secGo k bf l = none → ∀ x ∈ l, goodV x
  | [], _, _, _, x, hx => by cases hx
  | y :: l, k, bf, h, x, hx => by
    rw [secGo] at h
    split at h
    · cases h
    · rename_i h1
      rcases List.mem_cons.1 hx with rfl | hx
      · exact checkV_0 (Decidable.of_not_not h1)
      · exact secGo_good l _ _ h x hx
theorem venGo_two : ∀ (l : List VnS) (k : Nat) (bf : List VnS) (a : Int), venGo k bf a l = match secGo k bf l with
    | some r => r
    | none => if 4096 < l.foldl (fun a x => x.rows.foldl (fun a n => a + n) a) a then (-1, 3) else (0, 0)
  | [], _, _, _ => rfl
  | x :: l, k, bf, a => by
    rw [venGo, secGo]
    split
    · rfl
    · rw [venGo_two l]; rfl
theorem ven_places {l : List VnS} (h : secGo 0 [] l = none) : venGo 0 [] 0 l = if 4096 < ((plSecs 0 l).length : Int) then (-1, 3) else (0, 0) := by
  rw [venGo_two, h]
  dsimp only
  rw [← (plSecs_len l 0 (secGo_good l _ _ h) 0).1, Int.zero_add]
theorem ven_some {l : List VnS} {r : Int × Int} (h : secGo 0 [] l = some r) : venGo 0 [] 0 l = r := by rw [venGo_two, h]
def finV (n : Nat) : Option (Int × Int) → Int × Int
  | some r => r
  | none => if 4096 < (n : Int) then (-1, 3) else (0, 0)
theorem ven_fin (l : List VnS) : venGo 0 [] 0 l = finV (plSecs 0 l).length (secGo 0 [] l) := by
  cases h : secGo 0 [] l with
  | none => exact ven_places h
  | some r => exact ven_some h
theorem inS_outI (n lo hi : Int) : (!inS n lo hi) = outI n lo hi := inS_out n lo hi
theorem vsub {l : List VnS} {k : Nat} (h : k < l.length) : l.take (k + 1) = l.take k ++ [l[k]] := List.take_succ_eq_append_getElem h
theorem withinR_P (n a b : Int) : PC Tryz.prog 167 [.i n, .i a, .i b] (.b (inS n a b)) := by
 refine ⟨LC.of_go Tryz.func167 (c := _) rfl (by kernel_rfl) (by rw [Tryz.ntmps167]; simp) rfl rfl (by simp [LO.lt, LV.lts, LV.lt, lts_sv]) (by simp) ?_⟩
 intro B hA hmd
 refine .seq ?_
 refine .region rfl ?_
 refine R.assign (h := ?_)
 refine .n0 ?_
 refine .seq ?_
 refine .region rfl ?_
 refine R.move (h := ?_)
 refine R.move (h := ?_)
 refine R.bin (run_geq _ _ _ _ _ _) (h := ?_)
 refine R.move (h := ?_)
 refine R.move (h := ?_)
 refine R.move (h := ?_)
 refine R.bin (run_leq _ _ _ _ _ _) (h := ?_)
 refine R.and (h := ?_)
 refine R.assign (h := ?_)
 refine .n0 ?_
 exact LGo.ret (ret_T Tryz.results167 hA hmd)
theorem sectionR_P (v : Ven) (hv : SmV v) (i : Nat) (hi : i < v.secs.length) : PC Tryz.prog 168 [.agg (v.c.map LV.sv), .i i] (.i (checkV v.secs[i] (v.secs.take i))) := by
 refine ⟨LC.of_go Tryz.func168 (c := _) rfl (by kernel_rfl) (by rw [Tryz.ntmps168]; simp) rfl rfl (by simp [LO.lt, LV.lts, LV.lt, lts_sv]) (by simp) ?_⟩
 intro B hA hmd
 obtain ⟨hs1, hs2⟩ := hv
 have hx : (v.secs.map VnS.c)[((i : Nat) : Int).toNat]? = some v.secs[i].c := by simp [hi]
 have hxm := List.getElem_mem hi
 generalize v.secs[i] = z at hx hxm ⊢
 obtain ⟨g, e1⟩ : ∃ g, checkV z (v.secs.take i) = g := ⟨_, rfl⟩
 rw [e1]
 unfold checkV at e1
 refine .seq ?_
 refine .region rfl ?_
 refine R.box (h := ?_)
 refine R.assign (h := ?_)
 refine .n0 ?_
 refine .seq ?_
 refine .region rfl ?_
 first | refine R.field F24_3 (h := ?_) | refine R.fieldAt F24_3 (h := ?_)
 first | refine R.loadB O22 (h := ?_) | refine R.load1 O22 (h := ?_)
 refine R.move (h := ?_)
 refine R.index I22 (hj := fun hg => ⟨by omega, hx⟩) (h := ?_)
 first | refine R.loadA A80 (h := ?_) | refine R.loadN A80 (h := ?_) | refine R.loadP A80 (h := ?_)
 refine R.alloc Z80 (h := ?_)
 refine R.storeA A80 (h := ?_)
 refine .n0 ?_
 refine .seq ?_
 refine .seq ?_
 refine .region rfl ?_
 first | refine R.field F80_0 (h := ?_) | refine R.fieldAt F80_0 (h := ?_)
 first | refine R.loadB O9 (h := ?_) | refine R.load1 O9 (h := ?_)
 refine R.callP (es := [_]) (fun _ => nameR_P z.name (hs2 z hxm)) (h := ?_)
 refine R.not (h := ?_)
 refine .n0 ?_
 refine LGo.ifb (ht := fun hc => ?_) (hf := fun hc => ?_)
 ·
  rw [if_pos hc] at e1
  rw [← e1]
  refine .seq ?_
  refine .region rfl ?_
  refine R.assign (h := ?_)
  refine .n0 ?_
  exact LGo.ret (ret_T Tryz.results168 hA hmd)
 ·
  rw [if_neg (by rw [hc]; simp)] at e1
  refine .skip ?_
  refine .seq ?_
  refine .seq ?_
  refine .region rfl ?_
  refine R.assign (h := ?_)
  refine .n0 ?_
  refine .block ?_
  refine .loop ?_
  refine LGo.loopG (σ := Nat) (fun x => x ≤ i ∧ (if (((v.secs.take i).drop x).any fun y => decide (y.name = z.name)) = true then 8 else (if (z.rows.length : Int) = 0 then 6 else if 16 < (z.rows.length : Int) then 3 else if (z.rows.any fun n => outI n 1 64) = true then 7 else if outI z.queue 0 64 = true then 7 else 0)) = g) (fun x => [(6, (true, .i (x : Nat)))]) (fun x => [(0, .box 24 (v.c.map LV.sv)), (1, .box 80 (z.c.map LV.sv))]) (fun x => i - x) (0) [(1, _), (2, _), (5, _)] ⟨Nat.zero_le _, e1⟩ (by repeat (first | exact trivial | refine ⟨rfl, ?_⟩)) (by repeat (first | exact trivial | refine ⟨rfl, ?_⟩)) (by repeat (first | exact trivial | refine ⟨rfl, ?_⟩)) ?_
  rintro k ⟨hk, hq⟩ ih
  refine .seq ?_
  refine .seq ?_
  refine .region rfl ?_
  refine R.move (h := ?_)
  refine R.move (h := ?_)
  refine R.bin (run_lss _ _ _ _ _ _) (h := ?_)
  refine .n0 ?_
  refine LGo.ifd (ht := fun hc2 => ?_) (hf := fun hc2 => ?_)
  ·
   have hki : k < i := by omega
   have hkl : k < v.secs.length := by omega
   have hy : (v.secs.map VnS.c)[((k : Nat) : Int).toNat]? = some v.secs[k].c := by simp [hkl]
   rw [drop_take hkl hki, List.any_cons] at hq
   generalize v.secs[k] = y at hy hq
   refine .skip ?_
   refine .seq ?_
   refine .block ?_
   refine .seq ?_
   refine .region rfl ?_
   first | refine R.field F24_3 (h := ?_) | refine R.fieldAt F24_3 (h := ?_)
   first | refine R.loadB O22 (h := ?_) | refine R.load1 O22 (h := ?_)
   refine R.move (h := ?_)
   refine R.index I22 (hj := fun hg => ⟨by omega, hy⟩) (h := ?_)
   first | refine R.field F80_0 (h := ?_) | refine R.fieldAt F80_0 (h := ?_)
   first | refine R.loadB O9 (h := ?_) | refine R.load1 O9 (h := ?_)
   first | refine R.field F80_0 (h := ?_) | refine R.fieldAt F80_0 (h := ?_)
   first | refine R.loadB O9 (h := ?_) | refine R.load1 O9 (h := ?_)
   refine R.bin (run_eqlT _ _ _ _ _) (h := ?_)
   refine Reg.nil ⟨fun _ => ⟨mixedO, by rfl, by rfl⟩, ?_⟩
   refine LGo.ifd (ht := fun hc3 => ?_) (hf := fun hc3 => ?_)
   ·
    rw [decide_eq_true hc3, Bool.true_or, if_pos rfl] at hq
    rw [← hq]
    refine .seq ?_
    refine .region rfl ?_
    refine R.assign (h := ?_)
    refine .n0 ?_
    exact LGo.ret (ret_T Tryz.results168 hA hmd)
   ·
    rw [decide_eq_false hc3, Bool.false_or] at hq
    refine .skip ?_
    refine .inBlock ?_
    refine .region rfl ?_
    refine R.move (h := ?_)
    first | refine R.add (h := ?_) | refine R.addW (h := ?_)
    refine R.assign (h := ?_)
    refine .n0 ?_
    refine .inLoop ?_
    exact LGo.next _ (fun o h => by have := (hA o).1 h; omega) (by omega) (ih (k + 1) ⟨by omega, hq⟩ (by omega)) (by repeat (first | exact trivial | refine ⟨rfl, ?_⟩)) ⟨rfl, rfl, trivial⟩
  ·
   rw [List.drop_eq_nil_of_le (show (v.secs.take i).length ≤ k by rw [List.length_take]; omega), List.any_nil, if_neg (by simp)] at hq
   have e1 := hq
   clear hq
   refine .exit rfl ?_
   refine .seq ?_
   refine .seq ?_
   refine .region rfl ?_
   first | refine R.field F80_1 (h := ?_) | refine R.fieldAt F80_1 (h := ?_)
   first | refine R.loadB O65 (h := ?_) | refine R.load1 O65 (h := ?_)
   first | refine R.len S65 (h := ?_) | refine R.lenRs S65 (h := ?_) | refine R.lenV (run_lenNil S65) (h := ?_)
   rw [ic_len]
   refine R.bin (run_eql _ _ _ _ _ _) (h := ?_)
   refine .n0 ?_
   refine LGo.ifd (ht := fun hc4 => ?_) (hf := fun hc4 => ?_)
   ·
    rw [if_pos hc4] at e1
    rw [← e1]
    refine .seq ?_
    refine .region rfl ?_
    refine R.assign (h := ?_)
    refine .n0 ?_
    exact LGo.ret (ret_T Tryz.results168 hA hmd)
   ·
    rw [if_neg hc4] at e1
    refine .skip ?_
    refine .seq ?_
    refine .seq ?_
    refine .region rfl ?_
    first | refine R.field F80_1 (h := ?_) | refine R.fieldAt F80_1 (h := ?_)
    first | refine R.loadB O65 (h := ?_) | refine R.load1 O65 (h := ?_)
    first | refine R.len S65 (h := ?_) | refine R.lenRs S65 (h := ?_) | refine R.lenV (run_lenNil S65) (h := ?_)
    rw [ic_len]
    refine R.bin (run_gtr _ _ _ _ _ _) (h := ?_)
    refine .n0 ?_
    refine LGo.ifd (ht := fun hc5 => ?_) (hf := fun hc5 => ?_)
    ·
     rw [if_pos (by omega)] at e1
     rw [← e1]
     refine .seq ?_
     refine .region rfl ?_
     refine R.assign (h := ?_)
     refine .n0 ?_
     exact LGo.ret (ret_T Tryz.results168 hA hmd)
    ·
     rw [if_neg (by omega)] at e1
     refine .skip ?_
     refine .seq ?_
     refine .seq ?_
     refine .region rfl ?_
     refine R.assign (h := ?_)
     refine .n0 ?_
     refine .block ?_
     refine .loop ?_
     refine LGo.loopG (σ := Nat) (fun x => x ≤ z.rows.length ∧ (if ((z.rows.drop x).any fun n => outI n 1 64) = true then 7 else if outI z.queue 0 64 = true then 7 else 0) = g) (fun x => [(7, (true, .i (x : Nat)))]) (fun x => [(0, .box 24 (v.c.map LV.sv)), (1, .box 80 (z.c.map LV.sv))]) (fun x => z.rows.length - x) (0) [(5, _)] ⟨Nat.zero_le _, e1⟩ (by repeat (first | exact trivial | refine ⟨rfl, ?_⟩)) (by repeat (first | exact trivial | refine ⟨rfl, ?_⟩)) (by repeat (first | exact trivial | refine ⟨rfl, ?_⟩)) ?_
     rintro j ⟨hj, hq⟩ ih2
     refine .seq ?_
     refine .seq ?_
     refine .region rfl ?_
     refine R.move (h := ?_)
     first | refine R.field F80_1 (h := ?_) | refine R.fieldAt F80_1 (h := ?_)
     first | refine R.loadB O65 (h := ?_) | refine R.load1 O65 (h := ?_)
     first | refine R.len S65 (h := ?_) | refine R.lenRs S65 (h := ?_) | refine R.lenV (run_lenNil S65) (h := ?_)
     rw [ic_len]
     refine R.bin (run_lss _ _ _ _ _ _) (h := ?_)
     refine .n0 ?_
     refine LGo.ifd (ht := fun hc6 => ?_) (hf := fun hc6 => ?_)
     ·
      have hlt : j < z.rows.length := by omega
      have hzn := icA hlt
      rw [List.drop_eq_getElem_cons hlt, List.any_cons] at hq
      generalize z.rows[j] = n at hzn hq
      refine .skip ?_
      refine .seq ?_
      refine .block ?_
      refine .seq ?_
      refine .region rfl ?_
      first | refine R.field F80_1 (h := ?_) | refine R.fieldAt F80_1 (h := ?_)
      first | refine R.loadB O65 (h := ?_) | refine R.load1 O65 (h := ?_)
      refine R.move (h := ?_)
      refine R.index I65 (hj := fun hg => ⟨by omega, hzn⟩) (h := ?_)
      first | refine R.loadB O3 (h := ?_) | refine R.load1 O3 (h := ?_)
      refine R.callP (es := [_, _, _]) (fun _ => withinR_P n 1 64) (h := ?_)
      refine R.not (h := ?_)
      rw [inS_outI]
      refine .n0 ?_
      refine LGo.ifb (ht := fun hc7 => ?_) (hf := fun hc7 => ?_)
      ·
       rw [hc7, Bool.true_or, if_pos rfl] at hq
       rw [← hq]
       refine .seq ?_
       refine .region rfl ?_
       refine R.assign (h := ?_)
       refine .n0 ?_
       exact LGo.ret (ret_T Tryz.results168 hA hmd)
      ·
       rw [hc7, Bool.false_or] at hq
       refine .skip ?_
       refine .inBlock ?_
       refine .region rfl ?_
       refine R.move (h := ?_)
       first | refine R.add (h := ?_) | refine R.addW (h := ?_)
       refine R.assign (h := ?_)
       refine .n0 ?_
       refine .inLoop ?_
       exact LGo.next _ (fun o h => by have := (hA o).1 h; omega) (by omega) (ih2 (j + 1) ⟨by omega, hq⟩ (by omega)) (by repeat (first | exact trivial | refine ⟨rfl, ?_⟩)) ⟨rfl, rfl, trivial⟩
     ·
      rw [List.drop_eq_nil_of_le (show z.rows.length ≤ j by omega), List.any_nil, if_neg (by simp)] at hq
      have e1 := hq
      clear hq
      refine .exit rfl ?_
      refine .seq ?_
      refine .seq ?_
      refine .region rfl ?_
      first | refine R.field F80_2 (h := ?_) | refine R.fieldAt F80_2 (h := ?_)
      first | refine R.loadB O3 (h := ?_) | refine R.load1 O3 (h := ?_)
      refine R.callP (es := [_, _, _]) (fun _ => withinR_P z.queue 0 64) (h := ?_)
      refine R.not (h := ?_)
      rw [inS_outI]
      refine .n0 ?_
      refine LGo.ifb (ht := fun hc8 => ?_) (hf := fun hc8 => ?_)
      ·
       rw [if_pos hc8] at e1
       rw [← e1]
       refine .seq ?_
       refine .region rfl ?_
       refine R.assign (h := ?_)
       refine .n0 ?_
       exact LGo.ret (ret_T Tryz.results168 hA hmd)
      ·
       rw [if_neg (by rw [hc8]; simp)] at e1
       rw [← e1]
       refine .skip ?_
       refine .seq ?_
       refine .region rfl ?_
       refine R.assign (h := ?_)
       refine .n0 ?_
       exact LGo.ret (ret_T Tryz.results168 hA hmd)
theorem places_P (v : Ven) (h8 : v.secs.length ≤ 8) (hg : ∀ x ∈ v.secs, goodV x) : PC Tryz.prog 169 [.agg (v.c.map LV.sv)] (.sv (.sl 3 (plSecs 0 v.secs))) := by
 refine ⟨LC.of_go Tryz.func169 (c := _) rfl (by kernel_rfl) (by rw [Tryz.ntmps169]; simp) rfl rfl (by simp [LO.lt, LV.lts, LV.lt, lts_sv]) (by simp) ?_⟩
 intro B hA hmd
 obtain ⟨F, hF⟩ : ∃ F, plSecs 0 v.secs = F := ⟨_, rfl⟩
 have hFl : F.length ≤ 8192 := by have := (plSecs_len v.secs 0 hg 0).2; rw [← hF]; omega
 rw [hF]
 refine .seq ?_
 refine .region rfl ?_
 refine R.box (h := ?_)
 refine R.assign (h := ?_)
 refine .n0 ?_
 refine .seq ?_
 refine .region rfl ?_
 refine R.assign (h := ?_)
 refine .n0 ?_
 refine .seq ?_
 refine .seq ?_
 refine .region rfl ?_
 refine R.assign (h := ?_)
 refine .n0 ?_
 refine .block ?_
 refine .loop ?_
 refine LGo.nilRs 3 276 3 (h := ?_)
 refine LGo.loopG (σ := Nat × List (List SV)) (fun x => x.1 ≤ v.secs.length ∧ x.2 ++ plSecs x.1 (v.secs.drop x.1) = F) (fun x => [(4, (true, .i (x.1 : Nat))), (3, (true, .ref 1))]) (fun x => [(0, .box 24 (v.c.map LV.sv)), (1, .rs 276 3 (x.2))]) (fun x => v.secs.length - x.1) (0, []) [(1, _)] ⟨Nat.zero_le _, hF⟩ (by repeat (first | exact trivial | refine ⟨rfl, ?_⟩)) (by repeat (first | exact trivial | refine ⟨rfl, ?_⟩)) (by repeat (first | exact trivial | refine ⟨rfl, ?_⟩)) ?_
 rintro ⟨i, A⟩ ⟨hi, hq⟩ ih
 dsimp only at * 
 refine .seq ?_
 refine .seq ?_
 refine .region rfl ?_
 refine R.move (h := ?_)
 first | refine R.field F24_3 (h := ?_) | refine R.fieldAt F24_3 (h := ?_)
 first | refine R.loadB O22 (h := ?_) | refine R.load1 O22 (h := ?_)
 first | refine R.len S22 (h := ?_) | refine R.lenRs S22 (h := ?_) | refine R.lenV (run_lenNil S22) (h := ?_)
 rw [List.length_map]
 refine R.bin (run_lss _ _ _ _ _ _) (h := ?_)
 refine .n0 ?_
 refine LGo.ifd (ht := fun hc => ?_) (hf := fun hc => ?_)
 ·
  have hlt : i < v.secs.length := by omega
  have hx : (v.secs.map VnS.c)[((i : Nat) : Int).toNat]? = some v.secs[i].c := by simp [hlt]
  rw [List.drop_eq_getElem_cons hlt, plSecs, ← List.append_assoc] at hq
  have hgz := hg _ (List.getElem_mem hlt)
  generalize v.secs[i] = z at hx hq hgz
  have hg1 := hgz.1
  obtain ⟨T, hT⟩ : ∃ T, plSecs (i + 1) (v.secs.drop (i + 1)) = T := ⟨_, rfl⟩
  rw [hT] at hq
  refine .skip ?_
  refine .seq ?_
  refine .block ?_
  refine .seq ?_
  refine .region rfl ?_
  refine R.assign (h := ?_)
  refine .n0 ?_
  refine .block ?_
  refine .loop ?_
  refine LGo.loopG (σ := Nat × List (List SV)) (fun x => x.1 ≤ z.rows.length ∧ x.2 ++ plRows i x.1 (z.rows.drop x.1) ++ T = F) (fun x => [(5, (true, .i (x.1 : Nat))), (3, (true, .ref 1))]) (fun x => [(0, .box 24 (v.c.map LV.sv)), (1, .rs 276 3 (x.2))]) (fun x => z.rows.length - x.1) (0, A) [(1, _), (4, _)] ⟨Nat.zero_le _, hq⟩ (by repeat (first | exact trivial | refine ⟨rfl, ?_⟩)) (by repeat (first | exact trivial | refine ⟨rfl, ?_⟩)) (by repeat (first | exact trivial | refine ⟨rfl, ?_⟩)) ?_
  rintro ⟨j, A2⟩ ⟨hj, hq2⟩ ih2
  dsimp only at * 
  refine .seq ?_
  refine .seq ?_
  refine .region rfl ?_
  refine R.move (h := ?_)
  first | refine R.field F24_3 (h := ?_) | refine R.fieldAt F24_3 (h := ?_)
  first | refine R.loadB O22 (h := ?_) | refine R.load1 O22 (h := ?_)
  refine R.move (h := ?_)
  refine R.index I22 (hj := fun hg => ⟨by omega, hx⟩) (h := ?_)
  first | refine R.field F80_1 (h := ?_) | refine R.fieldAt F80_1 (h := ?_)
  first | refine R.loadB O65 (h := ?_) | refine R.load1 O65 (h := ?_)
  first | refine R.len S65 (h := ?_) | refine R.lenRs S65 (h := ?_) | refine R.lenV (run_lenNil S65) (h := ?_)
  rw [ic_len]
  refine R.bin (run_lss _ _ _ _ _ _) (h := ?_)
  refine .n0 ?_
  refine LGo.ifd (ht := fun hc2 => ?_) (hf := fun hc2 => ?_)
  ·
   have hltj : j < z.rows.length := by omega
   have hx2 := icA hltj
   rw [List.drop_eq_getElem_cons hltj, plRows, ← List.append_assoc] at hq2
   have hgn := hgz.2 _ (List.getElem_mem hltj)
   generalize z.rows[j] = n at hx2 hq2 hgn
   obtain ⟨T2, hT2⟩ : ∃ T2, plRows i (j + 1) (z.rows.drop (j + 1)) = T2 := ⟨_, rfl⟩
   rw [hT2] at hq2
   obtain ⟨N, rfl⟩ : ∃ N : Nat, n = N := ⟨n.toNat, by omega⟩
   rw [Int.toNat_natCast] at hq2
   refine .skip ?_
   refine .seq ?_
   refine .block ?_
   refine .seq ?_
   refine .region rfl ?_
   refine R.assign (h := ?_)
   refine .n0 ?_
   refine .block ?_
   refine .loop ?_
   refine LGo.loopG (σ := Nat × List (List SV)) (fun x => x.1 ≤ N ∧ x.2 ++ (plRow i j N).drop x.1 ++ T2 ++ T = F) (fun x => [(6, (true, .i (x.1 : Nat))), (3, (true, .ref 1))]) (fun x => [(0, .box 24 (v.c.map LV.sv)), (1, .rs 276 3 (x.2))]) (fun x => N - x.1) (0, A2) [(1, _), (4, _), (5, _)] ⟨Nat.zero_le _, hq2⟩ (by repeat (first | exact trivial | refine ⟨rfl, ?_⟩)) (by repeat (first | exact trivial | refine ⟨rfl, ?_⟩)) (by repeat (first | exact trivial | refine ⟨rfl, ?_⟩)) ?_
   rintro ⟨m, A3⟩ ⟨hm, hq3⟩ ih3
   dsimp only at * 
   refine .seq ?_
   refine .seq ?_
   refine .region rfl ?_
   refine R.move (h := ?_)
   first | refine R.field F24_3 (h := ?_) | refine R.fieldAt F24_3 (h := ?_)
   first | refine R.loadB O22 (h := ?_) | refine R.load1 O22 (h := ?_)
   refine R.move (h := ?_)
   refine R.index I22 (hj := fun hg => ⟨by omega, hx⟩) (h := ?_)
   first | refine R.field F80_1 (h := ?_) | refine R.fieldAt F80_1 (h := ?_)
   first | refine R.loadB O65 (h := ?_) | refine R.load1 O65 (h := ?_)
   refine R.move (h := ?_)
   refine R.index I65 (hj := fun hg => ⟨by omega, hx2⟩) (h := ?_)
   first | refine R.loadB O3 (h := ?_) | refine R.load1 O3 (h := ?_)
   refine R.bin (run_lss _ _ _ _ _ _) (h := ?_)
   refine .n0 ?_
   refine LGo.ifd (ht := fun hc3 => ?_) (hf := fun hc3 => ?_)
   ·
    have hpl : m < (plRow i j N).length := by rw [plRow_len]; omega
    rw [List.drop_eq_getElem_cons hpl, show (plRow i j N)[m] = plC i j m from by simp [plRow]] at hq3
    have hA3 : A3.length ≤ 8192 := by
      have := congrArg List.length hq3
      simp only [List.length_append] at this
      omega
    refine .skip ?_
    refine .seq ?_
    refine .block ?_
    refine .region rfl ?_
    refine R.move (h := ?_)
    refine R.move (h := ?_)
    refine R.move (h := ?_)
    refine R.move (h := ?_)
    refine R.build BF276 (is := [0, 1, 2]) (xs := [_, _, _]) (es := [_, _, _]) (h := ?_)
    refine R.buildSliceG AP231 (xs := [_]) (es := [_]) (hcs := CellsOfs.cons (CellsOf.agg rfl) CellsOfs.nil) (h := ?_)
    refine R.appendS AP231 (hs := SrcOk.sl Tryz.underlying231 (by simp; rfl)) (hlen := by simp; omega) (h := ?_)
    refine R.assign (h := ?_)
    refine .n0 ?_
    refine .inBlock ?_
    refine .region rfl ?_
    refine R.move (h := ?_)
    first | refine R.add (h := ?_) | refine R.addW (h := ?_)
    refine R.assign (h := ?_)
    refine .n0 ?_
    refine .inLoop ?_
    exact LGo.turn [0, 2] (b := 0) (fun o h => by have := (hA o).1 h; omega) (ih3 (m + 1, A3 ++ [plC i j m]) ⟨by dsimp only; omega, by dsimp only; rw [← hq3]; simp⟩ (by dsimp only; omega)) (by repeat (first | exact trivial | refine ⟨rfl, ?_⟩)) ⟨rfl, rfl, trivial⟩
   ·
    rw [List.drop_eq_nil_of_le (show (plRow i j N).length ≤ m by rw [plRow_len]; omega), List.append_nil, ← hT2] at hq3
    refine .exit rfl ?_
    refine .inBlock ?_
    refine .region rfl ?_
    refine R.move (h := ?_)
    first | refine R.add (h := ?_) | refine R.addW (h := ?_)
    refine R.assign (h := ?_)
    refine .n0 ?_
    refine .inLoop ?_
    exact LGo.next _ (fun o h => by have := (hA o).1 h; omega) (by omega) (ih2 (j + 1, A3) ⟨by dsimp only; omega, hq3⟩ (by dsimp only; omega)) (by repeat (first | exact trivial | refine ⟨rfl, ?_⟩)) ⟨rfl, rfl, trivial⟩
  ·
   rw [List.drop_eq_nil_of_le (show z.rows.length ≤ j by omega), plRows, List.append_nil, ← hT] at hq2
   refine .exit rfl ?_
   refine .inBlock ?_
   refine .region rfl ?_
   refine R.move (h := ?_)
   first | refine R.add (h := ?_) | refine R.addW (h := ?_)
   refine R.assign (h := ?_)
   refine .n0 ?_
   refine .inLoop ?_
   exact LGo.next _ (fun o h => by have := (hA o).1 h; omega) (by omega) (ih (i + 1, A2) ⟨by dsimp only; omega, hq2⟩ (by dsimp only; omega)) (by repeat (first | exact trivial | refine ⟨rfl, ?_⟩)) ⟨rfl, rfl, trivial⟩
 ·
  rw [List.drop_eq_nil_of_le (show v.secs.length ≤ i by omega), plSecs, List.append_nil] at hq
  subst hq
  refine .exit rfl ?_
  refine .seq ?_
  refine .region rfl ?_
  refine R.move (h := ?_)
  refine R.assign (h := ?_)
  refine .n0 ?_
  first | refine LGo.frzT 2 (h := ?_) | refine LGo.nilSl 2 3 (h := ?_) | skip
  exact LGo.ret (ret_T Tryz.results169 hA hmd)
theorem checkVenR_P (v : Ven) (hv : SmV v) : PC Tryz.prog 98 [.agg (v.c.map LV.sv)] (.tup [.i (checkVen v).1, .i (checkVen v).2]) := by
 refine ⟨LC.of_go Tryz.func98 (c := _) rfl (by kernel_rfl) (by rw [Tryz.ntmps98]; simp) rfl rfl (by simp [LO.lt, LV.lts, LV.lt, lts_sv]) (by simp) ?_⟩
 intro B hA hmd
 obtain ⟨hv1, hv2⟩ := id hv
 obtain ⟨g, e0⟩ : ∃ g, checkVen v = g := ⟨_, rfl⟩
 have e1 := e0
 unfold checkVen at e1
 rw [e0]
 rw [ven_fin] at e1
 refine .seq ?_
 refine .region rfl ?_
 refine R.box (h := ?_)
 refine R.assign (h := ?_)
 refine R.assign (h := ?_)
 refine .n0 ?_
 refine .seq ?_
 refine .seq ?_
 refine .region rfl ?_
 first | refine R.field F24_0 (h := ?_) | refine R.fieldAt F24_0 (h := ?_)
 first | refine R.loadB O3 (h := ?_) | refine R.load1 O3 (h := ?_)
 refine R.callP (es := [_, _, _]) (fun _ => withinR_P v.shards 1 16) (h := ?_)
 refine R.not (h := ?_)
 rw [inS_outI]
 refine R.move (h := ?_)
 first | refine R.field F24_1 (h := ?_) | refine R.fieldAt F24_1 (h := ?_)
 first | refine R.loadB O2 (h := ?_) | refine R.load1 O2 (h := ?_)
 refine R.callP (es := [_, _, _]) (fun _ => withinR_P v.ttl 1 1000000000) (h := ?_)
 refine R.not (h := ?_)
 rw [inS_outI]
 refine R.or (h := ?_)
 refine R.move (h := ?_)
 first | refine R.field F24_2 (h := ?_) | refine R.fieldAt F24_2 (h := ?_)
 first | refine R.loadB O2 (h := ?_) | refine R.load1 O2 (h := ?_)
 refine R.callP (es := [_, _, _]) (fun _ => withinR_P v.session 1 1000000000) (h := ?_)
 refine R.not (h := ?_)
 rw [inS_outI]
 refine R.or (h := ?_)
 refine .n0 ?_
 refine LGo.ifb (ht := fun hc => ?_) (hf := fun hc => ?_)
 ·
  rw [if_pos hc] at e1
  rw [← e1]
  refine .seq ?_
  refine .region rfl ?_
  refine R.assign (h := ?_)
  refine R.assign (h := ?_)
  refine .n0 ?_
  exact LGo.ret (ret_TT Tryz.results98 hA hmd)
 ·
  rw [if_neg (by rw [hc]; simp)] at e1
  refine .skip ?_
  refine .seq ?_
  refine .seq ?_
  refine .region rfl ?_
  first | refine R.field F24_3 (h := ?_) | refine R.fieldAt F24_3 (h := ?_)
  first | refine R.loadB O22 (h := ?_) | refine R.load1 O22 (h := ?_)
  first | refine R.len S22 (h := ?_) | refine R.lenRs S22 (h := ?_) | refine R.lenV (run_lenNil S22) (h := ?_)
  rw [List.length_map]
  refine R.bin (run_eql _ _ _ _ _ _) (h := ?_)
  refine .n0 ?_
  refine LGo.ifd (ht := fun hc2 => ?_) (hf := fun hc2 => ?_)
  ·
   rw [if_pos (by omega)] at e1
   rw [← e1]
   refine .seq ?_
   refine .region rfl ?_
   refine R.assign (h := ?_)
   refine R.assign (h := ?_)
   refine .n0 ?_
   exact LGo.ret (ret_TT Tryz.results98 hA hmd)
  ·
   rw [if_neg (by omega)] at e1
   refine .skip ?_
   refine .seq ?_
   refine .seq ?_
   refine .region rfl ?_
   first | refine R.field F24_3 (h := ?_) | refine R.fieldAt F24_3 (h := ?_)
   first | refine R.loadB O22 (h := ?_) | refine R.load1 O22 (h := ?_)
   first | refine R.len S22 (h := ?_) | refine R.lenRs S22 (h := ?_) | refine R.lenV (run_lenNil S22) (h := ?_)
   rw [List.length_map]
   refine R.bin (run_gtr _ _ _ _ _ _) (h := ?_)
   refine .n0 ?_
   refine LGo.ifd (ht := fun hc3 => ?_) (hf := fun hc3 => ?_)
   ·
    rw [if_pos (by omega)] at e1
    rw [← e1]
    refine .seq ?_
    refine .region rfl ?_
    refine R.assign (h := ?_)
    refine R.assign (h := ?_)
    refine .n0 ?_
    exact LGo.ret (ret_TT Tryz.results98 hA hmd)
   ·
    rw [if_neg (by omega)] at e1
    obtain ⟨PN, hPN⟩ : ∃ PN, (plSecs 0 v.secs).length = PN := ⟨_, rfl⟩
    rw [hPN] at e1
    refine .skip ?_
    refine .seq ?_
    refine .seq ?_
    refine .region rfl ?_
    refine R.assign (h := ?_)
    refine .n0 ?_
    refine .block ?_
    refine .loop ?_
    refine LGo.loopG (σ := Nat) (fun x => x ≤ v.secs.length ∧ (∀ y ∈ v.secs.take x, goodV y) ∧ finV PN (secGo x (v.secs.take x) (v.secs.drop x)) = g) (fun x => [(4, (true, .i (x : Nat)))]) (fun x => [(0, .box 24 (v.c.map LV.sv))]) (fun x => v.secs.length - x) (0) [(1, _)] ⟨Nat.zero_le _, fun x hx => by simp at hx, e1⟩ (by repeat (first | exact trivial | refine ⟨rfl, ?_⟩)) (by repeat (first | exact trivial | refine ⟨rfl, ?_⟩)) (by repeat (first | exact trivial | refine ⟨rfl, ?_⟩)) ?_
    rintro k ⟨hk, hgd, hq⟩ ih
    refine .seq ?_
    refine .seq ?_
    refine .region rfl ?_
    refine R.move (h := ?_)
    first | refine R.field F24_3 (h := ?_) | refine R.fieldAt F24_3 (h := ?_)
    first | refine R.loadB O22 (h := ?_) | refine R.load1 O22 (h := ?_)
    first | refine R.len S22 (h := ?_) | refine R.lenRs S22 (h := ?_) | refine R.lenV (run_lenNil S22) (h := ?_)
    rw [List.length_map]
    refine R.bin (run_lss _ _ _ _ _ _) (h := ?_)
    refine .n0 ?_
    refine LGo.ifd (ht := fun hc4 => ?_) (hf := fun hc4 => ?_)
    ·
     have hlt : k < v.secs.length := by omega
     rw [List.drop_eq_getElem_cons hlt, secGo] at hq
     refine .skip ?_
     refine .seq ?_
     refine .block ?_
     refine .seq ?_
     refine .region rfl ?_
     first | refine R.loadA A24 (h := ?_) | refine R.loadN A24 (h := ?_) | refine R.loadP A24 (h := ?_)
     refine R.move (h := ?_)
     refine R.callP (es := [_, _]) (fun _ => sectionR_P v hv k hlt) (h := ?_)
     refine R.assign (h := ?_)
     refine .n0 ?_
     refine .seq ?_
     refine .region rfl ?_
     refine R.move (h := ?_)
     refine R.bin (run_neq _ _ _ _ _ _) (h := ?_)
     refine .n0 ?_
     refine LGo.ifb (ht := fun hc5 => ?_) (hf := fun hc5 => ?_)
     ·
      rw [if_pos (by simpa using hc5)] at hq
      rw [← hq]
      dsimp only [finV]
      refine .seq ?_
      refine .region rfl ?_
      refine R.move (h := ?_)
      refine R.move (h := ?_)
      refine R.assign (h := ?_)
      refine R.assign (h := ?_)
      refine .n0 ?_
      exact LGo.ret (ret_TT Tryz.results98 hA hmd)
     ·
      have h0 : checkV v.secs[k] (v.secs.take k) = 0 := by simpa using hc5
      rw [if_neg (by simp [h0]), ← vsub hlt] at hq
      refine .skip ?_
      refine .inBlock ?_
      refine .region rfl ?_
      refine R.move (h := ?_)
      first | refine R.add (h := ?_) | refine R.addW (h := ?_)
      refine R.assign (h := ?_)
      refine .n0 ?_
      refine .inLoop ?_
      exact LGo.next _ (fun o h => by have := (hA o).1 h; omega) (by omega) (ih (k + 1) ⟨by omega, fun x hx => by
          rw [vsub hlt, List.mem_append, List.mem_singleton] at hx
          rcases hx with hx | rfl
          · exact hgd x hx
          · exact checkV_0 h0, hq⟩ (by omega)) (by repeat (first | exact trivial | refine ⟨rfl, ?_⟩)) ⟨rfl, trivial⟩
    ·
     rw [List.take_of_length_le (show v.secs.length ≤ k by omega)] at hgd
     rw [List.drop_eq_nil_of_le (show v.secs.length ≤ k by omega), secGo, finV] at hq
     refine .exit rfl ?_
     refine .seq ?_
     refine .seq ?_
     refine .region rfl ?_
     first | refine R.loadA A24 (h := ?_) | refine R.loadN A24 (h := ?_) | refine R.loadP A24 (h := ?_)
     refine R.callP (es := [_]) (fun _ => places_P v (by omega) hgd) (h := ?_)
     first | refine R.len S231 (h := ?_) | refine R.lenRs S231 (h := ?_) | refine R.lenV (run_lenNil S231) (h := ?_)
     rw [hPN]
     refine R.bin (run_gtr _ _ _ _ _ _) (h := ?_)
     refine .n0 ?_
     refine LGo.ifd (ht := fun hc6 => ?_) (hf := fun hc6 => ?_)
     ·
      rw [if_pos (by omega)] at hq
      rw [← hq]
      refine .seq ?_
      refine .region rfl ?_
      refine R.assign (h := ?_)
      refine R.assign (h := ?_)
      refine .n0 ?_
      exact LGo.ret (ret_TT Tryz.results98 hA hmd)
     ·
      rw [if_neg (by omega)] at hq
      rw [← hq]
      refine .skip ?_
      refine .seq ?_
      refine .region rfl ?_
      refine R.assign (h := ?_)
      refine R.assign (h := ?_)
      refine .n0 ?_
      exact LGo.ret (ret_TT Tryz.results98 hA hmd)
theorem ints_P (a b : List Int) (ha : a.length ≤ 100000) (hb : b.length ≤ 100000) : PC Tryz.prog 33 [.sv (.sl 1 (ic .i64 a)), .sv (.sl 1 (ic .i64 b))] (.b (decide (a = b))) := by
 refine ⟨LC.of_go Tryz.func33 (c := _) rfl (by kernel_rfl) (by rw [Tryz.ntmps33]; simp) rfl rfl (by simp [LO.lt, LV.lts, LV.lt, lts_sv]) (by simp) ?_⟩
 intro B hA hmd
 obtain ⟨g, e0⟩ : ∃ g, decide (a = b) = g := ⟨_, rfl⟩
 rw [e0]
 refine .seq ?_
 refine .region rfl ?_
 refine R.assign (h := ?_)
 refine .n0 ?_
 refine .seq ?_
 refine .seq ?_
 refine .region rfl ?_
 refine R.move (h := ?_)
 first | refine R.len S65 (h := ?_) | refine R.lenRs S65 (h := ?_) | refine R.lenV (run_lenNil S65) (h := ?_)
 rw [ic_len]
 refine R.move (h := ?_)
 first | refine R.len S65 (h := ?_) | refine R.lenRs S65 (h := ?_) | refine R.lenV (run_lenNil S65) (h := ?_)
 rw [ic_len]
 refine R.bin (run_neq _ _ _ _ _ _) (h := ?_)
 refine .n0 ?_
 refine LGo.ifb (ht := fun hc => ?_) (hf := fun hc => ?_)
 ·
  obtain rfl : g = false := by rw [← e0]; exact decide_eq_false (fun h => by rw [h] at hc; simp at hc)
  refine .seq ?_
  refine .region rfl ?_
  refine R.assign (h := ?_)
  refine .n0 ?_
  exact LGo.ret (ret_T Tryz.results33 hA hmd)
 ·
  have hll : a.length = b.length := by simp at hc; omega
  refine .skip ?_
  refine .seq ?_
  refine .seq ?_
  refine .region rfl ?_
  refine R.assign (h := ?_)
  refine .n0 ?_
  refine .block ?_
  refine .loop ?_
  refine LGo.loopG (σ := Nat) (fun x => x ≤ a.length ∧ a.take x = b.take x) (fun x => [(5, (true, .i (x : Nat)))]) (fun x => []) (fun x => a.length - x) (0) [(0, _), (1, _)] ⟨Nat.zero_le _, by simp⟩ (by repeat (first | exact trivial | refine ⟨rfl, ?_⟩)) (by repeat (first | exact trivial | refine ⟨rfl, ?_⟩)) (by repeat (first | exact trivial | refine ⟨rfl, ?_⟩)) ?_
  rintro k ⟨hk, hq⟩ ih
  refine .seq ?_
  refine .seq ?_
  refine .region rfl ?_
  refine R.move (h := ?_)
  refine R.move (h := ?_)
  first | refine R.len S65 (h := ?_) | refine R.lenRs S65 (h := ?_) | refine R.lenV (run_lenNil S65) (h := ?_)
  rw [ic_len]
  refine R.bin (run_lss _ _ _ _ _ _) (h := ?_)
  refine .n0 ?_
  refine LGo.ifd (ht := fun hc2 => ?_) (hf := fun hc2 => ?_)
  ·
   have hlt : k < a.length := by omega
   have hlt2 : k < b.length := by omega
   have hx := icA hlt
   have hy := icA hlt2
   have hp : a[k] = b[k] → a.take (k + 1) = b.take (k + 1) := fun h => by rw [List.take_succ_eq_append_getElem hlt, List.take_succ_eq_append_getElem hlt2, hq, h]
   have hn : a = b → a[k] = b[k] := fun h => by subst h; rfl
   generalize a[k] = p at hx hp hn
   generalize b[k] = q at hy hp hn
   refine .skip ?_
   refine .seq ?_
   refine .block ?_
   refine .seq ?_
   refine .region rfl ?_
   refine R.move (h := ?_)
   refine R.move (h := ?_)
   refine R.index I65 (hj := fun hg => ⟨by omega, hx⟩) (h := ?_)
   first | refine R.loadB O3 (h := ?_) | refine R.load1 O3 (h := ?_)
   refine R.move (h := ?_)
   refine R.move (h := ?_)
   refine R.index I65 (hj := fun hg => ⟨by omega, hy⟩) (h := ?_)
   first | refine R.loadB O3 (h := ?_) | refine R.load1 O3 (h := ?_)
   refine R.bin (run_neq _ _ _ _ _ _) (h := ?_)
   refine Reg.nil ⟨fun _ => ⟨mixedO, by rfl, by rfl⟩, ?_⟩
   refine LGo.ifb (ht := fun hc3 => ?_) (hf := fun hc3 => ?_)
   ·
    obtain rfl : g = false := by rw [← e0]; exact decide_eq_false (fun h => by rw [hn h] at hc3; simp at hc3)
    refine .seq ?_
    refine .region rfl ?_
    refine R.assign (h := ?_)
    refine .n0 ?_
    exact LGo.ret (ret_T Tryz.results33 hA hmd)
   ·
    have hp2 := hp (by simpa using hc3)
    refine .skip ?_
    refine .inBlock ?_
    refine .region rfl ?_
    refine R.move (h := ?_)
    first | refine R.add (h := ?_) | refine R.addW (h := ?_)
    refine R.assign (h := ?_)
    refine .n0 ?_
    refine .inLoop ?_
    exact LGo.next _ (fun o h => by have := (hA o).1 h; omega) (by omega) (ih (k + 1) ⟨by omega, hp2⟩ (by omega)) (by repeat (first | exact trivial | refine ⟨rfl, ?_⟩)) (by repeat (first | exact trivial | refine ⟨rfl, ?_⟩))
  ·
   obtain rfl : g = true := by rw [← e0]; exact decide_eq_true (by rwa [List.take_of_length_le (by omega), List.take_of_length_le (by omega)] at hq)
   refine .exit rfl ?_
   refine .seq ?_
   refine .region rfl ?_
   refine R.assign (h := ?_)
   refine .n0 ?_
   exact LGo.ret (ret_T Tryz.results33 hA hmd)
structure Sc.sm2 (s : Sc) : Prop where
  vl : s.ven.secs.length ≤ 100000
  vr : ∀ x ∈ s.ven.secs, x.rows.length ≤ 100000
  gl : s.gates.length ≤ 100000
  gs : ∀ x ∈ s.gates, x.secs.length ≤ 100000
  cl : s.calls.length ≤ 100000
  el : s.evs.length ≤ 100000
theorem sends_cons (x : SrE) (l : List SrE) : sendsOf (x :: l) = if x.kind = 1 then x.a :: sendsOf l else sendsOf l := by
  unfold sendsOf
  by_cases h : x.kind = 1 <;> simp [h]
theorem Sc.near.sm2 {s : Sc} (hn : s.near) : s.sm2 :=
  ⟨by have := hn.vl; omega, fun x hx => by have := (hn.vs x hx).2; omega, by have := hn.gl; omega, fun x hx => by have := hn.gs x hx; omega, by have := hn.cl; omega, by have := hn.el; omega⟩
theorem Sc.sm2.evs {s : Sc} (h : s.sm2) (l : List SrE) (hl : l.length ≤ 100000) : ({ s with evs := l } : Sc).sm2 := ⟨h.vl, h.vr, h.gl, h.gs, h.cl, hl⟩
theorem Sc.sm.evs {s : Sc} (h : s.sm) (l : List SrE) (hl : l.length ≤ maxLen) : ({ s with evs := l } : Sc).sm := ⟨h.ven, h.gl, h.gs, h.key, h.cl, h.cs, hl⟩
theorem Sc.cp.evs {s : Sc} (h : s.cp) (l : List SrE) : ({ s with evs := l } : Sc).cp := ⟨h.v, h.vr, h.g, h.gr, h.c⟩
theorem OpC.weak {P : Program} {r : Option Nat} {o : Oper} {lvs : List LV} {rd Hi : List (Nat × LO)} {out out' : LV} {Ho : List (Nat × LO)} {new : List Nat}
    (hw : ∀ cx w x, V cx w out x → V cx w out' x) (h : OpC P r o lvs rd Hi out Ho new) : OpC P r o lvs rd Hi out' Ho new :=
  ⟨h.1, fun md n0 cx H a w K Q h1 h2 h3 h4 h5 h6 hK => h.2 md n0 cx H a w K Q h1 h2 h3 h4 h5 h6 (fun cx' w' v t hv => hK cx' w' v t (hw cx' w' v hv))⟩
section
variable {P : Program} {r : Option Nat} {N : Nat} {D : List Nat} {B : Base} {all : Array Oper} {K : List (Nat × Ct) → St → Prop}
variable {i : Nat} {ops : List Oper} {tr : List (Nat × Ct)} {E : List (Nat × Ent)} {L : List (Nat × LO)} {n : Nat} {g : Bool} {gn : List (Nat × Ent)}
variable {d ty : Nat} {pos : String} {aft : Array Edge} {gd : Option (Nat × Bool)}
end
/-- what slicing x from a up to b, with b as0 its capacity, comes to -/
theorem run_slice3 {P : Program} {T sz : Nat} (hF : SliceF P T sz) {pr : Nat → Nat} {w : World} {xs : List (List SV)} {x : Value} (hx : VS pr w (.sl sz xs) x) (a b : Nat) (k k' k'' : IntKind) (hab : a < b) (hb : b ≤ xs.length) :
    ∃ v, (Instr.sliceAt T x (some (.int k a)) (some (.int k' b)) (some (.int k'' b))).run P w = .ok v w ∧ VS pr w (.sl sz ((xs.take b).drop a)) v := by
  obtain ⟨e, hT, hz⟩ := hF
  have hlen : ((xs.take b).drop a).length = b - a := by simp; omega
  simp only [VS] at hx
  rcases hx with ⟨_, rfl⟩ | ⟨bl, off, cap, rfl, hle, hml, hpr, hr⟩
  · simp at hb; omega
  · have hbc : b ≤ cap := by omega
    have hba : b ≠ a := by omega
    have hle2 : a ≤ b := by omega
    refine ⟨.slice (some ((⟨bl, off, none⟩ : Addr).add (a * sz))) (b - a) (b - a), ?_, ?_⟩
    · simp [Instr.sliceAt, Instr.slice, hT w, Instr.sliceBounds, Instr.sliceBound, asIntOf, hz w, hbc, hle2, hba]
    · simp only [VS]
      right
      have : (b - a) * sz + a * sz ≤ xs.length * sz := by rw [← Nat.add_mul]; exact Nat.mul_le_mul_right _ (by omega)
      have hadd : (⟨bl, off, none⟩ : Addr).add (a * sz) = ⟨bl, off + a * sz, none⟩ := by unfold Addr.add; split <;> simp_all
      refine ⟨bl, off + a * sz, b - a, ?_, by rw [hlen]; omega, by omega, by rw [hlen]; omega, VSR.drop a (VSR.take b hr)⟩
      rw [hlen, hadd]
section
variable {P : Program} {r : Option Nat} {N : Nat} {D : List Nat} {B : Base} {all : Array Oper} {K : List (Nat × Ct) → St → Prop}
variable {i : Nat} {ops : List Oper} {tr : List (Nat × Ct)} {E : List (Nat × Ent)} {L : List (Nat × LO)} {n : Nat} {g : Bool} {gn : List (Nat × Ent)}
variable {d ty : Nat} {pos : String} {aft : Array Edge} {gd : Option (Nat × Bool)}
theorem OpC.of_pure4 {o : Oper} {l k j m : LV} {rd : List (Nat × LO)} {out : LV} {x y z u : Operand} (hl : o.op.operands.toList = [x, y, z, u]) (hnd : ∀ c, o.op ≠ .defer c)
    (h : ∀ (cx : Cx) (ρ : Operand → Value) (w : World), V cx w l (ρ x) → V cx w k (ρ y) → V cx w j (ρ z) → V cx w m (ρ u) → ∃ v, (execOp ρ o).run P w = .ok (.value v) w ∧ V cx w out v) : OpC P r o [l, k, j, m] rd [] out [] [] :=
  OpC.of_pure hnd fun md n0 cx H ρ w h1 h2 h3 => by
    rw [hl] at h3
    simp only [List.map_cons, List.map_nil, Vs] at h3
    obtain ⟨x1, r1, e1, k1, x2, r2, e2, k2, x3, r3, e3, k3, x4, r4, e4, k4, e5⟩ := h3
    subst e5
    cases e1
    cases e2
    cases e3
    cases e4
    exact h cx ρ w k1 k2 k3 k4
/-- a part of a slice that is not written any more, with its end as0 its capacity -/
theorem R.slice3 {T sz : Nat} (hF : SliceF P T sz) {x y z u : Operand} {gx gy gz gu : Bool} {xs : List (List SV)} {k k' k'' : IntKind} {a b : Nat}
    (ho : all[i]? = some ⟨some d, .slice T x (some y) (some z) (some u), ty, pos, aft, gd⟩ := by rfl) (hg : GuardOk (en E) all gd g gn := by first | exact gN | exact gS rfl rfl)
    (hx : lvOf (en E) x = some (gx, .sv (.sl sz xs)) := by rfl) (hy : lvOf (en E) y = some (gy, .v (.int k a)) := by rfl) (hz : lvOf (en E) z = some (gz, .v (.int k' b)) := by rfl) (hu : lvOf (en E) u = some (gu, .v (.int k'' b)) := by rfl)
    (hgx : g = true → gx = true := by first | exact fun _ => rfl | exact id) (hgy : g = true → gy = true := by first | exact fun _ => rfl | exact id) (hgz : g = true → gz = true := by first | exact fun _ => rfl | exact id) (hgu : g = true → gu = true := by first | exact fun _ => rfl | exact id)
    (ha : g = true → a < b ∧ b ≤ xs.length)
    (h : Reg P r N D B all (i + 1) ops ((i, Ct.p gn [x, y, z, u] [(gx, .sv (.sl sz xs)), (gy, .v (.int k a)), (gz, .v (.int k' b)), (gu, .v (.int k'' b))] (some d) (g, .sv (.sl sz ((xs.take b).drop a))) []) :: tr) (st ((d, (g, .sv (.sl sz ((xs.take b).drop a)))) :: E) L n) K) :
    Reg P r N D B all i (⟨some d, .slice T x (some y) (some z) (some u), ty, pos, aft, gd⟩ :: ops) tr (st E L n) K := by
  have hl : (Oper.mk (some d) (.slice T x (some y) (some z) (some u)) ty pos aft gd).op.operands.toList = [x, y, z, u] := by rfl
  refine Reg.pure (es := [(gx, .sv (.sl sz xs)), (gy, .v (.int k a)), (gz, .v (.int k' b)), (gu, .v (.int k'' b))]) (out := .sv (.sl sz ((xs.take b).drop a))) (rd := []) ho hg ?_ (by simp) (fun hgt => ?_) ?_
  · rw [hl]; exact ⟨_, _, rfl, hx, _, _, rfl, hy, _, _, rfl, hz, _, _, rfl, hu, rfl⟩
  · simp only [List.map_cons, List.map_nil]
    rw [entLV_true hgt hgx, entLV_true hgt hgy, entLV_true hgt hgz, entLV_true hgt hgu]
    refine OpC.of_pure4 (x := x) (y := y) (z := z) (u := u) hl (by simp) fun cx ρ w v1 v2 v3 v4 => ?_
    obtain ⟨h1, h2⟩ := ha hgt
    simp only [V] at v1
    obtain ⟨v, hr, hv⟩ := run_slice3 hF v1 a b k k' k'' h1 h2
    refine ⟨v, ?_, by simp only [V]; exact hv⟩
    simp [execOp, v2.val, v3.val, v4.val, hr]
  · rw [hl]; exact h
end
def LO.isRaw : LO → Bool
  | .raw _ => true
  | _ => false
/-- as0 `seeA`, and behind a pointer -/
def seeP (rd : List (Nat × LO)) : LV → LV
  | .ptr o off => match rd.lookup o with
    | some (.box _ cs) => match closedOf (cs.map (seeL rd)) with
      | some ss => if off ≤ ss.length then .sv (.at_ (ss.drop off)) else .ptr o off
      | none => .ptr o off
    | _ => .ptr o off
  | .agg cs => .agg (cs.map (seeL rd))
  | l => seeL rd l
theorem VSC.of_get {pr : Nat → Nat} {w : World} {b : Nat} : ∀ (m : List SV) (k : Nat), (∀ i (hi : i < m.length), ∃ v, w.cell? ⟨b, k + i, none⟩ = some v ∧ v.oneCell' = true ∧ VS pr w m[i] v) → VSC pr w b k m
  | [], k, _ => by simp [VSC]
  | a :: m, k, hk => by
    simp only [VSC]
    refine ⟨?_, VSC.of_get m (k + 1) fun i hi => ?_⟩
    · obtain ⟨v, c1, c2, c3⟩ := hk 0 (by simp)
      exact ⟨v, c1, c2, c3⟩
    · have := hk (i + 1) (by simp; omega)
      rw [show k + (i + 1) = k + 1 + i from by omega] at this
      exact this
theorem V.seeP {md : Nat → Prop} {n0 : Nat} {cx : Cx} {H : Hp} {w : World} {rd : List (Nat × LO)} (hok : HOk md n0 cx H w) (hrd : ∀ o x, hp rd o = some x → H o = some x) (hext : Ext cx.pr w (raise cx w rd) w) :
    ∀ (l : LV) (x : Value), V cx w l x → V ⟨raise cx w rd, cx.A, cx.loc, cx.inn⟩ w (seeP rd l) x := by
  intro l x h
  have hm : V ⟨raise cx w rd, cx.A, cx.loc, cx.inn⟩ w l x := V.mono (cx := cx) (cx' := ⟨raise cx w rd, cx.A, cx.loc, cx.inn⟩) (w := w) (w' := w) (fun o ho => ⟨ho, rfl⟩) hext l x h
  cases l with
  | agg cs =>
    simp only [Go.Proofs.YteccglgbkehdeaaGreatDoor.seeP, V] at h ⊢
    obtain ⟨vs, rfl, h2⟩ := h
    exact ⟨vs, rfl, Vs.see hok hrd hext cs vs h2⟩
  | ptr o off =>
    simp only [Go.Proofs.YteccglgbkehdeaaGreatDoor.seeP]
    split
    · rename_i T cs hl
      split
      · rename_i ss hss
        split
        · rename_i hle
          obtain ⟨h1, h2⟩ := closedOf_one hss
          have hH := hrd o _ hl
          obtain ⟨hAo, b, vs, k1, k2, k3⟩ := hok.ok o _ hH
          simp only [V] at h
          obtain ⟨_, b', hb', rfl⟩ := h
          rw [k1] at hb'
          simp only [bk, Option.some.injEq] at hb'
          subst hb'
          have hbl : blks cx (hp rd) b := ⟨o, _, hl, .inl (by rw [k1]; rfl)⟩
          have hra : raise cx w rd b = vs.length := by rw [raise, if_pos hbl, cellsAt, k2]; simp
          have k4 := Vs.see hok hrd hext cs vs k3
          have hvl : vs.length = ss.length := by rw [k4.length, h1, List.length_map]
          have hones := Vs.ones h2 k4
          simp only [V, VS]
          refine ⟨b, off, rfl, by rw [List.length_drop, hra, hvl]; omega, VSC.of_get _ _ fun i hi => ?_⟩
          rw [List.length_drop] at hi
          obtain ⟨v, hv, hV⟩ := Vs.get k4 (i := off + i) (c := .sv ss[off + i]) (by rw [h1]; simp [show off + i < ss.length by omega])
          refine ⟨v, by simp [World.cell?, k2, hv], hones v (List.mem_of_getElem? hv), ?_⟩
          simp only [V] at hV
          simpa using hV
        · exact hm
      · exact hm
    · exact hm
  | _ => exact V.see hok hrd hext _ x h
theorem Vs.seeP {md : Nat → Prop} {n0 : Nat} {cx : Cx} {H : Hp} {w : World} {rd : List (Nat × LO)} (hok : HOk md n0 cx H w) (hrd : ∀ o x, hp rd o = some x → H o = some x) (hext : Ext cx.pr w (raise cx w rd) w) :
    ∀ (l : List LV) (x : List Value), Vs cx w l x → Vs ⟨raise cx w rd, cx.A, cx.loc, cx.inn⟩ w (l.map (seeP rd)) x
  | [], x, h => by simpa [Vs] using h
  | c :: cs, x, h => by
    simp only [Vs, List.map_cons] at h ⊢
    obtain ⟨y, r, h1, h2, h3⟩ := h
    exact ⟨y, r, h1, V.seeP hok hrd hext c y h2, Vs.seeP hok hrd hext cs r h3⟩
theorem mem_lookup : ∀ {l : List (Nat × LO)} {o : Nat} {x : LO}, l.lookup o = some x → (o, x) ∈ l
  | [], _, _, h => by simp at h
  | (k, y) :: l, o, x, h => by
    rw [List.lookup_cons] at h
    split at h
    · rename_i hk
      simp only [beq_iff_eq] at hk
      cases h
      rw [hk]; exact List.mem_cons_self
    · exact List.mem_cons_of_mem _ (mem_lookup h)
open Classical in
/-- an operation that is handed what it looks at as0 closed -/
theorem OpC.see {P : Program} {r : Option Nat} {o : Oper} {lvs : List LV} {rd Hi : List (Nat × LO)} {out : LV} {Ho : List (Nat × LO)} {new : List Nat}
    (h : OpC P r o (lvs.map (seeP rd)) [] Hi out Ho new) (hplain : out.plain = true) (hraw : (Ho.all fun p => p.2.isRaw) = true)
    (hdis : ∀ i x j y, hp rd i = some x → hp Hi j = some y → i ≠ j) : OpC P r o lvs rd Hi out Ho new := by
  refine ⟨h.1, fun md n0 cx H a w K Q hok ham hrd hHi hnew hv hK => ?_⟩
  have hraise : ∀ b, blks cx (hp rd) b → cx.pr b = 0 ∧ b < w.heap.size := fun b ⟨o, x, hx, hb⟩ => by
    have := hok.own o x b (hrd o x hx) hb
    exact ⟨this.1, this.2.1⟩
  have hext : Ext cx.pr w (raise cx w rd) w := fun b off hbo => ⟨by
    unfold raise
    split
    · rename_i hh; have := (hraise b hh).1; omega
    · exact hbo, rfl⟩
  have hnot : ∀ o x b, hp Hi o = some x → cx.has o x b → ¬ blks cx (hp rd) b := fun o x b hx hb ⟨o', x', hx', hb'⟩ =>
    hok.inj o' o x' x b (hdis o' x' o x hx' hx) (hrd o' x' hx') (hHi o x hx) hb' hb
  let cx1 : Cx := ⟨raise cx w rd, cx.A, cx.loc, cx.inn⟩
  have hok1 : HOk md n0 cx1 (hp Hi) w := by
    refine ⟨fun o x hx => ?_, fun o x b hx hb => ?_, fun o o' x x' b hne hx hx' => hok.inj o o' x x' b hne (hHi o x hx) (hHi o' x' hx'), fun b hb => ?_⟩
    · obtain ⟨h1, h2⟩ := hok.ok o x (hHi o x hx)
      exact ⟨h1, ObjOk.mono (cx := cx) (cx' := cx1) (fun _ ho => ⟨ho, rfl⟩) hext h1 (fun _ _ _ => rfl) rfl h2⟩
    · obtain ⟨h1, h2⟩ := hok.own o x b (hHi o x hx) hb
      refine ⟨?_, h2⟩
      show raise cx w rd b = 0
      rw [raise, if_neg (hnot o x b hx hb)]
      exact h1
    · have hb' : 0 < raise cx w rd b := hb
      unfold raise at hb'
      split at hb'
      · rename_i hh; exact (hraise b hh).2
      · exact hok.lim b hb'
  refine h.2 md n0 cx1 (hp Hi) a w K Q hok1 (ham.ext hext) (by simp) (fun _ _ h => h) hnew (Vs.seeP hok hrd hext _ _ hv) (fun cx' w' v t hvo => ?_)
  let cx3 : Cx := ⟨fun b => if blks cx (hp rd) b then cx.pr b else cx'.pr b, cx'.A, cx'.loc, cx'.inn⟩
  have hp3 : ∀ b, blks cx (hp rd) b → cx3.pr b = cx.pr b := fun b hb => by show (if blks cx (hp rd) b then _ else _) = _; rw [if_pos hb]
  have hp4 : ∀ b, ¬ blks cx (hp rd) b → cx3.pr b = cx'.pr b := fun b hb => by show (if blks cx (hp rd) b then _ else _) = _; rw [if_neg hb]
  have hr1 : ∀ b, ¬ blks cx (hp rd) b → cx1.pr b = cx.pr b := fun b hb => by show raise cx w rd b = _; rw [raise, if_neg hb]
  refine hK cx3 w' v ⟨t.le, t.A, ⟨t.grow.os, t.grow.tape, t.grow.output, t.grow.size, t.grow.same, fun b hb hn => ?_, fun b off hbo => ?_⟩, ⟨fun o x hx => ?_, fun o x b hx hb => ?_, t.heap.inj, fun b hb => ?_⟩, t.inn⟩ (V.plain _ _ hplain hvo)
  · by_cases hh : blks cx (hp rd) b
    · exact hp3 b hh
    · rw [hp4 b hh, t.grow.prs b hb hn, hr1 b hh]
  · have hh : ¬ blks cx (hp rd) b := fun hh => by have := (hraise b hh).1; omega
    rw [hp4 b hh]
    exact t.grow.ext b off (by rw [hr1 b hh]; exact hbo)
  · obtain ⟨h1, h2⟩ := t.heap.ok o x hx
    have hm : (o, x) ∈ Ho := mem_lookup hx
    have hx' := List.all_eq_true.1 hraw (o, x) hm
    refine ⟨h1, ?_⟩
    cases x with
    | raw y => exact h2
    | _ => simp [LO.isRaw] at hx'
  · obtain ⟨h1, h2⟩ := t.heap.own o x b hx hb
    refine ⟨?_, h2⟩
    by_cases hh : blks cx (hp rd) b
    · rw [hp3 b hh]; exact (hraise b hh).1
    · rw [hp4 b hh]; exact h1
  · by_cases hh : blks cx (hp rd) b
    · rw [hp3 b hh] at hb; have := (hraise b hh).1; omega
    · rw [hp4 b hh] at hb; exact t.heap.lim b hb
section
variable {P : Program} {r : Option Nat} {N : Nat} {D : List Nat} {B : Base} {all : Array Oper} {K : List (Nat × Ct) → St → Prop}
variable {i : Nat} {ops : List Oper} {tr : List (Nat × Ct)} {E : List (Nat × Ent)} {L : List (Nat × LO)} {n : Nat} {g : Bool} {gn : List (Nat × Ent)}
variable {d ty : Nat} {pos : String} {aft : Array Edge} {gd : Option (Nat × Bool)}
/-- a call with objects, of a function that is handed other ones to look at -/
theorem R.callXS {f : Nat} {fo : Operand} {args : Array Operand} {ats : Array TypeId} {es : List Ent} {lvs : List LV} {out out' : LV} {Hi Hi' Ho Ho' : List (Nat × LO)} (ids : List Nat) (rd : List (Nat × LO)) (hc : LC P f ids.length lvs Hi out Ho 0)
    (hK : KeepL (hp L) rd := by repeat (first | exact trivial | refine ⟨rfl, ?_⟩))
    (ho : all[i]? = some ⟨some d, .call { callee := .value fo, args := args, argTypes := ats }, ty, pos, aft, none⟩ := by rfl)
    (hf : lvOf (en E) fo = some (true, .fn (.func f) [] []) := by rfl)
    (hx : args.toList.map (lvOf (en E)) = es.map some := by rfl) (hes : (es.map entLV).map (seeP rd) = LV.mapIs (sg ids n) lvs := by rfl) (hnd : ids.Nodup := by decide)
    (hout : out.mapI (sg ids n) = out' := by rfl) (hHi : (Hi.map fun p => (sg ids n p.1, p.2.mapI (sg ids n))) = Hi' := by rfl) (hHo : (Ho.map fun p => (sg ids n p.1, p.2.mapI (sg ids n))) = Ho' := by rfl)
    (hplain : out'.plain = true := by rfl) (hraw : (Ho'.all fun p => p.2.isRaw) = true := by rfl) (hdis : (rd.all fun p => !((Hi'.map (·.1)).contains p.1)) = true := by rfl)
    (hL : KeepL (hp L) Hi' := by repeat (first | exact trivial | refine ⟨rfl, ?_⟩))
    (h : Reg P r N D B all (i + 1) ops ((i, ⟨needOf (fo :: args.toList) ((true, .fn (.func f) [] []) :: es), some d, (true, out'), rd, Hi', Ho', []⟩) :: tr) (st ((d, (true, out')) :: E) (updL L Hi' Ho') n) K) :
    Reg P r N D B all i (⟨some d, .call { callee := .value fo, args := args, argTypes := ats }, ty, pos, aft, none⟩ :: ops) tr (st E L n) K := by
  have hl : (Oper.mk (some d) (.call { callee := .value fo, args := args, argTypes := ats }) ty pos aft none).op.operands.toList = fo :: args.toList := by simp [Op.operands, Go.Call.operands]
  have h2 := OpC.call (r := r) (n := n) (ids := ids) (k := 0) (Ho := Ho) hc hnd (o := ⟨some d, .call { callee := .value fo, args := args, argTypes := ats }, ty, pos, aft, none⟩) rfl rfl (first := []) (cap := []) (avs := (es.map entLV).map (seeP rd)) (by rw [List.append_nil]; exact hes)
  rw [hout, hHi, hHo] at h2
  have h3 : OpC P r ⟨some d, .call { callee := .value fo, args := args, argTypes := ats }, ty, pos, aft, none⟩ (((true, .fn (.func f) [] []) :: es).map entLV) rd Hi' out' Ho' (List.range' n 0) := OpC.see h2 hplain hraw (fun i x j y h1 h2 he => by
    have := List.all_eq_true.1 hdis (i, x) (mem_lookup h1)
    rw [he] at this
    simp [lookup_mem h2] at this)
  refine Reg.gen (m := 0) (es := (true, .fn (.func f) [] []) :: es) (rd := rd) (Hi := Hi') (Ho := Ho') (out := out') ho gN (by rw [hl]; exact ⟨_, _, rfl, hf, Opnds.of_map hx⟩) (fun o x hx => hK.get hx) (fun o x hx => hL.get hx) h3 ?_
  rw [hl]
  exact h
theorem R.nilCheckAt {x : Operand} {gx : Bool} {cs : List SV} (ho : all[i]? = some ⟨some d, .nilCheck x, ty, pos, aft, gd⟩ := by rfl)
    (hg : GuardOk (en E) all gd g gn := by first | exact gN | exact gS rfl rfl)
    (hx : lvOf (en E) x = some (gx, .sv (.at_ cs)) := by rfl) (hgx : g = true → gx = true := by first | exact fun _ => rfl | exact id)
    (h : Reg P r N D B all (i + 1) ops ((i, Ct.p gn [x] [(gx, .sv (.at_ cs))] (some d) (g, .sv (.at_ cs)) []) :: tr) (st ((d, (g, .sv (.at_ cs))) :: E) L n) K) :
    Reg P r N D B all i (⟨some d, .nilCheck x, ty, pos, aft, gd⟩ :: ops) tr (st E L n) K :=
  Reg.one rfl (fun h => by
    rw [entLV_true h hgx]
    refine OpC.of_pure1 (x := x) rfl (by simp) fun md n0 cx H ρ w _ _ hv => ?_
    have hv' := hv
    simp only [V, VS] at hv'
    obtain ⟨b, off, e, _⟩ := hv'
    exact ⟨ρ x, by simp [execOp, e], hv⟩) ho hg hx (by simp) h
end
theorem copiedN_P (s : Sc) (hv : s.ven.secs.length ≤ 100000) (hvr : ∀ x ∈ s.ven.secs, x.rows.length ≤ 100000) (hg : s.gates.length ≤ 100000) (hgr : ∀ x ∈ s.gates, x.secs.length ≤ 100000) (hcl : s.calls.length ≤ 100000) : PC Tryz.prog 85 [.agg (s.c.map LV.sv), .v (.slice none 0 0)] (.agg ((s.c.map LV.sv).set 8 (.v (.slice none 0 0)))) := by
 refine ⟨LC.of_go Tryz.func85 (c := _) rfl (by kernel_rfl) (by rw [Tryz.ntmps85]; simp) rfl rfl (by simp [LO.lt, LV.lts, LV.lt, lts_sv]) (by simp) ?_⟩
 intro B hA hmd
 refine .seq ?_
 refine .region rfl ?_
 refine R.box (h := ?_)
 refine R.alloc Z29 (h := ?_)
 refine .n0 ?_
 refine .seq ?_
 refine .region rfl ?_
 first | refine R.field F29_0 (h := ?_) | refine R.fieldAt F29_0 (h := ?_)
 first | refine R.field F24_3 (h := ?_) | refine R.fieldAt F24_3 (h := ?_)
 first | refine R.loadB O22 (h := ?_) | refine R.load1 O22 (h := ?_)
 refine R.callX (es := [_]) [] (cloneV (s.ven.secs.map VnS.c) (vs_ones _) (by rw [List.length_map]; exact hv)) (h := ?_)
 first | refine R.field F29_0 (h := ?_) | refine R.fieldAt F29_0 (h := ?_)
 first | refine R.field F24_3 (h := ?_) | refine R.fieldAt F24_3 (h := ?_)
 refine R.storeB O22 (h := ?_)
 refine .n0 ?_
 refine .seq ?_
 refine .seq ?_
 refine .region rfl ?_
 first | refine R.field F29_0 (h := ?_) | refine R.fieldAt F29_0 (h := ?_)
 first | refine R.field F24_3 (h := ?_) | refine R.fieldAt F24_3 (h := ?_)
 first | refine R.loadB O22 (h := ?_) | refine R.load1 O22 (h := ?_)
 first | refine R.len S22 (h := ?_) | refine R.lenRs S22 (h := ?_) | refine R.lenV (run_lenNil S22) (h := ?_)
 rw [List.length_map]
 refine R.move (h := ?_)
 refine .n0 ?_
 refine .block ?_
 refine .loop ?_
 refine LGo.loopG (σ := Nat) (fun x => x ≤ s.ven.secs.length) (fun x => [(17, (true, .i (x : Nat)))]) (fun x => [(0, .box 29 [.i s.ven.shards, .i s.ven.ttl, .i s.ven.session, .ref 2, .t s.key, .sv (.sl 3 (s.gates.map GtG.c)), .i s.workers, .sv (.sl 11 (s.calls.map SrC.c)), .sv (.sl 3 (s.evs.map SrE.c))]), (1, .box 29 [.i 0, .i 0, .i 0, .v (.slice none 0 0), .t [], .v (.slice none 0 0), .i 0, .v (.slice none 0 0), .v (.slice none 0 0)]), (2, .rs 80 3 (s.ven.secs.map VnS.c))]) (fun x => s.ven.secs.length - x) (0) [(1, _), (2, _), (4, _), (16, _)] (Nat.zero_le _) (by repeat (first | exact trivial | refine ⟨rfl, ?_⟩)) (by repeat (first | exact trivial | refine ⟨rfl, ?_⟩)) (by repeat (first | exact trivial | refine ⟨rfl, ?_⟩)) ?_
 rintro k hk ih
 refine .seq ?_
 refine .region rfl ?_
 refine R.bin (run_lss _ _ _ _ _ _) (h := ?_)
 refine .n0 ?_
 refine .seq ?_
 refine LGo.ifd (ht := fun hc => ?_) (hf := fun hc => ?_)
 ·
  have hlt : k < s.ven.secs.length := by omega
  have hx0 : s.ven.secs[k]? = some s.ven.secs[k] := List.getElem?_eq_getElem hlt
  have hx : (s.ven.secs.map VnS.c)[k]? = some s.ven.secs[k].c := by simp [hlt]
  have hsl := hvr s.ven.secs[k] (List.getElem_mem hlt)
  generalize s.ven.secs[k] = g at hx hx0 hsl
  refine .skip ?_
  refine .seq ?_
  refine .block ?_
  refine .seq ?_
  refine .region rfl ?_
  refine R.move (h := ?_)
  refine R.assign (h := ?_)
  refine .n0 ?_
  refine .region rfl ?_
  first | refine R.field F29_0 (h := ?_) | refine R.fieldAt F29_0 (h := ?_)
  first | refine R.field F24_3 (h := ?_) | refine R.fieldAt F24_3 (h := ?_)
  first | refine R.loadB O22 (h := ?_) | refine R.load1 O22 (h := ?_)
  refine R.move (h := ?_)
  first | refine R.field F29_0 (h := ?_) | refine R.fieldAt F29_0 (h := ?_)
  first | refine R.field F24_3 (h := ?_) | refine R.fieldAt F24_3 (h := ?_)
  first | refine R.loadB O22 (h := ?_) | refine R.load1 O22 (h := ?_)
  refine R.move (h := ?_)
  refine R.indexRs I22 (hj := fun _ => ⟨by omega, by rw [List.length_map]; omega⟩) (h := ?_)
  first | refine R.field F80_1 (h := ?_) | refine R.fieldAt F80_1 (h := ?_)
  refine R.loadRs1 O65 k 1 (ev := g.c) (hj := fun _ => ⟨hx, rfl⟩) (h := ?_)
  refine R.callP (es := [_]) (fun _ => cloneI_P (ic .i64 g.rows) (ic_one _ _) (by rw [ic_len]; exact hsl)) (h := ?_)
  refine R.indexRs I22 (hj := fun _ => ⟨by omega, by rw [List.length_map]; omega⟩) (h := ?_)
  first | refine R.field F80_1 (h := ?_) | refine R.fieldAt F80_1 (h := ?_)
  refine R.storeRs1 O65 k 1 g.c (hj := hx) (h := ?_)
  rw [set_sec s.ven.secs k g hx0]
  refine Reg.nil ⟨fun _ => ⟨mixedO, by rfl, by rfl⟩, ?_⟩
  refine .inBlock ?_
  refine .region rfl ?_
  first | refine R.add (h := ?_) | refine R.addW (h := ?_)
  refine R.move (h := ?_)
  refine .n0 ?_
  refine .inLoop ?_
  exact LGo.next _ (fun o h => by have := (hA o).1 h; omega) (by omega) (ih (k + 1) (by omega) (by omega)) (by repeat (first | exact trivial | refine ⟨rfl, ?_⟩)) ⟨rfl, rfl, rfl, trivial⟩
 ·
  refine .exit rfl ?_
  refine .seq ?_
  refine .region rfl ?_
  first | refine R.field F29_2 (h := ?_) | refine R.fieldAt F29_2 (h := ?_)
  first | refine R.loadB O25 (h := ?_) | refine R.load1 O25 (h := ?_)
  refine R.callX (es := [_]) [] (cloneG (s.gates.map GtG.c) (gt_ones _) (by rw [List.length_map]; exact hg)) (h := ?_)
  first | refine R.field F29_2 (h := ?_) | refine R.fieldAt F29_2 (h := ?_)
  refine R.storeB O25 (h := ?_)
  refine .n0 ?_
  refine .seq ?_
  refine .seq ?_
  refine .region rfl ?_
  first | refine R.field F29_2 (h := ?_) | refine R.fieldAt F29_2 (h := ?_)
  first | refine R.loadB O25 (h := ?_) | refine R.load1 O25 (h := ?_)
  first | refine R.len S25 (h := ?_) | refine R.lenRs S25 (h := ?_) | refine R.lenV (run_lenNil S25) (h := ?_)
  rw [List.length_map]
  refine R.move (h := ?_)
  refine .n0 ?_
  refine .block ?_
  refine .loop ?_
  refine LGo.loopG (σ := Nat) (fun x => x ≤ s.gates.length) (fun x => [(42, (true, .i (x : Nat)))]) (fun x => [(0, .box 29 [.i s.ven.shards, .i s.ven.ttl, .i s.ven.session, .ref 2, .t s.key, .ref 3, .i s.workers, .sv (.sl 11 (s.calls.map SrC.c)), .sv (.sl 3 (s.evs.map SrE.c))]), (1, .box 29 [.i 0, .i 0, .i 0, .v (.slice none 0 0), .t [], .v (.slice none 0 0), .i 0, .v (.slice none 0 0), .v (.slice none 0 0)]), (2, .rs 80 3 (s.ven.secs.map VnS.c)), (3, .rs 71 3 (s.gates.map GtG.c))]) (fun x => s.gates.length - x) (0) [(1, _), (2, _), (4, _), (41, _)] (Nat.zero_le _) (by repeat (first | exact trivial | refine ⟨rfl, ?_⟩)) (by repeat (first | exact trivial | refine ⟨rfl, ?_⟩)) (by repeat (first | exact trivial | refine ⟨rfl, ?_⟩)) ?_
  rintro j hj ih2
  refine .seq ?_
  refine .region rfl ?_
  refine R.bin (run_lss _ _ _ _ _ _) (h := ?_)
  refine .n0 ?_
  refine .seq ?_
  refine LGo.ifd (ht := fun hc2 => ?_) (hf := fun hc2 => ?_)
  ·
   have hlt : j < s.gates.length := by omega
   have hx0 : s.gates[j]? = some s.gates[j] := List.getElem?_eq_getElem hlt
   have hx : (s.gates.map GtG.c)[j]? = some s.gates[j].c := by simp [hlt]
   have hsl := hgr s.gates[j] (List.getElem_mem hlt)
   generalize s.gates[j] = g at hx hx0 hsl
   refine .skip ?_
   refine .seq ?_
   refine .block ?_
   refine .seq ?_
   refine .region rfl ?_
   refine R.move (h := ?_)
   refine R.assign (h := ?_)
   refine .n0 ?_
   refine .region rfl ?_
   first | refine R.field F29_2 (h := ?_) | refine R.fieldAt F29_2 (h := ?_)
   first | refine R.loadB O25 (h := ?_) | refine R.load1 O25 (h := ?_)
   refine R.move (h := ?_)
   first | refine R.field F29_2 (h := ?_) | refine R.fieldAt F29_2 (h := ?_)
   first | refine R.loadB O25 (h := ?_) | refine R.load1 O25 (h := ?_)
   refine R.move (h := ?_)
   refine R.indexRs I25 (hj := fun _ => ⟨by omega, by rw [List.length_map]; omega⟩) (h := ?_)
   first | refine R.field F71_0 (h := ?_) | refine R.fieldAt F71_0 (h := ?_)
   refine R.loadRs1 O65 j 0 (ev := g.c) (hj := fun _ => ⟨hx, rfl⟩) (h := ?_)
   refine R.callP (es := [_]) (fun _ => cloneI_P (ic .i64 g.secs) (ic_one _ _) (by rw [ic_len]; exact hsl)) (h := ?_)
   refine R.indexRs I25 (hj := fun _ => ⟨by omega, by rw [List.length_map]; omega⟩) (h := ?_)
   first | refine R.field F71_0 (h := ?_) | refine R.fieldAt F71_0 (h := ?_)
   refine R.storeRs1 O65 j 0 g.c (hj := hx) (h := ?_)
   rw [set_gate s.gates j g hx0]
   refine Reg.nil ⟨fun _ => ⟨mixedO, by rfl, by rfl⟩, ?_⟩
   refine .inBlock ?_
   refine .region rfl ?_
   first | refine R.add (h := ?_) | refine R.addW (h := ?_)
   refine R.move (h := ?_)
   refine .n0 ?_
   refine .inLoop ?_
   exact LGo.next _ (fun o h => by have := (hA o).1 h; omega) (by omega) (ih2 (j + 1) (by omega) (by omega)) (by repeat (first | exact trivial | refine ⟨rfl, ?_⟩)) ⟨rfl, rfl, rfl, rfl, trivial⟩
  ·
   refine .exit rfl ?_
   refine .seq ?_
   refine .region rfl ?_
   first | refine R.field F29_4 (h := ?_) | refine R.fieldAt F29_4 (h := ?_)
   first | refine R.loadB O26 (h := ?_) | refine R.load1 O26 (h := ?_)
   refine R.callX (es := [_]) [] (cloneC (s.calls.map SrC.c) (sc_ones _) (by rw [List.length_map]; exact hcl)) (h := ?_)
   refine R.move (h := ?_)
   first | refine R.field F29_4 (h := ?_) | refine R.fieldAt F29_4 (h := ?_)
   refine R.storeB O26 (h := ?_)
   first | refine R.field F29_5 (h := ?_) | refine R.fieldAt F29_5 (h := ?_)
   refine R.storeB O27 (h := ?_)
   refine .n0 ?_
   refine .seq ?_
   refine .region rfl ?_
   first | refine R.loadA A29 (h := ?_) | refine R.loadN A29 (h := ?_) | refine R.loadP A29 (h := ?_)
   refine R.storeA A29 (h := ?_)
   refine .n0 ?_
   refine LGo.pack 1 3 (h := ?_)
   refine LGo.frzBx 1 (h := ?_)
   refine LGo.pack 1 5 (h := ?_)
   refine LGo.frzBx 1 (h := ?_)
   refine LGo.pack 1 7 (h := ?_)
   refine LGo.frzBx 1 (h := ?_)
   exact LGo.ret (ret_A Tryz.results85 A29 hA hmd)
/-- the nil slice as0 a script's events -/
theorem nilEv (s : Sc) (cx : Cx) (w : World) (x : Value) (h : V cx w (.agg ((s.c.map LV.sv).set 8 (.v (.slice none 0 0)))) x) : V cx w (.agg ((Sc.c { s with evs := [] }).map LV.sv)) x := by
  simp only [V] at h ⊢
  obtain ⟨us, rfl, hu⟩ := h
  refine ⟨us, rfl, ?_⟩
  have e1 : (s.c.map LV.sv).set 8 (.v (.slice none 0 0)) = (s.c.take 8).map LV.sv ++ [.v (.slice none 0 0)] := rfl
  have e2 : (Sc.c { s with evs := [] }).map LV.sv = (s.c.take 8).map LV.sv ++ [.sv (.sl 3 [])] := rfl
  rw [e1] at hu
  rw [e2]
  obtain ⟨a, b, rfl, ha, hb⟩ := Vs.split hu
  refine Vs.append ha ?_
  simp only [Vs] at hb ⊢
  obtain ⟨v, r, rfl, hv, hr⟩ := hb
  exact ⟨v, r, rfl, by simp only [V, VS] at hv ⊢; exact .inl ⟨.inl hv, trivial⟩, hr⟩
theorem PC.nilEv {P : Program} {f : FuncId} {s : Sc} {out : LV} (h : PC P f [.agg ((Sc.c { s with evs := [] }).map LV.sv)] out) : PC P f [.agg ((s.c.map LV.sv).set 8 (.v (.slice none 0 0)))] out :=
  PC.args h (by simp [LV.lts, LV.lt, Sc.c]) (fun cx w vs hv => by
    simp only [Vs] at hv ⊢
    obtain ⟨v, r, rfl, k1, hr⟩ := hv
    exact ⟨v, r, rfl, Go.Proofs.YteccglgbkehdeaaGreatDoor.nilEv s cx w v k1, hr⟩)
theorem nextK_no (ks : List Int) {x : SrE} (h : x.kind ≠ 1) : nextK ks x = ks := if_neg h
theorem sq_byte {v : Nat} (hv : v < 256) : ((v * v : Nat) : Int) ≤ 65025 := by
  have : v * v ≤ 255 * 255 := Nat.mul_le_mul (by omega) (by omega)
  omega
theorem decoded_L (s : Sc) (hcl : s.calls.length ≤ 100000) (hw : 1 ≤ s.workers ∧ s.workers ≤ 8) (ks : List Int) (b v : Nat) (hb : b < 256) (hv : v < 256) : LC Tryz.prog 96 1 [.sv (.at_ s.c), .ref 0, .i b, .i v] [(0, .raw (mapOb encI (mB ks)))] (.agg ((decE s ks b v).c.map LV.sv)) [(0, .raw (mapOb encI (mB (nextK ks (decE s ks b v)))))] 0 := by
 refine LC.of_go Tryz.func96 (c := _) rfl (by kernel_rfl) (by rw [Tryz.ntmps96]; simp) rfl rfl (by simp [LO.lt, LV.lts, LV.lt, lts_sv]) (by simp) ?_
 intro B hA hmd
 obtain ⟨g, e0⟩ : ∃ g, decE s ks b v = g := ⟨_, rfl⟩
 have e1 := e0
 unfold decE at e1
 rw [e0]
 have hsq := sq_byte hv
 have hd0 : 0 ≤ (v : Int) / (s.calls.length : Int) := Int.ediv_nonneg (by omega) (by omega)
 have hd1 : (v : Int) / (s.calls.length : Int) ≤ v := Int.ediv_le_self _ (by omega)
 have hm0 := Int.emod_nonneg ((v / s.calls.length : Nat) : Int) (show s.workers ≠ 0 by omega)
 have hm1 := Int.emod_lt_of_pos ((v / s.calls.length : Nat) : Int) (show 0 < s.workers by omega)
 refine .seq ?_
 refine .region rfl ?_
 refine R.alloc Z58 (h := ?_)
 refine .n0 ?_
 refine .seq ?_
 refine .seq ?_
 refine .region rfl ?_
 refine R.move (h := ?_)
 refine R.rem (h := ?_)
 rw [show (b : Int) % 8 = ((b % 8 : Nat) : Int) from by omega]
 refine .n0 ?_
 refine .block ?_
 refine .seq ?_
 refine .region rfl ?_
 refine R.bin (run_eql _ _ _ _ _ _) (h := ?_)
 refine R.assign (h := ?_)
 refine .n0 ?_
 refine LGo.ifd (ht := fun hc => ?_) (hf := fun hc => ?_)
 ·
  have h1 : b % 8 = 3 := by omega
  rw [if_pos h1] at e1
  refine .seq ?_
  refine .region rfl ?_
  refine R.move (h := ?_)
  refine R.rem (h := ?_)
  rw [show (v : Int) % 20 = ((v % 20 : Nat) : Int) from by omega]
  first | refine R.add (h := ?_) | refine R.addW (h := ?_)
  refine R.build BF58 (is := [0, 1]) (xs := [_, _]) (es := [_, _]) (h := ?_)
  refine R.storeA A58 (h := ?_)
  refine .n0 ?_
  subst e1
  rw [nextK_no ks (by dsimp only; decide)]
  exact LGo.ret (ret_A Tryz.results96 A58 hA hmd)
 ·
  have h1 : ¬ b % 8 = 3 := by omega
  rw [if_neg h1] at e1
  refine .seq ?_
  refine .region rfl ?_
  refine R.bin (run_eql _ _ _ _ _ _) (h := ?_)
  refine R.assign (h := ?_)
  refine .n0 ?_
  refine LGo.ifd (ht := fun hc2 => ?_) (hf := fun hc2 => ?_)
  ·
   have h2 : b % 8 = 4 := by omega
   rw [if_pos h2] at e1
   refine .seq ?_
   refine .region rfl ?_
   refine R.move (h := ?_)
   refine R.rem (h := ?_)
   rw [show (v : Int) % 8 = ((v % 8 : Nat) : Int) from by omega]
   first | refine R.add (h := ?_) | refine R.addW (h := ?_)
   refine R.build BF58 (is := [0, 1]) (xs := [_, _]) (es := [_, _]) (h := ?_)
   refine R.storeA A58 (h := ?_)
   refine .n0 ?_
   subst e1
   rw [nextK_no ks (by dsimp only; decide)]
   exact LGo.ret (ret_A Tryz.results96 A58 hA hmd)
  ·
   have h2 : ¬ b % 8 = 4 := by omega
   rw [if_neg h2] at e1
   refine .seq ?_
   refine .region rfl ?_
   refine R.bin (run_eql _ _ _ _ _ _) (h := ?_)
   refine R.assign (h := ?_)
   refine .n0 ?_
   refine LGo.ifd (ht := fun hc3 => ?_) (hf := fun hc3 => ?_)
   ·
    have h3 : b % 8 = 5 := by omega
    rw [if_pos h3] at e1
    refine .seq ?_
    refine .region rfl ?_
    refine R.move (h := ?_)
    refine R.move (h := ?_)
    first | refine R.mul (h := ?_) | refine R.mulW (h := ?_)
    rw [← Int.natCast_mul]
    first | refine R.add (h := ?_) | refine R.addW (h := ?_)
    refine R.build BF58 (is := [0, 1]) (xs := [_, _]) (es := [_, _]) (h := ?_)
    refine R.storeA A58 (h := ?_)
    refine .n0 ?_
    subst e1
    rw [nextK_no ks (by dsimp only; decide)]
    exact LGo.ret (ret_A Tryz.results96 A58 hA hmd)
   ·
    have h3 : ¬ b % 8 = 5 := by omega
    rw [if_neg h3] at e1
    refine .seq ?_
    refine .seq ?_
    refine .region rfl ?_
    refine R.bin (run_eql _ _ _ _ _ _) (h := ?_)
    refine R.assign (h := ?_)
    refine .n0 ?_
    refine LGo.ifd (ht := fun hc4 => ?_) (hf := fun hc4 => ?_)
    ·
     have h4 : b % 8 = 6 ∨ b % 8 = 7 := by omega
     rw [if_pos h4] at e1
     refine .skip ?_
     first | refine LGo.ifd (ht := fun _ => ?_) (hf := fun h => absurd hc4 h) | refine LGo.ifb (ht := fun _ => ?_) (hf := fun h => by rw [hc4] at h; cases h)
     refine .seq ?_
     refine .region rfl ?_
     refine R.move (h := ?_)
     refine R.nilCheckAt (h := ?_)
     first | refine R.field F29_4 (h := ?_) | refine R.fieldAt F29_4 (h := ?_)
     first | refine R.loadB O26 (h := ?_) | refine R.load1 O26 (h := ?_)
     first | refine R.len S26 (h := ?_) | refine R.lenRs S26 (h := ?_) | refine R.lenV (run_lenNil S26) (h := ?_)
     rw [List.length_map]
     refine R.assign (h := ?_)
     refine .n0 ?_
     refine .seq ?_
     refine .seq ?_
     refine .region rfl ?_
     refine R.move (h := ?_)
     refine R.bin (run_eql _ _ _ _ _ _) (h := ?_)
     refine .n0 ?_
     refine LGo.ifd (ht := fun hc6 => ?_) (hf := fun hc6 => ?_)
     ·
      have h5 : s.calls.length = 0 := by omega
      rw [if_pos h5] at e1
      refine .exit rfl ?_
      refine .seq ?_
      refine .region rfl ?_
      refine R.move (h := ?_)
      refine R.build BF58 (is := [0, 1]) (xs := [_, _]) (es := [_, _]) (h := ?_)
      refine R.storeA A58 (h := ?_)
      refine .n0 ?_
      subst e1
      rw [nextK_no ks (by dsimp only; decide)]
      exact LGo.ret (ret_A Tryz.results96 A58 hA hmd)
     ·
      have h5 : ¬ s.calls.length = 0 := by omega
      rw [if_neg h5] at e1
      refine .skip ?_
      refine .seq ?_
      refine .region rfl ?_
      refine R.move (h := ?_)
      refine R.move (h := ?_)
      refine R.rem (h := ?_)
      rw [← Int.natCast_emod]
      refine R.assign (h := ?_)
      refine .n0 ?_
      refine .seq ?_
      refine .region rfl ?_
      refine R.move (h := ?_)
      refine R.move (h := ?_)
      refine R.lookup1 (enc := encI) (z := .bool false) (a := ((v % s.calls.length : Nat) : Int)) (l := mB ks) Tryz.underlying158 keyI Z4 Told.v (h := ?_)
      rw [getM_B]
      refine R.not (h := ?_)
      refine .n0 ?_
      refine LGo.ifb (ht := fun hc7 => ?_) (hf := fun hc7 => ?_)
      ·
       have h6 : ks.contains ((v % s.calls.length : Nat) : Int) = false := by simpa using hc7
       rw [if_neg (by rw [h6]; simp)] at e1
       refine .seq ?_
       refine .region rfl ?_
       refine R.move (h := ?_)
       refine R.move (h := ?_)
       refine R.mapUpd (enc := encI) (a := ((v % s.calls.length : Nat) : Int)) Tryz.underlying158 keyI Told.v (h := ?_)
       rw [putM_B]
       refine .n0 ?_
       refine .seq ?_
       refine .region rfl ?_
       refine R.move (h := ?_)
       refine R.move (h := ?_)
       refine R.move (h := ?_)
       refine R.quo (h := ?_)
       rw [← Int.natCast_ediv]
       refine R.move (h := ?_)
       refine R.nilCheckAt (h := ?_)
       first | refine R.field F29_3 (h := ?_) | refine R.fieldAt F29_3 (h := ?_)
       first | refine R.loadB O3 (h := ?_) | refine R.load1 O3 (h := ?_)
       refine R.rem (h := ?_)
       first | refine R.add (h := ?_) | refine R.addW (h := ?_)
       refine R.build BF58 (is := [0, 1, 2]) (xs := [_, _, _]) (es := [_, _, _]) (h := ?_)
       refine R.storeA A58 (h := ?_)
       refine Reg.nil ⟨fun _ => ⟨mixedO, by rfl, by rfl⟩, ?_⟩
       subst e1
       rw [show nextK ks ⟨1, ((v % s.calls.length : Nat) : Int), 1 + ((v / s.calls.length : Nat) : Int) % s.workers⟩ = addK ((v % s.calls.length : Nat) : Int) ks from if_pos rfl]
       exact LGo.ret (ret_A Tryz.results96 A58 hA hmd)
      ·
       have h6 : ks.contains ((v % s.calls.length : Nat) : Int) = true := by simpa using hc7
       rw [if_pos h6] at e1
       refine .skip ?_
       refine .inBlock ?_
       refine .seq ?_
       refine .region rfl ?_
       refine R.move (h := ?_)
       refine R.build BF58 (is := [0, 1]) (xs := [_, _]) (es := [_, _]) (h := ?_)
       refine R.storeA A58 (h := ?_)
       refine .n0 ?_
       subst e1
       rw [nextK_no ks (by dsimp only; decide)]
       exact LGo.ret (ret_A Tryz.results96 A58 hA hmd)
    ·
     have h40 : ¬ b % 8 = 6 := by omega
     refine .region rfl ?_
     refine R.bin (run_eql _ _ _ _ _ _) (h := ?_)
     refine R.assign (h := ?_)
     refine .n0 ?_
     refine LGo.ifd (ht := fun hc8 => ?_) (hf := fun hc8 => ?_)
     ·
      have h4 : b % 8 = 6 ∨ b % 8 = 7 := by omega
      rw [if_pos h4] at e1
      refine .seq ?_
      refine .region rfl ?_
      refine R.move (h := ?_)
      refine R.nilCheckAt (h := ?_)
      first | refine R.field F29_4 (h := ?_) | refine R.fieldAt F29_4 (h := ?_)
      first | refine R.loadB O26 (h := ?_) | refine R.load1 O26 (h := ?_)
      first | refine R.len S26 (h := ?_) | refine R.lenRs S26 (h := ?_) | refine R.lenV (run_lenNil S26) (h := ?_)
      rw [List.length_map]
      refine R.assign (h := ?_)
      refine .n0 ?_
      refine .seq ?_
      refine .seq ?_
      refine .region rfl ?_
      refine R.move (h := ?_)
      refine R.bin (run_eql _ _ _ _ _ _) (h := ?_)
      refine .n0 ?_
      refine LGo.ifd (ht := fun hc9 => ?_) (hf := fun hc9 => ?_)
      ·
       have h5 : s.calls.length = 0 := by omega
       rw [if_pos h5] at e1
       refine .exit rfl ?_
       refine .seq ?_
       refine .region rfl ?_
       refine R.move (h := ?_)
       refine R.build BF58 (is := [0, 1]) (xs := [_, _]) (es := [_, _]) (h := ?_)
       refine R.storeA A58 (h := ?_)
       refine .n0 ?_
       subst e1
       rw [nextK_no ks (by dsimp only; decide)]
       exact LGo.ret (ret_A Tryz.results96 A58 hA hmd)
      ·
       have h5 : ¬ s.calls.length = 0 := by omega
       rw [if_neg h5] at e1
       refine .skip ?_
       refine .seq ?_
       refine .region rfl ?_
       refine R.move (h := ?_)
       refine R.move (h := ?_)
       refine R.rem (h := ?_)
       rw [← Int.natCast_emod]
       refine R.assign (h := ?_)
       refine .n0 ?_
       refine .seq ?_
       refine .region rfl ?_
       refine R.move (h := ?_)
       refine R.move (h := ?_)
       refine R.lookup1 (enc := encI) (z := .bool false) (a := ((v % s.calls.length : Nat) : Int)) (l := mB ks) Tryz.underlying158 keyI Z4 Told.v (h := ?_)
       rw [getM_B]
       refine R.not (h := ?_)
       refine .n0 ?_
       refine LGo.ifb (ht := fun hc10 => ?_) (hf := fun hc10 => ?_)
       ·
        have h6 : ks.contains ((v % s.calls.length : Nat) : Int) = false := by simpa using hc10
        rw [if_neg (by rw [h6]; simp)] at e1
        refine .seq ?_
        refine .region rfl ?_
        refine R.move (h := ?_)
        refine R.move (h := ?_)
        refine R.mapUpd (enc := encI) (a := ((v % s.calls.length : Nat) : Int)) Tryz.underlying158 keyI Told.v (h := ?_)
        rw [putM_B]
        refine .n0 ?_
        refine .seq ?_
        refine .region rfl ?_
        refine R.move (h := ?_)
        refine R.move (h := ?_)
        refine R.move (h := ?_)
        refine R.quo (h := ?_)
        rw [← Int.natCast_ediv]
        refine R.move (h := ?_)
        refine R.nilCheckAt (h := ?_)
        first | refine R.field F29_3 (h := ?_) | refine R.fieldAt F29_3 (h := ?_)
        first | refine R.loadB O3 (h := ?_) | refine R.load1 O3 (h := ?_)
        refine R.rem (h := ?_)
        first | refine R.add (h := ?_) | refine R.addW (h := ?_)
        refine R.build BF58 (is := [0, 1, 2]) (xs := [_, _, _]) (es := [_, _, _]) (h := ?_)
        refine R.storeA A58 (h := ?_)
        refine Reg.nil ⟨fun _ => ⟨mixedO, by rfl, by rfl⟩, ?_⟩
        subst e1
        rw [show nextK ks ⟨1, ((v % s.calls.length : Nat) : Int), 1 + ((v / s.calls.length : Nat) : Int) % s.workers⟩ = addK ((v % s.calls.length : Nat) : Int) ks from if_pos rfl]
        exact LGo.ret (ret_A Tryz.results96 A58 hA hmd)
       ·
        have h6 : ks.contains ((v % s.calls.length : Nat) : Int) = true := by simpa using hc10
        rw [if_pos h6] at e1
        refine .skip ?_
        refine .inBlock ?_
        refine .seq ?_
        refine .region rfl ?_
        refine R.move (h := ?_)
        refine R.build BF58 (is := [0, 1]) (xs := [_, _]) (es := [_, _]) (h := ?_)
        refine R.storeA A58 (h := ?_)
        refine .n0 ?_
        subst e1
        rw [nextK_no ks (by dsimp only; decide)]
        exact LGo.ret (ret_A Tryz.results96 A58 hA hmd)
     ·
      have h4 : ¬ (b % 8 = 6 ∨ b % 8 = 7) := by omega
      rw [if_neg h4] at e1
      refine .skip ?_
      refine .inBlock ?_
      refine .seq ?_
      refine .region rfl ?_
      refine R.move (h := ?_)
      refine R.build BF58 (is := [0, 1]) (xs := [_, _]) (es := [_, _]) (h := ?_)
      refine R.storeA A58 (h := ?_)
      refine .n0 ?_
      subst e1
      rw [nextK_no ks (by dsimp only; decide)]
      exact LGo.ret (ret_A Tryz.results96 A58 hA hmd)
/-- the pieces of two bytes -/
def chunkL : List UInt8 → List (List UInt8)
  | a :: b :: r => [a, b] :: chunkL r
  | [a] => [[a]]
  | [] => []
theorem chunk_len : ∀ l : List UInt8, (chunkL l).length = (l.length + 1) / 2
  | [] => rfl
  | [_] => by simp [chunkL]
  | a :: b :: r => by rw [chunkL, List.length_cons, chunk_len r, List.length_cons, List.length_cons]; omega
theorem chunk_at : ∀ (l : List UInt8) (k : Nat), 2 * k < l.length → (chunkL l)[k]? = some ((l.take (2 * k + min 2 (l.length - 2 * k))).drop (2 * k))
  | [], k, h => by simp at h
  | [a], k, h => by
    obtain rfl : k = 0 := by simp at h; omega
    rfl
  | a :: b :: r, 0, _ => by simp [chunkL]
  | a :: b :: r, k + 1, h => by
    have ih := chunk_at r k (by simp at h; omega)
    rw [chunkL, List.getElem?_cons_succ, ih]
    have e : (a :: b :: r).length - 2 * (k + 1) = r.length - 2 * k := by simp; omega
    rw [e, show 2 * (k + 1) + min 2 (r.length - 2 * k) = (2 * k + min 2 (r.length - 2 * k)) + 1 + 1 from by omega, List.take_succ_cons, List.take_succ_cons, show 2 * (k + 1) = 2 * k + 1 + 1 from by omega, List.drop_succ_cons, List.drop_succ_cons]
def chStep (s : Sc) (p : List SrE × List Int) (c : List UInt8) : List SrE × List Int :=
  match c with
  | [b, v] => if p.1.length < 1000 then (p.1 ++ [decE s p.2 b.toNat v.toNat], nextK p.2 (decE s p.2 b.toNat v.toNat)) else p
  | _ => p
def chSt (s : Sc) (raw : List UInt8) (j : Nat) : List SrE × List Int := ((chunkL raw).take j).foldl (chStep s) ([], [])
theorem chSt_succ {s : Sc} {raw : List UInt8} {j : Nat} (h : j < (chunkL raw).length) : chSt s raw (j + 1) = chStep s (chSt s raw j) (chunkL raw)[j] := by
  unfold chSt
  rw [List.take_succ_eq_append_getElem h, List.foldl_append]; rfl
theorem chStep_le {s : Sc} {p : List SrE × List Int} (h : p.1.length ≤ 1000) (c : List UInt8) : (chStep s p c).1.length ≤ 1000 := by
  unfold chStep
  split
  · split
    · simp; omega
    · exact h
  · exact h
theorem foldl_le {s : Sc} : ∀ (l : List (List UInt8)) (p : List SrE × List Int), p.1.length ≤ 1000 → (l.foldl (chStep s) p).1.length ≤ 1000
  | [], p, h => h
  | c :: l, p, h => foldl_le l _ (chStep_le h c)
theorem chSt_le (s : Sc) (raw : List UInt8) (j : Nat) : (chSt s raw j).1.length ≤ 1000 := foldl_le _ _ (Nat.zero_le _)
theorem chStep_no {s : Sc} {acc : List SrE} {ks : List Int} {c : List UInt8} (h : ¬ (c.length = 2 ∧ acc.length < 1000)) : chStep s (acc, ks) c = (acc, ks) := by
  unfold chStep
  split
  · rename_i b v
    rw [if_neg (fun h2 => h ⟨rfl, h2⟩)]
  · rfl
theorem ch_fold (s : Sc) : ∀ (l : List UInt8) (acc : List SrE) (ks : List Int), ((chunkL l).foldl (chStep s) (acc, ks)).1 = acc ++ decL s ks ((pairsOf l).take (1000 - acc.length))
  | [], acc, ks => by simp [chunkL, pairsOf, decL]
  | [a], acc, ks => by simp [chunkL, pairsOf, decL, chStep]
  | a :: b :: r, acc, ks => by
    rw [chunkL, pairsOf, List.foldl_cons]
    by_cases h : acc.length < 1000
    · have e : chStep s (acc, ks) [a, b] = (acc ++ [decE s ks a.toNat b.toNat], nextK ks (decE s ks a.toNat b.toNat)) := by unfold chStep; dsimp only; rw [if_pos h]
      rw [e, ch_fold s r, show 1000 - acc.length = (1000 - (acc ++ [decE s ks a.toNat b.toNat]).length) + 1 from by simp; omega, List.take_succ_cons, decL, List.append_assoc]
      rfl
    · rw [chStep_no (fun h2 => h h2.2), ch_fold s r, show 1000 - acc.length = 0 from by omega]
      simp [decL]
theorem chSt_end (s : Sc) (raw : List UInt8) : (chSt s raw (chunkL raw).length).1 = decL s [] ((pairsOf raw).take 1000) := by
  unfold chSt
  rw [List.take_length, ch_fold s raw [] []]; rfl
abbrev CW (A0 A1 A2 A3 A4 : Nat → LO) (A7 A8 : LO) (raw : List UInt8) (j : Nat) : List (Nat × LO) := [(0, A0 j), (1, A1 j), (2, A2 j), (3, A3 j), (4, A4 j), (5, .box 44 [.sv (.sl 1 (bytesC raw))]), (6, .box 3 [.i 2]), (7, A7), (8, A8)]
def chY (c : List UInt8) : List LV := [.sv (.sl 1 (bytesC c))]
theorem bytes_sub (l : List UInt8) (a b : Nat) : ((bytesC l).take b).drop a = bytesC ((l.take b).drop a) := by unfold bytesC; rw [List.map_drop, List.map_take]
theorem chunk_L (raw : List UInt8) : LC Tryz.prog 95 0 [.sv (.sl 1 (bytesC raw)), .i 2] [] (.fn (.func 166) [] [.ptr 0 0, .ptr 1 0]) [(0, .box 44 [.sv (.sl 1 (bytesC raw))]), (1, .box 3 [.i 2])] 2 := by
 refine LC.of_go Tryz.func95 (c := _) rfl (by kernel_rfl) (by rw [Tryz.ntmps95]; simp) rfl rfl (by simp [LO.lt, LV.lts, LV.lt, lts_sv]) (by simp) ?_
 intro B hA hmd
 refine .seq ?_
 refine .region rfl ?_
 refine R.box (h := ?_)
 refine R.box (h := ?_)
 refine R.assign (h := ?_)
 refine .n0 ?_
 refine .seq ?_
 refine .seq ?_
 refine .region rfl ?_
 first | refine R.loadB O3 (h := ?_) | refine R.load1 O3 (h := ?_)
 refine R.bin (run_lss _ _ _ _ _ _) (h := ?_)
 refine .n0 ?_
 refine LGo.ifb (ht := fun hc => by simp at hc) (hf := fun hc => ?_)
 refine .skip ?_
 refine .seq ?_
 refine .region rfl ?_
 refine R.makeFunc (es := []) (fs := [_, _]) (h := ?_)
 refine R.assign (h := ?_)
 refine .n0 ?_
 exact LGo.ret (ret_T Tryz.results95 hA hmd)
theorem chunk1_L {raw : List UInt8} {A0 A1 A2 A3 A4 : Nat → LO} {A7 A8 : LO} (hl : raw.length ≤ 100000) (h : YG Tryz.prog 8 9 ((chunkL raw).map chY) (CW A0 A1 A2 A3 A4 A7 A8 raw)) : LC Tryz.prog 166 9 [.yld 8, .ptr 5 0, .ptr 6 0] (CW A0 A1 A2 A3 A4 A7 A8 raw 0) (.tup []) (CW A0 A1 A2 A3 A4 A7 A8 raw (chunkL raw).length) 0 := by
 refine LC.of_go Tryz.func166 (c := _) rfl (by kernel_rfl) (by rw [Tryz.ntmps166]; simp) (by simp [LV.lts, LV.lt]) (h.keys 0 (by omega)) (h.lt 0 (by omega)) (fun p hp' => .inl (by rw [h.keys 0 (by omega), ← h.keys _ (by simp : (chunkL raw).length ≤ _)]; exact List.mem_map.2 ⟨p, hp', rfl⟩)) ?_
 intro B hA hmd
 have hcl := chunk_len raw
 refine .seq ?_
 refine .region rfl ?_
 refine R.assign (h := ?_)
 refine .n0 ?_
 refine .block ?_
 refine .loop ?_
 refine LGo.loopG (σ := Nat) (fun x => x ≤ (chunkL raw).length) (fun x => [(4, (true, .i ((2 * x : Nat) : Int))), (1, (true, .ptr 5 0)), (2, (true, .ptr 6 0))]) (fun x => CW A0 A1 A2 A3 A4 A7 A8 raw x) (fun x => (chunkL raw).length - x) (0) [(0, _)] (Nat.zero_le _) (by repeat (first | exact trivial | refine ⟨rfl, ?_⟩)) (by repeat (first | exact trivial | refine ⟨rfl, ?_⟩)) (by repeat (first | exact trivial | refine ⟨rfl, ?_⟩)) ?_
 rintro k hk ih
 refine .seq ?_
 refine .seq ?_
 refine .region rfl ?_
 refine R.move (h := ?_)
 refine R.loadB O44 (hb := rfl) (h := ?_)
 first | refine R.len S44 (h := ?_) | refine R.lenRs S44 (h := ?_) | refine R.lenV (run_lenNil S44) (h := ?_)
 rw [bytesC_length]
 refine R.bin (run_lss _ _ _ _ _ _) (h := ?_)
 refine .n0 ?_
 refine LGo.ifd (ht := fun hc => ?_) (hf := fun hc => ?_)
 ·
  have hlt : 2 * k < raw.length := by omega
  have hkc : k < (chunkL raw).length := by omega
  have hy : ((chunkL raw).map chY)[k]? = some (chY ((raw.take (2 * k + min 2 (raw.length - 2 * k))).drop (2 * k))) := by rw [List.getElem?_map, chunk_at raw k hlt]; rfl
  refine .skip ?_
  refine .seq ?_
  refine .block ?_
  refine .seq ?_
  refine .region rfl ?_
  refine R.loadB O3 (hb := rfl) (h := ?_)
  refine R.loadB O44 (hb := rfl) (h := ?_)
  refine R.move (h := ?_)
  refine R.sliceLo SF44 (ha := fun _ => by rw [bytesC_length]; omega) (h := ?_)
  first | refine R.len S44 (h := ?_) | refine R.lenRs S44 (h := ?_) | refine R.lenV (run_lenNil S44) (h := ?_)
  rw [List.length_drop, bytesC_length]
  refine R.minI (h := ?_)
  rw [show min (2 : Int) ((raw.length - ((2 * k : Nat) : Int).toNat : Nat) : Int) = ((min 2 (raw.length - 2 * k) : Nat) : Int) from by omega]
  refine R.assign (h := ?_)
  refine Reg.nil ⟨fun _ => ⟨mixedO, by rfl, by rfl⟩, ?_⟩
  refine .seq ?_
  refine .region rfl ?_
  refine R.move (h := ?_)
  refine R.loadB O44 (hb := rfl) (h := ?_)
  refine R.move (h := ?_)
  refine R.move (h := ?_)
  refine R.move (h := ?_)
  first | refine R.add (h := ?_) | refine R.addW (h := ?_)
  rw [show ((2 * k : Nat) : Int) + ((min 2 (raw.length - 2 * k) : Nat) : Int) = ((2 * k + min 2 (raw.length - 2 * k) : Nat) : Int) from by omega]
  refine R.move (h := ?_)
  refine R.move (h := ?_)
  first | refine R.add (h := ?_) | refine R.addW (h := ?_)
  rw [show ((2 * k : Nat) : Int) + ((min 2 (raw.length - 2 * k) : Nat) : Int) = ((2 * k + min 2 (raw.length - 2 * k) : Nat) : Int) from by omega]
  refine R.slice3 SF44 (a := 2 * k) (b := 2 * k + min 2 (raw.length - 2 * k)) (ha := fun _ => ⟨by omega, by rw [bytesC_length]; omega⟩) (h := ?_)
  rw [bytes_sub]
  refine R.callYld (es := [_]) (h.at_ hy) (hL := fun k z hz => by rcases k with _ | _ | _ | _ | _ | _ | _ | _ | _ | k <;> first | exact hz | cases hz) (h := ?_)
  refine R.not (h := ?_)
  refine .n0 ?_
  refine LGo.ifb (ht := fun hc2 => by simp at hc2) (hf := fun hc2 => ?_)
  refine .skip ?_
  refine .inBlock ?_
  refine .region rfl ?_
  refine R.move (h := ?_)
  refine R.loadB O3 (hb := rfl) (h := ?_)
  first | refine R.add (h := ?_) | refine R.addW (h := ?_)
  rw [show ((2 * k : Nat) : Int) + 2 = ((2 * (k + 1) : Nat) : Int) from by omega]
  refine R.assign (h := ?_)
  refine .n0 ?_
  refine .inLoop ?_
  exact LGo.next _ (fun o h => by have := (hA o).1 h; omega) (by omega) (ih (k + 1) (by omega) (by omega)) (by repeat (first | exact trivial | refine ⟨rfl, ?_⟩)) ⟨rfl, rfl, rfl, rfl, rfl, rfl, rfl, rfl, rfl, trivial⟩ (hLl := by exact h.all (by rw [List.length_map]; omega))
 ·
  obtain rfl : k = (chunkL raw).length := by omega
  refine .exit rfl ?_
  refine LGo.keep [] (CW A0 A1 A2 A3 A4 A7 A8 raw (chunkL raw).length) trivial ⟨rfl, rfl, rfl, rfl, rfl, rfl, rfl, rfl, rfl, trivial⟩ ?_
  exact LGo.done (res0 Tryz.results166 hA hmd (by rfl) (fun _ _ h => h) (.inl rfl))
theorem base_w {s : Sc} (h : (baseS s).2 = 0) : 1 ≤ s.workers ∧ s.workers ≤ 8 := by
  unfold baseS at h
  split at h
  · rename_i h1; exact absurd h h1
  split at h
  · cases h
  split at h
  · rename_i h1; exact absurd h h1
  split at h
  · cases h
  · rename_i h1
    exact inS_iff.1 (by simpa using h1)
theorem base_cl {s : Sc} (h : (baseS s).2 = 0) : s.calls.length ≤ 60 := by
  unfold baseS at h
  split at h
  · rename_i h1; exact absurd h h1
  split at h
  · cases h
  split at h
  · rename_i h1; exact absurd h h1
  split at h
  · cases h
  split at h
  · cases h
  · omega
theorem two_of {c : List UInt8} (h : c.length = 2) : ∃ b v, c = [b, v] := by
  match c, h with
  | [b, v], _ => exact ⟨b, v, rfl⟩
theorem decoded_E (s : Sc) (acc : List SrE) (hcl : s.calls.length ≤ 100000) (hw : 1 ≤ s.workers ∧ s.workers ≤ 8) (ks : List Int) (b v : Nat) (hb : b < 256) (hv : v < 256) : LC Tryz.prog 96 1 [.sv (.at_ (Sc.c { s with evs := acc })), .ref 0, .i b, .i v] [(0, .raw (mapOb encI (mB ks)))] (.agg ((decE s ks b v).c.map LV.sv)) [(0, .raw (mapOb encI (mB (nextK ks (decE s ks b v)))))] 0 := decoded_L { s with evs := acc } hcl hw ks b v hb hv
theorem chStep_go {s : Sc} {acc : List SrE} {ks : List Int} {b v : UInt8} (h : acc.length < 1000) : chStep s (acc, ks) [b, v] = (acc ++ [decE s ks b.toNat v.toNat], nextK ks (decE s ks b.toNat v.toNat)) := if_pos h
mutual
/-- told without the objects that stay -/
def LV.free : LV → Bool
  | .sv (.val _) => true
  | .agg cs => LV.frees cs
  | .tup cs => LV.frees cs
  | .ref _ => true
  | .ptr _ _ => true
  | .pv _ => true
  | _ => false
def LV.frees : List LV → Bool
  | [] => true
  | c :: cs => c.free && LV.frees cs
end
mutual
theorem V.free {cx cx' : Cx} (hA : cx'.A = cx.A) (hL : cx'.loc = cx.loc) {w w' : World} : ∀ (l : LV) (x : Value), l.free = true → V cx w l x → V cx' w' l x
  | .sv (.val v), x, _, h => by simpa only [V, VS] using h
  | .sv (.sl _ _), x, hp, _ => by simp [LV.free] at hp
  | .sv (.at_ _), x, hp, _ => by simp [LV.free] at hp
  | .agg cs, x, hp, h => by simp only [V] at h ⊢; obtain ⟨vs, h1, h2⟩ := h; exact ⟨vs, h1, Vs.free hA hL cs vs (by simpa [LV.free] using hp) h2⟩
  | .tup cs, x, hp, h => by simp only [V] at h ⊢; obtain ⟨vs, h1, h2⟩ := h; exact ⟨vs, h1, Vs.free hA hL cs vs (by simpa [LV.free] using hp) h2⟩
  | .ptr _ _, x, _, h => by simp only [V] at h ⊢; rw [hA, hL]; exact h
  | .ref _, x, _, h => by simp only [V] at h ⊢; rw [hA, hL]; exact h
  | .fn _ _ _, x, hp, _ => by simp [LV.free] at hp
  | .yld _, x, hp, _ => by simp [LV.free] at hp
  | .sub _ _ _ _, x, hp, _ => by simp [LV.free] at hp
  | .pv _, x, _, h => by simpa only [V] using h
theorem Vs.free {cx cx' : Cx} (hA : cx'.A = cx.A) (hL : cx'.loc = cx.loc) {w w' : World} : ∀ (l : List LV) (x : List Value), LV.frees l = true → Vs cx w l x → Vs cx' w' l x
  | [], x, _, h => by simpa [Vs] using h
  | c :: cs, x, hp, h => by
    simp only [Vs] at h ⊢
    simp only [LV.frees, Bool.and_eq_true] at hp
    obtain ⟨y, r, h1, h2, h3⟩ := h
    exact ⟨y, r, h1, V.free hA hL c y hp.1 h2, Vs.free hA hL cs r hp.2 h3⟩
end
def LO.free : LO → Bool
  | .raw _ => true
  | .box _ cs => LV.frees cs
  | .rs _ _ ys => LV.frees (ys.flatten.map LV.sv)
  | _ => false
open Classical in
/-- as0 OpC.see, of an operation with new objects whose cells are told by themselves -/
theorem OpC.seeN {P : Program} {r : Option Nat} {o : Oper} {lvs : List LV} {rd Hi : List (Nat × LO)} {out : LV} {Ho : List (Nat × LO)} {new : List Nat}
    (h : OpC P r o (lvs.map (seeP rd)) [] Hi out Ho new) (hplain : out.free = true) (hraw : (Ho.all fun p => p.2.free) = true)
    (hdis : ∀ i x j y, hp rd i = some x → hp Hi j = some y → i ≠ j) : OpC P r o lvs rd Hi out Ho new := by
  refine ⟨h.1, fun md n0 cx H a w K Q hok ham hrd hHi hnew hv hK => ?_⟩
  have hraise : ∀ b, blks cx (hp rd) b → cx.pr b = 0 ∧ b < w.heap.size := fun b ⟨o, x, hx, hb⟩ => by
    have := hok.own o x b (hrd o x hx) hb
    exact ⟨this.1, this.2.1⟩
  have hext : Ext cx.pr w (raise cx w rd) w := fun b off hbo => ⟨by
    unfold raise
    split
    · rename_i hh; have := (hraise b hh).1; omega
    · exact hbo, rfl⟩
  have hnot : ∀ o x b, hp Hi o = some x → cx.has o x b → ¬ blks cx (hp rd) b := fun o x b hx hb ⟨o', x', hx', hb'⟩ =>
    hok.inj o' o x' x b (hdis o' x' o x hx' hx) (hrd o' x' hx') (hHi o x hx) hb' hb
  let cx1 : Cx := ⟨raise cx w rd, cx.A, cx.loc, cx.inn⟩
  have hok1 : HOk md n0 cx1 (hp Hi) w := by
    refine ⟨fun o x hx => ?_, fun o x b hx hb => ?_, fun o o' x x' b hne hx hx' => hok.inj o o' x x' b hne (hHi o x hx) (hHi o' x' hx'), fun b hb => ?_⟩
    · obtain ⟨h1, h2⟩ := hok.ok o x (hHi o x hx)
      exact ⟨h1, ObjOk.mono (cx := cx) (cx' := cx1) (fun _ ho => ⟨ho, rfl⟩) hext h1 (fun _ _ _ => rfl) rfl h2⟩
    · obtain ⟨h1, h2⟩ := hok.own o x b (hHi o x hx) hb
      refine ⟨?_, h2⟩
      show raise cx w rd b = 0
      rw [raise, if_neg (hnot o x b hx hb)]
      exact h1
    · have hb' : 0 < raise cx w rd b := hb
      unfold raise at hb'
      split at hb'
      · rename_i hh; exact (hraise b hh).2
      · exact hok.lim b hb'
  refine h.2 md n0 cx1 (hp Hi) a w K Q hok1 (ham.ext hext) (by simp) (fun _ _ h => h) hnew (Vs.seeP hok hrd hext _ _ hv) (fun cx' w' v t hvo => ?_)
  let cx3 : Cx := ⟨fun b => if blks cx (hp rd) b then cx.pr b else cx'.pr b, cx'.A, cx'.loc, cx'.inn⟩
  have hp3 : ∀ b, blks cx (hp rd) b → cx3.pr b = cx.pr b := fun b hb => by show (if blks cx (hp rd) b then _ else _) = _; rw [if_pos hb]
  have hp4 : ∀ b, ¬ blks cx (hp rd) b → cx3.pr b = cx'.pr b := fun b hb => by show (if blks cx (hp rd) b then _ else _) = _; rw [if_neg hb]
  have hr1 : ∀ b, ¬ blks cx (hp rd) b → cx1.pr b = cx.pr b := fun b hb => by show raise cx w rd b = _; rw [raise, if_neg hb]
  refine hK cx3 w' v ⟨t.le, t.A, ⟨t.grow.os, t.grow.tape, t.grow.output, t.grow.size, t.grow.same, fun b hb hn => ?_, fun b off hbo => ?_⟩, ⟨fun o x hx => ?_, fun o x b hx hb => ?_, t.heap.inj, fun b hb => ?_⟩, t.inn⟩ (V.free (cx := cx') (cx' := cx3) rfl rfl _ _ hplain hvo)
  · by_cases hh : blks cx (hp rd) b
    · exact hp3 b hh
    · rw [hp4 b hh, t.grow.prs b hb hn, hr1 b hh]
  · have hh : ¬ blks cx (hp rd) b := fun hh => by have := (hraise b hh).1; omega
    rw [hp4 b hh]
    exact t.grow.ext b off (by rw [hr1 b hh]; exact hbo)
  · obtain ⟨h1, h2⟩ := t.heap.ok o x hx
    have hm : (o, x) ∈ Ho := mem_lookup hx
    have hx' := List.all_eq_true.1 hraw (o, x) hm
    refine ⟨h1, ?_⟩
    cases x with
    | raw y => exact h2
    | box T cs =>
      obtain ⟨b, vs, k1, k2, k3⟩ := h2
      exact ⟨b, vs, k1, k2, Vs.free (cx := cx') (cx' := cx3) rfl rfl _ _ hx' k3⟩
    | rs T sz ys =>
      obtain ⟨k0, vs, k1, k2, k3⟩ := h2
      exact ⟨k0, vs, k1, Vs.free (cx := cx') (cx' := cx3) rfl rfl _ _ hx' k2, k3⟩
    | _ => simp [LO.free] at hx'
  · obtain ⟨h1, h2⟩ := t.heap.own o x b hx hb
    refine ⟨?_, h2⟩
    by_cases hh : blks cx (hp rd) b
    · rw [hp3 b hh]; exact (hraise b hh).1
    · rw [hp4 b hh]; exact h1
  · by_cases hh : blks cx (hp rd) b
    · rw [hp3 b hh] at hb; have := (hraise b hh).1; omega
    · rw [hp4 b hh] at hb; exact t.heap.lim b hb
section
variable {P : Program} {r : Option Nat} {N : Nat} {D : List Nat} {B : Base} {all : Array Oper} {K : List (Nat × Ct) → St → Prop}
variable {i : Nat} {ops : List Oper} {tr : List (Nat × Ct)} {E : List (Nat × Ent)} {L : List (Nat × LO)} {n : Nat} {g : Bool} {gn : List (Nat × Ent)}
variable {d ty : Nat} {pos : String} {aft : Array Edge} {gd : Option (Nat × Bool)}
/-- a call with new objects, of a function that is handed other ones to look at; its result may be told more weakly -/
theorem R.callXN {f k : Nat} {fo : Operand} {args : Array Operand} {ats : Array TypeId} {es : List Ent} {lvs : List LV} {out out' : LV} {Hi Hi' Ho Ho' : List (Nat × LO)} (ids : List Nat) (rd : List (Nat × LO)) (out2 : LV) (hc : LC P f ids.length lvs Hi out Ho k) (hw : ∀ cx w x, V cx w out' x → V cx w out2 x)
    (hK : KeepL (hp L) rd := by repeat (first | exact trivial | refine ⟨rfl, ?_⟩))
    (ho : all[i]? = some ⟨some d, .call { callee := .value fo, args := args, argTypes := ats }, ty, pos, aft, none⟩ := by rfl)
    (hf : lvOf (en E) fo = some (true, .fn (.func f) [] []) := by rfl)
    (hx : args.toList.map (lvOf (en E)) = es.map some := by rfl) (hes : (es.map entLV).map (seeP rd) = LV.mapIs (sg ids n) lvs := by rfl) (hnd : ids.Nodup := by decide)
    (hout : out.mapI (sg ids n) = out' := by rfl) (hHi : (Hi.map fun p => (sg ids n p.1, p.2.mapI (sg ids n))) = Hi' := by rfl) (hHo : (Ho.map fun p => (sg ids n p.1, p.2.mapI (sg ids n))) = Ho' := by rfl)
    (hplain : out2.free = true := by rfl) (hraw : (Ho'.all fun p => p.2.free) = true := by rfl) (hdis : (rd.all fun p => !((Hi'.map (·.1)).contains p.1)) = true := by rfl)
    (hL : KeepL (hp L) Hi' := by repeat (first | exact trivial | refine ⟨rfl, ?_⟩))
    (h : Reg P r N D B all (i + 1) ops ((i, ⟨needOf (fo :: args.toList) ((true, .fn (.func f) [] []) :: es), some d, (true, out2), rd, Hi', Ho', List.range' n k⟩) :: tr) (st ((d, (true, out2)) :: E) (updL L Hi' Ho') (n + k)) K) :
    Reg P r N D B all i (⟨some d, .call { callee := .value fo, args := args, argTypes := ats }, ty, pos, aft, none⟩ :: ops) tr (st E L n) K := by
  have hl : (Oper.mk (some d) (.call { callee := .value fo, args := args, argTypes := ats }) ty pos aft none).op.operands.toList = fo :: args.toList := by simp [Op.operands, Go.Call.operands]
  have h2 := OpC.call (r := r) (n := n) (ids := ids) (k := k) (Ho := Ho) hc hnd (o := ⟨some d, .call { callee := .value fo, args := args, argTypes := ats }, ty, pos, aft, none⟩) rfl rfl (first := []) (cap := []) (avs := (es.map entLV).map (seeP rd)) (by rw [List.append_nil]; exact hes)
  rw [hout, hHi, hHo] at h2
  have h3 : OpC P r ⟨some d, .call { callee := .value fo, args := args, argTypes := ats }, ty, pos, aft, none⟩ (((true, .fn (.func f) [] []) :: es).map entLV) rd Hi' out2 Ho' (List.range' n k) := OpC.seeN (OpC.weak hw h2) hplain hraw (fun i x j y h1 h2 he => by
    have := List.all_eq_true.1 hdis (i, x) (mem_lookup h1)
    rw [he] at this
    simp [lookup_mem h2] at this)
  refine Reg.gen (m := k) (es := (true, .fn (.func f) [] []) :: es) (rd := rd) (Hi := Hi') (Ho := Ho') (out := out2) ho gN (by rw [hl]; exact ⟨_, _, rfl, hf, Opnds.of_map hx⟩) (fun o x hx => hK.get hx) (fun o x hx => hL.get hx) h3 ?_
  rw [hl]
  exact h
end
theorem callsK_L (s : Sc) (hs : s.sm) (h0 : (checkS s).2 = 0) : LC Tryz.prog 30 0 [.agg (s.c.map LV.sv)] [] (.tup [.ref 0, .i 0]) [(0, .rs 3 1 (ic .i64 (sendsOf s.evs)))] 1 := by
 refine LC.of_go Tryz.func30 (c := _) rfl (by kernel_rfl) (by rw [Tryz.ntmps30]; simp) rfl rfl (by simp [LO.lt, LV.lts, LV.lt, lts_sv]) (by simp) ?_
 intro B hA hmd
 have hel := (check_facts h0).2.1
 obtain ⟨F, hF⟩ : ∃ F, sendsOf s.evs = F := ⟨_, rfl⟩
 rw [hF]
 refine .seq ?_
 refine .region rfl ?_
 refine R.box (h := ?_)
 refine R.assign (h := ?_)
 refine R.assign (h := ?_)
 refine .n0 ?_
 refine .seq ?_
 refine .seq ?_
 refine .region rfl ?_
 first | refine R.loadA A29 (h := ?_) | refine R.loadN A29 (h := ?_) | refine R.loadP A29 (h := ?_)
 refine R.callP (es := [_]) (fun _ => checkS_P s hs) (h := ?_)
 rw [h0]
 refine R.move (h := ?_)
 refine R.extract (h := ?_)
 refine R.extract (h := ?_)
 refine R.assign (h := ?_)
 refine R.assign (h := ?_)
 refine .n0 ?_
 refine .seq ?_
 refine .region rfl ?_
 refine R.move (h := ?_)
 refine R.bin (run_neq _ _ _ _ _ _) (h := ?_)
 refine .n0 ?_
 refine LGo.ifb (ht := fun hc => by simp at hc) (hf := fun hc => ?_)
 refine .skip ?_
 refine .seq ?_
 refine .region rfl ?_
 refine R.assign (h := ?_)
 refine .n0 ?_
 refine .seq ?_
 refine .seq ?_
 refine .region rfl ?_
 first | refine R.field F29_5 (h := ?_) | refine R.fieldAt F29_5 (h := ?_)
 first | refine R.loadB O27 (h := ?_) | refine R.load1 O27 (h := ?_)
 first | refine R.len S27 (h := ?_) | refine R.lenRs S27 (h := ?_) | refine R.lenV (run_lenNil S27) (h := ?_)
 rw [List.length_map]
 refine R.move (h := ?_)
 refine .n0 ?_
 refine .block ?_
 refine .loop ?_
 refine LGo.nilRs 6 3 1 (h := ?_)
 refine LGo.loopG (σ := Nat × List Int) (fun x => x.1 ≤ s.evs.length ∧ x.2.length ≤ x.1 ∧ x.2 ++ sendsOf (s.evs.drop x.1) = F) (fun x => [(20, (true, .i (x.1 : Nat))), (6, (true, .ref 1))]) (fun x => [(0, .box 29 (s.c.map LV.sv)), (1, .rs 3 1 (ic .i64 x.2))]) (fun x => s.evs.length - x.1) (0, []) [(18, _), (19, _)] ⟨Nat.zero_le _, Nat.zero_le _, hF⟩ (by repeat (first | exact trivial | refine ⟨rfl, ?_⟩)) (by repeat (first | exact trivial | refine ⟨rfl, ?_⟩)) (by repeat (first | exact trivial | refine ⟨rfl, ?_⟩)) ?_
 rintro ⟨k, A⟩ ⟨hk, hal, hq⟩ ih
 dsimp only at * 
 refine .seq ?_
 refine .region rfl ?_
 refine R.bin (run_lss _ _ _ _ _ _) (h := ?_)
 refine .n0 ?_
 refine .seq ?_
 refine LGo.ifd (ht := fun hc2 => ?_) (hf := fun hc2 => ?_)
 ·
  have hlt : k < s.evs.length := by omega
  have hx : (s.evs.map SrE.c)[((k : Nat) : Int).toNat]? = some s.evs[k].c := by simp [hlt]
  have hd : s.evs.drop k = s.evs[k] :: s.evs.drop (k + 1) := List.drop_eq_getElem_cons hlt
  rw [hd, sends_cons] at hq
  generalize s.evs[k] = z at hx hq
  clear hd
  refine .skip ?_
  refine .seq ?_
  refine .block ?_
  refine .seq ?_
  refine .region rfl ?_
  refine R.index I27 (hj := fun hg => ⟨by omega, hx⟩) (h := ?_)
  first | refine R.loadA A58 (h := ?_) | refine R.loadN A58 (h := ?_) | refine R.loadP A58 (h := ?_)
  refine R.alloc Z58 (h := ?_)
  refine R.storeA A58 (h := ?_)
  refine .n0 ?_
  refine .seq ?_
  refine .region rfl ?_
  first | refine R.field F58_0 (h := ?_) | refine R.fieldAt F58_0 (h := ?_)
  first | refine R.loadB O3 (h := ?_) | refine R.load1 O3 (h := ?_)
  refine R.bin (run_eql _ _ _ _ _ _) (h := ?_)
  refine .n0 ?_
  refine LGo.ifd (ht := fun hc3 => ?_) (hf := fun hc3 => ?_)
  ·
   rw [if_pos hc3] at hq
   refine .region rfl ?_
   refine R.move (h := ?_)
   first | refine R.field F58_1 (h := ?_) | refine R.fieldAt F58_1 (h := ?_)
   first | refine R.loadB O2 (h := ?_) | refine R.load1 O2 (h := ?_)
   refine R.buildSliceG AP65 (xs := [_]) (es := [_]) (hcs := CellsOfs.cons (CellsOf.one rfl) CellsOfs.nil) (h := ?_)
   refine R.appendS AP65 (hs := SrcOk.sl Tryz.underlying65 (by simp)) (hlen := by rw [ic_len]; simp; omega) (h := ?_)
   refine R.assign (h := ?_)
   refine .n0 ?_
   refine .inBlock ?_
   refine .region rfl ?_
   first | refine R.add (h := ?_) | refine R.addW (h := ?_)
   refine R.move (h := ?_)
   refine .n0 ?_
   refine .inLoop ?_
   exact LGo.turn [0, 3] (b := 0) (fun o h => by have := (hA o).1 h; omega) (ih (k + 1, A ++ [z.a]) ⟨by dsimp only; omega, by dsimp only; rw [List.length_append, List.length_cons, List.length_nil]; omega, by dsimp only; rw [← hq]; simp⟩ (by dsimp only; omega)) (by repeat (first | exact trivial | refine ⟨rfl, ?_⟩)) ⟨rfl, by rw [← ic_snoc]; rfl, trivial⟩
  ·
   rw [if_neg hc3] at hq
   refine .skip ?_
   refine .inBlock ?_
   refine .region rfl ?_
   first | refine R.add (h := ?_) | refine R.addW (h := ?_)
   refine R.move (h := ?_)
   refine .n0 ?_
   refine .inLoop ?_
   exact LGo.next _ (fun o h => by have := (hA o).1 h; omega) (by omega) (ih (k + 1, A) ⟨by dsimp only; omega, by dsimp only; omega, hq⟩ (by dsimp only; omega)) (by repeat (first | exact trivial | refine ⟨rfl, ?_⟩)) ⟨rfl, rfl, trivial⟩
 ·
  rw [List.drop_eq_nil_of_le (show s.evs.length ≤ k by omega), show sendsOf [] = [] from rfl, List.append_nil] at hq
  subst hq
  refine .exit rfl ?_
  refine .seq ?_
  refine .region rfl ?_
  refine R.move (h := ?_)
  refine R.assign (h := ?_)
  refine R.assign (h := ?_)
  refine .n0 ?_
  exact LGo.ret (FnPost.finI [1] (res_TT Tryz.results30) hA hmd)
theorem decodeK_L (s : Sc) (hs : s.sm) (hcp : s.cp) (raw : List UInt8) (hl : raw.length ≤ 100000) (hc0 : (checkS { s with evs := [] }).2 = 0) : LC Tryz.prog 34 0 [.agg (s.c.map LV.sv), .sv (.sl 1 (bytesC raw))] [] (.tup [.agg (s.cO 0), .i 0]) [(0, .rs 58 3 ((chSt s raw (chunkL raw).length).1.map SrE.c))] 1 := by
 refine LC.of_go Tryz.func34 (c := _) rfl (by kernel_rfl) (by rw [Tryz.ntmps34]; simp) rfl rfl (by simp [LO.lt, LV.lts, LV.lt, lts_sv]) (by simp) ?_
 intro B hA hmd
 have hb0 : (baseS s).2 = 0 := (check_facts hc0).1
 have hw := base_w hb0
 have hcl := base_cl hb0
 refine .seq ?_
 refine .region rfl ?_
 refine R.box (h := ?_)
 refine R.alloc Z29 (h := ?_)
 refine R.assign (h := ?_)
 refine .n0 ?_
 refine .seq ?_
 refine .region rfl ?_
 first | refine R.loadA A29 (h := ?_) | refine R.loadN A29 (h := ?_) | refine R.loadP A29 (h := ?_)
 refine R.callP (es := [_, _]) (fun _ => copiedN_P s hcp.v hcp.vr hcp.g hcp.gr hcp.c) (h := ?_)
 refine R.alloc Z29 (h := ?_)
 refine R.storeA A29 (h := ?_)
 refine .n0 ?_
 refine .seq ?_
 refine .seq ?_
 refine .region rfl ?_
 first | refine R.loadA A29 (h := ?_) | refine R.loadN A29 (h := ?_) | refine R.loadP A29 (h := ?_)
 refine R.callP (es := [_]) (fun _ => PC.nilEv (checkS_P { s with evs := [] } (hs.evs [] (Nat.zero_le _)))) (h := ?_)
 refine R.move (h := ?_)
 refine R.extract (h := ?_)
 refine R.extract (h := ?_)
 refine R.assign (h := ?_)
 refine R.assign (h := ?_)
 refine .n0 ?_
 refine .seq ?_
 refine .region rfl ?_
 refine R.move (h := ?_)
 refine R.bin (run_neq _ _ _ _ _ _) (h := ?_)
 refine .n0 ?_
 refine LGo.ifb (ht := fun hc => by simp [hc0] at hc) (hf := fun hc => ?_)
 refine .skip ?_
 refine .seq ?_
 refine .region rfl ?_
 refine R.makeMap encI (h := ?_)
 refine R.alloc Z158 (h := ?_)
 refine R.storeB O158 (h := ?_)
 refine .n0 ?_
 refine .seq ?_
 refine .seq ?_
 refine .region rfl ?_
 refine R.move (h := ?_)
 refine R.callN (es := [_, _]) (chunk_L raw) (h := ?_)
 refine .n0 ?_
 refine .block ?_
 refine LGo.packNil 2 8 58 3 (h := ?_)
 refine LGo.keep [(4, (true, .ptr 1 0)), (6, (true, .ptr 2 0)), (9, (true, .ptr 4 0)), (24, (true, .fn (.func 166) [] [.ptr 5 0, .ptr 6 0]))] [(0, .box 29 (s.c.map LV.sv)), (1, .box 29 [.i 0, .i 0, .i 0, .v (.slice none 0 0), .t [], .v (.slice none 0 0), .i 0, .v (.slice none 0 0), .v (.slice none 0 0)]), (2, .bx 29 [.i s.ven.shards, .i s.ven.ttl, .i s.ven.session, .sv (.sl 3 (s.ven.secs.map VnS.c)), .t s.key, .sv (.sl 3 (s.gates.map GtG.c)), .i s.workers, .sv (.sl 11 (s.calls.map SrC.c)), .v undef] 8 58 3 ((chSt s raw 0).1.map SrE.c)), (3, .raw (mapOb encI (mB (chSt s raw 0).2))), (4, .box 158 [.ref 3]), (5, .box 44 [.sv (.sl 1 (bytesC raw))]), (6, .box 3 [.i 2])] (by repeat (first | exact trivial | refine ⟨rfl, ?_⟩)) (by repeat (first | exact trivial | refine ⟨rfl, ?_⟩)) ?_
 refine LGo.rangeN (fun fn ac bc => [(0, .box 29 (s.c.map LV.sv)), (1, .box 29 [.i 0, .i 0, .i 0, .v (.slice none 0 0), .t [], .v (.slice none 0 0), .i 0, .v (.slice none 0 0), .v (.slice none 0 0)]), (2, .bx 29 [.i s.ven.shards, .i s.ven.ttl, .i s.ven.session, .sv (.sl 3 (s.ven.secs.map VnS.c)), .t s.key, .sv (.sl 3 (s.gates.map GtG.c)), .i s.workers, .sv (.sl 11 (s.calls.map SrC.c)), .v undef] 8 58 3 ((chSt s raw (chunkL raw).length).1.map SrE.c)), (3, .raw (mapOb encI (mB (chSt s raw (chunkL raw).length).2))), (4, .box 158 [.ref 3]), (5, .box 44 [.sv (.sl 1 (bytesC raw))]), (6, .box 3 [.i 2]), (7, .raw (.deferred (some []))), (8, .loop fn Tryz.f34.ntmps [(4, (true, .ptr 1 0)), (6, (true, .ptr 2 0)), (9, (true, .ptr 4 0)), (24, (true, .fn (.func 166) [] [.ptr 5 0, .ptr 6 0]))] #[25] ac bc .ready none)]) (hit := fun fn ac bc hac hbc => ?_) (h := fun fn => ?_)
 ·
  suffices hgo : YG Tryz.prog 8 9 ((chunkL raw).map chY) (fun j => [(0, .box 29 (s.c.map LV.sv)), (1, .box 29 [.i 0, .i 0, .i 0, .v (.slice none 0 0), .t [], .v (.slice none 0 0), .i 0, .v (.slice none 0 0), .v (.slice none 0 0)]), (2, .bx 29 [.i s.ven.shards, .i s.ven.ttl, .i s.ven.session, .sv (.sl 3 (s.ven.secs.map VnS.c)), .t s.key, .sv (.sl 3 (s.gates.map GtG.c)), .i s.workers, .sv (.sl 11 (s.calls.map SrC.c)), .v undef] 8 58 3 ((chSt s raw j).1.map SrE.c)), (3, .raw (mapOb encI (mB (chSt s raw j).2))), (4, .box 158 [.ref 3]), (5, .box 44 [.sv (.sl 1 (bytesC raw))]), (6, .box 3 [.i 2]), (7, .raw (.deferred (some []))), (8, .loop fn Tryz.f34.ntmps [(4, (true, .ptr 1 0)), (6, (true, .ptr 2 0)), (9, (true, .ptr 4 0)), (24, (true, .fn (.func 166) [] [.ptr 5 0, .ptr 6 0]))] #[25] ac bc .ready none)]) from by
    have hr := chunk1_L (A0 := fun j => .box 29 (s.c.map LV.sv)) (A1 := fun j => .box 29 [.i 0, .i 0, .i 0, .v (.slice none 0 0), .t [], .v (.slice none 0 0), .i 0, .v (.slice none 0 0), .v (.slice none 0 0)]) (A2 := fun j => .bx 29 [.i s.ven.shards, .i s.ven.ttl, .i s.ven.session, .sv (.sl 3 (s.ven.secs.map VnS.c)), .t s.key, .sv (.sl 3 (s.gates.map GtG.c)), .i s.workers, .sv (.sl 11 (s.calls.map SrC.c)), .v undef] 8 58 3 ((chSt s raw j).1.map SrE.c)) (A3 := fun j => .raw (mapOb encI (mB (chSt s raw j).2))) (A4 := fun j => .box 158 [.ref 3]) (A7 := .raw (.deferred (some []))) (A8 := .loop fn Tryz.f34.ntmps [(4, (true, .ptr 1 0)), (6, (true, .ptr 2 0)), (9, (true, .ptr 4 0)), (24, (true, .fn (.func 166) [] [.ptr 5 0, .ptr 6 0]))] #[25] ac bc .ready none) hl hgo
    exact hr
  refine ⟨fun j hj => rfl, fun j hj => by simp [LO.lt, LV.lts, LV.lt, lts_sv], fun j hj => ?_⟩
  rw [List.getElem_map]
  have hj' : j < (chunkL raw).length := by simpa using hj
  try dsimp only
  rw [chSt_succ hj']
  have hle := chSt_le s raw j
  generalize (chunkL raw)[j] = c at *
  generalize chSt s raw j = p at *
  obtain ⟨acc, ks⟩ := p
  dsimp only at hle
  try dsimp only
  refine Yld.walk 9 ((10, (true, .sv (.sl 1 (bytesC c)))) :: (25, (true, .sv (.sl 1 (bytesC c)))) :: [(4, (true, .ptr 1 0)), (6, (true, .ptr 2 0)), (9, (true, .ptr 4 0)), (24, (true, .fn (.func 166) [] [.ptr 5 0, .ptr 6 0]))]) (hpN := by rw [show Tryz.f34.ntmps = 51 from Tryz.ntmps34]; simp) (hA := ?_) (hB := ?_)
  · intro l B' hA' hmd'; subst hac
    refine .region rfl ?_
    refine R.assign (h := ?_)
    refine .n0 ?_
    exact LGo.done (fun cx a w hr => ⟨rfl, cx, hr⟩)
  · intro l B' hA' hmd'; subst hbc
    refine LGo.unpack 2 (h := ?_)
    refine .block ?_
    refine .seq ?_
    refine .region rfl ?_
    refine R.move (h := ?_)
    first | refine R.len S44 (h := ?_) | refine R.lenRs S44 (h := ?_) | refine R.lenV (run_lenNil S44) (h := ?_)
    rw [bytesC_length]
    refine R.bin (run_eql _ _ _ _ _ _) (h := ?_)
    refine R.move (h := ?_)
    first | refine R.field F29_5 (h := ?_) | refine R.fieldAt F29_5 (h := ?_)
    first | refine R.loadB O27 (h := ?_) | refine R.load1 O27 (h := ?_)
    first | refine R.len S27 (h := ?_) | refine R.lenRs S27 (h := ?_) | refine R.lenV (run_lenNil S27) (h := ?_)
    rw [List.length_map]
    refine R.bin (run_lss _ _ _ _ _ _) (h := ?_)
    refine R.and (h := ?_)
    refine .n0 ?_
    refine LGo.ifb (ht := fun hc2 => ?_) (hf := fun hc2 => ?_)
    ·
     simp only [Bool.and_eq_true, decide_eq_true_eq] at hc2
     obtain ⟨b, v, rfl⟩ := two_of (c := c) (by omega)
     have hal : acc.length < 1000 := by omega
     have hb := b.toNat_lt
     have hv := v.toNat_lt
     rw [chStep_go hal, List.map_append]
     refine .region rfl ?_
     first | refine R.field F29_5 (h := ?_) | refine R.fieldAt F29_5 (h := ?_)
     first | refine R.loadB O27 (h := ?_) | refine R.load1 O27 (h := ?_)
     first | refine R.loadB O158 (h := ?_) | refine R.load1 O158 (h := ?_)
     refine R.move (h := ?_)
     refine R.index I44 (hj := fun hg => ⟨by omega, rfl⟩) (h := ?_)
     first | refine R.loadB O5 (h := ?_) | refine R.load1 O5 (h := ?_)
     first | refine R.convI Tryz.runUnderlying5 Tryz.runUnderlying3 (h := ?_) | refine R.convW Tryz.runUnderlying5 Tryz.runUnderlying3 (h := ?_)
     refine R.move (h := ?_)
     refine R.index I44 (hj := fun hg => ⟨by omega, rfl⟩) (h := ?_)
     first | refine R.loadB O5 (h := ?_) | refine R.load1 O5 (h := ?_)
     first | refine R.convI Tryz.runUnderlying5 Tryz.runUnderlying3 (h := ?_) | refine R.convW Tryz.runUnderlying5 Tryz.runUnderlying3 (h := ?_)
     refine R.callXS (es := [_, _, _, _]) [3] [(2, .box 29 (s.cO 9)), (9, .rs 58 3 (acc.map SrE.c))] (decoded_E s acc (by omega) hw ks b.toNat v.toNat hb hv) (h := ?_)
     refine R.buildSliceG AP27 (xs := [_]) (es := [_]) (hcs := CellsOfs.cons (CellsOf.agg rfl) CellsOfs.nil) (h := ?_)
     refine R.appendS AP27 (hs := SrcOk.sl Tryz.underlying27 (by simp; rfl)) (hlen := by simp; omega) (h := ?_)
     first | refine R.field F29_5 (h := ?_) | refine R.fieldAt F29_5 (h := ?_)
     refine R.storeB O27 (h := ?_)
     refine Reg.nil ⟨fun _ => ⟨mixedO, by rfl, by rfl⟩, ?_⟩
     refine .inBlock ?_
     refine LGo.pack 2 8 (h := ?_)
     refine LGo.drop 9 (fun o h => (hA' o).1 h) (by omega) [] ((8, .loop fn Tryz.f34.ntmps [(4, (true, .ptr 1 0)), (6, (true, .ptr 2 0)), (9, (true, .ptr 4 0)), (24, (true, .fn (.func 166) [] [.ptr 5 0, .ptr 6 0]))] #[25] ac _ .busy none) :: (7, .raw (.deferred (some []))) :: [(0, .box 29 (s.c.map LV.sv)), (1, .box 29 [.i 0, .i 0, .i 0, .v (.slice none 0 0), .t [], .v (.slice none 0 0), .i 0, .v (.slice none 0 0), .v (.slice none 0 0)]), (2, .bx 29 [.i s.ven.shards, .i s.ven.ttl, .i s.ven.session, .sv (.sl 3 (s.ven.secs.map VnS.c)), .t s.key, .sv (.sl 3 (s.gates.map GtG.c)), .i s.workers, .sv (.sl 11 (s.calls.map SrC.c)), .v undef] 8 58 3 (acc.map SrE.c ++ List.map SrE.c [(decE s ks b.toNat v.toNat)])), (3, .raw (mapOb encI (mB (nextK ks (decE s ks b.toNat v.toNat))))), (4, .box 158 [.ref 3]), (5, .box 44 [.sv (.sl 1 (bytesC raw))]), (6, .box 3 [.i 2])]) trivial (by repeat (first | exact trivial | refine ⟨rfl, ?_⟩)) (by simp) (by simp [LO.lt, LV.lts, LV.lt, lts_sv]) (h := ?_)
     refine LGo.done (RoundEnd.go rfl (fun o z hz hne => ?_) rfl)
     rcases o with _ | _ | _ | _ | _ | _ | _ | _ | _ | o <;> first | exact absurd rfl hne | exact hz
    ·
     rw [chStep_no (fun h => by rw [decide_eq_true (show (c.length : Int) = 2 by omega), decide_eq_true (show (acc.length : Int) < 1000 by omega)] at hc2; simp at hc2)]
     refine .skip ?_
     refine .inBlock ?_
     refine LGo.pack 2 8 (h := ?_)
     refine LGo.drop 9 (fun o h => (hA' o).1 h) (by omega) [] ((8, .loop fn Tryz.f34.ntmps [(4, (true, .ptr 1 0)), (6, (true, .ptr 2 0)), (9, (true, .ptr 4 0)), (24, (true, .fn (.func 166) [] [.ptr 5 0, .ptr 6 0]))] #[25] ac _ .busy none) :: (7, .raw (.deferred (some []))) :: [(0, .box 29 (s.c.map LV.sv)), (1, .box 29 [.i 0, .i 0, .i 0, .v (.slice none 0 0), .t [], .v (.slice none 0 0), .i 0, .v (.slice none 0 0), .v (.slice none 0 0)]), (2, .bx 29 [.i s.ven.shards, .i s.ven.ttl, .i s.ven.session, .sv (.sl 3 (s.ven.secs.map VnS.c)), .t s.key, .sv (.sl 3 (s.gates.map GtG.c)), .i s.workers, .sv (.sl 11 (s.calls.map SrC.c)), .v undef] 8 58 3 (acc.map SrE.c)), (3, .raw (mapOb encI (mB ks))), (4, .box 158 [.ref 3]), (5, .box 44 [.sv (.sl 1 (bytesC raw))]), (6, .box 3 [.i 2])]) trivial (by repeat (first | exact trivial | refine ⟨rfl, ?_⟩)) (by simp) (by simp [LO.lt, LV.lts, LV.lt, lts_sv]) (h := ?_)
     refine LGo.done (RoundEnd.go rfl (fun o z hz hne => ?_) rfl)
     rcases o with _ | _ | _ | _ | _ | _ | _ | _ | _ | o <;> first | exact absurd rfl hne | exact hz
 ·
  refine LGo.unpack 2 (h := ?_)
  refine .inBlock ?_
  refine .seq ?_
  refine .region rfl ?_
  first | refine R.loadA A29 (h := ?_) | refine R.loadN A29 (h := ?_) | refine R.loadP A29 (h := ?_)
  refine R.storeA A29 (h := ?_)
  refine R.assign (h := ?_)
  refine .n0 ?_
  exact LGo.ret (FnPost.mark (by rfl) (FnPost.finI [9] (res_AT Tryz.results34 A29) hA hmd))
theorem strsC_snoc1 (l : List (List UInt8)) (s : List UInt8) : strsC (l ++ [s]) = strsC l ++ [[.val (.string ⟨s.toArray⟩)]] := by unfold strsC; rw [List.map_append]; rfl
def badF (f : Fd) : Bool := !f.q && !bareC f.s
def longA (l : List Fd) : Bool := l.any fun f => decide (2000 < f.s.length)
def badA (l : List Fd) : Bool := l.any badF
def joinW (l : List Fd) : List UInt8 × Int := if 64 < (l.length : Int) then ([], 3) else if longA l = true then ([], 3) else if badA l = true then ([], 6) else if 8192 < ((lineF l).length : Int) then ([], 3) else (lineF l, 0)
theorem formF_len {f : Fd} (h : f.s.length ≤ 2000) : (formF f).length ≤ 8002 := by
  unfold formF
  split
  · have := quote_len f.s; omega
  · omega
theorem lineF_snoc (l : List Fd) (f : Fd) : lineF (l ++ [f]) = if l = [] then formF f else lineF l ++ [32] ++ formF f := by
  cases l with
  | nil => rw [if_pos rfl, List.nil_append, lineF_one]
  | cons a l =>
    rw [if_neg (by simp)]
    unfold lineF
    rw [List.cons_append, List.map_cons, Lib.join_cons, List.map_cons, Lib.join_cons, List.map_append]
    simp [Lib.joinTail]
theorem lineF_bound : ∀ l : List Fd, (∀ f ∈ l, f.s.length ≤ 2000) → (lineF l).length ≤ 8003 * l.length
  | [], _ => by simp [lineF, Lib.join_nil]
  | [f], h => by rw [lineF_one]; have := formF_len (h f (by simp)); simp; omega
  | f :: g :: l, h => by
    have h1 := lineF_bound (g :: l) (fun x hx => h x (by simp [hx]))
    have h2 := formF_len (h f (by simp))
    rw [lineF_cons]
    simp only [List.length_append, List.length_cons] at h1 ⊢
    omega
theorem any_take {p : Fd → Bool} {l : List Fd} {k : Nat} (h : k < l.length) : (l.take (k + 1)).any p = ((l.take k).any p || p l[k]) := by
  rw [List.take_succ_eq_append_getElem h, List.any_append]; simp
theorem long_no {l : List Fd} (h : longA l = false) : ∀ f ∈ l, f.s.length ≤ 2000 := by
  intro f hf
  unfold longA at h
  rw [List.any_eq_false] at h
  have := h f hf
  simpa using this
theorem long_yes {l : List Fd} {f : Fd} (hf : f ∈ l) (h : 2000 < f.s.length) : longA l = true := by
  unfold longA
  rw [List.any_eq_true]
  exact ⟨f, hf, by simpa using h⟩
theorem joinW_P (l : List Fd) (hl : l.length ≤ 100000) : PC Tryz.prog 44 [.sv (.sl 2 (l.map Fd.c))] (.tup [.t (joinW l).1, .i (joinW l).2]) := by
 refine ⟨LC.of_go Tryz.func44 (c := _) rfl (by kernel_rfl) (by rw [Tryz.ntmps44]; simp) rfl rfl (by simp [LO.lt, LV.lts, LV.lt, lts_sv]) (by simp) ?_⟩
 intro B hA hmd
 obtain ⟨g, e0⟩ : ∃ g, joinW l = g := ⟨_, rfl⟩
 have e1 := e0
 unfold joinW at e1
 rw [e0]
 refine .seq ?_
 refine .region rfl ?_
 refine R.assign (h := ?_)
 refine R.assign (h := ?_)
 refine .n0 ?_
 refine .seq ?_
 refine .seq ?_
 refine .region rfl ?_
 refine R.move (h := ?_)
 first | refine R.len S91 (h := ?_) | refine R.lenRs S91 (h := ?_) | refine R.lenV (run_lenNil S91) (h := ?_)
 rw [List.length_map]
 refine R.bin (run_gtr _ _ _ _ _ _) (h := ?_)
 refine .n0 ?_
 refine LGo.ifd (ht := fun hc => ?_) (hf := fun hc => ?_)
 ·
  rw [if_pos hc] at e1; rw [← e1]
  refine .seq ?_
  refine .region rfl ?_
  refine R.assign (h := ?_)
  refine R.assign (h := ?_)
  refine .n0 ?_
  exact LGo.ret (ret_TT Tryz.results44 hA hmd)
 ·
  rw [if_neg hc] at e1
  refine .skip ?_
  refine .seq ?_
  refine .region rfl ?_
  refine R.assign (h := ?_)
  refine .n0 ?_
  refine .seq ?_
  refine .region rfl ?_
  refine R.assign (h := ?_)
  refine .n0 ?_
  refine .seq ?_
  refine .seq ?_
  refine .region rfl ?_
  refine R.move (h := ?_)
  first | refine R.len S91 (h := ?_) | refine R.lenRs S91 (h := ?_) | refine R.lenV (run_lenNil S91) (h := ?_)
  rw [List.length_map]
  refine R.move (h := ?_)
  refine .n0 ?_
  refine .block ?_
  refine .loop ?_
  refine LGo.nilRs 5 9 1 (h := ?_)
  refine LGo.loopG (σ := Nat × Int) (fun x => x.1 ≤ l.length ∧ longA (l.take x.1) = false ∧ x.2 = (if badA (l.take x.1) = true then 6 else 0)) (fun x => [(15, (true, .i (x.1 : Nat))), (5, (true, .ref 0)), (4, (true, .i x.2))]) (fun x => [(0, .rs 9 1 (strsC ((l.take x.1).map formF)))]) (fun x => l.length - x.1) (0, 0) [(13, _), (14, _)] ⟨Nat.zero_le _, rfl, rfl⟩ (by repeat (first | exact trivial | refine ⟨rfl, ?_⟩)) (by repeat (first | exact trivial | refine ⟨rfl, ?_⟩)) (by repeat (first | exact trivial | refine ⟨rfl, ?_⟩)) ?_
  rintro ⟨k, e⟩ ⟨hk, hlk, he⟩ ih
  dsimp only at * 
  refine .seq ?_
  refine .region rfl ?_
  refine R.bin (run_lss _ _ _ _ _ _) (h := ?_)
  refine .n0 ?_
  refine .seq ?_
  refine LGo.ifd (ht := fun hc2 => ?_) (hf := fun hc2 => ?_)
  ·
   have hlt : k < l.length := by omega
   have hx : (l.map Fd.c)[((k : Nat) : Int).toNat]? = some l[k].c := by simp [hlt]
   have hla := any_take (p := fun f => decide (2000 < f.s.length)) hlt
   have hba := any_take (p := badF) hlt
   have htk : (l.take (k + 1)).map formF = (l.take k).map formF ++ [formF l[k]] := by rw [List.take_succ_eq_append_getElem hlt, List.map_append]; rfl
   have hmem : l[k] ∈ l := List.getElem_mem hlt
   have hll : (l.take k).length ≤ 64 := by rw [List.length_take]; omega
   generalize l[k] = f at hx hla hba htk hmem
   have hst : strsC ((l.take (k + 1)).map formF) = strsC ((l.take k).map formF) ++ [[.val (.string ⟨(formF f).toArray⟩)]] := by rw [htk, strsC_snoc1]
   refine .skip ?_
   refine .seq ?_
   refine .block ?_
   refine .seq ?_
   refine .region rfl ?_
   refine R.index I91 (hj := fun hg => ⟨by omega, hx⟩) (h := ?_)
   first | refine R.loadA A95 (h := ?_) | refine R.loadN A95 (h := ?_) | refine R.loadP A95 (h := ?_)
   refine R.alloc Z95 (h := ?_)
   refine R.storeA A95 (h := ?_)
   refine .n0 ?_
   refine .seq ?_
   refine .seq ?_
   refine .region rfl ?_
   first | refine R.field F95_0 (h := ?_) | refine R.fieldAt F95_0 (h := ?_)
   first | refine R.loadB O9 (h := ?_) | refine R.load1 O9 (h := ?_)
   refine R.lenT Tryz.runUnderlying9 (h := ?_)
   refine R.bin (run_gtr _ _ _ _ _ _) (h := ?_)
   refine .n0 ?_
   refine LGo.ifd (ht := fun hc3 => ?_) (hf := fun hc3 => ?_)
   ·
    rw [if_pos (long_yes hmem (by omega))] at e1; rw [← e1]
    refine .seq ?_
    refine .region rfl ?_
    refine R.assign (h := ?_)
    refine R.assign (h := ?_)
    refine .n0 ?_
    exact LGo.ret (ret_TT Tryz.results44 hA hmd)
   ·
    have hls : decide (2000 < f.s.length) = false := by simp; omega
    rw [show (l.take (k + 1)).any (fun f => decide (2000 < f.s.length)) = longA (l.take (k + 1)) from rfl, show (l.take k).any (fun f => decide (2000 < f.s.length)) = longA (l.take k) from rfl, hls, hlk] at hla
    rw [show (l.take (k + 1)).any badF = badA (l.take (k + 1)) from rfl, show (l.take k).any badF = badA (l.take k) from rfl] at hba
    refine .skip ?_
    refine .seq ?_
    refine .region rfl ?_
    first | refine R.field F95_0 (h := ?_) | refine R.fieldAt F95_0 (h := ?_)
    first | refine R.loadB O9 (h := ?_) | refine R.load1 O9 (h := ?_)
    refine R.assign (h := ?_)
    refine .n0 ?_
    refine .seq ?_
    refine .seq ?_
    refine .region rfl ?_
    first | refine R.field F95_1 (h := ?_) | refine R.fieldAt F95_1 (h := ?_)
    first | refine R.loadB O4 (h := ?_) | refine R.load1 O4 (h := ?_)
    refine .n0 ?_
    refine LGo.ifb (ht := fun hc4 => ?_) (hf := fun hc4 => ?_)
    ·
     have hfo : formF f = quote f.s := if_pos hc4
     have hbf : badF f = false := by unfold badF; rw [hc4]; rfl
     refine .region rfl ?_
     refine R.move (h := ?_)
     refine R.callP (es := [_]) (fun _ => quote_P f.s (by omega)) (h := ?_)
     rw [← hfo]
     refine R.assign (h := ?_)
     refine .n0 ?_
     refine .region rfl ?_
     refine R.move (h := ?_)
     refine R.move (h := ?_)
     refine R.buildSliceG AP117 (xs := [_]) (es := [_]) (hcs := CellsOfs.cons (CellsOf.one rfl) CellsOfs.nil) (h := ?_)
     refine R.appendS AP117 (hs := SrcOk.sl Tryz.underlying117 (by simp)) (hlen := by rw [strsC_length]; simp; omega) (h := ?_)
     refine R.assign (h := ?_)
     refine .n0 ?_
     refine .inBlock ?_
     refine .region rfl ?_
     first | refine R.add (h := ?_) | refine R.addW (h := ?_)
     refine R.move (h := ?_)
     refine .n0 ?_
     refine .inLoop ?_
     exact LGo.turn [2] (b := 0) (fun o h => by have := (hA o).1 h; omega) (ih (k + 1, e) ⟨by dsimp only; omega, hla, by dsimp only; rw [hba, hbf, Bool.or_false]; exact he⟩ (by dsimp only; omega)) (by repeat (first | exact trivial | refine ⟨rfl, ?_⟩)) ⟨by rw [hst]; rfl, trivial⟩
    ·
     have hfo : formF f = f.s := if_neg (by rw [hc4]; simp)
     refine .seq ?_
     refine .region rfl ?_
     refine R.move (h := ?_)
     refine R.callP (es := [_]) (fun _ => isBare_P f.s (by omega)) (h := ?_)
     refine R.not (h := ?_)
     refine .n0 ?_
     refine LGo.ifb (ht := fun hc5 => ?_) (hf := fun hc5 => ?_)
     ·
      have hbf : badF f = true := by unfold badF; rw [hc4]; simpa using hc5
      refine .region rfl ?_
      refine R.assign (h := ?_)
      refine .n0 ?_
      refine .region rfl ?_
      refine R.move (h := ?_)
      refine R.move (h := ?_)
      refine R.buildSliceG AP117 (xs := [_]) (es := [_]) (hcs := CellsOfs.cons (CellsOf.one rfl) CellsOfs.nil) (h := ?_)
      refine R.appendS AP117 (hs := SrcOk.sl Tryz.underlying117 (by simp)) (hlen := by rw [strsC_length]; simp; omega) (h := ?_)
      refine R.assign (h := ?_)
      refine .n0 ?_
      refine .inBlock ?_
      refine .region rfl ?_
      first | refine R.add (h := ?_) | refine R.addW (h := ?_)
      refine R.move (h := ?_)
      refine .n0 ?_
      refine .inLoop ?_
      exact LGo.turn [2] (b := 0) (fun o h => by have := (hA o).1 h; omega) (ih (k + 1, 6) ⟨by dsimp only; omega, hla, by dsimp only; rw [hba, hbf, Bool.or_true]; rfl⟩ (by dsimp only; omega)) (by repeat (first | exact trivial | refine ⟨rfl, ?_⟩)) ⟨by rw [hst, hfo]; rfl, trivial⟩
     ·
      have hbf : badF f = false := by unfold badF; rw [hc4]; simpa using hc5
      refine .skip ?_
      refine .region rfl ?_
      refine R.move (h := ?_)
      refine R.move (h := ?_)
      refine R.buildSliceG AP117 (xs := [_]) (es := [_]) (hcs := CellsOfs.cons (CellsOf.one rfl) CellsOfs.nil) (h := ?_)
      refine R.appendS AP117 (hs := SrcOk.sl Tryz.underlying117 (by simp)) (hlen := by rw [strsC_length]; simp; omega) (h := ?_)
      refine R.assign (h := ?_)
      refine .n0 ?_
      refine .inBlock ?_
      refine .region rfl ?_
      first | refine R.add (h := ?_) | refine R.addW (h := ?_)
      refine R.move (h := ?_)
      refine .n0 ?_
      refine .inLoop ?_
      exact LGo.turn [2] (b := 0) (fun o h => by have := (hA o).1 h; omega) (ih (k + 1, e) ⟨by dsimp only; omega, hla, by dsimp only; rw [hba, hbf, Bool.or_false]; exact he⟩ (by dsimp only; omega)) (by repeat (first | exact trivial | refine ⟨rfl, ?_⟩)) ⟨by rw [hst, hfo]; rfl, trivial⟩
  ·
   obtain rfl : k = l.length := by omega
   rw [List.take_length] at hlk he
   rw [List.take_length]
   rw [if_neg (by rw [hlk]; simp)] at e1
   have hbd := lineF_bound l (long_no hlk)
   refine LGo.frz 0 (h := ?_)
   refine .exit rfl ?_
   refine .seq ?_
   refine .region rfl ?_
   refine R.move (h := ?_)
   refine R.callP (es := [_, _]) (fun _ => PC.strJoin (Entr.of Tryz.func107 rfl (by kernel_rfl)) Tryz.strings_Join_none Tryz.strings_Join (l.map formF) [32] (by rw [List.length_map]; omega) (by show (lineF l).length ≤ _; omega)) (h := ?_)
   rw [show Lib.join (l.map formF) [32] = lineF l from rfl]
   refine R.assign (h := ?_)
   refine .n0 ?_
   refine .seq ?_
   refine .block ?_
   refine .seq ?_
   refine .region rfl ?_
   refine R.move (h := ?_)
   refine R.bin (run_neq _ _ _ _ _ _) (h := ?_)
   refine R.assign (h := ?_)
   refine .n0 ?_
   refine LGo.ifb (ht := fun hc6 => ?_) (hf := fun hc6 => ?_)
   ·
    have hb : badA l = true := by cases h : badA l with | true => rfl | false => rw [h] at he; simp [he] at hc6
    rw [if_pos hb] at e1 he; rw [he, ← e1]
    refine .seq ?_
    refine .region rfl ?_
    refine R.move (h := ?_)
    refine R.assign (h := ?_)
    refine R.assign (h := ?_)
    refine .n0 ?_
    exact LGo.ret (ret_TT Tryz.results44 hA hmd)
   ·
    have hb : ¬ badA l = true := by intro h; rw [if_pos h] at he; simp [he] at hc6
    rw [if_neg hb] at e1
    refine .seq ?_
    refine .region rfl ?_
    refine R.move (h := ?_)
    refine R.lenT Tryz.runUnderlying9 (h := ?_)
    refine R.bin (run_gtr _ _ _ _ _ _) (h := ?_)
    refine R.assign (h := ?_)
    refine .n0 ?_
    refine LGo.ifd (ht := fun hc7 => ?_) (hf := fun hc7 => ?_)
    ·
     rw [if_pos hc7] at e1; rw [← e1]
     refine .seq ?_
     refine .region rfl ?_
     refine R.assign (h := ?_)
     refine R.assign (h := ?_)
     refine .n0 ?_
     exact LGo.ret (ret_TT Tryz.results44 hA hmd)
    ·
     rw [if_neg hc7] at e1; rw [← e1]
     refine .skip ?_
     refine .inBlock ?_
     refine .seq ?_
     refine .region rfl ?_
     refine R.move (h := ?_)
     refine R.assign (h := ?_)
     refine R.assign (h := ?_)
     refine .n0 ?_
     exact LGo.ret (ret_TT Tryz.results44 hA hmd)
theorem ptr_eqNil {t : Nat} (ht : ∃ e, Tryz.prog.underlying t = some (.pointer e)) (x : Operand) : ∀ a w, (do eqGuard .eql t x (.const (.pointer none)) (.pointer (some a)) (.pointer none); binOp .eql t (.pointer (some a)) (.pointer none) : Sem Value).run Tryz.prog w = .ok (.bool false) w := by
  intro a w
  obtain ⟨e, ht⟩ := ht
  have h : (Op.equal t (.pointer (some a)) (.pointer none)).run Tryz.prog w = .ok false w := by
    have : ∀ d, (Op.equalIn (d + 1) t (.pointer (some a)) (.pointer none)).run Tryz.prog w = .ok false w := fun d => by simp [Op.equalIn, run_underlying ht]
    exact this 9999
  simp [binOp, eqGuard, h]
theorem nil_eqNil {t : Nat} (ht : ∃ e, Tryz.prog.underlying t = some (.pointer e)) (x : Operand) : ∀ w, (do eqGuard .eql t x (.const (.pointer none)) (.pointer none) (.pointer none); binOp .eql t (.pointer none) (.pointer none) : Sem Value).run Tryz.prog w = .ok (.bool true) w := by
  intro w
  obtain ⟨e, ht⟩ := ht
  have h : (Op.equal t (.pointer none) (.pointer none)).run Tryz.prog w = .ok true w := by
    have : ∀ d, (Op.equalIn (d + 1) t (.pointer none) (.pointer none)).run Tryz.prog w = .ok true w := fun d => by simp [Op.equalIn, run_underlying ht]
    exact this 9999
  simp [binOp, eqGuard, h]
theorem ptr_neSame (x y : Operand) : ∀ a : Addr, a.off = 0 → ∀ w, (do eqGuard .neq 81 x y (.pointer (some a)) (.pointer (some a)); binOp .neq 81 (.pointer (some a)) (.pointer (some a)) : Sem Value).run Tryz.prog w = .ok (.bool false) w := by
  intro a _ w
  have h : (Op.equal 81 (.pointer (some a)) (.pointer (some a))).run Tryz.prog w = .ok true w := by
    have : ∀ d, (Op.equalIn (d + 1) 81 (.pointer (some a)) (.pointer (some a))).run Tryz.prog w = .ok true w := fun d => by simp [Op.equalIn, run_underlying Tryz.underlying81, Tryz.sizeOf83, sameAddr]
    exact this 9999
  simp [binOp, eqGuard, h]
theorem uptr : ∃ e, Tryz.prog.underlying 81 = some (.pointer e) := ⟨_, Tryz.underlying81⟩
theorem noEsc (a : Addr) (w : World) : (callFunc 170 #[.pointer (some a)]).run Tryz.prog w = .ok (.value (.pointer (some a))) w := by
  rw [run_callFunc_extern Tryz.func170 (by kernel_rfl) (by kernel_rfl) (by kernel_rfl) (e := Extern.AbiNoEscape.same) (by kernel_rfl), Lib.run_noEscape]
  rfl
theorem infoB : ∃ j, Tryz.prog.info? 83 = some j ∧ j.size = 2 := Option.map_eq_some_iff.1 (show (Tryz.prog.info? 83).map (·.size) = some 2 from by kernel_rfl)
theorem toUns (b : Nat) (w : World) (h : w.shape? b = some (83, 2)) : (convert 81 233 (.pointer (some ⟨b, 0, none⟩))).run Tryz.prog w = .ok (.pointer (some ⟨b, 0, none⟩)) w := by
  obtain ⟨j, hj, hjs⟩ := infoB
  exact Lib.run_to_unsafe w ⟨b, 0, none⟩ Tryz.underlying81 Tryz.underlying233 hj (by rw [hjs]; decide) h (by show 0 < 2; decide)
theorem fromUns (b : Nat) (w : World) (h : w.shape? b = some (83, 2)) : (convert 233 81 (.pointer (some ⟨b, 0, none⟩))).run Tryz.prog w = .ok (.pointer (some ⟨b, 0, none⟩)) w := by
  obtain ⟨j, hj, hjs⟩ := infoB
  exact Lib.run_from_unsafe w ⟨b, 0, none⟩ Tryz.underlying233 Tryz.underlying81 hj h (by kernel_rfl)
theorem cc0 (ys : List (List SV)) (hys : ∀ e ∈ ys, e.length = 1) : LC Tryz.prog 100 2 [.ptr 0 0] [(0, .box 83 [.v (.pointer none), .ref 1]), (1, .rs 5 1 ys)] (.tup []) [(0, .box 83 [.ptr 0 0, .ref 1]), (1, .rs 5 1 ys)] 0 := by
 refine LC.of_go Tryz.func100 (c := _) rfl (by kernel_rfl) (by rw [Tryz.ntmps100]; simp) rfl rfl (by simp [LO.lt, LV.lts, LV.lt, lts_sv]) (by simp) ?_
 intro B hA hmd
 refine .seq ?_
 refine .region rfl ?_
 refine R.move (h := ?_)
 refine R.nilCheck (h := ?_)
 first | refine R.field F83_0 (h := ?_) | refine R.fieldAt F83_0 (h := ?_)
 first | refine R.loadB O81 (h := ?_) | refine R.load1 O81 (h := ?_)
 refine R.bin (nil_eqNil uptr _) (h := ?_)
 refine .n0 ?_
 refine LGo.ifb (ht := fun hc => ?_) (hf := fun hc => by simp at hc)
 refine .region rfl ?_
 refine R.move (h := ?_)
 refine R.move (h := ?_)
 refine R.convPtr (hT := fun b w h => toUns b w h) (h := ?_)
 refine R.callSame (hf := noEsc) (h := ?_)
 refine R.convPtr (hT := fun b w h => fromUns b w h) (h := ?_)
 refine R.nilCheck (h := ?_)
 first | refine R.field F83_0 (h := ?_) | refine R.fieldAt F83_0 (h := ?_)
 refine R.storeB O81 (h := ?_)
 refine .n0 ?_
 exact LGo.done (ret_0 Tryz.results100 hA hmd)
theorem cc1 (ys : List (List SV)) (hys : ∀ e ∈ ys, e.length = 1) : LC Tryz.prog 100 2 [.ptr 0 0] [(0, .box 83 [.ptr 0 0, .ref 1]), (1, .rs 5 1 ys)] (.tup []) [(0, .box 83 [.ptr 0 0, .ref 1]), (1, .rs 5 1 ys)] 0 := by
 refine LC.of_go Tryz.func100 (c := _) rfl (by kernel_rfl) (by rw [Tryz.ntmps100]; simp) rfl rfl (by simp [LO.lt, LV.lts, LV.lt, lts_sv]) (by simp) ?_
 intro B hA hmd
 refine .seq ?_
 refine .region rfl ?_
 refine R.move (h := ?_)
 refine R.nilCheck (h := ?_)
 first | refine R.field F83_0 (h := ?_) | refine R.fieldAt F83_0 (h := ?_)
 first | refine R.loadB O81 (h := ?_) | refine R.load1 O81 (h := ?_)
 refine R.eqPtrNil (hT := ptr_eqNil uptr _) (h := ?_)
 refine .n0 ?_
 refine LGo.ifb (ht := fun hc => by simp at hc) (hf := fun hc => ?_)
 refine .seq ?_
 refine .region rfl ?_
 refine R.move (h := ?_)
 refine R.nilCheck (h := ?_)
 first | refine R.field F83_0 (h := ?_) | refine R.fieldAt F83_0 (h := ?_)
 first | refine R.loadB O81 (h := ?_) | refine R.load1 O81 (h := ?_)
 refine R.move (h := ?_)
 refine R.nePtrSame (hT := ptr_neSame _ _) (h := ?_)
 refine .n0 ?_
 refine LGo.ifb (ht := fun hc2 => by simp at hc2) (hf := fun hc2 => ?_)
 refine .skip ?_
 exact LGo.done (ret_0 Tryz.results100 hA hmd)
theorem bytesC_ones (l : List UInt8) : ∀ e ∈ bytesC l, e.length = 1 := by intro e he; unfold bytesC at he; obtain ⟨c, _, rfl⟩ := List.mem_map.1 he; rfl
theorem ws0 (s : List UInt8) (hs : s.length ≤ 100000) : LC Tryz.prog 40 1 [.ptr 0 0, .t s] [(0, .bx 83 [.v (.pointer none), .v undef] 1 5 1 (bytesC []))] (.tup [.i s.length, .v .nilIface]) [(0, .bx 83 [.ptr 0 0, .v undef] 1 5 1 (bytesC s))] 0 := by
 refine LC.of_go Tryz.func40 (c := _) rfl (by kernel_rfl) (by rw [Tryz.ntmps40]; simp) rfl rfl (by simp [LO.lt, LV.lts, LV.lt, lts_sv]) (by simp) ?_
 intro B hA hmd
 refine LGo.unpack 0 (h := ?_)
 refine .seq ?_
 refine .region rfl ?_
 refine R.assign (h := ?_)
 refine R.assign (h := ?_)
 refine .n0 ?_
 refine .seq ?_
 refine .region rfl ?_
 refine R.move (h := ?_)
 refine R.callX (es := [_]) [0, 1] (cc0 (bytesC []) (bytesC_ones _)) (h := ?_)
 refine .n0 ?_
 refine .seq ?_
 refine .region rfl ?_
 refine R.move (h := ?_)
 refine R.move (h := ?_)
 refine R.nilCheck (h := ?_)
 first | refine R.field F83_1 (h := ?_) | refine R.fieldAt F83_1 (h := ?_)
 first | refine R.loadB O44 (h := ?_) | refine R.load1 O44 (h := ?_)
 refine R.move (h := ?_)
 refine R.appendS AP44 (hs := SrcOk.strT Tryz.underlying9) (hlen := by simp only [bytesC_length, List.length_nil]; omega) (h := ?_)
 refine R.nilCheck (h := ?_)
 first | refine R.field F83_1 (h := ?_) | refine R.fieldAt F83_1 (h := ?_)
 refine R.storeB O44 (h := ?_)
 refine .n0 ?_
 refine .seq ?_
 refine .region rfl ?_
 refine R.move (h := ?_)
 refine R.lenT Tryz.runUnderlying9 (h := ?_)
 refine R.assign (h := ?_)
 refine R.assign (h := ?_)
 refine .n0 ?_
 refine LGo.pack 0 1 (h := ?_)
 exact LGo.ret (ret_TT Tryz.results40 hA hmd)
theorem ws1 (l : List UInt8) (hl : l.length ≤ 100000) (s : List UInt8) (hs : s.length ≤ 100000) : LC Tryz.prog 40 1 [.ptr 0 0, .t s] [(0, .bx 83 [.ptr 0 0, .v undef] 1 5 1 (bytesC l))] (.tup [.i s.length, .v .nilIface]) [(0, .bx 83 [.ptr 0 0, .v undef] 1 5 1 (bytesC (l ++ s)))] 0 := by
 refine LC.of_go Tryz.func40 (c := _) rfl (by kernel_rfl) (by rw [Tryz.ntmps40]; simp) rfl rfl (by simp [LO.lt, LV.lts, LV.lt, lts_sv]) (by simp) ?_
 intro B hA hmd
 refine LGo.unpack 0 (h := ?_)
 refine .seq ?_
 refine .region rfl ?_
 refine R.assign (h := ?_)
 refine R.assign (h := ?_)
 refine .n0 ?_
 refine .seq ?_
 refine .region rfl ?_
 refine R.move (h := ?_)
 refine R.callX (es := [_]) [0, 1] (cc1 (bytesC l) (bytesC_ones _)) (h := ?_)
 refine .n0 ?_
 refine .seq ?_
 refine .region rfl ?_
 refine R.move (h := ?_)
 refine R.move (h := ?_)
 refine R.nilCheck (h := ?_)
 first | refine R.field F83_1 (h := ?_) | refine R.fieldAt F83_1 (h := ?_)
 first | refine R.loadB O44 (h := ?_) | refine R.load1 O44 (h := ?_)
 refine R.move (h := ?_)
 refine R.appendS AP44 (hs := SrcOk.strT Tryz.underlying9) (hlen := by simp only [bytesC_length, List.length_nil]; omega) (h := ?_)
 rw [← bytesC_app]
 refine R.nilCheck (h := ?_)
 first | refine R.field F83_1 (h := ?_) | refine R.fieldAt F83_1 (h := ?_)
 refine R.storeB O44 (h := ?_)
 refine .n0 ?_
 refine .seq ?_
 refine .region rfl ?_
 refine R.move (h := ?_)
 refine R.lenT Tryz.runUnderlying9 (h := ?_)
 refine R.assign (h := ?_)
 refine R.assign (h := ?_)
 refine .n0 ?_
 refine LGo.pack 0 1 (h := ?_)
 exact LGo.ret (ret_TT Tryz.results40 hA hmd)
theorem wb1 (l : List UInt8) (hl : l.length ≤ 100000) (c : UInt8) : LC Tryz.prog 187 1 [.ptr 0 0, .y c.toNat] [(0, .bx 83 [.ptr 0 0, .v undef] 1 5 1 (bytesC l))] (.v .nilIface) [(0, .bx 83 [.ptr 0 0, .v undef] 1 5 1 (bytesC (l ++ [c])))] 0 := by
 refine LC.of_go Tryz.func187 (c := _) rfl (by kernel_rfl) (by rw [Tryz.ntmps187]; simp) rfl rfl (by simp [LO.lt, LV.lts, LV.lt, lts_sv]) (by simp) ?_
 intro B hA hmd
 refine LGo.unpack 0 (h := ?_)
 refine .seq ?_
 refine .region rfl ?_
 refine R.assign (h := ?_)
 refine .n0 ?_
 refine .seq ?_
 refine .region rfl ?_
 refine R.move (h := ?_)
 refine R.callX (es := [_]) [0, 1] (cc1 (bytesC l) (bytesC_ones _)) (h := ?_)
 refine .n0 ?_
 refine .seq ?_
 refine .region rfl ?_
 refine R.move (h := ?_)
 refine R.move (h := ?_)
 refine R.nilCheck (h := ?_)
 first | refine R.field F83_1 (h := ?_) | refine R.fieldAt F83_1 (h := ?_)
 first | refine R.loadB O44 (h := ?_) | refine R.load1 O44 (h := ?_)
 refine R.move (h := ?_)
 refine R.buildSliceF AP44 (bytesC [c]) (xs := [_]) (es := [_]) (hcs := CellsOfs.cons (CellsOf.one rfl) CellsOfs.nil) (h := ?_)
 refine R.appendS AP44 (hs := SrcOk.sl Tryz.underlying44 (bytesC_one _)) (hlen := by simp only [bytesC_length, List.length_cons, List.length_nil]; omega) (h := ?_)
 rw [← bytesC_app]
 refine R.nilCheck (h := ?_)
 first | refine R.field F83_1 (h := ?_) | refine R.fieldAt F83_1 (h := ?_)
 refine R.storeB O44 (h := ?_)
 refine .n0 ?_
 refine .seq ?_
 refine .region rfl ?_
 refine R.assign (h := ?_)
 refine .n0 ?_
 refine LGo.pack 0 1 (h := ?_)
 exact LGo.ret (ret_T Tryz.results187 hA hmd)
theorem bl0 : LC Tryz.prog 186 1 [.ptr 0 0] [(0, .bx 83 [.v (.pointer none), .v undef] 1 5 1 (bytesC []))] (.i ([] : List UInt8).length) [(0, .bx 83 [.v (.pointer none), .v undef] 1 5 1 (bytesC []))] 0 := by
 refine LC.of_go Tryz.func186 (c := _) rfl (by kernel_rfl) (by rw [Tryz.ntmps186]; simp) rfl rfl (by simp [LO.lt, LV.lts, LV.lt, lts_sv]) (by simp) ?_
 intro B hA hmd
 refine LGo.unpack 0 (h := ?_)
 refine .seq ?_
 refine .region rfl ?_
 refine R.assign (h := ?_)
 refine .n0 ?_
 refine .seq ?_
 refine .region rfl ?_
 refine R.move (h := ?_)
 refine R.nilCheck (h := ?_)
 first | refine R.field F83_1 (h := ?_) | refine R.fieldAt F83_1 (h := ?_)
 first | refine R.loadB O44 (h := ?_) | refine R.load1 O44 (h := ?_)
 first | refine R.len S44 (h := ?_) | refine R.lenRs S44 (h := ?_) | refine R.lenV (run_lenNil S44) (h := ?_)
 rw [bytesC_length]
 refine R.assign (h := ?_)
 refine .n0 ?_
 refine LGo.pack 0 1 (h := ?_)
 exact LGo.ret (ret_T Tryz.results186 hA hmd)
theorem bl1 (l : List UInt8) : LC Tryz.prog 186 1 [.ptr 0 0] [(0, .bx 83 [.ptr 0 0, .v undef] 1 5 1 (bytesC l))] (.i l.length) [(0, .bx 83 [.ptr 0 0, .v undef] 1 5 1 (bytesC l))] 0 := by
 refine LC.of_go Tryz.func186 (c := _) rfl (by kernel_rfl) (by rw [Tryz.ntmps186]; simp) rfl rfl (by simp [LO.lt, LV.lts, LV.lt, lts_sv]) (by simp) ?_
 intro B hA hmd
 refine LGo.unpack 0 (h := ?_)
 refine .seq ?_
 refine .region rfl ?_
 refine R.assign (h := ?_)
 refine .n0 ?_
 refine .seq ?_
 refine .region rfl ?_
 refine R.move (h := ?_)
 refine R.nilCheck (h := ?_)
 first | refine R.field F83_1 (h := ?_) | refine R.fieldAt F83_1 (h := ?_)
 first | refine R.loadB O44 (h := ?_) | refine R.load1 O44 (h := ?_)
 first | refine R.len S44 (h := ?_) | refine R.lenRs S44 (h := ?_) | refine R.lenV (run_lenNil S44) (h := ?_)
 rw [bytesC_length]
 refine R.assign (h := ?_)
 refine .n0 ?_
 refine LGo.pack 0 1 (h := ?_)
 exact LGo.ret (ret_T Tryz.results186 hA hmd)
theorem bs1 (l : List UInt8) (h0 : l ≠ []) (hl : l.length ≤ 1000000) : LC Tryz.prog 53 1 [.ptr 0 0] [(0, .bx 83 [.ptr 0 0, .v undef] 1 5 1 (bytesC l))] (.t l) [] 0 := by
 refine LC.of_go Tryz.func53 (c := _) rfl (by kernel_rfl) (by rw [Tryz.ntmps53]; simp) rfl rfl (by simp [LO.lt, LV.lts, LV.lt, lts_sv]) (by simp) ?_
 intro B hA hmd
 have hne : bytesC l ≠ [] := by intro h; apply h0; have := congrArg List.length h; rw [bytesC_length] at this; exact List.eq_nil_of_length_eq_zero this
 refine LGo.unpack 0 (h := ?_)
 refine .seq ?_
 refine .region rfl ?_
 refine R.assign (h := ?_)
 refine .n0 ?_
 refine .seq ?_
 refine .region rfl ?_
 refine R.move (h := ?_)
 refine R.nilCheck (h := ?_)
 first | refine R.field F83_1 (h := ?_) | refine R.fieldAt F83_1 (h := ?_)
 first | refine R.loadB O44 (h := ?_) | refine R.load1 O44 (h := ?_)
 refine R.sliceData hne (h := ?_)
 refine R.move (h := ?_)
 refine R.nilCheck (h := ?_)
 first | refine R.field F83_1 (h := ?_) | refine R.fieldAt F83_1 (h := ?_)
 first | refine R.loadB O44 (h := ?_) | refine R.load1 O44 (h := ?_)
 first | refine R.len S44 (h := ?_) | refine R.lenRs S44 (h := ?_) | refine R.lenV (run_lenNil S44) (h := ?_)
 rw [bytesC_length]
 refine R.unsafeStr (Tryz.underlying186) (by kernel_rfl) h0 (by omega) (h := ?_)
 refine R.assign (h := ?_)
 refine Reg.nil ⟨fun _ => ⟨mixedO, by rfl, by rfl⟩, ?_⟩
 exact LGo.ret (ret_T Tryz.results53 hA hmd)
section
open Go.RowKit
theorem itoa_P (n : Int) (h0 : -9223372036854775808 ≤ n) (h1 : n ≤ 9223372036854775807) : PC Tryz.prog 110 [.i n] (.t (Lib.itoa n)) :=
  PC.of_val (Entr.of Tryz.func110 rfl (by kernel_rfl)) (by simp [LV.lts, LV.lt]) fun cx w vs hl ham hv => by
    obtain ⟨v1, rfl, h3⟩ : ∃ v1, vs = [v1] ∧ V cx w (.i n) v1 := by
      simp only [Vs] at hv
      obtain ⟨v1, r1, rfl, h1, rfl⟩ := hv
      exact ⟨_, rfl, h1⟩
    rw [h3.val]
    refine (Tryz.strconv_Itoa n h0 h1 w (tab10 ham)).mono ?_
    rintro e w' ⟨rfl, k, os, rfl⟩
    exact ⟨rfl, ⟨rfl, rfl, rfl, by rw [Go.Sort.size_grow]; exact Nat.le_add_right _ _, fun b hb => Go.Sort.heap_grow_old _ _ hb⟩⟩
end
/-- how many numbers behind a follow on it, one by one -/
def runLen : Int → List Int → Nat
  | a, b :: r => if b = a + 1 then runLen b r + 1 else 0
  | _, [] => 0
theorem runLen_le : ∀ (a : Int) (r : List Int), runLen a r ≤ r.length
  | _, [] => by simp [runLen]
  | a, b :: r => by
    have := runLen_le b r
    rw [runLen]
    split <;> simp <;> omega
theorem runLen_at : ∀ (a : Int) (r : List Int) (d : Nat), d ≤ runLen a r → (a :: r).getD d 0 = a + d
  | a, r, 0, _ => by simp
  | a, [], d + 1, h => by simp [runLen] at h
  | a, b :: r, d + 1, h => by
    rw [runLen] at h
    split at h
    · rename_i h1
      have := runLen_at b r d (by omega)
      rw [List.getD_cons_succ, this, h1]; omega
    · omega
theorem runLen_step : ∀ (a : Int) (r : List Int) (d : Nat), d ≤ runLen a r → (d + 1 ≤ runLen a r ↔ (d + 1 < (a :: r).length ∧ (a :: r).getD (d + 1) 0 = (a :: r).getD d 0 + 1))
  | a, [], 0, h => by simp [runLen]
  | a, b :: r, 0, h => by
    rw [runLen]
    simp only [List.getD_cons_succ, List.getD_cons_zero]
    split
    · simp [*]
    · simp [*]
  | a, [], d + 1, h => by simp [runLen] at h
  | a, b :: r, d + 1, h => by
    rw [runLen] at h ⊢
    split at h
    · rename_i h1
      rw [if_pos h1]
      have := runLen_step b r d (by omega)
      show d + 1 + 1 ≤ runLen b r + 1 ↔ (d + 1 + 1 < (b :: r).length + 1 ∧ (b :: r).getD (d + 1) 0 = (b :: r).getD d 0 + 1)
      omega
    · omega
def sepL (acc : List UInt8) : List UInt8 := if acc = [] then [] else [44]
def runTxt (a : Int) (k : Nat) : List UInt8 := if 0 < k then Lib.itoa a ++ ([45] ++ Lib.itoa (a + k)) else Lib.itoa a
def listGo : Nat → List Int → List UInt8 → List UInt8
  | 0, _, acc => acc
  | _ + 1, [], acc => acc
  | f + 1, a :: r, acc => listGo f (r.drop (runLen a r)) (acc ++ sepL acc ++ runTxt a (runLen a r))
def outK (l : List Int) (k : Nat) : Bool := (List.range k).any fun i => decide (l.getD i 0 < 0) || decide (l.getD i 0 > 1000000000)
def descK (l : List Int) (k : Nat) : Bool := (List.range k).any fun i => decide (0 < i) && decide (l.getD i 0 ≤ l.getD (i - 1) 0)
def listW (l : List Int) : List UInt8 × Int := if 500 < (l.length : Int) then ([], 3) else if outK l l.length = true then ([], 7) else if descK l l.length = true then ([], 6) else if l = [] then ([45], 0) else (listGo (l.length + 1) l [], 0)
theorem outK_succ (l : List Int) (k : Nat) : outK l (k + 1) = (outK l k || (decide (l.getD k 0 < 0) || decide (l.getD k 0 > 1000000000))) := by unfold outK; rw [List.range_succ, List.any_append]; simp
theorem descK_succ (l : List Int) (k : Nat) : descK l (k + 1) = (descK l k || (decide (0 < k) && decide (l.getD k 0 ≤ l.getD (k - 1) 0))) := by unfold descK; rw [List.range_succ, List.any_append]; simp
theorem outK_yes {l : List Int} {k : Nat} (hk : k < l.length) (h : (decide (l.getD k 0 < 0) || decide (l.getD k 0 > 1000000000)) = true) : outK l l.length = true := by
  unfold outK; rw [List.any_eq_true]; exact ⟨k, List.mem_range.2 hk, h⟩
theorem outK_no {l : List Int} (h : outK l l.length = false) (j : Nat) : 0 ≤ l.getD j 0 ∧ l.getD j 0 ≤ 1000000000 := by
  by_cases hj : j < l.length
  · unfold outK at h
    rw [List.any_eq_false] at h
    have := h j (List.mem_range.2 hj)
    simp only [Bool.or_eq_true, decide_eq_true_eq, not_or] at this
    omega
  · rw [List.getD_eq_getElem?_getD, List.getElem?_eq_none (by omega)]; simp
theorem icD {l : List Int} {j : Nat} (h : j < l.length) : (ic .i64 l)[j]? = some [.val (.int .i64 (l.getD j 0))] := by
  rw [List.getD_eq_getElem?_getD, List.getElem?_eq_getElem h]
  exact ic_get (List.getElem?_eq_getElem h)
def adr : List UInt8 → LV
  | [] => .v (.pointer none)
  | _ :: _ => .ptr 0 0
theorem adr_ne {l : List UInt8} (h : l ≠ []) : adr l = .ptr 0 0 := by cases l with | nil => exact absurd rfl h | cons a r => rfl
theorem itoa_ne (n : Int) : Lib.itoa n ≠ [] := by unfold Lib.itoa; split; simp; exact digs_ne _
theorem itoa_10 {n : Int} (h0 : 0 ≤ n) (h1 : n ≤ 1000000000) : (Lib.itoa n).length ≤ 11 := by
  unfold Lib.itoa; rw [if_neg (by omega)]; exact decD_le 10 n.toNat (by omega)
theorem dropD (l : List Int) (i d : Nat) : (l.drop i).getD d 0 = l.getD (i + d) 0 := by rw [List.getD_eq_getElem?_getD, List.getD_eq_getElem?_getD, List.getElem?_drop]
theorem list_P (l : List Int) (hl : l.length ≤ 100000) (h64 : ∀ n ∈ l, -9223372036854775808 ≤ n ∧ n ≤ 9223372036854775807) : PC Tryz.prog 114 [.sv (.sl 1 (ic .i64 l))] (.tup [.t (listW l).1, .i (listW l).2]) := by
 refine ⟨LC.of_go Tryz.func114 (c := _) rfl (by kernel_rfl) (by rw [Tryz.ntmps114]; simp) rfl rfl (by simp [LO.lt, LV.lts, LV.lt, lts_sv]) (by simp) ?_⟩
 intro B hA hmd
 obtain ⟨g, e0⟩ : ∃ g, listW l = g := ⟨_, rfl⟩
 have e1 := e0
 unfold listW at e1
 rw [e0]
 refine .seq ?_
 refine .region rfl ?_
 refine R.assign (h := ?_)
 refine R.assign (h := ?_)
 refine .n0 ?_
 refine .seq ?_
 refine .seq ?_
 refine .region rfl ?_
 refine R.move (h := ?_)
 first | refine R.len S65 (h := ?_) | refine R.lenRs S65 (h := ?_) | refine R.lenV (run_lenNil S65) (h := ?_)
 rw [ic_len]
 refine R.bin (run_gtr _ _ _ _ _ _) (h := ?_)
 refine .n0 ?_
 refine LGo.ifd (ht := fun hc => ?_) (hf := fun hc => ?_)
 ·
  rw [if_pos hc] at e1; rw [← e1]
  refine .seq ?_
  refine .region rfl ?_
  refine R.assign (h := ?_)
  refine R.assign (h := ?_)
  refine .n0 ?_
  exact LGo.ret (ret_TT Tryz.results114 hA hmd)
 ·
  rw [if_neg hc] at e1
  refine .skip ?_
  refine .seq ?_
  refine .region rfl ?_
  refine R.assign (h := ?_)
  refine .n0 ?_
  refine .seq ?_
  refine .region rfl ?_
  refine R.alloc Z83 (h := ?_)
  refine .n0 ?_
  refine .seq ?_
  refine .seq ?_
  refine .region rfl ?_
  refine R.assign (h := ?_)
  refine .n0 ?_
  refine .block ?_
  refine .loop ?_
  refine LGo.loopG (σ := Nat × Int) (fun x => x.1 ≤ l.length ∧ outK l x.1 = false ∧ x.2 = (if descK l x.1 = true then 6 else 0)) (fun x => [(6, (true, .i (x.1 : Nat))), (4, (true, .i x.2))]) (fun x => [(0, .box 83 [.v (.pointer none), .v (.slice none 0 0)])]) (fun x => l.length - x.1) (0, 0) [(0, _), (5, _)] ⟨Nat.zero_le _, rfl, rfl⟩ (by repeat (first | exact trivial | refine ⟨rfl, ?_⟩)) (by repeat (first | exact trivial | refine ⟨rfl, ?_⟩)) (by repeat (first | exact trivial | refine ⟨rfl, ?_⟩)) ?_
  rintro ⟨k, e⟩ ⟨hk, hok, he⟩ ih
  dsimp only at * 
  refine .seq ?_
  refine .seq ?_
  refine .region rfl ?_
  refine R.move (h := ?_)
  refine R.move (h := ?_)
  first | refine R.len S65 (h := ?_) | refine R.lenRs S65 (h := ?_) | refine R.lenV (run_lenNil S65) (h := ?_)
  rw [ic_len]
  refine R.bin (run_lss _ _ _ _ _ _) (h := ?_)
  refine .n0 ?_
  refine LGo.ifd (ht := fun hc2 => ?_) (hf := fun hc2 => ?_)
  ·
   have hlt : k < l.length := by omega
   have ho := outK_succ l k
   rw [hok, Bool.false_or] at ho
   have hde := descK_succ l k
   refine .skip ?_
   refine .seq ?_
   refine .block ?_
   refine .seq ?_
   refine .region rfl ?_
   refine R.move (h := ?_)
   refine R.move (h := ?_)
   refine R.index I65 (e := [.val (.int .i64 (l.getD (k) 0))]) (hj := fun hg => ⟨by omega, by rw [show Int.toNat ((k : Int)) = k from by omega]; exact icD (by omega)⟩) (h := ?_)
   first | refine R.loadB O3 (h := ?_) | refine R.load1 O3 (h := ?_)
   refine R.assign (h := ?_)
   refine .n0 ?_
   refine .seq ?_
   refine .seq ?_
   refine .region rfl ?_
   refine R.move (h := ?_)
   refine R.bin (run_lss _ _ _ _ _ _) (h := ?_)
   refine R.move (h := ?_)
   refine R.move (h := ?_)
   refine R.bin (run_gtr _ _ _ _ _ _) (h := ?_)
   refine R.or (h := ?_)
   refine .n0 ?_
   refine LGo.ifb (ht := fun hc3 => ?_) (hf := fun hc3 => ?_)
   ·
    rw [if_pos (outK_yes hlt hc3)] at e1; rw [← e1]
    refine .seq ?_
    refine .region rfl ?_
    refine R.assign (h := ?_)
    refine R.assign (h := ?_)
    refine .n0 ?_
    exact LGo.ret (ret_TT Tryz.results114 hA hmd)
   ·
    rw [hc3] at ho
    refine .skip ?_
    refine .seq ?_
    refine .region rfl ?_
    refine R.move (h := ?_)
    refine R.bin (run_gtr _ _ _ _ _ _) (h := ?_)
    refine R.move (h := ?_)
    refine R.move (h := ?_)
    refine R.move (h := ?_)
    refine R.move (h := ?_)
    first | refine R.sub (h := ?_) | refine R.subW (h := ?_)
    refine R.index I65 (e := [.val (.int .i64 (l.getD (k - 1) 0))]) (hj := fun hg => ⟨by simp at hg; omega, by simp at hg; rw [show Int.toNat ((k : Int) - 1) = k - 1 from by omega]; exact icD (by omega)⟩) (h := ?_)
    first | refine R.loadB O3 (h := ?_) | refine R.load1 O3 (h := ?_)
    refine R.bin (run_leq _ _ _ _ _ _) (h := ?_)
    refine R.and (h := ?_)
    refine .n0 ?_
    refine LGo.ifb (ht := fun hc4 => ?_) (hf := fun hc4 => ?_)
    ·
     have hd1 : descK l (k + 1) = true := by rw [hde]; simp only [Bool.or_eq_true, Bool.and_eq_true, decide_eq_true_eq, Bool.or_eq_false_iff, Bool.and_eq_false_iff, decide_eq_false_iff_not, Bool.not_eq_true', Bool.not_eq_false', Bool.not_eq_true, Bool.not_eq_false, Bool.false_eq_true, Bool.true_eq_false, iff_true, true_iff, iff_false, false_iff] at hc4 ⊢; right; exact ⟨by omega, hc4.2⟩
     refine .region rfl ?_
     refine R.assign (h := ?_)
     refine .n0 ?_
     refine .inBlock ?_
     refine .region rfl ?_
     refine R.move (h := ?_)
     first | refine R.add (h := ?_) | refine R.addW (h := ?_)
     refine R.assign (h := ?_)
     refine .n0 ?_
     refine .inLoop ?_
     exact LGo.next _ (fun o h => by have := (hA o).1 h; omega) (by omega) (ih (k + 1, 6) ⟨by dsimp only; omega, ho, by dsimp only; rw [hd1]; rfl⟩ (by dsimp only; omega)) (by repeat (first | exact trivial | refine ⟨rfl, ?_⟩)) ⟨rfl, trivial⟩
    ·
     have hd1 : descK l (k + 1) = descK l k := by
       rw [hde]
       have : (decide (0 < k) && decide (l.getD k 0 ≤ l.getD (k - 1) 0)) = false := by simp only [Bool.or_eq_true, Bool.and_eq_true, decide_eq_true_eq, Bool.or_eq_false_iff, Bool.and_eq_false_iff, decide_eq_false_iff_not, Bool.not_eq_true', Bool.not_eq_false', Bool.not_eq_true, Bool.not_eq_false, Bool.false_eq_true, Bool.true_eq_false, iff_true, true_iff, iff_false, false_iff] at hc4 ⊢; omega
       rw [this, Bool.or_false]
     refine .skip ?_
     refine .inBlock ?_
     refine .region rfl ?_
     refine R.move (h := ?_)
     first | refine R.add (h := ?_) | refine R.addW (h := ?_)
     refine R.assign (h := ?_)
     refine .n0 ?_
     refine .inLoop ?_
     exact LGo.next _ (fun o h => by have := (hA o).1 h; omega) (by omega) (ih (k + 1, e) ⟨by dsimp only; omega, ho, by dsimp only; rw [hd1]; exact he⟩ (by dsimp only; omega)) (by repeat (first | exact trivial | refine ⟨rfl, ?_⟩)) ⟨rfl, trivial⟩
  ·
   obtain rfl : k = l.length := by omega
   rw [if_neg (by rw [hok]; simp)] at e1
   have hrng := outK_no hok
   clear hok
   refine .exit rfl ?_
   refine .seq ?_
   refine .seq ?_
   refine .region rfl ?_
   refine R.assign (h := ?_)
   refine .n0 ?_
   refine .block ?_
   refine .loop ?_
   refine LGo.packNil 0 1 5 1 (h := ?_)
   refine LGo.loopG (σ := Nat × List UInt8 × Nat) (fun x => x.1 ≤ l.length ∧ l.length - x.1 < x.2.2 ∧ x.2.1.length ≤ 24 * x.1 ∧ (0 < x.1 → x.2.1 ≠ []) ∧ listGo x.2.2 (l.drop x.1) x.2.1 = listGo (l.length + 1) l []) (fun x => [(8, (true, .i (x.1 : Nat)))]) (fun x => [(0, .bx 83 [adr x.2.1, .v undef] 1 5 1 (bytesC x.2.1))]) (fun x => l.length - x.1) (0, [], l.length + 1) [(0, _), (4, _), (5, _)] ⟨Nat.zero_le _, by dsimp only; omega, Nat.zero_le _, fun h => absurd h (by dsimp only; omega), rfl⟩ (by repeat (first | exact trivial | refine ⟨rfl, ?_⟩)) (by repeat (first | exact trivial | refine ⟨rfl, ?_⟩)) (by repeat (first | exact trivial | refine ⟨rfl, ?_⟩)) ?_
   rintro ⟨i, acc, f⟩ ⟨hi, hf, hal, hne, hq⟩ ih2
   dsimp only at * 
   refine .seq ?_
   refine .seq ?_
   refine .region rfl ?_
   refine R.move (h := ?_)
   refine R.move (h := ?_)
   first | refine R.len S65 (h := ?_) | refine R.lenRs S65 (h := ?_) | refine R.lenV (run_lenNil S65) (h := ?_)
   rw [ic_len]
   refine R.bin (run_lss _ _ _ _ _ _) (h := ?_)
   refine R.move (h := ?_)
   refine R.move (h := ?_)
   refine R.bin (run_eql _ _ _ _ _ _) (h := ?_)
   refine R.and (h := ?_)
   refine .n0 ?_
   refine LGo.ifb (ht := fun hc5 => ?_) (hf := fun hc5 => ?_)
   ·
    obtain ⟨hlt, he0⟩ : i < l.length ∧ e = 0 := by simp only [Bool.or_eq_true, Bool.and_eq_true, decide_eq_true_eq, Bool.or_eq_false_iff, Bool.and_eq_false_iff, decide_eq_false_iff_not, Bool.not_eq_true', Bool.not_eq_false', Bool.not_eq_true, Bool.not_eq_false, Bool.false_eq_true, Bool.true_eq_false, iff_true, true_iff, iff_false, false_iff] at hc5; omega
    obtain ⟨f, rfl⟩ : ∃ g, f = g + 1 := ⟨f - 1, by omega⟩
    have hd : l.drop i = l.getD i 0 :: l.drop (i + 1) := by rw [List.drop_eq_getElem_cons hlt, List.getD_eq_getElem?_getD, List.getElem?_eq_getElem hlt]; rfl
    rw [hd, listGo] at hq
    have hra := hrng i
    have hstp := fun d h => runLen_step (l.getD i 0) (l.drop (i + 1)) d h
    have hat := fun d h => runLen_at (l.getD i 0) (l.drop (i + 1)) d h
    have hrl := runLen_le (l.getD i 0) (l.drop (i + 1))
    rw [← hd] at hstp hat
    simp only [dropD, List.length_drop] at hstp hat hrl
    refine .skip ?_
    refine .seq ?_
    refine .block ?_
    refine .seq ?_
    refine .region rfl ?_
    refine R.move (h := ?_)
    refine R.move (h := ?_)
    refine R.index I65 (e := [.val (.int .i64 (l.getD (i) 0))]) (hj := fun hg => ⟨by omega, by rw [show Int.toNat ((i : Int)) = i from by omega]; exact icD (by omega)⟩) (h := ?_)
    first | refine R.loadB O3 (h := ?_) | refine R.load1 O3 (h := ?_)
    refine R.assign (h := ?_)
    refine .n0 ?_
    refine .seq ?_
    refine .block ?_
    refine .loop ?_
    refine LGo.loopG (σ := Nat) (fun x => x ≤ runLen (l.getD i 0) (l.drop (i + 1))) (fun x => [(8, (true, .i ((i + x : Nat) : Nat)))]) (fun x => [(0, .bx 83 [adr acc, .v undef] 1 5 1 (bytesC acc))]) (fun x => l.length - (i + x)) (0) [(0, _), (4, _), (5, _), (9, _), (45, _), (46, _)] (Nat.zero_le _) (by repeat (first | exact trivial | refine ⟨rfl, ?_⟩)) (by repeat (first | exact trivial | refine ⟨rfl, ?_⟩)) (by repeat (first | exact trivial | refine ⟨rfl, ?_⟩)) ?_
    rintro d hdr ih3
    have hb1 := hrng (i + d)
    have hb2 := hrng (i + d + 1)
    have hst := hstp d hdr
    rw [show i + (d + 1) = i + d + 1 from by omega] at hst
    refine .seq ?_
    refine .seq ?_
    refine .region rfl ?_
    refine R.move (h := ?_)
    first | refine R.add (h := ?_) | refine R.addW (h := ?_)
    refine R.move (h := ?_)
    first | refine R.len S65 (h := ?_) | refine R.lenRs S65 (h := ?_) | refine R.lenV (run_lenNil S65) (h := ?_)
    rw [ic_len]
    refine R.bin (run_lss _ _ _ _ _ _) (h := ?_)
    refine R.move (h := ?_)
    refine R.move (h := ?_)
    refine R.move (h := ?_)
    first | refine R.add (h := ?_) | refine R.addW (h := ?_)
    refine R.index I65 (e := [.val (.int .i64 (l.getD (i + d + 1) 0))]) (hj := fun hg => ⟨by omega, by rw [show Int.toNat (((i + d : Nat) : Int) + 1) = i + d + 1 from by omega]; exact icD (by simp at hg; omega)⟩) (h := ?_)
    first | refine R.loadB O3 (h := ?_) | refine R.load1 O3 (h := ?_)
    refine R.move (h := ?_)
    refine R.move (h := ?_)
    refine R.index I65 (e := [.val (.int .i64 (l.getD (i + d) 0))]) (hj := fun hg => ⟨by omega, by rw [Int.toNat_natCast]; exact icD (by omega)⟩) (h := ?_)
    first | refine R.loadB O3 (h := ?_) | refine R.load1 O3 (h := ?_)
    first | refine R.add (h := ?_) | refine R.addW (h := ?_)
    refine R.bin (run_eql _ _ _ _ _ _) (h := ?_)
    refine R.and (h := ?_)
    refine Reg.nil ⟨fun _ => ⟨mixedO, by rfl, by rfl⟩, ?_⟩
    refine LGo.ifb (ht := fun hc6 => ?_) (hf := fun hc6 => ?_)
    ·
     have hd1 : d + 1 ≤ runLen (l.getD i 0) (l.drop (i + 1)) := by rw [hst]; simp only [Bool.or_eq_true, Bool.and_eq_true, decide_eq_true_eq, Bool.or_eq_false_iff, Bool.and_eq_false_iff, decide_eq_false_iff_not, Bool.not_eq_true', Bool.not_eq_false', Bool.not_eq_true, Bool.not_eq_false, Bool.false_eq_true, Bool.true_eq_false, iff_true, true_iff, iff_false, false_iff] at hc6; omega
     refine .skip ?_
     refine .block ?_
     refine .region rfl ?_
     refine R.move (h := ?_)
     first | refine R.add (h := ?_) | refine R.addW (h := ?_)
     refine R.assign (h := ?_)
     refine .n0 ?_
     refine .inBlock ?_
     refine .inLoop ?_
     rw [show ((i + d : Nat) : Int) + 1 = ((i + (d + 1) : Nat) : Int) from by omega]
     exact LGo.next _ (fun o h => by have := (hA o).1 h; omega) (by omega) (ih3 (d + 1) hd1 (by omega)) (by repeat (first | exact trivial | refine ⟨rfl, ?_⟩)) ⟨rfl, trivial⟩ (hLl := by cases acc <;> rfl)
    ·
     have hde : d = runLen (l.getD i 0) (l.drop (i + 1)) := by
       by_cases h : d + 1 ≤ runLen (l.getD i 0) (l.drop (i + 1))
       · have h2 := hst.1 h
         simp only [Bool.or_eq_true, Bool.and_eq_true, decide_eq_true_eq, Bool.or_eq_false_iff, Bool.and_eq_false_iff, decide_eq_false_iff_not, Bool.not_eq_true', Bool.not_eq_false', Bool.not_eq_true, Bool.not_eq_false, Bool.false_eq_true, Bool.true_eq_false, iff_true, true_iff, iff_false, false_iff] at hc6
         omega
       · omega
     rw [← hde] at hq hrl
     rw [List.drop_drop] at hq
     have had := hat d hdr
     have hi1 := itoa_10 hra.1 hra.2
     have hi2 := itoa_10 (n := l.getD i 0 + d) (by omega) (by omega)
     have hin := itoa_ne (l.getD i 0)
     clear hst hstp hat
     refine .exit rfl ?_
     refine .seq ?_
     refine .seq ?_
     refine .region rfl ?_
     rcases acc with _ | ⟨c0, acc⟩
     ·
      refine R.callX (es := [_]) [0] (bl0) (h := ?_)
      refine R.bin (run_gtr _ _ _ _ _ _) (h := ?_)
      refine .n0 ?_
      refine LGo.ifb (ht := fun hc7 => by simp at hc7) (hf := fun hc7 => ?_)
      refine .skip ?_
      refine .seq ?_
      refine .region rfl ?_
      refine R.move (h := ?_)
      refine R.callP (es := [_]) (fun _ => itoa_P (l.getD i 0) (by omega) (by omega)) (h := ?_)
      refine R.callX (es := [_, _]) [0] (ws0 (Lib.itoa (l.getD i 0)) (by omega)) (h := ?_)
      refine .n0 ?_
      refine .seq ?_
      refine .region rfl ?_
      refine R.move (h := ?_)
      refine R.move (h := ?_)
      refine R.index I65 (e := [.val (.int .i64 (l.getD (i + d) 0))]) (hj := fun hg => ⟨by omega, by rw [Int.toNat_natCast]; exact icD (by omega)⟩) (h := ?_)
      rw [had]
      first | refine R.loadB O3 (h := ?_) | refine R.load1 O3 (h := ?_)
      refine R.move (h := ?_)
      refine R.bin (run_gtr _ _ _ _ _ _) (h := ?_)
      refine .n0 ?_
      refine LGo.ifd (ht := fun hc8 => ?_) (hf := fun hc8 => ?_)
      ·
       have hpos : 0 < d := by omega
       refine .region rfl ?_
       refine R.move (h := ?_)
       refine R.move (h := ?_)
       refine R.index I65 (e := [.val (.int .i64 (l.getD (i + d) 0))]) (hj := fun hg => ⟨by omega, by rw [Int.toNat_natCast]; exact icD (by omega)⟩) (h := ?_)
       rw [had]
       first | refine R.loadB O3 (h := ?_) | refine R.load1 O3 (h := ?_)
       refine R.callP (es := [_]) (fun _ => itoa_P (l.getD i 0 + d) (by omega) (by omega)) (h := ?_)
       refine R.bin (run_addT _ _ _ [45] (Lib.itoa (l.getD i 0 + d)) (by first | omega | (simp only [List.length_cons, List.length_nil]; omega))) (h := ?_)
       refine R.callX (es := [_, _]) [0] (ws1 (Lib.itoa (l.getD i 0)) (by omega) ([45] ++ Lib.itoa (l.getD i 0 + d)) (by first | omega | (simp only [List.length_append, List.length_cons, List.length_nil] at *; omega))) (h := ?_)
       refine .n0 ?_
       refine .inBlock ?_
       refine .region rfl ?_
       refine R.move (h := ?_)
       first | refine R.add (h := ?_) | refine R.addW (h := ?_)
       refine R.assign (h := ?_)
       refine .n0 ?_
       refine .inLoop ?_
       have hnx : (Lib.itoa (l.getD i 0) ++ ([45] ++ Lib.itoa (l.getD i 0 + d))) ≠ [] := by first | exact hin | simp
       rw [show ((i + d : Nat) : Int) + 1 = ((i + d + 1 : Nat) : Int) from by omega]
       exact LGo.next _ (fun o h => by have := (hA o).1 h; omega) (by omega) (ih2 (i + d + 1, Lib.itoa (l.getD i 0) ++ ([45] ++ Lib.itoa (l.getD i 0 + d)), f) ⟨by dsimp only; omega, by dsimp only; omega, by dsimp only; simp only [List.length_append, List.length_cons, List.length_nil] at *; omega, fun _ => hnx, by dsimp only; rw [← hq, show i + d + 1 = i + 1 + d from by omega]; simp only [sepL, runTxt, hpos]; simp⟩ (by dsimp only; omega)) (by repeat (first | exact trivial | refine ⟨rfl, ?_⟩)) ⟨by dsimp only; rw [adr_ne hnx]; rfl, trivial⟩ (hLl := by dsimp only; rw [adr_ne hnx]; rfl)
      ·
       have hpos : ¬ 0 < d := by omega
       refine .skip ?_
       refine .inBlock ?_
       refine .region rfl ?_
       refine R.move (h := ?_)
       first | refine R.add (h := ?_) | refine R.addW (h := ?_)
       refine R.assign (h := ?_)
       refine .n0 ?_
       refine .inLoop ?_
       have hnx : (Lib.itoa (l.getD i 0)) ≠ [] := by first | exact hin | simp
       rw [show ((i + d : Nat) : Int) + 1 = ((i + d + 1 : Nat) : Int) from by omega]
       exact LGo.next _ (fun o h => by have := (hA o).1 h; omega) (by omega) (ih2 (i + d + 1, Lib.itoa (l.getD i 0), f) ⟨by dsimp only; omega, by dsimp only; omega, by dsimp only; simp only [List.length_append, List.length_cons, List.length_nil] at *; omega, fun _ => hnx, by dsimp only; rw [← hq, show i + d + 1 = i + 1 + d from by omega]; simp only [sepL, runTxt, hpos]; simp⟩ (by dsimp only; omega)) (by repeat (first | exact trivial | refine ⟨rfl, ?_⟩)) ⟨by dsimp only; rw [adr_ne hnx]; rfl, trivial⟩ (hLl := by dsimp only; rw [adr_ne hnx]; rfl)
     ·
      refine R.callX (es := [_]) [0] (bl1 (c0 :: acc)) (h := ?_)
      refine R.bin (run_gtr _ _ _ _ _ _) (h := ?_)
      refine .n0 ?_
      refine LGo.ifb (ht := fun hc9 => ?_) (hf := fun hc9 => by simp at hc9)
      refine .region rfl ?_
      refine R.callX (es := [_, _]) [0] (wb1 (c0 :: acc) (by omega) 44) (h := ?_)
      refine .n0 ?_
      refine .seq ?_
      refine .region rfl ?_
      refine R.move (h := ?_)
      refine R.callP (es := [_]) (fun _ => itoa_P (l.getD i 0) (by omega) (by omega)) (h := ?_)
      refine R.callX (es := [_, _]) [0] (ws1 ((c0 :: acc) ++ [44]) (by first | omega | (simp only [List.length_append, List.length_cons, List.length_nil] at *; omega)) (Lib.itoa (l.getD i 0)) (by omega)) (h := ?_)
      refine .n0 ?_
      refine .seq ?_
      refine .region rfl ?_
      refine R.move (h := ?_)
      refine R.move (h := ?_)
      refine R.index I65 (e := [.val (.int .i64 (l.getD (i + d) 0))]) (hj := fun hg => ⟨by omega, by rw [Int.toNat_natCast]; exact icD (by omega)⟩) (h := ?_)
      rw [had]
      first | refine R.loadB O3 (h := ?_) | refine R.load1 O3 (h := ?_)
      refine R.move (h := ?_)
      refine R.bin (run_gtr _ _ _ _ _ _) (h := ?_)
      refine .n0 ?_
      refine LGo.ifd (ht := fun hc10 => ?_) (hf := fun hc10 => ?_)
      ·
       have hpos : 0 < d := by omega
       refine .region rfl ?_
       refine R.move (h := ?_)
       refine R.move (h := ?_)
       refine R.index I65 (e := [.val (.int .i64 (l.getD (i + d) 0))]) (hj := fun hg => ⟨by omega, by rw [Int.toNat_natCast]; exact icD (by omega)⟩) (h := ?_)
       rw [had]
       first | refine R.loadB O3 (h := ?_) | refine R.load1 O3 (h := ?_)
       refine R.callP (es := [_]) (fun _ => itoa_P (l.getD i 0 + d) (by omega) (by omega)) (h := ?_)
       refine R.bin (run_addT _ _ _ [45] (Lib.itoa (l.getD i 0 + d)) (by first | omega | (simp only [List.length_cons, List.length_nil]; omega))) (h := ?_)
       refine R.callX (es := [_, _]) [0] (ws1 ((c0 :: acc) ++ [44] ++ Lib.itoa (l.getD i 0)) (by first | omega | (simp only [List.length_append, List.length_cons, List.length_nil] at *; omega)) ([45] ++ Lib.itoa (l.getD i 0 + d)) (by first | omega | (simp only [List.length_append, List.length_cons, List.length_nil] at *; omega))) (h := ?_)
       refine .n0 ?_
       refine .inBlock ?_
       refine .region rfl ?_
       refine R.move (h := ?_)
       first | refine R.add (h := ?_) | refine R.addW (h := ?_)
       refine R.assign (h := ?_)
       refine .n0 ?_
       refine .inLoop ?_
       have hnx : ((c0 :: acc) ++ [44] ++ Lib.itoa (l.getD i 0) ++ ([45] ++ Lib.itoa (l.getD i 0 + d))) ≠ [] := by first | exact hin | simp
       rw [show ((i + d : Nat) : Int) + 1 = ((i + d + 1 : Nat) : Int) from by omega]
       exact LGo.next _ (fun o h => by have := (hA o).1 h; omega) (by omega) (ih2 (i + d + 1, (c0 :: acc) ++ [44] ++ Lib.itoa (l.getD i 0) ++ ([45] ++ Lib.itoa (l.getD i 0 + d)), f) ⟨by dsimp only; omega, by dsimp only; omega, by dsimp only; simp only [List.length_append, List.length_cons, List.length_nil] at *; omega, fun _ => hnx, by dsimp only; rw [← hq, show i + d + 1 = i + 1 + d from by omega]; simp only [sepL, runTxt, hpos]; simp⟩ (by dsimp only; omega)) (by repeat (first | exact trivial | refine ⟨rfl, ?_⟩)) ⟨by dsimp only; rw [adr_ne hnx]; rfl, trivial⟩ (hLl := by dsimp only; rw [adr_ne hnx]; rfl)
      ·
       have hpos : ¬ 0 < d := by omega
       refine .skip ?_
       refine .inBlock ?_
       refine .region rfl ?_
       refine R.move (h := ?_)
       first | refine R.add (h := ?_) | refine R.addW (h := ?_)
       refine R.assign (h := ?_)
       refine .n0 ?_
       refine .inLoop ?_
       have hnx : ((c0 :: acc) ++ [44] ++ Lib.itoa (l.getD i 0)) ≠ [] := by first | exact hin | simp
       rw [show ((i + d : Nat) : Int) + 1 = ((i + d + 1 : Nat) : Int) from by omega]
       exact LGo.next _ (fun o h => by have := (hA o).1 h; omega) (by omega) (ih2 (i + d + 1, (c0 :: acc) ++ [44] ++ Lib.itoa (l.getD i 0), f) ⟨by dsimp only; omega, by dsimp only; omega, by dsimp only; simp only [List.length_append, List.length_cons, List.length_nil] at *; omega, fun _ => hnx, by dsimp only; rw [← hq, show i + d + 1 = i + 1 + d from by omega]; simp only [sepL, runTxt, hpos]; simp⟩ (by dsimp only; omega)) (by repeat (first | exact trivial | refine ⟨rfl, ?_⟩)) ⟨by dsimp only; rw [adr_ne hnx]; rfl, trivial⟩ (hLl := by dsimp only; rw [adr_ne hnx]; rfl)
   ·
    refine .exit rfl ?_
    refine .seq ?_
    refine .block ?_
    refine .seq ?_
    refine .region rfl ?_
    refine R.move (h := ?_)
    refine R.bin (run_neq _ _ _ _ _ _) (h := ?_)
    refine R.assign (h := ?_)
    refine .n0 ?_
    first | refine LGo.ifd (ht := fun hc11 => ?_) (hf := fun hc11 => ?_) | refine LGo.ifb (ht := fun hc11 => ?_) (hf := fun hc11 => ?_)
    ·
     have hde : descK l l.length = true := by
       by_cases h : descK l l.length = true
       · exact h
       · rw [if_neg h] at he; subst he; simp at hc11
     rw [if_pos hde] at e1 he
     subst he
     rw [← e1]
     refine .seq ?_
     refine .region rfl ?_
     refine R.move (h := ?_)
     refine R.assign (h := ?_)
     refine R.assign (h := ?_)
     refine .n0 ?_
     exact LGo.ret (ret_TT Tryz.results114 hA hmd)
    ·
     have hde : ¬ descK l l.length = true := by
       intro h; rw [if_pos h] at he; subst he; simp at hc11
     rw [if_neg hde] at e1 he
     subst he
     have hil : i = l.length := by simp at hc5; omega
     refine .seq ?_
     refine .region rfl ?_
     refine R.move (h := ?_)
     first | refine R.len S65 (h := ?_) | refine R.lenRs S65 (h := ?_) | refine R.lenV (run_lenNil S65) (h := ?_)
     rw [ic_len]
     refine R.bin (run_eql _ _ _ _ _ _) (h := ?_)
     refine R.assign (h := ?_)
     refine .n0 ?_
     first | refine LGo.ifd (ht := fun hc12 => ?_) (hf := fun hc12 => ?_) | refine LGo.ifb (ht := fun hc12 => ?_) (hf := fun hc12 => ?_)
     ·
      rw [if_pos (List.eq_nil_of_length_eq_zero (by omega))] at e1
      rw [← e1]
      refine .seq ?_
      refine .region rfl ?_
      refine R.assign (h := ?_)
      refine R.assign (h := ?_)
      refine .n0 ?_
      exact LGo.ret (ret_TT Tryz.results114 hA hmd)
     ·
      rw [if_neg (by intro h; rw [h] at hc12; simp at hc12)] at e1
      have hne2 := hne (by omega)
      rw [List.drop_of_length_le (by omega)] at hq
      obtain ⟨f, rfl⟩ : ∃ g, f = g + 1 := ⟨f - 1, by omega⟩
      rw [← hq] at e1
      rw [← e1]
      rcases acc with _ | ⟨c0, acc⟩
      · exact absurd rfl hne2
      have hal1 : (c0 :: acc).length ≤ 1000000 := by omega
      refine .skip ?_
      refine .inBlock ?_
      refine .seq ?_
      refine .region rfl ?_
      refine R.callX (es := [_]) [0] (bs1 (c0 :: acc) hne2 hal1) (h := ?_)
      refine R.assign (h := ?_)
      refine R.assign (h := ?_)
      refine .n0 ?_
      exact LGo.ret (ret_TT Tryz.results114 hA hmd)
def lineG (g : GtG) : List UInt8 := [103, 97, 116, 101, 32] ++ Lib.itoa g.fr ++ [32] ++ Lib.itoa g.to ++ [32] ++ (listW g.secs).1 ++ [10]
def numsE (x : GtE) : List Int := [x.key.1, x.key.2.1, x.key.2.2, x.gate, x.time]
def spN (n : Int) : List UInt8 := [32] ++ Lib.decDigits n.toNat
def lineE (x : GtE) : List UInt8 := [105, 110] ++ ((numsE x).map spN).flatten ++ [10]
def printG (s : GtS) : List UInt8 := (s.gates.map lineG).flatten ++ (s.ents.map lineE).flatten
def adr1 : List UInt8 → LV
  | [] => .v (.pointer none)
  | _ :: _ => .ptr 1 0
theorem itoa_20 {n : Int} (h : S64 n) : (Lib.itoa n).length ≤ 22 := by
  unfold S64 at h
  unfold Lib.itoa
  split
  · have := decD_le 20 n.natAbs (by omega)
    simp only [List.length_cons]; omega
  · have := decD_le 20 n.toNat (by omega)
    omega
theorem dec_20 {n : Int} (h : 0 ≤ n ∧ n < 18446744073709551616) : (Lib.decDigits n.toNat).length ≤ 21 := decD_le 20 n.toNat (by omega)
theorem print_P (s : GtS) (hs : SmS s) (hc0 : checkGS s = 0) (hr : ∀ g ∈ s.gates, S64 g.fr ∧ S64 g.to ∧ (∀ n ∈ g.secs, S64 n) ∧ (listW g.secs).1.length ≤ 1000) (hg8 : s.gates.length ≤ 8) (h0 : 0 < s.gates.length) (he : ∀ x ∈ s.ents, U64 x.serial ∧ U64 x.epoch ∧ 0 ≤ x.gate ∧ S64 x.gate ∧ 0 ≤ x.time ∧ S64 x.time) (h5 : s.ents.length ≤ 500) :
    PC Tryz.prog 49 [.agg (s.c.map LV.sv)] (.tup [.t (printG s), .i 0]) := by
 refine ⟨LC.of_go Tryz.func49 (c := _) rfl (by kernel_rfl) (by rw [Tryz.ntmps49]; simp) rfl rfl (by simp [LO.lt, LV.lts, LV.lt, lts_sv]) (by simp) ?_⟩
 intro B hA hmd
 obtain ⟨⟨hg1, hg2⟩, he1, he2⟩ := id hs
 obtain ⟨F1, hF1⟩ : ∃ F, (s.gates.map lineG).flatten = F := ⟨_, rfl⟩
 obtain ⟨F2, hF2⟩ : ∃ F, printG s = F := ⟨_, rfl⟩
 rw [hF2]
 unfold printG at hF2
 rw [hF1] at hF2
 refine .seq ?_
 refine .region rfl ?_
 refine R.box (h := ?_)
 refine R.assign (h := ?_)
 refine R.assign (h := ?_)
 refine .n0 ?_
 refine .seq ?_
 refine .seq ?_
 refine .region rfl ?_
 first | refine R.loadA A99 (h := ?_) | refine R.loadN A99 (h := ?_) | refine R.loadP A99 (h := ?_)
 refine R.callP (es := [_]) (fun _ => checkGS_P s hs) (h := ?_)
 rw [hc0]
 refine R.assign (h := ?_)
 refine .n0 ?_
 refine .seq ?_
 refine .region rfl ?_
 refine R.move (h := ?_)
 refine R.bin (run_neq _ _ _ _ _ _) (h := ?_)
 refine .n0 ?_
 refine LGo.ifb (ht := fun hc => by simp at hc) (hf := fun hc => ?_)
 refine .skip ?_
 refine .seq ?_
 refine .region rfl ?_
 refine R.alloc Z83 (h := ?_)
 refine .n0 ?_
 refine .seq ?_
 refine .seq ?_
 refine .region rfl ?_
 first | refine R.field F99_0 (h := ?_) | refine R.fieldAt F99_0 (h := ?_)
 first | refine R.loadB O25 (h := ?_) | refine R.load1 O25 (h := ?_)
 first | refine R.len S25 (h := ?_) | refine R.lenRs S25 (h := ?_) | refine R.lenV (run_lenNil S25) (h := ?_)
 rw [List.length_map]
 refine R.move (h := ?_)
 refine .n0 ?_
 refine .block ?_
 refine .loop ?_
 refine LGo.packNil 1 1 5 1 (h := ?_)
 refine LGo.loopG (σ := Nat × List UInt8) (fun x => x.1 ≤ s.gates.length ∧ x.2.length ≤ 2000 * x.1 ∧ (0 < x.1 → x.2 ≠ []) ∧ x.2 ++ ((s.gates.drop x.1).map lineG).flatten = F1) (fun x => [(23, (true, .i (x.1 : Nat)))]) (fun x => [(0, .box 99 (s.c.map LV.sv)), (1, .bx 83 [adr1 x.2, .v undef] 1 5 1 (bytesC x.2))]) (fun x => s.gates.length - x.1) (0, []) [(1, _), (5, _), (21, _), (22, _)] ⟨Nat.zero_le _, Nat.zero_le _, fun h => absurd h (Nat.lt_irrefl _), hF1⟩ (by repeat (first | exact trivial | refine ⟨rfl, ?_⟩)) (by repeat (first | exact trivial | refine ⟨rfl, ?_⟩)) (by repeat (first | exact trivial | refine ⟨rfl, ?_⟩)) ?_
 rintro ⟨k, acc⟩ ⟨hk, hal, hne, hq⟩ ih
 dsimp only at * 
 refine .seq ?_
 refine .region rfl ?_
 refine R.bin (run_lss _ _ _ _ _ _) (h := ?_)
 refine .n0 ?_
 refine .seq ?_
 refine LGo.ifd (ht := fun hc2 => ?_) (hf := fun hc2 => ?_)
 ·
  have hlt : k < s.gates.length := by omega
  have hx : (s.gates.map GtG.c)[((k : Nat) : Int).toNat]? = some s.gates[k].c := by simp [hlt]
  have hd : s.gates.drop k = s.gates[k] :: s.gates.drop (k + 1) := List.drop_eq_getElem_cons hlt
  have hzr := hr s.gates[k] (List.getElem_mem hlt)
  have hzl := hg2 s.gates[k] (List.getElem_mem hlt)
  rw [hd, List.map_cons, List.flatten_cons] at hq
  generalize s.gates[k] = z at hx hq hzr hzl
  clear hd
  obtain ⟨hz1, hz2, hz3, hz4⟩ := hzr
  have hd1 := itoa_20 hz1
  have hd2 := itoa_20 hz2
  rw [show lineG z = [103, 97, 116, 101, 32] ++ Lib.itoa z.fr ++ [32] ++ Lib.itoa z.to ++ [32] ++ (listW z.secs).1 ++ [10] from rfl] at hq
  unfold S64 at hz1 hz2
  refine .skip ?_
  refine .seq ?_
  refine .block ?_
  refine .seq ?_
  refine .region rfl ?_
  refine R.index I25 (hj := fun hg => ⟨by omega, hx⟩) (h := ?_)
  first | refine R.loadA A71 (h := ?_) | refine R.loadN A71 (h := ?_) | refine R.loadP A71 (h := ?_)
  refine R.alloc Z71 (h := ?_)
  refine R.storeA A71 (h := ?_)
  refine .n0 ?_
  refine .seq ?_
  refine .region rfl ?_
  first | refine R.field F71_0 (h := ?_) | refine R.fieldAt F71_0 (h := ?_)
  first | refine R.loadB O65 (h := ?_) | refine R.load1 O65 (h := ?_)
  refine R.callP (es := [_]) (fun _ => list_P z.secs hzl hz3) (h := ?_)
  generalize (listW z.secs).1 = ls at hq hz4 ⊢
  refine R.move (h := ?_)
  refine R.extract (h := ?_)
  refine R.extract (h := ?_)
  refine R.assign (h := ?_)
  refine R.assign (h := ?_)
  refine .n0 ?_
  refine .region rfl ?_
  first | refine R.field F71_1 (h := ?_) | refine R.fieldAt F71_1 (h := ?_)
  first | refine R.loadB O2 (h := ?_) | refine R.load1 O2 (h := ?_)
  refine R.callP (es := [_]) (fun _ => digitsW_P z.fr (by omega) (by omega)) (h := ?_)
  generalize Lib.itoa z.fr = d1 at hq hd1 ⊢
  refine R.bin (run_addT _ _ _ ([103, 97, 116, 101, 32]) (d1) (by first | omega | (simp only [List.length_append, List.length_cons, List.length_nil] at *; omega))) (h := ?_)
  refine R.bin (run_addT _ _ _ ([103, 97, 116, 101, 32] ++ d1) ([32]) (by first | omega | (simp only [List.length_append, List.length_cons, List.length_nil] at *; omega))) (h := ?_)
  first | refine R.field F71_2 (h := ?_) | refine R.fieldAt F71_2 (h := ?_)
  first | refine R.loadB O2 (h := ?_) | refine R.load1 O2 (h := ?_)
  refine R.callP (es := [_]) (fun _ => digitsW_P z.to (by omega) (by omega)) (h := ?_)
  generalize Lib.itoa z.to = d2 at hq hd2 ⊢
  refine R.bin (run_addT _ _ _ ([103, 97, 116, 101, 32] ++ d1 ++ [32]) (d2) (by first | omega | (simp only [List.length_append, List.length_cons, List.length_nil] at *; omega))) (h := ?_)
  refine R.bin (run_addT _ _ _ ([103, 97, 116, 101, 32] ++ d1 ++ [32] ++ d2) ([32]) (by first | omega | (simp only [List.length_append, List.length_cons, List.length_nil] at *; omega))) (h := ?_)
  refine R.move (h := ?_)
  refine R.bin (run_addT _ _ _ ([103, 97, 116, 101, 32] ++ d1 ++ [32] ++ d2 ++ [32]) (ls) (by first | omega | (simp only [List.length_append, List.length_cons, List.length_nil] at *; omega))) (h := ?_)
  refine R.bin (run_addT _ _ _ ([103, 97, 116, 101, 32] ++ d1 ++ [32] ++ d2 ++ [32] ++ ls) ([10]) (by first | omega | (simp only [List.length_append, List.length_cons, List.length_nil] at *; omega))) (h := ?_)
  obtain ⟨ln, hln⟩ : ∃ ln, [103, 97, 116, 101, 32] ++ d1 ++ [32] ++ d2 ++ [32] ++ ls ++ [10] = ln := ⟨_, rfl⟩
  have hll : ln.length ≤ 1100 := by rw [← hln]; simp only [List.length_append, List.length_cons, List.length_nil]; omega
  have hl0 : ln ≠ [] := by rw [← hln]; simp
  rw [hln] at hq ⊢
  rcases acc with _ | ⟨c0, acc⟩
  ·
   refine R.callX (es := [_, _]) [1] (ws0 ln (by omega)) (h := ?_)
   refine Reg.nil ⟨fun _ => ⟨mixedO, by rfl, by rfl⟩, ?_⟩
   refine .inBlock ?_
   refine .region rfl ?_
   first | refine R.add (h := ?_) | refine R.addW (h := ?_)
   refine R.move (h := ?_)
   refine .n0 ?_
   refine .inLoop ?_
   exact LGo.next _ (fun o h => by have := (hA o).1 h; omega) (by omega) (ih (k + 1, ln) ⟨by dsimp only; omega, by dsimp only; omega, fun _ => hl0, by dsimp only; rw [← hq]; simp⟩ (by dsimp only; omega)) (by repeat (first | exact trivial | refine ⟨rfl, ?_⟩)) ⟨rfl, by dsimp only; cases ln with | nil => exact absurd rfl hl0 | cons a r => rfl, trivial⟩ (hLl := by dsimp only; cases ln with | nil => exact absurd rfl hl0 | cons a r => rfl)
  ·
   refine R.callX (es := [_, _]) [1] (ws1 (c0 :: acc) (by omega) ln (by omega)) (h := ?_)
   refine Reg.nil ⟨fun _ => ⟨mixedO, by rfl, by rfl⟩, ?_⟩
   refine .inBlock ?_
   refine .region rfl ?_
   first | refine R.add (h := ?_) | refine R.addW (h := ?_)
   refine R.move (h := ?_)
   refine .n0 ?_
   refine .inLoop ?_
   exact LGo.next _ (fun o h => by have := (hA o).1 h; omega) (by omega) (ih (k + 1, (c0 :: acc) ++ ln) ⟨by dsimp only; omega, by dsimp only; rw [List.length_append]; omega, fun _ => by simp, by dsimp only; rw [← hq]; simp⟩ (by dsimp only; omega)) (by repeat (first | exact trivial | refine ⟨rfl, ?_⟩)) ⟨rfl, rfl, trivial⟩
 ·
  rw [List.drop_eq_nil_of_le (show s.gates.length ≤ k by omega), List.map_nil, List.flatten_nil, List.append_nil] at hq
  have hne2 := hne (by omega)
  subst hq
  rcases acc with _ | ⟨c0, acc⟩
  · exact absurd rfl hne2
  rw [show adr1 (c0 :: acc) = .ptr 1 0 from rfl]
  generalize c0 :: acc = A at hal hF1 hF2 hne2 ⊢
  refine .exit rfl ?_
  refine .seq ?_
  refine .seq ?_
  refine .region rfl ?_
  first | refine R.field F99_1 (h := ?_) | refine R.fieldAt F99_1 (h := ?_)
  first | refine R.loadB O97 (h := ?_) | refine R.load1 O97 (h := ?_)
  first | refine R.len S97 (h := ?_) | refine R.lenRs S97 (h := ?_) | refine R.lenV (run_lenNil S97) (h := ?_)
  rw [List.length_map]
  refine R.move (h := ?_)
  refine .n0 ?_
  refine .block ?_
  refine .loop ?_
  refine LGo.loopG (σ := Nat × List UInt8) (fun x => x.1 ≤ s.ents.length ∧ x.2.length ≤ 16000 + 150 * x.1 ∧ x.2 ≠ [] ∧ x.2 ++ ((s.ents.drop x.1).map lineE).flatten = F2) (fun x => [(51, (true, .i (x.1 : Nat)))]) (fun x => [(0, .box 99 (s.c.map LV.sv)), (1, .bx 83 [.ptr 1 0, .v undef] 1 5 1 (bytesC x.2))]) (fun x => s.ents.length - x.1) (0, A) [(5, _), (49, _), (50, _)] ⟨Nat.zero_le _, by dsimp only; omega, hne2, hF2⟩ (by repeat (first | exact trivial | refine ⟨rfl, ?_⟩)) (by repeat (first | exact trivial | refine ⟨rfl, ?_⟩)) (by repeat (first | exact trivial | refine ⟨rfl, ?_⟩)) ?_
  rintro ⟨m, ac⟩ ⟨hm, hcl, hcn, hq2⟩ ih2
  dsimp only at * 
  refine .seq ?_
  refine .region rfl ?_
  refine R.bin (run_lss _ _ _ _ _ _) (h := ?_)
  refine .n0 ?_
  refine .seq ?_
  refine LGo.ifd (ht := fun hc3 => ?_) (hf := fun hc3 => ?_)
  ·
   have hlt : m < s.ents.length := by omega
   have hx : (s.ents.map GtE.c)[((m : Nat) : Int).toNat]? = some s.ents[m].c := by simp [hlt]
   have hd : s.ents.drop m = s.ents[m] :: s.ents.drop (m + 1) := List.drop_eq_getElem_cons hlt
   have hzr := he s.ents[m] (List.getElem_mem hlt)
   have hzu := he2 s.ents[m] (List.getElem_mem hlt)
   rw [hd, List.map_cons, List.flatten_cons] at hq2
   generalize s.ents[m] = z at hx hq2 hzr hzu
   clear hd
   obtain ⟨hz1, hz2, hz3, hz4, hz5, hz6⟩ := hzr
   obtain ⟨Z, hZ⟩ : ∃ Z, lineE z = Z := ⟨_, rfl⟩
   rw [hZ] at hq2
   unfold lineE at hZ
   have hnu : ∀ n ∈ numsE z, 0 ≤ n ∧ n < 18446744073709551616 := by
     intro n hn
     unfold S64 U64 U32 at *
     simp only [numsE, GtE.key, List.mem_cons, List.not_mem_nil, or_false] at hn
     rcases hn with rfl | rfl | rfl | rfl | rfl <;> omega
   have hnl : (numsE z).length = 5 := rfl
   unfold S64 at hz4 hz6
   refine .skip ?_
   refine .seq ?_
   refine .block ?_
   refine .seq ?_
   refine .region rfl ?_
   refine R.index I97 (hj := fun hg => ⟨by omega, hx⟩) (h := ?_)
   first | refine R.loadA A178 (h := ?_) | refine R.loadN A178 (h := ?_) | refine R.loadP A178 (h := ?_)
   refine R.alloc Z178 (h := ?_)
   refine R.storeA A178 (h := ?_)
   refine .n0 ?_
   refine .seq ?_
   refine .region rfl ?_
   first | refine R.loadA A178 (h := ?_) | refine R.loadN A178 (h := ?_) | refine R.loadP A178 (h := ?_)
   refine R.callP (es := [_]) (fun _ => keyOf_P z hzu) (h := ?_)
   refine R.alloc Z180 (h := ?_)
   refine R.storeA A180 (h := ?_)
   refine .n0 ?_
   refine .seq ?_
   refine .region rfl ?_
   refine R.callX (es := [_, _]) [1] (ws1 ac (by omega) [105, 110] (by decide)) (h := ?_)
   refine .n0 ?_
   refine .seq ?_
   refine .seq ?_
   refine .region rfl ?_
   refine R.indexArr I180 (hj := fun _ => ⟨by omega, by omega⟩) (h := ?_)
   first | refine R.loadB O41 (h := ?_) | refine R.load1 O41 (h := ?_)
   refine R.indexArr I180 (hj := fun _ => ⟨by omega, by omega⟩) (h := ?_)
   first | refine R.loadB O41 (h := ?_) | refine R.load1 O41 (h := ?_)
   refine R.indexArr I180 (hj := fun _ => ⟨by omega, by omega⟩) (h := ?_)
   first | refine R.loadB O41 (h := ?_) | refine R.load1 O41 (h := ?_)
   first | refine R.field F178_3 (h := ?_) | refine R.fieldAt F178_3 (h := ?_)
   first | refine R.loadB O3 (h := ?_) | refine R.load1 O3 (h := ?_)
   refine R.convI Tryz.runUnderlying3 Tryz.runUnderlying41 (h := ?_)
   first | refine R.field F178_4 (h := ?_) | refine R.fieldAt F178_4 (h := ?_)
   first | refine R.loadB O2 (h := ?_) | refine R.load1 O2 (h := ?_)
   refine R.convI Tryz.runUnderlying2 Tryz.runUnderlying41 (h := ?_)
   refine R.buildSliceF AP182 (ic .u64 (numsE z)) (xs := [_, _, _, _, _]) (es := [_, _, _, _, _]) (hcs := CellsOfs.cons (CellsOf.one rfl) (CellsOfs.cons (CellsOf.one rfl) (CellsOfs.cons (CellsOf.one rfl) (CellsOfs.cons (CellsOf.one rfl) (CellsOfs.cons (CellsOf.one rfl) CellsOfs.nil))))) (h := ?_)
   generalize numsE z = nu at hZ hnu hnl ⊢
   first | refine R.len S182 (h := ?_) | refine R.lenRs S182 (h := ?_) | refine R.lenV (run_lenNil S182) (h := ?_)
   rw [ic_len, hnl]
   refine R.move (h := ?_)
   refine .n0 ?_
   refine .block ?_
   refine .loop ?_
   refine LGo.loopG (σ := Nat × List UInt8) (fun x => x.1 ≤ 5 ∧ x.2.length ≤ ac.length + 2 + 24 * x.1 ∧ x.2 ≠ [] ∧ x.2 ++ ((nu.drop x.1).map spN).flatten ++ [10] = ac ++ Z) (fun x => [(72, (true, .i (x.1 : Nat)))]) (fun x => [(0, .box 99 (s.c.map LV.sv)), (1, .bx 83 [.ptr 1 0, .v undef] 1 5 1 (bytesC x.2))]) (fun x => 5 - x.1) (0, ac ++ [105, 110]) [(5, _), (49, _), (50, _), (51, _), (70, _), (71, _)] ⟨by dsimp only; omega, by dsimp only; rw [List.length_append]; exact Nat.le_refl _, by simp, by dsimp only; rw [← hZ]; simp⟩ (by repeat (first | exact trivial | refine ⟨rfl, ?_⟩)) (by repeat (first | exact trivial | refine ⟨rfl, ?_⟩)) (by repeat (first | exact trivial | refine ⟨rfl, ?_⟩)) ?_
   rintro ⟨j, ad⟩ ⟨hj, hdl, hdn, hq3⟩ ih3
   dsimp only at * 
   refine .seq ?_
   refine .region rfl ?_
   refine R.bin (run_lss _ _ _ _ _ _) (h := ?_)
   refine .n0 ?_
   refine .seq ?_
   refine LGo.ifd (ht := fun hc4 => ?_) (hf := fun hc4 => ?_)
   ·
    have hltj : j < nu.length := by omega
    have hx2 := icA' (q := .u64) hltj
    have hd : nu.drop j = nu[j] :: nu.drop (j + 1) := List.drop_eq_getElem_cons hltj
    have hn := hnu _ (List.getElem_mem hltj)
    rw [hd, List.map_cons, List.flatten_cons] at hq3
    generalize nu[j] = n at hx2 hq3 hn
    clear hd
    have hdc := dec_20 hn
    rw [show spN n = [32] ++ Lib.decDigits n.toNat from rfl] at hq3
    refine .skip ?_
    refine .seq ?_
    refine .block ?_
    refine .seq ?_
    refine .region rfl ?_
    refine R.index I182 (hj := fun hg => ⟨by omega, hx2⟩) (h := ?_)
    first | refine R.loadB O41 (h := ?_) | refine R.load1 O41 (h := ?_)
    refine R.assign (h := ?_)
    refine .n0 ?_
    refine .region rfl ?_
    refine R.move (h := ?_)
    refine R.callP (es := [_, _]) (fun _ => formatUint_P n hn.1 hn.2) (h := ?_)
    generalize Lib.decDigits n.toNat = dg at hq3 hdc ⊢
    refine R.bin (run_addT _ _ _ ([32]) (dg) (by first | omega | (simp only [List.length_append, List.length_cons, List.length_nil] at *; omega))) (h := ?_)
    refine R.callX (es := [_, _]) [1] (ws1 ad (by omega) ([32] ++ dg) (by first | omega | (simp only [List.length_append, List.length_cons, List.length_nil] at *; omega))) (h := ?_)
    refine .n0 ?_
    refine .inBlock ?_
    refine .region rfl ?_
    first | refine R.add (h := ?_) | refine R.addW (h := ?_)
    refine R.move (h := ?_)
    refine .n0 ?_
    refine .inLoop ?_
    exact LGo.next _ (fun o h => by have := (hA o).1 h; omega) (by omega) (ih3 (j + 1, ad ++ ([32] ++ dg)) ⟨by dsimp only; omega, by dsimp only; simp only [List.length_append, List.length_cons, List.length_nil]; omega, by simp, by dsimp only; rw [← hq3]; simp⟩ (by dsimp only; omega)) (by repeat (first | exact trivial | refine ⟨rfl, ?_⟩)) ⟨rfl, rfl, trivial⟩
   ·
    obtain rfl : j = 5 := by omega
    rw [List.drop_eq_nil_of_le (by omega), List.map_nil, List.flatten_nil, List.append_nil] at hq3
    refine .exit rfl ?_
    refine .region rfl ?_
    refine R.callX (es := [_, _]) [1] (ws1 ad (by omega) [10] (by decide)) (h := ?_)
    rw [hq3]
    refine .n0 ?_
    refine .inBlock ?_
    refine .region rfl ?_
    first | refine R.add (h := ?_) | refine R.addW (h := ?_)
    refine R.move (h := ?_)
    refine .n0 ?_
    refine .inLoop ?_
    exact LGo.next _ (fun o h => by have := (hA o).1 h; omega) (by omega) (ih2 (m + 1, ac ++ Z) ⟨by dsimp only; omega, by dsimp only; rw [← hq3, List.length_append, List.length_cons, List.length_nil]; omega, by rw [← hq3]; simp, by dsimp only; rw [← hq2]; simp⟩ (by dsimp only; omega)) (by repeat (first | exact trivial | refine ⟨rfl, ?_⟩)) ⟨rfl, rfl, trivial⟩
  ·
   rw [List.drop_eq_nil_of_le (show s.ents.length ≤ m by omega), List.map_nil, List.flatten_nil, List.append_nil] at hq2
   subst hq2
   refine .exit rfl ?_
   refine .seq ?_
   refine .region rfl ?_
   refine R.callX (es := [_]) [1] (bs1 ac hcn (by omega)) (h := ?_)
   refine R.assign (h := ?_)
   refine R.assign (h := ?_)
   refine .n0 ?_
   exact LGo.ret (ret_TT Tryz.results49 hA hmd)
def lnV (l : List (List UInt8)) : List UInt8 := Lib.join l [32] ++ [10]
def secV (x : VnS) : List UInt8 := lnV ([115, 101, 99, 116, 105, 111, 110] :: x.name :: Lib.itoa x.queue :: x.rows.map Lib.itoa)
def printV (v : Ven) : List UInt8 := lnV [[115, 104, 97, 114, 100, 115], Lib.itoa v.shards] ++ lnV [[116, 116, 108], Lib.itoa v.ttl] ++ lnV [[115, 101, 115, 115, 105, 111, 110], Lib.itoa v.session] ++ (v.secs.map secV).flatten
theorem join_bound (m : Nat) : ∀ l : List (List UInt8), (∀ x ∈ l, x.length ≤ m) → (Lib.join l [32]).length ≤ (m + 1) * l.length
  | [], _ => by simp [Lib.join_nil]
  | a :: l, h => by
    have h2 := h a (by simp)
    have h1 : ∀ l : List (List UInt8), (∀ x ∈ l, x.length ≤ m) → (Lib.joinTail [32] l).length ≤ (m + 1) * l.length := by
      intro l h
      induction l with
      | nil => simp [Lib.joinTail]
      | cons b l ih =>
        have := h b (by simp)
        have := ih (fun x hx => h x (by simp [hx]))
        rw [show Lib.joinTail [32] (b :: l) = ([32] ++ b) ++ Lib.joinTail [32] l from rfl]
        simp only [List.length_append, List.length_cons, List.length_nil, Nat.mul_add] at *
        omega
    have h1 := h1 l (fun x hx => h x (by simp [hx]))
    rw [Lib.join_cons]
    simp only [List.length_append, List.length_cons, Nat.mul_add] at *
    omega
theorem vpl0 (l : List (List UInt8)) (hl : l.length ≤ 10000) (hj : (Lib.join l [32]).length ≤ 90000) : LC Tryz.prog 109 1 [.sv (.sl 1 (strsC l)), .ptr 0 0] [(0, .bx 83 [.v (.pointer none), .v undef] 1 5 1 (bytesC []))] (.tup []) [(0, .bx 83 [.ptr 0 0, .v undef] 1 5 1 (bytesC (lnV l)))] 0 := by
 refine LC.of_go Tryz.func109 (c := _) rfl (by kernel_rfl) (by rw [Tryz.ntmps109]; simp) rfl rfl (by simp [LO.lt, LV.lts, LV.lt, lts_sv]) (by simp) ?_
 intro B hA hmd
 refine .region rfl ?_
 refine R.move (h := ?_)
 refine R.callP (es := [_, _]) (fun _ => PC.strJoin (Entr.of Tryz.func107 rfl (by kernel_rfl)) Tryz.strings_Join_none Tryz.strings_Join l [32] (by omega) (by omega)) (h := ?_)
 obtain ⟨jn, hjn⟩ : ∃ jn, Lib.join l [32] = jn := ⟨_, rfl⟩
 unfold lnV
 rw [hjn] at hj ⊢
 refine R.bin (run_addT _ _ _ jn [10] (by simp; omega)) (h := ?_)
 refine R.callX (es := [_, _]) [0] (ws0 (jn ++ [10]) (by simp; omega)) (h := ?_)
 refine .n0 ?_
 exact LGo.done (ret_0 Tryz.results109 hA hmd)
theorem vpl1 (acc : List UInt8) (ha : acc.length ≤ 90000) (l : List (List UInt8)) (hl : l.length ≤ 10000) (hj : (Lib.join l [32]).length ≤ 90000) : LC Tryz.prog 109 1 [.sv (.sl 1 (strsC l)), .ptr 0 0] [(0, .bx 83 [.ptr 0 0, .v undef] 1 5 1 (bytesC acc))] (.tup []) [(0, .bx 83 [.ptr 0 0, .v undef] 1 5 1 (bytesC (acc ++ lnV l)))] 0 := by
 refine LC.of_go Tryz.func109 (c := _) rfl (by kernel_rfl) (by rw [Tryz.ntmps109]; simp) rfl rfl (by simp [LO.lt, LV.lts, LV.lt, lts_sv]) (by simp) ?_
 intro B hA hmd
 refine .region rfl ?_
 refine R.move (h := ?_)
 refine R.callP (es := [_, _]) (fun _ => PC.strJoin (Entr.of Tryz.func107 rfl (by kernel_rfl)) Tryz.strings_Join_none Tryz.strings_Join l [32] (by omega) (by omega)) (h := ?_)
 obtain ⟨jn, hjn⟩ : ∃ jn, Lib.join l [32] = jn := ⟨_, rfl⟩
 unfold lnV
 rw [hjn] at hj ⊢
 refine R.bin (run_addT _ _ _ jn [10] (by simp; omega)) (h := ?_)
 refine R.callX (es := [_, _]) [0] (ws1 acc (by omega) (jn ++ [10]) (by simp; omega)) (h := ?_)
 refine .n0 ?_
 exact LGo.done (ret_0 Tryz.results109 hA hmd)
structure VenB (v : Ven) : Prop where
  n1 : S64 v.shards
  n2 : S64 v.ttl
  n3 : S64 v.session
  vl : v.secs.length ≤ 10
  vs : ∀ x ∈ v.secs, x.name.length ≤ 100 ∧ x.rows.length ≤ 20 ∧ (∀ n ∈ x.rows, S64 n) ∧ S64 x.queue
theorem itoas_len {l : List Int} (h : ∀ n ∈ l, S64 n) : ∀ x ∈ l.map Lib.itoa, x.length ≤ 22 := by
  intro x hx
  obtain ⟨n, hn, rfl⟩ := List.mem_map.1 hx
  exact itoa_20 (h n hn)
theorem lnV_len {m : Nat} {l : List (List UInt8)} (h : ∀ x ∈ l, x.length ≤ m) : (lnV l).length ≤ (m + 1) * l.length + 1 := by
  have := join_bound m l h
  unfold lnV
  rw [List.length_append]
  show _ + 1 ≤ _
  omega
theorem printV_P (v : Ven) (h0 : (checkVen v).2 = 0) (hv : VenB v) : PC Tryz.prog 45 [.agg (v.c.map LV.sv)] (.tup [.t (printV v), .i 0]) := by
 refine ⟨LC.of_go Tryz.func45 (c := _) rfl (by kernel_rfl) (by rw [Tryz.ntmps45]; simp) rfl rfl (by simp [LO.lt, LV.lts, LV.lt, lts_sv]) (by simp) ?_⟩
 intro B hA hmd
 obtain ⟨F, hF⟩ : ∃ F, printV v = F := ⟨_, rfl⟩
 rw [hF]
 unfold printV at hF
 have hF0 : F ≠ [] := by rw [← hF]; unfold lnV; simp
 obtain ⟨n1, n2, n3, vl, vs⟩ := id hv
 have d1 := itoa_20 n1
 have d2 := itoa_20 n2
 have d3 := itoa_20 n3
 unfold S64 at n1 n2 n3
 have hl1 := lnV_len (m := 22) (l := [[115, 104, 97, 114, 100, 115], Lib.itoa v.shards]) (by simp; omega)
 have hl2 := lnV_len (m := 22) (l := [[116, 116, 108], Lib.itoa v.ttl]) (by simp; omega)
 have hl3 := lnV_len (m := 22) (l := [[115, 101, 115, 115, 105, 111, 110], Lib.itoa v.session]) (by simp; omega)
 simp only [List.length_cons, List.length_nil] at hl1 hl2 hl3
 refine .seq ?_
 refine .region rfl ?_
 refine R.box (h := ?_)
 refine R.assign (h := ?_)
 refine R.assign (h := ?_)
 refine .n0 ?_
 refine .seq ?_
 refine .seq ?_
 refine .region rfl ?_
 first | refine R.loadA A24 (h := ?_) | refine R.loadN A24 (h := ?_) | refine R.loadP A24 (h := ?_)
 refine R.callP (es := [_]) (fun _ => checkVen_P v ⟨by omega, fun x hx => by have := (vs x hx).1; omega⟩) (h := ?_)
 refine R.move (h := ?_)
 refine R.extract (h := ?_)
 refine R.extract (h := ?_)
 rw [h0]
 refine R.assign (h := ?_)
 refine R.assign (h := ?_)
 refine .n0 ?_
 refine .seq ?_
 refine .region rfl ?_
 refine R.move (h := ?_)
 refine R.bin (run_neq _ _ _ _ _ _) (h := ?_)
 refine .n0 ?_
 refine LGo.ifb (ht := fun hc => by simp at hc) (hf := fun hc => ?_)
 refine .skip ?_
 refine .seq ?_
 refine .region rfl ?_
 refine R.alloc Z83 (h := ?_)
 refine .n0 ?_
 refine LGo.packNil 1 1 5 1 (h := ?_)
 refine .seq ?_
 refine .region rfl ?_
 refine R.makeFunc (es := []) (fs := [_]) (h := ?_)
 refine R.assign (h := ?_)
 refine .n0 ?_
 refine .seq ?_
 refine .region rfl ?_
 refine R.move (h := ?_)
 first | refine R.field F24_0 (h := ?_) | refine R.fieldAt F24_0 (h := ?_)
 first | refine R.loadB O3 (h := ?_) | refine R.load1 O3 (h := ?_)
 refine R.callP (es := [_]) (fun _ => itoa_P v.shards (by omega) (by omega)) (h := ?_)
 refine R.buildSliceF AP117 (strsC [[115, 104, 97, 114, 100, 115], Lib.itoa v.shards]) (xs := [_, _]) (es := [_, _]) (hcs := CellsOfs.cons (CellsOf.one rfl) (CellsOfs.cons (CellsOf.one rfl) CellsOfs.nil)) (h := ?_)
 refine R.callX (es := [_]) (first := []) (cap := [_]) [1] (vpl0 [[115, 104, 97, 114, 100, 115], Lib.itoa v.shards] (by simp) (by have := hl1; unfold lnV at this; rw [List.length_append] at this; omega)) (h := ?_)
 refine .n0 ?_
 generalize lnV [[115, 104, 97, 114, 100, 115], Lib.itoa v.shards] = L1 at hF hl1 ⊢
 refine .seq ?_
 refine .region rfl ?_
 refine R.move (h := ?_)
 first | refine R.field F24_1 (h := ?_) | refine R.fieldAt F24_1 (h := ?_)
 first | refine R.loadB O2 (h := ?_) | refine R.load1 O2 (h := ?_)
 refine R.callP (es := [_, _]) (fun _ => formatInt_P v.ttl (by omega) (by omega)) (h := ?_)
 refine R.buildSliceF AP117 (strsC [[116, 116, 108], Lib.itoa v.ttl]) (xs := [_, _]) (es := [_, _]) (hcs := CellsOfs.cons (CellsOf.one rfl) (CellsOfs.cons (CellsOf.one rfl) CellsOfs.nil)) (h := ?_)
 refine R.callX (es := [_]) (first := []) (cap := [_]) [1] (vpl1 L1 (by omega) [[116, 116, 108], Lib.itoa v.ttl] (by simp) (by have := hl2; unfold lnV at this; rw [List.length_append] at this; omega)) (h := ?_)
 refine .n0 ?_
 generalize lnV [[116, 116, 108], Lib.itoa v.ttl] = L2 at hF hl2 ⊢
 obtain ⟨M2, hM2⟩ : ∃ M, L1 ++ L2 = M := ⟨_, rfl⟩
 have hm2 : M2.length ≤ 100 := by rw [← hM2, List.length_append]; omega
 rw [hM2] at hF ⊢
 refine .seq ?_
 refine .region rfl ?_
 refine R.move (h := ?_)
 first | refine R.field F24_2 (h := ?_) | refine R.fieldAt F24_2 (h := ?_)
 first | refine R.loadB O2 (h := ?_) | refine R.load1 O2 (h := ?_)
 refine R.callP (es := [_, _]) (fun _ => formatInt_P v.session (by omega) (by omega)) (h := ?_)
 refine R.buildSliceF AP117 (strsC [[115, 101, 115, 115, 105, 111, 110], Lib.itoa v.session]) (xs := [_, _]) (es := [_, _]) (hcs := CellsOfs.cons (CellsOf.one rfl) (CellsOfs.cons (CellsOf.one rfl) CellsOfs.nil)) (h := ?_)
 refine R.callX (es := [_]) (first := []) (cap := [_]) [1] (vpl1 M2 (by omega) [[115, 101, 115, 115, 105, 111, 110], Lib.itoa v.session] (by simp) (by have := hl3; unfold lnV at this; rw [List.length_append] at this; omega)) (h := ?_)
 refine .n0 ?_
 generalize lnV [[115, 101, 115, 115, 105, 111, 110], Lib.itoa v.session] = L3 at hF hl3 ⊢
 obtain ⟨M3, hM3⟩ : ∃ M, M2 ++ L3 = M := ⟨_, rfl⟩
 have hm3 : M3.length ≤ 200 := by rw [← hM3, List.length_append]; omega
 rw [hM3] at hF ⊢
 refine .seq ?_
 refine .seq ?_
 refine .region rfl ?_
 first | refine R.field F24_3 (h := ?_) | refine R.fieldAt F24_3 (h := ?_)
 first | refine R.loadB O22 (h := ?_) | refine R.load1 O22 (h := ?_)
 first | refine R.len S22 (h := ?_) | refine R.lenRs S22 (h := ?_) | refine R.lenV (run_lenNil S22) (h := ?_)
 rw [List.length_map]
 refine R.move (h := ?_)
 refine .n0 ?_
 refine .block ?_
 refine .loop ?_
 refine LGo.loopG (σ := Nat × List UInt8) (fun x => x.1 ≤ v.secs.length ∧ x.2.length ≤ 200 + 3000 * x.1 ∧ x.2 ++ ((v.secs.drop x.1).map secV).flatten = F) (fun x => [(43, (true, .i (x.1 : Nat)))]) (fun x => [(0, .box 24 (v.c.map LV.sv)), (1, .bx 83 [.ptr 1 0, .v undef] 1 5 1 (bytesC x.2))]) (fun x => v.secs.length - x.1) (0, M3) [(6, _), (7, _), (41, _), (42, _)] ⟨Nat.zero_le _, by dsimp only; omega, hF⟩ (by repeat (first | exact trivial | refine ⟨rfl, ?_⟩)) (by repeat (first | exact trivial | refine ⟨rfl, ?_⟩)) (by repeat (first | exact trivial | refine ⟨rfl, ?_⟩)) ?_
 rintro ⟨k, acc⟩ ⟨hk, hal, hq⟩ ih
 dsimp only at * 
 refine .seq ?_
 refine .region rfl ?_
 refine R.bin (run_lss _ _ _ _ _ _) (h := ?_)
 refine .n0 ?_
 refine .seq ?_
 refine LGo.ifd (ht := fun hc2 => ?_) (hf := fun hc2 => ?_)
 ·
  have hlt : k < v.secs.length := by omega
  have hx : (v.secs.map VnS.c)[((k : Nat) : Int).toNat]? = some v.secs[k].c := by simp [hlt]
  have hd : v.secs.drop k = v.secs[k] :: v.secs.drop (k + 1) := List.drop_eq_getElem_cons hlt
  have hz := vs v.secs[k] (List.getElem_mem hlt)
  rw [hd, List.map_cons, List.flatten_cons] at hq
  generalize v.secs[k] = z at hx hq hz
  clear hd
  obtain ⟨hz1, hz2, hz3, hz4⟩ := hz
  have hdq := itoa_20 hz4
  have hdr := itoas_len hz3
  unfold S64 at hz4
  rw [show secV z = lnV ([[115, 101, 99, 116, 105, 111, 110], z.name, Lib.itoa z.queue] ++ z.rows.map Lib.itoa) from rfl] at hq
  refine .skip ?_
  refine .seq ?_
  refine .block ?_
  refine .seq ?_
  refine .region rfl ?_
  refine R.index I22 (hj := fun hg => ⟨by omega, hx⟩) (h := ?_)
  first | refine R.loadA A80 (h := ?_) | refine R.loadN A80 (h := ?_) | refine R.loadP A80 (h := ?_)
  refine R.alloc Z80 (h := ?_)
  refine R.storeA A80 (h := ?_)
  refine .n0 ?_
  refine .seq ?_
  refine .region rfl ?_
  first | refine R.field F80_0 (h := ?_) | refine R.fieldAt F80_0 (h := ?_)
  first | refine R.loadB O9 (h := ?_) | refine R.load1 O9 (h := ?_)
  first | refine R.field F80_2 (h := ?_) | refine R.fieldAt F80_2 (h := ?_)
  first | refine R.loadB O3 (h := ?_) | refine R.load1 O3 (h := ?_)
  refine R.callP (es := [_]) (fun _ => itoa_P z.queue (by omega) (by omega)) (h := ?_)
  refine R.buildSliceR AP117 (ys := strsC [[115, 101, 99, 116, 105, 111, 110], z.name, Lib.itoa z.queue]) (xs := [_, _, _]) (es := [_, _, _]) (hcs := CellsOfs.cons (CellsOf.one rfl) (CellsOfs.cons (CellsOf.one rfl) (CellsOfs.cons (CellsOf.one rfl) CellsOfs.nil))) (hys := rfl) (h := ?_)
  refine R.assign (h := ?_)
  refine Reg.nil ⟨fun _ => ⟨mixedO, by rfl, by rfl⟩, ?_⟩
  obtain ⟨P0, hP0⟩ : ∃ P, [[115, 101, 99, 116, 105, 111, 110], z.name, Lib.itoa z.queue] = P := ⟨_, rfl⟩
  have hpl : ∀ x ∈ P0, x.length ≤ 100 := by rw [← hP0]; simp; omega
  have hp3 : P0.length = 3 := by rw [← hP0]; rfl
  rw [hP0] at hq ⊢
  refine .seq ?_
  refine .seq ?_
  refine .region rfl ?_
  first | refine R.field F80_1 (h := ?_) | refine R.fieldAt F80_1 (h := ?_)
  first | refine R.loadB O65 (h := ?_) | refine R.load1 O65 (h := ?_)
  first | refine R.len S65 (h := ?_) | refine R.lenRs S65 (h := ?_) | refine R.lenV (run_lenNil S65) (h := ?_)
  rw [ic_len]
  refine R.move (h := ?_)
  refine .n0 ?_
  refine .block ?_
  refine .loop ?_
  rw [show strsC P0 = strsC (P0 ++ (z.rows.take 0).map Lib.itoa) from by simp]
  refine LGo.loopG (σ := Nat) (fun x => x ≤ z.rows.length) (fun x => [(56, (true, .i (x : Nat))), (10, (true, .ref 3))]) (fun x => [(0, .box 24 (v.c.map LV.sv)), (1, .bx 83 [.ptr 1 0, .v undef] 1 5 1 (bytesC acc)), (2, .box 80 (z.c.map LV.sv)), (3, .rs 9 1 (strsC (P0 ++ (z.rows.take x).map Lib.itoa)))]) (fun x => z.rows.length - x) (0) [(6, _), (7, _), (41, _), (42, _), (43, _), (54, _), (55, _)] (Nat.zero_le _) (by repeat (first | exact trivial | refine ⟨rfl, ?_⟩)) (by repeat (first | exact trivial | refine ⟨rfl, ?_⟩)) (by repeat (first | exact trivial | refine ⟨rfl, ?_⟩)) ?_
  rintro j hj ih2
  refine .seq ?_
  refine .region rfl ?_
  refine R.bin (run_lss _ _ _ _ _ _) (h := ?_)
  refine .n0 ?_
  refine .seq ?_
  refine LGo.ifd (ht := fun hc3 => ?_) (hf := fun hc3 => ?_)
  ·
   have hltj : j < z.rows.length := by omega
   have hx2 := icA (l := z.rows) hltj
   have hn := hz3 _ (List.getElem_mem hltj)
   have hst : strsC (P0 ++ (z.rows.take (j + 1)).map Lib.itoa) = strsC (P0 ++ (z.rows.take j).map Lib.itoa) ++ [[.val (.string ⟨(Lib.itoa z.rows[j]).toArray⟩)]] := by rw [List.take_succ_eq_append_getElem hltj, List.map_append, ← List.append_assoc]; exact strsC_snoc1 _ _
   have htl : (z.rows.take j).length ≤ 20 := by rw [List.length_take]; omega
   generalize z.rows[j] = n at hx2 hn hst
   unfold S64 at hn
   refine .skip ?_
   refine .seq ?_
   refine .block ?_
   refine .seq ?_
   refine .region rfl ?_
   refine R.index I65 (hj := fun hg => ⟨by omega, hx2⟩) (h := ?_)
   first | refine R.loadB O3 (h := ?_) | refine R.load1 O3 (h := ?_)
   refine R.assign (h := ?_)
   refine .n0 ?_
   refine .region rfl ?_
   refine R.move (h := ?_)
   refine R.move (h := ?_)
   refine R.callP (es := [_]) (fun _ => itoa_P n (by omega) (by omega)) (h := ?_)
   refine R.buildSliceG AP117 (xs := [_]) (es := [_]) (hcs := CellsOfs.cons (CellsOf.one rfl) CellsOfs.nil) (h := ?_)
   refine R.appendS AP117 (hs := SrcOk.sl Tryz.underlying117 (by simp)) (hlen := by rw [strsC_length]; simp; omega) (h := ?_)
   refine R.assign (h := ?_)
   refine .n0 ?_
   refine .inBlock ?_
   refine .region rfl ?_
   first | refine R.add (h := ?_) | refine R.addW (h := ?_)
   refine R.move (h := ?_)
   refine .n0 ?_
   refine .inLoop ?_
   exact LGo.turn [0, 1, 2, 4] (b := 0) (fun o h => by have := (hA o).1 h; omega) (ih2 (j + 1) (by omega) (by omega)) (by repeat (first | exact trivial | refine ⟨rfl, ?_⟩)) ⟨rfl, rfl, rfl, by rw [hst]; rfl, trivial⟩
  ·
   obtain rfl : j = z.rows.length := by omega
   rw [List.take_length]
   have hjb := join_bound 100 (P0 ++ z.rows.map Lib.itoa) (by intro x hx; rcases List.mem_append.1 hx with h | h; exact hpl x h; have := hdr x h; omega)
   have hjl := lnV_len (m := 100) (l := P0 ++ z.rows.map Lib.itoa) (by intro x hx; rcases List.mem_append.1 hx with h | h; exact hpl x h; have := hdr x h; omega)
   rw [List.length_append, List.length_map, hp3] at hjb hjl
   refine LGo.frz 3 (h := ?_)
   refine .exit rfl ?_
   refine .region rfl ?_
   refine R.move (h := ?_)
   refine R.move (h := ?_)
   refine R.callX (es := [_]) (first := []) (cap := [_]) [1] (vpl1 acc (by omega) (P0 ++ z.rows.map Lib.itoa) (by rw [List.length_append, List.length_map]; omega) (by omega)) (h := ?_)
   refine .n0 ?_
   refine .inBlock ?_
   refine .region rfl ?_
   first | refine R.add (h := ?_) | refine R.addW (h := ?_)
   refine R.move (h := ?_)
   refine .n0 ?_
   refine .inLoop ?_
   exact LGo.next _ (fun o h => by have := (hA o).1 h; omega) (by omega) (ih (k + 1, acc ++ lnV (P0 ++ z.rows.map Lib.itoa)) ⟨by dsimp only; omega, by dsimp only; rw [List.length_append]; omega, by dsimp only; rw [← hq]; simp⟩ (by dsimp only; omega)) (by repeat (first | exact trivial | refine ⟨rfl, ?_⟩)) ⟨rfl, rfl, trivial⟩
 ·
  rw [List.drop_eq_nil_of_le (show v.secs.length ≤ k by omega), List.map_nil, List.flatten_nil, List.append_nil] at hq
  subst hq
  refine .exit rfl ?_
  refine .seq ?_
  refine .region rfl ?_
  refine R.callX (es := [_]) [1] (bs1 acc hF0 (by omega)) (h := ?_)
  refine R.assign (h := ?_)
  refine R.assign (h := ?_)
  refine .n0 ?_
  exact LGo.ret (ret_TT Tryz.results45 hA hmd)
theorem listGo_len : ∀ (f : Nat) (l : List Int) (acc : List UInt8), (∀ n ∈ l, 0 ≤ n ∧ n ≤ 1000000000) → l.length ≤ 500 → (listGo f l acc).length ≤ acc.length + 46 * l.length
  | 0, _, acc, _, _ => by simp [listGo]
  | _ + 1, [], acc, _, _ => by simp [listGo]
  | f + 1, a :: r, acc, h, hl => by
    rw [listGo]
    have hr := runLen_le a r
    have ha := h a (by simp)
    simp only [List.length_cons] at hl
    have h1 := listGo_len f (r.drop (runLen a r)) (acc ++ sepL acc ++ runTxt a (runLen a r)) (fun n hn => h n (List.mem_cons_of_mem _ (List.mem_of_mem_drop hn))) (by rw [List.length_drop]; omega)
    have h2 : (sepL acc).length ≤ 1 := by unfold sepL; split <;> simp
    have h3 : (runTxt a (runLen a r)).length ≤ 45 := by
      have i1 := itoa_20 (n := a) (by unfold S64; omega)
      have i2 := itoa_20 (n := a + (runLen a r : Nat)) (by unfold S64; omega)
      unfold runTxt
      split
      · simp only [List.length_append, List.length_cons, List.length_nil]; omega
      · omega
    simp only [List.length_append, List.length_drop, List.length_cons] at h1 ⊢
    omega
theorem listW_len (l : List Int) : (listW l).1.length ≤ 46 * l.length + 1 := by
  unfold listW
  split
  · simp
  split
  · simp
  split
  · simp
  split
  · simp
  · rename_i h1 h2 h3 h4
    have h := outK_no (l := l) (by simpa using h2)
    have := listGo_len (l.length + 1) l [] (fun n hn => by
      obtain ⟨i, hi, rfl⟩ := List.getElem_of_mem hn
      have := h i
      rwa [List.getD_eq_getElem?_getD, List.getElem?_eq_getElem hi] at this) (by omega)
    simp only [List.length_nil] at this
    show (listGo (l.length + 1) l []).length ≤ _
    omega
theorem joinW_len (l : List Fd) : (joinW l).1.length ≤ 8192 := by
  unfold joinW
  repeat' split
  all_goals first | (simp; done) | (dsimp only; omega)
/-- a block of lines behind a line with their number -/
def blkS (word text : List UInt8) : List UInt8 := word ++ [32] ++ Lib.itoa (Lib.countByte text 10) ++ [10] ++ text
def lnF (l : List Fd) : List UInt8 := (joinW l).1 ++ [10]
def fB (s : List UInt8) : Fd := ⟨s, false⟩
def fQ (s : List UInt8) : Fd := ⟨s, true⟩
def fD (n : Int) : Fd := ⟨Lib.itoa n, false⟩
def numsC (c : SrC) : List Int := [c.kind, c.owner, c.tgt, c.session, c.ticket, c.seat, c.sec, c.n, c.gate, c.spoil]
def callF (c : SrC) : List Fd := fB [99, 97, 108, 108] :: (numsC c).map fD ++ [fQ c.raw]
def evF (x : SrE) : List Fd := if x.kind = 1 then [fB [115, 101, 110, 100], fD x.a, fD x.b] else if x.kind = 2 then [fB [112, 105, 99, 107], fD x.a] else if x.kind = 3 then [fB [102, 97, 105, 114], fD x.a] else [fB [116, 105, 99, 107], fD x.a]
def printS (s : Sc) : List UInt8 := blkS [118, 101, 110, 117, 101] (printV s.ven) ++ lnF [fB [107, 101, 121], fQ s.key] ++ blkS [103, 97, 116, 101, 115] (printG ⟨s.gates, []⟩) ++ lnF [fB [119, 111, 114, 107, 101, 114, 115], fD s.workers] ++ (s.calls.map fun c => lnF (callF c)).flatten ++ (s.evs.map fun x => lnF (evF x)).flatten
section
open Go.RowKit
theorem count_P (s : List UInt8) (c : UInt8) : PC Tryz.prog 42 [.t s, .t [c]] (.i (Lib.countByte s c)) :=
  PC.of_val (Entr.of Tryz.func42 rfl (by kernel_rfl)) (by simp [LV.lts, LV.lt]) fun cx w vs hl ham hv => by
    obtain ⟨v1, v2, rfl, h1, h2⟩ : ∃ v1 v2, vs = [v1, v2] ∧ V cx w (.t s) v1 ∧ V cx w (.t [c]) v2 := by
      simp only [Vs] at hv
      obtain ⟨v1, r1, rfl, h1, v2, r2, rfl, h2, rfl⟩ := hv
      exact ⟨_, _, rfl, h1, h2⟩
    rw [h1.val, h2.val]
    refine (Tryz.strings_Count_one ⟨s.toArray⟩ c w).mono ?_
    rintro e w' ⟨rfl, rfl⟩
    exact ⟨rfl, ⟨rfl, rfl, rfl, Nat.le_refl _, fun b hb => rfl⟩⟩
end
theorem bareS_P (s : List UInt8) : PC Tryz.prog 46 [.t s] (.agg ((fB s).c.map LV.sv)) := by
 refine ⟨LC.of_go Tryz.func46 (c := _) rfl (by kernel_rfl) (by rw [Tryz.ntmps46]; simp) rfl rfl (by simp [LO.lt, LV.lts, LV.lt, lts_sv]) (by simp) ?_⟩
 intro B hA hmd
 refine .seq ?_
 refine .region rfl ?_
 refine R.alloc Z95 (h := ?_)
 refine .n0 ?_
 refine .seq ?_
 refine .region rfl ?_
 refine R.move (h := ?_)
 refine R.build BF95 (is := [0]) (xs := [_]) (es := [_]) (h := ?_)
 refine R.storeA A95 (h := ?_)
 refine .n0 ?_
 exact LGo.ret (ret_A Tryz.results46 A95 hA hmd)
theorem quotedS_P (s : List UInt8) : PC Tryz.prog 47 [.t s] (.agg ((fQ s).c.map LV.sv)) := by
 refine ⟨LC.of_go Tryz.func47 (c := _) rfl (by kernel_rfl) (by rw [Tryz.ntmps47]; simp) rfl rfl (by simp [LO.lt, LV.lts, LV.lt, lts_sv]) (by simp) ?_⟩
 intro B hA hmd
 refine .seq ?_
 refine .region rfl ?_
 refine R.alloc Z95 (h := ?_)
 refine .n0 ?_
 refine .seq ?_
 refine .region rfl ?_
 refine R.move (h := ?_)
 refine R.build BF95 (is := [0, 1]) (xs := [_, _]) (es := [_, _]) (h := ?_)
 refine R.storeA A95 (h := ?_)
 refine .n0 ?_
 exact LGo.ret (ret_A Tryz.results47 A95 hA hmd)
theorem digitsS_P (n : Int) (h : S64 n) : PC Tryz.prog 50 [.i n] (.agg ((fD n).c.map LV.sv)) := by
 refine ⟨LC.of_go Tryz.func50 (c := _) rfl (by kernel_rfl) (by rw [Tryz.ntmps50]; simp) rfl rfl (by simp [LO.lt, LV.lts, LV.lt, lts_sv]) (by simp) ?_⟩
 intro B hA hmd
 unfold S64 at h
 refine .seq ?_
 refine .region rfl ?_
 refine R.alloc Z95 (h := ?_)
 refine .n0 ?_
 refine .seq ?_
 refine .region rfl ?_
 refine R.move (h := ?_)
 refine R.callP (es := [_]) (fun _ => digitsW_P n (by omega) (by omega)) (h := ?_)
 refine R.callP (es := [_]) (fun _ => bareS_P (Lib.itoa n)) (h := ?_)
 refine R.storeA A95 (h := ?_)
 refine .n0 ?_
 exact LGo.ret (ret_A Tryz.results50 A95 hA hmd)
theorem numbersS_P (c : SrC) (hc : c.ok) : PC Tryz.prog 51 [.agg (c.c.map LV.sv)] (.sv (.sl 1 (ic .i64 (numsC c)))) := by
 refine ⟨LC.of_go Tryz.func51 (c := _) rfl (by kernel_rfl) (by rw [Tryz.ntmps51]; simp) rfl rfl (by simp [LO.lt, LV.lts, LV.lt, lts_sv]) (by simp) ?_⟩
 intro B hA hmd
 have ho := hc.owner
 have ht := hc.tgt
 refine .seq ?_
 refine .region rfl ?_
 refine R.box (h := ?_)
 refine R.assign (h := ?_)
 refine .n0 ?_
 refine .seq ?_
 refine .region rfl ?_
 first | refine R.field F40_0 (h := ?_) | refine R.fieldAt F40_0 (h := ?_)
 first | refine R.loadB O3 (h := ?_) | refine R.load1 O3 (h := ?_)
 first | refine R.field F40_1 (h := ?_) | refine R.fieldAt F40_1 (h := ?_)
 first | refine R.loadB O38 (h := ?_) | refine R.load1 O38 (h := ?_)
 first | refine R.convI Tryz.runUnderlying38 Tryz.runUnderlying2 (h := ?_) | refine R.convW Tryz.runUnderlying38 Tryz.runUnderlying2 (h := ?_)
 first | refine R.field F40_2 (h := ?_) | refine R.fieldAt F40_2 (h := ?_)
 first | refine R.loadB O38 (h := ?_) | refine R.load1 O38 (h := ?_)
 first | refine R.convI Tryz.runUnderlying38 Tryz.runUnderlying2 (h := ?_) | refine R.convW Tryz.runUnderlying38 Tryz.runUnderlying2 (h := ?_)
 first | refine R.field F40_3 (h := ?_) | refine R.fieldAt F40_3 (h := ?_)
 first | refine R.loadB O3 (h := ?_) | refine R.load1 O3 (h := ?_)
 first | refine R.field F40_4 (h := ?_) | refine R.fieldAt F40_4 (h := ?_)
 first | refine R.loadB O3 (h := ?_) | refine R.load1 O3 (h := ?_)
 first | refine R.field F40_5 (h := ?_) | refine R.fieldAt F40_5 (h := ?_)
 first | refine R.loadB O3 (h := ?_) | refine R.load1 O3 (h := ?_)
 first | refine R.field F40_6 (h := ?_) | refine R.fieldAt F40_6 (h := ?_)
 first | refine R.loadB O3 (h := ?_) | refine R.load1 O3 (h := ?_)
 first | refine R.field F40_7 (h := ?_) | refine R.fieldAt F40_7 (h := ?_)
 first | refine R.loadB O3 (h := ?_) | refine R.load1 O3 (h := ?_)
 first | refine R.field F40_8 (h := ?_) | refine R.fieldAt F40_8 (h := ?_)
 first | refine R.loadB O3 (h := ?_) | refine R.load1 O3 (h := ?_)
 first | refine R.field F40_9 (h := ?_) | refine R.fieldAt F40_9 (h := ?_)
 first | refine R.loadB O3 (h := ?_) | refine R.load1 O3 (h := ?_)
 refine R.buildSliceG AP104 (xs := [_, _, _, _, _, _, _, _, _, _]) (es := [_, _, _, _, _, _, _, _, _, _]) (hcs := CellsOfs.cons (CellsOf.one rfl) (CellsOfs.cons (CellsOf.one rfl) (CellsOfs.cons (CellsOf.one rfl) (CellsOfs.cons (CellsOf.one rfl) (CellsOfs.cons (CellsOf.one rfl) (CellsOfs.cons (CellsOf.one rfl) (CellsOfs.cons (CellsOf.one rfl) (CellsOfs.cons (CellsOf.one rfl) (CellsOfs.cons (CellsOf.one rfl) (CellsOfs.cons (CellsOf.one rfl) CellsOfs.nil)))))))))) (h := ?_)
 refine R.assign (h := ?_)
 refine .n0 ?_
 first | refine LGo.frzT 2 (h := ?_) | refine LGo.nilSl 2 1 (h := ?_) | skip
 exact LGo.ret (ret_T Tryz.results51 hA hmd)
theorem countB_le (s : List UInt8) (c : UInt8) : Lib.countByte s c ≤ s.length := by
  unfold Lib.countByte
  first
  | exact List.countP_le_length
  | exact List.count_le_length
  | exact List.length_filter_le _ _
theorem pl1_0 (wd tx : List UInt8) (hw : wd.length ≤ 100) (ht : tx.length ≤ 90000) : LC Tryz.prog 39 1 [.t wd, .t tx, .ptr 0 0] [(0, .bx 83 [.v (.pointer none), .v undef] 1 5 1 (bytesC []))] (.tup []) [(0, .bx 83 [.ptr 0 0, .v undef] 1 5 1 (bytesC (blkS wd tx)))] 0 := by
 refine LC.of_go Tryz.func39 (c := _) rfl (by kernel_rfl) (by rw [Tryz.ntmps39]; simp) rfl rfl (by simp [LO.lt, LV.lts, LV.lt, lts_sv]) (by simp) ?_
 intro B hA hmd
 have hcb := countB_le tx 10
 obtain ⟨W, hW⟩ : ∃ W, blkS wd tx = W := ⟨_, rfl⟩
 rw [hW]
 unfold blkS at hW
 have hd := itoa_20 (n := (Lib.countByte tx 10 : Nat)) (by unfold S64; omega)
 refine .region rfl ?_
 refine R.move (h := ?_)
 refine R.bin (run_addT _ _ _ (wd) ([32]) (by first | omega | (simp only [List.length_append, List.length_cons, List.length_nil] at *; omega))) (h := ?_)
 refine R.move (h := ?_)
 refine R.callP (es := [_, _]) (fun _ => count_P tx 10) (h := ?_)
 refine R.callP (es := [_]) (fun _ => digitsW_P (Lib.countByte tx 10 : Nat) (by omega) (by omega)) (h := ?_)
 generalize Lib.itoa (Lib.countByte tx 10 : Nat) = dg at hW hd ⊢
 refine R.bin (run_addT _ _ _ (wd ++ [32]) (dg) (by first | omega | (simp only [List.length_append, List.length_cons, List.length_nil] at *; omega))) (h := ?_)
 refine R.bin (run_addT _ _ _ (wd ++ [32] ++ dg) ([10]) (by first | omega | (simp only [List.length_append, List.length_cons, List.length_nil] at *; omega))) (h := ?_)
 refine R.move (h := ?_)
 refine R.bin (run_addT _ _ _ (wd ++ [32] ++ dg ++ [10]) (tx) (by first | omega | (simp only [List.length_append, List.length_cons, List.length_nil] at *; omega))) (h := ?_)
 have hwl : W.length ≤ 100000 := by rw [← hW]; simp only [List.length_append, List.length_cons, List.length_nil]; omega
 rw [hW]
 refine R.callX (es := [_, _]) [0] (ws0 W (by omega)) (h := ?_)
 refine .n0 ?_
 exact LGo.done (ret_0 Tryz.results39 hA hmd)
theorem pl1_1 (acc : List UInt8) (ha : acc.length ≤ 100000) (wd tx : List UInt8) (hw : wd.length ≤ 100) (ht : tx.length ≤ 90000) : LC Tryz.prog 39 1 [.t wd, .t tx, .ptr 0 0] [(0, .bx 83 [.ptr 0 0, .v undef] 1 5 1 (bytesC acc))] (.tup []) [(0, .bx 83 [.ptr 0 0, .v undef] 1 5 1 (bytesC (acc ++ (blkS wd tx))))] 0 := by
 refine LC.of_go Tryz.func39 (c := _) rfl (by kernel_rfl) (by rw [Tryz.ntmps39]; simp) rfl rfl (by simp [LO.lt, LV.lts, LV.lt, lts_sv]) (by simp) ?_
 intro B hA hmd
 have hcb := countB_le tx 10
 obtain ⟨W, hW⟩ : ∃ W, blkS wd tx = W := ⟨_, rfl⟩
 rw [hW]
 unfold blkS at hW
 have hd := itoa_20 (n := (Lib.countByte tx 10 : Nat)) (by unfold S64; omega)
 refine .region rfl ?_
 refine R.move (h := ?_)
 refine R.bin (run_addT _ _ _ (wd) ([32]) (by first | omega | (simp only [List.length_append, List.length_cons, List.length_nil] at *; omega))) (h := ?_)
 refine R.move (h := ?_)
 refine R.callP (es := [_, _]) (fun _ => count_P tx 10) (h := ?_)
 refine R.callP (es := [_]) (fun _ => digitsW_P (Lib.countByte tx 10 : Nat) (by omega) (by omega)) (h := ?_)
 generalize Lib.itoa (Lib.countByte tx 10 : Nat) = dg at hW hd ⊢
 refine R.bin (run_addT _ _ _ (wd ++ [32]) (dg) (by first | omega | (simp only [List.length_append, List.length_cons, List.length_nil] at *; omega))) (h := ?_)
 refine R.bin (run_addT _ _ _ (wd ++ [32] ++ dg) ([10]) (by first | omega | (simp only [List.length_append, List.length_cons, List.length_nil] at *; omega))) (h := ?_)
 refine R.move (h := ?_)
 refine R.bin (run_addT _ _ _ (wd ++ [32] ++ dg ++ [10]) (tx) (by first | omega | (simp only [List.length_append, List.length_cons, List.length_nil] at *; omega))) (h := ?_)
 have hwl : W.length ≤ 100000 := by rw [← hW]; simp only [List.length_append, List.length_cons, List.length_nil]; omega
 rw [hW]
 refine R.callX (es := [_, _]) [0] (ws1 acc (by omega) W (by omega)) (h := ?_)
 refine .n0 ?_
 exact LGo.done (ret_0 Tryz.results39 hA hmd)
theorem pl2 (acc : List UInt8) (ha : acc.length ≤ 100000) (l : List Fd) (hl : l.length ≤ 10000) : LC Tryz.prog 43 1 [.sv (.sl 2 (l.map Fd.c)), .ptr 0 0] [(0, .bx 83 [.ptr 0 0, .v undef] 1 5 1 (bytesC acc))] (.tup []) [(0, .bx 83 [.ptr 0 0, .v undef] 1 5 1 (bytesC (acc ++ lnF l)))] 0 := by
 refine LC.of_go Tryz.func43 (c := _) rfl (by kernel_rfl) (by rw [Tryz.ntmps43]; simp) rfl rfl (by simp [LO.lt, LV.lts, LV.lt, lts_sv]) (by simp) ?_
 intro B hA hmd
 have hjl := joinW_len l
 refine .seq ?_
 refine .region rfl ?_
 refine R.move (h := ?_)
 refine R.callP (es := [_]) (fun _ => joinW_P l (by omega)) (h := ?_)
 unfold lnF
 generalize (joinW l).1 = jn at hjl ⊢
 refine R.move (h := ?_)
 refine R.extract (h := ?_)
 refine R.extract (h := ?_)
 refine R.assign (h := ?_)
 refine R.assign (h := ?_)
 refine .n0 ?_
 refine .region rfl ?_
 refine R.move (h := ?_)
 refine R.bin (run_addT _ _ _ (jn) ([10]) (by first | omega | (simp only [List.length_append, List.length_cons, List.length_nil] at *; omega))) (h := ?_)
 refine R.callX (es := [_, _]) [0] (ws1 acc (by omega) (jn ++ [10]) (by simp; omega)) (h := ?_)
 refine .n0 ?_
 exact LGo.done (ret_0 Tryz.results43 hA hmd)
theorem fl_len {α : Type} (f : α → List UInt8) (m : Nat) : ∀ l : List α, (∀ x ∈ l, (f x).length ≤ m) → (l.map f).flatten.length ≤ m * l.length
  | [], _ => by simp
  | a :: l, h => by
    have h1 := fl_len f m l (fun x hx => h x (by simp [hx]))
    have h2 := h a (by simp)
    simp only [List.map_cons, List.flatten_cons, List.length_append, List.length_cons, Nat.mul_add] at *
    omega
theorem joinTail_len (m : Nat) : ∀ l : List (List UInt8), (∀ x ∈ l, x.length ≤ m) → (Lib.joinTail [32] l).length ≤ (m + 1) * l.length
  | [], _ => by simp [Lib.joinTail]
  | b :: l, h => by
    have := h b (by simp)
    have := joinTail_len m l (fun x hx => h x (by simp [hx]))
    rw [show Lib.joinTail [32] (b :: l) = ([32] ++ b) ++ Lib.joinTail [32] l from rfl]
    simp only [List.length_append, List.length_cons, List.length_nil, Nat.mul_add] at *
    omega
theorem secV_len {x : VnS} (h1 : x.name.length ≤ 100) (h2 : x.rows.length ≤ 20) (h3 : ∀ n ∈ x.rows, S64 n) (h4 : S64 x.queue) : (secV x).length ≤ 600 := by
  unfold secV lnV
  rw [Lib.join_cons, show Lib.joinTail [32] (x.name :: Lib.itoa x.queue :: x.rows.map Lib.itoa) = ([32] ++ x.name) ++ Lib.joinTail [32] (Lib.itoa x.queue :: x.rows.map Lib.itoa) from rfl]
  have := joinTail_len 22 (Lib.itoa x.queue :: x.rows.map Lib.itoa) (by
    intro y hy
    rcases List.mem_cons.1 hy with rfl | hy
    · exact itoa_20 h4
    · exact itoas_len h3 y hy)
  simp only [List.length_append, List.length_cons, List.length_nil, List.length_map] at *
  omega
theorem printV_len {v : Ven} (h : VenB v) : (printV v).length ≤ 6300 := by
  unfold printV
  have h1 := lnV_len (m := 22) (l := [[115, 104, 97, 114, 100, 115], Lib.itoa v.shards]) (by have := itoa_20 h.n1; simp; omega)
  have h2 := lnV_len (m := 22) (l := [[116, 116, 108], Lib.itoa v.ttl]) (by have := itoa_20 h.n2; simp; omega)
  have h3 := lnV_len (m := 22) (l := [[115, 101, 115, 115, 105, 111, 110], Lib.itoa v.session]) (by have := itoa_20 h.n3; simp; omega)
  have h4 := fl_len secV 600 v.secs (fun x hx => secV_len (h.vs x hx).1 (h.vs x hx).2.1 (h.vs x hx).2.2.1 (h.vs x hx).2.2.2)
  have h5 := h.vl
  simp only [List.length_append, List.length_cons, List.length_nil] at *
  omega
theorem printG_len {l : List GtG} (h : ∀ g ∈ l, S64 g.fr ∧ S64 g.to ∧ g.secs.length ≤ 10) (hl : l.length ≤ 10) : (printG ⟨l, []⟩).length ≤ 5200 := by
  unfold printG
  have := fl_len lineG 520 l (fun g hg => by
    obtain ⟨h1, h2, h3⟩ := h g hg
    have i1 := itoa_20 h1
    have i2 := itoa_20 h2
    have i3 := listW_len g.secs
    unfold lineG
    simp only [List.length_append, List.length_cons, List.length_nil]
    omega)
  simp only [List.length_append, List.map_nil, List.flatten_nil, List.length_nil] at *
  omega
theorem joinW_le (l : List Fd) : (joinW l).1.length ≤ (lineF l).length := by
  unfold joinW
  repeat' split
  all_goals simp
theorem lnF_le (l : List Fd) : (lnF l).length ≤ (lineF l).length + 1 := by
  have := joinW_le l
  unfold lnF
  simp only [List.length_append, List.length_cons, List.length_nil]
  omega
theorem lineD_len (m : Nat) (l : List Fd) (h : ∀ f ∈ l, f.q = false ∧ f.s.length ≤ m) : (lineF l).length ≤ (m + 1) * l.length := by
  unfold lineF
  have := join_bound m (l.map formF) (by
    intro x hx
    obtain ⟨f, hf, rfl⟩ := List.mem_map.1 hx
    unfold formF
    rw [if_neg (by rw [(h f hf).1]; simp)]
    exact (h f hf).2)
  rwa [List.length_map] at this
theorem numsC_S {c : SrC} (h : c.ok) : ∀ n ∈ numsC c, S64 n := by
  have h1 := h.owner
  have h2 := h.tgt
  have h3 := h.kind
  have h4 := h.session
  have h5 := h.ticket
  have h6 := h.seat
  have h7 := h.sec
  have h8 := h.n
  have h9 := h.gate
  have h10 := h.spoil
  unfold R64 at *
  intro n hn
  unfold S64
  simp only [numsC, List.mem_cons, List.not_mem_nil, or_false] at hn
  rcases hn with rfl | rfl | rfl | rfl | rfl | rfl | rfl | rfl | rfl | rfl <;> omega
theorem callF_len {c : SrC} (h : c.ok) (hr : c.raw.length ≤ 700) : (lnF (callF c)).length ≤ 3100 := by
  have h1 := lnF_le (callF c)
  have h2 : lineF (callF c) = lineF (fB [99, 97, 108, 108] :: (numsC c).map fD) ++ [32] ++ quote c.raw := by
    unfold callF
    rw [lineF_snoc, if_neg (by simp)]
    rfl
  have h3 := lineD_len 22 (fB [99, 97, 108, 108] :: (numsC c).map fD) (by
    intro f hf
    rcases List.mem_cons.1 hf with rfl | hf
    · exact ⟨rfl, by decide⟩
    · obtain ⟨n, hn, rfl⟩ := List.mem_map.1 hf
      exact ⟨rfl, itoa_20 (numsC_S h n hn)⟩)
  have h4 := quote_len c.raw
  rw [show (fB [99, 97, 108, 108] :: (numsC c).map fD).length = 11 from rfl] at h3
  rw [h2] at h1
  simp only [List.length_append, List.length_cons, List.length_nil] at h1
  omega
theorem evF_len {x : SrE} (ha : S64 x.a) (hb : S64 x.b) : (lnF (evF x)).length ≤ 80 := by
  have h1 := lnF_le (evF x)
  have i1 := itoa_20 ha
  have i2 := itoa_20 hb
  have h3 : (lineF (evF x)).length ≤ 23 * (evF x).length := lineD_len 22 (evF x) (by
    unfold evF
    repeat' split
    all_goals (intro f hf; simp only [List.mem_cons, List.not_mem_nil, or_false] at hf)
    · rcases hf with rfl | rfl | rfl
      · exact ⟨rfl, by decide⟩
      · exact ⟨rfl, i1⟩
      · exact ⟨rfl, i2⟩
    all_goals
      rcases hf with rfl | rfl
      · exact ⟨rfl, by decide⟩
      · exact ⟨rfl, i1⟩)
  have h4 : (evF x).length ≤ 3 := by unfold evF; repeat' split
                                     all_goals simp
  omega
theorem base_all {s : Sc} (h : (baseS s).2 = 0) : (checkVen s.ven).2 = 0 ∧ checkG s.gates = 0 ∧ 0 < s.gates.length ∧ s.gates.length ≤ 8 ∧ s.key.length ≤ 64 := by
  unfold baseS at h
  split at h
  · rename_i h1; exact absurd h h1
  rename_i h1
  split at h
  · cases h
  rename_i h2
  split at h
  · rename_i h3; exact absurd h h3
  rename_i h3
  have h4 : checkG s.gates = 0 := by
    unfold newS at h3
    split at h3
    · rename_i h5; exact absurd (show checkG s.gates = 0 from Decidable.of_not_not h3) h5
    · rename_i h5; exact Decidable.of_not_not h5
  refine ⟨Decidable.of_not_not h1, h4, ?_, ?_, ?_⟩
  · unfold checkG at h4
    split at h4
    · cases h4
    split at h4
    · cases h4
    · rename_i h5
      simp only [Bool.or_eq_true, decide_eq_true_eq, not_or] at h5
      omega
  · unfold checkG at h4
    split at h4
    · cases h4
    · omega
  · simp only [Bool.or_eq_true, decide_eq_true_eq, not_or] at h2
    omega
theorem blkS_len (wd tx : List UInt8) (h : tx.length ≤ 90000) : (blkS wd tx).length ≤ wd.length + tx.length + 24 := by
  have := countB_le tx 10
  have := itoa_20 (n := (Lib.countByte tx 10 : Nat)) (by unfold S64; omega)
  unfold blkS
  simp only [List.length_append, List.length_cons, List.length_nil]
  omega
def printO (s : Sc) : List UInt8 × Int := if (checkS s).2 ≠ 0 then ([], (checkS s).2) else (printS s, 0)
theorem pl2o (acc : List UInt8) (ha : acc.length ≤ 100000) (l : List Fd) (hl : l.length ≤ 10000) : LC Tryz.prog 43 2 [.ref 1, .ptr 0 0] [(0, .bx 83 [.ptr 0 0, .v undef] 1 5 1 (bytesC acc)), (1, .rs 95 2 (l.map Fd.c))] (.tup []) [(0, .bx 83 [.ptr 0 0, .v undef] 1 5 1 (bytesC (acc ++ lnF l)))] 0 := by
 refine LC.of_go Tryz.func43 (c := _) rfl (by kernel_rfl) (by rw [Tryz.ntmps43]; simp) rfl rfl (by simp [LO.lt, LV.lts, LV.lt, lts_sv]) (by simp) ?_
 intro B hA hmd
 have hjl := joinW_len l
 refine LGo.frz 1 (h := ?_)
 refine .seq ?_
 refine .region rfl ?_
 refine R.move (h := ?_)
 refine R.callP (es := [_]) (fun _ => joinW_P l (by omega)) (h := ?_)
 unfold lnF
 generalize (joinW l).1 = jn at hjl ⊢
 refine R.move (h := ?_)
 refine R.extract (h := ?_)
 refine R.extract (h := ?_)
 refine R.assign (h := ?_)
 refine R.assign (h := ?_)
 refine .n0 ?_
 refine .region rfl ?_
 refine R.move (h := ?_)
 refine R.bin (run_addT _ _ _ (jn) ([10]) (by simp; omega)) (h := ?_)
 refine R.callX (es := [_, _]) [0] (ws1 acc (by omega) (jn ++ [10]) (by simp; omega)) (h := ?_)
 refine .n0 ?_
 exact LGo.done (ret_0 Tryz.results43 hA hmd)
end Go.Proofs.YteccglgbkehdeaaGreatDoor
