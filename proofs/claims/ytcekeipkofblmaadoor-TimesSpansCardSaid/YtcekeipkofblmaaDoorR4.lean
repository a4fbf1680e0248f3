/- times: set, Minus, Union, Total of the reference. -/
import Derived.Test.YtcekeipkofblmaaDoorR3
set_option linter.unusedSimpArgs false
set_option linter.unusedVariables false
namespace Go.Proofs.YtcekeipkofblmaaDoor

def setStep (a b : List Sp) (out : List Sp) (p : Sp) : List Sp := if (!inS a p.1 || inS b p.1) = true then out else if (decide ((out.length : Int) - 1 ≥ 0) && decide ((lastS out).2 = p.1)) = true then out.set (out.length - 1) ((lastS out).1, p.2) else out ++ [(p.1, p.2)]
def pairsI : List Int → List Sp
  | x :: y :: l => (x, y) :: pairsI (y :: l)
  | _ => []
theorem pairsI_len : ∀ l : List Int, (pairsI l).length = l.length - 1
  | [] => rfl
  | [_] => rfl
  | x :: y :: l => by simp only [pairsI, List.length_cons, pairsI_len (y :: l)]; omega
theorem pairsI_at : ∀ (l : List Int) (k : Nat) (h : k < (pairsI l).length), (pairsI l)[k] = (l.getD k 0, l.getD (k + 1) 0)
  | [], k, h => by simp [pairsI] at h
  | [_], k, h => by simp [pairsI] at h
  | x :: y :: l, 0, h => rfl
  | x :: y :: l, k + 1, h => by
    have := pairsI_at (y :: l) k (by simpa [pairsI] using h)
    simpa [pairsI] using this
def setS (a b : List Sp) : List Sp := (pairsI (endsS a b)).foldl (setStep a b) []
def rminT (a b : List Sp) : List Sp × Int := if checkS [a, b] = 0 then (setS a b, 0) else ([], checkS [a, b])
def rtotGo (n : Int) (l : List Sp) : Int := l.foldl (fun n s => IntKind.i64.wrap (IntKind.i64.wrap (n + s.2) - s.1)) n
def rtotT (l : List Sp) : Int × Int := (rtotGo 0 (rminT l []).1, (rminT l []).2)
theorem setStep_len (a b out : List Sp) (p : Sp) : (setStep a b out p).length ≤ out.length + 1 := by
  unfold setStep; split
  · omega
  · split <;> simp
theorem setF_len (a b : List Sp) : ∀ l out : List Sp, (l.foldl (setStep a b) out).length ≤ out.length + l.length
  | [], out => by simp
  | p :: l, out => by
    have := setF_len a b l (setStep a b out p)
    have := setStep_len a b out p
    simp only [List.foldl_cons, List.length_cons]; omega
theorem setS_len (a b : List Sp) : (setS a b).length ≤ 2 * a.length + 2 * b.length := by
  have := setF_len a b (pairsI (endsS a b)) []
  have h1 := pairsI_len (endsS a b)
  have h2 := endsS_len a b
  simp only [List.length_nil] at this
  unfold setS; omega
theorem ic_at1 {k : IntKind} {l : List Int} {n : Nat} (h : n + 1 < l.length) : (ic k l)[(((n : Nat) : Int) + 1).toNat]? = some [.val (.int k (l.getD (n + 1) 0))] := by
  rw [show (((n : Nat) : Int) + 1).toNat = n + 1 from by omega]; exact ic_at h

theorem set_P (a b : List Sp) (ha : a.length ≤ 100000) (hb : b.length ≤ 100000) : PC Tryd.prog 47 [.sv (.sl 2 (spsC a)), .sv (.sl 2 (spsC b))] (.sv (.sl 2 (spsC (setS a b)))) := by
  refine ⟨LC.of_go Tryd.func47 (c := _) rfl (by kernel_rfl) (by rw [Tryd.ntmps47]; simp) rfl rfl (by simp [LO.lt, LV.lts, LV.lt]) (by simp) ?_⟩
  intro B hA hmd
  obtain ⟨g, e0⟩ : ∃ g, setS a b = g := ⟨_, rfl⟩
  have e1 := e0
  unfold setS at e1
  rw [e0]
  have hel := endsS_len a b
  refine LGo.seq ?_
  refine LGo.region rfl ?_  -- region 0
  refine R.assign (h := ?_)
  refine Reg.nil ⟨fun h => (by cases h), ?_⟩
  refine LGo.seq ?_
  refine LGo.region rfl ?_  -- region 1
  refine R.move (h := ?_)
  refine R.move (h := ?_)
  refine R.callP (es := [_, _]) (fun _ => ends_P a b ha hb) (h := ?_)
  refine R.assign (h := ?_)
  refine Reg.nil ⟨fun h => (by cases h), ?_⟩
  generalize endsS a b = al at *
  have hpl := pairsI_len al
  refine LGo.seq ?_
  refine LGo.region rfl ?_  -- region 2
  refine R.assign (h := ?_)
  refine Reg.nil ⟨fun h => (by cases h), ?_⟩
  refine LGo.seq ?_
  refine LGo.seq ?_
  refine LGo.region rfl ?_  -- region 3
  refine R.assign (h := ?_)
  refine Reg.nil ⟨fun h => (by cases h), ?_⟩
  refine LGo.block ?_
  refine LGo.loop ?_
  refine LGo.nilRs 6 43 2 (h := ?_)
  refine LGo.loopG (σ := Nat × List Sp) (fun x => x.1 ≤ (pairsI al).length ∧ x.2.length ≤ x.1 ∧ (pairsI al).foldl (setStep a b) [] = ((pairsI al).drop x.1).foldl (setStep a b) x.2) (fun x => [(7, (true, .i (((x.1 : Nat) : Int) + 1))), (6, (true, .ref 0))]) (fun x => [(0, .rs 43 2 (spsC x.2))]) (fun x => (pairsI al).length - x.1) ((0, [])) [(0, _), (1, _), (5, _)] ⟨by simp, by simp, by simp⟩ (by repeat (first | exact trivial | refine ⟨rfl, ?_⟩)) (by repeat (first | exact trivial | refine ⟨rfl, ?_⟩)) (by repeat (first | exact trivial | refine ⟨rfl, ?_⟩)) ?_
  rintro ⟨k, out⟩ ⟨hk, hol, hq⟩ ih
  dsimp only at * 
  refine LGo.seq ?_
  refine LGo.seq ?_
  refine LGo.region rfl ?_  -- region 4
  refine R.move (h := ?_)
  refine R.move (h := ?_)
  first | refine R.len S34 (h := ?_) | refine R.lenRs S34 (h := ?_) | refine R.lenV (run_lenNil S34) (h := ?_)
  rw [ic_len]
  refine R.bin (run_lss _ _ _ _ _ _) (h := ?_)
  refine Reg.nil ⟨fun h => (by cases h), ?_⟩
  refine LGo.ifd (ht := fun hc => ?_) (hf := fun hc => ?_)
  · -- then 1
    have hlt : k < (pairsI al).length := by omega
    have hx0 : (ic .i64 al)[((k : Nat) : Int).toNat]? = some [.val (.int .i64 (al.getD k 0))] := by rw [Int.toNat_natCast]; exact ic_at (by omega)
    have hx1 := ic_at1 (k := .i64) (l := al) (n := k) (by omega)
    rw [List.drop_eq_getElem_cons hlt, pairsI_at al k hlt] at hq
    generalize al.getD k 0 = u at hx0 hq
    generalize al.getD (k + 1) 0 = v at hx1 hq
    simp only [List.foldl_cons] at hq
    have es : setStep a b out (u, v) = if (!inS a u || inS b u) = true then out else if (decide ((out.length : Int) - 1 ≥ 0) && decide ((lastS out).2 = u)) = true then out.set (out.length - 1) ((lastS out).1, v) else out ++ [(u, v)] := rfl
    refine LGo.skip ?_
    refine LGo.seq ?_
    refine LGo.block ?_
    refine LGo.seq ?_
    refine LGo.seq ?_
    refine LGo.region rfl ?_  -- region 6
    refine R.move (h := ?_)
    refine R.move (h := ?_)
    refine R.move (h := ?_)
    first | refine R.sub (h := ?_) | refine R.subW (h := ?_)
    rw [show ((k : Nat) : Int) + 1 - 1 = ((k : Nat) : Int) from by omega]
    refine R.index I34 (hj := fun hg => ⟨by omega, hx0⟩) (h := ?_)
    first | refine R.loadB O2 (h := ?_) | refine R.load1 O2 (h := ?_)
    refine R.callP (es := [_, _]) (fun _ => in_P a u ha) (h := ?_)
    refine R.not (h := ?_)
    refine R.move (h := ?_)
    refine R.move (h := ?_)
    refine R.move (h := ?_)
    refine R.move (h := ?_)
    first | refine R.sub (h := ?_) | refine R.subW (h := ?_)
    rw [show ((k : Nat) : Int) + 1 - 1 = ((k : Nat) : Int) from by omega]
    refine R.index I34 (hj := fun hg => ⟨by omega, hx0⟩) (h := ?_)
    first | refine R.loadB O2 (h := ?_) | refine R.load1 O2 (h := ?_)
    refine R.callP (es := [_, _]) (fun _ => in_P b u hb) (h := ?_)
    refine R.or (h := ?_)
    refine Reg.nil ⟨fun h => (by cases h), ?_⟩
    refine LGo.ifb (ht := fun hc2 => ?_) (hf := fun hc2 => ?_)
    · -- then 2
      rw [if_pos hc2] at es
      rw [es] at hq
      refine LGo.exit rfl ?_
      refine LGo.region rfl ?_  -- region 5
      refine R.move (h := ?_)
      first | refine R.add (h := ?_) | refine R.addW (h := ?_)
      rw [show ((k : Nat) : Int) + 1 + 1 = ((k + 1 : Nat) : Int) + 1 from by omega]
      refine R.assign (h := ?_)
      refine Reg.nil ⟨fun h => (by cases h), ?_⟩
      refine LGo.inLoop ?_
      exact LGo.next _ (fun o h => by have := (hA o).1 h; omega) (by omega) (ih (k + 1, out) ⟨hlt, by dsimp only; omega, hq⟩ (by dsimp only; omega)) (by repeat (first | exact trivial | refine ⟨rfl, ?_⟩)) (by repeat (first | exact trivial | refine ⟨rfl, ?_⟩))
    · -- else 2
      rw [if_neg (by rw [hc2]; simp)] at es
      refine LGo.skip ?_
      refine LGo.seq ?_
      refine LGo.region rfl ?_  -- region 7
      refine R.move (h := ?_)
      first | refine R.len S36 (h := ?_) | refine R.lenRs S36 (h := ?_) | refine R.lenV (run_lenNil S36) (h := ?_)
      rw [spsC_length]
      first | refine R.sub (h := ?_) | refine R.subW (h := ?_)
      refine R.assign (h := ?_)
      refine Reg.nil ⟨fun h => (by cases h), ?_⟩
      refine LGo.seq ?_
      refine LGo.region rfl ?_  -- region 8 DRAWS
      refine R.move (h := ?_)
      refine R.bin (run_geq _ _ _ _ _ _) (h := ?_)
      refine R.move (h := ?_)
      refine R.move (h := ?_)
      refine R.move (h := ?_)
      refine R.indexRs I36 (hj := fun hg => ⟨by simp at hg; omega, by rw [spsC_length]; omega⟩) (h := ?_)
      first | refine R.field F43_1 (h := ?_) | refine R.fieldAt F43_1 (h := ?_)
      refine R.loadRs1 O2 (out.length - 1) 1 (ev := spC (lastS out)) (hj := fun hg => ⟨lastS_at (by simp at hg; omega), rfl⟩) (hoff := by omega) (h := ?_)
      refine R.move (h := ?_)
      refine R.move (h := ?_)
      first | refine R.sub (h := ?_) | refine R.subW (h := ?_)
      rw [show ((k : Nat) : Int) + 1 - 1 = ((k : Nat) : Int) from by omega]
      refine R.index I34 (hj := fun hg => ⟨by omega, hx0⟩) (h := ?_)
      first | refine R.loadB O2 (h := ?_) | refine R.load1 O2 (h := ?_)
      refine R.bin (run_eql _ _ _ _ _ _) (h := ?_)
      refine R.and (h := ?_)
      refine Reg.nil ⟨fun _ => ⟨mixedO, by rfl, by rfl⟩, ?_⟩
      refine LGo.ifb (ht := fun hc3 => ?_) (hf := fun hc3 => ?_)
      · -- then 3
        rw [if_pos hc3] at es
        rw [es] at hq
        have ho0 : 0 < out.length := by simp at hc3; omega
        refine LGo.region rfl ?_  -- region 9
        refine R.move (h := ?_)
        refine R.move (h := ?_)
        refine R.move (h := ?_)
        refine R.move (h := ?_)
        refine R.index I34 (hj := fun hg => ⟨by omega, hx1⟩) (h := ?_)
        first | refine R.loadB O2 (h := ?_) | refine R.load1 O2 (h := ?_)
        refine R.indexRs I36 (hj := fun hg => ⟨by omega, by rw [spsC_length]; omega⟩) (h := ?_)
        first | refine R.field F43_1 (h := ?_) | refine R.fieldAt F43_1 (h := ?_)
        refine R.storeRs1 O2 (out.length - 1) 1 (spC (lastS out)) (hj := lastS_at ho0) (hoff := by omega) (h := ?_)
        rw [show (spC (lastS out)).set 1 (SV.val (.int .i64 v)) = spC ((lastS out).1, v) from rfl, spsC_set]
        refine Reg.nil ⟨fun h => (by cases h), ?_⟩
        refine LGo.inBlock ?_
        refine LGo.region rfl ?_  -- region 5
        refine R.move (h := ?_)
        first | refine R.add (h := ?_) | refine R.addW (h := ?_)
        rw [show ((k : Nat) : Int) + 1 + 1 = ((k + 1 : Nat) : Int) + 1 from by omega]
        refine R.assign (h := ?_)
        refine Reg.nil ⟨fun h => (by cases h), ?_⟩
        refine LGo.inLoop ?_
        exact LGo.next _ (fun o h => by have := (hA o).1 h; omega) (by omega) (ih (k + 1, out.set (out.length - 1) ((lastS out).1, v)) ⟨hlt, by simp; omega, hq⟩ (by dsimp only; omega)) (by repeat (first | exact trivial | refine ⟨rfl, ?_⟩)) (by repeat (first | exact trivial | refine ⟨rfl, ?_⟩))
      · -- else 3
        rw [if_neg (by rw [hc3]; simp)] at es
        rw [es] at hq
        refine LGo.region rfl ?_  -- region 10 DRAWS
        refine R.move (h := ?_)
        refine R.move (h := ?_)
        refine R.move (h := ?_)
        first | refine R.sub (h := ?_) | refine R.subW (h := ?_)
        rw [show ((k : Nat) : Int) + 1 - 1 = ((k : Nat) : Int) from by omega]
        refine R.index I34 (hj := fun hg => ⟨by omega, hx0⟩) (h := ?_)
        first | refine R.loadB O2 (h := ?_) | refine R.load1 O2 (h := ?_)
        refine R.move (h := ?_)
        refine R.move (h := ?_)
        refine R.index I34 (hj := fun hg => ⟨by omega, hx1⟩) (h := ?_)
        first | refine R.loadB O2 (h := ?_) | refine R.load1 O2 (h := ?_)
        refine R.build BF43 (is := [0, 1]) (xs := [_, _]) (es := [_, _]) (h := ?_)
        refine R.buildSliceG AP36 (xs := [_]) (es := [_]) (ys := [spC (u, v)]) (hcs := CellsOfs.cons (CellsOf.agg rfl) CellsOfs.nil) (hys := rfl) (h := ?_)
        refine R.appendS AP36 (hs := SrcOk.sl Tryd.underlying36 (by simp; rfl)) (hlen := by simp [spsC_length]; omega) (h := ?_)
        rw [spsC_snoc]
        refine R.assign (h := ?_)
        refine Reg.nil ⟨fun _ => ⟨mixedO, by rfl, by rfl⟩, ?_⟩
        refine LGo.inBlock ?_
        refine LGo.region rfl ?_  -- region 5
        refine R.move (h := ?_)
        first | refine R.add (h := ?_) | refine R.addW (h := ?_)
        rw [show ((k : Nat) : Int) + 1 + 1 = ((k + 1 : Nat) : Int) + 1 from by omega]
        refine R.assign (h := ?_)
        refine Reg.nil ⟨fun h => (by cases h), ?_⟩
        refine LGo.inLoop ?_
        exact LGo.turn [1] (b := 0) (fun o h => by have := (hA o).1 h; omega) (ih (k + 1, out ++ [(u, v)]) ⟨hlt, by simp; omega, hq⟩ (by dsimp only; omega)) (by repeat (first | exact trivial | refine ⟨rfl, ?_⟩)) (by repeat (first | exact trivial | refine ⟨rfl, ?_⟩))
  · -- else 1
    obtain rfl : g = out := by
      have hk' : k = (pairsI al).length := by omega
      subst hk'
      rw [List.drop_length] at hq
      rw [← e1, hq]; rfl
    refine LGo.exit rfl ?_
    refine LGo.seq ?_
    refine LGo.region rfl ?_  -- region 11
    refine R.move (h := ?_)
    refine R.assign (h := ?_)
    refine Reg.nil ⟨fun h => (by cases h), ?_⟩
    first | refine LGo.frzT 4 (h := ?_) | refine LGo.nilSl 4 2 (h := ?_) | skip
    exact LGo.ret (ret_T Tryd.results47 hA hmd)

theorem rminus_P (a b : List Sp) (ha : a.length ≤ 100000) (hb : b.length ≤ 100000) : PC Tryd.prog 34 [.sv (.sl 2 (spsC a)), .sv (.sl 2 (spsC b))] (.tup [.sv (.sl 2 (spsC (rminT a b).1)), .i (rminT a b).2]) := by
  refine ⟨LC.of_go Tryd.func34 (c := _) rfl (by kernel_rfl) (by rw [Tryd.ntmps34]; simp) rfl rfl (by simp [LO.lt, LV.lts, LV.lt]) (by simp) ?_⟩
  intro B hA hmd
  obtain ⟨g, e0⟩ : ∃ g, rminT a b = g := ⟨_, rfl⟩
  have e1 := e0
  unfold rminT at e1
  rw [e0]
  have ek : checkS [a, b] = if (decide ((200 : Int) < a.length) || decide ((200 : Int) < b.length)) = true then 3 else if listS a = 0 then listS b else listS a := by
    unfold checkS
    rw [show longS [a, b] = (decide ((200 : Int) < a.length) || decide ((200 : Int) < b.length)) from by simp [longS]]
    congr 1
    simp only [listsS]
    split
    · split
      · rename_i h; rw [h]
      · rfl
    · rfl
  refine LGo.seq ?_
  refine LGo.region rfl ?_  -- region 0
  refine R.assign (h := ?_)
  refine R.assign (h := ?_)
  refine Reg.nil ⟨fun h => (by cases h), ?_⟩
  refine LGo.seq ?_
  refine LGo.seq ?_
  refine LGo.region rfl ?_  -- region 1
  refine R.move (h := ?_)
  first | refine R.len S36 (h := ?_) | refine R.lenRs S36 (h := ?_) | refine R.lenV (run_lenNil S36) (h := ?_)
  rw [spsC_length]
  refine R.bin (run_gtr _ _ _ _ _ _) (h := ?_)
  refine R.move (h := ?_)
  refine R.move (h := ?_)
  first | refine R.len S36 (h := ?_) | refine R.lenRs S36 (h := ?_) | refine R.lenV (run_lenNil S36) (h := ?_)
  rw [spsC_length]
  refine R.bin (run_gtr _ _ _ _ _ _) (h := ?_)
  refine R.or (h := ?_)
  refine Reg.nil ⟨fun h => (by cases h), ?_⟩
  refine LGo.ifb (ht := fun hc => ?_) (hf := fun hc => ?_)
  · -- then 1
    rw [if_pos hc] at ek
    rw [ek, if_neg (by decide)] at e1
    rw [← e1]
    refine LGo.seq ?_
    refine LGo.region rfl ?_  -- region 2
    refine R.assign (h := ?_)
    refine R.assign (h := ?_)
    refine Reg.nil ⟨fun h => (by cases h), ?_⟩
    first | refine LGo.frzT 4 (h := ?_) | refine LGo.nilSl 4 2 (h := ?_) | skip
    exact LGo.ret (ret_TT Tryd.results34 hA hmd)
  · -- else 1
    rw [if_neg (by rw [hc]; simp)] at ek
    refine LGo.skip ?_
    refine LGo.seq ?_
    refine LGo.region rfl ?_  -- region 3
    refine R.move (h := ?_)
    refine R.callP (es := [_]) (fun _ => list_P a ha) (h := ?_)
    refine R.assign (h := ?_)
    refine Reg.nil ⟨fun h => (by cases h), ?_⟩
    refine LGo.seq ?_
    refine LGo.seq ?_
    refine LGo.region rfl ?_  -- region 4
    refine R.move (h := ?_)
    refine R.bin (run_eql _ _ _ _ _ _) (h := ?_)
    refine Reg.nil ⟨fun h => (by cases h), ?_⟩
    refine LGo.ifd (ht := fun hc2 => ?_) (hf := fun hc2 => ?_)
    · -- then 2
      rw [if_pos hc2] at ek
      rw [ek] at e1
      refine LGo.region rfl ?_  -- region 5
      refine R.move (h := ?_)
      refine R.callP (es := [_]) (fun _ => list_P b hb) (h := ?_)
      refine R.assign (h := ?_)
      refine Reg.nil ⟨fun h => (by cases h), ?_⟩
      refine LGo.seq ?_
      refine LGo.seq ?_
      refine LGo.region rfl ?_  -- region 6
      refine R.move (h := ?_)
      refine R.bin (run_neq _ _ _ _ _ _) (h := ?_)
      refine Reg.nil ⟨fun h => (by cases h), ?_⟩
      refine LGo.ifb (ht := fun hc3 => ?_) (hf := fun hc3 => ?_)
      · -- then 3
        rw [if_neg (by simpa using hc3)] at e1
        rw [← e1]
        refine LGo.seq ?_
        refine LGo.region rfl ?_  -- region 7
        refine R.move (h := ?_)
        refine R.assign (h := ?_)
        refine R.assign (h := ?_)
        refine Reg.nil ⟨fun h => (by cases h), ?_⟩
        first | refine LGo.frzT 4 (h := ?_) | refine LGo.nilSl 4 2 (h := ?_) | skip
        exact LGo.ret (ret_TT Tryd.results34 hA hmd)
      · -- else 3
        rw [if_pos (by simpa using hc3)] at e1
        rw [← e1]
        refine LGo.skip ?_
        refine LGo.seq ?_
        refine LGo.region rfl ?_  -- region 8
        refine R.move (h := ?_)
        refine R.move (h := ?_)
        refine R.callP (es := [_, _]) (fun _ => set_P a b ha hb) (h := ?_)
        refine R.assign (h := ?_)
        refine R.assign (h := ?_)
        refine Reg.nil ⟨fun h => (by cases h), ?_⟩
        first | refine LGo.frzT 4 (h := ?_) | refine LGo.nilSl 4 2 (h := ?_) | skip
        exact LGo.ret (ret_TT Tryd.results34 hA hmd)
    · -- else 2
      rw [if_neg hc2] at ek
      rw [ek, if_neg hc2] at e1
      rw [← e1]
      refine LGo.skip ?_
      refine LGo.seq ?_
      refine LGo.seq ?_
      refine LGo.region rfl ?_  -- region 6
      refine R.move (h := ?_)
      refine R.bin (run_neq _ _ _ _ _ _) (h := ?_)
      refine Reg.nil ⟨fun h => (by cases h), ?_⟩
      refine LGo.ifb (ht := fun hc4 => ?_) (hf := fun hc4 => by exfalso; simp at hc4; exact hc2 hc4)
      refine LGo.seq ?_
      refine LGo.region rfl ?_  -- region 7
      refine R.move (h := ?_)
      refine R.assign (h := ?_)
      refine R.assign (h := ?_)
      refine Reg.nil ⟨fun h => (by cases h), ?_⟩
      first | refine LGo.frzT 4 (h := ?_) | refine LGo.nilSl 4 2 (h := ?_) | skip
      exact LGo.ret (ret_TT Tryd.results34 hA hmd)

theorem runion_P (l : List Sp) (hl : l.length ≤ 100000) : PC Tryd.prog 33 [.sv (.sl 2 (spsC l))] (.tup [.sv (.sl 2 (spsC (rminT l []).1)), .i (rminT l []).2]) := by
  refine ⟨LC.of_go Tryd.func33 (c := _) rfl (by kernel_rfl) (by rw [Tryd.ntmps33]; simp) rfl rfl (by simp [LO.lt, LV.lts, LV.lt]) (by simp) ?_⟩
  intro B hA hmd
  refine LGo.seq ?_
  refine LGo.region rfl ?_  -- region 0
  refine R.assign (h := ?_)
  refine R.assign (h := ?_)
  refine Reg.nil ⟨fun h => (by cases h), ?_⟩
  refine LGo.seq ?_
  refine LGo.region rfl ?_  -- region 1
  refine R.move (h := ?_)
  refine R.callP (es := [_, _]) (fun _ => PC.nil1 (rminus_P l [] hl (by simp))) (h := ?_)
  refine R.extract (h := ?_)
  refine R.extract (h := ?_)
  refine R.assign (h := ?_)
  refine R.assign (h := ?_)
  refine Reg.nil ⟨fun h => (by cases h), ?_⟩
  first | refine LGo.frzT 2 (h := ?_) | refine LGo.nilSl 2 2 (h := ?_) | skip
  exact LGo.ret (ret_TT Tryd.results33 hA hmd)

theorem rtotal_P (l : List Sp) (hl : l.length ≤ 100000) : PC Tryd.prog 35 [.sv (.sl 2 (spsC l))] (.tup [.i (rtotT l).1, .i (rtotT l).2]) := by
  refine ⟨LC.of_go Tryd.func35 (c := _) rfl (by kernel_rfl) (by rw [Tryd.ntmps35]; simp) rfl rfl (by simp [LO.lt, LV.lts, LV.lt]) (by simp) ?_⟩
  intro B hA hmd
  have hsl := setS_len l []
  have hml : (rminT l []).1.length ≤ 400000 := by
    unfold rminT; split
    · simp at hsl ⊢; omega
    · simp
  unfold rtotT
  refine LGo.seq ?_
  refine LGo.region rfl ?_  -- region 0
  refine R.assign (h := ?_)
  refine R.assign (h := ?_)
  refine Reg.nil ⟨fun h => (by cases h), ?_⟩
  refine LGo.seq ?_
  refine LGo.region rfl ?_  -- region 1
  refine R.move (h := ?_)
  refine R.callP (es := [_]) (fun _ => runion_P l hl) (h := ?_)
  refine R.move (h := ?_)
  refine R.extract (h := ?_)
  refine R.extract (h := ?_)
  refine R.assign (h := ?_)
  refine R.assign (h := ?_)
  refine Reg.nil ⟨fun h => (by cases h), ?_⟩
  generalize (rminT l []).1 = zs at *
  generalize (rminT l []).2 = ee at *
  refine LGo.seq ?_
  refine LGo.region rfl ?_  -- region 2
  refine R.assign (h := ?_)
  refine Reg.nil ⟨fun h => (by cases h), ?_⟩
  refine LGo.seq ?_
  refine LGo.seq ?_
  refine LGo.region rfl ?_  -- region 3
  refine R.assign (h := ?_)
  refine Reg.nil ⟨fun h => (by cases h), ?_⟩
  refine LGo.block ?_
  refine LGo.loop ?_
  refine LGo.loopG (σ := Nat × Int) (fun x => x.1 ≤ zs.length ∧ rtotGo 0 zs = rtotGo x.2 (zs.drop x.1)) (fun x => [(7, (true, .i (x.1 : Nat))), (6, (true, .i x.2))]) (fun x => []) (fun x => zs.length - x.1) ((0, 0)) [(4, _), (5, _)] ⟨by simp, by simp⟩ (by repeat (first | exact trivial | refine ⟨rfl, ?_⟩)) (by repeat (first | exact trivial | refine ⟨rfl, ?_⟩)) (by repeat (first | exact trivial | refine ⟨rfl, ?_⟩)) ?_
  rintro ⟨k, n⟩ ⟨hk, hq⟩ ih
  dsimp only at * 
  refine LGo.seq ?_
  refine LGo.seq ?_
  refine LGo.region rfl ?_  -- region 4
  refine R.move (h := ?_)
  refine R.move (h := ?_)
  first | refine R.len S36 (h := ?_) | refine R.lenRs S36 (h := ?_) | refine R.lenV (run_lenNil S36) (h := ?_)
  rw [spsC_length]
  refine R.bin (run_lss _ _ _ _ _ _) (h := ?_)
  refine Reg.nil ⟨fun h => (by cases h), ?_⟩
  refine LGo.ifd (ht := fun hc => ?_) (hf := fun hc => ?_)
  · -- then 1
    have hlt : k < zs.length := by omega
    have hx : (spsC zs)[((k : Nat) : Int).toNat]? = some (spC zs[k]) := by simp [spsC, hlt]
    rw [List.drop_eq_getElem_cons hlt] at hq
    generalize zs[k] = s at hx hq
    simp only [rtotGo, List.foldl_cons] at hq
    refine LGo.skip ?_
    refine LGo.seq ?_
    refine LGo.block ?_
    refine LGo.region rfl ?_  -- region 6 DRAWS
    refine R.move (h := ?_)
    refine R.move (h := ?_)
    refine R.move (h := ?_)
    refine R.index I36 (hj := fun hg => ⟨by omega, hx⟩) (h := ?_)
    first | refine R.field F43_1 (h := ?_) | refine R.fieldAt F43_1 (h := ?_)
    first | refine R.loadB O2 (h := ?_) | refine R.load1 O2 (h := ?_)
    refine R.addW (h := ?_)
    refine R.move (h := ?_)
    refine R.move (h := ?_)
    refine R.index I36 (hj := fun hg => ⟨by omega, hx⟩) (h := ?_)
    first | refine R.field F43_0 (h := ?_) | refine R.fieldAt F43_0 (h := ?_)
    first | refine R.loadB O2 (h := ?_) | refine R.load1 O2 (h := ?_)
    refine R.subW (h := ?_)
    refine R.assign (h := ?_)
    refine Reg.nil ⟨fun _ => ⟨mixedO, by rfl, by rfl⟩, ?_⟩
    refine LGo.inBlock ?_
    refine LGo.region rfl ?_  -- region 5
    refine R.move (h := ?_)
    first | refine R.add (h := ?_) | refine R.addW (h := ?_)
    refine R.assign (h := ?_)
    refine Reg.nil ⟨fun h => (by cases h), ?_⟩
    refine LGo.inLoop ?_
    exact LGo.next _ (fun o h => by have := (hA o).1 h; omega) (by omega) (ih (k + 1, IntKind.i64.wrap (IntKind.i64.wrap (n + s.2) - s.1)) ⟨hlt, hq⟩ (by dsimp only; omega)) (by repeat (first | exact trivial | refine ⟨rfl, ?_⟩)) (by repeat (first | exact trivial | refine ⟨rfl, ?_⟩))
  · -- else 1
    obtain rfl : rtotGo 0 zs = n := by
      have hk' : k = zs.length := by omega
      subst hk'
      rw [List.drop_length] at hq
      exact hq
    refine LGo.exit rfl ?_
    refine LGo.seq ?_
    refine LGo.region rfl ?_  -- region 7
    refine R.move (h := ?_)
    refine R.move (h := ?_)
    refine R.assign (h := ?_)
    refine R.assign (h := ?_)
    refine Reg.nil ⟨fun h => (by cases h), ?_⟩
    exact LGo.ret (ret_TT Tryd.results35 hA hmd)

end Go.Proofs.YtcekeipkofblmaaDoor
