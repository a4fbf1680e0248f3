/- TimesSame. -/
import Derived.Test.YtcekeipkofblmaaDoorX3
set_option linter.unusedSimpArgs false
set_option linter.unusedVariables false
namespace Go.Proofs.YtcekeipkofblmaaDoor

def backS (a : List Sp) (k : Nat) : List Sp := (a.drop (a.length - k)).reverse
theorem backS_len {a : List Sp} {k : Nat} (h : k ≤ a.length) : (backS a k).length = k := by simp [backS]; omega
theorem backS_step {a : List Sp} {k : Nat} (h : k < a.length) : backS a k ++ [a[a.length - 1 - k]] = backS a (k + 1) := by
  have h1 : a.length - 1 - k < a.length := by omega
  unfold backS
  rw [show a.length - (k + 1) = a.length - 1 - k from by omega, List.drop_eq_getElem_cons h1, List.reverse_cons, show a.length - 1 - k + 1 = a.length - k from by omega]
theorem backS_all (a : List Sp) : backS a a.length = a.reverse := by simp [backS]
theorem spsC_back {a : List Sp} {k : Nat} (h : k < a.length) : (spsC a)[((a.length : Int) - 1 - (k : Nat)).toNat]? = some (spC a[a.length - 1 - k]) := by
  rw [show ((a.length : Int) - 1 - (k : Nat)).toNat = a.length - 1 - k from by omega]
  have h1 : a.length - 1 - k < a.length := by omega
  simp [spsC, h1]

theorem tsame_P (a b : List Sp) : PC Tryd.prog 8 [.sv (.sl 2 (spsC a)), .sv (.sl 2 (spsC b))] (.b true) := by
  refine ⟨LC.of_go Tryd.func8 (c := _) rfl (by kernel_rfl) (by rw [Tryd.ntmps8]; simp) rfl rfl (by simp [LO.lt, LV.lts, LV.lt]) (by simp) ?_⟩
  intro B hA hmd
  refine LGo.seq ?_
  refine LGo.region rfl ?_  -- region 0
  refine R.assign (h := ?_)
  refine Reg.nil ⟨fun h => (by cases h), ?_⟩
  refine LGo.seq ?_
  refine LGo.seq ?_
  refine LGo.region rfl ?_  -- region 1
  refine R.move (h := ?_)
  refine R.callP (es := [_]) (fun _ => far_P a) (h := ?_)
  refine R.move (h := ?_)
  refine R.move (h := ?_)
  refine R.callP (es := [_]) (fun _ => far_P b) (h := ?_)
  refine R.or (h := ?_)
  refine Reg.nil ⟨fun h => (by cases h), ?_⟩
  refine LGo.ifb (ht := fun hc => ?_) (hf := fun hc => ?_)
  · -- then 1
    refine LGo.seq ?_
    refine LGo.region rfl ?_  -- region 2
    refine R.callP (es := []) (fun _ => awake_P) (h := ?_)
    refine R.assign (h := ?_)
    refine Reg.nil ⟨fun h => (by cases h), ?_⟩
    exact LGo.ret (ret_T Tryd.results8 hA hmd)
  · -- else 1
    obtain ⟨hfa, hfb⟩ : farS a = false ∧ farS b = false := by simpa using hc
    have hla := farS_f hfa
    have hlb := farS_f hfb
    have hcm := minusT_cases a b
    refine LGo.skip ?_
    refine LGo.seq ?_
    refine LGo.region rfl ?_  -- region 3
    refine R.move (h := ?_)
    refine R.callP (es := [_]) (fun _ => Union_P a (by omega)) (h := ?_)
    refine R.move (h := ?_)
    refine R.extract (h := ?_)
    refine R.extract (h := ?_)
    refine R.assign (h := ?_)
    refine R.assign (h := ?_)
    refine Reg.nil ⟨fun h => (by cases h), ?_⟩
    refine LGo.seq ?_
    refine LGo.region rfl ?_  -- region 4
    refine R.move (h := ?_)
    refine R.move (h := ?_)
    refine R.callP (es := [_, _]) (fun _ => Minus_P a b (by omega) (by omega)) (h := ?_)
    refine R.move (h := ?_)
    refine R.extract (h := ?_)
    refine R.extract (h := ?_)
    refine R.assign (h := ?_)
    refine R.assign (h := ?_)
    refine Reg.nil ⟨fun h => (by cases h), ?_⟩
    refine LGo.seq ?_
    refine LGo.seq ?_
    refine LGo.region rfl ?_  -- region 5
    refine R.move (h := ?_)
    refine R.bin (run_neq _ _ _ _ _ _) (h := ?_)
    refine R.move (h := ?_)
    refine R.move (h := ?_)
    refine R.bin (run_neq _ _ _ _ _ _) (h := ?_)
    refine R.or (h := ?_)
    refine Reg.nil ⟨fun h => (by cases h), ?_⟩
    refine LGo.ifb (ht := fun hc2 => ?_) (hf := fun hc2 => ?_)
    · -- then 2
      refine LGo.seq ?_
      refine LGo.region rfl ?_  -- region 6
      refine R.callP (es := []) (fun _ => awake_P) (h := ?_)
      refine R.assign (h := ?_)
      refine Reg.nil ⟨fun h => (by cases h), ?_⟩
      exact LGo.ret (ret_T Tryd.results8 hA hmd)
    · -- else 2
      obtain ⟨⟨ha, hav⟩, hb, hbv⟩ : (a.length ≤ 200 ∧ ∀ s ∈ a, Val s) ∧ (b.length ≤ 200 ∧ ∀ s ∈ b, Val s) := by
        rcases hcm with ⟨_, h2⟩ | ⟨h1, _⟩
        · exact h2
        · simp [h1] at hc2
      have ha6 : a.length ≤ 60 := by omega
      have hb6 : b.length ≤ 60 := by omega
      clear hcm hc2 hla hlb hfa hfb
      rw [unionT_ok ha hav, minusT_ok ha hav hb hbv]
      dsimp only
      obtain ⟨uc, um⟩ := union_can hav
      obtain ⟨mc, mm, ml⟩ := minus_can hav hbv
      have ul := unionS_len a
      have hrev := union_rev hav
      have hparts := tot_parts hav hbv
      have htota := totT_ok ha hav
      generalize unionS a = u at uc um ul hrev hparts htota ⊢
      generalize minusS a b = m at mc mm ml hparts ⊢
      obtain ⟨gc, gm, gl⟩ := minus_can hav mc.1
      have hgo := minusT_ok ha hav (by omega) mc.1
      generalize minusS a m = g at gc gm gl hparts hgo
      have hutu := unionT_ok (l := u) (by omega) uc.1
      rw [union_idem uc] at hutu
      have hutr := unionT_ok (l := a.reverse) (by simpa using ha) (fun s hs => hav s (by simpa using hs))
      rw [hrev] at hutr
      have htu := totT_ok (l := u) (by omega) uc.1
      rw [union_idem uc] at htu
      have htm := totT_ok (l := m) (by omega) mc.1
      rw [union_idem mc] at htm
      have htg := totT_ok (l := g) (by omega) gc.1
      rw [union_idem gc] at htg
      refine LGo.skip ?_
      refine LGo.seq ?_
      refine LGo.region rfl ?_  -- region 7
      refine R.assign (h := ?_)
      refine Reg.nil ⟨fun h => (by cases h), ?_⟩
      refine LGo.seq ?_
      refine LGo.seq ?_
      refine LGo.region rfl ?_  -- region 8
      refine R.move (h := ?_)
      first | refine R.len S36 (h := ?_) | refine R.lenRs S36 (h := ?_) | refine R.lenV (run_lenNil S36) (h := ?_)
      rw [spsC_length]
      first | refine R.sub (h := ?_) | refine R.subW (h := ?_)
      rw [show (a.length : Int) - 1 = (a.length : Int) - 1 - ((0 : Nat) : Int) from by omega]
      refine R.assign (h := ?_)
      refine Reg.nil ⟨fun h => (by cases h), ?_⟩
      refine LGo.block ?_
      refine LGo.loop ?_
      refine LGo.nilRs 9 43 2 (h := ?_)
      refine LGo.loopG (σ := Nat × List Sp) (fun x => x.1 ≤ a.length ∧ x.2 = backS a x.1) (fun x => [(10, (true, .i ((a.length : Int) - 1 - (x.1 : Nat)))), (9, (true, .ref 0))]) (fun x => [(0, .rs 43 2 (spsC x.2))]) (fun x => a.length - x.1) ((0, [])) [(0, _), (5, _), (7, _)] ⟨by simp, by simp [backS]⟩ (by repeat (first | exact trivial | refine ⟨rfl, ?_⟩)) (by repeat (first | exact trivial | refine ⟨rfl, ?_⟩)) (by repeat (first | exact trivial | refine ⟨rfl, ?_⟩)) ?_
      rintro ⟨k, acc⟩ ⟨hk, hacc⟩ ih
      dsimp only at * 
      subst hacc
      refine LGo.seq ?_
      refine LGo.seq ?_
      refine LGo.region rfl ?_  -- region 9
      refine R.move (h := ?_)
      refine R.bin (run_geq _ _ _ _ _ _) (h := ?_)
      refine Reg.nil ⟨fun h => (by cases h), ?_⟩
      refine LGo.ifd (ht := fun hc3 => ?_) (hf := fun hc3 => ?_)
      · -- then 3
        have hlt : k < a.length := by omega
        have hx := spsC_back hlt
        have hst := backS_step hlt
        have hbl := backS_len hk
        generalize a[a.length - 1 - k] = x at hx hst
        refine LGo.skip ?_
        refine LGo.seq ?_
        refine LGo.block ?_
        refine LGo.region rfl ?_  -- region 11
        refine R.move (h := ?_)
        refine R.move (h := ?_)
        refine R.move (h := ?_)
        refine R.index I36 (hj := fun hg => ⟨by omega, hx⟩) (h := ?_)
        first | refine R.loadA A43 (h := ?_) | refine R.loadN A43 (h := ?_)
        refine R.buildSliceG AP36 (xs := [_]) (es := [_]) (ys := [spC x]) (hcs := CellsOfs.cons (CellsOf.agg rfl) CellsOfs.nil) (hys := rfl) (h := ?_)
        refine R.appendS AP36 (hs := SrcOk.sl Tryd.underlying36 (by simp; rfl)) (hlen := by rw [spsC_length, hbl]; simp; omega) (h := ?_)
        rw [spsC_snoc, hst]
        refine R.assign (h := ?_)
        refine Reg.nil ⟨fun h => (by cases h), ?_⟩
        refine LGo.inBlock ?_
        refine LGo.region rfl ?_  -- region 10
        refine R.move (h := ?_)
        first | refine R.sub (h := ?_) | refine R.subW (h := ?_)
        rw [show (a.length : Int) - 1 - (k : Nat) - 1 = (a.length : Int) - 1 - ((k + 1 : Nat) : Int) from by omega]
        refine R.assign (h := ?_)
        refine Reg.nil ⟨fun h => (by cases h), ?_⟩
        refine LGo.inLoop ?_
        exact LGo.turn [1] (b := 0) (fun o h => by have := (hA o).1 h; omega) (ih (k + 1, backS a (k + 1)) ⟨hlt, rfl⟩ (by dsimp only; omega)) (by repeat (first | exact trivial | refine ⟨rfl, ?_⟩)) (by repeat (first | exact trivial | refine ⟨rfl, ?_⟩))
      · -- else 3
        have hk2 : k = a.length := by omega
        subst hk2
        rw [backS_all]
        refine LGo.exit rfl ?_
        refine LGo.seq ?_
        refine LGo.region rfl ?_  -- region 12
        refine R.move (h := ?_)
        refine R.callP (es := [_]) (fun _ => Union_P u (by omega)) (h := ?_)
        rw [hutu]
        refine R.move (h := ?_)
        refine R.extract (h := ?_)
        refine R.extract (h := ?_)
        refine R.assign (h := ?_)
        refine R.assign (h := ?_)
        refine Reg.nil ⟨fun h => (by cases h), ?_⟩
        refine LGo.frz 0 (h := ?_)
        refine LGo.seq ?_
        refine LGo.region rfl ?_  -- region 13
        refine R.move (h := ?_)
        refine R.callP (es := [_]) (fun _ => Union_P a.reverse (by simp; omega)) (h := ?_)
        rw [hutr]
        refine R.move (h := ?_)
        refine R.extract (h := ?_)
        refine R.extract (h := ?_)
        refine R.assign (h := ?_)
        refine R.assign (h := ?_)
        refine Reg.nil ⟨fun h => (by cases h), ?_⟩
        refine LGo.seq ?_
        refine LGo.seq ?_
        refine LGo.region rfl ?_  -- region 14
        refine R.move (h := ?_)
        refine R.bin (run_neq _ _ _ _ _ _) (h := ?_)
        refine R.move (h := ?_)
        refine R.move (h := ?_)
        refine R.bin (run_neq _ _ _ _ _ _) (h := ?_)
        refine R.or (h := ?_)
        refine R.move (h := ?_)
        refine R.move (h := ?_)
        refine R.move (h := ?_)
        refine R.callP (es := [_, _]) (fun _ => same_self_P u (by omega)) (h := ?_)
        refine R.not (h := ?_)
        refine R.or (h := ?_)
        refine R.move (h := ?_)
        refine R.move (h := ?_)
        refine R.move (h := ?_)
        refine R.callP (es := [_, _]) (fun _ => same_self_P u (by omega)) (h := ?_)
        refine R.not (h := ?_)
        refine R.or (h := ?_)
        refine Reg.nil ⟨fun h => (by cases h), ?_⟩
        refine LGo.ifb (ht := fun hc4 => by simp at hc4) (hf := fun hc4 => ?_)
        refine LGo.skip ?_
        refine LGo.seq ?_
        refine LGo.region rfl ?_  -- region 16
        refine R.move (h := ?_)
        refine R.move (h := ?_)
        refine R.callP (es := [_, _]) (fun _ => Minus_P a m (by omega) (by omega)) (h := ?_)
        rw [hgo]
        refine R.move (h := ?_)
        refine R.extract (h := ?_)
        refine R.extract (h := ?_)
        refine R.assign (h := ?_)
        refine R.assign (h := ?_)
        refine Reg.nil ⟨fun h => (by cases h), ?_⟩
        refine LGo.seq ?_
        refine LGo.region rfl ?_  -- region 17
        refine R.move (h := ?_)
        refine R.callP (es := [_]) (fun _ => Total_P a (by omega)) (h := ?_)
        rw [htota]
        refine R.move (h := ?_)
        refine R.extract (h := ?_)
        refine R.extract (h := ?_)
        refine R.assign (h := ?_)
        refine R.assign (h := ?_)
        refine Reg.nil ⟨fun h => (by cases h), ?_⟩
        refine LGo.seq ?_
        refine LGo.region rfl ?_  -- region 18
        refine R.move (h := ?_)
        refine R.callP (es := [_]) (fun _ => Total_P u (by omega)) (h := ?_)
        rw [htu]
        refine R.move (h := ?_)
        refine R.extract (h := ?_)
        refine R.extract (h := ?_)
        refine R.assign (h := ?_)
        refine R.assign (h := ?_)
        refine Reg.nil ⟨fun h => (by cases h), ?_⟩
        refine LGo.seq ?_
        refine LGo.region rfl ?_  -- region 19
        refine R.move (h := ?_)
        refine R.callP (es := [_]) (fun _ => Total_P m (by omega)) (h := ?_)
        rw [htm]
        refine R.move (h := ?_)
        refine R.extract (h := ?_)
        refine R.extract (h := ?_)
        refine R.assign (h := ?_)
        refine R.assign (h := ?_)
        refine Reg.nil ⟨fun h => (by cases h), ?_⟩
        refine LGo.seq ?_
        refine LGo.region rfl ?_  -- region 20
        refine R.move (h := ?_)
        refine R.callP (es := [_]) (fun _ => Total_P g (by omega)) (h := ?_)
        rw [htg]
        refine R.move (h := ?_)
        refine R.extract (h := ?_)
        refine R.extract (h := ?_)
        refine R.assign (h := ?_)
        refine R.assign (h := ?_)
        refine Reg.nil ⟨fun h => (by cases h), ?_⟩
        refine LGo.seq ?_
        refine LGo.region rfl ?_  -- region 21
        refine R.move (h := ?_)
        refine R.bin (run_eql _ _ _ _ _ _) (h := ?_)
        refine R.move (h := ?_)
        refine R.move (h := ?_)
        refine R.bin (run_eql _ _ _ _ _ _) (h := ?_)
        refine R.and (h := ?_)
        refine R.move (h := ?_)
        refine R.move (h := ?_)
        refine R.bin (run_eql _ _ _ _ _ _) (h := ?_)
        refine R.and (h := ?_)
        refine R.move (h := ?_)
        refine R.move (h := ?_)
        refine R.bin (run_eql _ _ _ _ _ _) (h := ?_)
        refine R.and (h := ?_)
        refine R.move (h := ?_)
        refine R.move (h := ?_)
        refine R.bin (run_eql _ _ _ _ _ _) (h := ?_)
        refine R.and (h := ?_)
        refine R.move (h := ?_)
        refine R.move (h := ?_)
        refine R.move (h := ?_)
        refine R.bin (run_eql _ _ _ _ _ _) (h := ?_)
        refine R.and (h := ?_)
        refine R.move (h := ?_)
        refine R.move (h := ?_)
        refine R.move (h := ?_)
        refine R.move (h := ?_)
        refine R.addW (h := ?_)
        rw [← hparts]
        refine R.bin (run_eql _ _ _ _ _ _) (h := ?_)
        refine R.and (h := ?_)
        refine R.move (h := ?_)
        refine R.callP (es := []) (fun _ => awake_P) (h := ?_)
        refine R.and (h := ?_)
        refine R.assign (h := ?_)
        refine Reg.nil ⟨fun h => (by cases h), ?_⟩
        refine LGo.eqB 4 true (hb := by simp) (h := ?_)
        exact LGo.ret (ret_T Tryd.results8 hA hmd)

end Go.Proofs.YtcekeipkofblmaaDoor
