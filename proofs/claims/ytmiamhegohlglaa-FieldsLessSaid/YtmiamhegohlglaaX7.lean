/- FieldsLess answers true. -/
import Derived.Test.YtmiamhegohlglaaV
import Derived.Test.YtmiamhegohlglaaC31
import Derived.Test.YtmiamhegohlglaaPL3
import Derived.Test.YtmiamhegohlglaaY1
set_option linter.unusedSimpArgs false
set_option linter.unusedVariables false
namespace Go.Proofs.Ytmiamhegohlglaa

theorem find_sim {t : Int} {q : Rule} : ∀ (rs : List Rule) (j : Nat) (hj : j < rs.length), q.tag = rs[j].tag → q.kind = rs[j].kind → ∀ x y, rs.find? (fun x => decide (Rule.tag x = t)) = some x → (rs.set j q).find? (fun x => decide (Rule.tag x = t)) = some y →
    y.tag = x.tag ∧ y.kind = x.kind
  | [], j, hj, _, _, _, _, _, _ => by simp at hj
  | r :: rs, 0, hj, h1, h2, x, y, hx, hy => by
    simp only [List.getElem_cons_zero] at h1 h2
    rw [List.set_cons_zero] at hy
    by_cases ht : r.tag = t
    · rw [List.find?_cons_of_pos (by simpa using ht)] at hx
      rw [List.find?_cons_of_pos (by simpa [h1] using ht)] at hy
      cases hx; cases hy
      exact ⟨h1, h2⟩
    · rw [List.find?_cons_of_neg (by simpa using ht)] at hx
      rw [List.find?_cons_of_neg (by simpa [h1] using ht)] at hy
      rw [hx] at hy
      cases hy
      exact ⟨rfl, rfl⟩
  | r :: rs, j + 1, hj, h1, h2, x, y, hx, hy => by
    simp only [List.getElem_cons_succ] at h1 h2
    rw [List.set_cons_succ] at hy
    by_cases ht : r.tag = t
    · rw [List.find?_cons_of_pos (by simpa using ht)] at hx
      rw [List.find?_cons_of_pos (by simpa using ht)] at hy
      cases hx; cases hy
      exact ⟨rfl, rfl⟩
    · rw [List.find?_cons_of_neg (by simpa using ht)] at hx
      rw [List.find?_cons_of_neg (by simpa using ht)] at hy
      exact find_sim rs j (by simpa using hj) h1 h2 x y hx hy
theorem checkGo_set {q : Rule} : ∀ (rs : List Rule) (j : Nat) (hj : j < rs.length) (last : Int), q.tag = rs[j].tag → q.kind = rs[j].kind → q.low ≤ q.high → q.high ≤ rs[j].high → checkGo last rs = 0 → checkGo last (rs.set j q) = 0
  | [], j, hj, _, _, _, _, _, _ => by simp at hj
  | r :: rs, 0, hj, last, h1, h2, h3, h4, h => by
    simp only [List.getElem_cons_zero] at h1 h2 h4
    rw [List.set_cons_zero]
    simp only [checkGo] at h ⊢
    split at h
    · cases h
    · rename_i c1
      simp only [Bool.or_eq_true, decide_eq_true_eq] at c1
      rw [if_neg (by simp only [Bool.or_eq_true, decide_eq_true_eq]; omega), h2, h1]
      split at h
      · rename_i c2; rw [if_pos c2]; exact h
      · rename_i c2
        rw [if_neg c2]
        split at h
        · cases h
        · rename_i c3
          simp only [Bool.or_eq_true, decide_eq_true_eq, Bool.not_eq_true', decide_eq_false_iff_not] at c3
          rw [if_neg (by simp only [Bool.or_eq_true, decide_eq_true_eq, Bool.not_eq_true', decide_eq_false_iff_not]; omega)]
          exact h
  | r :: rs, j + 1, hj, last, h1, h2, h3, h4, h => by
    simp only [List.getElem_cons_succ] at h1 h2 h4
    have ih := checkGo_set rs j (by simpa using hj) r.tag h1 h2 h3 h4
    rw [List.set_cons_succ]
    simp only [checkGo] at h ⊢
    split at h
    · cases h
    · rename_i c1
      rw [if_neg c1]
      split at h
      · rename_i c2; rw [if_pos c2]; exact ih h
      · rename_i c2
        rw [if_neg c2]
        split at h
        · cases h
        · rename_i c3; rw [if_neg c3]; exact ih h
theorem check_set {q : Rule} {rs : List Rule} {j : Nat} (hj : j < rs.length) (h1 : q.tag = rs[j].tag) (h2 : q.kind = rs[j].kind) (h3 : q.low ≤ q.high) (h4 : q.high ≤ rs[j].high) (h : check rs = 0) : check (rs.set j q) = 0 := by
  unfold check at h ⊢
  rw [List.length_set]
  split at h
  · cases h
  · rename_i c; rw [if_neg c]; exact checkGo_set rs j hj 0 h1 h2 h3 h4 h
theorem less_law {q : Rule} {rs : List Rule} {j : Nat} {b : List UInt8} {l : List Fld} (hj : j < rs.length) (h1 : q.tag = rs[j].tag) (h2 : q.kind = rs[j].kind) (h3 : q.low ≤ q.high) (h4 : q.high ≤ rs[j].high) (hc : check rs = 0)
    (hd : decF rs b.length (needs rs) 0 b = (l, [], [])) : ((decode (rs.set j q) b).2.2 = 11 ∧ (decode (rs.set j q) b).1 = []) ∨ ((decode (rs.set j q) b).2.2 = 0 ∧ (decode (rs.set j q) b).1 = l) := by
  rcases decode_cases (rs.set j q) b with ⟨e, _⟩ | ⟨_, _, _, _, e⟩ | ⟨_, l', e, hd'⟩
  · exact absurd (check_set hj h1 h2 h3 h4 hc) e
  · rw [e]; exact .inl ⟨rfl, rfl⟩
  · rw [e]
    refine .inr ⟨rfl, ?_⟩
    refine (decF_G (fun t ht ht' => ?_) b.length _ _ 0 b _ _ _ _ hd hd').symm
    unfold ruleHas at ht ht'
    obtain ⟨x, hx⟩ := Option.isSome_iff_exists.1 ht
    obtain ⟨y, hy⟩ := Option.isSome_iff_exists.1 ht'
    have ex : ruleAt t rs = x := by simp [ruleAt, hx]
    have ey : ruleAt t (rs.set j q) = y := by simp [ruleAt, hy]
    rw [ex, ey]
    exact find_sim rs j hj h1 h2 x y hx hy

theorem same_PT (a : List Fld) (h : a.length ≤ 16) : PC Try.prog 15 [.sv (.sl 3 (a.map Fld.c)), .sv (.sl 3 (a.map Fld.c))] (.b true) := by
  have := same_P a a (by omega) (by omega)
  rwa [same_self] at this
theorem check_low {rs : List Rule} (h : check rs = 0) (j : Nat) (hj : j < rs.length) : rs[j].low ≤ rs[j].high := ((check_ok h).2 _ (List.getElem_mem hj)).2.2.1
theorem set_c (rs : List Rule) (j : Nat) (q : Rule) : (rs.map Rule.c).set j q.c = (rs.set j q).map Rule.c := by rw [List.map_set]

theorem fless_P (rs : List Rule) (b : List UInt8) (a lo hi : Int) (m : Bool) (hw : ∀ x ∈ rs, RuleW x) (ha : 0 ≤ a ∧ a < 256) (hlo : 0 ≤ lo ∧ lo < 256) (hhi : 0 ≤ hi ∧ hi < 256) : PC Try.prog 7 [.sv (.sl 5 (rs.map Rule.c)), .sv (.sl 1 (bytesC b)), .agg [.v (.int .u8 a), .v (.int .u8 lo), .v (.int .u8 hi), .b m]] (.b true) := by
  refine ⟨LC.of_go Try.func7 (c := _) rfl (by kernel_rfl) (by rw [Try.ntmps7]; simp) rfl rfl (by simp [LO.lt, LV.lts, LV.lt]) (by simp) ?_⟩
  intro B hA hmd
  refine LGo.seq ?_
  refine LGo.region rfl ?_  -- region 0
  refine R.box (h := ?_)
  refine R.assign (h := ?_)
  refine Reg.nil ⟨fun h => (by cases h), ?_⟩
  refine LGo.seq ?_
  refine LGo.seq ?_
  refine LGo.region rfl ?_  -- region 1
  refine R.move (h := ?_)
  refine R.callP (es := [_, _]) (fun _ => (PC.nil1 (far_P rs []))) (h := ?_)
  refine R.move (h := ?_)
  refine R.move (h := ?_)
  first | refine R.len S23 (h := ?_) | refine R.lenRs S23 (h := ?_) | refine R.lenV (run_lenNil S23) (h := ?_)
  rw [bytesC_length]
  refine R.bin (run_gtr _ _ _ _ _ _) (h := ?_)
  refine R.or (h := ?_)
  refine R.move (h := ?_)
  refine R.move (h := ?_)
  first | refine R.len S22 (h := ?_) | refine R.lenRs S22 (h := ?_) | refine R.lenV (run_lenNil S22) (h := ?_)
  rw [List.length_map]
  refine R.bin (run_eql _ _ _ _ _ _) (h := ?_)
  refine R.or (h := ?_)
  refine Reg.nil ⟨fun h => (by cases h), ?_⟩
  first | refine LGo.ifd (ht := fun hc => ?_) (hf := fun hc => ?_) | refine LGo.ifb (ht := fun hc => ?_) (hf := fun hc => ?_)
  · -- then 1
    refine LGo.seq ?_
    refine LGo.region rfl ?_  -- region 2
    refine R.callP (es := []) (fun _ => shown_P) (h := ?_)
    refine R.assign (h := ?_)
    refine Reg.nil ⟨fun h => (by cases h), ?_⟩
    exact LGo.ret (ret_T Try.results7 hA hmd)
  · -- else 1
    obtain ⟨hr, hb, hr0⟩ : rs.length ≤ 20 ∧ b.length ≤ 8000 ∧ 0 < rs.length := by
      simp only [Bool.or_eq_false_iff, decide_eq_false_iff_not] at hc
      obtain ⟨⟨c1, c2⟩, c3⟩ := hc
      have := (far_false c1).1
      exact ⟨this, by omega, by omega⟩
    refine LGo.skip ?_
    refine LGo.seq ?_
    refine LGo.region rfl ?_  -- region 3
    refine R.move (h := ?_)
    refine R.move (h := ?_)
    refine R.callP (es := [_, _]) (fun _ => decode_P rs b (by omega) (by omega)) (h := ?_)
    refine R.move (h := ?_)
    refine R.extract (h := ?_)
    refine R.extract (h := ?_)
    refine R.extract (h := ?_)
    refine R.assign (h := ?_)
    refine R.assign (h := ?_)
    refine R.assign (h := ?_)
    refine Reg.nil ⟨fun h => (by cases h), ?_⟩
    refine LGo.seq ?_
    refine LGo.seq ?_
    refine LGo.region rfl ?_  -- region 4
    refine R.move (h := ?_)
    refine R.bin (run_neq _ _ _ _ _ _) (h := ?_)
    refine Reg.nil ⟨fun h => (by cases h), ?_⟩
    refine LGo.ifb (ht := fun hc2 => ?_) (hf := fun hc2 => ?_)
    · -- then 2
      refine LGo.seq ?_
      refine LGo.region rfl ?_  -- region 5
      refine R.callP (es := []) (fun _ => shown_P) (h := ?_)
      refine R.assign (h := ?_)
      refine Reg.nil ⟨fun h => (by cases h), ?_⟩
      exact LGo.ret (ret_T Try.results7 hA hmd)
    · -- else 2
      have hck : check rs = 0 ∧ ∃ l, decode rs b = (l, 0, 0) ∧ decF rs b.length (needs rs) 0 b = (l, [], []) := by
        have hz : (decode rs b).2.2 = 0 := by simpa using hc2
        rcases decode_cases rs b with ⟨h1, e⟩ | ⟨_, _, _, _, e⟩ | ⟨h1, l, e, hd⟩
        · rw [e] at hz; exact absurd hz h1
        · rw [e] at hz; simp at hz
        · exact ⟨h1, l, e, hd⟩
      obtain ⟨hck, l, edec, hdF⟩ := hck
      have hdl := decode_len rs b
      rw [edec] at hdl
      rw [edec]
      dsimp only at hdl ⊢
      refine LGo.skip ?_
      refine LGo.seq ?_
      refine LGo.region rfl ?_  -- region 6
      refine R.buildSliceR AP22 (xs := []) (es := []) (cs := []) (ys := []) (hcs := CellsOfs.nil) (hys := rfl) (h := ?_)
      refine R.move (h := ?_)
      refine R.appendS AP22 (hs := SrcOk.sl Try.underlying22 (by simp; intro a _; rfl)) (hlen := by simp; omega) (h := ?_)
      rw [List.nil_append]
      refine R.assign (h := ?_)
      refine Reg.nil ⟨fun h => (by cases h), ?_⟩
      refine LGo.seq ?_
      refine LGo.region rfl ?_  -- region 7
      refine R.move (h := ?_)
      first | refine R.field F43_0 (h := ?_) | refine R.fieldAt F43_0 (h := ?_)
      first | refine R.loadB O5 (h := ?_) | refine R.load1 O5 (h := ?_)
      first | refine R.convI Try.runUnderlying5 Try.runUnderlying3 (h := ?_) | refine R.convW Try.runUnderlying5 Try.runUnderlying3 (h := ?_)
      refine R.move (h := ?_)
      first | refine R.len S22 (h := ?_) | refine R.lenRs S22 (h := ?_) | refine R.lenV (run_lenNil S22) (h := ?_)
      rw [List.length_map]
      refine R.rem (h := ?_)
      have hm0 : 0 ≤ a % (rs.length : Int) := Int.emod_nonneg _ (by omega)
      have hm1 : a % (rs.length : Int) < (rs.length : Int) := Int.emod_lt_of_pos _ (by omega)
      obtain ⟨j, hj⟩ : ∃ j : Nat, a % (rs.length : Int) = j := ⟨(a % (rs.length : Int)).toNat, by omega⟩
      rw [hj] at hm0 hm1 ⊢
      have hjl : j < rs.length := by omega
      have hlw := check_low hck j hjl
      have hrw := hw rs[j] (List.getElem_mem hjl)
      have hxj : (rs.map Rule.c)[j]? = some (rs[j].c) := by simp [hjl]
      unfold RuleW at hrw
      refine R.indexRs I22 (hj := fun _ => ⟨by omega, by rw [List.length_map]; omega⟩) (h := ?_)
      refine R.loadRsN A45 j (hj := fun _ => hxj) (hoff := by rw [Int.toNat_natCast]) (h := ?_)
      refine R.alloc Z45 (h := ?_)
      refine R.storeA A45 (h := ?_)
      refine Reg.nil ⟨fun h => (by cases h), ?_⟩
      refine LGo.seq ?_
      refine LGo.seq ?_
      refine LGo.region rfl ?_  -- region 8
      first | refine R.field F43_1 (h := ?_) | refine R.fieldAt F43_1 (h := ?_)
      first | refine R.loadB O5 (h := ?_) | refine R.load1 O5 (h := ?_)
      first | refine R.convI Try.runUnderlying5 Try.runUnderlying32 (h := ?_) | refine R.convW Try.runUnderlying5 Try.runUnderlying32 (h := ?_)
      first | refine R.field F45_3 (h := ?_) | refine R.fieldAt F45_3 (h := ?_)
      first | refine R.loadB O32 (h := ?_) | refine R.load1 O32 (h := ?_)
      first | refine R.field F45_2 (h := ?_) | refine R.fieldAt F45_2 (h := ?_)
      first | refine R.loadB O32 (h := ?_) | refine R.load1 O32 (h := ?_)
      first | refine R.sub (h := ?_) | refine R.subW (h := ?_)
      refine R.bin (run_leq _ _ _ _ _ _) (h := ?_)
      refine Reg.nil ⟨fun h => (by cases h), ?_⟩
      refine LGo.cut (σ := Rule) (fun x => x.tag = rs[j].tag ∧ x.kind = rs[j].kind ∧ 0 ≤ x.low ∧ x.low ≤ x.high ∧ x.high ≤ rs[j].high) (fun x => []) (fun x => [(0, .box 43 [.v (.int .u8 a), .v (.int .u8 lo), .v (.int .u8 hi), .b m]), (2, .rs 45 5 (rs.map Rule.c)), (3, .box 45 (Rule.c x |>.map LV.sv))]) 4 [(1, _), (5, _), (7, _), (10, _), (11, _)] (by repeat (first | exact trivial | refine ⟨rfl, ?_⟩)) ?_ (fun hcut => ?_)
      · -- the cond C3
        rintro r1 ⟨q1, q2, q3, q4, q5⟩
        refine LGo.seq ?_
        refine LGo.seq ?_
        refine LGo.region rfl ?_  -- region 10
        first | refine R.field F43_2 (h := ?_) | refine R.fieldAt F43_2 (h := ?_)
        first | refine R.loadB O5 (h := ?_) | refine R.load1 O5 (h := ?_)
        first | refine R.convI Try.runUnderlying5 Try.runUnderlying32 (h := ?_) | refine R.convW Try.runUnderlying5 Try.runUnderlying32 (h := ?_)
        first | refine R.field F45_3 (h := ?_) | refine R.fieldAt F45_3 (h := ?_)
        first | refine R.loadB O32 (h := ?_) | refine R.load1 O32 (h := ?_)
        first | refine R.field F45_2 (h := ?_) | refine R.fieldAt F45_2 (h := ?_)
        first | refine R.loadB O32 (h := ?_) | refine R.load1 O32 (h := ?_)
        first | refine R.sub (h := ?_) | refine R.subW (h := ?_)
        refine R.bin (run_leq _ _ _ _ _ _) (h := ?_)
        refine Reg.nil ⟨fun h => (by cases h), ?_⟩
        refine LGo.cut (σ := Rule) (fun x => x.tag = rs[j].tag ∧ x.kind = rs[j].kind ∧ 0 ≤ x.low ∧ x.low ≤ x.high ∧ x.high ≤ rs[j].high) (fun x => []) (fun x => [(0, .box 43 [.v (.int .u8 a), .v (.int .u8 lo), .v (.int .u8 hi), .b m]), (2, .rs 45 5 (rs.map Rule.c)), (3, .box 45 (Rule.c x |>.map LV.sv))]) 4 [(1, _), (5, _), (7, _), (10, _), (11, _)] (by repeat (first | exact trivial | refine ⟨rfl, ?_⟩)) ?_ (fun hcut => ?_)
        · -- the cond C4
          rintro r2 ⟨p1, p2, p3, p4, p5⟩
          refine LGo.seq ?_
          refine LGo.region rfl ?_  -- region 12
          first | refine R.field F45_4 (h := ?_) | refine R.fieldAt F45_4 (h := ?_)
          first | refine R.loadB O4 (h := ?_) | refine R.load1 O4 (h := ?_)
          refine R.move (h := ?_)
          first | refine R.field F43_3 (h := ?_) | refine R.fieldAt F43_3 (h := ?_)
          first | refine R.loadB O4 (h := ?_) | refine R.load1 O4 (h := ?_)
          refine R.or (h := ?_)
          first | refine R.field F45_4 (h := ?_) | refine R.fieldAt F45_4 (h := ?_)
          refine R.storeB O4 (h := ?_)
          refine Reg.nil ⟨fun h => (by cases h), ?_⟩
          refine LGo.seq ?_
          refine LGo.region rfl ?_  -- region 13 DRAWS
          refine R.move (h := ?_)
          first | refine R.field F43_0 (h := ?_) | refine R.fieldAt F43_0 (h := ?_)
          first | refine R.loadB O5 (h := ?_) | refine R.load1 O5 (h := ?_)
          first | refine R.convI Try.runUnderlying5 Try.runUnderlying3 (h := ?_) | refine R.convW Try.runUnderlying5 Try.runUnderlying3 (h := ?_)
          refine R.move (h := ?_)
          first | refine R.len S22 (h := ?_) | refine R.lenRs S22 (h := ?_) | refine R.lenV (run_lenNil S22) (h := ?_)
          rw [List.length_map]
          refine R.rem (h := ?_)
          rw [hj]
          first | refine R.loadA A45 (h := ?_) | refine R.loadN A45 (h := ?_)
          refine R.indexRs I22 (hj := fun _ => ⟨by omega, by rw [List.length_map]; omega⟩) (h := ?_)
          refine R.storeRsN A45 j (Rule.c ⟨r2.tag, r2.kind, r2.low, r2.high, r2.must || m⟩) (h1 := by first | rfl | simp [LV.one, Rule.c]) (hj := by rw [List.length_map]; omega) (hoff := by rw [Int.toNat_natCast]) (h := ?_)
          rw [set_c]
          refine Reg.nil ⟨fun _ => ⟨mixedO, by rfl, by rfl⟩, ?_⟩
          refine LGo.frz 2 (h := ?_)
          refine LGo.seq ?_
          refine LGo.region rfl ?_  -- region 14
          refine R.move (h := ?_)
          refine R.move (h := ?_)
          refine R.callP (es := [_, _]) (fun _ => decode_P (rs.set j ⟨r2.tag, r2.kind, r2.low, r2.high, r2.must || m⟩) b (by rw [List.length_set]; omega) (by omega)) (h := ?_)
          refine R.move (h := ?_)
          refine R.extract (h := ?_)
          refine R.extract (h := ?_)
          refine R.extract (h := ?_)
          have hll := less_law (q := ⟨r2.tag, r2.kind, r2.low, r2.high, r2.must || m⟩) hjl p1 p2 p4 p5 hck hdF
          generalize decode (rs.set j ⟨r2.tag, r2.kind, r2.low, r2.high, r2.must || m⟩) b = g at hll ⊢
          obtain ⟨g1, g2, g3⟩ := g
          dsimp only at hll ⊢
          refine R.assign (h := ?_)
          refine R.assign (h := ?_)
          refine R.assign (h := ?_)
          refine Reg.nil ⟨fun h => (by cases h), ?_⟩
          refine LGo.seq ?_
          refine LGo.seq ?_
          refine LGo.region rfl ?_  -- region 15
          refine R.move (h := ?_)
          refine R.bin (run_neq _ _ _ _ _ _) (h := ?_)
          refine Reg.nil ⟨fun h => (by cases h), ?_⟩
          refine LGo.ifb (ht := fun hc5 => ?_) (hf := fun hc5 => ?_)
          · -- then 5
            have hl5 : g3 = 11 ∧ g1 = [] := by
              rcases hll with h | h
              · exact h
              · simp [h.1] at hc5
            obtain ⟨rfl, rfl⟩ := hl5
            refine LGo.seq ?_
            refine LGo.region rfl ?_  -- region 16
            refine R.move (h := ?_)
            refine R.bin (run_eql _ _ _ _ _ _) (h := ?_)
            refine R.move (h := ?_)
            refine R.move (h := ?_)
            first | refine R.len S26 (h := ?_) | refine R.lenRs S26 (h := ?_) | refine R.lenV (run_lenNil S26) (h := ?_)
            rw [List.length_map]
            refine R.bin (run_eql _ _ _ _ _ _) (h := ?_)
            refine R.and (h := ?_)
            refine R.move (h := ?_)
            refine R.callP (es := []) (fun _ => shown_P) (h := ?_)
            refine R.and (h := ?_)
            refine R.assign (h := ?_)
            refine Reg.nil ⟨fun h => (by cases h), ?_⟩
            refine LGo.tru 6 (hb := by simp) (h := ?_)
            exact LGo.ret (ret_T Try.results7 hA hmd)
          · -- else 5
            have hl5 : g1 = l := by
              rcases hll with h | h
              · simp [h.1] at hc5
              · exact h.2
            subst hl5
            refine LGo.skip ?_
            refine LGo.seq ?_
            refine LGo.region rfl ?_  -- region 17
            refine R.move (h := ?_)
            refine R.move (h := ?_)
            refine R.callP (es := [_, _]) (fun _ => same_PT _ hdl) (h := ?_)
            refine R.move (h := ?_)
            refine R.callP (es := []) (fun _ => shown_P) (h := ?_)
            refine R.and (h := ?_)
            refine R.assign (h := ?_)
            refine Reg.nil ⟨fun h => (by cases h), ?_⟩
            refine LGo.tru 6 (hb := by simp) (h := ?_)
            exact LGo.ret (ret_T Try.results7 hA hmd)
        · -- the ways of C4
          first | refine LGo.ifd (ht := fun hc4 => ?_) (hf := fun hc4 => ?_) | refine LGo.ifb (ht := fun hc4 => ?_) (hf := fun hc4 => ?_)
          · -- then 4
            refine LGo.region rfl ?_  -- region 11
            first | refine R.field F45_3 (h := ?_) | refine R.fieldAt F45_3 (h := ?_)
            first | refine R.loadB O32 (h := ?_) | refine R.load1 O32 (h := ?_)
            first | refine R.field F43_2 (h := ?_) | refine R.fieldAt F43_2 (h := ?_)
            first | refine R.loadB O5 (h := ?_) | refine R.load1 O5 (h := ?_)
            first | refine R.convI Try.runUnderlying5 Try.runUnderlying32 (h := ?_) | refine R.convW Try.runUnderlying5 Try.runUnderlying32 (h := ?_)
            first | refine R.sub (h := ?_) | refine R.subW (h := ?_)
            first | refine R.field F45_3 (h := ?_) | refine R.fieldAt F45_3 (h := ?_)
            refine R.storeB O32 (h := ?_)
            refine Reg.nil ⟨fun h => (by cases h), ?_⟩
            exact LGo.next _ (fun o h => by have := (hA o).1 h; omega) (by omega) (hcut ⟨r1.tag, r1.kind, r1.low, r1.high - hi, r1.must⟩ ⟨q1, q2, q3, by dsimp only; omega, by dsimp only; omega⟩) (by repeat (first | exact trivial | refine ⟨rfl, ?_⟩)) (by repeat (first | exact trivial | refine ⟨rfl, ?_⟩))
          · -- else 4
            refine LGo.skip ?_
            exact LGo.next _ (fun o h => by have := (hA o).1 h; omega) (by omega) (hcut r1 ⟨q1, q2, q3, q4, q5⟩) (by repeat (first | exact trivial | refine ⟨rfl, ?_⟩)) (by repeat (first | exact trivial | refine ⟨rfl, ?_⟩))
      · -- the ways of C3
        first | refine LGo.ifd (ht := fun hc3 => ?_) (hf := fun hc3 => ?_) | refine LGo.ifb (ht := fun hc3 => ?_) (hf := fun hc3 => ?_)
        · -- then 3
          refine LGo.region rfl ?_  -- region 9
          first | refine R.field F45_2 (h := ?_) | refine R.fieldAt F45_2 (h := ?_)
          first | refine R.loadB O32 (h := ?_) | refine R.load1 O32 (h := ?_)
          first | refine R.field F43_1 (h := ?_) | refine R.fieldAt F43_1 (h := ?_)
          first | refine R.loadB O5 (h := ?_) | refine R.load1 O5 (h := ?_)
          first | refine R.convI Try.runUnderlying5 Try.runUnderlying32 (h := ?_) | refine R.convW Try.runUnderlying5 Try.runUnderlying32 (h := ?_)
          first | refine R.add (h := ?_) | refine R.addW (h := ?_)
          first | refine R.field F45_2 (h := ?_) | refine R.fieldAt F45_2 (h := ?_)
          refine R.storeB O32 (h := ?_)
          refine Reg.nil ⟨fun h => (by cases h), ?_⟩
          exact LGo.next _ (fun o h => by have := (hA o).1 h; omega) (by omega) (hcut ⟨rs[j].tag, rs[j].kind, rs[j].low + lo, rs[j].high, rs[j].must⟩ ⟨rfl, rfl, by dsimp only; omega, by dsimp only; omega, by dsimp only; omega⟩) (by repeat (first | exact trivial | refine ⟨rfl, ?_⟩)) (by repeat (first | exact trivial | refine ⟨rfl, ?_⟩))
        · -- else 3
          refine LGo.skip ?_
          exact LGo.next _ (fun o h => by have := (hA o).1 h; omega) (by omega) (hcut rs[j] ⟨rfl, rfl, by omega, by omega, by omega⟩) (by repeat (first | exact trivial | refine ⟨rfl, ?_⟩)) (by repeat (first | exact trivial | refine ⟨rfl, ?_⟩))

end Go.Proofs.Ytmiamhegohlglaa
