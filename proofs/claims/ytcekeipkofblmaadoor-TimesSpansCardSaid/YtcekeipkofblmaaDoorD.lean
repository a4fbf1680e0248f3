/- times: the spans of a list in order: slices.SortedFunc, and union. -/
import Derived.Test.YtcekeipkofblmaaDoorS
set_option linter.unusedSimpArgs false
set_option linter.unusedVariables false
namespace Go.Proofs.YtcekeipkofblmaaDoor

def spArgs (l : List Sp) : List (List LV) := l.map fun s => [spV s]
def HoldsL (m c : Nat) (l : List Sp) (L : List (Nat × LO)) : Prop := L.map (·.1) = List.range m ∧ (∀ p ∈ L, p.2.lt m = true) ∧ hp L c = some (.box 36 [.sv (.sl 2 (spsC l))])
theorem HoldsL.all {m c : Nat} {b : List Sp} {L : List (Nat × LO)} (h : HoldsL m c b L) : (L.all fun p => decide (p.1 < m) && p.2.lt m) = true := by
  rw [List.all_eq_true]
  intro p hp'
  have h1 : p.1 ∈ L.map (·.1) := List.mem_map.2 ⟨p, hp', rfl⟩
  rw [h.1] at h1
  simp only [List.mem_range] at h1
  simp [h1, h.2.1 p hp']
theorem HoldsL.up {m c : Nat} {l : List Sp} {L : List (Nat × LO)} (h : HoldsL m c l L) {a b x : LO} {o : Nat} (hx : hp L o = some x) : hp ((m, a) :: (m, b) :: L) o = some x := by
  have hm : o ∈ L.map (·.1) := List.mem_map.2 ⟨(o, x), lookup_mem' hx, rfl⟩
  rw [h.1] at hm
  simp only [List.mem_range] at hm
  have hne : (o == m) = false := by simp; omega
  simp only [hp, List.lookup_cons, hne]
  exact hx
theorem YRun.head {P : Program} {y : Nat} {C : List (Nat × LO) → Prop} {xs : List (List LV)} {L L' : List (Nat × LO)} (h : YRun P y C xs L L') : C L := by cases h <;> assumption
theorem YRun.last {P : Program} {y : Nat} {C : List (Nat × LO) → Prop} {xs : List (List LV)} {L L' : List (Nat × LO)} (h : YRun P y C xs L L') : C L' := by
  induction h with
  | nil h => exact h
  | stop _ _ h => exact h
  | go _ _ _ ih => exact ih

theorem values_L (l : List Sp) : LC Tryd.prog 51 0 [.sv (.sl 2 (spsC l))] [] (.fn (.func 61) [] [.ptr 0 0]) [(0, .box 36 [.sv (.sl 2 (spsC l))])] 1 := by
  refine LC.of_go Tryd.func51 (c := _) rfl (by kernel_rfl) (by rw [Tryd.ntmps51]; simp) rfl rfl (by simp [LO.lt, LV.lts, LV.lt]) (by simp) ?_
  intro B hA hmd
  refine LGo.seq ?_
  refine LGo.region rfl ?_  -- region 0
  refine R.box (h := ?_)
  refine R.assign (h := ?_)
  refine Reg.nil ⟨fun h => (by cases h), ?_⟩
  refine LGo.seq ?_
  refine LGo.region rfl ?_  -- region 1
  refine R.makeFunc (es := []) (fs := [_]) (h := ?_)
  refine R.assign (h := ?_)
  refine Reg.nil ⟨fun h => (by cases h), ?_⟩
  exact LGo.ret (ret_T Tryd.results51 hA hmd)

theorem values1_L (l : List Sp) (hl : l.length ≤ 100000) {m y c : Nat} {L L' : List (Nat × LO)} (hy : y < m) (hcm : c < m) (hr : YRun Tryd.prog y (HoldsL m c l) (spArgs l) L L') :
    LC Tryd.prog 61 m [.yld y, .ptr c 0] L (.tup []) L' 0 := by
  have hL := hr.head
  refine LC.of_go Tryd.func61 (c := _) rfl (by kernel_rfl) (by rw [Tryd.ntmps61]; simp) (by simp [LV.lts, LV.lt, hy, hcm]) hL.1 hL.2.1 (fun p hp' => .inl (by rw [hL.1, ← hr.last.1]; exact List.mem_map.2 ⟨p, hp', rfl⟩)) ?_
  intro B hA hmd
  refine LGo.seq ?_
  refine LGo.region rfl ?_  -- region 0
  refine R.loadB O36 (hb := hL.2.2) (h := ?_)
  first | refine R.len S36 (h := ?_) | refine R.lenRs S36 (h := ?_) | refine R.lenV (run_lenNil S36) (h := ?_)
  rw [spsC_length]
  refine R.move (h := ?_)
  refine Reg.nil ⟨fun h => (by cases h), ?_⟩
  refine LGo.block ?_
  refine LGo.loop ?_
  refine LGo.keep [(0, (true, .yld y)), (5, (true, .sv (.sl 2 (spsC l)))), (6, (true, .i (l.length : Nat))), (7, (true, .i (0 : Nat)))] L ⟨rfl, rfl, rfl, rfl, trivial⟩ (KeepL.of fun p hp' => lookup_of_nodup (by rw [hL.1]; exact List.nodup_range) hp') ?_
  refine LGo.loopK (σ := Nat × List (Nat × LO)) (fun s => s.1 ≤ l.length ∧ YRun Tryd.prog y (HoldsL m c l) (spArgs (l.drop s.1)) s.2 L')
      (fun s => [(0, (true, .yld y)), (5, (true, .sv (.sl 2 (spsC l)))), (6, (true, .i (l.length : Nat))), (7, (true, .i (s.1 : Nat)))]) (fun s => s.2) (fun _ => m) (fun s => l.length - s.1) (0, L) ⟨Nat.zero_le _, hr⟩ ?_
  rintro ⟨k, Lc⟩ ⟨q1, q2⟩ ih
  dsimp only at q1 q2 ih ⊢
  have hC : ∀ {L1 : List (Nat × LO)}, HoldsL m c l L1 → ∀ {La : List (Nat × LO)}, KeepL (hp (L1 ++ La)) L1 := fun h => KeepL.app (by rw [h.1]; exact List.nodup_range)
  refine LGo.seq ?_
  refine LGo.region rfl ?_  -- region 1
  refine R.bin (run_lss _ _ _ _ _ _) (h := ?_)
  refine Reg.nil ⟨fun h => (by cases h), ?_⟩
  refine LGo.seq ?_
  refine LGo.ifd (ht := fun hc => ?_) (hf := fun hc => ?_)
  · -- then 1
    have hlt : k < l.length := by omega
    have hx : (spsC l)[((k : Nat) : Int).toNat]? = some (spC l[k]) := by simp [spsC, hlt]
    rw [List.drop_eq_getElem_cons hlt] at q2
    generalize l[k] = s at hx q2
    simp only [spArgs, List.map_cons] at q2
    refine LGo.skip ?_
    refine LGo.seq ?_
    refine LGo.block ?_
    refine LGo.seq ?_
    refine LGo.region rfl ?_  -- region 2
    refine R.index I36 (hj := fun hg => ⟨by omega, hx⟩) (h := ?_)
    first | refine R.loadA A43 (h := ?_) | refine R.loadN A43 (h := ?_)
    refine R.alloc Z43 (h := ?_)
    refine R.storeA A43 (hb := List.lookup_cons_self) (hlt := rfl) (h := ?_)
    refine Reg.nil ⟨fun h => (by cases h), ?_⟩
    have hcur := q2.head
    refine LGo.seq ?_
    refine LGo.region rfl ?_  -- region 3
    refine R.move (h := ?_)
    refine R.loadA A43 (hb := List.lookup_cons_self) (h := ?_)
    obtain ⟨kk, L1, hyl, h1, hrest⟩ : ∃ kk L1, Yld Tryd.prog y [spV s] Lc kk L1 ∧ HoldsL m c l L1 ∧ ((kk = false ∧ L1 = L') ∨ (kk = true ∧ YRun Tryd.prog y (HoldsL m c l) (spArgs (l.drop (k + 1))) L1 L')) := by
      cases q2 with
      | stop _ hyl h1 => exact ⟨_, _, hyl, h1, .inl ⟨rfl, rfl⟩⟩
      | go _ hyl h1 => exact ⟨_, _, hyl, h1.head, .inr ⟨rfl, h1⟩⟩
    refine R.callYld (es := [_]) (Lc := Lc) hyl (hL := fun o x hx => hcur.up hx) (h := ?_)
    refine R.not (h := ?_)
    refine Reg.nil ⟨fun h => (by cases h), ?_⟩
    refine LGo.ifb (ht := fun hc2 => ?_) (hf := fun hc2 => ?_)
    · -- then 2
      obtain rfl : L1 = L' := by rcases hrest with h | h; exact h.2; rw [h.1] at hc2; simp at hc2
      refine LGo.next m (fun o h => (hA o).1 h) (by omega) (E' := []) (L' := L1) ?_ trivial (hC h1) rfl h1.all
      exact LGo.ret (res0 Tryd.results61 hA hmd (by rfl) (fun _ _ h => h) (.inr rfl))
    · -- else 2
      have hgo : YRun Tryd.prog y (HoldsL m c l) (spArgs (l.drop (k + 1))) L1 L' := by rcases hrest with h | h; rw [h.1] at hc2; simp at hc2; exact h.2
      refine LGo.skip ?_
      refine LGo.inBlock ?_
      refine LGo.region rfl ?_  -- region 4
      first | refine R.add (h := ?_) | refine R.addW (h := ?_)
      refine R.move (h := ?_)
      refine Reg.nil ⟨fun h => (by cases h), ?_⟩
      refine LGo.inLoop ?_
      exact LGo.next m (fun o h => (hA o).1 h) (by omega) (ih (k + 1, L1) ⟨by dsimp only; omega, hgo⟩ (by dsimp only; omega)) ⟨rfl, rfl, rfl, rfl, trivial⟩ (hC h1) (by simp [LV.lt, hy]) h1.all
  · -- else 1
    have hk : k = l.length := by omega
    subst hk
    rw [List.drop_length] at q2
    obtain ⟨rfl, h1⟩ : Lc = L' ∧ HoldsL m c l Lc := by cases q2 with | nil h => exact ⟨rfl, h⟩
    refine LGo.exit rfl ?_
    refine LGo.keep [] _ trivial (KeepL.of fun p hp' => lookup_of_nodup (by rw [h1.1]; exact List.nodup_range) hp') ?_
    exact LGo.done (res0 Tryd.results61 hA hmd (by rfl) (fun _ _ h => h) (.inl rfl))

theorem spsC_snoc (l : List Sp) (s : Sp) : spsC l ++ [spC s] = spsC (l ++ [s]) := by simp [spsC]
theorem spsC_len2 (l : List Sp) : ∀ e ∈ spsC l, e.length = 2 := fun e he => by obtain ⟨x, _, rfl⟩ := List.mem_map.1 he; rfl
theorem appendSeq_L (zs : List Sp) (hl : zs.length ≤ 100000) : LC Tryd.prog 68 1 [.v (.slice none 0 0), (.fn (.func 61) [] [.ptr 0 0])] [(0, .box 36 [.sv (.sl 2 (spsC zs))])] (.ref 1) [(0, .box 36 [.sv (.sl 2 (spsC zs))]), (1, .rs 43 2 (spsC zs))] 1 := by
  refine LC.of_go Tryd.func68 (c := _) rfl (by kernel_rfl) (by rw [Tryd.ntmps68]; simp) rfl rfl (by simp [LO.lt, LV.lts, LV.lt]) (by simp) ?_
  intro B hA hmd
  refine LGo.seq ?_
  refine LGo.region rfl ?_  -- region 0
  refine R.box (h := ?_)
  refine R.assign (h := ?_)
  refine Reg.nil ⟨fun h => (by cases h), ?_⟩
  refine LGo.seq ?_
  refine LGo.seq ?_
  refine LGo.region rfl ?_  -- region 1
  refine R.move (h := ?_)
  refine Reg.nil ⟨fun h => (by cases h), ?_⟩
  refine LGo.block ?_
  refine LGo.packNil 1 0 43 2 (h := ?_)
  refine LGo.keep [(2, (true, .ptr 1 0)), (6, (true, .fn (.func 61) [] [.ptr 0 0]))] ([(0, .box 36 [.sv (.sl 2 (spsC zs))]), (1, .bx 36 [.v undef] 0 43 2 (spsC []))]) ⟨rfl, rfl, trivial⟩ ⟨rfl, rfl, trivial⟩ ?_
  refine LGo.rangeN (fun fn ac bc => [(0, .box 36 [.sv (.sl 2 (spsC zs))]), (1, .bx 36 [.v undef] 0 43 2 (spsC zs)), (2, .raw (.deferred (some []))), (3, .loop fn Tryd.f68.ntmps [(2, (true, .ptr 1 0)), (6, (true, .fn (.func 61) [] [.ptr 0 0]))] #[7] ac bc .ready none)]) (hit := fun fn ac bc hac hbc => ?_) (h := fun fn => ?_)
  · -- the iterator
    refine values1_L zs hl (y := 3) (c := 0) (by decide) (by decide) ?_
    have yg : ∀ (acc : List Sp) (s : Sp), acc.length < zs.length → Yld Tryd.prog 3 [spV s] ([(0, .box 36 [.sv (.sl 2 (spsC zs))]), (1, .bx 36 [.v undef] 0 43 2 (spsC acc)), (2, .raw (.deferred (some []))), (3, .loop fn Tryd.f68.ntmps [(2, (true, .ptr 1 0)), (6, (true, .fn (.func 61) [] [.ptr 0 0]))] #[7] ac bc .ready none)]) true ([(0, .box 36 [.sv (.sl 2 (spsC zs))]), (1, .bx 36 [.v undef] 0 43 2 (spsC (acc ++ [s]))), (2, .raw (.deferred (some []))), (3, .loop fn Tryd.f68.ntmps [(2, (true, .ptr 1 0)), (6, (true, .fn (.func 61) [] [.ptr 0 0]))] #[7] ac bc .ready none)]) := by
      intro acc s hal
      refine Yld.walkA 4 5 [(5, (true, .ptr 4 0)), (2, (true, .ptr 1 0)), (6, (true, .fn (.func 61) [] [.ptr 0 0]))] ((4, .box 43 [.i s.1, .i s.2]) :: [(0, .box 36 [.sv (.sl 2 (spsC zs))]), (1, .bx 36 [.v undef] 0 43 2 (spsC acc)), (2, .raw (.deferred (some []))), (3, .loop fn Tryd.f68.ntmps [(2, (true, .ptr 1 0)), (6, (true, .fn (.func 61) [] [.ptr 0 0]))] #[7] ac bc .ready none)]) (hpN := by rw [show Tryd.f68.ntmps = 13 from Tryd.ntmps68]; simp) (hA := ?_) (hB := ?_)
      · intro l B' hA' hmd'; subst hac
        refine LGo.region rfl ?_  -- region 2
        refine R.alloc Z43 (h := ?_)
        refine R.storeA A43 (h := ?_)
        refine Reg.nil ⟨fun h => (by cases h), ?_⟩
        refine LGo.keep [(5, (true, .ptr 4 0)), (2, (true, .ptr 1 0)), (6, (true, .fn (.func 61) [] [.ptr 0 0]))] ((4, .box 43 [.i s.1, .i s.2]) :: [(0, .box 36 [.sv (.sl 2 (spsC zs))]), (1, .bx 36 [.v undef] 0 43 2 (spsC acc)), (2, .raw (.deferred (some []))), (3, .loop fn Tryd.f68.ntmps [(2, (true, .ptr 1 0)), (6, (true, .fn (.func 61) [] [.ptr 0 0]))] #[7] _ bc .ready none)]) ⟨rfl, rfl, rfl, trivial⟩ ⟨rfl, rfl, rfl, rfl, rfl, trivial⟩ ?_
        exact LGo.done (fun cx a w hr => ⟨rfl, cx, hr⟩)
      · intro l B' hA' hmd'; subst hbc
        refine LGo.unpack 1 (h := ?_)
        refine LGo.block ?_
        refine LGo.region rfl ?_  -- region 3
        first | refine R.loadB O36 (h := ?_) | refine R.load1 O36 (h := ?_)
        first | refine R.loadA A43 (h := ?_) | refine R.loadN A43 (h := ?_)
        refine R.buildSliceG AP36 (xs := [_]) (es := [_]) (ys := [spC s]) (hcs := CellsOfs.cons (CellsOf.agg rfl) CellsOfs.nil) (hys := rfl) (h := ?_)
        refine R.appendS AP36 (hs := SrcOk.sl Tryd.underlying36 (by simp; rfl)) (hlen := by simp [spsC_length]; omega) (h := ?_)
        rw [spsC_snoc]
        refine R.storeB O36 (h := ?_)
        refine Reg.nil ⟨fun h => (by cases h), ?_⟩
        refine LGo.inBlock ?_
        refine LGo.pack 1 0 (h := ?_)
        refine LGo.drop 4 (fun o h => (hA' o).1 h) (by omega) [] ((3, .loop fn Tryd.f68.ntmps [(2, (true, .ptr 1 0)), (6, (true, .fn (.func 61) [] [.ptr 0 0]))] #[7] ac _ .busy none) :: (2, .raw (.deferred (some []))) :: [(0, .box 36 [.sv (.sl 2 (spsC zs))]), (1, .bx 36 [.v undef] 0 43 2 (spsC (acc ++ [s])))]) trivial ⟨rfl, rfl, rfl, rfl, trivial⟩ (by simp) (by simp [LO.lt, LV.lts, LV.lt, lts_sv]) (h := ?_)
        refine LGo.done (RoundEnd.go rfl (fun o z hz hne => ?_) rfl)
        rcases o with _ | _ | _ | _ | o <;> first | exact absurd rfl hne | exact hz
    have hlen : (spArgs zs).length = zs.length := by simp [spArgs]
    have hrun := YRun.fold (P := Tryd.prog) (y := 3) (C := HoldsL 4 0 zs) (spArgs zs) (fun j => [(0, .box 36 [.sv (.sl 2 (spsC zs))]), (1, .bx 36 [.v undef] 0 43 2 (spsC (zs.take j))), (2, .raw (.deferred (some []))), (3, .loop fn Tryd.f68.ntmps [(2, (true, .ptr 1 0)), (6, (true, .fn (.func 61) [] [.ptr 0 0]))] #[7] ac bc .ready none)]) (fun j hj => ⟨rfl, by simp [LO.lt, LV.lts, LV.lt, lts_sv], rfl⟩) (fun j hj => ?_)
    · rw [hlen] at hrun; simpa using hrun
    have hj' : j < zs.length := by rw [← hlen]; exact hj
    have hd : (spArgs zs)[j] = [spV zs[j]] := by simp [spArgs]
    rw [hd, List.take_succ_eq_append_getElem hj']
    exact yg (zs.take j) zs[j] (by simp; omega)
  · -- behind the range
    refine LGo.unpack 1 (h := ?_)
    refine LGo.inBlock ?_
    refine LGo.seq ?_
    refine LGo.region rfl ?_  -- region 4
    first | refine R.loadB O36 (h := ?_) | refine R.load1 O36 (h := ?_)
    refine R.assign (h := ?_)
    refine Reg.nil ⟨fun h => (by cases h), ?_⟩
    exact LGo.ret (FnPost.mark (by rfl) (FnPost.finI [0, 4] (res_T Tryd.results68) hA hmd))

theorem collect_L (zs : List Sp) (hl : zs.length ≤ 100000) : LC Tryd.prog 59 1 [(.fn (.func 61) [] [.ptr 0 0])] [(0, .box 36 [.sv (.sl 2 (spsC zs))])] (.ref 1) [(0, .box 36 [.sv (.sl 2 (spsC zs))]), (1, .rs 43 2 (spsC zs))] 1 := by
  refine LC.of_go Tryd.func59 (c := _) rfl (by kernel_rfl) (by rw [Tryd.ntmps59]; simp) rfl rfl (by simp [LO.lt, LV.lts, LV.lt]) (by simp) ?_
  intro B hA hmd
  refine LGo.seq ?_
  refine LGo.region rfl ?_  -- region 0
  refine R.assign (h := ?_)
  refine Reg.nil ⟨fun h => (by cases h), ?_⟩
  refine LGo.seq ?_
  refine LGo.region rfl ?_  -- region 1
  refine R.move (h := ?_)
  refine R.callX (es := [_, _]) [0] (appendSeq_L zs hl) (h := ?_)
  refine R.assign (h := ?_)
  refine Reg.nil ⟨fun h => (by cases h), ?_⟩
  exact LGo.ret (ret_T Tryd.results59 hA hmd)

theorem sorted_L (zs : List Sp) (hl : zs.length ≤ 100000) : LC Tryd.prog 50 1 [(.fn (.func 61) [] [.ptr 0 0]), .fn (.func 52) [] []] [(0, .box 36 [.sv (.sl 2 (spsC zs))])] (.sv (.sl 2 (spsC (sortS zs)))) [(0, .box 36 [.sv (.sl 2 (spsC zs))])] 0 := by
  refine LC.of_go Tryd.func50 (c := _) rfl (by kernel_rfl) (by rw [Tryd.ntmps50]; simp) rfl rfl (by simp [LO.lt, LV.lts, LV.lt]) (by simp) ?_
  intro B hA hmd
  refine LGo.seq ?_
  refine LGo.region rfl ?_  -- region 0
  refine R.assign (h := ?_)
  refine Reg.nil ⟨fun h => (by cases h), ?_⟩
  refine LGo.seq ?_
  refine LGo.region rfl ?_  -- region 1
  refine R.move (h := ?_)
  refine R.callX (es := [_]) [0] (collect_L zs hl) (h := ?_)
  refine R.assign (h := ?_)
  refine Reg.nil ⟨fun h => (by cases h), ?_⟩
  refine LGo.seq ?_
  refine LGo.region rfl ?_  -- region 2
  refine R.move (h := ?_)
  refine R.move (h := ?_)
  refine R.callX (es := [_, _]) [1] (sort_L 43 zs hl) (h := ?_)
  refine Reg.nil ⟨fun h => (by cases h), ?_⟩
  refine LGo.seq ?_
  refine LGo.region rfl ?_  -- region 3
  refine R.move (h := ?_)
  refine R.assign (h := ?_)
  refine Reg.nil ⟨fun h => (by cases h), ?_⟩
  first | refine LGo.frzT 4 (h := ?_) | refine LGo.nilSl 4 2 (h := ?_) | skip
  exact LGo.ret (ret_T Tryd.results50 hA hmd)

end Go.Proofs.YtcekeipkofblmaaDoor
