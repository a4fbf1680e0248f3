/- responses: the tags that a response uses, one by one; the two forms. -/
import Derived.Test.YtcobkjognpjikaaGreatDoorRS
set_option linter.unusedSimpArgs false
set_option linter.unusedVariables false
namespace Go.Proofs.YtcobkjognpjikaaGreatDoor

def tagsT (k e : Int) : List Int := if e = 0 then 1 :: 2 :: moreT k else [1, 2]
theorem tagsT_len (k e : Int) : (tagsT k e).length ≤ 5 := by unfold tagsT; have := moreT_len k; split <;> simp <;> omega
abbrev HoldsT (ce ck : Nat) (k e : Int) (L : List (Nat × LO)) : Prop := hp L ce = some (.box 23 [.i e]) ∧ hp L ck = some (.box 3 [.i k])
theorem tagsT_0 (k e : Int) : ((tagsT k e).map LV.i)[0]? = some (.i 1) ∧ ((tagsT k e).map LV.i)[1]? = some (.i 2) := by unfold tagsT; split <;> simp

theorem tags1_L (kd er : Int) {m y ce ck : Nat} {S : Nat → List (Nat × LO)} (hy : y < m) (hce : ce < m) (hck : ck < m) (h : YGo Tryz.prog y m ((tagsT kd er).map LV.i) (HoldsT ce ck kd er) S) :
    LC Tryz.prog 45 m [.yld y, .ptr ce 0, .ptr ck 0] (S 0) (.tup []) (S (tagsT kd er).length) 0 := by
 have hln : (tagsT kd er).length = ((tagsT kd er).map LV.i).length := by simp
 have h2 : 2 ≤ ((tagsT kd er).map LV.i).length := by rw [List.length_map]; unfold tagsT; split <;> simp
 refine LC.of_go Tryz.func45 (c := _) rfl (by kernel_rfl) (by rw [Tryz.ntmps45]; simp) (by simp [LV.lts, LV.lt, hy, hce, hck]) (h.keys 0 (by omega)) (h.lt 0 (by omega)) (fun p hp' => .inl (by rw [h.keys 0 (by omega), ← h.keys _ (Nat.le_of_eq hln)]; exact List.mem_map.2 ⟨p, hp', rfl⟩)) ?_
 intro B hA hmd
 refine .seq ?_
 refine .seq ?_
 refine .region rfl ?_
 refine R.move (h := ?_)
 refine R.callYldG (es := [_]) (h.at_ (j := 0) (tagsT_0 kd er).1) (hL := fun _ _ h => h) (h := ?_)
 refine R.not (h := ?_)
 refine R.move (h := ?_)
 refine R.move (h := ?_)
 refine R.callYldG (es := [_]) (h.at_ (j := 1) (tagsT_0 kd er).2) (hL := fun _ _ h => hp_app h) (h := ?_)
 refine R.not (h := ?_)
 refine R.or (h := ?_)
 refine R.move (h := ?_)
 refine R.loadB O23 (hb := hp_app (h.hold 2 h2).1) (h := ?_)
 refine R.bin (run_neq _ _ _ _ _ _) (h := ?_)
 refine R.or (h := ?_)
 refine .n0 ?_
 refine LGo.ifb (ht := fun hc => ?_) (hf := fun hc => ?_)
 ·
  have he : er ≠ 0 := by simpa using hc
  have hl : (tagsT kd er).length = 2 := by unfold tagsT; rw [if_neg he]; rfl
  rw [hl]
  refine LGo.keep [] (S 2) trivial (h.keep h2 _) ?_
  exact LGo.ret (res0 Tryz.results45 hA hmd (by rfl) (fun _ _ h => h) (.inr rfl))
 ·
  have he : er = 0 := by simpa using hc
  have hT : tagsT kd er = 1 :: 2 :: moreT kd := by unfold tagsT; rw [if_pos he]
  rw [hT] at h ⊢
  refine LGo.keep [(0, (true, .yld y)), (1, (true, .ptr ce 0)), (2, (true, .ptr ck 0))] (S 2) ⟨rfl, rfl, rfl, trivial⟩ (h.keep (by simp) _) ?_
  refine .skip ?_
  refine .seq ?_
  refine .region rfl ?_
  refine R.loadB O3 (hb := (h.hold 2 (by simp)).2) (h := ?_)
  refine R.callP (es := [_]) (fun _ => moreT_P kd) (h := ?_)
  first | refine R.len S81 (h := ?_) | refine R.lenRs S81 (h := ?_) | refine R.lenV (run_lenNil S81) (h := ?_)
  rw [ic_len]
  have hxl := moreT_len kd
  generalize hxs : moreT kd = xs at *
  refine R.move (h := ?_)
  refine .n0 ?_
  refine .block ?_
  refine .loop ?_
  refine LGo.keep [(0, (true, .yld y)), (19, (true, .sv (.sl 1 (ic .i64 xs)))), (20, (true, .i xs.length)), (21, (true, .i (0 : Nat)))] (S 2) ⟨rfl, rfl, rfl, rfl, trivial⟩ (h.self (by simp)) ?_
  refine LGo.loopK (σ := Nat) (fun k => k ≤ xs.length) (fun k => [(0, (true, .yld y)), (19, (true, .sv (.sl 1 (ic .i64 xs)))), (20, (true, .i xs.length)), (21, (true, .i (k : Nat)))]) (fun k => S (2 + k)) (fun _ => m) (fun k => xs.length - k) 0 (Nat.zero_le _) ?_
  rintro k hk ih
  refine .seq ?_
  refine .region rfl ?_
  refine R.bin (run_lss _ _ _ _ _ _) (h := ?_)
  refine .n0 ?_
  refine .seq ?_
  refine LGo.ifd (ht := fun hc2 => ?_) (hf := fun hc2 => ?_)
  ·
   have hlt : k < xs.length := by omega
   have hx : (ic .i64 xs)[((k : Nat) : Int).toNat]? = some [.val (.int .i64 xs[k])] := by rw [Int.toNat_natCast]; exact ic_get (List.getElem?_eq_getElem hlt)
   have hj : ((1 :: 2 :: xs).map LV.i)[2 + k]? = some (.i xs[k]) := by
     rw [show 2 + k = k + 1 + 1 from by omega, List.map_cons, List.map_cons, List.getElem?_cons_succ, List.getElem?_cons_succ, List.getElem?_map, List.getElem?_eq_getElem hlt]; rfl
   refine .skip ?_
   refine .seq ?_
   refine .block ?_
   refine .seq ?_
   refine .region rfl ?_
   refine R.index I81 (hj := fun hg => ⟨by omega, hx⟩) (h := ?_)
   first | refine R.loadB O3 (h := ?_) | refine R.load1 O3 (h := ?_)
   refine R.assign (h := ?_)
   refine .n0 ?_
   refine .seq ?_
   refine .region rfl ?_
   refine R.move (h := ?_)
   refine R.move (h := ?_)
   refine R.callYldG (es := [_]) (h.at_ hj) (hL := fun _ _ h => h) (h := ?_)
   refine R.not (h := ?_)
   refine .n0 ?_
   refine LGo.ifb (ht := fun hc3 => by simp at hc3) (hf := fun hc3 => ?_)
   refine .skip ?_
   refine .inBlock ?_
   refine .region rfl ?_
   first | refine R.add (h := ?_) | refine R.addW (h := ?_)
   refine R.move (h := ?_)
   refine .n0 ?_
   refine .inLoop ?_
   exact LGo.next m (fun o h => (hA o).1 h) (Nat.le_refl _) (ih (k + 1) (by omega) (by omega)) (by repeat (first | exact trivial | refine ⟨rfl, ?_⟩)) (h.keep (j := 2 + (k + 1)) (by simp; omega) _) (by simp [LV.lt, hy]) (h.all (by simp; omega))
  ·
   obtain rfl : k = xs.length := by omega
   refine .exit rfl ?_
   rw [show (1 :: 2 :: xs).length = 2 + xs.length from by simp; omega]
   refine LGo.keep [] (S (2 + xs.length)) trivial (h.self (by simp; omega)) ?_
   exact LGo.done (res0 Tryz.results45 hA hmd (by rfl) (fun _ _ h => h) (.inl rfl))

theorem tags_L (kd er : Int) : LC Tryz.prog 18 0 [.i kd, .i er] [] (.fn (.func 45) [] [.ptr 1 0, .ptr 0 0]) [(0, .box 3 [.i kd]), (1, .box 23 [.i er])] 2 := by
 refine LC.of_go Tryz.func18 (c := _) rfl (by kernel_rfl) (by rw [Tryz.ntmps18]; simp) rfl rfl (by simp [LO.lt, LV.lts, LV.lt]) (by simp) ?_
 intro B hA hmd
 refine .seq ?_
 refine .region rfl ?_
 refine R.box (h := ?_)
 refine R.box (h := ?_)
 refine R.assign (h := ?_)
 refine .n0 ?_
 refine .seq ?_
 refine .region rfl ?_
 refine R.makeFunc (es := []) (fs := [_, _]) (h := ?_)
 refine R.assign (h := ?_)
 refine .n0 ?_
 exact LGo.ret (ret_T Tryz.results18 hA hmd)

theorem forms_stop {m y : Nat} {S0 S1 : List (Nat × LO)} (hy : y < m) (k0 : S0.map (·.1) = List.range m) (l0 : ∀ p ∈ S0, p.2.lt m = true) (k1 : S1.map (·.1) = List.range m) (h : Yld Tryz.prog y [.i 0] S0 false S1) : LC Tryz.prog 29 m [.yld y] S0 (.tup []) S1 0 := by
 refine LC.of_go Tryz.func29 (c := _) rfl (by kernel_rfl) (by rw [Tryz.ntmps29]; simp) (by simp [LV.lts, LV.lt, hy]) k0 l0 (fun p hp' => .inl (by rw [k0, ← k1]; exact List.mem_map.2 ⟨p, hp', rfl⟩)) ?_
 intro B hA hmd
 refine .region rfl ?_
 refine R.move (h := ?_)
 refine R.callYldG (es := [_]) h (hL := fun _ _ h => h) (h := ?_)
 refine R.move (h := ?_)
 refine R.move (h := ?_)
 refine R.skip (.b false) (es := [_, _]) (h := ?_)
 refine R.and (h := ?_)
 refine .n0 ?_
 refine LGo.keep [] S1 trivial (KeepL.app (by rw [k1]; exact List.nodup_range)) ?_
 exact LGo.done (res0 Tryz.results29 hA hmd (by rfl) (fun _ _ h => h) (.inl rfl))

theorem forms_go {m y : Nat} {S0 S1 S2 : List (Nat × LO)} (hy : y < m) (k0 : S0.map (·.1) = List.range m) (l0 : ∀ p ∈ S0, p.2.lt m = true) (k1 : S1.map (·.1) = List.range m) (k2 : S2.map (·.1) = List.range m) (h : Yld Tryz.prog y [.i 0] S0 true S1) {b : Bool} (h2 : Yld Tryz.prog y [.i 11] S1 b S2) : LC Tryz.prog 29 m [.yld y] S0 (.tup []) S2 0 := by
 refine LC.of_go Tryz.func29 (c := _) rfl (by kernel_rfl) (by rw [Tryz.ntmps29]; simp) (by simp [LV.lts, LV.lt, hy]) k0 l0 (fun p hp' => .inl (by rw [k0, ← k2]; exact List.mem_map.2 ⟨p, hp', rfl⟩)) ?_
 intro B hA hmd
 refine .region rfl ?_
 refine R.move (h := ?_)
 refine R.callYldG (es := [_]) h (hL := fun _ _ h => h) (h := ?_)
 refine R.move (h := ?_)
 refine R.move (h := ?_)
 refine R.callYldG (es := [_]) h2 (hL := fun _ _ h => hp_app h) (h := ?_)
 refine R.and (h := ?_)
 refine .n0 ?_
 refine LGo.keep [] S2 trivial (KeepL.app (by rw [k2]; exact List.nodup_range)) ?_
 exact LGo.done (res0 Tryz.results29 hA hmd (by rfl) (fun _ _ h => h) (.inl rfl))

end Go.Proofs.YtcobkjognpjikaaGreatDoor
