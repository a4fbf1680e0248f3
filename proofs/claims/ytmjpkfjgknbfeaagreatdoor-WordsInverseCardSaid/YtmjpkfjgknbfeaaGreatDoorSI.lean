/- words, the reference: ParseList. -/
import Derived.Test.YtmjpkfjgknbfeaaGreatDoorSH
set_option linter.unusedSimpArgs false
set_option linter.unusedVariables false
namespace Go.Proofs.YtmjpkfjgknbfeaaGreatDoor

theorem splitC_eq (c : UInt8) (r : List UInt8) : (cutIs r c = false ∧ Lib.split r [c] = [r] ∧ cut1 r c = r) ∨ (cutIs r c = true ∧ Lib.split r [c] = cut1 r c :: Lib.split (cut2 r c) [c]) := by
  rcases index_cases c r with ⟨h1, h2⟩ | ⟨a, b, h1, h2, h3⟩
  · left
    refine ⟨by unfold cutIs; rw [h1]; rfl, splitC_no h2, ?_⟩
    unfold cut1
    rw [if_neg (by omega)]
  · right
    have hi := h3
    rw [h1] at hi
    have e1 : cut1 r c = a := by unfold cut1; rw [h3, if_pos (by omega), Int.toNat_natCast, h1, List.take_left]
    have e2 : cut2 r c = b := by
      unfold cut2
      rw [h3, if_pos (by omega), Int.toNat_natCast, h1, ← List.drop_drop, List.drop_left]
      rfl
    refine ⟨by unfold cutIs; rw [h3]; simp, ?_⟩
    rw [e1, e2, h1]
    exact splitC_hit h2 hi
theorem decT_mem {t : List UInt8} (h : decT t = true) : (45 : UInt8) ∉ t := fun hm => by
  have := decT_all2 h
  rw [List.all_eq_true] at this
  have := this 45 hm
  simp [digC] at this
/-- how many parts a run has, and what they are -/
theorem ends_cases (r : List UInt8) : (cutIs r 45 = false ∧ Lib.split r [45] = [cut1 r 45]) ∨ (cutIs r 45 = true ∧ Lib.split r [45] = [cut1 r 45, cut2 r 45] ∧ (45 : UInt8) ∉ cut2 r 45) ∨ (cutIs r 45 = true ∧ decT (cut2 r 45) = false ∧ ∃ y z ys, Lib.split r [45] = cut1 r 45 :: y :: z :: ys) := by
  rcases splitC_eq 45 r with ⟨h1, h2, h3⟩ | ⟨h1, h2⟩
  · exact .inl ⟨h1, by rw [h3]; exact h2⟩
  · rcases splitC_eq 45 (cut2 r 45) with ⟨k1, k2, _⟩ | ⟨k1, k2⟩
    · refine .inr (.inl ⟨h1, by rw [h2, k2], ?_⟩)
      rcases index_cases 45 (cut2 r 45) with ⟨_, h⟩ | ⟨a, b, _, _, h⟩
      · exact h
      · unfold cutIs at k1; rw [h] at k1; simp at k1
    · refine .inr (.inr ⟨h1, ?_, ?_⟩)
      · cases hd : decT (cut2 r 45) with
        | false => rfl
        | true =>
          have := decT_mem hd
          rcases index_cases 45 (cut2 r 45) with ⟨h, _⟩ | ⟨a, b, h, _, _⟩
          · unfold cutIs at k1; rw [h] at k1; simp at k1
          · exact absurd (by rw [h]; simp) this
      · rcases splitC_eq 45 (cut2 (cut2 r 45) 45) with ⟨_, m2, _⟩ | ⟨_, m2⟩
        · exact ⟨_, _, _, by rw [h2, k2, m2]⟩
        · exact ⟨_, _, _, by rw [h2, k2, m2]⟩
theorem run_a {r : List UInt8} (h : cutIs r 45 = false) : runOf r = if decC (cut1 r 45) = true then some (cut1 r 45, cut1 r 45) else none := by
  have he : endOf r = cut1 r 45 := by unfold endOf; rw [if_neg (by rw [h]; simp)]
  unfold runOf
  rw [he, decC_decT (cut1_45 r), h]
  simp
theorem no45 {s : List UInt8} (h : (45 : UInt8) ∉ s) : ¬ (s.headD 0).toNat = 45 := by
  cases s with
  | nil => simp
  | cons x l => intro hx; exact h (by rw [show x = 45 from UInt8.toNat.inj hx]; simp)
theorem run_b {r : List UInt8} (h : cutIs r 45 = true) (h2 : (45 : UInt8) ∉ cut2 r 45) : runOf r = if decC (cut1 r 45) = true ∧ decC (cut2 r 45) = true ∧ cmpT (cut1 r 45) (cut2 r 45) < 0 then some (cut1 r 45, cut2 r 45) else none := by
  have he : endOf r = cut2 r 45 := by unfold endOf; rw [if_pos h]
  unfold runOf
  rw [he, decC_decT (cut1_45 r), decC_decT (no45 h2)]
  simp only [h, forall_const]
theorem run_c {r : List UInt8} (h : cutIs r 45 = true) (h2 : decT (cut2 r 45) = false) : runOf r = none := by
  have he : endOf r = cut2 r 45 := by unfold endOf; rw [if_pos h]
  unfold runOf
  rw [he, h2]
  simp

theorem incR_len : ∀ r : List UInt8, (incR r).length ≤ r.length + 1
  | [] => by simp [incR]
  | c :: r => by
    have := incR_len r
    rw [incR]
    split <;> simp <;> omega
theorem nextT_len (s : List UInt8) : (nextT s).length ≤ s.length + 1 := by
  have := incR_len s.reverse
  unfold nextT
  rw [List.length_reverse]
  rw [List.length_reverse] at this
  exact this
theorem cmpB_swap : ∀ a b : List UInt8, Lib.compareBytes b a < 0 ↔ 0 < Lib.compareBytes a b
  | [], [] => by simp [Lib.compareBytes]
  | [], y :: b => by simp [Lib.compareBytes]
  | x :: a, [] => by simp [Lib.compareBytes]
  | x :: a, y :: b => by
    rw [Lib.compareBytes, Lib.compareBytes]
    by_cases h1 : y < x
    · have h2 : ¬ x < y := fun h => by have a1 := UInt8.lt_iff_toNat_lt.1 h1; have a2 := UInt8.lt_iff_toNat_lt.1 h; omega
      rw [if_pos h1, if_neg h2, if_pos h1]
      decide
    · rw [if_neg h1]
      by_cases h2 : x < y
      · rw [if_pos h2, if_pos h2]
        decide
      · rw [if_neg h2, if_neg h2, if_neg h1]
        exact cmpB_swap a b
theorem cmpT_swap (a b : List UInt8) : cmpT b a < 0 ↔ 0 < cmpT a b := by
  unfold cmpT
  by_cases h : (a.length : Int) = b.length
  · rw [if_neg (by simpa using h.symm), if_neg (by simpa using h)]
    exact cmpB_swap a b
  · rw [if_pos (fun e => h e.symm), if_pos h]
    omega
theorem intW_dig {t : List UInt8} (h : decT t = true) (hv : val10 0 t ≤ 1000000000) : intW t 0 1000000000 = (((val10 0 t : Nat) : Int), 0) := by
  obtain ⟨c, l, rfl, h1, h2, h3⟩ := decT_split h
  have hc : 48 ≤ c.toNat ∧ c.toNat ≤ 57 := by unfold digC at h1; simpa using h1
  have hd : decC (c :: l) = true := by rw [decC_decT (show ¬ ((c :: l).headD 0).toNat = 45 from by rw [List.headD_cons]; omega)]; exact h
  have hV : decV (c :: l) = (val10 0 (c :: l) : Nat) := by unfold decV; rw [if_neg (show ¬ ((c :: l).headD 0).toNat = 45 from by rw [List.headD_cons]; omega)]
  unfold intW
  rw [hV, hd]
  rw [if_neg (by simp), if_neg (by simp [inI]; omega)]

set_option maxHeartbeats 6400000 in
theorem plistR_P (s : List UInt8) (hs : s.length ≤ 20000) : PC Tryz.prog 10 [.t s] (.tup [.sv (.sl 1 (ic .i64 (plistW s).1)), .i (plistW s).2]) := by
 refine ⟨LC.of_go Tryz.func10 (c := _) rfl (by kernel_rfl) (by rw [Tryz.ntmps10]; simp) rfl rfl (by simp [LO.lt, LV.lts, LV.lt]) (by simp) ?_⟩
 intro B hA hmd
 obtain ⟨g, e0⟩ : ∃ g, plistW s = g := ⟨_, rfl⟩
 have e1 := e0
 unfold plistW at e1
 rw [e0]
 refine .seq ?_
 refine .region rfl ?_
 refine R.assign (h := ?_)
 refine R.assign (h := ?_)
 refine .n0 ?_
 refine .seq ?_
 refine .seq ?_
 refine .region rfl ?_
 refine R.move (h := ?_)
 refine R.bin (run_eqlT _ _ _ _ _) (h := ?_)
 refine .n0 ?_
 refine LGo.ifd (ht := fun hc => ?_) (hf := fun hc => ?_)
 ·
  rw [if_pos hc] at e1; rw [← e1]
  refine .seq ?_
  refine .region rfl ?_
  refine R.assign (h := ?_)
  refine R.assign (h := ?_)
  refine .n0 ?_
  first | refine LGo.frzT 2 (h := ?_) | refine LGo.nilSl 2 1 (h := ?_) | skip
  exact LGo.ret (ret_TT Tryz.results10 hA hmd)
 ·
  rw [if_neg hc] at e1
  refine .skip ?_
  refine .seq ?_
  refine .region rfl ?_
  refine R.assign (h := ?_)
  refine .n0 ?_
  refine .seq ?_
  refine .region rfl ?_
  refine R.assign (h := ?_)
  refine R.assign (h := ?_)
  refine .n0 ?_
  refine .seq ?_
  refine .region rfl ?_
  refine R.move (h := ?_)
  refine R.callP (es := [_, _]) (fun _ => partsR_P s 44 (by omega)) (h := ?_)
  have hrl := split_len 44 s
  have hmem := split_mem 44 s
  generalize Lib.split s [44] = rs at e1 hrl hmem ⊢
  refine R.assign (h := ?_)
  refine .n0 ?_
  refine .seq ?_
  refine .seq ?_
  refine .region rfl ?_
  refine R.assign (h := ?_)
  refine .n0 ?_
  refine .block ?_
  refine .loop ?_
  refine LGo.nilRs 5 9 1 (h := ?_)
  refine LGo.nilRs 6 9 1 (h := ?_)
  refine LGo.loopG (σ := Nat × List UInt8 × List TT) (fun x => x.1 ≤ rs.length ∧ x.2.2.length = x.1 ∧ x.2.1 = lastP x.2.2 ∧ x.2.1.all digC = true ∧ x.2.1.length ≤ 20000 ∧ goP none rs = (goP (pvOf x.1 x.2.1) (rs.drop x.1)).map (x.2.2 ++ ·)) (fun x => [(8, (true, .i (x.1 : Nat))), (4, (true, .t x.2.1)), (5, (true, .ref 0)), (6, (true, .ref 1))]) (fun x => [(0, .rs 9 1 (strsC (x.2.2.map (·.1)))), (1, .rs 9 1 (strsC (x.2.2.map (·.2))))]) (fun x => rs.length - x.1) (0, [], []) [(7, _)] ⟨Nat.zero_le _, rfl, rfl, rfl, Nat.zero_le _, by show _ = (goP none rs).map _; cases goP none rs <;> rfl⟩ (by repeat (first | exact trivial | refine ⟨rfl, ?_⟩)) (by repeat (first | exact trivial | refine ⟨rfl, ?_⟩)) (by repeat (first | exact trivial | refine ⟨rfl, ?_⟩)) ?_
  rintro ⟨k, last, out⟩ ⟨hk, hol, hla, hld, hll, hq⟩ ih
  dsimp only at * 
  refine .seq ?_
  refine .seq ?_
  refine .region rfl ?_
  refine R.move (h := ?_)
  refine R.move (h := ?_)
  first | refine R.len S61 (h := ?_) | refine R.lenRs S61 (h := ?_) | refine R.lenV (run_lenNil S61) (h := ?_)
  rw [strsC_length]
  refine R.bin (run_lss _ _ _ _ _ _) (h := ?_)
  refine .n0 ?_
  refine LGo.ifd (ht := fun hc2 => ?_) (hf := fun hc2 => ?_)
  ·
   have hlt : k < rs.length := by omega
   have hx : (strsC rs)[((k : Nat) : Int).toNat]? = some [.val (.string ⟨rs[k].toArray⟩)] := by simp [strsC, hlt]
   rw [List.drop_eq_getElem_cons hlt, goP] at hq
   have hrm := hmem rs[k] (List.getElem_mem hlt)
   generalize rs[k] = r at hx hq hrm
   have hc1 := cut1_len r 45
   have hnl := nextT_len last
   have hsm := split_mem 45 r
   refine .skip ?_
   refine .seq ?_
   refine .block ?_
   refine .seq ?_
   refine .region rfl ?_
   refine R.move (h := ?_)
   refine R.move (h := ?_)
   refine R.index I61 (hj := fun hg => ⟨by omega, hx⟩) (h := ?_)
   first | refine R.loadB O9 (h := ?_) | refine R.load1 O9 (h := ?_)
   refine R.callP (es := [_, _]) (fun _ => partsR_P r 45 (by omega)) (h := ?_)
   refine R.assign (h := ?_)
   refine .n0 ?_
   refine .seq ?_
   refine .seq ?_
   refine .region rfl ?_
   rcases ends_cases r with ⟨hi, he⟩ | ⟨hi, he, hn45⟩ | ⟨hi, hd2, y, z, ys, he⟩
   ·
    rw [he]
    rw [run_a hi] at hq
    refine R.move (h := ?_)
    first | refine R.len S61 (h := ?_) | refine R.lenRs S61 (h := ?_) | refine R.lenV (run_lenNil S61) (h := ?_)
    rw [strsC_length]
    refine R.bin (run_gtr _ _ _ _ _ _) (h := ?_)
    refine R.move (h := ?_)
    refine R.move (h := ?_)
    refine R.index I61 (e := [.val (.string ⟨(cut1 r 45).toArray⟩)]) (hj := fun _ => ⟨by decide, rfl⟩) (h := ?_)
    first | refine R.loadB O9 (h := ?_) | refine R.load1 O9 (h := ?_)
    refine R.callP (es := [_]) (fun _ => decimalR_P (cut1 r 45) (by omega)) (h := ?_)
    refine R.not (h := ?_)
    refine R.or (h := ?_)
    refine R.move (h := ?_)
    refine R.move (h := ?_)
    first | refine R.len S61 (h := ?_) | refine R.lenRs S61 (h := ?_) | refine R.lenV (run_lenNil S61) (h := ?_)
    rw [strsC_length]
    refine R.bin (run_eql _ _ _ _ _ _) (h := ?_)
    refine R.move (h := ?_)
    refine R.move (h := ?_)
    refine R.skip (.v undef) (es := [_, _]) (h := ?_)
    refine R.skip (.t []) (es := [_]) (h := ?_)
    refine R.skip (.b false) (es := [_, _]) (h := ?_)
    refine R.skip (.b true) (es := [_]) (h := ?_)
    refine R.move (h := ?_)
    refine R.move (h := ?_)
    refine R.index I61 (e := [.val (.string ⟨(cut1 r 45).toArray⟩)]) (hj := fun _ => ⟨by decide, rfl⟩) (h := ?_)
    first | refine R.loadB O9 (h := ?_) | refine R.load1 O9 (h := ?_)
    refine R.move (h := ?_)
    refine R.skip (.v undef) (es := [_, _]) (h := ?_)
    refine R.skip (.t []) (es := [_]) (h := ?_)
    refine R.skip (.b false) (es := [_, _, _]) (h := ?_)
    refine R.skip (.b true) (es := [_]) (h := ?_)
    refine R.or (h := ?_)
    refine R.and (h := ?_)
    refine R.or (h := ?_)
    refine Reg.nil ⟨fun _ => ⟨mixedO, by rfl, by rfl⟩, ?_⟩
    refine LGo.ifb (ht := fun hc3 => ?_) (hf := fun hc3 => ?_)
    ·
     rw [if_neg (by intro h; rw [h] at hc3; simp at hc3)] at hq
     dsimp only at hq
     rw [Option.map_none] at hq
     rw [hq] at e1
     dsimp only at e1
     rw [← e1]
     refine .seq ?_
     refine .region rfl ?_
     refine R.assign (h := ?_)
     refine R.assign (h := ?_)
     refine .n0 ?_
     first | refine LGo.frzT 2 (h := ?_) | refine LGo.nilSl 2 1 (h := ?_) | skip
     exact LGo.ret (ret_TT Tryz.results10 hA hmd)
    ·
     rw [if_pos (show decC (cut1 r 45) = true from by cases h : decC (cut1 r 45) <;> simp_all)] at hq
     dsimp only at hq
     have hdc : decC (cut1 r 45) = true := by cases h : decC (cut1 r 45) <;> simp_all
     have hdt : decT (cut1 r 45) = true := by rw [← decC_decT (cut1_45 r)]; exact hdc
     refine .skip ?_
     refine .seq ?_
     refine .seq ?_
     refine .region rfl ?_
     refine R.move (h := ?_)
     refine R.bin (run_gtr _ _ _ _ _ _) (h := ?_)
     refine R.move (h := ?_)
     refine R.move (h := ?_)
     refine R.callP (es := [_]) (fun _ => nextR_P last (by omega) hld) (h := ?_)
     refine R.move (h := ?_)
     refine R.index I61 (e := [.val (.string ⟨(cut1 r 45).toArray⟩)]) (hj := fun _ => ⟨by decide, rfl⟩) (h := ?_)
     first | refine R.loadB O9 (h := ?_) | refine R.load1 O9 (h := ?_)
     refine R.callP (es := [_, _]) (fun _ => lessR_P (nextT last) (cut1 r 45) (by omega) (by omega)) (h := ?_)
     refine R.not (h := ?_)
     refine R.and (h := ?_)
     refine Reg.nil ⟨fun _ => ⟨mixedO, by rfl, by rfl⟩, ?_⟩
     refine LGo.ifb (ht := fun hc4 => ?_) (hf := fun hc4 => ?_)
     ·
      rw [if_neg (by rw [pv_ok, hc4]; simp)] at hq
      rw [Option.map_none] at hq
      rw [hq] at e1
      dsimp only at e1
      rw [← e1]
      refine .seq ?_
      refine .region rfl ?_
      refine R.assign (h := ?_)
      refine R.assign (h := ?_)
      refine .n0 ?_
      first | refine LGo.frzT 2 (h := ?_) | refine LGo.nilSl 2 1 (h := ?_) | skip
      exact LGo.ret (ret_TT Tryz.results10 hA hmd)
     ·
      rw [if_pos (by rw [pv_ok, hc4]; rfl), Option.map_map] at hq
      refine .skip ?_
      refine .seq ?_
      refine .region rfl ?_
      refine R.move (h := ?_)
      refine R.move (h := ?_)
      first | refine R.len S61 (h := ?_) | refine R.lenRs S61 (h := ?_) | refine R.lenV (run_lenNil S61) (h := ?_)
      rw [strsC_length]
      first | refine R.sub (h := ?_) | refine R.subW (h := ?_)
      rw [show IntKind.i64.wrap ((([cut1 r 45].length : Nat) : Int) - 1) = 0 from by rw [IntKind.wrap_i64]; simp only [List.length_cons, List.length_nil]; omega]
      refine R.index I61 (e := [.val (.string ⟨(cut1 r 45).toArray⟩)]) (hj := fun _ => ⟨by decide, rfl⟩) (h := ?_)
      first | refine R.loadB O9 (h := ?_) | refine R.load1 O9 (h := ?_)
      refine R.assign (h := ?_)
      refine .n0 ?_
      refine .seq ?_
      refine .region rfl ?_
      refine R.move (h := ?_)
      refine R.move (h := ?_)
      refine R.index I61 (e := [.val (.string ⟨(cut1 r 45).toArray⟩)]) (hj := fun _ => ⟨by decide, rfl⟩) (h := ?_)
      first | refine R.loadB O9 (h := ?_) | refine R.load1 O9 (h := ?_)
      refine R.buildSliceG AP61 (xs := [_]) (es := [_]) (hcs := CellsOfs.cons (CellsOf.one rfl) CellsOfs.nil) (h := ?_)
      refine R.appendS AP61 (hs := SrcOk.sl Tryz.underlying61 (by simp)) (hlen := by rw [strsC_length]; simp; omega) (h := ?_)
      refine R.assign (h := ?_)
      refine .n0 ?_
      refine .region rfl ?_
      refine R.move (h := ?_)
      refine R.move (h := ?_)
      refine R.buildSliceG AP61 (xs := [_]) (es := [_]) (hcs := CellsOfs.cons (CellsOf.one rfl) CellsOfs.nil) (h := ?_)
      refine R.appendS AP61 (hs := SrcOk.sl Tryz.underlying61 (by simp)) (hlen := by rw [strsC_length]; simp; omega) (h := ?_)
      refine R.assign (h := ?_)
      refine .n0 ?_
      refine .inBlock ?_
      refine .region rfl ?_
      refine R.move (h := ?_)
      first | refine R.add (h := ?_) | refine R.addW (h := ?_)
      refine R.assign (h := ?_)
      refine .n0 ?_
      refine .inLoop ?_
      exact LGo.turn [2, 3] (b := 0) (fun o h => by have := (hA o).1 h; omega) (ih (k + 1, cut1 r 45, out ++ [(cut1 r 45, cut1 r 45)]) ⟨by dsimp only; omega, by dsimp only; simp [hol], by simp [lastP], decT_all2 hdt, by dsimp only; omega, by dsimp only; rw [hq, show pvOf (k + 1) (cut1 r 45) = some (cut1 r 45) from if_pos (by omega)]; congr 1; funext x; simp⟩ (by dsimp only; omega)) (by repeat (first | exact trivial | refine ⟨rfl, ?_⟩)) ⟨by dsimp only; rw [List.map_append, List.map_cons, List.map_nil, strsC_snoc1]; rfl, by dsimp only; rw [List.map_append, List.map_cons, List.map_nil, strsC_snoc1]; rfl, trivial⟩
   ·
    rw [he]
    rw [he] at hsm
    have hb2 := hsm (cut2 r 45) (by simp)
    rw [run_b hi hn45] at hq
    refine R.move (h := ?_)
    first | refine R.len S61 (h := ?_) | refine R.lenRs S61 (h := ?_) | refine R.lenV (run_lenNil S61) (h := ?_)
    rw [strsC_length]
    refine R.bin (run_gtr _ _ _ _ _ _) (h := ?_)
    refine R.move (h := ?_)
    refine R.move (h := ?_)
    refine R.index I61 (e := [.val (.string ⟨(cut1 r 45).toArray⟩)]) (hj := fun _ => ⟨by decide, rfl⟩) (h := ?_)
    first | refine R.loadB O9 (h := ?_) | refine R.load1 O9 (h := ?_)
    refine R.callP (es := [_]) (fun _ => decimalR_P (cut1 r 45) (by omega)) (h := ?_)
    refine R.not (h := ?_)
    refine R.or (h := ?_)
    refine R.move (h := ?_)
    refine R.move (h := ?_)
    first | refine R.len S61 (h := ?_) | refine R.lenRs S61 (h := ?_) | refine R.lenV (run_lenNil S61) (h := ?_)
    rw [strsC_length]
    refine R.bin (run_eql _ _ _ _ _ _) (h := ?_)
    refine R.move (h := ?_)
    refine R.move (h := ?_)
    refine R.index I61 (e := [.val (.string ⟨(cut2 r 45).toArray⟩)]) (hj := fun _ => ⟨by decide, rfl⟩) (h := ?_)
    first | refine R.loadB O9 (h := ?_) | refine R.load1 O9 (h := ?_)
    refine R.callP (es := [_]) (fun _ => decimalR_P (cut2 r 45) (by omega)) (h := ?_)
    refine R.not (h := ?_)
    refine R.move (h := ?_)
    refine R.move (h := ?_)
    refine R.index I61 (e := [.val (.string ⟨(cut1 r 45).toArray⟩)]) (hj := fun _ => ⟨by decide, rfl⟩) (h := ?_)
    first | refine R.loadB O9 (h := ?_) | refine R.load1 O9 (h := ?_)
    refine R.move (h := ?_)
    refine R.index I61 (e := [.val (.string ⟨(cut2 r 45).toArray⟩)]) (hj := fun _ => ⟨by decide, rfl⟩) (h := ?_)
    first | refine R.loadB O9 (h := ?_) | refine R.load1 O9 (h := ?_)
    refine R.callP (es := [_, _]) (fun _ => lessR_P (cut1 r 45) (cut2 r 45) (by omega) (by omega)) (h := ?_)
    refine R.not (h := ?_)
    refine R.or (h := ?_)
    refine R.and (h := ?_)
    refine R.or (h := ?_)
    refine Reg.nil ⟨fun _ => ⟨mixedO, by rfl, by rfl⟩, ?_⟩
    refine LGo.ifb (ht := fun hc5 => ?_) (hf := fun hc5 => ?_)
    ·
     rw [if_neg (by rintro ⟨h1, h2, h3⟩; rw [h1, h2, decide_eq_true h3] at hc5; simp at hc5)] at hq
     dsimp only at hq
     rw [Option.map_none] at hq
     rw [hq] at e1
     dsimp only at e1
     rw [← e1]
     refine .seq ?_
     refine .region rfl ?_
     refine R.assign (h := ?_)
     refine R.assign (h := ?_)
     refine .n0 ?_
     first | refine LGo.frzT 2 (h := ?_) | refine LGo.nilSl 2 1 (h := ?_) | skip
     exact LGo.ret (ret_TT Tryz.results10 hA hmd)
    ·
     have hall : decC (cut1 r 45) = true ∧ decC (cut2 r 45) = true ∧ cmpT (cut1 r 45) (cut2 r 45) < 0 := by
       by_cases h3 : cmpT (cut1 r 45) (cut2 r 45) < 0
       · cases h1 : decC (cut1 r 45) <;> cases h2 : decC (cut2 r 45) <;> simp_all
       · rw [decide_eq_false h3] at hc5; simp at hc5
     rw [if_pos hall] at hq
     dsimp only at hq
     have hdt2 : decT (cut2 r 45) = true := by rw [← decC_decT (no45 hn45)]; exact hall.2.1
     refine .skip ?_
     refine .seq ?_
     refine .seq ?_
     refine .region rfl ?_
     refine R.move (h := ?_)
     refine R.bin (run_gtr _ _ _ _ _ _) (h := ?_)
     refine R.move (h := ?_)
     refine R.move (h := ?_)
     refine R.callP (es := [_]) (fun _ => nextR_P last (by omega) hld) (h := ?_)
     refine R.move (h := ?_)
     refine R.index I61 (e := [.val (.string ⟨(cut1 r 45).toArray⟩)]) (hj := fun _ => ⟨by decide, rfl⟩) (h := ?_)
     first | refine R.loadB O9 (h := ?_) | refine R.load1 O9 (h := ?_)
     refine R.callP (es := [_, _]) (fun _ => lessR_P (nextT last) (cut1 r 45) (by omega) (by omega)) (h := ?_)
     refine R.not (h := ?_)
     refine R.and (h := ?_)
     refine Reg.nil ⟨fun _ => ⟨mixedO, by rfl, by rfl⟩, ?_⟩
     refine LGo.ifb (ht := fun hc6 => ?_) (hf := fun hc6 => ?_)
     ·
      rw [if_neg (by rw [pv_ok, hc6]; simp)] at hq
      rw [Option.map_none] at hq
      rw [hq] at e1
      dsimp only at e1
      rw [← e1]
      refine .seq ?_
      refine .region rfl ?_
      refine R.assign (h := ?_)
      refine R.assign (h := ?_)
      refine .n0 ?_
      first | refine LGo.frzT 2 (h := ?_) | refine LGo.nilSl 2 1 (h := ?_) | skip
      exact LGo.ret (ret_TT Tryz.results10 hA hmd)
     ·
      rw [if_pos (by rw [pv_ok, hc6]; rfl), Option.map_map] at hq
      refine .skip ?_
      refine .seq ?_
      refine .region rfl ?_
      refine R.move (h := ?_)
      refine R.move (h := ?_)
      first | refine R.len S61 (h := ?_) | refine R.lenRs S61 (h := ?_) | refine R.lenV (run_lenNil S61) (h := ?_)
      rw [strsC_length]
      first | refine R.sub (h := ?_) | refine R.subW (h := ?_)
      rw [show IntKind.i64.wrap ((([cut1 r 45, cut2 r 45].length : Nat) : Int) - 1) = 1 from by rw [IntKind.wrap_i64]; simp only [List.length_cons, List.length_nil]; omega]
      refine R.index I61 (e := [.val (.string ⟨(cut2 r 45).toArray⟩)]) (hj := fun _ => ⟨by decide, rfl⟩) (h := ?_)
      first | refine R.loadB O9 (h := ?_) | refine R.load1 O9 (h := ?_)
      refine R.assign (h := ?_)
      refine .n0 ?_
      refine .seq ?_
      refine .region rfl ?_
      refine R.move (h := ?_)
      refine R.move (h := ?_)
      refine R.index I61 (e := [.val (.string ⟨(cut1 r 45).toArray⟩)]) (hj := fun _ => ⟨by decide, rfl⟩) (h := ?_)
      first | refine R.loadB O9 (h := ?_) | refine R.load1 O9 (h := ?_)
      refine R.buildSliceG AP61 (xs := [_]) (es := [_]) (hcs := CellsOfs.cons (CellsOf.one rfl) CellsOfs.nil) (h := ?_)
      refine R.appendS AP61 (hs := SrcOk.sl Tryz.underlying61 (by simp)) (hlen := by rw [strsC_length]; simp; omega) (h := ?_)
      refine R.assign (h := ?_)
      refine .n0 ?_
      refine .region rfl ?_
      refine R.move (h := ?_)
      refine R.move (h := ?_)
      refine R.buildSliceG AP61 (xs := [_]) (es := [_]) (hcs := CellsOfs.cons (CellsOf.one rfl) CellsOfs.nil) (h := ?_)
      refine R.appendS AP61 (hs := SrcOk.sl Tryz.underlying61 (by simp)) (hlen := by rw [strsC_length]; simp; omega) (h := ?_)
      refine R.assign (h := ?_)
      refine .n0 ?_
      refine .inBlock ?_
      refine .region rfl ?_
      refine R.move (h := ?_)
      first | refine R.add (h := ?_) | refine R.addW (h := ?_)
      refine R.assign (h := ?_)
      refine .n0 ?_
      refine .inLoop ?_
      exact LGo.turn [2, 3] (b := 0) (fun o h => by have := (hA o).1 h; omega) (ih (k + 1, cut2 r 45, out ++ [(cut1 r 45, cut2 r 45)]) ⟨by dsimp only; omega, by dsimp only; simp [hol], by simp [lastP], decT_all2 hdt2, by dsimp only; omega, by dsimp only; rw [hq, show pvOf (k + 1) (cut2 r 45) = some (cut2 r 45) from if_pos (by omega)]; congr 1; funext x; simp⟩ (by dsimp only; omega)) (by repeat (first | exact trivial | refine ⟨rfl, ?_⟩)) ⟨by dsimp only; rw [List.map_append, List.map_cons, List.map_nil, strsC_snoc1]; rfl, by dsimp only; rw [List.map_append, List.map_cons, List.map_nil, strsC_snoc1]; rfl, trivial⟩
   ·
    rw [he]
    rw [he] at hsm
    have hb2 := hsm y (by simp)
    rw [run_c hi hd2] at hq
    dsimp only at hq
    rw [Option.map_none] at hq
    rw [hq] at e1
    dsimp only at e1
    rw [← e1]
    refine R.move (h := ?_)
    first | refine R.len S61 (h := ?_) | refine R.lenRs S61 (h := ?_) | refine R.lenV (run_lenNil S61) (h := ?_)
    rw [strsC_length]
    refine R.bin (run_gtr _ _ _ _ _ _) (h := ?_)
    refine R.move (h := ?_)
    refine R.move (h := ?_)
    refine R.index I61 (e := [.val (.string ⟨(cut1 r 45).toArray⟩)]) (hj := fun _ => ⟨by decide, rfl⟩) (h := ?_)
    first | refine R.loadB O9 (h := ?_) | refine R.load1 O9 (h := ?_)
    refine R.callP (es := [_]) (fun _ => decimalR_P (cut1 r 45) (by omega)) (h := ?_)
    refine R.not (h := ?_)
    refine R.or (h := ?_)
    refine R.move (h := ?_)
    refine R.move (h := ?_)
    first | refine R.len S61 (h := ?_) | refine R.lenRs S61 (h := ?_) | refine R.lenV (run_lenNil S61) (h := ?_)
    rw [strsC_length]
    refine R.bin (run_eql _ _ _ _ _ _) (h := ?_)
    refine R.move (h := ?_)
    refine R.move (h := ?_)
    refine R.index I61 (e := [.val (.string ⟨(y).toArray⟩)]) (hj := fun _ => ⟨by decide, rfl⟩) (h := ?_)
    first | refine R.loadB O9 (h := ?_) | refine R.load1 O9 (h := ?_)
    refine R.callP (es := [_]) (fun _ => decimalR_P (y) (by omega)) (h := ?_)
    refine R.not (h := ?_)
    refine R.move (h := ?_)
    refine R.move (h := ?_)
    refine R.index I61 (e := [.val (.string ⟨(cut1 r 45).toArray⟩)]) (hj := fun _ => ⟨by decide, rfl⟩) (h := ?_)
    first | refine R.loadB O9 (h := ?_) | refine R.load1 O9 (h := ?_)
    refine R.move (h := ?_)
    refine R.index I61 (e := [.val (.string ⟨(y).toArray⟩)]) (hj := fun _ => ⟨by decide, rfl⟩) (h := ?_)
    first | refine R.loadB O9 (h := ?_) | refine R.load1 O9 (h := ?_)
    refine R.callP (es := [_, _]) (fun _ => lessR_P (cut1 r 45) (y) (by omega) (by omega)) (h := ?_)
    refine R.not (h := ?_)
    refine R.or (h := ?_)
    refine R.and (h := ?_)
    refine R.or (h := ?_)
    refine Reg.nil ⟨fun _ => ⟨mixedO, by rfl, by rfl⟩, ?_⟩
    refine LGo.ifb (ht := fun hc7 => ?_) (hf := fun hc7 => by simp at hc7; omega)
    refine .seq ?_
    refine .region rfl ?_
    refine R.assign (h := ?_)
    refine R.assign (h := ?_)
    refine .n0 ?_
    first | refine LGo.frzT 2 (h := ?_) | refine LGo.nilSl 2 1 (h := ?_) | skip
    exact LGo.ret (ret_TT Tryz.results10 hA hmd)
  ·
   obtain rfl : k = rs.length := by omega
   have hq2 : goP none rs = some out := by rw [hq, List.drop_length]; simp [goP]
   rw [hq2] at e1
   dsimp only at e1
   refine LGo.frz 0 (h := ?_)
   refine LGo.frz 1 (h := ?_)
   refine .exit rfl ?_
   refine .seq ?_
   refine .seq ?_
   refine .region rfl ?_
   refine R.callP (es := [_]) (fun _ => digitsR_P 1000000000 (by decide) (by decide)) (h := ?_)
   refine R.move (h := ?_)
   have hi10 := itoa_10 (n := 1000000000) (by decide) (by decide)
   refine R.callP (es := [_, _]) (fun _ => lessR_P (Lib.itoa 1000000000) last (by omega) (by omega)) (h := ?_)
   refine .n0 ?_
   refine LGo.ifb (ht := fun hc8 => ?_) (hf := fun hc8 => ?_)
   ·
    rw [← hla, if_pos ((cmpT_swap _ _).1 (by simpa using hc8))] at e1; rw [← e1]
    refine .seq ?_
    refine .region rfl ?_
    refine R.assign (h := ?_)
    refine R.assign (h := ?_)
    refine .n0 ?_
    first | refine LGo.frzT 2 (h := ?_) | refine LGo.nilSl 2 1 (h := ?_) | skip
    exact LGo.ret (ret_TT Tryz.results10 hA hmd)
   ·
    have hn8 : ¬ 0 < cmpT last (Lib.itoa 1000000000) := fun h => by rw [decide_eq_true ((cmpT_swap _ _).2 h)] at hc8; cases hc8
    rw [← hla, if_neg hn8] at e1
    have hfact := ps_facts hq2 (by rw [← hla]; exact hn8)
    clear hq hmem hq2
    refine .skip ?_
    refine .seq ?_
    refine .region rfl ?_
    refine R.assign (h := ?_)
    refine .n0 ?_
    refine .seq ?_
    refine .seq ?_
    refine .region rfl ?_
    refine R.assign (h := ?_)
    refine .n0 ?_
    refine .block ?_
    refine .loop ?_
    refine LGo.nilRs 10 3 1 (h := ?_)
    refine LGo.loopG (σ := Nat × List Int) (fun x => x.1 ≤ out.length ∧ x.2.length ≤ 500 ∧ expP out [] = expP (out.drop x.1) x.2) (fun x => [(11, (true, .i (x.1 : Nat))), (10, (true, .ref 2))]) (fun x => [(2, .rs 3 1 (ic .i64 x.2))]) (fun x => out.length - x.1) (0, []) [(5, _), (6, _), (7, _)] ⟨Nat.zero_le _, Nat.zero_le _, rfl⟩ (by repeat (first | exact trivial | refine ⟨rfl, ?_⟩)) (by repeat (first | exact trivial | refine ⟨rfl, ?_⟩)) (by repeat (first | exact trivial | refine ⟨rfl, ?_⟩)) ?_
    rintro ⟨j, acc⟩ ⟨hj, hal, hq3⟩ ih2
    dsimp only at * 
    refine .seq ?_
    refine .seq ?_
    refine .region rfl ?_
    refine R.move (h := ?_)
    refine R.move (h := ?_)
    first | refine R.len S61 (h := ?_) | refine R.lenRs S61 (h := ?_) | refine R.lenV (run_lenNil S61) (h := ?_)
    rw [strsC_length]
    refine R.bin (run_lss _ _ _ _ _ _) (h := ?_)
    refine .n0 ?_
    refine LGo.ifd (ht := fun hc9 => ?_) (hf := fun hc9 => ?_)
    ·
     have hlt : j < out.length := by omega
     have hx1 : (strsC (out.map (·.1)))[((j : Nat) : Int).toNat]? = some [.val (.string ⟨out[j].1.toArray⟩)] := by simp [strsC, hlt]
     have hx2 : (strsC (out.map (·.2)))[((j : Nat) : Int).toNat]? = some [.val (.string ⟨out[j].2.toArray⟩)] := by simp [strsC, hlt]
     rw [List.drop_eq_getElem_cons hlt, expP] at hq3
     obtain ⟨f1, f2, f3, f4, f5, f6⟩ := hfact out[j] (List.getElem_mem hlt)
     generalize out[j] = p at hx1 hx2 hq3 f1 f2 f3 f4 f5 f6
     obtain ⟨a, b⟩ := p
     dsimp only at hx1 hx2 hq3 f1 f2 f3 f4 f5 f6
     refine .skip ?_
     refine .seq ?_
     refine .block ?_
     refine .seq ?_
     refine .region rfl ?_
     refine R.move (h := ?_)
     refine R.move (h := ?_)
     refine R.index I61 (e := [.val (.string ⟨(a).toArray⟩)]) (hj := fun _ => ⟨by omega, hx1⟩) (h := ?_)
     first | refine R.loadB O9 (h := ?_) | refine R.load1 O9 (h := ?_)
     refine R.callP (es := [_, _, _]) (fun _ => intR_P a 0 1000000000 (by omega)) (h := ?_)
     rw [int_both, intW_dig f1 (by omega)]
     refine R.move (h := ?_)
     refine R.extract (h := ?_)
     refine R.extract (h := ?_)
     refine R.assign (h := ?_)
     refine R.assign (h := ?_)
     refine .n0 ?_
     refine .seq ?_
     refine .region rfl ?_
     refine R.move (h := ?_)
     refine R.move (h := ?_)
     refine R.index I61 (e := [.val (.string ⟨(b).toArray⟩)]) (hj := fun _ => ⟨by omega, hx2⟩) (h := ?_)
     first | refine R.loadB O9 (h := ?_) | refine R.load1 O9 (h := ?_)
     refine R.callP (es := [_, _, _]) (fun _ => intR_P b 0 1000000000 (by omega)) (h := ?_)
     rw [int_both, intW_dig f2 (by omega)]
     refine R.move (h := ?_)
     refine R.extract (h := ?_)
     refine R.extract (h := ?_)
     refine R.assign (h := ?_)
     refine R.assign (h := ?_)
     refine .n0 ?_
     refine .seq ?_
     refine .region rfl ?_
     refine R.move (h := ?_)
     refine R.assign (h := ?_)
     refine .n0 ?_
     refine .block ?_
     refine .loop ?_
     refine LGo.loopG (σ := Nat × List Int) (fun x => x.1 ≤ val10 0 b + 1 - val10 0 a ∧ acc.length + x.1 ≤ 500 ∧ x.2 = acc ++ (List.range x.1).map fun j => ((val10 0 a + j : Nat) : Int)) (fun x => [(16, (true, .i ((val10 0 a + x.1 : Nat) : Nat))), (10, (true, .ref 2))]) (fun x => [(2, .rs 3 1 (ic .i64 x.2))]) (fun x => val10 0 b + 1 - val10 0 a - x.1) (0, acc) [(5, _), (6, _), (7, _), (11, _), (14, _)] ⟨Nat.zero_le _, hal, by simp⟩ (by repeat (first | exact trivial | refine ⟨rfl, ?_⟩)) (by repeat (first | exact trivial | refine ⟨rfl, ?_⟩)) (by repeat (first | exact trivial | refine ⟨rfl, ?_⟩)) ?_
     rintro ⟨i, c⟩ ⟨hi2, hai, hcc⟩ ih3
     dsimp only at * 
     have hcl : c.length = acc.length + i := by rw [hcc]; simp
     refine .seq ?_
     refine .seq ?_
     refine .region rfl ?_
     refine R.move (h := ?_)
     refine R.move (h := ?_)
     refine R.bin (run_leq _ _ _ _ _ _) (h := ?_)
     refine .n0 ?_
     refine LGo.ifd (ht := fun hc10 => ?_) (hf := fun hc10 => ?_)
     ·
      refine .skip ?_
      refine .seq ?_
      refine .block ?_
      refine .seq ?_
      refine .seq ?_
      refine .region rfl ?_
      refine R.move (h := ?_)
      first | refine R.len S22 (h := ?_) | refine R.lenRs S22 (h := ?_) | refine R.lenV (run_lenNil S22) (h := ?_)
      rw [ic_len]
      refine R.bin (run_eql _ _ _ _ _ _) (h := ?_)
      refine .n0 ?_
      refine LGo.ifd (ht := fun hc11 => ?_) (hf := fun hc11 => ?_)
      ·
       rw [if_pos (by omega)] at hq3
       rw [hq3] at e1
       dsimp only at e1
       rw [← e1]
       refine .seq ?_
       refine .region rfl ?_
       refine R.assign (h := ?_)
       refine R.assign (h := ?_)
       refine .n0 ?_
       first | refine LGo.frzT 2 (h := ?_) | refine LGo.nilSl 2 1 (h := ?_) | skip
       exact LGo.ret (ret_TT Tryz.results10 hA hmd)
      ·
       refine .skip ?_
       refine .region rfl ?_
       refine R.move (h := ?_)
       refine R.move (h := ?_)
       refine R.buildSliceG AP22 (xs := [_]) (es := [_]) (hcs := CellsOfs.cons (CellsOf.one rfl) CellsOfs.nil) (h := ?_)
       refine R.appendS AP22 (hs := SrcOk.sl Tryz.underlying22 (by simp)) (hlen := by rw [ic_len]; simp; omega) (h := ?_)
       refine R.assign (h := ?_)
       refine .n0 ?_
       refine .inBlock ?_
       refine .region rfl ?_
       refine R.move (h := ?_)
       first | refine R.add (h := ?_) | refine R.addW (h := ?_)
       refine R.assign (h := ?_)
       refine .n0 ?_
       refine .inLoop ?_
       rw [show ((val10 0 a + i : Nat) : Int) + 1 = ((val10 0 a + (i + 1) : Nat) : Int) from by omega]
       exact LGo.turn [0, 1, 3] (b := 0) (fun o h => by have := (hA o).1 h; omega) (ih3 (i + 1, c ++ [((val10 0 a + i : Nat) : Int)]) ⟨by dsimp only; omega, by dsimp only; omega, by dsimp only; rw [hcc, List.range_succ, List.map_append, List.append_assoc]; rfl⟩ (by dsimp only; omega)) (by repeat (first | exact trivial | refine ⟨rfl, ?_⟩)) ⟨by rw [ic_snoc]; rfl, trivial⟩
     ·
      have hi3 : i = val10 0 b + 1 - val10 0 a := by omega
      rw [hi3] at hcc hcl hai
      rw [if_neg (by omega), ← hcc] at hq3
      refine .exit rfl ?_
      refine .inBlock ?_
      refine .region rfl ?_
      refine R.move (h := ?_)
      first | refine R.add (h := ?_) | refine R.addW (h := ?_)
      refine R.assign (h := ?_)
      refine .n0 ?_
      refine .inLoop ?_
      exact LGo.next _ (fun o h => by have := (hA o).1 h; omega) (by omega) (ih2 (j + 1, c) ⟨by dsimp only; omega, by dsimp only; omega, hq3⟩ (by dsimp only; omega)) (by repeat (first | exact trivial | refine ⟨rfl, ?_⟩)) ⟨rfl, trivial⟩
    ·
     rw [List.drop_of_length_le (by omega), expP] at hq3
     rw [hq3] at e1
     dsimp only at e1
     rw [← e1]
     refine .exit rfl ?_
     refine .seq ?_
     refine .region rfl ?_
     refine R.move (h := ?_)
     refine R.assign (h := ?_)
     refine R.assign (h := ?_)
     refine .n0 ?_
     first | refine LGo.frzT 2 (h := ?_) | refine LGo.nilSl 2 1 (h := ?_) | skip
     exact LGo.ret (ret_TT Tryz.results10 hA hmd)

end Go.Proofs.YtmjpkfjgknbfeaaGreatDoor
