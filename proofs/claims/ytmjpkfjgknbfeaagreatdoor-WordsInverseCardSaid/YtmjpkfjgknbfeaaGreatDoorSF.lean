/- words, the reference: List; two lists compared. -/
import Derived.Test.YtmjpkfjgknbfeaaGreatDoorSE
set_option linter.unusedSimpArgs false
set_option linter.unusedVariables false
namespace Go.Proofs.YtmjpkfjgknbfeaaGreatDoor

theorem listR_P (l : List Int) (hl : l.length ≤ 100000) (h64 : ∀ n ∈ l, -9223372036854775808 ≤ n ∧ n ≤ 9223372036854775807) : PC Tryz.prog 8 [.sv (.sl 1 (ic .i64 l))] (.tup [.t (listW l).1, .i (listW l).2]) := by
 refine ⟨LC.of_go Tryz.func8 (c := _) rfl (by kernel_rfl) (by rw [Tryz.ntmps8]; simp) rfl rfl (by simp [LO.lt, LV.lts, LV.lt]) (by simp) ?_⟩
 intro B hA hmd
 obtain ⟨g, e0⟩ : ∃ g, listW l = g := ⟨_, rfl⟩
 have e1 := e0
 unfold listW at e1
 rw [e0]
 refine .seq ?_
 refine .region rfl ?_
 refine R.assign (h := ?_)
 refine R.assign (h := ?_)
 refine .n0 ?_
 refine .seq ?_
 refine .seq ?_
 refine .region rfl ?_
 refine R.move (h := ?_)
 first | refine R.len S22 (h := ?_) | refine R.lenRs S22 (h := ?_) | refine R.lenV (run_lenNil S22) (h := ?_)
 rw [ic_len]
 refine R.bin (run_gtr _ _ _ _ _ _) (h := ?_)
 refine .n0 ?_
 refine LGo.ifd (ht := fun hc => ?_) (hf := fun hc => ?_)
 ·
  rw [if_pos hc] at e1; rw [← e1]
  refine .seq ?_
  refine .region rfl ?_
  refine R.assign (h := ?_)
  refine R.assign (h := ?_)
  refine .n0 ?_
  exact LGo.ret (ret_TT Tryz.results8 hA hmd)
 ·
  rw [if_neg hc] at e1
  refine .skip ?_
  refine .seq ?_
  refine .seq ?_
  refine .region rfl ?_
  refine R.assign (h := ?_)
  refine .n0 ?_
  refine .block ?_
  refine .loop ?_
  refine LGo.loopG (σ := Nat) (fun x => x ≤ l.length ∧ outK l x = false) (fun x => [(4, (true, .i (x : Nat)))]) (fun x => []) (fun x => l.length - x) (0) [(0, _)] ⟨Nat.zero_le _, rfl⟩ (by repeat (first | exact trivial | refine ⟨rfl, ?_⟩)) (by repeat (first | exact trivial | refine ⟨rfl, ?_⟩)) (by repeat (first | exact trivial | refine ⟨rfl, ?_⟩)) ?_
  rintro k ⟨hk, hok⟩ ih
  refine .seq ?_
  refine .seq ?_
  refine .region rfl ?_
  refine R.move (h := ?_)
  refine R.move (h := ?_)
  first | refine R.len S22 (h := ?_) | refine R.lenRs S22 (h := ?_) | refine R.lenV (run_lenNil S22) (h := ?_)
  rw [ic_len]
  refine R.bin (run_lss _ _ _ _ _ _) (h := ?_)
  refine .n0 ?_
  refine LGo.ifd (ht := fun hc2 => ?_) (hf := fun hc2 => ?_)
  ·
   have hlt : k < l.length := by omega
   have ho := outK_succ l k
   rw [hok, Bool.false_or] at ho
   refine .skip ?_
   refine .seq ?_
   refine .block ?_
   refine .seq ?_
   refine .region rfl ?_
   refine R.move (h := ?_)
   refine R.move (h := ?_)
   refine R.index I22 (e := [.val (.int .i64 (l.getD (k) 0))]) (hj := fun hg => ⟨by omega, by rw [Int.toNat_natCast]; exact icD (by omega)⟩) (h := ?_)
   first | refine R.loadB O3 (h := ?_) | refine R.load1 O3 (h := ?_)
   refine R.bin (run_lss _ _ _ _ _ _) (h := ?_)
   refine R.move (h := ?_)
   refine R.move (h := ?_)
   refine R.move (h := ?_)
   refine R.index I22 (e := [.val (.int .i64 (l.getD (k) 0))]) (hj := fun hg => ⟨by omega, by rw [Int.toNat_natCast]; exact icD (by omega)⟩) (h := ?_)
   first | refine R.loadB O3 (h := ?_) | refine R.load1 O3 (h := ?_)
   refine R.bin (run_gtr _ _ _ _ _ _) (h := ?_)
   refine R.or (h := ?_)
   refine .n0 ?_
   refine LGo.ifb (ht := fun hc3 => ?_) (hf := fun hc3 => ?_)
   ·
    rw [if_pos (outK_yes hlt hc3)] at e1; rw [← e1]
    refine .seq ?_
    refine .region rfl ?_
    refine R.assign (h := ?_)
    refine R.assign (h := ?_)
    refine .n0 ?_
    exact LGo.ret (ret_TT Tryz.results8 hA hmd)
   ·
    rw [hc3] at ho
    refine .skip ?_
    refine .inBlock ?_
    refine .region rfl ?_
    refine R.move (h := ?_)
    first | refine R.add (h := ?_) | refine R.addW (h := ?_)
    refine R.assign (h := ?_)
    refine .n0 ?_
    refine .inLoop ?_
    exact LGo.next _ (fun o h => by have := (hA o).1 h; omega) (by omega) (ih (k + 1) ⟨hlt, ho⟩ (by omega)) (by repeat (first | exact trivial | refine ⟨rfl, ?_⟩)) (by repeat (first | exact trivial | refine ⟨rfl, ?_⟩))
  ·
   obtain rfl : k = l.length := by omega
   rw [if_neg (by rw [hok]; simp)] at e1
   have hrng := outK_no hok
   clear hok
   refine .exit rfl ?_
   refine .seq ?_
   refine .seq ?_
   refine .region rfl ?_
   refine R.assign (h := ?_)
   refine .n0 ?_
   refine .block ?_
   refine .loop ?_
   refine LGo.loopG (σ := Nat) (fun x => 1 ≤ x ∧ (x ≤ l.length ∨ l.length = 0) ∧ descK l x = false) (fun x => [(5, (true, .i (x : Nat)))]) (fun x => []) (fun x => l.length - x) (1) [(0, _)] ⟨Nat.le_refl _, by omega, by simp [descK]⟩ (by repeat (first | exact trivial | refine ⟨rfl, ?_⟩)) (by repeat (first | exact trivial | refine ⟨rfl, ?_⟩)) (by repeat (first | exact trivial | refine ⟨rfl, ?_⟩)) ?_
   rintro k ⟨h1k, hkl, hdk⟩ ih2
   refine .seq ?_
   refine .seq ?_
   refine .region rfl ?_
   refine R.move (h := ?_)
   refine R.move (h := ?_)
   first | refine R.len S22 (h := ?_) | refine R.lenRs S22 (h := ?_) | refine R.lenV (run_lenNil S22) (h := ?_)
   rw [ic_len]
   refine R.bin (run_lss _ _ _ _ _ _) (h := ?_)
   refine .n0 ?_
   refine LGo.ifd (ht := fun hc4 => ?_) (hf := fun hc4 => ?_)
   ·
    have hlt : k < l.length := by omega
    have hde := descK_succ l k
    rw [hdk, Bool.false_or] at hde
    refine .skip ?_
    refine .seq ?_
    refine .block ?_
    refine .seq ?_
    refine .region rfl ?_
    refine R.move (h := ?_)
    refine R.move (h := ?_)
    refine R.index I22 (e := [.val (.int .i64 (l.getD (k) 0))]) (hj := fun hg => ⟨by omega, by rw [Int.toNat_natCast]; exact icD (by omega)⟩) (h := ?_)
    first | refine R.loadB O3 (h := ?_) | refine R.load1 O3 (h := ?_)
    refine R.move (h := ?_)
    refine R.move (h := ?_)
    first | refine R.sub (h := ?_) | refine R.subW (h := ?_)
    refine R.index I22 (e := [.val (.int .i64 (l.getD (k - 1) 0))]) (hj := fun hg => ⟨by omega, by rw [show Int.toNat ((k : Int) - 1) = k - 1 from by omega]; exact icD (by omega)⟩) (h := ?_)
    first | refine R.loadB O3 (h := ?_) | refine R.load1 O3 (h := ?_)
    refine R.bin (run_leq _ _ _ _ _ _) (h := ?_)
    refine Reg.nil ⟨fun _ => ⟨mixedO, by rfl, by rfl⟩, ?_⟩
    refine LGo.ifd (ht := fun hc5 => ?_) (hf := fun hc5 => ?_)
    ·
     have hdl : descK l l.length = true := by
       unfold descK
       rw [List.any_eq_true]
       exact ⟨k, List.mem_range.2 hlt, by simp only [Bool.and_eq_true, decide_eq_true_eq]; omega⟩
     rw [if_pos hdl] at e1; rw [← e1]
     refine .seq ?_
     refine .region rfl ?_
     refine R.assign (h := ?_)
     refine R.assign (h := ?_)
     refine .n0 ?_
     exact LGo.ret (ret_TT Tryz.results8 hA hmd)
    ·
     have hde2 : descK l (k + 1) = false := by rw [hde]; simp only [Bool.and_eq_false_iff, decide_eq_false_iff_not]; omega
     refine .skip ?_
     refine .inBlock ?_
     refine .region rfl ?_
     refine R.move (h := ?_)
     first | refine R.add (h := ?_) | refine R.addW (h := ?_)
     refine R.assign (h := ?_)
     refine .n0 ?_
     refine .inLoop ?_
     exact LGo.next _ (fun o h => by have := (hA o).1 h; omega) (by omega) (ih2 (k + 1) ⟨by omega, by omega, hde2⟩ (by omega)) (by repeat (first | exact trivial | refine ⟨rfl, ?_⟩)) (by repeat (first | exact trivial | refine ⟨rfl, ?_⟩))
   ·
    have hdl : descK l l.length = false := by
      rcases hkl with h | h
      · rw [← show k = l.length from by omega]; exact hdk
      · rw [h]; rfl
    rw [if_neg (by rw [hdl]; simp)] at e1
    clear hdk hdl
    refine .exit rfl ?_
    refine .seq ?_
    refine .seq ?_
    refine .region rfl ?_
    refine R.move (h := ?_)
    first | refine R.len S22 (h := ?_) | refine R.lenRs S22 (h := ?_) | refine R.lenV (run_lenNil S22) (h := ?_)
    rw [ic_len]
    refine R.bin (run_eql _ _ _ _ _ _) (h := ?_)
    refine .n0 ?_
    refine LGo.ifd (ht := fun hc6 => ?_) (hf := fun hc6 => ?_)
    ·
     rw [if_pos (List.eq_nil_of_length_eq_zero (by omega))] at e1; rw [← e1]
     refine .seq ?_
     refine .region rfl ?_
     refine R.assign (h := ?_)
     refine R.assign (h := ?_)
     refine .n0 ?_
     exact LGo.ret (ret_TT Tryz.results8 hA hmd)
    ·
     rw [if_neg (by intro h; rw [h] at hc6; simp at hc6)] at e1; rw [← e1]
     refine .skip ?_
     refine .seq ?_
     refine .region rfl ?_
     refine R.assign (h := ?_)
     refine .n0 ?_
     refine .seq ?_
     refine .seq ?_
     refine .region rfl ?_
     refine R.assign (h := ?_)
     refine .n0 ?_
     refine .block ?_
     refine .loop ?_
     refine LGo.loopG (σ := Nat × List UInt8 × Nat) (fun x => x.1 ≤ l.length ∧ l.length - x.1 < x.2.2 ∧ x.2.1.length ≤ 24 * x.1 ∧ (0 < x.1 → x.2.1 ≠ []) ∧ (x.1 = 0 → x.2.1 = []) ∧ listGo x.2.2 (l.drop x.1) x.2.1 = listGo (l.length + 1) l []) (fun x => [(7, (true, .i (x.1 : Nat))), (6, (true, .t x.2.1))]) (fun x => []) (fun x => l.length - x.1) (0, [], l.length + 1) [(0, _)] ⟨Nat.zero_le _, by dsimp only; omega, Nat.zero_le _, fun h => absurd h (by dsimp only; omega), fun _ => rfl, rfl⟩ (by repeat (first | exact trivial | refine ⟨rfl, ?_⟩)) (by repeat (first | exact trivial | refine ⟨rfl, ?_⟩)) (by repeat (first | exact trivial | refine ⟨rfl, ?_⟩)) ?_
     rintro ⟨i, acc, f⟩ ⟨hi, hf, hal, hne, hz, hq⟩ ih3
     dsimp only at * 
     refine .seq ?_
     refine .seq ?_
     refine .region rfl ?_
     refine R.move (h := ?_)
     refine R.move (h := ?_)
     first | refine R.len S22 (h := ?_) | refine R.lenRs S22 (h := ?_) | refine R.lenV (run_lenNil S22) (h := ?_)
     rw [ic_len]
     refine R.bin (run_lss _ _ _ _ _ _) (h := ?_)
     refine .n0 ?_
     refine LGo.ifd (ht := fun hc7 => ?_) (hf := fun hc7 => ?_)
     ·
      have hlt : i < l.length := by omega
      obtain ⟨f, rfl⟩ : ∃ g, f = g + 1 := ⟨f - 1, by omega⟩
      have hd : l.drop i = l.getD i 0 :: l.drop (i + 1) := by rw [List.drop_eq_getElem_cons hlt, List.getD_eq_getElem?_getD, List.getElem?_eq_getElem hlt]; rfl
      rw [hd, listGo] at hq
      have hra := hrng i
      have hstp := fun d h => runLen_step (l.getD i 0) (l.drop (i + 1)) d h
      have hat := fun d h => runLen_at (l.getD i 0) (l.drop (i + 1)) d h
      have hrl := runLen_le (l.getD i 0) (l.drop (i + 1))
      rw [← hd] at hstp hat
      simp only [dropD, List.length_drop] at hstp hat hrl
      refine .skip ?_
      refine .seq ?_
      refine .block ?_
      refine .seq ?_
      refine .region rfl ?_
      refine R.move (h := ?_)
      refine R.assign (h := ?_)
      refine .n0 ?_
      refine .seq ?_
      refine .block ?_
      refine .loop ?_
      refine LGo.loopG (σ := Nat) (fun x => x ≤ runLen (l.getD i 0) (l.drop (i + 1))) (fun x => [(8, (true, .i ((i + x : Nat) : Nat)))]) (fun x => []) (fun x => l.length - (i + x)) (0) [(0, _), (6, _), (7, _)] (Nat.zero_le _) (by repeat (first | exact trivial | refine ⟨rfl, ?_⟩)) (by repeat (first | exact trivial | refine ⟨rfl, ?_⟩)) (by repeat (first | exact trivial | refine ⟨rfl, ?_⟩)) ?_
      rintro d hdr ih4
      have hb1 := hrng (i + d)
      have hb2 := hrng (i + d + 1)
      have hst := hstp d hdr
      rw [show i + (d + 1) = i + d + 1 from by omega] at hst
      refine .seq ?_
      refine .seq ?_
      refine .region rfl ?_
      refine R.move (h := ?_)
      first | refine R.add (h := ?_) | refine R.addW (h := ?_)
      refine R.move (h := ?_)
      first | refine R.len S22 (h := ?_) | refine R.lenRs S22 (h := ?_) | refine R.lenV (run_lenNil S22) (h := ?_)
      rw [ic_len]
      refine R.bin (run_lss _ _ _ _ _ _) (h := ?_)
      refine R.move (h := ?_)
      refine R.move (h := ?_)
      refine R.move (h := ?_)
      first | refine R.add (h := ?_) | refine R.addW (h := ?_)
      refine R.index I22 (e := [.val (.int .i64 (l.getD (i + d + 1) 0))]) (hj := fun hg => ⟨by omega, by rw [show Int.toNat (((i + d : Nat) : Int) + 1) = i + d + 1 from by omega]; exact icD (by simp at hg; omega)⟩) (h := ?_)
      first | refine R.loadB O3 (h := ?_) | refine R.load1 O3 (h := ?_)
      refine R.move (h := ?_)
      refine R.move (h := ?_)
      refine R.index I22 (e := [.val (.int .i64 (l.getD (i + d) 0))]) (hj := fun hg => ⟨by omega, by rw [Int.toNat_natCast]; exact icD (by omega)⟩) (h := ?_)
      first | refine R.loadB O3 (h := ?_) | refine R.load1 O3 (h := ?_)
      first | refine R.add (h := ?_) | refine R.addW (h := ?_)
      refine R.bin (run_eql _ _ _ _ _ _) (h := ?_)
      refine R.and (h := ?_)
      refine Reg.nil ⟨fun _ => ⟨mixedO, by rfl, by rfl⟩, ?_⟩
      refine LGo.ifb (ht := fun hc8 => ?_) (hf := fun hc8 => ?_)
      ·
       have hd1 : d + 1 ≤ runLen (l.getD i 0) (l.drop (i + 1)) := by rw [hst]; simp only [Bool.or_eq_true, Bool.and_eq_true, decide_eq_true_eq, Bool.or_eq_false_iff, Bool.and_eq_false_iff, decide_eq_false_iff_not, Bool.not_eq_true', Bool.not_eq_false', Bool.not_eq_true, Bool.not_eq_false, Bool.false_eq_true, Bool.true_eq_false, iff_true, true_iff, iff_false, false_iff] at hc8; omega
       refine .skip ?_
       refine .block ?_
       refine .region rfl ?_
       refine R.move (h := ?_)
       first | refine R.add (h := ?_) | refine R.addW (h := ?_)
       refine R.assign (h := ?_)
       refine .n0 ?_
       refine .inBlock ?_
       refine .inLoop ?_
       rw [show ((i + d : Nat) : Int) + 1 = ((i + (d + 1) : Nat) : Int) from by omega]
       exact LGo.next _ (fun o h => by have := (hA o).1 h; omega) (by omega) (ih4 (d + 1) hd1 (by omega)) (by repeat (first | exact trivial | refine ⟨rfl, ?_⟩)) trivial
      ·
       have hde : d = runLen (l.getD i 0) (l.drop (i + 1)) := by
         by_cases h : d + 1 ≤ runLen (l.getD i 0) (l.drop (i + 1))
         · have h2 := hst.1 h
           simp only [Bool.or_eq_true, Bool.and_eq_true, decide_eq_true_eq, Bool.or_eq_false_iff, Bool.and_eq_false_iff, decide_eq_false_iff_not, Bool.not_eq_true', Bool.not_eq_false', Bool.not_eq_true, Bool.not_eq_false, Bool.false_eq_true, Bool.true_eq_false, iff_true, true_iff, iff_false, false_iff] at hc8
           omega
         · omega
       rw [← hde] at hq hrl
       rw [List.drop_drop] at hq
       have had := hat d hdr
       have hi1 := itoa_10 hra.1 hra.2
       have hi2 := itoa_10 (n := l.getD i 0 + d) (by omega) (by omega)
       have hin := itoa_ne (l.getD i 0)
       clear hst hstp hat
       refine .exit rfl ?_
       refine .seq ?_
       refine .seq ?_
       refine .region rfl ?_
       refine R.move (h := ?_)
       refine R.bin (run_neqT _ _ _ _ _) (h := ?_)
       refine .n0 ?_
       refine LGo.cut (σ := List UInt8) (fun x => x = acc ++ sepL acc ∧ x.length ≤ acc.length + 1) (fun x => [(6, (true, .t x))]) (fun x => []) 0 [(0, _), (7, _), (8, _), (62, _), (63, _), (64, _), (65, _), (66, _), (67, _), (68, _), (69, _), (70, _), (71, _), (72, _)] (by repeat (first | exact trivial | refine ⟨rfl, ?_⟩)) ?_ (fun hcut => ?_)
       ·
        rintro o ⟨ho, hol⟩
        refine .seq ?_
        refine .region rfl ?_
        refine R.move (h := ?_)
        refine R.move (h := ?_)
        refine R.move (h := ?_)
        refine R.index I22 (e := [.val (.int .i64 (l.getD (i) 0))]) (hj := fun hg => ⟨by omega, by rw [Int.toNat_natCast]; exact icD (by omega)⟩) (h := ?_)
        first | refine R.loadB O3 (h := ?_) | refine R.load1 O3 (h := ?_)
        refine R.callP (es := [_]) (fun _ => digitsR_P (l.getD i 0) (by omega) (by omega)) (h := ?_)
        refine R.bin (run_addT _ _ _ (o) (Lib.itoa (l.getD i 0)) (by first | omega | (simp only [List.length_append, List.length_cons, List.length_nil] at *; omega))) (h := ?_)
        refine R.assign (h := ?_)
        refine .n0 ?_
        refine .seq ?_
        refine .seq ?_
        refine .region rfl ?_
        refine R.move (h := ?_)
        refine R.move (h := ?_)
        refine R.bin (run_gtr _ _ _ _ _ _) (h := ?_)
        refine .n0 ?_
        refine LGo.ifd (ht := fun hc10 => ?_) (hf := fun hc10 => ?_)
        ·
         have hpos : 0 < d := by omega
         rw [← ho] at hq
         refine .region rfl ?_
         refine R.move (h := ?_)
         refine R.bin (run_addT _ _ _ (o ++ Lib.itoa (l.getD i 0)) ([45]) (by first | omega | (simp only [List.length_append, List.length_cons, List.length_nil] at *; omega))) (h := ?_)
         refine R.move (h := ?_)
         refine R.move (h := ?_)
         refine R.index I22 (e := [.val (.int .i64 (l.getD (i + d) 0))]) (hj := fun hg => ⟨by omega, by rw [Int.toNat_natCast]; exact icD (by omega)⟩) (h := ?_)
         rw [had]
         first | refine R.loadB O3 (h := ?_) | refine R.load1 O3 (h := ?_)
         refine R.callP (es := [_]) (fun _ => digitsR_P (l.getD i 0 + d) (by omega) (by omega)) (h := ?_)
         refine R.bin (run_addT _ _ _ (o ++ Lib.itoa (l.getD i 0) ++ [45]) (Lib.itoa (l.getD i 0 + d)) (by first | omega | (simp only [List.length_append, List.length_cons, List.length_nil] at *; omega))) (h := ?_)
         refine R.assign (h := ?_)
         refine .n0 ?_
         refine .region rfl ?_
         refine R.move (h := ?_)
         refine R.assign (h := ?_)
         refine .n0 ?_
         refine .inBlock ?_
         refine .region rfl ?_
         refine R.move (h := ?_)
         first | refine R.add (h := ?_) | refine R.addW (h := ?_)
         refine R.assign (h := ?_)
         refine .n0 ?_
         refine .inLoop ?_
         rw [show ((i + d : Nat) : Int) + 1 = ((i + d + 1 : Nat) : Int) from by omega]
         exact LGo.next _ (fun o h => by have := (hA o).1 h; omega) (by omega) (ih3 (i + d + 1, o ++ Lib.itoa (l.getD i 0) ++ [45] ++ Lib.itoa (l.getD i 0 + d), f) ⟨by dsimp only; omega, by dsimp only; omega, by dsimp only; simp only [List.length_append, List.length_cons, List.length_nil] at *; omega, fun _ => by dsimp only; simp, fun h => absurd h (by dsimp only; omega), by dsimp only; rw [← hq, show i + d + 1 = i + 1 + d from by omega, ho]; simp only [runTxt, hpos]; simp⟩ (by dsimp only; omega)) (by repeat (first | exact trivial | refine ⟨rfl, ?_⟩)) trivial
        ·
         have hpos : ¬ 0 < d := by omega
         rw [← ho] at hq
         refine .skip ?_
         refine .region rfl ?_
         refine R.move (h := ?_)
         refine R.assign (h := ?_)
         refine .n0 ?_
         refine .inBlock ?_
         refine .region rfl ?_
         refine R.move (h := ?_)
         first | refine R.add (h := ?_) | refine R.addW (h := ?_)
         refine R.assign (h := ?_)
         refine .n0 ?_
         refine .inLoop ?_
         rw [show ((i + d : Nat) : Int) + 1 = ((i + d + 1 : Nat) : Int) from by omega]
         exact LGo.next _ (fun o h => by have := (hA o).1 h; omega) (by omega) (ih3 (i + d + 1, o ++ Lib.itoa (l.getD i 0), f) ⟨by dsimp only; omega, by dsimp only; omega, by dsimp only; simp only [List.length_append, List.length_cons, List.length_nil] at *; omega, fun _ => fun h => hin (List.append_eq_nil_iff.1 h).2, fun h => absurd h (by dsimp only; omega), by dsimp only; rw [← hq, show i + d + 1 = i + 1 + d from by omega, ho]; simp only [runTxt, hpos]; simp⟩ (by dsimp only; omega)) (by repeat (first | exact trivial | refine ⟨rfl, ?_⟩)) trivial
       ·
        refine LGo.ifb (ht := fun hc9 => ?_) (hf := fun hc9 => ?_)
        ·
         refine .region rfl ?_
         refine R.move (h := ?_)
         refine R.bin (run_addT _ _ _ (acc) ([44]) (by first | omega | (simp only [List.length_append, List.length_cons, List.length_nil] at *; omega))) (h := ?_)
         refine R.assign (h := ?_)
         refine .n0 ?_
         exact LGo.next _ (fun o h => by have := (hA o).1 h; omega) (by omega) (hcut (acc ++ [44]) ⟨by unfold sepL; rw [if_neg (by simpa using hc9)], by simp⟩) (by repeat (first | exact trivial | refine ⟨rfl, ?_⟩)) (by repeat (first | exact trivial | refine ⟨rfl, ?_⟩))
        ·
         refine .skip ?_
         exact LGo.next _ (fun o h => by have := (hA o).1 h; omega) (by omega) (hcut acc ⟨by unfold sepL; rw [if_pos (by simpa using hc9), List.append_nil], by omega⟩) (by repeat (first | exact trivial | refine ⟨rfl, ?_⟩)) (by repeat (first | exact trivial | refine ⟨rfl, ?_⟩))
     ·
      rw [List.drop_of_length_le (by omega)] at hq
      obtain ⟨f, rfl⟩ : ∃ g, f = g + 1 := ⟨f - 1, by omega⟩
      rw [← hq]
      refine .exit rfl ?_
      refine .seq ?_
      refine .region rfl ?_
      refine R.move (h := ?_)
      refine R.assign (h := ?_)
      refine R.assign (h := ?_)
      refine .n0 ?_
      exact LGo.ret (ret_TT Tryz.results8 hA hmd)

theorem lists_P (l : List Int) (hl : l.length ≤ 100000) : PC Tryz.prog 11 [.sv (.sl 1 (ic .i64 l)), .sv (.sl 1 (ic .i64 l))] (.b true) := by
 refine ⟨LC.of_go Tryz.func11 (c := _) rfl (by kernel_rfl) (by rw [Tryz.ntmps11]; simp) rfl rfl (by simp [LO.lt, LV.lts, LV.lt]) (by simp) ?_⟩
 intro B hA hmd
 refine .seq ?_
 refine .region rfl ?_
 refine R.assign (h := ?_)
 refine .n0 ?_
 refine .seq ?_
 refine .seq ?_
 refine .region rfl ?_
 refine R.move (h := ?_)
 first | refine R.len S22 (h := ?_) | refine R.lenRs S22 (h := ?_) | refine R.lenV (run_lenNil S22) (h := ?_)
 rw [ic_len]
 refine R.move (h := ?_)
 first | refine R.len S22 (h := ?_) | refine R.lenRs S22 (h := ?_) | refine R.lenV (run_lenNil S22) (h := ?_)
 rw [ic_len]
 refine R.bin (run_neq _ _ _ _ _ _) (h := ?_)
 refine .n0 ?_
 refine LGo.ifb (ht := fun hc => ?_) (hf := fun hc => ?_)
 ·
  simp at hc
 ·
  refine .skip ?_
  refine .seq ?_
  refine .seq ?_
  refine .region rfl ?_
  refine R.assign (h := ?_)
  refine .n0 ?_
  refine .block ?_
  refine .loop ?_
  refine LGo.loopG (σ := Nat) (fun x => x ≤ l.length) (fun x => [(5, (true, .i (x : Nat)))]) (fun x => []) (fun x => l.length - x) (0) [(0, _), (1, _)] (Nat.zero_le _) (by repeat (first | exact trivial | refine ⟨rfl, ?_⟩)) (by repeat (first | exact trivial | refine ⟨rfl, ?_⟩)) (by repeat (first | exact trivial | refine ⟨rfl, ?_⟩)) ?_
  rintro j hj ih
  refine .seq ?_
  refine .seq ?_
  refine .region rfl ?_
  refine R.move (h := ?_)
  refine R.move (h := ?_)
  first | refine R.len S22 (h := ?_) | refine R.lenRs S22 (h := ?_) | refine R.lenV (run_lenNil S22) (h := ?_)
  rw [ic_len]
  refine R.bin (run_lss _ _ _ _ _ _) (h := ?_)
  refine .n0 ?_
  refine LGo.ifd (ht := fun hc2 => ?_) (hf := fun hc2 => ?_)
  ·
   have hlt : j < l.length := by omega
   refine .skip ?_
   refine .seq ?_
   refine .block ?_
   refine .seq ?_
   refine .region rfl ?_
   refine R.move (h := ?_)
   refine R.move (h := ?_)
   refine R.index I22 (e := [.val (.int .i64 (l.getD (j) 0))]) (hj := fun hg => ⟨by omega, by rw [Int.toNat_natCast]; exact icD (by omega)⟩) (h := ?_)
   first | refine R.loadB O3 (h := ?_) | refine R.load1 O3 (h := ?_)
   refine R.move (h := ?_)
   refine R.move (h := ?_)
   refine R.index I22 (e := [.val (.int .i64 (l.getD (j) 0))]) (hj := fun hg => ⟨by omega, by rw [Int.toNat_natCast]; exact icD (by omega)⟩) (h := ?_)
   first | refine R.loadB O3 (h := ?_) | refine R.load1 O3 (h := ?_)
   refine R.bin (run_neq _ _ _ _ _ _) (h := ?_)
   refine Reg.nil ⟨fun _ => ⟨mixedO, by rfl, by rfl⟩, ?_⟩
   refine LGo.ifb (ht := fun hc3 => ?_) (hf := fun hc3 => ?_)
   ·
    simp at hc3
   ·
    refine .skip ?_
    refine .inBlock ?_
    refine .region rfl ?_
    refine R.move (h := ?_)
    first | refine R.add (h := ?_) | refine R.addW (h := ?_)
    refine R.assign (h := ?_)
    refine .n0 ?_
    refine .inLoop ?_
    exact LGo.next _ (fun o h => by have := (hA o).1 h; omega) (by omega) (ih (j + 1) hlt (by omega)) (by repeat (first | exact trivial | refine ⟨rfl, ?_⟩)) (by repeat (first | exact trivial | refine ⟨rfl, ?_⟩))
  ·
   refine .exit rfl ?_
   refine .seq ?_
   refine .region rfl ?_
   refine R.assign (h := ?_)
   refine .n0 ?_
   exact LGo.ret (ret_T Tryz.results11 hA hmd)

end Go.Proofs.YtmjpkfjgknbfeaaGreatDoor
