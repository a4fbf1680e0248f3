/- words: the law WordsInverse (walk). -/
import Derived.Test.YtmjpkfjgknbfeaaGreatDoorSN
set_option linter.unusedSimpArgs false
set_option linter.unusedVariables false
namespace Go.Proofs.YtmjpkfjgknbfeaaGreatDoor

theorem lawInverse_P (s : List UInt8) (l : List Fd) (hl : l.length ≤ maxLen) (xs : List Int) (hx : xs.length ≤ maxLen) (h64 : ∀ n ∈ xs, -9223372036854775808 ≤ n ∧ n ≤ 9223372036854775807) (nn : Int) (h0 : -9223372036854775808 ≤ nn) (h1 : nn ≤ 9223372036854775807) : PC Tryz.prog 5 [.t s, .sv (.sl 2 (l.map Fd.c)), .agg [.sv (.sl 1 (ic .i64 xs)), .i nn]] (.b true) := by
 refine ⟨LC.of_go Tryz.func5 (c := _) rfl (by kernel_rfl) (by rw [Tryz.ntmps5]; simp) rfl rfl (by simp [LO.lt, LV.lts, LV.lt]) (by simp) ?_⟩
 intro B hA hmd
 refine .seq ?_
 refine .region rfl ?_
 refine R.box (h := ?_)
 refine R.assign (h := ?_)
 refine .n0 ?_
 refine .seq ?_
 refine .seq ?_
 refine .region rfl ?_
 refine R.move (h := ?_)
 refine R.lenT Tryz.runUnderlying9 (h := ?_)
 refine R.bin (run_gtr _ _ _ _ _ _) (h := ?_)
 refine R.move (h := ?_)
 refine R.move (h := ?_)
 refine R.callP (es := [_]) (fun _ => far_P l hl) (h := ?_)
 refine R.or (h := ?_)
 refine R.move (h := ?_)
 first | refine R.field F39_0 (h := ?_) | refine R.fieldAt F39_0 (h := ?_)
 first | refine R.loadB O22 (h := ?_) | refine R.load1 O22 (h := ?_)
 first | refine R.len S22 (h := ?_) | refine R.lenRs S22 (h := ?_) | refine R.lenV (run_lenNil S22) (h := ?_)
 rw [ic_len]
 refine R.bin (run_gtr _ _ _ _ _ _) (h := ?_)
 refine R.or (h := ?_)
 refine .n0 ?_
 refine LGo.ifb (ht := fun hc => ?_) (hf := fun hc => ?_)
 ·
  refine .seq ?_
  refine .region rfl ?_
  refine R.callP (es := []) (fun _ => shown_P) (h := ?_)
  refine R.assign (h := ?_)
  refine .n0 ?_
  exact LGo.ret (ret_T Tryz.results5 hA hmd)
 ·
  simp only [Bool.or_eq_false_iff, decide_eq_false_iff_not] at hc
  obtain ⟨⟨hc1, hf⟩, hc3⟩ := hc
  have hl7 := far_len hf
  refine .skip ?_
  refine .seq ?_
  refine .region rfl ?_
  refine R.move (h := ?_)
  refine R.callP (es := [_]) (fun _ => split_P s) (h := ?_)
  refine R.move (h := ?_)
  refine R.extract (h := ?_)
  refine R.extract (h := ?_)
  refine R.assign (h := ?_)
  refine R.assign (h := ?_)
  refine .n0 ?_
  refine .seq ?_
  refine .seq ?_
  refine .region rfl ?_
  refine R.move (h := ?_)
  refine R.bin (run_eql _ _ _ _ _ _) (h := ?_)
  refine .n0 ?_
  refine LGo.cut (σ := Unit) (fun x => True) (fun x => []) (fun x => [(0, .box 39 [.sv (.sl 1 (ic .i64 xs)), .i nn])]) 1 [(0, _), (1, _), (5, _)] (by repeat (first | exact trivial | refine ⟨rfl, ?_⟩)) ?_ (fun hcut => ?_)
  ·
   rintro u _
   refine .seq ?_
   refine .region rfl ?_
   refine R.move (h := ?_)
   refine R.callP (es := [_]) (fun _ => joinW_P l (by omega)) (h := ?_)
   refine R.move (h := ?_)
   refine R.extract (h := ?_)
   refine R.extract (h := ?_)
   refine R.assign (h := ?_)
   refine R.assign (h := ?_)
   refine .n0 ?_
   refine .seq ?_
   refine .seq ?_
   refine .region rfl ?_
   refine R.move (h := ?_)
   refine R.bin (run_eql _ _ _ _ _ _) (h := ?_)
   refine .n0 ?_
   refine LGo.cut (σ := Unit) (fun x => True) (fun x => []) (fun x => [(0, .box 39 [.sv (.sl 1 (ic .i64 xs)), .i nn])]) 1 [(0, _), (5, _)] (by repeat (first | exact trivial | refine ⟨rfl, ?_⟩)) ?_ (fun hcut => ?_)
   ·
    rintro u _
    refine .seq ?_
    refine .region rfl ?_
    refine R.move (h := ?_)
    refine R.callP (es := [_]) (fun _ => quote_P s (by omega)) (h := ?_)
    have hql := quote_len s
    refine R.callP (es := [_]) (fun _ => unquoteW_P (quote s) (by omega)) (h := ?_)
    rw [unq_quote]
    refine R.move (h := ?_)
    refine R.extract (h := ?_)
    refine R.extract (h := ?_)
    refine R.assign (h := ?_)
    refine R.assign (h := ?_)
    refine .n0 ?_
    refine .seq ?_
    refine .region rfl ?_
    refine R.move (h := ?_)
    refine R.callP (es := [_]) (fun _ => unquoteW_P s (by omega)) (h := ?_)
    refine R.move (h := ?_)
    refine R.extract (h := ?_)
    refine R.extract (h := ?_)
    refine R.assign (h := ?_)
    refine R.assign (h := ?_)
    refine .n0 ?_
    refine .seq ?_
    refine .seq ?_
    refine .region rfl ?_
    refine R.move (h := ?_)
    refine R.move (h := ?_)
    refine R.bin (run_neqT _ _ _ _ _) (h := ?_)
    refine R.move (h := ?_)
    refine R.move (h := ?_)
    refine R.bin (run_neq _ _ _ _ _ _) (h := ?_)
    refine R.or (h := ?_)
    refine R.move (h := ?_)
    refine R.move (h := ?_)
    refine R.bin (run_eql _ _ _ _ _ _) (h := ?_)
    refine R.move (h := ?_)
    refine R.move (h := ?_)
    refine R.callP (es := [_]) (fun _ => quote_P (unqW s).1 (by have := unqW_len s; omega)) (hes := fun h => congrArg (fun x => [x]) (entLV_true h (fun h => h))) (h := ?_)
    refine R.move (h := ?_)
    refine R.bin (run_neqT _ _ _ _ _) (h := ?_)
    refine R.and (h := ?_)
    refine R.or (h := ?_)
    refine .n0 ?_
    refine LGo.ifb (ht := fun hc6 => by simp at hc6; exact absurd (quote_unq hc6.1) hc6.2) (hf := fun hc6 => ?_)
    refine .skip ?_
    refine .seq ?_
    refine .region rfl ?_
    first | refine R.field F39_0 (h := ?_) | refine R.fieldAt F39_0 (h := ?_)
    first | refine R.loadB O22 (h := ?_) | refine R.load1 O22 (h := ?_)
    refine R.callP (es := [_]) (fun _ => list_P xs (by omega) h64) (h := ?_)
    refine R.move (h := ?_)
    refine R.extract (h := ?_)
    refine R.extract (h := ?_)
    refine R.assign (h := ?_)
    refine R.assign (h := ?_)
    refine .n0 ?_
    refine .seq ?_
    refine .seq ?_
    refine .region rfl ?_
    refine R.move (h := ?_)
    refine R.bin (run_eql _ _ _ _ _ _) (h := ?_)
    refine .n0 ?_
    refine LGo.cut (σ := Unit) (fun x => True) (fun x => []) (fun x => [(0, .box 39 [.sv (.sl 1 (ic .i64 xs)), .i nn])]) 1 [(0, _), (5, _)] (by repeat (first | exact trivial | refine ⟨rfl, ?_⟩)) ?_ (fun hcut => ?_)
    ·
     rintro u _
     refine .seq ?_
     refine .region rfl ?_
     refine R.move (h := ?_)
     refine R.callP (es := [_]) (fun _ => plist_P s (by omega)) (h := ?_)
     refine R.move (h := ?_)
     refine R.extract (h := ?_)
     refine R.extract (h := ?_)
     refine R.assign (h := ?_)
     refine R.assign (h := ?_)
     refine .n0 ?_
     refine .seq ?_
     refine .seq ?_
     refine .region rfl ?_
     refine R.move (h := ?_)
     refine R.bin (run_eql _ _ _ _ _ _) (h := ?_)
     refine .n0 ?_
     refine LGo.cut (σ := Unit) (fun x => True) (fun x => []) (fun x => [(0, .box 39 [.sv (.sl 1 (ic .i64 xs)), .i nn])]) 1 [(0, _), (5, _)] (by repeat (first | exact trivial | refine ⟨rfl, ?_⟩)) ?_ (fun hcut => ?_)
     ·
      rintro u _
      refine .seq ?_
      refine .region rfl ?_
      first | refine R.field F39_1 (h := ?_) | refine R.fieldAt F39_1 (h := ?_)
      first | refine R.loadB O2 (h := ?_) | refine R.load1 O2 (h := ?_)
      refine R.callP (es := [_]) (fun _ => digitsW_P nn h0 h1) (h := ?_)
      first | refine R.field F39_1 (h := ?_) | refine R.fieldAt F39_1 (h := ?_)
      first | refine R.loadB O2 (h := ?_) | refine R.load1 O2 (h := ?_)
      first | refine R.field F39_1 (h := ?_) | refine R.fieldAt F39_1 (h := ?_)
      first | refine R.loadB O2 (h := ?_) | refine R.load1 O2 (h := ?_)
      have hil := itoa_le h0 h1
      refine R.callP (es := [_, _, _]) (fun _ => int_P (Lib.itoa nn) nn nn (by omega)) (h := ?_)
      rw [intW_itoa h0 h1]
      refine R.move (h := ?_)
      refine R.extract (h := ?_)
      refine R.extract (h := ?_)
      refine R.assign (h := ?_)
      refine R.assign (h := ?_)
      refine Reg.nil ⟨fun _ => ⟨mixedO, by rfl, by rfl⟩, ?_⟩
      refine .seq ?_
      refine .region rfl ?_
      refine R.move (h := ?_)
      refine R.callP (es := [_, _, _]) (fun _ => int_P s (-9223372036854775808) 9223372036854775807 (by omega)) (h := ?_)
      refine R.move (h := ?_)
      refine R.extract (h := ?_)
      refine R.extract (h := ?_)
      refine R.assign (h := ?_)
      refine R.assign (h := ?_)
      refine .n0 ?_
      refine .seq ?_
      refine .region rfl ?_
      refine R.move (h := ?_)
      first | refine R.field F39_1 (h := ?_) | refine R.fieldAt F39_1 (h := ?_)
      first | refine R.loadB O2 (h := ?_) | refine R.load1 O2 (h := ?_)
      refine R.bin (run_eql _ _ _ _ _ _) (h := ?_)
      refine R.move (h := ?_)
      refine R.move (h := ?_)
      refine R.bin (run_eql _ _ _ _ _ _) (h := ?_)
      refine R.and (h := ?_)
      refine R.move (h := ?_)
      refine R.move (h := ?_)
      refine R.bin (run_neq _ _ _ _ _ _) (h := ?_)
      refine R.move (h := ?_)
      refine R.move (h := ?_)
      refine R.callP (es := [_]) (fun _ => digitsW_P (intW s (-9223372036854775808) 9223372036854775807).1 (intW_bnd s).1 (intW_bnd s).2) (hes := fun h => congrArg (fun x => [x]) (entLV_true h (fun h => h))) (h := ?_)
      refine R.move (h := ?_)
      refine R.bin (run_eqlT _ _ _ _ _) (h := ?_)
      refine R.or (h := ?_)
      refine R.and (h := ?_)
      refine R.move (h := ?_)
      refine R.callP (es := []) (fun _ => shown_P) (h := ?_)
      refine R.and (h := ?_)
      refine R.assign (h := ?_)
      refine .n0 ?_
      have hfin : (!decide ((intW s (-9223372036854775808) 9223372036854775807).2 = 0) || decide (Lib.itoa (intW s (-9223372036854775808) 9223372036854775807).1 = s)) = true := by
        by_cases h : (intW s (-9223372036854775808) 9223372036854775807).2 = 0
        · rw [itoa_intW h]; simp
        · simp [h]
      refine LGo.tru 6 (hb := by rw [hfin]; simp) (h := ?_)
      exact LGo.ret (ret_T Tryz.results5 hA hmd)
     ·
      refine LGo.ifd (ht := fun hc9 => ?_) (hf := fun hc9 => ?_)
      ·
       have hj := parse_list hc9
       refine .seq ?_
       refine .region rfl ?_
       refine R.move (h := ?_)
       have hpf := plistW_facts s
       refine R.callP (es := [_]) (fun _ => list_P (plistW s).1 (by omega) hpf.2) (h := ?_)
       rw [hj]
       refine R.move (h := ?_)
       refine R.extract (h := ?_)
       refine R.extract (h := ?_)
       refine R.assign (h := ?_)
       refine R.assign (h := ?_)
       refine .n0 ?_
       refine .seq ?_
       refine .region rfl ?_
       refine R.move (h := ?_)
       refine R.bin (run_neq _ _ _ _ _ _) (h := ?_)
       refine R.move (h := ?_)
       refine R.move (h := ?_)
       refine R.move (h := ?_)
       refine R.bin (run_neqT _ _ _ _ _) (h := ?_)
       refine R.or (h := ?_)
       refine .n0 ?_
       refine LGo.ifb (ht := fun hc10 => by simp_all) (hf := fun hc10 => ?_)
       refine .skip ?_
       exact LGo.next _ (fun o h => by have := (hA o).1 h; omega) (by omega) (hcut () trivial) (by repeat (first | exact trivial | refine ⟨rfl, ?_⟩)) (by repeat (first | exact trivial | refine ⟨rfl, ?_⟩))
      ·
       refine .skip ?_
       exact LGo.next _ (fun o h => by have := (hA o).1 h; omega) (by omega) (hcut () trivial) (by repeat (first | exact trivial | refine ⟨rfl, ?_⟩)) (by repeat (first | exact trivial | refine ⟨rfl, ?_⟩))
    ·
     refine LGo.ifd (ht := fun hc7 => ?_) (hf := fun hc7 => ?_)
     ·
      have hj := list_parse hc7
      refine .seq ?_
      refine .region rfl ?_
      refine R.move (h := ?_)
      refine R.callP (es := [_]) (fun _ => plist_P (listW xs).1 (listW_len xs)) (h := ?_)
      rw [hj]
      refine R.move (h := ?_)
      refine R.extract (h := ?_)
      refine R.extract (h := ?_)
      refine R.assign (h := ?_)
      refine R.assign (h := ?_)
      refine .n0 ?_
      refine .seq ?_
      refine .region rfl ?_
      refine R.move (h := ?_)
      refine R.bin (run_neq _ _ _ _ _ _) (h := ?_)
      refine R.move (h := ?_)
      refine R.move (h := ?_)
      first | refine R.field F39_0 (h := ?_) | refine R.fieldAt F39_0 (h := ?_)
      first | refine R.loadB O22 (h := ?_) | refine R.load1 O22 (h := ?_)
      refine R.callP (es := [_, _]) (fun _ => lists_P xs (by omega)) (h := ?_)
      refine R.not (h := ?_)
      refine R.or (h := ?_)
      refine .n0 ?_
      refine LGo.ifb (ht := fun hc8 => by simp_all) (hf := fun hc8 => ?_)
      refine .skip ?_
      exact LGo.next _ (fun o h => by have := (hA o).1 h; omega) (by omega) (hcut () trivial) (by repeat (first | exact trivial | refine ⟨rfl, ?_⟩)) (by repeat (first | exact trivial | refine ⟨rfl, ?_⟩))
     ·
      refine .skip ?_
      exact LGo.next _ (fun o h => by have := (hA o).1 h; omega) (by omega) (hcut () trivial) (by repeat (first | exact trivial | refine ⟨rfl, ?_⟩)) (by repeat (first | exact trivial | refine ⟨rfl, ?_⟩))
   ·
    refine LGo.ifd (ht := fun hc4 => ?_) (hf := fun hc4 => ?_)
    ·
     have hj := split_join hc4
     refine .seq ?_
     refine .region rfl ?_
     refine R.move (h := ?_)
     refine R.callP (es := [_]) (fun _ => split_P (joinW l).1) (h := ?_)
     rw [hj]
     refine R.move (h := ?_)
     refine R.extract (h := ?_)
     refine R.extract (h := ?_)
     refine R.assign (h := ?_)
     refine R.assign (h := ?_)
     refine .n0 ?_
     refine .seq ?_
     refine .region rfl ?_
     refine R.move (h := ?_)
     refine R.bin (run_neq _ _ _ _ _ _) (h := ?_)
     refine R.move (h := ?_)
     refine R.move (h := ?_)
     refine R.move (h := ?_)
     refine R.callP (es := [_, _]) (fun _ => sameF_P l (by omega)) (h := ?_)
     refine R.not (h := ?_)
     refine R.or (h := ?_)
     refine .n0 ?_
     refine LGo.ifb (ht := fun hc5 => by simp_all) (hf := fun hc5 => ?_)
     refine .skip ?_
     exact LGo.next _ (fun o h => by have := (hA o).1 h; omega) (by omega) (hcut () trivial) (by repeat (first | exact trivial | refine ⟨rfl, ?_⟩)) (by repeat (first | exact trivial | refine ⟨rfl, ?_⟩))
    ·
     refine .skip ?_
     exact LGo.next _ (fun o h => by have := (hA o).1 h; omega) (by omega) (hcut () trivial) (by repeat (first | exact trivial | refine ⟨rfl, ?_⟩)) (by repeat (first | exact trivial | refine ⟨rfl, ?_⟩))
  ·
   refine LGo.ifd (ht := fun hc2 => ?_) (hf := fun hc2 => ?_)
   ·
    have hj := join_split (by omega) hc2
    refine .seq ?_
    refine .region rfl ?_
    refine R.move (h := ?_)
    refine R.callP (es := [_]) (fun _ => joinW_P (split1 s).1 (by have := split1_64 s; omega)) (h := ?_)
    rw [hj]
    refine R.move (h := ?_)
    refine R.extract (h := ?_)
    refine R.extract (h := ?_)
    refine R.assign (h := ?_)
    refine R.assign (h := ?_)
    refine .n0 ?_
    refine .seq ?_
    refine .region rfl ?_
    refine R.move (h := ?_)
    refine R.move (h := ?_)
    refine R.bin (run_neqT _ _ _ _ _) (h := ?_)
    refine R.move (h := ?_)
    refine R.move (h := ?_)
    refine R.bin (run_neq _ _ _ _ _ _) (h := ?_)
    refine R.or (h := ?_)
    refine .n0 ?_
    refine LGo.ifb (ht := fun hc3 => by simp at hc3) (hf := fun hc3 => ?_)
    refine .skip ?_
    exact LGo.next _ (fun o h => by have := (hA o).1 h; omega) (by omega) (hcut () trivial) (by repeat (first | exact trivial | refine ⟨rfl, ?_⟩)) (by repeat (first | exact trivial | refine ⟨rfl, ?_⟩))
   ·
    refine .skip ?_
    exact LGo.next _ (fun o h => by have := (hA o).1 h; omega) (by omega) (hcut () trivial) (by repeat (first | exact trivial | refine ⟨rfl, ?_⟩)) (by repeat (first | exact trivial | refine ⟨rfl, ?_⟩))

end Go.Proofs.YtmjpkfjgknbfeaaGreatDoor
