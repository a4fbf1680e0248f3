/- words: the reference's Lines. -/
import Derived.Test.YtmjpkfjgknbfeaaDoorQV
set_option linter.unusedSimpArgs false
set_option linter.unusedVariables false
namespace Go.Proofs.YtmjpkfjgknbfeaaDoor


def nlGo : List UInt8 → List UInt8 → List (List UInt8)
  | _, [] => []
  | cur, c :: r => if c = 10 then cur :: nlGo [] r else nlGo (cur ++ [c]) r
theorem nlGo_app : ∀ (a cur r : List UInt8), (10 : UInt8) ∉ a → nlGo cur (a ++ r) = nlGo (cur ++ a) r
  | [], cur, r, _ => by rw [List.nil_append, List.append_nil]
  | c :: a, cur, r, h => by
    have h1 : ¬ c = 10 := fun e => h (by rw [e]; simp)
    rw [List.cons_append, nlGo, if_neg h1, nlGo_app a (cur ++ [c]) r (fun e => h (by simp [e]))]
    simp
theorem split_no {s : List UInt8} (h : (10 : UInt8) ∉ s) : Lib.split s [10] = [s] := by
  unfold Lib.split
  rw [Lib.count_one, List.count_eq_zero.2 h]
  rfl
theorem split_hit {a b : List UInt8} (h : (10 : UInt8) ∉ a) (hi : Lib.indexByte (a ++ 10 :: b) 10 = (a.length : Nat)) : Lib.split (a ++ 10 :: b) [10] = a :: Lib.split b [10] := by
  unfold Lib.split
  rw [Lib.count_one, Lib.count_one, List.count_append, List.count_eq_zero.2 h, List.count_cons_self, Nat.zero_add, Lib.splitK, Lib.index_one, hi, if_neg (by rw [beq_iff_eq]; omega), Int.toNat_natCast]
  have e : (a ++ 10 :: b).drop (a.length + [(10 : UInt8)].length) = b := by
    rw [show a.length + [(10 : UInt8)].length = a.length + 1 from rfl, ← List.drop_drop, List.drop_left]; rfl
  rw [e, Nat.add_zero, List.take_left]
theorem split_nl : ∀ (n : Nat) (s : List UInt8), s.length ≤ n → nlGo [] (s ++ [10]) = Lib.split s [10]
  | n, s, hn => by
    rcases index_cases 10 s with ⟨_, h2⟩ | ⟨a, b, rfl, h2, h3⟩
    · rw [split_no h2, nlGo_app s [] [10] h2]
      simp [nlGo]
    · match n with
      | 0 => simp at hn
      | n + 1 =>
        rw [split_hit h2 h3, List.append_assoc, List.cons_append, nlGo_app a [] _ h2, nlGo, if_pos rfl, split_nl n b (by simp at hn; omega)]
        simp
theorem last_drop {s : List UInt8} (h : 0 < s.length) : s.drop (s.length - 1) = [s[s.length - 1]] := by
  rw [List.drop_eq_getElem_cons (by omega), List.drop_of_length_le (by omega)]
theorem suffix_last {s : List UInt8} (h : 0 < s.length) : Lib.hasSuffix s [10] = decide (s[s.length - 1] = 10) := by
  rw [← Lib.hasSuffix_of_drop, show [(10 : UInt8)].length = 1 from rfl, last_drop h, Bool.eq_iff_iff]
  simp
  omega
theorem lines_nl {s : List UInt8} (h : 0 < s.length) (h1 : s[s.length - 1] = 10) : nlGo [] s = Lib.split (s.take (s.length - 1)) [10] := by
  have e : s = s.take (s.length - 1) ++ [10] := by
    conv => lhs; rw [← List.take_append_drop (s.length - 1) s, last_drop h, h1]
  conv => lhs; rw [e]
  exact split_nl _ _ (Nat.le_refl _)
theorem linesW_len (s : List UInt8) : (linesW s).1.length ≤ 5000 := by
  unfold linesW
  repeat' split
  all_goals (try simp)
  omega

theorem linesR_P (s : List UInt8) (hs : s.length ≤ 2000000) : PC Tryd.prog 45 [.t s] (.tup [.sv (.sl 1 (strsC (linesW s).1)), .i (linesW s).2]) := by
 refine ⟨LC.of_go Tryd.func45 (c := _) rfl (by kernel_rfl) (by rw [Tryd.ntmps45]; simp) rfl rfl (by simp [LO.lt, LV.lts, LV.lt]) (by simp) ?_⟩
 intro B hA hmd
 obtain ⟨g, e0⟩ : ∃ g, linesW s = g := ⟨_, rfl⟩
 have e1 := e0
 unfold linesW at e1
 rw [e0]
 refine .seq ?_
 refine .region rfl ?_
 refine R.assign (h := ?_)
 refine R.assign (h := ?_)
 refine .n0 ?_
 refine .seq ?_
 refine .seq ?_
 refine .region rfl ?_
 refine R.move (h := ?_)
 refine R.lenT Tryd.runUnderlying9 (h := ?_)
 refine R.bin (run_gtr _ _ _ _ _ _) (h := ?_)
 refine .n0 ?_
 refine LGo.ifd (ht := fun hc => ?_) (hf := fun hc => ?_)
 ·
  rw [if_pos hc] at e1; rw [← e1]
  refine .seq ?_
  refine .region rfl ?_
  refine R.assign (h := ?_)
  refine R.assign (h := ?_)
  refine .n0 ?_
  first | refine LGo.frzT 2 (h := ?_) | refine LGo.nilSl 2 1 (h := ?_) | skip
  exact LGo.ret (ret_TT Tryd.results45 hA hmd)
 ·
  rw [if_neg hc] at e1
  refine .skip ?_
  refine .seq ?_
  refine .seq ?_
  refine .region rfl ?_
  refine R.move (h := ?_)
  refine R.bin (run_eqlT _ _ _ _ _) (h := ?_)
  refine .n0 ?_
  refine LGo.ifd (ht := fun hc2 => ?_) (hf := fun hc2 => ?_)
  ·
   rw [if_pos hc2] at e1; rw [← e1]
   refine .seq ?_
   refine .region rfl ?_
   refine R.assign (h := ?_)
   refine R.assign (h := ?_)
   refine .n0 ?_
   first | refine LGo.frzT 2 (h := ?_) | refine LGo.nilSl 2 1 (h := ?_) | skip
   exact LGo.ret (ret_TT Tryd.results45 hA hmd)
  ·
   rw [if_neg hc2] at e1
   have hpos : 0 < s.length := List.length_pos_iff.2 hc2
   rw [suffix_last hpos] at e1
   refine .skip ?_
   refine .seq ?_
   refine .seq ?_
   refine .region rfl ?_
   refine R.move (h := ?_)
   refine R.move (h := ?_)
   refine R.lenT Tryd.runUnderlying9 (h := ?_)
   first | refine R.sub (h := ?_) | refine R.subW (h := ?_)
   refine R.indexT Tryd.runUnderlying9 (c := s[s.length - 1]) (hj := fun hg => ⟨by omega, by rw [show Int.toNat ((s.length : Int) - 1) = s.length - 1 from by omega]; exact List.getElem?_eq_getElem (by omega)⟩) (h := ?_)
   refine R.bin (run_neq _ _ _ _ _ _) (h := ?_)
   refine .n0 ?_
   refine LGo.ifb (ht := fun hc3 => ?_) (hf := fun hc3 => ?_)
   ·
    rw [if_pos (by rw [decide_eq_false_iff_not]; intro h; rw [h] at hc3; simp at hc3)] at e1; rw [← e1]
    refine .seq ?_
    refine .region rfl ?_
    refine R.assign (h := ?_)
    refine R.assign (h := ?_)
    refine .n0 ?_
    first | refine LGo.frzT 2 (h := ?_) | refine LGo.nilSl 2 1 (h := ?_) | skip
    exact LGo.ret (ret_TT Tryd.results45 hA hmd)
   ·
    have hla : s[s.length - 1] = 10 := UInt8.toNat.inj (by have : (10 : UInt8).toNat = 10 := rfl; simp at hc3; omega)
    rw [if_neg (by rw [hla]; simp), ← lines_nl hpos hla] at e1
    refine .skip ?_
    refine .seq ?_
    refine .region rfl ?_
    refine R.assign (h := ?_)
    refine .n0 ?_
    refine .seq ?_
    refine .region rfl ?_
    refine R.assign (h := ?_)
    refine .n0 ?_
    refine .seq ?_
    refine .seq ?_
    refine .region rfl ?_
    refine R.assign (h := ?_)
    refine .n0 ?_
    refine .block ?_
    refine .loop ?_
    refine LGo.nilRs 4 9 1 (h := ?_)
    refine LGo.loopG (σ := Nat × Nat × List (List UInt8)) (fun x => x.2.1 ≤ x.1 ∧ x.1 ≤ s.length ∧ x.2.2.length ≤ x.1 ∧ x.2.2 ++ nlGo ((s.drop x.2.1).take (x.1 - x.2.1)) (s.drop x.1) = nlGo [] s) (fun x => [(6, (true, .i (x.1 : Nat))), (4, (true, .ref 0)), (5, (true, .i (x.2.1 : Nat)))]) (fun x => [(0, .rs 9 1 (strsC x.2.2))]) (fun x => s.length - x.1) (0, 0, []) [(0, _)] ⟨Nat.le_refl _, Nat.zero_le _, Nat.zero_le _, rfl⟩ (by repeat (first | exact trivial | refine ⟨rfl, ?_⟩)) (by repeat (first | exact trivial | refine ⟨rfl, ?_⟩)) (by repeat (first | exact trivial | refine ⟨rfl, ?_⟩)) ?_
    rintro ⟨k, fr, out⟩ ⟨hf, hk, hol, hq⟩ ih
    dsimp only at * 
    refine .seq ?_
    refine .seq ?_
    refine .region rfl ?_
    refine R.move (h := ?_)
    refine R.move (h := ?_)
    refine R.lenT Tryd.runUnderlying9 (h := ?_)
    refine R.bin (run_lss _ _ _ _ _ _) (h := ?_)
    refine .n0 ?_
    refine LGo.ifd (ht := fun hc4 => ?_) (hf := fun hc4 => ?_)
    ·
     have hlt : k < s.length := by omega
     have hx : s[((k : Nat) : Int).toNat]? = some s[k] := by rw [Int.toNat_natCast]; exact List.getElem?_eq_getElem hlt
     rw [List.drop_eq_getElem_cons hlt, nlGo] at hq
     have htk : (s.drop fr).take (k + 1 - fr) = (s.drop fr).take (k - fr) ++ [s[k]] := by
       rw [show k + 1 - fr = k - fr + 1 from by omega, List.take_succ_eq_append_getElem (by rw [List.length_drop]; omega)]
       simp [show fr + (k - fr) = k from by omega]
     generalize s[k] = c at hx hq htk
     refine .skip ?_
     refine .seq ?_
     refine .block ?_
     refine .seq ?_
     refine .region rfl ?_
     refine R.move (h := ?_)
     refine R.move (h := ?_)
     refine R.indexT Tryd.runUnderlying9 (hj := fun hg => ⟨by omega, hx⟩) (h := ?_)
     refine R.bin (run_eql _ _ _ _ _ _) (h := ?_)
     refine .n0 ?_
     refine LGo.ifd (ht := fun hc5 => ?_) (hf := fun hc5 => ?_)
     ·
      rw [if_pos (show c = 10 from UInt8.toNat.inj (by have : (10 : UInt8).toNat = 10 := rfl; omega))] at hq
      refine .seq ?_
      refine .region rfl ?_
      refine R.move (h := ?_)
      refine R.move (h := ?_)
      refine R.move (h := ?_)
      refine R.move (h := ?_)
      refine R.sliceTLoHi Tryd.runUnderlying9 (ha := fun _ => by simp; omega) (h := ?_)
      rw [Int.toNat_natCast, Int.toNat_natCast, List.drop_take]
      refine R.buildSliceG AP59 (xs := [_]) (es := [_]) (hcs := CellsOfs.cons (CellsOf.one rfl) CellsOfs.nil) (h := ?_)
      refine R.appendS AP59 (hs := SrcOk.sl Tryd.underlying59 (by simp)) (hlen := by rw [strsC_length]; simp; omega) (h := ?_)
      refine R.assign (h := ?_)
      refine .n0 ?_
      refine .region rfl ?_
      refine R.move (h := ?_)
      first | refine R.add (h := ?_) | refine R.addW (h := ?_)
      refine R.assign (h := ?_)
      refine .n0 ?_
      refine .inBlock ?_
      refine .region rfl ?_
      refine R.move (h := ?_)
      first | refine R.add (h := ?_) | refine R.addW (h := ?_)
      refine R.assign (h := ?_)
      refine .n0 ?_
      refine .inLoop ?_
      exact LGo.turn [1] (b := 0) (fun o h => by have := (hA o).1 h; omega) (ih (k + 1, k + 1, out ++ [(s.drop fr).take (k - fr)]) ⟨Nat.le_refl _, by dsimp only; omega, by dsimp only; simp; omega, by dsimp only; rw [Nat.sub_self, List.take_zero, List.append_assoc, List.singleton_append]; exact hq⟩ (by dsimp only; omega)) (by repeat (first | exact trivial | refine ⟨rfl, ?_⟩)) ⟨by rw [strsC_snoc1]; rfl, trivial⟩
     ·
      rw [if_neg (show ¬ c = 10 from fun h => hc5 (by rw [h]; rfl)), ← htk] at hq
      refine .skip ?_
      refine .inBlock ?_
      refine .region rfl ?_
      refine R.move (h := ?_)
      first | refine R.add (h := ?_) | refine R.addW (h := ?_)
      refine R.assign (h := ?_)
      refine .n0 ?_
      refine .inLoop ?_
      exact LGo.next _ (fun o h => by have := (hA o).1 h; omega) (by omega) (ih (k + 1, fr, out) ⟨by dsimp only; omega, by dsimp only; omega, by dsimp only; omega, hq⟩ (by dsimp only; omega)) (by repeat (first | exact trivial | refine ⟨rfl, ?_⟩)) ⟨rfl, trivial⟩
    ·
     have hd : s.drop k = [] := List.drop_of_length_le (by omega)
     rw [hd, nlGo, List.append_nil] at hq
     rw [← hq] at e1
     refine LGo.frz 0 (h := ?_)
     refine .exit rfl ?_
     refine .seq ?_
     refine .seq ?_
     refine .region rfl ?_
     refine R.move (h := ?_)
     first | refine R.len S59 (h := ?_) | refine R.lenRs S59 (h := ?_) | refine R.lenV (run_lenNil S59) (h := ?_)
     rw [strsC_length]
     refine R.bin (run_gtr _ _ _ _ _ _) (h := ?_)
     refine .n0 ?_
     refine LGo.ifd (ht := fun hc6 => ?_) (hf := fun hc6 => ?_)
     ·
      rw [if_pos hc6] at e1; rw [← e1]
      refine .seq ?_
      refine .region rfl ?_
      refine R.assign (h := ?_)
      refine R.assign (h := ?_)
      refine .n0 ?_
      first | refine LGo.frzT 2 (h := ?_) | refine LGo.nilSl 2 1 (h := ?_) | skip
      exact LGo.ret (ret_TT Tryd.results45 hA hmd)
     ·
      rw [if_neg hc6] at e1; rw [← e1]
      refine .skip ?_
      refine .seq ?_
      refine .region rfl ?_
      refine R.move (h := ?_)
      refine R.assign (h := ?_)
      refine R.assign (h := ?_)
      refine .n0 ?_
      first | refine LGo.frzT 2 (h := ?_) | refine LGo.nilSl 2 1 (h := ?_) | skip
      exact LGo.ret (ret_TT Tryd.results45 hA hmd)

theorem lines_P (s : List UInt8) (hs : s.length ≤ 2000000) : PC Tryd.prog 26 [.t s] (.b true) := by
 refine ⟨LC.of_go Tryd.func26 (c := _) rfl (by kernel_rfl) (by rw [Tryd.ntmps26]; simp) rfl rfl (by simp [LO.lt, LV.lts, LV.lt]) (by simp) ?_⟩
 intro B hA hmd
 refine .seq ?_
 refine .region rfl ?_
 refine R.assign (h := ?_)
 refine .n0 ?_
 refine .seq ?_
 refine .region rfl ?_
 refine R.move (h := ?_)
 refine R.callP (es := [_]) (fun _ => linesW_P s hs) (h := ?_)
 refine R.move (h := ?_)
 refine R.extract (h := ?_)
 refine R.extract (h := ?_)
 refine R.assign (h := ?_)
 refine R.assign (h := ?_)
 refine .n0 ?_
 refine .seq ?_
 refine .region rfl ?_
 refine R.move (h := ?_)
 refine R.callP (es := [_]) (fun _ => linesR_P s hs) (h := ?_)
 have hb := linesW_len s
 generalize linesW s = g at hb ⊢
 obtain ⟨ls, e⟩ := g
 dsimp only at hb ⊢
 refine R.move (h := ?_)
 refine R.extract (h := ?_)
 refine R.extract (h := ?_)
 refine R.assign (h := ?_)
 refine R.assign (h := ?_)
 refine .n0 ?_
 refine .seq ?_
 refine .seq ?_
 refine .region rfl ?_
 refine R.move (h := ?_)
 first | refine R.len S59 (h := ?_) | refine R.lenRs S59 (h := ?_) | refine R.lenV (run_lenNil S59) (h := ?_)
 rw [strsC_length]
 refine R.move (h := ?_)
 first | refine R.len S59 (h := ?_) | refine R.lenRs S59 (h := ?_) | refine R.lenV (run_lenNil S59) (h := ?_)
 rw [strsC_length]
 refine R.bin (run_neq _ _ _ _ _ _) (h := ?_)
 refine R.move (h := ?_)
 refine R.move (h := ?_)
 refine R.move (h := ?_)
 refine R.bin (run_neq _ _ _ _ _ _) (h := ?_)
 refine R.or (h := ?_)
 refine .n0 ?_
 refine LGo.ifb (ht := fun hc => ?_) (hf := fun hc => ?_)
 ·
  simp at hc
 ·
  refine .skip ?_
  refine .seq ?_
  refine .seq ?_
  refine .region rfl ?_
  refine R.assign (h := ?_)
  refine .n0 ?_
  refine .block ?_
  refine .loop ?_
  refine LGo.loopG (σ := Nat) (fun x => x ≤ ls.length) (fun x => [(7, (true, .i (x : Nat)))]) (fun x => []) (fun x => ls.length - x) (0) [(3, _), (5, _)] (Nat.zero_le _) (by repeat (first | exact trivial | refine ⟨rfl, ?_⟩)) (by repeat (first | exact trivial | refine ⟨rfl, ?_⟩)) (by repeat (first | exact trivial | refine ⟨rfl, ?_⟩)) ?_
  rintro j hj ih
  refine .seq ?_
  refine .seq ?_
  refine .region rfl ?_
  refine R.move (h := ?_)
  refine R.move (h := ?_)
  first | refine R.len S59 (h := ?_) | refine R.lenRs S59 (h := ?_) | refine R.lenV (run_lenNil S59) (h := ?_)
  rw [strsC_length]
  refine R.bin (run_lss _ _ _ _ _ _) (h := ?_)
  refine .n0 ?_
  refine LGo.ifd (ht := fun hc2 => ?_) (hf := fun hc2 => ?_)
  ·
   have hlt : j < ls.length := by omega
   have hx : (strsC ls)[((j : Nat) : Int).toNat]? = some [.val (.string ⟨ls[j].toArray⟩)] := by simp [strsC, hlt]
   generalize ls[j] = x at hx
   refine .skip ?_
   refine .seq ?_
   refine .block ?_
   refine .seq ?_
   refine .region rfl ?_
   refine R.move (h := ?_)
   refine R.move (h := ?_)
   refine R.index I59 (hj := fun hg => ⟨by omega, hx⟩) (h := ?_)
   first | refine R.loadB O9 (h := ?_) | refine R.load1 O9 (h := ?_)
   refine R.move (h := ?_)
   refine R.move (h := ?_)
   refine R.index I59 (hj := fun hg => ⟨by omega, hx⟩) (h := ?_)
   first | refine R.loadB O9 (h := ?_) | refine R.load1 O9 (h := ?_)
   refine R.bin (run_neqT _ _ _ _ _) (h := ?_)
   refine Reg.nil ⟨fun _ => ⟨mixedO, by rfl, by rfl⟩, ?_⟩
   refine LGo.ifb (ht := fun hc3 => ?_) (hf := fun hc3 => ?_)
   ·
    simp at hc3
   ·
    refine .skip ?_
    refine .inBlock ?_
    refine .region rfl ?_
    refine R.move (h := ?_)
    first | refine R.add (h := ?_) | refine R.addW (h := ?_)
    refine R.assign (h := ?_)
    refine .n0 ?_
    refine .inLoop ?_
    exact LGo.next _ (fun o h => by have := (hA o).1 h; omega) (by omega) (ih (j + 1) hlt (by omega)) (by repeat (first | exact trivial | refine ⟨rfl, ?_⟩)) (by repeat (first | exact trivial | refine ⟨rfl, ?_⟩))
  ·
   refine .exit rfl ?_
   refine .seq ?_
   refine .region rfl ?_
   refine R.assign (h := ?_)
   refine .n0 ?_
   exact LGo.ret (ret_T Tryd.results26 hA hmd)

end Go.Proofs.YtmjpkfjgknbfeaaDoor
