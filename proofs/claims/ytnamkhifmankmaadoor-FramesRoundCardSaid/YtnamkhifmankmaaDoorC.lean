/- frames: Frame, Check, Feed, Need; the reference's Same. -/
import Derived.Test.YtnamkhifmankmaaDoorB
set_option linter.unusedSimpArgs false
set_option linter.unusedVariables false
namespace Go.Proofs.YtnamkhifmankmaaDoor

def hdB (n : Nat) : List UInt8 := [71, 1, UInt8.ofNat (n / 256), UInt8.ofNat (n % 256)]
theorem hdB_C (n : Nat) (h : n ≤ 1024) : bytesC (hdB n) = ([.val (.int .u8 71), .val (.int .u8 1), .val (.int .u8 ((n : Int) / 256)), .val (.int .u8 ((n : Int) % 256))] : List SV).map fun c => [c] := by
  have h1 : ((UInt8.ofNat (n / 256)).toNat : Int) = (n : Int) / 256 := by rw [UInt8.toNat_ofNat']; omega
  have h2 : ((UInt8.ofNat (n % 256)).toNat : Int) = (n : Int) % 256 := by rw [UInt8.toNat_ofNat']; omega
  simp [bytesC, hdB, h1, h2]
  omega
def frame (p : List UInt8) : List UInt8 × Int := if p.length = 0 then ([], 6) else if 1024 < p.length then ([], 3) else (hdB p.length ++ p, 0)
def chk (s : FmS) : Int := if ((decide (0 < (split s.1).1.length) || (split s.1).2.2) || (s.2 && !decide (s.1 = []))) = true then 6 else 0
def feed (s : FmS) (b : List UInt8) : FmS × List (List UInt8) × Int :=
  if chk s = 0 then (if s.2 = true then (s, [], 0) else ((split (s.1 ++ b)).2, (split (s.1 ++ b)).1, 0)) else (([], false), [], chk s)
def need (s : FmS) : Int × Int := if (!decide (chk s = 0) || s.2) = true then (0, chk s) else if (s.1.length : Int) < 4 then (5 - s.1.length, 0) else (4 + longB s.1 - s.1.length, 0)
def sameGo : List (List UInt8) → List (List UInt8) → Bool
  | x :: a, y :: b => if (!decide (x = y)) = true then false else sameGo a b
  | _, _ => true
def same (a b : List (List UInt8)) : Bool := if (!decide ((a.length : Int) = b.length)) = true then false else sameGo a b
theorem sameGo_iff : ∀ (a b : List (List UInt8)), a.length = b.length → (sameGo a b = true ↔ a = b)
  | [], [], _ => by simp [sameGo]
  | [], _ :: _, h => by simp at h
  | _ :: _, [], h => by simp at h
  | x :: a, y :: b, h => by
    have ih := sameGo_iff a b (by simpa using h)
    by_cases hxy : x = y
    · subst hxy; simp [sameGo, ih]
    · simp [sameGo, hxy]
theorem same_iff (a b : List (List UInt8)) : same a b = true ↔ a = b := by
  unfold same
  by_cases h : a.length = b.length
  · rw [if_neg (by simp [h])]; exact sameGo_iff a b h
  · rw [if_pos (by simp; omega)]
    simp only [Bool.false_eq_true, false_iff]
    intro e; exact h (by rw [e])
theorem same_self (a : List (List UInt8)) : same a a = true := (same_iff a a).2 rfl
theorem stC_c (s : FmS) : stC s = .agg [.t s.1, .b s.2] := rfl
theorem txt_nil (l : List UInt8) : decide ((⟨l.toArray⟩ : ByteArray) = ByteArray.mk #[]) = decide (l = []) := by
  congr 1
  simp [ByteArray.mk.injEq]
theorem u16_of (n : Nat) (h : n ≤ 1024) : IntKind.u16.wrap (n : Int) = n := wrap_u rfl (by omega) (by simp only [IntKind.bits]; omega)
theorem strm_len : ∀ (n : Nat) (b : List UInt8), (strm n b).1.length ≤ b.length ∧ (strm n b).2.1.length ≤ b.length
  | 0, b => by simp [strm]
  | n + 1, b => by
    simp only [strm]
    split
    · split
      · rename_i _ hw
        have := strm_len n (restB b)
        have := restB_lt hw
        simp; omega
      · simp
    · simp
theorem split_len (b : List UInt8) : (split b).1.length ≤ b.length ∧ (split b).2.1.length ≤ b.length := strm_len _ b

theorem headed_P (n : Nat) (h : n ≤ 1024) : PC Tryd.prog 15 [.i n] (.agg [.y 71, .y 1, .y ((n : Int) / 256), .y ((n : Int) % 256)]) := by
 refine ⟨LC.of_go Tryd.func15 (c := _) rfl (by kernel_rfl) (by rw [Tryd.ntmps15]; simp) rfl rfl (by simp [LO.lt, LV.lts, LV.lt, lts_sv]) (by simp) ?_⟩
 intro B hA hmd
 refine .seq ?_
 refine .region rfl ?_
 refine R.alloc Z42 (h := ?_)
 refine .n0 ?_
 refine .seq ?_
 refine .region rfl ?_
 refine R.move (h := ?_)
 first | refine R.convI Tryd.runUnderlying3 Tryd.runUnderlying61 (h := ?_) | refine R.convW Tryd.runUnderlying3 Tryd.runUnderlying61 (h := ?_)
 refine R.shr (h := ?_)
 rw [show (n : Int) / 2 ^ (min (Int.toNat 8) IntKind.u16.bits) = (n : Int) / 256 from rfl]
 first | refine R.convI Tryd.runUnderlying61 Tryd.runUnderlying5 (h := ?_) | refine R.convW Tryd.runUnderlying61 Tryd.runUnderlying5 (h := ?_)
 refine R.move (h := ?_)
 first | refine R.convI Tryd.runUnderlying3 Tryd.runUnderlying5 (h := ?_) | refine R.convW Tryd.runUnderlying3 Tryd.runUnderlying5 (h := ?_)
 rw [show IntKind.u8.wrap (n : Int) = (n : Int) % 256 from by simp [IntKind.wrap, IntKind.bits, IntKind.signed]]
 refine R.buildX BX42 (is := [0, 1, 2, 3]) (xs := [_, _, _, _]) (es := [_, _, _, _]) (h := ?_)
 refine R.storeA A42 (h := ?_)
 refine .n0 ?_
 exact LGo.ret (ret_A Tryd.results15 A42 hA hmd)

theorem frame_P (p : List UInt8) (hp : p.length ≤ 1000000) : PC Tryd.prog 7 [.sv (.sl 1 (bytesC p))] (.tup [.sv (.sl 1 (bytesC (frame p).1)), .i (frame p).2]) := by
 refine ⟨LC.of_go Tryd.func7 (c := _) rfl (by kernel_rfl) (by rw [Tryd.ntmps7]; simp) rfl rfl (by simp [LO.lt, LV.lts, LV.lt, lts_sv]) (by simp) ?_⟩
 intro B hA hmd
 obtain ⟨g, e0⟩ : ∃ g, frame p = g := ⟨_, rfl⟩
 have e1 := e0
 unfold frame at e1
 rw [e0]
 refine .seq ?_
 refine .region rfl ?_
 refine R.assign (h := ?_)
 refine R.assign (h := ?_)
 refine .n0 ?_
 refine .seq ?_
 refine .seq ?_
 refine .region rfl ?_
 refine R.move (h := ?_)
 first | refine R.len S22 (h := ?_) | refine R.lenRs S22 (h := ?_) | refine R.lenV (run_lenNil S22) (h := ?_)
 rw [bytesC_length]
 refine R.assign (h := ?_)
 refine .n0 ?_
 refine .block ?_
 refine .seq ?_
 refine .region rfl ?_
 refine R.move (h := ?_)
 refine R.bin (run_eql _ _ _ _ _ _) (h := ?_)
 refine R.assign (h := ?_)
 refine .n0 ?_
 first | refine LGo.ifd (ht := fun hc => ?_) (hf := fun hc => ?_) | refine LGo.ifb (ht := fun hc => ?_) (hf := fun hc => ?_)
 ·
  rw [if_pos (by omega)] at e1; rw [← e1]
  refine .seq ?_
  refine .region rfl ?_
  refine R.assign (h := ?_)
  refine R.assign (h := ?_)
  refine .n0 ?_
  first | refine LGo.frzT 2 (h := ?_) | refine LGo.nilSl 2 1 (h := ?_) | skip
  exact LGo.ret (ret_TT Tryd.results7 hA hmd)
 ·
  rw [if_neg (by omega)] at e1
  refine .seq ?_
  refine .region rfl ?_
  refine R.move (h := ?_)
  refine R.bin (run_gtr _ _ _ _ _ _) (h := ?_)
  refine R.assign (h := ?_)
  refine .n0 ?_
  first | refine LGo.ifd (ht := fun hc2 => ?_) (hf := fun hc2 => ?_) | refine LGo.ifb (ht := fun hc2 => ?_) (hf := fun hc2 => ?_)
  ·
   rw [if_pos (by omega)] at e1; rw [← e1]
   refine .seq ?_
   refine .region rfl ?_
   refine R.assign (h := ?_)
   refine R.assign (h := ?_)
   refine .n0 ?_
   first | refine LGo.frzT 2 (h := ?_) | refine LGo.nilSl 2 1 (h := ?_) | skip
   exact LGo.ret (ret_TT Tryd.results7 hA hmd)
  ·
   rw [if_neg (by omega)] at e1; rw [← e1]
   refine .skip ?_
   refine .inBlock ?_
   refine .seq ?_
   refine .region rfl ?_
   refine R.move (h := ?_)
   first | refine R.len S22 (h := ?_) | refine R.lenRs S22 (h := ?_) | refine R.lenV (run_lenNil S22) (h := ?_)
   rw [bytesC_length]
   refine R.callP (es := [_]) (fun _ => headed_P p.length (by omega)) (h := ?_)
   refine R.alloc Z42 (h := ?_)
   refine R.storeA A42 (h := ?_)
   refine .n0 ?_
   refine LGo.frzBox 0 [.val (.int .u8 71), .val (.int .u8 1), .val (.int .u8 ((p.length : Int) / 256)), .val (.int .u8 ((p.length : Int) % 256))] (h := ?_)
   refine .seq ?_
   refine .region rfl ?_
   refine R.sliceAt AR42 (cs := [.val (.int .u8 71), .val (.int .u8 1), .val (.int .u8 ((p.length : Int) / 256)), .val (.int .u8 ((p.length : Int) % 256))]) (h := ?_)
   rw [← hdB_C p.length (by omega)]
   refine R.move (h := ?_)
   refine R.buildSliceG AP23 (xs := [_, _]) (es := [_, _]) (hcs := CellsOfs.cons (CellsOf.one rfl) (CellsOfs.cons (CellsOf.one rfl) CellsOfs.nil)) (h := ?_)
   refine R.callP (es := [_, _]) (fun _ => PC.bytesJoin (Entr.of Tryd.func16 rfl (by kernel_rfl)) Tryd.bytes_Join_many [hdB p.length, p] (by simp) (by simp) (by simp [Lib.lens, hdB]; omega)) (h := ?_)
   rw [show Lib.join [hdB p.length, p] [] = hdB p.length ++ p from by simp [Lib.join]]
   refine R.assign (h := ?_)
   refine R.assign (h := ?_)
   refine .n0 ?_
   first | refine LGo.frzT 2 (h := ?_) | refine LGo.nilSl 2 1 (h := ?_) | skip
   exact LGo.ret (ret_TT Tryd.results7 hA hmd)

theorem same_P (a b : List (List UInt8)) (ha : a.length ≤ 100000) (hb : b.length ≤ 100000) : PC Tryd.prog 12 [.sv (.sl 1 (rowsC a)), .sv (.sl 1 (rowsC b))] (.b (same a b)) := by
 refine ⟨LC.of_go Tryd.func12 (c := _) rfl (by kernel_rfl) (by rw [Tryd.ntmps12]; simp) rfl rfl (by simp [LO.lt, LV.lts, LV.lt, lts_sv]) (by simp) ?_⟩
 intro B hA hmd
 refine .seq ?_
 refine .region rfl ?_
 refine R.assign (h := ?_)
 refine .n0 ?_
 refine .seq ?_
 refine .seq ?_
 refine .region rfl ?_
 refine R.move (h := ?_)
 first | refine R.len S23 (h := ?_) | refine R.lenRs S23 (h := ?_) | refine R.lenV (run_lenNil S23) (h := ?_)
 rw [rowsC_length]
 refine R.move (h := ?_)
 first | refine R.len S23 (h := ?_) | refine R.lenRs S23 (h := ?_) | refine R.lenV (run_lenNil S23) (h := ?_)
 rw [rowsC_length]
 refine R.bin (run_neq _ _ _ _ _ _) (h := ?_)
 refine .n0 ?_
 first | refine LGo.ifd (ht := fun hc => ?_) (hf := fun hc => ?_) | refine LGo.ifb (ht := fun hc => ?_) (hf := fun hc => ?_)
 ·
  have e : same a b = false := by unfold same; rw [if_pos hc]
  rw [e]
  refine .seq ?_
  refine .region rfl ?_
  refine R.assign (h := ?_)
  refine .n0 ?_
  exact LGo.ret (ret_T Tryd.results12 hA hmd)
 ·
  have e : same a b = sameGo a b := by unfold same; rw [if_neg (by rw [hc]; simp)]
  rw [e]
  have hll : a.length = b.length := by simp at hc; omega
  refine .skip ?_
  refine .seq ?_
  refine .seq ?_
  refine .region rfl ?_
  refine R.assign (h := ?_)
  refine .n0 ?_
  refine .block ?_
  refine .loop ?_
  refine LGo.loopG (σ := Nat) (fun x => x ≤ a.length ∧ sameGo a b = sameGo (a.drop x) (b.drop x)) (fun x => [(5, (true, .i (x : Nat)))]) (fun x => []) (fun x => a.length - x) (0) [(0, _), (1, _)] ⟨by simp, by simp⟩ (by repeat (first | exact trivial | refine ⟨rfl, ?_⟩)) (by repeat (first | exact trivial | refine ⟨rfl, ?_⟩)) (by repeat (first | exact trivial | refine ⟨rfl, ?_⟩)) ?_
  rintro k ⟨hk, hq⟩ ih
  refine .seq ?_
  refine .seq ?_
  refine .region rfl ?_
  refine R.move (h := ?_)
  refine R.move (h := ?_)
  first | refine R.len S23 (h := ?_) | refine R.lenRs S23 (h := ?_) | refine R.lenV (run_lenNil S23) (h := ?_)
  rw [rowsC_length]
  refine R.bin (run_lss _ _ _ _ _ _) (h := ?_)
  refine .n0 ?_
  refine LGo.ifd (ht := fun hc2 => ?_) (hf := fun hc2 => ?_)
  ·
   have hlt : k < a.length := by omega
   have hltb : k < b.length := by omega
   have hx : (rowsC a)[((k : Nat) : Int).toNat]? = some [.sl 1 (bytesC a[k])] := by simp [rowsC, hlt]
   have hy : (rowsC b)[((k : Nat) : Int).toNat]? = some [.sl 1 (bytesC b[k])] := by simp [rowsC, hltb]
   rw [List.drop_eq_getElem_cons hlt, List.drop_eq_getElem_cons hltb] at hq
   generalize a[k] = x at hx hq
   generalize b[k] = y at hy hq
   refine .skip ?_
   refine .seq ?_
   refine .block ?_
   refine .seq ?_
   refine .region rfl ?_
   refine R.move (h := ?_)
   refine R.move (h := ?_)
   refine R.index I23 (hj := fun hg => ⟨by omega, hx⟩) (h := ?_)
   first | refine R.loadB O22 (h := ?_) | refine R.load1 O22 (h := ?_)
   refine R.toString Tryd.underlying22 Tryd.underlying5 Tryd.underlying9 (h := ?_)
   refine R.move (h := ?_)
   refine R.move (h := ?_)
   refine R.index I23 (hj := fun hg => ⟨by omega, hy⟩) (h := ?_)
   first | refine R.loadB O22 (h := ?_) | refine R.load1 O22 (h := ?_)
   refine R.toString Tryd.underlying22 Tryd.underlying5 Tryd.underlying9 (h := ?_)
   refine R.bin (run_neqT _ _ _ _ _) (h := ?_)
   refine Reg.nil ⟨fun _ => ⟨mixedO, by rfl, by rfl⟩, ?_⟩
   first | refine LGo.ifd (ht := fun hc3 => ?_) (hf := fun hc3 => ?_) | refine LGo.ifb (ht := fun hc3 => ?_) (hf := fun hc3 => ?_)
   ·
    have e2 : sameGo (x :: a.drop (k + 1)) (y :: b.drop (k + 1)) = false := by simp only [sameGo]; exact if_pos hc3
    rw [hq, e2]
    refine .seq ?_
    refine .region rfl ?_
    refine R.assign (h := ?_)
    refine .n0 ?_
    exact LGo.ret (ret_T Tryd.results12 hA hmd)
   ·
    have e2 : sameGo (x :: a.drop (k + 1)) (y :: b.drop (k + 1)) = sameGo (a.drop (k + 1)) (b.drop (k + 1)) := by simp only [sameGo]; rw [if_neg (by rw [hc3]; simp)]
    rw [e2] at hq
    refine .skip ?_
    refine .inBlock ?_
    refine .region rfl ?_
    refine R.move (h := ?_)
    first | refine R.add (h := ?_) | refine R.addW (h := ?_)
    refine R.assign (h := ?_)
    refine .n0 ?_
    refine .inLoop ?_
    exact LGo.next _ (fun o h => by have := (hA o).1 h; omega) (by omega) (ih (k + 1) ⟨hlt, hq⟩ (by omega)) (by repeat (first | exact trivial | refine ⟨rfl, ?_⟩)) (by repeat (first | exact trivial | refine ⟨rfl, ?_⟩))
  ·
   have hk' : k = a.length := by omega
   subst hk'
   rw [List.drop_length] at hq
   simp only [sameGo] at hq
   rw [hq]
   refine .exit rfl ?_
   refine .seq ?_
   refine .region rfl ?_
   refine R.assign (h := ?_)
   refine .n0 ?_
   exact LGo.ret (ret_T Tryd.results12 hA hmd)

theorem chk_P (s : FmS) (hs : s.1.length ≤ 1000000) : PC Tryd.prog 20 [stC s] (.i (chk s)) := by
 refine ⟨LC.of_go Tryd.func20 (c := _) rfl (by kernel_rfl) (by rw [Tryd.ntmps20]; simp) rfl rfl (by simp [LO.lt, LV.lts, LV.lt, lts_sv]) (by simp) ?_⟩
 intro B hA hmd
 obtain ⟨g, e0⟩ : ∃ g, chk s = g := ⟨_, rfl⟩
 have e1 := e0
 unfold chk at e1
 rw [e0]
 rw [stC_c]
 refine .seq ?_
 refine .region rfl ?_
 refine R.box (h := ?_)
 refine R.assign (h := ?_)
 refine .n0 ?_
 refine .seq ?_
 refine .region rfl ?_
 first | refine R.field F32_0 (h := ?_) | refine R.fieldAt F32_0 (h := ?_)
 first | refine R.loadB O9 (h := ?_) | refine R.load1 O9 (h := ?_)
 refine R.toBytes Tryd.underlying9 Tryd.underlying22 Tryd.underlying5 (l := s.1) (hl := by first | omega | (simp; omega)) (h := ?_)
 refine R.callP (es := [_]) (fun _ => split_P s.1 (by omega)) (h := ?_)
 refine R.move (h := ?_)
 refine R.extract (h := ?_)
 refine R.extract (h := ?_)
 refine R.alloc Z32 (h := ?_)
 refine R.assign (h := ?_)
 refine R.storeA A32 (h := ?_)
 refine .n0 ?_
 refine .seq ?_
 refine .seq ?_
 refine .region rfl ?_
 refine R.move (h := ?_)
 first | refine R.len S23 (h := ?_) | refine R.lenRs S23 (h := ?_) | refine R.lenV (run_lenNil S23) (h := ?_)
 rw [rowsC_length]
 refine R.bin (run_gtr _ _ _ _ _ _) (h := ?_)
 refine R.move (h := ?_)
 first | refine R.field F32_1 (h := ?_) | refine R.fieldAt F32_1 (h := ?_)
 first | refine R.loadB O4 (h := ?_) | refine R.load1 O4 (h := ?_)
 refine R.or (h := ?_)
 refine R.move (h := ?_)
 first | refine R.field F32_1 (h := ?_) | refine R.fieldAt F32_1 (h := ?_)
 first | refine R.loadB O4 (h := ?_) | refine R.load1 O4 (h := ?_)
 refine R.move (h := ?_)
 first | refine R.field F32_0 (h := ?_) | refine R.fieldAt F32_0 (h := ?_)
 first | refine R.loadB O9 (h := ?_) | refine R.load1 O9 (h := ?_)
 refine R.bin (run_neqT _ _ _ _ _) (h := ?_)
 refine R.and (h := ?_)
 refine R.or (h := ?_)
 refine .n0 ?_
 refine LGo.ifb (ht := fun hc => ?_) (hf := fun hc => ?_)
 ·
  rw [if_pos (by simpa using hc)] at e1; rw [← e1]
  refine .seq ?_
  refine .region rfl ?_
  refine R.assign (h := ?_)
  refine .n0 ?_
  exact LGo.ret (ret_T Tryd.results20 hA hmd)
 ·
  rw [if_neg (by simpa using hc)] at e1; rw [← e1]
  refine .skip ?_
  refine .seq ?_
  refine .region rfl ?_
  refine R.assign (h := ?_)
  refine .n0 ?_
  exact LGo.ret (ret_T Tryd.results20 hA hmd)

theorem feed_P (s : FmS) (b : List UInt8) (hs : s.1.length ≤ 1000000) (hb : b.length ≤ 1000000) : PC Tryd.prog 13 [stC s, .sv (.sl 1 (bytesC b))] (.tup [stC (feed s b).1, .sv (.sl 1 (rowsC (feed s b).2.1)), .i (feed s b).2.2]) := by
 refine ⟨LC.of_go Tryd.func13 (c := _) rfl (by kernel_rfl) (by rw [Tryd.ntmps13]; simp) rfl rfl (by simp [LO.lt, LV.lts, LV.lt, lts_sv]) (by simp) ?_⟩
 intro B hA hmd
 obtain ⟨g, e0⟩ : ∃ g, feed s b = g := ⟨_, rfl⟩
 have e1 := e0
 unfold feed at e1
 rw [e0]
 rw [stC_c s]
 refine .seq ?_
 refine .region rfl ?_
 refine R.box (h := ?_)
 refine R.alloc Z32 (h := ?_)
 refine R.assign (h := ?_)
 refine R.assign (h := ?_)
 refine .n0 ?_
 refine .seq ?_
 refine .seq ?_
 refine .region rfl ?_
 first | refine R.loadA A32 (h := ?_) | refine R.loadN A32 (h := ?_) | refine R.loadP A32 (h := ?_)
 refine R.callP (es := [_]) (fun _ => chk_P s hs) (h := ?_)
 refine R.assign (h := ?_)
 refine .n0 ?_
 refine .seq ?_
 refine .region rfl ?_
 refine R.move (h := ?_)
 refine R.bin (run_neq _ _ _ _ _ _) (h := ?_)
 refine .n0 ?_
 refine LGo.ifb (ht := fun hc => ?_) (hf := fun hc => ?_)
 ·
  rw [if_neg (by simpa using hc)] at e1; rw [← e1]
  refine .seq ?_
  refine .region rfl ?_
  refine R.build BF32 (is := []) (xs := []) (es := []) (h := ?_)
  refine R.move (h := ?_)
  refine R.storeA A32 (h := ?_)
  refine R.assign (h := ?_)
  refine R.assign (h := ?_)
  refine .n0 ?_
  first | refine LGo.frzT 5 (h := ?_) | refine LGo.nilSl 5 1 (h := ?_) | skip
  exact LGo.ret (ret_ATT Tryd.results13 A32 hA hmd)
 ·
  rw [if_pos (by simpa using hc)] at e1
  refine .skip ?_
  refine .seq ?_
  refine .seq ?_
  refine .region rfl ?_
  first | refine R.field F32_1 (h := ?_) | refine R.fieldAt F32_1 (h := ?_)
  first | refine R.loadB O4 (h := ?_) | refine R.load1 O4 (h := ?_)
  refine .n0 ?_
  refine LGo.ifb (ht := fun hc2 => ?_) (hf := fun hc2 => ?_)
  ·
   rw [if_pos hc2] at e1; rw [← e1]
   refine .seq ?_
   refine .region rfl ?_
   first | refine R.loadA A32 (h := ?_) | refine R.loadN A32 (h := ?_) | refine R.loadP A32 (h := ?_)
   refine R.storeA A32 (h := ?_)
   refine R.assign (h := ?_)
   refine R.assign (h := ?_)
   refine .n0 ?_
   first | refine LGo.frzT 5 (h := ?_) | refine LGo.nilSl 5 1 (h := ?_) | skip
   exact LGo.ret (ret_ATT Tryd.results13 A32 hA hmd)
  ·
   rw [if_neg (by rw [hc2]; simp)] at e1; rw [← e1]
   refine .skip ?_
   refine .seq ?_
   refine .region rfl ?_
   first | refine R.field F32_0 (h := ?_) | refine R.fieldAt F32_0 (h := ?_)
   first | refine R.loadB O9 (h := ?_) | refine R.load1 O9 (h := ?_)
   refine R.move (h := ?_)
   refine R.toString Tryd.underlying22 Tryd.underlying5 Tryd.underlying9 (h := ?_)
   refine R.buildSliceG AP59 (xs := [_, _]) (es := [_, _]) (hcs := CellsOfs.cons (CellsOf.one rfl) (CellsOfs.cons (CellsOf.one rfl) CellsOfs.nil)) (h := ?_)
   refine R.callP (es := [_, _]) (fun _ => PC.strJoin (Entr.of Tryd.func21 rfl (by kernel_rfl)) Tryd.strings_Join_none Tryd.strings_Join [s.1, b] [] (by simp) (by simp [Lib.join]; omega)) (h := ?_)
   rw [show Lib.join [s.1, b] [] = s.1 ++ b from by simp [Lib.join]]
   refine R.toBytes Tryd.underlying9 Tryd.underlying22 Tryd.underlying5 (hl := by first | omega | (simp; omega)) (h := ?_)
   refine R.callP (es := [_]) (fun _ => split_P (s.1 ++ b) (by simp; omega)) (h := ?_)
   refine R.move (h := ?_)
   refine R.extract (h := ?_)
   refine R.extract (h := ?_)
   refine R.assign (h := ?_)
   refine R.storeA A32 (h := ?_)
   refine .n0 ?_
   refine .seq ?_
   refine .region rfl ?_
   first | refine R.loadA A32 (h := ?_) | refine R.loadN A32 (h := ?_) | refine R.loadP A32 (h := ?_)
   refine R.move (h := ?_)
   refine R.storeA A32 (h := ?_)
   refine R.assign (h := ?_)
   refine R.assign (h := ?_)
   refine .n0 ?_
   first | refine LGo.frzT 5 (h := ?_) | refine LGo.nilSl 5 1 (h := ?_) | skip
   exact LGo.ret (ret_ATT Tryd.results13 A32 hA hmd)

theorem need_P (s : FmS) (hs : s.1.length ≤ 1000000) : PC Tryd.prog 14 [stC s] (.tup [.i (need s).1, .i (need s).2]) := by
 refine ⟨LC.of_go Tryd.func14 (c := _) rfl (by kernel_rfl) (by rw [Tryd.ntmps14]; simp) rfl rfl (by simp [LO.lt, LV.lts, LV.lt, lts_sv]) (by simp) ?_⟩
 intro B hA hmd
 obtain ⟨g, e0⟩ : ∃ g, need s = g := ⟨_, rfl⟩
 have e1 := e0
 unfold need at e1
 rw [e0]
 rw [stC_c s]
 refine .seq ?_
 refine .region rfl ?_
 refine R.box (h := ?_)
 refine R.assign (h := ?_)
 refine R.assign (h := ?_)
 refine .n0 ?_
 refine .seq ?_
 refine .seq ?_
 refine .region rfl ?_
 first | refine R.loadA A32 (h := ?_) | refine R.loadN A32 (h := ?_) | refine R.loadP A32 (h := ?_)
 refine R.callP (es := [_]) (fun _ => chk_P s hs) (h := ?_)
 refine R.assign (h := ?_)
 refine .n0 ?_
 refine .seq ?_
 refine .region rfl ?_
 refine R.move (h := ?_)
 refine R.bin (run_neq _ _ _ _ _ _) (h := ?_)
 refine R.move (h := ?_)
 first | refine R.field F32_1 (h := ?_) | refine R.fieldAt F32_1 (h := ?_)
 first | refine R.loadB O4 (h := ?_) | refine R.load1 O4 (h := ?_)
 refine R.or (h := ?_)
 refine .n0 ?_
 refine LGo.ifb (ht := fun hc => ?_) (hf := fun hc => ?_)
 ·
  rw [if_pos hc] at e1; rw [← e1]
  refine .seq ?_
  refine .region rfl ?_
  refine R.move (h := ?_)
  refine R.assign (h := ?_)
  refine R.assign (h := ?_)
  refine .n0 ?_
  exact LGo.ret (ret_TT Tryd.results14 hA hmd)
 ·
  rw [if_neg (by rw [hc]; simp)] at e1
  refine .skip ?_
  refine .seq ?_
  refine .region rfl ?_
  first | refine R.field F32_0 (h := ?_) | refine R.fieldAt F32_0 (h := ?_)
  first | refine R.loadB O9 (h := ?_) | refine R.load1 O9 (h := ?_)
  refine R.lenT Tryd.runUnderlying9 (h := ?_)
  refine R.assign (h := ?_)
  refine .n0 ?_
  refine .seq ?_
  refine .seq ?_
  refine .region rfl ?_
  refine R.move (h := ?_)
  refine R.bin (run_lss _ _ _ _ _ _) (h := ?_)
  refine .n0 ?_
  refine LGo.ifd (ht := fun hc2 => ?_) (hf := fun hc2 => ?_)
  ·
   rw [if_pos hc2] at e1; rw [← e1]
   refine .seq ?_
   refine .region rfl ?_
   refine R.move (h := ?_)
   first | refine R.sub (h := ?_) | refine R.subW (h := ?_)
   refine R.assign (h := ?_)
   refine R.assign (h := ?_)
   refine .n0 ?_
   exact LGo.ret (ret_TT Tryd.results14 hA hmd)
  ·
   rw [if_neg hc2] at e1; rw [← e1]
   have hl4 : 4 ≤ s.1.length := by omega
   have hll : longB s.1 ≤ 66000 := by have := (hd s.1 2).toNat_lt; have := (hd s.1 3).toNat_lt; unfold longB; omega
   refine .skip ?_
   refine .seq ?_
   refine .region rfl ?_
   first | refine R.field F32_0 (h := ?_) | refine R.fieldAt F32_0 (h := ?_)
   first | refine R.loadB O9 (h := ?_) | refine R.load1 O9 (h := ?_)
   refine R.sliceTHi Tryd.runUnderlying9 (ha := fun _ => ⟨by omega, by omega⟩) (h := ?_)
   refine R.toBytes Tryd.underlying9 Tryd.underlying22 Tryd.underlying5 (l := s.1.take 4) (hl := by rw [List.length_take]; omega) (h := ?_)
   rw [show Int.toNat 4 = 4 from rfl]
   refine R.s2a AR42 (cs := [.val (.int .u8 (hd s.1 0).toNat), .val (.int .u8 (hd s.1 1).toNat), .val (.int .u8 (hd s.1 2).toNat), .val (.int .u8 (hd s.1 3).toNat)]) (hm := fun _ => ⟨by decide, by rw [bytesC_length, List.length_take]; omega, take4 hl4⟩) (h := ?_)
   first | refine R.loadA A42 (h := ?_) | refine R.loadN A42 (h := ?_) | refine R.loadP A42 (h := ?_)
   refine R.callP (es := [_]) (fun _ => long_P s.1) (h := ?_)
   first | refine R.add (h := ?_) | refine R.addW (h := ?_)
   refine R.move (h := ?_)
   first | refine R.sub (h := ?_) | refine R.subW (h := ?_)
   refine R.assign (h := ?_)
   refine R.assign (h := ?_)
   refine .n0 ?_
   exact LGo.ret (ret_TT Tryd.results14 hA hmd)

end Go.Proofs.YtnamkhifmankmaaDoor
