/- frames: the iterator over a stream, and Split. -/
import Derived.Test.YtnamkhifmankmaaDoorA
set_option linter.unusedSimpArgs false
set_option linter.unusedVariables false
namespace Go.Proofs.YtnamkhifmankmaaDoor

/-- the state between calls -/
abbrev FmS := List UInt8 × Bool
def stC (s : FmS) : LV := .agg [.t s.1, .b s.2]
def wholeB (b : List UInt8) : Bool := decide (4 ≤ b.length) && decide (4 + longB b ≤ b.length)
def payB (b : List UInt8) : List UInt8 := (b.take (4 + longB b)).drop 4
def restB (b : List UInt8) : List UInt8 := b.drop (4 + longB b)
/-- what is read of a stream: the payloads, and the state -/
def strm : Nat → List UInt8 → List (List UInt8) × FmS
  | 0, _ => ([], ([], true))
  | n + 1, b => if fitsB b = true then (if wholeB b = true then (payB b :: (strm n (restB b)).1, (strm n (restB b)).2) else ([], (b, false))) else ([], ([], true))
/-- .. and the bytes at which the reading ends -/
def strmE : Nat → List UInt8 → List UInt8
  | 0, b => b
  | n + 1, b => if fitsB b = true then (if wholeB b = true then strmE n (restB b) else b) else b
def split (b : List UInt8) : List (List UInt8) × FmS := strm (b.length + 1) b
theorem whole_len {b : List UInt8} (h : wholeB b = true) : 4 ≤ b.length ∧ 4 + longB b ≤ b.length := by simpa [wholeB] using h
theorem fits_long {b : List UInt8} (h : fitsB b = true) (h4 : 4 ≤ b.length) : 1 ≤ longB b ∧ longB b ≤ 1024 := by
  unfold fitsB at h; rw [if_pos h4] at h; simp at h; exact ⟨h.1, h.2.1⟩
theorem payB_len {b : List UInt8} (h : wholeB b = true) : (payB b).length = longB b := by
  have := whole_len h
  simp [payB]; omega
theorem payB_ne {b : List UInt8} (h : fitsB b = true) (hw : wholeB b = true) : payB b ≠ [] := by
  have h1 := whole_len hw
  have h2 := fits_long h h1.1
  have h3 := payB_len hw
  intro e; rw [e] at h3; simp at h3; omega
theorem restB_lt {b : List UInt8} (hw : wholeB b = true) : (restB b).length < b.length := by
  have h1 := whole_len hw
  simp [restB]; omega
def HoldsB (m c : Nat) (b : List UInt8) (L : List (Nat × LO)) : Prop := L.map (·.1) = List.range m ∧ (∀ p ∈ L, p.2.lt m = true) ∧ hp L c = some (.box 22 [.sv (.sl 1 (bytesC b))])
/-- the rounds of a range over a stream -/
inductive WRun (P : Program) (y c m : Nat) : List UInt8 → List (Nat × LO) → List (Nat × LO) → Prop
  | bad {b : List UInt8} {L L1 : List (Nat × LO)} {k : Bool} (h : HoldsB m c b L) (hf : fitsB b = false) (hy : Yld P y [.v (.slice none 0 0), stC ([], true)] L k L1) (h1 : HoldsB m c b L1) : WRun P y c m b L L1
  | left {b : List UInt8} {L L1 : List (Nat × LO)} {k : Bool} (h : HoldsB m c b L) (hf : fitsB b = true) (hw : wholeB b = false) (hy : Yld P y [.v (.slice none 0 0), stC (b, false)] L k L1) (h1 : HoldsB m c b L1) : WRun P y c m b L L1
  | go {b : List UInt8} {L L1 L' : List (Nat × LO)} (h : HoldsB m c b L) (hf : fitsB b = true) (hw : wholeB b = true) (hy : Yld P y [.sv (.sl 1 (bytesC (payB b))), stC ([], false)] L true L1) (h1 : HoldsB m c b L1)
      (hr : WRun P y c m (restB b) (setL c (.box 22 [.sv (.sl 1 (bytesC (restB b)))]) L1) L') : WRun P y c m b L L'
theorem WRun.keys {P : Program} {y c m : Nat} {b : List UInt8} {L L' : List (Nat × LO)} (h : WRun P y c m b L L') : L'.map (·.1) = List.range m := by
  induction h with
  | bad _ _ _ h1 => exact h1.1
  | left _ _ _ _ h1 => exact h1.1
  | go _ _ _ _ _ _ ih => exact ih
theorem HoldsB.all {m c : Nat} {b : List UInt8} {L : List (Nat × LO)} (h : HoldsB m c b L) : (L.all fun p => decide (p.1 < m) && p.2.lt m) = true := by
  rw [List.all_eq_true]
  intro p hp'
  have h1 : p.1 ∈ L.map (·.1) := List.mem_map.2 ⟨p, hp', rfl⟩
  rw [h.1] at h1
  simp only [List.mem_range] at h1
  simp [h1, h.2.1 p hp']
theorem WRun.head {P : Program} {y c m : Nat} {b : List UInt8} {L L' : List (Nat × LO)} (h : WRun P y c m b L L') : HoldsB m c b L := by cases h <;> assumption

theorem take4 {b : List UInt8} (h : 4 ≤ b.length) : bytesC (b.take 4) = ([.val (.int .u8 (hd b 0).toNat), .val (.int .u8 (hd b 1).toNat), .val (.int .u8 (hd b 2).toNat), .val (.int .u8 (hd b 3).toNat)] : List SV).map fun c => [c] := by
  match b, h with
  | a :: c :: e :: f :: l, _ => rfl

theorem walk1_L (b0 : List UInt8) (hb0 : b0.length ≤ 100000000) {m y c : Nat} {L L' : List (Nat × LO)} (hy : y < m) (hcm : c < m) (hL : HoldsB m c b0 L) (hr : WRun Tryd.prog y c m b0 L L') :
    LC Tryd.prog 26 m [.yld y, .ptr c 0] L (.tup []) L' 0 := by
 refine LC.of_go Tryd.func26 (c := _) rfl (by kernel_rfl) (by rw [Tryd.ntmps26]; simp) (by simp [LV.lts, LV.lt, hy, hcm]) hL.1 hL.2.1 (fun p hp' => .inl (by rw [hL.1, ← hr.keys]; exact List.mem_map.2 ⟨p, hp', rfl⟩)) ?_
 intro B hA hmd
 refine .block ?_
 refine .loop ?_
 refine LGo.keep [(0, (true, .yld y)), (1, (true, .ptr c 0))] L ⟨rfl, rfl, trivial⟩ (KeepL.of fun p hp' => lookup_of_nodup (by rw [hL.1]; exact List.nodup_range) hp') ?_
 refine LGo.loopK (σ := List UInt8 × List (Nat × LO)) (fun s => s.1.length ≤ b0.length ∧ HoldsB m c s.1 s.2 ∧ WRun Tryd.prog y c m s.1 s.2 L')
     (fun s => [(0, (true, .yld y)), (1, (true, .ptr c 0))]) (fun s => s.2) (fun _ => m) (fun s => s.1.length) (b0, L) ⟨Nat.le_refl _, hL, hr⟩ ?_
 rintro ⟨b, Lc⟩ ⟨q1, q2, q3⟩ ih
 dsimp only at q1 q2 q3 ih ⊢
 obtain ⟨q4, q5, q6⟩ := q2
 have hC : ∀ {L1 : List (Nat × LO)}, HoldsB m c b L1 → KeepL (hp (L1 ++ Lc)) L1 := fun h => KeepL.app (by rw [h.1]; exact List.nodup_range)
 refine .block ?_
 refine .seq ?_
 refine .seq ?_
 refine .region rfl ?_
 refine R.loadB O22 (hb := q6) (h := ?_)
 refine R.callP (es := [_]) (fun _ => fits_P b) (h := ?_)
 refine R.not (h := ?_)
 refine .n0 ?_
 refine LGo.ifb (ht := fun hc => ?_) (hf := fun hc => ?_)
 ·
  have hnf : fitsB b = false := by simpa using hc
  obtain ⟨k, L1, hyl, h1, rfl⟩ : ∃ k L1, Yld Tryd.prog y [.v (.slice none 0 0), stC ([], true)] Lc k L1 ∧ HoldsB m c b L1 ∧ L1 = L' := by
    cases q3 with
    | bad _ _ hyl h1 => exact ⟨_, _, hyl, h1, rfl⟩
    | left _ hf _ _ _ => rw [hnf] at hf; cases hf
    | go _ hf _ _ _ _ => rw [hnf] at hf; cases hf
  refine .seq ?_
  refine .region rfl ?_
  refine R.move (h := ?_)
  refine R.build BF32 (is := [1]) (xs := [_]) (es := [_]) (h := ?_)
  refine R.callYld (es := [_, _]) hyl (hL := fun _ _ h => h) (h := ?_)
  refine .n0 ?_
  refine LGo.keep [] _ trivial (hC h1) ?_
  exact LGo.ret (res0 Tryd.results26 hA hmd (by rfl) (fun _ _ h => h) (.inr rfl))
 ·
  have hft : fitsB b = true := by simpa using hc
  refine .skip ?_
  refine .seq ?_
  refine .region rfl ?_
  refine R.assign (h := ?_)
  refine .n0 ?_
  refine .seq ?_
  refine .seq ?_
  refine .region rfl ?_
  refine R.loadB O22 (hb := q6) (h := ?_)
  first | refine R.len S22 (h := ?_) | refine R.lenRs S22 (h := ?_) | refine R.lenV (run_lenNil S22) (h := ?_)
  rw [bytesC_length]
  refine R.bin (run_geq _ _ _ _ _ _) (h := ?_)
  refine .n0 ?_
  refine LGo.ifd (ht := fun hc2 => ?_) (hf := fun hc2 => ?_)
  ·
   have hl4 : 4 ≤ b.length := by omega
   have hlong := fits_long hft hl4
   refine .region rfl ?_
   refine R.loadB O22 (hb := q6) (h := ?_)
   refine R.sliceHi SF22 (ha := fun _ => ⟨by omega, by rw [bytesC_length]; omega⟩) (h := ?_)
   rw [bytesC_take, show Int.toNat 4 = 4 from rfl]
   refine R.s2a AR42 (cs := [.val (.int .u8 (hd b 0).toNat), .val (.int .u8 (hd b 1).toNat), .val (.int .u8 (hd b 2).toNat), .val (.int .u8 (hd b 3).toNat)]) (hm := fun _ => ⟨by decide, by rw [bytesC_length, List.length_take]; omega, take4 hl4⟩) (h := ?_)
   first | refine R.loadA A42 (h := ?_) | refine R.loadN A42 (h := ?_) | refine R.loadP A42 (h := ?_)
   refine R.callP (es := [_]) (fun _ => long_P b) (h := ?_)
   first | refine R.add (h := ?_) | refine R.addW (h := ?_)
   rw [show (4 : Int) + (longB b : Int) = ((4 + longB b : Nat) : Int) from by omega]
   refine R.assign (h := ?_)
   refine .n0 ?_
   refine .seq ?_
   refine .seq ?_
   refine .region rfl ?_
   refine R.move (h := ?_)
   refine R.bin (run_eql _ _ _ _ _ _) (h := ?_)
   refine R.move (h := ?_)
   refine R.loadB O22 (hb := q6) (h := ?_)
   first | refine R.len S22 (h := ?_) | refine R.lenRs S22 (h := ?_) | refine R.lenV (run_lenNil S22) (h := ?_)
   rw [bytesC_length]
   refine R.move (h := ?_)
   refine R.bin (run_lss _ _ _ _ _ _) (h := ?_)
   refine R.or (h := ?_)
   refine .n0 ?_
   refine LGo.ifb (ht := fun hc3 => ?_) (hf := fun hc3 => ?_)
   ·
    have hwf : wholeB b = false := by
      simp only [wholeB, Bool.and_eq_false_iff, decide_eq_false_iff_not]
      simp only [Bool.or_eq_true, decide_eq_true_eq] at hc3
      omega
    obtain ⟨k, L1, hyl, h1, rfl⟩ : ∃ k L1, Yld Tryd.prog y [.v (.slice none 0 0), stC (b, false)] Lc k L1 ∧ HoldsB m c b L1 ∧ L1 = L' := by
      cases q3 with
      | bad _ hf _ _ => rw [hft] at hf; cases hf
      | left _ _ _ hyl h1 => exact ⟨_, _, hyl, h1, rfl⟩
      | go _ _ hw _ _ _ => rw [hwf] at hw; cases hw
    refine .seq ?_
    refine .region rfl ?_
    refine R.move (h := ?_)
    refine R.loadB O22 (hb := q6) (h := ?_)
    refine R.toString Tryd.underlying22 Tryd.underlying5 Tryd.underlying9 (h := ?_)
    refine R.build BF32 (is := [0]) (xs := [_]) (es := [_]) (h := ?_)
    refine R.callYld (es := [_, _]) hyl (hL := fun _ _ h => h) (h := ?_)
    refine .n0 ?_
    refine LGo.keep [] _ trivial (hC h1) ?_
    exact LGo.ret (res0 Tryd.results26 hA hmd (by rfl) (fun _ _ h => h) (.inr rfl))
   ·
    have hwt : wholeB b = true := by
      simp only [wholeB, Bool.and_eq_true, decide_eq_true_eq]
      simp only [Bool.or_eq_false_iff, decide_eq_false_iff_not] at hc3
      omega
    have hwl := whole_len hwt
    have hpl := payB_len hwt
    obtain ⟨L1, hyl, h1, hrest⟩ : ∃ L1, Yld Tryd.prog y [.sv (.sl 1 (bytesC (payB b))), stC ([], false)] Lc true L1 ∧ HoldsB m c b L1 ∧ WRun Tryd.prog y c m (restB b) (setL c (.box 22 [.sv (.sl 1 (bytesC (restB b)))]) L1) L' := by
      cases q3 with
      | bad _ hf _ _ => rw [hft] at hf; cases hf
      | left _ _ hw _ _ => rw [hwt] at hw; cases hw
      | go _ _ _ hyl h1 hr => exact ⟨_, hyl, h1, hr⟩
    refine .skip ?_
    refine .seq ?_
    refine .seq ?_
    refine .region rfl ?_
    refine R.move (h := ?_)
    refine R.loadB O22 (hb := q6) (h := ?_)
    refine R.move (h := ?_)
    refine R.sliceLoHi SF22 (ha := fun _ => ⟨by omega, by omega, by rw [bytesC_length]; omega⟩) (h := ?_)
    rw [bytesC_take, bytesC_drop, show Int.toNat 4 = 4 from rfl, Int.toNat_natCast]
    refine R.callP (es := [_]) (fun _ => PC.bytesClone (Entr.of Tryd.func28 rfl (by kernel_rfl)) Tryd.bytes_Clone_nil Tryd.bytes_Clone_at (payB b) (by omega)) (h := ?_)
    refine R.build BF32 (is := []) (xs := []) (es := []) (h := ?_)
    refine R.callYld (es := [_, _]) hyl (hL := fun _ _ h => h) (h := ?_)
    refine R.not (h := ?_)
    refine .n0 ?_
    refine LGo.keep [(0, (true, .yld y)), (1, (true, .ptr c 0)), (3, (true, .i ((4 + longB b : Nat) : Int))), (39, _)] L1 ⟨rfl, rfl, rfl, rfl, trivial⟩ (hC h1) ?_
    refine LGo.ifb (ht := fun hc4 => by simp at hc4) (hf := fun hc4 => ?_)
    refine .skip ?_
    refine .region rfl ?_
    refine R.loadB O22 (hb := h1.2.2) (h := ?_)
    refine R.move (h := ?_)
    refine R.sliceLo SF22 (ha := fun _ => ⟨by omega, by rw [bytesC_length]; omega⟩) (h := ?_)
    rw [bytesC_drop, Int.toNat_natCast]
    refine R.storeB O22 (hb := h1.2.2) (h := ?_)
    refine .n0 ?_
    refine .inBlock ?_
    refine .inLoop ?_
    exact LGo.next m (fun o h => (hA o).1 h) (by omega) (ih (restB b, setL c (.box 22 [.sv (.sl 1 (bytesC (restB b)))]) L1) ⟨by have := restB_lt hwt; dsimp only; omega, hrest.head, hrest⟩ (restB_lt hwt)) ⟨rfl, rfl, trivial⟩ (KeepL.ofSet h1.1) (by simp [LV.lt, hy, hcm]) hrest.head.all
  ·
   have hwf : wholeB b = false := by simp only [wholeB, Bool.and_eq_false_iff, decide_eq_false_iff_not]; omega
   obtain ⟨k, L1, hyl, h1, rfl⟩ : ∃ k L1, Yld Tryd.prog y [.v (.slice none 0 0), stC (b, false)] Lc k L1 ∧ HoldsB m c b L1 ∧ L1 = L' := by
     cases q3 with
     | bad _ hf _ _ => rw [hft] at hf; cases hf
     | left _ _ _ hyl h1 => exact ⟨_, _, hyl, h1, rfl⟩
     | go _ _ hw _ _ _ => rw [hwf] at hw; cases hw
   refine .skip ?_
   refine .seq ?_
   refine .seq ?_
   refine .region rfl ?_
   refine R.move (h := ?_)
   refine R.bin (run_eql _ _ _ _ _ _) (h := ?_)
   refine R.move (h := ?_)
   refine R.loadB O22 (hb := q6) (h := ?_)
   first | refine R.len S22 (h := ?_) | refine R.lenRs S22 (h := ?_) | refine R.lenV (run_lenNil S22) (h := ?_)
   rw [bytesC_length]
   refine R.move (h := ?_)
   refine R.bin (run_lss _ _ _ _ _ _) (h := ?_)
   refine R.or (h := ?_)
   refine .n0 ?_
   refine LGo.ifb (ht := fun hc5 => ?_) (hf := fun hc5 => by simp at hc5)
   refine .seq ?_
   refine .region rfl ?_
   refine R.move (h := ?_)
   refine R.loadB O22 (hb := q6) (h := ?_)
   refine R.toString Tryd.underlying22 Tryd.underlying5 Tryd.underlying9 (h := ?_)
   refine R.build BF32 (is := [0]) (xs := [_]) (es := [_]) (h := ?_)
   refine R.callYld (es := [_, _]) hyl (hL := fun _ _ h => h) (h := ?_)
   refine .n0 ?_
   refine LGo.keep [] _ trivial (hC h1) ?_
   exact LGo.ret (res0 Tryd.results26 hA hmd (by rfl) (fun _ _ h => h) (.inr rfl))

theorem walk_L (b : List UInt8) : LC Tryd.prog 19 0 [.sv (.sl 1 (bytesC b))] [] (.fn (.func 26) [] [.ptr 0 0]) [(0, .box 22 [.sv (.sl 1 (bytesC b))])] 1 := by
 refine LC.of_go Tryd.func19 (c := _) rfl (by kernel_rfl) (by rw [Tryd.ntmps19]; simp) rfl rfl (by simp [LO.lt, LV.lts, LV.lt, lts_sv]) (by simp) ?_
 intro B hA hmd
 refine .seq ?_
 refine .region rfl ?_
 refine R.box (h := ?_)
 refine R.assign (h := ?_)
 refine .n0 ?_
 refine .seq ?_
 refine .region rfl ?_
 refine R.makeFunc (es := []) (fs := [_]) (h := ?_)
 refine R.assign (h := ?_)
 refine .n0 ?_
 exact LGo.ret (ret_T Tryd.results19 hA hmd)

theorem split_P (b : List UInt8) (hb : b.length ≤ 100000000) : PC Tryd.prog 11 [.sv (.sl 1 (bytesC b))] (.tup [.sv (.sl 1 (rowsC (split b).1)), stC (split b).2]) := by
 refine ⟨LC.of_go Tryd.func11 (c := _) rfl (by kernel_rfl) (by rw [Tryd.ntmps11]; simp) rfl rfl (by simp [LO.lt, LV.lts, LV.lt, lts_sv]) (by simp) ?_⟩
 intro B hA hmd
 refine .seq ?_
 refine .region rfl ?_
 refine R.alloc Z23 (h := ?_)
 refine R.alloc Z32 (h := ?_)
 refine .n0 ?_
 refine .seq ?_
 refine .seq ?_
 refine .region rfl ?_
 refine R.move (h := ?_)
 refine R.callX (es := [_]) [] (walk_L b) (h := ?_)
 refine .n0 ?_
 refine .block ?_
 refine LGo.packNil 0 0 22 1 (h := ?_)
 refine LGo.keep [(2, (true, .ptr 0 0)), (3, (true, .ptr 1 0)), (7, (true, .fn (.func 26) [] [.ptr 2 0]))] ([(0, .bx 23 [.v undef] 0 22 1 (rowsC [])), (1, .box 32 [.t (([], false) : FmS).1, .b (([], false) : FmS).2]), (2, .box 22 [.sv (.sl 1 (bytesC b))])]) ⟨rfl, rfl, rfl, trivial⟩ ⟨rfl, rfl, rfl, trivial⟩ ?_
 refine LGo.rangeR (fun fn ac bc => [(0, .bx 23 [.v undef] 0 22 1 (rowsC (strm (b.length + 1) b).1)), (1, .box 32 [.t (strm (b.length + 1) b).2.1, .b (strm (b.length + 1) b).2.2]), (2, .box 22 [.sv (.sl 1 (bytesC (strmE (b.length + 1) b)))]), (3, .raw (.deferred (some []))), (4, .loop fn Tryd.f11.ntmps [(2, (true, .ptr 0 0)), (3, (true, .ptr 1 0)), (7, (true, .fn (.func 26) [] [.ptr 2 0]))] #[8, 9] ac bc .done (some .ret))]) (hit := fun fn ac bc hac hbc => ?_) (h := fun fn => ?_)
 ·
  refine walk1_L b hb (y := 4) (c := 2) (by decide) (by decide) ⟨rfl, by simp [LO.lt, LV.lts, LV.lt, lts_sv], rfl⟩ ?_
  have yg : ∀ (acc : List (List UInt8)) (p cur : List UInt8), p ≠ [] → acc.length + cur.length ≤ b.length → Yld Tryd.prog 4 [.sv (.sl 1 (bytesC p)), stC ([], false)] ([(0, .bx 23 [.v undef] 0 22 1 (rowsC acc)), (1, .box 32 [.t (([], false) : FmS).1, .b (([], false) : FmS).2]), (2, .box 22 [.sv (.sl 1 (bytesC cur))]), (3, .raw (.deferred (some []))), (4, .loop fn Tryd.f11.ntmps [(2, (true, .ptr 0 0)), (3, (true, .ptr 1 0)), (7, (true, .fn (.func 26) [] [.ptr 2 0]))] #[8, 9] ac bc .ready none)]) true ([(0, .bx 23 [.v undef] 0 22 1 (rowsC (acc ++ [p]))), (1, .box 32 [.t (([], false) : FmS).1, .b (([], false) : FmS).2]), (2, .box 22 [.sv (.sl 1 (bytesC cur))]), (3, .raw (.deferred (some []))), (4, .loop fn Tryd.f11.ntmps [(2, (true, .ptr 0 0)), (3, (true, .ptr 1 0)), (7, (true, .fn (.func 26) [] [.ptr 2 0]))] #[8, 9] ac bc .ready none)]) := by
    intro acc p cur hp0 hal
    refine Yld.walkA 5 6 [(5, (true, .ptr 5 0)), (4, (true, .sv (.sl 1 (bytesC p)))), (2, (true, .ptr 0 0)), (3, (true, .ptr 1 0)), (7, (true, .fn (.func 26) [] [.ptr 2 0]))] ((5, .box 32 [.t (([], false) : FmS).1, .b (([], false) : FmS).2]) :: [(0, .bx 23 [.v undef] 0 22 1 (rowsC acc)), (1, .box 32 [.t (([], false) : FmS).1, .b (([], false) : FmS).2]), (2, .box 22 [.sv (.sl 1 (bytesC cur))]), (3, .raw (.deferred (some []))), (4, .loop fn Tryd.f11.ntmps [(2, (true, .ptr 0 0)), (3, (true, .ptr 1 0)), (7, (true, .fn (.func 26) [] [.ptr 2 0]))] #[8, 9] ac bc .ready none)]) (hpN := by rw [show Tryd.f11.ntmps = 20 from Tryd.ntmps11]; simp) (hA := ?_) (hB := ?_)
    · intro l B' hA' hmd'; subst hac
      refine .seq ?_
      refine .region rfl ?_
      refine R.assign (h := ?_)
      refine .n0 ?_
      refine .region rfl ?_
      refine R.alloc Z32 (h := ?_)
      refine R.storeA A32 (h := ?_)
      refine .n0 ?_
      refine LGo.keep [(5, (true, .ptr 5 0)), (4, (true, .sv (.sl 1 (bytesC p)))), (2, (true, .ptr 0 0)), (3, (true, .ptr 1 0)), (7, (true, .fn (.func 26) [] [.ptr 2 0]))] ((5, .box 32 [.t (([], false) : FmS).1, .b (([], false) : FmS).2]) :: [(0, .bx 23 [.v undef] 0 22 1 (rowsC acc)), (1, .box 32 [.t (([], false) : FmS).1, .b (([], false) : FmS).2]), (2, .box 22 [.sv (.sl 1 (bytesC cur))]), (3, .raw (.deferred (some []))), (4, .loop fn Tryd.f11.ntmps [(2, (true, .ptr 0 0)), (3, (true, .ptr 1 0)), (7, (true, .fn (.func 26) [] [.ptr 2 0]))] #[8, 9] _ bc .ready none)]) ⟨rfl, rfl, rfl, rfl, rfl, trivial⟩ ⟨rfl, rfl, rfl, rfl, rfl, rfl, trivial⟩ ?_
      exact LGo.done (fun cx a w hr => ⟨rfl, cx, hr⟩)
    · intro l B' hA' hmd'; subst hbc
      refine LGo.unpack 0 (h := ?_)
      refine .block ?_
      refine .seq ?_
      refine .seq ?_
      refine .region rfl ?_
      refine R.move (h := ?_)
      refine R.nilF false (xs := bytesC p) (hT := Tryd.underlying22) (hne := fun _ => by simpa [bytesC] using hp0) (h := ?_)
      refine .n0 ?_
      refine LGo.ifb (ht := fun hc => by simp at hc) (hf := fun hc => ?_)
      refine .skip ?_
      refine .region rfl ?_
      first | refine R.loadB O23 (h := ?_) | refine R.load1 O23 (h := ?_)
      refine R.move (h := ?_)
      refine R.buildSliceG AP23 (xs := [_]) (es := [_]) (hcs := CellsOfs.cons (CellsOf.one rfl) CellsOfs.nil) (h := ?_)
      refine R.appendS AP23 (hs := SrcOk.sl Tryd.underlying23 (by simp)) (hlen := by simp [rowsC_length]; omega) (h := ?_)
      rw [rowsC_snoc]
      refine R.storeB O23 (h := ?_)
      refine .n0 ?_
      refine .inBlock ?_
      refine LGo.pack 0 0 (h := ?_)
      refine LGo.drop 5 (fun o h => (hA' o).1 h) (by omega) [] ((4, .loop fn Tryd.f11.ntmps [(2, (true, .ptr 0 0)), (3, (true, .ptr 1 0)), (7, (true, .fn (.func 26) [] [.ptr 2 0]))] #[8, 9] ac _ .busy none) :: (3, .raw (.deferred (some []))) :: [(0, .bx 23 [.v undef] 0 22 1 (rowsC (acc ++ [p]))), (1, .box 32 [.t (([], false) : FmS).1, .b (([], false) : FmS).2]), (2, .box 22 [.sv (.sl 1 (bytesC cur))])]) trivial ⟨rfl, rfl, rfl, rfl, rfl, trivial⟩ (by simp) (by simp [LO.lt, LV.lts, LV.lt, lts_sv]) (h := ?_)
      refine LGo.done (RoundEnd.go rfl (fun o z hz hne => ?_) rfl)
      rcases o with _ | _ | _ | _ | _ | o <;> first | exact absurd rfl hne | exact hz
  have yl : ∀ (acc : List (List UInt8)) (s : FmS) (cur : List UInt8), Yld Tryd.prog 4 [.v (.slice none 0 0), stC s] ([(0, .bx 23 [.v undef] 0 22 1 (rowsC acc)), (1, .box 32 [.t (([], false) : FmS).1, .b (([], false) : FmS).2]), (2, .box 22 [.sv (.sl 1 (bytesC cur))]), (3, .raw (.deferred (some []))), (4, .loop fn Tryd.f11.ntmps [(2, (true, .ptr 0 0)), (3, (true, .ptr 1 0)), (7, (true, .fn (.func 26) [] [.ptr 2 0]))] #[8, 9] ac bc .ready none)]) false ([(0, .bx 23 [.v undef] 0 22 1 (rowsC acc)), (1, .box 32 [.t s.1, .b s.2]), (2, .box 22 [.sv (.sl 1 (bytesC cur))]), (3, .raw (.deferred (some []))), (4, .loop fn Tryd.f11.ntmps [(2, (true, .ptr 0 0)), (3, (true, .ptr 1 0)), (7, (true, .fn (.func 26) [] [.ptr 2 0]))] #[8, 9] ac bc .done (some .ret))]) := by
    intro acc s cur
    refine Yld.walkA 5 6 [(5, (true, .ptr 5 0)), (4, (true, .v (.slice none 0 0))), (2, (true, .ptr 0 0)), (3, (true, .ptr 1 0)), (7, (true, .fn (.func 26) [] [.ptr 2 0]))] ((5, .box 32 [.t s.1, .b s.2]) :: [(0, .bx 23 [.v undef] 0 22 1 (rowsC acc)), (1, .box 32 [.t (([], false) : FmS).1, .b (([], false) : FmS).2]), (2, .box 22 [.sv (.sl 1 (bytesC cur))]), (3, .raw (.deferred (some []))), (4, .loop fn Tryd.f11.ntmps [(2, (true, .ptr 0 0)), (3, (true, .ptr 1 0)), (7, (true, .fn (.func 26) [] [.ptr 2 0]))] #[8, 9] ac bc .ready none)]) (hpN := by rw [show Tryd.f11.ntmps = 20 from Tryd.ntmps11]; simp) (hA := ?_) (hB := ?_)
    · intro l B' hA' hmd'; subst hac
      refine .seq ?_
      refine .region rfl ?_
      refine R.assign (h := ?_)
      refine .n0 ?_
      refine .region rfl ?_
      refine R.alloc Z32 (h := ?_)
      refine R.storeA A32 (h := ?_)
      refine .n0 ?_
      refine LGo.keep [(5, (true, .ptr 5 0)), (4, (true, .v (.slice none 0 0))), (2, (true, .ptr 0 0)), (3, (true, .ptr 1 0)), (7, (true, .fn (.func 26) [] [.ptr 2 0]))] ((5, .box 32 [.t s.1, .b s.2]) :: [(0, .bx 23 [.v undef] 0 22 1 (rowsC acc)), (1, .box 32 [.t (([], false) : FmS).1, .b (([], false) : FmS).2]), (2, .box 22 [.sv (.sl 1 (bytesC cur))]), (3, .raw (.deferred (some []))), (4, .loop fn Tryd.f11.ntmps [(2, (true, .ptr 0 0)), (3, (true, .ptr 1 0)), (7, (true, .fn (.func 26) [] [.ptr 2 0]))] #[8, 9] _ bc .ready none)]) ⟨rfl, rfl, rfl, rfl, rfl, trivial⟩ ⟨rfl, rfl, rfl, rfl, rfl, rfl, trivial⟩ ?_
      exact LGo.done (fun cx a w hr => ⟨rfl, cx, hr⟩)
    · intro l B' hA' hmd'; subst hbc
      refine LGo.unpack 0 (h := ?_)
      refine .block ?_
      refine .seq ?_
      refine .seq ?_
      refine .region rfl ?_
      refine R.move (h := ?_)
      refine R.nilT true (hT := Tryd.underlying22) (h := ?_)
      refine .n0 ?_
      refine LGo.ifb (ht := fun hc2 => ?_) (hf := fun hc2 => by simp at hc2)
      refine .seq ?_
      refine .region rfl ?_
      first | refine R.loadB O23 (h := ?_) | refine R.load1 O23 (h := ?_)
      first | refine R.loadA A32 (h := ?_) | refine R.loadN A32 (h := ?_) | refine R.loadP A32 (h := ?_)
      refine R.storeB O23 (h := ?_)
      refine R.storeA A32 (h := ?_)
      refine Reg.nil ⟨fun _ => ⟨mixedO, by rfl, by rfl⟩, ?_⟩
      refine LGo.pack 0 0 (h := ?_)
      refine LGo.drop 5 (fun o h => (hA' o).1 h) (by omega) [] ((4, .loop fn Tryd.f11.ntmps [(2, (true, .ptr 0 0)), (3, (true, .ptr 1 0)), (7, (true, .fn (.func 26) [] [.ptr 2 0]))] #[8, 9] ac _ .busy none) :: (3, .raw (.deferred (some []))) :: [(0, .bx 23 [.v undef] 0 22 1 (rowsC acc)), (1, .box 32 [.t s.1, .b s.2]), (2, .box 22 [.sv (.sl 1 (bytesC cur))])]) trivial ⟨rfl, rfl, rfl, rfl, rfl, trivial⟩ (by simp) (by simp [LO.lt, LV.lts, LV.lt, lts_sv]) (h := ?_)
      refine LGo.ret (RoundEnd.ret rfl (fun o z hz hne => ?_) rfl)
      rcases o with _ | _ | _ | _ | _ | o <;> first | exact absurd rfl hne | exact hz
  have key : ∀ (n : Nat) (acc : List (List UInt8)) (cur : List UInt8), cur.length < n → acc.length + cur.length ≤ b.length → WRun Tryd.prog 4 2 5 cur ([(0, .bx 23 [.v undef] 0 22 1 (rowsC acc)), (1, .box 32 [.t (([], false) : FmS).1, .b (([], false) : FmS).2]), (2, .box 22 [.sv (.sl 1 (bytesC cur))]), (3, .raw (.deferred (some []))), (4, .loop fn Tryd.f11.ntmps [(2, (true, .ptr 0 0)), (3, (true, .ptr 1 0)), (7, (true, .fn (.func 26) [] [.ptr 2 0]))] #[8, 9] ac bc .ready none)]) ([(0, .bx 23 [.v undef] 0 22 1 (rowsC (acc ++ (strm n cur).1))), (1, .box 32 [.t (strm n cur).2.1, .b (strm n cur).2.2]), (2, .box 22 [.sv (.sl 1 (bytesC (strmE n cur)))]), (3, .raw (.deferred (some []))), (4, .loop fn Tryd.f11.ntmps [(2, (true, .ptr 0 0)), (3, (true, .ptr 1 0)), (7, (true, .fn (.func 26) [] [.ptr 2 0]))] #[8, 9] ac bc .done (some .ret))]) := by
    intro n
    induction n with
    | zero => intro acc cur h; omega
    | succ n ih =>
      intro acc cur hlt hal
      by_cases hf : fitsB cur = true
      · by_cases hw : wholeB cur = true
        · have e : strm (n + 1) cur = (payB cur :: (strm n (restB cur)).1, (strm n (restB cur)).2) := by simp only [strm, if_pos hf, if_pos hw]
          have e2 : strmE (n + 1) cur = strmE n (restB cur) := by simp only [strmE, if_pos hf, if_pos hw]
          rw [e, e2]
          have hlr := restB_lt hw
          have hr := ih (acc ++ [payB cur]) (restB cur) (by omega) (by simp; omega)
          rw [List.append_assoc] at hr
          exact .go ⟨rfl, by simp [LO.lt, LV.lts, LV.lt, lts_sv], rfl⟩ hf hw (yg acc (payB cur) cur (payB_ne hf hw) hal) ⟨rfl, by simp [LO.lt, LV.lts, LV.lt, lts_sv], rfl⟩ hr
        · have e : strm (n + 1) cur = ([], (cur, false)) := by simp only [strm, if_pos hf, if_neg hw]
          have e2 : strmE (n + 1) cur = cur := by simp only [strmE, if_pos hf, if_neg hw]
          rw [e, e2, List.append_nil]
          exact .left ⟨rfl, by simp [LO.lt, LV.lts, LV.lt, lts_sv], rfl⟩ hf (by simpa using hw) (yl acc (cur, false) cur) ⟨rfl, by simp [LO.lt, LV.lts, LV.lt, lts_sv], rfl⟩
      · have e : strm (n + 1) cur = ([], ([], true)) := by simp only [strm, if_neg hf]
        have e2 : strmE (n + 1) cur = cur := by simp only [strmE, if_neg hf]
        rw [e, e2, List.append_nil]
        exact .bad ⟨rfl, by simp [LO.lt, LV.lts, LV.lt, lts_sv], rfl⟩ (by simpa using hf) (yl acc ([], true) cur) ⟨rfl, by simp [LO.lt, LV.lts, LV.lt, lts_sv], rfl⟩
  have := key (b.length + 1) [] b (by omega) (by simp)
  rw [List.nil_append] at this
  exact this
 ·
  refine RelTo.frzBx 0 (h := ?_)
  exact (FnPost.mark (by rfl) (ret_BA Tryd.results11 O23 A32 hA hmd))

end Go.Proofs.YtnamkhifmankmaaDoor
