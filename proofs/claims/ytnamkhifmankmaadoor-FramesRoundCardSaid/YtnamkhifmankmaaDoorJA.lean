/- frames.Join: a walk of the kit's, by bytes.Buffer's contracts. -/
import Derived.Test.YtnamkhifmankmaaDoorPM
import Derived.Test.YtnamkhifmankmaaDoorL
import Derived.Shelf.Bytes.Bytes
import Derived.Lib.BufferOld
import Derived.ProofKit
import Derived.Deep.LoopGhost
set_option linter.unusedSimpArgs false
set_option linter.unusedVariables false
namespace Go.Proofs.YtnamkhifmankmaaDoor

open Go.RowKit
theorem PC.calls {P : Program} {f : FuncId} {lvs : List LV} {out : LV} (h : PC P f lvs out) {pr : Nat → Nat} {w : World} {vs : List Value} (hl : ∀ b, 0 < pr b → b < w.heap.size) (ham : Amb pr w)
    (hv : Vs ⟨pr, fun o => o < 0, fun _ => undef, fun _ => none⟩ w lvs vs) :
    Calls P f vs.toArray w fun e w' => ∃ v pr' A loc inn, e = .returned v ∧ Below w.heap.size w w' ∧ (∀ b, b < w.heap.size → pr' b = pr b) ∧ (∀ b, 0 < pr' b → b < w'.heap.size) ∧ V ⟨pr', A, loc, inn⟩ w' out v := by
  refine (h.lc.go ⟨pr, fun o => o < 0, fun _ => undef, fun _ => none⟩ w vs (fun o => Iff.rfl) ⟨fun o x hx => by simp at hx, fun o x b hx => by simp at hx, fun o o' x x' b _ hx => by simp at hx, hl⟩ ham hv).mono ?_
  rintro e w' ⟨v, c2, rfl, t, hvo⟩
  exact ⟨v, c2.pr, c2.A, c2.loc, c2.inn, rfl, ⟨t.grow.os, t.grow.tape, t.grow.output, t.grow.size, fun b hb => t.grow.same b hb (fun ⟨o, x, hx, _⟩ => by simp at hx)⟩, fun b hb => t.grow.prs b hb (fun ⟨o, x, hx, _⟩ => by simp at hx), t.heap.lim, hvo⟩
theorem Below.ext {pr : Nat → Nat} {B : Nat} {w w' : World} (h : Below B w w') (hl : ∀ b, 0 < pr b → b < B) : Ext pr w pr w' := fun b off ho => by
  refine ⟨ho, ?_⟩
  simp only [World.cell?, h.block b (hl b (by omega))]
theorem Below.amb {pr : Nat → Nat} {B : Nat} {w w' : World} (h : Below B w w') (hl : ∀ b, 0 < pr b → b < B) (ha : Amb pr w) : Amb pr w' := by
  refine ⟨fun p hp => ?_, fun b hb => ?_⟩
  · obtain ⟨h1, T, fr, h2⟩ := ha.1 p hp
    exact ⟨h1, T, fr, by rw [h.block _ (hl _ h1)]; exact h2⟩
  · obtain ⟨h1, T, fr, x, y, h2⟩ := ha.2 b hb
    exact ⟨h1, T, fr, x, y, by rw [h.block _ (hl _ h1)]; exact h2⟩
/-- a row of one's own, as a closed slice -/
theorem own_closed {w w' : World} {v : Value} {l : List UInt8} {pr : Nat → Nat} {e : TypeId} (A : Nat → Prop) (loc : Nat → Value) (inn : Nat → Option Nat) (hl : ∀ b, 0 < pr b → b < w.heap.size) (hb : Below w.heap.size w w') (hown : w'.ownsRow w.heap.size e 1 v l.length (Lib.byteCells l)) :
    ∃ pr', (∀ b, b < w.heap.size → pr' b = pr b) ∧ (∀ b, 0 < pr' b → b < w'.heap.size) ∧ V ⟨pr', A, loc, inn⟩ w' (.sv (.sl 1 (bytesC l))) v := by
  rcases hown.2 with ⟨rfl, e1⟩ | ⟨gb, cap', cur, e1, eb, e2, e3, e4, e5, e6⟩
  · obtain rfl := List.eq_nil_of_length_eq_zero e1
    exact ⟨pr, fun _ _ => rfl, fun b h => Nat.lt_of_lt_of_le (hl b h) hb.size, by simp only [V, VS]; exact .inl ⟨.inl rfl, rfl⟩⟩
  · refine ⟨fun b => if b = gb then l.length else pr b, fun b hlt => by simp only; rw [if_neg (by omega)], fun b hp => ?_, ?_⟩
    · simp only at hp
      split at hp
      · rename_i e; subst e; exact (Array.getElem?_eq_some_iff.1 e2).1
      · exact Nat.lt_of_lt_of_le (hl b hp) hb.size
    · simp only [V, VS]
      refine .inr ⟨gb, 0, cap', by rw [e1, bytesC_length], by rw [bytesC_length]; exact e3, e4, by rw [bytesC_length]; simp, ?_⟩
      refine VSR.of_list e2 (bytesC l) (Lib.byteCells l) 0 (fun e he => ?_) (by simp [bytesC, Lib.byteCells]) (fun j hj => ?_) (fun u hu => ?_) (fun j c v hc hv => ?_)
      · obtain ⟨c, _, rfl⟩ := List.mem_map.1 he; rfl
      · rw [Nat.zero_add, ← e6, List.getElem?_take, if_pos (by simpa [Lib.byteCells] using hj)]
        simp
      · obtain ⟨x, _, rfl⟩ := List.mem_map.1 hu; rfl
      · have : (bytesC l).flatten = l.map fun c => .val (.int .u8 c.toNat) := bytesC_flat l
        rw [this, List.getElem?_map] at hc
        unfold Lib.byteCells at hv
        rw [List.getElem?_map] at hv
        cases hx : l[j]? with
        | none => rw [hx] at hc; cases hc
        | some x =>
          rw [hx] at hc hv; cases hc; cases hv
          simp [VS]

theorem frameA_P (p : List UInt8) : PC Tryd.prog 7 [.sv (.sl 1 (bytesC p))] (.tup [.sv (.sl 1 (bytesC (frame p).1)), .i (frame p).2]) := by
 refine ⟨LC.of_go Tryd.func7 (c := _) rfl (by kernel_rfl) (by rw [Tryd.ntmps7]; simp) rfl rfl (by simp [LO.lt, LV.lts, LV.lt, lts_sv]) (by simp) ?_⟩
 intro B hA hmd
 obtain ⟨g, e0⟩ : ∃ g, frame p = g := ⟨_, rfl⟩
 have e1 := e0
 unfold frame at e1
 rw [e0]
 refine .seq ?_
 refine .region rfl ?_
 refine R.assign (h := ?_)
 refine R.assign (h := ?_)
 refine .n0 ?_
 refine .seq ?_
 refine .seq ?_
 refine .region rfl ?_
 refine R.move (h := ?_)
 first | refine R.len S22 (h := ?_) | refine R.lenRs S22 (h := ?_) | refine R.lenV (run_lenNil S22) (h := ?_)
 rw [bytesC_length]
 refine R.assign (h := ?_)
 refine .n0 ?_
 refine .block ?_
 refine .seq ?_
 refine .region rfl ?_
 refine R.move (h := ?_)
 refine R.bin (run_eql _ _ _ _ _ _) (h := ?_)
 refine R.assign (h := ?_)
 refine .n0 ?_
 first | refine LGo.ifd (ht := fun hc => ?_) (hf := fun hc => ?_) | refine LGo.ifb (ht := fun hc => ?_) (hf := fun hc => ?_)
 ·
  rw [if_pos (by omega)] at e1; rw [← e1]
  refine .seq ?_
  refine .region rfl ?_
  refine R.assign (h := ?_)
  refine R.assign (h := ?_)
  refine .n0 ?_
  first | refine LGo.frzT 2 (h := ?_) | refine LGo.nilSl 2 1 (h := ?_) | skip
  exact LGo.ret (ret_TT Tryd.results7 hA hmd)
 ·
  rw [if_neg (by omega)] at e1
  refine .seq ?_
  refine .region rfl ?_
  refine R.move (h := ?_)
  refine R.bin (run_gtr _ _ _ _ _ _) (h := ?_)
  refine R.assign (h := ?_)
  refine .n0 ?_
  first | refine LGo.ifd (ht := fun hc2 => ?_) (hf := fun hc2 => ?_) | refine LGo.ifb (ht := fun hc2 => ?_) (hf := fun hc2 => ?_)
  ·
   rw [if_pos (by omega)] at e1; rw [← e1]
   refine .seq ?_
   refine .region rfl ?_
   refine R.assign (h := ?_)
   refine R.assign (h := ?_)
   refine .n0 ?_
   first | refine LGo.frzT 2 (h := ?_) | refine LGo.nilSl 2 1 (h := ?_) | skip
   exact LGo.ret (ret_TT Tryd.results7 hA hmd)
  ·
   rw [if_neg (by omega)] at e1; rw [← e1]
   refine .skip ?_
   refine .inBlock ?_
   refine .seq ?_
   refine .region rfl ?_
   refine R.move (h := ?_)
   first | refine R.len S22 (h := ?_) | refine R.lenRs S22 (h := ?_) | refine R.lenV (run_lenNil S22) (h := ?_)
   rw [bytesC_length]
   refine R.callP (es := [_]) (fun _ => headed_P p.length (by omega)) (h := ?_)
   refine R.alloc Z42 (h := ?_)
   refine R.storeA A42 (h := ?_)
   refine .n0 ?_
   refine LGo.frzBox 0 [.val (.int .u8 71), .val (.int .u8 1), .val (.int .u8 ((p.length : Int) / 256)), .val (.int .u8 ((p.length : Int) % 256))] (h := ?_)
   refine .seq ?_
   refine .region rfl ?_
   refine R.sliceAt AR42 (cs := [.val (.int .u8 71), .val (.int .u8 1), .val (.int .u8 ((p.length : Int) / 256)), .val (.int .u8 ((p.length : Int) % 256))]) (h := ?_)
   rw [← hdB_C p.length (by omega)]
   refine R.move (h := ?_)
   refine R.buildSliceG AP23 (xs := [_, _]) (es := [_, _]) (hcs := CellsOfs.cons (CellsOf.one rfl) (CellsOfs.cons (CellsOf.one rfl) CellsOfs.nil)) (h := ?_)
   refine R.callP (es := [_, _]) (fun _ => PC.bytesJoin (Entr.of Tryd.func16 rfl (by kernel_rfl)) Tryd.bytes_Join_many [hdB p.length, p] (by simp) (by simp) (by simp [Lib.lens, hdB]; omega)) (h := ?_)
   rw [show Lib.join [hdB p.length, p] [] = hdB p.length ++ p from by simp [Lib.join]]
   refine R.assign (h := ?_)
   refine R.assign (h := ?_)
   refine .n0 ?_
   first | refine LGo.frzT 2 (h := ?_) | refine LGo.nilSl 2 1 (h := ?_) | skip
   exact LGo.ret (ret_TT Tryd.results7 hA hmd)

theorem frame_slice {l : List UInt8} {pr : Nat → Nat} {w : World} {u : Value} (hl : l ≠ []) (h : VS pr w (.sl 1 (bytesC l)) u) : ∃ b off cap, u = .slice (some ⟨b, off, none⟩) l.length cap ∧ 0 < pr b ∧ ∀ j v, (Lib.byteCells l)[j]? = some v → w.cell? ((⟨b, off, none⟩ : Addr).add j) = some v := by
  have hh := holds_bytes h
  simp only [VS] at h
  rcases h with ⟨_, he⟩ | ⟨b, off, cap, rfl, hle, _, hp, hr⟩
  · exact absurd (List.eq_nil_of_length_eq_zero (by rw [← bytesC_length l, he]; rfl)) hl
  · rw [bytesC_length] at hp ⊢
    have hlp : 0 < l.length := by cases l; exact absurd rfl hl; simp
    obtain ⟨p, cap2, he, _, h2⟩ := hh
    rw [bytesC_length] at he
    cases he
    refine ⟨b, off, cap, rfl, by omega, fun j v hj => ?_⟩
    unfold Lib.byteCells at hj
    rw [List.getElem?_map] at hj
    cases hx : l[j]? with
    | none => rw [hx] at hj; cases hj
    | some x => rw [hx] at hj; cases hj; exact h2 _ rfl j x hx
theorem bcells_one (l : List UInt8) : ∀ v ∈ Lib.byteCells l, v.oneCell' = true := by
  intro v hv; obtain ⟨x, _, rfl⟩ := List.mem_map.1 hv; rfl
theorem byteCells_app (l m : List UInt8) : Lib.byteCells (l ++ m) = Lib.byteCells l ++ Lib.byteCells m := by simp [Lib.byteCells]
/-- what a call of Join leaves -/
def JPost (pr : Nat → Nat) (w : World) (r : List UInt8 × Int) (e : Ending) (w' : World) : Prop := ∃ v pr' A loc inn, e = .returned v ∧ Below w.heap.size w w' ∧ (∀ b, b < w.heap.size → pr' b = pr b) ∧ (∀ b, 0 < pr' b → b < w'.heap.size) ∧ V ⟨pr', A, loc, inn⟩ w' (.tup [.sv (.sl 1 (bytesC r.1)), .i r.2]) v
theorem JPost.no {pr : Nat → Nat} {w w' : World} (hl : ∀ b, 0 < pr b → b < w.heap.size) (z : Int) (h : Below w.heap.size w w') : JPost pr w ([], z) (.returned (.tuple #[.slice none 0 0, .int .i64 z])) w' :=
  ⟨_, pr, fun _ => False, fun _ => undef, fun _ => none, rfl, h, fun _ _ => rfl, fun b hb => Nat.lt_of_lt_of_le (hl b hb) h.size, by
    simp only [V, Vs]
    exact ⟨_, rfl, _, _, rfl, by simp only [VS]; exact .inl ⟨.inl rfl, rfl⟩, _, _, rfl, by simp [VS], rfl⟩⟩
set_option maxHeartbeats 4000000 in
theorem join_C (l : List (List UInt8)) (base : Option Addr) (cap : Nat) (w : World) (pr : Nat → Nat) (hlim : ∀ b, 0 < pr b → b < w.heap.size) (ham : Amb pr w) (hln : l.length ≤ maxLen)
    (hel : ∀ k (h : k < l.length), ∃ bb off u, base = some ⟨bb, off, none⟩ ∧ w.cell? ⟨bb, off + k, none⟩ = some u ∧ VS pr w (.sl 1 (bytesC l[k])) u ∧ bb < w.heap.size) :
    Calls Tryd.prog 9 #[.slice base l.length cap] w (JPost pr w (joinF l)) := by
  unfold maxLen at hln
  by_cases hbig : 1000 < (l.length : Int)
  · rw [show joinF l = ([], 3) from if_pos hbig]
    have hno := JPost.no hlim 3 (Below.refl w.heap.size w)
    clear hel
    go_enter Tryd.func9, Tryd.ntmps9
    go_wp2
    go_ret2
    exact hno
  · rw [show joinF l = joinGo l [] from if_neg hbig]
    obtain ⟨r, hr⟩ : ∃ r, joinGo l [] = r := ⟨_, rfl⟩
    rw [hr]
    go_enter Tryd.func9, Tryd.ntmps9
    go_wp2
    have hfresh := Lib.fresh_isBuffer 48 5 w
    have hbel0 : Below w.heap.size w (w.alloc (.cells #[.slice none 0 0, .int .i64 0, .int .i8 0] 48)) := (Below.refl _ _).alloc (Nat.le_refl _) _
    go_loopg [14] l.length (fun k s14 wr => ∃ (i : Nat) (acc : List UInt8), s14 = .int .i64 i ∧ i ≤ l.length ∧ l.length - i ≤ k ∧ Below w.heap.size w wr ∧ Lib.IsBuffer 48 5 w.heap.size w.heap.size (Lib.byteCells acc) wr ∧ acc.length ≤ 2000 * i ∧ joinGo (l.drop i) acc = r)
    case atStart => exact ⟨0, [], rfl, Nat.zero_le _, by omega, hbel0, hfresh, by simp, by simpa using hr⟩
    case round =>
      obtain ⟨i, acc, rfl, hi, hk, hbel, hbuf, hal, hq⟩ := hrel
      by_cases hlt : (i : Int) < (l.length : Int)
      · obtain ⟨bb, off, u, rfl, hcell, hvs, hbb⟩ := hel i (by omega)
        have hcw : wr.cell? ⟨bb, off + i, none⟩ = some u := by
          rw [← hcell]; simp only [World.cell?, hbel.block bb hbb]
        have hlw : ∀ b, 0 < pr b → b < wr.heap.size := fun b hb => Nat.lt_of_lt_of_le (hlim b hb) hbel.size
        have hvw := VS.mono (Below.ext hbel hlim) _ _ hvs
        rw [List.drop_eq_getElem_cons (show i < l.length by omega), joinGo] at hq
        generalize l[i]'(by omega) = p at hvw hq
        have hF := (frameA_P p).calls hlw (Below.amb hbel hlim ham) (vs := [u]) (by simp only [Vs, V]; exact ⟨_, _, rfl, hvw, rfl⟩)
        clear hel hcell hvs hvw
        by_cases hz : (frame p).2 = 0
        · rw [if_neg (by simp [hz])] at hq
          obtain ⟨hf1, hf2, hf3⟩ := frame_0 hz
          rw [hz] at hF
          have hfl : (frame p).1.length ≤ 1028 ∧ (frame p).1 ≠ [] := by rw [hf1]; exact ⟨by rw [frm_len]; omega, by unfold frm hdB; simp⟩
          generalize (frame p).1 = f at hF hq hfl
          go_wp2_with (first | (go_at_call 7; refine hF.mono ?_; rintro e w1 ⟨v, pr1, A1, lo1, in1, rfl, hb1, hp1, hl1, hv1⟩; obtain ⟨b1, off1, cap1, rfl, hpos, hcells⟩ : ∃ b1 off1 cap1, v = .tuple #[.slice (some ⟨b1, off1, none⟩) f.length cap1, .int .i64 0] ∧ 0 < pr1 b1 ∧ ∀ j x, (Lib.byteCells f)[j]? = some x → w1.cell? ((⟨b1, off1, none⟩ : Addr).add j) = some x := (by
              simp only [V, Vs] at hv1
              obtain ⟨_, rfl, x, _, rfl, hx, y, _, rfl, hy, rfl⟩ := hv1
              simp only [VS] at hy
              obtain ⟨b1, off1, cap1, rfl, h1, h2⟩ := frame_slice hfl.2 hx
              exact ⟨b1, off1, cap1, by rw [hy], h1, h2⟩)) | (go_at_call 17; refine (Tryd.Buffer_Write_any w.heap.size w.heap.size (Lib.byteCells acc) (Lib.byteCells f) ⟨b1, off1, none⟩ f.length cap1 w1 (hbuf.old hb1) (Nat.le_trans hbel.size hb1.size) (bcells_one _) (Lib.byteCells_length _) (fun he => by have h1 := hp1 w.heap.size hbuf.lt; dsimp only at he; rw [he, h1] at hpos; exact absurd (hlim _ hpos) (Nat.lt_irrefl _)) hcells (bcells_one _) (by rw [Lib.byteCells_length]; omega)).mono ?_; rintro e w2 ⟨rfl, hbuf2, hbel2, _⟩))
          rw [← byteCells_app] at hbuf2
          go_roundg (l.length - (i + 1))
          case measure => omega
          case rel => exact ⟨i + 1, acc ++ f, by simp, by omega, by omega, (hbel.trans (hb1.mono hbel.size)).trans hbel2, hbuf2, by rw [List.length_append]; omega, hq⟩
        · rw [if_pos hz] at hq
          generalize (frame p).2 = z at hF hq hz
          go_wp2_with (go_at_call 7; refine hF.mono ?_; rintro e w1 ⟨v, pr1, A1, lo1, in1, rfl, hb1, hp1, hl1, hv1⟩; obtain ⟨u1, rfl⟩ : ∃ u1, v = .tuple #[u1, .int .i64 z] := (by
            simp only [V, Vs] at hv1
            obtain ⟨_, rfl, x, _, rfl, _, y, _, rfl, hy, rfl⟩ := hv1
            simp only [VS] at hy
            exact ⟨x, by rw [hy]⟩))
          subst hq
          have hno := JPost.no hlim z (hbel.trans (hb1.mono hbel.size))
          go_ret2
          exact hno
      · rw [List.drop_eq_nil_of_le (by omega), joinGo] at hq
        subst hq
        go_wp2_with (go_at_call 18; refine (Tryd.Buffer_Bytes w.heap.size w.heap.size _ _ hbuf).mono ?_; rintro e w2 ⟨v, rfl, hown, n, rfl⟩)
        rw [Lib.byteCells_length] at hown
        have hbn : Below w.heap.size w (wr.drewN n) := ⟨hbel.os, hbel.tape, hbel.output, hbel.size, hbel.block⟩
        obtain ⟨pr2, g1, g2, g3⟩ := own_closed (fun _ => False) (fun _ => undef) (fun _ => none) hlim hbn hown
        go_ret2
        exact ⟨.tuple #[v, .int .i64 0], pr2, fun _ => False, fun _ => undef, fun _ => none, rfl, hbn, g1, g2, by
          simp only [V, Vs]
          exact ⟨_, rfl, _, _, rfl, by simpa only [V] using g3, _, _, rfl, by simp [VS], rfl⟩⟩

end Go.Proofs.YtnamkhifmankmaaDoor
