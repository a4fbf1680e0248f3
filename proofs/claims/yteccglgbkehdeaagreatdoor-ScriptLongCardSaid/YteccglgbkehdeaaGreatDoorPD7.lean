/- Texts of this claim, merged (TL to TN); no condition. -/
import Derived.Test.YteccglgbkehdeaaGreatDoorPD6
/- scripts: Decode, and the reference's. -/
set_option linter.unusedSimpArgs false
set_option linter.unusedVariables false
namespace Go.Proofs.YteccglgbkehdeaaGreatDoor

theorem base_w {s : Sc} (h : (baseS s).2 = 0) : 1 ≤ s.workers ∧ s.workers ≤ 8 := by
  unfold baseS at h
  split at h
  · rename_i h1; exact absurd h h1
  split at h
  · cases h
  split at h
  · rename_i h1; exact absurd h h1
  split at h
  · cases h
  · rename_i h1
    exact inS_iff.1 (by simpa using h1)
theorem base_cl {s : Sc} (h : (baseS s).2 = 0) : s.calls.length ≤ 60 := by
  unfold baseS at h
  split at h
  · rename_i h1; exact absurd h h1
  split at h
  · cases h
  split at h
  · rename_i h1; exact absurd h h1
  split at h
  · cases h
  split at h
  · cases h
  · omega
theorem two_of {c : List UInt8} (h : c.length = 2) : ∃ b v, c = [b, v] := by
  match c, h with
  | [b, v], _ => exact ⟨b, v, rfl⟩
theorem decoded_E (s : Sc) (acc : List SrE) (hcl : s.calls.length ≤ 100000) (hw : 1 ≤ s.workers ∧ s.workers ≤ 8) (ks : List Int) (b v : Nat) (hb : b < 256) (hv : v < 256) : LC Tryz.prog 96 1 [.sv (.at_ (Sc.c { s with evs := acc })), .ref 0, .i b, .i v] [(0, .raw (mapOb encI (mB ks)))] (.agg ((decE s ks b v).c.map LV.sv)) [(0, .raw (mapOb encI (mB (nextK ks (decE s ks b v)))))] 0 := decoded_L { s with evs := acc } hcl hw ks b v hb hv
theorem chStep_go {s : Sc} {acc : List SrE} {ks : List Int} {b v : UInt8} (h : acc.length < 1000) : chStep s (acc, ks) [b, v] = (acc ++ [decE s ks b.toNat v.toNat], nextK ks (decE s ks b.toNat v.toNat)) := if_pos h

theorem decodeS_P (s : Sc) (hs : s.sm) (hcp : s.cp) (raw : List UInt8) (hl : raw.length ≤ 100000) : PC Tryz.prog 34 [.agg (s.c.map LV.sv), .sv (.sl 1 (bytesC raw))] (.tup [.agg ((decodeS s raw).1.c.map LV.sv), .i (decodeS s raw).2]) := by
 refine ⟨LC.of_go Tryz.func34 (c := _) rfl (by kernel_rfl) (by rw [Tryz.ntmps34]; simp) rfl rfl (by simp [LO.lt, LV.lts, LV.lt, lts_sv]) (by simp) ?_⟩
 intro B hA hmd
 obtain ⟨g, e0⟩ : ∃ g, decodeS s raw = g := ⟨_, rfl⟩
 have e1 := e0
 unfold decodeS at e1
 rw [e0]
 refine .seq ?_
 refine .region rfl ?_
 refine R.box (h := ?_)
 refine R.alloc Z29 (h := ?_)
 refine R.assign (h := ?_)
 refine .n0 ?_
 refine .seq ?_
 refine .region rfl ?_
 first | refine R.loadA A29 (h := ?_) | refine R.loadN A29 (h := ?_) | refine R.loadP A29 (h := ?_)
 refine R.callP (es := [_, _]) (fun _ => copiedN_P s hcp.v hcp.vr hcp.g hcp.gr hcp.c) (h := ?_)
 refine R.alloc Z29 (h := ?_)
 refine R.storeA A29 (h := ?_)
 refine .n0 ?_
 refine .seq ?_
 refine .seq ?_
 refine .region rfl ?_
 first | refine R.loadA A29 (h := ?_) | refine R.loadN A29 (h := ?_) | refine R.loadP A29 (h := ?_)
 refine R.callP (es := [_]) (fun _ => PC.nilEv (checkS_P { s with evs := [] } (hs.evs [] (Nat.zero_le _)))) (h := ?_)
 refine R.move (h := ?_)
 refine R.extract (h := ?_)
 refine R.extract (h := ?_)
 refine R.assign (h := ?_)
 refine R.assign (h := ?_)
 refine .n0 ?_
 refine .seq ?_
 refine .region rfl ?_
 refine R.move (h := ?_)
 refine R.bin (run_neq _ _ _ _ _ _) (h := ?_)
 refine .n0 ?_
 refine LGo.ifb (ht := fun hc => ?_) (hf := fun hc => ?_)
 ·
  rw [if_pos (by simpa using hc)] at e1
  rw [← e1]
  refine .seq ?_
  refine .region rfl ?_
  refine R.buildG BG29 (is := []) (ks := []) (xs := []) (es := []) (h := ?_)
  refine R.move (h := ?_)
  refine R.storeA A29 (h := ?_)
  refine R.assign (h := ?_)
  refine .n0 ?_
  refine LGo.packNil 1 3 80 3 (h := ?_)
  refine LGo.frzBx 1 (h := ?_)
  refine LGo.packNil 1 5 71 3 (h := ?_)
  refine LGo.frzBx 1 (h := ?_)
  refine LGo.packNil 1 7 40 11 (h := ?_)
  refine LGo.frzBx 1 (h := ?_)
  refine LGo.packNil 1 8 58 3 (h := ?_)
  refine LGo.frzBx 1 (h := ?_)
  exact LGo.ret (ret_AT Tryz.results34 A29 hA hmd)
 ·
  have hc0 : (checkS { s with evs := [] }).2 = 0 := by simpa using hc
  rw [if_neg (by simp [hc0])] at e1
  have hb0 : (baseS s).2 = 0 := (check_facts hc0).1
  have hw := base_w hb0
  have hcl := base_cl hb0
  rw [← e1]
  refine .skip ?_
  refine .seq ?_
  refine .region rfl ?_
  refine R.makeMap encI (h := ?_)
  refine R.alloc Z158 (h := ?_)
  refine R.storeB O158 (h := ?_)
  refine .n0 ?_
  refine .seq ?_
  refine .seq ?_
  refine .region rfl ?_
  refine R.move (h := ?_)
  refine R.callN (es := [_, _]) (chunk_L raw) (h := ?_)
  refine .n0 ?_
  refine .block ?_
  refine LGo.packNil 2 8 58 3 (h := ?_)
  refine LGo.keep [(4, (true, .ptr 1 0)), (6, (true, .ptr 2 0)), (9, (true, .ptr 4 0)), (24, (true, .fn (.func 166) [] [.ptr 5 0, .ptr 6 0]))] [(0, .box 29 (s.c.map LV.sv)), (1, .box 29 [.i 0, .i 0, .i 0, .v (.slice none 0 0), .t [], .v (.slice none 0 0), .i 0, .v (.slice none 0 0), .v (.slice none 0 0)]), (2, .bx 29 [.i s.ven.shards, .i s.ven.ttl, .i s.ven.session, .sv (.sl 3 (s.ven.secs.map VnS.c)), .t s.key, .sv (.sl 3 (s.gates.map GtG.c)), .i s.workers, .sv (.sl 11 (s.calls.map SrC.c)), .v undef] 8 58 3 ((chSt s raw 0).1.map SrE.c)), (3, .raw (mapOb encI (mB (chSt s raw 0).2))), (4, .box 158 [.ref 3]), (5, .box 44 [.sv (.sl 1 (bytesC raw))]), (6, .box 3 [.i 2])] (by repeat (first | exact trivial | refine ⟨rfl, ?_⟩)) (by repeat (first | exact trivial | refine ⟨rfl, ?_⟩)) ?_
  refine LGo.rangeN (fun fn ac bc => [(0, .box 29 (s.c.map LV.sv)), (1, .box 29 [.i 0, .i 0, .i 0, .v (.slice none 0 0), .t [], .v (.slice none 0 0), .i 0, .v (.slice none 0 0), .v (.slice none 0 0)]), (2, .bx 29 [.i s.ven.shards, .i s.ven.ttl, .i s.ven.session, .sv (.sl 3 (s.ven.secs.map VnS.c)), .t s.key, .sv (.sl 3 (s.gates.map GtG.c)), .i s.workers, .sv (.sl 11 (s.calls.map SrC.c)), .v undef] 8 58 3 ((chSt s raw (chunkL raw).length).1.map SrE.c)), (3, .raw (mapOb encI (mB (chSt s raw (chunkL raw).length).2))), (4, .box 158 [.ref 3]), (5, .box 44 [.sv (.sl 1 (bytesC raw))]), (6, .box 3 [.i 2]), (7, .raw (.deferred (some []))), (8, .loop fn Tryz.f34.ntmps [(4, (true, .ptr 1 0)), (6, (true, .ptr 2 0)), (9, (true, .ptr 4 0)), (24, (true, .fn (.func 166) [] [.ptr 5 0, .ptr 6 0]))] #[25] ac bc .ready none)]) (hit := fun fn ac bc hac hbc => ?_) (h := fun fn => ?_)
  ·
   suffices hgo : YG Tryz.prog 8 9 ((chunkL raw).map chY) (fun j => [(0, .box 29 (s.c.map LV.sv)), (1, .box 29 [.i 0, .i 0, .i 0, .v (.slice none 0 0), .t [], .v (.slice none 0 0), .i 0, .v (.slice none 0 0), .v (.slice none 0 0)]), (2, .bx 29 [.i s.ven.shards, .i s.ven.ttl, .i s.ven.session, .sv (.sl 3 (s.ven.secs.map VnS.c)), .t s.key, .sv (.sl 3 (s.gates.map GtG.c)), .i s.workers, .sv (.sl 11 (s.calls.map SrC.c)), .v undef] 8 58 3 ((chSt s raw j).1.map SrE.c)), (3, .raw (mapOb encI (mB (chSt s raw j).2))), (4, .box 158 [.ref 3]), (5, .box 44 [.sv (.sl 1 (bytesC raw))]), (6, .box 3 [.i 2]), (7, .raw (.deferred (some []))), (8, .loop fn Tryz.f34.ntmps [(4, (true, .ptr 1 0)), (6, (true, .ptr 2 0)), (9, (true, .ptr 4 0)), (24, (true, .fn (.func 166) [] [.ptr 5 0, .ptr 6 0]))] #[25] ac bc .ready none)]) from by
     have hr := chunk1_L (A0 := fun j => .box 29 (s.c.map LV.sv)) (A1 := fun j => .box 29 [.i 0, .i 0, .i 0, .v (.slice none 0 0), .t [], .v (.slice none 0 0), .i 0, .v (.slice none 0 0), .v (.slice none 0 0)]) (A2 := fun j => .bx 29 [.i s.ven.shards, .i s.ven.ttl, .i s.ven.session, .sv (.sl 3 (s.ven.secs.map VnS.c)), .t s.key, .sv (.sl 3 (s.gates.map GtG.c)), .i s.workers, .sv (.sl 11 (s.calls.map SrC.c)), .v undef] 8 58 3 ((chSt s raw j).1.map SrE.c)) (A3 := fun j => .raw (mapOb encI (mB (chSt s raw j).2))) (A4 := fun j => .box 158 [.ref 3]) (A7 := .raw (.deferred (some []))) (A8 := .loop fn Tryz.f34.ntmps [(4, (true, .ptr 1 0)), (6, (true, .ptr 2 0)), (9, (true, .ptr 4 0)), (24, (true, .fn (.func 166) [] [.ptr 5 0, .ptr 6 0]))] #[25] ac bc .ready none) hl hgo
     exact hr
   refine ⟨fun j hj => rfl, fun j hj => by simp [LO.lt, LV.lts, LV.lt, lts_sv], fun j hj => ?_⟩
   rw [List.getElem_map]
   have hj' : j < (chunkL raw).length := by simpa using hj
   try dsimp only
   rw [chSt_succ hj']
   have hle := chSt_le s raw j
   generalize (chunkL raw)[j] = c at *
   generalize chSt s raw j = p at *
   obtain ⟨acc, ks⟩ := p
   dsimp only at hle
   try dsimp only
   refine Yld.walk 9 ((10, (true, .sv (.sl 1 (bytesC c)))) :: (25, (true, .sv (.sl 1 (bytesC c)))) :: [(4, (true, .ptr 1 0)), (6, (true, .ptr 2 0)), (9, (true, .ptr 4 0)), (24, (true, .fn (.func 166) [] [.ptr 5 0, .ptr 6 0]))]) (hpN := by rw [show Tryz.f34.ntmps = 51 from Tryz.ntmps34]; simp) (hA := ?_) (hB := ?_)
   · intro l B' hA' hmd'; subst hac
     refine .region rfl ?_
     refine R.assign (h := ?_)
     refine .n0 ?_
     exact LGo.done (fun cx a w hr => ⟨rfl, cx, hr⟩)
   · intro l B' hA' hmd'; subst hbc
     refine LGo.unpack 2 (h := ?_)
     refine .block ?_
     refine .seq ?_
     refine .region rfl ?_
     refine R.move (h := ?_)
     first | refine R.len S44 (h := ?_) | refine R.lenRs S44 (h := ?_) | refine R.lenV (run_lenNil S44) (h := ?_)
     rw [bytesC_length]
     refine R.bin (run_eql _ _ _ _ _ _) (h := ?_)
     refine R.move (h := ?_)
     first | refine R.field F29_5 (h := ?_) | refine R.fieldAt F29_5 (h := ?_)
     first | refine R.loadB O27 (h := ?_) | refine R.load1 O27 (h := ?_)
     first | refine R.len S27 (h := ?_) | refine R.lenRs S27 (h := ?_) | refine R.lenV (run_lenNil S27) (h := ?_)
     rw [List.length_map]
     refine R.bin (run_lss _ _ _ _ _ _) (h := ?_)
     refine R.and (h := ?_)
     refine .n0 ?_
     refine LGo.ifb (ht := fun hc2 => ?_) (hf := fun hc2 => ?_)
     ·
      simp only [Bool.and_eq_true, decide_eq_true_eq] at hc2
      obtain ⟨b, v, rfl⟩ := two_of (c := c) (by omega)
      have hal : acc.length < 1000 := by omega
      have hb := b.toNat_lt
      have hv := v.toNat_lt
      rw [chStep_go hal, List.map_append]
      refine .region rfl ?_
      first | refine R.field F29_5 (h := ?_) | refine R.fieldAt F29_5 (h := ?_)
      first | refine R.loadB O27 (h := ?_) | refine R.load1 O27 (h := ?_)
      first | refine R.loadB O158 (h := ?_) | refine R.load1 O158 (h := ?_)
      refine R.move (h := ?_)
      refine R.index I44 (hj := fun hg => ⟨by omega, rfl⟩) (h := ?_)
      first | refine R.loadB O5 (h := ?_) | refine R.load1 O5 (h := ?_)
      first | refine R.convI Tryz.runUnderlying5 Tryz.runUnderlying3 (h := ?_) | refine R.convW Tryz.runUnderlying5 Tryz.runUnderlying3 (h := ?_)
      refine R.move (h := ?_)
      refine R.index I44 (hj := fun hg => ⟨by omega, rfl⟩) (h := ?_)
      first | refine R.loadB O5 (h := ?_) | refine R.load1 O5 (h := ?_)
      first | refine R.convI Tryz.runUnderlying5 Tryz.runUnderlying3 (h := ?_) | refine R.convW Tryz.runUnderlying5 Tryz.runUnderlying3 (h := ?_)
      refine R.callXS (es := [_, _, _, _]) [3] [(2, .box 29 (s.cO 9)), (9, .rs 58 3 (acc.map SrE.c))] (decoded_E s acc (by omega) hw ks b.toNat v.toNat hb hv) (h := ?_)
      refine R.buildSliceG AP27 (xs := [_]) (es := [_]) (hcs := CellsOfs.cons (CellsOf.agg rfl) CellsOfs.nil) (h := ?_)
      refine R.appendS AP27 (hs := SrcOk.sl Tryz.underlying27 (by simp; rfl)) (hlen := by simp; omega) (h := ?_)
      first | refine R.field F29_5 (h := ?_) | refine R.fieldAt F29_5 (h := ?_)
      refine R.storeB O27 (h := ?_)
      refine Reg.nil ⟨fun _ => ⟨mixedO, by rfl, by rfl⟩, ?_⟩
      refine .inBlock ?_
      refine LGo.pack 2 8 (h := ?_)
      refine LGo.drop 9 (fun o h => (hA' o).1 h) (by omega) [] ((8, .loop fn Tryz.f34.ntmps [(4, (true, .ptr 1 0)), (6, (true, .ptr 2 0)), (9, (true, .ptr 4 0)), (24, (true, .fn (.func 166) [] [.ptr 5 0, .ptr 6 0]))] #[25] ac _ .busy none) :: (7, .raw (.deferred (some []))) :: [(0, .box 29 (s.c.map LV.sv)), (1, .box 29 [.i 0, .i 0, .i 0, .v (.slice none 0 0), .t [], .v (.slice none 0 0), .i 0, .v (.slice none 0 0), .v (.slice none 0 0)]), (2, .bx 29 [.i s.ven.shards, .i s.ven.ttl, .i s.ven.session, .sv (.sl 3 (s.ven.secs.map VnS.c)), .t s.key, .sv (.sl 3 (s.gates.map GtG.c)), .i s.workers, .sv (.sl 11 (s.calls.map SrC.c)), .v undef] 8 58 3 (acc.map SrE.c ++ List.map SrE.c [(decE s ks b.toNat v.toNat)])), (3, .raw (mapOb encI (mB (nextK ks (decE s ks b.toNat v.toNat))))), (4, .box 158 [.ref 3]), (5, .box 44 [.sv (.sl 1 (bytesC raw))]), (6, .box 3 [.i 2])]) trivial (by repeat (first | exact trivial | refine ⟨rfl, ?_⟩)) (by simp) (by simp [LO.lt, LV.lts, LV.lt, lts_sv]) (h := ?_)
      refine LGo.done (RoundEnd.go rfl (fun o z hz hne => ?_) rfl)
      rcases o with _ | _ | _ | _ | _ | _ | _ | _ | _ | o <;> first | exact absurd rfl hne | exact hz
     ·
      rw [chStep_no (fun h => by rw [decide_eq_true (show (c.length : Int) = 2 by omega), decide_eq_true (show (acc.length : Int) < 1000 by omega)] at hc2; simp at hc2)]
      refine .skip ?_
      refine .inBlock ?_
      refine LGo.pack 2 8 (h := ?_)
      refine LGo.drop 9 (fun o h => (hA' o).1 h) (by omega) [] ((8, .loop fn Tryz.f34.ntmps [(4, (true, .ptr 1 0)), (6, (true, .ptr 2 0)), (9, (true, .ptr 4 0)), (24, (true, .fn (.func 166) [] [.ptr 5 0, .ptr 6 0]))] #[25] ac _ .busy none) :: (7, .raw (.deferred (some []))) :: [(0, .box 29 (s.c.map LV.sv)), (1, .box 29 [.i 0, .i 0, .i 0, .v (.slice none 0 0), .t [], .v (.slice none 0 0), .i 0, .v (.slice none 0 0), .v (.slice none 0 0)]), (2, .bx 29 [.i s.ven.shards, .i s.ven.ttl, .i s.ven.session, .sv (.sl 3 (s.ven.secs.map VnS.c)), .t s.key, .sv (.sl 3 (s.gates.map GtG.c)), .i s.workers, .sv (.sl 11 (s.calls.map SrC.c)), .v undef] 8 58 3 (acc.map SrE.c)), (3, .raw (mapOb encI (mB ks))), (4, .box 158 [.ref 3]), (5, .box 44 [.sv (.sl 1 (bytesC raw))]), (6, .box 3 [.i 2])]) trivial (by repeat (first | exact trivial | refine ⟨rfl, ?_⟩)) (by simp) (by simp [LO.lt, LV.lts, LV.lt, lts_sv]) (h := ?_)
      refine LGo.done (RoundEnd.go rfl (fun o z hz hne => ?_) rfl)
      rcases o with _ | _ | _ | _ | _ | _ | _ | _ | _ | o <;> first | exact absurd rfl hne | exact hz
  ·
   rw [chSt_end]
   refine LGo.frzBx 2 (h := ?_)
   refine .inBlock ?_
   refine .seq ?_
   refine .region rfl ?_
   first | refine R.loadA A29 (h := ?_) | refine R.loadN A29 (h := ?_) | refine R.loadP A29 (h := ?_)
   refine R.storeA A29 (h := ?_)
   refine R.assign (h := ?_)
   refine .n0 ?_
   exact LGo.ret (FnPost.mark (by rfl) (ret_AT Tryz.results34 A29 hA hmd))

end Go.Proofs.YteccglgbkehdeaaGreatDoor
/- scripts, the reference: Decode. -/
set_option linter.unusedSimpArgs false
set_option linter.unusedVariables false
namespace Go.Proofs.YteccglgbkehdeaaGreatDoor

theorem pairs_at : ∀ (l : List UInt8) (k : Nat), 2 * k + 1 < l.length → (pairsOf l)[k]? = some ((l.getD (2 * k) 0).toNat, (l.getD (2 * k + 1) 0).toNat)
  | [], k, h => by simp at h
  | [_], k, h => by simp at h
  | a :: b :: r, 0, _ => rfl
  | a :: b :: r, k + 1, h => by
    have ih := pairs_at r k (by simp at h; omega)
    rw [pairsOf, List.getElem?_cons_succ, ih]
    rfl
theorem decodedR_E (s : Sc) (acc : List SrE) (ks : List Int) (hk : ∀ a, ks.contains a = sentIn acc a) (hcl : s.calls.length ≤ 100000) (hel : acc.length ≤ 100000) (hw : 1 ≤ s.workers ∧ s.workers ≤ 8) (b v : Nat) (hb : b < 256) (hv : v < 256) :
    PC Tryz.prog 97 [.agg ((Sc.c { s with evs := acc }).map LV.sv), .i b, .i v] (.agg ((decE s ks b v).c.map LV.sv)) := by
  have h := decodedR_P { s with evs := acc } hcl hel hw b v hb hv
  have e : decB { s with evs := acc } (sentIn acc ((v % s.calls.length : Nat) : Int)) b v = decE s ks b v := by rw [← hk]; rfl
  rw [show decB { s with evs := acc } (sentIn ({ s with evs := acc } : Sc).evs ((v % ({ s with evs := acc } : Sc).calls.length : Nat) : Int)) b v = decE s ks b v from e] at h
  exact h

theorem decodeSR_P (s : Sc) (hs : s.sm) (raw : List UInt8) (hl : raw.length ≤ 100000) : PC Tryz.prog 35 [.agg (s.c.map LV.sv), .sv (.sl 1 (bytesC raw))] (.tup [.agg ((decodeS s raw).1.c.map LV.sv), .i (decodeS s raw).2]) := by
 refine ⟨LC.of_go Tryz.func35 (c := _) rfl (by kernel_rfl) (by rw [Tryz.ntmps35]; simp) rfl rfl (by simp [LO.lt, LV.lts, LV.lt, lts_sv]) (by simp) ?_⟩
 intro B hA hmd
 obtain ⟨g, e0⟩ : ∃ g, decodeS s raw = g := ⟨_, rfl⟩
 have e1 := e0
 unfold decodeS at e1
 rw [e0]
 refine .seq ?_
 refine .region rfl ?_
 refine R.box (h := ?_)
 refine R.alloc Z29 (h := ?_)
 refine R.assign (h := ?_)
 refine .n0 ?_
 refine .seq ?_
 refine .region rfl ?_
 first | refine R.field F29_5 (h := ?_) | refine R.fieldAt F29_5 (h := ?_)
 refine R.storeB O27 (h := ?_)
 refine .n0 ?_
 refine .seq ?_
 refine .region rfl ?_
 first | refine R.loadA A29 (h := ?_) | refine R.loadN A29 (h := ?_) | refine R.loadP A29 (h := ?_)
 refine R.callP (es := [_]) (fun _ => PC.nilEv (checkR_P { s with evs := [] } (hs.evs [] (Nat.zero_le _)))) (h := ?_)
 refine R.move (h := ?_)
 refine R.extract (h := ?_)
 refine R.extract (h := ?_)
 refine R.assign (h := ?_)
 refine R.assign (h := ?_)
 refine .n0 ?_
 refine .seq ?_
 refine .seq ?_
 refine .region rfl ?_
 refine R.move (h := ?_)
 refine R.bin (run_neq _ _ _ _ _ _) (h := ?_)
 refine .n0 ?_
 refine LGo.ifb (ht := fun hc => ?_) (hf := fun hc => ?_)
 ·
  rw [if_pos (by simpa using hc)] at e1
  rw [← e1]
  refine .seq ?_
  refine .region rfl ?_
  refine R.buildG BG29 (is := []) (ks := []) (xs := []) (es := []) (h := ?_)
  refine R.move (h := ?_)
  refine R.storeA A29 (h := ?_)
  refine R.assign (h := ?_)
  refine .n0 ?_
  refine LGo.packNil 1 3 80 3 (h := ?_)
  refine LGo.frzBx 1 (h := ?_)
  refine LGo.packNil 1 5 71 3 (h := ?_)
  refine LGo.frzBx 1 (h := ?_)
  refine LGo.packNil 1 7 40 11 (h := ?_)
  refine LGo.frzBx 1 (h := ?_)
  refine LGo.packNil 1 8 58 3 (h := ?_)
  refine LGo.frzBx 1 (h := ?_)
  exact LGo.ret (ret_AT Tryz.results35 A29 hA hmd)
 ·
  have hc0 : (checkS { s with evs := [] }).2 = 0 := by simpa using hc
  rw [if_neg (by simp [hc0])] at e1
  have hb0 : (baseS s).2 = 0 := (check_facts hc0).1
  have hw := base_w hb0
  have hcl := base_cl hb0
  rw [← e1]
  have hpl := pairs_len raw
  obtain ⟨F, hF⟩ : ∃ F, decL s [] ((pairsOf raw).take 1000) = F := ⟨_, rfl⟩
  rw [hF]
  refine .skip ?_
  refine .seq ?_
  refine .seq ?_
  refine .region rfl ?_
  refine R.assign (h := ?_)
  refine .n0 ?_
  refine .block ?_
  refine .loop ?_
  refine LGo.packNil 0 8 58 3 (h := ?_)
  refine LGo.unpack 0 (h := ?_)
  refine LGo.loopG (σ := Nat × List SrE × List Int) (fun x => x.1 ≤ 1000 ∧ x.2.1.length = x.1 ∧ (∀ a, x.2.2.contains a = sentIn x.2.1 a) ∧ x.2.1 ++ decL s x.2.2 (((pairsOf raw).take 1000).drop x.1) = F) (fun x => [(8, (true, .i ((2 * x.1 : Nat) : Int)))]) (fun x => [(0, .box 29 (s.cO 2)), (1, .box 29 [.i 0, .i 0, .i 0, .v (.slice none 0 0), .t [], .v (.slice none 0 0), .i 0, .v (.slice none 0 0), .v (.slice none 0 0)]), (2, .rs 58 3 (x.2.1.map SrE.c))]) (fun x => 1000 - x.1) (0, [], []) [(1, _), (2, _), (4, _)] ⟨Nat.zero_le _, rfl, fun _ => rfl, hF⟩ (by repeat (first | exact trivial | refine ⟨rfl, ?_⟩)) (by repeat (first | exact trivial | refine ⟨rfl, ?_⟩)) (by repeat (first | exact trivial | refine ⟨rfl, ?_⟩)) ?_
  rintro ⟨k, acc, ks⟩ ⟨hk, hal, hks, hq⟩ ih
  dsimp only at * 
  refine .seq ?_
  refine .seq ?_
  refine .region rfl ?_
  refine R.move (h := ?_)
  first | refine R.add (h := ?_) | refine R.addW (h := ?_)
  rw [show ((2 * k : Nat) : Int) + 1 = ((2 * k + 1 : Nat) : Int) from by omega]
  refine R.move (h := ?_)
  first | refine R.len S44 (h := ?_) | refine R.lenRs S44 (h := ?_) | refine R.lenV (run_lenNil S44) (h := ?_)
  rw [bytesC_length]
  refine R.bin (run_lss _ _ _ _ _ _) (h := ?_)
  refine R.move (h := ?_)
  refine R.move (h := ?_)
  refine R.bin (run_lss _ _ _ _ _ _) (h := ?_)
  refine R.and (h := ?_)
  refine .n0 ?_
  refine LGo.ifb (ht := fun hc2 => ?_) (hf := fun hc2 => ?_)
  ·
   simp only [Bool.and_eq_true, decide_eq_true_eq] at hc2
   have hkl : 2 * k + 1 < raw.length := by omega
   have hx : (bytesC raw)[((2 * k : Nat) : Int).toNat]? = some [.val (.int .u8 ((raw.getD (2 * k) 0).toNat : Int))] := bytes_getD (by omega)
   have hy : (bytesC raw)[((2 * k + 1 : Nat) : Int).toNat]? = some [.val (.int .u8 ((raw.getD (2 * k + 1) 0).toNat : Int))] := bytes_getD hkl
   have hp := pairs_at raw k hkl
   generalize raw.getD (2 * k) 0 = b at hx hp
   generalize raw.getD (2 * k + 1) 0 = v at hy hp
   have hd : ((pairsOf raw).take 1000).drop k = (b.toNat, v.toNat) :: ((pairsOf raw).take 1000).drop (k + 1) := by
     have hlt : k < ((pairsOf raw).take 1000).length := by rw [List.length_take]; omega
     rw [List.drop_eq_getElem_cons hlt, List.getElem_take]
     obtain ⟨h1, h2⟩ := List.getElem?_eq_some_iff.1 hp
     rw [h2]
   rw [hd, decL] at hq
   have hb := b.toNat_lt
   have hv := v.toNat_lt
   refine .skip ?_
   refine .seq ?_
   refine .block ?_
   refine .region rfl ?_
   first | refine R.field F29_5 (h := ?_) | refine R.fieldAt F29_5 (h := ?_)
   first | refine R.loadB O27 (h := ?_) | refine R.load1 O27 (h := ?_)
   first | refine R.loadA A29 (h := ?_) | refine R.loadN A29 (h := ?_) | refine R.loadP A29 (h := ?_)
   refine R.move (h := ?_)
   refine R.move (h := ?_)
   refine R.index I44 (hj := fun hg => ⟨by omega, hx⟩) (h := ?_)
   first | refine R.loadB O5 (h := ?_) | refine R.load1 O5 (h := ?_)
   first | refine R.convI Tryz.runUnderlying5 Tryz.runUnderlying3 (h := ?_) | refine R.convW Tryz.runUnderlying5 Tryz.runUnderlying3 (h := ?_)
   refine R.move (h := ?_)
   refine R.move (h := ?_)
   first | refine R.add (h := ?_) | refine R.addW (h := ?_)
   rw [show ((2 * k : Nat) : Int) + 1 = ((2 * k + 1 : Nat) : Int) from by omega]
   refine R.index I44 (hj := fun hg => ⟨by omega, hy⟩) (h := ?_)
   first | refine R.loadB O5 (h := ?_) | refine R.load1 O5 (h := ?_)
   first | refine R.convI Tryz.runUnderlying5 Tryz.runUnderlying3 (h := ?_) | refine R.convW Tryz.runUnderlying5 Tryz.runUnderlying3 (h := ?_)
   refine R.callVA (es := [_, _, _]) (lvs := [.agg ((Sc.c { s with evs := acc }).map LV.sv), .i b.toNat, .i v.toNat]) (rd := [(2, .rs 58 3 (acc.map SrE.c))]) (fun _ => decodedR_E s acc ks hks (by omega) (by omega) hw b.toNat v.toNat hb hv) (hrd := oneL rfl) (h := ?_)
   refine R.buildSliceG AP27 (xs := [_]) (es := [_]) (hcs := CellsOfs.cons (CellsOf.agg rfl) CellsOfs.nil) (h := ?_)
   refine R.appendS AP27 (hs := SrcOk.sl Tryz.underlying27 (by simp; rfl)) (hlen := by simp; omega) (h := ?_)
   first | refine R.field F29_5 (h := ?_) | refine R.fieldAt F29_5 (h := ?_)
   refine R.storeB O27 (h := ?_)
   refine Reg.nil ⟨fun _ => ⟨mixedO, by rfl, by rfl⟩, ?_⟩
   refine .inBlock ?_
   refine .region rfl ?_
   refine R.move (h := ?_)
   first | refine R.add (h := ?_) | refine R.addW (h := ?_)
   rw [show ((2 * k : Nat) : Int) + 2 = ((2 * (k + 1) : Nat) : Int) from by omega]
   refine R.assign (h := ?_)
   refine .n0 ?_
   refine .inLoop ?_
   exact LGo.turn [0, 1, 3] (b := 0) (fun o h => by have := (hA o).1 h; omega) (ih (k + 1, acc ++ [(decE s ks b.toNat v.toNat)], nextK ks (decE s ks b.toNat v.toNat)) ⟨by dsimp only; omega, by dsimp only; rw [List.length_append, hal]; rfl, keys_step hks _, by dsimp only; rw [List.append_assoc]; exact hq⟩ (by dsimp only; omega)) (by repeat (first | exact trivial | refine ⟨rfl, ?_⟩)) ⟨rfl, rfl, by rw [List.map_append]; rfl, trivial⟩
  ·
   rw [List.drop_eq_nil_of_le (show ((pairsOf raw).take 1000).length ≤ k by rw [List.length_take]; simp only [Bool.and_eq_false_iff, decide_eq_false_iff_not] at hc2; omega), decL, List.append_nil] at hq
   subst hq
   refine .exit rfl ?_
   refine .seq ?_
   refine .region rfl ?_
   first | refine R.loadA A29 (h := ?_) | refine R.loadN A29 (h := ?_) | refine R.loadP A29 (h := ?_)
   refine R.storeA A29 (h := ?_)
   refine R.assign (h := ?_)
   refine .n0 ?_
   refine LGo.pack 1 8 (h := ?_)
   refine LGo.frzBx 1 (h := ?_)
   exact LGo.ret (ret_AT Tryz.results35 A29 hA hmd)

end Go.Proofs.YteccglgbkehdeaaGreatDoor
/- scripts: the laws ScriptDecodes, ScriptLong (walks). -/
set_option linter.unusedSimpArgs false
set_option linter.unusedVariables false
namespace Go.Proofs.YteccglgbkehdeaaGreatDoor

theorem decode_is {s : Sc} {raw : List UInt8} (h : (decodeS s raw).2 = 0) : (decodeS s raw).1 = { s with evs := decL s [] ((pairsOf raw).take 1000) } := by
  unfold decodeS at h ⊢
  split at h
  · rename_i h1; exact absurd h h1
  · rename_i h1; rw [if_neg h1]
theorem decL_1000 (s : Sc) (raw : List UInt8) : (decL s [] ((pairsOf raw).take 1000)).length ≤ 1000 := by rw [decL_len, List.length_take]; omega
theorem decode_sm2 {s : Sc} (h : s.sm2) (raw : List UInt8) : (decodeS s raw).1.sm2 := by
  unfold decodeS
  split
  · exact zero_sm2
  · exact h.evs _ (by have := decL_1000 s raw; omega)
theorem decode_sm {s : Sc} (h : s.sm) {raw : List UInt8} (h0 : (decodeS s raw).2 = 0) : (decodeS s raw).1.sm := by
  rw [decode_is h0]
  exact h.evs _ (by have := decL_1000 s raw; unfold maxLen; omega)
theorem check_T {s : Sc} (h : (checkS s).2 = 0) : checkS s = ([], 0) := by
  have : (checkS s).1 = [] := by
    unfold checkS at h ⊢
    split at h
    · rename_i h1; exact absurd h h1
    · rename_i h1
      rw [if_neg h1]
      split at h
      · cases h
      · rename_i h2
        rw [if_neg h2]
        exact chkGo_okT _ _ _ h
  exact Prod.ext this h
theorem decode_chk {s : Sc} {raw : List UInt8} (h : (decodeS s raw).2 = 0) : checkS (decodeS s raw).1 = ([], 0) := check_T (decode_check raw h (fun hb => (base_w (s := s) hb).1) (fun _ => rfl))

theorem decodes_W (s : Sc) (hok : s.ok) (a : List UInt8) (hal : a.length ≤ maxLen) (b : List UInt8) (hbl : b.length ≤ maxLen) : PC Tryz.prog 9 [.agg (s.c.map LV.sv), .sv (.sl 1 (bytesC a)), .sv (.sl 1 (bytesC b))] (.b true) := by
 refine ⟨LC.of_go Tryz.func9 (c := _) rfl (by kernel_rfl) (by rw [Tryz.ntmps9]; simp) rfl rfl (by simp [LO.lt, LV.lts, LV.lt, lts_sv]) (by simp) ?_⟩
 intro B hA hmd
 unfold maxLen at hal hbl
 obtain ⟨⟨D, e⟩, hD⟩ : ∃ p, decodeS s a = p := ⟨_, rfl⟩
 obtain ⟨⟨U, f⟩, hU⟩ : ∃ p, decodeS s (a.take (a.length / 2 * 2) ++ b) = p := ⟨_, rfl⟩
 refine .seq ?_
 refine .region rfl ?_
 refine R.box (h := ?_)
 refine R.assign (h := ?_)
 refine .n0 ?_
 refine .seq ?_
 refine .seq ?_
 refine .region rfl ?_
 first | refine R.loadA A29 (h := ?_) | refine R.loadN A29 (h := ?_) | refine R.loadP A29 (h := ?_)
 refine R.callP (es := [_]) (fun _ => far_P s hok) (h := ?_)
 refine R.move (h := ?_)
 refine R.move (h := ?_)
 first | refine R.len S44 (h := ?_) | refine R.lenRs S44 (h := ?_) | refine R.lenV (run_lenNil S44) (h := ?_)
 rw [bytesC_length]
 refine R.bin (run_gtr _ _ _ _ _ _) (h := ?_)
 refine R.or (h := ?_)
 refine R.move (h := ?_)
 refine R.move (h := ?_)
 first | refine R.len S44 (h := ?_) | refine R.lenRs S44 (h := ?_) | refine R.lenV (run_lenNil S44) (h := ?_)
 rw [bytesC_length]
 refine R.bin (run_gtr _ _ _ _ _ _) (h := ?_)
 refine R.or (h := ?_)
 refine .n0 ?_
 refine LGo.ifb (ht := fun hc => ?_) (hf := fun hc => ?_)
 ·
  refine .seq ?_
  refine .region rfl ?_
  refine R.callP (es := []) (fun _ => awake_P) (h := ?_)
  refine R.assign (h := ?_)
  refine .n0 ?_
  exact LGo.ret (ret_T Tryz.results9 hA hmd)
 ·
  simp only [Bool.or_eq_false_iff, decide_eq_false_iff_not] at hc
  obtain ⟨⟨hc, ha1⟩, hb1⟩ := hc
  have hn := far_near hc
  have hs := hok.sm hn
  have h2 := hn.sm2
  have hL := decodeS_P s hs hn.cp a (by omega)
  have hR := decodeSR_P s hs a (by omega)
  have hDs := decode_sm2 h2 a
  rw [hD] at hL hR hDs
  dsimp only at hL hR hDs
  have hLU := decodeS_P s hs hn.cp (a.take (a.length / 2 * 2) ++ b) (by rw [List.length_append, List.length_take]; omega)
  rw [hU] at hLU
  dsimp only at hLU
  refine .skip ?_
  refine .seq ?_
  refine .region rfl ?_
  first | refine R.loadA A29 (h := ?_) | refine R.loadN A29 (h := ?_) | refine R.loadP A29 (h := ?_)
  refine R.move (h := ?_)
  refine R.callP (es := [_, _]) (fun _ => hL) (h := ?_)
  refine R.move (h := ?_)
  refine R.extract (h := ?_)
  refine R.extract (h := ?_)
  refine R.alloc Z29 (h := ?_)
  refine R.storeA A29 (h := ?_)
  refine R.assign (h := ?_)
  refine .n0 ?_
  refine .seq ?_
  refine .region rfl ?_
  first | refine R.loadA A29 (h := ?_) | refine R.loadN A29 (h := ?_) | refine R.loadP A29 (h := ?_)
  refine R.move (h := ?_)
  refine R.callP (es := [_, _]) (fun _ => hR) (h := ?_)
  refine R.move (h := ?_)
  refine R.extract (h := ?_)
  refine R.extract (h := ?_)
  refine R.alloc Z29 (h := ?_)
  refine R.storeA A29 (h := ?_)
  refine R.assign (h := ?_)
  refine .n0 ?_
  refine .seq ?_
  refine .seq ?_
  refine .region rfl ?_
  refine R.move (h := ?_)
  refine R.move (h := ?_)
  refine R.bin (run_neq _ _ _ _ _ _) (h := ?_)
  refine R.move (h := ?_)
  first | refine R.loadA A29 (h := ?_) | refine R.loadN A29 (h := ?_) | refine R.loadP A29 (h := ?_)
  first | refine R.loadA A29 (h := ?_) | refine R.loadN A29 (h := ?_) | refine R.loadP A29 (h := ?_)
  refine R.callP (es := [_, _]) (fun _ => sameRT hDs) (h := ?_)
  refine R.not (h := ?_)
  refine R.or (h := ?_)
  refine .n0 ?_
  refine LGo.eqB 47 false (hb := by simp) (h := ?_)
  refine LGo.ifb (ht := fun hc2 => by simp at hc2) (hf := fun hc2 => ?_)
  refine .skip ?_
  refine .seq ?_
  refine .seq ?_
  refine .region rfl ?_
  refine R.move (h := ?_)
  refine R.bin (run_neq _ _ _ _ _ _) (h := ?_)
  refine .n0 ?_
  refine LGo.ifb (ht := fun hc3 => ?_) (hf := fun hc3 => ?_)
  ·
   refine .seq ?_
   refine .region rfl ?_
   refine R.callP (es := []) (fun _ => awake_P) (h := ?_)
   refine R.assign (h := ?_)
   refine .n0 ?_
   exact LGo.ret (ret_T Tryz.results9 hA hmd)
  ·
   obtain rfl : e = 0 := by simpa using hc3
   have h0 : (decodeS s a).2 = 0 := by rw [hD]
   have hDm := decode_sm hs h0
   have hDc := decode_chk h0
   have hf0 := decode_err (raw' := a.take (a.length / 2 * 2) ++ b) h0
   obtain ⟨hl1, m, hml, hm⟩ := decode_pre (b := b) (by omega) (by omega) h0
   rw [hD] at hDm hDc hl1 hm
   rw [hU] at hf0 hm
   dsimp only at hDm hDc hl1 hm hf0
   subst hf0
   have hul : U.evs.length = a.length / 2 + b.length / 2 := by rw [hm, List.length_append, hl1, hml]
   refine .skip ?_
   refine .seq ?_
   refine .region rfl ?_
   first | refine R.loadA A29 (h := ?_) | refine R.loadN A29 (h := ?_) | refine R.loadP A29 (h := ?_)
   refine R.callP (es := [_]) (fun _ => checkS_P D hDm) (h := ?_)
   rw [hDc]
   refine R.move (h := ?_)
   refine R.extract (h := ?_)
   refine R.extract (h := ?_)
   refine R.assign (h := ?_)
   refine R.assign (h := ?_)
   refine .n0 ?_
   refine .seq ?_
   refine .seq ?_
   refine .region rfl ?_
   refine R.move (h := ?_)
   refine R.bin (run_neqT _ _ _ _ _) (h := ?_)
   refine R.move (h := ?_)
   refine R.move (h := ?_)
   refine R.bin (run_neq _ _ _ _ _ _) (h := ?_)
   refine R.or (h := ?_)
   refine R.move (h := ?_)
   first | refine R.field F29_5 (h := ?_) | refine R.fieldAt F29_5 (h := ?_)
   first | refine R.loadB O27 (h := ?_) | refine R.load1 O27 (h := ?_)
   first | refine R.len S27 (h := ?_) | refine R.lenRs S27 (h := ?_) | refine R.lenV (run_lenNil S27) (h := ?_)
   rw [List.length_map]
   refine R.move (h := ?_)
   first | refine R.len S44 (h := ?_) | refine R.lenRs S44 (h := ?_) | refine R.lenV (run_lenNil S44) (h := ?_)
   rw [bytesC_length]
   refine R.quo (h := ?_)
   refine R.bin (run_neq _ _ _ _ _ _) (h := ?_)
   refine R.or (h := ?_)
   refine .n0 ?_
   refine LGo.eqB 70 false (hb := by rw [hl1]; simp) (h := ?_)
   refine LGo.ifb (ht := fun hc4 => by simp at hc4) (hf := fun hc4 => ?_)
   refine .skip ?_
   refine .seq ?_
   refine .region rfl ?_
   first | refine R.loadA A29 (h := ?_) | refine R.loadN A29 (h := ?_) | refine R.loadP A29 (h := ?_)
   refine R.buildSliceR AP44 (xs := []) (es := []) (hcs := CellsOfs.nil) (h := ?_)
   refine R.move (h := ?_)
   refine R.move (h := ?_)
   first | refine R.len S44 (h := ?_) | refine R.lenRs S44 (h := ?_) | refine R.lenV (run_lenNil S44) (h := ?_)
   rw [bytesC_length]
   refine R.quo (h := ?_)
   first | refine R.mul (h := ?_) | refine R.mulW (h := ?_)
   rw [show (a.length : Int) / 2 * 2 = ((a.length / 2 * 2 : Nat) : Int) from by omega]
   refine R.sliceHi SF44 (ha := fun _ => by rw [bytesC_length]; omega) (h := ?_)
   rw [Int.toNat_natCast]
   refine R.appendS AP44 (hs := SrcOk.sl Tryz.underlying44 (fun e he => bytesC_one _ e (List.mem_of_mem_take he))) (hlen := by simp; rw [bytesC_length]; omega) (h := ?_)
   refine R.move (h := ?_)
   refine R.appendF AP44 (hs := SrcOk.sl Tryz.underlying44 (bytesC_one _)) (hlen := by simp; rw [bytesC_length, bytesC_length]; omega) (h := ?_)
   rw [show ([] ++ (bytesC a).take (a.length / 2 * 2) ++ bytesC b) = bytesC (a.take (a.length / 2 * 2) ++ b) from by unfold bytesC; rw [List.nil_append, List.map_append, List.map_take]]
   refine R.callP (es := [_, _]) (fun _ => hLU) (h := ?_)
   refine R.move (h := ?_)
   refine R.extract (h := ?_)
   refine R.extract (h := ?_)
   refine R.alloc Z29 (h := ?_)
   refine R.storeA A29 (h := ?_)
   refine R.assign (h := ?_)
   refine Reg.nil ⟨fun _ => ⟨mixedO, by rfl, by rfl⟩, ?_⟩
   refine .seq ?_
   refine .seq ?_
   refine .region rfl ?_
   refine R.move (h := ?_)
   refine R.bin (run_neq _ _ _ _ _ _) (h := ?_)
   refine R.move (h := ?_)
   first | refine R.field F29_5 (h := ?_) | refine R.fieldAt F29_5 (h := ?_)
   first | refine R.loadB O27 (h := ?_) | refine R.load1 O27 (h := ?_)
   first | refine R.len S27 (h := ?_) | refine R.lenRs S27 (h := ?_) | refine R.lenV (run_lenNil S27) (h := ?_)
   rw [List.length_map]
   refine R.move (h := ?_)
   first | refine R.len S44 (h := ?_) | refine R.lenRs S44 (h := ?_) | refine R.lenV (run_lenNil S44) (h := ?_)
   rw [bytesC_length]
   refine R.quo (h := ?_)
   refine R.move (h := ?_)
   first | refine R.len S44 (h := ?_) | refine R.lenRs S44 (h := ?_) | refine R.lenV (run_lenNil S44) (h := ?_)
   rw [bytesC_length]
   refine R.quo (h := ?_)
   first | refine R.add (h := ?_) | refine R.addW (h := ?_)
   refine R.bin (run_neq _ _ _ _ _ _) (h := ?_)
   refine R.or (h := ?_)
   refine .n0 ?_
   refine LGo.eqB 100 false (hb := by rw [hul]; simp) (h := ?_)
   refine LGo.ifb (ht := fun hc5 => by simp at hc5) (hf := fun hc5 => ?_)
   refine .skip ?_
   refine .seq ?_
   refine .seq ?_
   refine .region rfl ?_
   refine R.assign (h := ?_)
   refine .n0 ?_
   refine .block ?_
   refine .loop ?_
   refine LGo.loopG (σ := Nat) (fun x => x ≤ D.evs.length) (fun x => [(13, (true, .i (x : Nat)))]) (fun x => [(1, .box 29 (D.c.map LV.sv)), (6, .box 29 (U.c.map LV.sv))]) (fun x => D.evs.length - x) (0) [(7, _), (12, _)] (Nat.zero_le _) (by repeat (first | exact trivial | refine ⟨rfl, ?_⟩)) (by repeat (first | exact trivial | refine ⟨rfl, ?_⟩)) (by repeat (first | exact trivial | refine ⟨rfl, ?_⟩)) ?_
   rintro k hk ih
   refine .seq ?_
   refine .seq ?_
   refine .region rfl ?_
   refine R.move (h := ?_)
   first | refine R.field F29_5 (h := ?_) | refine R.fieldAt F29_5 (h := ?_)
   first | refine R.loadB O27 (h := ?_) | refine R.load1 O27 (h := ?_)
   first | refine R.len S27 (h := ?_) | refine R.lenRs S27 (h := ?_) | refine R.lenV (run_lenNil S27) (h := ?_)
   rw [List.length_map]
   refine R.bin (run_lss _ _ _ _ _ _) (h := ?_)
   refine .n0 ?_
   refine LGo.ifd (ht := fun hc6 => ?_) (hf := fun hc6 => ?_)
   ·
    have hlt : k < D.evs.length := by omega
    have hx : (D.evs.map SrE.c)[((k : Nat) : Int).toNat]? = some D.evs[k].c := by simp [hlt]
    have hy : (U.evs.map SrE.c)[((k : Nat) : Int).toNat]? = some D.evs[k].c := by rw [hm, List.map_append, Int.toNat_natCast, List.getElem?_append_left (by rw [List.length_map]; exact hlt)]; simp [hlt]
    generalize D.evs[k] = z at hx hy
    refine .skip ?_
    refine .seq ?_
    refine .block ?_
    refine .seq ?_
    refine .region rfl ?_
    first | refine R.field F29_5 (h := ?_) | refine R.fieldAt F29_5 (h := ?_)
    first | refine R.loadB O27 (h := ?_) | refine R.load1 O27 (h := ?_)
    refine R.move (h := ?_)
    refine R.index I27 (hj := fun hg => ⟨by omega, hx⟩) (h := ?_)
    first | refine R.loadA A58 (h := ?_) | refine R.loadN A58 (h := ?_) | refine R.loadP A58 (h := ?_)
    first | refine R.field F29_5 (h := ?_) | refine R.fieldAt F29_5 (h := ?_)
    first | refine R.loadB O27 (h := ?_) | refine R.load1 O27 (h := ?_)
    refine R.move (h := ?_)
    refine R.index I27 (hj := fun hg => ⟨by omega, hy⟩) (h := ?_)
    first | refine R.loadA A58 (h := ?_) | refine R.loadN A58 (h := ?_) | refine R.loadP A58 (h := ?_)
    refine R.binA (NE58 _ _ _ _ _ _ _ _) (h := ?_)
    rw [srE_ne, decide_eq_false (show ¬ z ≠ z from fun h => h rfl)]
    refine Reg.nil ⟨fun _ => ⟨mixedO, by rfl, by rfl⟩, ?_⟩
    refine LGo.ifb (ht := fun hc7 => by simp at hc7) (hf := fun hc7 => ?_)
    refine .skip ?_
    refine .inBlock ?_
    refine .region rfl ?_
    refine R.move (h := ?_)
    first | refine R.add (h := ?_) | refine R.addW (h := ?_)
    refine R.assign (h := ?_)
    refine .n0 ?_
    refine .inLoop ?_
    exact LGo.next _ (fun o h => by have := (hA o).1 h; omega) (by omega) (ih (k + 1) (by omega) (by omega)) (by repeat (first | exact trivial | refine ⟨rfl, ?_⟩)) ⟨rfl, rfl, trivial⟩
   ·
    refine .exit rfl ?_
    refine .seq ?_
    refine .region rfl ?_
    refine R.callP (es := []) (fun _ => awake_P) (h := ?_)
    refine R.assign (h := ?_)
    refine .n0 ?_
    exact LGo.ret (ret_T Tryz.results9 hA hmd)

theorem ex_nil : (checkS { exSc with evs := [] }).2 = 0 := by decide +kernel
theorem ex_dec (raw : List UInt8) : (decodeS exSc raw).2 = 0 := by unfold decodeS; rw [if_neg (by simp [ex_nil])]
theorem rep_succ (b v : UInt8) (k : Nat) : (List.replicate (k + 1) [b, v]).flatten = (List.replicate k [b, v]).flatten ++ [b, v] := by rw [List.replicate_succ', List.flatten_append]; simp
theorem rep_len (b v : UInt8) : ∀ k : Nat, (List.replicate k [b, v]).flatten.length = 2 * k
  | 0 => rfl
  | k + 1 => by rw [rep_succ, List.length_append, rep_len b v k, List.length_cons, List.length_cons, List.length_nil]; omega

theorem long_W (b v more : Int) (hb : 0 ≤ b ∧ b ≤ 255) (hv : 0 ≤ v ∧ v ≤ 255) (hm : 0 ≤ more ∧ more ≤ 65535) : PC Tryz.prog 10 [.v (.int .u8 b), .v (.int .u8 v), .v (.int .u16 more)] (.b true) := by
 refine ⟨LC.of_go Tryz.func10 (c := _) rfl (by kernel_rfl) (by rw [Tryz.ntmps10]; simp) rfl rfl (by simp [LO.lt, LV.lts, LV.lt, lts_sv]) (by simp) ?_⟩
 intro B hA hmd
 obtain ⟨b, rfl⟩ : ∃ x : UInt8, b = (x.toNat : Int) := ⟨byt b, (byt_toNat b hb.1 (by omega)).symm⟩
 obtain ⟨v, rfl⟩ : ∃ x : UInt8, v = (x.toNat : Int) := ⟨byt v, (byt_toNat v hv.1 (by omega)).symm⟩
 obtain ⟨N, hN⟩ : ∃ N : Nat, 990 + more % 30 = N := ⟨(990 + more % 30).toNat, by omega⟩
 refine .seq ?_
 refine .region rfl ?_
 refine R.assign (h := ?_)
 refine .n0 ?_
 refine .seq ?_
 refine .region rfl ?_
 refine R.move (h := ?_)
 first | refine R.convI Tryz.runUnderlying75 Tryz.runUnderlying3 (h := ?_) | refine R.convW Tryz.runUnderlying75 Tryz.runUnderlying3 (h := ?_)
 refine R.rem (h := ?_)
 first | refine R.add (h := ?_) | refine R.addW (h := ?_)
 rw [hN]
 refine R.assign (h := ?_)
 refine .n0 ?_
 refine .seq ?_
 refine .region rfl ?_
 refine R.assign (h := ?_)
 refine .n0 ?_
 refine .seq ?_
 refine .seq ?_
 refine .region rfl ?_
 refine R.assign (h := ?_)
 refine .n0 ?_
 refine .block ?_
 refine .loop ?_
 refine LGo.nilRs 8 5 1 (h := ?_)
 refine LGo.loopG (σ := Nat) (fun x => x ≤ N) (fun x => [(9, (true, .i (x : Nat))), (8, (true, .ref 0))]) (fun x => [(0, .rs 5 1 (bytesC (List.replicate x [b, v]).flatten))]) (fun x => N - x) (0) [(0, _), (1, _), (7, _)] (Nat.zero_le _) (by repeat (first | exact trivial | refine ⟨rfl, ?_⟩)) (by repeat (first | exact trivial | refine ⟨rfl, ?_⟩)) (by repeat (first | exact trivial | refine ⟨rfl, ?_⟩)) ?_
 rintro k hk ih
 have hrl := rep_len b v k
 refine .seq ?_
 refine .seq ?_
 refine .region rfl ?_
 refine R.move (h := ?_)
 refine R.move (h := ?_)
 refine R.bin (run_lss _ _ _ _ _ _) (h := ?_)
 refine .n0 ?_
 refine LGo.ifd (ht := fun hc => ?_) (hf := fun hc => ?_)
 ·
  refine .skip ?_
  refine .seq ?_
  refine .block ?_
  refine .region rfl ?_
  refine R.move (h := ?_)
  refine R.move (h := ?_)
  refine R.move (h := ?_)
  refine R.buildSliceG AP44 (xs := [_, _]) (es := [_, _]) (hcs := CellsOfs.cons (CellsOf.one rfl) (CellsOfs.cons (CellsOf.one rfl) CellsOfs.nil)) (h := ?_)
  refine R.appendS AP44 (hs := SrcOk.sl Tryz.underlying44 (by simp)) (hlen := by rw [bytesC_length]; simp; omega) (h := ?_)
  refine R.assign (h := ?_)
  refine .n0 ?_
  refine .inBlock ?_
  refine .region rfl ?_
  refine R.move (h := ?_)
  first | refine R.add (h := ?_) | refine R.addW (h := ?_)
  refine R.assign (h := ?_)
  refine .n0 ?_
  refine .inLoop ?_
  exact LGo.turn [1] (b := 0) (fun o h => by have := (hA o).1 h; omega) (ih (k + 1) (by omega) (by omega)) (by repeat (first | exact trivial | refine ⟨rfl, ?_⟩)) ⟨by rw [rep_succ]; unfold bytesC; rw [List.map_append]; rfl, trivial⟩
 ·
  obtain rfl : k = N := by omega
  refine LGo.frz 0 (h := ?_)
  have hL := decodeS_P exSc exSc_sm exSc_cp (List.replicate k [b, v]).flatten (by omega)
  have h0 := ex_dec (List.replicate k [b, v]).flatten
  have hDm := decode_sm exSc_sm h0
  have hDc := decode_chk h0
  have hlen : (decodeS exSc (List.replicate k [b, v]).flatten).1.evs.length = min k 1000 := by rw [decode_evs h0, decL_len, List.length_take, rep_pairs, List.length_replicate]; omega
  obtain ⟨⟨D, e⟩, hD⟩ : ∃ p, decodeS exSc (List.replicate k [b, v]).flatten = p := ⟨_, rfl⟩
  rw [hD] at hL h0 hDm hDc hlen
  dsimp only at hL h0 hDm hDc hlen
  subst h0
  refine .exit rfl ?_
  refine .seq ?_
  refine .region rfl ?_
  refine R.callP (es := []) (fun _ => exSc_P) (h := ?_)
  refine R.move (h := ?_)
  refine R.callP (es := [_, _]) (fun _ => hL) (h := ?_)
  refine R.move (h := ?_)
  refine R.extract (h := ?_)
  refine R.extract (h := ?_)
  refine R.alloc Z29 (h := ?_)
  refine R.storeA A29 (h := ?_)
  refine R.assign (h := ?_)
  refine .n0 ?_
  refine .seq ?_
  refine .region rfl ?_
  first | refine R.loadA A29 (h := ?_) | refine R.loadN A29 (h := ?_) | refine R.loadP A29 (h := ?_)
  refine R.callP (es := [_]) (fun _ => checkS_P D hDm) (h := ?_)
  rw [hDc]
  refine R.move (h := ?_)
  refine R.extract (h := ?_)
  refine R.extract (h := ?_)
  refine R.assign (h := ?_)
  refine R.assign (h := ?_)
  refine .n0 ?_
  refine .seq ?_
  refine .region rfl ?_
  refine R.move (h := ?_)
  refine R.bin (run_eql _ _ _ _ _ _) (h := ?_)
  refine R.move (h := ?_)
  refine R.move (h := ?_)
  refine R.bin (run_eql _ _ _ _ _ _) (h := ?_)
  refine R.and (h := ?_)
  refine R.move (h := ?_)
  refine R.move (h := ?_)
  refine R.bin (run_eqlT _ _ _ _ _) (h := ?_)
  refine R.and (h := ?_)
  refine R.move (h := ?_)
  first | refine R.field F29_5 (h := ?_) | refine R.fieldAt F29_5 (h := ?_)
  first | refine R.loadB O27 (h := ?_) | refine R.load1 O27 (h := ?_)
  first | refine R.len S27 (h := ?_) | refine R.lenRs S27 (h := ?_) | refine R.lenV (run_lenNil S27) (h := ?_)
  rw [List.length_map]
  refine R.move (h := ?_)
  refine R.minI (h := ?_)
  refine R.bin (run_eql _ _ _ _ _ _) (h := ?_)
  refine R.and (h := ?_)
  refine R.move (h := ?_)
  refine R.callP (es := []) (fun _ => awake_P) (h := ?_)
  refine R.and (h := ?_)
  refine R.assign (h := ?_)
  refine .n0 ?_
  refine LGo.eqB 6 true (hb := by rw [hlen]; simp; omega) (h := ?_)
  exact LGo.ret (ret_T Tryz.results10 hA hmd)

end Go.Proofs.YteccglgbkehdeaaGreatDoor
