/- responses: Encode, accept, Refused, Of, Malformed. -/
import Derived.Test.YtcobkjognpjikaaGreatDoorRV
import Derived.Test.YtcobkjognpjikaaGreatDoorFE
set_option linter.unusedSimpArgs false
set_option linter.unusedVariables false
namespace Go.Proofs.YtcobkjognpjikaaGreatDoor

def msgS (r : Rs) : List Fld := (tagsT r.kind r.err).map (fieldS r)
theorem known_lt {k : Int} (h : knownS k = true) : 0 ≤ k ∧ k < 14 := by
  by_cases h0 : k < 0 ∨ 14 ≤ k
  · exfalso
    have h1 : (rulesQ k).2 = 2 := by unfold rulesQ; rw [if_pos (show maskOf k = 0 from if_pos h0)]
    unfold knownS at h
    rw [h1] at h
    simp at h
    omega
  · omega
theorem checkS_known {r : Rs} (h : checkS r = 0) : knownS r.kind = true := by
  unfold checkS at h
  split at h
  · cases h
  · rename_i h1
    simp only [Bool.or_eq_true, not_or, Bool.not_eq_true] at h1
    simpa using h1.1
theorem fieldS_ok {r : Rs} (hr : RsOk r) (hs : r.ses.length ≤ 500 ∧ r.tic.length ≤ 500) (t : Int) : FldOk (fieldS r t) := by
  have h1 := hr.id
  have h2 := uw_lt
  obtain ⟨h3, h4⟩ := hs
  unfold fieldS valS
  (repeat' split) <;> simp only [VV.f, FldOk] <;> refine ⟨?_, ?_, ?_⟩ <;> first | exact (h2 _).1 | exact (h2 _).2 | (simp only [List.length_nil]; omega) | omega | assumption
theorem msgS_ok {r : Rs} (hr : RsOk r) (hs : r.ses.length ≤ 500 ∧ r.tic.length ≤ 500) : ∀ x ∈ msgS r, FldOk x := by
  intro x hx
  obtain ⟨t, _, rfl⟩ := List.mem_map.1 hx
  exact fieldS_ok hr hs t
theorem msgS_500 {r : Rs} (hr : RsOk r) (hs : r.ses.length ≤ 500 ∧ r.tic.length ≤ 500) : ∀ x ∈ msgS r, FldOk x ∧ x.txt.length ≤ 500 := by
  intro x hx
  refine ⟨msgS_ok hr hs x hx, ?_⟩
  obtain ⟨t, _, rfl⟩ := List.mem_map.1 hx
  obtain ⟨h3, h4⟩ := hs
  unfold fieldS valS
  (repeat' split) <;> simp only [VV.f, List.length_nil] <;> omega
theorem msgS_len (r : Rs) : (msgS r).length ≤ 5 := by unfold msgS; rw [List.length_map]; exact tagsT_len _ _
theorem limitsS_len (k e : Int) : (limitsS k e).length ≤ 5 := by unfold limitsS; rw [List.length_map]; exact tagsT_len _ _
def encS (r : Rs) : List UInt8 × Int := if (!decide (checkS r = 0)) = true then ([], checkS r) else (byt r.kind :: encBy (limitsS r.kind r.err) (msgS r), (encode (limitsS r.kind r.err) (msgS r)).2)
theorem encS_P (r : Rs) (hr : RsOk r) (hs : r.ses.length ≤ 500 ∧ r.tic.length ≤ 500) : PC Tryz.prog 11 [.agg (r.c.map LV.sv)] (.tup [.sv (.sl 1 (bytesC (encS r).1)), .i (encS r).2]) := by
 refine ⟨LC.of_go Tryz.func11 (c := _) rfl (by kernel_rfl) (by rw [Tryz.ntmps11]; simp) rfl rfl (by simp [LO.lt, LV.lts, LV.lt]) (by simp) ?_⟩
 intro B hA hmd
 obtain ⟨g, e0⟩ : ∃ g, encS r = g := ⟨_, rfl⟩
 have e1 := e0
 unfold encS at e1
 rw [e0]
 have htl := tagsT_len r.kind r.err
 refine .seq ?_
 refine .region rfl ?_
 refine R.box (h := ?_)
 refine R.assign (h := ?_)
 refine R.assign (h := ?_)
 refine .n0 ?_
 refine .seq ?_
 refine .seq ?_
 refine .region rfl ?_
 first | refine R.loadA A25 (h := ?_) | refine R.loadN A25 (h := ?_) | refine R.loadP A25 (h := ?_)
 refine R.callP (es := [_]) (fun _ => checkS_P r hr) (h := ?_)
 refine R.assign (h := ?_)
 refine .n0 ?_
 refine .seq ?_
 refine .region rfl ?_
 refine R.move (h := ?_)
 refine R.bin (run_neq _ _ _ _ _ _) (h := ?_)
 refine .n0 ?_
 refine LGo.ifb (ht := fun hc => ?_) (hf := fun hc => ?_)
 ·
  rw [if_pos hc] at e1; rw [← e1]
  refine .seq ?_
  refine .region rfl ?_
  refine R.move (h := ?_)
  refine R.assign (h := ?_)
  refine R.assign (h := ?_)
  refine .n0 ?_
  first | refine LGo.frzT 2 (h := ?_) | refine LGo.nilSl 2 1 (h := ?_) | skip
  exact LGo.ret (ret_TT Tryz.results11 hA hmd)
 ·
  rw [if_neg (by rw [hc]; simp)] at e1; rw [← e1]
  have hk := known_lt (checkS_known (by simpa using hc))
  refine .skip ?_
  refine .seq ?_
  refine .region rfl ?_
  refine R.alloc Z61 (h := ?_)
  refine .n0 ?_
  refine .seq ?_
  refine .seq ?_
  refine .region rfl ?_
  first | refine R.field F25_0 (h := ?_) | refine R.fieldAt F25_0 (h := ?_)
  first | refine R.loadB O3 (h := ?_) | refine R.load1 O3 (h := ?_)
  first | refine R.field F25_2 (h := ?_) | refine R.fieldAt F25_2 (h := ?_)
  first | refine R.loadB O23 (h := ?_) | refine R.load1 O23 (h := ?_)
  refine R.callN (es := [_, _]) (tags_L r.kind r.err) (h := ?_)
  refine .n0 ?_
  refine .block ?_
  refine LGo.packNil 1 0 55 3 (h := ?_)
  refine LGo.keep [(1, (true, .ptr 0 0)), (5, (true, .ptr 1 0)), (18, (true, .fn (.func 45) [] [.ptr 3 0, .ptr 2 0]))] [(0, .box 25 (r.c.map LV.sv)), (1, .bx 61 [.v undef] 0 55 3 ((((tagsT r.kind r.err).take 0).map (fieldS r)).map Fld.c)), (2, .box 3 [.i r.kind]), (3, .box 23 [.i r.err])] (by repeat (first | exact trivial | refine ⟨rfl, ?_⟩)) (by repeat (first | exact trivial | refine ⟨rfl, ?_⟩)) ?_
  refine LGo.rangeN (fun fn ac bc => [(0, .box 25 (r.c.map LV.sv)), (1, .bx 61 [.v undef] 0 55 3 ((((tagsT r.kind r.err).take (tagsT r.kind r.err).length).map (fieldS r)).map Fld.c)), (2, .box 3 [.i r.kind]), (3, .box 23 [.i r.err]), (4, .raw (.deferred (some []))), (5, .loop fn Tryz.f11.ntmps [(1, (true, .ptr 0 0)), (5, (true, .ptr 1 0)), (18, (true, .fn (.func 45) [] [.ptr 3 0, .ptr 2 0]))] #[19] ac bc .ready none)]) (hit := fun fn ac bc hac hbc => ?_) (h := fun fn => ?_)
  ·
   suffices hgo : YGo Tryz.prog 5 6 ((tagsT r.kind r.err).map LV.i) (HoldsT 3 2 r.kind r.err) (fun j => [(0, .box 25 (r.c.map LV.sv)), (1, .bx 61 [.v undef] 0 55 3 ((((tagsT r.kind r.err).take j).map (fieldS r)).map Fld.c)), (2, .box 3 [.i r.kind]), (3, .box 23 [.i r.err]), (4, .raw (.deferred (some []))), (5, .loop fn Tryz.f11.ntmps [(1, (true, .ptr 0 0)), (5, (true, .ptr 1 0)), (18, (true, .fn (.func 45) [] [.ptr 3 0, .ptr 2 0]))] #[19] ac bc .ready none)]) from by
     have hr := tags1_L r.kind r.err (by decide) (by decide) (by decide) hgo
     exact hr
   refine ⟨fun j hj => rfl, fun j hj => by simp [LO.lt, LV.lts, LV.lt, lts_sv], fun j hj => ⟨rfl, rfl⟩, fun j hj => ?_⟩
   have hj' : j < (tagsT r.kind r.err).length := by simpa using hj
   rw [List.getElem_map]
   have htk : (tagsT r.kind r.err).take (j + 1) = (tagsT r.kind r.err).take j ++ [(tagsT r.kind r.err)[j]] := by rw [List.take_succ_eq_append_getElem hj']
   try dsimp only
   rw [htk, List.map_append, List.map_append]
   generalize (tagsT r.kind r.err)[j] = t at *
   refine Yld.walk 6 ((6, (true, .i t)) :: (19, (true, .i t)) :: [(1, (true, .ptr 0 0)), (5, (true, .ptr 1 0)), (18, (true, .fn (.func 45) [] [.ptr 3 0, .ptr 2 0]))]) (hpN := by rw [show Tryz.f11.ntmps = 43 from Tryz.ntmps11]; simp) (hA := ?_) (hB := ?_)
   · intro l B' hA' hmd'; subst hac
     refine .region rfl ?_
     refine R.assign (h := ?_)
     refine .n0 ?_
     exact LGo.done (fun cx a w hr => ⟨rfl, cx, hr⟩)
   · intro l B' hA' hmd'; subst hbc
     refine LGo.unpack 1 (h := ?_)
     refine .block ?_
     refine .region rfl ?_
     first | refine R.loadB O61 (h := ?_) | refine R.load1 O61 (h := ?_)
     first | refine R.loadA A25 (h := ?_) | refine R.loadN A25 (h := ?_) | refine R.loadP A25 (h := ?_)
     refine R.move (h := ?_)
     refine R.callP (es := [_, _]) (fun _ => fieldS_P r t) (h := ?_)
     refine R.buildSliceG AP61 (xs := [_]) (es := [_]) (hcs := CellsOfs.cons (CellsOf.agg rfl) CellsOfs.nil) (h := ?_)
     refine R.appendS AP61 (hs := SrcOk.sl Tryz.underlying61 (by simp; rfl)) (hlen := by simp; omega) (h := ?_)
     refine R.storeB O61 (h := ?_)
     refine Reg.nil ⟨fun _ => ⟨mixedO, by rfl, by rfl⟩, ?_⟩
     refine .inBlock ?_
     refine LGo.pack 1 0 (h := ?_)
     refine LGo.drop 6 (fun o h => (hA' o).1 h) (by omega) [] ((5, .loop fn Tryz.f11.ntmps [(1, (true, .ptr 0 0)), (5, (true, .ptr 1 0)), (18, (true, .fn (.func 45) [] [.ptr 3 0, .ptr 2 0]))] #[19] ac _ .busy none) :: (4, .raw (.deferred (some []))) :: [(0, .box 25 (r.c.map LV.sv)), (1, .bx 61 [.v undef] 0 55 3 ((((tagsT r.kind r.err).take j).map (fieldS r)).map Fld.c ++ [(fieldS r t).c])), (2, .box 3 [.i r.kind]), (3, .box 23 [.i r.err])]) trivial (by repeat (first | exact trivial | refine ⟨rfl, ?_⟩)) (by simp) (by simp [LO.lt, LV.lts, LV.lt, lts_sv]) (h := ?_)
     refine LGo.done (RoundEnd.go rfl (fun o z hz hne => ?_) rfl)
     rcases o with _ | _ | _ | _ | _ | _ | o <;> first | exact absurd rfl hne | exact hz
  ·
   rw [List.take_length, show (tagsT r.kind r.err).map (fieldS r) = msgS r from rfl]
   refine LGo.frzBx 1 (h := ?_)
   refine .inBlock ?_
   refine .seq ?_
   refine .region rfl ?_
   first | refine R.field F25_0 (h := ?_) | refine R.fieldAt F25_0 (h := ?_)
   first | refine R.loadB O3 (h := ?_) | refine R.load1 O3 (h := ?_)
   first | refine R.field F25_2 (h := ?_) | refine R.fieldAt F25_2 (h := ?_)
   first | refine R.loadB O23 (h := ?_) | refine R.load1 O23 (h := ?_)
   refine R.callP (es := [_, _]) (fun _ => limitsS_P r.kind r.err) (h := ?_)
   first | refine R.loadB O61 (h := ?_) | refine R.load1 O61 (h := ?_)
   refine R.callP (es := [_, _]) (fun _ => encode_PB (limitsS r.kind r.err) (msgS r) (by have := limitsS_len r.kind r.err; omega) (by have := msgS_len r; omega) (msgS_ok hr hs)) (h := ?_)
   refine R.move (h := ?_)
   refine R.extract (h := ?_)
   refine R.extract (h := ?_)
   refine R.assign (h := ?_)
   refine R.assign (h := ?_)
   refine Reg.nil ⟨fun _ => ⟨mixedO, by rfl, by rfl⟩, ?_⟩
   refine .seq ?_
   refine .region rfl ?_
   first | refine R.field F25_0 (h := ?_) | refine R.fieldAt F25_0 (h := ?_)
   first | refine R.loadB O3 (h := ?_) | refine R.load1 O3 (h := ?_)
   refine R.convW Tryz.runUnderlying3 Tryz.runUnderlying5 (h := ?_)
   rw [show IntKind.u8.wrap r.kind = ((byt r.kind).toNat : Int) from by rw [byt_toNat _ hk.1 (by omega), IntKind.wrap_u8]; omega]
   refine R.buildSliceR AP33 (xs := [_]) (es := [_]) (hcs := CellsOfs.cons (CellsOf.one rfl) CellsOfs.nil) (h := ?_)
   refine R.move (h := ?_)
   refine R.appendS AP33 (hs := SrcOk.sl Tryz.underlying33 (bytesC_one _)) (hlen := by have h500 := encBy_len (rs := limitsS r.kind r.err) (msgS_500 hr hs); simp; rw [bytesC_length]; omega) (h := ?_)
   refine R.move (h := ?_)
   refine R.assign (h := ?_)
   refine R.assign (h := ?_)
   refine .n0 ?_
   first | refine LGo.frzT 2 (h := ?_) | refine LGo.nilSl 2 1 (h := ?_) | skip
   exact LGo.ret (FnPost.mark (by rfl) (ret_TT Tryz.results11 hA hmd))

abbrev zeroS : Rs := ⟨0, 0, 0, [], [], 0, 0, 0, 0⟩
theorem sw_ok (n : Int) : R64 (sw n) := by unfold sw R64; rw [IntKind.wrap_i64]; omega
theorem putS_ok {r : Rs} {f : Fld} (hr : RsOk r) (hf : FldOk f) : RsOk (putS r f) := by
  have h1 := hf.2.2
  have h2 : f.txt.length ≤ maxLen := by unfold maxLen; omega
  unfold putS
  (repeat' split) <;> first | exact hr | exact { hr with id := ⟨hf.1, hf.2.1⟩ } | exact { hr with err := sw_ok _ } | exact { hr with ses := h2 } | exact { hr with tic := h2 } | exact { hr with seat := sw_ok _ } | exact { hr with n := sw_ok _ } | exact { hr with place := sw_ok _ } | exact { hr with dl := sw_ok _ }
theorem zeroS_ok {k : Int} (hk : R64 k) : RsOk { zeroS with kind := k } := ⟨hk, by simp, by simp [R64], by simp, by simp, by simp [R64], by simp [R64], by simp [R64], by simp [R64]⟩
theorem fold_ok : ∀ (l : List Fld) (r : Rs), RsOk r → (∀ x ∈ l, FldOk x) → RsOk (l.foldl putS r)
  | [], r, h, _ => h
  | f :: l, r, h, hl => fold_ok l (putS r f) (putS_ok h (hl f (by simp))) (fun x hx => hl x (by simp [hx]))
def foldS (k : Int) (l : List Fld) : Rs := l.foldl putS { zeroS with kind := k }
theorem foldS_ok {k : Int} {l : List Fld} (hk : R64 k) (hl : ∀ x ∈ l, FldOk x) : RsOk (foldS k l) := fold_ok l _ (zeroS_ok hk) hl
def acceptS (k form : Int) (l : List Fld) : Rs × Bool := if ((!decide (decide ((foldS k l).err = 0) = decide (form = 0))) || !decide (checkS (foldS k l) = 0)) = true then (zeroS, false) else (foldS k l, true)
def refusedS (q : Rq) (e : Int) : Rs × Int := if (!decide (checkQ q = 0)) = true then (zeroS, checkQ q) else if (decide (e < 1) || decide (255 < e)) = true then (zeroS, 7) else ({ zeroS with kind := q.kind, id := q.id, err := e }, 0)
/-- a reply of the model -/
structure Mr where
  err : Int
  seat : Int
  n : Int
  dl : Int
  tseat : Int
  town : Int
  tser : Int
  tep : Int
  place : Int
instance : Inhabited Mr := ⟨⟨0, 0, 0, 0, 0, 0, 0, 0, 0⟩⟩
def Mr.c (x : Mr) : List SV := [.val (.int .i64 x.err), .val (.int .i64 x.seat), .val (.int .i64 x.n), .val (.int .i64 x.dl), .val (.int .u32 x.tseat), .val (.int .u32 x.town), .val (.int .u64 x.tser), .val (.int .u64 x.tep), .val (.int .i64 x.place)]
structure MrOk (x : Mr) : Prop where
  err : R64 x.err
  seat : R64 x.seat
  n : R64 x.n
  dl : R64 x.dl
  place : R64 x.place
def allS (x : Mr) (s t : List UInt8) : Rs := ⟨0, 0, 0, s, t, x.seat, x.n, x.place, x.dl⟩
theorem allS_ok {x : Mr} {s t : List UInt8} (hx : MrOk x) (hs : s.length ≤ 1000 ∧ t.length ≤ 1000) : RsOk (allS x s t) := ⟨by simp [allS, R64], by simp [allS], by simp [allS, R64], by simp [allS, maxLen]; omega, by simp [allS, maxLen]; omega, hx.seat, hx.n, hx.place, hx.dl⟩
def ofR (q : Rq) (x : Mr) (s t : List UInt8) : Rs := (moreT q.kind).foldl (fun r u => putS r (fieldS (allS x s t) u)) { zeroS with kind := q.kind, id := q.id }
def ofS (q : Rq) (x : Mr) (s t : List UInt8) : Rs × Int := if (!decide (x.err = 0)) = true then refusedS q x.err else if (!decide (checkQ q = 0)) = true then (zeroS, checkQ q) else if (!decide (checkS (ofR q x s t) = 0)) = true then (zeroS, checkS (ofR q x s t)) else (ofR q x s t, 0)
theorem fieldS_ok3 {r : Rs} (hr : RsOk r) (hs : r.ses.length ≤ 1000 ∧ r.tic.length ≤ 1000) (t : Int) : FldOk (fieldS r t) := by
  have h1 := hr.id
  have h2 := uw_lt
  obtain ⟨h3, h4⟩ := hs
  unfold fieldS valS
  (repeat' split) <;> simp only [VV.f, FldOk] <;> refine ⟨?_, ?_, ?_⟩ <;> first | exact (h2 _).1 | exact (h2 _).2 | (simp only [List.length_nil]; omega) | omega | assumption
theorem ofR_ok {q : Rq} (hq : RqOk q) {x : Mr} {s t : List UInt8} (hx : MrOk x) (hs : s.length ≤ 1000 ∧ t.length ≤ 1000) : RsOk (ofR q x s t) := by
  have key : ∀ (l : List Int) (r : Rs), RsOk r → RsOk (l.foldl (fun r u => putS r (fieldS (allS x s t) u)) r) := by
    intro l
    induction l with
    | nil => intro r h; exact h
    | cons u l ih => intro r h; exact ih _ (putS_ok h (fieldS_ok3 (allS_ok hx hs) hs u))
  exact key _ _ { zeroS_ok hq.kind with id := hq.id }

theorem acceptS_P (kd form : Int) (l : List Fld) (hl : l.length ≤ 100) (hro : RsOk (foldS kd l)) : PC Tryz.prog 32 [.i kd, .i form, .sv (.sl 3 (l.map Fld.c))] (.tup [.agg ((acceptS kd form l).1.c.map LV.sv), .b (acceptS kd form l).2]) := by
 refine ⟨LC.of_go Tryz.func32 (c := _) rfl (by kernel_rfl) (by rw [Tryz.ntmps32]; simp) rfl rfl (by simp [LO.lt, LV.lts, LV.lt]) (by simp) ?_⟩
 intro B hA hmd
 obtain ⟨g, e0⟩ : ∃ g, acceptS kd form l = g := ⟨_, rfl⟩
 have e1 := e0
 unfold acceptS at e1
 rw [e0]
 refine .seq ?_
 refine .region rfl ?_
 refine R.alloc Z25 (h := ?_)
 refine R.assign (h := ?_)
 refine .n0 ?_
 refine .seq ?_
 refine .region rfl ?_
 refine R.move (h := ?_)
 refine R.build BF25 (is := [0]) (xs := [_]) (es := [_]) (h := ?_)
 refine R.alloc Z25 (h := ?_)
 refine R.storeA A25 (h := ?_)
 refine .n0 ?_
 refine .seq ?_
 refine .seq ?_
 refine .region rfl ?_
 refine R.move (h := ?_)
 first | refine R.len S61 (h := ?_) | refine R.lenRs S61 (h := ?_) | refine R.lenV (run_lenNil S61) (h := ?_)
 rw [List.length_map]
 refine R.move (h := ?_)
 refine .n0 ?_
 refine .block ?_
 refine .loop ?_
 refine LGo.loopG (σ := Nat) (fun x => x ≤ l.length) (fun x => [(15, (true, .i (x : Nat)))]) (fun x => [(0, .box 25 (zeroS.c.map LV.sv)), (1, .box 25 ((foldS kd (l.take x)).c.map LV.sv))]) (fun x => l.length - x) (0) [(1, _), (6, _), (8, _), (13, _), (14, _)] (Nat.zero_le _) (by repeat (first | exact trivial | refine ⟨rfl, ?_⟩)) (by repeat (first | exact trivial | refine ⟨rfl, ?_⟩)) (by repeat (first | exact trivial | refine ⟨rfl, ?_⟩)) ?_
 rintro k hk2 ih
 refine .seq ?_
 refine .region rfl ?_
 refine R.bin (run_lss _ _ _ _ _ _) (h := ?_)
 refine .n0 ?_
 refine .seq ?_
 refine LGo.ifd (ht := fun hc => ?_) (hf := fun hc => ?_)
 ·
  have hlt : k < l.length := by omega
  have hx : (l.map Fld.c)[((k : Nat) : Int).toNat]? = some l[k].c := by simp [hlt]
  have htk : foldS kd (l.take (k + 1)) = putS (foldS kd (l.take k)) l[k] := by unfold foldS; rw [List.take_succ_eq_append_getElem hlt, List.foldl_append]; rfl
  generalize l[k] = f at hx htk
  refine .skip ?_
  refine .seq ?_
  refine .block ?_
  refine .seq ?_
  refine .region rfl ?_
  refine R.index I61 (hj := fun hg => ⟨by omega, hx⟩) (h := ?_)
  first | refine R.loadA A55 (h := ?_) | refine R.loadN A55 (h := ?_) | refine R.loadP A55 (h := ?_)
  refine R.alloc Z55 (h := ?_)
  refine R.storeA A55 (h := ?_)
  refine .n0 ?_
  refine .region rfl ?_
  first | refine R.loadA A25 (h := ?_) | refine R.loadN A25 (h := ?_) | refine R.loadP A25 (h := ?_)
  first | refine R.loadA A55 (h := ?_) | refine R.loadN A55 (h := ?_) | refine R.loadP A55 (h := ?_)
  refine R.callP (es := [_, _]) (fun _ => putS_P (foldS kd (l.take k)) f) (h := ?_)
  refine R.storeA A25 (h := ?_)
  refine .n0 ?_
  refine .inBlock ?_
  refine .region rfl ?_
  first | refine R.add (h := ?_) | refine R.addW (h := ?_)
  refine R.move (h := ?_)
  refine .n0 ?_
  refine .inLoop ?_
  exact LGo.next _ (fun o h => by have := (hA o).1 h; omega) (by omega) (ih (k + 1) hlt (by omega)) (by repeat (first | exact trivial | refine ⟨rfl, ?_⟩)) ⟨rfl, by rw [htk]; rfl, trivial⟩
 ·
  obtain rfl : k = l.length := by omega
  rw [List.take_length]
  refine .exit rfl ?_
  refine .seq ?_
  refine .seq ?_
  refine .region rfl ?_
  first | refine R.field F25_2 (h := ?_) | refine R.fieldAt F25_2 (h := ?_)
  first | refine R.loadB O23 (h := ?_) | refine R.load1 O23 (h := ?_)
  refine R.bin (run_eql _ _ _ _ _ _) (h := ?_)
  refine R.move (h := ?_)
  refine R.bin (run_eql _ _ _ _ _ _) (h := ?_)
  refine R.bin (run_neqB Tryz.underlying4 _ _ _ _) (h := ?_)
  refine R.move (h := ?_)
  first | refine R.loadA A25 (h := ?_) | refine R.loadN A25 (h := ?_) | refine R.loadP A25 (h := ?_)
  refine R.callP (es := [_]) (fun _ => checkS_P (foldS kd l) hro) (h := ?_)
  refine R.bin (run_neq _ _ _ _ _ _) (h := ?_)
  refine R.or (h := ?_)
  refine .n0 ?_
  refine LGo.ifb (ht := fun hc2 => ?_) (hf := fun hc2 => ?_)
  ·
   rw [if_pos hc2] at e1; rw [← e1]
   refine .seq ?_
   refine .region rfl ?_
   refine R.build BF25 (is := []) (xs := []) (es := []) (h := ?_)
   refine R.storeA A25 (h := ?_)
   refine R.assign (h := ?_)
   refine .n0 ?_
   exact LGo.ret (ret_AT Tryz.results32 A25 hA hmd)
  ·
   rw [if_neg (by rw [hc2]; simp)] at e1; rw [← e1]
   refine .skip ?_
   refine .seq ?_
   refine .region rfl ?_
   first | refine R.loadA A25 (h := ?_) | refine R.loadN A25 (h := ?_) | refine R.loadP A25 (h := ?_)
   refine R.storeA A25 (h := ?_)
   refine R.assign (h := ?_)
   refine .n0 ?_
   exact LGo.ret (ret_AT Tryz.results32 A25 hA hmd)

theorem refusedS_P (q : Rq) (hq : RqOk q) (e : Int) : PC Tryz.prog 13 [.agg (q.c.map LV.sv), .i e] (.tup [.agg ((refusedS q e).1.c.map LV.sv), .i (refusedS q e).2]) := by
 refine ⟨LC.of_go Tryz.func13 (c := _) rfl (by kernel_rfl) (by rw [Tryz.ntmps13]; simp) rfl rfl (by simp [LO.lt, LV.lts, LV.lt]) (by simp) ?_⟩
 intro B hA hmd
 obtain ⟨g, e0⟩ : ∃ g, refusedS q e = g := ⟨_, rfl⟩
 have e1 := e0
 unfold refusedS at e1
 rw [e0]
 refine .seq ?_
 refine .region rfl ?_
 refine R.box (h := ?_)
 refine R.alloc Z25 (h := ?_)
 refine R.assign (h := ?_)
 refine .n0 ?_
 refine .seq ?_
 refine .seq ?_
 refine .region rfl ?_
 first | refine R.loadA A40 (h := ?_) | refine R.loadN A40 (h := ?_) | refine R.loadP A40 (h := ?_)
 refine R.callP (es := [_]) (fun _ => checkQ_P q hq) (h := ?_)
 refine R.assign (h := ?_)
 refine .n0 ?_
 refine .seq ?_
 refine .region rfl ?_
 refine R.move (h := ?_)
 refine R.bin (run_neq _ _ _ _ _ _) (h := ?_)
 refine .n0 ?_
 refine LGo.ifb (ht := fun hc => ?_) (hf := fun hc => ?_)
 ·
  rw [if_pos hc] at e1
  refine .seq ?_
  refine .region rfl ?_
  refine R.build BF25 (is := []) (xs := []) (es := []) (h := ?_)
  refine R.move (h := ?_)
  refine R.storeA A25 (h := ?_)
  refine R.assign (h := ?_)
  refine .n0 ?_
  rw [← e1]
  exact LGo.ret (ret_AT Tryz.results13 A25 hA hmd)
 ·
  rw [if_neg (by rw [hc]; simp)] at e1
  refine .skip ?_
  refine .seq ?_
  refine .seq ?_
  refine .region rfl ?_
  refine R.move (h := ?_)
  refine R.bin (run_lss _ _ _ _ _ _) (h := ?_)
  refine R.move (h := ?_)
  refine R.move (h := ?_)
  refine R.bin (run_gtr _ _ _ _ _ _) (h := ?_)
  refine R.or (h := ?_)
  refine .n0 ?_
  refine LGo.ifb (ht := fun hc2 => ?_) (hf := fun hc2 => ?_)
  ·
   rw [if_pos hc2] at e1
   refine .seq ?_
   refine .region rfl ?_
   refine R.build BF25 (is := []) (xs := []) (es := []) (h := ?_)
   refine R.storeA A25 (h := ?_)
   refine R.assign (h := ?_)
   refine .n0 ?_
   rw [← e1]
   exact LGo.ret (ret_AT Tryz.results13 A25 hA hmd)
  ·
   rw [if_neg (by rw [hc2]; simp)] at e1
   refine .skip ?_
   refine .seq ?_
   refine .region rfl ?_
   first | refine R.field F40_0 (h := ?_) | refine R.fieldAt F40_0 (h := ?_)
   first | refine R.loadB O3 (h := ?_) | refine R.load1 O3 (h := ?_)
   first | refine R.field F40_1 (h := ?_) | refine R.fieldAt F40_1 (h := ?_)
   first | refine R.loadB O22 (h := ?_) | refine R.load1 O22 (h := ?_)
   refine R.move (h := ?_)
   refine R.build BF25 (is := [0, 1, 2]) (xs := [_, _, _]) (es := [_, _, _]) (h := ?_)
   refine R.storeA A25 (h := ?_)
   refine R.assign (h := ?_)
   refine .n0 ?_
   rw [← e1]
   exact LGo.ret (ret_AT Tryz.results13 A25 hA hmd)

theorem malformedS_P : PC Tryz.prog 12 [] (.agg (({ zeroS with err := 11 } : Rs).c.map LV.sv)) := by
 refine ⟨LC.of_go Tryz.func12 (c := _) rfl (by kernel_rfl) (by rw [Tryz.ntmps12]; simp) rfl rfl (by simp [LO.lt, LV.lts, LV.lt]) (by simp) ?_⟩
 intro B hA hmd
 refine .seq ?_
 refine .region rfl ?_
 refine R.alloc Z25 (h := ?_)
 refine .n0 ?_
 refine .seq ?_
 refine .region rfl ?_
 refine R.build BF25 (is := [2]) (xs := [_]) (es := [_]) (h := ?_)
 refine R.storeA A25 (h := ?_)
 refine .n0 ?_
 exact LGo.ret (ret_A Tryz.results12 A25 hA hmd)

theorem ofS_P (q : Rq) (hq : RqOk q) (rp : Mr) (hx : MrOk rp) (s t : List UInt8) (hs : s.length ≤ 1000 ∧ t.length ≤ 1000) : PC Tryz.prog 15 [.agg (q.c.map LV.sv), .agg (rp.c.map LV.sv), .t s, .t t] (.tup [.agg ((ofS q rp s t).1.c.map LV.sv), .i (ofS q rp s t).2]) := by
 refine ⟨LC.of_go Tryz.func15 (c := _) rfl (by kernel_rfl) (by rw [Tryz.ntmps15]; simp) rfl rfl (by simp [LO.lt, LV.lts, LV.lt]) (by simp) ?_⟩
 intro B hA hmd
 obtain ⟨g, e0⟩ : ∃ g, ofS q rp s t = g := ⟨_, rfl⟩
 have e1 := e0
 unfold ofS at e1
 rw [e0]
 refine .seq ?_
 refine .region rfl ?_
 refine R.box (h := ?_)
 refine R.box (h := ?_)
 refine R.alloc Z25 (h := ?_)
 refine R.assign (h := ?_)
 refine .n0 ?_
 refine .seq ?_
 refine .seq ?_
 refine .region rfl ?_
 first | refine R.field F46_0 (h := ?_) | refine R.fieldAt F46_0 (h := ?_)
 first | refine R.loadB O23 (h := ?_) | refine R.load1 O23 (h := ?_)
 refine R.bin (run_neq _ _ _ _ _ _) (h := ?_)
 refine .n0 ?_
 refine LGo.ifb (ht := fun hc => ?_) (hf := fun hc => ?_)
 ·
  rw [if_pos hc] at e1; rw [← e1]
  refine .seq ?_
  refine .region rfl ?_
  first | refine R.loadA A40 (h := ?_) | refine R.loadN A40 (h := ?_) | refine R.loadP A40 (h := ?_)
  first | refine R.field F46_0 (h := ?_) | refine R.fieldAt F46_0 (h := ?_)
  first | refine R.loadB O23 (h := ?_) | refine R.load1 O23 (h := ?_)
  refine R.callP (es := [_, _]) (fun _ => refusedS_P q hq rp.err) (h := ?_)
  refine R.extract (h := ?_)
  refine R.extract (h := ?_)
  refine R.storeA A25 (h := ?_)
  refine R.assign (h := ?_)
  refine .n0 ?_
  exact LGo.ret (ret_AT Tryz.results15 A25 hA hmd)
 ·
  rw [if_neg (by rw [hc]; simp)] at e1
  refine .skip ?_
  refine .seq ?_
  refine .seq ?_
  refine .region rfl ?_
  first | refine R.loadA A40 (h := ?_) | refine R.loadN A40 (h := ?_) | refine R.loadP A40 (h := ?_)
  refine R.callP (es := [_]) (fun _ => checkQ_P q hq) (h := ?_)
  refine R.assign (h := ?_)
  refine .n0 ?_
  refine .seq ?_
  refine .region rfl ?_
  refine R.move (h := ?_)
  refine R.bin (run_neq _ _ _ _ _ _) (h := ?_)
  refine .n0 ?_
  refine LGo.ifb (ht := fun hc2 => ?_) (hf := fun hc2 => ?_)
  ·
   rw [if_pos hc2] at e1; rw [← e1]
   refine .seq ?_
   refine .region rfl ?_
   refine R.build BF25 (is := []) (xs := []) (es := []) (h := ?_)
   refine R.move (h := ?_)
   refine R.storeA A25 (h := ?_)
   refine R.assign (h := ?_)
   refine .n0 ?_
   exact LGo.ret (ret_AT Tryz.results15 A25 hA hmd)
  ·
   rw [if_neg (by rw [hc2]; simp)] at e1
   refine .skip ?_
   refine .seq ?_
   refine .region rfl ?_
   refine R.move (h := ?_)
   refine R.move (h := ?_)
   first | refine R.field F46_1 (h := ?_) | refine R.fieldAt F46_1 (h := ?_)
   first | refine R.loadB O3 (h := ?_) | refine R.load1 O3 (h := ?_)
   first | refine R.field F46_2 (h := ?_) | refine R.fieldAt F46_2 (h := ?_)
   first | refine R.loadB O3 (h := ?_) | refine R.load1 O3 (h := ?_)
   first | refine R.field F46_5 (h := ?_) | refine R.fieldAt F46_5 (h := ?_)
   first | refine R.loadB O3 (h := ?_) | refine R.load1 O3 (h := ?_)
   first | refine R.field F46_3 (h := ?_) | refine R.fieldAt F46_3 (h := ?_)
   first | refine R.loadB O2 (h := ?_) | refine R.load1 O2 (h := ?_)
   refine R.build BF25 (is := [3, 4, 5, 6, 7, 8]) (xs := [_, _, _, _, _, _]) (es := [_, _, _, _, _, _]) (h := ?_)
   refine R.alloc Z25 (h := ?_)
   refine R.storeA A25 (h := ?_)
   refine .n0 ?_
   refine .seq ?_
   refine .region rfl ?_
   first | refine R.field F40_0 (h := ?_) | refine R.fieldAt F40_0 (h := ?_)
   first | refine R.loadB O3 (h := ?_) | refine R.load1 O3 (h := ?_)
   first | refine R.field F40_1 (h := ?_) | refine R.fieldAt F40_1 (h := ?_)
   first | refine R.loadB O22 (h := ?_) | refine R.load1 O22 (h := ?_)
   refine R.build BF25 (is := [0, 1]) (xs := [_, _]) (es := [_, _]) (h := ?_)
   refine R.alloc Z25 (h := ?_)
   refine R.storeA A25 (h := ?_)
   refine .n0 ?_
   refine .seq ?_
   refine .seq ?_
   refine .region rfl ?_
   first | refine R.field F40_0 (h := ?_) | refine R.fieldAt F40_0 (h := ?_)
   first | refine R.loadB O3 (h := ?_) | refine R.load1 O3 (h := ?_)
   refine R.callP (es := [_]) (fun _ => moreT_P q.kind) (h := ?_)
   first | refine R.len S81 (h := ?_) | refine R.lenRs S81 (h := ?_) | refine R.lenV (run_lenNil S81) (h := ?_)
   rw [ic_len]
   have hml := moreT_len q.kind
   refine R.move (h := ?_)
   refine .n0 ?_
   refine .block ?_
   refine .loop ?_
   refine LGo.loopG (σ := Nat) (fun x => x ≤ (moreT q.kind).length) (fun x => [(51, (true, .i (x : Nat)))]) (fun x => [(0, .box 40 (q.c.map LV.sv)), (1, .box 46 (rp.c.map LV.sv)), (2, .box 25 (zeroS.c.map LV.sv)), (3, .box 25 ((allS rp s t).c.map LV.sv)), (4, .box 25 (((((moreT q.kind).take x).foldl (fun r u => putS r (fieldS (allS rp s t) u)) { zeroS with kind := q.kind, id := q.id }) : Rs).c.map LV.sv))]) (fun x => (moreT q.kind).length - x) (0) [(8, _), (11, _), (12, _), (49, _), (50, _)] (Nat.zero_le _) (by repeat (first | exact trivial | refine ⟨rfl, ?_⟩)) (by repeat (first | exact trivial | refine ⟨rfl, ?_⟩)) (by repeat (first | exact trivial | refine ⟨rfl, ?_⟩)) ?_
   rintro k hk2 ih
   refine .seq ?_
   refine .region rfl ?_
   refine R.bin (run_lss _ _ _ _ _ _) (h := ?_)
   refine .n0 ?_
   refine .seq ?_
   refine LGo.ifd (ht := fun hc3 => ?_) (hf := fun hc3 => ?_)
   ·
    have hlt : k < (moreT q.kind).length := by omega
    have hx2 : (ic .i64 (moreT q.kind))[((k : Nat) : Int).toNat]? = some [.val (.int .i64 (moreT q.kind)[k])] := by rw [Int.toNat_natCast]; exact ic_get (List.getElem?_eq_getElem hlt)
    have htk : ((moreT q.kind).take (k + 1)).foldl (fun r u => putS r (fieldS (allS rp s t) u)) { zeroS with kind := q.kind, id := q.id } = putS (((moreT q.kind).take k).foldl (fun r u => putS r (fieldS (allS rp s t) u)) { zeroS with kind := q.kind, id := q.id }) (fieldS (allS rp s t) (moreT q.kind)[k]) := by rw [List.take_succ_eq_append_getElem hlt, List.foldl_append]; rfl
    generalize (moreT q.kind)[k] = u at hx2 htk
    generalize hrk : (((moreT q.kind).take k).foldl (fun r u => putS r (fieldS (allS rp s t) u)) { zeroS with kind := q.kind, id := q.id } : Rs) = rk at htk ⊢
    refine .skip ?_
    refine .seq ?_
    refine .block ?_
    refine .seq ?_
    refine .region rfl ?_
    refine R.index I81 (hj := fun hg => ⟨by omega, hx2⟩) (h := ?_)
    first | refine R.loadB O3 (h := ?_) | refine R.load1 O3 (h := ?_)
    refine R.assign (h := ?_)
    refine .n0 ?_
    refine .region rfl ?_
    first | refine R.loadA A25 (h := ?_) | refine R.loadN A25 (h := ?_) | refine R.loadP A25 (h := ?_)
    first | refine R.loadA A25 (h := ?_) | refine R.loadN A25 (h := ?_) | refine R.loadP A25 (h := ?_)
    refine R.move (h := ?_)
    refine R.callP (es := [_, _]) (fun _ => fieldS_P (allS rp s t) u) (h := ?_)
    refine R.callP (es := [_, _]) (fun _ => putS_P rk (fieldS (allS rp s t) u)) (h := ?_)
    refine R.storeA A25 (h := ?_)
    refine Reg.nil ⟨fun _ => ⟨mixedO, by rfl, by rfl⟩, ?_⟩
    refine .inBlock ?_
    refine .region rfl ?_
    first | refine R.add (h := ?_) | refine R.addW (h := ?_)
    refine R.move (h := ?_)
    refine .n0 ?_
    refine .inLoop ?_
    exact LGo.next _ (fun o h => by have := (hA o).1 h; omega) (by omega) (ih (k + 1) hlt (by omega)) (by repeat (first | exact trivial | refine ⟨rfl, ?_⟩)) ⟨rfl, rfl, rfl, rfl, by rw [htk]; rfl, trivial⟩
   ·
    obtain rfl : k = (moreT q.kind).length := by omega
    rw [List.take_length, show (moreT q.kind).foldl (fun r u => putS r (fieldS (allS rp s t) u)) { zeroS with kind := q.kind, id := q.id } = ofR q rp s t from rfl]
    refine .exit rfl ?_
    refine .seq ?_
    refine .seq ?_
    refine .region rfl ?_
    first | refine R.loadA A25 (h := ?_) | refine R.loadN A25 (h := ?_) | refine R.loadP A25 (h := ?_)
    refine R.callP (es := [_]) (fun _ => checkS_P (ofR q rp s t) (ofR_ok hq hx hs)) (h := ?_)
    refine R.assign (h := ?_)
    refine .n0 ?_
    refine .seq ?_
    refine .region rfl ?_
    refine R.move (h := ?_)
    refine R.bin (run_neq _ _ _ _ _ _) (h := ?_)
    refine .n0 ?_
    refine LGo.ifb (ht := fun hc4 => ?_) (hf := fun hc4 => ?_)
    ·
     rw [if_pos hc4] at e1; rw [← e1]
     refine .seq ?_
     refine .region rfl ?_
     refine R.build BF25 (is := []) (xs := []) (es := []) (h := ?_)
     refine R.move (h := ?_)
     refine R.storeA A25 (h := ?_)
     refine R.assign (h := ?_)
     refine .n0 ?_
     exact LGo.ret (ret_AT Tryz.results15 A25 hA hmd)
    ·
     rw [if_neg (by rw [hc4]; simp)] at e1; rw [← e1]
     refine .skip ?_
     refine .seq ?_
     refine .region rfl ?_
     first | refine R.loadA A25 (h := ?_) | refine R.loadN A25 (h := ?_) | refine R.loadP A25 (h := ?_)
     refine R.storeA A25 (h := ?_)
     refine R.assign (h := ?_)
     refine .n0 ?_
     exact LGo.ret (ret_AT Tryz.results15 A25 hA hmd)

end Go.Proofs.YtcobkjognpjikaaGreatDoor
