/- requests: Op, and the reference's. -/
import Derived.Test.YtckbomkcnmcdaaaGreatDoorX1
set_option linter.unusedSimpArgs false
set_option linter.unusedVariables false
namespace Go.Proofs.YtckbomkcnmcdaaaGreatDoor

/-- what a token, a ticket and an operation say -/
structure Tk where
  owner : Int
  til : Int
structure Tt where
  seat : Int
  owner : Int
  serial : Int
  epoch : Int
structure Mo where
  kind : Int
  owner : Int
  til : Int
  seat : Int
  sec : Int
  n : Int
  to : Int
  t : Tt
  now : Int
def Tk.c (x : Tk) : List SV := [.val (.int .u32 x.owner), .val (.int .i64 x.til)]
def Tt.c (x : Tt) : List SV := [.val (.int .u32 x.seat), .val (.int .u32 x.owner), .val (.int .u64 x.serial), .val (.int .u64 x.epoch)]
def Mo.c (x : Mo) : List SV := [.val (.int .i64 x.kind), .val (.int .u32 x.owner), .val (.int .i64 x.til), .val (.int .i64 x.seat), .val (.int .i64 x.sec), .val (.int .i64 x.n), .val (.int .u32 x.to), .val (.int .u32 x.t.seat), .val (.int .u32 x.t.owner), .val (.int .u64 x.t.serial), .val (.int .u64 x.t.epoch), .val (.int .i64 x.now)]
abbrev zeroT : Tt := ⟨0, 0, 0, 0⟩
abbrev zeroM : Mo := ⟨0, 0, 0, 0, 0, 0, 0, zeroT, 0⟩
def opOf (r : Rq) (x : Tk) (k : Tt) (a b : Bool) : Mo := ⟨if r.kind = 13 then 9 else r.kind, if a = true then x.owner else r.owner, if a = true then x.til else 0, r.seat, r.sec, r.n, r.to, if b = true then k else zeroT, 0⟩
def opQ (r : Rq) (x : Tk) (k : Tt) : Mo × Int := if (!decide (checkQ r = 0)) = true then (zeroM, checkQ r) else (opOf r x k (needsQ r.kind).1 (needsQ r.kind).2.1, 0)
def opR9 (r : Rq) (x : Tk) (k : Tt) : Mo × Int := if (!decide (checkQ r = 0)) = true then (zeroM, checkQ r) else (opOf r x k (hasQ r.kind 3) (hasQ r.kind 4), 0)
theorem op_eq (r : Rq) (x : Tk) (k : Tt) : opQ r x k = opR9 r x k := by
  unfold opQ opR9
  by_cases h : checkQ r = 0
  · rw [if_neg (by rw [h]; simp), if_neg (by rw [h]; simp), needsR_eq]
    unfold needsR
    rw [if_neg (fun hw => ((check_iff r).1 h).1 ((word_mask _).1 hw))]
  · rw [if_pos (by simp [h]), if_pos (by simp [h])]


theorem QS55 (c1 c2 c3 c4 : Int) (w : World) : (Op.eqFields 9998 #[.int .u32 c1, .int .u32 c2, .int .u64 c3, .int .u64 c4] #[.int .u32 c1, .int .u32 c2, .int .u64 c3, .int .u64 c4] (#[⟨ "Seat", 33, 0, false, "", "", 0⟩, ⟨ "Owner", 33, 1, false, "", "", 4⟩, ⟨ "Serial", 28, 2, false, "", "", 8⟩, ⟨ "Epoch", 28, 3, false, "", "", 16⟩] : Array Field).toList).run Tryz.prog w = .ok true w := by
  simp [Op.eqFields, part, run_equalIn_int (P := Tryz.prog) _ 9997 28 _ _ _ _ Tryz.underlying28, run_equalIn_int (P := Tryz.prog) _ 9997 33 _ _ _ _ Tryz.underlying33, Tryz.isAgg2, Tryz.isAgg3, Tryz.isAgg28, Tryz.isAgg33, Tryz.isAgg55]
theorem ES55 (c1 c2 c3 c4 : Int) (w : World) (hp : Tryz.prog.stoodInHeld 55 = false) : (Op.equalIn (9998 + 1) 55 (.agg #[.int .u32 c1, .int .u32 c2, .int .u64 c3, .int .u64 c4]) (.agg #[.int .u32 c1, .int .u32 c2, .int .u64 c3, .int .u64 c4])).run Tryz.prog w = .ok true w := by
  have hf : Tryz.prog.fieldsOf 55 = #[⟨ "Seat", 33, 0, false, "", "", 0⟩, ⟨ "Owner", 33, 1, false, "", "", 4⟩, ⟨ "Serial", 28, 2, false, "", "", 8⟩, ⟨ "Epoch", 28, 3, false, "", "", 16⟩] := by unfold Program.fieldsOf; rw [Tryz.underlying55]
  rw [run_equalIn_agg (P := Tryz.prog) w 9998 55 _ _ (by rw [hf]; exact Tryz.underlying55) hp, hf, QS55 c1 c2 c3 c4 w]
theorem QS57 (a1 a2 a3 a4 a5 a6 a7 a8 c1 c2 c3 c4 : Int) : ∀ w, (Op.eqFields 9999 #[.int .i64 a1, .int .u32 a2, .int .i64 a3, .int .i64 a4, .int .i64 a5, .int .i64 a6, .int .u32 a7, .int .u32 c1, .int .u32 c2, .int .u64 c3, .int .u64 c4, .int .i64 a8] #[.int .i64 a1, .int .u32 a2, .int .i64 a3, .int .i64 a4, .int .i64 a5, .int .i64 a6, .int .u32 a7, .int .u32 c1, .int .u32 c2, .int .u64 c3, .int .u64 c4, .int .i64 a8] (#[⟨ "Kind", 3, 0, false, "", "", 0⟩, ⟨ "Owner", 33, 1, false, "", "", 8⟩, ⟨ "Until", 2, 2, false, "", "", 16⟩, ⟨ "Seat", 3, 3, false, "", "", 24⟩, ⟨ "Section", 3, 4, false, "", "", 32⟩, ⟨ "N", 3, 5, false, "", "", 40⟩, ⟨ "To", 33, 6, false, "", "", 48⟩, ⟨ "Ticket", 55, 7, false, "", "", 56⟩, ⟨ "Now", 2, 11, false, "", "", 80⟩] : Array Field).toList).run Tryz.prog w = .ok true w := by
  intro w
  have h5 := ES55 c1 c2 c3 c4 w (by kernel_rfl)
  simp only [show 9998 + 1 = 9999 from rfl] at h5
  simp [Op.eqFields, part, run_equalIn_int (P := Tryz.prog) _ 9998 2 _ _ _ _ Tryz.underlying2, run_equalIn_int (P := Tryz.prog) _ 9998 3 _ _ _ _ Tryz.underlying3, run_equalIn_int (P := Tryz.prog) _ 9998 33 _ _ _ _ Tryz.underlying33, Tryz.isAgg2, Tryz.isAgg3, Tryz.isAgg28, Tryz.isAgg33, Tryz.isAgg55, Tryz.sizeOf55, h5]

theorem EQS57 (x y : Operand) (a1 a2 a3 a4 a5 a6 a7 a8 c1 c2 c3 c4 : Int) : ∀ w, (do eqGuard .eql 57 x y (.agg #[.int .i64 a1, .int .u32 a2, .int .i64 a3, .int .i64 a4, .int .i64 a5, .int .i64 a6, .int .u32 a7, .int .u32 c1, .int .u32 c2, .int .u64 c3, .int .u64 c4, .int .i64 a8]) (.agg #[.int .i64 a1, .int .u32 a2, .int .i64 a3, .int .i64 a4, .int .i64 a5, .int .i64 a6, .int .u32 a7, .int .u32 c1, .int .u32 c2, .int .u64 c3, .int .u64 c4, .int .i64 a8]); binOp .eql 57 (.agg #[.int .i64 a1, .int .u32 a2, .int .i64 a3, .int .i64 a4, .int .i64 a5, .int .i64 a6, .int .u32 a7, .int .u32 c1, .int .u32 c2, .int .u64 c3, .int .u64 c4, .int .i64 a8]) (.agg #[.int .i64 a1, .int .u32 a2, .int .i64 a3, .int .i64 a4, .int .i64 a5, .int .i64 a6, .int .u32 a7, .int .u32 c1, .int .u32 c2, .int .u64 c3, .int .u64 c4, .int .i64 a8]) : Sem Value).run Tryz.prog w = .ok (.bool true) w :=
  run_eqS Tryz.underlying57 (by kernel_rfl) (by kernel_rfl) (QS57 a1 a2 a3 a4 a5 a6 a7 a8 c1 c2 c3 c4) x y

theorem opQ_P (r : Rq) (hr : RqOk r) (x : Tk) (k : Tt) : PC Tryz.prog 29 [.agg (r.c.map LV.sv), .agg (x.c.map LV.sv), .agg (k.c.map LV.sv)] (.tup [.agg ((opQ r x k).1.c.map LV.sv), .i (opQ r x k).2]) := by
 refine ⟨LC.of_go Tryz.func29 (c := _) rfl (by kernel_rfl) (by rw [Tryz.ntmps29]; simp) rfl rfl (by simp [LO.lt, LV.lts, LV.lt]) (by simp) ?_⟩
 intro B hA hmd
 obtain ⟨g, e0⟩ : ∃ g, opQ r x k = g := ⟨_, rfl⟩
 have e1 := e0
 unfold opQ at e1
 rw [e0]
 refine .seq ?_
 refine .region rfl ?_
 refine R.box (h := ?_)
 refine R.box (h := ?_)
 refine R.box (h := ?_)
 refine R.alloc Z57 (h := ?_)
 refine R.assign (h := ?_)
 refine .n0 ?_
 refine .seq ?_
 refine .seq ?_
 refine .region rfl ?_
 first | refine R.loadA A35 (h := ?_) | refine R.loadN A35 (h := ?_) | refine R.loadP A35 (h := ?_)
 refine R.callP (es := [_]) (fun _ => checkQ_P r hr) (h := ?_)
 refine R.assign (h := ?_)
 refine .n0 ?_
 refine .seq ?_
 refine .region rfl ?_
 refine R.move (h := ?_)
 refine R.bin (run_neq _ _ _ _ _ _) (h := ?_)
 refine .n0 ?_
 refine LGo.ifb (ht := fun hc => ?_) (hf := fun hc => ?_)
 ·
  rw [if_pos hc] at e1
  refine .seq ?_
  refine .region rfl ?_
  refine R.buildG BG57 (is := []) (ks := []) (xs := []) (es := []) (h := ?_)
  refine R.move (h := ?_)
  refine R.storeA A57 (h := ?_)
  refine R.assign (h := ?_)
  refine .n0 ?_
  rw [← e1]
  exact LGo.ret (ret_AT Tryz.results29 A57 hA hmd)
 ·
  rw [if_neg (by rw [hc]; simp)] at e1
  unfold opOf at e1
  refine .skip ?_
  refine .seq ?_
  refine .region rfl ?_
  first | refine R.field F35_0 (h := ?_) | refine R.fieldAt F35_0 (h := ?_)
  first | refine R.loadB O3 (h := ?_) | refine R.load1 O3 (h := ?_)
  first | refine R.field F35_2 (h := ?_) | refine R.fieldAt F35_2 (h := ?_)
  first | refine R.loadB O33 (h := ?_) | refine R.load1 O33 (h := ?_)
  first | refine R.field F35_6 (h := ?_) | refine R.fieldAt F35_6 (h := ?_)
  first | refine R.loadB O3 (h := ?_) | refine R.load1 O3 (h := ?_)
  first | refine R.field F35_7 (h := ?_) | refine R.fieldAt F35_7 (h := ?_)
  first | refine R.loadB O3 (h := ?_) | refine R.load1 O3 (h := ?_)
  first | refine R.field F35_8 (h := ?_) | refine R.fieldAt F35_8 (h := ?_)
  first | refine R.loadB O3 (h := ?_) | refine R.load1 O3 (h := ?_)
  first | refine R.field F35_3 (h := ?_) | refine R.fieldAt F35_3 (h := ?_)
  first | refine R.loadB O33 (h := ?_) | refine R.load1 O33 (h := ?_)
  refine R.buildG BG57 (is := [0, 1, 3, 4, 5, 6]) (ks := [0, 1, 3, 4, 5, 6]) (xs := [_, _, _, _, _, _]) (es := [_, _, _, _, _, _]) (h := ?_)
  refine R.alloc Z57 (h := ?_)
  refine R.storeA A57 (h := ?_)
  refine .n0 ?_
  refine .seq ?_
  refine .region rfl ?_
  first | refine R.field F35_0 (h := ?_) | refine R.fieldAt F35_0 (h := ?_)
  first | refine R.loadB O3 (h := ?_) | refine R.load1 O3 (h := ?_)
  refine R.callP (es := [_]) (fun _ => needsQ_P r.kind) (h := ?_)
  refine R.move (h := ?_)
  refine R.extract (h := ?_)
  refine R.extract (h := ?_)
  refine R.extract (h := ?_)
  refine R.assign (h := ?_)
  refine R.assign (h := ?_)
  refine R.assign (h := ?_)
  refine .n0 ?_
  refine .seq ?_
  refine .seq ?_
  refine .region rfl ?_
  refine R.move (h := ?_)
  refine .n0 ?_
  refine LGo.ifb (ht := fun hc2 => ?_) (hf := fun hc2 => ?_)
  ·
   rw [if_pos hc2, if_pos hc2] at e1
   refine .region rfl ?_
   first | refine R.field F53_0 (h := ?_) | refine R.fieldAt F53_0 (h := ?_)
   first | refine R.loadB O33 (h := ?_) | refine R.load1 O33 (h := ?_)
   first | refine R.field F53_1 (h := ?_) | refine R.fieldAt F53_1 (h := ?_)
   first | refine R.loadB O2 (h := ?_) | refine R.load1 O2 (h := ?_)
   first | refine R.field F57_1 (h := ?_) | refine R.fieldAt F57_1 (h := ?_)
   refine R.storeB O33 (h := ?_)
   first | refine R.field F57_2 (h := ?_) | refine R.fieldAt F57_2 (h := ?_)
   refine R.storeB O2 (h := ?_)
   refine Reg.nil ⟨fun _ => ⟨mixedO, by rfl, by rfl⟩, ?_⟩
   refine .seq ?_
   refine .seq ?_
   refine .region rfl ?_
   refine R.move (h := ?_)
   refine .n0 ?_
   refine LGo.ifb (ht := fun hc3 => ?_) (hf := fun hc3 => ?_)
   ·
    rw [if_pos hc3] at e1
    refine .region rfl ?_
    first | refine R.loadA A55 (h := ?_) | refine R.loadN A55 (h := ?_) | refine R.loadP A55 (h := ?_)
    first | refine R.field F57_7 (h := ?_) | refine R.fieldAt F57_7 (h := ?_)
    refine R.storeP A55 (h := ?_)
    refine .n0 ?_
    refine .seq ?_
    refine .seq ?_
    refine .region rfl ?_
    first | refine R.field F35_0 (h := ?_) | refine R.fieldAt F35_0 (h := ?_)
    first | refine R.loadB O3 (h := ?_) | refine R.load1 O3 (h := ?_)
    refine R.bin (run_eql _ _ _ _ _ _) (h := ?_)
    refine .n0 ?_
    refine LGo.ifd (ht := fun hc4 => ?_) (hf := fun hc4 => ?_)
    ·
     rw [if_pos hc4] at e1
     refine .region rfl ?_
     first | refine R.field F57_0 (h := ?_) | refine R.fieldAt F57_0 (h := ?_)
     refine R.storeB O3 (h := ?_)
     refine .n0 ?_
     refine .seq ?_
     refine .region rfl ?_
     first | refine R.loadA A57 (h := ?_) | refine R.loadN A57 (h := ?_) | refine R.loadP A57 (h := ?_)
     refine R.storeA A57 (h := ?_)
     refine R.assign (h := ?_)
     refine .n0 ?_
     rw [← e1]
     exact LGo.ret (ret_AT Tryz.results29 A57 hA hmd)
    ·
     rw [if_neg hc4] at e1
     refine .skip ?_
     refine .seq ?_
     refine .region rfl ?_
     first | refine R.loadA A57 (h := ?_) | refine R.loadN A57 (h := ?_) | refine R.loadP A57 (h := ?_)
     refine R.storeA A57 (h := ?_)
     refine R.assign (h := ?_)
     refine .n0 ?_
     rw [← e1]
     exact LGo.ret (ret_AT Tryz.results29 A57 hA hmd)
   ·
    have hn2 : ¬ (needsQ r.kind).2.1 = true := by rw [hc3]; simp
    simp only [if_neg hn2] at e1
    refine .skip ?_
    refine .seq ?_
    refine .seq ?_
    refine .region rfl ?_
    first | refine R.field F35_0 (h := ?_) | refine R.fieldAt F35_0 (h := ?_)
    first | refine R.loadB O3 (h := ?_) | refine R.load1 O3 (h := ?_)
    refine R.bin (run_eql _ _ _ _ _ _) (h := ?_)
    refine .n0 ?_
    refine LGo.ifd (ht := fun hc5 => ?_) (hf := fun hc5 => ?_)
    ·
     rw [if_pos hc5] at e1
     refine .region rfl ?_
     first | refine R.field F57_0 (h := ?_) | refine R.fieldAt F57_0 (h := ?_)
     refine R.storeB O3 (h := ?_)
     refine .n0 ?_
     refine .seq ?_
     refine .region rfl ?_
     first | refine R.loadA A57 (h := ?_) | refine R.loadN A57 (h := ?_) | refine R.loadP A57 (h := ?_)
     refine R.storeA A57 (h := ?_)
     refine R.assign (h := ?_)
     refine .n0 ?_
     rw [← e1]
     exact LGo.ret (ret_AT Tryz.results29 A57 hA hmd)
    ·
     rw [if_neg hc5] at e1
     refine .skip ?_
     refine .seq ?_
     refine .region rfl ?_
     first | refine R.loadA A57 (h := ?_) | refine R.loadN A57 (h := ?_) | refine R.loadP A57 (h := ?_)
     refine R.storeA A57 (h := ?_)
     refine R.assign (h := ?_)
     refine .n0 ?_
     rw [← e1]
     exact LGo.ret (ret_AT Tryz.results29 A57 hA hmd)
  ·
   have hn : ¬ (needsQ r.kind).1 = true := by rw [hc2]; simp
   simp only [if_neg hn] at e1
   refine .skip ?_
   refine .seq ?_
   refine .seq ?_
   refine .region rfl ?_
   refine R.move (h := ?_)
   refine .n0 ?_
   refine LGo.ifb (ht := fun hc6 => ?_) (hf := fun hc6 => ?_)
   ·
    rw [if_pos hc6] at e1
    refine .region rfl ?_
    first | refine R.loadA A55 (h := ?_) | refine R.loadN A55 (h := ?_) | refine R.loadP A55 (h := ?_)
    first | refine R.field F57_7 (h := ?_) | refine R.fieldAt F57_7 (h := ?_)
    refine R.storeP A55 (h := ?_)
    refine .n0 ?_
    refine .seq ?_
    refine .seq ?_
    refine .region rfl ?_
    first | refine R.field F35_0 (h := ?_) | refine R.fieldAt F35_0 (h := ?_)
    first | refine R.loadB O3 (h := ?_) | refine R.load1 O3 (h := ?_)
    refine R.bin (run_eql _ _ _ _ _ _) (h := ?_)
    refine .n0 ?_
    refine LGo.ifd (ht := fun hc7 => ?_) (hf := fun hc7 => ?_)
    ·
     rw [if_pos hc7] at e1
     refine .region rfl ?_
     first | refine R.field F57_0 (h := ?_) | refine R.fieldAt F57_0 (h := ?_)
     refine R.storeB O3 (h := ?_)
     refine .n0 ?_
     refine .seq ?_
     refine .region rfl ?_
     first | refine R.loadA A57 (h := ?_) | refine R.loadN A57 (h := ?_) | refine R.loadP A57 (h := ?_)
     refine R.storeA A57 (h := ?_)
     refine R.assign (h := ?_)
     refine .n0 ?_
     rw [← e1]
     exact LGo.ret (ret_AT Tryz.results29 A57 hA hmd)
    ·
     rw [if_neg hc7] at e1
     refine .skip ?_
     refine .seq ?_
     refine .region rfl ?_
     first | refine R.loadA A57 (h := ?_) | refine R.loadN A57 (h := ?_) | refine R.loadP A57 (h := ?_)
     refine R.storeA A57 (h := ?_)
     refine R.assign (h := ?_)
     refine .n0 ?_
     rw [← e1]
     exact LGo.ret (ret_AT Tryz.results29 A57 hA hmd)
   ·
    have hn2 : ¬ (needsQ r.kind).2.1 = true := by rw [hc6]; simp
    simp only [if_neg hn2] at e1
    refine .skip ?_
    refine .seq ?_
    refine .seq ?_
    refine .region rfl ?_
    first | refine R.field F35_0 (h := ?_) | refine R.fieldAt F35_0 (h := ?_)
    first | refine R.loadB O3 (h := ?_) | refine R.load1 O3 (h := ?_)
    refine R.bin (run_eql _ _ _ _ _ _) (h := ?_)
    refine .n0 ?_
    refine LGo.ifd (ht := fun hc8 => ?_) (hf := fun hc8 => ?_)
    ·
     rw [if_pos hc8] at e1
     refine .region rfl ?_
     first | refine R.field F57_0 (h := ?_) | refine R.fieldAt F57_0 (h := ?_)
     refine R.storeB O3 (h := ?_)
     refine .n0 ?_
     refine .seq ?_
     refine .region rfl ?_
     first | refine R.loadA A57 (h := ?_) | refine R.loadN A57 (h := ?_) | refine R.loadP A57 (h := ?_)
     refine R.storeA A57 (h := ?_)
     refine R.assign (h := ?_)
     refine .n0 ?_
     rw [← e1]
     exact LGo.ret (ret_AT Tryz.results29 A57 hA hmd)
    ·
     rw [if_neg hc8] at e1
     refine .skip ?_
     refine .seq ?_
     refine .region rfl ?_
     first | refine R.loadA A57 (h := ?_) | refine R.loadN A57 (h := ?_) | refine R.loadP A57 (h := ?_)
     refine R.storeA A57 (h := ?_)
     refine R.assign (h := ?_)
     refine .n0 ?_
     rw [← e1]
     exact LGo.ret (ret_AT Tryz.results29 A57 hA hmd)

theorem opR9_P (r : Rq) (hr : RqOk r) (x : Tk) (k : Tt) : PC Tryz.prog 30 [.agg (r.c.map LV.sv), .agg (x.c.map LV.sv), .agg (k.c.map LV.sv)] (.tup [.agg ((opR9 r x k).1.c.map LV.sv), .i (opR9 r x k).2]) := by
 refine ⟨LC.of_go Tryz.func30 (c := _) rfl (by kernel_rfl) (by rw [Tryz.ntmps30]; simp) rfl rfl (by simp [LO.lt, LV.lts, LV.lt]) (by simp) ?_⟩
 intro B hA hmd
 obtain ⟨g, e0⟩ : ∃ g, opR9 r x k = g := ⟨_, rfl⟩
 have e1 := e0
 unfold opR9 at e1
 rw [e0]
 refine .seq ?_
 refine .region rfl ?_
 refine R.box (h := ?_)
 refine R.box (h := ?_)
 refine R.box (h := ?_)
 refine R.alloc Z57 (h := ?_)
 refine R.assign (h := ?_)
 refine .n0 ?_
 refine .seq ?_
 refine .region rfl ?_
 first | refine R.loadA A35 (h := ?_) | refine R.loadN A35 (h := ?_) | refine R.loadP A35 (h := ?_)
 refine R.callP (es := [_]) (fun _ => refCheckQ_P' r hr) (h := ?_)
 refine R.assign (h := ?_)
 refine .n0 ?_
 refine .seq ?_
 refine .seq ?_
 refine .region rfl ?_
 refine R.move (h := ?_)
 refine R.bin (run_neq _ _ _ _ _ _) (h := ?_)
 refine .n0 ?_
 refine LGo.ifb (ht := fun hc => ?_) (hf := fun hc => ?_)
 ·
  rw [if_pos hc] at e1
  refine .seq ?_
  refine .region rfl ?_
  refine R.buildG BG57 (is := []) (ks := []) (xs := []) (es := []) (h := ?_)
  refine R.move (h := ?_)
  refine R.storeA A57 (h := ?_)
  refine R.assign (h := ?_)
  refine .n0 ?_
  rw [← e1]
  exact LGo.ret (ret_AT Tryz.results30 A57 hA hmd)
 ·
  rw [if_neg (by rw [hc]; simp)] at e1
  unfold opOf at e1
  refine .skip ?_
  refine .seq ?_
  refine .region rfl ?_
  first | refine R.field F35_0 (h := ?_) | refine R.fieldAt F35_0 (h := ?_)
  first | refine R.loadB O3 (h := ?_) | refine R.load1 O3 (h := ?_)
  first | refine R.field F35_2 (h := ?_) | refine R.fieldAt F35_2 (h := ?_)
  first | refine R.loadB O33 (h := ?_) | refine R.load1 O33 (h := ?_)
  first | refine R.field F35_6 (h := ?_) | refine R.fieldAt F35_6 (h := ?_)
  first | refine R.loadB O3 (h := ?_) | refine R.load1 O3 (h := ?_)
  first | refine R.field F35_7 (h := ?_) | refine R.fieldAt F35_7 (h := ?_)
  first | refine R.loadB O3 (h := ?_) | refine R.load1 O3 (h := ?_)
  first | refine R.field F35_8 (h := ?_) | refine R.fieldAt F35_8 (h := ?_)
  first | refine R.loadB O3 (h := ?_) | refine R.load1 O3 (h := ?_)
  first | refine R.field F35_3 (h := ?_) | refine R.fieldAt F35_3 (h := ?_)
  first | refine R.loadB O33 (h := ?_) | refine R.load1 O33 (h := ?_)
  refine R.buildG BG57 (is := [0, 1, 3, 4, 5, 6]) (ks := [0, 1, 3, 4, 5, 6]) (xs := [_, _, _, _, _, _]) (es := [_, _, _, _, _, _]) (h := ?_)
  refine R.alloc Z57 (h := ?_)
  refine R.storeA A57 (h := ?_)
  refine .n0 ?_
  refine .seq ?_
  refine .seq ?_
  refine .region rfl ?_
  first | refine R.field F35_0 (h := ?_) | refine R.fieldAt F35_0 (h := ?_)
  first | refine R.loadB O3 (h := ?_) | refine R.load1 O3 (h := ?_)
  refine R.bin (run_eql _ _ _ _ _ _) (h := ?_)
  refine .n0 ?_
  refine LGo.ifd (ht := fun hc2 => ?_) (hf := fun hc2 => ?_)
  ·
   rw [if_pos hc2] at e1
   refine .region rfl ?_
   first | refine R.field F57_0 (h := ?_) | refine R.fieldAt F57_0 (h := ?_)
   refine R.storeB O3 (h := ?_)
   refine .n0 ?_
   refine .seq ?_
   refine .seq ?_
   refine .region rfl ?_
   first | refine R.field F35_0 (h := ?_) | refine R.fieldAt F35_0 (h := ?_)
   first | refine R.loadB O3 (h := ?_) | refine R.load1 O3 (h := ?_)
   refine R.callP (es := [_, _]) (fun _ => hasQ_P r.kind _) (h := ?_)
   refine .n0 ?_
   refine LGo.ifb (ht := fun hc3 => ?_) (hf := fun hc3 => ?_)
   ·
    rw [if_pos hc3, if_pos hc3] at e1
    refine .region rfl ?_
    first | refine R.field F53_0 (h := ?_) | refine R.fieldAt F53_0 (h := ?_)
    first | refine R.loadB O33 (h := ?_) | refine R.load1 O33 (h := ?_)
    first | refine R.field F53_1 (h := ?_) | refine R.fieldAt F53_1 (h := ?_)
    first | refine R.loadB O2 (h := ?_) | refine R.load1 O2 (h := ?_)
    first | refine R.field F57_1 (h := ?_) | refine R.fieldAt F57_1 (h := ?_)
    refine R.storeB O33 (h := ?_)
    first | refine R.field F57_2 (h := ?_) | refine R.fieldAt F57_2 (h := ?_)
    refine R.storeB O2 (h := ?_)
    refine Reg.nil ⟨fun _ => ⟨mixedO, by rfl, by rfl⟩, ?_⟩
    refine .seq ?_
    refine .seq ?_
    refine .region rfl ?_
    first | refine R.field F35_0 (h := ?_) | refine R.fieldAt F35_0 (h := ?_)
    first | refine R.loadB O3 (h := ?_) | refine R.load1 O3 (h := ?_)
    refine R.callP (es := [_, _]) (fun _ => hasQ_P r.kind _) (h := ?_)
    refine .n0 ?_
    refine LGo.ifb (ht := fun hc4 => ?_) (hf := fun hc4 => ?_)
    ·
     rw [if_pos hc4] at e1
     refine .region rfl ?_
     first | refine R.loadA A55 (h := ?_) | refine R.loadN A55 (h := ?_) | refine R.loadP A55 (h := ?_)
     first | refine R.field F57_7 (h := ?_) | refine R.fieldAt F57_7 (h := ?_)
     refine R.storeP A55 (h := ?_)
     refine .n0 ?_
     refine .seq ?_
     refine .region rfl ?_
     first | refine R.loadA A57 (h := ?_) | refine R.loadN A57 (h := ?_) | refine R.loadP A57 (h := ?_)
     refine R.storeA A57 (h := ?_)
     refine R.assign (h := ?_)
     refine .n0 ?_
     rw [← e1]
     exact LGo.ret (ret_AT Tryz.results30 A57 hA hmd)
    ·
     have hn: ¬ hasQ r.kind 4 = true := by rw [hc4]; simp
     simp only [if_neg hn] at e1
     refine .skip ?_
     refine .seq ?_
     refine .region rfl ?_
     first | refine R.loadA A57 (h := ?_) | refine R.loadN A57 (h := ?_) | refine R.loadP A57 (h := ?_)
     refine R.storeA A57 (h := ?_)
     refine R.assign (h := ?_)
     refine .n0 ?_
     rw [← e1]
     exact LGo.ret (ret_AT Tryz.results30 A57 hA hmd)
   ·
    have hn: ¬ hasQ r.kind 3 = true := by rw [hc3]; simp
    simp only [if_neg hn] at e1
    refine .skip ?_
    refine .seq ?_
    refine .seq ?_
    refine .region rfl ?_
    first | refine R.field F35_0 (h := ?_) | refine R.fieldAt F35_0 (h := ?_)
    first | refine R.loadB O3 (h := ?_) | refine R.load1 O3 (h := ?_)
    refine R.callP (es := [_, _]) (fun _ => hasQ_P r.kind _) (h := ?_)
    refine .n0 ?_
    refine LGo.ifb (ht := fun hc5 => ?_) (hf := fun hc5 => ?_)
    ·
     rw [if_pos hc5] at e1
     refine .region rfl ?_
     first | refine R.loadA A55 (h := ?_) | refine R.loadN A55 (h := ?_) | refine R.loadP A55 (h := ?_)
     first | refine R.field F57_7 (h := ?_) | refine R.fieldAt F57_7 (h := ?_)
     refine R.storeP A55 (h := ?_)
     refine .n0 ?_
     refine .seq ?_
     refine .region rfl ?_
     first | refine R.loadA A57 (h := ?_) | refine R.loadN A57 (h := ?_) | refine R.loadP A57 (h := ?_)
     refine R.storeA A57 (h := ?_)
     refine R.assign (h := ?_)
     refine .n0 ?_
     rw [← e1]
     exact LGo.ret (ret_AT Tryz.results30 A57 hA hmd)
    ·
     have hn: ¬ hasQ r.kind 4 = true := by rw [hc5]; simp
     simp only [if_neg hn] at e1
     refine .skip ?_
     refine .seq ?_
     refine .region rfl ?_
     first | refine R.loadA A57 (h := ?_) | refine R.loadN A57 (h := ?_) | refine R.loadP A57 (h := ?_)
     refine R.storeA A57 (h := ?_)
     refine R.assign (h := ?_)
     refine .n0 ?_
     rw [← e1]
     exact LGo.ret (ret_AT Tryz.results30 A57 hA hmd)
  ·
   rw [if_neg hc2] at e1
   refine .skip ?_
   refine .seq ?_
   refine .seq ?_
   refine .region rfl ?_
   first | refine R.field F35_0 (h := ?_) | refine R.fieldAt F35_0 (h := ?_)
   first | refine R.loadB O3 (h := ?_) | refine R.load1 O3 (h := ?_)
   refine R.callP (es := [_, _]) (fun _ => hasQ_P r.kind _) (h := ?_)
   refine .n0 ?_
   refine LGo.ifb (ht := fun hc6 => ?_) (hf := fun hc6 => ?_)
   ·
    rw [if_pos hc6, if_pos hc6] at e1
    refine .region rfl ?_
    first | refine R.field F53_0 (h := ?_) | refine R.fieldAt F53_0 (h := ?_)
    first | refine R.loadB O33 (h := ?_) | refine R.load1 O33 (h := ?_)
    first | refine R.field F53_1 (h := ?_) | refine R.fieldAt F53_1 (h := ?_)
    first | refine R.loadB O2 (h := ?_) | refine R.load1 O2 (h := ?_)
    first | refine R.field F57_1 (h := ?_) | refine R.fieldAt F57_1 (h := ?_)
    refine R.storeB O33 (h := ?_)
    first | refine R.field F57_2 (h := ?_) | refine R.fieldAt F57_2 (h := ?_)
    refine R.storeB O2 (h := ?_)
    refine Reg.nil ⟨fun _ => ⟨mixedO, by rfl, by rfl⟩, ?_⟩
    refine .seq ?_
    refine .seq ?_
    refine .region rfl ?_
    first | refine R.field F35_0 (h := ?_) | refine R.fieldAt F35_0 (h := ?_)
    first | refine R.loadB O3 (h := ?_) | refine R.load1 O3 (h := ?_)
    refine R.callP (es := [_, _]) (fun _ => hasQ_P r.kind _) (h := ?_)
    refine .n0 ?_
    refine LGo.ifb (ht := fun hc7 => ?_) (hf := fun hc7 => ?_)
    ·
     rw [if_pos hc7] at e1
     refine .region rfl ?_
     first | refine R.loadA A55 (h := ?_) | refine R.loadN A55 (h := ?_) | refine R.loadP A55 (h := ?_)
     first | refine R.field F57_7 (h := ?_) | refine R.fieldAt F57_7 (h := ?_)
     refine R.storeP A55 (h := ?_)
     refine .n0 ?_
     refine .seq ?_
     refine .region rfl ?_
     first | refine R.loadA A57 (h := ?_) | refine R.loadN A57 (h := ?_) | refine R.loadP A57 (h := ?_)
     refine R.storeA A57 (h := ?_)
     refine R.assign (h := ?_)
     refine .n0 ?_
     rw [← e1]
     exact LGo.ret (ret_AT Tryz.results30 A57 hA hmd)
    ·
     have hn: ¬ hasQ r.kind 4 = true := by rw [hc7]; simp
     simp only [if_neg hn] at e1
     refine .skip ?_
     refine .seq ?_
     refine .region rfl ?_
     first | refine R.loadA A57 (h := ?_) | refine R.loadN A57 (h := ?_) | refine R.loadP A57 (h := ?_)
     refine R.storeA A57 (h := ?_)
     refine R.assign (h := ?_)
     refine .n0 ?_
     rw [← e1]
     exact LGo.ret (ret_AT Tryz.results30 A57 hA hmd)
   ·
    have hn: ¬ hasQ r.kind 3 = true := by rw [hc6]; simp
    simp only [if_neg hn] at e1
    refine .skip ?_
    refine .seq ?_
    refine .seq ?_
    refine .region rfl ?_
    first | refine R.field F35_0 (h := ?_) | refine R.fieldAt F35_0 (h := ?_)
    first | refine R.loadB O3 (h := ?_) | refine R.load1 O3 (h := ?_)
    refine R.callP (es := [_, _]) (fun _ => hasQ_P r.kind _) (h := ?_)
    refine .n0 ?_
    refine LGo.ifb (ht := fun hc8 => ?_) (hf := fun hc8 => ?_)
    ·
     rw [if_pos hc8] at e1
     refine .region rfl ?_
     first | refine R.loadA A55 (h := ?_) | refine R.loadN A55 (h := ?_) | refine R.loadP A55 (h := ?_)
     first | refine R.field F57_7 (h := ?_) | refine R.fieldAt F57_7 (h := ?_)
     refine R.storeP A55 (h := ?_)
     refine .n0 ?_
     refine .seq ?_
     refine .region rfl ?_
     first | refine R.loadA A57 (h := ?_) | refine R.loadN A57 (h := ?_) | refine R.loadP A57 (h := ?_)
     refine R.storeA A57 (h := ?_)
     refine R.assign (h := ?_)
     refine .n0 ?_
     rw [← e1]
     exact LGo.ret (ret_AT Tryz.results30 A57 hA hmd)
    ·
     have hn: ¬ hasQ r.kind 4 = true := by rw [hc8]; simp
     simp only [if_neg hn] at e1
     refine .skip ?_
     refine .seq ?_
     refine .region rfl ?_
     first | refine R.loadA A57 (h := ?_) | refine R.loadN A57 (h := ?_) | refine R.loadP A57 (h := ?_)
     refine R.storeA A57 (h := ?_)
     refine R.assign (h := ?_)
     refine .n0 ?_
     rw [← e1]
     exact LGo.ret (ret_AT Tryz.results30 A57 hA hmd)

theorem opR9_P' (r : Rq) (hr : RqOk r) (x : Tk) (k : Tt) : PC Tryz.prog 30 [.agg (r.c.map LV.sv), .agg (x.c.map LV.sv), .agg (k.c.map LV.sv)] (.tup [.agg ((opQ r x k).1.c.map LV.sv), .i (opQ r x k).2]) := by rw [op_eq]; exact opR9_P r hr x k

theorem lawOps_P (r : Rq) (hr : RqOk r) (x : Tk) (k : Tt) : PC Tryz.prog 11 [.agg (r.c.map LV.sv), .agg (x.c.map LV.sv), .agg (k.c.map LV.sv)] (.b true) := by
 refine ⟨LC.of_go Tryz.func11 (c := _) rfl (by kernel_rfl) (by rw [Tryz.ntmps11]; simp) rfl rfl (by simp [LO.lt, LV.lts, LV.lt]) (by simp) ?_⟩
 intro B hA hmd
 refine .seq ?_
 refine .region rfl ?_
 refine R.box (h := ?_)
 refine R.box (h := ?_)
 refine R.box (h := ?_)
 refine R.assign (h := ?_)
 refine .n0 ?_
 refine .seq ?_
 refine .seq ?_
 refine .region rfl ?_
 first | refine R.loadA A35 (h := ?_) | refine R.loadN A35 (h := ?_) | refine R.loadP A35 (h := ?_)
 refine R.callP (es := [_]) (fun _ => farQ_P r) (h := ?_)
 refine .n0 ?_
 refine LGo.ifb (ht := fun hc => ?_) (hf := fun hc => ?_)
 ·
  refine .seq ?_
  refine .region rfl ?_
  refine R.callP (es := []) (fun _ => shown_P) (h := ?_)
  refine R.assign (h := ?_)
  refine .n0 ?_
  exact LGo.ret (ret_T Tryz.results11 hA hmd)
 ·
  refine .skip ?_
  refine .seq ?_
  refine .region rfl ?_
  first | refine R.loadA A35 (h := ?_) | refine R.loadN A35 (h := ?_) | refine R.loadP A35 (h := ?_)
  first | refine R.loadA A53 (h := ?_) | refine R.loadN A53 (h := ?_) | refine R.loadP A53 (h := ?_)
  first | refine R.loadA A55 (h := ?_) | refine R.loadN A55 (h := ?_) | refine R.loadP A55 (h := ?_)
  refine R.callP (es := [_, _, _]) (fun _ => opQ_P r hr x k) (h := ?_)
  refine R.move (h := ?_)
  refine R.extract (h := ?_)
  refine R.extract (h := ?_)
  refine R.alloc Z57 (h := ?_)
  refine R.storeA A57 (h := ?_)
  refine R.assign (h := ?_)
  refine .n0 ?_
  refine .seq ?_
  refine .region rfl ?_
  first | refine R.loadA A35 (h := ?_) | refine R.loadN A35 (h := ?_) | refine R.loadP A35 (h := ?_)
  first | refine R.loadA A53 (h := ?_) | refine R.loadN A53 (h := ?_) | refine R.loadP A53 (h := ?_)
  first | refine R.loadA A55 (h := ?_) | refine R.loadN A55 (h := ?_) | refine R.loadP A55 (h := ?_)
  refine R.callP (es := [_, _, _]) (fun _ => opR9_P' r hr x k) (h := ?_)
  refine R.move (h := ?_)
  refine R.extract (h := ?_)
  refine R.extract (h := ?_)
  refine R.alloc Z57 (h := ?_)
  refine R.storeA A57 (h := ?_)
  refine R.assign (h := ?_)
  refine .n0 ?_
  refine .seq ?_
  refine .region rfl ?_
  first | refine R.loadA A57 (h := ?_) | refine R.loadN A57 (h := ?_) | refine R.loadP A57 (h := ?_)
  first | refine R.loadA A57 (h := ?_) | refine R.loadN A57 (h := ?_) | refine R.loadP A57 (h := ?_)
  refine R.binA (EQS57 _ _ _ _ _ _ _ _ _ _ _ _ _ _) (h := ?_)
  refine R.move (h := ?_)
  refine R.move (h := ?_)
  refine R.move (h := ?_)
  refine R.bin (run_eql _ _ _ _ _ _) (h := ?_)
  refine R.and (h := ?_)
  refine R.move (h := ?_)
  refine R.callP (es := []) (fun _ => shown_P) (h := ?_)
  refine R.and (h := ?_)
  refine R.assign (h := ?_)
  refine .n0 ?_
  refine LGo.tru 6 (h := ?_)
  exact LGo.ret (ret_T Tryz.results11 hA hmd)

end Go.Proofs.YtckbomkcnmcdaaaGreatDoor
