/- words: reading an escape, a quoted form, a bare field; the first place of a byte. -/
import Derived.Test.YtcobkjognpjikaaGreatDoorQA
import Derived.Test.YtcobkjognpjikaaGreatDoorL
set_option linter.unusedSimpArgs false
set_option linter.unusedVariables false
namespace Go.Proofs.YtcobkjognpjikaaGreatDoor


theorem indexByte_P (s : List UInt8) (c : UInt8) : PC Tryz.prog 122 [.t s, .y c.toNat] (.i (Lib.indexByte s c)) :=
  PC.of_val (Entr.of Tryz.func122 rfl (by kernel_rfl)) (by simp [LV.lts, LV.lt]) fun cx w vs hl ham hv => by
    obtain ⟨v1, v2, rfl, h2, h3⟩ : ∃ v1 v2, vs = [v1, v2] ∧ V cx w (.t s) v1 ∧ V cx w (.y c.toNat) v2 := by
      simp only [Vs] at hv
      obtain ⟨v1, r1, rfl, h1, v2, r2, rfl, h2, rfl⟩ := hv
      exact ⟨_, _, rfl, h1, h2⟩
    rw [h2.val, h3.val]
    refine (Tryz.strings_IndexByte ⟨s.toArray⟩ (c.toNat : Int) w).mono ?_
    rintro e w' ⟨rfl, rfl⟩
    have e1 : ((c.toNat : Int).toNat.toUInt8) = c := by rw [Int.toNat_natCast]; exact UInt8.ofNat_toNat
    rw [e1]
    exact ⟨rfl, rfl, rfl, rfl, Nat.le_refl _, fun _ _ => rfl⟩
theorem hexIdx (c : UInt8) : Lib.indexByte hexT c = if hexV c < 16 then ((hexV c : Nat) : Int) else -1 :=
  u8_all (p := fun c => Lib.indexByte hexT c = if hexV c < 16 then ((hexV c : Nat) : Int) else -1) (by decide +kernel) c
theorem hexOr {h l : Nat} (hh : h < 16) (hl : l < 16) : IntKind.i64.wrap ((BitVec.ofInt IntKind.i64.bits ((16 * h : Nat) : Int) ||| BitVec.ofInt IntKind.i64.bits ((l : Nat) : Int)).toNat) = ((16 * h + l : Nat) : Int) := by
  have key : ((List.range 16).all fun h => (List.range 16).all fun l => decide (IntKind.i64.wrap ((BitVec.ofInt IntKind.i64.bits ((16 * h : Nat) : Int) ||| BitVec.ofInt IntKind.i64.bits ((l : Nat) : Int)).toNat) = ((16 * h + l : Nat) : Int))) = true := by decide +kernel
  exact of_decide_eq_true (List.all_eq_true.1 (List.all_eq_true.1 key h (List.mem_range.2 hh)) l (List.mem_range.2 hl))
theorem hexShl {h : Nat} (hh : h < 16) : IntKind.i64.wrap ((h : Int) * 2 ^ (min (Int.toNat 4) IntKind.i64.bits)) = ((16 * h : Nat) : Int) := by
  rw [show min (Int.toNat 4) IntKind.i64.bits = 4 from rfl, IntKind.wrap_i64]; omega
theorem hexByte {h l : Nat} (hh : h < 16) (hl : l < 16) : IntKind.u8.wrap ((16 * h + l : Nat) : Int) = ((UInt8.ofNat (16 * h + l)).toNat : Int) := by
  have key : ((List.range 16).all fun h => (List.range 16).all fun l => decide (IntKind.u8.wrap ((16 * h + l : Nat) : Int) = ((UInt8.ofNat (16 * h + l)).toNat : Int))) = true := by decide +kernel
  exact of_decide_eq_true (List.all_eq_true.1 (List.all_eq_true.1 key h (List.mem_range.2 hh)) l (List.mem_range.2 hl))
theorem unesc_le (r : List UInt8) : (unesc r).2 ≤ r.length := by
  by_cases h : (unesc r).2 = 0
  · omega
  · obtain ⟨rest, h1, _, h3⟩ := unesc_sound h
    have := congrArg List.length h1
    rw [List.length_append, h3] at this
    omega

theorem unescape_P (s : List UInt8) : PC Tryz.prog 106 [.t s] (.tup [.y (unesc s).1.toNat, .i (unesc s).2]) := by
 refine ⟨LC.of_go Tryz.func106 (c := _) rfl (by kernel_rfl) (by rw [Tryz.ntmps106]; simp) rfl rfl (by simp [LO.lt, LV.lts, LV.lt]) (by simp) ?_⟩
 intro B hA hmd
 refine .seq ?_
 refine .region rfl ?_
 refine R.assign (h := ?_)
 refine R.assign (h := ?_)
 refine .n0 ?_
 refine .seq ?_
 refine .seq ?_
 refine .region rfl ?_
 refine R.move (h := ?_)
 refine R.bin (run_eqlT _ _ _ _ _) (h := ?_)
 refine .n0 ?_
 refine LGo.ifd (ht := fun hc => ?_) (hf := fun hc => ?_)
 ·
  subst hc
  refine .seq ?_
  refine .region rfl ?_
  refine R.assign (h := ?_)
  refine R.assign (h := ?_)
  refine .n0 ?_
  exact LGo.ret (ret_TT Tryz.results106 hA hmd)
 ·
  obtain ⟨a, r, rfl⟩ : ∃ a r, s = a :: r := by cases s with | nil => exact absurd rfl hc | cons a r => exact ⟨a, r, rfl⟩
  refine .skip ?_
  refine .seq ?_
  refine .seq ?_
  refine .region rfl ?_
  refine R.gLoadN A128 (hm := tabE) (h := ?_)
  refine R.move (h := ?_)
  refine .n0 ?_
  refine .block ?_
  refine .loop ?_
  refine LGo.loopG (σ := Nat) (fun x => x ≤ 5 ∧ (1 ≤ x → a.toNat ≠ 34) ∧ (2 ≤ x → a.toNat ≠ 92) ∧ (3 ≤ x → a.toNat ≠ 110) ∧ (4 ≤ x → a.toNat ≠ 114) ∧ (5 ≤ x → a.toNat ≠ 116)) (fun x => [(12, (true, .i (x : Nat)))]) (fun x => []) (fun x => 5 - x) (0) [(0, _), (11, _)] ⟨by omega, by omega, by omega, by omega, by omega, by omega⟩ (by repeat (first | exact trivial | refine ⟨rfl, ?_⟩)) (by repeat (first | exact trivial | refine ⟨rfl, ?_⟩)) (by repeat (first | exact trivial | refine ⟨rfl, ?_⟩)) ?_
  rintro k ⟨hk, q1, q2, q3, q4, q5⟩ ih
  refine .seq ?_
  refine .region rfl ?_
  refine R.bin (run_lss _ _ _ _ _ _) (h := ?_)
  refine .n0 ?_
  refine .seq ?_
  refine LGo.ifd (ht := fun hc2 => ?_) (hf := fun hc2 => ?_)
  ·
   refine .skip ?_
   refine .seq ?_
   refine .block ?_
   refine .seq ?_
   refine .region rfl ?_
   rcases (show k = 0 ∨ k = 1 ∨ k = 2 ∨ k = 3 ∨ k = 4 by omega) with rfl | rfl | rfl | rfl | rfl
   ·
    refine R.indexVN IV128 (hj := fun _ => by omega) (h := ?_)
    have he : ((((escTab.map (Value.int .u8)).drop (Int.toNat ((0 : Nat) : Int) * 2)).take 2).map LV.v) = [.y 34, .y 34] := rfl
    rw [he]
    clear he
    refine R.alloc Z127 (h := ?_)
    refine R.storeA A127 (h := ?_)
    refine .n0 ?_
    refine .seq ?_
    refine .region rfl ?_
    first | refine R.field F127_1 (h := ?_) | refine R.fieldAt F127_1 (h := ?_)
    first | refine R.loadB O5 (h := ?_) | refine R.load1 O5 (h := ?_)
    refine R.move (h := ?_)
    refine R.indexT Tryz.runUnderlying9 (hj := fun hg => ⟨by omega, rfl⟩) (h := ?_)
    refine R.bin (run_eql _ _ _ _ _ _) (h := ?_)
    refine Reg.nil ⟨fun _ => ⟨mixedO, by rfl, by rfl⟩, ?_⟩
    refine LGo.ifd (ht := fun hc3 => ?_) (hf := fun hc3 => ?_)
    ·
     have he : a.toNat = 34 := by omega
     rw [show unesc (a :: r) = (34, 1) from by simp [unesc, he]]
     refine .seq ?_
     refine .region rfl ?_
     first | refine R.field F127_0 (h := ?_) | refine R.fieldAt F127_0 (h := ?_)
     first | refine R.loadB O5 (h := ?_) | refine R.load1 O5 (h := ?_)
     refine R.assign (h := ?_)
     refine R.assign (h := ?_)
     refine .n0 ?_
     exact LGo.ret (ret_TT Tryz.results106 hA hmd)
    ·
     refine .skip ?_
     refine .inBlock ?_
     refine .region rfl ?_
     first | refine R.add (h := ?_) | refine R.addW (h := ?_)
     refine R.move (h := ?_)
     refine .n0 ?_
     refine .inLoop ?_
     exact LGo.next _ (fun o h => by have := (hA o).1 h; omega) (by omega) (ih 1 ⟨by omega, by omega, by omega, by omega, by omega, by omega⟩ (by omega)) (by repeat (first | exact trivial | refine ⟨rfl, ?_⟩)) (by repeat (first | exact trivial | refine ⟨rfl, ?_⟩))
   ·
    refine R.indexVN IV128 (hj := fun _ => by omega) (h := ?_)
    have he : ((((escTab.map (Value.int .u8)).drop (Int.toNat ((1 : Nat) : Int) * 2)).take 2).map LV.v) = [.y 92, .y 92] := rfl
    rw [he]
    clear he
    refine R.alloc Z127 (h := ?_)
    refine R.storeA A127 (h := ?_)
    refine .n0 ?_
    refine .seq ?_
    refine .region rfl ?_
    first | refine R.field F127_1 (h := ?_) | refine R.fieldAt F127_1 (h := ?_)
    first | refine R.loadB O5 (h := ?_) | refine R.load1 O5 (h := ?_)
    refine R.move (h := ?_)
    refine R.indexT Tryz.runUnderlying9 (hj := fun hg => ⟨by omega, rfl⟩) (h := ?_)
    refine R.bin (run_eql _ _ _ _ _ _) (h := ?_)
    refine Reg.nil ⟨fun _ => ⟨mixedO, by rfl, by rfl⟩, ?_⟩
    refine LGo.ifd (ht := fun hc4 => ?_) (hf := fun hc4 => ?_)
    ·
     have he : a.toNat = 92 := by omega
     rw [show unesc (a :: r) = (92, 1) from by simp [unesc, he]]
     refine .seq ?_
     refine .region rfl ?_
     first | refine R.field F127_0 (h := ?_) | refine R.fieldAt F127_0 (h := ?_)
     first | refine R.loadB O5 (h := ?_) | refine R.load1 O5 (h := ?_)
     refine R.assign (h := ?_)
     refine R.assign (h := ?_)
     refine .n0 ?_
     exact LGo.ret (ret_TT Tryz.results106 hA hmd)
    ·
     refine .skip ?_
     refine .inBlock ?_
     refine .region rfl ?_
     first | refine R.add (h := ?_) | refine R.addW (h := ?_)
     refine R.move (h := ?_)
     refine .n0 ?_
     refine .inLoop ?_
     exact LGo.next _ (fun o h => by have := (hA o).1 h; omega) (by omega) (ih 2 ⟨by omega, by omega, by omega, by omega, by omega, by omega⟩ (by omega)) (by repeat (first | exact trivial | refine ⟨rfl, ?_⟩)) (by repeat (first | exact trivial | refine ⟨rfl, ?_⟩))
   ·
    refine R.indexVN IV128 (hj := fun _ => by omega) (h := ?_)
    have he : ((((escTab.map (Value.int .u8)).drop (Int.toNat ((2 : Nat) : Int) * 2)).take 2).map LV.v) = [.y 10, .y 110] := rfl
    rw [he]
    clear he
    refine R.alloc Z127 (h := ?_)
    refine R.storeA A127 (h := ?_)
    refine .n0 ?_
    refine .seq ?_
    refine .region rfl ?_
    first | refine R.field F127_1 (h := ?_) | refine R.fieldAt F127_1 (h := ?_)
    first | refine R.loadB O5 (h := ?_) | refine R.load1 O5 (h := ?_)
    refine R.move (h := ?_)
    refine R.indexT Tryz.runUnderlying9 (hj := fun hg => ⟨by omega, rfl⟩) (h := ?_)
    refine R.bin (run_eql _ _ _ _ _ _) (h := ?_)
    refine Reg.nil ⟨fun _ => ⟨mixedO, by rfl, by rfl⟩, ?_⟩
    refine LGo.ifd (ht := fun hc5 => ?_) (hf := fun hc5 => ?_)
    ·
     have he : a.toNat = 110 := by omega
     rw [show unesc (a :: r) = (10, 1) from by simp [unesc, he]]
     refine .seq ?_
     refine .region rfl ?_
     first | refine R.field F127_0 (h := ?_) | refine R.fieldAt F127_0 (h := ?_)
     first | refine R.loadB O5 (h := ?_) | refine R.load1 O5 (h := ?_)
     refine R.assign (h := ?_)
     refine R.assign (h := ?_)
     refine .n0 ?_
     exact LGo.ret (ret_TT Tryz.results106 hA hmd)
    ·
     refine .skip ?_
     refine .inBlock ?_
     refine .region rfl ?_
     first | refine R.add (h := ?_) | refine R.addW (h := ?_)
     refine R.move (h := ?_)
     refine .n0 ?_
     refine .inLoop ?_
     exact LGo.next _ (fun o h => by have := (hA o).1 h; omega) (by omega) (ih 3 ⟨by omega, by omega, by omega, by omega, by omega, by omega⟩ (by omega)) (by repeat (first | exact trivial | refine ⟨rfl, ?_⟩)) (by repeat (first | exact trivial | refine ⟨rfl, ?_⟩))
   ·
    refine R.indexVN IV128 (hj := fun _ => by omega) (h := ?_)
    have he : ((((escTab.map (Value.int .u8)).drop (Int.toNat ((3 : Nat) : Int) * 2)).take 2).map LV.v) = [.y 13, .y 114] := rfl
    rw [he]
    clear he
    refine R.alloc Z127 (h := ?_)
    refine R.storeA A127 (h := ?_)
    refine .n0 ?_
    refine .seq ?_
    refine .region rfl ?_
    first | refine R.field F127_1 (h := ?_) | refine R.fieldAt F127_1 (h := ?_)
    first | refine R.loadB O5 (h := ?_) | refine R.load1 O5 (h := ?_)
    refine R.move (h := ?_)
    refine R.indexT Tryz.runUnderlying9 (hj := fun hg => ⟨by omega, rfl⟩) (h := ?_)
    refine R.bin (run_eql _ _ _ _ _ _) (h := ?_)
    refine Reg.nil ⟨fun _ => ⟨mixedO, by rfl, by rfl⟩, ?_⟩
    refine LGo.ifd (ht := fun hc6 => ?_) (hf := fun hc6 => ?_)
    ·
     have he : a.toNat = 114 := by omega
     rw [show unesc (a :: r) = (13, 1) from by simp [unesc, he]]
     refine .seq ?_
     refine .region rfl ?_
     first | refine R.field F127_0 (h := ?_) | refine R.fieldAt F127_0 (h := ?_)
     first | refine R.loadB O5 (h := ?_) | refine R.load1 O5 (h := ?_)
     refine R.assign (h := ?_)
     refine R.assign (h := ?_)
     refine .n0 ?_
     exact LGo.ret (ret_TT Tryz.results106 hA hmd)
    ·
     refine .skip ?_
     refine .inBlock ?_
     refine .region rfl ?_
     first | refine R.add (h := ?_) | refine R.addW (h := ?_)
     refine R.move (h := ?_)
     refine .n0 ?_
     refine .inLoop ?_
     exact LGo.next _ (fun o h => by have := (hA o).1 h; omega) (by omega) (ih 4 ⟨by omega, by omega, by omega, by omega, by omega, by omega⟩ (by omega)) (by repeat (first | exact trivial | refine ⟨rfl, ?_⟩)) (by repeat (first | exact trivial | refine ⟨rfl, ?_⟩))
   ·
    refine R.indexVN IV128 (hj := fun _ => by omega) (h := ?_)
    have he : ((((escTab.map (Value.int .u8)).drop (Int.toNat ((4 : Nat) : Int) * 2)).take 2).map LV.v) = [.y 9, .y 116] := rfl
    rw [he]
    clear he
    refine R.alloc Z127 (h := ?_)
    refine R.storeA A127 (h := ?_)
    refine .n0 ?_
    refine .seq ?_
    refine .region rfl ?_
    first | refine R.field F127_1 (h := ?_) | refine R.fieldAt F127_1 (h := ?_)
    first | refine R.loadB O5 (h := ?_) | refine R.load1 O5 (h := ?_)
    refine R.move (h := ?_)
    refine R.indexT Tryz.runUnderlying9 (hj := fun hg => ⟨by omega, rfl⟩) (h := ?_)
    refine R.bin (run_eql _ _ _ _ _ _) (h := ?_)
    refine Reg.nil ⟨fun _ => ⟨mixedO, by rfl, by rfl⟩, ?_⟩
    refine LGo.ifd (ht := fun hc7 => ?_) (hf := fun hc7 => ?_)
    ·
     have he : a.toNat = 116 := by omega
     rw [show unesc (a :: r) = (9, 1) from by simp [unesc, he]]
     refine .seq ?_
     refine .region rfl ?_
     first | refine R.field F127_0 (h := ?_) | refine R.fieldAt F127_0 (h := ?_)
     first | refine R.loadB O5 (h := ?_) | refine R.load1 O5 (h := ?_)
     refine R.assign (h := ?_)
     refine R.assign (h := ?_)
     refine .n0 ?_
     exact LGo.ret (ret_TT Tryz.results106 hA hmd)
    ·
     refine .skip ?_
     refine .inBlock ?_
     refine .region rfl ?_
     first | refine R.add (h := ?_) | refine R.addW (h := ?_)
     refine R.move (h := ?_)
     refine .n0 ?_
     refine .inLoop ?_
     exact LGo.next _ (fun o h => by have := (hA o).1 h; omega) (by omega) (ih 5 ⟨by omega, by omega, by omega, by omega, by omega, by omega⟩ (by omega)) (by repeat (first | exact trivial | refine ⟨rfl, ?_⟩)) (by repeat (first | exact trivial | refine ⟨rfl, ?_⟩))
  ·
   have n1 := q1 (by omega)
   have n2 := q2 (by omega)
   have n3 := q3 (by omega)
   have n4 := q4 (by omega)
   have n5 := q5 (by omega)
   refine .exit rfl ?_
   refine .seq ?_
   refine .seq ?_
   refine .region rfl ?_
   refine R.move (h := ?_)
   refine R.indexT Tryz.runUnderlying9 (hj := fun hg => ⟨by omega, rfl⟩) (h := ?_)
   refine R.bin (run_neq _ _ _ _ _ _) (h := ?_)
   refine R.move (h := ?_)
   refine R.move (h := ?_)
   refine R.lenT Tryz.runUnderlying9 (h := ?_)
   refine R.bin (run_lss _ _ _ _ _ _) (h := ?_)
   refine R.or (h := ?_)
   refine .n0 ?_
   refine LGo.ifb (ht := fun hc8 => ?_) (hf := fun hc8 => ?_)
   ·
    have he : unesc (a :: r) = (0, 0) := by
      unfold unesc
      simp only []
      rw [if_neg n1, if_neg n2, if_neg n3, if_neg n4, if_neg n5]
      by_cases h6 : a.toNat ≠ 120
      · rw [if_pos h6]
      · rw [if_neg h6]
        match r, hc8 with
        | [], _ => rfl
        | [_], _ => rfl
        | _ :: _ :: _, hc8 => simp at h6; simp [h6] at hc8; omega
    rw [he]
    refine .seq ?_
    refine .region rfl ?_
    refine R.assign (h := ?_)
    refine R.assign (h := ?_)
    refine .n0 ?_
    exact LGo.ret (ret_TT Tryz.results106 hA hmd)
   ·
    obtain ⟨h6, h, l, r, rfl⟩ : a.toNat = 120 ∧ ∃ h l r', r = h :: l :: r' := by
      match r, hc8 with
      | [], hc8 => simp at hc8
      | [_], hc8 => simp at hc8
      | h :: l :: r, hc8 => simp at hc8; exact ⟨by omega, h, l, r, rfl⟩
    refine .skip ?_
    refine .seq ?_
    refine .region rfl ?_
    refine R.move (h := ?_)
    refine R.indexT Tryz.runUnderlying9 (hj := fun hg => ⟨by omega, rfl⟩) (h := ?_)
    refine R.callP (es := [_, _]) (fun _ => indexByte_P hexT h) (h := ?_)
    rw [hexIdx]
    refine R.move (h := ?_)
    refine R.indexT Tryz.runUnderlying9 (hj := fun hg => ⟨by omega, rfl⟩) (h := ?_)
    refine R.callP (es := [_, _]) (fun _ => indexByte_P hexT l) (h := ?_)
    rw [hexIdx]
    refine R.assign (h := ?_)
    refine R.assign (h := ?_)
    refine Reg.nil ⟨fun _ => ⟨mixedO, by rfl, by rfl⟩, ?_⟩
    refine .seq ?_
    refine .seq ?_
    refine .region rfl ?_
    refine R.move (h := ?_)
    refine R.bin (run_lss _ _ _ _ _ _) (h := ?_)
    refine R.move (h := ?_)
    refine R.move (h := ?_)
    refine R.bin (run_lss _ _ _ _ _ _) (h := ?_)
    refine R.or (h := ?_)
    refine .n0 ?_
    refine LGo.ifb (ht := fun hc9 => ?_) (hf := fun hc9 => ?_)
    ·
     have hw : 16 ≤ hexV h ∨ 16 ≤ hexV l := by
       by_cases g1 : hexV h < 16 <;> by_cases g2 : hexV l < 16 <;> simp [g1, g2] at hc9 <;> omega
     rw [show unesc (a :: h :: l :: r) = (0, 0) from by rw [unesc, if_neg n1, if_neg n2, if_neg n3, if_neg n4, if_neg n5, if_neg (by simp [h6])]; exact if_pos hw]
     refine .seq ?_
     refine .region rfl ?_
     refine R.assign (h := ?_)
     refine R.assign (h := ?_)
     refine .n0 ?_
     exact LGo.ret (ret_TT Tryz.results106 hA hmd)
    ·
     obtain ⟨g1, g2⟩ : hexV h < 16 ∧ hexV l < 16 := by
       by_cases g1 : hexV h < 16 <;> by_cases g2 : hexV l < 16 <;> simp [g1, g2] at hc9 ⊢
     rw [if_pos g1, if_pos g2]
     have he : unesc (a :: h :: l :: r) = if (plainC (UInt8.ofNat (16 * hexV h + hexV l)) || decide (escL (UInt8.ofNat (16 * hexV h + hexV l)) ≠ 0)) = true then (0, 0) else (UInt8.ofNat (16 * hexV h + hexV l), 3) := by
       rw [unesc, if_neg n1, if_neg n2, if_neg n3, if_neg n4, if_neg n5, if_neg (by simp [h6])]; exact if_neg (by omega)
     refine .skip ?_
     refine .seq ?_
     refine .region rfl ?_
     refine R.move (h := ?_)
     refine R.bin (run_shlE _ _ _ _ _ _ _ (by omega) (hexShl g1)) (h := ?_)
     refine R.move (h := ?_)
     refine R.bin (run_orE _ _ _ _ _ _ (hexOr g1 g2)) (h := ?_)
     refine R.convW Tryz.runUnderlying3 Tryz.runUnderlying5 (h := ?_)
     rw [hexByte g1 g2]
     generalize UInt8.ofNat (16 * hexV h + hexV l) = c at he
     refine R.assign (h := ?_)
     refine .n0 ?_
     refine .seq ?_
     refine .seq ?_
     refine .region rfl ?_
     refine R.move (h := ?_)
     refine R.callP (es := [_]) (fun _ => isPlain_P _) (h := ?_)
     refine R.move (h := ?_)
     refine R.move (h := ?_)
     refine R.callP (es := [_]) (fun _ => letterOf_P _) (h := ?_)
     refine R.bin (run_neq _ _ _ _ _ _) (h := ?_)
     refine R.or (h := ?_)
     refine .n0 ?_
     refine LGo.ifb (ht := fun hc10 => ?_) (hf := fun hc10 => ?_)
     ·
      rw [he, if_pos (by by_cases g3 : escL c = 0 <;> simp [g3] at hc10 ⊢; exact hc10)]
      refine .seq ?_
      refine .region rfl ?_
      refine R.assign (h := ?_)
      refine R.assign (h := ?_)
      refine .n0 ?_
      exact LGo.ret (ret_TT Tryz.results106 hA hmd)
     ·
      have g4 : (((escL c).toNat : Nat) : Int) = 0 ↔ escL c = 0 := ⟨fun h => UInt8.toNat_inj.1 (by rw [show (0 : UInt8).toNat = 0 from rfl]; omega), fun h => by rw [h]; rfl⟩
      have g5 : plainC c = false ∧ escL c = 0 := by rw [Bool.or_eq_false_iff, Bool.not_eq_false', decide_eq_true_eq, g4] at hc10; exact hc10
      rw [he, if_neg (by simp [g5.1, g5.2])]
      refine .skip ?_
      refine .seq ?_
      refine .region rfl ?_
      refine R.move (h := ?_)
      refine R.assign (h := ?_)
      refine R.assign (h := ?_)
      refine .n0 ?_
      exact LGo.ret (ret_TT Tryz.results106 hA hmd)

theorem unquote_P (s : List UInt8) (hs : s.length ≤ 100000) : PC Tryz.prog 81 [.t s] (.tup [.t (unq s).1, .i (unq s).2]) := by
 refine ⟨LC.of_go Tryz.func81 (c := _) rfl (by kernel_rfl) (by rw [Tryz.ntmps81]; simp) rfl rfl (by simp [LO.lt, LV.lts, LV.lt]) (by simp) ?_⟩
 intro B hA hmd
 refine .seq ?_
 refine .region rfl ?_
 refine R.assign (h := ?_)
 refine R.assign (h := ?_)
 refine .n0 ?_
 refine .seq ?_
 refine .seq ?_
 refine .region rfl ?_
 refine R.move (h := ?_)
 refine R.bin (run_eqlT _ _ _ _ _) (h := ?_)
 refine R.move (h := ?_)
 refine R.move (h := ?_)
 refine R.indexT Tryz.runUnderlying9 (c := s.headD 0) (hj := fun hg => ⟨by omega, by cases s with | nil => simp at hg | cons a r => rfl⟩) (h := ?_)
 refine R.bin (run_neq _ _ _ _ _ _) (h := ?_)
 refine R.or (h := ?_)
 refine .n0 ?_
 refine LGo.ifb (ht := fun hc => ?_) (hf := fun hc => ?_)
 ·
  rw [show unq s = ([], 0) from by
    cases s with
    | nil => rfl
    | cons a r => simp at hc; unfold unq; exact if_neg (by omega)]
  refine .seq ?_
  refine .region rfl ?_
  refine R.assign (h := ?_)
  refine R.assign (h := ?_)
  refine .n0 ?_
  exact LGo.ret (ret_TT Tryz.results81 hA hmd)
 ·
  obtain ⟨hpos, hu⟩ : 1 ≤ s.length ∧ unqGo s.length (s.drop 1) [] 1 = unq s := by
    cases s with
    | nil => simp at hc
    | cons a r => simp at hc; exact ⟨by simp, by unfold unq; simp [show a.toNat = 34 by omega]⟩
  refine .skip ?_
  refine .seq ?_
  refine .region rfl ?_
  refine R.assign (h := ?_)
  refine .n0 ?_
  refine .seq ?_
  refine .seq ?_
  refine .region rfl ?_
  refine R.assign (h := ?_)
  refine .n0 ?_
  refine .block ?_
  refine .loop ?_
  refine LGo.nilRs 4 5 1 (h := ?_)
  refine LGo.loopG (σ := Nat × List UInt8 × Nat) (fun x => 1 ≤ x.1 ∧ x.1 ≤ s.length ∧ s.length - x.1 < x.2.2 ∧ x.2.1.length ≤ x.1 ∧ unqGo x.2.2 (s.drop x.1) x.2.1 x.1 = unq s) (fun x => [(5, (true, .i (x.1 : Nat))), (4, (true, .ref 0))]) (fun x => [(0, .rs 5 1 (bytesC x.2.1))]) (fun x => s.length - x.1) (1, [], s.length) [(0, _)] ⟨Nat.le_refl _, hpos, by dsimp only; omega, Nat.zero_le _, hu⟩ (by repeat (first | exact trivial | refine ⟨rfl, ?_⟩)) (by repeat (first | exact trivial | refine ⟨rfl, ?_⟩)) (by repeat (first | exact trivial | refine ⟨rfl, ?_⟩)) ?_
  rintro ⟨k, acc, f⟩ ⟨hk1, hk, hf, hal, hq⟩ ih
  dsimp only at * 
  refine .seq ?_
  refine .seq ?_
  refine .region rfl ?_
  refine R.move (h := ?_)
  refine R.move (h := ?_)
  refine R.lenT Tryz.runUnderlying9 (h := ?_)
  refine R.bin (run_lss _ _ _ _ _ _) (h := ?_)
  refine .n0 ?_
  refine LGo.ifd (ht := fun hc2 => ?_) (hf := fun hc2 => ?_)
  ·
   have hlt : k < s.length := by omega
   have hx : s[((k : Nat) : Int).toNat]? = some s[k] := by rw [Int.toNat_natCast]; exact List.getElem?_eq_getElem hlt
   have hd : s.drop k = s[k] :: s.drop (k + 1) := List.drop_eq_getElem_cons hlt
   rw [hd] at hq
   generalize s[k] = c at hx hq
   clear hd
   obtain ⟨f, rfl⟩ : ∃ g, f = g + 1 := ⟨f - 1, by omega⟩
   rw [unqGo] at hq
   refine .skip ?_
   refine .seq ?_
   refine .block ?_
   refine .seq ?_
   refine .region rfl ?_
   refine R.move (h := ?_)
   refine R.move (h := ?_)
   refine R.indexT Tryz.runUnderlying9 (hj := fun hg => ⟨by omega, hx⟩) (h := ?_)
   refine R.assign (h := ?_)
   refine .n0 ?_
   refine .block ?_
   refine .seq ?_
   refine .region rfl ?_
   refine R.move (h := ?_)
   refine R.bin (run_eql _ _ _ _ _ _) (h := ?_)
   refine R.assign (h := ?_)
   refine .n0 ?_
   refine LGo.ifd (ht := fun hc3 => ?_) (hf := fun hc3 => ?_)
   ·
    rw [if_pos (by omega)] at hq
    rw [← hq]
    refine LGo.frz 0 (h := ?_)
    refine .seq ?_
    refine .region rfl ?_
    refine R.move (h := ?_)
    refine R.toString Tryz.underlying33 Tryz.underlying5 Tryz.underlying9 (h := ?_)
    refine R.move (h := ?_)
    first | refine R.add (h := ?_) | refine R.addW (h := ?_)
    refine R.assign (h := ?_)
    refine R.assign (h := ?_)
    refine .n0 ?_
    exact LGo.ret (ret_TT Tryz.results81 hA hmd)
   ·
    rw [if_neg (by omega)] at hq
    refine .seq ?_
    refine .region rfl ?_
    refine R.move (h := ?_)
    refine R.bin (run_eql _ _ _ _ _ _) (h := ?_)
    refine R.assign (h := ?_)
    refine .n0 ?_
    refine LGo.ifd (ht := fun hc4 => ?_) (hf := fun hc4 => ?_)
    ·
     rw [if_pos (by omega)] at hq
     have hul := unesc_le (s.drop (k + 1))
     rw [List.length_drop] at hul
     refine .seq ?_
     refine .region rfl ?_
     refine R.move (h := ?_)
     refine R.move (h := ?_)
     first | refine R.add (h := ?_) | refine R.addW (h := ?_)
     refine R.sliceTLo Tryz.runUnderlying9 (ha := fun _ => by omega) (h := ?_)
     rw [show Int.toNat ((k : Int) + 1) = k + 1 from by omega]
     refine R.callP (es := [_]) (fun _ => unescape_P (s.drop (k + 1))) (h := ?_)
     refine R.move (h := ?_)
     refine R.extract (h := ?_)
     refine R.extract (h := ?_)
     refine R.assign (h := ?_)
     refine R.assign (h := ?_)
     refine .n0 ?_
     refine .seq ?_
     refine .seq ?_
     refine .region rfl ?_
     refine R.move (h := ?_)
     refine R.bin (run_eql _ _ _ _ _ _) (h := ?_)
     refine .n0 ?_
     refine LGo.ifd (ht := fun hc5 => ?_) (hf := fun hc5 => ?_)
     ·
      rw [if_pos (by omega)] at hq
      rw [← hq]
      refine .seq ?_
      refine .region rfl ?_
      refine R.assign (h := ?_)
      refine R.assign (h := ?_)
      refine .n0 ?_
      exact LGo.ret (ret_TT Tryz.results81 hA hmd)
     ·
      rw [if_neg (by omega)] at hq
      refine .skip ?_
      refine .seq ?_
      refine .region rfl ?_
      refine R.move (h := ?_)
      refine R.move (h := ?_)
      refine R.buildSliceG AP33 (xs := [_]) (es := [_]) (hcs := CellsOfs.cons (CellsOf.one rfl) CellsOfs.nil) (h := ?_)
      refine R.appendS AP33 (hs := SrcOk.sl Tryz.underlying33 (by simp)) (hlen := by rw [bytesC_length]; simp only [List.length_cons, List.length_nil]; omega) (h := ?_)
      refine R.assign (h := ?_)
      refine .n0 ?_
      refine .region rfl ?_
      refine R.move (h := ?_)
      refine R.move (h := ?_)
      first | refine R.add (h := ?_) | refine R.addW (h := ?_)
      refine R.assign (h := ?_)
      refine .n0 ?_
      refine .inBlock ?_
      refine .inBlock ?_
      refine .region rfl ?_
      refine R.move (h := ?_)
      first | refine R.add (h := ?_) | refine R.addW (h := ?_)
      refine R.assign (h := ?_)
      refine .n0 ?_
      refine .inLoop ?_
      exact LGo.turn [1] (b := 0) (fun o h => by have := (hA o).1 h; omega) (ih (k + (unesc (s.drop (k + 1))).2 + 1, acc ++ [(unesc (s.drop (k + 1))).1], f) ⟨by dsimp only; omega, by dsimp only; omega, by dsimp only; omega, by dsimp only; rw [List.length_append, List.length_cons, List.length_nil]; omega, by dsimp only; rw [← hq, List.drop_drop]; congr 1 <;> first | rfl | omega | (congr 1; omega)⟩ (by dsimp only; omega)) (by repeat (first | exact trivial | refine ⟨rfl, ?_⟩)) ⟨by rw [bytesC_app]; rfl, trivial⟩
    ·
     rw [if_neg (by omega)] at hq
     refine .seq ?_
     refine .region rfl ?_
     refine R.move (h := ?_)
     refine R.callP (es := [_]) (fun _ => isPlain_P _) (h := ?_)
     refine R.assign (h := ?_)
     refine .n0 ?_
     refine LGo.ifb (ht := fun hc6 => ?_) (hf := fun hc6 => ?_)
     ·
      rw [if_pos hc6] at hq
      refine .region rfl ?_
      refine R.move (h := ?_)
      refine R.move (h := ?_)
      refine R.buildSliceG AP33 (xs := [_]) (es := [_]) (hcs := CellsOfs.cons (CellsOf.one rfl) CellsOfs.nil) (h := ?_)
      refine R.appendS AP33 (hs := SrcOk.sl Tryz.underlying33 (by simp)) (hlen := by rw [bytesC_length]; simp only [List.length_cons, List.length_nil]; omega) (h := ?_)
      refine R.assign (h := ?_)
      refine .n0 ?_
      refine .inBlock ?_
      refine .inBlock ?_
      refine .region rfl ?_
      refine R.move (h := ?_)
      first | refine R.add (h := ?_) | refine R.addW (h := ?_)
      refine R.assign (h := ?_)
      refine .n0 ?_
      refine .inLoop ?_
      exact LGo.turn [1] (b := 0) (fun o h => by have := (hA o).1 h; omega) (ih (k + 1, acc ++ [c], f) ⟨by dsimp only; omega, by dsimp only; omega, by dsimp only; omega, by dsimp only; rw [List.length_append, List.length_cons, List.length_nil]; omega, hq⟩ (by dsimp only; omega)) (by repeat (first | exact trivial | refine ⟨rfl, ?_⟩)) ⟨by rw [bytesC_app]; rfl, trivial⟩
     ·
      rw [if_neg (by rw [hc6]; simp)] at hq
      rw [← hq]
      refine .seq ?_
      refine .region rfl ?_
      refine R.assign (h := ?_)
      refine R.assign (h := ?_)
      refine .n0 ?_
      exact LGo.ret (ret_TT Tryz.results81 hA hmd)
  ·
   rw [List.drop_eq_nil_of_le (by omega)] at hq
   have he : unq s = ([], 0) := by rw [← hq]; cases f <;> rfl
   rw [he]
   refine .exit rfl ?_
   refine .seq ?_
   refine .region rfl ?_
   refine R.assign (h := ?_)
   refine R.assign (h := ?_)
   refine .n0 ?_
   exact LGo.ret (ret_TT Tryz.results81 hA hmd)

def bareC (s : List UInt8) : Bool := (s.all fun c => plainC c && !decide (c.toNat = 32)) && !decide (s = [])

theorem isBare_P (s : List UInt8) (hs : s.length ≤ 100000) : PC Tryz.prog 83 [.t s] (.b (bareC s)) := by
 refine ⟨LC.of_go Tryz.func83 (c := _) rfl (by kernel_rfl) (by rw [Tryz.ntmps83]; simp) rfl rfl (by simp [LO.lt, LV.lts, LV.lt]) (by simp) ?_⟩
 intro B hA hmd
 refine .seq ?_
 refine .region rfl ?_
 refine R.assign (h := ?_)
 refine .n0 ?_
 refine .seq ?_
 refine .seq ?_
 refine .region rfl ?_
 refine R.move (h := ?_)
 refine R.lenT Tryz.runUnderlying9 (h := ?_)
 refine R.move (h := ?_)
 refine .n0 ?_
 refine .block ?_
 refine .loop ?_
 refine LGo.loopG (σ := Nat) (fun x => x ≤ s.length ∧ bareC s = ((s.drop x).all (fun c => plainC c && !decide (c.toNat = 32)) && !decide (s = []))) (fun x => [(6, (true, .i (x : Nat)))]) (fun x => []) (fun x => s.length - x) (0) [(0, _), (5, _)] ⟨Nat.zero_le _, rfl⟩ (by repeat (first | exact trivial | refine ⟨rfl, ?_⟩)) (by repeat (first | exact trivial | refine ⟨rfl, ?_⟩)) (by repeat (first | exact trivial | refine ⟨rfl, ?_⟩)) ?_
 rintro k ⟨hk, hq⟩ ih
 refine .seq ?_
 refine .region rfl ?_
 refine R.bin (run_lss _ _ _ _ _ _) (h := ?_)
 refine .n0 ?_
 refine .seq ?_
 refine LGo.ifd (ht := fun hc => ?_) (hf := fun hc => ?_)
 ·
  have hlt : k < s.length := by omega
  have hx : s[((k : Nat) : Int).toNat]? = some s[k] := by rw [Int.toNat_natCast]; exact List.getElem?_eq_getElem hlt
  have hd : s.drop k = s[k] :: s.drop (k + 1) := List.drop_eq_getElem_cons hlt
  rw [hd, List.all_cons] at hq
  generalize s[k] = c at hx hq
  clear hd
  refine .skip ?_
  refine .seq ?_
  refine .block ?_
  refine .seq ?_
  refine .region rfl ?_
  refine R.move (h := ?_)
  refine R.assign (h := ?_)
  refine .n0 ?_
  refine .seq ?_
  refine .region rfl ?_
  refine R.move (h := ?_)
  refine R.move (h := ?_)
  refine R.indexT Tryz.runUnderlying9 (hj := fun hg => ⟨by omega, hx⟩) (h := ?_)
  refine R.callP (es := [_]) (fun _ => isPlain_P _) (h := ?_)
  refine R.not (h := ?_)
  refine R.move (h := ?_)
  refine R.move (h := ?_)
  refine R.move (h := ?_)
  refine R.indexT Tryz.runUnderlying9 (hj := fun hg => ⟨by (simp at hg; omega), hx⟩) (h := ?_)
  refine R.bin (run_eql _ _ _ _ _ _) (h := ?_)
  refine R.or (h := ?_)
  refine .n0 ?_
  refine LGo.ifb (ht := fun hc2 => ?_) (hf := fun hc2 => ?_)
  ·
   rw [show bareC s = false from by rw [hq]; cases hp : plainC c <;> simp [hp] at hc2 ⊢; omega]
   refine .seq ?_
   refine .region rfl ?_
   refine R.assign (h := ?_)
   refine .n0 ?_
   exact LGo.ret (ret_T Tryz.results83 hA hmd)
  ·
   have he : (plainC c && !decide (c.toNat = 32)) = true := by cases hp : plainC c <;> simp [hp] at hc2 ⊢; omega
   rw [he, Bool.true_and] at hq
   refine .skip ?_
   refine .inBlock ?_
   refine .region rfl ?_
   first | refine R.add (h := ?_) | refine R.addW (h := ?_)
   refine R.move (h := ?_)
   refine .n0 ?_
   refine .inLoop ?_
   exact LGo.next _ (fun o h => by have := (hA o).1 h; omega) (by omega) (ih (k + 1) ⟨by omega, hq⟩ (by omega)) (by repeat (first | exact trivial | refine ⟨rfl, ?_⟩)) (by repeat (first | exact trivial | refine ⟨rfl, ?_⟩))
 ·
  rw [List.drop_eq_nil_of_le (by omega)] at hq
  rw [hq]
  refine .exit rfl ?_
  refine .seq ?_
  refine .region rfl ?_
  refine R.move (h := ?_)
  refine R.bin (run_neqT _ _ _ _ _) (h := ?_)
  refine R.assign (h := ?_)
  refine .n0 ?_
  exact LGo.ret (ret_T Tryz.results83 hA hmd)

end Go.Proofs.YtcobkjognpjikaaGreatDoor
