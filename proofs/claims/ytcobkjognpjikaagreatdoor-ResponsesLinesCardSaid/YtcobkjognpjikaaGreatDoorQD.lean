/- words: the fields of a line, one by one. -/
import Derived.Test.YtcobkjognpjikaaGreatDoorQC
set_option linter.unusedSimpArgs false
set_option linter.unusedVariables false
namespace Go.Proofs.YtcobkjognpjikaaGreatDoor


theorem index1_P (s : List UInt8) (c : UInt8) : PC Tryz.prog 123 [.t s, .t [c]] (.i (Lib.indexByte s c)) :=
  PC.of_val (Entr.of Tryz.func123 rfl (by kernel_rfl)) (by simp [LV.lts, LV.lt]) fun cx w vs hl ham hv => by
    obtain ⟨v1, v2, rfl, h2, h3⟩ : ∃ v1 v2, vs = [v1, v2] ∧ V cx w (.t s) v1 ∧ V cx w (.t [c]) v2 := by
      simp only [Vs] at hv
      obtain ⟨v1, r1, rfl, h1, v2, r2, rfl, h2, rfl⟩ := hv
      exact ⟨_, _, rfl, h1, h2⟩
    rw [h2.val, h3.val]
    refine (Tryz.stringslite_Index_one ⟨s.toArray⟩ c w).mono ?_
    rintro e w' ⟨rfl, rfl⟩
    exact ⟨rfl, rfl, rfl, rfl, Nat.le_refl _, fun _ _ => rfl⟩
theorem index_cases (c : UInt8) : ∀ s : List UInt8, (Lib.indexByte s c = -1 ∧ c ∉ s) ∨ ∃ a b, s = a ++ c :: b ∧ c ∉ a ∧ Lib.indexByte s c = (a.length : Nat)
  | [] => .inl ⟨rfl, by simp⟩
  | x :: s => by
    rw [Lib.indexByte]
    by_cases hx : x = c
    · subst hx
      exact .inr ⟨[], s, rfl, by simp, by simp⟩
    · rw [if_neg (by simpa using hx)]
      rcases index_cases c s with ⟨h1, h2⟩ | ⟨a, b, h1, h2, h3⟩
      · rw [h1]; exact .inl ⟨by simp, fun h => (List.mem_cons.1 h).elim (fun e => hx e.symm) h2⟩
      · rw [h3, if_neg (show ¬ (((a.length : Nat) : Int) == -1) = true from by rw [beq_iff_eq]; omega)]
        exact .inr ⟨x :: a, b, by rw [h1]; rfl, fun h => (List.mem_cons.1 h).elim (fun e => hx e.symm) h2, by simp⟩
theorem index_lt {s : List UInt8} {c : UInt8} (h : 0 ≤ Lib.indexByte s c) : ∃ k : Nat, Lib.indexByte s c = k ∧ k < s.length := by
  rcases index_cases c s with ⟨h1, _⟩ | ⟨a, b, h1, _, h3⟩
  · omega
  · exact ⟨a.length, h3, by rw [h1]; simp⟩
/-- what stands before the first c, and what behind it -/
def cut1 (s : List UInt8) (c : UInt8) : List UInt8 := if 0 ≤ Lib.indexByte s c then s.take (Lib.indexByte s c).toNat else s
def cut2 (s : List UInt8) (c : UInt8) : List UInt8 := if 0 ≤ Lib.indexByte s c then s.drop ((Lib.indexByte s c).toNat + 1) else []
def cutIs (s : List UInt8) (c : UInt8) : Bool := decide (0 ≤ Lib.indexByte s c)
theorem cut1_len (s : List UInt8) (c : UInt8) : (cut1 s c).length ≤ s.length := by unfold cut1; split <;> first | (rw [List.length_take]; omega) | omega

theorem cutL_P (s : List UInt8) (c : UInt8) (hs : s.length ≤ 100000) : PC Tryz.prog 107 [.t s, .t [c]] (.tup [.t (cut1 s c), .t (cut2 s c), .b (cutIs s c)]) := by
 refine ⟨LC.of_go Tryz.func107 (c := _) rfl (by kernel_rfl) (by rw [Tryz.ntmps107]; simp) rfl rfl (by simp [LO.lt, LV.lts, LV.lt]) (by simp) ?_⟩
 intro B hA hmd
 unfold cut1 cut2 cutIs
 refine .seq ?_
 refine .region rfl ?_
 refine R.assign (h := ?_)
 refine R.assign (h := ?_)
 refine R.assign (h := ?_)
 refine .n0 ?_
 refine .seq ?_
 refine .seq ?_
 refine .region rfl ?_
 refine R.move (h := ?_)
 refine R.move (h := ?_)
 refine R.callP (es := [_, _]) (fun _ => index1_P s c) (h := ?_)
 refine R.assign (h := ?_)
 refine .n0 ?_
 refine .seq ?_
 refine .region rfl ?_
 refine R.move (h := ?_)
 refine R.bin (run_geq _ _ _ _ _ _) (h := ?_)
 refine .n0 ?_
 refine LGo.ifd (ht := fun hc => ?_) (hf := fun hc => ?_)
 ·
  obtain ⟨k, hk, hkl⟩ := index_lt hc
  rw [hk, Int.toNat_natCast, if_pos (by omega), if_pos (by omega), show decide (0 ≤ (k : Int)) = true from by simp]
  refine .seq ?_
  refine .region rfl ?_
  refine R.move (h := ?_)
  refine R.move (h := ?_)
  refine R.sliceTHi Tryz.runUnderlying9 (ha := fun _ => by omega) (h := ?_)
  rw [Int.toNat_natCast]
  refine R.move (h := ?_)
  refine R.move (h := ?_)
  refine R.move (h := ?_)
  refine R.lenT Tryz.runUnderlying9 (h := ?_)
  first | refine R.add (h := ?_) | refine R.addW (h := ?_)
  rw [show IntKind.i64.wrap ((k : Int) + (([c].length : Nat) : Int)) = ((k + 1 : Nat) : Int) from by rw [IntKind.wrap_i64]; simp; omega]
  refine R.sliceTLo Tryz.runUnderlying9 (ha := fun _ => by omega) (h := ?_)
  rw [Int.toNat_natCast]
  refine R.assign (h := ?_)
  refine R.assign (h := ?_)
  refine R.assign (h := ?_)
  refine Reg.nil ⟨fun _ => ⟨mixedO, by rfl, by rfl⟩, ?_⟩
  exact LGo.ret (ret_TTT Tryz.results107 hA hmd)
 ·
  rw [if_neg hc, if_neg hc, show decide (0 ≤ Lib.indexByte s c) = false from by simp; omega]
  refine .skip ?_
  refine .seq ?_
  refine .region rfl ?_
  refine R.move (h := ?_)
  refine R.assign (h := ?_)
  refine R.assign (h := ?_)
  refine R.assign (h := ?_)
  refine .n0 ?_
  exact LGo.ret (ret_TTT Tryz.results107 hA hmd)

theorem cut_P (s : List UInt8) (c : UInt8) (hs : s.length ≤ 100000) : PC Tryz.prog 82 [.t s, .t [c]] (.tup [.t (cut1 s c), .t (cut2 s c), .b (cutIs s c)]) := by
 refine ⟨LC.of_go Tryz.func82 (c := _) rfl (by kernel_rfl) (by rw [Tryz.ntmps82]; simp) rfl rfl (by simp [LO.lt, LV.lts, LV.lt]) (by simp) ?_⟩
 intro B hA hmd
 refine .seq ?_
 refine .region rfl ?_
 refine R.assign (h := ?_)
 refine R.assign (h := ?_)
 refine R.assign (h := ?_)
 refine .n0 ?_
 refine .seq ?_
 refine .region rfl ?_
 refine R.move (h := ?_)
 refine R.move (h := ?_)
 refine R.callP (es := [_, _]) (fun _ => cutL_P s c hs) (h := ?_)
 refine R.extract (h := ?_)
 refine R.extract (h := ?_)
 refine R.extract (h := ?_)
 refine R.assign (h := ?_)
 refine R.assign (h := ?_)
 refine R.assign (h := ?_)
 refine .n0 ?_
 exact LGo.ret (ret_TTT Tryz.results82 hA hmd)

/-- a field of a line -/
structure Fd where
  s : List UInt8
  q : Bool
def Fd.c (f : Fd) : List SV := [.val (.string ⟨f.s.toArray⟩), .val (.bool f.q)]
theorem unq_le (s : List UInt8) : (unq s).2 ≤ s.length := by
  by_cases h : (unq s).2 = 0
  · omega
  cases s with
  | nil => simp [unq] at h
  | cons a r =>
    unfold unq at h ⊢
    by_cases ha : a.toNat = 34
    · simp only [ha, if_true] at h ⊢
      obtain ⟨t, rest, h1, h2⟩ := unqGo_sound _ _ _ _ h
      rw [h2]
      have := congrArg List.length h1
      simp at this ⊢
      omega
    · simp [ha] at h
/-- the field at the beginning of what is left, and what follows -/
def nextF (rest : List UInt8) : Option (Fd × List UInt8) :=
  if 0 < (unq rest).2 then some (⟨(unq rest).1, true⟩, rest.drop (unq rest).2) else if bareC (cut1 rest 32) = true then some (⟨cut1 rest 32, false⟩, rest.drop (cut1 rest 32).length) else none
/-- the fields, and whether all is well -/
def fldsG : Nat → List UInt8 → List Fd × Bool
  | 0, _ => ([], false)
  | f + 1, rest => match nextF rest with
    | none => ([], false)
    | some (d, []) => ([d], true)
    | some (d, a :: r) => if a.toNat = 32 then (d :: (fldsG f r).1, (fldsG f r).2) else ([], false)
def Fd.y (f : Fd) : List LV := [.agg (f.c.map LV.sv), .b true]
/-- the objects of a round: those of Split -/
abbrev SS (A0 A1 : LO) (A2 A3 : Nat → LO) (line : List UInt8) (A5 A6 : LO) (j : Nat) : List (Nat × LO) := [(0, A0), (1, A1), (2, A2 j), (3, A3 j), (4, .box 9 [.t line]), (5, A5), (6, A6)]

theorem fld_step {f : Nat} {rest r2 : List UInt8} {fd : Fd} {l : List Fd} {j : Nat} {ok : Bool} (hnx : nextF rest = some (fd, r2)) (hq : fldsG (f + 1) rest = (l.drop j, ok)) (hc : (!decide (r2 = []) && !decide (((r2.headD 0).toNat : Int) = 32)) = false) :
    j < l.length ∧ (l.map Fd.y)[j]? = some fd.y ∧ (r2 = [] → j + 1 = l.length ∧ ok = true) ∧ (r2 ≠ [] → 1 ≤ r2.length ∧ fldsG f (r2.drop 1) = (l.drop (j + 1), ok)) := by
  have key : ∀ tl, l.drop j = fd :: tl → j < l.length ∧ (l.map Fd.y)[j]? = some fd.y ∧ l.drop (j + 1) = tl := by
    intro tl h
    have hlt : j < l.length := by
      have := congrArg List.length h
      simp at this; omega
    have h2 := List.drop_eq_getElem_cons hlt
    rw [h] at h2
    simp only [List.cons.injEq] at h2
    exact ⟨hlt, by rw [List.getElem?_map, List.getElem?_eq_getElem hlt, ← h2.1]; rfl, h2.2.symm⟩
  rw [fldsG, hnx] at hq
  cases r2 with
  | nil =>
    simp only [Prod.mk.injEq] at hq
    obtain ⟨k1, k2, k3⟩ := key [] hq.1.symm
    refine ⟨k1, k2, fun _ => ⟨?_, hq.2.symm⟩, fun h => absurd rfl h⟩
    have := congrArg List.length k3
    simp at this; omega
  | cons a r =>
    have ha : a.toNat = 32 := by simp at hc; omega
    simp only [ha, if_true, Prod.mk.injEq] at hq
    obtain ⟨k1, k2, k3⟩ := key _ hq.1.symm
    refine ⟨k1, k2, fun h => (by cases h), fun _ => ⟨by simp, ?_⟩⟩
    rw [k3, ← hq.2]
    rfl
theorem fld_bad {f : Nat} {rest r2 : List UInt8} {fd : Fd} {l : List Fd} {j : Nat} {ok : Bool} (hnx : nextF rest = some (fd, r2)) (hq : fldsG (f + 1) rest = (l.drop j, ok)) (hc : (!decide (r2 = []) && !decide (((r2.headD 0).toNat : Int) = 32)) = true) : l.drop j = [] ∧ ok = false := by
  rw [fldsG, hnx] at hq
  cases r2 with
  | nil => simp at hc
  | cons a r =>
    have ha : ¬ a.toNat = 32 := by simp at hc; omega
    simp only [ha, if_false, Prod.mk.injEq] at hq
    exact ⟨hq.1.symm, hq.2.symm⟩
theorem fld_none {f : Nat} {rest : List UInt8} {l : List Fd} {j : Nat} {ok : Bool} (hnx : nextF rest = none) (hq : fldsG (f + 1) rest = (l.drop j, ok)) : l.drop j = [] ∧ ok = false := by
  rw [fldsG, hnx] at hq
  simp only [Prod.mk.injEq] at hq
  exact ⟨hq.1.symm, hq.2.symm⟩

theorem fieldsIt_ok {line : List UInt8} {l : List Fd} {A0 A1 A5 A6 : LO} {A2 A3 : Nat → LO} (hlen : line.length ≤ 8192) (hl : fldsG (line.length + 1) line = (l, true)) (hlt : ∀ j m, 7 ≤ m → ((SS A0 A1 A2 A3 line A5 A6 j).all fun p => decide (p.1 < m) && p.2.lt m) = true) (h : YG Tryz.prog 6 7 (l.map Fd.y) (SS A0 A1 A2 A3 line A5 A6)) : LC Tryz.prog 80 7 [.yld 6, .ptr 4 0] (SS A0 A1 A2 A3 line A5 A6 0) (.tup []) (SS A0 A1 A2 A3 line A5 A6 l.length) 0 := by
 refine LC.of_go Tryz.func80 (c := _) rfl (by kernel_rfl) (by rw [Tryz.ntmps80]; simp) (by simp [LV.lts, LV.lt]) (h.keys 0 (by omega)) (h.lt 0 (by omega)) (fun p hp' => .inl (by rw [h.keys 0 (by omega), ← h.keys l.length (by simp)]; exact List.mem_map.2 ⟨p, hp', rfl⟩)) ?_
 intro B hA hmd
 refine LGo.scope ?_
 refine .seq ?_
 refine .region rfl ?_
 first | refine R.loadB O9 (h := ?_) | refine R.load1 O9 (h := ?_)
 refine R.assign (h := ?_)
 refine .n0 ?_
 refine .seq ?_
 refine .region rfl ?_
 refine R.alloc Z68 (h := ?_)
 refine .n0 ?_
 refine .seq ?_
 refine .region rfl ?_
 refine R.assign (h := ?_)
 refine .n0 ?_
 refine .seq ?_
 refine LGo.label ?_
 refine LGo.loopG (σ := Nat × Nat × List UInt8 × List UInt8 × Bool) (fun x => x.1 ≤ l.length ∧ x.2.2.1.length < x.2.1 ∧ x.2.2.1.length ≤ 8192 ∧ fldsG x.2.1 x.2.2.1 = (l.drop x.1, true)) (fun x => [(3, (true, .t x.2.2.1)), (4, (true, .ptr 7 0))]) (fun x => SS A0 A1 A2 A3 line A5 A6 x.1 ++ [(7, .box 68 [.t x.2.2.2.1, .b x.2.2.2.2])]) (fun x => x.2.2.1.length) (0, line.length + 1, line, [], false) [(0, _)] ⟨by simp, by dsimp only; omega, hlen, by dsimp only; rw [hl, List.drop_zero]⟩ (by repeat (first | exact trivial | refine ⟨rfl, ?_⟩)) (by repeat (first | exact trivial | refine ⟨rfl, ?_⟩)) (by repeat (first | exact trivial | refine ⟨rfl, ?_⟩)) ?_
 rintro ⟨j, f, rest, a, b⟩ ⟨hj, hf, hr, hq⟩ ihL
 dsimp only at *
 obtain ⟨fs, n, hun⟩ : ∃ fs n, unq rest = (fs, n) := ⟨_, _, rfl⟩
 have hU := unquote_P rest (by omega)
 have hn := unq_le rest
 rw [hun] at hU hn
 dsimp only at hU hn
 refine .seq ?_
 refine .seq ?_
 refine .region rfl ?_
 refine R.move (h := ?_)
 refine R.callP (es := [_]) (fun _ => hU) (h := ?_)
 refine R.move (h := ?_)
 refine R.extract (h := ?_)
 refine R.extract (h := ?_)
 first | refine R.field F68_0 (h := ?_) | refine R.fieldAt F68_0 (h := ?_)
 refine R.storeB O9 (h := ?_)
 refine R.assign (h := ?_)
 refine .n0 ?_
 refine .seq ?_
 refine .region rfl ?_
 refine R.move (h := ?_)
 refine R.bin (run_gtr _ _ _ _ _ _) (h := ?_)
 refine .n0 ?_
 refine LGo.ifd (ht := fun hc => ?_) (hf := fun hc => ?_)
 ·
  have hnx : nextF rest = some (⟨fs, true⟩, rest.drop n) := by unfold nextF; rw [hun]; exact if_pos (by dsimp only; omega)
  refine .seq ?_
  refine .region rfl ?_
  first | refine R.field F68_1 (h := ?_) | refine R.fieldAt F68_1 (h := ?_)
  refine R.storeB O4 (h := ?_)
  refine .n0 ?_
  refine LGo.goto rfl ?_
  refine .seq ?_
  refine .skip ?_
  refine .seq ?_
  refine .region rfl ?_
  refine R.move (h := ?_)
  refine R.move (h := ?_)
  refine R.sliceTLo Tryz.runUnderlying9 (ha := fun _ => by omega) (h := ?_)
  rw [Int.toNat_natCast]
  have hr2 : (rest.drop n).length ≤ rest.length := by rw [List.length_drop]; omega
  generalize rest.drop n = r2 at hnx hr2 ⊢
  obtain ⟨f, rfl⟩ : ∃ g, f = g + 1 := ⟨f - 1, by omega⟩
  refine R.assign (h := ?_)
  refine .n0 ?_
  refine .seq ?_
  refine .seq ?_
  refine .region rfl ?_
  refine R.move (h := ?_)
  refine R.bin (run_neqT _ _ _ _ _) (h := ?_)
  refine R.move (h := ?_)
  refine R.move (h := ?_)
  refine R.indexT Tryz.runUnderlying9 (c := r2.headD 0) (hj := fun hg => ⟨by omega, by cases r2 with | nil => simp at hg | cons a r => rfl⟩) (h := ?_)
  refine R.bin (run_neq _ _ _ _ _ _) (h := ?_)
  refine R.and (h := ?_)
  refine .n0 ?_
  refine LGo.ifb (ht := fun hc2 => ?_) (hf := fun hc2 => ?_)
  ·
   exact absurd (fld_bad hnx hq hc2).2 (by simp)
  ·
   obtain ⟨hjl, hx, hlast, hmore⟩ := fld_step hnx hq hc2
   refine .skip ?_
   refine .seq ?_
   refine .seq ?_
   refine .region rfl ?_
   refine R.move (h := ?_)
   first | refine R.loadA A68 (h := ?_) | refine R.loadN A68 (h := ?_) | refine R.loadP A68 (h := ?_)
   refine R.callYldG (es := [_, _]) (h.at_ hx) (hL := fun k z hz => by rcases k with _ | _ | _ | _ | _ | _ | _ | k <;> first | exact hz | cases hz) (h := ?_)
   refine R.not (h := ?_)
   refine R.move (h := ?_)
   refine R.move (h := ?_)
   refine R.bin (run_eqlT _ _ _ _ _) (h := ?_)
   refine R.or (h := ?_)
   refine .n0 ?_
   refine LGo.ifb (ht := fun hc3 => ?_) (hf := fun hc3 => ?_)
   ·
    obtain ⟨hj1, _⟩ := hlast (by simpa using hc3)
    rw [← hj1]
    refine LGo.drop 7 (fun o h => (hA o).1 h) (by omega) [] (SS A0 A1 A2 A3 line A5 A6 (j + 1)) trivial (h.keep (by simp; omega) _) (by simp) (fun p hp' => by have := List.all_eq_true.1 (hlt (j + 1) 7 (by omega)) p hp'; simpa using this) (h := ?_)
    exact LGo.ret (res0 Tryz.results80 hA hmd (by rfl) (fun _ _ h => h) (.inr rfl))
   ·
    have hne : r2 ≠ [] := by simpa using hc3
    refine .skip ?_
    refine .seq ?_
    refine .region rfl ?_
    refine R.move (h := ?_)
    refine R.sliceTLo Tryz.runUnderlying9 (ha := fun _ => by have := (hmore hne).1; omega) (h := ?_)
    rw [show Int.toNat 1 = 1 from rfl]
    refine R.assign (h := ?_)
    refine .n0 ?_
    refine LGo.goto rfl ?_
    refine .seq ?_
    refine .skip ?_
    exact LGo.next _ (fun o h => by have := (hA o).1 h; omega) (by omega) (ihL (j + 1, f, r2.drop 1, fs, true) ⟨by dsimp only; omega, by dsimp only; rw [List.length_drop]; have := (hmore hne).1; omega, by dsimp only; rw [List.length_drop]; omega, (hmore hne).2⟩ (by dsimp only; rw [List.length_drop]; have := (hmore hne).1; omega)) (by repeat (first | exact trivial | refine ⟨rfl, ?_⟩)) (by repeat (first | exact trivial | refine ⟨rfl, ?_⟩)) (hLl := by rw [List.all_append, hlt (j + 1) 8 (by omega)]; rfl)
 ·
  obtain ⟨fs, hfs⟩ : ∃ x, cut1 rest 32 = x := ⟨_, rfl⟩
  have hCu := cut_P rest 32 (by omega)
  have hfl := cut1_len rest 32
  rw [hfs] at hCu hfl
  refine .skip ?_
  refine .seq ?_
  refine .region rfl ?_
  first | refine R.field F68_1 (h := ?_) | refine R.fieldAt F68_1 (h := ?_)
  refine R.storeB O4 (h := ?_)
  refine .n0 ?_
  refine .seq ?_
  refine .region rfl ?_
  refine R.move (h := ?_)
  refine R.callP (es := [_, _]) (fun _ => hCu) (h := ?_)
  refine R.move (h := ?_)
  refine R.extract (h := ?_)
  refine R.extract (h := ?_)
  refine R.extract (h := ?_)
  first | refine R.field F68_0 (h := ?_) | refine R.fieldAt F68_0 (h := ?_)
  refine R.storeB O9 (h := ?_)
  refine .n0 ?_
  refine .seq ?_
  refine .region rfl ?_
  first | refine R.field F68_0 (h := ?_) | refine R.fieldAt F68_0 (h := ?_)
  first | refine R.loadB O9 (h := ?_) | refine R.load1 O9 (h := ?_)
  refine R.lenT Tryz.runUnderlying9 (h := ?_)
  refine R.assign (h := ?_)
  refine .n0 ?_
  refine .seq ?_
  refine .seq ?_
  refine .region rfl ?_
  first | refine R.field F68_0 (h := ?_) | refine R.fieldAt F68_0 (h := ?_)
  first | refine R.loadB O9 (h := ?_) | refine R.load1 O9 (h := ?_)
  refine R.callP (es := [_]) (fun _ => isBare_P fs (by omega)) (h := ?_)
  refine R.not (h := ?_)
  refine .n0 ?_
  refine LGo.ifb (ht := fun hc4 => ?_) (hf := fun hc4 => ?_)
  ·
   exact absurd (fld_none (f := f - 1) (rest := rest) (l := l) (j := j) (ok := true) (by unfold nextF; rw [hun, if_neg (by dsimp only; omega), hfs, if_neg (by simpa using hc4)]) (by rw [show f - 1 + 1 = f from by omega]; exact hq)).2 (by simp)
  ·
   have hnx : nextF rest = some (⟨fs, false⟩, rest.drop fs.length) := by
     unfold nextF
     rw [hun, if_neg (by dsimp only; omega), hfs, if_pos (by simpa using hc4)]
   obtain ⟨n, hn2⟩ : ∃ n, fs.length = n := ⟨_, rfl⟩
   rw [hn2] at hnx hfl ⊢
   have hn : n ≤ rest.length := hfl
   refine .skip ?_
   refine .seq ?_
   refine LGo.label ?_
   refine .seq ?_
   refine .region rfl ?_
   refine R.move (h := ?_)
   refine R.move (h := ?_)
   refine R.sliceTLo Tryz.runUnderlying9 (ha := fun _ => by omega) (h := ?_)
   rw [Int.toNat_natCast]
   have hr2 : (rest.drop n).length ≤ rest.length := by rw [List.length_drop]; omega
   generalize rest.drop n = r2 at hnx hr2 ⊢
   obtain ⟨f, rfl⟩ : ∃ g, f = g + 1 := ⟨f - 1, by omega⟩
   refine R.assign (h := ?_)
   refine .n0 ?_
   refine .seq ?_
   refine .seq ?_
   refine .region rfl ?_
   refine R.move (h := ?_)
   refine R.bin (run_neqT _ _ _ _ _) (h := ?_)
   refine R.move (h := ?_)
   refine R.move (h := ?_)
   refine R.indexT Tryz.runUnderlying9 (c := r2.headD 0) (hj := fun hg => ⟨by omega, by cases r2 with | nil => simp at hg | cons a r => rfl⟩) (h := ?_)
   refine R.bin (run_neq _ _ _ _ _ _) (h := ?_)
   refine R.and (h := ?_)
   refine .n0 ?_
   refine LGo.ifb (ht := fun hc5 => ?_) (hf := fun hc5 => ?_)
   ·
    exact absurd (fld_bad hnx hq hc5).2 (by simp)
   ·
    obtain ⟨hjl, hx, hlast, hmore⟩ := fld_step hnx hq hc5
    refine .skip ?_
    refine .seq ?_
    refine .seq ?_
    refine .region rfl ?_
    refine R.move (h := ?_)
    first | refine R.loadA A68 (h := ?_) | refine R.loadN A68 (h := ?_) | refine R.loadP A68 (h := ?_)
    refine R.callYldG (es := [_, _]) (h.at_ hx) (hL := fun k z hz => by rcases k with _ | _ | _ | _ | _ | _ | _ | k <;> first | exact hz | cases hz) (h := ?_)
    refine R.not (h := ?_)
    refine R.move (h := ?_)
    refine R.move (h := ?_)
    refine R.bin (run_eqlT _ _ _ _ _) (h := ?_)
    refine R.or (h := ?_)
    refine .n0 ?_
    refine LGo.ifb (ht := fun hc6 => ?_) (hf := fun hc6 => ?_)
    ·
     obtain ⟨hj1, _⟩ := hlast (by simpa using hc6)
     rw [← hj1]
     refine LGo.drop 7 (fun o h => (hA o).1 h) (by omega) [] (SS A0 A1 A2 A3 line A5 A6 (j + 1)) trivial (h.keep (by simp; omega) _) (by simp) (fun p hp' => by have := List.all_eq_true.1 (hlt (j + 1) 7 (by omega)) p hp'; simpa using this) (h := ?_)
     exact LGo.ret (res0 Tryz.results80 hA hmd (by rfl) (fun _ _ h => h) (.inr rfl))
    ·
     have hne : r2 ≠ [] := by simpa using hc6
     refine .skip ?_
     refine .seq ?_
     refine .region rfl ?_
     refine R.move (h := ?_)
     refine R.sliceTLo Tryz.runUnderlying9 (ha := fun _ => by have := (hmore hne).1; omega) (h := ?_)
     rw [show Int.toNat 1 = 1 from rfl]
     refine R.assign (h := ?_)
     refine .n0 ?_
     refine LGo.goto rfl ?_
     refine .seq ?_
     refine .skip ?_
     exact LGo.next _ (fun o h => by have := (hA o).1 h; omega) (by omega) (ihL (j + 1, f, r2.drop 1, fs, false) ⟨by dsimp only; omega, by dsimp only; rw [List.length_drop]; have := (hmore hne).1; omega, by dsimp only; rw [List.length_drop]; omega, (hmore hne).2⟩ (by dsimp only; rw [List.length_drop]; have := (hmore hne).1; omega)) (by repeat (first | exact trivial | refine ⟨rfl, ?_⟩)) (by repeat (first | exact trivial | refine ⟨rfl, ?_⟩)) (hLl := by rw [List.all_append, hlt (j + 1) 8 (by omega)]; rfl)

theorem fieldsIt_err {line : List UInt8} {l : List Fd} {A0 A1 A5 A6 : LO} {A2 A3 : Nat → LO} (hlen : line.length ≤ 8192) (hl : fldsG (line.length + 1) line = (l, false)) (hlt : ∀ j m, 7 ≤ m → ((SS A0 A1 A2 A3 line A5 A6 j).all fun p => decide (p.1 < m) && p.2.lt m) = true) (h : YG Tryz.prog 6 7 (l.map Fd.y) (SS A0 A1 A2 A3 line A5 A6)) {b : Bool} {S2 : List (Nat × LO)} (k2 : S2.map (·.1) = List.range 7) (l2 : ∀ p ∈ S2, p.1 < 7 ∧ p.2.lt 7 = true) (he : Yld Tryz.prog 6 [.agg ((⟨[], false⟩ : Fd).c.map LV.sv), .b false] (SS A0 A1 A2 A3 line A5 A6 l.length) b S2) : LC Tryz.prog 80 7 [.yld 6, .ptr 4 0] (SS A0 A1 A2 A3 line A5 A6 0) (.tup []) S2 0 := by
 refine LC.of_go Tryz.func80 (c := _) rfl (by kernel_rfl) (by rw [Tryz.ntmps80]; simp) (by simp [LV.lts, LV.lt]) (h.keys 0 (by omega)) (h.lt 0 (by omega)) (fun p hp' => .inl (by rw [h.keys 0 (by omega), ← k2]; exact List.mem_map.2 ⟨p, hp', rfl⟩)) ?_
 intro B hA hmd
 refine LGo.scope ?_
 refine .seq ?_
 refine .region rfl ?_
 first | refine R.loadB O9 (h := ?_) | refine R.load1 O9 (h := ?_)
 refine R.assign (h := ?_)
 refine .n0 ?_
 refine .seq ?_
 refine .region rfl ?_
 refine R.alloc Z68 (h := ?_)
 refine .n0 ?_
 refine .seq ?_
 refine .region rfl ?_
 refine R.assign (h := ?_)
 refine .n0 ?_
 refine .seq ?_
 refine LGo.label ?_
 refine LGo.loopG (σ := Nat × Nat × List UInt8 × List UInt8 × Bool) (fun x => x.1 ≤ l.length ∧ x.2.2.1.length < x.2.1 ∧ x.2.2.1.length ≤ 8192 ∧ fldsG x.2.1 x.2.2.1 = (l.drop x.1, false)) (fun x => [(3, (true, .t x.2.2.1)), (4, (true, .ptr 7 0))]) (fun x => SS A0 A1 A2 A3 line A5 A6 x.1 ++ [(7, .box 68 [.t x.2.2.2.1, .b x.2.2.2.2])]) (fun x => x.2.2.1.length) (0, line.length + 1, line, [], false) [(0, _)] ⟨by simp, by dsimp only; omega, hlen, by dsimp only; rw [hl, List.drop_zero]⟩ (by repeat (first | exact trivial | refine ⟨rfl, ?_⟩)) (by repeat (first | exact trivial | refine ⟨rfl, ?_⟩)) (by repeat (first | exact trivial | refine ⟨rfl, ?_⟩)) ?_
 rintro ⟨j, f, rest, a, b⟩ ⟨hj, hf, hr, hq⟩ ihL
 dsimp only at *
 obtain ⟨fs, n, hun⟩ : ∃ fs n, unq rest = (fs, n) := ⟨_, _, rfl⟩
 have hU := unquote_P rest (by omega)
 have hn := unq_le rest
 rw [hun] at hU hn
 dsimp only at hU hn
 refine .seq ?_
 refine .seq ?_
 refine .region rfl ?_
 refine R.move (h := ?_)
 refine R.callP (es := [_]) (fun _ => hU) (h := ?_)
 refine R.move (h := ?_)
 refine R.extract (h := ?_)
 refine R.extract (h := ?_)
 first | refine R.field F68_0 (h := ?_) | refine R.fieldAt F68_0 (h := ?_)
 refine R.storeB O9 (h := ?_)
 refine R.assign (h := ?_)
 refine .n0 ?_
 refine .seq ?_
 refine .region rfl ?_
 refine R.move (h := ?_)
 refine R.bin (run_gtr _ _ _ _ _ _) (h := ?_)
 refine .n0 ?_
 refine LGo.ifd (ht := fun hc => ?_) (hf := fun hc => ?_)
 ·
  have hnx : nextF rest = some (⟨fs, true⟩, rest.drop n) := by unfold nextF; rw [hun]; exact if_pos (by dsimp only; omega)
  refine .seq ?_
  refine .region rfl ?_
  first | refine R.field F68_1 (h := ?_) | refine R.fieldAt F68_1 (h := ?_)
  refine R.storeB O4 (h := ?_)
  refine .n0 ?_
  refine LGo.goto rfl ?_
  refine .seq ?_
  refine .skip ?_
  refine .seq ?_
  refine .region rfl ?_
  refine R.move (h := ?_)
  refine R.move (h := ?_)
  refine R.sliceTLo Tryz.runUnderlying9 (ha := fun _ => by omega) (h := ?_)
  rw [Int.toNat_natCast]
  have hr2 : (rest.drop n).length ≤ rest.length := by rw [List.length_drop]; omega
  generalize rest.drop n = r2 at hnx hr2 ⊢
  obtain ⟨f, rfl⟩ : ∃ g, f = g + 1 := ⟨f - 1, by omega⟩
  refine R.assign (h := ?_)
  refine .n0 ?_
  refine .seq ?_
  refine .seq ?_
  refine .region rfl ?_
  refine R.move (h := ?_)
  refine R.bin (run_neqT _ _ _ _ _) (h := ?_)
  refine R.move (h := ?_)
  refine R.move (h := ?_)
  refine R.indexT Tryz.runUnderlying9 (c := r2.headD 0) (hj := fun hg => ⟨by omega, by cases r2 with | nil => simp at hg | cons a r => rfl⟩) (h := ?_)
  refine R.bin (run_neq _ _ _ _ _ _) (h := ?_)
  refine R.and (h := ?_)
  refine .n0 ?_
  refine LGo.ifb (ht := fun hc2 => ?_) (hf := fun hc2 => ?_)
  ·
   obtain ⟨hz, _⟩ := fld_bad hnx hq hc2
   obtain rfl : j = l.length := by
     have := congrArg List.length hz
     rw [List.length_drop, List.length_nil] at this
     omega
   refine .seq ?_
   refine .region rfl ?_
   refine R.move (h := ?_)
   refine R.build BF68 (is := []) (xs := []) (es := []) (h := ?_)
   refine R.callYldG (es := [_, _]) he (hL := fun k z hz => by rcases k with _ | _ | _ | _ | _ | _ | _ | k <;> first | exact hz | cases hz) (h := ?_)
   refine .n0 ?_
   refine LGo.drop 7 (fun o h => (hA o).1 h) (by omega) [] S2 trivial (KeepL.app (by rw [k2]; exact List.nodup_range)) (by simp) l2 (h := ?_)
   exact LGo.ret (res0 Tryz.results80 hA hmd (by rfl) (fun _ _ h => h) (.inr rfl))
  ·
   obtain ⟨hjl, hx, hlast, hmore⟩ := fld_step hnx hq hc2
   refine .skip ?_
   refine .seq ?_
   refine .seq ?_
   refine .region rfl ?_
   refine R.move (h := ?_)
   first | refine R.loadA A68 (h := ?_) | refine R.loadN A68 (h := ?_) | refine R.loadP A68 (h := ?_)
   refine R.callYldG (es := [_, _]) (h.at_ hx) (hL := fun k z hz => by rcases k with _ | _ | _ | _ | _ | _ | _ | k <;> first | exact hz | cases hz) (h := ?_)
   refine R.not (h := ?_)
   refine R.move (h := ?_)
   refine R.move (h := ?_)
   refine R.bin (run_eqlT _ _ _ _ _) (h := ?_)
   refine R.or (h := ?_)
   refine .n0 ?_
   refine LGo.ifb (ht := fun hc3 => ?_) (hf := fun hc3 => ?_)
   ·
    exact absurd (hlast (by simpa using hc3)).2 (by simp)
   ·
    have hne : r2 ≠ [] := by simpa using hc3
    refine .skip ?_
    refine .seq ?_
    refine .region rfl ?_
    refine R.move (h := ?_)
    refine R.sliceTLo Tryz.runUnderlying9 (ha := fun _ => by have := (hmore hne).1; omega) (h := ?_)
    rw [show Int.toNat 1 = 1 from rfl]
    refine R.assign (h := ?_)
    refine .n0 ?_
    refine LGo.goto rfl ?_
    refine .seq ?_
    refine .skip ?_
    exact LGo.next _ (fun o h => by have := (hA o).1 h; omega) (by omega) (ihL (j + 1, f, r2.drop 1, fs, true) ⟨by dsimp only; omega, by dsimp only; rw [List.length_drop]; have := (hmore hne).1; omega, by dsimp only; rw [List.length_drop]; omega, (hmore hne).2⟩ (by dsimp only; rw [List.length_drop]; have := (hmore hne).1; omega)) (by repeat (first | exact trivial | refine ⟨rfl, ?_⟩)) (by repeat (first | exact trivial | refine ⟨rfl, ?_⟩)) (hLl := by rw [List.all_append, hlt (j + 1) 8 (by omega)]; rfl)
 ·
  obtain ⟨fs, hfs⟩ : ∃ x, cut1 rest 32 = x := ⟨_, rfl⟩
  have hCu := cut_P rest 32 (by omega)
  have hfl := cut1_len rest 32
  rw [hfs] at hCu hfl
  refine .skip ?_
  refine .seq ?_
  refine .region rfl ?_
  first | refine R.field F68_1 (h := ?_) | refine R.fieldAt F68_1 (h := ?_)
  refine R.storeB O4 (h := ?_)
  refine .n0 ?_
  refine .seq ?_
  refine .region rfl ?_
  refine R.move (h := ?_)
  refine R.callP (es := [_, _]) (fun _ => hCu) (h := ?_)
  refine R.move (h := ?_)
  refine R.extract (h := ?_)
  refine R.extract (h := ?_)
  refine R.extract (h := ?_)
  first | refine R.field F68_0 (h := ?_) | refine R.fieldAt F68_0 (h := ?_)
  refine R.storeB O9 (h := ?_)
  refine .n0 ?_
  refine .seq ?_
  refine .region rfl ?_
  first | refine R.field F68_0 (h := ?_) | refine R.fieldAt F68_0 (h := ?_)
  first | refine R.loadB O9 (h := ?_) | refine R.load1 O9 (h := ?_)
  refine R.lenT Tryz.runUnderlying9 (h := ?_)
  refine R.assign (h := ?_)
  refine .n0 ?_
  refine .seq ?_
  refine .seq ?_
  refine .region rfl ?_
  first | refine R.field F68_0 (h := ?_) | refine R.fieldAt F68_0 (h := ?_)
  first | refine R.loadB O9 (h := ?_) | refine R.load1 O9 (h := ?_)
  refine R.callP (es := [_]) (fun _ => isBare_P fs (by omega)) (h := ?_)
  refine R.not (h := ?_)
  refine .n0 ?_
  refine LGo.ifb (ht := fun hc4 => ?_) (hf := fun hc4 => ?_)
  ·
   obtain ⟨hz, _⟩ := fld_none (f := f - 1) (rest := rest) (l := l) (j := j) (ok := false) (by unfold nextF; rw [hun, if_neg (by dsimp only; omega), hfs, if_neg (by simpa using hc4)]) (by rw [show f - 1 + 1 = f from by omega]; exact hq)
   obtain rfl : j = l.length := by
     have := congrArg List.length hz
     rw [List.length_drop, List.length_nil] at this
     omega
   refine .seq ?_
   refine .region rfl ?_
   refine R.move (h := ?_)
   refine R.build BF68 (is := []) (xs := []) (es := []) (h := ?_)
   refine R.callYldG (es := [_, _]) he (hL := fun k z hz => by rcases k with _ | _ | _ | _ | _ | _ | _ | k <;> first | exact hz | cases hz) (h := ?_)
   refine .n0 ?_
   refine LGo.drop 7 (fun o h => (hA o).1 h) (by omega) [] S2 trivial (KeepL.app (by rw [k2]; exact List.nodup_range)) (by simp) l2 (h := ?_)
   exact LGo.ret (res0 Tryz.results80 hA hmd (by rfl) (fun _ _ h => h) (.inr rfl))
  ·
   have hnx : nextF rest = some (⟨fs, false⟩, rest.drop fs.length) := by
     unfold nextF
     rw [hun, if_neg (by dsimp only; omega), hfs, if_pos (by simpa using hc4)]
   obtain ⟨n, hn2⟩ : ∃ n, fs.length = n := ⟨_, rfl⟩
   rw [hn2] at hnx hfl ⊢
   have hn : n ≤ rest.length := hfl
   refine .skip ?_
   refine .seq ?_
   refine LGo.label ?_
   refine .seq ?_
   refine .region rfl ?_
   refine R.move (h := ?_)
   refine R.move (h := ?_)
   refine R.sliceTLo Tryz.runUnderlying9 (ha := fun _ => by omega) (h := ?_)
   rw [Int.toNat_natCast]
   have hr2 : (rest.drop n).length ≤ rest.length := by rw [List.length_drop]; omega
   generalize rest.drop n = r2 at hnx hr2 ⊢
   obtain ⟨f, rfl⟩ : ∃ g, f = g + 1 := ⟨f - 1, by omega⟩
   refine R.assign (h := ?_)
   refine .n0 ?_
   refine .seq ?_
   refine .seq ?_
   refine .region rfl ?_
   refine R.move (h := ?_)
   refine R.bin (run_neqT _ _ _ _ _) (h := ?_)
   refine R.move (h := ?_)
   refine R.move (h := ?_)
   refine R.indexT Tryz.runUnderlying9 (c := r2.headD 0) (hj := fun hg => ⟨by omega, by cases r2 with | nil => simp at hg | cons a r => rfl⟩) (h := ?_)
   refine R.bin (run_neq _ _ _ _ _ _) (h := ?_)
   refine R.and (h := ?_)
   refine .n0 ?_
   refine LGo.ifb (ht := fun hc5 => ?_) (hf := fun hc5 => ?_)
   ·
    obtain ⟨hz, _⟩ := fld_bad hnx hq hc5
    obtain rfl : j = l.length := by
      have := congrArg List.length hz
      rw [List.length_drop, List.length_nil] at this
      omega
    refine .seq ?_
    refine .region rfl ?_
    refine R.move (h := ?_)
    refine R.build BF68 (is := []) (xs := []) (es := []) (h := ?_)
    refine R.callYldG (es := [_, _]) he (hL := fun k z hz => by rcases k with _ | _ | _ | _ | _ | _ | _ | k <;> first | exact hz | cases hz) (h := ?_)
    refine .n0 ?_
    refine LGo.drop 7 (fun o h => (hA o).1 h) (by omega) [] S2 trivial (KeepL.app (by rw [k2]; exact List.nodup_range)) (by simp) l2 (h := ?_)
    exact LGo.ret (res0 Tryz.results80 hA hmd (by rfl) (fun _ _ h => h) (.inr rfl))
   ·
    obtain ⟨hjl, hx, hlast, hmore⟩ := fld_step hnx hq hc5
    refine .skip ?_
    refine .seq ?_
    refine .seq ?_
    refine .region rfl ?_
    refine R.move (h := ?_)
    first | refine R.loadA A68 (h := ?_) | refine R.loadN A68 (h := ?_) | refine R.loadP A68 (h := ?_)
    refine R.callYldG (es := [_, _]) (h.at_ hx) (hL := fun k z hz => by rcases k with _ | _ | _ | _ | _ | _ | _ | k <;> first | exact hz | cases hz) (h := ?_)
    refine R.not (h := ?_)
    refine R.move (h := ?_)
    refine R.move (h := ?_)
    refine R.bin (run_eqlT _ _ _ _ _) (h := ?_)
    refine R.or (h := ?_)
    refine .n0 ?_
    refine LGo.ifb (ht := fun hc6 => ?_) (hf := fun hc6 => ?_)
    ·
     exact absurd (hlast (by simpa using hc6)).2 (by simp)
    ·
     have hne : r2 ≠ [] := by simpa using hc6
     refine .skip ?_
     refine .seq ?_
     refine .region rfl ?_
     refine R.move (h := ?_)
     refine R.sliceTLo Tryz.runUnderlying9 (ha := fun _ => by have := (hmore hne).1; omega) (h := ?_)
     rw [show Int.toNat 1 = 1 from rfl]
     refine R.assign (h := ?_)
     refine .n0 ?_
     refine LGo.goto rfl ?_
     refine .seq ?_
     refine .skip ?_
     exact LGo.next _ (fun o h => by have := (hA o).1 h; omega) (by omega) (ihL (j + 1, f, r2.drop 1, fs, false) ⟨by dsimp only; omega, by dsimp only; rw [List.length_drop]; have := (hmore hne).1; omega, by dsimp only; rw [List.length_drop]; omega, (hmore hne).2⟩ (by dsimp only; rw [List.length_drop]; have := (hmore hne).1; omega)) (by repeat (first | exact trivial | refine ⟨rfl, ?_⟩)) (by repeat (first | exact trivial | refine ⟨rfl, ?_⟩)) (hLl := by rw [List.all_append, hlt (j + 1) 8 (by omega)]; rfl)

end Go.Proofs.YtcobkjognpjikaaGreatDoor
