/- gates: the law GateOnce (walk). -/
import Derived.Test.YtgcjjndhohellaaDoorGW
set_option linter.unusedSimpArgs false
set_option linter.unusedVariables false
namespace Go.Proofs.YtgcjjndhohellaaDoor

section
variable {P : Program} {r : Option Nat} {N : Nat} {D : List Nat} {B : Base} {all : Array Oper} {K : List (Nat × Ct) → St → Prop}
variable {i : Nat} {ops : List Oper} {tr : List (Nat × Ct)} {E : List (Nat × Ent)} {L : List (Nat × LO)} {n : Nat} {g : Bool} {gn : List (Nat × Ent)}
variable {d ty : Nat} {pos : String} {aft : Array Edge} {gd : Option (Nat × Bool)}
/-- a part of a closed thing, as an aggregate -/
theorem R.loadT {T sz : Nat} (hF : AggF P T sz) {x : Operand} {gx : Bool} {cs ds : List SV}
    (ho : all[i]? = some ⟨some d, .load T x, ty, pos, aft, gd⟩ := by rfl) (hg : GuardOk (en E) all gd g gn := by first | exact gN | exact gS rfl rfl)
    (hx : lvOf (en E) x = some (gx, .sv (.at_ cs)) := by rfl) (hgx : g = true → gx = true := by first | exact fun _ => rfl | exact id) (hd : cs.take sz = ds := by rfl) (hc : ds.length = sz := by rfl)
    (h : Reg P r N D B all (i + 1) ops ((i, Ct.p gn [x] [(gx, .sv (.at_ cs))] (some d) (g, .agg (ds.map LV.sv)) []) :: tr) (st ((d, (g, .agg (ds.map LV.sv))) :: E) L n) K) :
    Reg P r N D B all i (⟨some d, .load T x, ty, pos, aft, gd⟩ :: ops) tr (st E L n) K :=
  Reg.one rfl (fun h => by
    rw [entLV_true h hgx]
    refine OpC.of_pure1 (x := x) rfl (by simp) fun md n0 cx H ρ w _ _ hvv => ?_
    have e := hvv
    simp only [V, VS] at e
    obtain ⟨b, off, he, hp, hcc0⟩ := e
    have hcc := hcc0.take0 sz
    rw [hd] at hcc
    obtain ⟨vs, k1, k2, k3⟩ := hcc.vals
    refine ⟨.agg vs.toArray, ?_, by simp only [V]; exact ⟨vs, rfl, Vs.of_vs k1 (fun j c v h1 h2 => (k3 j c v h1 h2).2)⟩⟩
    have hl : (loadCells ⟨b, off, none⟩ vs.length).run P w = .ok vs.toArray w := run_loadCells_list (P := P) w ⟨b, off, none⟩ vs (fun j v hv => by
      have hadd : (⟨b, off, none⟩ : Addr).add j = ⟨b, off + j, none⟩ := by unfold Addr.add; split <;> simp_all
      rw [hadd]; exact k2 j v hv)
    rw [k1, hc] at hl
    simp [execOp, he, Instr.loadAt, Instr.sureAddr, loadVar, hF.1 w, hF.2 w, hl]) ho hg hx (by simp) h
end

theorem countE_P (g : Int) (l : List GtE) : countE g l = (l.countP (fun x => decide (x.gate = g)) : Nat) := by
  have h : ∀ (l : List GtE) (n : Int), l.foldl (fun n x => if x.gate = g then n + 1 else n) n = n + (l.countP (fun x => decide (x.gate = g)) : Nat) := by
    intro l
    induction l with
    | nil => intro n; simp
    | cons x l ih =>
      intro n
      rw [List.foldl_cons, ih, List.countP_cons]
      by_cases hx : x.gate = g <;> simp [hx] <;> omega
  have := h l 0
  rw [Int.zero_add] at this
  exact this
def cntTo (g : Nat) (l : List GtE) : Int := (l.countP (fun x => decide (0 ≤ x.gate) && decide (x.gate < (g : Int))) : Nat)
theorem cntTo_0 (l : List GtE) : cntTo 0 l = 0 := by
  unfold cntTo
  rw [List.countP_eq_zero.2]
  · rfl
  · intro x _
    simp only [Bool.and_eq_true, decide_eq_true_eq, Int.natCast_zero]
    omega
theorem cntTo_succ (g : Nat) : ∀ l : List GtE, cntTo (g + 1) l = cntTo g l + (l.countP (fun x => decide (x.gate = (g : Int))) : Nat)
  | [] => rfl
  | x :: l => by
    have ih := cntTo_succ g l
    unfold cntTo at ih ⊢
    rw [List.countP_cons, List.countP_cons, List.countP_cons]
    by_cases h1 : x.gate = (g : Int)
    · have a : (decide (0 ≤ x.gate) && decide (x.gate < ((g + 1 : Nat) : Int))) = true := by simp only [Bool.and_eq_true, decide_eq_true_eq]; omega
      have b : (decide (0 ≤ x.gate) && decide (x.gate < (g : Int))) = false := by simp only [Bool.and_eq_false_iff, decide_eq_false_iff_not]; omega
      rw [a, b, decide_eq_true h1]
      simp only [↓reduceIte, Bool.false_eq_true]
      push_cast at ih ⊢
      omega
    · have a : (decide (0 ≤ x.gate) && decide (x.gate < ((g + 1 : Nat) : Int))) = (decide (0 ≤ x.gate) && decide (x.gate < (g : Int))) := by
        rw [Bool.eq_iff_iff]; simp only [Bool.and_eq_true, decide_eq_true_eq]; omega
      rw [a, decide_eq_false h1]
      simp only [Bool.false_eq_true, ↓reduceIte]
      push_cast at ih ⊢
      omega
theorem cntTo_le (g : Nat) (l : List GtE) : 0 ≤ cntTo g l ∧ cntTo g l ≤ l.length := by
  unfold cntTo
  have := List.countP_le_length (p := fun x : GtE => decide (0 ≤ x.gate) && decide (x.gate < (g : Int))) (l := l)
  omega
theorem cntTo_all {gs : List GtG} {l : List GtE} (h : ∀ x ∈ l, okE gs x) : cntTo gs.length l = l.length := by
  unfold cntTo
  rw [List.countP_eq_length.2]
  intro x hx
  have := h x hx
  simp only [Bool.and_eq_true, decide_eq_true_eq]
  exact ⟨this.1, this.2.1⟩
theorem findS_in {s : GtS} (hc : checkGS s = 0) {x : GtE} (hx : x ∈ s.ents) : findS s x.key = (x, 0) := by
  obtain ⟨gs, es⟩ := s
  unfold findS
  rw [if_neg (by simp [hc]), find_mem (sort_dist (check_0.1 hc).2.2.1) hx]
theorem findS_out {s : GtS} (hc : checkGS s = 0) {k : K3} (hx : hasK k s.ents = false) : findS s k = (GtE.zero, 4) := by
  unfold findS
  rw [if_neg (by simp [hc]), find_none hx]
theorem play_sub {gs : List GtG} : ∀ (l : List GtC) (es : List GtE), ∀ x ∈ es, x ∈ (playD gs es l).1
  | [], es, x, h => h
  | c :: l, es, x, h => by
    rw [playD]
    refine play_sub l _ x ?_
    unfold stepD
    split
    · simp [h]
    · exact h
theorem hasK_sub {k : K3} {l m : List GtE} (h : hasK k m = false) (hs : ∀ x ∈ l, x ∈ m) : hasK k l = false := hasK_no.2 fun x hx => hasK_no.1 h x (hs x hx)
theorem fr_at {fr : List Int} {j : Nat} (h : j < fr.length) : (ic .i64 fr)[((j : Nat) : Int).toNat]? = some [.val (.int .i64 (fr.getD j 0))] := by
  have := icA (l := fr) h
  rw [List.getD_eq_getElem?_getD, List.getElem?_eq_getElem h]
  exact this
theorem ca_at {l : List GtC} {j : Nat} (h : j < l.length) : (l.map GtC.c)[((j : Nat) : Int).toNat]? = some l[j].c := by simp [h]

theorem key3c (a b : GtC) : ((decide (a.seat = b.seat) && decide (a.serial = b.serial)) && decide (a.epoch = b.epoch)) = decide (a.key = b.key) := by
  rw [Bool.eq_iff_iff]
  simp only [Bool.and_eq_true, decide_eq_true_eq, GtC.key, Prod.mk.injEq]
  constructor
  · rintro ⟨⟨h1, h2⟩, h3⟩; exact ⟨h1, h3, h2⟩
  · rintro ⟨h1, h3, h2⟩; exact ⟨⟨h1, h2⟩, h3⟩
theorem sameTk_P (a b : GtC) : PC Tryd.prog 28 [.agg (tkC a.seat a.owner a.serial a.epoch), .agg (tkC b.seat b.owner b.serial b.epoch)] (.b (decide (a.key = b.key))) := by
 refine ⟨LC.of_go Tryd.func28 (c := _) rfl (by kernel_rfl) (by rw [Tryd.ntmps28]; simp) rfl rfl (by simp [LO.lt, LV.lts, LV.lt, lts_sv]) (by simp) ?_⟩
 intro B hA hmd
 refine .seq ?_
 refine .region rfl ?_
 refine R.box (h := ?_)
 refine R.box (h := ?_)
 refine R.assign (h := ?_)
 refine .n0 ?_
 refine .seq ?_
 refine .region rfl ?_
 first | refine R.field F29_0 (h := ?_) | refine R.fieldAt F29_0 (h := ?_)
 first | refine R.loadB O26 (h := ?_) | refine R.load1 O26 (h := ?_)
 first | refine R.field F29_0 (h := ?_) | refine R.fieldAt F29_0 (h := ?_)
 first | refine R.loadB O26 (h := ?_) | refine R.load1 O26 (h := ?_)
 refine R.bin (run_eql _ _ _ _ _ _) (h := ?_)
 refine R.move (h := ?_)
 first | refine R.field F29_2 (h := ?_) | refine R.fieldAt F29_2 (h := ?_)
 first | refine R.loadB O27 (h := ?_) | refine R.load1 O27 (h := ?_)
 first | refine R.field F29_2 (h := ?_) | refine R.fieldAt F29_2 (h := ?_)
 first | refine R.loadB O27 (h := ?_) | refine R.load1 O27 (h := ?_)
 refine R.bin (run_eql _ _ _ _ _ _) (h := ?_)
 refine R.and (h := ?_)
 refine R.move (h := ?_)
 first | refine R.field F29_3 (h := ?_) | refine R.fieldAt F29_3 (h := ?_)
 first | refine R.loadB O27 (h := ?_) | refine R.load1 O27 (h := ?_)
 first | refine R.field F29_3 (h := ?_) | refine R.fieldAt F29_3 (h := ?_)
 first | refine R.loadB O27 (h := ?_) | refine R.load1 O27 (h := ?_)
 refine R.bin (run_eql _ _ _ _ _ _) (h := ?_)
 refine R.and (h := ?_)
 rw [show ((decide (a.seat = b.seat) && decide (a.serial = b.serial)) && decide (a.epoch = b.epoch)) = decide (a.key = b.key) from key3c a b]
 refine R.assign (h := ?_)
 refine .n0 ?_
 exact LGo.ret (ret_T Tryd.results28 hA hmd)

theorem once_W (s : GtS) (hok : s.ok) (l : List GtC) (hl : l.length ≤ maxLen) (hlu : ∀ c ∈ l, U32 c.seat) : PC Tryd.prog 7 [.agg (s.c.map LV.sv), .sv (.sl 7 (l.map GtC.c))] (.b true) := by
 refine ⟨LC.of_go Tryd.func7 (c := _) rfl (by kernel_rfl) (by rw [Tryd.ntmps7]; simp) rfl rfl (by simp [LO.lt, LV.lts, LV.lt, lts_sv]) (by simp) ?_⟩
 intro B hA hmd
 unfold maxLen at hl
 refine .seq ?_
 refine .region rfl ?_
 refine R.box (h := ?_)
 refine R.assign (h := ?_)
 refine .n0 ?_
 refine .seq ?_
 refine .seq ?_
 refine .region rfl ?_
 first | refine R.loadA A25 (h := ?_) | refine R.loadN A25 (h := ?_) | refine R.loadP A25 (h := ?_)
 refine R.callP (es := [_]) (fun _ => far_P s (far_ok hok).1 (far_ok hok).2.1 (far_ok hok).2.2) (h := ?_)
 refine R.move (h := ?_)
 first | refine R.field F25_1 (h := ?_) | refine R.fieldAt F25_1 (h := ?_)
 first | refine R.loadB O23 (h := ?_) | refine R.load1 O23 (h := ?_)
 first | refine R.len S23 (h := ?_) | refine R.lenRs S23 (h := ?_) | refine R.lenV (run_lenNil S23) (h := ?_)
 rw [List.length_map]
 refine R.bin (run_gtr _ _ _ _ _ _) (h := ?_)
 refine R.or (h := ?_)
 refine R.move (h := ?_)
 refine R.move (h := ?_)
 first | refine R.len S50 (h := ?_) | refine R.lenRs S50 (h := ?_) | refine R.lenV (run_lenNil S50) (h := ?_)
 rw [List.length_map]
 refine R.bin (run_gtr _ _ _ _ _ _) (h := ?_)
 refine R.or (h := ?_)
 refine R.move (h := ?_)
 first | refine R.loadA A25 (h := ?_) | refine R.loadN A25 (h := ?_) | refine R.loadP A25 (h := ?_)
 refine R.callP (es := [_]) (lvs := [.agg (s.c.map LV.sv)]) (out := .i (checkGS s)) (fun hg => ?cc) (h := ?_)
 case cc => (cases hfar : farS s with | false => exact checkGS_P s (far_sm hok hfar).1 | true => simp [hfar] at hg)
 refine R.bin (run_neq _ _ _ _ _ _) (h := ?_)
 refine R.or (h := ?_)
 refine .n0 ?_
 refine LGo.ifb (ht := fun hc => ?_) (hf := fun hc => ?_)
 ·
  refine .seq ?_
  refine .region rfl ?_
  refine R.callP (es := []) (fun _ => shown_P) (h := ?_)
  refine R.assign (h := ?_)
  refine .n0 ?_
  exact LGo.ret (ret_T Tryd.results7 hA hmd)
 ·
  simp only [Bool.or_eq_false_iff, decide_eq_false_iff_not, Bool.not_eq_eq_eq_not, Bool.not_false, decide_eq_true_eq] at hc
  obtain ⟨⟨⟨hfar, he60⟩, hl40⟩, hc0⟩ := hc
  obtain ⟨hs, hg12, h505⟩ := far_sm hok hfar
  have hl4 : l.length ≤ 40 := by omega
  obtain ⟨hpm, hpe, hp5⟩ := play_sm hs l (by omega) hlu
  rw [playS_0 hc0 (by omega)] at hpm
  obtain ⟨fe, fr, hf⟩ : ∃ fe fr, playD s.gates s.ents l = (fe, fr) := ⟨_, _, rfl⟩
  have hca := play_check hc0 l
  rw [hf] at hpm hca
  dsimp only at hpm hca
  obtain ⟨hk1, hk2, hk3, hk4⟩ := check_0.1 (show checkGS ⟨s.gates, s.ents⟩ = 0 from hc0)
  obtain ⟨hq1, hq2, hq3, hq4⟩ := play_inv (gs := s.gates) l s.ents (sort_dist hk3) hk2 hk4
  rw [hf] at hq1 hq2 hq3 hq4
  dsimp only at hq1 hq2 hq3 hq4
  have hpf := sortE_perm fe
  have hin : ∀ x : GtE, x ∈ fe → U32 x.seat → ∀ o, PC Tryd.prog 15 [.agg ((GtS.mk s.gates (sortE fe)).c.map LV.sv), .agg (tkC x.seat o x.serial x.epoch)] (.tup [.agg (x.c.map LV.sv), .i 0]) := fun x hx hu o => by
    have h := find_P ⟨s.gates, sortE fe⟩ hpm x.seat o x.serial x.epoch hu
    rw [show (x.seat, x.epoch, x.serial) = x.key from rfl, findS_in hca (hpf.mem_iff.2 hx)] at h
    exact h
  have hout : ∀ z : GtC, hasK z.key s.ents = false → U32 z.seat → PC Tryd.prog 15 [.agg (s.c.map LV.sv), .agg (tkC z.seat z.owner z.serial z.epoch)] (.tup [.agg (GtE.zero.c.map LV.sv), .i 4]) := fun z hz hu => by
    have h := find_P s hs z.seat z.owner z.serial z.epoch hu
    rw [show (z.seat, z.epoch, z.serial) = z.key from rfl, findS_out hc0 hz] at h
    exact h
  have hcn : ∀ g : Nat, g < s.gates.length → PC Tryd.prog 17 [.agg ((GtS.mk s.gates (sortE fe)).c.map LV.sv), .i g] (.tup [.i (fe.countP (fun x => decide (x.gate = (g : Int))) : Nat), .i 0]) := fun g hg => by
    have h := count_P ⟨s.gates, sortE fe⟩ hpm g
    unfold countS at h
    rw [if_neg (by simp [hca]), if_neg (by simp; omega)] at h
    dsimp only at h
    rw [countE_P, hpf.countP_eq] at h
    exact h
  have hgl8 : s.gates.length ≤ 12 := hg12
  refine .skip ?_
  refine .seq ?_
  refine .region rfl ?_
  first | refine R.loadA A25 (h := ?_) | refine R.loadN A25 (h := ?_) | refine R.loadP A25 (h := ?_)
  refine R.move (h := ?_)
  refine R.callP (es := [_, _]) (fun _ => playL hs hc0 hf (by omega) hlu) (h := ?_)
  refine R.move (h := ?_)
  refine R.extract (h := ?_)
  refine R.extract (h := ?_)
  refine R.extract (h := ?_)
  refine R.alloc Z25 (h := ?_)
  refine R.storeA A25 (h := ?_)
  refine R.assign (h := ?_)
  refine R.assign (h := ?_)
  refine .n0 ?_
  refine .seq ?_
  refine .seq ?_
  refine .region rfl ?_
  refine R.move (h := ?_)
  refine R.bin (run_neq _ _ _ _ _ _) (h := ?_)
  rw [show (!decide ((0 : Int) = 0)) = false from rfl]
  refine R.move (h := ?_)
  refine R.move (h := ?_)
  first | refine R.len S51 (h := ?_) | refine R.lenRs S51 (h := ?_) | refine R.lenV (run_lenNil S51) (h := ?_)
  rw [ic_len]
  refine R.move (h := ?_)
  first | refine R.len S50 (h := ?_) | refine R.lenRs S50 (h := ?_) | refine R.lenV (run_lenNil S50) (h := ?_)
  rw [List.length_map]
  refine R.bin (run_neq _ _ _ _ _ _) (h := ?_)
  rw [show (!decide ((fr.length : Int) = (l.length : Int))) = false from by simp [hq4]]
  refine R.or (h := ?_)
  refine R.move (h := ?_)
  first | refine R.loadA A25 (h := ?_) | refine R.loadN A25 (h := ?_) | refine R.loadP A25 (h := ?_)
  refine R.callP (es := [_]) (fun hg => checkGS_P _ hpm) (h := ?_)
  rw [hca]
  refine R.bin (run_neq _ _ _ _ _ _) (h := ?_)
  refine R.or (h := ?_)
  refine .n0 ?_
  refine LGo.ifb (ht := fun hc2 => by simp at hc2) (hf := fun hc2 => ?_)
  refine .skip ?_
  refine .seq ?_
  refine .region rfl ?_
  refine R.assign (h := ?_)
  refine .n0 ?_
  refine .seq ?_
  refine .seq ?_
  refine .region rfl ?_
  refine R.assign (h := ?_)
  refine .n0 ?_
  refine .block ?_
  refine .loop ?_
  refine LGo.loopG (σ := Nat × List GtE × Nat) (fun x => x.1 ≤ l.length ∧ fr.drop x.1 = (playD s.gates x.2.1 (l.drop x.1)).2 ∧ (playD s.gates x.2.1 (l.drop x.1)).1 = fe ∧ (∀ y ∈ s.ents, y ∈ x.2.1) ∧ (∀ j (hj : j < l.length), j < x.1 → fr.getD j 0 = 0 → l[j].ent ∈ x.2.1) ∧ x.2.1.length = s.ents.length + x.2.2 ∧ x.2.2 ≤ x.1) (fun x => [(9, (true, .i (x.1 : Nat))), (8, (true, .i (x.2.2 : Nat)))]) (fun x => [(0, .box 25 (s.c.map LV.sv)), (1, .box 25 ((GtS.mk s.gates (sortE fe)).c.map LV.sv))]) (fun x => l.length - x.1) (0, s.ents, 0) [(1, _), (2, _), (5, _), (6, _)] ⟨Nat.zero_le _, by dsimp only; rw [List.drop_zero, List.drop_zero, hf], by dsimp only; rw [List.drop_zero, hf], fun x h => h, fun j _ h => absurd h (Nat.not_lt_zero j), rfl, Nat.le_refl _⟩ (by repeat (first | exact trivial | refine ⟨rfl, ?_⟩)) (by repeat (first | exact trivial | refine ⟨rfl, ?_⟩)) (by repeat (first | exact trivial | refine ⟨rfl, ?_⟩)) ?_
  rintro ⟨k, es, n⟩ ⟨hk, hdr, hfe, hsub, hmem, hlen, hnk⟩ ih
  dsimp only at * 
  refine .seq ?_
  refine .seq ?_
  refine .region rfl ?_
  refine R.move (h := ?_)
  refine R.move (h := ?_)
  first | refine R.len S50 (h := ?_) | refine R.lenRs S50 (h := ?_) | refine R.lenV (run_lenNil S50) (h := ?_)
  rw [List.length_map]
  refine R.bin (run_lss _ _ _ _ _ _) (h := ?_)
  refine .n0 ?_
  refine LGo.ifd (ht := fun hc3 => ?_) (hf := fun hc3 => ?_)
  ·
   have hlt : k < l.length := by omega
   have hx : (l.map GtC.c)[((k : Nat) : Int).toNat]? = some l[k].c := by simp [hlt]
   have hd : l.drop k = l[k] :: l.drop (k + 1) := List.drop_eq_getElem_cons hlt
   rw [hd, playD] at hdr hfe
   dsimp only at hdr hfe
   have hzu := hlu l[k] (List.getElem_mem hlt)
   have hzk : ∀ j (hj : j < l.length), j = k → l[j] = l[k] := fun j hj e => by subst e; rfl
   generalize l[k] = z at hx hdr hfe hzu hzk
   clear hd
   obtain ⟨hx2, hdr2⟩ := frop hdr
   have hfk : fr.getD k 0 = refuse s.gates es z := by
     have h0 := congrArg (fun t => t[0]?) hdr
     simp only [List.getElem?_drop, Nat.add_zero, List.getElem?_cons_zero] at h0
     rw [List.getD_eq_getElem?_getD, h0]; rfl
   refine .skip ?_
   refine .seq ?_
   refine .block ?_
   refine .seq ?_
   refine .seq ?_
   refine .region rfl ?_
   refine R.move (h := ?_)
   refine R.move (h := ?_)
   refine R.index I51 (hj := fun hg => ⟨by omega, hx2⟩) (h := ?_)
   first | refine R.loadB O35 (h := ?_) | refine R.load1 O35 (h := ?_)
   refine R.bin (run_neq _ _ _ _ _ _) (h := ?_)
   refine .n0 ?_
   refine LGo.ifb (ht := fun hc4 => ?_) (hf := fun hc4 => ?_)
   ·
    have hr0 : refuse s.gates es z ≠ 0 := by simpa using hc4
    have hst : stepD s.gates es z = es := if_neg hr0
    rw [hst] at hdr2 hfe
    refine .exit rfl ?_
    refine .region rfl ?_
    refine R.move (h := ?_)
    first | refine R.add (h := ?_) | refine R.addW (h := ?_)
    refine R.assign (h := ?_)
    refine .n0 ?_
    refine .inLoop ?_
    exact LGo.next _ (fun o h => by have := (hA o).1 h; omega) (by omega) (ih (k + 1, es, n) ⟨by dsimp only; omega, hdr2, hfe, hsub, fun j hj hjk h0 => by rcases Nat.lt_succ_iff_lt_or_eq.1 hjk with h | h; exact hmem j hj h h0; subst h; rw [hfk] at h0; exact absurd h0 hr0, hlen, by dsimp only; omega⟩ (by dsimp only; omega)) (by repeat (first | exact trivial | refine ⟨rfl, ?_⟩)) ⟨rfl, rfl, trivial⟩
   ·
    have hr0 : refuse s.gates es z = 0 := by simpa using hc4
    have hst : stepD s.gates es z = es ++ [z.ent] := if_pos hr0
    rw [hst] at hdr2 hfe
    have hhk := (refuse_0.1 hr0).2.1
    have hzf : z.ent ∈ fe := by rw [← hfe]; exact play_sub _ _ _ (by simp)
    have hF1 := hout z (hasK_sub hhk hsub) hzu
    have hF2 := hin z.ent hzf hzu z.owner
    refine .skip ?_
    refine .seq ?_
    refine .region rfl ?_
    refine R.move (h := ?_)
    first | refine R.add (h := ?_) | refine R.addW (h := ?_)
    refine R.assign (h := ?_)
    refine .n0 ?_
    refine .seq ?_
    refine .region rfl ?_
    first | refine R.loadA A25 (h := ?_) | refine R.loadN A25 (h := ?_) | refine R.loadP A25 (h := ?_)
    refine R.move (h := ?_)
    refine R.move (h := ?_)
    refine R.index I50 (hj := fun hg => ⟨by omega, hx⟩) (h := ?_)
    first | refine R.field F31_1 (h := ?_) | refine R.fieldAt F31_1 (h := ?_)
    refine R.loadT A29 (h := ?_)
    refine R.callP (es := [_, _]) (fun _ => hF1) (h := ?_)
    refine R.move (h := ?_)
    refine R.extract (h := ?_)
    refine R.extract (h := ?_)
    refine R.alloc Z40 (h := ?_)
    refine R.storeA A40 (h := ?_)
    refine R.assign (h := ?_)
    refine Reg.nil ⟨fun _ => ⟨mixedO, by rfl, by rfl⟩, ?_⟩
    refine .seq ?_
    refine .region rfl ?_
    first | refine R.loadA A25 (h := ?_) | refine R.loadN A25 (h := ?_) | refine R.loadP A25 (h := ?_)
    refine R.move (h := ?_)
    refine R.move (h := ?_)
    refine R.index I50 (hj := fun hg => ⟨by omega, hx⟩) (h := ?_)
    first | refine R.field F31_1 (h := ?_) | refine R.fieldAt F31_1 (h := ?_)
    refine R.loadT A29 (h := ?_)
    refine R.callP (es := [_, _]) (fun _ => hF2) (h := ?_)
    refine R.move (h := ?_)
    refine R.extract (h := ?_)
    refine R.extract (h := ?_)
    refine R.alloc Z40 (h := ?_)
    refine R.storeA A40 (h := ?_)
    refine R.assign (h := ?_)
    refine Reg.nil ⟨fun _ => ⟨mixedO, by rfl, by rfl⟩, ?_⟩
    refine .seq ?_
    refine .seq ?_
    refine .region rfl ?_
    refine R.move (h := ?_)
    refine R.bin (run_neq _ _ _ _ _ _) (h := ?_)
    refine R.move (h := ?_)
    refine R.move (h := ?_)
    refine R.bin (run_neq _ _ _ _ _ _) (h := ?_)
    refine R.or (h := ?_)
    refine R.move (h := ?_)
    first | refine R.loadA A40 (h := ?_) | refine R.loadN A40 (h := ?_) | refine R.loadP A40 (h := ?_)
    refine R.move (h := ?_)
    refine R.move (h := ?_)
    refine R.index I50 (hj := fun hg => ⟨by (simp at hg; omega), hx⟩) (h := ?_)
    first | refine R.field F31_1 (h := ?_) | refine R.fieldAt F31_1 (h := ?_)
    first | refine R.field F29_0 (h := ?_) | refine R.fieldAt F29_0 (h := ?_)
    first | refine R.loadB O26 (h := ?_) | refine R.load1 O26 (h := ?_)
    refine R.move (h := ?_)
    refine R.move (h := ?_)
    refine R.index I50 (hj := fun hg => ⟨by (simp at hg; omega), hx⟩) (h := ?_)
    first | refine R.field F31_1 (h := ?_) | refine R.fieldAt F31_1 (h := ?_)
    first | refine R.field F29_2 (h := ?_) | refine R.fieldAt F29_2 (h := ?_)
    first | refine R.loadB O27 (h := ?_) | refine R.load1 O27 (h := ?_)
    refine R.move (h := ?_)
    refine R.move (h := ?_)
    refine R.index I50 (hj := fun hg => ⟨by (simp at hg; omega), hx⟩) (h := ?_)
    first | refine R.field F31_1 (h := ?_) | refine R.fieldAt F31_1 (h := ?_)
    first | refine R.field F29_3 (h := ?_) | refine R.fieldAt F29_3 (h := ?_)
    first | refine R.loadB O27 (h := ?_) | refine R.load1 O27 (h := ?_)
    refine R.move (h := ?_)
    refine R.move (h := ?_)
    refine R.index I50 (hj := fun hg => ⟨by (simp at hg; omega), hx⟩) (h := ?_)
    first | refine R.field F31_0 (h := ?_) | refine R.fieldAt F31_0 (h := ?_)
    first | refine R.loadB O3 (h := ?_) | refine R.load1 O3 (h := ?_)
    refine R.move (h := ?_)
    refine R.move (h := ?_)
    refine R.index I50 (hj := fun hg => ⟨by (simp at hg; omega), hx⟩) (h := ?_)
    first | refine R.field F31_3 (h := ?_) | refine R.fieldAt F31_3 (h := ?_)
    first | refine R.loadB O2 (h := ?_) | refine R.load1 O2 (h := ?_)
    refine R.build BF40 (is := [0, 1, 2, 3, 4]) (xs := [_, _, _, _, _]) (es := [_, _, _, _, _]) (h := ?_)
    refine R.binA (NE40 _ _ _ _ _ _ _ _ _ _ _ _) (h := ?_)
    refine R.or (h := ?_)
    refine Reg.nil ⟨fun _ => ⟨mixedO, by rfl, by rfl⟩, ?_⟩
    refine LGo.ifb (ht := fun hc5 => by simp [GtC.ent] at hc5) (hf := fun hc5 => ?_)
    refine .skip ?_
    refine .seq ?_
    refine .region rfl ?_
    refine R.assign (h := ?_)
    refine .n0 ?_
    refine .block ?_
    refine .loop ?_
    refine LGo.loopG (σ := Nat) (fun x => x ≤ k) (fun x => [(14, (true, .i (x : Nat)))]) (fun x => [(0, .box 25 (s.c.map LV.sv)), (1, .box 25 ((GtS.mk s.gates (sortE fe)).c.map LV.sv))]) (fun x => k - x) (0) [(1, _), (2, _), (5, _), (6, _), (8, _), (9, _), (98, _), (99, _), (102, _), (103, _), (104, _), (105, _), (106, _), (107, _), (108, _), (109, _), (110, _), (111, _), (112, _), (113, _), (114, _), (115, _), (116, _), (117, _), (118, _), (119, _), (120, _), (121, _), (122, _), (123, _), (124, _), (125, _), (126, _), (127, _), (128, _), (129, _), (130, _), (131, _), (132, _)] (Nat.zero_le _) (by repeat (first | exact trivial | refine ⟨rfl, ?_⟩)) (by repeat (first | exact trivial | refine ⟨rfl, ?_⟩)) (by repeat (first | exact trivial | refine ⟨rfl, ?_⟩)) ?_
    rintro j hj ih2
    refine .seq ?_
    refine .seq ?_
    refine .region rfl ?_
    refine R.move (h := ?_)
    refine R.move (h := ?_)
    refine R.bin (run_lss _ _ _ _ _ _) (h := ?_)
    refine .n0 ?_
    refine LGo.ifd (ht := fun hc6 => ?_) (hf := fun hc6 => ?_)
    ·
     have hjl : j < l.length := by omega
     have hxf := fr_at (fr := fr) (j := j) (by omega)
     have hxj := ca_at hjl
     have hne : fr.getD j 0 = 0 → l[j].key ≠ z.key := fun h0 => hasK_no.1 hhk _ (hmem j hjl (by omega) h0)
     generalize l[j] = y at hxj hne
     generalize fr.getD j 0 = fj at hxf hne
     refine .skip ?_
     refine .seq ?_
     refine .block ?_
     refine .seq ?_
     refine .region rfl ?_
     refine R.move (h := ?_)
     refine R.move (h := ?_)
     refine R.index I51 (hj := fun hg => ⟨by omega, hxf⟩) (h := ?_)
     first | refine R.loadB O35 (h := ?_) | refine R.load1 O35 (h := ?_)
     refine R.bin (run_eql _ _ _ _ _ _) (h := ?_)
     refine R.move (h := ?_)
     refine R.move (h := ?_)
     refine R.move (h := ?_)
     refine R.index I50 (hj := fun hg => ⟨by (simp at hg; omega), hxj⟩) (h := ?_)
     first | refine R.field F31_1 (h := ?_) | refine R.fieldAt F31_1 (h := ?_)
     refine R.loadT A29 (h := ?_)
     refine R.move (h := ?_)
     refine R.move (h := ?_)
     refine R.index I50 (hj := fun hg => ⟨by (simp at hg; omega), hx⟩) (h := ?_)
     first | refine R.field F31_1 (h := ?_) | refine R.fieldAt F31_1 (h := ?_)
     refine R.loadT A29 (h := ?_)
     refine R.callP (es := [_, _]) (fun _ => sameTk_P y z) (h := ?_)
     refine R.and (h := ?_)
     refine Reg.nil ⟨fun _ => ⟨mixedO, by rfl, by rfl⟩, ?_⟩
     refine LGo.ifb (ht := fun hc7 => by simp only [Bool.and_eq_true, decide_eq_true_eq] at hc7; exact absurd hc7.2 (hne hc7.1)) (hf := fun hc7 => ?_)
     refine .skip ?_
     refine .inBlock ?_
     refine .region rfl ?_
     refine R.move (h := ?_)
     first | refine R.add (h := ?_) | refine R.addW (h := ?_)
     refine R.assign (h := ?_)
     refine .n0 ?_
     refine .inLoop ?_
     exact LGo.next _ (fun o h => by have := (hA o).1 h; omega) (by omega) (ih2 (j + 1) (by omega) (by omega)) (by repeat (first | exact trivial | refine ⟨rfl, ?_⟩)) ⟨rfl, rfl, trivial⟩
    ·
     refine .exit rfl ?_
     refine .inBlock ?_
     refine .region rfl ?_
     refine R.move (h := ?_)
     first | refine R.add (h := ?_) | refine R.addW (h := ?_)
     refine R.assign (h := ?_)
     refine .n0 ?_
     refine .inLoop ?_
     exact LGo.next _ (fun o h => by have := (hA o).1 h; omega) (by omega) (ih (k + 1, es ++ [z.ent], n + 1) ⟨by dsimp only; omega, hdr2, hfe, fun x h => by simp [hsub x h], fun j hj hjk h0 => by rcases Nat.lt_succ_iff_lt_or_eq.1 hjk with h | h; simp [hmem j hj h h0]; rw [hzk j hj h]; simp, by dsimp only; rw [List.length_append, List.length_cons, List.length_nil, hlen]; omega, by dsimp only; omega⟩ (by dsimp only; omega)) (by repeat (first | exact trivial | refine ⟨rfl, ?_⟩)) ⟨rfl, rfl, trivial⟩
  ·
   rw [List.drop_eq_nil_of_le (show l.length ≤ k by omega), playD] at hfe
   dsimp only at hfe
   subst hfe
   have hlen2 : ((GtS.mk s.gates (sortE es)).ents.length : Int) = (s.ents.length : Int) + (n : Int) := by show ((sortE es).length : Int) = _; rw [hpf.length_eq, hlen]; push_cast; rfl
   refine .exit rfl ?_
   refine .seq ?_
   refine .seq ?_
   refine .region rfl ?_
   refine R.assign (h := ?_)
   refine .n0 ?_
   refine .block ?_
   refine .loop ?_
   refine LGo.loopG (σ := Nat) (fun x => x ≤ s.ents.length) (fun x => [(15, (true, .i (x : Nat)))]) (fun x => [(0, .box 25 (s.c.map LV.sv)), (1, .box 25 ((GtS.mk s.gates (sortE es)).c.map LV.sv))]) (fun x => s.ents.length - x) (0) [(2, _), (5, _), (8, _)] (Nat.zero_le _) (by repeat (first | exact trivial | refine ⟨rfl, ?_⟩)) (by repeat (first | exact trivial | refine ⟨rfl, ?_⟩)) (by repeat (first | exact trivial | refine ⟨rfl, ?_⟩)) ?_
   rintro m hm ih3
   refine .seq ?_
   refine .seq ?_
   refine .region rfl ?_
   refine R.move (h := ?_)
   first | refine R.field F25_1 (h := ?_) | refine R.fieldAt F25_1 (h := ?_)
   first | refine R.loadB O23 (h := ?_) | refine R.load1 O23 (h := ?_)
   first | refine R.len S23 (h := ?_) | refine R.lenRs S23 (h := ?_) | refine R.lenV (run_lenNil S23) (h := ?_)
   rw [List.length_map]
   refine R.bin (run_lss _ _ _ _ _ _) (h := ?_)
   refine .n0 ?_
   refine LGo.ifd (ht := fun hc8 => ?_) (hf := fun hc8 => ?_)
   ·
    have hlt : m < s.ents.length := by omega
    have hx : (s.ents.map GtE.c)[((m : Nat) : Int).toNat]? = some s.ents[m].c := by simp [hlt]
    have hF3 := hin s.ents[m] (hsub _ (List.getElem_mem hlt)) (hs.2.2 _ (List.getElem_mem hlt)) 0
    generalize s.ents[m] = x at hx hF3
    refine .skip ?_
    refine .seq ?_
    refine .block ?_
    refine .seq ?_
    refine .region rfl ?_
    first | refine R.loadA A25 (h := ?_) | refine R.loadN A25 (h := ?_) | refine R.loadP A25 (h := ?_)
    first | refine R.field F25_1 (h := ?_) | refine R.fieldAt F25_1 (h := ?_)
    first | refine R.loadB O23 (h := ?_) | refine R.load1 O23 (h := ?_)
    refine R.move (h := ?_)
    refine R.index I23 (hj := fun hg => ⟨by omega, hx⟩) (h := ?_)
    first | refine R.field F40_0 (h := ?_) | refine R.fieldAt F40_0 (h := ?_)
    first | refine R.loadB O26 (h := ?_) | refine R.load1 O26 (h := ?_)
    first | refine R.field F25_1 (h := ?_) | refine R.fieldAt F25_1 (h := ?_)
    first | refine R.loadB O23 (h := ?_) | refine R.load1 O23 (h := ?_)
    refine R.move (h := ?_)
    refine R.index I23 (hj := fun hg => ⟨by omega, hx⟩) (h := ?_)
    first | refine R.field F40_1 (h := ?_) | refine R.fieldAt F40_1 (h := ?_)
    first | refine R.loadB O27 (h := ?_) | refine R.load1 O27 (h := ?_)
    first | refine R.field F25_1 (h := ?_) | refine R.fieldAt F25_1 (h := ?_)
    first | refine R.loadB O23 (h := ?_) | refine R.load1 O23 (h := ?_)
    refine R.move (h := ?_)
    refine R.index I23 (hj := fun hg => ⟨by omega, hx⟩) (h := ?_)
    first | refine R.field F40_2 (h := ?_) | refine R.fieldAt F40_2 (h := ?_)
    first | refine R.loadB O27 (h := ?_) | refine R.load1 O27 (h := ?_)
    refine R.build BF29 (is := [0, 2, 3]) (xs := [_, _, _]) (es := [_, _, _]) (h := ?_)
    refine R.callP (es := [_, _]) (fun _ => hF3) (h := ?_)
    refine R.move (h := ?_)
    refine R.extract (h := ?_)
    refine R.extract (h := ?_)
    refine R.alloc Z40 (h := ?_)
    refine R.storeA A40 (h := ?_)
    refine R.assign (h := ?_)
    refine Reg.nil ⟨fun _ => ⟨mixedO, by rfl, by rfl⟩, ?_⟩
    refine .seq ?_
    refine .region rfl ?_
    first | refine R.loadA A40 (h := ?_) | refine R.loadN A40 (h := ?_) | refine R.loadP A40 (h := ?_)
    first | refine R.field F25_1 (h := ?_) | refine R.fieldAt F25_1 (h := ?_)
    first | refine R.loadB O23 (h := ?_) | refine R.load1 O23 (h := ?_)
    refine R.move (h := ?_)
    refine R.index I23 (hj := fun hg => ⟨by omega, hx⟩) (h := ?_)
    first | refine R.loadA A40 (h := ?_) | refine R.loadN A40 (h := ?_) | refine R.loadP A40 (h := ?_)
    refine R.binA (NE40 _ _ _ _ _ _ _ _ _ _ _ _) (h := ?_)
    refine R.move (h := ?_)
    refine R.move (h := ?_)
    refine R.bin (run_neq _ _ _ _ _ _) (h := ?_)
    refine R.or (h := ?_)
    refine Reg.nil ⟨fun _ => ⟨mixedO, by rfl, by rfl⟩, ?_⟩
    refine LGo.ifb (ht := fun hc9 => by simp at hc9) (hf := fun hc9 => ?_)
    refine .skip ?_
    refine .inBlock ?_
    refine .region rfl ?_
    refine R.move (h := ?_)
    first | refine R.add (h := ?_) | refine R.addW (h := ?_)
    refine R.assign (h := ?_)
    refine .n0 ?_
    refine .inLoop ?_
    exact LGo.next _ (fun o h => by have := (hA o).1 h; omega) (by omega) (ih3 (m + 1) (by omega) (by omega)) (by repeat (first | exact trivial | refine ⟨rfl, ?_⟩)) ⟨rfl, rfl, trivial⟩
   ·
    refine .exit rfl ?_
    refine .seq ?_
    refine .region rfl ?_
    refine R.assign (h := ?_)
    refine .n0 ?_
    refine .seq ?_
    refine .seq ?_
    refine .region rfl ?_
    refine R.assign (h := ?_)
    refine .n0 ?_
    refine .block ?_
    refine .loop ?_
    refine LGo.loopG (σ := Nat × Int) (fun x => x.1 ≤ s.gates.length ∧ x.2 = cntTo x.1 es) (fun x => [(19, (true, .i (x.1 : Nat))), (18, (true, .i x.2))]) (fun x => [(0, .box 25 (s.c.map LV.sv)), (1, .box 25 ((GtS.mk s.gates (sortE es)).c.map LV.sv))]) (fun x => s.gates.length - x.1) (0, 0) [(2, _), (5, _), (8, _)] ⟨Nat.zero_le _, (cntTo_0 _).symm⟩ (by repeat (first | exact trivial | refine ⟨rfl, ?_⟩)) (by repeat (first | exact trivial | refine ⟨rfl, ?_⟩)) (by repeat (first | exact trivial | refine ⟨rfl, ?_⟩)) ?_
    rintro ⟨g, q⟩ ⟨hg, hq⟩ ih4
    dsimp only at * 
    refine .seq ?_
    refine .seq ?_
    refine .region rfl ?_
    refine R.move (h := ?_)
    first | refine R.field F25_0 (h := ?_) | refine R.fieldAt F25_0 (h := ?_)
    first | refine R.loadB O22 (h := ?_) | refine R.load1 O22 (h := ?_)
    first | refine R.len S22 (h := ?_) | refine R.lenRs S22 (h := ?_) | refine R.lenV (run_lenNil S22) (h := ?_)
    rw [List.length_map]
    refine R.bin (run_lss _ _ _ _ _ _) (h := ?_)
    refine R.move (h := ?_)
    refine R.move (h := ?_)
    refine R.bin (run_lss _ _ _ _ _ _) (h := ?_)
    refine R.and (h := ?_)
    refine .n0 ?_
    refine LGo.ifb (ht := fun hc10 => ?_) (hf := fun hc10 => ?_)
    ·
     have hglt : g < s.gates.length := by simp only [Bool.and_eq_true, decide_eq_true_eq] at hc10; omega
     have hF4 := hcn g hglt
     have hsc := cntTo_succ g es
     have hb1 := cntTo_le g es
     have hb2 := cntTo_le (g + 1) es
     rw [← hq] at hsc hb1
     generalize es.countP (fun x => decide (x.gate = (g : Int))) = cg at hF4 hsc
     refine .skip ?_
     refine .seq ?_
     refine .block ?_
     refine .seq ?_
     refine .region rfl ?_
     first | refine R.loadA A25 (h := ?_) | refine R.loadN A25 (h := ?_) | refine R.loadP A25 (h := ?_)
     refine R.move (h := ?_)
     refine R.callP (es := [_, _]) (fun _ => hF4) (h := ?_)
     refine R.move (h := ?_)
     refine R.extract (h := ?_)
     refine R.extract (h := ?_)
     refine R.assign (h := ?_)
     refine R.assign (h := ?_)
     refine .n0 ?_
     refine .seq ?_
     refine .seq ?_
     refine .region rfl ?_
     refine R.move (h := ?_)
     refine R.bin (run_neq _ _ _ _ _ _) (h := ?_)
     refine .n0 ?_
     refine LGo.ifb (ht := fun hc11 => by simp at hc11) (hf := fun hc11 => ?_)
     refine .skip ?_
     refine .region rfl ?_
     refine R.move (h := ?_)
     refine R.move (h := ?_)
     first | refine R.add (h := ?_) | refine R.addW (h := ?_)
     refine R.assign (h := ?_)
     refine .n0 ?_
     refine .inBlock ?_
     refine .region rfl ?_
     refine R.move (h := ?_)
     first | refine R.add (h := ?_) | refine R.addW (h := ?_)
     refine R.assign (h := ?_)
     refine .n0 ?_
     refine .inLoop ?_
     exact LGo.next _ (fun o h => by have := (hA o).1 h; omega) (by omega) (ih4 (g + 1, q + (cg : Nat)) ⟨by dsimp only; omega, by dsimp only; exact hsc.symm⟩ (by dsimp only; omega)) (by repeat (first | exact trivial | refine ⟨rfl, ?_⟩)) ⟨rfl, rfl, trivial⟩
    ·
     have hge : g = s.gates.length := by simp only [Bool.and_eq_false_iff, decide_eq_false_iff_not] at hc10; omega
     have hsum : q = ((GtS.mk s.gates (sortE es)).ents.length : Int) := by show q = ((sortE es).length : Int); rw [hq, hge, cntTo_all hq3, hpf.length_eq]
     refine .exit rfl ?_
     refine .seq ?_
     refine .region rfl ?_
     first | refine R.field F25_1 (h := ?_) | refine R.fieldAt F25_1 (h := ?_)
     first | refine R.loadB O23 (h := ?_) | refine R.load1 O23 (h := ?_)
     first | refine R.len S23 (h := ?_) | refine R.lenRs S23 (h := ?_) | refine R.lenV (run_lenNil S23) (h := ?_)
     rw [List.length_map]
     first | refine R.field F25_1 (h := ?_) | refine R.fieldAt F25_1 (h := ?_)
     first | refine R.loadB O23 (h := ?_) | refine R.load1 O23 (h := ?_)
     first | refine R.len S23 (h := ?_) | refine R.lenRs S23 (h := ?_) | refine R.lenV (run_lenNil S23) (h := ?_)
     rw [List.length_map]
     refine R.move (h := ?_)
     first | refine R.add (h := ?_) | refine R.addW (h := ?_)
     refine R.bin (run_eql _ _ _ _ _ _) (h := ?_)
     first | rw [decide_eq_true hlen2] | rw [decide_eq_true (show ((GtS.mk s.gates (sortE es)).ents.length : Int) = (s.ents.length : Int) + (n : Int) from hlen2)]
     refine R.move (h := ?_)
     refine R.move (h := ?_)
     first | refine R.field F25_1 (h := ?_) | refine R.fieldAt F25_1 (h := ?_)
     first | refine R.loadB O23 (h := ?_) | refine R.load1 O23 (h := ?_)
     first | refine R.len S23 (h := ?_) | refine R.lenRs S23 (h := ?_) | refine R.lenV (run_lenNil S23) (h := ?_)
     rw [List.length_map]
     refine R.bin (run_eql _ _ _ _ _ _) (h := ?_)
     first | rw [decide_eq_true hsum] | rw [decide_eq_true (show q = ((GtS.mk s.gates (sortE es)).ents.length : Int) from hsum)]
     refine R.and (h := ?_)
     refine R.move (h := ?_)
     refine R.callP (es := []) (fun _ => shown_P) (h := ?_)
     refine R.and (h := ?_)
     refine R.assign (h := ?_)
     refine .n0 ?_
     exact LGo.ret (ret_T Tryd.results7 hA hmd)

end Go.Proofs.YtgcjjndhohellaaDoor
