/- From the readings of arguments to closed values; from a contract to a law's row. -/
import Derived.Test.YtmiamhegohlglaaC26
import Derived.Deep.Slices
import Derived.Deep.Fields
import Derived.ChangeSame
import Derived.Carry
import Derived.ProofKit
import Derived.OpenShut
set_option linter.unusedSimpArgs false
set_option linter.unusedVariables false
namespace Go.Proofs.Ytmiamhegohlglaa
open Go.ChangeShapes Go.WideShapes Go.Deep Go.RowKit Go.ChangeAt

theorem addr_add (b off q : Nat) : (⟨b, off, none⟩ : Addr).add q = ⟨b, off + q, none⟩ := by
  unfold Addr.add
  split
  · rename_i h; rw [h]; rfl
  · rfl

section
variable {H : Type} {enc : TypeId × Value → H} {P : Program} {w : World}

/-- what is read at type t: closed cells of a shape -/
def Rd (enc : TypeId × Value → H) (P : Program) (w : World) (t : TypeId) (Sh : List SV → Prop) : Prop :=
  ∀ (n : Nat) (cs : List Value) (x : DataW H × List MemPlace), DataW.trod enc P w 0 (fun _ => true) true n t cs = some x →
    ∃ ss : List SV, Sh ss ∧ ss.length = cs.length ∧ (∀ (j : Nat) (s : SV) (v : Value), ss[j]? = some s → cs[j]? = some v → VS (cellsAt w) w s v ∧ v.oneCell' = true)

theorem Rd.mono {t : TypeId} {Sh Sh' : List SV → Prop} (h : Rd enc P w t Sh) (hs : ∀ ss, Sh ss → Sh' ss) : Rd enc P w t Sh' := fun n cs x hx => by
  obtain ⟨ss, h1, h2⟩ := h n cs x hx
  exact ⟨ss, hs ss h1, h2⟩

theorem Rd.one {t : TypeId} {S : SV → Prop} (h : ∀ n cs x, DataW.trod enc P w 0 (fun _ => true) true n t cs = some x → ∃ s v, cs = [v] ∧ S s ∧ VS (cellsAt w) w s v ∧ v.oneCell' = true) : Rd enc P w t (fun ss => ∃ s, ss = [s] ∧ S s) := fun n cs x hx => by
  obtain ⟨s, v, rfl, h1, h2, h3⟩ := h n cs x hx
  refine ⟨[s], ⟨s, rfl, h1⟩, rfl, fun j s' v' hs hv => ?_⟩
  cases j with
  | zero => simp at hs hv; subst hs; subst hv; exact ⟨h2, h3⟩
  | succ j => simp at hs

theorem Rd.int {t : TypeId} {k : IntKind} (ht : P.underlying t = some (.int k)) : Rd enc P w t (fun ss => ∃ s, ss = [s] ∧ ∃ n, s = .val (.int k n) ∧ k.min ≤ n ∧ n ≤ k.max) :=
  Rd.one fun n cs x hx => by
    obtain ⟨m, rfl, _, hw⟩ := DataW.trod_int ht hx
    simp only [Lit.wf, Bool.and_eq_true, decide_eq_true_eq] at hw
    exact ⟨_, _, rfl, ⟨m, rfl, hw⟩, by simp [VS], rfl⟩
theorem Rd.bool {t : TypeId} (ht : P.underlying t = some .bool) : Rd enc P w t (fun ss => ∃ s, ss = [s] ∧ ∃ b, s = .val (.bool b)) :=
  Rd.one fun n cs x hx => by
    obtain ⟨m, rfl, _⟩ := DataW.trod_bool ht hx
    exact ⟨_, _, rfl, ⟨m, rfl⟩, by simp [VS], rfl⟩
theorem Rd.string {t : TypeId} (ht : P.underlying t = some .string) : Rd enc P w t (fun ss => ∃ s, ss = [s] ∧ ∃ l : List UInt8, s = .val (.string ⟨l.toArray⟩) ∧ l.length ≤ maxLen) :=
  Rd.one fun n cs x hx => by
    obtain ⟨⟨m⟩, rfl, _, hm⟩ := DataW.trod_string ht hx
    refine ⟨.val (.string ⟨m⟩), _, rfl, ⟨m.toList, by rw [Array.toArray_toList], by rw [Array.length_toList]; exact hm⟩, by simp [VS], rfl⟩

theorem Rd.struct {t : TypeId} {fs : Array Field} {S : Nat → SV → Prop} (ht : P.underlying t = some (.struct fs)) (hone : oneCellFields P fs = true) (hC : P.cellsOf t = fs.size)
    (hF : ∀ j f, fs[j]? = some f → Rd enc P w f.type (fun ss => ∃ s, ss = [s] ∧ S j s)) : Rd enc P w t (fun ss => ss.length = fs.size ∧ ∀ j s, ss[j]? = some s → S j s) := fun n cs x hx => by
  obtain ⟨ys, m, _, _, hlen, hyl, hf⟩ := DataW.trod_struct ht hx
  rw [hC] at hlen
  have one : ∀ j, j < fs.size → ∃ s, S j s ∧ ∀ v, cs[j]? = some v → VS (cellsAt w) w s v ∧ v.oneCell' = true := by
    intro j hj
    have hfj : fs[j]? = some fs[j] := Array.getElem?_eq_getElem hj
    obtain ⟨ho, hk⟩ := hone_of hone j _ hfj
    have h1 := hf j _ hfj
    rw [ho, hk] at h1
    have hcj : (cs.drop j).take 1 = [cs[j]'(by omega)] := by rw [List.drop_eq_getElem_cons (by omega)]; rfl
    rw [hcj, List.getElem?_eq_getElem (by omega)] at h1
    obtain ⟨ss, ⟨s, rfl, hs⟩, _, hv⟩ := hF j _ hfj m _ _ h1
    refine ⟨s, hs, fun v hvj => ?_⟩
    rw [List.getElem?_eq_getElem (by omega)] at hvj
    cases hvj
    exact hv 0 s _ rfl rfl
  have all : ∀ k, k ≤ fs.size → ∃ ss : List SV, ss.length = k ∧ ∀ j s, ss[j]? = some s → S j s ∧ ∀ v, cs[j]? = some v → VS (cellsAt w) w s v ∧ v.oneCell' = true := by
    intro k
    induction k with
    | zero => intro _; exact ⟨[], rfl, by simp⟩
    | succ k ih =>
      intro hk
      obtain ⟨ss, h1, h2⟩ := ih (by omega)
      obtain ⟨s, h3, h4⟩ := one k (by omega)
      refine ⟨ss ++ [s], by simp [h1], fun j s' hs => ?_⟩
      rcases Nat.lt_or_ge j k with hlt | hge
      · rw [List.getElem?_append_left (by omega)] at hs; exact h2 j s' hs
      · have hjl := (List.getElem?_eq_some_iff.1 hs).1
        simp [h1] at hjl
        have hjk : j = k := by omega
        subst hjk
        rw [List.getElem?_append_right (by omega), h1, Nat.sub_self] at hs
        simp at hs; subst hs
        exact ⟨h3, h4⟩
  obtain ⟨ss, h1, h2⟩ := all fs.size (Nat.le_refl _)
  exact ⟨ss, ⟨h1, fun j s hs => (h2 j s hs).1⟩, by rw [h1, hlen], fun j s v hs hv => (h2 j s hs).2 v hv⟩

theorem Rd.slice {t e : TypeId} {sz : Nat} {Sh : List SV → Prop} (ht : P.underlying t = some (.slice e)) (hC : P.cellsOf e = sz) (h0 : 0 < sz) (he : Rd enc P w e Sh) :
    Rd enc P w t (fun ss => ∃ s, ss = [s] ∧ ∃ xs : List (List SV), s = .sl sz xs ∧ xs.length ≤ maxLen ∧ ∀ x ∈ xs, Sh x ∧ x.length = sz) :=
  Rd.one fun n cs x hx => by
    rcases open_slice ht hx with ⟨rfl, _⟩ | ⟨a, len, cap, m, k, D, Pl, rfl, _, hl, hm, hmm, _, hi⟩
    · exact ⟨.sl sz [], _, rfl, ⟨[], rfl, by simp, by simp⟩, by simp [VS, emptySl], rfl⟩
    · have hmc : m = cap := by simpa using hmm
      subst hmc
      rw [hC] at hi
      by_cases hl0 : len = 0
      · subst hl0
        refine ⟨.sl sz [], _, rfl, ⟨[], rfl, by simp, by simp⟩, ?_, rfl⟩
        simp only [VS]
        exact .inl ⟨.inr ⟨a, m, rfl, hm⟩, trivial⟩
      · -- the first cell tells that the address is plain
        have hspot : a.spot = none := by
          obtain ⟨cs', hc, _⟩ := hi 0 (by omega)
          obtain ⟨_, hcl, hat⟩ := World.cells?_some hc
          have := hat 0 h0
          rw [List.getElem?_eq_getElem (by omega)] at this
          cases hs : a.spot with
          | none => rfl
          | some q =>
            exfalso
            simp only [Nat.zero_mul] at this
            have e1 : ((a.add 0).add 0).spot.isSome = true := by simp [Addr.add, hs]
            unfold World.cell? at this
            split at this
            · rw [if_pos e1] at this; cases this
            · cases this
        obtain ⟨b, off, sp⟩ := a
        simp only at hspot
        subst hspot
        have hadd : ∀ q, (⟨b, off, none⟩ : Addr).add q = ⟨b, off + q, none⟩ := by intro q; exact addr_add b off q
        have elem : ∀ i, i < m → ∃ ss, Sh ss ∧ ss.length = sz ∧ VSC (cellsAt w) w b (off + i * sz) ss ∧ off + i * sz + sz ≤ cellsAt w b := by
          intro i him
          obtain ⟨cs', hc, ht'⟩ := hi i him
          obtain ⟨_, hcl, hat⟩ := World.cells?_some hc
          obtain ⟨ss, h1, h2, h3⟩ := he k cs' _ ht'
          have hcell : ∀ q, q < sz → w.cell? ⟨b, off + i * sz + q, none⟩ = cs'[q]? := by
            intro q hq
            have := hat q hq
            rw [hadd] at this
            have e2 : (⟨b, off + i * sz, none⟩ : Addr).add q = ⟨b, off + i * sz + q, none⟩ := addr_add b _ q
            rw [e2] at this; exact this
          refine ⟨ss, h1, by omega, ?_, ?_⟩
          · have gen : ∀ (ts : List SV) (p : Nat), p + ts.length ≤ sz → (∀ q s, ts[q]? = some s → ss[p + q]? = some s) → VSC (cellsAt w) w b (off + i * sz + p) ts := by
              intro ts
              induction ts with
              | nil => intro p _ _; simp [VSC]
              | cons s ts ih =>
                intro p hp hss
                simp only [List.length_cons] at hp
                simp only [VSC]
                have hs0 := hss 0 s rfl
                rw [Nat.add_zero] at hs0
                have hcp : cs'[p]? = some (cs'[p]'(by omega)) := List.getElem?_eq_getElem (by omega)
                obtain ⟨g1, g2⟩ := h3 p s _ hs0 hcp
                refine ⟨⟨_, (hcell p (by omega)).trans hcp, g2, g1⟩, ?_⟩
                have := ih (p + 1) (by omega) (fun q s' hq => by have := hss (q + 1) s' (by simpa using hq); rwa [show p + (q + 1) = p + 1 + q from by omega] at this)
                rwa [show off + i * sz + (p + 1) = off + i * sz + p + 1 from by omega] at this
            have := gen ss 0 (by omega) (fun q s hq => by rw [Nat.zero_add]; exact hq)
            rwa [Nat.add_zero] at this
          · have hlast := hcell (sz - 1) (by omega)
            rw [List.getElem?_eq_getElem (by omega)] at hlast
            unfold World.cell? at hlast
            unfold cellsAt
            split at hlast
            · rename_i c t' f hh
              simp only [Option.isSome_none, Bool.false_eq_true, if_false] at hlast
              have := (Array.getElem?_eq_some_iff.1 hlast).1
              simp only at hh ⊢
              rw [hh]
              simp only
              omega
            · cases hlast
        have all : ∀ q i, i + q = len → ∃ xs : List (List SV), xs.length = q ∧ (∀ x ∈ xs, Sh x ∧ x.length = sz) ∧ VSR (cellsAt w) w b (off + i * sz) sz xs := by
          intro q
          induction q with
          | zero => intro i _; exact ⟨[], rfl, by simp, by simp [VSR]⟩
          | succ q ih =>
            intro i hiq
            obtain ⟨xs, g1, g2, g3⟩ := ih (i + 1) (by omega)
            obtain ⟨ss, k1, k2, k3, _⟩ := elem i (by omega)
            refine ⟨ss :: xs, by simp [g1], fun x hx => ?_, ?_⟩
            · rcases List.mem_cons.1 hx with rfl | hx
              · exact ⟨k1, k2⟩
              · exact g2 x hx
            · simp only [VSR]
              refine ⟨k2, k3, ?_⟩
              rwa [show off + (i + 1) * sz = off + i * sz + sz from by rw [Nat.succ_mul]; omega] at g3
        obtain ⟨xs, g1, g2, g3⟩ := all len 0 (by omega)
        obtain ⟨_, _, _, _, hlim⟩ := elem (len - 1) (by omega)
        refine ⟨.sl sz xs, _, rfl, ⟨xs, rfl, by omega, g2⟩, ?_, rfl⟩
        simp only [VS]
        refine .inr ⟨b, off, m, by rw [g1], by omega, hm, ?_, by simpa using g3⟩
        rw [g1]
        have : (len - 1) * sz + sz = len * sz := by rw [← Nat.succ_mul]; congr 1; omega
        omega

/-- an argument, as a closed value -/
theorem Rd.arg1 {t : TypeId} {S : SV → Prop} (h : Rd enc P w t (fun ss => ∃ s, ss = [s] ∧ S s)) {v : Value} {d : DataW H} {p : List MemPlace} (hv : DataW.Trod enc P w 0 (fun _ => true) true t v d p) (hc : v.cells.toList = [v]) :
    ∃ s, S s ∧ VS (cellsAt w) w s v := by
  obtain ⟨n, hn⟩ := hv
  obtain ⟨ss, ⟨s, rfl, hs⟩, _, h3⟩ := h n _ _ hn
  rw [hc] at h3
  exact ⟨s, hs, (h3 0 s v rfl rfl).1⟩
end

/-- a world whose cells are all protected -/
def cx0 (w : World) : Cx := ⟨cellsAt w, fun o => o < 0, fun _ => undef, fun _ => none⟩

theorem PC.run {P : Program} {f : FuncId} {lvs : List LV} {out : LV} (h : PC P f lvs out) {w : World} {vs : List Value} (hv : Vs (cx0 w) w lvs vs) :
    Calls P f vs.toArray w fun e w' => ∃ v cx', e = .returned v ∧ Below w.heap.size w w' ∧ V cx' w' out v := by
  have hok : HOk (fun _ => True) 0 (cx0 w) (hp []) w := ⟨fun o x hx => by simp at hx, fun o x b hx => by simp at hx, fun o o' x x' b _ hx => by simp at hx, fun b hb => by
    have hb' : 0 < cellsAt w b := hb
    unfold cellsAt at hb'
    split at hb'
    · rename_i hh; exact (Array.getElem?_eq_some_iff.1 hh).1
    · omega⟩
  refine (h.lc.go (cx0 w) w vs (fun o => Iff.rfl) hok hv).mono ?_
  rintro e w' ⟨v, cx', rfl, t, hvo⟩
  exact ⟨v, cx', rfl, ⟨t.grow.os, t.grow.tape, t.grow.output, t.grow.size, fun b hb => t.grow.same b hb (fun ⟨o, x, hx, _⟩ => by simp at hx)⟩, hvo⟩

theorem Below.keeps {w w' : World} (h : Below w.heap.size w w') (may : MemPlace → Prop) : w.keptBut w' may := by
  refine ⟨h.os, h.output, fun i hi => ?_⟩
  rw [h.block i hi]
  cases w.heap[i]? with
  | none => rfl
  | some o =>
    cases o <;> first | rfl | exact ⟨rfl, rfl, rfl, fun _ _ => rfl⟩ | exact .inr ⟨rfl, rfl⟩

section
variable {H : Type} {enc : TypeId × Value → H} {P : Program}
/-- a law's row, from a world in which nothing old has turned -/
theorem post_of_below {f : Func} {s : ChangeSpec} {apart fresh handsOn again : Bool} {W W' : World} {args : Array Value} {v : Value} {ds gs : List (DataW H)} {before pa pv : List MemPlace}
    (hW : DataW.Whole enc P f.params.toList s.vars apart W args.toList ds gs before)
    (hres : ∀ (b : Nat) (sp : Nat → Bool) (hd : Bool), DataW.TrodAll enc P W' b sp hd f.resultTypes.toList (v.resultList f.resultTypes.size) (s.fn H (ds ++ gs)).results [])
    (hargs : ∀ sp : Nat → Bool, (∀ p ∈ before, sp p.block = true) → DataW.TrodAll enc P W' 0 sp true f.params.toList args.toList (s.fn H (ds ++ gs)).args pa)
    (hvars : ∀ sp : Nat → Bool, (∀ p ∈ before, sp p.block = true) → DataW.TrodVars enc P W' sp s.vars (s.fn H (ds ++ gs)).vars pv)
    (hps : before = pa ++ pv) (hb : Below W.heap.size W W')
    (hok : ∀ (j : Nat) (t : TypeId) (r : Value), f.resultTypes[j]? = some t → (v.resultList f.resultTypes.size)[j]? = some r → Value.okWide P W' .any 0 t r) :
    s.post enc P f apart fresh handsOn again W args v W' := by
  have hold : ∀ p ∈ before, (fun b => decide (b < W.heap.size)) p.block = true := fun p hp => by simpa using hW.lt p hp
  have hlt := fun p hp => hW.lt p hp
  refine ⟨ds, gs, before, [], pa, pv, hW, hres _ _ _, hargs _ hold, hvars _ hold, World.keptBut_mono (fun p hp => ⟨hp, ?_⟩) (Below.keeps hb (· ∈ before)), fun _ => ?_⟩
  · rw [hps, List.mem_append] at hp
    exact Or.inr hp
  · obtain ⟨_, _, _, _, _, hz, hn⟩ := hW
    refine ⟨hok, _, _, ([] ++ pa) ++ pv, ⟨[] ++ pa, pv, trodAll_append (hargs _ (fun _ _ => rfl)) (hres _ _ _), hvars _ (fun _ _ => rfl), rfl, ?_, ?_⟩, ?_⟩
    · intro b off hp
      have hp' : MemPlace.cell b off ∈ before := by rw [hps]; simpa using hp
      rw [hb.frozen (p := ⟨b, off, none⟩) (hlt _ hp')]
      exact hz b off hp'
    · intro ha
      have := hn ha
      rw [hps] at this
      simpa using this
    · intro p hp _
      rw [hps]
      simpa using hp
end

end Go.Proofs.Ytmiamhegohlglaa
