/- Slices that grow: literals, append, lengths; results in cells; what is written no more. -/
import Derived.Test.YtmiamhegohlglaaC9
set_option linter.unusedSimpArgs false
set_option linter.unusedVariables false
namespace Go.Proofs.Ytmiamhegohlglaa

section
variable {P : Program} {r : Option Nat} {N : Nat} {D : List Nat} {B : Base} {Ψ : Exit → Act → World → Prop} {todo : List Item} {S : St}
variable {E : List (Nat × Ent)} {L : List (Nat × LO)} {n : Nat}

/-! ### results that lie in cells -/

theorem boxLoadA {T TB sz N : Nat} {o : Nat} {cs : List LV} (hF : AggF P T sz) {cx : Cx} {a : Act} {w : World} (hr : Rel B N D (st E L n) cx a w) {t : Nat}
    (ht : en E t = some (true, .ptr o 0)) (hb : hp L o = some (.box TB cs)) (hc : cs.length = sz) :
    ∃ v ad, a.tmps.getD t undef = .pointer (some ad) ∧ (loadVar T ad).run P w = .ok v w ∧ V cx w (.agg cs) v := by
  have hv := (hr.env t _ ht).1 rfl
  simp only [V] at hv
  obtain ⟨hA, b, hbk, he⟩ := hv
  obtain ⟨b', vs, k1, k2, k3⟩ := (hr.heap.ok o _ hb).2
  rw [k1] at hbk
  simp only [bk, Option.some.injEq] at hbk
  subst hbk
  refine ⟨.agg vs.toArray, _, he, ?_, by simp only [V]; exact ⟨vs, rfl, k3⟩⟩
  have hl : (loadCells ⟨b', 0, none⟩ vs.length).run P w = .ok vs.toArray w := run_loadCells_list (P := P) w ⟨b', 0, none⟩ vs (fun j v hv => by
    have hadd : (⟨b', 0, none⟩ : Addr).add j = ⟨b', j, none⟩ := by unfold Addr.add; split <;> simp_all
    rw [hadd]; simp [World.cell?, k2, hv])
  rw [k3.length, hc] at hl
  simp [loadVar, hF.1 w, hF.2 w, hl]

theorem resC {fn : Func} {t T TB sz o : Nat} {cs : List LV} (h : fn.results = #[.cell t T]) (hF : AggF P T sz) {m k : Nat} {Hi Ho : List (Nat × LO)} (hA : ∀ o, B.cx.A o ↔ o < m) (hmd : B.md = blks B.cx (hp Hi)) (hn : n = m + k)
    (hHo : ∀ o x, hp Ho o = some x → hp L o = some x) (ht : en E t = some (true, .ptr o 0)) (hb : hp L o = some (.box TB cs)) (hc : cs.length = sz) {e : Exit} (he : e = .normal ∨ e = .ret) :
    ∀ cx a w, Rel B N [] (st E L n) cx a w → FnPost P fn B m (.agg cs) Hi Ho k e a w := by
  intro cx a w hr
  obtain ⟨v, ad, h1, h2, h3⟩ := boxLoadA hF hr ht hb hc
  subst hn
  refine FnPost.of hA hmd hHo he hr (v := v) ?_ h3
  simp only [Array.getD_eq_getD_getElem?] at h1
  simp [results, h, h1, asAddr, h2]
theorem resC1 {fn : Func} {t T TB sz o u : Nat} {cs : List LV} {l : LV} (h : fn.results = #[.cell t T, .tmp u]) (hF : AggF P T sz) {m k : Nat} {Hi Ho : List (Nat × LO)} (hA : ∀ o, B.cx.A o ↔ o < m) (hmd : B.md = blks B.cx (hp Hi)) (hn : n = m + k)
    (hHo : ∀ o x, hp Ho o = some x → hp L o = some x) (ht : en E t = some (true, .ptr o 0)) (hb : hp L o = some (.box TB cs)) (hc : cs.length = sz) (hu : en E u = some (true, l)) {e : Exit} (he : e = .normal ∨ e = .ret) :
    ∀ cx a w, Rel B N [] (st E L n) cx a w → FnPost P fn B m (.tup [.agg cs, l]) Hi Ho k e a w := by
  intro cx a w hr
  obtain ⟨v, ad, h1, h2, h3⟩ := boxLoadA hF hr ht hb hc
  subst hn
  refine FnPost.of hA hmd hHo he hr (v := .tuple #[v, a.tmps.getD u undef]) ?_ ?_
  · simp only [Array.getD_eq_getD_getElem?] at h1
    simp [results, h, h1, asAddr, h2]
  · simp only [V] at h3 ⊢
    exact ⟨[_, _], rfl, by simp only [Vs]; exact ⟨_, _, rfl, by simp only [V]; exact h3, _, _, rfl, (hr.env u _ hu).1 rfl, rfl⟩⟩
theorem resC2 {fn : Func} {t T TB sz o u u' : Nat} {cs : List LV} {l l' : LV} (h : fn.results = #[.cell t T, .tmp u, .tmp u']) (hF : AggF P T sz) {m k : Nat} {Hi Ho : List (Nat × LO)} (hA : ∀ o, B.cx.A o ↔ o < m) (hmd : B.md = blks B.cx (hp Hi)) (hn : n = m + k)
    (hHo : ∀ o x, hp Ho o = some x → hp L o = some x) (ht : en E t = some (true, .ptr o 0)) (hb : hp L o = some (.box TB cs)) (hc : cs.length = sz) (hu : en E u = some (true, l)) (hu' : en E u' = some (true, l')) {e : Exit} (he : e = .normal ∨ e = .ret) :
    ∀ cx a w, Rel B N [] (st E L n) cx a w → FnPost P fn B m (.tup [.agg cs, l, l']) Hi Ho k e a w := by
  intro cx a w hr
  obtain ⟨v, ad, h1, h2, h3⟩ := boxLoadA hF hr ht hb hc
  subst hn
  refine FnPost.of hA hmd hHo he hr (v := .tuple #[v, a.tmps.getD u undef, a.tmps.getD u' undef]) ?_ ?_
  · simp only [Array.getD_eq_getD_getElem?] at h1
    simp [results, h, h1, asAddr, h2]
  · simp only [V] at h3 ⊢
    exact ⟨[_, _, _], rfl, by simp only [Vs]; exact ⟨_, _, rfl, by simp only [V]; exact h3, _, _, rfl, (hr.env u _ hu).1 rfl, _, _, rfl, (hr.env u' _ hu').1 rfl, rfl⟩⟩

/-! ### what is written no more -/

/-- closed cells -/
def svs : List LV → Option (List SV)
  | [] => some []
  | .sv s :: l => (svs l).map (s :: ·)
  | _ :: _ => none

theorem svs_eq : ∀ {l : List LV} {s : List SV}, svs l = some s → l = s.map LV.sv
  | [], s, h => by simp [svs] at h; subst h; rfl
  | .sv x :: l, s, h => by
    simp only [svs, Option.map_eq_some_iff] at h
    obtain ⟨t, h1, rfl⟩ := h
    simp [svs_eq h1]
  | .agg _ :: l, s, h => by simp [svs] at h
  | .tup _ :: l, s, h => by simp [svs] at h
  | .ptr _ _ :: l, s, h => by simp [svs] at h
  | .ref _ :: l, s, h => by simp [svs] at h
  | .fn _ _ _ :: l, s, h => by simp [svs] at h
  | .yld _ :: l, s, h => by simp [svs] at h

theorem VSC.of_list {pr : Nat → Nat} {w : World} {b : Nat} {cur : Array Value} {T : TypeId} (hg : w.heap[b]? = some (.cells cur T (0, 0))) : ∀ (cs : List SV) (vs : List Value) (off : Nat),
    vs.length = cs.length → (∀ j, j < vs.length → cur[off + j]? = vs[j]?) → (∀ u ∈ vs, u.oneCell' = true) → (∀ (j : Nat) (c : SV) (v : Value), cs[j]? = some c → vs[j]? = some v → VS pr w c v) → VSC pr w b off cs
  | [], vs, off, _, _, _, _ => by simp [VSC]
  | c :: cs, [], off, hl, _, _, _ => by simp at hl
  | c :: cs, v :: vs, off, hl, hc, h1, hv => by
    simp only [VSC]
    refine ⟨⟨v, ?_, h1 v (by simp), hv 0 c v rfl rfl⟩, VSC.of_list hg cs vs (off + 1) (by simpa using hl) (fun j hj => ?_) (fun u hu => h1 u (by simp [hu])) (fun j c' v' hc' hv' => hv (j + 1) c' v' (by simpa using hc') (by simpa using hv'))⟩
    · have := hc 0 (by simp)
      simp only [Nat.add_zero, List.getElem?_cons_zero] at this
      simp [World.cell?, hg, this]
    · have := hc (j + 1) (by simpa using hj)
      rw [show off + 1 + j = off + (j + 1) from by omega]
      simpa using this

theorem VSR.of_list {pr : Nat → Nat} {w : World} {b : Nat} {cur : Array Value} {T : TypeId} (hg : w.heap[b]? = some (.cells cur T (0, 0))) {sz : Nat} : ∀ (xs : List (List SV)) (vs : List Value) (off : Nat),
    (∀ e ∈ xs, e.length = sz) → vs.length = xs.length * sz → (∀ j, j < vs.length → cur[off + j]? = vs[j]?) → (∀ u ∈ vs, u.oneCell' = true) →
    (∀ (j : Nat) (c : SV) (v : Value), xs.flatten[j]? = some c → vs[j]? = some v → VS pr w c v) → VSR pr w b off sz xs
  | [], vs, off, _, _, _, _, _ => by simp [VSR]
  | e :: xs, vs, off, he, hl, hc, h1, hv => by
    have hel : e.length = sz := he e (by simp)
    simp only [List.length_cons, Nat.add_mul, Nat.one_mul] at hl
    simp only [VSR]
    refine ⟨hel, VSC.of_list hg e (vs.take sz) off (by simp; omega) (fun j hj => ?_) (fun u hu => h1 u (List.mem_of_mem_take hu)) (fun j c v hcj hvj => ?_), VSR.of_list hg xs (vs.drop sz) (off + sz) (fun e' he' => he e' (by simp [he'])) (by simp; omega) (fun j hj => ?_) (fun u hu => h1 u (List.mem_of_mem_drop hu)) (fun j c v hcj hvj => ?_)⟩
    · simp only [List.length_take] at hj
      rw [hc j (by omega), List.getElem?_take, if_pos (by omega)]
    · have hj : j < sz := by rw [← hel]; exact (List.getElem?_eq_some_iff.1 hcj).1
      rw [List.getElem?_take, if_pos hj] at hvj
      exact hv j c v (by rw [List.flatten_cons, List.getElem?_append_left (by omega)]; exact hcj) hvj
    · simp only [List.length_drop] at hj
      rw [List.getElem?_drop, show off + sz + j = off + (sz + j) from by omega]
      exact hc (sz + j) (by omega)
    · rw [List.getElem?_drop] at hvj
      refine hv (sz + j) c v ?_ hvj
      rw [List.flatten_cons, List.getElem?_append_right (by omega), hel, Nat.add_sub_cancel_left]; exact hcj

/-- slots that hold the slice of object o hold its elements from now on -/
def frzE (o : Nat) (s : SV) : List (Nat × Ent) → List (Nat × Ent)
  | [] => []
  | (t, (g, .ref q)) :: l => (t, (g, if q = o then .sv s else .ref q)) :: frzE o s l
  | (t, (g, e)) :: l => (t, (g, e)) :: frzE o s l
def delL (o : Nat) (L : List (Nat × LO)) : List (Nat × LO) := L.filter (fun p => !(p.1 == o))

theorem frzE_get {o : Nat} {s : SV} : ∀ {E : List (Nat × Ent)} {t : Nat} {e : Ent}, en (frzE o s E) t = some e → ∃ e0, en E t = some e0 ∧ e0.1 = e.1 ∧ (e0.2 = e.2 ∨ (e0.2 = .ref o ∧ e.2 = .sv s))
  | [], t, e, h => by simp [frzE] at h
  | (k, (g, lv)) :: E, t, e, h => by
    have step : ∀ x : LV, en ((k, (g, x)) :: frzE o s E) t = some e → (x = lv ∨ (lv = .ref o ∧ x = .sv s)) → ∃ e0, en ((k, (g, lv)) :: E) t = some e0 ∧ e0.1 = e.1 ∧ (e0.2 = e.2 ∨ (e0.2 = .ref o ∧ e.2 = .sv s)) := by
      intro x hx hxl
      simp only [en, List.lookup_cons] at hx ⊢
      cases hk : (t == k) with
      | true =>
        rw [hk] at hx; cases hx
        refine ⟨_, rfl, rfl, ?_⟩
        rcases hxl with rfl | ⟨rfl, rfl⟩
        · exact .inl rfl
        · exact .inr ⟨rfl, rfl⟩
      | false => rw [hk] at hx; exact frzE_get hx
    cases lv with
    | ref q =>
      simp only [frzE] at h
      by_cases hq : q = o
      · rw [if_pos hq] at h; exact step _ h (.inr ⟨by rw [hq], rfl⟩)
      · rw [if_neg hq] at h; exact step _ h (.inl rfl)
    | _ => simp only [frzE] at h; exact step _ h (.inl rfl)

/-- a slice that is written no more: its object goes, its elements stay -/
theorem LGo.freeze (o : Nat) {T sz : Nat} {xs : List (List LV)} {ys : List (List SV)} (hb : hp L o = some (.row T sz xs)) (hy : xs = ys.map (List.map LV.sv))
    (h : LGo P r N D B Ψ todo (st (frzE o (.sl sz ys) E) (delL o L) n)) : LGo P r N D B Ψ todo (st E L n) := by
  refine LGo.conv (fun cx a w hr => ?_) h
  obtain ⟨hAo, hsz, vs, hown, hvs, hones⟩ := hr.heap.ok o _ hb
  -- the cells of this block are protected from now on
  let blk? := bk (cx.loc o)
  let pr' : Nat → Nat := fun b => if some b = bk (cx.loc o) then ys.length * sz else cx.pr b
  let c2 : Cx := ⟨pr', cx.A, cx.loc, cx.inn⟩
  have hpr0 : ∀ b, some b = bk (cx.loc o) → cx.pr b = 0 ∧ b < w.heap.size ∧ (B.w.heap.size ≤ b ∨ B.md b) := fun b hbb => hr.heap.own o _ b hb (.inl hbb.symm)
  have hext : Ext cx.pr w pr' w := fun b off hbo => by
    refine ⟨?_, rfl⟩
    show off < (if some b = bk (cx.loc o) then _ else _)
    split
    · rename_i hh; have := (hpr0 b hh).1; omega
    · exact hbo
  have hle : CxLe cx c2 := fun q hq => ⟨hq, rfl⟩
  have hyl : xs.length = ys.length := by rw [hy]; simp
  have hsl : ∀ x, x = cx.loc o → VS pr' w (.sl sz ys) x := by
    rintro x rfl
    simp only [VS]
    rcases hown.2 with ⟨e1, e2⟩ | ⟨gb, cap, cur, e1, _, e2, e3, e4, e5, e6⟩
    · left
      refine ⟨.inl e1, ?_⟩
      apply List.eq_nil_of_length_eq_zero; omega
    · right
      have hbk : some gb = bk (cx.loc o) := by rw [e1]; rfl
      refine ⟨gb, 0, cap, by rw [e1, hyl], by omega, e4, ?_, ?_⟩
      · show 0 + ys.length * sz ≤ (if some gb = bk (cx.loc o) then ys.length * sz else _)
        rw [if_pos hbk]; omega
      · have hvl : vs.length = ys.length * sz := by rw [hown.1, hyl]
        refine VSR.of_list e2 ys vs 0 (fun e he => ?_) hvl (fun j hj => ?_) hones (fun j c v hc hv => ?_)
        · have := hsz (e.map LV.sv) (by rw [hy]; exact List.mem_map.2 ⟨e, he, rfl⟩)
          simpa using this
        · rw [Nat.zero_add, ← e6, List.getElem?_take, if_pos (by rw [hyl, ← hvl]; exact hj)]
          simp
        · have hc' : xs.flatten[j]? = some (.sv c) := by
            rw [hy, ← List.map_flatten, List.getElem?_map, hc]
            rfl
          obtain ⟨v', hv', hV⟩ := hvs.get hc'
          rw [hv] at hv'; cases hv'
          simp only [V] at hV
          exact VS.mono hext c v hV
  have del : ∀ q x, hp (delL o L) q = some x → q ≠ o ∧ hp L q = some x := by
    intro q x hx
    simp only [delL, hp] at hx
    rw [lookup_filter (fun k => !(k == o))] at hx
    split at hx
    · rename_i hh
      exact ⟨by simpa using hh, hx⟩
    · cases hx
  refine ⟨c2, ⟨⟨hr.grow.os, hr.grow.tape, hr.grow.output, hr.grow.size, hr.grow.same, fun b hbs hmd => ?_, hr.grow.ext.trans hext⟩, hr.le.trans hle, hr.hA, ⟨fun q x hx => ?_, fun q x b hx hbq => ?_, fun q q' x x' b hne hx hx' hbq => ?_, fun b hbp => ?_⟩, hr.size, fun t e he => ?_, hr.df, hr.dA⟩⟩
  · show (if some b = bk (cx.loc o) then _ else cx.pr b) = _
    split
    · rename_i hh
      rcases (hpr0 b hh).2.2 with h1 | h1
      · omega
      · exact absurd h1 hmd
    · exact hr.grow.prs b hbs hmd
  · obtain ⟨_, hx'⟩ := del q x hx
    obtain ⟨k1, k2⟩ := hr.heap.ok q x hx'
    exact ⟨k1, ObjOk.mono hle hext k1 (fun _ _ _ => rfl) rfl k2⟩
  · obtain ⟨hne, hx'⟩ := del q x hx
    obtain ⟨k1, k2, k3⟩ := hr.heap.own q x b hx' hbq
    refine ⟨?_, k2, k3⟩
    show (if some b = bk (cx.loc o) then _ else cx.pr b) = 0
    rw [if_neg (fun hh => hr.heap.inj q o x _ b hne hx' hb hbq (.inl hh.symm))]
    exact k1
  · exact hr.heap.inj q q' x x' b hne (del q x hx).2 (del q' x' hx').2 hbq
  · change 0 < (if some b = bk (cx.loc o) then _ else cx.pr b) at hbp
    split at hbp
    · rename_i hh; exact (hpr0 b hh).2.1
    · exact hr.heap.lim b hbp
  · obtain ⟨e0, h1, h2, h3⟩ := frzE_get he
    have h0 := hr.env t e0 h1
    refine ⟨fun hg => ?_, fun hg => h0.2 (by rw [h2]; exact hg)⟩
    have hv := h0.1 (by rw [h2]; exact hg)
    rcases h3 with h3 | ⟨h3, h4⟩
    · rw [h3] at hv; exact V.mono hle hext _ _ hv
    · rw [h3] at hv
      rw [h4]
      simp only [V] at hv ⊢
      exact hsl _ hv.2.1

end

end Go.Proofs.Ytmiamhegohlglaa
