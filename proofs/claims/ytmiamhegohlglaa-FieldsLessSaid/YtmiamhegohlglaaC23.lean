/- A box whose cell is a slice of the box's own: told as a box and a slice, and back. -/
import Derived.Test.YtmiamhegohlglaaC22
set_option linter.unusedSimpArgs false
set_option linter.unusedVariables false
namespace Go.Proofs.Ytmiamhegohlglaa

theorem Vs.swap {cx cx' : Cx} {w : World} (hl : CxLe cx cx') (hx : Ext cx.pr w cx'.pr w) {d c : LV} : ∀ {cs : List LV} {k : Nat} {vs : List Value}, (∀ v, vs[k]? = some v → V cx w d v → V cx' w c v) → Vs cx w (cs.set k d) vs → Vs cx' w (cs.set k c) vs
  | [], k, vs, _, h => by simpa [Vs] using h
  | a :: cs, 0, vs, hc, h => by
    simp only [List.set_cons_zero, Vs] at h ⊢
    obtain ⟨y, r, rfl, h2, h3⟩ := h
    exact ⟨y, r, rfl, hc y rfl h2, Vs.mono hl hx _ _ h3⟩
  | a :: cs, k + 1, vs, hc, h => by
    simp only [List.set_cons_succ, Vs] at h ⊢
    obtain ⟨y, r, rfl, h2, h3⟩ := h
    exact ⟨y, r, rfl, V.mono hl hx _ _ h2, Vs.swap hl hx (fun v hv => hc v (by simpa using hv)) h3⟩

section
variable {P : Program} {r : Option Nat} {N : Nat} {D : List Nat} {B : Base} {Ψ : Exit → Act → World → Prop} {todo : List Item}
variable {E : List (Nat × Ent)} {L : List (Nat × LO)} {n : Nat}

theorem LGo.unpack (o : Nat) {T k Te sz : Nat} {cs cs' : List LV} {ys : List (List SV)} (hb : hp L o = some (.bx T cs k Te sz ys) := by rfl) (hcs : cs.set k (.ref n) = cs' := by rfl)
    (h : LGo P r N D B Ψ todo (st E ((n, .rs Te sz ys) :: (o, .box T cs') :: delL o L) (n + 1))) : LGo P r N D B Ψ todo (st E L n) := by
  refine LGo.conv (S' := st E ((n, .rs Te sz ys) :: (o, .box T cs') :: delL o L) (n + 1)) (fun cx a w hr => ?_) h
  subst hcs
  have hA : ¬ cx.A n := by rw [hr.hA]; show ¬ n < n; omega
  obtain ⟨hAo, b, vs, v, h1, h2, h3, h4, h5, h5', h5'', h6, us, h7, h8, h9⟩ := hr.heap.ok o _ hb
  have hon : o ≠ n := fun e => hA (e ▸ hAo)
  let cx' : Cx := ⟨cx.pr, fun q => cx.A q ∨ q = n, fun q => if q = n then v else cx.loc q, cx.inn⟩
  have hle : CxLe cx cx' := fun q hq => ⟨.inl hq, by
    show (if q = n then _ else cx.loc q) = _
    rw [if_neg (by rintro rfl; exact hA hq)]⟩
  have hlo : cx'.loc n = v := by show (if n = n then _ else _) = _; simp
  have hext : Ext cx.pr w cx'.pr w := Ext.refl _ _
  have get : ∀ q x, hp ((n, LO.rs Te sz ys) :: (o, .box T (cs.set k (.ref n))) :: delL o L) q = some x → (q = n ∧ x = .rs Te sz ys) ∨ (q = o ∧ x = .box T (cs.set k (.ref n))) ∨ (q ≠ n ∧ q ≠ o ∧ hp L q = some x) := by
    intro q x hx
    by_cases hq : q = n
    · subst hq; simp only [hp, List.lookup_cons, beq_self_eq_true] at hx; cases hx; exact .inl ⟨rfl, rfl⟩
    · have e1 : (q == n) = false := by simp [hq]
      simp only [hp, List.lookup_cons, e1] at hx
      by_cases hqo : q = o
      · subst hqo; simp only [beq_self_eq_true] at hx; cases hx; exact .inr (.inl ⟨rfl, rfl⟩)
      · have e2 : (q == o) = false := by simp [hqo]
        simp only [e2] at hx
        have := congrFun (delL_hp o L) q
        simp only [hp] at this
        rw [this, if_neg hqo] at hx
        exact .inr (.inr ⟨hq, hqo, hx⟩)
  have old : ∀ q x, hp L q = some x → ∀ c, cx'.has q x c ↔ cx.has q x c := fun q x hx c => by unfold Cx.has; rw [(hle q (hr.heap.ok q x hx).1).2]
  have hasN : ∀ c, cx'.has n (.rs Te sz ys) c → cx.has o (.bx T cs k Te sz ys) c := by
    intro c hc
    rw [Cx.has_of rfl, hlo] at hc
    exact .inr ⟨rfl, by rw [h5]; exact hc⟩
  have hasO : ∀ c, cx'.has o (.box T (cs.set k (.ref n))) c → cx.has o (.bx T cs k Te sz ys) c ∧ bk (cx.loc o) = some c := by
    intro c hc
    rw [Cx.has_of rfl, (hle o hAo).2] at hc
    exact ⟨.inl hc, hc⟩
  refine ⟨cx', ⟨hr.grow, hr.le.trans hle, ?_, ⟨fun q x hx => ?_, fun q x c hx hc => ?_, fun q q' x x' c hne hx hx' hc hc' => ?_, hr.heap.lim⟩, hr.size, fun s e he => (hr.env s e he).mono hle hext, ?_, fun q hq => .inl (hr.dA q hq)⟩⟩
  · funext q
    have : cx.A q ↔ q < n := by rw [hr.hA]
    exact propext ⟨fun h => by
      rcases h with h | h
      · have := this.1 h; show q < n + 1; omega
      · show q < n + 1; omega, fun h => by
      have h' : q < n + 1 := h
      rcases Nat.lt_or_ge q n with h1 | h1
      · exact .inl (this.2 h1)
      · exact .inr (by omega)⟩
  · rcases get q x hx with ⟨rfl, rfl⟩ | ⟨rfl, rfl⟩ | ⟨hq, hqo, hx'⟩
    · exact ⟨.inr rfl, h6, us, by rw [hlo]; exact h7, Vs.mono hle hext _ _ h8, h9⟩
    · refine ⟨.inl hAo, b, vs, by rw [(hle q hAo).2]; exact h1, h2, Vs.swap hle hext (fun u hu hd => ?_) h3⟩
      have hu' : u = v := hd.val
      subst hu'
      simp only [V]
      exact ⟨.inr rfl, hlo.symm, h5''⟩
    · obtain ⟨k1, k2⟩ := hr.heap.ok q x hx'
      exact ⟨.inl k1, ObjOk.mono hle hext k1 (fun _ _ _ => rfl) rfl k2⟩
  · rcases get q x hx with ⟨rfl, rfl⟩ | ⟨rfl, rfl⟩ | ⟨hq, hqo, hx'⟩
    · exact hr.heap.own o _ c hb (hasN c hc)
    · exact hr.heap.own q _ c hb (hasO c hc).1
    · exact hr.heap.own q x c hx' ((old q x hx' c).1 hc)
  · rcases get q x hx with ⟨rfl, rfl⟩ | ⟨rfl, rfl⟩ | ⟨hq, hqo, hx1⟩ <;> rcases get q' x' hx' with ⟨rfl, rfl⟩ | ⟨rfl, rfl⟩ | ⟨hq', hqo', hx1'⟩
    · exact hne rfl
    · have e1 := (hasO c hc').2
      rw [Cx.has_of rfl, hlo] at hc
      rw [h1] at e1
      simp only [bk, Option.some.injEq] at e1
      subst e1
      exact h5' hc
    · exact hr.heap.inj o q' _ x' c (Ne.symm hqo') hb hx1' (hasN c hc) ((old q' x' hx1' c).1 hc')
    · have e1 := (hasO c hc).2
      rw [Cx.has_of rfl, hlo] at hc'
      rw [h1] at e1
      simp only [bk, Option.some.injEq] at e1
      subst e1
      exact h5' hc'
    · exact hne rfl
    · exact hr.heap.inj q q' _ x' c (Ne.symm hqo') hb hx1' (hasO c hc).1 ((old q' x' hx1' c).1 hc')
    · exact hr.heap.inj q o x _ c hqo hx1 hb ((old q x hx1 c).1 hc) (hasN c hc')
    · exact hr.heap.inj q q' x _ c hqo hx1 hb ((old q x hx1 c).1 hc) (hasO c hc').1
    · exact hr.heap.inj q q' x x' c hne hx1 hx1' ((old q x hx1 c).1 hc) ((old q' x' hx1' c).1 hc')
  · rw [hr.df]
    exact List.map_congr_left (fun q hq => by simp only [mkd]; rw [(hle q (hr.dA q hq)).2])

theorem LGo.pack0 (o : Nat) {T k Te sz : Nat} {cs : List LV} {ys : List (List SV)} (hb : hp L o = some (.box T cs)) {lv : LV} (hk : cs[k]? = some lv) (L' : List (Nat × LO)) (hL' : ∀ q x, hp L' q = some x → hp L q = some x ∧ q ≠ o)
    (hv : ∀ cx w v, HOk (fun _ => True) 0 cx (hp L) w → V cx w lv v → isRef v = true ∧ (∀ e ∈ ys, e.length = sz) ∧ (∃ us, w.ownsRow 0 Te sz v ys.length us ∧ Vs cx w (ys.flatten.map LV.sv) us ∧ ∀ u ∈ us, u.oneCell' = true) ∧
      ∀ g, bk v = some g → ∃ q x, q ≠ o ∧ hp L q = some x ∧ hp L' q = none ∧ cx.has q x g)
    (h : LGo P r N D B Ψ todo (st E ((o, .bx T cs k Te sz ys) :: L') n)) : LGo P r N D B Ψ todo (st E L n) := by
  refine LGo.conv (S' := st E ((o, .bx T cs k Te sz ys) :: L') n) (fun cx a w hr => ?_) h
  obtain ⟨hAo, b, vs, h1, h2, h3⟩ := hr.heap.ok o _ hb
  obtain ⟨v, hv1, hv2⟩ := h3.get hk
  have hok0 : HOk (fun _ => True) 0 cx (hp L) w := ⟨hr.heap.ok, fun q x c hx hc => ⟨(hr.heap.own q x c hx hc).1, (hr.heap.own q x c hx hc).2.1, .inr trivial⟩, hr.heap.inj, hr.heap.lim⟩
  obtain ⟨k1, k2, k3, k4⟩ := hv cx w v hok0 hv2
  let cx' : Cx := ⟨cx.pr, cx.A, cx.loc, fun q => if q = o then bk v else cx.inn q⟩
  have hle : CxLe cx cx' := fun q hq => ⟨hq, rfl⟩
  have hext : Ext cx.pr w cx'.pr w := Ext.refl _ _
  have hio : cx'.inn o = bk v := by show (if o = o then _ else _) = _; simp
  have hiq : ∀ q, q ≠ o → cx'.inn q = cx.inn q := fun q hq => by show (if q = o then _ else _) = _; rw [if_neg hq]
  have get : ∀ q x, hp ((o, LO.bx T cs k Te sz ys) :: L') q = some x → (q = o ∧ x = .bx T cs k Te sz ys) ∨ (q ≠ o ∧ hp L' q = some x ∧ hp L q = some x) := by
    intro q x hx
    by_cases hq : q = o
    · subst hq; simp only [hp, List.lookup_cons, beq_self_eq_true] at hx; cases hx; exact .inl ⟨rfl, rfl⟩
    · have e1 : (q == o) = false := by simp [hq]
      simp only [hp, List.lookup_cons, e1] at hx
      exact .inr ⟨hq, hx, (hL' q x hx).1⟩
  have hasQ : ∀ q x c, q ≠ o → (cx'.has q x c ↔ cx.has q x c) := fun q x c hq => by unfold Cx.has; rw [hiq q hq]
  have hasO : ∀ c, cx'.has o (.bx T cs k Te sz ys) c → cx.has o (.box T cs) c ∨ ∃ q x, q ≠ o ∧ hp L q = some x ∧ hp L' q = none ∧ cx.has q x c := by
    rintro c (hc | ⟨_, hc⟩)
    · exact .inl (.inl hc)
    · rw [hio] at hc; exact .inr (k4 c hc)
  refine ⟨cx', ⟨hr.grow, hr.le.trans hle, hr.hA, ⟨fun q x hx => ?_, fun q x c hx hc => ?_, fun q q' x x' c hne hx hx' hc hc' => ?_, hr.heap.lim⟩, hr.size, fun s e he => (hr.env s e he).mono hle hext, ?_, hr.dA⟩⟩
  · rcases get q x hx with ⟨rfl, rfl⟩ | ⟨hq, _, hx'⟩
    · obtain ⟨us, g1, g2, g3⟩ := k3
      refine ⟨hAo, b, vs, v, h1, h2, ?_, (List.getElem?_eq_some_iff.1 hk).1, hio, fun hbv => ?_, k1, k2, us, g1, Vs.mono hle hext _ _ g2, g3⟩
      · have e1 : cs = cs.set k lv := by
          apply List.ext_getElem?
          intro j
          rw [List.getElem?_set]
          by_cases hj : k = j
          · subst hj; rw [if_pos rfl, if_pos (List.getElem?_eq_some_iff.1 hk).1]; exact hk
          · rw [if_neg hj]
        rw [e1] at h3
        exact Vs.swap hle hext (fun u hu _ => by rw [hv1] at hu; cases hu; exact V.mkval) h3
      · obtain ⟨q', x', e1, e2, _, e4⟩ := k4 b hbv
        exact hr.heap.inj q' q x' _ b e1 e2 hb e4 (.inl (by rw [h1]; rfl))
    · obtain ⟨g1, g2⟩ := hr.heap.ok q x hx'
      exact ⟨g1, ObjOk.mono hle hext g1 (fun _ _ _ => rfl) (hiq q hq) g2⟩
  · rcases get q x hx with ⟨rfl, rfl⟩ | ⟨hq, _, hx'⟩
    · rcases hasO c hc with hc | ⟨q', x', e1, e2, _, e4⟩
      · exact hr.heap.own q _ c hb hc
      · exact hr.heap.own q' x' c e2 e4
    · exact hr.heap.own q x c hx' ((hasQ q x c hq).1 hc)
  · have cross : ∀ q x, q ≠ o → hp L' q = some x → hp L q = some x → cx.has q x c → cx'.has o (.bx T cs k Te sz ys) c → False := by
      intro q x hq hx' hx hc hco
      rcases hasO c hco with hc1 | ⟨q1, x1, e1, e2, e3, e4⟩
      · exact hr.heap.inj q o x _ c hq hx hb hc hc1
      · by_cases hqq : q = q1
        · subst hqq; rw [e3] at hx'; cases hx'
        · exact hr.heap.inj q q1 x x1 c hqq hx e2 hc e4
    rcases get q x hx with ⟨rfl, rfl⟩ | ⟨hq, hx1, hx2⟩ <;> rcases get q' x' hx' with ⟨rfl, rfl⟩ | ⟨hq', hx1', hx2'⟩
    · exact hne rfl
    · exact cross q' x' hq' hx1' hx2' ((hasQ q' x' c hq').1 hc') hc
    · exact cross q x hq hx1 hx2 ((hasQ q x c hq).1 hc) hc'
    · exact hr.heap.inj q q' x x' c hne hx2 hx2' ((hasQ q x c hq).1 hc) ((hasQ q' x' c hq').1 hc')
  · rw [hr.df]; rfl

theorem st_tell (o : Nat) (x y : LO) (L : List (Nat × LO)) : st E ((o, y) :: delL o ((o, x) :: L)) n = st E ((o, y) :: L) n := by
  simp only [st]
  congr 1
  rw [hp_tell]
  funext k
  unfold tellH
  by_cases hk : k = o
  · subst hk; simp
  · have h2 : (k == o) = false := by simp [hk]
    simp [hp, List.lookup_cons, h2, hk]
theorem bx_place {cx : Cx} {w : World} {o T k Te sz : Nat} {cs : List LV} {ys : List (List SV)} (c : LV) (h : ObjOk cx w o (.bx T cs k Te sz ys)) : ObjOk cx w o (.bx T (cs.set k c) k Te sz ys) := by
  obtain ⟨b, vs, v, h1, h2, h3, h4, h5⟩ := h
  exact ⟨b, vs, v, h1, h2, by rw [List.set_set]; exact h3, by rw [List.length_set]; exact h4, h5⟩

/-- the slice q goes into its box o -/
theorem LGo.pack (o k : Nat) {q T Te sz : Nat} {cs cs' : List LV} {ys : List (List SV)} (hb : hp L o = some (.box T cs) := by rfl) (hk : cs[k]? = some (.ref q) := by rfl) (hq : hp L q = some (.rs Te sz ys) := by rfl) (hne' : (q == o) = false := by rfl)
    (hcs : cs.set k (.v undef) = cs' := by rfl) (h : LGo P r N D B Ψ todo (st E ((o, .bx T cs' k Te sz ys) :: delL q (delL o L)) n)) : LGo P r N D B Ψ todo (st E L n) := by
  subst hcs
  have hne : q ≠ o := by simpa using hne'
  refine LGo.pack0 o (Te := Te) (sz := sz) (ys := ys) hb hk (delL q (delL o L)) (fun p x hx => ?_) (fun cx w v hok hv => ?_) (LGo.tell o (.bx T (cs.set k (.v undef)) k Te sz ys) (x := .bx T cs k Te sz ys) (by simp) (fun cx w hx => bx_place _ hx) ?_)
  · rw [delL_at] at hx
    by_cases hpq : p = q
    · rw [if_pos hpq] at hx; cases hx
    · rw [if_neg hpq, delL_at] at hx
      by_cases hpo : p = o
      · rw [if_pos hpo] at hx; cases hx
      · rw [if_neg hpo] at hx; exact ⟨hx, hpo⟩
  · obtain ⟨hAq, hsz, us, g1, g2, g3⟩ := hok.ok q _ hq
    simp only [V] at hv
    obtain ⟨_, rfl, hr⟩ := hv
    refine ⟨hr, hsz, ⟨us, g1, g2, g3⟩, fun g hg => ⟨q, _, hne, hq, ?_, .inl hg⟩⟩
    rw [delL_at, if_pos rfl]
  · rw [st_tell]; exact h
/-- a nil slice in its box o -/
theorem LGo.packNil (o k Te sz : Nat) {T : Nat} {cs cs' : List LV} (hb : hp L o = some (.box T cs) := by rfl) (hk : cs[k]? = some (.v (.slice none 0 0)) := by rfl)
    (hcs : cs.set k (.v undef) = cs' := by rfl) (h : LGo P r N D B Ψ todo (st E ((o, .bx T cs' k Te sz []) :: delL o L) n)) : LGo P r N D B Ψ todo (st E L n) := by
  subst hcs
  refine LGo.pack0 o (Te := Te) (sz := sz) (ys := []) hb hk (delL o L) (fun p x hx => ?_) (fun cx w v hok hv => ?_) (LGo.tell o (.bx T (cs.set k (.v undef)) k Te sz []) (x := .bx T cs k Te sz []) (by simp) (fun cx w hx => bx_place _ hx) ?_)
  · rw [delL_at] at hx
    by_cases hpo : p = o
    · rw [if_pos hpo] at hx; cases hx
    · rw [if_neg hpo] at hx; exact ⟨hx, hpo⟩
  · have := hv.val
    subst this
    exact ⟨rfl, by simp, ⟨[], World.ownsRow_nil w 0 Te sz, by simp [Vs], by simp⟩, fun g hg => by simp [bk] at hg⟩
  · rw [st_tell]; exact h

end

end Go.Proofs.Ytmiamhegohlglaa
