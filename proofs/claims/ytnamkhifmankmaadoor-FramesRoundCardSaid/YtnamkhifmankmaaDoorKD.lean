/- The ground of the walks: a program logic over told states (no condition). -/
import Derived.Test.YtnamkhifmankmaaDoorKC
import Derived.Deep.Slices
import Derived.Deep.Fields
import Derived.ChangeSame
import Derived.Carry
import Derived.ProofKit
import Derived.OpenShut
import Derived.Laws.Small
import Derived.Laws.CopyRow
import Derived.RowKit
import Derived.RowKit2
import Derived.WideKeyArgs
set_option linter.unusedSimpArgs false
set_option linter.unusedVariables false
/- A box whose cell is a slice of the box's own: told as a box and a slice, and back. -/
namespace Go.Proofs.YtnamkhifmankmaaDoor

theorem Vs.swap {cx cx' : Cx} {w : World} (hl : CxLe cx cx') (hx : Ext cx.pr w cx'.pr w) {d c : LV} : ∀ {cs : List LV} {k : Nat} {vs : List Value}, (∀ v, vs[k]? = some v → V cx w d v → V cx' w c v) → Vs cx w (cs.set k d) vs → Vs cx' w (cs.set k c) vs
  | [], k, vs, _, h => by simpa [Vs] using h
  | a :: cs, 0, vs, hc, h => by
    simp only [List.set_cons_zero, Vs] at h ⊢
    obtain ⟨y, r, rfl, h2, h3⟩ := h
    exact ⟨y, r, rfl, hc y rfl h2, Vs.mono hl hx _ _ h3⟩
  | a :: cs, k + 1, vs, hc, h => by
    simp only [List.set_cons_succ, Vs] at h ⊢
    obtain ⟨y, r, rfl, h2, h3⟩ := h
    exact ⟨y, r, rfl, V.mono hl hx _ _ h2, Vs.swap hl hx (fun v hv => hc v (by simpa using hv)) h3⟩

section
variable {P : Program} {r : Option Nat} {N : Nat} {D : List Nat} {B : Base} {Ψ : Exit → Act → World → Prop} {todo : List Item}
variable {E : List (Nat × Ent)} {L : List (Nat × LO)} {n : Nat}

theorem Rel.unpack (o : Nat) {T k Te sz : Nat} {cs cs' : List LV} {ys : List (List SV)} (hb : hp L o = some (.bx T cs k Te sz ys) := by rfl) (hcs : cs.set k (.ref n) = cs' := by rfl)
    {cx : Cx} {a : Act} {w : World} (hr : Rel B N D (st E L n) cx a w) : ∃ cx', Rel B N D (st E ((n, .rs Te sz ys) :: (o, .box T cs') :: delL o L) (n + 1)) cx' a w := by
  subst hcs
  have hA : ¬ cx.A n := by rw [hr.hA]; show ¬ n < n; omega
  obtain ⟨hAo, b, vs, v, h1, h2, h3, h4, h5, h5', h5'', h6, us, h7, h8, h9⟩ := hr.heap.ok o _ hb
  have hon : o ≠ n := fun e => hA (e ▸ hAo)
  let cx' : Cx := ⟨cx.pr, fun q => cx.A q ∨ q = n, fun q => if q = n then v else cx.loc q, cx.inn⟩
  have hle : CxLe cx cx' := fun q hq => ⟨.inl hq, by
    show (if q = n then _ else cx.loc q) = _
    rw [if_neg (by rintro rfl; exact hA hq)]⟩
  have hlo : cx'.loc n = v := by show (if n = n then _ else _) = _; simp
  have hext : Ext cx.pr w cx'.pr w := Ext.refl _ _
  have get : ∀ q x, hp ((n, LO.rs Te sz ys) :: (o, .box T (cs.set k (.ref n))) :: delL o L) q = some x → (q = n ∧ x = .rs Te sz ys) ∨ (q = o ∧ x = .box T (cs.set k (.ref n))) ∨ (q ≠ n ∧ q ≠ o ∧ hp L q = some x) := by
    intro q x hx
    by_cases hq : q = n
    · subst hq; simp only [hp, List.lookup_cons, beq_self_eq_true] at hx; cases hx; exact .inl ⟨rfl, rfl⟩
    · have e1 : (q == n) = false := by simp [hq]
      simp only [hp, List.lookup_cons, e1] at hx
      by_cases hqo : q = o
      · subst hqo; simp only [beq_self_eq_true] at hx; cases hx; exact .inr (.inl ⟨rfl, rfl⟩)
      · have e2 : (q == o) = false := by simp [hqo]
        simp only [e2] at hx
        have := congrFun (delL_hp o L) q
        simp only [hp] at this
        rw [this, if_neg hqo] at hx
        exact .inr (.inr ⟨hq, hqo, hx⟩)
  have old : ∀ q x, hp L q = some x → ∀ c, cx'.has q x c ↔ cx.has q x c := fun q x hx c => by unfold Cx.has; rw [(hle q (hr.heap.ok q x hx).1).2]
  have hasN : ∀ c, cx'.has n (.rs Te sz ys) c → cx.has o (.bx T cs k Te sz ys) c := by
    intro c hc
    rw [Cx.has_of rfl, hlo] at hc
    exact .inr ⟨rfl, by rw [h5]; exact hc⟩
  have hasO : ∀ c, cx'.has o (.box T (cs.set k (.ref n))) c → cx.has o (.bx T cs k Te sz ys) c ∧ bk (cx.loc o) = some c := by
    intro c hc
    rw [Cx.has_of rfl, (hle o hAo).2] at hc
    exact ⟨.inl hc, hc⟩
  refine ⟨cx', ⟨hr.grow, hr.le.trans hle, ?_, ⟨fun q x hx => ?_, fun q x c hx hc => ?_, fun q q' x x' c hne hx hx' hc hc' => ?_, hr.heap.lim⟩, hr.size, fun s e he => (hr.env s e he).mono hle hext, ?_, fun q hq => .inl (hr.dA q hq)⟩⟩
  · funext q
    have : cx.A q ↔ q < n := by rw [hr.hA]
    exact propext ⟨fun h => by
      rcases h with h | h
      · have := this.1 h; show q < n + 1; omega
      · show q < n + 1; omega, fun h => by
      have h' : q < n + 1 := h
      rcases Nat.lt_or_ge q n with h1 | h1
      · exact .inl (this.2 h1)
      · exact .inr (by omega)⟩
  · rcases get q x hx with ⟨rfl, rfl⟩ | ⟨rfl, rfl⟩ | ⟨hq, hqo, hx'⟩
    · exact ⟨.inr rfl, h6, us, by rw [hlo]; exact h7, Vs.mono hle hext _ _ h8, h9⟩
    · refine ⟨.inl hAo, b, vs, by rw [(hle q hAo).2]; exact h1, h2, Vs.swap hle hext (fun u hu hd => ?_) h3⟩
      have hu' : u = v := hd.val
      subst hu'
      simp only [V]
      exact ⟨.inr rfl, hlo.symm, h5''⟩
    · obtain ⟨k1, k2⟩ := hr.heap.ok q x hx'
      exact ⟨.inl k1, ObjOk.mono hle hext k1 (fun _ _ _ => rfl) rfl k2⟩
  · rcases get q x hx with ⟨rfl, rfl⟩ | ⟨rfl, rfl⟩ | ⟨hq, hqo, hx'⟩
    · exact hr.heap.own o _ c hb (hasN c hc)
    · exact hr.heap.own q _ c hb (hasO c hc).1
    · exact hr.heap.own q x c hx' ((old q x hx' c).1 hc)
  · rcases get q x hx with ⟨rfl, rfl⟩ | ⟨rfl, rfl⟩ | ⟨hq, hqo, hx1⟩ <;> rcases get q' x' hx' with ⟨rfl, rfl⟩ | ⟨rfl, rfl⟩ | ⟨hq', hqo', hx1'⟩
    · exact hne rfl
    · have e1 := (hasO c hc').2
      rw [Cx.has_of rfl, hlo] at hc
      rw [h1] at e1
      simp only [bk, Option.some.injEq] at e1
      subst e1
      exact h5' hc
    · exact hr.heap.inj o q' _ x' c (Ne.symm hqo') hb hx1' (hasN c hc) ((old q' x' hx1' c).1 hc')
    · have e1 := (hasO c hc).2
      rw [Cx.has_of rfl, hlo] at hc'
      rw [h1] at e1
      simp only [bk, Option.some.injEq] at e1
      subst e1
      exact h5' hc'
    · exact hne rfl
    · exact hr.heap.inj q q' _ x' c (Ne.symm hqo') hb hx1' (hasO c hc).1 ((old q' x' hx1' c).1 hc')
    · exact hr.heap.inj q o x _ c hqo hx1 hb ((old q x hx1 c).1 hc) (hasN c hc')
    · exact hr.heap.inj q q' x _ c hqo hx1 hb ((old q x hx1 c).1 hc) (hasO c hc').1
    · exact hr.heap.inj q q' x x' c hne hx1 hx1' ((old q x hx1 c).1 hc) ((old q' x' hx1' c).1 hc')
  · rw [hr.df]
    exact List.map_congr_left (fun q hq => by simp only [mkd]; rw [(hle q (hr.dA q hq)).2])
theorem LGo.unpack (o : Nat) {T k Te sz : Nat} {cs cs' : List LV} {ys : List (List SV)} (hb : hp L o = some (.bx T cs k Te sz ys) := by rfl) (hcs : cs.set k (.ref n) = cs' := by rfl)
    (h : LGo P r N D B Ψ todo (st E ((n, .rs Te sz ys) :: (o, .box T cs') :: delL o L) (n + 1))) : LGo P r N D B Ψ todo (st E L n) :=
  LGo.conv (fun cx a w hr => Rel.unpack o hb hcs hr) h
theorem RelTo.unpack (o : Nat) {T k Te sz : Nat} {cs cs' : List LV} {ys : List (List SV)} {Q : Act → World → Prop} (hb : hp L o = some (.bx T cs k Te sz ys) := by rfl) (hcs : cs.set k (.ref n) = cs' := by rfl)
    (h : ∀ cx a w, Rel B N D (st E ((n, .rs Te sz ys) :: (o, .box T cs') :: delL o L) (n + 1)) cx a w → Q a w) : ∀ cx a w, Rel B N D (st E L n) cx a w → Q a w := fun cx a w hr => by
  obtain ⟨cx', hr'⟩ := Rel.unpack o hb hcs hr
  exact h cx' a w hr'
theorem LGo.pack0 (o : Nat) {T k Te sz : Nat} {cs : List LV} {ys : List (List SV)} (hb : hp L o = some (.box T cs)) {lv : LV} (hk : cs[k]? = some lv) (L' : List (Nat × LO)) (hL' : ∀ q x, hp L' q = some x → hp L q = some x ∧ q ≠ o)
    (hv : ∀ cx w v, HOk (fun _ => True) 0 cx (hp L) w → V cx w lv v → isRef v = true ∧ (∀ e ∈ ys, e.length = sz) ∧ (∃ us, w.ownsRow 0 Te sz v ys.length us ∧ Vs cx w (ys.flatten.map LV.sv) us ∧ ∀ u ∈ us, u.oneCell' = true) ∧
      ∀ g, bk v = some g → ∃ q x, q ≠ o ∧ hp L q = some x ∧ hp L' q = none ∧ cx.has q x g)
    (h : LGo P r N D B Ψ todo (st E ((o, .bx T cs k Te sz ys) :: L') n)) : LGo P r N D B Ψ todo (st E L n) := by
  refine LGo.conv (S' := st E ((o, .bx T cs k Te sz ys) :: L') n) (fun cx a w hr => ?_) h
  obtain ⟨hAo, b, vs, h1, h2, h3⟩ := hr.heap.ok o _ hb
  obtain ⟨v, hv1, hv2⟩ := h3.get hk
  have hok0 : HOk (fun _ => True) 0 cx (hp L) w := ⟨hr.heap.ok, fun q x c hx hc => ⟨(hr.heap.own q x c hx hc).1, (hr.heap.own q x c hx hc).2.1, .inr trivial⟩, hr.heap.inj, hr.heap.lim⟩
  obtain ⟨k1, k2, k3, k4⟩ := hv cx w v hok0 hv2
  let cx' : Cx := ⟨cx.pr, cx.A, cx.loc, fun q => if q = o then bk v else cx.inn q⟩
  have hle : CxLe cx cx' := fun q hq => ⟨hq, rfl⟩
  have hext : Ext cx.pr w cx'.pr w := Ext.refl _ _
  have hio : cx'.inn o = bk v := by show (if o = o then _ else _) = _; simp
  have hiq : ∀ q, q ≠ o → cx'.inn q = cx.inn q := fun q hq => by show (if q = o then _ else _) = _; rw [if_neg hq]
  have get : ∀ q x, hp ((o, LO.bx T cs k Te sz ys) :: L') q = some x → (q = o ∧ x = .bx T cs k Te sz ys) ∨ (q ≠ o ∧ hp L' q = some x ∧ hp L q = some x) := by
    intro q x hx
    by_cases hq : q = o
    · subst hq; simp only [hp, List.lookup_cons, beq_self_eq_true] at hx; cases hx; exact .inl ⟨rfl, rfl⟩
    · have e1 : (q == o) = false := by simp [hq]
      simp only [hp, List.lookup_cons, e1] at hx
      exact .inr ⟨hq, hx, (hL' q x hx).1⟩
  have hasQ : ∀ q x c, q ≠ o → (cx'.has q x c ↔ cx.has q x c) := fun q x c hq => by unfold Cx.has; rw [hiq q hq]
  have hasO : ∀ c, cx'.has o (.bx T cs k Te sz ys) c → cx.has o (.box T cs) c ∨ ∃ q x, q ≠ o ∧ hp L q = some x ∧ hp L' q = none ∧ cx.has q x c := by
    rintro c (hc | ⟨_, hc⟩)
    · exact .inl (.inl hc)
    · rw [hio] at hc; exact .inr (k4 c hc)
  refine ⟨cx', ⟨hr.grow, hr.le.trans hle, hr.hA, ⟨fun q x hx => ?_, fun q x c hx hc => ?_, fun q q' x x' c hne hx hx' hc hc' => ?_, hr.heap.lim⟩, hr.size, fun s e he => (hr.env s e he).mono hle hext, ?_, hr.dA⟩⟩
  · rcases get q x hx with ⟨rfl, rfl⟩ | ⟨hq, _, hx'⟩
    · obtain ⟨us, g1, g2, g3⟩ := k3
      refine ⟨hAo, b, vs, v, h1, h2, ?_, (List.getElem?_eq_some_iff.1 hk).1, hio, fun hbv => ?_, k1, k2, us, g1, Vs.mono hle hext _ _ g2, g3⟩
      · have e1 : cs = cs.set k lv := by
          apply List.ext_getElem?
          intro j
          rw [List.getElem?_set]
          by_cases hj : k = j
          · subst hj; rw [if_pos rfl, if_pos (List.getElem?_eq_some_iff.1 hk).1]; exact hk
          · rw [if_neg hj]
        rw [e1] at h3
        exact Vs.swap hle hext (fun u hu _ => by rw [hv1] at hu; cases hu; exact V.mkval) h3
      · obtain ⟨q', x', e1, e2, _, e4⟩ := k4 b hbv
        exact hr.heap.inj q' q x' _ b e1 e2 hb e4 (.inl (by rw [h1]; rfl))
    · obtain ⟨g1, g2⟩ := hr.heap.ok q x hx'
      exact ⟨g1, ObjOk.mono hle hext g1 (fun _ _ _ => rfl) (hiq q hq) g2⟩
  · rcases get q x hx with ⟨rfl, rfl⟩ | ⟨hq, _, hx'⟩
    · rcases hasO c hc with hc | ⟨q', x', e1, e2, _, e4⟩
      · exact hr.heap.own q _ c hb hc
      · exact hr.heap.own q' x' c e2 e4
    · exact hr.heap.own q x c hx' ((hasQ q x c hq).1 hc)
  · have cross : ∀ q x, q ≠ o → hp L' q = some x → hp L q = some x → cx.has q x c → cx'.has o (.bx T cs k Te sz ys) c → False := by
      intro q x hq hx' hx hc hco
      rcases hasO c hco with hc1 | ⟨q1, x1, e1, e2, e3, e4⟩
      · exact hr.heap.inj q o x _ c hq hx hb hc hc1
      · by_cases hqq : q = q1
        · subst hqq; rw [e3] at hx'; cases hx'
        · exact hr.heap.inj q q1 x x1 c hqq hx e2 hc e4
    rcases get q x hx with ⟨rfl, rfl⟩ | ⟨hq, hx1, hx2⟩ <;> rcases get q' x' hx' with ⟨rfl, rfl⟩ | ⟨hq', hx1', hx2'⟩
    · exact hne rfl
    · exact cross q' x' hq' hx1' hx2' ((hasQ q' x' c hq').1 hc') hc
    · exact cross q x hq hx1 hx2 ((hasQ q x c hq).1 hc) hc'
    · exact hr.heap.inj q q' x x' c hne hx2 hx2' ((hasQ q x c hq).1 hc) ((hasQ q' x' c hq').1 hc')
  · rw [hr.df]; rfl

theorem st_tell (o : Nat) (x y : LO) (L : List (Nat × LO)) : st E ((o, y) :: delL o ((o, x) :: L)) n = st E ((o, y) :: L) n := by
  simp only [st]
  congr 1
  rw [hp_tell]
  funext k
  unfold tellH
  by_cases hk : k = o
  · subst hk; simp
  · have h2 : (k == o) = false := by simp [hk]
    simp [hp, List.lookup_cons, h2, hk]
theorem bx_place {cx : Cx} {w : World} {o T k Te sz : Nat} {cs : List LV} {ys : List (List SV)} (c : LV) (h : ObjOk cx w o (.bx T cs k Te sz ys)) : ObjOk cx w o (.bx T (cs.set k c) k Te sz ys) := by
  obtain ⟨b, vs, v, h1, h2, h3, h4, h5⟩ := h
  exact ⟨b, vs, v, h1, h2, by rw [List.set_set]; exact h3, by rw [List.length_set]; exact h4, h5⟩

/-- the slice q goes into its box o -/
theorem LGo.pack (o k : Nat) {q T Te sz : Nat} {cs cs' : List LV} {ys : List (List SV)} (hb : hp L o = some (.box T cs) := by rfl) (hk : cs[k]? = some (.ref q) := by rfl) (hq : hp L q = some (.rs Te sz ys) := by rfl) (hne' : (q == o) = false := by rfl)
    (hcs : cs.set k (.v undef) = cs' := by rfl) (h : LGo P r N D B Ψ todo (st E ((o, .bx T cs' k Te sz ys) :: delL q (delL o L)) n)) : LGo P r N D B Ψ todo (st E L n) := by
  subst hcs
  have hne : q ≠ o := by simpa using hne'
  refine LGo.pack0 o (Te := Te) (sz := sz) (ys := ys) hb hk (delL q (delL o L)) (fun p x hx => ?_) (fun cx w v hok hv => ?_) (LGo.tell o (.bx T (cs.set k (.v undef)) k Te sz ys) (x := .bx T cs k Te sz ys) (by simp) (fun cx w hx => bx_place _ hx) ?_)
  · rw [delL_at] at hx
    by_cases hpq : p = q
    · rw [if_pos hpq] at hx; cases hx
    · rw [if_neg hpq, delL_at] at hx
      by_cases hpo : p = o
      · rw [if_pos hpo] at hx; cases hx
      · rw [if_neg hpo] at hx; exact ⟨hx, hpo⟩
  · obtain ⟨hAq, hsz, us, g1, g2, g3⟩ := hok.ok q _ hq
    simp only [V] at hv
    obtain ⟨_, rfl, hr⟩ := hv
    refine ⟨hr, hsz, ⟨us, g1, g2, g3⟩, fun g hg => ⟨q, _, hne, hq, ?_, .inl hg⟩⟩
    rw [delL_at, if_pos rfl]
  · rw [st_tell]; exact h
/-- a nil slice in its box o -/
theorem LGo.packNil (o k Te sz : Nat) {T : Nat} {cs cs' : List LV} (hb : hp L o = some (.box T cs) := by rfl) (hk : cs[k]? = some (.v (.slice none 0 0)) := by rfl)
    (hcs : cs.set k (.v undef) = cs' := by rfl) (h : LGo P r N D B Ψ todo (st E ((o, .bx T cs' k Te sz []) :: delL o L) n)) : LGo P r N D B Ψ todo (st E L n) := by
  subst hcs
  refine LGo.pack0 o (Te := Te) (sz := sz) (ys := []) hb hk (delL o L) (fun p x hx => ?_) (fun cx w v hok hv => ?_) (LGo.tell o (.bx T (cs.set k (.v undef)) k Te sz []) (x := .bx T cs k Te sz []) (by simp) (fun cx w hx => bx_place _ hx) ?_)
  · rw [delL_at] at hx
    by_cases hpo : p = o
    · rw [if_pos hpo] at hx; cases hx
    · rw [if_neg hpo] at hx; exact ⟨hx, hpo⟩
  · have := hv.val
    subst this
    exact ⟨rfl, by simp, ⟨[], World.ownsRow_nil w 0 Te sz, by simp [Vs], by simp⟩, fun g hg => by simp [bk] at hg⟩
  · rw [st_tell]; exact h

end

end Go.Proofs.YtnamkhifmankmaaDoor

/- Ranges over functions: rounds in a row. -/
namespace Go.Proofs.YtnamkhifmankmaaDoor

/-- rounds in a row, none of which stops: S j: the objects before round j -/
theorem YRun.fold {P : Program} {y : Nat} {C : List (Nat × LO) → Prop} : ∀ (xs : List (List LV)) (S : Nat → List (Nat × LO)), (∀ j, j ≤ xs.length → C (S j)) →
    (∀ j (h : j < xs.length), Yld P y xs[j] (S j) true (S (j + 1))) → YRun P y C xs (S 0) (S xs.length)
  | [], S, hC, _ => .nil (hC 0 (by simp))
  | x :: xs, S, hC, hy => by
    refine .go (hC 0 (by simp)) (hy 0 (by simp)) ?_
    exact YRun.fold xs (fun j => S (j + 1)) (fun j hj => hC (j + 1) (by simpa using hj)) (fun j hj => hy (j + 1) (by simpa using hj))
/-- rounds in a row; round k stops -/
theorem YRun.foldTo {P : Program} {y : Nat} {C : List (Nat × LO) → Prop} : ∀ (xs : List (List LV)) (k : Nat) (S : Nat → List (Nat × LO)) (hk : k < xs.length), (∀ j, j ≤ k + 1 → C (S j)) →
    (∀ j (h : j < k), Yld P y (xs[j]'(by omega)) (S j) true (S (j + 1))) → Yld P y xs[k] (S k) false (S (k + 1)) → YRun P y C xs (S 0) (S (k + 1))
  | [], k, S, hk, _, _, _ => by simp at hk
  | x :: xs, 0, S, hk, hC, hy, hs => .stop (hC 0 (by omega)) hs (hC 1 (by omega))
  | x :: xs, k + 1, S, hk, hC, hy, hs => by
    refine .go (hC 0 (by omega)) (hy 0 (by omega)) ?_
    exact YRun.foldTo xs k (fun j => S (j + 1)) (by simpa using hk) (fun j hj => hC (j + 1) (by omega)) (fun j hj => hy (j + 1) (by omega)) hs

section
variable {P : Program} {N : Nat} {D : List Nat} {B : Base} {Ψ : Exit → Act → World → Prop} {todo : List Item}
variable {E : List (Nat × Ent)} {L : List (Nat × LO)} {n : Nat}

/-- a range over a function that comes to its end -/
theorem LGo.rangeN {f : Operand} {ps : Array Tmp} {assign body : Code} {gf : Nat} {cap : List LV} (L' : FuncId → Code → Code → List (Nat × LO))
    (hit : ∀ fn ac bc, assign = ac → body = bc → LC P gf (n + 2) (.yld (n + 1) :: cap) (L ++ [(n, .raw (.deferred (some []))), (n + 1, .loop fn N E ps ac bc .ready none)]) (.tup []) (L' fn ac bc) 0)
    (h : ∀ fn, LGo P none N (n :: D) B Ψ todo (st E ((n + 1, .loop fn N E ps assign body .exhausted none) :: L' fn assign body) (n + 2)))
    (hend : ∀ fn, hp (L' fn assign body) (n + 1) = some (.loop fn N E ps assign body .ready none) := by exact fun _ => rfl)
    (hf : lvOf (en E) f = some (true, .fn (.func gf) [] cap) := by rfl) (hL : L.map (·.1) = List.range n := by rfl) :
    LGo P none N D B Ψ (.code (.rangeFunc f ps assign body) :: todo) (st E L n) :=
  LGo.rangeFunc (L' := fun fn => L' fn assign body) (s' := .ready) (pd := none) hf hL (by simp) (fun fn => hit fn _ _ rfl rfl) hend (fun fn => h fn)
/-- a range over a function in which a round returns -/
theorem LGo.rangeR {f : Operand} {ps : Array Tmp} {assign body : Code} {gf : Nat} {cap : List LV} (L' : FuncId → Code → Code → List (Nat × LO))
    (hit : ∀ fn ac bc, assign = ac → body = bc → LC P gf (n + 2) (.yld (n + 1) :: cap) (L ++ [(n, .raw (.deferred (some []))), (n + 1, .loop fn N E ps ac bc .ready none)]) (.tup []) (L' fn ac bc) 0)
    (h : ∀ fn, ∀ cx a w, Rel B N (n :: D) (st E ((n + 1, .loop fn N E ps assign body .exhausted (some .ret)) :: L' fn assign body) (n + 2)) cx a w → Ψ .ret a w)
    (hend : ∀ fn, hp (L' fn assign body) (n + 1) = some (.loop fn N E ps assign body .done (some .ret)) := by exact fun _ => rfl)
    (hf : lvOf (en E) f = some (true, .fn (.func gf) [] cap) := by rfl) (hL : L.map (·.1) = List.range n := by rfl) :
    LGo P none N D B Ψ (.code (.rangeFunc f ps assign body) :: todo) (st E L n) :=
  LGo.rangeFunc (L' := fun fn => L' fn assign body) (s' := .done) (pd := some .ret) hf hL (by simp) (fun fn => hit fn _ _ rfl rfl) hend (fun fn => h fn)
/-- a range over a function that a round breaks off -/
theorem LGo.rangeX {f : Operand} {ps : Array Tmp} {assign body : Code} {gf : Nat} {cap : List LV} {id : Nat} {k' : List Item} (L' : FuncId → Code → Code → List (Nat × LO))
    (hit : ∀ fn ac bc, assign = ac → body = bc → LC P gf (n + 2) (.yld (n + 1) :: cap) (L ++ [(n, .raw (.deferred (some []))), (n + 1, .loop fn N E ps ac bc .ready none)]) (.tup []) (L' fn ac bc) 0)
    (hk : exitTo id todo = some k')
    (h : ∀ fn, LGo P none N (n :: D) B Ψ k' (st E ((n + 1, .loop fn N E ps assign body .exhausted (some (.exit id))) :: L' fn assign body) (n + 2)))
    (hend : ∀ fn, hp (L' fn assign body) (n + 1) = some (.loop fn N E ps assign body .done (some (.exit id))) := by exact fun _ => rfl)
    (hf : lvOf (en E) f = some (true, .fn (.func gf) [] cap) := by rfl) (hL : L.map (·.1) = List.range n := by rfl) :
    LGo P none N D B Ψ (.code (.rangeFunc f ps assign body) :: todo) (st E L n) :=
  LGo.rangeFunc (L' := fun fn => L' fn assign body) (s' := .done) (pd := some (.exit id)) hf hL (by simp) (fun fn => hit fn _ _ rfl rfl) hend (fun fn => ⟨k', hk, h fn⟩)

/-- one round, walked -/
theorem Yld.walk (m : Nat) (E1 : List (Nat × Ent)) {y fn : Nat} {lvs : List LV} {L1 : List (Nat × LO)} {b : Bool} {ps : Array Tmp} {assign body : Code}
    (hm : L.length = m := by rfl) (hL : L.map (·.1) = List.range m := by rfl) (hlt : (L.all fun p => p.2.lt m) = true := by first | rfl | simp [LO.lt, LV.lts, LV.lt, lts_sv]) (hargs : LV.lts m lvs = true := by rfl) (hy : hp L y = some (.loop fn N E ps assign body .ready none) := by rfl)
    (hps : ps.size = lvs.length := by rfl) (hpN : ∀ p ∈ ps.toList, p < N) (hos : L1.map (·.1) = L.map (·.1) := by rfl)
    (hA : ∀ (l : Nat) (B : Base), (∀ o, B.cx.A o ↔ o < m) → B.md = blks B.cx (hp L) → LGo P (some l) N [] B (AssignEnd B N (st E1 L m)) [.code assign] (st (psE ps.toList lvs E) L m))
    (hB : ∀ (l : Nat) (B : Base), (∀ o, B.cx.A o ↔ o < m) → B.md = blks B.cx (hp L) →
      LGo P (some l) N [] B (RoundEnd B N L1 m y fn E ps assign body b) [.code body] (st E1 ((y, .loop fn N E ps assign body .busy none) :: L) m)) :
    Yld P y lvs L b L1 := by
  subst hm
  exact Yld.of_go hL (fun p hp' => List.all_eq_true.1 hlt p hp') hargs hy hy hps hpN hos hA hB
/-- one round, walked; the assignment makes objects -/
theorem Yld.walkA (m m1 : Nat) (E1 : List (Nat × Ent)) (La : List (Nat × LO)) {y fn : Nat} {lvs : List LV} {L1 : List (Nat × LO)} {b : Bool} {ps : Array Tmp} {assign body : Code}
    (hm : L.length = m := by rfl) (hL : L.map (·.1) = List.range m := by rfl) (hlt : (L.all fun p => p.2.lt m) = true := by first | rfl | simp [LO.lt, LV.lts, LV.lt, lts_sv]) (hargs : LV.lts m lvs = true := by rfl) (hy : hp L y = some (.loop fn N E ps assign body .ready none) := by rfl) (hya : hp La y = some (.loop fn N E ps assign body .ready none) := by rfl)
    (hps : ps.size = lvs.length := by rfl) (hpN : ∀ p ∈ ps.toList, p < N) (hos : L1.map (·.1) = L.map (·.1) := by rfl)
    (hA : ∀ (l : Nat) (B : Base), (∀ o, B.cx.A o ↔ o < m) → B.md = blks B.cx (hp L) → LGo P (some l) N [] B (AssignEnd B N (st E1 La m1)) [.code assign] (st (psE ps.toList lvs E) L m))
    (hB : ∀ (l : Nat) (B : Base), (∀ o, B.cx.A o ↔ o < m) → B.md = blks B.cx (hp L) →
      LGo P (some l) N [] B (RoundEnd B N L1 m y fn E ps assign body b) [.code body] (st E1 ((y, .loop fn N E ps assign body .busy none) :: La) m1)) :
    Yld P y lvs L b L1 := by
  subst hm
  exact Yld.of_go hL (fun p hp' => List.all_eq_true.1 hlt p hp') hargs hy hya hps hpN hos hA hB

/-- the end of a round that goes on -/
theorem RoundEnd.go {L1 : List (Nat × LO)} {m y fn : Nat} {E2 : List (Nat × Ent)} {Le : List (Nat × LO)} {ps : Array Tmp} {assign body : Code}
    (hy : hp Le y = some (.loop fn N E ps assign body .busy none) := by rfl) (hL : ∀ o x, hp L1 o = some x → o ≠ y → hp Le o = some x) (h1 : hp L1 y = some (.loop fn N E ps assign body .ready none) := by rfl) :
    ∀ cx a w, Rel B N [] (st E2 Le m) cx a w → RoundEnd B N L1 m y fn E ps assign body true .normal a w :=
  fun cx a w hr => ⟨cx, Le, E2, hr, hy, hL, rfl, h1⟩
theorem RoundEnd.ret {L1 : List (Nat × LO)} {m y fn : Nat} {E2 : List (Nat × Ent)} {Le : List (Nat × LO)} {ps : Array Tmp} {assign body : Code}
    (hy : hp Le y = some (.loop fn N E ps assign body .busy none) := by rfl) (hL : ∀ o x, hp L1 o = some x → o ≠ y → hp Le o = some x) (h1 : hp L1 y = some (.loop fn N E ps assign body .done (some .ret)) := by rfl) :
    ∀ cx a w, Rel B N [] (st E2 Le m) cx a w → RoundEnd B N L1 m y fn E ps assign body false .ret a w :=
  fun cx a w hr => ⟨cx, Le, E2, hr, hy, hL, rfl, h1⟩
theorem RoundEnd.exit {L1 : List (Nat × LO)} {m y fn id : Nat} {E2 : List (Nat × Ent)} {Le : List (Nat × LO)} {ps : Array Tmp} {assign body : Code}
    (hy : hp Le y = some (.loop fn N E ps assign body .busy none) := by rfl) (hL : ∀ o x, hp L1 o = some x → o ≠ y → hp Le o = some x) (h1 : hp L1 y = some (.loop fn N E ps assign body .done (some (.exit id))) := by rfl) :
    ∀ cx a w, Rel B N [] (st E2 Le m) cx a w → RoundEnd B N L1 m y fn E ps assign body false (.exit id) a w :=
  fun cx a w hr => ⟨cx, Le, E2, hr, hy, hL, rfl, h1⟩
end

end Go.Proofs.YtnamkhifmankmaaDoor

/- A place where ways meet, told by the slots that turn. -/
namespace Go.Proofs.YtnamkhifmankmaaDoor
section
variable {P : Program} {r : Option Nat} {N : Nat} {D : List Nat} {B : Base} {Ψ : Exit → Act → World → Prop} {todo : List Item}
variable {E : List (Nat × Ent)} {L : List (Nat × LO)} {n : Nat}
theorem LGo.cut {σ : Type} (Q : σ → Prop) (EE : σ → List (Nat × Ent)) (LL : σ → List (Nat × LO)) (m : Nat) (Er : List (Nat × Ent)) {x : Item} (hEr : KeepE (en E) Er)
    (hr : ∀ a, Q a → LGo P r N D B Ψ todo (st (EE a ++ Er) (LL a) m)) (h : (∀ a, Q a → LGo P r N D B Ψ todo (st (EE a ++ Er) (LL a) m)) → LGo P r N D B Ψ (x :: todo) (st E L n)) : LGo P r N D B Ψ (x :: todo) (st E L n) := h hr
end
end Go.Proofs.YtnamkhifmankmaaDoor

/- An operation that is not carried out. -/
namespace Go.Proofs.YtnamkhifmankmaaDoor
section
variable {P : Program} {r : Option Nat} {N : Nat} {D : List Nat} {B : Base} {all : Array Oper} {K : List (Nat × Ct) → St → Prop}
variable {i : Nat} {ops : List Oper} {tr : List (Nat × Ct)} {E : List (Nat × Ent)} {L : List (Nat × LO)} {n : Nat} {g : Bool} {gn : List (Nat × Ent)}
variable {d ty : Nat} {pos : String} {aft : Array Edge} {gd : Option (Nat × Bool)}
theorem R.skip {op : Op} {xs : List Operand} {es : List Ent} (out : LV)
    (ho : all[i]? = some ⟨some d, op, ty, pos, aft, gd⟩ := by rfl) (hg : GuardOk (en E) all gd g gn := by first | exact gN | exact gS rfl rfl)
    (hops : op.operands.toList = xs := by rfl) (hx : xs.map (lvOf (en E)) = es.map some := by rfl) (hgf : g = false := by first | rfl | (simp; done) | simp_all)
    (h : Reg P r N D B all (i + 1) ops ((i, Ct.p gn xs es (some d) (g, out) []) :: tr) (st ((d, (g, out)) :: E) L n) K) :
    Reg P r N D B all i (⟨some d, op, ty, pos, aft, gd⟩ :: ops) tr (st E L n) K := by
  have hl : (Oper.mk (some d) op ty pos aft gd).op.operands.toList = xs := hops
  refine Reg.pure (es := es) (rd := []) (out := out) ho hg (by rw [hl]; exact Opnds.of_map hx) (by simp) (fun hgt => ?_) (by rw [hl]; exact h)
  rw [hgf] at hgt; cases hgt
end
end Go.Proofs.YtnamkhifmankmaaDoor

/- From the readings of arguments to closed values; from a contract to a law's row. -/
namespace Go.Proofs.YtnamkhifmankmaaDoor
open Go.ChangeShapes Go.WideShapes Go.Deep Go.RowKit Go.ChangeAt

theorem addr_add (b off q : Nat) : (⟨b, off, none⟩ : Addr).add q = ⟨b, off + q, none⟩ := by
  unfold Addr.add
  split
  · rename_i h; rw [h]; rfl
  · rfl

section
variable {H : Type} {enc : TypeId × Value → H} {P : Program} {w : World}

/-- what is read at type t: closed cells of a shape -/
def Rd (enc : TypeId × Value → H) (P : Program) (w : World) (t : TypeId) (Sh : List SV → Prop) : Prop :=
  ∀ (n : Nat) (cs : List Value) (x : DataW H × List MemPlace), DataW.trod enc P w 0 (fun _ => true) true n t cs = some x →
    ∃ ss : List SV, Sh ss ∧ ss.length = cs.length ∧ (∀ (j : Nat) (s : SV) (v : Value), ss[j]? = some s → cs[j]? = some v → VS (cellsAt w) w s v ∧ v.oneCell' = true)

theorem Rd.mono {t : TypeId} {Sh Sh' : List SV → Prop} (h : Rd enc P w t Sh) (hs : ∀ ss, Sh ss → Sh' ss) : Rd enc P w t Sh' := fun n cs x hx => by
  obtain ⟨ss, h1, h2⟩ := h n cs x hx
  exact ⟨ss, hs ss h1, h2⟩

theorem Rd.one {t : TypeId} {S : SV → Prop} (h : ∀ n cs x, DataW.trod enc P w 0 (fun _ => true) true n t cs = some x → ∃ s v, cs = [v] ∧ S s ∧ VS (cellsAt w) w s v ∧ v.oneCell' = true) : Rd enc P w t (fun ss => ∃ s, ss = [s] ∧ S s) := fun n cs x hx => by
  obtain ⟨s, v, rfl, h1, h2, h3⟩ := h n cs x hx
  refine ⟨[s], ⟨s, rfl, h1⟩, rfl, fun j s' v' hs hv => ?_⟩
  cases j with
  | zero => simp at hs hv; subst hs; subst hv; exact ⟨h2, h3⟩
  | succ j => simp at hs

theorem Rd.int {t : TypeId} {k : IntKind} (ht : P.underlying t = some (.int k)) : Rd enc P w t (fun ss => ∃ s, ss = [s] ∧ ∃ n, s = .val (.int k n) ∧ k.min ≤ n ∧ n ≤ k.max) :=
  Rd.one fun n cs x hx => by
    obtain ⟨m, rfl, _, hw⟩ := DataW.trod_int ht hx
    simp only [Lit.wf, Bool.and_eq_true, decide_eq_true_eq] at hw
    exact ⟨_, _, rfl, ⟨m, rfl, hw⟩, by simp [VS], rfl⟩
theorem Rd.bool {t : TypeId} (ht : P.underlying t = some .bool) : Rd enc P w t (fun ss => ∃ s, ss = [s] ∧ ∃ b, s = .val (.bool b)) :=
  Rd.one fun n cs x hx => by
    obtain ⟨m, rfl, _⟩ := DataW.trod_bool ht hx
    exact ⟨_, _, rfl, ⟨m, rfl⟩, by simp [VS], rfl⟩
theorem Rd.string {t : TypeId} (ht : P.underlying t = some .string) : Rd enc P w t (fun ss => ∃ s, ss = [s] ∧ ∃ l : List UInt8, s = .val (.string ⟨l.toArray⟩) ∧ l.length ≤ maxLen) :=
  Rd.one fun n cs x hx => by
    obtain ⟨⟨m⟩, rfl, _, hm⟩ := DataW.trod_string ht hx
    refine ⟨.val (.string ⟨m⟩), _, rfl, ⟨m.toList, by rw [Array.toArray_toList], by rw [Array.length_toList]; exact hm⟩, by simp [VS], rfl⟩

theorem Rd.struct {t : TypeId} {fs : Array Field} {S : Nat → SV → Prop} (ht : P.underlying t = some (.struct fs)) (hone : oneCellFields P fs = true) (hC : P.cellsOf t = fs.size)
    (hF : ∀ j f, fs[j]? = some f → Rd enc P w f.type (fun ss => ∃ s, ss = [s] ∧ S j s)) : Rd enc P w t (fun ss => ss.length = fs.size ∧ ∀ j s, ss[j]? = some s → S j s) := fun n cs x hx => by
  obtain ⟨ys, m, _, _, hlen, hyl, hf⟩ := DataW.trod_struct ht hx
  rw [hC] at hlen
  have one : ∀ j, j < fs.size → ∃ s, S j s ∧ ∀ v, cs[j]? = some v → VS (cellsAt w) w s v ∧ v.oneCell' = true := by
    intro j hj
    have hfj : fs[j]? = some fs[j] := Array.getElem?_eq_getElem hj
    obtain ⟨ho, hk⟩ := hone_of hone j _ hfj
    have h1 := hf j _ hfj
    rw [ho, hk] at h1
    have hcj : (cs.drop j).take 1 = [cs[j]'(by omega)] := by rw [List.drop_eq_getElem_cons (by omega)]; rfl
    rw [hcj, List.getElem?_eq_getElem (by omega)] at h1
    obtain ⟨ss, ⟨s, rfl, hs⟩, _, hv⟩ := hF j _ hfj m _ _ h1
    refine ⟨s, hs, fun v hvj => ?_⟩
    rw [List.getElem?_eq_getElem (by omega)] at hvj
    cases hvj
    exact hv 0 s _ rfl rfl
  have all : ∀ k, k ≤ fs.size → ∃ ss : List SV, ss.length = k ∧ ∀ j s, ss[j]? = some s → S j s ∧ ∀ v, cs[j]? = some v → VS (cellsAt w) w s v ∧ v.oneCell' = true := by
    intro k
    induction k with
    | zero => intro _; exact ⟨[], rfl, by simp⟩
    | succ k ih =>
      intro hk
      obtain ⟨ss, h1, h2⟩ := ih (by omega)
      obtain ⟨s, h3, h4⟩ := one k (by omega)
      refine ⟨ss ++ [s], by simp [h1], fun j s' hs => ?_⟩
      rcases Nat.lt_or_ge j k with hlt | hge
      · rw [List.getElem?_append_left (by omega)] at hs; exact h2 j s' hs
      · have hjl := (List.getElem?_eq_some_iff.1 hs).1
        simp [h1] at hjl
        have hjk : j = k := by omega
        subst hjk
        rw [List.getElem?_append_right (by omega), h1, Nat.sub_self] at hs
        simp at hs; subst hs
        exact ⟨h3, h4⟩
  obtain ⟨ss, h1, h2⟩ := all fs.size (Nat.le_refl _)
  exact ⟨ss, ⟨h1, fun j s hs => (h2 j s hs).1⟩, by rw [h1, hlen], fun j s v hs hv => (h2 j s hs).2 v hv⟩

theorem Rd.slice {t e : TypeId} {sz : Nat} {Sh : List SV → Prop} (ht : P.underlying t = some (.slice e)) (hC : P.cellsOf e = sz) (h0 : 0 < sz) (he : Rd enc P w e Sh) :
    Rd enc P w t (fun ss => ∃ s, ss = [s] ∧ ∃ xs : List (List SV), s = .sl sz xs ∧ xs.length ≤ maxLen ∧ ∀ x ∈ xs, Sh x ∧ x.length = sz) :=
  Rd.one fun n cs x hx => by
    rcases open_slice ht hx with ⟨rfl, _⟩ | ⟨a, len, cap, m, k, D, Pl, rfl, _, hl, hm, hmm, _, hi⟩
    · exact ⟨.sl sz [], _, rfl, ⟨[], rfl, by simp, by simp⟩, by simp [VS, emptySl], rfl⟩
    · have hmc : m = cap := by simpa using hmm
      subst hmc
      rw [hC] at hi
      by_cases hl0 : len = 0
      · subst hl0
        refine ⟨.sl sz [], _, rfl, ⟨[], rfl, by simp, by simp⟩, ?_, rfl⟩
        simp only [VS]
        exact .inl ⟨.inr ⟨a, m, rfl, hm⟩, trivial⟩
      · -- the first cell tells that the address is plain
        have hspot : a.spot = none := by
          obtain ⟨cs', hc, _⟩ := hi 0 (by omega)
          obtain ⟨_, hcl, hat⟩ := World.cells?_some hc
          have := hat 0 h0
          rw [List.getElem?_eq_getElem (by omega)] at this
          cases hs : a.spot with
          | none => rfl
          | some q =>
            exfalso
            simp only [Nat.zero_mul] at this
            have e1 : ((a.add 0).add 0).spot.isSome = true := by simp [Addr.add, hs]
            unfold World.cell? at this
            split at this
            · rw [if_pos e1] at this; cases this
            · cases this
        obtain ⟨b, off, sp⟩ := a
        simp only at hspot
        subst hspot
        have hadd : ∀ q, (⟨b, off, none⟩ : Addr).add q = ⟨b, off + q, none⟩ := by intro q; exact addr_add b off q
        have elem : ∀ i, i < m → ∃ ss, Sh ss ∧ ss.length = sz ∧ VSC (cellsAt w) w b (off + i * sz) ss ∧ off + i * sz + sz ≤ cellsAt w b := by
          intro i him
          obtain ⟨cs', hc, ht'⟩ := hi i him
          obtain ⟨_, hcl, hat⟩ := World.cells?_some hc
          obtain ⟨ss, h1, h2, h3⟩ := he k cs' _ ht'
          have hcell : ∀ q, q < sz → w.cell? ⟨b, off + i * sz + q, none⟩ = cs'[q]? := by
            intro q hq
            have := hat q hq
            rw [hadd] at this
            have e2 : (⟨b, off + i * sz, none⟩ : Addr).add q = ⟨b, off + i * sz + q, none⟩ := addr_add b _ q
            rw [e2] at this; exact this
          refine ⟨ss, h1, by omega, ?_, ?_⟩
          · have gen : ∀ (ts : List SV) (p : Nat), p + ts.length ≤ sz → (∀ q s, ts[q]? = some s → ss[p + q]? = some s) → VSC (cellsAt w) w b (off + i * sz + p) ts := by
              intro ts
              induction ts with
              | nil => intro p _ _; simp [VSC]
              | cons s ts ih =>
                intro p hp hss
                simp only [List.length_cons] at hp
                simp only [VSC]
                have hs0 := hss 0 s rfl
                rw [Nat.add_zero] at hs0
                have hcp : cs'[p]? = some (cs'[p]'(by omega)) := List.getElem?_eq_getElem (by omega)
                obtain ⟨g1, g2⟩ := h3 p s _ hs0 hcp
                refine ⟨⟨_, (hcell p (by omega)).trans hcp, g2, g1⟩, ?_⟩
                have := ih (p + 1) (by omega) (fun q s' hq => by have := hss (q + 1) s' (by simpa using hq); rwa [show p + (q + 1) = p + 1 + q from by omega] at this)
                rwa [show off + i * sz + (p + 1) = off + i * sz + p + 1 from by omega] at this
            have := gen ss 0 (by omega) (fun q s hq => by rw [Nat.zero_add]; exact hq)
            rwa [Nat.add_zero] at this
          · have hlast := hcell (sz - 1) (by omega)
            rw [List.getElem?_eq_getElem (by omega)] at hlast
            unfold World.cell? at hlast
            unfold cellsAt
            split at hlast
            · rename_i c t' f hh
              simp only [Option.isSome_none, Bool.false_eq_true, if_false] at hlast
              have := (Array.getElem?_eq_some_iff.1 hlast).1
              simp only at hh ⊢
              rw [hh]
              simp only
              omega
            · cases hlast
        have all : ∀ q i, i + q = len → ∃ xs : List (List SV), xs.length = q ∧ (∀ x ∈ xs, Sh x ∧ x.length = sz) ∧ VSR (cellsAt w) w b (off + i * sz) sz xs := by
          intro q
          induction q with
          | zero => intro i _; exact ⟨[], rfl, by simp, by simp [VSR]⟩
          | succ q ih =>
            intro i hiq
            obtain ⟨xs, g1, g2, g3⟩ := ih (i + 1) (by omega)
            obtain ⟨ss, k1, k2, k3, _⟩ := elem i (by omega)
            refine ⟨ss :: xs, by simp [g1], fun x hx => ?_, ?_⟩
            · rcases List.mem_cons.1 hx with rfl | hx
              · exact ⟨k1, k2⟩
              · exact g2 x hx
            · simp only [VSR]
              refine ⟨k2, k3, ?_⟩
              rwa [show off + (i + 1) * sz = off + i * sz + sz from by rw [Nat.succ_mul]; omega] at g3
        obtain ⟨xs, g1, g2, g3⟩ := all len 0 (by omega)
        obtain ⟨_, _, _, _, hlim⟩ := elem (len - 1) (by omega)
        refine ⟨.sl sz xs, _, rfl, ⟨xs, rfl, by omega, g2⟩, ?_, rfl⟩
        simp only [VS]
        refine .inr ⟨b, off, m, by rw [g1], by omega, hm, ?_, by simpa using g3⟩
        rw [g1]
        have : (len - 1) * sz + sz = len * sz := by rw [← Nat.succ_mul]; congr 1; omega
        omega

/-- an argument, as a closed value -/
theorem Rd.arg1 {t : TypeId} {S : SV → Prop} (h : Rd enc P w t (fun ss => ∃ s, ss = [s] ∧ S s)) {v : Value} {d : DataW H} {p : List MemPlace} (hv : DataW.Trod enc P w 0 (fun _ => true) true t v d p) (hc : v.cells.toList = [v]) :
    ∃ s, S s ∧ VS (cellsAt w) w s v := by
  obtain ⟨n, hn⟩ := hv
  obtain ⟨ss, ⟨s, rfl, hs⟩, _, h3⟩ := h n _ _ hn
  rw [hc] at h3
  exact ⟨s, hs, (h3 0 s v rfl rfl).1⟩
end

/-- a world whose cells are all protected -/
def cx0 (w : World) : Cx := ⟨cellsAt w, fun o => o < 0, fun _ => undef, fun _ => none⟩

theorem Amb.of_heap {w : World} (h : ∀ p ∈ tabs, p.2 ≠ [] ∧ ∃ T fr, w.heap[p.1]? = some (.cells p.2.toArray T fr))
    (hs : ∀ b ∈ sents, ∃ T fr tp p, w.heap[b]? = some (.cells #[.iface tp p] T fr) := by intro b hb; simp [sents] at hb) : Amb (cx0 w).pr w := by
  refine ⟨fun p hp => ?_, fun b hb => ?_⟩
  · obtain ⟨h1, T, fr, h2⟩ := h p hp
    refine ⟨?_, T, fr, h2⟩
    show 0 < cellsAt w p.1
    unfold cellsAt
    rw [h2]
    exact List.length_pos_iff.2 h1
  · obtain ⟨T, fr, tp, p, h2⟩ := hs b hb
    refine ⟨?_, T, fr, tp, p, h2⟩
    show 0 < cellsAt w b
    unfold cellsAt
    rw [h2]
    simp
theorem PC.run {P : Program} {f : FuncId} {lvs : List LV} {out : LV} (h : PC P f lvs out) {w : World} {vs : List Value} (hv : Vs (cx0 w) w lvs vs) (ham : Amb (cx0 w).pr w := by refine ⟨?_, ?_⟩ <;> (intro p hp; first | (simp [tabs] at hp; done) | (simp [sents] at hp; done))) :
    Calls P f vs.toArray w fun e w' => ∃ v cx', e = .returned v ∧ Below w.heap.size w w' ∧ V cx' w' out v := by
  have hok : HOk (fun _ => True) 0 (cx0 w) (hp []) w := ⟨fun o x hx => by simp at hx, fun o x b hx => by simp at hx, fun o o' x x' b _ hx => by simp at hx, fun b hb => by
    have hb' : 0 < cellsAt w b := hb
    unfold cellsAt at hb'
    split at hb'
    · rename_i hh; exact (Array.getElem?_eq_some_iff.1 hh).1
    · omega⟩
  refine (h.lc.go (cx0 w) w vs (fun o => Iff.rfl) hok ham hv).mono ?_
  rintro e w' ⟨v, cx', rfl, t, hvo⟩
  exact ⟨v, cx', rfl, ⟨t.grow.os, t.grow.tape, t.grow.output, t.grow.size, fun b hb => t.grow.same b hb (fun ⟨o, x, hx, _⟩ => by simp at hx)⟩, hvo⟩

theorem Below.keeps {w w' : World} (h : Below w.heap.size w w') (may : MemPlace → Prop) : w.keptBut w' may := by
  refine ⟨h.os, h.output, fun i hi => ?_⟩
  rw [h.block i hi]
  cases w.heap[i]? with
  | none => rfl
  | some o =>
    cases o <;> first | rfl | exact ⟨rfl, rfl, rfl, fun _ _ => rfl⟩ | exact .inr ⟨rfl, rfl⟩

section
variable {H : Type} {enc : TypeId × Value → H} {P : Program}
/-- a law's row, from a world in which nothing old has turned -/
theorem post_of_below {f : Func} {s : ChangeSpec} {apart fresh handsOn again : Bool} {W W' : World} {args : Array Value} {v : Value} {ds gs : List (DataW H)} {before pa pv : List MemPlace}
    (hW : DataW.Whole enc P f.params.toList s.vars apart W args.toList ds gs before)
    (hres : ∀ (b : Nat) (sp : Nat → Bool) (hd : Bool), DataW.TrodAll enc P W' b sp hd f.resultTypes.toList (v.resultList f.resultTypes.size) (s.fn H (ds ++ gs)).results [])
    (hargs : ∀ sp : Nat → Bool, (∀ p ∈ before, sp p.block = true) → DataW.TrodAll enc P W' 0 sp true f.params.toList args.toList (s.fn H (ds ++ gs)).args pa)
    (hvars : ∀ sp : Nat → Bool, (∀ p ∈ before, sp p.block = true) → DataW.TrodVars enc P W' sp s.vars (s.fn H (ds ++ gs)).vars pv)
    (hps : before = pa ++ pv) (hb : Below W.heap.size W W')
    (hok : ∀ (j : Nat) (t : TypeId) (r : Value), f.resultTypes[j]? = some t → (v.resultList f.resultTypes.size)[j]? = some r → Value.okWide P W' .any 0 t r) :
    s.post enc P f apart fresh handsOn again W args v W' := by
  have hold : ∀ p ∈ before, (fun b => decide (b < W.heap.size)) p.block = true := fun p hp => by simpa using hW.lt p hp
  have hlt := fun p hp => hW.lt p hp
  refine ⟨ds, gs, before, [], pa, pv, hW, hres _ _ _, hargs _ hold, hvars _ hold, World.keptBut_mono (fun p hp => ⟨hp, ?_⟩) (Below.keeps hb (· ∈ before)), fun _ => ?_⟩
  · rw [hps, List.mem_append] at hp
    exact Or.inr hp
  · obtain ⟨_, _, _, _, _, hz, hn⟩ := hW
    refine ⟨hok, _, _, ([] ++ pa) ++ pv, ⟨[] ++ pa, pv, trodAll_append (hargs _ (fun _ _ => rfl)) (hres _ _ _), hvars _ (fun _ _ => rfl), rfl, ?_, ?_⟩, ?_⟩
    · intro b off hp
      have hp' : MemPlace.cell b off ∈ before := by rw [hps]; simpa using hp
      rw [hb.frozen (p := ⟨b, off, none⟩) (hlt _ hp')]
      exact hz b off hp'
    · intro ha
      have := hn ha
      rw [hps] at this
      simpa using this
    · intro p hp _
      rw [hps]
      simpa using hp
end

end Go.Proofs.YtnamkhifmankmaaDoor

/- A contract at other readings of its arguments; the nil slice as an argument. -/
namespace Go.Proofs.YtnamkhifmankmaaDoor

theorem PC.args {P : Program} {f : FuncId} {lvs lvs' : List LV} {out : LV} (h : PC P f lvs out) (hl : LV.lts 0 lvs' = true) (hv : ∀ cx w vs, Vs cx w lvs' vs → Vs cx w lvs vs) : PC P f lvs' out :=
  ⟨⟨h.lc.entr, hl, h.lc.rng, h.lc.hlt, h.lc.hos, fun cx w vs hA hH ham hvs => h.lc.go cx w vs hA hH ham (hv cx w vs hvs)⟩⟩
theorem V_nilSl {cx : Cx} {w : World} {v : Value} (sz : Nat) (h : V cx w (.v (.slice none 0 0)) v) : V cx w (.sv (.sl sz [])) v := by
  simp only [V, VS] at h ⊢
  exact .inl ⟨.inl h, trivial⟩
theorem PC.nil1 {P : Program} {f : FuncId} {a : LV} {out : LV} {sz : Nat} (h : PC P f [a, .sv (.sl sz [])] out) (ha : a.lt 0 = true := by rfl) : PC P f [a, .v (.slice none 0 0)] out :=
  h.args (by simp [LV.lts, ha, LV.lt]) fun cx w vs hv => by
    simp only [Vs] at hv ⊢
    obtain ⟨v1, r1, rfl, h1, v2, r2, rfl, h2, h3⟩ := hv
    exact ⟨v1, _, rfl, h1, v2, _, rfl, V_nilSl sz h2, h3⟩
theorem PC.nil0 {P : Program} {f : FuncId} {b : LV} {out : LV} {sz : Nat} (h : PC P f [.sv (.sl sz []), b] out) (hb : b.lt 0 = true := by rfl) : PC P f [.v (.slice none 0 0), b] out :=
  h.args (by simp [LV.lts, hb, LV.lt]) fun cx w vs hv => by
    simp only [Vs] at hv ⊢
    obtain ⟨v1, r1, rfl, h1, v2, r2, rfl, h2, h3⟩ := hv
    exact ⟨v1, _, rfl, V_nilSl sz h1, v2, _, rfl, h2, h3⟩

section
variable {P : Program} {r : Option Nat} {N : Nat} {D : List Nat} {B : Base} {Ψ : Exit → Act → World → Prop} {todo : List Item}
variable {E : List (Nat × Ent)} {L : List (Nat × LO)} {n : Nat}
/-- an entry that is true -/
theorem LGo.tru (t : Nat) {g b : Bool} (ht : en E t = some (g, .b b) := by rfl) (hb : b = true := by simp) (h : LGo P r N D B Ψ todo (st ((t, (g, .b true)) :: E) L n)) : LGo P r N D B Ψ todo (st E L n) := by
  subst hb
  exact LGo.re t _ ht (fun _ _ _ hv => hv) h
theorem run_eqlB {t : Nat} (ht : P.underlying t = some .bool) (x y : Operand) (a b : Bool) : ∀ w, (do eqGuard .eql t x y (.bool a) (.bool b); binOp .eql t (.bool a) (.bool b) : Sem Value).run P w = .ok (.bool (decide (a = b))) w := by
  intro w
  have := run_equal_bool (P := P) w t a b ht
  cases a <;> cases b <;> simp_all [eqGuard, binOp]
theorem run_neqB {t : Nat} (ht : P.underlying t = some .bool) (x y : Operand) (a b : Bool) : ∀ w, (do eqGuard .neq t x y (.bool a) (.bool b); binOp .neq t (.bool a) (.bool b) : Sem Value).run P w = .ok (.bool (!decide (a = b))) w := by
  intro w
  have := run_equal_bool (P := P) w t a b ht
  cases a <;> cases b <;> simp_all [eqGuard, binOp]
end

theorem flat_set {sz : Nat} : ∀ (xs : List (List SV)) (j : Nat) (ev : List SV), (∀ e ∈ xs, e.length = sz) → ev.length = sz → j < xs.length → (xs.set j ev).flatten = xs.flatten.take (j * sz) ++ ev ++ xs.flatten.drop (j * sz + sz)
  | [], j, _, _, _, h => by simp at h
  | x :: xs, 0, ev, hs, _, _ => by
    have hx := hs x (by simp)
    rw [List.set_cons_zero, List.flatten_cons, List.flatten_cons, Nat.zero_mul, List.take_zero, List.nil_append, Nat.zero_add, ← hx, List.drop_left]
  | x :: xs, j + 1, ev, hs, he, h => by
    have hx := hs x (by simp)
    have ih := flat_set xs j ev (fun e h' => hs e (by simp [h'])) he (by simpa using h)
    rw [List.set_cons_succ, List.flatten_cons, List.flatten_cons, ih, show (j + 1) * sz = sz + j * sz from by rw [Nat.succ_mul]; omega, ← hx, List.take_length_add_append, show x.length + j * x.length + x.length = x.length + (j * x.length + x.length) from by omega, List.drop_length_add_append]
    simp
theorem set_lens {sz : Nat} {xs : List (List SV)} {ev : List SV} (hs : ∀ e ∈ xs, e.length = sz) (he : ev.length = sz) (j : Nat) : ∀ e ∈ xs.set j ev, e.length = sz := fun e h => by
  rcases List.mem_or_eq_of_mem_set h with h | rfl
  · exact hs e h
  · exact he
theorem Vs.splits {cx : Cx} {w : World} : ∀ (k : Nat) (l : List LV) (x : List Value), Vs cx w l x → Vs cx w (l.take k) (x.take k) ∧ Vs cx w (l.drop k) (x.drop k)
  | 0, l, x, h => ⟨by simp [Vs], by simpa using h⟩
  | k + 1, [], x, h => by
    simp only [Vs] at h
    subst h
    simp [Vs]
  | k + 1, c :: l, x, h => by
    simp only [Vs] at h
    obtain ⟨y, r, rfl, h1, h2⟩ := h
    obtain ⟨i1, i2⟩ := Vs.splits k l r h2
    refine ⟨?_, by simpa using i2⟩
    rw [List.take_succ_cons, List.take_succ_cons]
    simp only [Vs]
    exact ⟨y, _, rfl, h1, i1⟩

section
variable {P : Program} {r : Option Nat} {N : Nat} {D : List Nat} {B : Base} {all : Array Oper} {K : List (Nat × Ct) → St → Prop}
variable {i : Nat} {ops : List Oper} {tr : List (Nat × Ct)} {E : List (Nat × Ent)} {L : List (Nat × LO)} {n : Nat}
variable {ty : Nat} {pos : String} {aft : Array Edge}
/-- a whole element of a slice of one's own is written -/
theorem R.storeRsN {T e sz : Nat} (hF : AggF P T sz) {x y : Operand} {o off : Nat} {xs : List (List SV)} {ds : List LV} (j : Nat) (ev : List SV)
    (ho : all[i]? = some ⟨none, .store T x y, ty, pos, aft, none⟩ := by rfl)
    (hx : lvOf (en E) x = some (true, .ptr o off) := by rfl) (hy : lvOf (en E) y = some (true, .agg ds) := by rfl) (hd : ds = ev.map LV.sv := by rfl) (h1 : (ev.map LV.sv).all LV.one = true := by simp [LV.one]) (hb : hp L o = some (.rs e sz xs) := by rfl) (he : ev.length = sz := by rfl)
    (hj : j < xs.length) (hoff : off = j * sz := by omega) (h0 : 0 < sz := by decide)
    (h : Reg P r N D B all (i + 1) ops ((i, ⟨needOf [x, y] [(true, .ptr o off), (true, .agg ds)], none, (true, .v undef), [], [(o, .rs e sz xs)], [(o, .rs e sz (xs.set j ev))], []⟩) :: tr) (st E ((o, .rs e sz (xs.set j ev)) :: L) n) K) :
    Reg P r N D B all i (⟨none, .store T x y, ty, pos, aft, none⟩ :: ops) tr (st E L n) K :=
  Reg.set (es := [(true, .ptr o off), (true, .agg ds)]) (rd := []) ho gN ⟨_, _, rfl, hx, _, _, rfl, hy, rfl⟩ (by simp) hb (OpC.of_run (by simp) (by simp) fun md n0 cx H ρ w hok _ hHi _ hv => by
    subst hd
    obtain ⟨v1, v2⟩ := Vs.two hv
    simp only [entLV] at v1 v2
    have hob := hHi o (.rs e sz xs) (by simp)
    obtain ⟨hA, hsz, vs, hown, hvs, hone⟩ := hok.ok o _ hob
    simp only [V] at v1 v2
    obtain ⟨_, b, hbk, hp1⟩ := v1
    obtain ⟨us, hu, hus⟩ := v2
    rcases hown.2 with ⟨e1, e2⟩ | ⟨gb, cap, cur, e1, eb, e2, e3, e4, e5, e6⟩
    · omega
    · have hbk' := hbk
      rw [e1] at hbk
      simp only [bk, Option.some.injEq] at hbk
      subst hbk
      have hul : us.length = sz := by have := hus.length; simpa [he] using this
      have hjs : j * sz + sz ≤ xs.length * sz := by rw [← Nat.succ_mul]; exact Nat.mul_le_mul_right _ hj
      have hcs : xs.length * sz ≤ cur.size := by rw [e5]; exact Nat.mul_le_mul_right _ e3
      have hst := run_storeCells_at P gb (j * sz) e us 0 cur w e2 (by omega) (Vs.ones h1 hus)
      have hlen : (xs.set j ev).length = xs.length := List.length_set
      rw [← hoff] at hst
      refine ⟨.skip, undef, w.setRow gb (cur.toList.take (off + 0) ++ us ++ cur.toList.drop (off + 0 + us.length)).toArray, cx, ?_, .inr ⟨rfl, rfl⟩, Tr.set hok hob hbk' ⟨rfl, rfl, rfl⟩ (by simp [World.setRow]) (fun k hk => setRow_other w gb k _ hk) (fun hext => ?_), V.mkval⟩
      · simp [execOp, hp1, hu, Instr.storeAt, Instr.sureAddr, storeVar, Value.cells, hF.2 w, hul, hst]
      · have hvl : vs.length = xs.length * sz := hown.1
        obtain ⟨s1, _⟩ := Vs.splits (j * sz) _ _ hvs
        obtain ⟨_, s2⟩ := Vs.splits (j * sz + sz) _ _ hvs
        refine ⟨set_lens hsz he j, vs.take (j * sz) ++ us ++ vs.drop (j * sz + sz), ⟨?_, .inr ⟨gb, cap, _, ?_, eb, setRow_heap w gb cur _ _ (0, 0) e2, ?_, e4, ?_, ?_⟩⟩, ?_, ?_⟩
        · rw [hlen]; simp only [List.length_append, List.length_take, List.length_drop]; omega
        · rw [hlen]; exact e1
        · rw [hlen]; exact e3
        · rw [← e5]; simp only [List.size_toArray, List.length_append, List.length_take, List.length_drop, Array.length_toList]; omega
        · rw [hlen, ← e6, List.toList_toArray, hul, Nat.add_zero, hoff, List.take_append, List.take_of_length_le (by simp only [List.length_append, List.length_take, Array.length_toList]; omega), List.take_take, Nat.min_eq_left (by omega), List.drop_take]
          congr 1
          congr 1
          simp only [List.length_append, List.length_take, Array.length_toList]
          omega
        · rw [flat_set xs j ev hsz he hj, List.map_append, List.map_append, List.map_take, List.map_drop]
          exact Vs.mono (CxLe.refl _) hext _ _ ((s1.append hus).append s2)
        · intro u hu'
          rcases List.mem_append.1 hu' with hu' | hu'
          · rcases List.mem_append.1 hu' with hu' | hu'
            · exact hone u (List.mem_of_mem_take hu')
            · exact Vs.ones h1 hus u hu'
          · exact hone u (List.mem_of_mem_drop hu')) h
end

/-! arrays -/
theorem fill_congr {f g : Nat → Option (Nat × Nat)} : ∀ (ps : List (Nat × Value)) (C : Array Value), (∀ p ∈ ps, f p.1 = g p.1) → Instr.fill f C ps = Instr.fill g C ps
  | [], C, _ => rfl
  | (j, v) :: ps, C, h => by
    have h1 : f j = g j := h (j, v) (by simp)
    simp only [Instr.fill, h1]
    cases g j with
    | none => rfl
    | some q =>
      obtain ⟨a, b⟩ := q
      simp only
      split
      · rfl
      · exact fill_congr ps _ (fun p hp' => h p (by simp [hp']))
/-- an array whose elements take one cell each -/
def BuildX (P : Program) (t : Nat) (zs : List Value) : Prop := (∀ w, (zeroValue t).run P w = .ok (.agg zs.toArray) w) ∧ ∃ n e, (∀ w, (underlying t).run P w = .ok (.array n e) w) ∧ (∀ w, (sizeOf e).run P w = .ok 1 w)
section
variable {P : Program} {r : Option Nat} {N : Nat} {D : List Nat} {B : Base} {all : Array Oper} {K : List (Nat × Ct) → St → Prop}
variable {i : Nat} {ops : List Oper} {tr : List (Nat × Ct)} {E : List (Nat × Ent)} {L : List (Nat × LO)} {n : Nat} {g : Bool} {gn : List (Nat × Ent)}
variable {d ty : Nat} {pos : String} {aft : Array Edge} {gd : Option (Nat × Bool)}
theorem R.buildX {t : Nat} {zs : List Value} (hF : BuildX P t zs) {parts : Array (Nat × Operand)} {is : List Nat} {xs : List Operand} {es : List Ent} {ls cs : List LV}
    (ho : all[i]? = some ⟨some d, .build t parts, ty, pos, aft, gd⟩ := by rfl) (hg : GuardOk (en E) all gd g gn := by first | exact gN | exact gS rfl rfl) (hp' : parts.toList = is.zip xs := by rfl) (hil : is.length = xs.length := by rfl) (hlt : (is.all fun k => decide (k < zs.length)) = true := by rfl)
    (hx : xs.map (lvOf (en E)) = es.map some := by rfl) (hes : g = true → es.map entLV = ls := by first | exact fun _ => rfl | (intro h; simp [entLV, h]; done) | (intro h; simp only [List.map_cons, List.map_nil, entLV_eq h]; first | done | rfl)) (h1 : ls.all LV.one = true := by rfl) (hcs : bcells zs is ls = cs := by rfl)
    (h : Reg P r N D B all (i + 1) ops ((i, Ct.p gn xs es (some d) (g, .agg cs) []) :: tr) (st ((d, (g, .agg cs)) :: E) L n) K) :
    Reg P r N D B all i (⟨some d, .build t parts, ty, pos, aft, gd⟩ :: ops) tr (st E L n) K := by
  have hop : (Oper.mk (some d) (.build t parts) ty pos aft gd).op.operands.toList = xs := by
    show (parts.toList.map (·.2)).toArray.toList = xs
    rw [hp']
    simp only [List.toList_toArray]
    exact List.map_snd_zip (by omega)
  refine Reg.pure (es := es) (rd := []) (out := .agg cs) ho hg ?_ (by simp) (fun hgt => ?_) ?_
  · rw [hop]; exact Opnds.of_map hx
  · rw [hes hgt]
    refine OpC.of_pure (by simp) fun md n0 cx H ρ w _ _ hv => ?_
    rw [hop] at hv
    obtain ⟨hz, m, e, hu, hm⟩ := hF
    have hones := Vs.ones h1 hv
    have hpl : (parts.map fun (x : Nat × Operand) => (x.1, ρ x.2)).toList = is.zip (xs.map ρ) := by
      rw [Array.toList_map, hp', List.zip_map_right]
      rfl
    have hin : ∀ p ∈ is.zip (xs.map ρ), p.1 < zs.length ∧ p.2.oneCell' = true := fun p hpm => by
      obtain ⟨hp1, hp2⟩ := List.of_mem_zip hpm
      exact ⟨by simpa using List.all_eq_true.1 hlt _ hp1, hones _ hp2⟩
    have hfill := fill_ones (m := zs.length) (is.zip (xs.map ρ)) zs.toArray (by simp) hin
    rw [fill_congr (g := fun k => some (k * 1, 1)) _ _ (fun p hpm => by
      have := (hin p hpm).1
      simp [this])] at hfill
    refine ⟨.agg ((is.zip (xs.map ρ)).foldl (fun (C : List Value) p => C.set p.1 p.2) zs).toArray, ?_, ?_⟩
    · simp only [execOp, Instr.build, Sem.run_bind, hz w, hu w, Result.andThen_ok, hm w, Value.cells]
      have : (parts.map fun (i, x) => (i, ρ x)).toList = is.zip (xs.map ρ) := hpl
      rw [this]
      simp only [List.toList_toArray] at hfill
      rw [hfill]
      simp
    · rw [← hcs]
      simp only [V]
      refine ⟨_, rfl, bcells_ok is ls _ _ _ ?_ hv⟩
      exact vs_map_val cx w zs
  · rw [hop]; exact h
/-- the place of an element of an array in a box -/
theorem R.indexArr {T len sz : Nat} (hF : IndexAF P T len sz) {x y : Operand} {gx gy : Bool} {o off : Nat} {k : IntKind} {j : Int}
    (ho : all[i]? = some ⟨some d, .indexAddr T x y, ty, pos, aft, gd⟩ := by rfl) (hg : GuardOk (en E) all gd g gn := by first | exact gN | exact gS rfl rfl)
    (hx : lvOf (en E) x = some (gx, .ptr o off) := by rfl) (hy : lvOf (en E) y = some (gy, .v (.int k j)) := by rfl)
    (hgx : g = true → gx = true := by first | exact fun _ => rfl | exact id) (hgy : g = true → gy = true := by first | exact fun _ => rfl | exact id)
    (hj : g = true → 0 ≤ j ∧ j < len)
    (h : Reg P r N D B all (i + 1) ops ((i, Ct.p gn [x, y] [(gx, .ptr o off), (gy, .v (.int k j))] (some d) (g, .ptr o (off + j.toNat * sz)) []) :: tr) (st ((d, (g, .ptr o (off + j.toNat * sz))) :: E) L n) K) :
    Reg P r N D B all i (⟨some d, .indexAddr T x y, ty, pos, aft, gd⟩ :: ops) tr (st E L n) K :=
  Reg.two rfl (fun h => by
    rw [entLV_true h hgx, entLV_true h hgy]
    refine OpC.of_pure2 (x := x) (y := y) rfl (by simp) fun md n0 cx H ρ w hok hrd v1 v2 => ?_
    obtain ⟨h0, hlt⟩ := hj h
    simp only [V] at v1
    obtain ⟨hA, b, hbk, he⟩ := v1
    refine ⟨.pointer (some ⟨b, off + j.toNat * sz, none⟩), by simp only [execOp, he, v2.val]; simp [hF b off k j w h0 hlt], ?_⟩
    simp only [V]
    exact ⟨hA, b, hbk, rfl⟩) ho hg hx hy (by simp) h
end

end Go.Proofs.YtnamkhifmankmaaDoor

/- A law that answers true and leaves what it was given: its row out of a contract. -/
namespace Go.Proofs.YtnamkhifmankmaaDoor
open Go.ChangeShapes Go.WideShapes Go.Deep Go.RowKit Go.ChangeAt

section
variable {H : Type} {enc : TypeId × Value → H} {P : Program}

theorem args_below (hlaid : laidOutB P = true) {W W' : World} (hb : Below W.heap.size W W') {sp : Nat → Bool} : ∀ {ts : List TypeId} {vs : List Value} {ds : List (DataW H)} {ps : List MemPlace},
    ts.all (fun t => P.readableRec t && decide (t < P.types.size)) = true → DataW.TrodAll enc P W 0 (fun _ => true) true ts vs ds ps → (∀ x ∈ ps, x.block < W.heap.size) → (∀ x ∈ ps, sp x.block = true) →
    DataW.TrodAll enc P W' 0 sp true ts vs ds ps
  | [], [], [], _, _, h, _, _ => h
  | [], _ :: _, _, _, _, h, _, _ => h.elim
  | [], [], _ :: _, _, _, h, _, _ => h.elim
  | _ :: _, [], _, _, _, h, _, _ => h.elim
  | _ :: _, _ :: _, [], _, _, h, _, _ => h.elim
  | t :: ts, v :: vs, d :: ds, _, hr, ⟨p, q, h1, h2, e⟩, hlt, hs => by
    simp only [List.all_cons, Bool.and_eq_true, decide_eq_true_eq] at hr
    refine ⟨p, q, WideElems.Trod_stays hlaid hr.1.1 hr.1.2 h1 (fun x hx => hb.same (hlt x ?_)) (fun x hx => hs x ?_), args_below hlaid hb hr.2 h2 (fun x hx => hlt x ?_) (fun x hx => hs x ?_), e⟩
    all_goals rw [e]; simp [hx]

theorem row_true {F : FuncId} {f : Func} {s : ChangeSpec} {apart fresh handsOn again : Bool} {tb : TypeId} {W : World} {args : Array Value} {ds gs : List (DataW H)} {before : List MemPlace}
    (hlaid : laidOutB P = true) (hread : f.params.toList.all (fun t => P.readableRec t && decide (t < P.types.size)) = true) (hvars : s.vars = []) (hres : f.resultTypes = #[tb]) (hb : P.underlying tb = some .bool)
    (hspec : (s.fn H ds).results = [.lit (.bool true)] ∧ (s.fn H ds).args = ds ∧ (s.fn H ds).vars = [])
    (hW : DataW.Whole enc P f.params.toList s.vars apart W args.toList ds gs before)
    (hcall : Calls P F args W fun e w' => e = .returned (.bool true) ∧ Below W.heap.size W w') :
    Calls P F args W fun e W' => ∃ v, e = .returned v ∧ s.post enc P f apart fresh handsOn again W args v W' := by
  have hW' := hW
  obtain ⟨p, q, hA, hV, rfl, hfz, hnd⟩ := hW
  rw [hvars] at hV
  obtain ⟨rfl, rfl⟩ := trodVars_none hV
  refine hcall.mono fun e W' ⟨he, hB⟩ => ⟨.bool true, he, ?_⟩
  refine post_of_below (pa := p) (pv := []) hW' (fun b sp hd => ?_) (fun sp hs => ?_) (fun sp hs => ?_) rfl hB (ok_one hres rfl (okWide_bool_mk hb true))
  · rw [List.append_nil, hspec.1, hres]
    exact trodAll_cons_mk (shut_bool hb true) trodAll_mk0
  · rw [List.append_nil, hspec.2.1]
    exact args_below hlaid hB hread hA (fun x hx => hW'.lt x (by simp [hx])) (fun x hx => hs x (by simp [hx]))
  · rw [hvars, List.append_nil, hspec.2.2]
    rfl
end

theorem Vs_cons {cx : Cx} {w : World} {c : LV} {cs : List LV} {x : Value} {xs : List Value} (h : V cx w c x) (hs : Vs cx w cs xs) : Vs cx w (c :: cs) (x :: xs) := by
  simp only [Vs]
  exact ⟨x, xs, rfl, h, hs⟩
theorem Vs_nil {cx : Cx} {w : World} : Vs cx w [] [] := by simp [Vs]

theorem PC.runT {P : Program} {f : FuncId} {lvs : List LV} (h : PC P f lvs (.b true)) {w : World} {vs : List Value} (hv : Vs (cx0 w) w lvs vs) (ham : Amb (cx0 w).pr w := by refine ⟨?_, ?_⟩ <;> (intro p hp; first | (simp [tabs] at hp; done) | (simp [sents] at hp; done))) :
    Calls P f vs.toArray w fun e w' => e = .returned (.bool true) ∧ Below w.heap.size w w' :=
  (h.run hv ham).mono fun e w' ⟨v, cx', he, hb, hvo⟩ => by
    have hvo' : v = .bool true := by simpa [V, VS] using hvo
    subst hvo'
    exact ⟨he, hb⟩

section
variable {H : Type} {enc : TypeId × Value → H} {P : Program} {w : World}
theorem cells_slice (a : Option Addr) (l c : Nat) : (Value.slice a l c).cells.toList = [Value.slice a l c] := rfl
/-- a slice argument -/
theorem Rd.argSl {t e : TypeId} {S : SV → Prop} {base : Nat} (h : Rd enc P w t (fun ss => ∃ s, ss = [s] ∧ S s)) (ht : P.underlying t = some (.slice e)) {v : Value} {d : DataW H} {p : List MemPlace}
    (hok : Value.okWide P w .any base t v) (hv : DataW.Trod enc P w 0 (fun _ => true) true t v d p) : ∃ s, S s ∧ V (cx0 w) w (.sv s) v := by
  obtain ⟨a, l, c, rfl⟩ := okWide_slice ht hok
  obtain ⟨s, h1, h2⟩ := h.arg1 hv rfl
  exact ⟨s, h1, by simp only [V]; exact h2⟩
theorem Rd.argInt {t : TypeId} {k : IntKind} {base : Nat} (ht : P.underlying t = some (.int k)) {v : Value} {d : DataW H} {p : List MemPlace}
    (hok : Value.okWide P w .any base t v) (hv : DataW.Trod enc P w 0 (fun _ => true) true t v d p) : ∃ n, k.min ≤ n ∧ n ≤ k.max ∧ V (cx0 w) w (.v (.int k n)) v := by
  obtain ⟨n, rfl⟩ := okWide_int ht hok
  obtain ⟨s, ⟨m, rfl, h1⟩, h2⟩ := (Rd.int (enc := enc) (w := w) ht).arg1 hv rfl
  have : n = m := by simpa [VS] using h2
  subst this
  exact ⟨n, h1.1, h1.2, by simp [V, VS]⟩
theorem VSs_agg {cx : Cx} {w : World} : ∀ {ss : List SV} {vs : List Value}, ss.length = vs.length → (∀ (j : Nat) (s : SV) (v : Value), ss[j]? = some s → vs[j]? = some v → V cx w (.sv s) v) → Vs cx w (ss.map LV.sv) vs
  | [], [], _, _ => by simp [Vs]
  | [], _ :: _, h, _ => by simp at h
  | _ :: _, [], h, _ => by simp at h
  | s :: ss, v :: vs, h, hv => by
    simp only [List.map_cons, Vs]
    exact ⟨v, vs, rfl, hv 0 s v rfl rfl, VSs_agg (by simpa using h) (fun j s' v' h1 h2 => hv (j + 1) s' v' (by simpa using h1) (by simpa using h2))⟩
/-- a struct argument -/
theorem Rd.argAgg {t : TypeId} {fs : Array Field} {Sh : List SV → Prop} {base : Nat} (h : Rd enc P w t Sh) (ht : P.underlying t = some (.struct fs)) {v : Value} {d : DataW H} {p : List MemPlace}
    (hok : Value.okWide P w .any base t v) (hv : DataW.Trod enc P w 0 (fun _ => true) true t v d p) : ∃ ss, Sh ss ∧ V (cx0 w) w (.agg (ss.map LV.sv)) v := by
  obtain ⟨cs, rfl, _⟩ := okWide_struct ht hok
  obtain ⟨n, hn⟩ := hv
  obtain ⟨ss, h1, h2, h3⟩ := h n _ _ hn
  refine ⟨ss, h1, ?_⟩
  have e : (Value.agg cs).cells.toList = cs.toList := rfl
  rw [e] at h2 h3
  simp only [V]
  exact ⟨cs.toList, by simp, VSs_agg h2 (fun j s x hs hx => by simp only [V]; exact (h3 j s x hs hx).1)⟩
end

end Go.Proofs.YtnamkhifmankmaaDoor
